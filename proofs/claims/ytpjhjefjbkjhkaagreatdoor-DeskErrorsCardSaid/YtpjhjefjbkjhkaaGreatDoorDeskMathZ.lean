import Derived.Test.YtpjhjefjbkjhkaaGreatDoorBuA
import Derived.Test.YtpjhjefjbkjhkaaGreatDoorDeskLaw
import Derived.Test.YtpjhjefjbkjhkaaGreatDoorPermMath
import Derived.Test.YtpjhjefjbkjhkaaGreatDoorProgMathZ
import Derived.Test.YtpjhjefjbkjhkaaGreatDoorRoundMathZ
/- What a desk answers: plain lists. -/
namespace Go.Proofs.YtpjhjefjbkjhkaaGreatDoor
open Go Go.RowKit
set_option linter.unusedVariables false
set_option linter.unusedSimpArgs false
structure DeskR where
  k : KeyV
  out : List UInt8
  er : Int
abbrev Bys := List UInt8
def permX (p : Int) : Bys := if 0 ≤ p ∧ p ≤ 127 then permT p.toNat else []
def told (k : KeyV) : Bys := permX k.perm ++ 32 :: (Lib.itoa k.base ++ 32 :: (Lib.itoa k.len ++ 32 :: (Lib.itoa k.at_ ++ 32 :: Lib.itoa k.seal_)))
def keepF (k : KeyV) (r : KeyV × Int) : DeskR := if r.2 = 0 then ⟨r.1, told r.1, 0⟩ else ⟨k, [], r.2⟩
def byF (k : KeyV) (l : List Bys) (f : KeyV → Int → KeyV × Int) : DeskR :=
  if l.length = 1 then (if numB (l.headD []) = true then keepF k (f k (atoiV (l.headD []))) else ⟨k, [], 3⟩) else ⟨k, [], 3⟩
def sealerF (f : KeyV → KeyV → KeyV × Int) (k : KeyV) (n : Int) : KeyV × Int := f k ⟨127, 0, 64, n, 0⟩
def firstK : KeyV := ⟨127, 0, 400, 0, 0⟩
/-- The least exponent. -/
def leastN (b n : Int) : Nat := ((List.range 14).find? fun e => decide (szI e b n ≤ 15 * 2 ^ e)).getD 0
def isRangeB (b n : Int) : Bool := decide (0 ≤ b ∧ b < 65536 ∧ 0 ≤ n ∧ n ≤ 65536 - b)
def wMove : Bys := [109, 111, 118, 101]
def wNarrow : Bys := [110, 97, 114, 114, 111, 119]
def wSeal : Bys := [115, 101, 97, 108]
def wOpen : Bys := [111, 112, 101, 110]
def wPack : Bys := [112, 97, 99, 107]
def wRound : Bys := [114, 111, 117, 110, 100]
def wCalc : Bys := [99, 97, 108, 99]
def wKey : Bys := [107, 101, 121]
def wNew : Bys := [110, 101, 119]
def wRead : Bys := [114, 101, 97, 100]
def wPerm : Bys := [112, 101, 114, 109]
def wDrop : Bys := [100, 114, 111, 112]
def wAdd : Bys := [97, 100, 100]
def wSub : Bys := [115, 117, 98]
def wMul : Bys := [109, 117, 108]
def wLess : Bys := [108, 101, 115, 115]
def wDiv : Bys := [100, 105, 118]
/-- What is made of two numbers. -/
def calcF (a b : Int) (w : Bys) : Bys × Int :=
  if w = wAdd then (Lib.itoa (addF a b), 0) else if w = wSub then (Lib.itoa (subF a b), 0) else if w = wMul then (Lib.itoa (mulF a b), 0)
  else if w = wLess then (Lib.itoa (lessF a b), 0) else if w = wDiv then (if wrap32 b = 0 then ([], 14) else (Lib.itoa (divF a b), 0)) else ([], 3)
def roundS (a b : Int) : Bys × Int :=
  if isRangeB a b = true then (Lib.itoa (dnI (2 ^ leastN a b) a) ++ 32 :: Lib.itoa (szI (leastN a b) a b), 0) else ([], 1)
def threeF (word : Bys) (l : List Bys) : Bys × Int :=
  if l.length = 3 then
    if numB (l.getD 0 []) = true ∧ numB (l.getD 2 []) = true then
      if word = wRound then (if l.getD 1 [] = [] then roundS (atoiV (l.getD 0 [])) (atoiV (l.getD 2 [])) else ([], 3))
      else calcF (atoiV (l.getD 0 [])) (atoiV (l.getD 2 [])) (l.getD 1 [])
    else ([], 3)
  else ([], 3)
def severalF (word : Bys) (l : List Bys) : Bys × Int :=
  if word = wRound ∧ l.length = 2 then threeF word [l.getD 0 [], [], l.getD 1 []] else threeF word l
def packS (l : List Bys) : Bys × Int := if (parseF (Lib.join l [32])).2 = 0 then (Lib.itoa (packF (parseF (Lib.join l [32])).1), 0) else ([], (parseF (Lib.join l [32])).2)
def readS (a : Bys) : Bys × Int := if numB a = true then (if instOk (unpack (atoiV a)) = true then (textL (unpack (atoiV a)), 0) else ([], 5)) else ([], 3)
def wordsF (k : KeyV) (word : Bys) (l : List Bys) : DeskR :=
  if word = wMove then byF k l moveF else if word = wNarrow then byF k l narrowF
  else if word = wSeal then byF k l (sealerF sealF) else if word = wOpen then byF k l (sealerF openF)
  else if word = wPack then ⟨k, (packS l).1, (packS l).2⟩
  else if word = wRound ∨ word = wCalc then ⟨k, (severalF word l).1, (severalF word l).2⟩
  else if word = wKey ∧ l.length = 0 then ⟨k, told k, 0⟩
  else if word = wNew ∧ l.length = 0 then keepF k (firstK, 0)
  else if l.length ≠ 1 then ⟨k, [], 3⟩
  else if word = wRead then ⟨k, (readS (l.headD [])).1, (readS (l.headD [])).2⟩
  else if word = wPerm then ⟨k, if (permR (l.headD [])).2 = 0 then Lib.itoa (permR (l.headD [])).1 else [], (permR (l.headD [])).2⟩
  else if word = wDrop then (if (permR (l.headD [])).2 = 0 then keepF k (dropF k (permR (l.headD [])).1) else ⟨k, [], (permR (l.headD [])).2⟩)
  else ⟨k, [], 3⟩
def errP : Bys := [101, 114, 114, 111, 114, 32]
def partsF (s : Bys) : List Bys := (splitC 32 s).filter fun x => !x.isEmpty
def answered (r : DeskR) : KeyV × Bys := (r.k, if r.er = 0 then r.out else errP ++ Lib.itoa r.er)
def lineF (k : KeyV) (s : Bys) : KeyV × Bys := match partsF s with
  | [] => answered ⟨k, [], 3⟩
  | w :: l => answered (wordsF k w l)
def isErr (l : Bys) : Bool := decide (l.take 6 = errP)
theorem permT_head : ∀ q, q < 128 → (permT q).head? ≠ some 101 ∧ permT q ≠ [] := by decide +kernel
theorem told_noerr (k : KeyV) : isErr (told k) = false := by
  unfold isErr told
  apply decide_eq_false
  have h : ∀ r : Bys, (permX k.perm ++ 32 :: r).head? ≠ some 101 := by
    intro r
    unfold permX
    split
    · next h =>
      obtain ⟨h1, h2⟩ := permT_head k.perm.toNat (by omega)
      cases hp : permT k.perm.toNat with
      | nil => exact absurd hp h2
      | cons x xs => rw [hp] at h1; exact h1
    · simp
  intro e
  have h2 := congrArg List.head? e
  rw [List.head?_take, if_neg (by decide)] at h2
  exact h _ h2
def DeskR.Fine (k : KeyV) (r : DeskR) : Prop := r.k = k ∨ (r.er = 0 ∧ ∃ q, r.out = told q)
theorem keepF_fine (k : KeyV) (r : KeyV × Int) : (keepF k r).Fine k := by
  unfold keepF
  split
  · exact .inr ⟨rfl, _, rfl⟩
  · exact .inl rfl
theorem byF_fine (k : KeyV) (l : List Bys) (f : KeyV → Int → KeyV × Int) : (byF k l f).Fine k := by
  unfold byF
  split
  · split
    · exact keepF_fine _ _
    · exact .inl rfl
  · exact .inl rfl
theorem fine_ite {k : KeyV} {c : Prop} [Decidable c] {a b : DeskR} (ha : a.Fine k) (hb : b.Fine k) : (if c then a else b).Fine k := by
  split
  · exact ha
  · exact hb
theorem wordsF_fine (k : KeyV) (w : Bys) (l : List Bys) : (wordsF k w l).Fine k := by
  unfold wordsF
  repeat' (first | exact byF_fine _ _ _ | exact keepF_fine _ _ | apply fine_ite | exact .inl rfl)
theorem lineF_err (k : KeyV) (s : Bys) (h : isErr (lineF k s).2 = true) : (lineF k s).1 = k := by
  unfold lineF at h ⊢
  split at h
  · rfl
  · next w l _ =>
    rcases wordsF_fine k w l with e | ⟨e, q, hq⟩
    · exact e
    · unfold answered at h
      simp only at h
      rw [if_pos e, hq, told_noerr] at h
      cases h
/-- Lines. -/
def runD (lines : List Bys) : List Bys := outsF lineF firstK lines
theorem lineF_new (k : KeyV) : lineF k wNew = (firstK, told firstK) := by
  have e : partsF wNew = [wNew] := by decide +kernel
  unfold lineF
  rw [e]
  simp only
  unfold wordsF
  rw [if_neg (by decide), if_neg (by decide), if_neg (by decide), if_neg (by decide), if_neg (by decide), if_neg (by decide), if_neg (by decide), if_pos ⟨rfl, rfl⟩]
  rfl
end Go.Proofs.YtpjhjefjbkjhkaaGreatDoor
