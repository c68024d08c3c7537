import Derived.Lib.Join
import Derived.Lib.LastIndexByte
import Derived.Test.YtpjhjefjbkjhkaaGreatDoorBuA
import Derived.Test.YtpjhjefjbkjhkaaGreatDoorInstOneTxtZ
import Derived.Test.YtpjhjefjbkjhkaaGreatDoorModNameZ
import Derived.Test.YtpjhjefjbkjhkaaGreatDoorParseMathZ
/- What prog.Read comes to: plain lists. -/
namespace Go.Proofs.YtpjhjefjbkjhkaaGreatDoor
open Go Go.RowKit
set_option linter.unusedVariables false
set_option linter.unusedSimpArgs false
/-- Bytes as a string. -/
def ba (l : List UInt8) : ByteArray := ⟨l.toArray⟩
theorem ba_data (l : List UInt8) : (ba l).data.toList = l := rfl
theorem ba_inj {x y : List UInt8} (h : ba x = ba y) : x = y := by rw [← ba_data x, ← ba_data y, h]
theorem ba_back (s : ByteArray) : ba s.data.toList = s := ByteArray.ext (by simp [ba])
/-- A cell whose C is a label. -/
structure HoleV where
  line : Int
  at_ : Int
  i : InstV
  name : ByteArray
/-- How far the reader has come. -/
structure RdV where
  code : List Int
  labels : List NamV
  holes : List HoleV
def rd0 : RdV := ⟨[], [], []⟩
def findA (l : List NamV) (s : ByteArray) : Int :=
  match l.find? (fun x => decide (x.name = s)) with
  | some x => x.at_
  | none => -1
def labelR (r : RdV) (s : ByteArray) : RdV × Int :=
  if isNameB s = false then (r, 3) else if 0 ≤ findA r.labels s then (r, 8) else if r.labels.length = 20 then (r, 9)
  else (⟨r.code, r.labels ++ [⟨s, r.code.length⟩], r.holes⟩, 0)
def wordP : List UInt8 := [119, 111, 114, 100, 32]
def lastSp (s : List UInt8) : Int := Lib.lastIndexByte (ba s) 32
/-- A line whose last word is a name, as an instruction. -/
def holeI (s : List UInt8) : InstV × Int := parseF (s.take (lastSp s).toNat ++ [32, 48])
def holeN (s : List UInt8) : ByteArray := ba (s.drop ((lastSp s).toNat + 1))
def holeB (s : List UInt8) : Bool := decide (0 ≤ lastSp s) && isNameB (holeN s) && decide ((holeI s).2 = 0) && (decide ((holeI s).1.op = 8) || decide ((holeI s).1.op = 9))
/-- Does this tell a number? -/
def numB (l : List UInt8) : Bool := decide (Lib.atoiAll l = .ok (atoiV l)) && decide (Lib.itoa (atoiV l) = l) && num32B (atoiV l)
def cellR (r : RdV) (n : Int) (s : List UInt8) : RdV × Int :=
  if Lib.hasPrefix s wordP = true then
    if numB (s.drop 5) = true then (⟨r.code ++ [atoiV (s.drop 5)], r.labels, r.holes⟩, 0) else (r, 3)
  else if holeB s = true then (⟨r.code ++ [0], r.labels, r.holes ++ [⟨n, r.code.length, (holeI s).1, holeN s⟩]⟩, 0)
  else if (parseF s).2 = 0 then (⟨r.code ++ [packF (parseF s).1], r.labels, r.holes⟩, 0) else (r, 3)
def lineR (r : RdV) (n : Int) (s : List UInt8) : RdV × Int :=
  if 80 < s.length then (r, 2)
  else if Lib.hasSuffix s [58] = true then labelR r (ba (Lib.trimSuffix s [58]))
  else if s = [] then (r, 0)
  else cellR r n s
def linesR (r : RdV) (n : Nat) : List (List UInt8) → RdV × Int × Int
  | [] => (r, 0, 0)
  | s :: l => if (lineR r (n + 1) s).2 = 0 then linesR (lineR r (n + 1) s).1 (n + 1) l else ((lineR r (n + 1) s).1, n + 1, (lineR r (n + 1) s).2)
def HoleV.filled (h : HoleV) (labels : List NamV) : InstV := ⟨h.i.op, h.i.a, h.i.b, findA labels h.name - h.at_⟩
def holesR (labels : List NamV) (code : List Int) : List HoleV → List Int × Int × Int
  | [] => (code, 0, 0)
  | h :: l => if findA labels h.name < 0 then (code, h.line, 7)
    else if instOk (h.filled labels) = true then holesR labels (code.set h.at_.toNat (packF (h.filled labels))) l else (code, h.line, 13)
structure ReadV where
  code : List Int
  labels : List NamV
  line : Int
  er : Int
def readF (text : List UInt8) : ReadV :=
  if 150 < (splitC 10 text).length then ⟨[], [], 0, 2⟩
  else if (linesR rd0 0 (splitC 10 text)).2.2 ≠ 0 then ⟨[], [], (linesR rd0 0 (splitC 10 text)).2.1, (linesR rd0 0 (splitC 10 text)).2.2⟩
  else
    if (holesR (linesR rd0 0 (splitC 10 text)).1.labels (linesR rd0 0 (splitC 10 text)).1.code (linesR rd0 0 (splitC 10 text)).1.holes).2.2 ≠ 0 then ⟨[], [], (holesR (linesR rd0 0 (splitC 10 text)).1.labels (linesR rd0 0 (splitC 10 text)).1.code (linesR rd0 0 (splitC 10 text)).1.holes).2.1, (holesR (linesR rd0 0 (splitC 10 text)).1.labels (linesR rd0 0 (splitC 10 text)).1.code (linesR rd0 0 (splitC 10 text)).1.holes).2.2⟩
    else ⟨(holesR (linesR rd0 0 (splitC 10 text)).1.labels (linesR rd0 0 (splitC 10 text)).1.code (linesR rd0 0 (splitC 10 text)).1.holes).1, (linesR rd0 0 (splitC 10 text)).1.labels, 0, 0⟩
/-- The line of a number. -/
def cellL (n : Int) : List UInt8 := if instOk (unpack n) = true then textL (unpack n) else wordP ++ Lib.itoa n
def textP (code : List Int) : List UInt8 := Lib.join (code.map cellL) [10]

theorem splitC_mid (c : UInt8) : ∀ a b : List UInt8, splitC c (a ++ c :: b) = splitC c a ++ splitC c b
  | [], b => by
    show splitC c (c :: b) = [[]] ++ splitC c b
    conv => lhs; unfold splitC
    rw [if_pos rfl]
    rfl
  | x :: a, b => by
    rw [List.cons_append, splitC, splitC_mid c a b]
    by_cases h : x = c
    · rw [if_pos h, splitC, if_pos h]; rfl
    · rw [if_neg h]
      cases hs : splitC c a with
      | nil => exact absurd hs (splitC_ne c a)
      | cons y ys => rw [splitC, if_neg h, hs]; rfl
theorem split_join (c : UInt8) : ∀ {ls : List (List UInt8)}, ls ≠ [] → (∀ l ∈ ls, c ∉ l) → splitC c (Lib.join ls [c]) = ls
  | [], h, _ => absurd rfl h
  | [x], _, h => by rw [Lib.join_one, splitC_none (h x (by simp))]
  | x :: y :: r, _, h => by
    have e : Lib.join (x :: y :: r) [c] = x ++ c :: Lib.join (y :: r) [c] := by
      rw [Lib.join_cons, Lib.join_cons, Lib.joinTail, Lib.joinTail]
      simp
    rw [e, splitC_app (h x (by simp)), split_join c (by simp) fun l hl => h l (List.mem_cons_of_mem _ hl)]
theorem split_no (c : UInt8) : ∀ (s : List UInt8), ∀ x ∈ splitC c s, c ∉ x
  | [], x, hx => by simp [splitC] at hx; subst hx; simp
  | b :: l, x, hx => by
    unfold splitC at hx
    split at hx
    · rcases List.mem_cons.1 hx with h | h
      · subst h; simp
      · exact split_no c l x h
    · next hb =>
      split at hx
      · next h => exact absurd h (splitC_ne c l)
      · next y ys h =>
        rcases List.mem_cons.1 hx with e | e
        · subst e
          have := split_no c l y (by rw [h]; simp)
          intro hm
          rcases List.mem_cons.1 hm with h1 | h1
          · exact hb h1.symm
          · exact this h1
        · exact split_no c l x (by rw [h]; exact List.mem_cons_of_mem _ e)
theorem lines_cons (r : RdV) (n : Nat) (s : List UInt8) (l : List (List UInt8)) : linesR r n (s :: l) = if (lineR r (n + 1) s).2 = 0 then linesR (lineR r (n + 1) s).1 (n + 1) l else ((lineR r (n + 1) s).1, n + 1, (lineR r (n + 1) s).2) := rfl
theorem holes_cons (labels : List NamV) (code : List Int) (h : HoleV) (l : List HoleV) : holesR labels code (h :: l) = if findA labels h.name < 0 then (code, h.line, 7) else if instOk (h.filled labels) = true then holesR labels (code.set h.at_.toNat (packF (h.filled labels))) l else (code, h.line, 13) := rfl
theorem lines_app : ∀ (a b : List (List UInt8)) (r : RdV) (n : Nat), (linesR r n a).2.2 = 0 → linesR r n (a ++ b) = linesR (linesR r n a).1 (n + a.length) b
  | [], b, r, n, _ => rfl
  | s :: a, b, r, n, h => by
    rw [List.cons_append, lines_cons, lines_cons]
    rw [lines_cons] at h
    by_cases h0 : (lineR r (n + 1) s).2 = 0
    · rw [if_pos h0] at h
      rw [if_pos h0, if_pos h0, lines_app a b _ _ h, List.length_cons]
      congr 1; omega
    · rw [if_neg h0] at h
      exact absurd h h0
theorem lines_bad : ∀ (a b : List (List UInt8)) (r : RdV) (n : Nat), (linesR r n a).2.2 ≠ 0 → linesR r n (a ++ b) = linesR r n a
  | [], b, r, n, h => absurd rfl h
  | s :: a, b, r, n, h => by
    rw [List.cons_append, lines_cons, lines_cons]
    rw [lines_cons] at h
    by_cases h0 : (lineR r (n + 1) s).2 = 0
    · rw [if_pos h0] at h
      rw [if_pos h0, if_pos h0, lines_bad a b _ _ h]
    · rw [if_neg h0, if_neg h0]
theorem lastSp_none {l : List UInt8} (h : (32 : UInt8) ∉ l) : lastSp l = -1 := by
  unfold lastSp Lib.lastIndexByte
  rcases Lib.lastIdx_spec (ba l) 32 (ba l).size with ⟨e, _⟩ | ⟨i, hi, _, hc, _⟩
  · exact e
  · exfalso
    have hs : (ba l).size = l.length := ba_len l
    have e : (ba l).data[i]! = l[i]'(by omega) := by
      rw [getElem!_pos (ba l).data i (show i < (ba l).data.size by rw [ByteArray.size_data]; exact hi)]
      simp [ba]
    rw [e] at hc
    have : l[i]'(by omega) = 32 := by
      apply UInt8.toNat_inj.1
      exact_mod_cast hc
    exact h (this ▸ List.getElem_mem _)
theorem lastSp_app {a b : List UInt8} (h : (32 : UInt8) ∉ b) : lastSp (a ++ 32 :: b) = a.length := by
  have hs : (ba (a ++ 32 :: b)).size = (a ++ 32 :: b).length := ba_len _
  have hl : (a ++ 32 :: b).length = a.length + (b.length + 1) := by simp
  have at_ : ∀ i (hi : i < (a ++ 32 :: b).length), (ba (a ++ 32 :: b)).data[i]! = (a ++ 32 :: b)[i] := by
    intro i hi
    rw [getElem!_pos (ba (a ++ 32 :: b)).data i (show i < (ba (a ++ 32 :: b)).data.size by rw [ByteArray.size_data, hs]; exact hi)]
    simp [ba]
  unfold lastSp Lib.lastIndexByte
  rcases Lib.lastIdx_spec (ba (a ++ 32 :: b)) 32 (ba (a ++ 32 :: b)).size with ⟨_, hn⟩ | ⟨i, hi, e, hc, hn⟩
  · exfalso
    refine hn a.length (by omega) ?_
    rw [at_ _ (by omega)]
    simp
  · rw [e]
    rcases Nat.lt_trichotomy i a.length with h1 | h1 | h1
    · exfalso
      refine hn a.length h1 (by omega) ?_
      rw [at_ _ (by omega)]
      simp
    · rw [h1]
    · exfalso
      rw [at_ _ (by omega)] at hc
      have h2 : (a ++ 32 :: b)[i]'(by omega) = b[i - a.length - 1]'(by omega) := by
        rw [List.getElem_append_right (by omega), List.getElem_cons]
        rw [dif_neg (by omega)]
      rw [h2] at hc
      have : b[i - a.length - 1]'(by omega) = 32 := by
        apply UInt8.toNat_inj.1
        exact_mod_cast hc
      exact h (this ▸ List.getElem_mem _)
/-- A text with a space: what stands before the last one, and behind it. -/
theorem last_cut : ∀ (s : List UInt8), (32 : UInt8) ∈ s → ∃ a b, s = a ++ 32 :: b ∧ (32 : UInt8) ∉ b
  | [], h => by cases h
  | x :: s, h => by
    by_cases h1 : (32 : UInt8) ∈ s
    · obtain ⟨a, b, e, hb⟩ := last_cut s h1
      exact ⟨x :: a, b, by rw [e]; rfl, hb⟩
    · rcases List.mem_cons.1 h with h2 | h2
      · exact ⟨[], s, by rw [h2]; rfl, h1⟩
      · exact absurd h2 h1
end Go.Proofs.YtpjhjefjbkjhkaaGreatDoor
