import Derived.Test.YtpjhjefjbkjhkaaGreatDoorBuW
/- Modules as bytes: plain lists. -/
namespace Go.Proofs.YtpjhjefjbkjhkaaGreatDoor
open Go.RowKit
set_option linter.unusedVariables false
set_option linter.unusedSimpArgs false
/-- A byte of a number. -/
def byteN (n : Int) : UInt8 := UInt8.ofNat (n % 256).toNat
/-- A number in four bytes. -/
def four (n : Int) : List UInt8 := [byteN ((n + 2147483648) / 16777216), byteN ((n + 2147483648) / 65536), byteN ((n + 2147483648) / 256), byteN (n + 2147483648)]
def nameL (x : NamV) : List UInt8 := byteN x.name.size :: (x.name.data.toList ++ [byteN x.at_])
def headL (m : ModV) : List UInt8 := [67, 77, 49, byteN m.code.length, byteN m.data.length, byteN m.ex.length, byteN m.im.length]
def bodyL (m : ModV) : List UInt8 := headL m ++ (m.code.flatMap four ++ (m.data.flatMap four ++ (m.ex.flatMap nameL ++ m.im.flatMap nameL)))
/-- What bytes come to, modulo 2^16. -/
def sumN (l : List UInt8) : Nat := (l.map (·.toNat)).sum
def sumL (l : List UInt8) : List UInt8 := [byteN (sumN l / 256 : Nat), byteN (sumN l : Nat)]
/-- A module's file. -/
def packM (m : ModV) : List UInt8 := bodyL m ++ sumL (bodyL m)
theorem byteN_nat (n : Int) : (byteN n).toNat = (n % 256).toNat := by
  unfold byteN
  have h : 0 ≤ n % 256 := Int.emod_nonneg _ (by decide)
  have h2 : n % 256 < 256 := Int.emod_lt_of_pos _ (by decide)
  simp
  omega
theorem four_len (n : Int) : (four n).length = 4 := rfl
theorem nameL_len (x : NamV) : (nameL x).length = x.name.size + 2 := by
  unfold nameL
  rw [List.length_cons, List.length_append, Array.length_toList]
  rfl
theorem fours_len : ∀ l : List Int, (l.flatMap four).length = 4 * l.length
  | [] => rfl
  | n :: l => by rw [List.flatMap_cons, List.length_append, fours_len l, four_len, List.length_cons]; omega
def namesN (l : List NamV) : Nat := (l.map fun x => x.name.size).sum
theorem names_len : ∀ l : List NamV, (l.flatMap nameL).length = 2 * l.length + namesN l
  | [] => rfl
  | x :: l => by
    rw [List.flatMap_cons, List.length_append, names_len l, nameL_len, List.length_cons]
    unfold namesN
    rw [List.map_cons, List.sum_cons]
    omega
theorem packM_len (m : ModV) : (packM m).length = 9 + 4 * (m.code.length + m.data.length) + 2 * (m.ex.length + m.im.length) + (namesN m.ex + namesN m.im) := by
  unfold packM bodyL sumL headL
  simp only [List.length_append, fours_len, names_len, List.length_cons, List.length_nil]
  omega
/-- The number that four bytes tell. -/
def four_back (a b c d : UInt8) : Int := ((((a.toNat : Int) * 256 + b.toNat) * 256 + c.toNat) * 256 + d.toNat) - 2147483648
theorem four_tell {n : Int} (h : -2147483648 ≤ n ∧ n ≤ 2147483647) : four_back (byteN ((n + 2147483648) / 16777216)) (byteN ((n + 2147483648) / 65536)) (byteN ((n + 2147483648) / 256)) (byteN (n + 2147483648)) = n := by
  unfold four_back
  rw [byteN_nat, byteN_nat, byteN_nat, byteN_nat]
  omega
/-- Numbers taken off the front. -/
def takeN : Nat → List UInt8 → Option (List Int × List UInt8)
  | 0, l => some ([], l)
  | k + 1, a :: b :: c :: d :: l => (takeN k l).map fun r => (four_back a b c d :: r.1, r.2)
  | _ + 1, _ => none
/-- Names taken off the front. -/
def takeM : Nat → List UInt8 → Option (List NamV × List UInt8)
  | 0, l => some ([], l)
  | k + 1, [] => none
  | k + 1, c :: l =>
    match l.drop c.toNat with
    | [] => none
    | a :: r => (takeM k r).map fun q => (⟨⟨(l.take c.toNat).toArray⟩, a.toNat⟩ :: q.1, q.2)
theorem takeN_fours : ∀ {l : List Int} {r : List UInt8}, (∀ n ∈ l, -2147483648 ≤ n ∧ n ≤ 2147483647) → takeN l.length (l.flatMap four ++ r) = some (l, r)
  | [], r, _ => rfl
  | n :: l, r, h => by
    rw [List.flatMap_cons, List.length_cons, List.append_assoc]
    show takeN (l.length + 1) (_ :: _ :: _ :: _ :: (l.flatMap four ++ r)) = _
    rw [takeN, takeN_fours fun x hx => h x (List.mem_cons_of_mem _ hx), four_tell (h n (by simp))]
    rfl
theorem takeM_names : ∀ {l : List NamV} {r : List UInt8}, (∀ x ∈ l, x.name.size ≤ 255 ∧ 0 ≤ x.at_ ∧ x.at_ ≤ 255) → takeM l.length (l.flatMap nameL ++ r) = some (l, r)
  | [], r, _ => rfl
  | x :: l, r, h => by
    obtain ⟨h1, h2, h3⟩ := h x (by simp)
    rw [List.flatMap_cons, List.length_cons, List.append_assoc]
    have hc : (byteN x.name.size).toNat = x.name.size := by rw [byteN_nat]; omega
    have ha : ((byteN x.at_).toNat : Int) = x.at_ := by rw [byteN_nat]; omega
    have hl : x.name.data.toList.length = x.name.size := by rw [Array.length_toList]; rfl
    have e : nameL x ++ (l.flatMap nameL ++ r) = byteN x.name.size :: (x.name.data.toList ++ (byteN x.at_ :: (l.flatMap nameL ++ r))) := by
      rw [nameL, List.cons_append, List.append_assoc]; rfl
    rw [e, takeM, hc]
    rw [List.drop_left' hl, List.take_left' hl]
    simp only
    rw [takeM_names fun y hy => h y (List.mem_cons_of_mem _ hy)]
    simp only [Option.map_some]
    rw [ha]
/-- A module taken off the front. -/
def takeMod (l : List UInt8) : Option (ModV × List UInt8) :=
  match l with
  | _ :: _ :: _ :: a :: b :: c :: d :: l =>
    (takeN a.toNat l).bind fun p => (takeN b.toNat p.2).bind fun q => (takeM c.toNat q.2).bind fun x => (takeM d.toNat x.2).map fun y => (⟨p.1, q.1, x.1, y.1⟩, y.2)
  | _ => none
/-- What may be packed. -/
structure FileOk (m : ModV) : Prop where
  l1 : m.code.length ≤ 255
  l2 : m.data.length ≤ 255
  l3 : m.ex.length ≤ 255
  l4 : m.im.length ≤ 255
  n1 : ∀ n ∈ m.code, -2147483648 ≤ n ∧ n ≤ 2147483647
  n2 : ∀ n ∈ m.data, -2147483648 ≤ n ∧ n ≤ 2147483647
  e1 : ∀ x ∈ m.ex, x.name.size ≤ 255 ∧ 0 ≤ x.at_ ∧ x.at_ ≤ 255
  e2 : ∀ x ∈ m.im, x.name.size ≤ 255 ∧ 0 ≤ x.at_ ∧ x.at_ ≤ 255
theorem takeMod_body {m : ModV} (h : FileOk m) (r : List UInt8) : takeMod (bodyL m ++ r) = some (m, r) := by
  have c1 : (byteN m.code.length).toNat = m.code.length := by have := h.l1; rw [byteN_nat]; omega
  have c2 : (byteN m.data.length).toNat = m.data.length := by have := h.l2; rw [byteN_nat]; omega
  have c3 : (byteN m.ex.length).toNat = m.ex.length := by have := h.l3; rw [byteN_nat]; omega
  have c4 : (byteN m.im.length).toNat = m.im.length := by have := h.l4; rw [byteN_nat]; omega
  have e : bodyL m ++ r = 67 :: 77 :: 49 :: byteN m.code.length :: byteN m.data.length :: byteN m.ex.length :: byteN m.im.length :: (m.code.flatMap four ++ (m.data.flatMap four ++ (m.ex.flatMap nameL ++ (m.im.flatMap nameL ++ r)))) := by
    unfold bodyL headL
    simp only [List.cons_append, List.nil_append, List.append_assoc]
  rw [e, takeMod, c1, takeN_fours h.n1]
  simp only [Option.bind_some]
  rw [c2, takeN_fours h.n2]
  simp only [Option.bind_some]
  rw [c3, takeM_names h.e1]
  simp only [Option.bind_some]
  rw [c4, takeM_names h.e2]
  rfl
/-- No file is the front of another one. -/
theorem pack_front {m m' : ModV} (h : FileOk m) (h' : FileOk m') {k : Nat} (e : packM m' = (packM m).take k) : m' = m := by
  have h1 := takeMod_body h (sumL (bodyL m))
  have h2 := takeMod_body h' (sumL (bodyL m') ++ (packM m).drop k)
  have e2 : bodyL m' ++ (sumL (bodyL m') ++ (packM m).drop k) = bodyL m ++ sumL (bodyL m) := by
    rw [← List.append_assoc]
    show packM m' ++ _ = packM m
    rw [e, List.take_append_drop]
  rw [e2, h1] at h2
  injection h2 with h2
  injection h2 with h2 _
  exact h2.symm
theorem pack_inj {m m' : ModV} (h : FileOk m) (h' : FileOk m') (e : packM m' = packM m) : m' = m :=
  pack_front h h' (k := (packM m).length) (by rw [List.take_length]; exact e)
end Go.Proofs.YtpjhjefjbkjhkaaGreatDoor
