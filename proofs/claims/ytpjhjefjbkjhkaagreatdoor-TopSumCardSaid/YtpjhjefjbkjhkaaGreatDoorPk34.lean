import Derived.Test.YtpjhjefjbkjhkaaGreatDoorPk00
import Derived.Test.YtpjhjefjbkjhkaaGreatDoorPk01
import Derived.Test.YtpjhjefjbkjhkaaGreatDoorPk06
import Derived.Test.YtpjhjefjbkjhkaaGreatDoorPk26
import Derived.WideShapes
set_option maxHeartbeats 40000000
set_option maxRecDepth 100000
set_option linter.unusedVariables false
set_option linter.unusedSimpArgs false
namespace Go.Proofs.YtpjhjefjbkjhkaaGreatDoor
open Go Go.RowKit Go.Shelf
theorem lit_num (n : Int) (w : World) : Calls Tryz.prog 100 #[.int .i64 n] w fun e w' => e = .returned (.bool (!num32B n)) ∧ Below w.heap.size w w' := by
 cases h : num32B n
 ·have g : (n != wrap32 n) = true := by simp [← num32B_iff, h]
  have G := Lib.hid g
  go_enter Tryz.func100, Tryz.ntmps100
  go_wp2_with (go_at_call 58; (refine (wrap_any _ _).mono ?_; rintro e w' ⟨rfl, rfl⟩))
  go_ret
  exact ⟨rfl, Below.refl _ _⟩
 ·have g : (n != wrap32 n) = false := by simp [← num32B_iff, h]
  have G := Lib.hid g
  go_enter Tryz.func100, Tryz.ntmps100
  go_wp2_with (go_at_call 58; (refine (wrap_any _ _).mono ?_; rintro e w' ⟨rfl, rfl⟩))
  go_ret
  exact ⟨rfl, Below.refl _ _⟩
theorem idx_num (ao : Option Addr) (n c : Nat) (xs : List Int)  (p : Int → Bool) (w : World) (h : Sl w ao n xs)
  (hp : ∀ W, Below w.heap.size w W → ∀ x ∈ xs, Calls Tryz.prog 100 #[.int .i64 x] W fun e w' => e = .returned (.bool (p x)) ∧ Below W.heap.size W w') :
  Calls Tryz.prog 126 #[.slice ao n c, .func (.func 100) #[] #[]] w fun e w' => (∃ i : Int, e = .returned (.int .i64 i) ∧ I64 i ∧ decide (0 ≤ i) = xs.any p) ∧ Below w.heap.size w w' := by
 have hm := h.max
 unfold maxLen at hm
 have hl := h.len
 have HSL := Lib.hid h
 have HP := Lib.hid hp
 clear h hp
 go_enter Tryz.func126, Tryz.ntmps126
 go_wp2
 go_loopw [8] (fun i wr => ∃ k : Nat, k ≤ n ∧ i = .int .i64 k ∧ (xs.take k).any p = false ∧ Below w.heap.size w wr) (fun i _ => n - (intOf i).toNat)
 case atStart => exact ⟨0, Nat.zero_le _, rfl, rfl, Below.refl _ _⟩
 case round =>
  obtain ⟨k, hk, rfl, hf, hb⟩ := hrel
  have HB := Lib.hid hb
  have HF := Lib.hid hf
  clear hb hf
  by_cases hlt : k < n
  ·obtain ⟨x, hx⟩ : ∃ x, xs[k]? = some x := ⟨_, List.getElem?_eq_getElem (by omega)⟩
   obtain ⟨ad, hao, hab, e0⟩ := sl_int (HSL.out.below HB.out) hlt hx
   subst hao
   have cm := HP.out wr HB.out x (List.mem_of_getElem? hx)
   have htk : (xs.take (k + 1)).any p = p x := by rw [List.take_add_one, hx, List.any_append, HF.out]; simp
   have q1 : (k : Int) < n := by omega
   have HX := Lib.hid hx
   clear hx
   cases ht : p x
   ·rw [ht] at cm htk
    have CM := Lib.hid cm
    have HT := Lib.hid htk
    clear cm ht htk
    go_wp2_with (go_at_call 100; ((with_reducible refine (CM.out).mono ?_); rintro e w1 ⟨rfl, hb1⟩; have HB1 := Lib.hid (show Below w.heap.size w w1 from ext_trans HB.out hb1)))
    go_roundw
    case rel => exact ⟨k + 1, by omega, by go_num, HT.out, HB1.out⟩
    case measure => simp [intOf]; omega
   ·rw [ht] at cm
    have hany : xs.any p = true := List.any_eq_true.2 ⟨x, List.mem_of_getElem? HX.out, ht⟩
    have CM := Lib.hid cm
    have HA := Lib.hid hany
    clear cm ht htk hany
    go_wp2_with (go_at_call 100; ((with_reducible refine (CM.out).mono ?_); rintro e w1 ⟨rfl, hb1⟩; have HB1 := Lib.hid (show Below w.heap.size w w1 from ext_trans HB.out hb1)))
    go_ret
    exact ⟨⟨_, rfl, by unfold I64; omega, by rw [HA.out]; simp⟩, HB1.out⟩
  ·have q1 : ¬ ((k : Int) < n) := by omega
   have hany : xs.any p = false := by have := HF.out; rwa [List.take_of_length_le (by omega)] at this
   have HA := Lib.hid hany
   clear hany
   go_wp2
   go_ret
   exact ⟨⟨_, rfl, by unfold I64; omega, by rw [HA.out]; simp⟩, HB.out⟩
theorem has_num (ao : Option Addr) (n c : Nat) (xs : List Int)  (p : Int → Bool) (w : World) (h : Sl w ao n xs)
  (hp : ∀ W, Below w.heap.size w W → ∀ x ∈ xs, Calls Tryz.prog 100 #[.int .i64 x] W fun e w' => e = .returned (.bool (p x)) ∧ Below W.heap.size W w') :
  Calls Tryz.prog 99 #[.slice ao n c, .func (.func 100) #[] #[]] w fun e w' => e = .returned (.bool (xs.any p)) ∧ Below w.heap.size w w' := by
 have ix := idx_num ao n c xs  p w h hp
 have IX := Lib.hid ix
 clear ix h hp
 go_enter Tryz.func99, Tryz.ntmps99
 go_wp2_with (go_at_call 126; ((with_reducible refine (IX.out).mono ?_); rintro e w1 ⟨⟨i, rfl, hi, he⟩, hb1⟩; have HE := Lib.hid he; have HB1 := Lib.hid hb1; clear he hb1))
 go_ret
 exact ⟨by rw [← HE.out]; rfl, HB1.out⟩
theorem numbers_any (ao : Option Addr) (n c : Nat) (xs : List Int) (w : World) (h : Sl w ao n xs) :
  Calls Tryz.prog 64 #[.slice ao n c] w fun e w' => e = .returned (.bool (xs.all num32B)) ∧ Below w.heap.size w w' := by
 have hc := has_num ao n c xs (fun n => !num32B n) w h (fun W _ x _ => lit_num x W)
 have e : xs.all num32B = !(xs.any fun n => !num32B n) := by
  induction xs with
  | nil => rfl
  | cons x xs ih => simp [List.all_eq_not_any_not]
 rw [e]
 generalize (xs.any fun n => !num32B n) = b at *
 have HC := Lib.hid hc
 clear hc h
 go_enter Tryz.func64, Tryz.ntmps64
 go_wp2_with (go_at_call 99; ((with_reducible refine (HC.out).mono ?_); rintro e w1 ⟨rfl, hb1⟩; have HB1 := Lib.hid hb1; clear hb1))
 go_ret
 exact ⟨rfl, HB1.out⟩
theorem lit_lab (x y : NamV) (g : Nat) (w : World) (hg : g < w.heap.size) (hc : w.cell? ⟨g, 0, none⟩ = some (.string x.name)) :
  Calls Tryz.prog 67 #[.agg #[.string y.name, .int .i64 y.at_], .pointer (some ⟨g, 0, none⟩)] w fun e w' => e = .returned (.bool (decide (y.name = x.name))) ∧ Below w.heap.size w w' := by
 have hw1 : (w.alloc (.cells #[.string y.name, .int .i64 y.at_] 83)).cell? ⟨g, 0, none⟩ = some (.string x.name) := by rw [← hc]; exact (ext_alloc (Below.refl _ _) _).cell (p := ⟨g, 0, none⟩) hg
 obtain ⟨w1, e1⟩ : ∃ w1, w1 = w.alloc (.cells #[.string y.name, .int .i64 y.at_] 83) := ⟨_, rfl⟩
 have b1 : Bk w1 w.heap.size 83 #[.string y.name, .int .i64 y.at_] := by rw [e1]; exact bk_new _ _ _
 have hb : Below w.heap.size w w1 := by rw [e1]; exact ext_alloc (Below.refl _ _) _
 have y0 : w1.cell? ⟨w.heap.size, 0, none⟩ = some (.string y.name) := b1.cell 0
 have bl := b1.lt
 have hg1 : g < w1.heap.size := Nat.lt_of_lt_of_le hg hb.size
 rw [← e1] at hw1
 have E1 := Lib.hid e1
 have HB := Lib.hid hb
 have f : (y.name.toList == x.name.toList) = decide (y.name = x.name) := by
  by_cases h : y.name = x.name
  ·simp [h]
  ·rw [decide_eq_false h]; exact beq_eq_false_iff_ne.2 fun e => h (name_eq.1 e)
 generalize decide (y.name = x.name) = b at *
 have F := Lib.hid f
 clear e1 b1 hb f hc
 go_enter Tryz.func67, Tryz.ntmps67
 go_upto_region 1 with (fail)
 rw [← E1.out]
 go_wp2
 go_ret
 exact ⟨by rw [← F.out]; rfl, HB.out⟩
def nearB (x y : NamV) : Bool := decide (x.at_ - y.at_ < 2 ∧ y.at_ - x.at_ < 2)
theorem max_two (ats : Array TypeId) (ty : TypeId) (a b : Int) : Go.Builtin.max_ ats ty #[.int .i64 a, .int .i64 b] = pure (.int .i64 (if b > a then b else a)) := by
 unfold Go.Builtin.max_
 simp [Go.Builtin.max2]
attribute [local go_sem] max_two
theorem lit_imp (x y : NamV) (g : Nat) (w : World) (hx : 0 ≤ x.at_ ∧ x.at_ ≤ 60) (hy : 0 ≤ y.at_ ∧ y.at_ ≤ 60) (hg : g < w.heap.size) (hc : w.cell? ⟨g, 1, none⟩ = some (.int .i64 x.at_)) :
  Calls Tryz.prog 69 #[.agg #[.string y.name, .int .i64 y.at_], .pointer (some ⟨g, 0, none⟩)] w fun e w' => e = .returned (.bool (nearB x y)) ∧ Below w.heap.size w w' := by
 have hw1 : (w.alloc (.cells #[.string y.name, .int .i64 y.at_] 118)).cell? ⟨g, 1, none⟩ = some (.int .i64 x.at_) := by rw [← hc]; exact (ext_alloc (Below.refl _ _) _).cell (p := ⟨g, 1, none⟩) hg
 obtain ⟨w1, e1⟩ : ∃ w1, w1 = w.alloc (.cells #[.string y.name, .int .i64 y.at_] 118) := ⟨_, rfl⟩
 have b1 : Bk w1 w.heap.size 118 #[.string y.name, .int .i64 y.at_] := by rw [e1]; exact bk_new _ _ _
 have hb : Below w.heap.size w w1 := by rw [e1]; exact ext_alloc (Below.refl _ _) _
 have y0 : w1.cell? ⟨w.heap.size, 1, none⟩ = some (.int .i64 y.at_) := b1.cell 1
 have bl := b1.lt
 have hg1 : g < w1.heap.size := Nat.lt_of_lt_of_le hg hb.size
 rw [← e1] at hw1
 have E1 := Lib.hid e1
 have HB := Lib.hid hb
 obtain ⟨xn, a⟩ := x
 obtain ⟨yn, b⟩ := y
 simp only at hx hy hw1 y0
 have f : decide ((if b - a > a - b then b - a else a - b) < 2) = nearB ⟨xn, a⟩ ⟨yn, b⟩ := by
  unfold nearB
  simp only
  congr 1
  split <;> simp <;> omega
 generalize nearB ⟨xn, a⟩ ⟨yn, b⟩ = c at *
 clear e1 b1 hb hc
 by_cases hh : b - a > a - b
 ·rw [if_pos hh] at f
  have F := Lib.hid f
  clear f
  go_enter Tryz.func69, Tryz.ntmps69
  go_upto_region 1 with (fail)
  rw [← E1.out]
  go_wp2
  go_ret
  exact ⟨by rw [← F.out]; rfl, HB.out⟩
 ·rw [if_neg hh] at f
  have F := Lib.hid f
  clear f
  go_enter Tryz.func69, Tryz.ntmps69
  go_upto_region 1 with (fail)
  rw [← E1.out]
  go_wp2
  go_ret
  exact ⟨by rw [← F.out]; rfl, HB.out⟩
theorem idx_lab (ao : Option Addr) (n c : Nat) (xs : List NamV) (g : Nat) (p : NamV → Bool) (w : World) (h : Sl w ao n xs)
  (hp : ∀ W, Below w.heap.size w W → ∀ x ∈ xs, Calls Tryz.prog 67 #[.agg #[.string x.name, .int .i64 x.at_], .pointer (some ⟨g, 0, none⟩)] W fun e w' => e = .returned (.bool (p x)) ∧ Below W.heap.size W w') :
  Calls Tryz.prog 103 #[.slice ao n c, .func (.func 67) #[] #[.pointer (some ⟨g, 0, none⟩)]] w fun e w' => (∃ i : Int, e = .returned (.int .i64 i) ∧ I64 i ∧ decide (0 ≤ i) = xs.any p) ∧ Below w.heap.size w w' := by
 have hm := h.max
 unfold maxLen at hm
 have hl := h.len
 have HSL := Lib.hid h
 have HP := Lib.hid hp
 clear h hp
 go_enter Tryz.func103, Tryz.ntmps103
 go_wp2
 go_loopw [8] (fun i wr => ∃ k : Nat, k ≤ n ∧ i = .int .i64 k ∧ (xs.take k).any p = false ∧ Below w.heap.size w wr) (fun i _ => n - (intOf i).toNat)
 case atStart => exact ⟨0, Nat.zero_le _, rfl, rfl, Below.refl _ _⟩
 case round =>
  obtain ⟨k, hk, rfl, hf, hb⟩ := hrel
  have HB := Lib.hid hb
  have HF := Lib.hid hf
  clear hb hf
  by_cases hlt : k < n
  ·obtain ⟨x, hx⟩ : ∃ x, xs[k]? = some x := ⟨_, List.getElem?_eq_getElem (by omega)⟩
   obtain ⟨ad, hao, hab, e0, e1⟩ := sl_NamV (HSL.out.below HB.out) hlt hx
   subst hao
   have cm := HP.out wr HB.out x (List.mem_of_getElem? hx)
   have htk : (xs.take (k + 1)).any p = p x := by rw [List.take_add_one, hx, List.any_append, HF.out]; simp
   have q1 : (k : Int) < n := by omega
   have HX := Lib.hid hx
   clear hx
   cases ht : p x
   ·rw [ht] at cm htk
    have CM := Lib.hid cm
    have HT := Lib.hid htk
    clear cm ht htk
    go_wp2_with (go_at_call 67; ((with_reducible refine (CM.out).mono ?_); rintro e w1 ⟨rfl, hb1⟩; have HB1 := Lib.hid (show Below w.heap.size w w1 from ext_trans HB.out hb1)))
    go_roundw
    case rel => exact ⟨k + 1, by omega, by go_num, HT.out, HB1.out⟩
    case measure => simp [intOf]; omega
   ·rw [ht] at cm
    have hany : xs.any p = true := List.any_eq_true.2 ⟨x, List.mem_of_getElem? HX.out, ht⟩
    have CM := Lib.hid cm
    have HA := Lib.hid hany
    clear cm ht htk hany
    go_wp2_with (go_at_call 67; ((with_reducible refine (CM.out).mono ?_); rintro e w1 ⟨rfl, hb1⟩; have HB1 := Lib.hid (show Below w.heap.size w w1 from ext_trans HB.out hb1)))
    go_ret
    exact ⟨⟨_, rfl, by unfold I64; omega, by rw [HA.out]; simp⟩, HB1.out⟩
  ·have q1 : ¬ ((k : Int) < n) := by omega
   have hany : xs.any p = false := by have := HF.out; rwa [List.take_of_length_le (by omega)] at this
   have HA := Lib.hid hany
   clear hany
   go_wp2
   go_ret
   exact ⟨⟨_, rfl, by unfold I64; omega, by rw [HA.out]; simp⟩, HB.out⟩
theorem has_lab (ao : Option Addr) (n c : Nat) (xs : List NamV) (g : Nat) (p : NamV → Bool) (w : World) (h : Sl w ao n xs)
  (hp : ∀ W, Below w.heap.size w W → ∀ x ∈ xs, Calls Tryz.prog 67 #[.agg #[.string x.name, .int .i64 x.at_], .pointer (some ⟨g, 0, none⟩)] W fun e w' => e = .returned (.bool (p x)) ∧ Below W.heap.size W w') :
  Calls Tryz.prog 66 #[.slice ao n c, .func (.func 67) #[] #[.pointer (some ⟨g, 0, none⟩)]] w fun e w' => e = .returned (.bool (xs.any p)) ∧ Below w.heap.size w w' := by
 have ix := idx_lab ao n c xs g p w h hp
 have IX := Lib.hid ix
 clear ix h hp
 go_enter Tryz.func66, Tryz.ntmps66
 go_wp2_with (go_at_call 103; ((with_reducible refine (IX.out).mono ?_); rintro e w1 ⟨⟨i, rfl, hi, he⟩, hb1⟩; have HE := Lib.hid he; have HB1 := Lib.hid hb1; clear he hb1))
 go_ret
 exact ⟨by rw [← HE.out]; rfl, HB1.out⟩
theorem idx_imp (ao : Option Addr) (n c : Nat) (xs : List NamV) (g : Nat) (p : NamV → Bool) (w : World) (h : Sl w ao n xs)
  (hp : ∀ W, Below w.heap.size w W → ∀ x ∈ xs, Calls Tryz.prog 69 #[.agg #[.string x.name, .int .i64 x.at_], .pointer (some ⟨g, 0, none⟩)] W fun e w' => e = .returned (.bool (p x)) ∧ Below W.heap.size W w') :
  Calls Tryz.prog 104 #[.slice ao n c, .func (.func 69) #[] #[.pointer (some ⟨g, 0, none⟩)]] w fun e w' => (∃ i : Int, e = .returned (.int .i64 i) ∧ I64 i ∧ decide (0 ≤ i) = xs.any p) ∧ Below w.heap.size w w' := by
 have hm := h.max
 unfold maxLen at hm
 have hl := h.len
 have HSL := Lib.hid h
 have HP := Lib.hid hp
 clear h hp
 go_enter Tryz.func104, Tryz.ntmps104
 go_wp2
 go_loopw [8] (fun i wr => ∃ k : Nat, k ≤ n ∧ i = .int .i64 k ∧ (xs.take k).any p = false ∧ Below w.heap.size w wr) (fun i _ => n - (intOf i).toNat)
 case atStart => exact ⟨0, Nat.zero_le _, rfl, rfl, Below.refl _ _⟩
 case round =>
  obtain ⟨k, hk, rfl, hf, hb⟩ := hrel
  have HB := Lib.hid hb
  have HF := Lib.hid hf
  clear hb hf
  by_cases hlt : k < n
  ·obtain ⟨x, hx⟩ : ∃ x, xs[k]? = some x := ⟨_, List.getElem?_eq_getElem (by omega)⟩
   obtain ⟨ad, hao, hab, e0, e1⟩ := sl_NamV (HSL.out.below HB.out) hlt hx
   subst hao
   have cm := HP.out wr HB.out x (List.mem_of_getElem? hx)
   have htk : (xs.take (k + 1)).any p = p x := by rw [List.take_add_one, hx, List.any_append, HF.out]; simp
   have q1 : (k : Int) < n := by omega
   have HX := Lib.hid hx
   clear hx
   cases ht : p x
   ·rw [ht] at cm htk
    have CM := Lib.hid cm
    have HT := Lib.hid htk
    clear cm ht htk
    go_wp2_with (go_at_call 69; ((with_reducible refine (CM.out).mono ?_); rintro e w1 ⟨rfl, hb1⟩; have HB1 := Lib.hid (show Below w.heap.size w w1 from ext_trans HB.out hb1)))
    go_roundw
    case rel => exact ⟨k + 1, by omega, by go_num, HT.out, HB1.out⟩
    case measure => simp [intOf]; omega
   ·rw [ht] at cm
    have hany : xs.any p = true := List.any_eq_true.2 ⟨x, List.mem_of_getElem? HX.out, ht⟩
    have CM := Lib.hid cm
    have HA := Lib.hid hany
    clear cm ht htk hany
    go_wp2_with (go_at_call 69; ((with_reducible refine (CM.out).mono ?_); rintro e w1 ⟨rfl, hb1⟩; have HB1 := Lib.hid (show Below w.heap.size w w1 from ext_trans HB.out hb1)))
    go_ret
    exact ⟨⟨_, rfl, by unfold I64; omega, by rw [HA.out]; simp⟩, HB1.out⟩
  ·have q1 : ¬ ((k : Int) < n) := by omega
   have hany : xs.any p = false := by have := HF.out; rwa [List.take_of_length_le (by omega)] at this
   have HA := Lib.hid hany
   clear hany
   go_wp2
   go_ret
   exact ⟨⟨_, rfl, by unfold I64; omega, by rw [HA.out]; simp⟩, HB.out⟩
theorem has_imp (ao : Option Addr) (n c : Nat) (xs : List NamV) (g : Nat) (p : NamV → Bool) (w : World) (h : Sl w ao n xs)
  (hp : ∀ W, Below w.heap.size w W → ∀ x ∈ xs, Calls Tryz.prog 69 #[.agg #[.string x.name, .int .i64 x.at_], .pointer (some ⟨g, 0, none⟩)] W fun e w' => e = .returned (.bool (p x)) ∧ Below W.heap.size W w') :
  Calls Tryz.prog 68 #[.slice ao n c, .func (.func 69) #[] #[.pointer (some ⟨g, 0, none⟩)]] w fun e w' => e = .returned (.bool (xs.any p)) ∧ Below w.heap.size w w' := by
 have ix := idx_imp ao n c xs g p w h hp
 have IX := Lib.hid ix
 clear ix h hp
 go_enter Tryz.func68, Tryz.ntmps68
 go_wp2_with (go_at_call 104; ((with_reducible refine (IX.out).mono ?_); rintro e w1 ⟨⟨i, rfl, hi, he⟩, hb1⟩; have HE := Lib.hid he; have HB1 := Lib.hid hb1; clear he hb1))
 go_ret
 exact ⟨by rw [← HE.out]; rfl, HB1.out⟩
end Go.Proofs.YtpjhjefjbkjhkaaGreatDoor
