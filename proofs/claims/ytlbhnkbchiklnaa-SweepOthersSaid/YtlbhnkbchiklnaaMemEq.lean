/- What the reference's Eq computes of values. -/
import Derived.Test.YtlbhnkbchiklnaaMemRow
import Derived.Test.YtlbhnkbchiklnaaRows
import Derived.WalkKit
import Derived.WalkSpells
import Derived.BigQuiet
import Derived.Deep.QuietTactic
namespace Go.Proofs.Ytlbhnkbchiklnaa
open Go.RowKit
set_option linter.unusedVariables false
/-- Two values against each other. -/
theorem run_neq_val (x y : ValV) (W : World) : (binOp .neq 26 x.val y.val).run Try.prog W = .ok (.bool (!decide (x = y))) W := by
  obtain ⟨is, n, p, b, l, a, s⟩ := x
  obtain ⟨is2, n2, p2, b2, l2, a2, s2⟩ := y
  simp only [ValV.val, ValV.mk.injEq, KeyV.mk.injEq]
  rw [run_neq_struct]
  go_simp
  repeat' split
  all_goals simp [*]
theorem run_eql_val (x y : ValV) (W : World) : (binOp .eql 26 x.val y.val).run Try.prog W = .ok (.bool (decide (x = y))) W := by
  obtain ⟨is, n, p, b, l, a, s⟩ := x
  obtain ⟨is2, n2, p2, b2, l2, a2, s2⟩ := y
  simp only [ValV.val, ValV.mk.injEq, KeyV.mk.injEq]
  rw [run_eql_struct]
  go_simp
  repeat' split
  all_goals simp [*]
theorem sl_valg {w : World} {ao : Option Addr} {n : Nat} {vs : List ValV} (h : Sl w ao n vs) {i : Nat} (hi : i < n) {x : ValV} (hx : vs[i]? = some x) : ∃ a, ao = some a ∧ a.block < w.heap.size ∧ ValAt w (a.add (i * 7)) x := by
  obtain ⟨a, e, h1, h2⟩ := sl_val h hi
  have : vs.getD i zeroV = x := by simp [List.getD, hx]
  exact ⟨a, e, h1, this ▸ h2⟩
theorem eq_upto {xs ys : List ValV} (h : xs.length = ys.length) : (xs = ys) ↔ ∀ i, i < xs.length → xs[i]? = ys[i]? :=
  ⟨fun e i _ => by rw [e], fun h1 => List.ext_getElem? fun i => by
    rcases Nat.lt_or_ge i xs.length with h2 | h2
    · exact h1 i h2
    · rw [List.getElem?_eq_none h2, List.getElem?_eq_none (by omega)]⟩
set_option maxHeartbeats 2000000 in
theorem eq_val (ao bo : Option Addr) (n m c d : Nat) (xs ys : List ValV) (w : World) (hx : Sl w ao n xs) (hy : Sl w bo m ys) :
    Calls Try.prog 17 #[.slice ao n c, .slice bo m d] w fun e w' => e = .returned (.bool (decide (xs = ys))) ∧ Below w.heap.size w w' := by
  have hlx := hx.len
  have hly := hy.len
  have hm := hx.max
  unfold maxLen at hm
  by_cases hnm : n = m
  · subst hnm
    have g1 : ((n : Int) != (n : Int)) = false := by simp
    have hu := eq_upto (xs := xs) (ys := ys) (by omega)
    have HU := Lib.hid hu
    have HLX := Lib.hid hlx
    have HLY := Lib.hid hly
    have HX := Lib.hid hx
    have HY := Lib.hid hy
    clear hu hlx hly hx hy
    go_enter Try.func17, Try.ntmps17
    go_wp2
    go_loopw [14] (fun i wr => ∃ k : Nat, k ≤ n ∧ i = .int .i64 k ∧ (∀ i, i < k → xs[i]? = ys[i]?) ∧ Below w.heap.size w wr) (fun i _ => n - (intOf i).toNat)
    case atStart => exact ⟨0, Nat.zero_le _, rfl, fun i hi => absurd hi (by omega), Below.refl _ _⟩
    case round =>
      obtain ⟨k, hk, rfl, hf, hb⟩ := hrel
      have HF := Lib.hid hf
      have HB := Lib.hid hb
      clear hf hb
      by_cases hlt : k < n
      · have q0 : (0 : Int) ≤ k := by omega
        have q1 : (k : Int) < n := by omega
        obtain ⟨x, hgx⟩ : ∃ x, xs[k]? = some x := ⟨_, List.getElem?_eq_getElem (by have := HLX.out; omega)⟩
        obtain ⟨y, hgy⟩ : ∃ y, ys[k]? = some y := ⟨_, List.getElem?_eq_getElem (by have := HLY.out; omega)⟩
        obtain ⟨ad, rfl, hab, e0, e1, e2, e3, e4, e5, e6⟩ := sl_valg (HX.out.below HB.out) hlt hgx
        obtain ⟨bd, rfl, hbb, f0, f1, f2, f3, f4, f5, f6⟩ := sl_valg (HY.out.below HB.out) hlt hgy
        have bx : (ad.add (k * 7)).block < wr.heap.size := by rw [el_block]; exact hab
        have by_ : (bd.add (k * 7)).block < wr.heap.size := by rw [el_block]; exact hbb
        have GX := Lib.hid hgx
        have GY := Lib.hid hgy
        clear hgx hgy
        have q := fun W => run_neq_val x y W
        by_cases hxy : x = y
        · subst hxy
          simp only [decide_true, Bool.not_true] at q
          obtain ⟨xi, xn, xp, xb, xl, xa, xs_⟩ := x
          simp only [ValV.val] at *
          go_wp2
          go_quiet (fail)
          go_wp2
          go_roundw
          case rel =>
            refine ⟨k + 1, by omega, by go_num, ?_, ?_⟩
            · intro i hi
              rcases Nat.lt_or_ge i k with h | h
              · exact HF.out i h
              · obtain rfl : i = k := by omega
                rw [GX.out, GY.out]
            · repeat (first | exact HB.out | with_reducible refine ext_alloc ?_ _ | with_reducible refine ext_drewN ?_ _ | with_reducible refine ext_drew ?_ | with_reducible refine ext_set ?_ (by have := HB.out.size; first | omega | (simp; omega)) _)
          case measure => simp [intOf]; omega
        · have hne : xs ≠ ys := by
            intro h
            rw [HU.out] at h
            have := h k (by have := HLX.out; omega)
            rw [GX.out, GY.out] at this
            injection this with this
            exact hxy this
          simp only [hxy, decide_false, Bool.not_false] at q
          obtain ⟨xi, xn, xp, xb, xl, xa, xs_⟩ := x
          obtain ⟨yi, yn, yp, yb, yl, ya, ys_⟩ := y
          simp only [ValV.val] at *
          have HNE := Lib.hid hne
          clear hne hxy
          go_wp2
          go_quiet (fail)
          go_wp2
          go_ret
          refine ⟨ret_bool (by simp [HNE.out]), ?_⟩
          repeat (first | exact HB.out | with_reducible refine ext_alloc ?_ _ | with_reducible refine ext_drewN ?_ _ | with_reducible refine ext_drew ?_ | with_reducible refine ext_set ?_ (by have := HB.out.size; first | omega | (simp; omega)) _)
      · go_wp2
        go_ret
        refine ⟨ret_bool ?_, HB.out⟩
        symm
        rw [decide_eq_true_iff, HU.out]
        intro i hi
        exact HF.out i (by have := HLX.out; omega)
  · have hne : xs ≠ ys := by
      rintro rfl
      omega
    have g1 : ((n : Int) != (m : Int)) = true := by simp; omega
    have g2 : ((n : Int) == (m : Int)) = false := by simp; omega
    have HNE := Lib.hid hne
    clear hne hnm hlx hly hx hy
    go_enter Try.func17, Try.ntmps17
    go_wp2
    go_ret
    exact ⟨ret_bool (by simp [HNE.out]), Below.refl _ _⟩
end Go.Proofs.Ytlbhnkbchiklnaa
