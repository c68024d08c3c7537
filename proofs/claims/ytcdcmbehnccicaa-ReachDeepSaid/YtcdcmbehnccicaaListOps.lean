/- What slices.Clone and the reference's Copy and Eq compute of frames and numbers. -/
import Derived.Test.YtcdcmbehnccicaaEqual
import Derived.Test.YtcdcmbehnccicaaInts
import Derived.Test.YtcdcmbehnccicaaRows
import Derived.WalkKit
import Derived.WalkSpells
import Derived.BigQuiet
import Derived.Deep.QuietTactic
namespace Go.Proofs.Ytcdcmbehnccicaa
open Go.RowKit
set_option linter.unusedVariables false
set_option linter.unusedSimpArgs false
theorem info_frame : (Try.prog.info? 68).map (fun i => (i.zero, i.size, i.bytes)) = some (some (.agg #[.int .i64 0, .int .i64 0, .int .i64 0, .int .i64 0, .int .i64 0, .bool false, .int .i64 0, .int .i64 0, .int .i64 0, .int .i64 0, .int .i64 0, .int .i64 0]), 12, 96) := by kernel_rfl
theorem info_int : (Try.prog.info? 3).map (fun i => (i.zero, i.size, i.bytes)) = some (some (.int .i64 0), 1, 8) := by kernel_rfl
theorem eqU_int {xs ys : List Int} (h : xs.length = ys.length) : (xs = ys) ↔ ∀ i, i < xs.length → xs[i]? = ys[i]? :=
  ⟨fun e i _ => by rw [e], fun h1 => List.ext_getElem? fun i => by
    rcases Nat.lt_or_ge i xs.length with h2 | h2
    · exact h1 i h2
    · rw [List.getElem?_eq_none h2, List.getElem?_eq_none (by omega)]⟩
set_option maxHeartbeats 2000000 in
theorem eq_int (ao bo : Option Addr) (n m c d : Nat) (xs ys : List Int) (w : World) (hx : Sl w ao n xs) (hy : Sl w bo m ys) :
    Calls Try.prog 8 #[.slice ao n c, .slice bo m d] w fun e w' => e = .returned (.bool (decide (xs = ys))) ∧ Below w.heap.size w w' := by
  have hlx := hx.len
  have hly := hy.len
  have hm := hx.max
  unfold maxLen at hm
  by_cases hnm : n = m
  · subst hnm
    have g1 : ((n : Int) != (n : Int)) = false := by simp
    have hu := eqU_int (xs := xs) (ys := ys) (by omega)
    have HU := Lib.hid hu
    have HLX := Lib.hid hlx
    have HLY := Lib.hid hly
    have HX := Lib.hid hx
    have HY := Lib.hid hy
    clear hu hlx hly hx hy
    go_enter Try.func8, Try.ntmps8
    go_wp2
    go_loopw [14] (fun i wr => ∃ k : Nat, k ≤ n ∧ i = .int .i64 k ∧ (∀ i, i < k → xs[i]? = ys[i]?) ∧ Below w.heap.size w wr) (fun i _ => n - (intOf i).toNat)
    case atStart => exact ⟨0, Nat.zero_le _, rfl, fun i hi => absurd hi (by omega), Below.refl _ _⟩
    case round =>
      obtain ⟨k, hk, rfl, hf, hb⟩ := hrel
      have HF := Lib.hid hf
      have HB := Lib.hid hb
      clear hf hb
      by_cases hlt : k < n
      · have q0 : (0 : Int) ≤ k := by omega
        have q1 : (k : Int) < n := by omega
        obtain ⟨x, hgx⟩ : ∃ x, xs[k]? = some x := ⟨_, List.getElem?_eq_getElem (by have := HLX.out; omega)⟩
        obtain ⟨y, hgy⟩ : ∃ y, ys[k]? = some y := ⟨_, List.getElem?_eq_getElem (by have := HLY.out; omega)⟩
        obtain ⟨ad, rfl, bx, e0⟩ := sl_int (HX.out.below HB.out) hlt hgx
        obtain ⟨bd, rfl, by_, f0⟩ := sl_int (HY.out.below HB.out) hlt hgy
        have GX := Lib.hid hgx
        have GY := Lib.hid hgy
        clear hgx hgy
        by_cases hxy : x = y
        · subst hxy
          have q : (x != x) = false := by simp
          go_wp2
          go_roundw
          case rel =>
            refine ⟨k + 1, by omega, by go_num, ?_, ?_⟩
            · intro i hi
              rcases Nat.lt_or_ge i k with h | h
              · exact HF.out i h
              · obtain rfl : i = k := by omega
                rw [GX.out, GY.out]
            · repeat (first | exact HB.out | with_reducible refine ext_alloc ?_ _ | with_reducible refine ext_drewN ?_ _ | with_reducible refine ext_drew ?_ | with_reducible refine ext_set ?_ (by have := HB.out.size; first | omega | (simp; omega)) _)
          case measure => simp [intOf]; omega
        · have hne : xs ≠ ys := by
            intro h
            rw [HU.out] at h
            have := h k (by have := HLX.out; omega)
            rw [GX.out, GY.out] at this
            injection this with this
            exact hxy this
          have q : (x != y) = true := by simp [hxy]
          have HNE := Lib.hid hne
          clear hne hxy
          go_wp2
          go_ret
          refine ⟨ret_bool (by simp [HNE.out]), ?_⟩
          repeat (first | exact HB.out | with_reducible refine ext_alloc ?_ _ | with_reducible refine ext_drewN ?_ _ | with_reducible refine ext_drew ?_ | with_reducible refine ext_set ?_ (by have := HB.out.size; first | omega | (simp; omega)) _)
      · go_wp2
        go_ret
        refine ⟨ret_bool ?_, HB.out⟩
        symm
        rw [decide_eq_true_iff, HU.out]
        intro i hi
        exact HF.out i (by have := HLX.out; omega)
  · have hne : xs ≠ ys := by
      rintro rfl
      omega
    have g1 : ((n : Int) != (m : Int)) = true := by simp; omega
    have g2 : ((n : Int) == (m : Int)) = false := by simp; omega
    have HNE := Lib.hid hne
    clear hne hnm hlx hly hx hy
    go_enter Try.func8, Try.ntmps8
    go_wp2
    go_ret
    exact ⟨ret_bool (by simp [HNE.out]), Below.refl _ _⟩
end Go.Proofs.Ytcdcmbehnccicaa
