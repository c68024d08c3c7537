import Derived.BigQuiet
import Derived.Deep.QuietTactic
import Derived.Test.YtcdcmbehnccicaaBuC
import Derived.Test.YtcdcmbehnccicaaKeysSeqZ
import Derived.Test.YtcdcmbehnccicaaRows
import Derived.WalkKit
import Derived.WalkSpells
/- What the reference's Eq and Has compute of keys. -/
namespace Go.Proofs.Ytcdcmbehnccicaa
open Go.RowKit
set_option linter.unusedVariables false
theorem sl_keyS {w : World} {ao : Option Addr} {n : Nat} {ks : List KeyV} (h : Sl w ao n ks) {i : Nat} (hi : i < n) {x : KeyV} (hx : ks[i]? = some x) : ∃ a, ao = some a ∧ (a.add (i * 5)).block < w.heap.size ∧
    w.cell? (a.add (i * 5)) = some (.int .i64 x.perm) ∧ w.cell? ⟨(a.add (i * 5)).block, (a.add (i * 5)).off + 1, none⟩ = some (.int .i64 x.base) ∧ w.cell? ⟨(a.add (i * 5)).block, (a.add (i * 5)).off + 2, none⟩ = some (.int .i64 x.len) ∧ w.cell? ⟨(a.add (i * 5)).block, (a.add (i * 5)).off + 3, none⟩ = some (.int .i64 x.at_) ∧ w.cell? ⟨(a.add (i * 5)).block, (a.add (i * 5)).off + 4, none⟩ = some (.int .i64 x.seal_) := by
  obtain ⟨a, y, e, hb, hy, hc⟩ := h.at hi
  obtain rfl : y = x := by rw [hx] at hy; injection hy with hy; exact hy.symm
  refine ⟨a, e, by rw [el_block]; exact hb, ?_⟩
  rw [← add_more a (i * 5) 1 (by decide), ← add_more a (i * 5) 2 (by decide), ← add_more a (i * 5) 3 (by decide), ← add_more a (i * 5) 4 (by decide)]
  exact ⟨hc 0 _ rfl, hc 1 _ rfl, hc 2 _ rfl, hc 3 _ rfl, hc 4 _ rfl⟩
theorem run_neq_keyS (x y : KeyV) (W : World) : (binOp .neq 23 x.val y.val).run Try.prog W = .ok (.bool (!decide (x = y))) W := by
  obtain ⟨a, b, c, d, e⟩ := x
  obtain ⟨a2, b2, c2, d2, e2⟩ := y
  simp only [KeyV.val, KeyV.mk.injEq]
  rw [run_neq_struct]
  go_simp
  repeat' split
  all_goals simp [*]
theorem run_eql_keyS (x y : KeyV) (W : World) : (binOp .eql 23 x.val y.val).run Try.prog W = .ok (.bool (decide (x = y))) W := by
  obtain ⟨a, b, c, d, e⟩ := x
  obtain ⟨a2, b2, c2, d2, e2⟩ := y
  simp only [KeyV.val, KeyV.mk.injEq]
  rw [run_eql_struct]
  go_simp
  repeat' split
  all_goals simp [*]
theorem eqk_upto {xs ys : List KeyV} (h : xs.length = ys.length) : (xs = ys) ↔ ∀ i, i < xs.length → xs[i]? = ys[i]? :=
  ⟨fun e i _ => by rw [e], fun h1 => List.ext_getElem? fun i => by
    rcases Nat.lt_or_ge i xs.length with h2 | h2
    · exact h1 i h2
    · rw [List.getElem?_eq_none h2, List.getElem?_eq_none (by omega)]⟩
set_option maxHeartbeats 2000000 in
theorem eq_keyS (ao bo : Option Addr) (n m c d : Nat) (xs ys : List KeyV) (w : World) (hx : Sl w ao n xs) (hy : Sl w bo m ys) :
    Calls Try.prog 11 #[.slice ao n c, .slice bo m d] w fun e w' => e = .returned (.bool (decide (xs = ys))) ∧ Below w.heap.size w w' := by
  have hlx := hx.len
  have hly := hy.len
  have hm := hx.max
  unfold maxLen at hm
  by_cases hnm : n = m
  · subst hnm
    have g1 : ((n : Int) != (n : Int)) = false := by simp
    have hu := eqk_upto (xs := xs) (ys := ys) (by omega)
    have HU := Lib.hid hu
    have HLX := Lib.hid hlx
    have HLY := Lib.hid hly
    have HX := Lib.hid hx
    have HY := Lib.hid hy
    clear hu hlx hly hx hy
    go_enter Try.func11, Try.ntmps11
    go_wp2
    go_loopw [14] (fun i wr => ∃ k : Nat, k ≤ n ∧ i = .int .i64 k ∧ (∀ i, i < k → xs[i]? = ys[i]?) ∧ Below w.heap.size w wr) (fun i _ => n - (intOf i).toNat)
    case atStart => exact ⟨0, Nat.zero_le _, rfl, fun i hi => absurd hi (by omega), Below.refl _ _⟩
    case round =>
      obtain ⟨k, hk, rfl, hf, hb⟩ := hrel
      have HF := Lib.hid hf
      have HB := Lib.hid hb
      clear hf hb
      by_cases hlt : k < n
      · have q0 : (0 : Int) ≤ k := by omega
        have q1 : (k : Int) < n := by omega
        obtain ⟨x, hgx⟩ : ∃ x, xs[k]? = some x := ⟨_, List.getElem?_eq_getElem (by have := HLX.out; omega)⟩
        obtain ⟨y, hgy⟩ : ∃ y, ys[k]? = some y := ⟨_, List.getElem?_eq_getElem (by have := HLY.out; omega)⟩
        obtain ⟨ad, rfl, bx, e0, e1, e2, e3, e4⟩ := sl_keyS (HX.out.below HB.out) hlt hgx
        obtain ⟨bd, rfl, by_, f0, f1, f2, f3, f4⟩ := sl_keyS (HY.out.below HB.out) hlt hgy
        have GX := Lib.hid hgx
        have GY := Lib.hid hgy
        clear hgx hgy
        have q := fun W => run_neq_keyS x y W
        by_cases hxy : x = y
        · subst hxy
          simp only [decide_true, Bool.not_true] at q
          obtain ⟨xp, xb, xl, xa, xs_⟩ := x
          simp only [KeyV.val] at *
          go_wp2
          go_quiet (fail)
          go_wp2
          go_roundw
          case rel =>
            refine ⟨k + 1, by omega, by go_num, ?_, ?_⟩
            · intro i hi
              rcases Nat.lt_or_ge i k with h | h
              · exact HF.out i h
              · obtain rfl : i = k := by omega
                rw [GX.out, GY.out]
            · repeat (first | exact HB.out | with_reducible refine ext_alloc ?_ _ | with_reducible refine ext_drewN ?_ _ | with_reducible refine ext_drew ?_ | with_reducible refine ext_set ?_ (by have := HB.out.size; first | omega | (simp; omega)) _)
          case measure => simp [intOf]; omega
        · have hne : xs ≠ ys := by
            intro h
            rw [HU.out] at h
            have := h k (by have := HLX.out; omega)
            rw [GX.out, GY.out] at this
            injection this with this
            exact hxy this
          simp only [hxy, decide_false, Bool.not_false] at q
          obtain ⟨xp, xb, xl, xa, xs_⟩ := x
          obtain ⟨yp, yb, yl, ya, ys_⟩ := y
          simp only [KeyV.val] at *
          have HNE := Lib.hid hne
          clear hne hxy
          go_wp2
          go_quiet (fail)
          go_wp2
          go_ret
          refine ⟨ret_bool (by simp [HNE.out]), ?_⟩
          repeat (first | exact HB.out | with_reducible refine ext_alloc ?_ _ | with_reducible refine ext_drewN ?_ _ | with_reducible refine ext_drew ?_ | with_reducible refine ext_set ?_ (by have := HB.out.size; first | omega | (simp; omega)) _)
      · go_wp2
        go_ret
        refine ⟨ret_bool ?_, HB.out⟩
        symm
        rw [decide_eq_true_iff, HU.out]
        intro i hi
        exact HF.out i (by have := HLX.out; omega)
  · have hne : xs ≠ ys := by
      rintro rfl
      omega
    have g1 : ((n : Int) != (m : Int)) = true := by simp; omega
    have g2 : ((n : Int) == (m : Int)) = false := by simp; omega
    have HNE := Lib.hid hne
    clear hne hnm hlx hly hx hy
    go_enter Try.func11, Try.ntmps11
    go_wp2
    go_ret
    exact ⟨ret_bool (by simp [HNE.out]), Below.refl _ _⟩
set_option maxHeartbeats 2000000 in
theorem has_keyS (ao : Option Addr) (n c : Nat) (xs : List KeyV) (y : KeyV) (w : World) (hx : Sl w ao n xs) :
    Calls Try.prog 13 #[.slice ao n c, y.val] w fun e w' => e = .returned (.bool (decide (y ∈ xs))) ∧ Below w.heap.size w w' := by
  have hlx := hx.len
  have hm := hx.max
  unfold maxLen at hm
  have HLX := Lib.hid hlx
  have HX := Lib.hid hx
  clear hlx hx
  obtain ⟨yp, yb, yl, ya, ys_⟩ := y
  simp only [KeyV.val]
  go_enter Try.func13, Try.ntmps13
  go_wp2
  go_loopw [9] (fun i wr => ∃ k : Nat, k ≤ n ∧ i = .int .i64 k ∧ (∀ i, i < k → xs[i]? ≠ some ⟨yp, yb, yl, ya, ys_⟩) ∧ Bk wr w.heap.size 23 #[.int .i64 yp, .int .i64 yb, .int .i64 yl, .int .i64 ya, .int .i64 ys_] ∧ Below w.heap.size w wr) (fun i _ => n - (intOf i).toNat)
  case atStart => exact ⟨0, Nat.zero_le _, rfl, fun i hi => absurd hi (by omega), bk_new _ _ _, ext_alloc (Below.refl _ _) _⟩
  case round =>
    obtain ⟨k, hk, rfl, hf, hB, hb⟩ := hrel
    have HF := Lib.hid hf
    have HB := Lib.hid hb
    obtain ⟨b0, b1, b2, b3, b4⟩ := cells5 hB
    have bL := hB.lt
    clear hf hb
    by_cases hlt : k < n
    · have q0 : (0 : Int) ≤ k := by omega
      have q1 : (k : Int) < n := by omega
      obtain ⟨x, hgx⟩ : ∃ x, xs[k]? = some x := ⟨_, List.getElem?_eq_getElem (by have := HLX.out; omega)⟩
      obtain ⟨ad, rfl, bx, e0, e1, e2, e3, e4⟩ := sl_keyS (HX.out.below HB.out) hlt hgx
      have GX := Lib.hid hgx
      clear hgx
      have q := fun W => run_eql_keyS ⟨yp, yb, yl, ya, ys_⟩ x W
      have q' := fun W => run_eql_keyS x ⟨yp, yb, yl, ya, ys_⟩ W
      by_cases hxy : x = ⟨yp, yb, yl, ya, ys_⟩
      · subst hxy
        simp only [decide_true, KeyV.val] at q
        clear q'
        go_wp2
        go_ret
        refine ⟨ret_bool (by symm; rw [decide_eq_true_iff]; exact List.mem_of_getElem? GX.out), ?_⟩
        repeat (first | exact HB.out | with_reducible refine ext_alloc ?_ _ | with_reducible refine ext_drewN ?_ _ | with_reducible refine ext_drew ?_ | with_reducible refine ext_set ?_ (by have := HB.out.size; first | omega | (simp; omega)) _)
      · have hyx : ¬ (⟨yp, yb, yl, ya, ys_⟩ : KeyV) = x := fun h => hxy h.symm
        simp only [hxy, hyx, decide_false] at q q'
        have HXY := Lib.hid hxy
        clear hxy hyx
        obtain ⟨xp, xb, xl, xa, xs_⟩ := x
        simp only [KeyV.val] at q q' e0 e1 e2 e3 e4
        go_wp2
        go_roundw
        case rel =>
          refine ⟨k + 1, by omega, by go_num, ?_, bk_old _ hB, ?_⟩
          · intro i hi
            rcases Nat.lt_or_ge i k with h | h
            · exact HF.out i h
            · obtain rfl : i = k := by omega
              rw [GX.out]
              intro e
              injection e with e
              exact HXY.out e
          · repeat (first | exact HB.out | with_reducible refine ext_alloc ?_ _ | with_reducible refine ext_drewN ?_ _ | with_reducible refine ext_drew ?_ | with_reducible refine ext_set ?_ (by have := HB.out.size; first | omega | (simp; omega)) _)
        case measure => simp [intOf]; omega
    · go_wp2
      go_ret
      refine ⟨ret_bool ?_, HB.out⟩
      symm
      rw [decide_eq_false_iff_not]
      intro hm
      obtain ⟨i, hi⟩ := List.mem_iff_getElem?.1 hm
      exact HF.out i (by have := (List.getElem?_eq_some_iff.1 hi).1; have := HLX.out; omega) hi
end Go.Proofs.Ytcdcmbehnccicaa
