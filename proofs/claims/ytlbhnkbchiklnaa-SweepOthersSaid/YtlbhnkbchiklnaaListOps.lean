/- What slices.Clone and the reference's Copy and Eq compute of frames and numbers. -/
import Derived.Test.YtlbhnkbchiklnaaEqual
import Derived.Test.YtlbhnkbchiklnaaInts
import Derived.Test.YtlbhnkbchiklnaaRows
import Derived.WalkKit
import Derived.WalkSpells
import Derived.BigQuiet
import Derived.Deep.QuietTactic
namespace Go.Proofs.Ytlbhnkbchiklnaa
open Go.RowKit
set_option linter.unusedVariables false
set_option linter.unusedSimpArgs false
theorem info_frame : (Try.prog.info? 59).map (fun i => (i.zero, i.size, i.bytes)) = some (some (.agg #[.int .i64 0, .int .i64 0, .int .i64 0, .int .i64 0, .int .i64 0, .bool false, .int .i64 0, .int .i64 0, .int .i64 0, .int .i64 0, .int .i64 0, .int .i64 0]), 12, 96) := by kernel_rfl
theorem info_int : (Try.prog.info? 3).map (fun i => (i.zero, i.size, i.bytes)) = some (some (.int .i64 0), 1, 8) := by kernel_rfl
set_option maxHeartbeats 1000000 in
theorem clone_frame (ao : Option Addr) (n cap : Nat) (vs : List FrameV) (w : World) (h : Sl w ao n vs) (hn : n * 96 ≤ 140737488355328) :
    Calls Try.prog 73 #[.slice ao n cap] w (OwnPost w 59 vs) := by
  obtain ⟨i0, hi, hz0, hz1, hz2⟩ := info_parts info_frame
  have hl := h.len
  have hq : ∀ W, (binOp .eql 49 (.slice ao n cap) (.slice none 0 0)).run Try.prog W = .ok (.bool ao.isNone) W := fun W => Lib.run_eql_slice_nil W _ _ ao n cap 0 0 Try.underlying49
  cases ao with
  | none =>
    have hn0 : n = 0 := by
      rcases Nat.eq_zero_or_pos n with h0 | h0
      · exact h0
      · obtain ⟨a, e, _⟩ := h.row h0
        cases e
    have hv : vs = [] := List.eq_nil_of_length_eq_zero (by omega)
    subst hv
    clear h hl hn0
    simp only [Option.isNone_none] at hq
    go_enter Try.func73, Try.ntmps73
    go_wp2
    go_ret
    exact ⟨_, rfl, Own.nil _ _ _, Below.refl _ _⟩
  | some a =>
    simp only [Option.isNone_some] at hq
    have H := Lib.hid h
    have HL := Lib.hid hl
    clear h hl
    go_enter Try.func73, Try.ntmps73
    have c63 : ([] : List FrameV).length + n ≤ maxLen := by unfold maxLen; simp; omega
    have c47 : (([] : List FrameV).length + n) * 96 ≤ 140737488355328 := by simp; omega
    have cB : w.heap.size ≤ (w.alloc (.cells #[] 59)).heap.size := by simp
    have hb0 : Below w.heap.size w (w.alloc (.cells #[] 59)) := (Below.refl _ _).alloc (Nat.le_refl _) _
    go_wp2_with (at_builtin; refine wpList_append_sl rfl (.tmp 5) (.tmp 6) 49 rfl w.heap.size 59 i0 _ 96 Try.underlying49 hi hz0 hz1 hz2 rfl (.slice (some ⟨w.heap.size, 0, none⟩) 0 0) ([] : List FrameV) rfl (own_lit w 59 w.heap.size (Nat.le_refl _) #[] 0 rfl (by decide) rfl) (some a) n cap vs rfl (H.out.alloc _) c63 c47 cB ?_; intro v1 w1 hown1 hgr1 hat1)
    go_ret
    refine ⟨v1, rfl, hown1, hb0.grown hgr1 (by simp) ?_⟩
    intro k hk
    simp [Value.ownBlock] at hk
    omega
set_option maxHeartbeats 1000000 in
theorem clone_int (ao : Option Addr) (n cap : Nat) (vs : List Int) (w : World) (h : Sl w ao n vs) (hn : n * 8 ≤ 140737488355328) :
    Calls Try.prog 74 #[.slice ao n cap] w (OwnPost w 3 vs) := by
  obtain ⟨i0, hi, hz0, hz1, hz2⟩ := info_parts info_int
  have hl := h.len
  have hq : ∀ W, (binOp .eql 50 (.slice ao n cap) (.slice none 0 0)).run Try.prog W = .ok (.bool ao.isNone) W := fun W => Lib.run_eql_slice_nil W _ _ ao n cap 0 0 Try.underlying50
  cases ao with
  | none =>
    have hn0 : n = 0 := by
      rcases Nat.eq_zero_or_pos n with h0 | h0
      · exact h0
      · obtain ⟨a, e, _⟩ := h.row h0
        cases e
    have hv : vs = [] := List.eq_nil_of_length_eq_zero (by omega)
    subst hv
    clear h hl hn0
    simp only [Option.isNone_none] at hq
    go_enter Try.func74, Try.ntmps74
    go_wp2
    go_ret
    exact ⟨_, rfl, Own.nil _ _ _, Below.refl _ _⟩
  | some a =>
    simp only [Option.isNone_some] at hq
    have H := Lib.hid h
    have HL := Lib.hid hl
    clear h hl
    go_enter Try.func74, Try.ntmps74
    have c63 : ([] : List Int).length + n ≤ maxLen := by unfold maxLen; simp; omega
    have c47 : (([] : List Int).length + n) * 8 ≤ 140737488355328 := by simp; omega
    have cB : w.heap.size ≤ (w.alloc (.cells #[] 3)).heap.size := by simp
    have hb0 : Below w.heap.size w (w.alloc (.cells #[] 3)) := (Below.refl _ _).alloc (Nat.le_refl _) _
    go_wp2_with (at_builtin; refine wpList_append_sl rfl (.tmp 5) (.tmp 6) 50 rfl w.heap.size 3 i0 _ 8 Try.underlying50 hi hz0 hz1 hz2 rfl (.slice (some ⟨w.heap.size, 0, none⟩) 0 0) ([] : List Int) rfl (own_lit w 3 w.heap.size (Nat.le_refl _) #[] 0 rfl (by decide) rfl) (some a) n cap vs rfl (H.out.alloc _) c63 c47 cB ?_; intro v1 w1 hown1 hgr1 hat1)
    go_ret
    refine ⟨v1, rfl, hown1, hb0.grown hgr1 (by simp) ?_⟩
    intro k hk
    simp [Value.ownBlock] at hk
    omega
theorem eqU_frame {xs ys : List FrameV} (h : xs.length = ys.length) : (xs = ys) ↔ ∀ i, i < xs.length → xs[i]? = ys[i]? :=
  ⟨fun e i _ => by rw [e], fun h1 => List.ext_getElem? fun i => by
    rcases Nat.lt_or_ge i xs.length with h2 | h2
    · exact h1 i h2
    · rw [List.getElem?_eq_none h2, List.getElem?_eq_none (by omega)]⟩
set_option maxHeartbeats 2000000 in
theorem eq_frame (ao bo : Option Addr) (n m c d : Nat) (xs ys : List FrameV) (w : World) (hx : Sl w ao n xs) (hy : Sl w bo m ys) :
    Calls Try.prog 61 #[.slice ao n c, .slice bo m d] w fun e w' => e = .returned (.bool (decide (xs = ys))) ∧ Below w.heap.size w w' := by
  have hlx := hx.len
  have hly := hy.len
  have hm := hx.max
  unfold maxLen at hm
  by_cases hnm : n = m
  · subst hnm
    have g1 : ((n : Int) != (n : Int)) = false := by simp
    have hu := eqU_frame (xs := xs) (ys := ys) (by omega)
    have HU := Lib.hid hu
    have HLX := Lib.hid hlx
    have HLY := Lib.hid hly
    have HX := Lib.hid hx
    have HY := Lib.hid hy
    clear hu hlx hly hx hy
    go_enter Try.func61, Try.ntmps61
    go_wp2
    go_loopw [14] (fun i wr => ∃ k : Nat, k ≤ n ∧ i = .int .i64 k ∧ (∀ i, i < k → xs[i]? = ys[i]?) ∧ Below w.heap.size w wr) (fun i _ => n - (intOf i).toNat)
    case atStart => exact ⟨0, Nat.zero_le _, rfl, fun i hi => absurd hi (by omega), Below.refl _ _⟩
    case round =>
      obtain ⟨k, hk, rfl, hf, hb⟩ := hrel
      have HF := Lib.hid hf
      have HB := Lib.hid hb
      clear hf hb
      by_cases hlt : k < n
      · have q0 : (0 : Int) ≤ k := by omega
        have q1 : (k : Int) < n := by omega
        obtain ⟨x, hgx⟩ : ∃ x, xs[k]? = some x := ⟨_, List.getElem?_eq_getElem (by have := HLX.out; omega)⟩
        obtain ⟨y, hgy⟩ : ∃ y, ys[k]? = some y := ⟨_, List.getElem?_eq_getElem (by have := HLY.out; omega)⟩
        obtain ⟨ad, rfl, bx, e0, e1, e2, e3, e4, e5, e6, e7, e8, e9, e10, e11⟩ := sl_frame (HX.out.below HB.out) hlt hgx
        obtain ⟨bd, rfl, by_, f0, f1, f2, f3, f4, f5, f6, f7, f8, f9, f10, f11⟩ := sl_frame (HY.out.below HB.out) hlt hgy
        have GX := Lib.hid hgx
        have GY := Lib.hid hgy
        clear hgx hgy
        have q := fun W => run_neq_frame x y W
        by_cases hxy : x = y
        · subst hxy
          simp only [decide_true, Bool.not_true] at q
          obtain ⟨⟨xcp, xcb, xcl, xca, xcs⟩, ⟨xi, xn, ⟨xdp, xdb, xdl, xda, xds⟩⟩⟩ := x
          simp only [FrameV.val] at *
          go_wp2
          go_quiet (fail)
          go_wp2
          go_roundw
          case rel =>
            refine ⟨k + 1, by omega, by go_num, ?_, ?_⟩
            · intro i hi
              rcases Nat.lt_or_ge i k with h | h
              · exact HF.out i h
              · obtain rfl : i = k := by omega
                rw [GX.out, GY.out]
            · repeat (first | exact HB.out | with_reducible refine ext_alloc ?_ _ | with_reducible refine ext_drewN ?_ _ | with_reducible refine ext_drew ?_ | with_reducible refine ext_set ?_ (by have := HB.out.size; first | omega | (simp; omega)) _)
          case measure => simp [intOf]; omega
        · have hne : xs ≠ ys := by
            intro h
            rw [HU.out] at h
            have := h k (by have := HLX.out; omega)
            rw [GX.out, GY.out] at this
            injection this with this
            exact hxy this
          simp only [hxy, decide_false, Bool.not_false] at q
          obtain ⟨⟨xcp, xcb, xcl, xca, xcs⟩, ⟨xi, xn, ⟨xdp, xdb, xdl, xda, xds⟩⟩⟩ := x
          obtain ⟨⟨ycp, ycb, ycl, yca, ycs⟩, ⟨yi, yn, ⟨ydp, ydb, ydl, yda, yds⟩⟩⟩ := y
          simp only [FrameV.val] at *
          have HNE := Lib.hid hne
          clear hne hxy
          go_wp2
          go_quiet (fail)
          go_wp2
          go_ret
          refine ⟨ret_bool (by simp [HNE.out]), ?_⟩
          repeat (first | exact HB.out | with_reducible refine ext_alloc ?_ _ | with_reducible refine ext_drewN ?_ _ | with_reducible refine ext_drew ?_ | with_reducible refine ext_set ?_ (by have := HB.out.size; first | omega | (simp; omega)) _)
      · go_wp2
        go_ret
        refine ⟨ret_bool ?_, HB.out⟩
        symm
        rw [decide_eq_true_iff, HU.out]
        intro i hi
        exact HF.out i (by have := HLX.out; omega)
  · have hne : xs ≠ ys := by
      rintro rfl
      omega
    have g1 : ((n : Int) != (m : Int)) = true := by simp; omega
    have g2 : ((n : Int) == (m : Int)) = false := by simp; omega
    have HNE := Lib.hid hne
    clear hne hnm hlx hly hx hy
    go_enter Try.func61, Try.ntmps61
    go_wp2
    go_ret
    exact ⟨ret_bool (by simp [HNE.out]), Below.refl _ _⟩
theorem eqU_int {xs ys : List Int} (h : xs.length = ys.length) : (xs = ys) ↔ ∀ i, i < xs.length → xs[i]? = ys[i]? :=
  ⟨fun e i _ => by rw [e], fun h1 => List.ext_getElem? fun i => by
    rcases Nat.lt_or_ge i xs.length with h2 | h2
    · exact h1 i h2
    · rw [List.getElem?_eq_none h2, List.getElem?_eq_none (by omega)]⟩
set_option maxHeartbeats 2000000 in
theorem eq_int (ao bo : Option Addr) (n m c d : Nat) (xs ys : List Int) (w : World) (hx : Sl w ao n xs) (hy : Sl w bo m ys) :
    Calls Try.prog 34 #[.slice ao n c, .slice bo m d] w fun e w' => e = .returned (.bool (decide (xs = ys))) ∧ Below w.heap.size w w' := by
  have hlx := hx.len
  have hly := hy.len
  have hm := hx.max
  unfold maxLen at hm
  by_cases hnm : n = m
  · subst hnm
    have g1 : ((n : Int) != (n : Int)) = false := by simp
    have hu := eqU_int (xs := xs) (ys := ys) (by omega)
    have HU := Lib.hid hu
    have HLX := Lib.hid hlx
    have HLY := Lib.hid hly
    have HX := Lib.hid hx
    have HY := Lib.hid hy
    clear hu hlx hly hx hy
    go_enter Try.func34, Try.ntmps34
    go_wp2
    go_loopw [14] (fun i wr => ∃ k : Nat, k ≤ n ∧ i = .int .i64 k ∧ (∀ i, i < k → xs[i]? = ys[i]?) ∧ Below w.heap.size w wr) (fun i _ => n - (intOf i).toNat)
    case atStart => exact ⟨0, Nat.zero_le _, rfl, fun i hi => absurd hi (by omega), Below.refl _ _⟩
    case round =>
      obtain ⟨k, hk, rfl, hf, hb⟩ := hrel
      have HF := Lib.hid hf
      have HB := Lib.hid hb
      clear hf hb
      by_cases hlt : k < n
      · have q0 : (0 : Int) ≤ k := by omega
        have q1 : (k : Int) < n := by omega
        obtain ⟨x, hgx⟩ : ∃ x, xs[k]? = some x := ⟨_, List.getElem?_eq_getElem (by have := HLX.out; omega)⟩
        obtain ⟨y, hgy⟩ : ∃ y, ys[k]? = some y := ⟨_, List.getElem?_eq_getElem (by have := HLY.out; omega)⟩
        obtain ⟨ad, rfl, bx, e0⟩ := sl_int (HX.out.below HB.out) hlt hgx
        obtain ⟨bd, rfl, by_, f0⟩ := sl_int (HY.out.below HB.out) hlt hgy
        have GX := Lib.hid hgx
        have GY := Lib.hid hgy
        clear hgx hgy
        by_cases hxy : x = y
        · subst hxy
          have q : (x != x) = false := by simp
          go_wp2
          go_roundw
          case rel =>
            refine ⟨k + 1, by omega, by go_num, ?_, ?_⟩
            · intro i hi
              rcases Nat.lt_or_ge i k with h | h
              · exact HF.out i h
              · obtain rfl : i = k := by omega
                rw [GX.out, GY.out]
            · repeat (first | exact HB.out | with_reducible refine ext_alloc ?_ _ | with_reducible refine ext_drewN ?_ _ | with_reducible refine ext_drew ?_ | with_reducible refine ext_set ?_ (by have := HB.out.size; first | omega | (simp; omega)) _)
          case measure => simp [intOf]; omega
        · have hne : xs ≠ ys := by
            intro h
            rw [HU.out] at h
            have := h k (by have := HLX.out; omega)
            rw [GX.out, GY.out] at this
            injection this with this
            exact hxy this
          have q : (x != y) = true := by simp [hxy]
          have HNE := Lib.hid hne
          clear hne hxy
          go_wp2
          go_ret
          refine ⟨ret_bool (by simp [HNE.out]), ?_⟩
          repeat (first | exact HB.out | with_reducible refine ext_alloc ?_ _ | with_reducible refine ext_drewN ?_ _ | with_reducible refine ext_drew ?_ | with_reducible refine ext_set ?_ (by have := HB.out.size; first | omega | (simp; omega)) _)
      · go_wp2
        go_ret
        refine ⟨ret_bool ?_, HB.out⟩
        symm
        rw [decide_eq_true_iff, HU.out]
        intro i hi
        exact HF.out i (by have := HLX.out; omega)
  · have hne : xs ≠ ys := by
      rintro rfl
      omega
    have g1 : ((n : Int) != (m : Int)) = true := by simp; omega
    have g2 : ((n : Int) == (m : Int)) = false := by simp; omega
    have HNE := Lib.hid hne
    clear hne hnm hlx hly hx hy
    go_enter Try.func34, Try.ntmps34
    go_wp2
    go_ret
    exact ⟨ret_bool (by simp [HNE.out]), Below.refl _ _⟩
end Go.Proofs.Ytlbhnkbchiklnaa
