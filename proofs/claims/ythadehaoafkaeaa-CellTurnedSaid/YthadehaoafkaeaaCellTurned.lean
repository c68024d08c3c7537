/- The walk of CellTurned. -/
import Derived.Test.YthadehaoafkaeaaCellSame
import Derived.Test.YthadehaoafkaeaaNum
import Derived.Deep.RegionWith
import Derived.Deep.DeepCutAuto
namespace Go.Proofs.Ythadehaoafkaeaa
open Go.RowKit
set_option linter.unusedVariables false
theorem cutIn {p q : Prop} (h : p) (k : p → q) : q := k h
/-- A text with one byte another. -/
theorem turned_text (S : ByteArray) (h : S.size = 10) (j : Nat) (hj : j < 10) (c : UInt8) : S.extract 0 j ++ ⟨#[c]⟩ ++ S.extract (j + 1) 10 = ⟨(S.data.toList.set j c).toArray⟩ := by
  refine Go.WideShapes.bytes_inj ?_
  have hl : S.data.toList.length = 10 := h
  have e : (S.extract 0 j ++ ⟨#[c]⟩ ++ S.extract (j + 1) 10).data.toList = S.data.toList.take j ++ [c] ++ (S.data.toList.take 10).drop (j + 1) := by
    simp [List.extract, List.drop_take]
  rw [e, List.take_of_length_le (i := 10) (by omega), List.set_eq_take_append_cons_drop, if_pos (by omega)]
  simp
theorem set_same (S : ByteArray) (h : S.size = 10) (j : Nat) (hj : j < 10) : (⟨(S.data.toList.set j (S[j]'(by omega))).toArray⟩ : ByteArray) = S := by
  obtain ⟨c0, c1, c2, c3, c4, c5, c6, c7, c8, c9, rfl⟩ := ten_bytes S h
  match j, hj with
  | 0, _ | 1, _ | 2, _ | 3, _ | 4, _ | 5, _ | 6, _ | 7, _ | 8, _ | 9, _ => rfl
theorem getD_at (S : ByteArray) (h : S.size = 10) (j : Nat) (hj : j < 10) : S.data.toList.getD j 0 = S[j]'(by omega) := by
  obtain ⟨c0, c1, c2, c3, c4, c5, c6, c7, c8, c9, rfl⟩ := ten_bytes S h
  match j, hj with
  | 0, _ | 1, _ | 2, _ | 3, _ | 4, _ | 5, _ | 6, _ | 7, _ | 8, _ | 9, _ => rfl
theorem byte_bd {n : Int} (h : (Lit.int .u8 n).wf = true) : 0 ≤ n ∧ n ≤ 255 := by
  simp [Lit.wf, IntKind.min, IntKind.max, IntKind.bits, IntKind.signed] at h
  omega
set_option maxHeartbeats 1000000 in
theorem cellTurned_walk (v : ValV) (at_ c : Int) (_ : v.wf) (ha : (Lit.int .i64 at_).wf = true) (hc : (Lit.int .u8 c).wf = true) (w : World) :
    Calls Try.prog 8 #[v.val, .int .i64 at_, .int .u8 c] w fun e w' => e = .returned (.bool true) ∧ Below w.heap.size w w' := by
  obtain ⟨cb, rfl⟩ : ∃ cb : UInt8, c = (cb.toNat : Int) := ⟨bN c, by have := byte_bd hc; rw [bN_id this.1 (by omega)]⟩
  have k0 := fun W => pack_num 1 (by decide) (by decide) W
  have z0 : (packS (.num 1)).size = 10 := packS_size _
  have y0 : ∃ h : 4 < (packS (.num 1)).size, ((packS (.num 1))[4]'h).toNat = 1 := ⟨by decide +kernel, by kernel_rfl⟩
  generalize packS (.num 1) = S0 at *
  obtain ⟨y1, y0⟩ := y0
  have k1 := fun W => pack_any v W
  by_cases hv : valCheck v = 0
  · have hV := (valCheck_zero v).1 hv
    have z1 := packS_size v
    simp only [hv, if_true] at k1
    generalize hS : packS v = S at *
    obtain ⟨is, n, p, b, l, a, s⟩ := v
    simp only [ValV.val] at k1 ⊢
    have C0 := Lib.hid k0
    have C1 := Lib.hid k1
    clear k0 k1 hv
    have HV := Lib.hid hV
    have HSS := Lib.hid hS
    clear hV hS
    go_enter Try.func8, Try.ntmps8
    go_wp2_with (first
      | (go_at_call 26; ((with_reducible refine (C0.out _).mono ?_); rintro e w1 ⟨rfl, hb1⟩; have vB : Bk w1 (w.heap.size) 41 #[.bool is, .int .i64 n, .int .i64 p, .int .i64 b, .int .i64 l, .int .i64 a, .int .i64 s] := bk_keep hb1 (by repeat (first | with_reducible assumption | with_reducible exact bk_new _ _ _ | (with_reducible refine bk_new' _ _ ?_; simp; done) | with_reducible refine bk_drew ?_ | with_reducible refine bk_drewN _ ?_ | with_reducible refine bk_old _ ?_ | (with_reducible refine bk_far' _ (by omega) ?_) | with_reducible apply bk_set' | rfl)); (try clear v0 v1 v2 v3 v4 v5 v6); obtain ⟨v0, v1, v2, v3, v4, v5, v6⟩ := cells7 vB; have vL := vB.lt))
      | (go_at_call 26; ((with_reducible refine (C1.out _).mono ?_); rintro e w2 ⟨rfl, hb2⟩; have vB : Bk w2 (w.heap.size) 41 #[.bool is, .int .i64 n, .int .i64 p, .int .i64 b, .int .i64 l, .int .i64 a, .int .i64 s] := bk_keep hb2 (by repeat (first | with_reducible assumption | with_reducible exact bk_new _ _ _ | (with_reducible refine bk_new' _ _ ?_; simp; done) | with_reducible refine bk_drew ?_ | with_reducible refine bk_drewN _ ?_ | with_reducible refine bk_old _ ?_ | (with_reducible refine bk_far' _ (by omega) ?_) | with_reducible apply bk_set' | rfl)); (try clear v0 v1 v2 v3 v4 v5 v6); obtain ⟨v0, v1, v2, v3, v4, v5, v6⟩ := cells7 vB; have vL := vB.lt))
      | (go_at_call 17; refine (rest_any _ _ _ (by omega) (by omega)).mono ?_; rintro e w' ⟨rfl, rfl⟩))
    have m0 : 0 ≤ at_ % 10 := by omega
    have m1 : at_ % 10 < 10 := by omega
    generalize at_ % 10 = i at *
    obtain ⟨j, rfl⟩ := Int.eq_ofNat_of_zero_le m0
    have m2 : j < 10 := by omega
    have hcv := row_string (P := Try.prog) ((own_fresh w2 5 #[bV cb] 1 (Nat.le_refl _) rfl (by decide)).drew) Try.underlying47 Try.underlying5 Try.underlying9 (l := [cb])
    have hcv2 := row_string (P := Try.prog) ((own_freshg (w2.alloc (.cells #[.bool false, .int .i64 0, .int .i64 0, .int .i64 0, .int .i64 0, .int .i64 0, .int .i64 0] 41)) (g := w2.heap.size + 1) (by simp) 5 #[bV cb] 1 (Nat.le_refl _) rfl (by decide)).drew) Try.underlying47 Try.underlying5 Try.underlying9 (l := [cb])
    have hcv3 := row_string (P := Try.prog) (((own_fresh w2 5 #[bV cb] 1 (Nat.le_refl _) rfl (by decide)).alloc (.cells #[.bool false, .int .i64 0, .int .i64 0, .int .i64 0, .int .i64 0, .int .i64 0, .int .i64 0] 41)).drew) Try.underlying47 Try.underlying5 Try.underlying9 (l := [cb])
    simp only [bV] at hcv hcv2 hcv3
    have hT := turned_text S z1 j m2 cb
    have hr : readR (S.extract 0 j ++ ⟨#[cb]⟩ ++ S.extract (j + 1) 10) = if (S[j]'(by omega)) = cb then (⟨is, n, ⟨p, b, l, a, s⟩⟩, 0) else (zeroV, 6) := by
      rw [hT]
      split
      · rename_i h
        rw [← h, set_same S z1 j m2, ← HSS.out]
        exact read_pack HV.out
      · rename_i h
        have h6 : (readR ⟨(S.data.toList.set j cb).toArray⟩).2 = 6 := by
          rw [← HSS.out]
          refine read_turned HV.out j m2 cb ?_
          rw [HSS.out, getD_at S z1 j m2]
          exact h
        exact Prod.ext (read_none (by rw [h6]; decide)) h6
    have k5 := fun W => read_any (S.extract 0 j ++ ⟨#[cb]⟩ ++ S.extract (j + 1) 10) (by rw [hT]; show (S.data.toList.set j cb).toArray.size ≤ maxLen; have : S.data.toList.length = 10 := z1; simp only [List.size_toArray, List.length_set, this]; decide) W
    generalize hRR : readR (S.extract 0 j ++ ⟨#[cb]⟩ ++ S.extract (j + 1) 10) = RR at *
    obtain ⟨⟨ri, rn, rp, rb, rl, ra, rs⟩, rc⟩ := RR
    simp only [ValV.val] at k5
    have HR := Lib.hid hr
    have C5 := Lib.hid k5
    clear hr hT k5 hRR
    have hwj : IntKind.i64.wrap ((j : Int) + 1) = (j : Int) + 1 := IntWalk.i64_in _ ⟨by omega, by omega⟩
    have sl1 : ∀ W, (Instr.slice 9 (.string S) none (some (.int .i64 (j : Int))) none).run Try.prog W = .ok (.string (S.extract 0 j)) W := fun W => by
      rw [run_slice_string_to_if _ _ _ _ _ Try.underlying9, if_pos ⟨by omega, by omega⟩]; simp
    have sl2 : ∀ W, (Instr.slice 9 (.string S) (some (.int .i64 ((j : Int) + 1))) none none).run Try.prog W = .ok (.string (S.extract (j + 1) 10)) W := fun W => by
      rw [run_slice_string_from_if _ _ _ _ _ Try.underlying9, if_pos ⟨by omega, by omega⟩, z1]; congr 2
    have sl3 : ∀ W, (Instr.slice 9 (.string S) (some (.int .i64 (IntKind.i64.wrap ((j : Int) + 1)))) none none).run Try.prog W = .ok (.string (S.extract (j + 1) 10)) W := fun W => by rw [hwj]; exact sl2 W
    clear hwj
    go_cut [12] (fun s12 W => s12 = .int .i64 rc ∧ Below w.heap.size w W)
    case first =>
      go_region_with (go_at_call 28; (with_reducible refine (C5.out _).mono ?_); rintro e w3 ⟨rfl, hb3⟩; (first | (refine cutIn (p := Bk w3 (w2.heap.size + 1) 41 #[.bool false, .int .i64 0, .int .i64 0, .int .i64 0, .int .i64 0, .int .i64 0, .int .i64 0]) (bk_keep hb3 (bk_drew (bk_new' (w := w2.alloc (.cells #[.int .u8 (cb.toNat : Int)] 5)) 41 #[.bool false, .int .i64 0, .int .i64 0, .int .i64 0, .int .i64 0, .int .i64 0, .int .i64 0] (World.size_alloc _ _).symm))) ?_; intro zB; obtain ⟨z0, z1, z2, z3, z4, z5, z6⟩ := cells7 zB; have zL := zB.lt; have zF := fun i => Bk.frozen zB i) | (refine cutIn (p := Bk w3 (w2.heap.size) 41 #[.bool false, .int .i64 0, .int .i64 0, .int .i64 0, .int .i64 0, .int .i64 0, .int .i64 0]) (bk_keep hb3 (bk_drew (bk_old (.cells #[.int .u8 (cb.toNat : Int)] 5) (bk_new w2 41 #[.bool false, .int .i64 0, .int .i64 0, .int .i64 0, .int .i64 0, .int .i64 0, .int .i64 0])))) ?_; intro zB; obtain ⟨z0, z1, z2, z3, z4, z5, z6⟩ := cells7 zB; have zL := zB.lt; have zF := fun i => Bk.frozen zB i) | skip))
      all_goals (go_wp2_with fail; go_meet; refine ⟨rfl, ?_⟩; repeat (first | with_reducible exact Below.refl _ _ | with_reducible refine ext_alloc ?_ _ | with_reducible refine ext_drew ?_ | with_reducible refine ext_set ?_ (by first | omega | (simp; done) | (simp; omega)) _ | with_reducible refine ext_trans ?_ ‹_›))
    case rest =>
      obtain ⟨rfl, hbW⟩ := hcut
      by_cases hb : (S[j]'(by omega)) = cb
      · have hr := HR.out
        rw [if_pos hb] at hr
        injection hr with _ hr
        subst hr
        have q1 : (((S[j]'(by omega)).toNat : Int) == (cb.toNat : Int)) = true := by rw [hb]; simp
        have HBW := Lib.hid hbW
        clear hb hbW
        go_wp2
        go_ret
        exact ⟨rfl, HBW.out⟩
      · have hr := HR.out
        rw [if_neg hb] at hr
        injection hr with _ hr
        subst hr
        have q1 : (((S[j]'(by omega)).toNat : Int) == (cb.toNat : Int)) = false := by
          rw [beq_eq_false_iff_ne]
          intro h
          exact hb (UInt8.toNat_inj.1 (Int.ofNat.inj h))
        have HBW := Lib.hid hbW
        clear hb hbW
        go_wp2
        go_ret
        exact ⟨rfl, HBW.out⟩
  · simp only [hv, if_false] at k1
    have c1 : (valCheck v == 0) = false := by simpa using hv
    have c2 : (valCheck v != 0) = true := by simpa using hv
    generalize valCheck v = e at *
    obtain ⟨is, n, p, b, l, a, s⟩ := v
    simp only [ValV.val] at k1 ⊢
    have C0 := Lib.hid k0
    have C1 := Lib.hid k1
    clear k0 k1 hv
    go_enter Try.func8, Try.ntmps8
    go_wp2_with (first
      | (go_at_call 26; ((with_reducible refine (C0.out _).mono ?_); rintro e w1 ⟨rfl, hb1⟩; have vB : Bk w1 (w.heap.size) 41 #[.bool is, .int .i64 n, .int .i64 p, .int .i64 b, .int .i64 l, .int .i64 a, .int .i64 s] := bk_keep hb1 (by repeat (first | with_reducible assumption | with_reducible exact bk_new _ _ _ | (with_reducible refine bk_new' _ _ ?_; simp; done) | with_reducible refine bk_drew ?_ | with_reducible refine bk_drewN _ ?_ | with_reducible refine bk_old _ ?_ | (with_reducible refine bk_far' _ (by omega) ?_) | with_reducible apply bk_set' | rfl)); (try clear v0 v1 v2 v3 v4 v5 v6); obtain ⟨v0, v1, v2, v3, v4, v5, v6⟩ := cells7 vB; have vL := vB.lt))
      | (go_at_call 26; ((with_reducible refine (C1.out _).mono ?_); rintro e w2 ⟨rfl, hb2⟩; have vB : Bk w2 (w.heap.size) 41 #[.bool is, .int .i64 n, .int .i64 p, .int .i64 b, .int .i64 l, .int .i64 a, .int .i64 s] := bk_keep hb2 (by repeat (first | with_reducible assumption | with_reducible exact bk_new _ _ _ | (with_reducible refine bk_new' _ _ ?_; simp; done) | with_reducible refine bk_drew ?_ | with_reducible refine bk_drewN _ ?_ | with_reducible refine bk_old _ ?_ | (with_reducible refine bk_far' _ (by omega) ?_) | with_reducible apply bk_set' | rfl)); (try clear v0 v1 v2 v3 v4 v5 v6); obtain ⟨v0, v1, v2, v3, v4, v5, v6⟩ := cells7 vB; have vL := vB.lt))
      | (go_at_call 17; refine (rest_any _ _ _ (by omega) (by omega)).mono ?_; rintro e w' ⟨rfl, rfl⟩))
    all_goals (go_ret; refine ⟨rfl, ?_⟩; repeat (first | with_reducible exact Below.refl _ _ | with_reducible refine ext_alloc ?_ _ | with_reducible refine ext_drew ?_ | with_reducible refine ext_set ?_ (by first | omega | (simp; done) | (simp; omega)) _ | with_reducible refine ext_trans ?_ ‹_›))
end Go.Proofs.Ythadehaoafkaeaa
