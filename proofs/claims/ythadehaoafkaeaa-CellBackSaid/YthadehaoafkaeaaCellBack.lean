/- The walk of CellBack. -/
import Derived.Test.YthadehaoafkaeaaCellSame
namespace Go.Proofs.Ythadehaoafkaeaa
open Go.RowKit
set_option linter.unusedVariables false
set_option maxHeartbeats 4000000 in
theorem cellBack_walk (v : ValV) (t : ByteArray) (_ : v.wf) (hs : t.size ≤ maxLen) (w : World) : Calls Try.prog 9 #[v.val, .string t] w fun e w' => e = .returned (.bool true) ∧ Below w.heap.size w w' := by
  have k1 := fun W => pack_any v W
  have k2 : ∀ W, Calls Try.prog 29 #[v.val] W fun e w' => e = .returned (.int .i64 (valCheck v)) ∧ Below W.heap.size W w' := fun W => ccheck_any v.is v.n v.k.perm v.k.base v.k.len v.k.at_ v.k.seal_ W
  have k5 := fun W => read_any t hs W
  have r0 : (readR t).2 = 0 → (readR t).1.Ok ∧ packS (readR t).1 = t := read_zero
  have r1 : (readR t).2 ≠ 0 → (readR t).1 = zeroV := read_none
  generalize readR t = R at *
  obtain ⟨U, f⟩ := R
  simp only at r0 r1 k5
  by_cases hc : valCheck v = 0
  · have hv := (valCheck_zero v).1 hc
    have z1 := packS_size v
    have k3 := fun W => read_any (packS v) (by rw [z1]; decide) W
    rw [read_pack hv] at k3
    have k4 := fun W => same_any v v W
    simp only [hc, if_true, decide_true] at k1 k2 k3 k4
    generalize packS v = S1 at *
    obtain ⟨is, n, p, b, l, a, s⟩ := v
    clear hc hv
    simp only [ValV.val] at k1 k2 k3 k4 ⊢
    have C1 := Lib.hid k1
    have C2 := Lib.hid k2
    have C3 := Lib.hid k3
    have C4 := Lib.hid k4
    clear k1 k2 k3 k4
    by_cases hf : f = 0
    · subst hf
      obtain ⟨hU, rfl⟩ := r0 rfl
      have k6 := fun W => pack_any U W
      rw [(valCheck_zero U).2 hU, if_pos rfl] at k6
      clear r0 r1 hU
      generalize packS U = t at *
      obtain ⟨is2, n2, p2, b2, l2, a2, s2⟩ := U
      simp only [ValV.val] at *
      have C5 := Lib.hid k5
      have C6 := Lib.hid k6
      clear k5 k6
      go_enter Try.func9, Try.ntmps9
      go_wp2_with (first
        | (go_at_call 26; ((with_reducible refine (C1.out _).mono ?_); rintro e w1 ⟨rfl, hb1⟩; have vB : Bk w1 (w.heap.size) 41 #[.bool is, .int .i64 n, .int .i64 p, .int .i64 b, .int .i64 l, .int .i64 a, .int .i64 s] := bk_keep hb1 (by repeat (first | assumption | with_reducible exact bk_new _ _ _ | (with_reducible refine bk_new' _ _ ?_; simp; done) | with_reducible refine bk_drew ?_ | with_reducible refine bk_drewN _ ?_ | with_reducible refine bk_old _ ?_ | (with_reducible refine bk_far' _ (by omega) ?_) | with_reducible apply bk_set' | rfl)); (try clear v0 v1 v2 v3 v4 v5 v6); obtain ⟨v0, v1, v2, v3, v4, v5, v6⟩ := cells7 vB; have vL := vB.lt))
        | (go_at_call 29; ((with_reducible refine (C2.out _).mono ?_); rintro e w2 ⟨rfl, hb2⟩; have vB : Bk w2 (w.heap.size) 41 #[.bool is, .int .i64 n, .int .i64 p, .int .i64 b, .int .i64 l, .int .i64 a, .int .i64 s] := bk_keep hb2 (by repeat (first | assumption | with_reducible exact bk_new _ _ _ | (with_reducible refine bk_new' _ _ ?_; simp; done) | with_reducible refine bk_drew ?_ | with_reducible refine bk_drewN _ ?_ | with_reducible refine bk_old _ ?_ | (with_reducible refine bk_far' _ (by omega) ?_) | with_reducible apply bk_set' | rfl)); (try clear v0 v1 v2 v3 v4 v5 v6); obtain ⟨v0, v1, v2, v3, v4, v5, v6⟩ := cells7 vB; have vL := vB.lt))
        | (go_at_call 28; ((with_reducible refine (C3.out _).mono ?_); rintro e w3 ⟨rfl, hb3⟩; have vB : Bk w3 (w.heap.size) 41 #[.bool is, .int .i64 n, .int .i64 p, .int .i64 b, .int .i64 l, .int .i64 a, .int .i64 s] := bk_keep hb3 (by repeat (first | assumption | with_reducible exact bk_new _ _ _ | (with_reducible refine bk_new' _ _ ?_; simp; done) | with_reducible refine bk_drew ?_ | with_reducible refine bk_drewN _ ?_ | with_reducible refine bk_old _ ?_ | (with_reducible refine bk_far' _ (by omega) ?_) | with_reducible apply bk_set' | rfl)); (try clear v0 v1 v2 v3 v4 v5 v6); obtain ⟨v0, v1, v2, v3, v4, v5, v6⟩ := cells7 vB; have vL := vB.lt))
        | (go_at_call 27; ((with_reducible refine (C4.out _).mono ?_); rintro e w4 ⟨rfl, hb4⟩))
        | (go_at_call 28; ((with_reducible refine (C5.out _).mono ?_); rintro e w5 ⟨rfl, hb5⟩))
        | (go_at_call 26; ((with_reducible refine (C6.out _).mono ?_); rintro e w6 ⟨rfl, hb6⟩; have uB : Bk w6 (w5.heap.size) 41 #[.bool is2, .int .i64 n2, .int .i64 p2, .int .i64 b2, .int .i64 l2, .int .i64 a2, .int .i64 s2] := bk_keep hb6 (by repeat (first | assumption | with_reducible exact bk_new _ _ _ | (with_reducible refine bk_new' _ _ ?_; simp; done) | with_reducible refine bk_drew ?_ | with_reducible refine bk_drewN _ ?_ | with_reducible refine bk_old _ ?_ | (with_reducible refine bk_far' _ (by omega) ?_) | with_reducible apply bk_set' | rfl)); (try clear u0 u1 u2 u3 u4 u5 u6); obtain ⟨u0, u1, u2, u3, u4, u5, u6⟩ := cells7 uB; have uL := uB.lt)))
      all_goals (go_ret; refine ⟨rfl, ?_⟩; repeat (first | with_reducible exact Below.refl _ _ | with_reducible refine ext_alloc ?_ _ | with_reducible refine ext_drew ?_ | with_reducible refine ext_set ?_ (by first | omega | (simp; done) | (simp; omega)) _ | with_reducible refine ext_trans ?_ ‹_›))
    · obtain rfl := r1 hf
      have k6 := fun W => pack_any zeroV W
      generalize valCheck zeroV = c6 at *
      generalize (if c6 = 0 then packS zeroV else ⟨#[]⟩) = S6 at *
      have g1 : (f == 0) = false := by simpa using hf
      have g2 : (f != 0) = true := by simpa using hf
      clear r0 r1 hf
      simp only [ValV.val, zeroV, zeroK] at *
      have C5 := Lib.hid k5
      have C6 := Lib.hid k6
      clear k5 k6
      go_enter Try.func9, Try.ntmps9
      go_wp2_with (first
        | (go_at_call 26; ((with_reducible refine (C1.out _).mono ?_); rintro e w1 ⟨rfl, hb1⟩; have vB : Bk w1 (w.heap.size) 41 #[.bool is, .int .i64 n, .int .i64 p, .int .i64 b, .int .i64 l, .int .i64 a, .int .i64 s] := bk_keep hb1 (by repeat (first | assumption | with_reducible exact bk_new _ _ _ | (with_reducible refine bk_new' _ _ ?_; simp; done) | with_reducible refine bk_drew ?_ | with_reducible refine bk_drewN _ ?_ | with_reducible refine bk_old _ ?_ | (with_reducible refine bk_far' _ (by omega) ?_) | with_reducible apply bk_set' | rfl)); (try clear v0 v1 v2 v3 v4 v5 v6); obtain ⟨v0, v1, v2, v3, v4, v5, v6⟩ := cells7 vB; have vL := vB.lt))
        | (go_at_call 29; ((with_reducible refine (C2.out _).mono ?_); rintro e w2 ⟨rfl, hb2⟩; have vB : Bk w2 (w.heap.size) 41 #[.bool is, .int .i64 n, .int .i64 p, .int .i64 b, .int .i64 l, .int .i64 a, .int .i64 s] := bk_keep hb2 (by repeat (first | assumption | with_reducible exact bk_new _ _ _ | (with_reducible refine bk_new' _ _ ?_; simp; done) | with_reducible refine bk_drew ?_ | with_reducible refine bk_drewN _ ?_ | with_reducible refine bk_old _ ?_ | (with_reducible refine bk_far' _ (by omega) ?_) | with_reducible apply bk_set' | rfl)); (try clear v0 v1 v2 v3 v4 v5 v6); obtain ⟨v0, v1, v2, v3, v4, v5, v6⟩ := cells7 vB; have vL := vB.lt))
        | (go_at_call 28; ((with_reducible refine (C3.out _).mono ?_); rintro e w3 ⟨rfl, hb3⟩; have vB : Bk w3 (w.heap.size) 41 #[.bool is, .int .i64 n, .int .i64 p, .int .i64 b, .int .i64 l, .int .i64 a, .int .i64 s] := bk_keep hb3 (by repeat (first | assumption | with_reducible exact bk_new _ _ _ | (with_reducible refine bk_new' _ _ ?_; simp; done) | with_reducible refine bk_drew ?_ | with_reducible refine bk_drewN _ ?_ | with_reducible refine bk_old _ ?_ | (with_reducible refine bk_far' _ (by omega) ?_) | with_reducible apply bk_set' | rfl)); (try clear v0 v1 v2 v3 v4 v5 v6); obtain ⟨v0, v1, v2, v3, v4, v5, v6⟩ := cells7 vB; have vL := vB.lt))
        | (go_at_call 27; ((with_reducible refine (C4.out _).mono ?_); rintro e w4 ⟨rfl, hb4⟩))
        | (go_at_call 28; ((with_reducible refine (C5.out _).mono ?_); rintro e w5 ⟨rfl, hb5⟩))
        | (go_at_call 26; ((with_reducible refine (C6.out _).mono ?_); rintro e w6 ⟨rfl, hb6⟩; have uB : Bk w6 (w5.heap.size) 41 #[.bool false, .int .i64 0, .int .i64 0, .int .i64 0, .int .i64 0, .int .i64 0, .int .i64 0] := bk_keep hb6 (by repeat (first | assumption | with_reducible exact bk_new _ _ _ | (with_reducible refine bk_new' _ _ ?_; simp; done) | with_reducible refine bk_drew ?_ | with_reducible refine bk_drewN _ ?_ | with_reducible refine bk_old _ ?_ | (with_reducible refine bk_far' _ (by omega) ?_) | with_reducible apply bk_set' | rfl)); (try clear u0 u1 u2 u3 u4 u5 u6); obtain ⟨u0, u1, u2, u3, u4, u5, u6⟩ := cells7 uB; have uL := uB.lt)))
      all_goals (go_ret; refine ⟨rfl, ?_⟩; repeat (first | with_reducible exact Below.refl _ _ | with_reducible refine ext_alloc ?_ _ | with_reducible refine ext_drew ?_ | with_reducible refine ext_set ?_ (by first | omega | (simp; done) | (simp; omega)) _ | with_reducible refine ext_trans ?_ ‹_›))
  · simp only [hc, if_false] at k1
    have c1 : (valCheck v == 0) = false := by simpa using hc
    have c2 : (valCheck v != 0) = true := by simpa using hc
    generalize valCheck v = c at *
    obtain ⟨is, n, p, b, l, a, s⟩ := v
    simp only [ValV.val] at k1 k2 ⊢
    have C1 := Lib.hid k1
    have C2 := Lib.hid k2
    clear k1 k2 hc
    by_cases hf : f = 0
    · subst hf
      obtain ⟨hU, rfl⟩ := r0 rfl
      have k6 := fun W => pack_any U W
      rw [(valCheck_zero U).2 hU, if_pos rfl] at k6
      clear r0 r1 hU
      generalize packS U = t at *
      obtain ⟨is2, n2, p2, b2, l2, a2, s2⟩ := U
      simp only [ValV.val] at *
      have C5 := Lib.hid k5
      have C6 := Lib.hid k6
      clear k5 k6
      go_enter Try.func9, Try.ntmps9
      go_wp2_with (first
        | (go_at_call 26; ((with_reducible refine (C1.out _).mono ?_); rintro e w1 ⟨rfl, hb1⟩; have vB : Bk w1 (w.heap.size) 41 #[.bool is, .int .i64 n, .int .i64 p, .int .i64 b, .int .i64 l, .int .i64 a, .int .i64 s] := bk_keep hb1 (by repeat (first | assumption | with_reducible exact bk_new _ _ _ | (with_reducible refine bk_new' _ _ ?_; simp; done) | with_reducible refine bk_drew ?_ | with_reducible refine bk_drewN _ ?_ | with_reducible refine bk_old _ ?_ | (with_reducible refine bk_far' _ (by omega) ?_) | with_reducible apply bk_set' | rfl)); (try clear v0 v1 v2 v3 v4 v5 v6); obtain ⟨v0, v1, v2, v3, v4, v5, v6⟩ := cells7 vB; have vL := vB.lt))
        | (go_at_call 29; ((with_reducible refine (C2.out _).mono ?_); rintro e w2 ⟨rfl, hb2⟩; have vB : Bk w2 (w.heap.size) 41 #[.bool is, .int .i64 n, .int .i64 p, .int .i64 b, .int .i64 l, .int .i64 a, .int .i64 s] := bk_keep hb2 (by repeat (first | assumption | with_reducible exact bk_new _ _ _ | (with_reducible refine bk_new' _ _ ?_; simp; done) | with_reducible refine bk_drew ?_ | with_reducible refine bk_drewN _ ?_ | with_reducible refine bk_old _ ?_ | (with_reducible refine bk_far' _ (by omega) ?_) | with_reducible apply bk_set' | rfl)); (try clear v0 v1 v2 v3 v4 v5 v6); obtain ⟨v0, v1, v2, v3, v4, v5, v6⟩ := cells7 vB; have vL := vB.lt))
        | (go_at_call 28; ((with_reducible refine (C3.out _).mono ?_); rintro e w3 ⟨rfl, hb3⟩; have vB : Bk w3 (w.heap.size) 41 #[.bool is, .int .i64 n, .int .i64 p, .int .i64 b, .int .i64 l, .int .i64 a, .int .i64 s] := bk_keep hb3 (by repeat (first | assumption | with_reducible exact bk_new _ _ _ | (with_reducible refine bk_new' _ _ ?_; simp; done) | with_reducible refine bk_drew ?_ | with_reducible refine bk_drewN _ ?_ | with_reducible refine bk_old _ ?_ | (with_reducible refine bk_far' _ (by omega) ?_) | with_reducible apply bk_set' | rfl)); (try clear v0 v1 v2 v3 v4 v5 v6); obtain ⟨v0, v1, v2, v3, v4, v5, v6⟩ := cells7 vB; have vL := vB.lt))
        | (go_at_call 27; ((with_reducible refine (C4.out _).mono ?_); rintro e w4 ⟨rfl, hb4⟩))
        | (go_at_call 28; ((with_reducible refine (C5.out _).mono ?_); rintro e w5 ⟨rfl, hb5⟩))
        | (go_at_call 26; ((with_reducible refine (C6.out _).mono ?_); rintro e w6 ⟨rfl, hb6⟩; have uB : Bk w6 (w5.heap.size) 41 #[.bool is2, .int .i64 n2, .int .i64 p2, .int .i64 b2, .int .i64 l2, .int .i64 a2, .int .i64 s2] := bk_keep hb6 (by repeat (first | assumption | with_reducible exact bk_new _ _ _ | (with_reducible refine bk_new' _ _ ?_; simp; done) | with_reducible refine bk_drew ?_ | with_reducible refine bk_drewN _ ?_ | with_reducible refine bk_old _ ?_ | (with_reducible refine bk_far' _ (by omega) ?_) | with_reducible apply bk_set' | rfl)); (try clear u0 u1 u2 u3 u4 u5 u6); obtain ⟨u0, u1, u2, u3, u4, u5, u6⟩ := cells7 uB; have uL := uB.lt)))
      all_goals (go_ret; refine ⟨rfl, ?_⟩; repeat (first | with_reducible exact Below.refl _ _ | with_reducible refine ext_alloc ?_ _ | with_reducible refine ext_drew ?_ | with_reducible refine ext_set ?_ (by first | omega | (simp; done) | (simp; omega)) _ | with_reducible refine ext_trans ?_ ‹_›))
    · obtain rfl := r1 hf
      have k6 := fun W => pack_any zeroV W
      generalize valCheck zeroV = c6 at *
      generalize (if c6 = 0 then packS zeroV else ⟨#[]⟩) = S6 at *
      have g1 : (f == 0) = false := by simpa using hf
      have g2 : (f != 0) = true := by simpa using hf
      clear r0 r1 hf
      simp only [ValV.val, zeroV, zeroK] at *
      have C5 := Lib.hid k5
      have C6 := Lib.hid k6
      clear k5 k6
      go_enter Try.func9, Try.ntmps9
      go_wp2_with (first
        | (go_at_call 26; ((with_reducible refine (C1.out _).mono ?_); rintro e w1 ⟨rfl, hb1⟩; have vB : Bk w1 (w.heap.size) 41 #[.bool is, .int .i64 n, .int .i64 p, .int .i64 b, .int .i64 l, .int .i64 a, .int .i64 s] := bk_keep hb1 (by repeat (first | assumption | with_reducible exact bk_new _ _ _ | (with_reducible refine bk_new' _ _ ?_; simp; done) | with_reducible refine bk_drew ?_ | with_reducible refine bk_drewN _ ?_ | with_reducible refine bk_old _ ?_ | (with_reducible refine bk_far' _ (by omega) ?_) | with_reducible apply bk_set' | rfl)); (try clear v0 v1 v2 v3 v4 v5 v6); obtain ⟨v0, v1, v2, v3, v4, v5, v6⟩ := cells7 vB; have vL := vB.lt))
        | (go_at_call 29; ((with_reducible refine (C2.out _).mono ?_); rintro e w2 ⟨rfl, hb2⟩; have vB : Bk w2 (w.heap.size) 41 #[.bool is, .int .i64 n, .int .i64 p, .int .i64 b, .int .i64 l, .int .i64 a, .int .i64 s] := bk_keep hb2 (by repeat (first | assumption | with_reducible exact bk_new _ _ _ | (with_reducible refine bk_new' _ _ ?_; simp; done) | with_reducible refine bk_drew ?_ | with_reducible refine bk_drewN _ ?_ | with_reducible refine bk_old _ ?_ | (with_reducible refine bk_far' _ (by omega) ?_) | with_reducible apply bk_set' | rfl)); (try clear v0 v1 v2 v3 v4 v5 v6); obtain ⟨v0, v1, v2, v3, v4, v5, v6⟩ := cells7 vB; have vL := vB.lt))
        | (go_at_call 28; ((with_reducible refine (C3.out _).mono ?_); rintro e w3 ⟨rfl, hb3⟩; have vB : Bk w3 (w.heap.size) 41 #[.bool is, .int .i64 n, .int .i64 p, .int .i64 b, .int .i64 l, .int .i64 a, .int .i64 s] := bk_keep hb3 (by repeat (first | assumption | with_reducible exact bk_new _ _ _ | (with_reducible refine bk_new' _ _ ?_; simp; done) | with_reducible refine bk_drew ?_ | with_reducible refine bk_drewN _ ?_ | with_reducible refine bk_old _ ?_ | (with_reducible refine bk_far' _ (by omega) ?_) | with_reducible apply bk_set' | rfl)); (try clear v0 v1 v2 v3 v4 v5 v6); obtain ⟨v0, v1, v2, v3, v4, v5, v6⟩ := cells7 vB; have vL := vB.lt))
        | (go_at_call 27; ((with_reducible refine (C4.out _).mono ?_); rintro e w4 ⟨rfl, hb4⟩))
        | (go_at_call 28; ((with_reducible refine (C5.out _).mono ?_); rintro e w5 ⟨rfl, hb5⟩))
        | (go_at_call 26; ((with_reducible refine (C6.out _).mono ?_); rintro e w6 ⟨rfl, hb6⟩; have uB : Bk w6 (w5.heap.size) 41 #[.bool false, .int .i64 0, .int .i64 0, .int .i64 0, .int .i64 0, .int .i64 0, .int .i64 0] := bk_keep hb6 (by repeat (first | assumption | with_reducible exact bk_new _ _ _ | (with_reducible refine bk_new' _ _ ?_; simp; done) | with_reducible refine bk_drew ?_ | with_reducible refine bk_drewN _ ?_ | with_reducible refine bk_old _ ?_ | (with_reducible refine bk_far' _ (by omega) ?_) | with_reducible apply bk_set' | rfl)); (try clear u0 u1 u2 u3 u4 u5 u6); obtain ⟨u0, u1, u2, u3, u4, u5, u6⟩ := cells7 uB; have uL := uB.lt)))
      all_goals (go_ret; refine ⟨rfl, ?_⟩; repeat (first | with_reducible exact Below.refl _ _ | with_reducible refine ext_alloc ?_ _ | with_reducible refine ext_drew ?_ | with_reducible refine ext_set ?_ (by first | omega | (simp; done) | (simp; omega)) _ | with_reducible refine ext_trans ?_ ‹_›))
end Go.Proofs.Ythadehaoafkaeaa
