/- KeysMoved: two moves are one move by the sum, a move back restores the key, and only the place changes. For every key and every two ints, without any condition. -/
import Derived.Test.YthadehaoafkaeaaKeyed
import Derived.Test.YthadehaoafkaeaaNum
import Derived.Deep.DeepCutAuto
namespace Go.Proofs.Ythadehaoafkaeaa
open Go.RowKit
set_option linter.unusedVariables false
set_option linter.unusedSimpArgs false

set_option maxHeartbeats 8000000 in
set_option maxRecDepth 100000 in
theorem keysMoved_walk (k : KeyV) (n m : Int) (wk : k.wf) (wn : (Lit.int .i64 n).wf = true) (wm : (Lit.int .i64 m).wf = true) (w : World) :
    Calls Try.prog 5 #[k.val, .int .i64 n, .int .i64 m] w fun e w' => e = .returned (.bool true) ∧ Below w.heap.size w w' := by
  have bn := wf_bd wn
  have bm := wf_bd wm
  clear wn wm
  have hcases := moveF_cases k n
  obtain ⟨p, bs, l, at0, s⟩ := k
  change Calls Try.prog 5 #[.agg #[.int .i64 p, .int .i64 bs, .int .i64 l, .int .i64 at0, .int .i64 s], .int .i64 n, .int .i64 m] w _
  have cn := fun W => move_any p bs l at0 s n bn W
  rcases hcases with ⟨c, hc, hc0⟩ | ⟨hc, hok, hs, h1, h2⟩
  · rw [hc] at cn
    have hc0' : (c == 0) = false := by simp [hc0]
    have CN := Lib.hid cn
    clear cn hc hc0
    go_enter Try.func5, Try.ntmps5
    go_wp2_with (first
        | (go_at_call 15; refine (keyed_any _).mono ?_; rintro e w1 ⟨rfl, hb1⟩; have kB : Bk w1 (w.heap.size) 23 #[.int .i64 p, .int .i64 bs, .int .i64 l, .int .i64 at0, .int .i64 s] := bk_keep hb1 (by repeat (first | assumption | with_reducible exact bk_new _ _ _ | exact bk_new' _ _ (by simp) | with_reducible refine bk_drew ?_ | refine bk_old _ ?_)); (try clear k0 k1 k2 k3 k4); obtain ⟨k0, k1, k2, k3, k4⟩ := cells5 kB; have kL := kB.lt)
        | (go_at_call 22; ((with_reducible refine (CN.out _).mono ?_); rintro e w2 ⟨rfl, hb2⟩; have kB : Bk w2 (w.heap.size) 23 #[.int .i64 p, .int .i64 bs, .int .i64 l, .int .i64 at0, .int .i64 s] := bk_keep hb2 (by repeat (first | assumption | with_reducible exact bk_new _ _ _ | exact bk_new' _ _ (by simp) | with_reducible refine bk_drew ?_ | refine bk_old _ ?_)); (try clear k0 k1 k2 k3 k4); obtain ⟨k0, k1, k2, k3, k4⟩ := cells5 kB; have kL := kB.lt; simp only [KeyV.res])))
    go_ret
    refine ⟨rfl, ?_⟩
    repeat (first | with_reducible exact Below.refl _ _ | with_reducible refine ext_alloc ?_ _ | with_reducible refine ext_drew ?_ | with_reducible refine ext_set ?_ (by first | omega | (simp; done) | (simp; omega)) _ | with_reducible refine ext_trans ?_ ‹_›)
  · have okk := hok
    obtain ⟨p0, p1, b0, b1, l0, l1, a0, a1, s0, s1⟩ := hok
    simp only at p0 p1 b0 b1 l0 l1 a0 a1 s0 s1 hs h1 h2 hc
    subst hs
    rw [hc] at cn
    have okx : KeyV.Ok ⟨p, bs, l, at0 + n, 0⟩ := by constructor <;> simp <;> omega
    have n3 : moveF ⟨p, bs, l, at0 + n, 0⟩ (-n) = (⟨p, bs, l, at0, 0⟩, 0) := by
      rw [moveF_ok okx rfl (by simp; omega) (by simp; omega)]
      simp only [Prod.mk.injEq, KeyV.mk.injEq, true_and, and_true]; omega
    have c1' := fun W => move_any p bs l (at0 + n) 0 m bm W
    have c2' := fun W => move_any p bs l at0 0 (wrap64 (n + m)) (w64_bd _) W
    have c3' := fun W => move_any p bs l (at0 + n) 0 (-n) ⟨by omega, by omega⟩ W
    rw [n3] at c3'
    by_cases hin : -(at0 + n) ≤ m ∧ m ≤ 400 - (at0 + n)
    · have e0 : wrap64 (n + m) = n + m := w64_of (by omega) (by omega)
      rw [e0] at c2'
      have n1 : moveF ⟨p, bs, l, at0 + n, 0⟩ m = (⟨p, bs, l, at0 + n + m, 0⟩, 0) := moveF_ok okx rfl hin.1 hin.2
      have n2 : moveF ⟨p, bs, l, at0, 0⟩ (n + m) = (⟨p, bs, l, at0 + n + m, 0⟩, 0) := by
        rw [moveF_ok okk rfl (by simp; omega) (by simp; omega)]
        simp only [Prod.mk.injEq, KeyV.mk.injEq, true_and, and_true]; omega
      rw [n1] at c1'
      rw [n2] at c2'
      obtain ⟨hin1, hin2⟩ := hin
      have CN := Lib.hid cn
      have C1 := Lib.hid c1'
      have C2 := Lib.hid c2'
      have C3 := Lib.hid c3'
      clear cn c1' c2' c3' n1 n2 n3 okx okk hc e0
      go_enter Try.func5, Try.ntmps5
      go_wp2_with (first
          | (go_at_call 15; refine (keyed_any _).mono ?_; rintro e w1 ⟨rfl, hb1⟩; have kB : Bk w1 (w.heap.size) 23 #[.int .i64 p, .int .i64 bs, .int .i64 l, .int .i64 at0, .int .i64 0] := bk_keep hb1 (by repeat (first | assumption | with_reducible exact bk_new _ _ _ | exact bk_new' _ _ (by simp) | with_reducible refine bk_drew ?_ | refine bk_old _ ?_)); (try clear k0 k1 k2 k3 k4); obtain ⟨k0, k1, k2, k3, k4⟩ := cells5 kB; have kL := kB.lt)
          | (go_at_call 22; ((with_reducible refine (CN.out _).mono ?_); rintro e w2 ⟨rfl, hb2⟩; have kB : Bk w2 (w.heap.size) 23 #[.int .i64 p, .int .i64 bs, .int .i64 l, .int .i64 at0, .int .i64 0] := bk_keep hb2 (by repeat (first | assumption | with_reducible exact bk_new _ _ _ | exact bk_new' _ _ (by simp) | with_reducible refine bk_drew ?_ | refine bk_old _ ?_)); (try clear k0 k1 k2 k3 k4); obtain ⟨k0, k1, k2, k3, k4⟩ := cells5 kB; have kL := kB.lt; simp only [KeyV.res]))
          | (go_at_call 22; ((with_reducible refine (C1.out _).mono ?_); rintro e w3 ⟨rfl, hb3⟩; have kB : Bk w3 (w.heap.size) 23 #[.int .i64 p, .int .i64 bs, .int .i64 l, .int .i64 at0, .int .i64 0] := bk_keep hb3 (by repeat (first | assumption | with_reducible exact bk_new _ _ _ | exact bk_new' _ _ (by simp) | with_reducible refine bk_drew ?_ | refine bk_old _ ?_)); (try clear k0 k1 k2 k3 k4); obtain ⟨k0, k1, k2, k3, k4⟩ := cells5 kB; have kL := kB.lt; have xB : Bk w3 (w2.heap.size) 23 #[.int .i64 p, .int .i64 bs, .int .i64 l, .int .i64 (at0 + n), .int .i64 0] := bk_keep hb3 (by repeat (first | assumption | with_reducible exact bk_new _ _ _ | exact bk_new' _ _ (by simp) | with_reducible refine bk_drew ?_ | refine bk_old _ ?_)); (try clear x0 x1 x2 x3 x4); obtain ⟨x0, x1, x2, x3, x4⟩ := cells5 xB; have xL := xB.lt; simp only [KeyV.res]))
          | (go_at_call 22; ((with_reducible refine (C2.out _).mono ?_); rintro e w4 ⟨rfl, hb4⟩; have kB : Bk w4 (w.heap.size) 23 #[.int .i64 p, .int .i64 bs, .int .i64 l, .int .i64 at0, .int .i64 0] := bk_keep hb4 (by repeat (first | assumption | with_reducible exact bk_new _ _ _ | exact bk_new' _ _ (by simp) | with_reducible refine bk_drew ?_ | refine bk_old _ ?_)); (try clear k0 k1 k2 k3 k4); obtain ⟨k0, k1, k2, k3, k4⟩ := cells5 kB; have kL := kB.lt; have xB : Bk w4 (w2.heap.size) 23 #[.int .i64 p, .int .i64 bs, .int .i64 l, .int .i64 (at0 + n), .int .i64 0] := bk_keep hb4 (by repeat (first | assumption | with_reducible exact bk_new _ _ _ | exact bk_new' _ _ (by simp) | with_reducible refine bk_drew ?_ | refine bk_old _ ?_)); (try clear x0 x1 x2 x3 x4); obtain ⟨x0, x1, x2, x3, x4⟩ := cells5 xB; have xL := xB.lt; have yB : Bk w4 (w3.heap.size) 23 #[.int .i64 p, .int .i64 bs, .int .i64 l, .int .i64 (at0 + n + m), .int .i64 0] := bk_keep hb4 (by repeat (first | assumption | with_reducible exact bk_new _ _ _ | exact bk_new' _ _ (by simp) | with_reducible refine bk_drew ?_ | refine bk_old _ ?_)); (try clear y0 y1 y2 y3 y4); obtain ⟨y0, y1, y2, y3, y4⟩ := cells5 yB; have yL := yB.lt; simp only [KeyV.res]))
          | (go_at_call 22; ((with_reducible refine (C3.out _).mono ?_); rintro e w5 ⟨rfl, hb5⟩; have kB : Bk w5 (w.heap.size) 23 #[.int .i64 p, .int .i64 bs, .int .i64 l, .int .i64 at0, .int .i64 0] := bk_keep hb5 (by repeat (first | assumption | with_reducible exact bk_new _ _ _ | exact bk_new' _ _ (by simp) | with_reducible refine bk_drew ?_ | refine bk_old _ ?_)); (try clear k0 k1 k2 k3 k4); obtain ⟨k0, k1, k2, k3, k4⟩ := cells5 kB; have kL := kB.lt; have xB : Bk w5 (w2.heap.size) 23 #[.int .i64 p, .int .i64 bs, .int .i64 l, .int .i64 (at0 + n), .int .i64 0] := bk_keep hb5 (by repeat (first | assumption | with_reducible exact bk_new _ _ _ | exact bk_new' _ _ (by simp) | with_reducible refine bk_drew ?_ | refine bk_old _ ?_)); (try clear x0 x1 x2 x3 x4); obtain ⟨x0, x1, x2, x3, x4⟩ := cells5 xB; have xL := xB.lt; have xF := fun i => Bk.frozen xB i; have yB : Bk w5 (w3.heap.size) 23 #[.int .i64 p, .int .i64 bs, .int .i64 l, .int .i64 (at0 + n + m), .int .i64 0] := bk_keep hb5 (by repeat (first | assumption | with_reducible exact bk_new _ _ _ | exact bk_new' _ _ (by simp) | with_reducible refine bk_drew ?_ | refine bk_old _ ?_)); (try clear y0 y1 y2 y3 y4); obtain ⟨y0, y1, y2, y3, y4⟩ := cells5 yB; have yL := yB.lt; have zB : Bk w5 (w4.heap.size) 23 #[.int .i64 p, .int .i64 bs, .int .i64 l, .int .i64 (at0 + n + m), .int .i64 0] := bk_keep hb5 (by repeat (first | assumption | with_reducible exact bk_new _ _ _ | exact bk_new' _ _ (by simp) | with_reducible refine bk_drew ?_ | refine bk_old _ ?_)); (try clear z0 z1 z2 z3 z4); obtain ⟨z0, z1, z2, z3, z4⟩ := cells5 zB; have zL := zB.lt; simp only [KeyV.res])))
      go_ret
      refine ⟨rfl, ?_⟩
      repeat (first | with_reducible exact Below.refl _ _ | with_reducible refine ext_alloc ?_ _ | with_reducible refine ext_drew ?_ | with_reducible refine ext_set ?_ (by first | omega | (simp; done) | (simp; omega)) _ | with_reducible refine ext_trans ?_ ‹_›)
    · have n1 : moveF ⟨p, bs, l, at0 + n, 0⟩ m = (zeroK, 13) := moveF_out okx rfl hin
      have n2 : moveF ⟨p, bs, l, at0, 0⟩ (wrap64 (n + m)) = (zeroK, 13) := moveF_out okk rfl (by simp; unfold wrap64; omega)
      rw [n1] at c1'
      rw [n2] at c2'
      have CN := Lib.hid cn
      have C1 := Lib.hid c1'
      have C2 := Lib.hid c2'
      have C3 := Lib.hid c3'
      have NI := Lib.hid hin
      clear cn c1' c2' c3' n1 n2 n3 okx okk hc hin
      go_enter Try.func5, Try.ntmps5
      go_wp2_with (first
          | (go_at_call 15; refine (keyed_any _).mono ?_; rintro e w1 ⟨rfl, hb1⟩; have kB : Bk w1 (w.heap.size) 23 #[.int .i64 p, .int .i64 bs, .int .i64 l, .int .i64 at0, .int .i64 0] := bk_keep hb1 (by repeat (first | assumption | with_reducible exact bk_new _ _ _ | exact bk_new' _ _ (by simp) | with_reducible refine bk_drew ?_ | refine bk_old _ ?_)); (try clear k0 k1 k2 k3 k4); obtain ⟨k0, k1, k2, k3, k4⟩ := cells5 kB; have kL := kB.lt)
          | (go_at_call 22; ((with_reducible refine (CN.out _).mono ?_); rintro e w2 ⟨rfl, hb2⟩; have kB : Bk w2 (w.heap.size) 23 #[.int .i64 p, .int .i64 bs, .int .i64 l, .int .i64 at0, .int .i64 0] := bk_keep hb2 (by repeat (first | assumption | with_reducible exact bk_new _ _ _ | exact bk_new' _ _ (by simp) | with_reducible refine bk_drew ?_ | refine bk_old _ ?_)); (try clear k0 k1 k2 k3 k4); obtain ⟨k0, k1, k2, k3, k4⟩ := cells5 kB; have kL := kB.lt; simp only [KeyV.res]))
          | (go_at_call 22; ((with_reducible refine (C1.out _).mono ?_); rintro e w3 ⟨rfl, hb3⟩; have kB : Bk w3 (w.heap.size) 23 #[.int .i64 p, .int .i64 bs, .int .i64 l, .int .i64 at0, .int .i64 0] := bk_keep hb3 (by repeat (first | assumption | with_reducible exact bk_new _ _ _ | exact bk_new' _ _ (by simp) | with_reducible refine bk_drew ?_ | refine bk_old _ ?_)); (try clear k0 k1 k2 k3 k4); obtain ⟨k0, k1, k2, k3, k4⟩ := cells5 kB; have kL := kB.lt; have xB : Bk w3 (w2.heap.size) 23 #[.int .i64 p, .int .i64 bs, .int .i64 l, .int .i64 (at0 + n), .int .i64 0] := bk_keep hb3 (by repeat (first | assumption | with_reducible exact bk_new _ _ _ | exact bk_new' _ _ (by simp) | with_reducible refine bk_drew ?_ | refine bk_old _ ?_)); (try clear x0 x1 x2 x3 x4); obtain ⟨x0, x1, x2, x3, x4⟩ := cells5 xB; have xL := xB.lt; simp only [KeyV.res]))
          | (go_at_call 22; ((with_reducible refine (C2.out _).mono ?_); rintro e w4 ⟨rfl, hb4⟩; have kB : Bk w4 (w.heap.size) 23 #[.int .i64 p, .int .i64 bs, .int .i64 l, .int .i64 at0, .int .i64 0] := bk_keep hb4 (by repeat (first | assumption | with_reducible exact bk_new _ _ _ | exact bk_new' _ _ (by simp) | with_reducible refine bk_drew ?_ | refine bk_old _ ?_)); (try clear k0 k1 k2 k3 k4); obtain ⟨k0, k1, k2, k3, k4⟩ := cells5 kB; have kL := kB.lt; have xB : Bk w4 (w2.heap.size) 23 #[.int .i64 p, .int .i64 bs, .int .i64 l, .int .i64 (at0 + n), .int .i64 0] := bk_keep hb4 (by repeat (first | assumption | with_reducible exact bk_new _ _ _ | exact bk_new' _ _ (by simp) | with_reducible refine bk_drew ?_ | refine bk_old _ ?_)); (try clear x0 x1 x2 x3 x4); obtain ⟨x0, x1, x2, x3, x4⟩ := cells5 xB; have xL := xB.lt; have yB : Bk w4 (w3.heap.size) 23 #[.int .i64 0, .int .i64 0, .int .i64 0, .int .i64 0, .int .i64 0] := bk_keep hb4 (by repeat (first | assumption | with_reducible exact bk_new _ _ _ | exact bk_new' _ _ (by simp) | with_reducible refine bk_drew ?_ | refine bk_old _ ?_)); (try clear y0 y1 y2 y3 y4); obtain ⟨y0, y1, y2, y3, y4⟩ := cells5 yB; have yL := yB.lt; simp only [KeyV.res]))
          | (go_at_call 22; ((with_reducible refine (C3.out _).mono ?_); rintro e w5 ⟨rfl, hb5⟩; have kB : Bk w5 (w.heap.size) 23 #[.int .i64 p, .int .i64 bs, .int .i64 l, .int .i64 at0, .int .i64 0] := bk_keep hb5 (by repeat (first | assumption | with_reducible exact bk_new _ _ _ | exact bk_new' _ _ (by simp) | with_reducible refine bk_drew ?_ | refine bk_old _ ?_)); (try clear k0 k1 k2 k3 k4); obtain ⟨k0, k1, k2, k3, k4⟩ := cells5 kB; have kL := kB.lt; have xB : Bk w5 (w2.heap.size) 23 #[.int .i64 p, .int .i64 bs, .int .i64 l, .int .i64 (at0 + n), .int .i64 0] := bk_keep hb5 (by repeat (first | assumption | with_reducible exact bk_new _ _ _ | exact bk_new' _ _ (by simp) | with_reducible refine bk_drew ?_ | refine bk_old _ ?_)); (try clear x0 x1 x2 x3 x4); obtain ⟨x0, x1, x2, x3, x4⟩ := cells5 xB; have xL := xB.lt; have xF := fun i => Bk.frozen xB i; have yB : Bk w5 (w3.heap.size) 23 #[.int .i64 0, .int .i64 0, .int .i64 0, .int .i64 0, .int .i64 0] := bk_keep hb5 (by repeat (first | assumption | with_reducible exact bk_new _ _ _ | exact bk_new' _ _ (by simp) | with_reducible refine bk_drew ?_ | refine bk_old _ ?_)); (try clear y0 y1 y2 y3 y4); obtain ⟨y0, y1, y2, y3, y4⟩ := cells5 yB; have yL := yB.lt; have zB : Bk w5 (w4.heap.size) 23 #[.int .i64 0, .int .i64 0, .int .i64 0, .int .i64 0, .int .i64 0] := bk_keep hb5 (by repeat (first | assumption | with_reducible exact bk_new _ _ _ | exact bk_new' _ _ (by simp) | with_reducible refine bk_drew ?_ | refine bk_old _ ?_)); (try clear z0 z1 z2 z3 z4); obtain ⟨z0, z1, z2, z3, z4⟩ := cells5 zB; have zL := zB.lt; simp only [KeyV.res])))
      go_ret
      refine ⟨rfl, ?_⟩
      repeat (first | with_reducible exact Below.refl _ _ | with_reducible refine ext_alloc ?_ _ | with_reducible refine ext_drew ?_ | with_reducible refine ext_set ?_ (by first | omega | (simp; done) | (simp; omega)) _ | with_reducible refine ext_trans ?_ ‹_›)

end Go.Proofs.Ythadehaoafkaeaa
