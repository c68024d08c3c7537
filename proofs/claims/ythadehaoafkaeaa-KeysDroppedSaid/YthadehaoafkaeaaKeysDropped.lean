/- KeysDropped: dropping permissions twice leaves just those that were left both times, whichever came first. For every key and every two ints, without any condition. -/
import Derived.Test.YthadehaoafkaeaaKeyed
import Derived.Test.YthadehaoafkaeaaNum
import Derived.Deep.DeepCutAuto
namespace Go.Proofs.Ythadehaoafkaeaa
open Go.RowKit
set_option linter.unusedVariables false
set_option linter.unusedSimpArgs false

set_option maxHeartbeats 8000000 in
set_option maxRecDepth 100000 in
theorem keysDropped_walk (k : KeyV) (n m : Int) (wk : k.wf) (wn : (Lit.int .i64 n).wf = true) (wm : (Lit.int .i64 m).wf = true) (w : World) :
    Calls Try.prog 4 #[k.val, .int .i64 n, .int .i64 m] w fun e w' => e = .returned (.bool true) ∧ Below w.heap.size w w' := by
  have bn := wf_bd wn
  have bm := wf_bd wm
  clear wn wm
  have hcases := dropF_cases k n
  obtain ⟨p, bs, l, at0, s⟩ := k
  change Calls Try.prog 4 #[.agg #[.int .i64 p, .int .i64 bs, .int .i64 l, .int .i64 at0, .int .i64 s], .int .i64 n, .int .i64 m] w _
  have cn := fun W => drop_any p bs l at0 s n bn W
  rcases hcases with ⟨c, hc, hc0⟩ | ⟨hc, hok, hs⟩
  · rw [hc] at cn
    have hc0' : (c == 0) = false := by simp [hc0]
    have CN := Lib.hid cn
    clear cn hc hc0
    go_enter Try.func4, Try.ntmps4
    go_wp2_with (first
        | (go_at_call 15; refine (keyed_any _).mono ?_; rintro e w1 ⟨rfl, hb1⟩; have kB : Bk w1 (w.heap.size) 23 #[.int .i64 p, .int .i64 bs, .int .i64 l, .int .i64 at0, .int .i64 s] := bk_keep hb1 (by repeat (first | assumption | with_reducible exact bk_new _ _ _ | exact bk_new' _ _ (by simp) | with_reducible refine bk_drew ?_ | refine bk_old _ ?_)); (try clear k0 k1 k2 k3 k4); obtain ⟨k0, k1, k2, k3, k4⟩ := cells5 kB; have kL := kB.lt)
        | (go_at_call 20; ((with_reducible refine (CN.out _).mono ?_); rintro e w2 ⟨rfl, hb2⟩; have kB : Bk w2 (w.heap.size) 23 #[.int .i64 p, .int .i64 bs, .int .i64 l, .int .i64 at0, .int .i64 s] := bk_keep hb2 (by repeat (first | assumption | with_reducible exact bk_new _ _ _ | exact bk_new' _ _ (by simp) | with_reducible refine bk_drew ?_ | refine bk_old _ ?_)); (try clear k0 k1 k2 k3 k4); obtain ⟨k0, k1, k2, k3, k4⟩ := cells5 kB; have kL := kB.lt; simp only [KeyV.res])))
    go_ret
    refine ⟨rfl, ?_⟩
    repeat (first | with_reducible exact Below.refl _ _ | with_reducible refine ext_alloc ?_ _ | with_reducible refine ext_drew ?_ | with_reducible refine ext_set ?_ (by first | omega | (simp; done) | (simp; omega)) _ | with_reducible refine ext_trans ?_ ‹_›)
  · have okk := hok
    obtain ⟨p0, p1, b0, b1, l0, l1, a0, a1, s0, s1⟩ := hok
    simp only at p0 p1 b0 b1 l0 l1 a0 a1 s0 s1 hs hc
    subst hs
    rw [hc] at cn
    have dn := andI_le p0 p1 n
    have dm := andI_le p0 p1 m
    have okx : KeyV.Ok ⟨andI p n, bs, l, at0, 0⟩ := by constructor <;> simp <;> omega
    have okz : KeyV.Ok ⟨andI p m, bs, l, at0, 0⟩ := by constructor <;> simp <;> omega
    have n1 : dropF ⟨andI p n, bs, l, at0, 0⟩ m = (⟨andI (andI p n) m, bs, l, at0, 0⟩, 0) := dropF_ok okx rfl
    have n2 : dropF ⟨p, bs, l, at0, 0⟩ m = (⟨andI p m, bs, l, at0, 0⟩, 0) := dropF_ok okk rfl
    have n3 : dropF ⟨andI p m, bs, l, at0, 0⟩ n = (⟨andI (andI p n) m, bs, l, at0, 0⟩, 0) := by
      rw [dropF_ok okz rfl]; simp only [andI_assoc]; rw [andI_comm m n]
    have n4 : dropF ⟨p, bs, l, at0, 0⟩ (andI n m) = (⟨andI (andI p n) m, bs, l, at0, 0⟩, 0) := by
      rw [dropF_ok okk rfl]; simp only [andI_assoc]
    have c1' := fun W => drop_any (andI p n) bs l at0 0 m bm W
    have c2' := fun W => drop_any p bs l at0 0 m bm W
    have c3' := fun W => drop_any (andI p m) bs l at0 0 n bn W
    have c4' := fun W => drop_any p bs l at0 0 (andI n m) (andI_range _ _) W
    rw [n1] at c1'
    rw [n2] at c2'
    rw [n3] at c3'
    rw [n4] at c4'
    have y1 : bits .and .i64 n m = andI n m := bits_and_bv n m
    have y2 : bits .and .i64 p n = andI p n := bits_and_bv p n
    have e1 := withinB_and_r p n
    have e2 := withinB_and_l p n
    have e3 := withinB_refl (andI p n)
    have CN := Lib.hid cn
    have C1 := Lib.hid c1'
    have C2 := Lib.hid c2'
    have C3 := Lib.hid c3'
    have C4 := Lib.hid c4'
    clear cn c1' c2' c3' c4' n1 n2 n3 n4 okx okk okz hc
    go_enter Try.func4, Try.ntmps4
    go_wp2_with (first
        | (go_at_call 15; refine (keyed_any _).mono ?_; rintro e w1 ⟨rfl, hb1⟩; have kB : Bk w1 (w.heap.size) 23 #[.int .i64 p, .int .i64 bs, .int .i64 l, .int .i64 at0, .int .i64 0] := bk_keep hb1 (by repeat (first | assumption | with_reducible exact bk_new _ _ _ | exact bk_new' _ _ (by simp) | with_reducible refine bk_drew ?_ | refine bk_old _ ?_)); (try clear k0 k1 k2 k3 k4); obtain ⟨k0, k1, k2, k3, k4⟩ := cells5 kB; have kL := kB.lt)
        | (go_at_call 20; ((with_reducible refine (CN.out _).mono ?_); rintro e w2 ⟨rfl, hb2⟩; have kB : Bk w2 (w.heap.size) 23 #[.int .i64 p, .int .i64 bs, .int .i64 l, .int .i64 at0, .int .i64 0] := bk_keep hb2 (by repeat (first | assumption | with_reducible exact bk_new _ _ _ | exact bk_new' _ _ (by simp) | with_reducible refine bk_drew ?_ | refine bk_old _ ?_)); (try clear k0 k1 k2 k3 k4); obtain ⟨k0, k1, k2, k3, k4⟩ := cells5 kB; have kL := kB.lt; simp only [KeyV.res]))
        | (go_at_call 20; ((with_reducible refine (C1.out _).mono ?_); rintro e w3 ⟨rfl, hb3⟩; have kB : Bk w3 (w.heap.size) 23 #[.int .i64 p, .int .i64 bs, .int .i64 l, .int .i64 at0, .int .i64 0] := bk_keep hb3 (by repeat (first | assumption | with_reducible exact bk_new _ _ _ | exact bk_new' _ _ (by simp) | with_reducible refine bk_drew ?_ | refine bk_old _ ?_)); (try clear k0 k1 k2 k3 k4); obtain ⟨k0, k1, k2, k3, k4⟩ := cells5 kB; have kL := kB.lt; have xB : Bk w3 (w2.heap.size) 23 #[.int .i64 (andI p n), .int .i64 bs, .int .i64 l, .int .i64 at0, .int .i64 0] := bk_keep hb3 (by repeat (first | assumption | with_reducible exact bk_new _ _ _ | exact bk_new' _ _ (by simp) | with_reducible refine bk_drew ?_ | refine bk_old _ ?_)); (try clear x0 x1 x2 x3 x4); obtain ⟨x0, x1, x2, x3, x4⟩ := cells5 xB; have xL := xB.lt; simp only [KeyV.res]))
        | (go_at_call 20; ((with_reducible refine (C2.out _).mono ?_); rintro e w4 ⟨rfl, hb4⟩; have kB : Bk w4 (w.heap.size) 23 #[.int .i64 p, .int .i64 bs, .int .i64 l, .int .i64 at0, .int .i64 0] := bk_keep hb4 (by repeat (first | assumption | with_reducible exact bk_new _ _ _ | exact bk_new' _ _ (by simp) | with_reducible refine bk_drew ?_ | refine bk_old _ ?_)); (try clear k0 k1 k2 k3 k4); obtain ⟨k0, k1, k2, k3, k4⟩ := cells5 kB; have kL := kB.lt; have xB : Bk w4 (w2.heap.size) 23 #[.int .i64 (andI p n), .int .i64 bs, .int .i64 l, .int .i64 at0, .int .i64 0] := bk_keep hb4 (by repeat (first | assumption | with_reducible exact bk_new _ _ _ | exact bk_new' _ _ (by simp) | with_reducible refine bk_drew ?_ | refine bk_old _ ?_)); (try clear x0 x1 x2 x3 x4); obtain ⟨x0, x1, x2, x3, x4⟩ := cells5 xB; have xL := xB.lt; have yB : Bk w4 (w3.heap.size) 23 #[.int .i64 (andI (andI p n) m), .int .i64 bs, .int .i64 l, .int .i64 at0, .int .i64 0] := bk_keep hb4 (by repeat (first | assumption | with_reducible exact bk_new _ _ _ | exact bk_new' _ _ (by simp) | with_reducible refine bk_drew ?_ | refine bk_old _ ?_)); (try clear y0 y1 y2 y3 y4); obtain ⟨y0, y1, y2, y3, y4⟩ := cells5 yB; have yL := yB.lt; simp only [KeyV.res]))
        | (go_at_call 20; ((with_reducible refine (C3.out _).mono ?_); rintro e w5 ⟨rfl, hb5⟩; have kB : Bk w5 (w.heap.size) 23 #[.int .i64 p, .int .i64 bs, .int .i64 l, .int .i64 at0, .int .i64 0] := bk_keep hb5 (by repeat (first | assumption | with_reducible exact bk_new _ _ _ | exact bk_new' _ _ (by simp) | with_reducible refine bk_drew ?_ | refine bk_old _ ?_)); (try clear k0 k1 k2 k3 k4); obtain ⟨k0, k1, k2, k3, k4⟩ := cells5 kB; have kL := kB.lt; have xB : Bk w5 (w2.heap.size) 23 #[.int .i64 (andI p n), .int .i64 bs, .int .i64 l, .int .i64 at0, .int .i64 0] := bk_keep hb5 (by repeat (first | assumption | with_reducible exact bk_new _ _ _ | exact bk_new' _ _ (by simp) | with_reducible refine bk_drew ?_ | refine bk_old _ ?_)); (try clear x0 x1 x2 x3 x4); obtain ⟨x0, x1, x2, x3, x4⟩ := cells5 xB; have xL := xB.lt; have yB : Bk w5 (w3.heap.size) 23 #[.int .i64 (andI (andI p n) m), .int .i64 bs, .int .i64 l, .int .i64 at0, .int .i64 0] := bk_keep hb5 (by repeat (first | assumption | with_reducible exact bk_new _ _ _ | exact bk_new' _ _ (by simp) | with_reducible refine bk_drew ?_ | refine bk_old _ ?_)); (try clear y0 y1 y2 y3 y4); obtain ⟨y0, y1, y2, y3, y4⟩ := cells5 yB; have yL := yB.lt; have zB : Bk w5 (w4.heap.size) 23 #[.int .i64 (andI p m), .int .i64 bs, .int .i64 l, .int .i64 at0, .int .i64 0] := bk_keep hb5 (by repeat (first | assumption | with_reducible exact bk_new _ _ _ | exact bk_new' _ _ (by simp) | with_reducible refine bk_drew ?_ | refine bk_old _ ?_)); (try clear z0 z1 z2 z3 z4); obtain ⟨z0, z1, z2, z3, z4⟩ := cells5 zB; have zL := zB.lt; simp only [KeyV.res]))
        | (go_at_call 20; ((with_reducible refine (C4.out _).mono ?_); rintro e w6 ⟨rfl, hb6⟩; have kB : Bk w6 (w.heap.size) 23 #[.int .i64 p, .int .i64 bs, .int .i64 l, .int .i64 at0, .int .i64 0] := bk_keep hb6 (by repeat (first | assumption | with_reducible exact bk_new _ _ _ | exact bk_new' _ _ (by simp) | with_reducible refine bk_drew ?_ | refine bk_old _ ?_)); (try clear k0 k1 k2 k3 k4); obtain ⟨k0, k1, k2, k3, k4⟩ := cells5 kB; have kL := kB.lt; have xB : Bk w6 (w2.heap.size) 23 #[.int .i64 (andI p n), .int .i64 bs, .int .i64 l, .int .i64 at0, .int .i64 0] := bk_keep hb6 (by repeat (first | assumption | with_reducible exact bk_new _ _ _ | exact bk_new' _ _ (by simp) | with_reducible refine bk_drew ?_ | refine bk_old _ ?_)); (try clear x0 x1 x2 x3 x4); obtain ⟨x0, x1, x2, x3, x4⟩ := cells5 xB; have xL := xB.lt; have yB : Bk w6 (w3.heap.size) 23 #[.int .i64 (andI (andI p n) m), .int .i64 bs, .int .i64 l, .int .i64 at0, .int .i64 0] := bk_keep hb6 (by repeat (first | assumption | with_reducible exact bk_new _ _ _ | exact bk_new' _ _ (by simp) | with_reducible refine bk_drew ?_ | refine bk_old _ ?_)); (try clear y0 y1 y2 y3 y4); obtain ⟨y0, y1, y2, y3, y4⟩ := cells5 yB; have yL := yB.lt; have zB : Bk w6 (w4.heap.size) 23 #[.int .i64 (andI p m), .int .i64 bs, .int .i64 l, .int .i64 at0, .int .i64 0] := bk_keep hb6 (by repeat (first | assumption | with_reducible exact bk_new _ _ _ | exact bk_new' _ _ (by simp) | with_reducible refine bk_drew ?_ | refine bk_old _ ?_)); (try clear z0 z1 z2 z3 z4); obtain ⟨z0, z1, z2, z3, z4⟩ := cells5 zB; have zL := zB.lt; have uB : Bk w6 (w5.heap.size) 23 #[.int .i64 (andI (andI p n) m), .int .i64 bs, .int .i64 l, .int .i64 at0, .int .i64 0] := bk_keep hb6 (by repeat (first | assumption | with_reducible exact bk_new _ _ _ | exact bk_new' _ _ (by simp) | with_reducible refine bk_drew ?_ | refine bk_old _ ?_)); (try clear u0 u1 u2 u3 u4); obtain ⟨u0, u1, u2, u3, u4⟩ := cells5 uB; have uL := uB.lt; simp only [KeyV.res]))
        | (go_at_call 21; refine (within_any _ _ _).mono ?_; rintro e w' ⟨rfl, rfl⟩))
    go_ret
    refine ⟨rfl, ?_⟩
    repeat (first | with_reducible exact Below.refl _ _ | with_reducible refine ext_alloc ?_ _ | with_reducible refine ext_drew ?_ | with_reducible refine ext_set ?_ (by first | omega | (simp; done) | (simp; omega)) _ | with_reducible refine ext_trans ?_ ‹_›)

end Go.Proofs.Ythadehaoafkaeaa
