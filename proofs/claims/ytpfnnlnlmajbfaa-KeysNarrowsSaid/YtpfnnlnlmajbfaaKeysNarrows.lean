/- KeysNarrows: a narrowed key has exactly the cells that were asked for, and narrowing twice is narrowing once. For every key and every three ints, without any condition. -/
import Derived.Test.YtpfnnlnlmajbfaaKeyed
import Derived.Test.YtpfnnlnlmajbfaaNum
import Derived.Test.YtpfnnlnlmajbfaaBlk
import Derived.Deep.RegionHeld3
import Derived.Deep.RegionWith
import Derived.Deep.DeepCutAuto
namespace Go.Proofs.Ytpfnnlnlmajbfaa
open Go.RowKit
set_option linter.unusedVariables false

set_option maxHeartbeats 8000000 in
set_option maxRecDepth 100000 in
theorem keysNarrows_walk (k : KeyV) (n0 m0 at0 : Int) (wk : k.wf) (wn : (Lit.int .i64 n0).wf = true) (wm : (Lit.int .i64 m0).wf = true) (wa : (Lit.int .i64 at0).wf = true) (w : World) :
    Calls Try.prog 13 #[k.val, .int .i64 n0, .int .i64 m0, .int .i64 at0] w fun e w' => e = .returned (.bool true) ∧ Below w.heap.size w w' := by
  have bn := wf_bd wn
  clear wn wm wa
  have hcases := narrowF_cases k n0
  obtain ⟨p, b, l, a, s⟩ := k
  change Calls Try.prog 13 #[.agg #[.int .i64 p, .int .i64 b, .int .i64 l, .int .i64 a, .int .i64 s], .int .i64 n0, .int .i64 m0, .int .i64 at0] w _
  have cn := fun W => narrow_any p b l a s n0 bn W
  rcases hcases with ⟨c, hc, hc0⟩ | ⟨hc, hok, hs, h1, h2, h3⟩
  · rw [hc] at cn
    have hc0' : (c == 0) = false := by simp [hc0]
    have CN := Lib.hid cn
    clear cn hc hc0
    go_enter Try.func13, Try.ntmps13
    go_wp2_with (first
        | (go_at_call 26; refine (keyed_any _).mono ?_; rintro e w1 ⟨rfl, hb1⟩; have kB : Bk w1 (w.heap.size) 35 #[.int .i64 p, .int .i64 b, .int .i64 l, .int .i64 a, .int .i64 s] := bk_keep hb1 (by repeat (first | assumption | with_reducible exact bk_new _ _ _ | exact bk_new' _ _ (by simp) | with_reducible refine bk_drew ?_ | refine bk_old _ ?_)); (try clear k0 k1 k2 k3 k4); obtain ⟨k0, k1, k2, k3, k4⟩ := cells5 kB; have kL := kB.lt)
        | (go_at_call 27; ((with_reducible refine (CN.out _).mono ?_); rintro e w2 ⟨rfl, hb2⟩; have kB : Bk w2 (w.heap.size) 35 #[.int .i64 p, .int .i64 b, .int .i64 l, .int .i64 a, .int .i64 s] := bk_keep hb2 (by repeat (first | assumption | with_reducible exact bk_new _ _ _ | exact bk_new' _ _ (by simp) | with_reducible refine bk_drew ?_ | refine bk_old _ ?_)); (try clear k0 k1 k2 k3 k4); obtain ⟨k0, k1, k2, k3, k4⟩ := cells5 kB; have kL := kB.lt; simp only [KeyV.res])))
    go_ret
    refine ⟨rfl, ?_⟩
    repeat (first | with_reducible exact Below.refl _ _ | with_reducible refine ext_alloc ?_ _ | with_reducible refine ext_drew ?_ | with_reducible refine ext_set ?_ (by first | omega | (simp; done) | (simp; omega)) _ | with_reducible refine ext_trans ?_ ‹_›)
  · obtain ⟨p0, p1, b0, b1, l0, l1, a0, a1, s0, s1⟩ := hok
    simp only at p0 p1 b0 b1 l0 l1 a0 a1 s0 s1 hs h1 h2 h3 hc
    rw [hc] at cn
    have m1 := Int.emod_nonneg m0 (by omega : (n0 + 1) ≠ 0)
    have m2 := Int.emod_lt_of_pos m0 (by omega : 0 < n0 + 1)
    have t1 := Int.emod_nonneg at0 (by decide : (401 : Int) ≠ 0)
    have t2 := Int.emod_lt_of_pos at0 (by decide : (0 : Int) < 401)
    generalize hM : m0 % (n0 + 1) = m at *
    generalize hT : at0 % 401 = t at *
    have okx : KeyV.Ok ⟨p, a, n0, a, 0⟩ := by constructor <;> simp <;> omega
    have okk : KeyV.Ok ⟨p, b, l, a, s⟩ := by constructor <;> simp <;> omega
    have n1 : narrowF ⟨p, a, n0, a, 0⟩ m = (⟨p, a, m, a, 0⟩, 0) := narrowF_ok okx rfl (Int.le_refl _) m1 (by simp; omega)
    have n2 : narrowF ⟨p, b, l, a, s⟩ m = (⟨p, a, m, a, 0⟩, 0) := narrowF_ok okk hs h1 m1 (by simp; omega)
    have n3 : narrowF ⟨p, a, n0, a, 0⟩ (n0 + 1) = (zeroK, 13) := narrowF_out okx rfl (by simp; omega)
    have c1' := fun W => narrow_any p a n0 a 0 m ⟨by omega, by omega⟩ W
    have c2' := fun W => narrow_any p b l a s m ⟨by omega, by omega⟩ W
    have c3' := fun W => narrow_any p a n0 a 0 (n0 + 1) ⟨by omega, by omega⟩ W
    have d1 := fun W => covers_any p a n0 a 0 t ⟨by omega, by omega⟩ ⟨by omega, by omega⟩ ⟨by omega, by omega⟩ W
    have d2 := fun W => covers_any p b l a s t ⟨by omega, by omega⟩ ⟨by omega, by omega⟩ ⟨by omega, by omega⟩ W
    rw [n1] at c1'
    rw [n2] at c2'
    rw [n3] at c3'
    have CN := Lib.hid cn
    have C1 := Lib.hid c1'
    have C2 := Lib.hid c2'
    have C3 := Lib.hid c3'
    have D1 := Lib.hid d1
    have D2 := Lib.hid d2
    clear cn c1' c2' c3' d1 d2 n1 n2 n3 okx okk hc hs s0 s1
    go_enter Try.func13, Try.ntmps13
    go_upto_region 7 with (first
        | (go_at_call 26; refine (keyed_any _).mono ?_; rintro e w1 ⟨rfl, hb1⟩; have kB : Bk w1 (w.heap.size) 35 #[.int .i64 p, .int .i64 b, .int .i64 l, .int .i64 a, .int .i64 s] := bk_keep hb1 (by repeat (first | assumption | with_reducible exact bk_new _ _ _ | exact bk_new' _ _ (by simp) | with_reducible refine bk_drew ?_ | refine bk_old _ ?_)); (try clear k0 k1 k2 k3 k4); obtain ⟨k0, k1, k2, k3, k4⟩ := cells5 kB; have kL := kB.lt)
        | (go_at_call 16; refine (rest_any _ _ _ (by omega) (by omega)).mono ?_; rintro e w' ⟨rfl, rfl⟩)
        | (go_at_call 27; ((with_reducible refine (CN.out _).mono ?_); rintro e w2 ⟨rfl, hb2⟩; have kB : Bk w2 (w.heap.size) 35 #[.int .i64 p, .int .i64 b, .int .i64 l, .int .i64 a, .int .i64 s] := bk_keep hb2 (by repeat (first | assumption | with_reducible exact bk_new _ _ _ | exact bk_new' _ _ (by simp) | with_reducible refine bk_drew ?_ | refine bk_old _ ?_)); (try clear k0 k1 k2 k3 k4); obtain ⟨k0, k1, k2, k3, k4⟩ := cells5 kB; have kL := kB.lt; simp only [KeyV.res])))
    go_cut [58] (fun s58 W => s58 = .bool false ∧ Bk W (w.heap.size) 35 #[.int .i64 p, .int .i64 b, .int .i64 l, .int .i64 a, .int .i64 s] ∧ Bk W (w2.heap.size) 35 #[.int .i64 p, .int .i64 a, .int .i64 n0, .int .i64 a, .int .i64 0] ∧ Below w.heap.size w W)
    case first =>
      by_cases hin : a ≤ t ∧ t < a + n0
      · have e1 : covB a n0 t = true := covB_iff.2 hin
        rw [e1] at D1
        have e2 : covB b l t = true := covB_iff.2 (by omega)
        rw [e2] at D2
        obtain ⟨hin1, hin2⟩ := hin
        have g1 : decide (a ≤ t) = true := by simp; omega
        have g2 : decide (t < a + n0) = true := by simp; omega
        have hsum : IntKind.i64.wrap (a + n0) = a + n0 := IntWalk.i64_in _ (by omega)
        obtain ⟨S, hS⟩ : ∃ S : World → Prop, ∀ W, S W ↔ (Below w.heap.size w W ∧ Bk W (w.heap.size) 35 #[.int .i64 p, .int .i64 b, .int .i64 l, .int .i64 a, .int .i64 s] ∧ Bk W (w2.heap.size) 35 #[.int .i64 p, .int .i64 a, .int .i64 n0, .int .i64 a, .int .i64 0]) := ⟨_, fun _ => Iff.rfl⟩
        have qk0 : ∀ x : Wd S, x.val.cell? ⟨w.heap.size, 0, none⟩ = some (.int .i64 p) := fun x => Bk.cell ((hS _).1 x.ok).2.1 0
        have qk1 : ∀ x : Wd S, x.val.cell? ⟨w.heap.size, 1, none⟩ = some (.int .i64 b) := fun x => Bk.cell ((hS _).1 x.ok).2.1 1
        have qk2 : ∀ x : Wd S, x.val.cell? ⟨w.heap.size, 2, none⟩ = some (.int .i64 l) := fun x => Bk.cell ((hS _).1 x.ok).2.1 2
        have qk3 : ∀ x : Wd S, x.val.cell? ⟨w.heap.size, 3, none⟩ = some (.int .i64 a) := fun x => Bk.cell ((hS _).1 x.ok).2.1 3
        have qk4 : ∀ x : Wd S, x.val.cell? ⟨w.heap.size, 4, none⟩ = some (.int .i64 s) := fun x => Bk.cell ((hS _).1 x.ok).2.1 4
        have qx0 : ∀ x : Wd S, x.val.cell? ⟨w2.heap.size, 0, none⟩ = some (.int .i64 p) := fun x => Bk.cell ((hS _).1 x.ok).2.2 0
        have qx1 : ∀ x : Wd S, x.val.cell? ⟨w2.heap.size, 1, none⟩ = some (.int .i64 a) := fun x => Bk.cell ((hS _).1 x.ok).2.2 1
        have qx2 : ∀ x : Wd S, x.val.cell? ⟨w2.heap.size, 2, none⟩ = some (.int .i64 n0) := fun x => Bk.cell ((hS _).1 x.ok).2.2 2
        have qx3 : ∀ x : Wd S, x.val.cell? ⟨w2.heap.size, 3, none⟩ = some (.int .i64 a) := fun x => Bk.cell ((hS _).1 x.ok).2.2 3
        have qx4 : ∀ x : Wd S, x.val.cell? ⟨w2.heap.size, 4, none⟩ = some (.int .i64 0) := fun x => Bk.cell ((hS _).1 x.ok).2.2 4
        have hk : ∀ W W', S W → Below W.heap.size W W' → S W' := fun W W' h hb => by obtain ⟨h0, h1, h2⟩ := (hS _).1 h; exact (hS _).2 ⟨ext_trans h0 hb, bk_keep hb h1, bk_keep hb h2⟩
        have HK := Lib.hid hk; clear hk
        have HS := Lib.hid hS; clear hS
        refine region_below ((HS.out _).2 ⟨by repeat (first | with_reducible exact Below.refl _ _ | with_reducible refine ext_alloc ?_ _ | with_reducible refine ext_drew ?_ | with_reducible refine ext_set ?_ (by first | omega | (simp; done) | (simp; omega)) _ | with_reducible refine ext_trans ?_ ‹_›), (by repeat (first | assumption | with_reducible exact bk_new _ _ _ | exact bk_new' _ _ (by simp) | with_reducible refine bk_drew ?_ | refine bk_old _ ?_)), (by repeat (first | assumption | with_reducible exact bk_new _ _ _ | exact bk_new' _ _ (by simp) | with_reducible refine bk_drew ?_ | refine bk_old _ ?_))⟩) (fun W h => by obtain ⟨h0, h1, h2⟩ := (HS.out _).1 h; exact (HS.out _).2 ⟨ext_drew h0, bk_drew h1, bk_drew h2⟩) (by kernel_rfl) (by kernel_rfl) ?_
        intro hne
        repeat (go_big_quiet_step ((first
          | (go_at_call 28; with_reducible exact wd_call HK.out (D1.out _))
          | (go_at_call 28; with_reducible exact wd_call HK.out (D2.out _)))))
        refine wpQuiet_nil ?_
        intro W hSW
        obtain ⟨hbW, kB, xB⟩ := (HS.out _).1 hSW
        clear hSW HS HK hne qk0 qk1 qk2 qk3 qk4 qx0 qx1 qx2 qx3 qx4
        clear hsum
        (go_wp2_with fail; go_meet; exact ⟨rfl, ‹_›, ‹_›, by repeat (first | with_reducible exact Below.refl _ _ | with_reducible refine ext_alloc ?_ _ | with_reducible refine ext_drew ?_ | with_reducible refine ext_set ?_ (by first | omega | (simp; done) | (simp; omega)) _ | with_reducible refine ext_trans ?_ ‹_›)⟩)
      · have e1 : covB a n0 t = false := covB_no.2 hin
        rw [e1] at D1
        by_cases hx : a ≤ t
        · have hy : ¬ t < a + n0 := by omega
          clear hin
          have g1 : decide (a ≤ t) = true := by simp; omega
          have g2 : decide (t < a + n0) = false := by simp; omega
          have hsum : IntKind.i64.wrap (a + n0) = a + n0 := IntWalk.i64_in _ (by omega)
          obtain ⟨S, hS⟩ : ∃ S : World → Prop, ∀ W, S W ↔ (Below w.heap.size w W ∧ Bk W (w.heap.size) 35 #[.int .i64 p, .int .i64 b, .int .i64 l, .int .i64 a, .int .i64 s] ∧ Bk W (w2.heap.size) 35 #[.int .i64 p, .int .i64 a, .int .i64 n0, .int .i64 a, .int .i64 0]) := ⟨_, fun _ => Iff.rfl⟩
          have qk0 : ∀ x : Wd S, x.val.cell? ⟨w.heap.size, 0, none⟩ = some (.int .i64 p) := fun x => Bk.cell ((hS _).1 x.ok).2.1 0
          have qk1 : ∀ x : Wd S, x.val.cell? ⟨w.heap.size, 1, none⟩ = some (.int .i64 b) := fun x => Bk.cell ((hS _).1 x.ok).2.1 1
          have qk2 : ∀ x : Wd S, x.val.cell? ⟨w.heap.size, 2, none⟩ = some (.int .i64 l) := fun x => Bk.cell ((hS _).1 x.ok).2.1 2
          have qk3 : ∀ x : Wd S, x.val.cell? ⟨w.heap.size, 3, none⟩ = some (.int .i64 a) := fun x => Bk.cell ((hS _).1 x.ok).2.1 3
          have qk4 : ∀ x : Wd S, x.val.cell? ⟨w.heap.size, 4, none⟩ = some (.int .i64 s) := fun x => Bk.cell ((hS _).1 x.ok).2.1 4
          have qx0 : ∀ x : Wd S, x.val.cell? ⟨w2.heap.size, 0, none⟩ = some (.int .i64 p) := fun x => Bk.cell ((hS _).1 x.ok).2.2 0
          have qx1 : ∀ x : Wd S, x.val.cell? ⟨w2.heap.size, 1, none⟩ = some (.int .i64 a) := fun x => Bk.cell ((hS _).1 x.ok).2.2 1
          have qx2 : ∀ x : Wd S, x.val.cell? ⟨w2.heap.size, 2, none⟩ = some (.int .i64 n0) := fun x => Bk.cell ((hS _).1 x.ok).2.2 2
          have qx3 : ∀ x : Wd S, x.val.cell? ⟨w2.heap.size, 3, none⟩ = some (.int .i64 a) := fun x => Bk.cell ((hS _).1 x.ok).2.2 3
          have qx4 : ∀ x : Wd S, x.val.cell? ⟨w2.heap.size, 4, none⟩ = some (.int .i64 0) := fun x => Bk.cell ((hS _).1 x.ok).2.2 4
          have hk : ∀ W W', S W → Below W.heap.size W W' → S W' := fun W W' h hb => by obtain ⟨h0, h1, h2⟩ := (hS _).1 h; exact (hS _).2 ⟨ext_trans h0 hb, bk_keep hb h1, bk_keep hb h2⟩
          have HK := Lib.hid hk; clear hk
          have HS := Lib.hid hS; clear hS
          refine region_below ((HS.out _).2 ⟨by repeat (first | with_reducible exact Below.refl _ _ | with_reducible refine ext_alloc ?_ _ | with_reducible refine ext_drew ?_ | with_reducible refine ext_set ?_ (by first | omega | (simp; done) | (simp; omega)) _ | with_reducible refine ext_trans ?_ ‹_›), (by repeat (first | assumption | with_reducible exact bk_new _ _ _ | exact bk_new' _ _ (by simp) | with_reducible refine bk_drew ?_ | refine bk_old _ ?_)), (by repeat (first | assumption | with_reducible exact bk_new _ _ _ | exact bk_new' _ _ (by simp) | with_reducible refine bk_drew ?_ | refine bk_old _ ?_))⟩) (fun W h => by obtain ⟨h0, h1, h2⟩ := (HS.out _).1 h; exact (HS.out _).2 ⟨ext_drew h0, bk_drew h1, bk_drew h2⟩) (by kernel_rfl) (by kernel_rfl) ?_
          intro hne
          repeat (go_big_quiet_step ((first
            | (go_at_call 28; with_reducible exact wd_call HK.out (D1.out _)))))
          refine wpQuiet_nil ?_
          intro W hSW
          obtain ⟨hbW, kB, xB⟩ := (HS.out _).1 hSW
          clear hSW HS HK hne qk0 qk1 qk2 qk3 qk4 qx0 qx1 qx2 qx3 qx4
          clear hsum
          (go_wp2_with fail; go_meet; exact ⟨rfl, ‹_›, ‹_›, by repeat (first | with_reducible exact Below.refl _ _ | with_reducible refine ext_alloc ?_ _ | with_reducible refine ext_drew ?_ | with_reducible refine ext_set ?_ (by first | omega | (simp; done) | (simp; omega)) _ | with_reducible refine ext_trans ?_ ‹_›)⟩)
        · clear hin
          have g1 : decide (a ≤ t) = false := by simp; omega
          have hsum : IntKind.i64.wrap (a + n0) = a + n0 := IntWalk.i64_in _ (by omega)
          obtain ⟨S, hS⟩ : ∃ S : World → Prop, ∀ W, S W ↔ (Below w.heap.size w W ∧ Bk W (w.heap.size) 35 #[.int .i64 p, .int .i64 b, .int .i64 l, .int .i64 a, .int .i64 s] ∧ Bk W (w2.heap.size) 35 #[.int .i64 p, .int .i64 a, .int .i64 n0, .int .i64 a, .int .i64 0]) := ⟨_, fun _ => Iff.rfl⟩
          have qk0 : ∀ x : Wd S, x.val.cell? ⟨w.heap.size, 0, none⟩ = some (.int .i64 p) := fun x => Bk.cell ((hS _).1 x.ok).2.1 0
          have qk1 : ∀ x : Wd S, x.val.cell? ⟨w.heap.size, 1, none⟩ = some (.int .i64 b) := fun x => Bk.cell ((hS _).1 x.ok).2.1 1
          have qk2 : ∀ x : Wd S, x.val.cell? ⟨w.heap.size, 2, none⟩ = some (.int .i64 l) := fun x => Bk.cell ((hS _).1 x.ok).2.1 2
          have qk3 : ∀ x : Wd S, x.val.cell? ⟨w.heap.size, 3, none⟩ = some (.int .i64 a) := fun x => Bk.cell ((hS _).1 x.ok).2.1 3
          have qk4 : ∀ x : Wd S, x.val.cell? ⟨w.heap.size, 4, none⟩ = some (.int .i64 s) := fun x => Bk.cell ((hS _).1 x.ok).2.1 4
          have qx0 : ∀ x : Wd S, x.val.cell? ⟨w2.heap.size, 0, none⟩ = some (.int .i64 p) := fun x => Bk.cell ((hS _).1 x.ok).2.2 0
          have qx1 : ∀ x : Wd S, x.val.cell? ⟨w2.heap.size, 1, none⟩ = some (.int .i64 a) := fun x => Bk.cell ((hS _).1 x.ok).2.2 1
          have qx2 : ∀ x : Wd S, x.val.cell? ⟨w2.heap.size, 2, none⟩ = some (.int .i64 n0) := fun x => Bk.cell ((hS _).1 x.ok).2.2 2
          have qx3 : ∀ x : Wd S, x.val.cell? ⟨w2.heap.size, 3, none⟩ = some (.int .i64 a) := fun x => Bk.cell ((hS _).1 x.ok).2.2 3
          have qx4 : ∀ x : Wd S, x.val.cell? ⟨w2.heap.size, 4, none⟩ = some (.int .i64 0) := fun x => Bk.cell ((hS _).1 x.ok).2.2 4
          have hk : ∀ W W', S W → Below W.heap.size W W' → S W' := fun W W' h hb => by obtain ⟨h0, h1, h2⟩ := (hS _).1 h; exact (hS _).2 ⟨ext_trans h0 hb, bk_keep hb h1, bk_keep hb h2⟩
          have HK := Lib.hid hk; clear hk
          have HS := Lib.hid hS; clear hS
          refine region_below ((HS.out _).2 ⟨by repeat (first | with_reducible exact Below.refl _ _ | with_reducible refine ext_alloc ?_ _ | with_reducible refine ext_drew ?_ | with_reducible refine ext_set ?_ (by first | omega | (simp; done) | (simp; omega)) _ | with_reducible refine ext_trans ?_ ‹_›), (by repeat (first | assumption | with_reducible exact bk_new _ _ _ | exact bk_new' _ _ (by simp) | with_reducible refine bk_drew ?_ | refine bk_old _ ?_)), (by repeat (first | assumption | with_reducible exact bk_new _ _ _ | exact bk_new' _ _ (by simp) | with_reducible refine bk_drew ?_ | refine bk_old _ ?_))⟩) (fun W h => by obtain ⟨h0, h1, h2⟩ := (HS.out _).1 h; exact (HS.out _).2 ⟨ext_drew h0, bk_drew h1, bk_drew h2⟩) (by kernel_rfl) (by kernel_rfl) ?_
          intro hne
          repeat (go_big_quiet_step ((first
            | (go_at_call 28; with_reducible exact wd_call HK.out (D1.out _)))))
          refine wpQuiet_nil ?_
          intro W hSW
          obtain ⟨hbW, kB, xB⟩ := (HS.out _).1 hSW
          clear hSW HS HK hne qk0 qk1 qk2 qk3 qk4 qx0 qx1 qx2 qx3 qx4
          clear hsum
          (go_wp2_with fail; go_meet; exact ⟨rfl, ‹_›, ‹_›, by repeat (first | with_reducible exact Below.refl _ _ | with_reducible refine ext_alloc ?_ _ | with_reducible refine ext_drew ?_ | with_reducible refine ext_set ?_ (by first | omega | (simp; done) | (simp; omega)) _ | with_reducible refine ext_trans ?_ ‹_›)⟩)
    case rest =>
      obtain ⟨rfl, kB, xB, hbw⟩ := hcut
      obtain ⟨k0, k1, k2, k3, k4⟩ := cells5 kB
      have kL := kB.lt
      obtain ⟨x0, x1, x2, x3, x4⟩ := cells5 xB
      have xL := xB.lt
      go_wp2_with (first
          | (go_at_call 16; refine (rest_any _ _ _ (by omega) (by omega)).mono ?_; rintro e w' ⟨rfl, rfl⟩)
          | (go_at_call 27; ((with_reducible refine (C1.out _).mono ?_); rintro e w5 ⟨rfl, hb5⟩; have kB : Bk w5 (w.heap.size) 35 #[.int .i64 p, .int .i64 b, .int .i64 l, .int .i64 a, .int .i64 s] := bk_keep hb5 (by repeat (first | assumption | with_reducible exact bk_new _ _ _ | exact bk_new' _ _ (by simp) | with_reducible refine bk_drew ?_ | refine bk_old _ ?_)); (try clear k0 k1 k2 k3 k4); obtain ⟨k0, k1, k2, k3, k4⟩ := cells5 kB; have kL := kB.lt; have xB : Bk w5 (w2.heap.size) 35 #[.int .i64 p, .int .i64 a, .int .i64 n0, .int .i64 a, .int .i64 0] := bk_keep hb5 (by repeat (first | assumption | with_reducible exact bk_new _ _ _ | exact bk_new' _ _ (by simp) | with_reducible refine bk_drew ?_ | refine bk_old _ ?_)); (try clear x0 x1 x2 x3 x4); obtain ⟨x0, x1, x2, x3, x4⟩ := cells5 xB; have xL := xB.lt; simp only [KeyV.res]))
          | (go_at_call 27; ((with_reducible refine (C2.out _).mono ?_); rintro e w6 ⟨rfl, hb6⟩; have kB : Bk w6 (w.heap.size) 35 #[.int .i64 p, .int .i64 b, .int .i64 l, .int .i64 a, .int .i64 s] := bk_keep hb6 (by repeat (first | assumption | with_reducible exact bk_new _ _ _ | exact bk_new' _ _ (by simp) | with_reducible refine bk_drew ?_ | refine bk_old _ ?_)); (try clear k0 k1 k2 k3 k4); obtain ⟨k0, k1, k2, k3, k4⟩ := cells5 kB; have kL := kB.lt; have xB : Bk w6 (w2.heap.size) 35 #[.int .i64 p, .int .i64 a, .int .i64 n0, .int .i64 a, .int .i64 0] := bk_keep hb6 (by repeat (first | assumption | with_reducible exact bk_new _ _ _ | exact bk_new' _ _ (by simp) | with_reducible refine bk_drew ?_ | refine bk_old _ ?_)); (try clear x0 x1 x2 x3 x4); obtain ⟨x0, x1, x2, x3, x4⟩ := cells5 xB; have xL := xB.lt; have yB : Bk w6 (w5.heap.size) 35 #[.int .i64 p, .int .i64 a, .int .i64 m, .int .i64 a, .int .i64 0] := bk_keep hb6 (by repeat (first | assumption | with_reducible exact bk_new _ _ _ | exact bk_new' _ _ (by simp) | with_reducible refine bk_drew ?_ | refine bk_old _ ?_)); (try clear y0 y1 y2 y3 y4); obtain ⟨y0, y1, y2, y3, y4⟩ := cells5 yB; have yL := yB.lt; simp only [KeyV.res]))
          | (go_at_call 27; ((with_reducible refine (C3.out _).mono ?_); rintro e w7 ⟨rfl, hb7⟩; have kB : Bk w7 (w.heap.size) 35 #[.int .i64 p, .int .i64 b, .int .i64 l, .int .i64 a, .int .i64 s] := bk_keep hb7 (by repeat (first | assumption | with_reducible exact bk_new _ _ _ | exact bk_new' _ _ (by simp) | with_reducible refine bk_drew ?_ | refine bk_old _ ?_)); (try clear k0 k1 k2 k3 k4); obtain ⟨k0, k1, k2, k3, k4⟩ := cells5 kB; have kL := kB.lt; have xB : Bk w7 (w2.heap.size) 35 #[.int .i64 p, .int .i64 a, .int .i64 n0, .int .i64 a, .int .i64 0] := bk_keep hb7 (by repeat (first | assumption | with_reducible exact bk_new _ _ _ | exact bk_new' _ _ (by simp) | with_reducible refine bk_drew ?_ | refine bk_old _ ?_)); (try clear x0 x1 x2 x3 x4); obtain ⟨x0, x1, x2, x3, x4⟩ := cells5 xB; have xL := xB.lt; have yB : Bk w7 (w5.heap.size) 35 #[.int .i64 p, .int .i64 a, .int .i64 m, .int .i64 a, .int .i64 0] := bk_keep hb7 (by repeat (first | assumption | with_reducible exact bk_new _ _ _ | exact bk_new' _ _ (by simp) | with_reducible refine bk_drew ?_ | refine bk_old _ ?_)); (try clear y0 y1 y2 y3 y4); obtain ⟨y0, y1, y2, y3, y4⟩ := cells5 yB; have yL := yB.lt; have zB : Bk w7 (w6.heap.size) 35 #[.int .i64 p, .int .i64 a, .int .i64 m, .int .i64 a, .int .i64 0] := bk_keep hb7 (by repeat (first | assumption | with_reducible exact bk_new _ _ _ | exact bk_new' _ _ (by simp) | with_reducible refine bk_drew ?_ | refine bk_old _ ?_)); (try clear z0 z1 z2 z3 z4); obtain ⟨z0, z1, z2, z3, z4⟩ := cells5 zB; have zL := zB.lt; simp only [KeyV.res])))
      go_ret
      refine ⟨rfl, ?_⟩
      repeat (first | with_reducible exact Below.refl _ _ | with_reducible refine ext_alloc ?_ _ | with_reducible refine ext_drew ?_ | with_reducible refine ext_set ?_ (by first | omega | (simp; done) | (simp; omega)) _ | with_reducible refine ext_trans ?_ ‹_›)

end Go.Proofs.Ytpfnnlnlmajbfaa
