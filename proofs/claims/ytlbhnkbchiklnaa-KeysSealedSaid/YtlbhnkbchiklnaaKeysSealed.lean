/- The walk of KeysSealed. -/
import Derived.Test.YtlbhnkbchiklnaaAllOf
import Derived.Test.YtlbhnkbchiklnaaKeyed
import Derived.Test.YtlbhnkbchiklnaaNum
import Derived.Test.YtlbhnkbchiklnaaMemLaw
namespace Go.Proofs.Ytlbhnkbchiklnaa
open Go.RowKit
set_option linter.unusedVariables false
set_option linter.unusedSimpArgs false
theorem allL_sealed {k c : KeyV} {n : Int} (h : k.seal_ ≠ 0) : allL k c n = [] := by
  have hp : plainF k ≠ 0 := fun h0 => h ((plainF_zero k).1 h0).2
  have e1 : ∀ ks, addL ks (moveF k n) = ks := fun ks => by
    rcases moveF_cases k n with ⟨e, he, h0⟩ | ⟨_, _, h2, _⟩
    · rw [he]; unfold addL; rw [if_neg h0]
    · exact absurd h2 h
  have e2 : ∀ ks, addL ks (narrowF k n) = ks := fun ks => by
    rcases narrowF_cases k n with ⟨e, he, h0⟩ | ⟨_, _, h2, _⟩
    · rw [he]; unfold addL; rw [if_neg h0]
    · exact absurd h2 h
  have e3 : ∀ ks, addL ks (dropF k n) = ks := fun ks => by
    rcases dropF_cases k n with ⟨e, he, h0⟩ | ⟨_, _, h2⟩
    · rw [he]; unfold addL; rw [if_neg h0]
    · exact absurd h2 h
  have e4 : ∀ ks, addL ks (sealF k c) = ks := fun ks => by
    rcases sealF_cases k c with ⟨e, he, h0⟩ | ⟨_, _, _, h2, _⟩
    · rw [he]; unfold addL; rw [if_neg h0]
    · exact absurd h2 h
  unfold allL
  rw [e4, e3, e2, e1]
set_option maxHeartbeats 2000000 in
set_option maxRecDepth 100000 in
theorem keysSealed_walk {w : World} (k c : KeyV) (n : Int) (hk : k.wf) (hc : c.wf) (hn : (Lit.int .i64 n).wf = true) :
    Calls Try.prog 4 #[k.val, c.val, .int .i64 n] w fun e w' => e = .returned (.bool true) ∧ Below w.heap.size w w' := by
  obtain ⟨p, b, l, a, s⟩ := k
  obtain ⟨p2, b2, l2, a2, s2⟩ := c
  simp only [KeyV.val]
  have hs0 : 0 ≤ s % 63 := Int.emod_nonneg _ (by decide)
  have hs1 : s % 63 < 63 := Int.emod_lt_of_pos _ (by decide)
  generalize hsx : s % 63 + 1 = sx at *
  have hx : (⟨p, b, l, a, sx⟩ : KeyV).wf := ⟨hk.perm, hk.base, hk.len, hk.at_, by constructor <;> simp only <;> omega⟩
  have al := fun W => allof_any p b l a sx p2 b2 l2 a2 s2 n hx hc (wf_bd hn) W
  have op := fun W => open_any p b l a sx p2 b2 l2 a2 s2 hx hc W
  have cv := fun W => covers_any p2 b2 l2 a2 s2 a2 hc.base hc.len hc.at_ W
  rw [allL_sealed (by simp only; omega)] at al
  unfold OwnPost at al
  have AL := Lib.hid al
  have hand : bits .and .i64 p2 64 = andI p2 64 := bits_and_bv p2 64
  rcases openF_cases ⟨p, b, l, a, sx⟩ ⟨p2, b2, l2, a2, s2⟩ with ⟨e, he, h0⟩ | ⟨he, ok, oc, h1, h2, h3, h4, h5⟩
  · rw [he] at op
    have f1 : (e == 0) = false := by simpa using h0
    have f2 : (e != 0) = true := by simpa using h0
    have OP := Lib.hid op
    clear al op cv he h0 hx hk hc hn hand
    have hsx' : s % 63 + 1 = sx := hsx
    clear hsx
    go_enter Try.func4, Try.ntmps4
    go_wp2_with (first
      | (go_at_call 18; ((with_reducible refine (keyed_any _).mono ?_); rintro e w1 ⟨rfl, hb1⟩; have kB : Bk w1 (w.heap.size) 24 #[.int .i64 p, .int .i64 b, .int .i64 l, .int .i64 a, .int .i64 s] := bk_keep hb1 (by repeat (first | with_reducible assumption | with_reducible exact bk_new _ _ _ | (with_reducible refine bk_new' _ _ ?_; simp; done) | with_reducible refine bk_drew ?_ | with_reducible refine bk_drewN _ ?_ | with_reducible refine bk_old _ ?_ | (with_reducible refine bk_far' _ (by omega) ?_) | with_reducible apply bk_set' | rfl)); (try clear k0 k1 k2 k3 k4); obtain ⟨k0, k1, k2, k3, k4⟩ := cells5 kB; have kL := kB.lt; have kF := fun i => Bk.frozen kB i; have cB : Bk w1 (w.heap.size + 1) 24 #[.int .i64 p2, .int .i64 b2, .int .i64 l2, .int .i64 a2, .int .i64 s2] := bk_keep hb1 (by repeat (first | with_reducible assumption | with_reducible exact bk_new _ _ _ | (with_reducible refine bk_new' _ _ ?_; simp; done) | with_reducible refine bk_drew ?_ | with_reducible refine bk_drewN _ ?_ | with_reducible refine bk_old _ ?_ | (with_reducible refine bk_far' _ (by omega) ?_) | with_reducible apply bk_set' | rfl)); (try clear c0 c1 c2 c3 c4); obtain ⟨c0, c1, c2, c3, c4⟩ := cells5 cB; have cL := cB.lt; have hB1 : Below w.heap.size w w1 := ext_trans (ext_alloc (ext_alloc (Below.refl _ _) _) _) hb1; have HB1 := Lib.hid hB1; clear hB1; have hB1s : ∀ x, Below w.heap.size w (w1.setCell ⟨w.heap.size, 4, none⟩ x) := fun x => ext_set HB1.out (Nat.le_refl _) _; have HB1s := Lib.hid hB1s; clear hB1s))
      | (go_at_call 19; refine (rest_any _ _ _ (by omega) (by omega)).mono ?_; rintro e w' ⟨rfl, rfl⟩)
      | (go_at_call 20; ((with_reducible refine (AL.out _).mono ?_); rintro e w2 ⟨r2, rfl, ho2, hb2⟩; have kB : Bk w2 (w.heap.size) 24 #[.int .i64 p, .int .i64 b, .int .i64 l, .int .i64 a, .int .i64 sx] := bk_keep hb2 (by repeat (first | with_reducible assumption | with_reducible exact bk_new _ _ _ | (with_reducible refine bk_new' _ _ ?_; simp; done) | with_reducible refine bk_drew ?_ | with_reducible refine bk_drewN _ ?_ | with_reducible refine bk_old _ ?_ | (with_reducible refine bk_far' _ (by omega) ?_) | with_reducible apply bk_set' | rfl)); (try clear k0 k1 k2 k3 k4); obtain ⟨k0, k1, k2, k3, k4⟩ := cells5 kB; have kL := kB.lt; have cB : Bk w2 (w.heap.size + 1) 24 #[.int .i64 p2, .int .i64 b2, .int .i64 l2, .int .i64 a2, .int .i64 s2] := bk_keep hb2 (by repeat (first | with_reducible assumption | with_reducible exact bk_new _ _ _ | (with_reducible refine bk_new' _ _ ?_; simp; done) | with_reducible refine bk_drew ?_ | with_reducible refine bk_drewN _ ?_ | with_reducible refine bk_old _ ?_ | (with_reducible refine bk_far' _ (by omega) ?_) | with_reducible apply bk_set' | rfl)); (try clear c0 c1 c2 c3 c4); obtain ⟨c0, c1, c2, c3, c4⟩ := cells5 cB; have cL := cB.lt; have hB2 : Below w.heap.size w w2 := ext_trans (HB1s.out _) hb2; have HB2 := Lib.hid hB2; clear hB2; obtain ⟨ao2, q2, rfl, hs2, hg2⟩ := Own.sl ho2; clear ho2 hs2 hg2))
      | (go_at_call 21; ((with_reducible refine (OP.out _).mono ?_); rintro e w3 ⟨rfl, hb3⟩; have kB : Bk w3 (w.heap.size) 24 #[.int .i64 p, .int .i64 b, .int .i64 l, .int .i64 a, .int .i64 sx] := bk_keep hb3 (by repeat (first | with_reducible assumption | with_reducible exact bk_new _ _ _ | (with_reducible refine bk_new' _ _ ?_; simp; done) | with_reducible refine bk_drew ?_ | with_reducible refine bk_drewN _ ?_ | with_reducible refine bk_old _ ?_ | (with_reducible refine bk_far' _ (by omega) ?_) | with_reducible apply bk_set' | rfl)); (try clear k0 k1 k2 k3 k4); obtain ⟨k0, k1, k2, k3, k4⟩ := cells5 kB; have kL := kB.lt; have cB : Bk w3 (w.heap.size + 1) 24 #[.int .i64 p2, .int .i64 b2, .int .i64 l2, .int .i64 a2, .int .i64 s2] := bk_keep hb3 (by repeat (first | with_reducible assumption | with_reducible exact bk_new _ _ _ | (with_reducible refine bk_new' _ _ ?_; simp; done) | with_reducible refine bk_drew ?_ | with_reducible refine bk_drewN _ ?_ | with_reducible refine bk_old _ ?_ | (with_reducible refine bk_far' _ (by omega) ?_) | with_reducible apply bk_set' | rfl)); (try clear c0 c1 c2 c3 c4); obtain ⟨c0, c1, c2, c3, c4⟩ := cells5 cB; have cL := cB.lt; simp only [KeyV.res]; have hB3 : Below w.heap.size w w3 := ext_trans (HB2.out) hb3; have HB3 := Lib.hid hB3; clear hB3)))
    go_ret
    refine ⟨rfl, ?_⟩
    repeat (first | with_reducible exact HB3.out | with_reducible refine ext_alloc ?_ _)
  · simp only at h2 h3 h4 h5
    have hq := andI_pos oc.p0 oc.p1 h4
    rw [he] at op
    rw [h5] at cv
    simp only at op hq
    generalize andI p2 64 = q at *
    have f1 : (s2 == 0) = true := by simp [h3]
    have f2 : (a2 == sx) = true := by simp [h2]
    have OP := Lib.hid op
    have CV := Lib.hid cv
    have H2 := Lib.hid h2
    have H3 := Lib.hid h3
    clear al op cv he hx hk hc hn ok oc h1 h2 h3 h4 h5
    have hsx' : s % 63 + 1 = sx := hsx
    clear hsx
    go_enter Try.func4, Try.ntmps4
    go_wp2_with (first
      | (go_at_call 18; ((with_reducible refine (keyed_any _).mono ?_); rintro e w1 ⟨rfl, hb1⟩; have kB : Bk w1 (w.heap.size) 24 #[.int .i64 p, .int .i64 b, .int .i64 l, .int .i64 a, .int .i64 s] := bk_keep hb1 (by repeat (first | with_reducible assumption | with_reducible exact bk_new _ _ _ | (with_reducible refine bk_new' _ _ ?_; simp; done) | with_reducible refine bk_drew ?_ | with_reducible refine bk_drewN _ ?_ | with_reducible refine bk_old _ ?_ | (with_reducible refine bk_far' _ (by omega) ?_) | with_reducible apply bk_set' | rfl)); (try clear k0 k1 k2 k3 k4); obtain ⟨k0, k1, k2, k3, k4⟩ := cells5 kB; have kL := kB.lt; have kF := fun i => Bk.frozen kB i; have cB : Bk w1 (w.heap.size + 1) 24 #[.int .i64 p2, .int .i64 b2, .int .i64 l2, .int .i64 a2, .int .i64 s2] := bk_keep hb1 (by repeat (first | with_reducible assumption | with_reducible exact bk_new _ _ _ | (with_reducible refine bk_new' _ _ ?_; simp; done) | with_reducible refine bk_drew ?_ | with_reducible refine bk_drewN _ ?_ | with_reducible refine bk_old _ ?_ | (with_reducible refine bk_far' _ (by omega) ?_) | with_reducible apply bk_set' | rfl)); (try clear c0 c1 c2 c3 c4); obtain ⟨c0, c1, c2, c3, c4⟩ := cells5 cB; have cL := cB.lt; have hB1 : Below w.heap.size w w1 := ext_trans (ext_alloc (ext_alloc (Below.refl _ _) _) _) hb1; have HB1 := Lib.hid hB1; clear hB1; have hB1s : ∀ x, Below w.heap.size w (w1.setCell ⟨w.heap.size, 4, none⟩ x) := fun x => ext_set HB1.out (Nat.le_refl _) _; have HB1s := Lib.hid hB1s; clear hB1s))
      | (go_at_call 19; refine (rest_any _ _ _ (by omega) (by omega)).mono ?_; rintro e w' ⟨rfl, rfl⟩)
      | (go_at_call 20; ((with_reducible refine (AL.out _).mono ?_); rintro e w2 ⟨r2, rfl, ho2, hb2⟩; have kB : Bk w2 (w.heap.size) 24 #[.int .i64 p, .int .i64 b, .int .i64 l, .int .i64 a, .int .i64 sx] := bk_keep hb2 (by repeat (first | with_reducible assumption | with_reducible exact bk_new _ _ _ | (with_reducible refine bk_new' _ _ ?_; simp; done) | with_reducible refine bk_drew ?_ | with_reducible refine bk_drewN _ ?_ | with_reducible refine bk_old _ ?_ | (with_reducible refine bk_far' _ (by omega) ?_) | with_reducible apply bk_set' | rfl)); (try clear k0 k1 k2 k3 k4); obtain ⟨k0, k1, k2, k3, k4⟩ := cells5 kB; have kL := kB.lt; have cB : Bk w2 (w.heap.size + 1) 24 #[.int .i64 p2, .int .i64 b2, .int .i64 l2, .int .i64 a2, .int .i64 s2] := bk_keep hb2 (by repeat (first | with_reducible assumption | with_reducible exact bk_new _ _ _ | (with_reducible refine bk_new' _ _ ?_; simp; done) | with_reducible refine bk_drew ?_ | with_reducible refine bk_drewN _ ?_ | with_reducible refine bk_old _ ?_ | (with_reducible refine bk_far' _ (by omega) ?_) | with_reducible apply bk_set' | rfl)); (try clear c0 c1 c2 c3 c4); obtain ⟨c0, c1, c2, c3, c4⟩ := cells5 cB; have cL := cB.lt; have hB2 : Below w.heap.size w w2 := ext_trans (HB1s.out _) hb2; have HB2 := Lib.hid hB2; clear hB2; obtain ⟨ao2, q2, rfl, hs2, hg2⟩ := Own.sl ho2; clear ho2 hs2 hg2))
      | (go_at_call 21; ((with_reducible refine (OP.out _).mono ?_); rintro e w3 ⟨rfl, hb3⟩; have kB : Bk w3 (w.heap.size) 24 #[.int .i64 p, .int .i64 b, .int .i64 l, .int .i64 a, .int .i64 sx] := bk_keep hb3 (by repeat (first | with_reducible assumption | with_reducible exact bk_new _ _ _ | (with_reducible refine bk_new' _ _ ?_; simp; done) | with_reducible refine bk_drew ?_ | with_reducible refine bk_drewN _ ?_ | with_reducible refine bk_old _ ?_ | (with_reducible refine bk_far' _ (by omega) ?_) | with_reducible apply bk_set' | rfl)); (try clear k0 k1 k2 k3 k4); obtain ⟨k0, k1, k2, k3, k4⟩ := cells5 kB; have kL := kB.lt; have cB : Bk w3 (w.heap.size + 1) 24 #[.int .i64 p2, .int .i64 b2, .int .i64 l2, .int .i64 a2, .int .i64 s2] := bk_keep hb3 (by repeat (first | with_reducible assumption | with_reducible exact bk_new _ _ _ | (with_reducible refine bk_new' _ _ ?_; simp; done) | with_reducible refine bk_drew ?_ | with_reducible refine bk_drewN _ ?_ | with_reducible refine bk_old _ ?_ | (with_reducible refine bk_far' _ (by omega) ?_) | with_reducible apply bk_set' | rfl)); (try clear c0 c1 c2 c3 c4); obtain ⟨c0, c1, c2, c3, c4⟩ := cells5 cB; have cL := cB.lt; simp only [KeyV.res]; have hB3 : Below w.heap.size w w3 := ext_trans (HB2.out) hb3; have HB3 := Lib.hid hB3; clear hB3))
      | (go_at_call 22; ((with_reducible refine (CV.out _).mono ?_); rintro e w4 ⟨rfl, hb4⟩; have kB : Bk w4 (w.heap.size) 24 #[.int .i64 p, .int .i64 b, .int .i64 l, .int .i64 a, .int .i64 sx] := bk_keep hb4 (by repeat (first | with_reducible assumption | with_reducible exact bk_new _ _ _ | (with_reducible refine bk_new' _ _ ?_; simp; done) | with_reducible refine bk_drew ?_ | with_reducible refine bk_drewN _ ?_ | with_reducible refine bk_old _ ?_ | (with_reducible refine bk_far' _ (by omega) ?_) | with_reducible apply bk_set' | rfl)); (try clear k0 k1 k2 k3 k4); obtain ⟨k0, k1, k2, k3, k4⟩ := cells5 kB; have kL := kB.lt; have cB : Bk w4 (w.heap.size + 1) 24 #[.int .i64 p2, .int .i64 b2, .int .i64 l2, .int .i64 a2, .int .i64 s2] := bk_keep hb4 (by repeat (first | with_reducible assumption | with_reducible exact bk_new _ _ _ | (with_reducible refine bk_new' _ _ ?_; simp; done) | with_reducible refine bk_drew ?_ | with_reducible refine bk_drewN _ ?_ | with_reducible refine bk_old _ ?_ | (with_reducible refine bk_far' _ (by omega) ?_) | with_reducible apply bk_set' | rfl)); (try clear c0 c1 c2 c3 c4); obtain ⟨c0, c1, c2, c3, c4⟩ := cells5 cB; have cL := cB.lt; have zB : Bk w4 (w3.heap.size) 24 #[.int .i64 p, .int .i64 b, .int .i64 l, .int .i64 a, .int .i64 0] := bk_keep hb4 (by repeat (first | with_reducible assumption | with_reducible exact bk_new _ _ _ | (with_reducible refine bk_new' _ _ ?_; simp; done) | with_reducible refine bk_drew ?_ | with_reducible refine bk_drewN _ ?_ | with_reducible refine bk_old _ ?_ | (with_reducible refine bk_far' _ (by omega) ?_) | with_reducible apply bk_set' | rfl)); (try clear z0 z1 z2 z3 z4); obtain ⟨z0, z1, z2, z3, z4⟩ := cells5 zB; have zL := zB.lt; have hB4 : Below w.heap.size w w4 := ext_trans (ext_alloc HB3.out _) hb4; have HB4 := Lib.hid hB4; clear hB4)))
    go_ret
    refine ⟨rfl, ?_⟩
    repeat (first | with_reducible exact HB4.out | with_reducible refine ext_alloc ?_ _)
end Go.Proofs.Ytlbhnkbchiklnaa
