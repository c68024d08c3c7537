/- The walk of MemLast. -/
import Derived.Test.YthadehaoafkaeaaMemLoaded
import Derived.Test.YthadehaoafkaeaaMemLaw
import Derived.Test.YthadehaoafkaeaaMemEq
import Derived.Test.YthadehaoafkaeaaLiftVals
namespace Go.Proofs.Ythadehaoafkaeaa
open Go.RowKit
set_option linter.unusedVariables false
set_option linter.unusedSimpArgs false
theorem sl_set {w : World} {ao : Option Addr} {n : Nat} {vs : List ValV} (h : Sl w ao n vs) (p : Addr) (x : Value) (hp : ∀ a, ao = some a → a.block ≠ p.block) : Sl (w.setCell p x) ao n vs :=
  h.keep (by simp [World.setCell]) fun a e => Below.heap_setCell w p x a.block (hp a e)
set_option maxHeartbeats 2000000 in
theorem memLast_walk {w : World} (m : SlV ValV) (k : KeyV) (off : Int) (v : ValV) (hm : m.ok ValV.wf w) (hz : m.n * 56 ≤ 140737488351232) (hk : k.wf) (ho : (Lit.int .i64 off).wf = true) (hv : v.wf) :
    Calls Try.prog 12 #[m.val, k.val, .int .i64 off, v.val] w fun e w' => e = .returned (.bool true) ∧ Below w.heap.size w w' := by
  obtain ⟨ao, N, cap, vs⟩ := m
  obtain ⟨hsl, _, _⟩ := hm
  obtain ⟨p, b, l, a, s⟩ := k
  obtain ⟨vi, vn, vp, vb, vl, va, vs_⟩ := v
  simp only [SlV.val, KeyV.val, ValV.val] at hsl hz ⊢
  have hN := hsl.len
  subst hN
  have cp : ∀ W, Below w.heap.size w W → Calls Try.prog 35 #[.slice ao vs.length cap] W (OwnPost W 41 vs) := fun W hb => copy_val ao _ cap vs W (hsl.below hb) (by omega)
  have st := fun W (hb : Below w.heap.size w W) => mstore_any ao vs.length cap vs p b l a s off vi vn vp vb vl va vs_ hk (wf_bd ho) W (hsl.below hb)
  unfold StoresPost at st
  have law := last_law (m := vs) (p := p) (b := b) (l := l) (a := a) (s := s) (off := off) (v := ⟨vi, vn, ⟨vp, vb, vl, va, vs_⟩⟩)
  have hor : bits .or .i64 p 9 = orI p 9 := bits_or_bv p 9
  have hk9 : (⟨orI p 9, b, l, a, s⟩ : KeyV).wf := ⟨orI_range _ _, hk.base, hk.len, hk.at_, hk.seal_⟩
  have CP := Lib.hid cp
  have HSL := Lib.hid hsl
  by_cases hg : storeE vs ⟨p, b, l, a, s⟩ off ⟨vi, vn, ⟨vp, vb, vl, va, vs_⟩⟩ = 0
  · obtain ⟨h1, h2, h3, h4⟩ := storeE_ok.1 hg
    obtain ⟨d1, d2, d3, d4, d5, d6, d7⟩ := atF_ok.1 h3
    obtain ⟨e1, e2, e3⟩ := atF_val h3
    have hld := law hg
    have hlen := storeM_length vs ⟨p, b, l, a, s⟩ off ⟨vi, vn, ⟨vp, vb, vl, va, vs_⟩⟩
    have hmem : storeM vs ⟨p, b, l, a, s⟩ off ⟨vi, vn, ⟨vp, vb, vl, va, vs_⟩⟩ = vs.set (a + off).toNat ⟨vi, vn, ⟨vp, vb, vl, va, vs_⟩⟩ := rfl
    have a0 := d1.a0; have a1 := d1.a1
    have hn4 := ((memCheck_zero vs).1 h1).1
    simp only at e2 e3 a0 a1 d4 d5
    obtain ⟨j, hj⟩ := Int.eq_ofNat_of_zero_le e2
    have hjt : (a + off).toNat = j := by omega
    rw [hjt] at hmem
    have hjn : j < vs.length := by omega
    simp only [hg, if_true] at st
    generalize storeM vs ⟨p, b, l, a, s⟩ off ⟨vi, vn, ⟨vp, vb, vl, va, vs_⟩⟩ = ws at *
    have HLD := Lib.hid hld
    have HLEN := Lib.hid hlen
    have HMEM := Lib.hid hmem
    have HJ := Lib.hid hj
    have ST := Lib.hid st
    have HK9 := Lib.hid hk9
    have HOR := Lib.hid hor
    clear cp st law hor hk9 hsl hld hlen hmem h1 h2 h3 h4 d1 d2 d3 d6 d7 e1 hg hk hv hjt hj
    go_enter Try.func12, Try.ntmps12
    go_wp2_with (first
      | (go_at_call 35; ((with_reducible refine (CP.out _ (ext_alloc (ext_alloc (Below.refl _ _) _) _)).mono ?_); rintro e w1 ⟨r1, rfl, ho1, hb1⟩; have kB : Bk w1 (w.heap.size) 23 #[.int .i64 p, .int .i64 b, .int .i64 l, .int .i64 a, .int .i64 s] := bk_keep hb1 (by repeat (first | with_reducible assumption | with_reducible exact bk_new _ _ _ | (with_reducible refine bk_new' _ _ ?_; simp; done) | with_reducible refine bk_drew ?_ | with_reducible refine bk_drewN _ ?_ | with_reducible refine bk_old _ ?_ | (with_reducible refine bk_far' _ (by omega) ?_) | with_reducible apply bk_set' | rfl)); (try clear k0 k1 k2 k3 k4); obtain ⟨k0, k1, k2, k3, k4⟩ := cells5 kB; have kL := kB.lt; have vB : Bk w1 (w.heap.size + 1) 41 #[.bool vi, .int .i64 vn, .int .i64 vp, .int .i64 vb, .int .i64 vl, .int .i64 va, .int .i64 vs_] := bk_keep hb1 (by repeat (first | with_reducible assumption | with_reducible exact bk_new _ _ _ | (with_reducible refine bk_new' _ _ ?_; simp; done) | with_reducible refine bk_drew ?_ | with_reducible refine bk_drewN _ ?_ | with_reducible refine bk_old _ ?_ | (with_reducible refine bk_far' _ (by omega) ?_) | with_reducible apply bk_set' | rfl)); (try clear v0 v1 v2 v3 v4 v5 v6); obtain ⟨v0, v1, v2, v3, v4, v5, v6⟩ := cells7 vB; have vL := vB.lt; have hB1 : Below w.heap.size w w1 := ext_trans (ext_alloc (ext_alloc (Below.refl _ _) _) _) hb1; have HB1 := Lib.hid hB1; clear hB1; obtain ⟨ao1, c1, rfl, hs1, hg1⟩ := Own.sl ho1; have HS1 := Lib.hid hs1; have HG1 := Lib.hid hg1; clear ho1 hs1 hg1))
      | (go_at_call 36; ((with_reducible refine (ST.out _ HB1.out).mono ?_); rintro e w2 ⟨r2, rfl, ho2, hb2⟩; have kB : Bk w2 (w.heap.size) 23 #[.int .i64 p, .int .i64 b, .int .i64 l, .int .i64 a, .int .i64 s] := bk_keep hb2 (by repeat (first | with_reducible assumption | with_reducible exact bk_new _ _ _ | (with_reducible refine bk_new' _ _ ?_; simp; done) | with_reducible refine bk_drew ?_ | with_reducible refine bk_drewN _ ?_ | with_reducible refine bk_old _ ?_ | (with_reducible refine bk_far' _ (by omega) ?_) | with_reducible apply bk_set' | rfl)); (try clear k0 k1 k2 k3 k4); obtain ⟨k0, k1, k2, k3, k4⟩ := cells5 kB; have kL := kB.lt; have vB : Bk w2 (w.heap.size + 1) 41 #[.bool vi, .int .i64 vn, .int .i64 vp, .int .i64 vb, .int .i64 vl, .int .i64 va, .int .i64 vs_] := bk_keep hb2 (by repeat (first | with_reducible assumption | with_reducible exact bk_new _ _ _ | (with_reducible refine bk_new' _ _ ?_; simp; done) | with_reducible refine bk_drew ?_ | with_reducible refine bk_drewN _ ?_ | with_reducible refine bk_old _ ?_ | (with_reducible refine bk_far' _ (by omega) ?_) | with_reducible apply bk_set' | rfl)); (try clear v0 v1 v2 v3 v4 v5 v6); obtain ⟨v0, v1, v2, v3, v4, v5, v6⟩ := cells7 vB; have vL := vB.lt; have hB2 : Below w.heap.size w w2 := ext_trans (HB1.out) hb2; have HB2 := Lib.hid hB2; clear hB2; obtain ⟨ao3, c3, rfl, hs3, hg3⟩ : ∃ ao3 c3, r2 = .slice ao3 vs.length c3 ∧ Sl w2 ao3 vs.length ws ∧ (∀ a, ao3 = some a → w1.heap.size ≤ a.block ∧ a.block < w2.heap.size) := (by obtain ⟨ao, c, h, h2, h3⟩ := Own.sl ho2; rw [HLEN.out] at h h2; exact ⟨ao, c, h, h2, h3⟩); have HS3 := Lib.hid hs3; have HG3 := Lib.hid hg3; clear ho2 hs3 hg3; have HB12 := Lib.hid (show Below w1.heap.size w1 w2 from ‹Below w1.heap.size w1 w2›)))
      | (go_at_call 32; ((with_reducible refine (loaded_any _).mono ?_); rintro e w3 ⟨rfl, hb3⟩; have kB : Bk w3 (w.heap.size) 23 #[.int .i64 p, .int .i64 b, .int .i64 l, .int .i64 a, .int .i64 s] := bk_keep hb3 (by repeat (first | with_reducible assumption | with_reducible exact bk_new _ _ _ | (with_reducible refine bk_new' _ _ ?_; simp; done) | with_reducible refine bk_drew ?_ | with_reducible refine bk_drewN _ ?_ | with_reducible refine bk_old _ ?_ | (with_reducible refine bk_far' _ (by omega) ?_) | with_reducible apply bk_set' | rfl)); (try clear k0 k1 k2 k3 k4); obtain ⟨k0, k1, k2, k3, k4⟩ := cells5 kB; have kL := kB.lt; have vB : Bk w3 (w.heap.size + 1) 41 #[.bool vi, .int .i64 vn, .int .i64 vp, .int .i64 vb, .int .i64 vl, .int .i64 va, .int .i64 vs_] := bk_keep hb3 (by repeat (first | with_reducible assumption | with_reducible exact bk_new _ _ _ | (with_reducible refine bk_new' _ _ ?_; simp; done) | with_reducible refine bk_drew ?_ | with_reducible refine bk_drewN _ ?_ | with_reducible refine bk_old _ ?_ | (with_reducible refine bk_far' _ (by omega) ?_) | with_reducible apply bk_set' | rfl)); (try clear v0 v1 v2 v3 v4 v5 v6); obtain ⟨v0, v1, v2, v3, v4, v5, v6⟩ := cells7 vB; have vL := vB.lt; have hB3 : Below w.heap.size w w3 := ext_trans (HB2.out) hb3; have HB3 := Lib.hid hB3; clear hB3; have HB23 := Lib.hid (show Below w2.heap.size w2 w3 from ‹Below w2.heap.size w2 w3›)))
      | (go_at_call 37; ((with_reducible refine (eq_val ao ao1 vs.length vs.length cap c1 vs vs w3 (HSL.out.below HB3.out) ((HS1.out.below HB12.out).below HB23.out)).mono ?_); rintro e w4 ⟨rfl, hb4⟩; have kB : Bk w4 (w.heap.size) 23 #[.int .i64 p, .int .i64 b, .int .i64 l, .int .i64 a, .int .i64 s] := bk_keep hb4 (by repeat (first | with_reducible assumption | with_reducible exact bk_new _ _ _ | (with_reducible refine bk_new' _ _ ?_; simp; done) | with_reducible refine bk_drew ?_ | with_reducible refine bk_drewN _ ?_ | with_reducible refine bk_old _ ?_ | (with_reducible refine bk_far' _ (by omega) ?_) | with_reducible apply bk_set' | rfl)); (try clear k0 k1 k2 k3 k4); obtain ⟨k0, k1, k2, k3, k4⟩ := cells5 kB; have kL := kB.lt; have vB : Bk w4 (w.heap.size + 1) 41 #[.bool vi, .int .i64 vn, .int .i64 vp, .int .i64 vb, .int .i64 vl, .int .i64 va, .int .i64 vs_] := bk_keep hb4 (by repeat (first | with_reducible assumption | with_reducible exact bk_new _ _ _ | (with_reducible refine bk_new' _ _ ?_; simp; done) | with_reducible refine bk_drew ?_ | with_reducible refine bk_drewN _ ?_ | with_reducible refine bk_old _ ?_ | (with_reducible refine bk_far' _ (by omega) ?_) | with_reducible apply bk_set' | rfl)); (try clear v0 v1 v2 v3 v4 v5 v6); obtain ⟨v0, v1, v2, v3, v4, v5, v6⟩ := cells7 vB; have vL := vB.lt; have hB4 : Below w.heap.size w w4 := ext_trans (HB3.out) hb4; have HB4 := Lib.hid hB4; clear hB4; have HB34 := Lib.hid (show Below w3.heap.size w3 w4 from ‹Below w3.heap.size w3 w4›); have gE : decide (vs = vs) = true := decide_eq_true rfl)))
    have HSW := Lib.hid (((HS3.out.below HB23.out).below HB34.out))
    have HSV := Lib.hid (HSL.out.below HB4.out)
    go_loopw [45] (fun i wr => ∃ k nd : Nat, k ≤ vs.length ∧ i = .int .i64 k ∧ wr = w4.drewN nd) (fun i _ => vs.length - (intOf i).toNat)
    case atStart => exact ⟨0, 0, Nat.zero_le _, rfl, rfl⟩
    case round =>
      obtain ⟨i, nd, hi, rfl, rfl⟩ := hrel
      by_cases hlt : i < vs.length
      · have q0 : (0 : Int) ≤ i := by omega
        have q1 : (i : Int) < vs.length := by omega
        by_cases hij : i = j
        · subst hij
          have hx : ws[i]? = some ⟨vi, vn, ⟨vp, vb, vl, va, vs_⟩⟩ := by rw [HMEM.out]; simp [hlt]
          obtain ⟨ad, rfl, hab, e0, e1, e2', e3', e4, e5, e6⟩ := sl_valg HSW.out hlt hx
          simp only at e0 e1 e2' e3' e4 e5 e6
          have t1 : ((i : Int) == a + off) = true := by have := HJ.out; simp; omega
          have t2 : ((i : Int) != a + off) = false := by have := HJ.out; simp; omega
          clear hx
          go_wp2
          go_quiet (fail)
          go_wp2
          go_roundw
          case rel => exact ⟨i + 1, nd + nq, by omega, by go_num, by simp⟩
          case measure => simp [intOf]; omega
        · obtain ⟨x, hgx⟩ : ∃ x, vs[i]? = some x := ⟨_, List.getElem?_eq_getElem hlt⟩
          have hx : ws[i]? = some x := by rw [HMEM.out, List.getElem?_set_ne (by omega)]; exact hgx
          obtain ⟨ad, rfl, hab, e0, e1, e2', e3', e4, e5, e6⟩ := sl_valg HSW.out hlt hx
          obtain ⟨bd, rfl, hbb, f0, f1, f2, f3, f4, f5, f6⟩ := sl_valg HSV.out hlt hgx
          obtain ⟨xi, xn, xp, xb, xl, xa, xs⟩ := x
          simp only at e0 e1 e2' e3' e4 e5 e6 f0 f1 f2 f3 f4 f5 f6
          have t1 : ((i : Int) == a + off) = false := by have := HJ.out; simp; omega
          have t2 : ((i : Int) != a + off) = true := by have := HJ.out; simp; omega
          clear hx hgx hij
          go_wp2
          go_quiet (fail)
          go_wp2
          go_roundw
          case rel => exact ⟨i + 1, nd + nq, by omega, by go_num, by simp⟩
          case measure => simp [intOf]; omega
      · have hor' : bits .or .i64 p 9 = orI p 9 := HOR.out
        have hkn : ∀ a, ao3 = some a → a.block ≠ w.heap.size := fun a h => by have := (HG3.out a h).1; have := HB1.out.size; have := HB1.out; omega
        have hs5 : Sl (w4.drewN nd) ao3 vs.length ws := HSW.out.drewN nd
        have hb5 : Below w.heap.size w (w4.drewN nd) := ext_drewN HB4.out nd
        have kB : Bk (w4.drewN nd) w.heap.size 23 #[.int .i64 p, .int .i64 b, .int .i64 l, .int .i64 a, .int .i64 s] := kB
        have vB : Bk (w4.drewN nd) (w.heap.size + 1) 41 #[.bool vi, .int .i64 vn, .int .i64 vp, .int .i64 vb, .int .i64 vl, .int .i64 va, .int .i64 vs_] := vB
        generalize w4.drewN nd = w5 at hs5 hb5 kB vB ⊢
        obtain ⟨k0, k1, k2, k3, k4⟩ := cells5 kB
        obtain ⟨v0, v1, v2, v3, v4, v5, v6⟩ := cells7 vB
        have kL := kB.lt
        have vL := vB.lt
        have hsw : ∀ x, Sl (w5.setCell ⟨w.heap.size, 0, none⟩ x) ao3 vs.length ws := fun x => sl_set hs5 ⟨w.heap.size, 0, none⟩ x hkn
        have lu := fun W (h : Sl W ao3 vs.length ws) => mload_any ao3 vs.length c3 ws (orI p 9) b l a s off HK9.out (wf_bd ho) W h
        have hbx : ∀ x, Below w.heap.size w (w5.setCell ⟨w.heap.size, 0, none⟩ x) := fun x => ext_set hb5 (Nat.le_refl _) x
        rw [HLD.out] at lu
        simp only [ValV.val] at lu
        generalize orI p 9 = po at *
        have hge : i = vs.length := by omega
        have kF := fun i => Bk.frozen kB i
        have HSX := Lib.hid hsw
        have LU := Lib.hid lu
        have HBX := Lib.hid hbx
        have HGE := Lib.hid hge
        have hnlt : ¬ ((i : Int) < vs.length) := by omega
        clear hsw lu hbx hge hkn hlt ho hs5 hb5
        go_wp2_with (first
          | (go_at_call 34; ((with_reducible refine (LU.out _ (HSX.out _)).mono ?_); rintro e w6 ⟨rfl, hb6⟩; have kB : Bk w6 (w.heap.size) 23 #[.int .i64 po, .int .i64 b, .int .i64 l, .int .i64 a, .int .i64 s] := bk_keep hb6 (by repeat (first | with_reducible assumption | with_reducible exact bk_new _ _ _ | (with_reducible refine bk_new' _ _ ?_; simp; done) | with_reducible refine bk_drew ?_ | with_reducible refine bk_drewN _ ?_ | with_reducible refine bk_old _ ?_ | (with_reducible refine bk_far' _ (by omega) ?_) | with_reducible apply bk_set' | rfl)); (try clear k0 k1 k2 k3 k4); obtain ⟨k0, k1, k2, k3, k4⟩ := cells5 kB; have kL := kB.lt; have vB : Bk w6 (w.heap.size + 1) 41 #[.bool vi, .int .i64 vn, .int .i64 vp, .int .i64 vb, .int .i64 vl, .int .i64 va, .int .i64 vs_] := bk_keep hb6 (by repeat (first | with_reducible assumption | with_reducible exact bk_new _ _ _ | (with_reducible refine bk_new' _ _ ?_; simp; done) | with_reducible refine bk_drew ?_ | with_reducible refine bk_drewN _ ?_ | with_reducible refine bk_old _ ?_ | (with_reducible refine bk_far' _ (by omega) ?_) | with_reducible apply bk_set' | rfl)); (try clear v0 v1 v2 v3 v4 v5 v6); obtain ⟨v0, v1, v2, v3, v4, v5, v6⟩ := cells7 vB; have vL := vB.lt; have hB6 : Below w.heap.size w w6 := ext_trans (HBX.out _) hb6; have HB6 := Lib.hid hB6; clear hB6)))
        go_ret
        refine ⟨rfl, ?_⟩
        repeat (first | with_reducible exact HB6.out | with_reducible refine ext_alloc ?_ _)
  · simp only [hg, if_false] at st
    have g1 : (storeE vs ⟨p, b, l, a, s⟩ off ⟨vi, vn, ⟨vp, vb, vl, va, vs_⟩⟩ == 0) = false := by simpa using hg
    have g2 : (storeE vs ⟨p, b, l, a, s⟩ off ⟨vi, vn, ⟨vp, vb, vl, va, vs_⟩⟩ != 0) = true := by simpa using hg
    generalize storeE vs ⟨p, b, l, a, s⟩ off ⟨vi, vn, ⟨vp, vb, vl, va, vs_⟩⟩ = g at *
    have ST := Lib.hid st
    clear cp st law hor hk9 hsl hg hk hv
    go_enter Try.func12, Try.ntmps12
    go_wp2_with (first
      | (go_at_call 35; ((with_reducible refine (CP.out _ (ext_alloc (ext_alloc (Below.refl _ _) _) _)).mono ?_); rintro e w1 ⟨r1, rfl, ho1, hb1⟩; have kB : Bk w1 (w.heap.size) 23 #[.int .i64 p, .int .i64 b, .int .i64 l, .int .i64 a, .int .i64 s] := bk_keep hb1 (by repeat (first | with_reducible assumption | with_reducible exact bk_new _ _ _ | (with_reducible refine bk_new' _ _ ?_; simp; done) | with_reducible refine bk_drew ?_ | with_reducible refine bk_drewN _ ?_ | with_reducible refine bk_old _ ?_ | (with_reducible refine bk_far' _ (by omega) ?_) | with_reducible apply bk_set' | rfl)); (try clear k0 k1 k2 k3 k4); obtain ⟨k0, k1, k2, k3, k4⟩ := cells5 kB; have kL := kB.lt; have vB : Bk w1 (w.heap.size + 1) 41 #[.bool vi, .int .i64 vn, .int .i64 vp, .int .i64 vb, .int .i64 vl, .int .i64 va, .int .i64 vs_] := bk_keep hb1 (by repeat (first | with_reducible assumption | with_reducible exact bk_new _ _ _ | (with_reducible refine bk_new' _ _ ?_; simp; done) | with_reducible refine bk_drew ?_ | with_reducible refine bk_drewN _ ?_ | with_reducible refine bk_old _ ?_ | (with_reducible refine bk_far' _ (by omega) ?_) | with_reducible apply bk_set' | rfl)); (try clear v0 v1 v2 v3 v4 v5 v6); obtain ⟨v0, v1, v2, v3, v4, v5, v6⟩ := cells7 vB; have vL := vB.lt; have hB1 : Below w.heap.size w w1 := ext_trans (ext_alloc (ext_alloc (Below.refl _ _) _) _) hb1; have HB1 := Lib.hid hB1; clear hB1; obtain ⟨ao1, c1, rfl, hs1, hg1⟩ := Own.sl ho1; have HS1 := Lib.hid hs1; have HG1 := Lib.hid hg1; clear ho1 hs1 hg1))
      | (go_at_call 36; ((with_reducible refine (ST.out _ HB1.out).mono ?_); rintro e w2 ⟨r2, rfl, ho2, hb2⟩; have kB : Bk w2 (w.heap.size) 23 #[.int .i64 p, .int .i64 b, .int .i64 l, .int .i64 a, .int .i64 s] := bk_keep hb2 (by repeat (first | with_reducible assumption | with_reducible exact bk_new _ _ _ | (with_reducible refine bk_new' _ _ ?_; simp; done) | with_reducible refine bk_drew ?_ | with_reducible refine bk_drewN _ ?_ | with_reducible refine bk_old _ ?_ | (with_reducible refine bk_far' _ (by omega) ?_) | with_reducible apply bk_set' | rfl)); (try clear k0 k1 k2 k3 k4); obtain ⟨k0, k1, k2, k3, k4⟩ := cells5 kB; have kL := kB.lt; have vB : Bk w2 (w.heap.size + 1) 41 #[.bool vi, .int .i64 vn, .int .i64 vp, .int .i64 vb, .int .i64 vl, .int .i64 va, .int .i64 vs_] := bk_keep hb2 (by repeat (first | with_reducible assumption | with_reducible exact bk_new _ _ _ | (with_reducible refine bk_new' _ _ ?_; simp; done) | with_reducible refine bk_drew ?_ | with_reducible refine bk_drewN _ ?_ | with_reducible refine bk_old _ ?_ | (with_reducible refine bk_far' _ (by omega) ?_) | with_reducible apply bk_set' | rfl)); (try clear v0 v1 v2 v3 v4 v5 v6); obtain ⟨v0, v1, v2, v3, v4, v5, v6⟩ := cells7 vB; have vL := vB.lt; have hB2 : Below w.heap.size w w2 := ext_trans (HB1.out) hb2; have HB2 := Lib.hid hB2; clear hB2; obtain ⟨ao3, c3, rfl, hs3, hg3⟩ := Own.sl ho2; clear ho2 hs3 hg3; have HB12 := Lib.hid (show Below w1.heap.size w1 w2 from ‹Below w1.heap.size w1 w2›)))
      | (go_at_call 32; ((with_reducible refine (loaded_any _).mono ?_); rintro e w3 ⟨rfl, hb3⟩; have kB : Bk w3 (w.heap.size) 23 #[.int .i64 p, .int .i64 b, .int .i64 l, .int .i64 a, .int .i64 s] := bk_keep hb3 (by repeat (first | with_reducible assumption | with_reducible exact bk_new _ _ _ | (with_reducible refine bk_new' _ _ ?_; simp; done) | with_reducible refine bk_drew ?_ | with_reducible refine bk_drewN _ ?_ | with_reducible refine bk_old _ ?_ | (with_reducible refine bk_far' _ (by omega) ?_) | with_reducible apply bk_set' | rfl)); (try clear k0 k1 k2 k3 k4); obtain ⟨k0, k1, k2, k3, k4⟩ := cells5 kB; have kL := kB.lt; have vB : Bk w3 (w.heap.size + 1) 41 #[.bool vi, .int .i64 vn, .int .i64 vp, .int .i64 vb, .int .i64 vl, .int .i64 va, .int .i64 vs_] := bk_keep hb3 (by repeat (first | with_reducible assumption | with_reducible exact bk_new _ _ _ | (with_reducible refine bk_new' _ _ ?_; simp; done) | with_reducible refine bk_drew ?_ | with_reducible refine bk_drewN _ ?_ | with_reducible refine bk_old _ ?_ | (with_reducible refine bk_far' _ (by omega) ?_) | with_reducible apply bk_set' | rfl)); (try clear v0 v1 v2 v3 v4 v5 v6); obtain ⟨v0, v1, v2, v3, v4, v5, v6⟩ := cells7 vB; have vL := vB.lt; have hB3 : Below w.heap.size w w3 := ext_trans (HB2.out) hb3; have HB3 := Lib.hid hB3; clear hB3; have HB23 := Lib.hid (show Below w2.heap.size w2 w3 from ‹Below w2.heap.size w2 w3›)))
      | (go_at_call 37; ((with_reducible refine (eq_val ao ao1 vs.length vs.length cap c1 vs vs w3 (HSL.out.below HB3.out) ((HS1.out.below HB12.out).below HB23.out)).mono ?_); rintro e w4 ⟨rfl, hb4⟩; have kB : Bk w4 (w.heap.size) 23 #[.int .i64 p, .int .i64 b, .int .i64 l, .int .i64 a, .int .i64 s] := bk_keep hb4 (by repeat (first | with_reducible assumption | with_reducible exact bk_new _ _ _ | (with_reducible refine bk_new' _ _ ?_; simp; done) | with_reducible refine bk_drew ?_ | with_reducible refine bk_drewN _ ?_ | with_reducible refine bk_old _ ?_ | (with_reducible refine bk_far' _ (by omega) ?_) | with_reducible apply bk_set' | rfl)); (try clear k0 k1 k2 k3 k4); obtain ⟨k0, k1, k2, k3, k4⟩ := cells5 kB; have kL := kB.lt; have vB : Bk w4 (w.heap.size + 1) 41 #[.bool vi, .int .i64 vn, .int .i64 vp, .int .i64 vb, .int .i64 vl, .int .i64 va, .int .i64 vs_] := bk_keep hb4 (by repeat (first | with_reducible assumption | with_reducible exact bk_new _ _ _ | (with_reducible refine bk_new' _ _ ?_; simp; done) | with_reducible refine bk_drew ?_ | with_reducible refine bk_drewN _ ?_ | with_reducible refine bk_old _ ?_ | (with_reducible refine bk_far' _ (by omega) ?_) | with_reducible apply bk_set' | rfl)); (try clear v0 v1 v2 v3 v4 v5 v6); obtain ⟨v0, v1, v2, v3, v4, v5, v6⟩ := cells7 vB; have vL := vB.lt; have hB4 : Below w.heap.size w w4 := ext_trans (HB3.out) hb4; have HB4 := Lib.hid hB4; clear hB4; have HB34 := Lib.hid (show Below w3.heap.size w3 w4 from ‹Below w3.heap.size w3 w4›); have gE : decide (vs = vs) = true := decide_eq_true rfl)))
    go_ret
    refine ⟨rfl, ?_⟩
    repeat (first | with_reducible exact HB4.out | with_reducible refine ext_alloc ?_ _)
end Go.Proofs.Ythadehaoafkaeaa
