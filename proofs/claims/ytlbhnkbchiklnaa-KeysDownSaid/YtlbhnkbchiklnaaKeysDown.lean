/- The walk of KeysDown. -/
import Derived.Test.YtlbhnkbchiklnaaAllOf
import Derived.Test.YtlbhnkbchiklnaaKeyed
import Derived.Test.YtlbhnkbchiklnaaKeysLaw
namespace Go.Proofs.Ytlbhnkbchiklnaa
open Go.RowKit
set_option linter.unusedVariables false
set_option linter.unusedSimpArgs false
theorem add_more5 (a : Addr) (i j : Nat) (hj : 0 < j) : a.add (i + j) = ⟨(a.add i).block, (a.add i).off + j, none⟩ := by
  unfold Addr.add
  rw [if_neg (by omega)]
  by_cases hi : i = 0
  · subst hi; simp
  · rw [if_neg hi]; simp [Nat.add_assoc]
theorem sl_key {w : World} {ao : Option Addr} {n : Nat} {ks : List KeyV} (h : Sl w ao n ks) {i : Nat} (hi : i < n) {x : KeyV} (hx : ks[i]? = some x) : ∃ a, ao = some a ∧ (a.add (i * 5)).block < w.heap.size ∧
    w.cell? (a.add (i * 5)) = some (.int .i64 x.perm) ∧ w.cell? ⟨(a.add (i * 5)).block, (a.add (i * 5)).off + 1, none⟩ = some (.int .i64 x.base) ∧ w.cell? ⟨(a.add (i * 5)).block, (a.add (i * 5)).off + 2, none⟩ = some (.int .i64 x.len) ∧
    w.cell? ⟨(a.add (i * 5)).block, (a.add (i * 5)).off + 3, none⟩ = some (.int .i64 x.at_) ∧ w.cell? ⟨(a.add (i * 5)).block, (a.add (i * 5)).off + 4, none⟩ = some (.int .i64 x.seal_) := by
  obtain ⟨a, y, e, hb, hy, hc⟩ := h.at hi
  obtain rfl : y = x := by rw [hx] at hy; injection hy with hy; exact hy.symm
  refine ⟨a, e, by rw [el_block]; exact hb, ?_⟩
  rw [← add_more5 a (i * 5) 1 (by decide), ← add_more5 a (i * 5) 2 (by decide), ← add_more5 a (i * 5) 3 (by decide), ← add_more5 a (i * 5) 4 (by decide)]
  exact ⟨hc 0 _ rfl, hc 1 _ rfl, hc 2 _ rfl, hc 3 _ rfl, hc 4 _ rfl⟩
theorem mem_addL {ks : List KeyV} {r : KeyV × Int} {x : KeyV} (h : x ∈ addL ks r) : x ∈ ks ∨ (r.2 = 0 ∧ x = r.1) := by
  unfold addL at h
  split at h
  · rcases List.mem_append.1 h with h | h
    · exact .inl h
    · exact .inr ⟨by assumption, by simpa using h⟩
  · exact .inl h
theorem allL_down {k c : KeyV} {n : Int} {x : KeyV} (h : x ∈ allL k c n) : x.Ok ∧ underB x k = true := by
  unfold allL at h
  have fin : ∀ {r : KeyV × Int}, r.1.Ok ∧ k.Ok ∧ k.seal_ = 0 ∧ lessP r.1 k → x = r.1 → x.Ok ∧ underB x k = true := fun hh ee => by
    subst ee
    exact ⟨hh.1, under_of_less hh.1 hh.2.1 hh.2.2.1 hh.2.2.2⟩
  rcases mem_addL h with h | ⟨h0, e⟩
  · rcases mem_addL h with h | ⟨h0, e⟩
    · rcases mem_addL h with h | ⟨h0, e⟩
      · rcases mem_addL h with h | ⟨h0, e⟩
        · cases h
        · exact fin (move_less h0) e
      · exact fin (narrow_less h0) e
    · exact fin (drop_less h0) e
  · exact fin (seal_less h0) e
theorem allL_length (k c : KeyV) (n : Int) : (allL k c n).length ≤ 4 := by
  unfold allL
  have h1 := addL_length [] (moveF k n)
  have h2 := addL_length (addL [] (moveF k n)) (narrowF k n)
  have h3 := addL_length (addL (addL [] (moveF k n)) (narrowF k n)) (dropF k n)
  have h4 := addL_length (addL (addL (addL [] (moveF k n)) (narrowF k n)) (dropF k n)) (sealF k c)
  simp at h1
  omega
set_option maxHeartbeats 2000000 in
set_option maxRecDepth 100000 in
theorem keysDown_walk {w : World} (k c : KeyV) (n : Int) (hk : k.wf) (hc : c.wf) (hn : (Lit.int .i64 n).wf = true) :
    Calls Try.prog 5 #[k.val, c.val, .int .i64 n] w fun e w' => e = .returned (.bool true) ∧ Below w.heap.size w w' := by
  obtain ⟨p, b, l, a, s⟩ := k
  obtain ⟨p2, b2, l2, a2, s2⟩ := c
  simp only [KeyV.val]
  have al := fun W => allof_any p b l a s p2 b2 l2 a2 s2 n hk hc (wf_bd hn) W
  have op := fun W => open_any p b l a s p2 b2 l2 a2 s2 hk hc W
  have hlaw := fun x => allL_down (k := ⟨p, b, l, a, s⟩) (c := ⟨p2, b2, l2, a2, s2⟩) (n := n) (x := x)
  have hlen := allL_length ⟨p, b, l, a, s⟩ ⟨p2, b2, l2, a2, s2⟩ n
  unfold OwnPost at al
  generalize allL ⟨p, b, l, a, s⟩ ⟨p2, b2, l2, a2, s2⟩ n = L at *
  have AL := Lib.hid al
  have OP := Lib.hid op
  have HLAW := Lib.hid hlaw
  have HK := Lib.hid hk
  have HC := Lib.hid hc
  clear al op hlaw hk hc hn
  go_enter Try.func5, Try.ntmps5
  go_wp2_with (first
    | (go_at_call 18; ((with_reducible refine (keyed_any _).mono ?_); rintro e w1 ⟨rfl, hb1⟩; have kB : Bk w1 (w.heap.size) 24 #[.int .i64 p, .int .i64 b, .int .i64 l, .int .i64 a, .int .i64 s] := bk_keep hb1 (by repeat (first | with_reducible assumption | with_reducible exact bk_new _ _ _ | (with_reducible refine bk_new' _ _ ?_; simp; done) | with_reducible refine bk_drew ?_ | with_reducible refine bk_drewN _ ?_ | with_reducible refine bk_old _ ?_ | (with_reducible refine bk_far' _ (by omega) ?_) | with_reducible apply bk_set' | rfl)); (try clear k0 k1 k2 k3 k4); obtain ⟨k0, k1, k2, k3, k4⟩ := cells5 kB; have kL := kB.lt; have cB : Bk w1 (w.heap.size + 1) 24 #[.int .i64 p2, .int .i64 b2, .int .i64 l2, .int .i64 a2, .int .i64 s2] := bk_keep hb1 (by repeat (first | with_reducible assumption | with_reducible exact bk_new _ _ _ | (with_reducible refine bk_new' _ _ ?_; simp; done) | with_reducible refine bk_drew ?_ | with_reducible refine bk_drewN _ ?_ | with_reducible refine bk_old _ ?_ | (with_reducible refine bk_far' _ (by omega) ?_) | with_reducible apply bk_set' | rfl)); (try clear c0 c1 c2 c3 c4); obtain ⟨c0, c1, c2, c3, c4⟩ := cells5 cB; have cL := cB.lt; have hB1 : Below w.heap.size w w1 := ext_trans (ext_alloc (ext_alloc (Below.refl _ _) _) _) hb1; have HB1 := Lib.hid hB1; clear hB1))
    | (go_at_call 20; ((with_reducible refine (AL.out _).mono ?_); rintro e w2 ⟨r2, rfl, ho2, hb2⟩; have kB : Bk w2 (w.heap.size) 24 #[.int .i64 p, .int .i64 b, .int .i64 l, .int .i64 a, .int .i64 s] := bk_keep hb2 (by repeat (first | with_reducible assumption | with_reducible exact bk_new _ _ _ | (with_reducible refine bk_new' _ _ ?_; simp; done) | with_reducible refine bk_drew ?_ | with_reducible refine bk_drewN _ ?_ | with_reducible refine bk_old _ ?_ | (with_reducible refine bk_far' _ (by omega) ?_) | with_reducible apply bk_set' | rfl)); (try clear k0 k1 k2 k3 k4); obtain ⟨k0, k1, k2, k3, k4⟩ := cells5 kB; have kL := kB.lt; have cB : Bk w2 (w.heap.size + 1) 24 #[.int .i64 p2, .int .i64 b2, .int .i64 l2, .int .i64 a2, .int .i64 s2] := bk_keep hb2 (by repeat (first | with_reducible assumption | with_reducible exact bk_new _ _ _ | (with_reducible refine bk_new' _ _ ?_; simp; done) | with_reducible refine bk_drew ?_ | with_reducible refine bk_drewN _ ?_ | with_reducible refine bk_old _ ?_ | (with_reducible refine bk_far' _ (by omega) ?_) | with_reducible apply bk_set' | rfl)); (try clear c0 c1 c2 c3 c4); obtain ⟨c0, c1, c2, c3, c4⟩ := cells5 cB; have cL := cB.lt; have hB2 : Below w.heap.size w w2 := ext_trans (HB1.out) hb2; have HB2 := Lib.hid hB2; clear hB2; obtain ⟨ao2, q2, rfl, hs2, hg2⟩ := Own.sl ho2; have HS2 := Lib.hid hs2; clear ho2 hs2 hg2)))
  go_loopw [18] (fun i wr => ∃ j : Nat, j ≤ L.length ∧ i = .int .i64 j ∧ Below w2.heap.size w2 wr) (fun i _ => L.length - (intOf i).toNat)
  case atStart => exact ⟨0, Nat.zero_le _, rfl, Below.refl _ _⟩
  case round =>
    obtain ⟨j, hj, rfl, hbr⟩ := hrel
    have HBR := Lib.hid hbr
    have HBW := Lib.hid (show Below w.heap.size w wr from ext_trans HB2.out hbr)
    have kB : Bk wr w.heap.size 24 #[.int .i64 p, .int .i64 b, .int .i64 l, .int .i64 a, .int .i64 s] := bk_keep hbr kB
    have cB : Bk wr (w.heap.size + 1) 24 #[.int .i64 p2, .int .i64 b2, .int .i64 l2, .int .i64 a2, .int .i64 s2] := bk_keep hbr cB
    clear hbr k0 k1 k2 k3 k4 c0 c1 c2 c3 c4
    obtain ⟨k0, k1, k2, k3, k4⟩ := cells5 kB
    obtain ⟨c0, c1, c2, c3, c4⟩ := cells5 cB
    have kL := kB.lt
    have cL := cB.lt
    by_cases hlt : j < L.length
    · obtain ⟨x, hx⟩ : ∃ x, L[j]? = some x := ⟨_, List.getElem?_eq_getElem hlt⟩
      obtain ⟨hxo, hxu⟩ := HLAW.out x (List.mem_of_getElem? hx)
      obtain ⟨ad, rfl, hab, e0, e1, e2, e3, e4⟩ := sl_key (HS2.out.below HBR.out) hlt hx
      have hxw := hxo.wf
      obtain ⟨xp, xb, xl, xa, xs⟩ := x
      simp only at e0 e1 e2 e3 e4
      have ck := fun W => check_any xp xb xl xa xs W
      rw [show keyCheck ⟨xp, xb, xl, xa, xs⟩ = 0 by rw [keyCheck_zero]; exact hxo] at ck
      have un := fun W => under_any xp xb xl xa xs p b l a s hxw HK.out W
      rw [hxu] at un
      have CK := Lib.hid ck
      have UN := Lib.hid un
      clear ck un hx hxo hxu hxw
      go_wp2_with (first
        | (go_at_call 23; ((with_reducible refine (CK.out _).mono ?_); rintro e w3 ⟨rfl, hb3⟩; have kB : Bk w3 (w.heap.size) 24 #[.int .i64 p, .int .i64 b, .int .i64 l, .int .i64 a, .int .i64 s] := bk_keep hb3 (by repeat (first | with_reducible assumption | with_reducible exact bk_new _ _ _ | (with_reducible refine bk_new' _ _ ?_; simp; done) | with_reducible refine bk_drew ?_ | with_reducible refine bk_drewN _ ?_ | with_reducible refine bk_old _ ?_ | (with_reducible refine bk_far' _ (by omega) ?_) | with_reducible apply bk_set' | rfl)); (try clear k0 k1 k2 k3 k4); obtain ⟨k0, k1, k2, k3, k4⟩ := cells5 kB; have kL := kB.lt; have cB : Bk w3 (w.heap.size + 1) 24 #[.int .i64 p2, .int .i64 b2, .int .i64 l2, .int .i64 a2, .int .i64 s2] := bk_keep hb3 (by repeat (first | with_reducible assumption | with_reducible exact bk_new _ _ _ | (with_reducible refine bk_new' _ _ ?_; simp; done) | with_reducible refine bk_drew ?_ | with_reducible refine bk_drewN _ ?_ | with_reducible refine bk_old _ ?_ | (with_reducible refine bk_far' _ (by omega) ?_) | with_reducible apply bk_set' | rfl)); (try clear c0 c1 c2 c3 c4); obtain ⟨c0, c1, c2, c3, c4⟩ := cells5 cB; have cL := cB.lt; have xB : Bk w3 (wr.heap.size) 24 #[.int .i64 xp, .int .i64 xb, .int .i64 xl, .int .i64 xa, .int .i64 xs] := bk_keep hb3 (by repeat (first | with_reducible assumption | with_reducible exact bk_new _ _ _ | (with_reducible refine bk_new' _ _ ?_; simp; done) | with_reducible refine bk_drew ?_ | with_reducible refine bk_drewN _ ?_ | with_reducible refine bk_old _ ?_ | (with_reducible refine bk_far' _ (by omega) ?_) | with_reducible apply bk_set' | rfl)); (try clear x0 x1 x2 x3 x4); obtain ⟨x0, x1, x2, x3, x4⟩ := cells5 xB; have xL := xB.lt; have HB3 := Lib.hid (show Below w2.heap.size w2 w3 from (ext_alloc HBR.out _).trans (hb3.mono (by have := HBR.out.size; simp; omega)))))
        | (go_at_call 24; ((with_reducible refine (UN.out _).mono ?_); rintro e w4 ⟨rfl, hb4⟩; have kB : Bk w4 (w.heap.size) 24 #[.int .i64 p, .int .i64 b, .int .i64 l, .int .i64 a, .int .i64 s] := bk_keep hb4 (by repeat (first | with_reducible assumption | with_reducible exact bk_new _ _ _ | (with_reducible refine bk_new' _ _ ?_; simp; done) | with_reducible refine bk_drew ?_ | with_reducible refine bk_drewN _ ?_ | with_reducible refine bk_old _ ?_ | (with_reducible refine bk_far' _ (by omega) ?_) | with_reducible apply bk_set' | rfl)); (try clear k0 k1 k2 k3 k4); obtain ⟨k0, k1, k2, k3, k4⟩ := cells5 kB; have kL := kB.lt; have cB : Bk w4 (w.heap.size + 1) 24 #[.int .i64 p2, .int .i64 b2, .int .i64 l2, .int .i64 a2, .int .i64 s2] := bk_keep hb4 (by repeat (first | with_reducible assumption | with_reducible exact bk_new _ _ _ | (with_reducible refine bk_new' _ _ ?_; simp; done) | with_reducible refine bk_drew ?_ | with_reducible refine bk_drewN _ ?_ | with_reducible refine bk_old _ ?_ | (with_reducible refine bk_far' _ (by omega) ?_) | with_reducible apply bk_set' | rfl)); (try clear c0 c1 c2 c3 c4); obtain ⟨c0, c1, c2, c3, c4⟩ := cells5 cB; have cL := cB.lt; have xB : Bk w4 (wr.heap.size) 24 #[.int .i64 xp, .int .i64 xb, .int .i64 xl, .int .i64 xa, .int .i64 xs] := bk_keep hb4 (by repeat (first | with_reducible assumption | with_reducible exact bk_new _ _ _ | (with_reducible refine bk_new' _ _ ?_; simp; done) | with_reducible refine bk_drew ?_ | with_reducible refine bk_drewN _ ?_ | with_reducible refine bk_old _ ?_ | (with_reducible refine bk_far' _ (by omega) ?_) | with_reducible apply bk_set' | rfl)); (try clear x0 x1 x2 x3 x4); obtain ⟨x0, x1, x2, x3, x4⟩ := cells5 xB; have xL := xB.lt; have HB4 := Lib.hid (show Below w2.heap.size w2 w4 from HB3.out.trans (hb4.mono HB3.out.size)))))
      go_roundw
      case rel => exact ⟨j + 1, by omega, by go_num, HB4.out⟩
      case measure => simp [intOf]; omega
    · have hnlt : ¬ ((j : Int) < L.length) := by omega
      clear hlt
      rcases openF_cases ⟨p, b, l, a, s⟩ ⟨p2, b2, l2, a2, s2⟩ with ⟨e, he, h0⟩ | ⟨he, _⟩
      · have op := OP.out
        rw [he] at op
        have f1 : (e == 0) = false := by simpa using h0
        have f2 : (e != 0) = true := by simpa using h0
        have OP := Lib.hid op
        clear op he h0
        go_wp2_with (first
          | (go_at_call 21; ((with_reducible refine (OP.out _).mono ?_); rintro e w5 ⟨rfl, hb5⟩; have kB : Bk w5 (w.heap.size) 24 #[.int .i64 p, .int .i64 b, .int .i64 l, .int .i64 a, .int .i64 s] := bk_keep hb5 (by repeat (first | with_reducible assumption | with_reducible exact bk_new _ _ _ | (with_reducible refine bk_new' _ _ ?_; simp; done) | with_reducible refine bk_drew ?_ | with_reducible refine bk_drewN _ ?_ | with_reducible refine bk_old _ ?_ | (with_reducible refine bk_far' _ (by omega) ?_) | with_reducible apply bk_set' | rfl)); (try clear k0 k1 k2 k3 k4); obtain ⟨k0, k1, k2, k3, k4⟩ := cells5 kB; have kL := kB.lt; have kF := fun i => Bk.frozen kB i; have cB : Bk w5 (w.heap.size + 1) 24 #[.int .i64 p2, .int .i64 b2, .int .i64 l2, .int .i64 a2, .int .i64 s2] := bk_keep hb5 (by repeat (first | with_reducible assumption | with_reducible exact bk_new _ _ _ | (with_reducible refine bk_new' _ _ ?_; simp; done) | with_reducible refine bk_drew ?_ | with_reducible refine bk_drewN _ ?_ | with_reducible refine bk_old _ ?_ | (with_reducible refine bk_far' _ (by omega) ?_) | with_reducible apply bk_set' | rfl)); (try clear c0 c1 c2 c3 c4); obtain ⟨c0, c1, c2, c3, c4⟩ := cells5 cB; have cL := cB.lt; simp only [KeyV.res]; have HB5 := Lib.hid (show Below w.heap.size w w5 from ext_trans HBW.out hb5))))
        all_goals (go_ret; refine ⟨rfl, ?_⟩; repeat (first | with_reducible exact HB5.out | with_reducible refine ext_alloc ?_ _ | with_reducible refine ext_set ?_ (Nat.le_refl _) _))
      · have op := OP.out
        rw [he] at op
        have OP := Lib.hid op
        clear op he
        go_wp2_with (first
          | (go_at_call 21; ((with_reducible refine (OP.out _).mono ?_); rintro e w5 ⟨rfl, hb5⟩; have kB : Bk w5 (w.heap.size) 24 #[.int .i64 p, .int .i64 b, .int .i64 l, .int .i64 a, .int .i64 s] := bk_keep hb5 (by repeat (first | with_reducible assumption | with_reducible exact bk_new _ _ _ | (with_reducible refine bk_new' _ _ ?_; simp; done) | with_reducible refine bk_drew ?_ | with_reducible refine bk_drewN _ ?_ | with_reducible refine bk_old _ ?_ | (with_reducible refine bk_far' _ (by omega) ?_) | with_reducible apply bk_set' | rfl)); (try clear k0 k1 k2 k3 k4); obtain ⟨k0, k1, k2, k3, k4⟩ := cells5 kB; have kL := kB.lt; have kF := fun i => Bk.frozen kB i; have cB : Bk w5 (w.heap.size + 1) 24 #[.int .i64 p2, .int .i64 b2, .int .i64 l2, .int .i64 a2, .int .i64 s2] := bk_keep hb5 (by repeat (first | with_reducible assumption | with_reducible exact bk_new _ _ _ | (with_reducible refine bk_new' _ _ ?_; simp; done) | with_reducible refine bk_drew ?_ | with_reducible refine bk_drewN _ ?_ | with_reducible refine bk_old _ ?_ | (with_reducible refine bk_far' _ (by omega) ?_) | with_reducible apply bk_set' | rfl)); (try clear c0 c1 c2 c3 c4); obtain ⟨c0, c1, c2, c3, c4⟩ := cells5 cB; have cL := cB.lt; simp only [KeyV.res]; have HB5 := Lib.hid (show Below w.heap.size w w5 from ext_trans HBW.out hb5))))
        all_goals (go_ret; refine ⟨rfl, ?_⟩; repeat (first | with_reducible exact HB5.out | with_reducible refine ext_alloc ?_ _ | with_reducible refine ext_set ?_ (Nat.le_refl _) _))
end Go.Proofs.Ytlbhnkbchiklnaa
