/- What allOf of the laws computes: the keys that four operations make of one. -/
import Derived.Test.YtlbhnkbchiklnaaKeysOps
import Derived.Test.YtlbhnkbchiklnaaKeysSeal
import Derived.Test.YtlbhnkbchiklnaaSeq
import Derived.Carry
import Derived.OneCell
namespace Go.Proofs.Ytlbhnkbchiklnaa
open El (cl)
open Go.RowKit
set_option linter.unusedVariables false
set_option linter.unusedSimpArgs false
instance : El KeyV where
  k := 5
  cl v := [.int .i64 v.perm, .int .i64 v.base, .int .i64 v.len, .int .i64 v.at_, .int .i64 v.seal_]
  z := zeroK
  len _ := rfl
  one _ := by intro u hu; simp at hu; rcases hu with rfl | rfl | rfl | rfl | rfl <;> rfl
  pos := by decide
/-- One more, if there is no error. -/
def addL (ks : List KeyV) (r : KeyV × Int) : List KeyV := if r.2 = 0 then ks ++ [r.1] else ks
def allL (k c : KeyV) (n : Int) : List KeyV := addL (addL (addL (addL [] (moveF k n)) (narrowF k n)) (dropF k n)) (sealF k c)
theorem addL_length (ks : List KeyV) (r : KeyV × Int) : (addL ks r).length ≤ ks.length + 1 := by unfold addL; split <;> simp
theorem info_key : (Try.prog.info? 24).map (fun i => (i.zero, i.size, i.bytes)) = some (some (.agg #[.int .i64 0, .int .i64 0, .int .i64 0, .int .i64 0, .int .i64 0]), 5, 40) := by kernel_rfl
/-- What the literal that collects leaves: the list, longer by one or as it was. -/
def AddPost (w : World) (g : Nat) (ks : List KeyV) (r : KeyV × Int) (e : Ending) (w' : World) : Prop :=
  e = .returned (.tuple #[]) ∧ ∃ v, Bk w' g 34 #[v] ∧ Own w' (g + 1) 24 v (addL ks r) ∧ Below g w w'
theorem below_of {g : Nat} {w w' : World} (h : Below w.heap.size w w') (hg : g ≤ w.heap.size) : Below g w w' := h.mono hg
theorem below_grown {B : Nat} {w w' : World} {v : Value} (hg : w.grownBy w' v.ownBlock) (hB : B ≤ w.heap.size) (hv : ∀ k, v.ownBlock = some k → B ≤ k) : Below B w w' := (Below.refl B w).grown hg hB hv
theorem own_block_ge {α : Type} [El α] {w : World} {base : Nat} {T : TypeId} {v : Value} {xs : List α} (h : Own w base T v xs) : ∀ k, v.ownBlock = some k → base ≤ k ∧ k < w.heap.size := World.ownsRow.lt h
theorem bk_grown {w w' : World} {g : Nat} {T : TypeId} {cs : Array Value} (h : Bk w g T cs) {row : Option Nat} (hg : w.grownBy w' row) (hn : some g ≠ row) : Bk w' g T cs := (hg.block g h.lt hn).trans h
theorem bk_set1 {w : World} {g : Nat} {T : TypeId} {u : Value} (h : Bk w g T #[u]) (v : Value) : Bk (w.setCell ⟨g, 0, none⟩ v) g T #[v] := by
  have := bk_set 0 v h
  simpa using this
theorem own_far {α : Type} [El α] {w : World} {base : Nat} {T : TypeId} {v : Value} {xs : List α} (h : Own w base T v xs) (p : Addr) (x : Value) (hp : v.ownBlock ≠ some p.block) : Own (w.setCell p x) base T v xs :=
  h.kept (row := some p.block) ⟨rfl, rfl, rfl, by simp [World.setCell], fun k _ hk => Below.heap_setCell w p x k (fun e => hk (by rw [e]))⟩ (.inr hp)
set_option maxHeartbeats 1000000 in
set_option maxRecDepth 100000 in
theorem alladd_any (g : Nat) (u : Value) (ks : List KeyV) (p b l a s c : Int) (w : World) (hB : Bk w g 34 #[u]) (hO : Own w (g + 1) 24 u ks) (hl : ks.length ≤ 1000) :
    Calls Try.prog 51 #[.agg #[.int .i64 p, .int .i64 b, .int .i64 l, .int .i64 a, .int .i64 s], .int .i64 c, .pointer (some ⟨g, 0, none⟩)] w (AddPost w g ks (⟨p, b, l, a, s⟩, c)) := by
  obtain ⟨i0, hi, hz0, hz1, hz2⟩ := info_parts info_key
  have hgl := hB.lt
  unfold AddPost
  by_cases hc : c = 0
  · have e : addL ks (⟨p, b, l, a, s⟩, c) = ks ++ [⟨p, b, l, a, s⟩] := by unfold addL; rw [if_pos hc]
    rw [e]
    subst hc
    have u0 := cells1 (bk_old (.cells #[.int .i64 p, .int .i64 b, .int .i64 l, .int .i64 a, .int .i64 s] 24) hB)
    have uF := hB.frozen 0
    have HB := Lib.hid hB
    have HO := Lib.hid hO
    have hn1 : g ≠ w.heap.size := by omega
    have hs : Sl ((w.alloc (.cells #[.int .i64 p, .int .i64 b, .int .i64 l, .int .i64 a, .int .i64 s] 24)).alloc (.cells #[.int .i64 p, .int .i64 b, .int .i64 l, .int .i64 a, .int .i64 s] 24)) (some ⟨w.heap.size + 1, 0, none⟩) 1 [(⟨p, b, l, a, s⟩ : KeyV)] := by
      have h0 := own_lit (xs := [(⟨p, b, l, a, s⟩ : KeyV)]) (w.alloc (.cells #[.int .i64 p, .int .i64 b, .int .i64 l, .int .i64 a, .int .i64 s] 24)) 24 0 (Nat.zero_le _) #[.int .i64 p, .int .i64 b, .int .i64 l, .int .i64 a, .int .i64 s] 1 rfl (by decide) rfl
      obtain ⟨ao, c, e, h, _⟩ := h0.sl
      injection e with e _ _
      subst e
      simpa using h
    have HS := Lib.hid hs
    have c63 : ks.length + 1 ≤ maxLen := by unfold maxLen; omega
    have c47 : (ks.length + 1) * 40 ≤ 140737488355328 := by omega
    have C63 := Lib.hid c63
    have C47 := Lib.hid c47
    have CB := Lib.hid (show g + 1 ≤ ((w.alloc (.cells #[.int .i64 p, .int .i64 b, .int .i64 l, .int .i64 a, .int .i64 s] 24)).alloc (.cells #[.int .i64 p, .int .i64 b, .int .i64 l, .int .i64 a, .int .i64 s] 24)).heap.size by simp; omega)
    have HN := Lib.hid (show some g ≠ u.ownBlock from fun h => by have := (own_block_ge hO g h.symm).1; omega)
    clear hB hO hs e c63 c47
    go_enter Try.func51, Try.ntmps51
    go_wp2_with (at_builtin; refine wpList_append_sl rfl (.tmp 7) (.tmp 9) 34 rfl (g + 1) 24 i0 _ 40 Try.underlying34 hi hz0 hz1 hz2 rfl u ks rfl ((HO.out.alloc _).alloc _) (some ⟨w.heap.size + 1, 0, none⟩) 1 1 [(⟨p, b, l, a, s⟩ : KeyV)] rfl HS.out C63.out C47.out CB.out ?_; intro v1 w1 hown1 hgr1 hat1; obtain ⟨ao1, n1, c1, rfl⟩ : ∃ ao n c, v1 = .slice ao n c := (by obtain ⟨a, c, h, _⟩ := Own.sl hown1; exact ⟨a, _, c, h⟩); have hB1 := bk_grown (bk_old _ (bk_old _ HB.out)) hgr1 HN.out; have HO1 := Lib.hid hown1; have HG1 := Lib.hid hgr1; have HB1 := Lib.hid hB1; have u1 := cells1 hB1; have uF1 := hB1.frozen 0; have uL := hB1.lt; clear hown1 hgr1 hat1 hB1)
    go_end0
    have hb2 : Below g w ((w.alloc (.cells #[.int .i64 p, .int .i64 b, .int .i64 l, .int .i64 a, .int .i64 s] 24)).alloc (.cells #[.int .i64 p, .int .i64 b, .int .i64 l, .int .i64 a, .int .i64 s] 24)) := ((Below.refl g w).alloc (by omega) _).alloc (by simp; omega) _
    refine ⟨rfl, _, bk_set1 HB1.out _, own_far HO1.out _ _ (fun h => by have := (own_block_ge HO1.out g h).1; omega), (hb2.grown HG1.out (by simp; omega) (fun k hk => by have := (own_block_ge HO.out k hk).1; omega)).setCell (Nat.le_refl _) _⟩
  · have e : addL ks (⟨p, b, l, a, s⟩, c) = ks := by unfold addL; rw [if_neg hc]
    rw [e]
    have g1 : (c == 0) = false := by simpa using hc
    have HB := Lib.hid hB
    have HO := Lib.hid hO
    clear hB hO e hc
    go_enter Try.func51, Try.ntmps51
    go_wp2
    go_end0
    exact ⟨rfl, u, bk_old _ HB.out, HO.out.alloc _, (Below.refl g w).alloc (by omega) _⟩
set_option maxHeartbeats 2000000 in
set_option maxRecDepth 100000 in
theorem allof_any (p b l a s p2 b2 l2 a2 s2 n : Int) (h1 : KeyV.wf ⟨p, b, l, a, s⟩) (h2 : KeyV.wf ⟨p2, b2, l2, a2, s2⟩) (hn : I64 n) (w : World) :
    Calls Try.prog 20 #[.agg #[.int .i64 p, .int .i64 b, .int .i64 l, .int .i64 a, .int .i64 s], .agg #[.int .i64 p2, .int .i64 b2, .int .i64 l2, .int .i64 a2, .int .i64 s2], .int .i64 n] w
      (OwnPost w 24 (allL ⟨p, b, l, a, s⟩ ⟨p2, b2, l2, a2, s2⟩ n)) := by
  have cm := fun W => move_any p b l a s n hn W
  have cn := fun W => narrow_any p b l a s n hn W
  have cd := fun W => drop_any p b l a s n hn W
  have cs := fun W => seal_any p b l a s p2 b2 l2 a2 s2 h1 h2 W
  unfold allL
  generalize moveF ⟨p, b, l, a, s⟩ n = r1 at *
  generalize narrowF ⟨p, b, l, a, s⟩ n = r2 at *
  generalize dropF ⟨p, b, l, a, s⟩ n = r3 at *
  generalize sealF ⟨p, b, l, a, s⟩ ⟨p2, b2, l2, a2, s2⟩ = r4 at *
  obtain ⟨⟨x1, y1, z1, t1, u1⟩, e1⟩ := r1
  obtain ⟨⟨x2, y2, z2, t2, u2⟩, e2⟩ := r2
  obtain ⟨⟨x3, y3, z3, t3, u3⟩, e3⟩ := r3
  obtain ⟨⟨x4, y4, z4, t4, u4⟩, e4⟩ := r4
  have CM := Lib.hid cm; have CN := Lib.hid cn; have CD := Lib.hid cd; have CS := Lib.hid cs
  have hl1 : (addL [] (⟨x1, y1, z1, t1, u1⟩, e1)).length ≤ 1 := addL_length [] _
  have hl2 := addL_length (addL [] (⟨x1, y1, z1, t1, u1⟩, e1)) (⟨x2, y2, z2, t2, u2⟩, e2)
  have hl3 := addL_length (addL (addL [] (⟨x1, y1, z1, t1, u1⟩, e1)) (⟨x2, y2, z2, t2, u2⟩, e2)) (⟨x3, y3, z3, t3, u3⟩, e3)
  have A1 := fun g u W hB hO => alladd_any g u [] x1 y1 z1 t1 u1 e1 W hB hO (by simp)
  have A2 := fun g u W hB hO => alladd_any g u _ x2 y2 z2 t2 u2 e2 W hB hO (show (addL [] (⟨x1, y1, z1, t1, u1⟩, e1)).length ≤ 1000 by omega)
  have A3 := fun g u W hB hO => alladd_any g u _ x3 y3 z3 t3 u3 e3 W hB hO (show (addL (addL [] (⟨x1, y1, z1, t1, u1⟩, e1)) (⟨x2, y2, z2, t2, u2⟩, e2)).length ≤ 1000 by omega)
  have A4 := fun g u W hB hO => alladd_any g u _ x4 y4 z4 t4 u4 e4 W hB hO (show (addL (addL (addL [] (⟨x1, y1, z1, t1, u1⟩, e1)) (⟨x2, y2, z2, t2, u2⟩, e2)) (⟨x3, y3, z3, t3, u3⟩, e3)).length ≤ 1000 by omega)
  unfold AddPost at A1 A2 A3 A4
  generalize hL1 : addL [] (⟨x1, y1, z1, t1, u1⟩, e1) = L1 at *
  generalize hL2 : addL L1 (⟨x2, y2, z2, t2, u2⟩, e2) = L2 at *
  generalize hL3 : addL L2 (⟨x3, y3, z3, t3, u3⟩, e3) = L3 at *
  generalize hL4 : addL L3 (⟨x4, y4, z4, t4, u4⟩, e4) = L4 at *
  have A1 := Lib.hid A1; have A2 := Lib.hid A2; have A3 := Lib.hid A3; have A4 := Lib.hid A4
  clear cm cn cd cs hl1 hl2 hl3 h1 h2 hL1 hL2 hL3 hL4 hn
  go_enter Try.func20, Try.ntmps20
  go_wp2_with (first
    | (go_at_call 26; ((with_reducible refine (CM.out _).mono ?_); rintro e w1 ⟨rfl, hb1⟩; have kB : Bk w1 (w.heap.size) 24 #[.int .i64 p, .int .i64 b, .int .i64 l, .int .i64 a, .int .i64 s] := bk_keep hb1 (by repeat (first | with_reducible assumption | with_reducible exact bk_new _ _ _ | (with_reducible refine bk_new' _ _ ?_; simp; done) | with_reducible refine bk_drew ?_ | with_reducible refine bk_drewN _ ?_ | with_reducible refine bk_old _ ?_ | (with_reducible refine bk_far' _ (by omega) ?_) | with_reducible apply bk_set' | rfl)); (try clear k0 k1 k2 k3 k4); obtain ⟨k0, k1, k2, k3, k4⟩ := cells5 kB; have kL := kB.lt; have cB : Bk w1 (w.heap.size + 1) 24 #[.int .i64 p2, .int .i64 b2, .int .i64 l2, .int .i64 a2, .int .i64 s2] := bk_keep hb1 (by repeat (first | with_reducible assumption | with_reducible exact bk_new _ _ _ | (with_reducible refine bk_new' _ _ ?_; simp; done) | with_reducible refine bk_drew ?_ | with_reducible refine bk_drewN _ ?_ | with_reducible refine bk_old _ ?_ | (with_reducible refine bk_far' _ (by omega) ?_) | with_reducible apply bk_set' | rfl)); (try clear c0 c1 c2 c3 c4); obtain ⟨c0, c1, c2, c3, c4⟩ := cells5 cB; have cL := cB.lt; have oB : Bk w1 (w.heap.size + 1 + 1) 34 #[.slice none 0 0] := bk_keep hb1 (by repeat (first | with_reducible assumption | with_reducible exact bk_new _ _ _ | (with_reducible refine bk_new' _ _ ?_; simp; done) | with_reducible refine bk_drew ?_ | with_reducible refine bk_drewN _ ?_ | with_reducible refine bk_old _ ?_ | (with_reducible refine bk_far' _ (by omega) ?_) | with_reducible apply bk_set' | rfl)); (try clear o0); have o0 := cells1 oB; have oL := oB.lt; simp only [KeyV.res]; have hB1 : Below w.heap.size w w1 := ext_trans (ext_alloc (ext_alloc (ext_alloc (Below.refl _ _) _) _) _) hb1; have HB1 := Lib.hid hB1; clear hB1; have HO1 := Lib.hid (Own.nil (α := KeyV) w1 (w.heap.size + 1 + 1 + 1) 24)))
    | (go_at_call 51; ((with_reducible refine (A1.out _ _ _ oB HO1.out).mono ?_); rintro e w2 ⟨rfl, v, hb, ho, hbl⟩; obtain ⟨ao2, n2, q2, rfl⟩ : ∃ ao n c, v = .slice ao n c := (by obtain ⟨a, c, h, _⟩ := Own.sl ho; exact ⟨a, _, c, h⟩); have HO2 := Lib.hid ho; have HB2 := Lib.hid (show Below w.heap.size w w2 from HB1.out.trans (hbl.mono (by omega))); have kB : Bk w2 (w.heap.size) 24 #[.int .i64 p, .int .i64 b, .int .i64 l, .int .i64 a, .int .i64 s] := (hbl.block _ (by omega)).trans kB; (try clear k0 k1 k2 k3 k4); obtain ⟨k0, k1, k2, k3, k4⟩ := cells5 kB; have kL := kB.lt; have cB : Bk w2 (w.heap.size + 1) 24 #[.int .i64 p2, .int .i64 b2, .int .i64 l2, .int .i64 a2, .int .i64 s2] := (hbl.block _ (by omega)).trans cB; (try clear c0 c1 c2 c3 c4); obtain ⟨c0, c1, c2, c3, c4⟩ := cells5 cB; have cL := cB.lt; have oB : Bk w2 (w.heap.size + 1 + 1) 34 #[.slice ao2 n2 q2] := hb; (try clear o0); have o0 := cells1 oB; have oL := oB.lt; clear hb ho hbl))
    | (go_at_call 27; ((with_reducible refine (CN.out _).mono ?_); rintro e w3 ⟨rfl, hb3⟩; have kB : Bk w3 (w.heap.size) 24 #[.int .i64 p, .int .i64 b, .int .i64 l, .int .i64 a, .int .i64 s] := bk_keep hb3 (by repeat (first | with_reducible assumption | with_reducible exact bk_new _ _ _ | (with_reducible refine bk_new' _ _ ?_; simp; done) | with_reducible refine bk_drew ?_ | with_reducible refine bk_drewN _ ?_ | with_reducible refine bk_old _ ?_ | (with_reducible refine bk_far' _ (by omega) ?_) | with_reducible apply bk_set' | rfl)); (try clear k0 k1 k2 k3 k4); obtain ⟨k0, k1, k2, k3, k4⟩ := cells5 kB; have kL := kB.lt; have cB : Bk w3 (w.heap.size + 1) 24 #[.int .i64 p2, .int .i64 b2, .int .i64 l2, .int .i64 a2, .int .i64 s2] := bk_keep hb3 (by repeat (first | with_reducible assumption | with_reducible exact bk_new _ _ _ | (with_reducible refine bk_new' _ _ ?_; simp; done) | with_reducible refine bk_drew ?_ | with_reducible refine bk_drewN _ ?_ | with_reducible refine bk_old _ ?_ | (with_reducible refine bk_far' _ (by omega) ?_) | with_reducible apply bk_set' | rfl)); (try clear c0 c1 c2 c3 c4); obtain ⟨c0, c1, c2, c3, c4⟩ := cells5 cB; have cL := cB.lt; have oB : Bk w3 (w.heap.size + 1 + 1) 34 #[.slice ao2 n2 q2] := bk_keep hb3 (by repeat (first | with_reducible assumption | with_reducible exact bk_new _ _ _ | (with_reducible refine bk_new' _ _ ?_; simp; done) | with_reducible refine bk_drew ?_ | with_reducible refine bk_drewN _ ?_ | with_reducible refine bk_old _ ?_ | (with_reducible refine bk_far' _ (by omega) ?_) | with_reducible apply bk_set' | rfl)); (try clear o0); have o0 := cells1 oB; have oL := oB.lt; simp only [KeyV.res]; have hB3 : Below w.heap.size w w3 := ext_trans (HB2.out) hb3; have HB3 := Lib.hid hB3; clear hB3; have HO3 := Lib.hid (HO2.out.below ‹Below w2.heap.size w2 w3›)))
    | (go_at_call 51; ((with_reducible refine (A2.out _ _ _ oB HO3.out).mono ?_); rintro e w4 ⟨rfl, v, hb, ho, hbl⟩; obtain ⟨ao4, n4, q4, rfl⟩ : ∃ ao n c, v = .slice ao n c := (by obtain ⟨a, c, h, _⟩ := Own.sl ho; exact ⟨a, _, c, h⟩); have HO4 := Lib.hid ho; have HB4 := Lib.hid (show Below w.heap.size w w4 from HB3.out.trans (hbl.mono (by omega))); have kB : Bk w4 (w.heap.size) 24 #[.int .i64 p, .int .i64 b, .int .i64 l, .int .i64 a, .int .i64 s] := (hbl.block _ (by omega)).trans kB; (try clear k0 k1 k2 k3 k4); obtain ⟨k0, k1, k2, k3, k4⟩ := cells5 kB; have kL := kB.lt; have cB : Bk w4 (w.heap.size + 1) 24 #[.int .i64 p2, .int .i64 b2, .int .i64 l2, .int .i64 a2, .int .i64 s2] := (hbl.block _ (by omega)).trans cB; (try clear c0 c1 c2 c3 c4); obtain ⟨c0, c1, c2, c3, c4⟩ := cells5 cB; have cL := cB.lt; have oB : Bk w4 (w.heap.size + 1 + 1) 34 #[.slice ao4 n4 q4] := hb; (try clear o0); have o0 := cells1 oB; have oL := oB.lt; clear hb ho hbl))
    | (go_at_call 28; ((with_reducible refine (CD.out _).mono ?_); rintro e w5 ⟨rfl, hb5⟩; have kB : Bk w5 (w.heap.size) 24 #[.int .i64 p, .int .i64 b, .int .i64 l, .int .i64 a, .int .i64 s] := bk_keep hb5 (by repeat (first | with_reducible assumption | with_reducible exact bk_new _ _ _ | (with_reducible refine bk_new' _ _ ?_; simp; done) | with_reducible refine bk_drew ?_ | with_reducible refine bk_drewN _ ?_ | with_reducible refine bk_old _ ?_ | (with_reducible refine bk_far' _ (by omega) ?_) | with_reducible apply bk_set' | rfl)); (try clear k0 k1 k2 k3 k4); obtain ⟨k0, k1, k2, k3, k4⟩ := cells5 kB; have kL := kB.lt; have cB : Bk w5 (w.heap.size + 1) 24 #[.int .i64 p2, .int .i64 b2, .int .i64 l2, .int .i64 a2, .int .i64 s2] := bk_keep hb5 (by repeat (first | with_reducible assumption | with_reducible exact bk_new _ _ _ | (with_reducible refine bk_new' _ _ ?_; simp; done) | with_reducible refine bk_drew ?_ | with_reducible refine bk_drewN _ ?_ | with_reducible refine bk_old _ ?_ | (with_reducible refine bk_far' _ (by omega) ?_) | with_reducible apply bk_set' | rfl)); (try clear c0 c1 c2 c3 c4); obtain ⟨c0, c1, c2, c3, c4⟩ := cells5 cB; have cL := cB.lt; have oB : Bk w5 (w.heap.size + 1 + 1) 34 #[.slice ao4 n4 q4] := bk_keep hb5 (by repeat (first | with_reducible assumption | with_reducible exact bk_new _ _ _ | (with_reducible refine bk_new' _ _ ?_; simp; done) | with_reducible refine bk_drew ?_ | with_reducible refine bk_drewN _ ?_ | with_reducible refine bk_old _ ?_ | (with_reducible refine bk_far' _ (by omega) ?_) | with_reducible apply bk_set' | rfl)); (try clear o0); have o0 := cells1 oB; have oL := oB.lt; simp only [KeyV.res]; have hB5 : Below w.heap.size w w5 := ext_trans (HB4.out) hb5; have HB5 := Lib.hid hB5; clear hB5; have HO5 := Lib.hid (HO4.out.below ‹Below w4.heap.size w4 w5›)))
    | (go_at_call 51; ((with_reducible refine (A3.out _ _ _ oB HO5.out).mono ?_); rintro e w6 ⟨rfl, v, hb, ho, hbl⟩; obtain ⟨ao6, n6, q6, rfl⟩ : ∃ ao n c, v = .slice ao n c := (by obtain ⟨a, c, h, _⟩ := Own.sl ho; exact ⟨a, _, c, h⟩); have HO6 := Lib.hid ho; have HB6 := Lib.hid (show Below w.heap.size w w6 from HB5.out.trans (hbl.mono (by omega))); have kB : Bk w6 (w.heap.size) 24 #[.int .i64 p, .int .i64 b, .int .i64 l, .int .i64 a, .int .i64 s] := (hbl.block _ (by omega)).trans kB; (try clear k0 k1 k2 k3 k4); obtain ⟨k0, k1, k2, k3, k4⟩ := cells5 kB; have kL := kB.lt; have cB : Bk w6 (w.heap.size + 1) 24 #[.int .i64 p2, .int .i64 b2, .int .i64 l2, .int .i64 a2, .int .i64 s2] := (hbl.block _ (by omega)).trans cB; (try clear c0 c1 c2 c3 c4); obtain ⟨c0, c1, c2, c3, c4⟩ := cells5 cB; have cL := cB.lt; have oB : Bk w6 (w.heap.size + 1 + 1) 34 #[.slice ao6 n6 q6] := hb; (try clear o0); have o0 := cells1 oB; have oL := oB.lt; clear hb ho hbl))
    | (go_at_call 29; ((with_reducible refine (CS.out _).mono ?_); rintro e w7 ⟨rfl, hb7⟩; have kB : Bk w7 (w.heap.size) 24 #[.int .i64 p, .int .i64 b, .int .i64 l, .int .i64 a, .int .i64 s] := bk_keep hb7 (by repeat (first | with_reducible assumption | with_reducible exact bk_new _ _ _ | (with_reducible refine bk_new' _ _ ?_; simp; done) | with_reducible refine bk_drew ?_ | with_reducible refine bk_drewN _ ?_ | with_reducible refine bk_old _ ?_ | (with_reducible refine bk_far' _ (by omega) ?_) | with_reducible apply bk_set' | rfl)); (try clear k0 k1 k2 k3 k4); obtain ⟨k0, k1, k2, k3, k4⟩ := cells5 kB; have kL := kB.lt; have cB : Bk w7 (w.heap.size + 1) 24 #[.int .i64 p2, .int .i64 b2, .int .i64 l2, .int .i64 a2, .int .i64 s2] := bk_keep hb7 (by repeat (first | with_reducible assumption | with_reducible exact bk_new _ _ _ | (with_reducible refine bk_new' _ _ ?_; simp; done) | with_reducible refine bk_drew ?_ | with_reducible refine bk_drewN _ ?_ | with_reducible refine bk_old _ ?_ | (with_reducible refine bk_far' _ (by omega) ?_) | with_reducible apply bk_set' | rfl)); (try clear c0 c1 c2 c3 c4); obtain ⟨c0, c1, c2, c3, c4⟩ := cells5 cB; have cL := cB.lt; have oB : Bk w7 (w.heap.size + 1 + 1) 34 #[.slice ao6 n6 q6] := bk_keep hb7 (by repeat (first | with_reducible assumption | with_reducible exact bk_new _ _ _ | (with_reducible refine bk_new' _ _ ?_; simp; done) | with_reducible refine bk_drew ?_ | with_reducible refine bk_drewN _ ?_ | with_reducible refine bk_old _ ?_ | (with_reducible refine bk_far' _ (by omega) ?_) | with_reducible apply bk_set' | rfl)); (try clear o0); have o0 := cells1 oB; have oL := oB.lt; simp only [KeyV.res]; have hB7 : Below w.heap.size w w7 := ext_trans (HB6.out) hb7; have HB7 := Lib.hid hB7; clear hB7; have HO7 := Lib.hid (HO6.out.below ‹Below w6.heap.size w6 w7›)))
    | (go_at_call 51; ((with_reducible refine (A4.out _ _ _ oB HO7.out).mono ?_); rintro e w8 ⟨rfl, v, hb, ho, hbl⟩; obtain ⟨ao8, n8, q8, rfl⟩ : ∃ ao n c, v = .slice ao n c := (by obtain ⟨a, c, h, _⟩ := Own.sl ho; exact ⟨a, _, c, h⟩); have HO8 := Lib.hid ho; have HB8 := Lib.hid (show Below w.heap.size w w8 from HB7.out.trans (hbl.mono (by omega))); have kB : Bk w8 (w.heap.size) 24 #[.int .i64 p, .int .i64 b, .int .i64 l, .int .i64 a, .int .i64 s] := (hbl.block _ (by omega)).trans kB; (try clear k0 k1 k2 k3 k4); obtain ⟨k0, k1, k2, k3, k4⟩ := cells5 kB; have kL := kB.lt; have cB : Bk w8 (w.heap.size + 1) 24 #[.int .i64 p2, .int .i64 b2, .int .i64 l2, .int .i64 a2, .int .i64 s2] := (hbl.block _ (by omega)).trans cB; (try clear c0 c1 c2 c3 c4); obtain ⟨c0, c1, c2, c3, c4⟩ := cells5 cB; have cL := cB.lt; have oB : Bk w8 (w.heap.size + 1 + 1) 34 #[.slice ao8 n8 q8] := hb; (try clear o0); have o0 := cells1 oB; have oL := oB.lt; clear hb ho hbl)))
  go_ret
  exact ⟨_, rfl, Own.mono HO8.out (by omega), HB8.out⟩
end Go.Proofs.Ytlbhnkbchiklnaa
