import Derived.BigRegion
import Derived.Deep.DeepCutAuto
import Derived.Test.YtmmmmeeepieemaaHeapBZ
import Derived.Test.YtmmmmeeepieemaaInsertZ
/- What Give of package heap computes. -/
namespace Go.Proofs.Ytmmmmeeepieemaa
open El (cl)
open Go.RowKit
set_option linter.unusedVariables false
set_option linter.unusedSimpArgs false
theorem bk_grownp {w w' : World} {g : Nat} {T : TypeId} {cs : Array Value} {r : Nat} (h : w.grownBy w' (some r)) (hne : g ≠ r) (hb : Bk w g T cs) : Bk w' g T cs :=
  (h.block g hb.lt (fun e => hne (by injection e))).trans hb
theorem own_farb {α : Type} [El α] {w : World} {base : Nat} {T : TypeId} {v : Value} {xs : List α} (h : Own w base T v xs) {a : Addr} (ha : a.block < base) (u : Value) : Own (w.setCell a u) base T v xs := ownsRow_setCell_below h ha u
theorem own_set2 {w : World} {base : Nat} {T : TypeId} {g q : Nat} {xs : List PieceV} {k : Nat} {b l s n : Int} (h : Own w base T (.slice (some ⟨g, 0, none⟩) xs.length q) xs) (hx : xs[k]? = some ⟨b, l, s⟩) :
    Own ((w.setCell ⟨g, k * 3 + 1, none⟩ (.int .i64 n)).setCell ⟨g, k * 3 + 2, none⟩ (.int .i64 1)) base T (.slice (some ⟨g, 0, none⟩) xs.length q) (xs.set k ⟨b, n, 1⟩) ∧
      w.grownBy ((w.setCell ⟨g, k * 3 + 1, none⟩ (.int .i64 n)).setCell ⟨g, k * 3 + 2, none⟩ (.int .i64 1)) (some g) := by
  have hk : k < xs.length := (List.getElem?_eq_some_iff.1 hx).1
  obtain ⟨o1, o2⟩ := own_set_cell (y := (⟨b, n, s⟩ : PieceV)) (j := 1) (u := .int .i64 n) h hx (by decide) rfl
  have o1' : Own (w.setCell ⟨g, k * 3 + 1, none⟩ (.int .i64 n)) base T (.slice (some ⟨g, 0, none⟩) (xs.set k (⟨b, n, s⟩ : PieceV)).length q) (xs.set k ⟨b, n, s⟩) := by rw [List.length_set]; exact o1
  obtain ⟨o3, o4⟩ := own_set_cell (y := (⟨b, n, 1⟩ : PieceV)) (j := 2) (i := k) (x := ⟨b, n, s⟩) (u := .int .i64 1) o1' (by simp [hk]) (by decide) rfl
  rw [List.length_set, List.set_set] at o3
  exact ⟨o3, ⟨o2.os ▸ o4.os, o4.tape.trans o2.tape, o4.output.trans o2.output, Nat.le_trans o2.size o4.size, fun j hj hr => (o4.block j (Nat.lt_of_lt_of_le hj o2.size) hr).trans (o2.block j hj hr)⟩⟩
/-- The piece that is cut, as a place in the list. -/
theorem gv_idx {n : Int} : ∀ {l : List PieceV}, gv n l = (l.findIdx? (t_give n)).map fun k =>
    (l.take k ++ ((if n < (l.getD k zeroPiece).len then [⟨(l.getD k zeroPiece).base, n, 1⟩, ⟨(l.getD k zeroPiece).base + n, (l.getD k zeroPiece).len - n, 0⟩] else [⟨(l.getD k zeroPiece).base, n, 1⟩]) ++ l.drop (k + 1)), (l.getD k zeroPiece).base)
  | [] => by simp [gv]
  | p :: l => by
    rw [gv, List.findIdx?_cons]
    by_cases h : p.state = 0 ∧ n ≤ p.len
    · have ht : t_give n p = true := by simp [t_give, h]
      rw [if_pos h, ht]
      simp
    · have ht : t_give n p = false := by
        unfold t_give
        rw [Bool.and_eq_false_iff]
        by_cases h1 : p.state = 0
        · right; simp; have := fun h2 => h ⟨h1, h2⟩; omega
        · left; simp [h1]
      rw [if_neg h, ht, gv_idx]
      simp only [Bool.false_eq_true, if_false, Option.map_map]
      cases l.findIdx? (t_give n) <;> simp
def GivePost (w : World) (T : TypeId) (xs : List PieceV) (k : KeyV) (c : Int) (e : Ending) (w' : World) : Prop := ∃ v, e = .returned (.tuple #[v, k.val, .int .i64 c]) ∧ Own w' w.heap.size T v xs ∧ Below w.heap.size w w'
def InsPost (base : Nat) (T : TypeId) (xs : List PieceV) (g : Nat) (w : World) (e : Ending) (w' : World) : Prop := ∃ v, e = .returned v ∧ Own w' base T v xs ∧ w.grownBy w' (some g)
set_option maxHeartbeats 1000000 in
theorem gnone_any (c : Int) (w : World) : Calls Try.prog 41 #[.int .i64 c] w fun e w' => e = .returned (.tuple #[.slice none 0 0, .agg #[.int .i64 0, .int .i64 0, .int .i64 0, .int .i64 0, .int .i64 0], .int .i64 c]) ∧ Below w.heap.size w w' := by
  go_enter Try.func41, Try.ntmps41
  go_wp2
  refine bodyPost_ret (v := .tuple #[.slice none 0 0, zeroK.val, .int .i64 c]) (by simp [results, Try.results41, go_sem, zeroK, KeyV.val, *]; try rfl) rfl ⟨rfl, ?_⟩
  repeat (first | with_reducible exact Below.refl _ _ | with_reducible refine ext_set ?_ (by first | omega | (simp; done) | (simp; omega)) _ | with_reducible refine ext_alloc ?_ _)
set_option maxHeartbeats 1000000 in
set_option maxRecDepth 100000 in
theorem hgive_any (ao : Option Addr) (n cap : Nat) (ps : List PieceV) (sz : Int) (w : World) (h : Sl w ao n ps) (hsz : I64 sz) :
    Calls Try.prog 30 #[.slice ao n cap, .int .i64 sz] w (GivePost w 87 (giveF ps sz).1 (giveF ps sz).2.1 (giveF ps sz).2.2) := by
  have hl := h.len
  subst hl
  have ck : ∀ W, Below w.heap.size w W → Calls Try.prog 42 #[.slice ao ps.length cap] W fun e w' => e = .returned (.int .i64 (heapCheck ps)) ∧ Below W.heap.size W w' := fun W hb => hcheck_any ao _ cap ps W (h.below hb)
  have ix : ∀ W, Below w.heap.size w W → w.heap.size < W.heap.size → W.cell? ⟨w.heap.size, 0, none⟩ = some (.int .i64 sz) → Calls Try.prog 43 #[.slice ao ps.length cap, .func (.func 44) #[] #[.pointer (some ⟨w.heap.size, 0, none⟩)]] W fun e w' => e = .returned (.int .i64 (fi (t_give sz) ps)) ∧ Below W.heap.size W w' := fun W hb hg hc => index_give ao cap ps sz w.heap.size W (h.below hb) hg hc
  have gn := gnone_any
  have GN := Lib.hid gn
  clear gn
  unfold GivePost
  by_cases hc : heapCheck ps = 0
  · have hlen := (heapCheck_zero.1 hc).1
    have herr := (heapCheck_zero.1 hc).2
    rw [hc] at ck
    have CK := Lib.hid ck
    clear ck
    by_cases hs1 : sz < 1
    · have e : giveF ps sz = ([], zeroK, 1) := by unfold giveF; rw [if_neg (by simp [hc]), if_pos hs1]
      rw [e]
      clear e hc ix h herr
      go_enter Try.func30, Try.ntmps30
      go_wp2_with (first
        | (go_at_call 42; ((with_reducible refine (CK.out _ (ext_alloc (ext_alloc (Below.refl _ _) _) _)).mono ?_); rintro e w1 ⟨rfl, hb1⟩; have bB : Bk w1 (w.heap.size) 3 #[.int .i64 sz] := bk_keep hb1 (by repeat (first | with_reducible assumption | with_reducible exact bk_new _ _ _ | (with_reducible refine bk_new' _ _ ?_; simp; done) | with_reducible refine bk_drew ?_ | with_reducible refine bk_drewN _ ?_ | with_reducible refine bk_old _ ?_ | (with_reducible refine bk_far' _ (by omega) ?_) | with_reducible apply bk_set' | rfl)); (try clear b0); have b0 := cells1 bB; have bL := bB.lt; have kB : Bk w1 (w.heap.size + 1) 40 #[.int .i64 0, .int .i64 0, .int .i64 0, .int .i64 0, .int .i64 0] := bk_keep hb1 (by repeat (first | with_reducible assumption | with_reducible exact bk_new _ _ _ | (with_reducible refine bk_new' _ _ ?_; simp; done) | with_reducible refine bk_drew ?_ | with_reducible refine bk_drewN _ ?_ | with_reducible refine bk_old _ ?_ | (with_reducible refine bk_far' _ (by omega) ?_) | with_reducible apply bk_set' | rfl)); (try clear k0 k1 k2 k3 k4); obtain ⟨k0, k1, k2, k3, k4⟩ := cells5 kB; have kL := kB.lt; have kF := fun i => Bk.frozen kB i; have hB1 : Below w.heap.size w w1 := ext_trans (ext_alloc (ext_alloc (Below.refl _ _) _) _) hb1; have HB1 := Lib.hid hB1; clear hB1))
        | (go_at_call 41; ((with_reducible refine (GN.out _ _).mono ?_); rintro e w2 ⟨rfl, hb2⟩; have kB : Bk w2 (w.heap.size + 1) 40 #[.int .i64 0, .int .i64 0, .int .i64 0, .int .i64 0, .int .i64 0] := bk_keep hb2 (by repeat (first | with_reducible assumption | with_reducible exact bk_new _ _ _ | (with_reducible refine bk_new' _ _ ?_; simp; done) | with_reducible refine bk_drew ?_ | with_reducible refine bk_drewN _ ?_ | with_reducible refine bk_old _ ?_ | (with_reducible refine bk_far' _ (by omega) ?_) | with_reducible apply bk_set' | rfl)); (try clear k0 k1 k2 k3 k4); obtain ⟨k0, k1, k2, k3, k4⟩ := cells5 kB; have kL := kB.lt; have kF := fun i => Bk.frozen kB i; have hB2 : Below w.heap.size w w2 := ext_trans (HB1.out) hb2; have HB2 := Lib.hid hB2; clear hB2)))
      refine bodyPost_ret (v := .tuple #[.slice none 0 0, zeroK.val, .int .i64 1]) (by simp [results, Try.results30, go_sem, zeroK, KeyV.val, gkey, *]; try rfl) rfl ⟨_, rfl, ?_, ?_⟩
      · exact Own.nil _ _ _
      · repeat (first | with_reducible exact HB2.out | with_reducible refine ext_set ?_ (by first | omega | (simp; done) | (simp; omega)) _ | with_reducible refine ext_alloc ?_ _ | with_reducible refine ext_drew ?_)
    cases hf : ps.findIdx? (t_give sz) with
    | none =>
      have e : giveF ps sz = ([], zeroK, 7) := by unfold giveF; rw [if_neg (by simp [hc]), if_neg hs1, gv_idx, hf]; rfl
      rw [e]
      clear e hc herr
      rw [show fi (t_give sz) ps = -1 by unfold fi; rw [hf]] at ix
      have IX := Lib.hid ix
      clear ix hf h
      go_enter Try.func30, Try.ntmps30
      go_wp2_with (first
        | (go_at_call 42; ((with_reducible refine (CK.out _ (ext_alloc (ext_alloc (Below.refl _ _) _) _)).mono ?_); rintro e w1 ⟨rfl, hb1⟩; have bB : Bk w1 (w.heap.size) 3 #[.int .i64 sz] := bk_keep hb1 (by repeat (first | with_reducible assumption | with_reducible exact bk_new _ _ _ | (with_reducible refine bk_new' _ _ ?_; simp; done) | with_reducible refine bk_drew ?_ | with_reducible refine bk_drewN _ ?_ | with_reducible refine bk_old _ ?_ | (with_reducible refine bk_far' _ (by omega) ?_) | with_reducible apply bk_set' | rfl)); (try clear b0); have b0 := cells1 bB; have bL := bB.lt; have kB : Bk w1 (w.heap.size + 1) 40 #[.int .i64 0, .int .i64 0, .int .i64 0, .int .i64 0, .int .i64 0] := bk_keep hb1 (by repeat (first | with_reducible assumption | with_reducible exact bk_new _ _ _ | (with_reducible refine bk_new' _ _ ?_; simp; done) | with_reducible refine bk_drew ?_ | with_reducible refine bk_drewN _ ?_ | with_reducible refine bk_old _ ?_ | (with_reducible refine bk_far' _ (by omega) ?_) | with_reducible apply bk_set' | rfl)); (try clear k0 k1 k2 k3 k4); obtain ⟨k0, k1, k2, k3, k4⟩ := cells5 kB; have kL := kB.lt; have kF := fun i => Bk.frozen kB i; have hB1 : Below w.heap.size w w1 := ext_trans (ext_alloc (ext_alloc (Below.refl _ _) _) _) hb1; have HB1 := Lib.hid hB1; clear hB1))
        | (go_at_call 43; ((with_reducible refine (IX.out _ HB1.out (by simpa using bL) b0).mono ?_); rintro e w2 ⟨rfl, hb2⟩; have bB : Bk w2 (w.heap.size) 3 #[.int .i64 sz] := bk_keep hb2 (by repeat (first | with_reducible assumption | with_reducible exact bk_new _ _ _ | (with_reducible refine bk_new' _ _ ?_; simp; done) | with_reducible refine bk_drew ?_ | with_reducible refine bk_drewN _ ?_ | with_reducible refine bk_old _ ?_ | (with_reducible refine bk_far' _ (by omega) ?_) | with_reducible apply bk_set' | rfl)); (try clear b0); have b0 := cells1 bB; have bL := bB.lt; have kB : Bk w2 (w.heap.size + 1) 40 #[.int .i64 0, .int .i64 0, .int .i64 0, .int .i64 0, .int .i64 0] := bk_keep hb2 (by repeat (first | with_reducible assumption | with_reducible exact bk_new _ _ _ | (with_reducible refine bk_new' _ _ ?_; simp; done) | with_reducible refine bk_drew ?_ | with_reducible refine bk_drewN _ ?_ | with_reducible refine bk_old _ ?_ | (with_reducible refine bk_far' _ (by omega) ?_) | with_reducible apply bk_set' | rfl)); (try clear k0 k1 k2 k3 k4); obtain ⟨k0, k1, k2, k3, k4⟩ := cells5 kB; have kL := kB.lt; have kF := fun i => Bk.frozen kB i; have hB2 : Below w.heap.size w w2 := ext_trans (HB1.out) hb2; have HB2 := Lib.hid hB2; clear hB2))
        | (go_at_call 41; ((with_reducible refine (GN.out _ _).mono ?_); rintro e w3 ⟨rfl, hb3⟩; have kB : Bk w3 (w.heap.size + 1) 40 #[.int .i64 0, .int .i64 0, .int .i64 0, .int .i64 0, .int .i64 0] := bk_keep hb3 (by repeat (first | with_reducible assumption | with_reducible exact bk_new _ _ _ | (with_reducible refine bk_new' _ _ ?_; simp; done) | with_reducible refine bk_drew ?_ | with_reducible refine bk_drewN _ ?_ | with_reducible refine bk_old _ ?_ | (with_reducible refine bk_far' _ (by omega) ?_) | with_reducible apply bk_set' | rfl)); (try clear k0 k1 k2 k3 k4); obtain ⟨k0, k1, k2, k3, k4⟩ := cells5 kB; have kL := kB.lt; have kF := fun i => Bk.frozen kB i; have hB3 : Below w.heap.size w w3 := ext_trans (HB2.out) hb3; have HB3 := Lib.hid hB3; clear hB3)))
      refine bodyPost_ret (v := .tuple #[.slice none 0 0, zeroK.val, .int .i64 7]) (by simp [results, Try.results30, go_sem, zeroK, KeyV.val, gkey, *]; try rfl) rfl ⟨_, rfl, ?_, ?_⟩
      · exact Own.nil _ _ _
      · repeat (first | with_reducible exact HB3.out | with_reducible refine ext_set ?_ (by first | omega | (simp; done) | (simp; omega)) _ | with_reducible refine ext_alloc ?_ _ | with_reducible refine ext_drew ?_)
    | some k =>
      rw [show fi (t_give sz) ps = (k : Int) by unfold fi; rw [hf]] at ix
      obtain ⟨hlt, htg, _⟩ := List.findIdx?_eq_some_iff_getElem.1 hf
      have cl : ∀ W, Below w.heap.size w W → Calls Try.prog 45 #[.slice ao ps.length cap] W (OwnPost W 87 ps) := fun W hb => clone_piece ao _ cap ps W (h.below hb) (by omega)
      obtain ⟨p, hp⟩ : ∃ p, ps[k]? = some p := ⟨_, List.getElem?_eq_getElem hlt⟩
      have hgd : ps.getD k zeroPiece = p := by simp [List.getD, hp]
      have hpe : ps[k] = p := by rw [List.getElem?_eq_getElem hlt] at hp; injection hp
      rw [hpe] at htg
      have hmy := mayB_iff.1 (hErr_may herr p (List.mem_of_getElem? hp))
      have egv : gv sz ps = some (ps.take k ++ ((if sz < p.len then [⟨p.base, sz, 1⟩, ⟨p.base + sz, p.len - sz, 0⟩] else [⟨p.base, sz, 1⟩]) ++ ps.drop (k + 1)), p.base) := by rw [gv_idx, hf, Option.map_some, hgd]
      obtain ⟨pb, pl, pst⟩ := p
      simp only [t_give, Bool.and_eq_true, decide_eq_true_eq] at htg
      obtain ⟨ht0, ht1⟩ := htg
      subst ht0
      simp only at hmy egv
      obtain ⟨y0, y1, y2, y3, _, _⟩ := hmy
      have hpos : 0 < ps.length := by omega
      have hnn : ¬ ((k : Int) < 0) := by omega
      have hk30 : (k : Int) < 30 := by omega
      have hset : ∀ y : PieceV, (ps.set k y).take (k + 1) = ps.take k ++ [y] ∧ (ps.set k y).drop (k + 1) = ps.drop (k + 1) := fun y => by
        have hd : (ps.take k).length = k := by simp; omega
        rw [List.set_eq_take_append_cons_drop, if_pos hlt, List.take_append, List.drop_append, hd, show k + 1 - k = 1 by omega]
        constructor
        · rw [List.take_of_length_le (by omega)]; simp
        · rw [List.drop_of_length_le (by omega)]; simp
      by_cases hsp : sz < pl
      · rw [if_pos hsp] at egv
        have hml : (ps.take k ++ (([⟨pb, sz, 1⟩, ⟨pb + sz, pl - sz, 0⟩] : List PieceV) ++ ps.drop (k + 1))).length = ps.length + 1 := by simp; omega
        by_cases h30 : ps.length = 30
        · have e : giveF ps sz = ([], zeroK, 9) := by unfold giveF; rw [if_neg (by simp [hc]), if_neg hs1, egv]; simp only; rw [if_pos (by rw [hml]; omega)]
          rw [e]
          have g30 : ((ps.length : Int) == 30) = true := by simp [h30]
          have IX := Lib.hid ix
          have CL := Lib.hid cl
          have HP := Lib.hid hp
          clear ix cl hf h hgd hp hset egv e hml herr hpe h30
          go_enter Try.func30, Try.ntmps30
          go_wp2_with (first
            | (go_at_call 42; ((with_reducible refine (CK.out _ (ext_alloc (ext_alloc (Below.refl _ _) _) _)).mono ?_); rintro e w1 ⟨rfl, hb1⟩; have bB : Bk w1 (w.heap.size) 3 #[.int .i64 sz] := bk_keep hb1 (by repeat (first | with_reducible assumption | with_reducible exact bk_new _ _ _ | (with_reducible refine bk_new' _ _ ?_; simp; done) | with_reducible refine bk_drew ?_ | with_reducible refine bk_drewN _ ?_ | with_reducible refine bk_old _ ?_ | (with_reducible refine bk_far' _ (by omega) ?_) | with_reducible apply bk_set' | rfl)); (try clear b0); have b0 := cells1 bB; have bL := bB.lt; have kB : Bk w1 (w.heap.size + 1) 40 #[.int .i64 0, .int .i64 0, .int .i64 0, .int .i64 0, .int .i64 0] := bk_keep hb1 (by repeat (first | with_reducible assumption | with_reducible exact bk_new _ _ _ | (with_reducible refine bk_new' _ _ ?_; simp; done) | with_reducible refine bk_drew ?_ | with_reducible refine bk_drewN _ ?_ | with_reducible refine bk_old _ ?_ | (with_reducible refine bk_far' _ (by omega) ?_) | with_reducible apply bk_set' | rfl)); (try clear k0 k1 k2 k3 k4); obtain ⟨k0, k1, k2, k3, k4⟩ := cells5 kB; have kL := kB.lt; have kF := fun i => Bk.frozen kB i; have hB1 : Below w.heap.size w w1 := ext_trans (ext_alloc (ext_alloc (Below.refl _ _) _) _) hb1; have HB1 := Lib.hid hB1; clear hB1))
            | (go_at_call 43; ((with_reducible refine (IX.out _ HB1.out (by simpa using bL) b0).mono ?_); rintro e w2 ⟨rfl, hb2⟩; have bB : Bk w2 (w.heap.size) 3 #[.int .i64 sz] := bk_keep hb2 (by repeat (first | with_reducible assumption | with_reducible exact bk_new _ _ _ | (with_reducible refine bk_new' _ _ ?_; simp; done) | with_reducible refine bk_drew ?_ | with_reducible refine bk_drewN _ ?_ | with_reducible refine bk_old _ ?_ | (with_reducible refine bk_far' _ (by omega) ?_) | with_reducible apply bk_set' | rfl)); (try clear b0); have b0 := cells1 bB; have bL := bB.lt; have kB : Bk w2 (w.heap.size + 1) 40 #[.int .i64 0, .int .i64 0, .int .i64 0, .int .i64 0, .int .i64 0] := bk_keep hb2 (by repeat (first | with_reducible assumption | with_reducible exact bk_new _ _ _ | (with_reducible refine bk_new' _ _ ?_; simp; done) | with_reducible refine bk_drew ?_ | with_reducible refine bk_drewN _ ?_ | with_reducible refine bk_old _ ?_ | (with_reducible refine bk_far' _ (by omega) ?_) | with_reducible apply bk_set' | rfl)); (try clear k0 k1 k2 k3 k4); obtain ⟨k0, k1, k2, k3, k4⟩ := cells5 kB; have kL := kB.lt; have kF := fun i => Bk.frozen kB i; have hB2 : Below w.heap.size w w2 := ext_trans (HB1.out) hb2; have HB2 := Lib.hid hB2; clear hB2))
            | (go_at_call 45; ((with_reducible refine (CL.out _ HB2.out).mono ?_); rintro e w3 ⟨rr, rfl, ho3, hb3⟩; have bB : Bk w3 (w.heap.size) 3 #[.int .i64 sz] := bk_keep hb3 (by repeat (first | with_reducible assumption | with_reducible exact bk_new _ _ _ | (with_reducible refine bk_new' _ _ ?_; simp; done) | with_reducible refine bk_drew ?_ | with_reducible refine bk_drewN _ ?_ | with_reducible refine bk_old _ ?_ | (with_reducible refine bk_far' _ (by omega) ?_) | with_reducible apply bk_set' | rfl)); (try clear b0); have b0 := cells1 bB; have bL := bB.lt; have kB : Bk w3 (w.heap.size + 1) 40 #[.int .i64 0, .int .i64 0, .int .i64 0, .int .i64 0, .int .i64 0] := bk_keep hb3 (by repeat (first | with_reducible assumption | with_reducible exact bk_new _ _ _ | (with_reducible refine bk_new' _ _ ?_; simp; done) | with_reducible refine bk_drew ?_ | with_reducible refine bk_drewN _ ?_ | with_reducible refine bk_old _ ?_ | (with_reducible refine bk_far' _ (by omega) ?_) | with_reducible apply bk_set' | rfl)); (try clear k0 k1 k2 k3 k4); obtain ⟨k0, k1, k2, k3, k4⟩ := cells5 kB; have kL := kB.lt; have kF := fun i => Bk.frozen kB i; have hB3 : Below w.heap.size w w3 := ext_trans (HB2.out) hb3; have HB3 := Lib.hid hB3; clear hB3; obtain ⟨g, q3, rfl, hg1, hg2, hs3, hz3⟩ := Own.some ho3 hpos; have HO3 := Lib.hid ho3; have hgb : w.heap.size + 1 < g := (by omega); obtain ⟨_, m0, m1, m2⟩ := sl_piece' hs3 hlt HP.out; simp only [Addr.add_lit, Nat.zero_add] at m0 m1 m2; clear ho3 hs3))
            | (go_at_call 41; ((with_reducible refine (GN.out _ _).mono ?_); rintro e w4 ⟨rfl, hb4⟩; have kB : Bk w4 (w.heap.size + 1) 40 #[.int .i64 0, .int .i64 0, .int .i64 0, .int .i64 0, .int .i64 0] := bk_keep hb4 (by repeat (first | with_reducible assumption | with_reducible exact bk_new _ _ _ | (with_reducible refine bk_new' _ _ ?_; simp; done) | with_reducible refine bk_drew ?_ | with_reducible refine bk_drewN _ ?_ | with_reducible refine bk_old _ ?_ | (with_reducible refine bk_far' _ (by omega) ?_) | with_reducible apply bk_set' | rfl)); (try clear k0 k1 k2 k3 k4); obtain ⟨k0, k1, k2, k3, k4⟩ := cells5 kB; have kL := kB.lt; have kF := fun i => Bk.frozen kB i; have hB4 : Below w.heap.size w w4 := ext_trans ((by repeat (first | with_reducible exact HB3.out | with_reducible refine ext_set ?_ (by first | omega | (simp; done) | (simp; omega)) _ | with_reducible refine ext_alloc ?_ _))) hb4; have HB4 := Lib.hid hB4; clear hB4)))
          refine bodyPost_ret (v := .tuple #[.slice none 0 0, zeroK.val, .int .i64 9]) (by simp [results, Try.results30, go_sem, zeroK, KeyV.val, gkey, *]; try rfl) rfl ⟨_, rfl, ?_, ?_⟩
          · exact Own.nil _ _ _
          · repeat (first | with_reducible exact HB4.out | with_reducible refine ext_set ?_ (by first | omega | (simp; done) | (simp; omega)) _ | with_reducible refine ext_alloc ?_ _ | with_reducible refine ext_drew ?_)
        · have e : giveF ps sz = (ps.take k ++ (([⟨pb, sz, 1⟩, ⟨pb + sz, pl - sz, 0⟩] : List PieceV) ++ ps.drop (k + 1)), gkey pb sz, 0) := by unfold giveF; rw [if_neg (by simp [hc]), if_neg hs1, egv]; simp only; rw [if_neg (by rw [hml]; omega)]
          rw [e]
          have g30 : ((ps.length : Int) == 30) = false := by simp; omega
          have ins : ∀ (g q vb : Nat) (W : World), Own W (w.heap.size + 2) 87 (.slice (some ⟨g, 0, none⟩) ps.length q) (ps.set k ⟨pb, sz, 1⟩) → vb ≠ g → Bk W vb 87 #[.int .i64 (pb + sz), .int .i64 (pl - sz), .int .i64 0] → w.heap.size + 2 ≤ W.heap.size →
              Calls Try.prog 46 #[.slice (some ⟨g, 0, none⟩) ps.length q, .int .i64 ((k : Int) + 1), .slice (some ⟨vb, 0, none⟩) 1 1] W (InsPost (w.heap.size + 2) 87 (ps.take k ++ (([⟨pb, sz, 1⟩, ⟨pb + sz, pl - sz, 0⟩] : List PieceV) ++ ps.drop (k + 1))) g W) := fun g q vb W ho hne hbk hbs => by
            have hpl : (ps.set k (⟨pb, sz, 1⟩ : PieceV)).length = ps.length := List.length_set
            have ho' : Own W (w.heap.size + 2) 87 (.slice (some ⟨g, 0, none⟩) (ps.set k (⟨pb, sz, 1⟩ : PieceV)).length q) (ps.set k ⟨pb, sz, 1⟩) := by rw [hpl]; exact ho
            have h := insert_piece (w.heap.size + 2) g q (k + 1) (ps.set k ⟨pb, sz, 1⟩) ⟨pb + sz, pl - sz, 0⟩ W ho' (by rw [hpl]; omega) vb hne hbk (by rw [hpl]; omega) hbs
            rw [hpl, (hset _).1, (hset _).2, show ((k + 1 : Nat) : Int) = (k : Int) + 1 by omega] at h
            have e2 : ps.take k ++ [(⟨pb, sz, 1⟩ : PieceV)] ++ ⟨pb + sz, pl - sz, 0⟩ :: ps.drop (k + 1) = ps.take k ++ (([⟨pb, sz, 1⟩, ⟨pb + sz, pl - sz, 0⟩] : List PieceV) ++ ps.drop (k + 1)) := by simp
            rw [e2] at h
            exact h
          have IX := Lib.hid ix
          have CL := Lib.hid cl
          have HP := Lib.hid hp
          have INS := Lib.hid ins
          unfold InsPost at INS
          generalize ps.take k ++ (([⟨pb, sz, 1⟩, ⟨pb + sz, pl - sz, 0⟩] : List PieceV) ++ ps.drop (k + 1)) = res at *
          clear ix cl hf h hgd hp hset egv e hml herr hpe ins
          go_enter Try.func30, Try.ntmps30
          go_wp2_with (first
            | (go_at_call 42; ((with_reducible refine (CK.out _ (ext_alloc (ext_alloc (Below.refl _ _) _) _)).mono ?_); rintro e w1 ⟨rfl, hb1⟩; have bB : Bk w1 (w.heap.size) 3 #[.int .i64 sz] := bk_keep hb1 (by repeat (first | with_reducible assumption | with_reducible exact bk_new _ _ _ | (with_reducible refine bk_new' _ _ ?_; simp; done) | with_reducible refine bk_drew ?_ | with_reducible refine bk_drewN _ ?_ | with_reducible refine bk_old _ ?_ | (with_reducible refine bk_far' _ (by omega) ?_) | with_reducible apply bk_set' | rfl)); (try clear b0); have b0 := cells1 bB; have bL := bB.lt; have kB : Bk w1 (w.heap.size + 1) 40 #[.int .i64 0, .int .i64 0, .int .i64 0, .int .i64 0, .int .i64 0] := bk_keep hb1 (by repeat (first | with_reducible assumption | with_reducible exact bk_new _ _ _ | (with_reducible refine bk_new' _ _ ?_; simp; done) | with_reducible refine bk_drew ?_ | with_reducible refine bk_drewN _ ?_ | with_reducible refine bk_old _ ?_ | (with_reducible refine bk_far' _ (by omega) ?_) | with_reducible apply bk_set' | rfl)); (try clear k0 k1 k2 k3 k4); obtain ⟨k0, k1, k2, k3, k4⟩ := cells5 kB; have kL := kB.lt; have kF := fun i => Bk.frozen kB i; have hB1 : Below w.heap.size w w1 := ext_trans (ext_alloc (ext_alloc (Below.refl _ _) _) _) hb1; have HB1 := Lib.hid hB1; clear hB1))
            | (go_at_call 43; ((with_reducible refine (IX.out _ HB1.out (by simpa using bL) b0).mono ?_); rintro e w2 ⟨rfl, hb2⟩; have bB : Bk w2 (w.heap.size) 3 #[.int .i64 sz] := bk_keep hb2 (by repeat (first | with_reducible assumption | with_reducible exact bk_new _ _ _ | (with_reducible refine bk_new' _ _ ?_; simp; done) | with_reducible refine bk_drew ?_ | with_reducible refine bk_drewN _ ?_ | with_reducible refine bk_old _ ?_ | (with_reducible refine bk_far' _ (by omega) ?_) | with_reducible apply bk_set' | rfl)); (try clear b0); have b0 := cells1 bB; have bL := bB.lt; have kB : Bk w2 (w.heap.size + 1) 40 #[.int .i64 0, .int .i64 0, .int .i64 0, .int .i64 0, .int .i64 0] := bk_keep hb2 (by repeat (first | with_reducible assumption | with_reducible exact bk_new _ _ _ | (with_reducible refine bk_new' _ _ ?_; simp; done) | with_reducible refine bk_drew ?_ | with_reducible refine bk_drewN _ ?_ | with_reducible refine bk_old _ ?_ | (with_reducible refine bk_far' _ (by omega) ?_) | with_reducible apply bk_set' | rfl)); (try clear k0 k1 k2 k3 k4); obtain ⟨k0, k1, k2, k3, k4⟩ := cells5 kB; have kL := kB.lt; have kF := fun i => Bk.frozen kB i; have hB2 : Below w.heap.size w w2 := ext_trans (HB1.out) hb2; have HB2 := Lib.hid hB2; clear hB2))
            | (go_at_call 45; ((with_reducible refine (CL.out _ HB2.out).mono ?_); rintro e w3 ⟨rr, rfl, ho3, hb3⟩; have bB : Bk w3 (w.heap.size) 3 #[.int .i64 sz] := bk_keep hb3 (by repeat (first | with_reducible assumption | with_reducible exact bk_new _ _ _ | (with_reducible refine bk_new' _ _ ?_; simp; done) | with_reducible refine bk_drew ?_ | with_reducible refine bk_drewN _ ?_ | with_reducible refine bk_old _ ?_ | (with_reducible refine bk_far' _ (by omega) ?_) | with_reducible apply bk_set' | rfl)); (try clear b0); have b0 := cells1 bB; have bL := bB.lt; have kB : Bk w3 (w.heap.size + 1) 40 #[.int .i64 0, .int .i64 0, .int .i64 0, .int .i64 0, .int .i64 0] := bk_keep hb3 (by repeat (first | with_reducible assumption | with_reducible exact bk_new _ _ _ | (with_reducible refine bk_new' _ _ ?_; simp; done) | with_reducible refine bk_drew ?_ | with_reducible refine bk_drewN _ ?_ | with_reducible refine bk_old _ ?_ | (with_reducible refine bk_far' _ (by omega) ?_) | with_reducible apply bk_set' | rfl)); (try clear k0 k1 k2 k3 k4); obtain ⟨k0, k1, k2, k3, k4⟩ := cells5 kB; have kL := kB.lt; have kF := fun i => Bk.frozen kB i; have hB3 : Below w.heap.size w w3 := ext_trans (HB2.out) hb3; have HB3 := Lib.hid hB3; clear hB3; obtain ⟨g, q3, rfl, hg1, hg2, hs3, hz3⟩ := Own.some ho3 hpos; have HO3 := Lib.hid ho3; have hgb : w.heap.size + 1 < g := (by omega); obtain ⟨_, m0, m1, m2⟩ := sl_piece' hs3 hlt HP.out; simp only [Addr.add_lit, Nat.zero_add] at m0 m1 m2; clear ho3 hs3))
            | (go_at_call 46; ((with_reducible refine (INS.out g q3 _ _ (Own.mono (base := w2.heap.size) (by repeat (first | with_reducible exact (own_set2 HO3.out HP.out).1 | with_reducible refine Own.alloc ?_ _)) (by omega)) (by simp; omega) (bk_new' _ _ (by simp)) (by simp; omega)).mono ?_); rintro e w5 ⟨v5, rfl, ho5, hg5⟩; have HO5 := Lib.hid ho5; have HB5 := Lib.hid (show Below w.heap.size w w5 from Below.grown (by repeat (first | with_reducible exact HB3.out | with_reducible refine ext_set ?_ (by first | omega | (simp; done) | (simp; omega)) _ | with_reducible refine ext_alloc ?_ _)) hg5 (by simp; omega) (fun k hk => by injection hk with hk; omega)); have bB5 : Bk w5 w.heap.size 3 #[.int .i64 sz] := bk_grownp hg5 (by omega) (by repeat (first | with_reducible assumption | with_reducible exact bk_new _ _ _ | (with_reducible refine bk_new' _ _ ?_; simp; done) | with_reducible refine bk_drew ?_ | with_reducible refine bk_drewN _ ?_ | with_reducible refine bk_old _ ?_ | (with_reducible refine bk_far' _ (by omega) ?_) | with_reducible apply bk_set' | rfl)); have kB5 : Bk w5 (w.heap.size + 1) 40 #[.int .i64 0, .int .i64 0, .int .i64 0, .int .i64 0, .int .i64 0] := bk_grownp hg5 (by omega) (by repeat (first | with_reducible assumption | with_reducible exact bk_new _ _ _ | (with_reducible refine bk_new' _ _ ?_; simp; done) | with_reducible refine bk_drew ?_ | with_reducible refine bk_drewN _ ?_ | with_reducible refine bk_old _ ?_ | (with_reducible refine bk_far' _ (by omega) ?_) | with_reducible apply bk_set' | rfl)); have pB5 : Bk w5 w3.heap.size 87 #[.int .i64 pb, .int .i64 pl, .int .i64 0] := bk_grownp hg5 (by omega) (by repeat (first | with_reducible assumption | with_reducible exact bk_new _ _ _ | (with_reducible refine bk_new' _ _ ?_; simp; done) | with_reducible refine bk_drew ?_ | with_reducible refine bk_drewN _ ?_ | with_reducible refine bk_old _ ?_ | (with_reducible refine bk_far' _ (by omega) ?_) | with_reducible apply bk_set' | rfl)); clear ho5 hg5; clear b0 k0 k1 k2 k3 k4 kF; have b0 := cells1 bB5; have bL5 := bB5.lt; obtain ⟨k0, k1, k2, k3, k4⟩ := cells5 kB5; have kF := fun i => Bk.frozen kB5 i; have kL5 := kB5.lt; obtain ⟨p0, p1, p2⟩ := cells3 pB5; have pL5 := pB5.lt)))
          go_region
          go_wp2_with fail
          refine bodyPost_ret (v := .tuple #[v5, (gkey pb sz).val, .int .i64 0]) (by simp [results, Try.results30, go_sem, zeroK, KeyV.val, gkey, *]; try rfl) rfl ⟨_, rfl, ?_, ?_⟩
          · refine Own.mono (base := w.heap.size + 2) ?_ (by omega)
            repeat (first | with_reducible exact HO5.out | with_reducible refine Own.alloc ?_ _ | with_reducible refine own_farb ?_ (by first | omega | (simp; done) | (simp; omega)) _ | with_reducible refine Own.drew ?_)
          · repeat (first | with_reducible exact HB5.out | with_reducible refine ext_set ?_ (by first | omega | (simp; done) | (simp; omega)) _ | with_reducible refine ext_alloc ?_ _ | with_reducible refine ext_drew ?_)
      · rw [if_neg hsp] at egv
        obtain rfl : sz = pl := by omega
        have hml : (ps.take k ++ (([⟨pb, sz, 1⟩] : List PieceV) ++ ps.drop (k + 1))).length = ps.length := by simp; omega
        have e : giveF ps sz = (ps.set k ⟨pb, sz, 1⟩, gkey pb sz, 0) := by
          unfold giveF; rw [if_neg (by simp [hc]), if_neg hs1, egv]; simp only; rw [if_neg (by rw [hml]; omega), List.set_eq_take_append_cons_drop, if_pos hlt]; rfl
        rw [e]
        have IX := Lib.hid ix
        have CL := Lib.hid cl
        have HP := Lib.hid hp
        clear ix cl hf h hgd hp hset egv e hml herr hpe
        go_enter Try.func30, Try.ntmps30
        go_wp2_with (first
          | (go_at_call 42; ((with_reducible refine (CK.out _ (ext_alloc (ext_alloc (Below.refl _ _) _) _)).mono ?_); rintro e w1 ⟨rfl, hb1⟩; have bB : Bk w1 (w.heap.size) 3 #[.int .i64 sz] := bk_keep hb1 (by repeat (first | with_reducible assumption | with_reducible exact bk_new _ _ _ | (with_reducible refine bk_new' _ _ ?_; simp; done) | with_reducible refine bk_drew ?_ | with_reducible refine bk_drewN _ ?_ | with_reducible refine bk_old _ ?_ | (with_reducible refine bk_far' _ (by omega) ?_) | with_reducible apply bk_set' | rfl)); (try clear b0); have b0 := cells1 bB; have bL := bB.lt; have kB : Bk w1 (w.heap.size + 1) 40 #[.int .i64 0, .int .i64 0, .int .i64 0, .int .i64 0, .int .i64 0] := bk_keep hb1 (by repeat (first | with_reducible assumption | with_reducible exact bk_new _ _ _ | (with_reducible refine bk_new' _ _ ?_; simp; done) | with_reducible refine bk_drew ?_ | with_reducible refine bk_drewN _ ?_ | with_reducible refine bk_old _ ?_ | (with_reducible refine bk_far' _ (by omega) ?_) | with_reducible apply bk_set' | rfl)); (try clear k0 k1 k2 k3 k4); obtain ⟨k0, k1, k2, k3, k4⟩ := cells5 kB; have kL := kB.lt; have kF := fun i => Bk.frozen kB i; have hB1 : Below w.heap.size w w1 := ext_trans (ext_alloc (ext_alloc (Below.refl _ _) _) _) hb1; have HB1 := Lib.hid hB1; clear hB1))
          | (go_at_call 43; ((with_reducible refine (IX.out _ HB1.out (by simpa using bL) b0).mono ?_); rintro e w2 ⟨rfl, hb2⟩; have bB : Bk w2 (w.heap.size) 3 #[.int .i64 sz] := bk_keep hb2 (by repeat (first | with_reducible assumption | with_reducible exact bk_new _ _ _ | (with_reducible refine bk_new' _ _ ?_; simp; done) | with_reducible refine bk_drew ?_ | with_reducible refine bk_drewN _ ?_ | with_reducible refine bk_old _ ?_ | (with_reducible refine bk_far' _ (by omega) ?_) | with_reducible apply bk_set' | rfl)); (try clear b0); have b0 := cells1 bB; have bL := bB.lt; have kB : Bk w2 (w.heap.size + 1) 40 #[.int .i64 0, .int .i64 0, .int .i64 0, .int .i64 0, .int .i64 0] := bk_keep hb2 (by repeat (first | with_reducible assumption | with_reducible exact bk_new _ _ _ | (with_reducible refine bk_new' _ _ ?_; simp; done) | with_reducible refine bk_drew ?_ | with_reducible refine bk_drewN _ ?_ | with_reducible refine bk_old _ ?_ | (with_reducible refine bk_far' _ (by omega) ?_) | with_reducible apply bk_set' | rfl)); (try clear k0 k1 k2 k3 k4); obtain ⟨k0, k1, k2, k3, k4⟩ := cells5 kB; have kL := kB.lt; have kF := fun i => Bk.frozen kB i; have hB2 : Below w.heap.size w w2 := ext_trans (HB1.out) hb2; have HB2 := Lib.hid hB2; clear hB2))
          | (go_at_call 45; ((with_reducible refine (CL.out _ HB2.out).mono ?_); rintro e w3 ⟨rr, rfl, ho3, hb3⟩; have bB : Bk w3 (w.heap.size) 3 #[.int .i64 sz] := bk_keep hb3 (by repeat (first | with_reducible assumption | with_reducible exact bk_new _ _ _ | (with_reducible refine bk_new' _ _ ?_; simp; done) | with_reducible refine bk_drew ?_ | with_reducible refine bk_drewN _ ?_ | with_reducible refine bk_old _ ?_ | (with_reducible refine bk_far' _ (by omega) ?_) | with_reducible apply bk_set' | rfl)); (try clear b0); have b0 := cells1 bB; have bL := bB.lt; have kB : Bk w3 (w.heap.size + 1) 40 #[.int .i64 0, .int .i64 0, .int .i64 0, .int .i64 0, .int .i64 0] := bk_keep hb3 (by repeat (first | with_reducible assumption | with_reducible exact bk_new _ _ _ | (with_reducible refine bk_new' _ _ ?_; simp; done) | with_reducible refine bk_drew ?_ | with_reducible refine bk_drewN _ ?_ | with_reducible refine bk_old _ ?_ | (with_reducible refine bk_far' _ (by omega) ?_) | with_reducible apply bk_set' | rfl)); (try clear k0 k1 k2 k3 k4); obtain ⟨k0, k1, k2, k3, k4⟩ := cells5 kB; have kL := kB.lt; have kF := fun i => Bk.frozen kB i; have hB3 : Below w.heap.size w w3 := ext_trans (HB2.out) hb3; have HB3 := Lib.hid hB3; clear hB3; obtain ⟨g, q3, rfl, hg1, hg2, hs3, hz3⟩ := Own.some ho3 hpos; have HO3 := Lib.hid ho3; have hgb : w.heap.size + 1 < g := (by omega); obtain ⟨_, m0, m1, m2⟩ := sl_piece' hs3 hlt HP.out; simp only [Addr.add_lit, Nat.zero_add] at m0 m1 m2; clear ho3 hs3)))
        go_region
        go_wp2_with fail
        refine bodyPost_ret (v := .tuple #[.slice (some ⟨g, 0, none⟩) ps.length q3, (gkey pb sz).val, .int .i64 0]) (by simp [results, Try.results30, go_sem, zeroK, KeyV.val, gkey, *]; try rfl) rfl ⟨_, rfl, ?_, ?_⟩
        · refine Own.mono (base := w2.heap.size) ?_ (by omega)
          repeat (first | with_reducible exact (own_set2 HO3.out HP.out).1 | with_reducible refine Own.alloc ?_ _ | with_reducible refine own_farb ?_ (by first | omega | (simp; done) | (simp; omega)) _ | with_reducible refine Own.drew ?_)
        · repeat (first | with_reducible exact HB3.out | with_reducible refine ext_set ?_ (by first | omega | (simp; done) | (simp; omega)) _ | with_reducible refine ext_alloc ?_ _ | with_reducible refine ext_drew ?_)
  · have e : giveF ps sz = ([], zeroK, heapCheck ps) := by unfold giveF; rw [if_pos hc]
    rw [e]
    have g : (heapCheck ps == 0) = false := by simpa using hc
    have g' : (heapCheck ps != 0) = true := by simpa using hc
    generalize heapCheck ps = c at *
    have CK := Lib.hid ck
    clear e ck ix hc h
    go_enter Try.func30, Try.ntmps30
    go_wp2_with (first
      | (go_at_call 42; ((with_reducible refine (CK.out _ (ext_alloc (ext_alloc (Below.refl _ _) _) _)).mono ?_); rintro e w1 ⟨rfl, hb1⟩; have bB : Bk w1 (w.heap.size) 3 #[.int .i64 sz] := bk_keep hb1 (by repeat (first | with_reducible assumption | with_reducible exact bk_new _ _ _ | (with_reducible refine bk_new' _ _ ?_; simp; done) | with_reducible refine bk_drew ?_ | with_reducible refine bk_drewN _ ?_ | with_reducible refine bk_old _ ?_ | (with_reducible refine bk_far' _ (by omega) ?_) | with_reducible apply bk_set' | rfl)); (try clear b0); have b0 := cells1 bB; have bL := bB.lt; have kB : Bk w1 (w.heap.size + 1) 40 #[.int .i64 0, .int .i64 0, .int .i64 0, .int .i64 0, .int .i64 0] := bk_keep hb1 (by repeat (first | with_reducible assumption | with_reducible exact bk_new _ _ _ | (with_reducible refine bk_new' _ _ ?_; simp; done) | with_reducible refine bk_drew ?_ | with_reducible refine bk_drewN _ ?_ | with_reducible refine bk_old _ ?_ | (with_reducible refine bk_far' _ (by omega) ?_) | with_reducible apply bk_set' | rfl)); (try clear k0 k1 k2 k3 k4); obtain ⟨k0, k1, k2, k3, k4⟩ := cells5 kB; have kL := kB.lt; have kF := fun i => Bk.frozen kB i; have hB1 : Below w.heap.size w w1 := ext_trans (ext_alloc (ext_alloc (Below.refl _ _) _) _) hb1; have HB1 := Lib.hid hB1; clear hB1))
      | (go_at_call 41; ((with_reducible refine (GN.out _ _).mono ?_); rintro e w2 ⟨rfl, hb2⟩; have kB : Bk w2 (w.heap.size + 1) 40 #[.int .i64 0, .int .i64 0, .int .i64 0, .int .i64 0, .int .i64 0] := bk_keep hb2 (by repeat (first | with_reducible assumption | with_reducible exact bk_new _ _ _ | (with_reducible refine bk_new' _ _ ?_; simp; done) | with_reducible refine bk_drew ?_ | with_reducible refine bk_drewN _ ?_ | with_reducible refine bk_old _ ?_ | (with_reducible refine bk_far' _ (by omega) ?_) | with_reducible apply bk_set' | rfl)); (try clear k0 k1 k2 k3 k4); obtain ⟨k0, k1, k2, k3, k4⟩ := cells5 kB; have kL := kB.lt; have kF := fun i => Bk.frozen kB i; have hB2 : Below w.heap.size w w2 := ext_trans (HB1.out) hb2; have HB2 := Lib.hid hB2; clear hB2)))
    refine bodyPost_ret (v := .tuple #[.slice none 0 0, zeroK.val, .int .i64 c]) (by simp [results, Try.results30, go_sem, zeroK, KeyV.val, gkey, *]; try rfl) rfl ⟨_, rfl, ?_, ?_⟩
    · exact Own.nil _ _ _
    · repeat (first | with_reducible exact HB2.out | with_reducible refine ext_set ?_ (by first | omega | (simp; done) | (simp; omega)) _ | with_reducible refine ext_alloc ?_ _ | with_reducible refine ext_drew ?_)
end Go.Proofs.Ytmmmmeeepieemaa
