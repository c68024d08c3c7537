/- What heaped of the laws computes. -/
import Derived.Test.YtlbhnkbchiklnaaHeapE
import Derived.Test.YtlbhnkbchiklnaaHeapD
import Derived.Test.YtlbhnkbchiklnaaHeapF
import Derived.Test.YtlbhnkbchiklnaaTurnOf
import Derived.Test.YtlbhnkbchiklnaaLiftTurns
import Derived.BigRegion
import Derived.Deep.DeepCutAuto
import Derived.Deep.RegionLaw
namespace Go.Proofs.Ytlbhnkbchiklnaa
open El (cl)
open Go.RowKit
set_option linter.unusedVariables false
set_option linter.unusedSimpArgs false
theorem hsl_key {w : World} {ao : Option Addr} {n : Nat} {ks : List KeyV} (h : Sl w ao n ks) {i : Nat} (hi : i < n) {x : KeyV} (hx : ks[i]? = some x) : ∃ a, ao = some a ∧ (a.add (i * 5)).block < w.heap.size ∧
    w.cell? ⟨(a.add (i * 5)).block, (a.add (i * 5)).off + 1, none⟩ = some (.int .i64 x.base) := by
  obtain ⟨a, y, e, hb, hy, hc⟩ := h.at hi
  obtain rfl : y = x := by rw [hx] at hy; injection hy with hy; exact hy.symm
  refine ⟨a, e, by rw [el_block]; exact hb, ?_⟩
  have h1 := hc 1 _ rfl
  have e1 : a.add (i * 5 + 1) = ⟨(a.add (i * 5)).block, (a.add (i * 5)).off + 1, none⟩ := by
    unfold Addr.add
    rw [if_neg (by omega)]
    by_cases hi : i * 5 = 0
    · rw [hi]; simp
    · rw [if_neg hi]; simp [Nat.add_assoc]
  rw [← e1]
  exact h1
theorem hsl_key' {w : World} {a : Addr} {n : Nat} {ks : List KeyV} (h : Sl w (some a) n ks) {i : Nat} (hi : i < n) {x : KeyV} (hx : ks[i]? = some x) : (a.add (i * 5)).block < w.heap.size ∧
    w.cell? ⟨(a.add (i * 5)).block, (a.add (i * 5)).off + 1, none⟩ = some (.int .i64 x.base) := by
  obtain ⟨b, e, h1, h2⟩ := hsl_key h hi hx
  injection e with e
  subst e
  exact ⟨h1, h2⟩
theorem own_ne {α β : Type} [El α] [El β] {w : World} {b b' : Nat} {T T' : TypeId} {v u : Value} {xs : List α} {ys : List β} (h : Own w b T v xs) (h' : Own w b' T' u ys) (hT : T ≠ T') : v.ownBlock = none ∨ v.ownBlock ≠ u.ownBlock := by
  rcases h.2 with ⟨rfl, _⟩ | ⟨g, c, cur, rfl, _, hg, _⟩
  · exact .inl rfl
  · right
    rcases h'.2 with ⟨rfl, _⟩ | ⟨g', c', cur', rfl, _, hg', _⟩
    · simp [Value.ownBlock]
    · intro e
      simp [Value.ownBlock] at e
      subst e
      rw [hg] at hg'
      injection hg' with hg'
      injection hg' with _ ht _
      exact hT ht
theorem lit_sl {w : World} {T : TypeId} (g : Nat) (cs : Array Value) (k : KeyV) (hc : cs.toList = cl k) (hg : g = w.heap.size) : Sl (w.alloc (.cells cs T)) (some ⟨g, 0, none⟩) 1 [k] := by
  subst hg
  have h0 := own_lit (xs := [k]) w T 0 (Nat.zero_le _) cs 1 rfl (by decide) (by rw [hc, cls_one])
  obtain ⟨ao, c, e, h, _⟩ := h0.sl
  injection e with e _ _
  subst e
  simpa using h
theorem own_block_far {α : Type} [El α] {w : World} {b : Nat} {T : TypeId} {v u : Value} {xs : List α} (h : Own w b T v xs) {m : Nat} (h2 : ∀ k, u.ownBlock = some k → m ≤ k ∧ k < b) : v.ownBlock = none ∨ v.ownBlock ≠ u.ownBlock := by
  cases hv : v.ownBlock with
  | none => exact .inl rfl
  | some k =>
    right
    intro e
    have h3 := own_block_ge h k hv
    have h4 := h2 k e.symm
    omega
theorem own_block_away {α β : Type} [El α] [El β] {w w' : World} {b : Nat} {T T' : TypeId} {v u : Value} {xs : List α} {ys : List β} (h : Own w b T v xs) (h2 : Own w' w.heap.size T' u ys) : v.ownBlock = none ∨ v.ownBlock ≠ u.ownBlock := by
  cases hv : v.ownBlock with
  | none => exact .inl rfl
  | some k =>
    right
    intro e
    have h3 := own_block_ge h k hv
    have h4 := own_block_ge h2 k e.symm
    omega
theorem sl_take {α : Type} [El α] {w : World} {ao : Option Addr} {n : Nat} {xs : List α} (h : Sl w ao n xs) {j : Nat} (hj : j ≤ n) : Sl w ao j (xs.take j) := by
  refine ⟨by rw [List.length_take, h.len]; omega, by have := h.max; omega, fun hp => ?_⟩
  obtain ⟨a, e, hb, hc⟩ := h.row (by omega)
  refine ⟨a, e, hb, fun i u hu => hc i u ?_⟩
  rw [cls_take] at hu
  rw [List.getElem?_take] at hu
  split at hu
  · exact hu
  · cases hu
theorem sl_drop {α : Type} [El α] {w : World} {a : Addr} {n : Nat} {xs : List α} (h : Sl w (some a) n xs) {j : Nat} (hj : j ≤ n) : Sl w (some (a.add (j * El.k α))) (n - j) (xs.drop j) := by
  refine ⟨by rw [List.length_drop, h.len], by have := h.max; omega, fun hp => ?_⟩
  obtain ⟨b, e, hb, hc⟩ := h.row (by omega)
  injection e with e
  subst e
  refine ⟨_, rfl, by rw [el_block]; exact hb, fun i u hu => ?_⟩
  rw [el_add]
  rw [cls_drop, List.getElem?_drop] at hu
  exact hc _ u hu
theorem step_append_runI {P : Program} {ops : Array Oper} {o : Oper} {a : Act} {w : World} {K : Act → World → Prop} {Q : Exit → Act → World → Prop} {E : Prop}
    (hg : o.guard = none) (d x : Operand) (dT sT : TypeId) (hop : o.op = Op.call { callee := Callee.builtin Builtin.append, args := #[d, x], argTypes := #[dT, sT] })
    (v u : Value) (hd : a.eval d = v) (hx : a.eval x = u) {v' : Value} {w' : World} (hr : (Builtin.append_ #[dT, sT] o.type #[v, u]).run P w = .ok v' w') (hK : K (a.put o.dst v') w') :
    if Region.wanted o (yielded ops a.tmps) = true then Oper.wp P o a w K Q else E := by
  have hw : Region.wanted o (yielded ops a.tmps) = true := by simp [Region.wanted, hg]
  rw [if_pos hw]
  unfold Oper.wp
  simp [execOp, hop, resolve, invoke, builtin, hd, hx, hr, Result.andThen]
  exact hK
def HeapedPost (w : World) (TP TK : TypeId) (base n : Int) (e : Ending) (w' : World) : Prop :=
  ∃ v u ps K, e = .returned (.tuple #[v, u, .bool true]) ∧ Own w' w.heap.size TP v ps ∧ Own w' w.heap.size TK u K ∧ HInv base n ps K ∧ Below w.heap.size w w'
set_option maxHeartbeats 4000000 in
set_option maxRecDepth 100000 in
theorem heaped_any (base n : Int) (ao : Option Addr) (m cap : Nat) (ts : List TurnV) (w : World) (hsl : Sl w ao m ts) (htw : ∀ t ∈ ts, t.wf) (hb0 : 0 ≤ base) (hb1 : base ≤ 389) (hn0 : 1 ≤ n) (hn1 : n ≤ 400 - base) :
    Calls Try.prog 39 #[.int .i64 base, .int .i64 n, .slice ao m cap] w (HeapedPost w 72 24 base n) := by
  have hN := hsl.len
  subst hN
  have hmx := hsl.max
  unfold maxLen at hmx
  obtain ⟨i0, hi0, hz0, hz1, hz2⟩ := info_parts info_key
  have hmay : mayB ⟨base, n, 0⟩ = true := mayB_iff.2 ⟨hb0, hn0, by simp only; omega, by simp only; omega, by simp, by simp⟩
  have nw := fun W => hnew_any base n W
  rw [if_pos hmay, if_pos hmay] at nw
  have hnew := hinv_new hmay
  have HNEW := Lib.hid hnew
  have NW := Lib.hid nw
  have HSL := Lib.hid hsl
  have HTW := Lib.hid htw
  unfold ResPost at NW
  clear nw hnew hsl htw hmay
  go_enter Try.func39, Try.ntmps39
  go_wp2_with (go_at_call 62; ((with_reducible refine (NW.out _).mono ?_); rintro e w0 ⟨v0, rfl, ho0, hb0⟩; have HO0 := Lib.hid ho0; have HB0 := Lib.hid hb0; clear ho0 hb0))
  go_loopw [9, 11, 27] (fun v u i wr => ∃ j : Nat, j ≤ ts.length ∧ i = .int .i64 j ∧ ∃ ps K, Own wr w.heap.size 72 v ps ∧ Own wr w.heap.size 24 u K ∧ HInv base n ps K ∧ Below w.heap.size w wr) (fun _ _ i _ => ts.length - (intOf i).toNat)
  case atStart => exact ⟨0, Nat.zero_le _, rfl, _, _, HO0.out, Own.nil _ _ _, HNEW.out, HB0.out⟩
  case round =>
    obtain ⟨j, hj, rfl, ps, K, hoh, hok, hinv, hbw⟩ := hrel
    have HBW := Lib.hid hbw
    by_cases hlt : j < ts.length
    · obtain ⟨x, hx⟩ : ∃ x, ts[j]? = some x := ⟨_, List.getElem?_eq_getElem hlt⟩
      have hxw := HTW.out x (List.mem_of_getElem? hx)
      obtain ⟨ad, rfl, hab, e0, e1, e2⟩ := sl_turn (HSL.out.below HBW.out) hlt hx
      obtain ⟨kd, nn, mm⟩ := x
      simp only at e0 e1 e2
      have of := fun W => of_any kd nn mm 3 (by decide) (by decide) W
      have t0 : 0 ≤ kd % 3 := Int.emod_nonneg _ (by decide)
      have t5 : kd % 3 < 3 := Int.emod_lt_of_pos _ (by decide)
      generalize kd % 3 = t at *
      have OF := Lib.hid of
      have hnw := hxw.n
      simp only at hnw
      have hobh := own_block_ge hoh
      have hobk := own_block_ge hok
      obtain ⟨hao, hcap, rfl, hslh, _⟩ := hoh.sl
      obtain ⟨kao, kcap, rfl, hslk, _⟩ := hok.sl
      have hnh : (Value.slice hao ps.length hcap).ownBlock ≠ some (wr.heap.size + 1) := fun e => by have h := (hobh _ e).2; omega
      have hnk : (Value.slice kao K.length kcap).ownBlock ≠ some (wr.heap.size + 1) := fun e => by have h := (hobk _ e).2; omega
      have hmany := hinv.many
      have HOH := Lib.hid hoh
      have HOK := Lib.hid hok
      have HSH := Lib.hid hslh
      have HSK := Lib.hid hslk
      have HIN := Lib.hid hinv
      have HNH := Lib.hid hnh
      have HNB := Lib.hid hnk
      have HBH := Lib.hid hobh
      have HBK := Lib.hid hobk
      have c63 : K.length + 1 ≤ maxLen := by unfold maxLen; omega
      have c47 : (K.length + 1) * 40 ≤ 140737488355328 := by omega
      have C63 := Lib.hid c63
      have C47 := Lib.hid c47
      clear of hx hxw hoh hok hslh hslk hinv hbw hnh hnk hobh hobk c63 c47
      rcases (show t = 0 ∨ t = 1 ∨ t = 2 by omega) with h | h | h
      · subst h
        clear t0 t5
        have gv0 : ∀ W, Below wr.heap.size wr W → Calls Try.prog 45 #[.slice hao ps.length hcap, .int .i64 nn] W (GivePost W 72 (giveF ps nn).1 (giveF ps nn).2.1 (giveF ps nn).2.2) := fun W hb => hgive_any hao _ hcap ps nn W (HSH.out.below hb) hnw
        have hgi := fun hc => hinv_give (sz := nn) (c := (giveF ps nn).2.2) (m := (giveF ps nn).1) (k := (giveF ps nn).2.1) HIN.out rfl hc
        generalize giveF ps nn = r at gv0 hgi
        obtain ⟨gm, q, gc⟩ := r
        simp only at gv0 hgi
        unfold GivePost at gv0
        by_cases hc : gc = 0
        · subst hc
          obtain ⟨gb, hg1, rfl, _, hi2⟩ := hgi rfl
          simp only [gkey, KeyV.val] at gv0
          have HI2 := Lib.hid hi2
          have GV := Lib.hid gv0
          clear hgi gv0 hi2
          go_wp2_with (first
            | (go_at_call 25; ((with_reducible refine (OF.out _).mono ?_); rintro e w1 ⟨rfl, hb1⟩; have xB : Bk w1 (wr.heap.size) 44 #[.int .i64 kd, .int .i64 nn, .int .i64 mm] := bk_keep hb1 (by repeat (first | with_reducible assumption | with_reducible exact bk_new _ _ _ | (with_reducible refine bk_new' _ _ ?_; simp; done) | with_reducible refine bk_drew ?_ | with_reducible refine bk_drewN _ ?_ | with_reducible refine bk_old _ ?_ | (with_reducible refine bk_far' _ (by omega) ?_) | with_reducible apply bk_set' | rfl)); (try clear x0 x1 x2); obtain ⟨x0, x1, x2⟩ := cells3 xB; have xL := xB.lt; have nB : Bk w1 (wr.heap.size + 1) 24 #[.int .i64 0, .int .i64 0, .int .i64 0, .int .i64 0, .int .i64 0] := bk_keep hb1 (by repeat (first | with_reducible assumption | with_reducible exact bk_new _ _ _ | (with_reducible refine bk_new' _ _ ?_; simp; done) | with_reducible refine bk_drew ?_ | with_reducible refine bk_drewN _ ?_ | with_reducible refine bk_old _ ?_ | (with_reducible refine bk_far' _ (by omega) ?_) | with_reducible apply bk_set' | rfl)); (try clear n0 n1 n2 n3 n4); obtain ⟨n0, n1, n2, n3, n4⟩ := cells5 nB; have nL := nB.lt; have nF := fun i => Bk.frozen nB i; have hB1 : Below wr.heap.size wr w1 := ext_trans (ext_alloc (ext_alloc (Below.refl _ _) _) _) hb1; have HB1 := Lib.hid hB1; clear hB1))
            | (go_at_call 45; ((with_reducible refine (GV.out _ HB1.out).mono ?_); rintro e w2 ⟨v2, rfl, ho2, hb2⟩; have xB : Bk w2 (wr.heap.size) 44 #[.int .i64 kd, .int .i64 nn, .int .i64 mm] := bk_keep hb2 (by repeat (first | with_reducible assumption | with_reducible exact bk_new _ _ _ | (with_reducible refine bk_new' _ _ ?_; simp; done) | with_reducible refine bk_drew ?_ | with_reducible refine bk_drewN _ ?_ | with_reducible refine bk_old _ ?_ | (with_reducible refine bk_far' _ (by omega) ?_) | with_reducible apply bk_set' | rfl)); (try clear x0 x1 x2); obtain ⟨x0, x1, x2⟩ := cells3 xB; have xL := xB.lt; have nB : Bk w2 (wr.heap.size + 1) 24 #[.int .i64 0, .int .i64 0, .int .i64 0, .int .i64 0, .int .i64 0] := bk_keep hb2 (by repeat (first | with_reducible assumption | with_reducible exact bk_new _ _ _ | (with_reducible refine bk_new' _ _ ?_; simp; done) | with_reducible refine bk_drew ?_ | with_reducible refine bk_drewN _ ?_ | with_reducible refine bk_old _ ?_ | (with_reducible refine bk_far' _ (by omega) ?_) | with_reducible apply bk_set' | rfl)); (try clear n0 n1 n2 n3 n4); obtain ⟨n0, n1, n2, n3, n4⟩ := cells5 nB; have nL := nB.lt; have nF := fun i => Bk.frozen nB i; have HO2 := Lib.hid ho2; clear ho2; have hB2 : Below wr.heap.size wr w2 := ext_trans (HB1.out) hb2; have HB2 := Lib.hid hB2; clear hB2; have HS3 := Lib.hid (show Sl ((((((w2.setCell ⟨wr.heap.size + 1, 0, none⟩ (.int .i64 27)).setCell ⟨wr.heap.size + 1, 1, none⟩ (.int .i64 gb)).setCell ⟨wr.heap.size + 1, 2, none⟩ (.int .i64 nn)).setCell ⟨wr.heap.size + 1, 3, none⟩ (.int .i64 gb)).setCell ⟨wr.heap.size + 1, 4, none⟩ (.int .i64 0)).alloc (.cells #[.int .i64 27, .int .i64 gb, .int .i64 nn, .int .i64 gb, .int .i64 0] 24)) (some ⟨w2.heap.size, 0, none⟩) 1 [gkey gb nn] from lit_sl _ _ _ rfl (by simp)); have HK3 := Lib.hid (show Own ((((((w2.setCell ⟨wr.heap.size + 1, 0, none⟩ (.int .i64 27)).setCell ⟨wr.heap.size + 1, 1, none⟩ (.int .i64 gb)).setCell ⟨wr.heap.size + 1, 2, none⟩ (.int .i64 nn)).setCell ⟨wr.heap.size + 1, 3, none⟩ (.int .i64 gb)).setCell ⟨wr.heap.size + 1, 4, none⟩ (.int .i64 0)).alloc (.cells #[.int .i64 27, .int .i64 gb, .int .i64 nn, .int .i64 gb, .int .i64 0] 24)) w.heap.size 24 (.slice kao K.length kcap) K from (by repeat (first | with_reducible exact HOK.out.below HB2.out | with_reducible refine Own.alloc ?_ _ | with_reducible refine own_far ?_ _ _ (by exact HNB.out)))); have CB3 := Lib.hid (show w.heap.size ≤ ((((((w2.setCell ⟨wr.heap.size + 1, 0, none⟩ (.int .i64 27)).setCell ⟨wr.heap.size + 1, 1, none⟩ (.int .i64 gb)).setCell ⟨wr.heap.size + 1, 2, none⟩ (.int .i64 nn)).setCell ⟨wr.heap.size + 1, 3, none⟩ (.int .i64 gb)).setCell ⟨wr.heap.size + 1, 4, none⟩ (.int .i64 0)).alloc (.cells #[.int .i64 27, .int .i64 gb, .int .i64 nn, .int .i64 gb, .int .i64 0] 24)).heap.size from by have := HBW.out.size; simp; omega); have HW3 := Lib.hid (show Own ((((((w2.setCell ⟨wr.heap.size + 1, 0, none⟩ (.int .i64 27)).setCell ⟨wr.heap.size + 1, 1, none⟩ (.int .i64 gb)).setCell ⟨wr.heap.size + 1, 2, none⟩ (.int .i64 nn)).setCell ⟨wr.heap.size + 1, 3, none⟩ (.int .i64 gb)).setCell ⟨wr.heap.size + 1, 4, none⟩ (.int .i64 0)).alloc (.cells #[.int .i64 27, .int .i64 gb, .int .i64 nn, .int .i64 gb, .int .i64 0] 24)) w1.heap.size 72 v2 gm from (by repeat (first | with_reducible exact HO2.out | with_reducible refine Own.alloc ?_ _ | with_reducible refine own_farb ?_ (by first | omega | (simp; done) | (simp; omega)) _))); have HB3 := Lib.hid (show Below wr.heap.size wr ((((((w2.setCell ⟨wr.heap.size + 1, 0, none⟩ (.int .i64 27)).setCell ⟨wr.heap.size + 1, 1, none⟩ (.int .i64 gb)).setCell ⟨wr.heap.size + 1, 2, none⟩ (.int .i64 nn)).setCell ⟨wr.heap.size + 1, 3, none⟩ (.int .i64 gb)).setCell ⟨wr.heap.size + 1, 4, none⟩ (.int .i64 0)).alloc (.cells #[.int .i64 27, .int .i64 gb, .int .i64 nn, .int .i64 gb, .int .i64 0] 24)) from by repeat (first | with_reducible exact HB2.out | with_reducible refine ext_set ?_ (by first | omega | (simp; done) | (simp; omega)) _ | with_reducible refine ext_alloc ?_ _))))
            | (at_builtin; refine wpList_append_sl rfl (.tmp 54) (.tmp 56) 34 rfl w.heap.size 24 i0 _ 40 Try.underlying34 hi0 hz0 hz1 hz2 rfl (.slice kao K.length kcap) K rfl HK3.out (some ⟨w2.heap.size, 0, none⟩) 1 1 [gkey gb nn] rfl HS3.out C63.out C47.out CB3.out ?_; intro v3 w3 hown3 hgr3 hat3; have HO3 := Lib.hid hown3; have HG3 := Lib.hid hgr3; clear hown3 hgr3 hat3))
          go_roundw
          case rel =>
            refine ⟨j + 1, by omega, by go_num, _, _, (Own.mono (HW3.out.kept HG3.out (own_block_far (m := 0) HW3.out (fun k hk => ⟨by omega, by have := (HBK.out k hk).2; omega⟩))) (by have := HBW.out.size; omega)), HO3.out, HI2.out, ?_⟩
            exact (ext_trans HBW.out HB3.out).grown HG3.out CB3.out (fun k hk => (HBK.out k hk).1)
          case measure => simp [intOf]; omega
        · have g1 : (gc == 0) = false := by simp [hc]
          obtain ⟨q0, q1, q2, q3, q4⟩ := q
          simp only [KeyV.val] at gv0
          have GV := Lib.hid gv0
          clear hgi gv0 hc
          go_wp2_with (first
            | (go_at_call 25; ((with_reducible refine (OF.out _).mono ?_); rintro e w1 ⟨rfl, hb1⟩; have xB : Bk w1 (wr.heap.size) 44 #[.int .i64 kd, .int .i64 nn, .int .i64 mm] := bk_keep hb1 (by repeat (first | with_reducible assumption | with_reducible exact bk_new _ _ _ | (with_reducible refine bk_new' _ _ ?_; simp; done) | with_reducible refine bk_drew ?_ | with_reducible refine bk_drewN _ ?_ | with_reducible refine bk_old _ ?_ | (with_reducible refine bk_far' _ (by omega) ?_) | with_reducible apply bk_set' | rfl)); (try clear x0 x1 x2); obtain ⟨x0, x1, x2⟩ := cells3 xB; have xL := xB.lt; have nB : Bk w1 (wr.heap.size + 1) 24 #[.int .i64 0, .int .i64 0, .int .i64 0, .int .i64 0, .int .i64 0] := bk_keep hb1 (by repeat (first | with_reducible assumption | with_reducible exact bk_new _ _ _ | (with_reducible refine bk_new' _ _ ?_; simp; done) | with_reducible refine bk_drew ?_ | with_reducible refine bk_drewN _ ?_ | with_reducible refine bk_old _ ?_ | (with_reducible refine bk_far' _ (by omega) ?_) | with_reducible apply bk_set' | rfl)); (try clear n0 n1 n2 n3 n4); obtain ⟨n0, n1, n2, n3, n4⟩ := cells5 nB; have nL := nB.lt; have nF := fun i => Bk.frozen nB i; have hB1 : Below wr.heap.size wr w1 := ext_trans (ext_alloc (ext_alloc (Below.refl _ _) _) _) hb1; have HB1 := Lib.hid hB1; clear hB1))
            | (go_at_call 45; ((with_reducible refine (GV.out _ HB1.out).mono ?_); rintro e w2 ⟨v2, rfl, ho2, hb2⟩; have xB : Bk w2 (wr.heap.size) 44 #[.int .i64 kd, .int .i64 nn, .int .i64 mm] := bk_keep hb2 (by repeat (first | with_reducible assumption | with_reducible exact bk_new _ _ _ | (with_reducible refine bk_new' _ _ ?_; simp; done) | with_reducible refine bk_drew ?_ | with_reducible refine bk_drewN _ ?_ | with_reducible refine bk_old _ ?_ | (with_reducible refine bk_far' _ (by omega) ?_) | with_reducible apply bk_set' | rfl)); (try clear x0 x1 x2); obtain ⟨x0, x1, x2⟩ := cells3 xB; have xL := xB.lt; have nB : Bk w2 (wr.heap.size + 1) 24 #[.int .i64 0, .int .i64 0, .int .i64 0, .int .i64 0, .int .i64 0] := bk_keep hb2 (by repeat (first | with_reducible assumption | with_reducible exact bk_new _ _ _ | (with_reducible refine bk_new' _ _ ?_; simp; done) | with_reducible refine bk_drew ?_ | with_reducible refine bk_drewN _ ?_ | with_reducible refine bk_old _ ?_ | (with_reducible refine bk_far' _ (by omega) ?_) | with_reducible apply bk_set' | rfl)); (try clear n0 n1 n2 n3 n4); obtain ⟨n0, n1, n2, n3, n4⟩ := cells5 nB; have nL := nB.lt; have nF := fun i => Bk.frozen nB i; have HO2 := Lib.hid ho2; clear ho2; have hB2 : Below wr.heap.size wr w2 := ext_trans (HB1.out) hb2; have HB2 := Lib.hid hB2; clear hB2)))
          go_roundw
          case rel =>
            refine ⟨j + 1, by omega, by go_num, _, _, (by repeat (first | with_reducible exact HOH.out.below HB2.out | with_reducible refine Own.alloc ?_ _ | with_reducible refine Own.drew ?_ | with_reducible refine own_far ?_ _ _ (by exact HNH.out))), (by repeat (first | with_reducible exact HOK.out.below HB2.out | with_reducible refine Own.alloc ?_ _ | with_reducible refine Own.drew ?_ | with_reducible refine own_far ?_ _ _ (by exact HNB.out))), HIN.out, ?_⟩
            refine ext_trans HBW.out ?_
            repeat (first | with_reducible exact HB2.out | with_reducible refine ext_set ?_ (by first | omega | (simp; done) | (simp; omega)) _ | with_reducible refine ext_alloc ?_ _ | with_reducible refine ext_drew ?_)
          case measure => simp [intOf]; omega
      · subst h
        clear t0 t5
        rcases Nat.eq_zero_or_pos K.length with hk0 | hkp
        · have g0 : ((K.length : Int) == 0) = true := by simp [hk0]
          clear hk0
          go_wp2_with (first
            | (go_at_call 25; ((with_reducible refine (OF.out _).mono ?_); rintro e w1 ⟨rfl, hb1⟩; have xB : Bk w1 (wr.heap.size) 44 #[.int .i64 kd, .int .i64 nn, .int .i64 mm] := bk_keep hb1 (by repeat (first | with_reducible assumption | with_reducible exact bk_new _ _ _ | (with_reducible refine bk_new' _ _ ?_; simp; done) | with_reducible refine bk_drew ?_ | with_reducible refine bk_drewN _ ?_ | with_reducible refine bk_old _ ?_ | (with_reducible refine bk_far' _ (by omega) ?_) | with_reducible apply bk_set' | rfl)); (try clear x0 x1 x2); obtain ⟨x0, x1, x2⟩ := cells3 xB; have xL := xB.lt; have nB : Bk w1 (wr.heap.size + 1) 24 #[.int .i64 0, .int .i64 0, .int .i64 0, .int .i64 0, .int .i64 0] := bk_keep hb1 (by repeat (first | with_reducible assumption | with_reducible exact bk_new _ _ _ | (with_reducible refine bk_new' _ _ ?_; simp; done) | with_reducible refine bk_drew ?_ | with_reducible refine bk_drewN _ ?_ | with_reducible refine bk_old _ ?_ | (with_reducible refine bk_far' _ (by omega) ?_) | with_reducible apply bk_set' | rfl)); (try clear n0 n1 n2 n3 n4); obtain ⟨n0, n1, n2, n3, n4⟩ := cells5 nB; have nL := nB.lt; have nF := fun i => Bk.frozen nB i; have hB1 : Below wr.heap.size wr w1 := ext_trans (ext_alloc (ext_alloc (Below.refl _ _) _) _) hb1; have HB1 := Lib.hid hB1; clear hB1)))
          go_roundw
          case rel =>
            refine ⟨j + 1, by omega, by go_num, _, _, (by repeat (first | with_reducible exact HOH.out.below HB1.out | with_reducible refine Own.alloc ?_ _ | with_reducible refine Own.drew ?_ | with_reducible refine own_far ?_ _ _ (by exact HNH.out))), (by repeat (first | with_reducible exact HOK.out.below HB1.out | with_reducible refine Own.alloc ?_ _ | with_reducible refine Own.drew ?_ | with_reducible refine own_far ?_ _ _ (by exact HNB.out))), HIN.out, ?_⟩
            refine ext_trans HBW.out ?_
            repeat (first | with_reducible exact HB1.out | with_reducible refine ext_set ?_ (by first | omega | (simp; done) | (simp; omega)) _ | with_reducible refine ext_alloc ?_ _ | with_reducible refine ext_drew ?_)
          case measure => simp [intOf]; omega
        · have g0 : ((K.length : Int) == 0) = false := beq_eq_false_iff_ne.2 (by omega)
          have hm0 : 0 ≤ nn % (K.length : Int) := Int.emod_nonneg _ (by omega)
          have hm1 : nn % (K.length : Int) < K.length := Int.emod_lt_of_pos _ (by omega)
          obtain ⟨k, hk⟩ := Int.eq_ofNat_of_zero_le hm0
          rw [hk] at hm1
          have hklt : k < K.length := by omega
          obtain ⟨ke, hke⟩ : ∃ x, K[k]? = some x := ⟨_, List.getElem?_eq_getElem hklt⟩
          obtain ⟨hm, hb1', hb2'⟩ := hinv_back HIN.out hke
          have rs : ∀ W, Calls Try.prog 19 #[.int .i64 nn, .int .i64 K.length] W fun e w' => e = .returned (.int .i64 k) ∧ W = w' := fun W => by
            have h := rest_any nn K.length W (by omega) (by omega)
            rw [hk] at h
            exact h
          have bc : ∀ W, Below wr.heap.size wr W → Calls Try.prog 42 #[.slice hao ps.length hcap, .int .i64 ke.base] W (ResPost W 72 (backF ps ke.base).1 (backF ps ke.base).2) := fun W hb => hback_any hao _ hcap ps ke.base W (HSH.out.below hb)
          rw [hb1'] at bc
          obtain ⟨kb, q, ek, _, hkb2, hsk, _⟩ := Own.some HOK.out hkp
          injection ek with ek1 ek2 ek3
          subst ek1
          subst ek3
          have HBC := Lib.hid bc
          unfold ResPost at HBC
          have RS := Lib.hid rs
          have HKE := Lib.hid hke
          have HB2' := Lib.hid hb2'
          obtain ⟨_, _, hqc, hqm⟩ : True ∧ True ∧ K.length ≤ kcap ∧ kcap ≤ maxLen := by obtain ⟨_, C, _, h1, h2, _⟩ := own_parts HOK.out; exact ⟨trivial, trivial, h1, h2⟩
          have HKC := Lib.hid hqc
          have HKM := Lib.hid hqm
          clear hqc hqm
          have hk63 : ((k : Nat) : Int) ≤ 100 := by omega
          obtain ⟨kf0, kbase, kf2, kf3, kf4⟩ := ke
          simp only at HBC
          clear hk hm0 hm1 hb1' hb2' rs bc hsk hke
          go_wp2_with (first
            | (go_at_call 25; ((with_reducible refine (OF.out _).mono ?_); rintro e w1 ⟨rfl, hb1⟩; have xB : Bk w1 (wr.heap.size) 44 #[.int .i64 kd, .int .i64 nn, .int .i64 mm] := bk_keep hb1 (by repeat (first | with_reducible assumption | with_reducible exact bk_new _ _ _ | (with_reducible refine bk_new' _ _ ?_; simp; done) | with_reducible refine bk_drew ?_ | with_reducible refine bk_drewN _ ?_ | with_reducible refine bk_old _ ?_ | (with_reducible refine bk_far' _ (by omega) ?_) | with_reducible apply bk_set' | rfl)); (try clear x0 x1 x2); obtain ⟨x0, x1, x2⟩ := cells3 xB; have xL := xB.lt; have nB : Bk w1 (wr.heap.size + 1) 24 #[.int .i64 0, .int .i64 0, .int .i64 0, .int .i64 0, .int .i64 0] := bk_keep hb1 (by repeat (first | with_reducible assumption | with_reducible exact bk_new _ _ _ | (with_reducible refine bk_new' _ _ ?_; simp; done) | with_reducible refine bk_drew ?_ | with_reducible refine bk_drewN _ ?_ | with_reducible refine bk_old _ ?_ | (with_reducible refine bk_far' _ (by omega) ?_) | with_reducible apply bk_set' | rfl)); (try clear n0 n1 n2 n3 n4); obtain ⟨n0, n1, n2, n3, n4⟩ := cells5 nB; have nL := nB.lt; have nF := fun i => Bk.frozen nB i; have hB1 : Below wr.heap.size wr w1 := ext_trans (ext_alloc (ext_alloc (Below.refl _ _) _) _) hb1; have HB1 := Lib.hid hB1; clear hB1; obtain ⟨hkb3, m1⟩ := hsl_key' (HSK.out.below HB1.out) hklt HKE.out; simp only [Addr.add_lit, Nat.zero_add] at hkb3 m1))
            | (go_at_call 19; ((with_reducible refine (RS.out _).mono ?_); rintro e w' ⟨rfl, rfl⟩))
            | (go_at_call 42; ((with_reducible refine (HBC.out _ HB1.out).mono ?_); rintro e w2 ⟨v2, rfl, ho2, hb2⟩; have xB : Bk w2 (wr.heap.size) 44 #[.int .i64 kd, .int .i64 nn, .int .i64 mm] := bk_keep hb2 (by repeat (first | with_reducible assumption | with_reducible exact bk_new _ _ _ | (with_reducible refine bk_new' _ _ ?_; simp; done) | with_reducible refine bk_drew ?_ | with_reducible refine bk_drewN _ ?_ | with_reducible refine bk_old _ ?_ | (with_reducible refine bk_far' _ (by omega) ?_) | with_reducible apply bk_set' | rfl)); (try clear x0 x1 x2); obtain ⟨x0, x1, x2⟩ := cells3 xB; have xL := xB.lt; have nB : Bk w2 (wr.heap.size + 1) 24 #[.int .i64 0, .int .i64 0, .int .i64 0, .int .i64 0, .int .i64 0] := bk_keep hb2 (by repeat (first | with_reducible assumption | with_reducible exact bk_new _ _ _ | (with_reducible refine bk_new' _ _ ?_; simp; done) | with_reducible refine bk_drew ?_ | with_reducible refine bk_drewN _ ?_ | with_reducible refine bk_old _ ?_ | (with_reducible refine bk_far' _ (by omega) ?_) | with_reducible apply bk_set' | rfl)); (try clear n0 n1 n2 n3 n4); obtain ⟨n0, n1, n2, n3, n4⟩ := cells5 nB; have nL := nB.lt; have nF := fun i => Bk.frozen nB i; have HO2 := Lib.hid ho2; clear ho2; have hB2 : Below wr.heap.size wr w2 := ext_trans (HB1.out) hb2; have HB2 := Lib.hid hB2; clear hB2)))
          have hsw : Sl w2 (some ⟨kb, 0, none⟩) K.length K := HSK.out.below HB2.out
          obtain ⟨v3, w3, hr1, ho3, hg3, _⟩ := run_append_sl (P := Try.prog) w2.drew w2.heap.size 34 34 24 i0 _ 40 Try.underlying34 hi0 hz0 hz1 hz2 rfl (.slice none 0 0) ([] : List KeyV) (Own.nil _ _ _) (some ⟨kb, 0, none⟩) k kcap (K.take k) ((sl_take hsw (by omega)).drew) (by unfold maxLen; simp; omega) (by simp; omega) (Nat.le_refl _)
          rw [List.nil_append] at ho3
          have hd3 : Sl w3 (some ⟨kb, (k + 1) * 5, none⟩) (K.length - (k + 1)) (K.drop (k + 1)) := by
            have h := (sl_drop hsw (j := k + 1) (by omega)).drew.grown hg3 (fun a _ _ => by simp [Value.ownBlock])
            rwa [Addr.add_lit, Nat.zero_add] at h
          have hs3 : w2.heap.size ≤ w3.heap.size := hg3.size
          have htl : (K.take k).length = k := by rw [List.length_take]; omega
          have hH3 : Own w3 w1.heap.size 72 v2 hm := HO2.out.drew.kept hg3 (by cases v2.ownBlock <;> simp [Value.ownBlock])
          have hB3 : Below wr.heap.size wr w3 := by
            have h := HB2.out.drew
            exact h.grown hg3 (by have := HB2.out.size; simpa using this) (fun k hk => by simp [Value.ownBlock] at hk)
          by_cases hcap : kcap = k + 1
          · have hkl : K.length = k + 1 := by have := HKC.out; omega
            have hdn : K.drop (k + 1) = [] := List.drop_of_length_le (by omega)
            rw [hdn] at HB2'
            obtain ⟨v4, w4, hr2, ho4, hg4, _⟩ := run_append_sl (P := Try.prog) w3 w2.heap.size 34 34 24 i0 _ 40 Try.underlying34 hi0 hz0 hz1 hz2 rfl v3 (K.take k) ho3 (some ⟨kb, 0, none⟩) 0 0 ([] : List KeyV) (Sl.nil _ _) (by unfold maxLen; rw [htl]; omega) (by rw [htl]; omega) hs3
            have HR1 := Lib.hid hr1
            have HR2 := Lib.hid hr2
            subst hcap
            have HR1 := Lib.hid hr1
            have HR2 := Lib.hid hr2
            have hH4 : Own w4 w1.heap.size 72 v2 hm := hH3.kept hg4 (own_block_away HO2.out ho3)
            have hK4 : Own w4 w.heap.size 24 v4 (K.take k ++ []) := Own.mono ho4 (by have := HBW.out.size; have := HB2.out.size; omega)
            have hB4 : Below w.heap.size w w4 := (ext_trans HBW.out hB3).grown hg4 (by have := HBW.out.size; have := HB2.out.size; omega) (fun k hk => by have := (own_block_ge ho3 k hk).1; have := HBW.out.size; have := HB2.out.size; omega)
            have HH4 := Lib.hid hH4
            have HK4 := Lib.hid hK4
            have HB4 := Lib.hid hB4
            have hw1 : IntKind.i64.wrap ((k : Int) + 1) = (k : Int) + 1 := by rw [IntKind.wrap_i64]; omega
            have hq1 : (0 : Int) ≤ (k : Int) + 1 := by omega
            have htn : ((k : Int) + 1).toNat = k + 1 := by omega
            have hq3 : (k : Int) + 1 ≤ (K.length : Int) := by omega
            have hq6 : (k : Int) ≤ (k : Int) + 1 := by omega
            have hq7 : (0 : Int) ≤ (k : Int) := by omega
            have hq8 : k ≤ k + 1 := by omega
            have hq9 : k + 1 ≤ 9223372036854775807 := by omega
            clear hsw hr1 ho3 hg3 hd3 hs3 htl hH3 hB3 hr2 ho4 hg4 hH4 hK4 hB4
            go_region_law (first
              | (refine step_append_runI rfl _ _ 34 34 rfl (.slice none 0 0) (.slice (some ⟨kb, 0, none⟩) k (k + 1)) (by simp [Act.eval, Act.put]) (by simp [Act.eval, Act.put]) HR1.out ?_)
              | (refine step_append_runI rfl _ _ 34 34 rfl v3 (.slice (some ⟨kb, 0, none⟩) 0 0) (by simp [Act.eval, Act.put]) (by simp [Act.eval, Act.put]) HR2.out ?_))
            go_wp2
            go_roundw
            case rel => exact ⟨j + 1, by omega, by go_num, _, _, Own.mono HH4.out (by have := HBW.out.size; have := HB1.out.size; omega), HK4.out, HB2'.out, HB4.out⟩
            case measure => simp [intOf]; omega
          · obtain ⟨v4, w4, hr2, ho4, hg4, _⟩ := run_append_sl (P := Try.prog) w3 w2.heap.size 34 34 24 i0 _ 40 Try.underlying34 hi0 hz0 hz1 hz2 rfl v3 (K.take k) ho3 (some ⟨kb, (k + 1) * 5, none⟩) (K.length - (k + 1)) (kcap - (k + 1)) (K.drop (k + 1)) hd3 (by unfold maxLen; rw [htl]; omega) (by rw [htl]; omega) hs3
            have HR1 := Lib.hid hr1
            have HR2 := Lib.hid hr2
            have hH4 : Own w4 w1.heap.size 72 v2 hm := hH3.kept hg4 (own_block_away HO2.out ho3)
            have hK4 : Own w4 w.heap.size 24 v4 (K.take k ++ K.drop (k + 1)) := Own.mono ho4 (by have := HBW.out.size; have := HB2.out.size; omega)
            have hB4 : Below w.heap.size w w4 := (ext_trans HBW.out hB3).grown hg4 (by have := HBW.out.size; have := HB2.out.size; omega) (fun k hk => by have := (own_block_ge ho3 k hk).1; have := HBW.out.size; have := HB2.out.size; omega)
            have HH4 := Lib.hid hH4
            have HK4 := Lib.hid hK4
            have HB4 := Lib.hid hB4
            have hw1 : IntKind.i64.wrap ((k : Int) + 1) = (k : Int) + 1 := by rw [IntKind.wrap_i64]; omega
            have hq1 : (0 : Int) ≤ (k : Int) + 1 := by omega
            have htn : ((k : Int) + 1).toNat = k + 1 := by omega
            have hq3 : (k : Int) + 1 ≤ (K.length : Int) := by omega
            have hkc : K.length ≤ kcap := HKC.out
            have hkm : kcap ≤ 9223372036854775807 := HKM.out
            have hq4 : ¬ (kcap = k + 1) := hcap
            have hq5 : ¬ (kcap = 0) := by omega
            have hq6 : (k : Int) ≤ (kcap : Int) := by omega
            have hq7 : (0 : Int) ≤ (k : Int) := by omega
            have hq8 : k ≤ kcap := by omega
            have hq9 : (k : Int) ≤ (K.length : Int) := by omega
            have hq10 : k ≤ K.length := by omega
            have hq11 : k + 1 ≤ K.length := by omega
            clear hsw hr1 ho3 hg3 hd3 hs3 htl hH3 hB3 hr2 ho4 hg4 hH4 hK4 hB4
            go_region_law (first
              | (refine step_append_runI rfl _ _ 34 34 rfl (.slice none 0 0) (.slice (some ⟨kb, 0, none⟩) k kcap) (by simp [Act.eval, Act.put]) (by simp [Act.eval, Act.put]) HR1.out ?_)
              | (refine step_append_runI rfl _ _ 34 34 rfl v3 (.slice (some ⟨kb, (k + 1) * 5, none⟩) (K.length - (k + 1)) (kcap - (k + 1))) (by simp [Act.eval, Act.put]) (by simp [Act.eval, Act.put]) HR2.out ?_))
            go_wp2
            go_roundw
            case rel => exact ⟨j + 1, by omega, by go_num, _, _, Own.mono HH4.out (by have := HBW.out.size; have := HB1.out.size; omega), HK4.out, HB2'.out, HB4.out⟩
            case measure => simp [intOf]; omega
      · subst h
        clear t0 t5
        obtain ⟨hcl1, hcl2⟩ := hinv_clean HIN.out hb0
        have cn : ∀ W, Below wr.heap.size wr W → Calls Try.prog 43 #[.slice hao ps.length hcap] W (ResPost W 72 (cleanF ps).1 (cleanF ps).2) := fun W hb => hclean_any hao _ hcap ps W (HSH.out.below hb)
        rw [hcl1] at cn
        have CN := Lib.hid cn
        unfold ResPost at CN
        have HCL2 := Lib.hid hcl2
        clear hcl1 hcl2 cn
        go_wp2_with (first
          | (go_at_call 25; ((with_reducible refine (OF.out _).mono ?_); rintro e w1 ⟨rfl, hb1⟩; have xB : Bk w1 (wr.heap.size) 44 #[.int .i64 kd, .int .i64 nn, .int .i64 mm] := bk_keep hb1 (by repeat (first | with_reducible assumption | with_reducible exact bk_new _ _ _ | (with_reducible refine bk_new' _ _ ?_; simp; done) | with_reducible refine bk_drew ?_ | with_reducible refine bk_drewN _ ?_ | with_reducible refine bk_old _ ?_ | (with_reducible refine bk_far' _ (by omega) ?_) | with_reducible apply bk_set' | rfl)); (try clear x0 x1 x2); obtain ⟨x0, x1, x2⟩ := cells3 xB; have xL := xB.lt; have nB : Bk w1 (wr.heap.size + 1) 24 #[.int .i64 0, .int .i64 0, .int .i64 0, .int .i64 0, .int .i64 0] := bk_keep hb1 (by repeat (first | with_reducible assumption | with_reducible exact bk_new _ _ _ | (with_reducible refine bk_new' _ _ ?_; simp; done) | with_reducible refine bk_drew ?_ | with_reducible refine bk_drewN _ ?_ | with_reducible refine bk_old _ ?_ | (with_reducible refine bk_far' _ (by omega) ?_) | with_reducible apply bk_set' | rfl)); (try clear n0 n1 n2 n3 n4); obtain ⟨n0, n1, n2, n3, n4⟩ := cells5 nB; have nL := nB.lt; have nF := fun i => Bk.frozen nB i; have hB1 : Below wr.heap.size wr w1 := ext_trans (ext_alloc (ext_alloc (Below.refl _ _) _) _) hb1; have HB1 := Lib.hid hB1; clear hB1))
          | (go_at_call 43; ((with_reducible refine (CN.out _ HB1.out).mono ?_); rintro e w2 ⟨v2, rfl, ho2, hb2⟩; have xB : Bk w2 (wr.heap.size) 44 #[.int .i64 kd, .int .i64 nn, .int .i64 mm] := bk_keep hb2 (by repeat (first | with_reducible assumption | with_reducible exact bk_new _ _ _ | (with_reducible refine bk_new' _ _ ?_; simp; done) | with_reducible refine bk_drew ?_ | with_reducible refine bk_drewN _ ?_ | with_reducible refine bk_old _ ?_ | (with_reducible refine bk_far' _ (by omega) ?_) | with_reducible apply bk_set' | rfl)); (try clear x0 x1 x2); obtain ⟨x0, x1, x2⟩ := cells3 xB; have xL := xB.lt; have nB : Bk w2 (wr.heap.size + 1) 24 #[.int .i64 0, .int .i64 0, .int .i64 0, .int .i64 0, .int .i64 0] := bk_keep hb2 (by repeat (first | with_reducible assumption | with_reducible exact bk_new _ _ _ | (with_reducible refine bk_new' _ _ ?_; simp; done) | with_reducible refine bk_drew ?_ | with_reducible refine bk_drewN _ ?_ | with_reducible refine bk_old _ ?_ | (with_reducible refine bk_far' _ (by omega) ?_) | with_reducible apply bk_set' | rfl)); (try clear n0 n1 n2 n3 n4); obtain ⟨n0, n1, n2, n3, n4⟩ := cells5 nB; have nL := nB.lt; have nF := fun i => Bk.frozen nB i; have HO2 := Lib.hid ho2; clear ho2; have hB2 : Below wr.heap.size wr w2 := ext_trans (HB1.out) hb2; have HB2 := Lib.hid hB2; clear hB2)))
        go_roundw
        case rel =>
          refine ⟨j + 1, by omega, by go_num, _, _, (Own.mono (base := w1.heap.size) (by repeat (first | with_reducible exact HO2.out | with_reducible refine Own.alloc ?_ _ | with_reducible refine Own.drew ?_ | with_reducible refine own_farb ?_ (by first | omega | (simp; done) | (simp; omega)) _)) (by have := HBW.out.size; omega)), (by repeat (first | with_reducible exact HOK.out.below HB2.out | with_reducible refine Own.alloc ?_ _ | with_reducible refine Own.drew ?_ | with_reducible refine own_far ?_ _ _ (by exact HNB.out))), HCL2.out, ?_⟩
          refine ext_trans HBW.out ?_
          repeat (first | with_reducible exact HB2.out | with_reducible refine ext_set ?_ (by first | omega | (simp; done) | (simp; omega)) _ | with_reducible refine ext_alloc ?_ _ | with_reducible refine ext_drew ?_)
        case measure => simp [intOf]; omega
    · have hnlt : ¬ ((j : Int) < ts.length) := by omega
      have HOH := Lib.hid hoh
      have HOK := Lib.hid hok
      have HIN := Lib.hid hinv
      clear hoh hok hinv hbw
      go_wp2
      go_ret3
      exact ⟨_, _, _, _, rfl, HOH.out, HOK.out, HIN.out, HBW.out⟩
end Go.Proofs.Ytlbhnkbchiklnaa
