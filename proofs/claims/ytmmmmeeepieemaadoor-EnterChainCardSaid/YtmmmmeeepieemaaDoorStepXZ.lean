import Derived.Test.YtmmmmeeepieemaaDoorBuN
/- What step.Step computes. -/
namespace Go.Proofs.YtmmmmeeepieemaaDoor
open Go.RowKit
set_option linter.unusedVariables false
set_option linter.unusedSimpArgs false
/-- No error is nought. -/
def NZ {α : Type} (x : Ex α) : Prop := ∀ k, x = .error k → k ≠ 0
theorem NZ.ok {α : Type} (a : α) : NZ (.ok a : Ex α) := fun k h => by cases h
theorem NZ.err {α : Type} {k : Int} (h : k ≠ 0) : NZ (.error k : Ex α) := fun j e => by injection e with e; rw [← e]; exact h
theorem NZ.bind {α β : Type} {x : Ex α} {f : α → Ex β} (h : NZ x) (hf : ∀ a, NZ (f a)) : NZ (x >>= f) := by
  cases x with
  | error k =>
    have hk := h k rfl
    intro j e
    rw [eb1] at e
    injection e with e
    rw [← e]
    exact hk
  | ok a => exact hf a
theorem NZ.ite {α : Type} {p : Prop} [Decidable p] {x y : Ex α} (h : NZ x) (k : NZ y) : NZ (if p then x else y) := by split; exact h; exact k
theorem NZ.num (m : MV) (r : Int) : NZ (m.num r) := by unfold MV.num; exact NZ.ite (NZ.err (by decide)) (NZ.ok _)
theorem NZ.key (m : MV) (r : Int) : NZ (m.key r) := by unfold MV.key; exact NZ.ite (NZ.ok _) (NZ.err (by decide))
theorem NZ.res {α : Type} (q : α × Int) : NZ (resE q) := by
  rcases res_cases q with ⟨_, e⟩ | ⟨h, e⟩ <;> rw [e]
  · exact NZ.ok _
  · exact NZ.err h
theorem NZ.goes (m : MV) (n : Int) : NZ (m.goes n) := by unfold MV.goes; exact NZ.ite (NZ.err (by decide)) (NZ.ok _)
theorem NZ.exec (m : MV) (i : InstV) : NZ (m.exec i) := by
  unfold MV.exec
  refine NZ.ite (NZ.err (by decide)) (NZ.ite (NZ.goes _ _) (NZ.ite (NZ.bind (NZ.num _ _) fun n => NZ.goes _ _) (NZ.ite ?_ (NZ.ite ?_ (NZ.bind ?_ fun _ => NZ.ok _)))))
  · unfold MV.call
    exact NZ.bind (NZ.key _ _) fun a => NZ.bind (NZ.key _ _) fun b => NZ.ite (NZ.err (by decide)) (NZ.ite (NZ.err (by decide)) (NZ.ite (NZ.err (by decide)) (NZ.ok _)))
  · unfold MV.back
    split
    · exact NZ.err (by decide)
    · exact NZ.ok _
  · unfold MV.plain
    refine NZ.ite (NZ.ok _) (NZ.ite (NZ.ok _) (NZ.ite ?_ (NZ.ite ?_ (NZ.ite (NZ.ok _) (NZ.ite (NZ.ok _) (NZ.ite ?_ ?_))))))
    · unfold MV.numbers
      refine NZ.bind (NZ.num _ _) fun b => NZ.bind (NZ.num _ _) fun c => NZ.bind ?_ fun _ => NZ.ok _
      unfold opN divE
      exact NZ.ite (NZ.ok _) (NZ.ite (NZ.ok _) (NZ.ite (NZ.ok _) (NZ.ite (NZ.ok _) (NZ.ite (NZ.err (by decide)) (NZ.ok _)))))
    · unfold MV.ask
      exact NZ.ite (NZ.ok _) (NZ.bind (NZ.key _ _) fun _ => NZ.ok _)
    · unfold MV.tell
      exact NZ.bind (NZ.num _ _) fun _ => NZ.ite (NZ.err (by decide)) (NZ.ok _)
    · unfold MV.byKey
      refine NZ.bind (NZ.key _ _) fun k => NZ.ite (NZ.bind (NZ.res _) fun _ => NZ.ok _) (NZ.ite ?_ (NZ.ite (NZ.bind (NZ.num _ _) fun _ => NZ.bind (NZ.res _) fun _ => NZ.ok _) (NZ.ite (NZ.bind (NZ.num _ _) fun _ => NZ.bind (NZ.res _) fun _ => NZ.ok _)
        (NZ.ite (NZ.bind (NZ.res _) fun _ => NZ.ok _) (NZ.ite (NZ.bind (NZ.key _ _) fun _ => NZ.bind (NZ.res _) fun _ => NZ.ok _) (NZ.bind (NZ.key _ _) fun _ => NZ.bind (NZ.res _) fun _ => NZ.ok _))))))
      intro j
      split
      · rename_i h; exact fun e => by injection e with e; rw [← e]; exact h
      · exact fun e => by cases e
theorem NZ.fetch (m : MV) : NZ m.fetch := by
  unfold MV.fetch
  intro j
  simp only
  split
  · rename_i h; exact fun e => by injection e with e; rw [← e]; exact h
  · exact NZ.ite (NZ.err (by decide)) (NZ.ite (NZ.ok _) (NZ.err (by decide))) j
theorem err_zero {m : MV} : m.err = 0 ↔ ∃ m', m.one = .ok m' := by
  unfold MV.err
  have h : NZ m.one := by unfold MV.one; exact NZ.bind (NZ.fetch m) fun i => NZ.exec m i
  cases e : m.one with
  | error k => simp [h k e]
  | ok m' => simp
def zeroMV : MV := ⟨zeroR, zeroK, [], [], []⟩
def MV.check (m : MV) : Int := stepCheck m.R m.c m.mem m.stk m.out
/-- What Step answers: a machine, and an error. -/
def stepF (m : MV) : MV × Int := if m.check ≠ 0 then (zeroMV, m.check) else if m.err ≠ 0 then (zeroMV, m.err) else (m.after, 0)
def StRes (w : World) (m : MV) (er : Int) (e : Ending) (w' : World) : Prop :=
  ∃ vm vs vo, e = .returned (.tuple #[.agg (mcs m.R m.c vm vs vo), .int .i64 er]) ∧ Own w' w.heap.size 32 vm m.mem ∧ Own w' w.heap.size 88 vs m.stk ∧ Own w' w.heap.size 3 vo m.out ∧ Below w.heap.size w w'
theorem results_row2 {P : Program} {fn : Func} {p q : Tmp} {ty : TypeId} (h : fn.results = #[.cell p ty, .tmp q]) (tmps : Array Value) (w : World) (g : Nat) (t : TypeId) (cs : Array Value) (fr : Nat × Nat) (d : TypeDesc)
    (hp : tmps.getD p undef = .pointer (some ⟨g, 0, none⟩)) (hg : w.heap[g]? = some (.cells cs t fr))
    (hu : P.underlying ty = some d) (hd : (match d with | .struct _ | .array _ _ => true | _ => false) = true) (hi : (P.info? ty).map (·.size) = some cs.size) :
    (results fn tmps).run P w = .ok (.tuple #[.agg cs, tmps.getD q undef]) w := by
  have hp' : tmps[p]?.getD undef = .pointer (some ⟨g, 0, none⟩) := by simpa using hp
  simp [results, h, hp', asAddr, run_loadVar_row w g t ty cs fr d hg hu hd hi]
set_option maxHeartbeats 4000000 in
set_option maxRecDepth 100000 in
theorem step_bad (m : MV) (ma sa oa : Option Addr) (mc sc oc : Nat) (w : World) (h8 : m.R.length = 8)
    (hm : Sl w ma m.mem.length m.mem) (hs : Sl w sa m.stk.length m.stk) (ho : Sl w oa m.out.length m.out) (hc : m.check ≠ 0) : Calls Tryd.prog 14 #[.agg (mcs m.R m.c (.slice ma m.mem.length mc) (.slice sa m.stk.length sc) (.slice oa m.out.length oc))] w (StRes w zeroMV m.check) := by
  have hsz := mcs_size (c := m.c) (ms := .slice ma m.mem.length mc) (ss := .slice sa m.stk.length sc) (os := .slice oa m.out.length oc) h8
  have sck := scheck_any m.R m.c m.mem m.stk m.out ma sa oa mc sc oc
  have cpd := copied_any m.R m.c m.mem m.stk m.out ma sa oa mc sc oc
  obtain ⟨cs, hcs⟩ : ∃ cs, cs = mcs m.R m.c (.slice ma m.mem.length mc) (.slice sa m.stk.length sc) (.slice oa m.out.length oc) := ⟨_, rfl⟩
  rw [← hcs] at hsz sck cpd ⊢
  have hex : cs.extract 0 (0 + 64) = cs := by rw [Array.extract_eq_self_of_le (by rw [hsz]; omega)]
  obtain ⟨w1, hw1⟩ : ∃ w1, w1 = (w.alloc (.cells cs 38)).alloc (.cells #[.bool false, .int .i64 0, .int .i64 0, .int .i64 0, .int .i64 0, .int .i64 0, .int .i64 0, .bool false, .int .i64 0, .int .i64 0, .int .i64 0, .int .i64 0, .int .i64 0, .int .i64 0, .bool false, .int .i64 0, .int .i64 0, .int .i64 0, .int .i64 0, .int .i64 0, .int .i64 0, .bool false, .int .i64 0, .int .i64 0, .int .i64 0, .int .i64 0, .int .i64 0, .int .i64 0, .bool false, .int .i64 0, .int .i64 0, .int .i64 0, .int .i64 0, .int .i64 0, .int .i64 0, .bool false, .int .i64 0, .int .i64 0, .int .i64 0, .int .i64 0, .int .i64 0, .int .i64 0, .bool false, .int .i64 0, .int .i64 0, .int .i64 0, .int .i64 0, .int .i64 0, .int .i64 0, .bool false, .int .i64 0, .int .i64 0, .int .i64 0, .int .i64 0, .int .i64 0, .int .i64 0, .int .i64 0, .int .i64 0, .int .i64 0, .int .i64 0, .int .i64 0, .slice none 0 0, .slice none 0 0, .slice none 0 0] 38) := ⟨_, rfl⟩
  have hB : Bk w1 w.heap.size 38 cs := by rw [hw1]; exact bk_old _ (bk_new _ _ _)
  have hB2 : Bk w1 (w.heap.size + 1) 38 zmc := by rw [hw1]; exact bk_new' _ _ (by simp)
  have h1w : Below w.heap.size w w1 := by rw [hw1]; exact ext_alloc (ext_alloc (Below.refl _ _) _) _
  have sc1 := sck w1 h8 (hm.below h1w) (hs.below h1w) (ho.below h1w)
  unfold MV.check at hc ⊢
  generalize stepCheck m.R m.c m.mem m.stk m.out = ec at *
  have g1 : (ec == 0) = false := by simpa using hc
  have g2 : (ec != 0) = true := by simpa using hc
  have SC := Lib.hid sc1
  have HW1 := Lib.hid hw1
  have HSZ := Lib.hid hsz
  have HEX := Lib.hid hex
  have HB := Lib.hid hB
  have HB2 := Lib.hid hB2
  have H1W := Lib.hid h1w
  clear hsz hex hB hB2 h1w hw1 hm hs ho h8 sck cpd sc1 hcs hc
  go_enter Tryd.func14, Tryd.ntmps14
  go_upto_region 1 with (fail)
  rw [← HW1.out]
  go_wp2_with (first
    | (refine wpList_load_sub rfl 38 (.tmp 1) rfl w.heap.size 0 64 rfl 38 _ _ HB.out Tryd.underlying38 rfl (by kernel_rfl) (by have := HSZ.out; omega) _ HEX.out ?_)
    | (go_at_call 12; ((with_reducible refine SC.out.mono ?_); rintro e w' ⟨rfl, hb⟩; obtain ⟨y1, rfl⟩ := later_call (Below.refl _ _) hb; clear hb))
    | (refine wpList_store_rowTo rfl 38 (.tmp 2) (.tmp 10) rfl rfl (w.heap.size + 1) zmc rfl (by first | rfl | kernel_rfl) 38 _ (y1.bk HB2.out) (by kernel_rfl) (by kernel_rfl) (by kernel_rfl) ?_))
  refine bodyPost_ret (results_row2 (g := w.heap.size + 1) (t := 38) (cs := zmc) (fr := (0, 0)) rfl _ _ _ rfl (bk_setRow (y1.bk HB2.out) _) Tryd.underlying38 rfl (by kernel_rfl)) rfl ?_
  exact ⟨_, _, _, by rw [show mcs zeroMV.R zeroMV.c _ _ _ = zmc from zmc_eq]; rfl, Own.nil _ _ _, Own.nil _ _ _, Own.nil _ _ _, ext_setRow (ext_trans H1W.out y1.ok) (by omega) _⟩
set_option maxHeartbeats 4000000 in
set_option maxRecDepth 100000 in
theorem step_good (m : MV) (ma sa oa : Option Addr) (mc sc oc : Nat) (w : World) (h8 : m.R.length = 8)
    (hm : Sl w ma m.mem.length m.mem) (hs : Sl w sa m.stk.length m.stk) (ho : Sl w oa m.out.length m.out) (hok : m.Ok) (ht : Tab w) (her : m.err = 0) : Calls Tryd.prog 14 #[.agg (mcs m.R m.c (.slice ma m.mem.length mc) (.slice sa m.stk.length sc) (.slice oa m.out.length oc))] w (StRes w m.after 0) := by
  have hsz := mcs_size (c := m.c) (ms := .slice ma m.mem.length mc) (ss := .slice sa m.stk.length sc) (os := .slice oa m.out.length oc) h8
  have sck := scheck_any m.R m.c m.mem m.stk m.out ma sa oa mc sc oc
  have cpd := copied_any m.R m.c m.mem m.stk m.out ma sa oa mc sc oc
  obtain ⟨cs, hcs⟩ : ∃ cs, cs = mcs m.R m.c (.slice ma m.mem.length mc) (.slice sa m.stk.length sc) (.slice oa m.out.length oc) := ⟨_, rfl⟩
  rw [← hcs] at hsz sck cpd ⊢
  have hex : cs.extract 0 (0 + 64) = cs := by rw [Array.extract_eq_self_of_le (by rw [hsz]; omega)]
  obtain ⟨w1, hw1⟩ : ∃ w1, w1 = (w.alloc (.cells cs 38)).alloc (.cells #[.bool false, .int .i64 0, .int .i64 0, .int .i64 0, .int .i64 0, .int .i64 0, .int .i64 0, .bool false, .int .i64 0, .int .i64 0, .int .i64 0, .int .i64 0, .int .i64 0, .int .i64 0, .bool false, .int .i64 0, .int .i64 0, .int .i64 0, .int .i64 0, .int .i64 0, .int .i64 0, .bool false, .int .i64 0, .int .i64 0, .int .i64 0, .int .i64 0, .int .i64 0, .int .i64 0, .bool false, .int .i64 0, .int .i64 0, .int .i64 0, .int .i64 0, .int .i64 0, .int .i64 0, .bool false, .int .i64 0, .int .i64 0, .int .i64 0, .int .i64 0, .int .i64 0, .int .i64 0, .bool false, .int .i64 0, .int .i64 0, .int .i64 0, .int .i64 0, .int .i64 0, .int .i64 0, .bool false, .int .i64 0, .int .i64 0, .int .i64 0, .int .i64 0, .int .i64 0, .int .i64 0, .int .i64 0, .int .i64 0, .int .i64 0, .int .i64 0, .int .i64 0, .slice none 0 0, .slice none 0 0, .slice none 0 0] 38) := ⟨_, rfl⟩
  have hB : Bk w1 w.heap.size 38 cs := by rw [hw1]; exact bk_old _ (bk_new _ _ _)
  have hB2 : Bk w1 (w.heap.size + 1) 38 zmc := by rw [hw1]; exact bk_new' _ _ (by simp)
  have h1w : Below w.heap.size w w1 := by rw [hw1]; exact ext_alloc (ext_alloc (Below.refl _ _) _) _
  have sc1 := sck w1 h8 (hm.below h1w) (hs.below h1w) (ho.below h1w)
  have l400 := hok.1.len
  have l16 := hok.1.deep
  have l100 := hok.1.told
  have hc : stepCheck m.R m.c m.mem m.stk m.out = 0 := stepCheck_zero.2 hok.1
  rw [hc] at sc1
  have cp := fun y : Later w1 => cpd y.val h8 ((hm.below h1w).below y.ok) ((hs.below h1w).below y.ok) ((ho.below h1w).below y.ok) (by omega) (by omega) (by omega)
  unfold MPost at cp
  have SC := Lib.hid sc1
  have CP := Lib.hid cp
  have HW1 := Lib.hid hw1
  have HSZ := Lib.hid hsz
  have HEX := Lib.hid hex
  have HB := Lib.hid hB
  have HB2 := Lib.hid hB2
  have H1W := Lib.hid h1w
  have HER := Lib.hid her
  have HOK := Lib.hid hok
  have HT := Lib.hid ht
  have H8 := Lib.hid h8
  have hz1 : w1.heap.size = w.heap.size + 2 := by rw [hw1]; simp
  clear hsz hex hB hB2 h1w hw1 hm hs ho h8 sck cpd sc1 cp hcs hc hok ht her
  obtain ⟨m', hm'⟩ : ∃ m', m' = m.after := ⟨_, rfl⟩
  rw [← hm']
  go_enter Tryd.func14, Tryd.ntmps14
  go_upto_region 1 with (fail)
  rw [← HW1.out]
  go_upto_region 5 with (first
    | (refine wpList_load_sub rfl 38 (.tmp 1) rfl w.heap.size 0 64 rfl 38 _ _ HB.out Tryd.underlying38 rfl (by kernel_rfl) (by have := HSZ.out; omega) _ HEX.out ?_)
    | (refine wpList_load_sub rfl 38 (.tmp 1) rfl w.heap.size 0 64 rfl 38 _ _ (y1.bk HB.out) Tryd.underlying38 rfl (by kernel_rfl) (by have := HSZ.out; omega) _ HEX.out ?_)
    | (go_at_call 12; ((with_reducible refine SC.out.mono ?_); rintro e w' ⟨rfl, hb⟩; obtain ⟨y1, rfl⟩ := later_call (Below.refl _ _) hb; clear hb))
    | (go_at_call 28; ((with_reducible refine (CP.out y1).mono ?_); rintro e w2 ⟨vm, vs, vo, rfl, om, os, oo, hb2⟩; obtain ⟨mma, mmc, rfl, _, _⟩ := om.sl; obtain ⟨ssa, ssc, rfl, _, _⟩ := os.sl; obtain ⟨ooa, ooc, rfl, _, _⟩ := oo.sl; have OM := Lib.hid om; have OS := Lib.hid os; have OO := Lib.hid oo; have HB22 := Lib.hid hb2; have HSZ2 := Lib.hid (mcs_size (c := m.c) (ms := .slice mma m.mem.length mmc) (ss := .slice ssa m.stk.length ssc) (os := .slice ooa m.out.length ooc) H8.out); have HONE := Lib.hid (mcs_one (R := m.R) (c := m.c) (ownsOne om) (ownsOne os) (ownsOne oo)); clear om os oo hb2))
    | (refine wpList_store_rowTo rfl 38 (.tmp 1) (.tmp 13) rfl rfl w.heap.size (mcs m.R m.c (.slice mma m.mem.length mmc) (.slice ssa m.stk.length ssc) (.slice ooa m.out.length ooc)) rfl rfl 38 _ (bk_keep HB22.out (y1.bk HB.out)) (by rw [HSZ2.out]; kernel_rfl) (by rw [HSZ2.out, HSZ.out]) HONE.out ?_))
  obtain ⟨base, hbase⟩ : ∃ base, base = y1.val.heap.size := ⟨_, rfl⟩
  obtain ⟨W0, hW0⟩ : ∃ W0, W0 = w2.setRow w.heap.size (mcs m.R m.c (.slice mma m.mem.length mmc) (.slice ssa m.stk.length ssc) (.slice ooa m.out.length ooc)) := ⟨_, rfl⟩
  have hwl : w.heap.size + 2 ≤ y1.val.heap.size := by rw [← hz1]; exact y1.ok.size
  have hy2 : y1.val.heap.size ≤ w2.heap.size := HB22.out.size
  have k1 := bk_keep HB22.out (y1.bk HB.out)
  have hsz0 : W0.heap.size = w2.heap.size := by rw [hW0]; simp
  have hm0 : MS base w.heap.size (.slice mma m.mem.length mmc) (.slice ssa m.stk.length ssc) (.slice ooa m.out.length ooc) m W0 := by
    rw [hW0, hbase]
    exact ⟨H8.out, bk_setRow k1 _, own_setRow OM.out k1 (by decide) _, own_setRow OS.out k1 (by decide) _, own_setRow OO.out k1 (by decide) _⟩
  have h0w : Below w.heap.size w W0 := by rw [hW0]; exact ext_setRow (ext_trans (ext_trans H1W.out y1.ok) HB22.out) (Nat.le_refl _) _
  have r0 : Bk W0 (w.heap.size + 1) 38 zmc := by rw [hW0]; exact (setRow_other _ _ _ _ (by omega)).trans (bk_keep HB22.out (y1.bk HB2.out))
  have on := one_any hm0 HOK.out (HT.out.below h0w) (by omega)
  unfold OnePost at on
  have hfr : ∀ W1, Fr (mS w.heap.size (.slice mma m.mem.length mmc) (.slice ssa m.stk.length ssc) (.slice ooa m.out.length ooc)) W0 W1 → Bk W1 (w.heap.size + 1) 38 zmc := fun W1 hf => hf.bk r0 (fun h => by
    rcases h with h | h | h | h
    · omega
    · have := (own_lt hm0.om h).1; omega
    · have := (own_lt hm0.os h).1; omega
    · have := (own_lt hm0.oo h).1; omega)
  have hfb : ∀ W1, Fr (mS w.heap.size (.slice mma m.mem.length mmc) (.slice ssa m.stk.length ssc) (.slice ooa m.out.length ooc)) W0 W1 → Below w.heap.size w W1 := fun W1 hf => hf.below h0w (fun k h => by
    rcases h with h | h | h | h
    · omega
    · have := (own_lt hm0.om h).1; omega
    · have := (own_lt hm0.os h).1; omega
    · have := (own_lt hm0.oo h).1; omega)
  rw [HER.out] at on
  rw [← hm'] at on
  have HR8 := Lib.hid (show m'.R.length = 8 by obtain ⟨m1, hm1⟩ := err_zero.1 HER.out; rw [hm']; unfold MV.after; rw [hm1]; exact (one_ok HOK.out hm1).2)
  have ON := Lib.hid on
  have HFR := Lib.hid hfr
  have HFB := Lib.hid hfb
  have hbw : w.heap.size ≤ base := by omega
  rw [← hW0]
  clear hm'
  clear hW0 k1 hm0 h0w r0 on hfr hfb OM OS OO HB22 HSZ2 HONE hsz0 hy2
  go_wp2_with (first
    | (go_at_call 34; ((with_reducible refine ON.out.mono ?_); rintro e w4 ⟨rfl, vs', vo', hm4, hf4, hn1, hn2⟩; have R4 := Lib.hid (HFR.out _ hf4); have HM4 := Lib.hid hm4; have HF4 := Lib.hid (HFB.out _ hf4); have HSX := Lib.hid (mcs_size (c := m'.c) (ms := .slice mma m.mem.length mmc) (ss := vs') (os := vo') HR8.out); have HEXX := Lib.hid (show (mcs m'.R m'.c (.slice mma m.mem.length mmc) vs' vo').extract 0 (0 + 64) = mcs m'.R m'.c (.slice mma m.mem.length mmc) vs' vo' by rw [Array.extract_eq_self_of_le (by rw [HSX.out]; omega)]); have HONX := Lib.hid (mcs_one (R := m'.R) (c := m'.c) (ownsOne hm4.om) (ownsOne hm4.os) (ownsOne hm4.oo)); clear hm4 hf4 hn1 hn2))
    | (refine wpList_load_sub rfl 38 (.tmp 1) rfl w.heap.size 0 64 rfl 38 _ _ HM4.out.mB Tryd.underlying38 rfl (by kernel_rfl) (by rw [HSX.out]; omega) _ HEXX.out ?_)
    | (refine wpList_store_rowTo rfl 38 (.tmp 2) (.tmp 19) rfl rfl (w.heap.size + 1) (mcs m'.R m'.c (.slice mma m.mem.length mmc) vs' vo') rfl rfl 38 _ R4.out (by rw [HSX.out]; kernel_rfl) (by rw [HSX.out]; kernel_rfl) HONX.out ?_))
  refine bodyPost_ret (results_row2 (g := w.heap.size + 1) (t := 38) (cs := mcs m'.R m'.c (.slice mma m.mem.length mmc) vs' vo') (fr := (0, 0)) rfl _ _ _ rfl (bk_setRow R4.out _) Tryd.underlying38 rfl (by rw [HSX.out]; kernel_rfl)) rfl ?_
  exact ⟨_, _, _, rfl, Own.mono (own_setRow HM4.out.om R4.out (by decide) _) hbw, Own.mono (own_setRow HM4.out.os R4.out (by decide) _) hbw, Own.mono (own_setRow HM4.out.oo R4.out (by decide) _) hbw, ext_setRow HF4.out (by omega) _⟩
set_option maxHeartbeats 4000000 in
set_option maxRecDepth 100000 in
theorem step_thrown (m : MV) (ma sa oa : Option Addr) (mc sc oc : Nat) (w : World) (h8 : m.R.length = 8)
    (hm : Sl w ma m.mem.length m.mem) (hs : Sl w sa m.stk.length m.stk) (ho : Sl w oa m.out.length m.out) (hok : m.Ok) (ht : Tab w) (er : Int) (her : m.err = er) (g1 : (er == 0) = false) (g2 : (er != 0) = true) : Calls Tryd.prog 14 #[.agg (mcs m.R m.c (.slice ma m.mem.length mc) (.slice sa m.stk.length sc) (.slice oa m.out.length oc))] w (StRes w zeroMV er) := by
  have hsz := mcs_size (c := m.c) (ms := .slice ma m.mem.length mc) (ss := .slice sa m.stk.length sc) (os := .slice oa m.out.length oc) h8
  have sck := scheck_any m.R m.c m.mem m.stk m.out ma sa oa mc sc oc
  have cpd := copied_any m.R m.c m.mem m.stk m.out ma sa oa mc sc oc
  obtain ⟨cs, hcs⟩ : ∃ cs, cs = mcs m.R m.c (.slice ma m.mem.length mc) (.slice sa m.stk.length sc) (.slice oa m.out.length oc) := ⟨_, rfl⟩
  rw [← hcs] at hsz sck cpd ⊢
  have hex : cs.extract 0 (0 + 64) = cs := by rw [Array.extract_eq_self_of_le (by rw [hsz]; omega)]
  obtain ⟨w1, hw1⟩ : ∃ w1, w1 = (w.alloc (.cells cs 38)).alloc (.cells #[.bool false, .int .i64 0, .int .i64 0, .int .i64 0, .int .i64 0, .int .i64 0, .int .i64 0, .bool false, .int .i64 0, .int .i64 0, .int .i64 0, .int .i64 0, .int .i64 0, .int .i64 0, .bool false, .int .i64 0, .int .i64 0, .int .i64 0, .int .i64 0, .int .i64 0, .int .i64 0, .bool false, .int .i64 0, .int .i64 0, .int .i64 0, .int .i64 0, .int .i64 0, .int .i64 0, .bool false, .int .i64 0, .int .i64 0, .int .i64 0, .int .i64 0, .int .i64 0, .int .i64 0, .bool false, .int .i64 0, .int .i64 0, .int .i64 0, .int .i64 0, .int .i64 0, .int .i64 0, .bool false, .int .i64 0, .int .i64 0, .int .i64 0, .int .i64 0, .int .i64 0, .int .i64 0, .bool false, .int .i64 0, .int .i64 0, .int .i64 0, .int .i64 0, .int .i64 0, .int .i64 0, .int .i64 0, .int .i64 0, .int .i64 0, .int .i64 0, .int .i64 0, .slice none 0 0, .slice none 0 0, .slice none 0 0] 38) := ⟨_, rfl⟩
  have hB : Bk w1 w.heap.size 38 cs := by rw [hw1]; exact bk_old _ (bk_new _ _ _)
  have hB2 : Bk w1 (w.heap.size + 1) 38 zmc := by rw [hw1]; exact bk_new' _ _ (by simp)
  have h1w : Below w.heap.size w w1 := by rw [hw1]; exact ext_alloc (ext_alloc (Below.refl _ _) _) _
  have sc1 := sck w1 h8 (hm.below h1w) (hs.below h1w) (ho.below h1w)
  have l400 := hok.1.len
  have l16 := hok.1.deep
  have l100 := hok.1.told
  have hc : stepCheck m.R m.c m.mem m.stk m.out = 0 := stepCheck_zero.2 hok.1
  rw [hc] at sc1
  have cp := fun y : Later w1 => cpd y.val h8 ((hm.below h1w).below y.ok) ((hs.below h1w).below y.ok) ((ho.below h1w).below y.ok) (by omega) (by omega) (by omega)
  unfold MPost at cp
  have SC := Lib.hid sc1
  have CP := Lib.hid cp
  have HW1 := Lib.hid hw1
  have HSZ := Lib.hid hsz
  have HEX := Lib.hid hex
  have HB := Lib.hid hB
  have HB2 := Lib.hid hB2
  have H1W := Lib.hid h1w
  have HER := Lib.hid her
  have HOK := Lib.hid hok
  have HT := Lib.hid ht
  have H8 := Lib.hid h8
  have hz1 : w1.heap.size = w.heap.size + 2 := by rw [hw1]; simp
  clear hsz hex hB hB2 h1w hw1 hm hs ho h8 sck cpd sc1 cp hcs hc hok ht her
  go_enter Tryd.func14, Tryd.ntmps14
  go_upto_region 1 with (fail)
  rw [← HW1.out]
  go_upto_region 5 with (first
    | (refine wpList_load_sub rfl 38 (.tmp 1) rfl w.heap.size 0 64 rfl 38 _ _ HB.out Tryd.underlying38 rfl (by kernel_rfl) (by have := HSZ.out; omega) _ HEX.out ?_)
    | (refine wpList_load_sub rfl 38 (.tmp 1) rfl w.heap.size 0 64 rfl 38 _ _ (y1.bk HB.out) Tryd.underlying38 rfl (by kernel_rfl) (by have := HSZ.out; omega) _ HEX.out ?_)
    | (go_at_call 12; ((with_reducible refine SC.out.mono ?_); rintro e w' ⟨rfl, hb⟩; obtain ⟨y1, rfl⟩ := later_call (Below.refl _ _) hb; clear hb))
    | (go_at_call 28; ((with_reducible refine (CP.out y1).mono ?_); rintro e w2 ⟨vm, vs, vo, rfl, om, os, oo, hb2⟩; obtain ⟨mma, mmc, rfl, _, _⟩ := om.sl; obtain ⟨ssa, ssc, rfl, _, _⟩ := os.sl; obtain ⟨ooa, ooc, rfl, _, _⟩ := oo.sl; have OM := Lib.hid om; have OS := Lib.hid os; have OO := Lib.hid oo; have HB22 := Lib.hid hb2; have HSZ2 := Lib.hid (mcs_size (c := m.c) (ms := .slice mma m.mem.length mmc) (ss := .slice ssa m.stk.length ssc) (os := .slice ooa m.out.length ooc) H8.out); have HONE := Lib.hid (mcs_one (R := m.R) (c := m.c) (ownsOne om) (ownsOne os) (ownsOne oo)); clear om os oo hb2))
    | (refine wpList_store_rowTo rfl 38 (.tmp 1) (.tmp 13) rfl rfl w.heap.size (mcs m.R m.c (.slice mma m.mem.length mmc) (.slice ssa m.stk.length ssc) (.slice ooa m.out.length ooc)) rfl rfl 38 _ (bk_keep HB22.out (y1.bk HB.out)) (by rw [HSZ2.out]; kernel_rfl) (by rw [HSZ2.out, HSZ.out]) HONE.out ?_))
  obtain ⟨base, hbase⟩ : ∃ base, base = y1.val.heap.size := ⟨_, rfl⟩
  obtain ⟨W0, hW0⟩ : ∃ W0, W0 = w2.setRow w.heap.size (mcs m.R m.c (.slice mma m.mem.length mmc) (.slice ssa m.stk.length ssc) (.slice ooa m.out.length ooc)) := ⟨_, rfl⟩
  have hwl : w.heap.size + 2 ≤ y1.val.heap.size := by rw [← hz1]; exact y1.ok.size
  have hy2 : y1.val.heap.size ≤ w2.heap.size := HB22.out.size
  have k1 := bk_keep HB22.out (y1.bk HB.out)
  have hsz0 : W0.heap.size = w2.heap.size := by rw [hW0]; simp
  have hm0 : MS base w.heap.size (.slice mma m.mem.length mmc) (.slice ssa m.stk.length ssc) (.slice ooa m.out.length ooc) m W0 := by
    rw [hW0, hbase]
    exact ⟨H8.out, bk_setRow k1 _, own_setRow OM.out k1 (by decide) _, own_setRow OS.out k1 (by decide) _, own_setRow OO.out k1 (by decide) _⟩
  have h0w : Below w.heap.size w W0 := by rw [hW0]; exact ext_setRow (ext_trans (ext_trans H1W.out y1.ok) HB22.out) (Nat.le_refl _) _
  have r0 : Bk W0 (w.heap.size + 1) 38 zmc := by rw [hW0]; exact (setRow_other _ _ _ _ (by omega)).trans (bk_keep HB22.out (y1.bk HB2.out))
  have on := one_any hm0 HOK.out (HT.out.below h0w) (by omega)
  unfold OnePost at on
  have hfr : ∀ W1, Fr (mS w.heap.size (.slice mma m.mem.length mmc) (.slice ssa m.stk.length ssc) (.slice ooa m.out.length ooc)) W0 W1 → Bk W1 (w.heap.size + 1) 38 zmc := fun W1 hf => hf.bk r0 (fun h => by
    rcases h with h | h | h | h
    · omega
    · have := (own_lt hm0.om h).1; omega
    · have := (own_lt hm0.os h).1; omega
    · have := (own_lt hm0.oo h).1; omega)
  have hfb : ∀ W1, Fr (mS w.heap.size (.slice mma m.mem.length mmc) (.slice ssa m.stk.length ssc) (.slice ooa m.out.length ooc)) W0 W1 → Below w.heap.size w W1 := fun W1 hf => hf.below h0w (fun k h => by
    rcases h with h | h | h | h
    · omega
    · have := (own_lt hm0.om h).1; omega
    · have := (own_lt hm0.os h).1; omega
    · have := (own_lt hm0.oo h).1; omega)
  rw [HER.out] at on
  obtain ⟨m', hm'⟩ : ∃ m', m' = m.after := ⟨_, rfl⟩
  rw [← hm'] at on
  have ON := Lib.hid on
  have HFR := Lib.hid hfr
  have HFB := Lib.hid hfb
  have hbw : w.heap.size ≤ base := by omega
  rw [← hW0]
  clear hm'
  clear hW0 k1 hm0 h0w r0 on hfr hfb OM OS OO HB22 HSZ2 HONE hsz0 hy2
  go_wp2_with (first
    | (go_at_call 34; ((with_reducible refine ON.out.mono ?_); rintro e w4 ⟨rfl, vs', vo', hm4, hf4, hn1, hn2⟩; have R4 := Lib.hid (HFR.out _ hf4); have HF4 := Lib.hid (HFB.out _ hf4); clear hm4 hf4 hn1 hn2))
    | (refine wpList_store_rowTo rfl 38 (.tmp 2) (.tmp 17) rfl rfl (w.heap.size + 1) zmc rfl (by first | rfl | kernel_rfl) 38 _ R4.out (by kernel_rfl) (by kernel_rfl) (by kernel_rfl) ?_))
  refine bodyPost_ret (results_row2 (g := w.heap.size + 1) (t := 38) (cs := zmc) (fr := (0, 0)) rfl _ _ _ rfl (bk_setRow R4.out _) Tryd.underlying38 rfl (by kernel_rfl)) rfl ?_
  exact ⟨_, _, _, by rw [show mcs zeroMV.R zeroMV.c _ _ _ = zmc from zmc_eq]; rfl, Own.nil _ _ _, Own.nil _ _ _, Own.nil _ _ _, ext_setRow HF4.out (by omega) _⟩
theorem step_any (m : MV) (ma sa oa : Option Addr) (mc sc oc : Nat) (w : World) (h8 : m.R.length = 8)
    (hm : Sl w ma m.mem.length m.mem) (hs : Sl w sa m.stk.length m.stk) (ho : Sl w oa m.out.length m.out) (ht : Tab w) : Calls Tryd.prog 14 #[.agg (mcs m.R m.c (.slice ma m.mem.length mc) (.slice sa m.stk.length sc) (.slice oa m.out.length oc))] w (StRes w (stepF m).1 (stepF m).2) := by
  unfold stepF
  by_cases hc : m.check = 0
  · rw [if_neg (by simp [hc])]
    have hk : m.Ok := ⟨stepCheck_zero.1 hc, h8⟩
    by_cases he : m.err = 0
    · rw [if_neg (by simp [he])]
      exact step_good m ma sa oa mc sc oc w h8 hm hs ho hk ht he
    · rw [if_pos he]
      exact step_thrown m ma sa oa mc sc oc w h8 hm hs ho hk ht m.err rfl (by simpa using he) (by simpa using he)
  · rw [if_pos hc]
    exact step_bad m ma sa oa mc sc oc w h8 hm hs ho hc
end Go.Proofs.YtmmmmeeepieemaaDoor
