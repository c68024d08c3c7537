import Derived.Test.YtcdcmbehnccicaaBuU
import Derived.Test.YtcdcmbehnccicaaKeysSeqZ
import Derived.Test.YtcdcmbehnccicaaSortLay
/- What reach.Keys computes: a list of just the keys that one comes to. -/
namespace Go.Proofs.Ytcdcmbehnccicaa
open Go Go.RowKit Go.Shelf
open Go.Maps (Keyed)
set_option linter.unusedVariables false
set_option linter.unusedSimpArgs false
abbrev encK (k : KeyV) : List Value := [.int .i64 k.perm, .int .i64 k.base, .int .i64 k.len, .int .i64 k.at_, .int .i64 k.seal_]
theorem flat_cls (ss : List KeyV) (t : Nat) (ht : t < ss.length * 5) : (cls ss)[t]? = some ((Sort.flatK encK 5 ss.toArray)[t]!) := by
  rw [Sort.get_flatK encK 5 ss.toArray t (by simpa using ht)]
  have h1 : t / 5 < ss.length := by omega
  have h2 : t % 5 < 5 := Nat.mod_lt _ (by decide)
  have h3 := cls_at ss (t / 5) h1 (t % 5) h2
  rw [show t / 5 * El.k KeyV + t % 5 = t from by show t / 5 * 5 + t % 5 = t; omega] at h3
  rw [h3]
  have h4 : ss.toArray[t / 5]! = ss[t / 5] := by simp [h1]
  rw [h4]
  show (encK ss[t / 5])[t % 5]? = some ((encK ss[t / 5])[t % 5]!)
  rw [List.getElem?_eq_getElem (by simpa using h2), getElem!_pos _ _ (by simpa using h2)]
theorem holds_of_own {w : World} {base blk cap : Nat} {ss : List KeyV} (h : Own w base 23 (.slice (some ⟨blk, 0, none⟩) ss.length cap) ss) (hn : 0 < ss.length) : Sort.HoldsK encK 5 w blk 0 ss.toArray ∧ blk < w.heap.size := by
  obtain ⟨g, c, e, h1, h2, h3, h4⟩ := h.some hn
  injection e with e
  injection e with e
  injection e with e
  subst e
  refine ⟨fun j hj => ?_, h2⟩
  obtain ⟨a, ea, hb, hc⟩ := h3.row hn
  injection ea with ea
  subst ea
  have hj' : j < ss.length * 5 := by simpa using hj
  have := hc j _ (flat_cls ss j hj')
  have e2 : ((⟨blk, 0, none⟩ : Addr).add j) = ⟨blk, 0 + j, none⟩ := by unfold Addr.add; simp; try (intro h; exact h.symm)
  rw [e2] at this
  exact ⟨by rw [this]; rfl, h4 _⟩
theorem sl_of_holds {w : World} {blk : Nat} {ss : List KeyV} (h : Sort.HoldsK encK 5 w blk 0 ss.toArray) (hb : blk < w.heap.size) (hm : ss.length ≤ 100000) : Sl w (some ⟨blk, 0, none⟩) ss.length ss := by
  refine ⟨rfl, by unfold maxLen; omega, fun hn => ⟨_, rfl, hb, fun j u hu => ?_⟩⟩
  have hj : j < ss.length * 5 := by
    have := (List.getElem?_eq_some_iff.1 hu).1
    rw [cls_length] at this
    exact this
  have e2 : ((⟨blk, 0, none⟩ : Addr).add j) = ⟨blk, 0 + j, none⟩ := by unfold Addr.add; simp; try (intro h; exact h.symm)
  rw [e2, (h j (by simpa using hj)).1]
  rw [flat_cls ss j hj] at hu
  injection hu with hu
  rw [← hu]; rfl
theorem below_sortWorld {w0 w : World} (h : Below w0.heap.size w0 w) {blk : Nat} (hb : w0.heap.size ≤ blk) (n : Nat) (d : Array KeyV) (os : Array Obj) : Below w0.heap.size w0 (sortWorldK encK 5 w blk 0 n d os) := by
  refine ⟨h.os, h.tape, h.output, Nat.le_trans h.size (size_sortWorldK_c encK 5 w blk 0 n d os), fun k hk => ?_⟩
  have hkw : k < w.heap.size := Nat.lt_of_lt_of_le hk h.size
  refine Eq.trans ?_ (h.block k hk)
  unfold sortWorldK Sort.putRowK Sort.putRow Sort.mapBlock Sort.ahead Sort.grow
  simp only
  rw [Array.getElem?_append_left (by simpa using hkw), Array.getElem?_modify]
  rw [if_neg (by omega)]
set_option maxHeartbeats 1000000 in
theorem mapsKeys_any (b : Nat) (w : World) : Calls Try.prog 20 #[.map (some b)] w fun e w' => e = .returned (.func (.func 35) #[] #[.pointer (some ⟨w.heap.size, 0, none⟩)]) ∧ w' = w.alloc (.cells #[.map (some b)] 57) := by
  have hmf : ∀ (fn : Fn) (first cap : Array Value) (w : World), (Instr.makeFunc fn first cap).run Try.prog w = .ok (.func fn first cap) w := fun _ _ _ _ => rfl
  go_enter Try.func20, Try.ntmps20
  go_wp2
  go_ret
  exact ⟨rfl, rfl⟩
theorem keycmp_lays (blk off size : Nat) (w : World) : CmpLays Try.prog 21 #[] encK 5 cmpK blk off size w := fun _ _ _ _ x y => keycmp_any x y _
set_option maxHeartbeats 2000000 in
set_option maxRecDepth 100000 in
theorem sortFunc_any (blk cap : Nat) (ss : List KeyV) (w : World) {base : Nat} (h : Own w base 23 (.slice (some ⟨blk, 0, none⟩) ss.length cap) ss) (hn : 0 < ss.length) (hm : ss.length ≤ 100000) {w0 : World} (hw0 : Below w0.heap.size w0 w) (hb0 : w0.heap.size ≤ blk) :
    Calls Try.prog 34 #[.slice (some ⟨blk, 0, none⟩) ss.length cap, .func (.func 21) #[] #[]] w fun e w' => e = .returned (.tuple #[]) ∧ ∃ ts : List KeyV, ts.Perm ss ∧ Sl w' (some ⟨blk, 0, none⟩) ss.length ts ∧ Below w0.heap.size w0 w' := by
  obtain ⟨hH, hblk⟩ := holds_of_own h hn
  have eg : ∀ args w, (callFunc 21 args).run Try.prog w = .ok (.enter 21 args) w := enters_of Try.func21 (by kernel_rfl) rfl
  have hcon := AnyQ.slices_SortFunc Try.sortK 5 Try.isAgg23 Try.sizeOf23 encK (fun _ => rfl) (fun x v hv => El.one x v hv) cmpK swoK 21 #[] blk 0 cap ss.toArray w eg (keycmp_lays blk 0 ss.toArray.size w) hH hblk (by simp; omega)
  change Calls Try.prog 34 _ _ _ at hcon
  refine hcon.mono ?_
  rintro e w' ⟨rfl, d', n, os, hp, _, rfl⟩
  have hsz : d'.size = ss.length := by have := hp.1; simpa using this
  have hH' := holdsK_sortWorldK_c encK 5 w blk 0 ss.toArray d' n os hH hblk (by rw [hsz]; simp)
  have hperm : d'.toList.Perm ss := by
    have := hp.2.2
    rw [Array.extract_eq_self_of_le (by rw [hsz]; simp), Array.extract_eq_self_of_le (by simp)] at this
    simpa using this
  refine ⟨rfl, d'.toList, hperm, ?_, below_sortWorld hw0 hb0 n d' os⟩
  have hlt : blk < (sortWorldK encK 5 w blk 0 n d' os).heap.size := Nat.lt_of_lt_of_le hblk (size_sortWorldK_c encK 5 w blk 0 n d' os)
  have := sl_of_holds (ss := d'.toList) (by simpa using hH') hlt (by simpa [hsz] using hm)
  rwa [show d'.toList.length = ss.length by simpa using hsz] at this
set_option maxHeartbeats 2000000 in
set_option maxRecDepth 100000 in
theorem sortedFunc_any (Bm b : Nat) (S : List KeyV) (hS : ∀ x ∈ S, x.wf) (hS0 : S ≠ []) (hl : S.length ≤ 100000) (w : World) (hBm : Bm < w.heap.size) (hm : w.cell? ⟨Bm, 0, none⟩ = some (.map (some b)))
    (hown : w.ownsMap Try.prog 23 (unitElem (H := Unit)) b S.length (setD S)) :
    Calls Try.prog 19 #[.func (.func 35) #[] #[.pointer (some ⟨Bm, 0, none⟩)], .func (.func 21) #[] #[]] w fun e w' => ∃ (ao : Option Addr) (c : Nat) (ts : List KeyV), e = .returned (.slice ao ts.length c) ∧ Sl w' ao ts.length ts ∧ (∀ x, x ∈ ts ↔ x ∈ S) ∧ (ts.length ≤ S.length ∧ ts.Nodup ∧ ∀ a, ao = some a → w.heap.size ≤ a.block) ∧ Below w.heap.size w w' := by
  have hcol := callsIn_wide.1 (collect_any 3 (by decide) 35 #[.pointer (some ⟨Bm, 0, none⟩)] (enters_of Try.func35 (by kernel_rfl) rfl) _ S.length hl w (keysIter_gives 1 (by decide) Bm b S hS w hBm hm hown))
  have HC := Lib.hid hcol
  clear hcol hown hm
  go_enter Try.func19, Try.ntmps19
  go_upto_region 2 with (go_at_call 33; ((with_reducible refine HC.out.mono ?_); rintro e w1 ⟨v, ss, rfl, ⟨hin, hlen, hnd⟩, how, hb⟩))
  have hss : 0 < ss.length := by
    obtain ⟨x, hx⟩ := List.exists_mem_of_ne_nil S hS0
    exact List.length_pos_of_mem ((hin x).2 hx)
  obtain ⟨g, cap, rfl, hg, hlt, hsl, _⟩ := how.some hss
  have hso := sortFunc_any g cap ss w1 how hss (by omega) hb hg
  have HS := Lib.hid hso
  have HIN := Lib.hid hin
  clear hso how hsl hin
  go_wp2_with (go_at_call 34; ((with_reducible refine HS.out.mono ?_); rintro e w2 ⟨rfl, ts, hp, hsl, hb2⟩))
  go_ret
  have hle := hp.length_eq
  exact ⟨some ⟨g, 0, none⟩, cap, ts, by rw [hle]; rfl, by rw [hle]; exact hsl, fun x => (hp.mem_iff).trans (HIN.out x), ⟨by omega, hp.nodup_iff.2 hnd, fun a e => by injection e with e; rw [← e]; exact hg⟩, hb2⟩
/-- A list of just the keys that one comes to. -/
def KeysPost (W : World) (P : KeyV → Prop) (e : Ending) (w' : World) : Prop := ∃ (ao : Option Addr) (c : Nat) (ts : List KeyV), e = .returned (.tuple #[.slice ao ts.length c, .int .i64 0]) ∧ Sl w' ao ts.length ts ∧ (∀ x, x ∈ ts ↔ P x) ∧ (∀ x ∈ ts, x.Ok) ∧ (ts.length ≤ 500 ∧ ts.Nodup ∧ ∀ a, ao = some a → W.heap.size ≤ a.block) ∧ Below W.heap.size W w'
set_option maxHeartbeats 4000000 in
set_option maxRecDepth 100000 in
theorem keys_bad {R : List ValV} {c : KeyV} {mem : List ValV} {stk : List FrameV} {out : List Int} {cs : Array Value} {W : World} (h : MRow R c mem stk out cs W) (d : Bool) (hc : stepCheck R c mem stk out ≠ 0) :
    Calls Try.prog 10 #[.agg cs, .bool d] W fun e w' => e = .returned (.tuple #[.slice none 0 0, .int .i64 (stepCheck R c mem stk out)]) ∧ Below W.heap.size W w' := by
  have hb := h.arg
  obtain ⟨w1, hw1⟩ : ∃ w1, w1 = W.alloc (.cells cs 31) := ⟨_, rfl⟩
  have h1w : Below W.heap.size W w1 := by rw [hw1]; exact ext_alloc (Below.refl _ _) _
  rw [← hw1] at hb
  have hck := sought_bad hb.toRow d hc
  have g1 : (stepCheck R c mem stk out == 0) = false := by simpa using hc
  have g2 : (stepCheck R c mem stk out != 0) = true := by simpa using hc
  generalize stepCheck R c mem stk out = ec at *
  have CK := Lib.hid hck
  have MX := Lib.hid hb
  have HW1 := Lib.hid hw1
  have H1W := Lib.hid h1w
  clear h hck hb hw1 h1w hc
  go_enter Try.func10, Try.ntmps10
  go_upto_region 1 with (fail)
  rw [← HW1.out]
  go_wp2_with (first
    | (refine wpList_load_sub rfl 31 (.tmp 2) rfl W.heap.size 0 64 rfl 31 _ _ MX.out.bk Try.underlying31 rfl (by kernel_rfl) MX.out.size _ MX.out.all ?_)
    | (go_at_call 18; ((with_reducible refine CK.out.mono ?_); rintro e u1 ⟨rfl, hb⟩; have HB1 := Lib.hid hb; clear hb)))
  go_ret2
  exact ⟨rfl, ext_trans H1W.out HB1.out⟩
set_option maxHeartbeats 4000000 in
set_option maxRecDepth 100000 in
theorem keys_any {R : List ValV} {c : KeyV} {mem : List ValV} {stk : List FrameV} {out : List Int} {cs : Array Value} {W : World} (h : MRow R c mem stk out cs W) (d : Bool) (hok : MOk R c mem stk out) :
    Calls Try.prog 10 #[.agg cs, .bool d] W (KeysPost W (Rch d mem (rootsP d R c stk))) := by
  have hb := h.arg
  obtain ⟨w1, hw1⟩ : ∃ w1, w1 = W.alloc (.cells cs 31) := ⟨_, rfl⟩
  have h1w : Below W.heap.size W w1 := by rw [hw1]; exact ext_alloc (Below.refl _ _) _
  rw [← hw1] at hb
  have hso := sought_any hb.toRow d hok
  have hlen := hok.len
  have SO := Lib.hid hso
  have MX := Lib.hid hb
  have HW1 := Lib.hid hw1
  have H1W := Lib.hid h1w
  clear h hso hb hw1 h1w hok
  go_enter Try.func10, Try.ntmps10
  go_upto_region 1 with (fail)
  rw [← HW1.out]
  go_upto_region 4 with (first
    | (refine wpList_load_sub rfl 31 (.tmp 2) rfl W.heap.size 0 64 rfl 31 _ _ MX.out.bk Try.underlying31 rfl (by kernel_rfl) MX.out.size _ MX.out.all ?_)
    | (go_at_call 18; ((with_reducible refine SO.out.mono ?_); rintro e u2 ⟨gs, b, ma, mc, m, S, rfl, q1, q2, q4, q3⟩; have ST := Lib.hid q1; have SG := Lib.hid q2; have HB2 := Lib.hid q3; clear q1 q2 q3)))
  have hsz := SG.out.size
  have hc0 : c ∈ S := SG.out.all c (.inl rfl)
  have s0 := ST.out.bk.cell 0
  simp only [List.getElem?_toArray, List.getElem?_cons_zero] at s0
  obtain ⟨u3, hu3⟩ : ∃ u3, u3 = u2.alloc (.cells #[.map (some b)] 57) := ⟨_, rfl⟩
  have b23 : Below u2.heap.size u2 u3 := by rw [hu3]; exact ext_alloc (Below.refl _ _) _
  have hst := ST.out.below b23
  have k3 : Bk u3 u2.heap.size 57 #[.map (some b)] := by rw [hu3]; exact bk_new _ _ _
  have hsf := sortedFunc_any u2.heap.size b S (fun x hx => (hst.wf x hx).wf) (fun e => by rw [e] at hc0; cases hc0) (by omega) u3 k3.lt (k3.cell 0) hst.own
  have hmk := mapsKeys_any b u2
  rw [← hu3] at hmk
  have HSF := Lib.hid hsf
  have HMK := Lib.hid hmk
  have B23 := Lib.hid b23
  have WF := Lib.hid hst.wf
  clear hst k3 hsf hmk b23 hu3 hc0
  go_wp2_with (first
    | (go_at_call 20; ((with_reducible refine HMK.out.mono ?_); rintro e w' ⟨rfl, rfl⟩))
    | (go_at_call 19; ((with_reducible refine HSF.out.mono ?_); rintro e u4 ⟨ao, cap, ts, rfl, hsl, hin, ⟨hle, hnd, hap⟩, hb⟩; have HSL := Lib.hid hsl; have HIN := Lib.hid hin; have HB4 := Lib.hid hb; clear hsl hin hb)))
  go_ret2
  exact ⟨ao, cap, ts, rfl, HSL.out, fun x => (HIN.out x).trans (SG.out.mem_iff x), fun x hx => WF.out x ((HIN.out x).1 hx), ⟨by omega, hnd, fun a e => by have h1 := hap a e; have h2 := H1W.out.size; have h3 := HB2.out.size; have h4 := B23.out.size; omega⟩, ext_trans (ext_trans (ext_trans H1W.out HB2.out) B23.out) HB4.out⟩
end Go.Proofs.Ytcdcmbehnccicaa
