/- Seeking: what one comes to from a machine. -/
import Derived.Test.YtcdcmbehnccicaaReachC
import Derived.Test.YtcdcmbehnccicaaMachCheck
import Derived.Test.YtcdcmbehnccicaaLiftMach
namespace Go.Proofs.Ytcdcmbehnccicaa
open Go.RowKit
open Go.Maps (Keyed)
set_option linter.unusedVariables false
set_option linter.unusedSimpArgs false
/-- A box with a machine whose rows lie somewhere; its cells are cs. -/
structure MBR (g : Nat) (R : List ValV) (c : KeyV) (mem : List ValV) (stk : List FrameV) (out : List Int) (cs : Array Value) (W : World) : Prop where
  h8 : R.length = 8
  bk : Bk W g 31 cs
  row : ∃ ma sa oa mc sc oc, cs = mcs R c (.slice ma mem.length mc) (.slice sa stk.length sc) (.slice oa out.length oc) ∧ Sl W ma mem.length mem ∧ Sl W sa stk.length stk ∧ Sl W oa out.length out
/-- Cells of a machine whose rows lie somewhere. -/
structure MRow (R : List ValV) (c : KeyV) (mem : List ValV) (stk : List FrameV) (out : List Int) (cs : Array Value) (W : World) : Prop where
  h8 : R.length = 8
  row : ∃ ma sa oa mc sc oc, cs = mcs R c (.slice ma mem.length mc) (.slice sa stk.length sc) (.slice oa out.length oc) ∧ Sl W ma mem.length mem ∧ Sl W sa stk.length stk ∧ Sl W oa out.length out
section
variable {g : Nat} {R : List ValV} {c : KeyV} {mem : List ValV} {stk : List FrameV} {out : List Int} {cs : Array Value} {W W' : World}
theorem MBR.toRow (h : MBR g R c mem stk out cs W) : MRow R c mem stk out cs W := ⟨h.h8, h.row⟩
theorem MRow.below (h : MRow R c mem stk out cs W) (hb : Below W.heap.size W W') : MRow R c mem stk out cs W' := by
  obtain ⟨ma, sa, oa, mc, sc, oc, e, h1, h2, h3⟩ := h.row
  exact ⟨h.h8, ma, sa, oa, mc, sc, oc, e, h1.below hb, h2.below hb, h3.below hb⟩
theorem MBR.below (h : MBR g R c mem stk out cs W) (hb : Below W.heap.size W W') : MBR g R c mem stk out cs W' := by
  obtain ⟨ma, sa, oa, mc, sc, oc, e, h1, h2, h3⟩ := h.row
  exact ⟨h.h8, bk_keep hb h.bk, ma, sa, oa, mc, sc, oc, e, h1.below hb, h2.below hb, h3.below hb⟩
theorem MBR.sz (h : MBR g R c mem stk out cs W) : cs.size = 64 := by
  obtain ⟨ma, sa, oa, mc, sc, oc, e, _⟩ := h.row
  rw [e, mcs_size h.h8]
theorem MBR.size (h : MBR g R c mem stk out cs W) : 0 + 64 ≤ cs.size := by rw [h.sz]; decide
theorem MBR.size56 (h : MBR g R c mem stk out cs W) : 0 + 56 ≤ cs.size := by rw [h.sz]; decide
theorem MBR.all (h : MBR g R c mem stk out cs W) : cs.extract 0 (0 + 64) = cs := by
  rw [Array.extract_eq_self_of_le (by rw [h.sz]; decide)]
theorem MBR.regs (h : MBR g R c mem stk out cs W) : cs.extract 0 (0 + 56) = (cls R).toArray := by
  obtain ⟨ma, sa, oa, mc, sc, oc, e, _⟩ := h.row
  rw [e]; exact mcs_regs h.h8
theorem MBR.codeC (h : MBR g R c mem stk out cs W) : W.cell? ⟨g, 56, none⟩ = some (.int .i64 c.perm) ∧ W.cell? ⟨g, 57, none⟩ = some (.int .i64 c.base) ∧ W.cell? ⟨g, 58, none⟩ = some (.int .i64 c.len) ∧ W.cell? ⟨g, 59, none⟩ = some (.int .i64 c.at_) ∧ W.cell? ⟨g, 60, none⟩ = some (.int .i64 c.seal_) := by
  obtain ⟨ma, sa, oa, mc, sc, oc, e, _⟩ := h.row
  have hb := h.bk
  rw [e] at hb
  exact ⟨(hb.cell _).trans (mcs_hi h.h8 0), (hb.cell _).trans (mcs_hi h.h8 1), (hb.cell _).trans (mcs_hi h.h8 2), (hb.cell _).trans (mcs_hi h.h8 3), (hb.cell _).trans (mcs_hi h.h8 4)⟩
theorem MBR.memC (h : MBR g R c mem stk out cs W) : ∃ ao k, W.cell? ⟨g, 61, none⟩ = some (.slice ao mem.length k) ∧ Sl W ao mem.length mem := by
  obtain ⟨ma, sa, oa, mc, sc, oc, e, h1, h2, h3⟩ := h.row
  exact ⟨ma, mc, by rw [h.bk.cell, e]; exact mcs_hi h.h8 5, h1⟩
theorem MBR.stkC (h : MBR g R c mem stk out cs W) : ∃ ao k, W.cell? ⟨g, 62, none⟩ = some (.slice ao stk.length k) ∧ Sl W ao stk.length stk := by
  obtain ⟨ma, sa, oa, mc, sc, oc, e, h1, h2, h3⟩ := h.row
  exact ⟨sa, sc, by rw [h.bk.cell, e]; exact mcs_hi h.h8 6, h2⟩
theorem MRow.arg (h : MRow R c mem stk out cs W) : MBR W.heap.size R c mem stk out cs (W.alloc (.cells cs 31)) := by
  obtain ⟨ma, sa, oa, mc, sc, oc, e, h1, h2, h3⟩ := h.row
  have hb : Below W.heap.size W (W.alloc (.cells cs 31)) := ext_alloc (Below.refl _ _) _
  exact ⟨h.h8, bk_new _ _ _, ma, sa, oa, mc, sc, oc, e, h1.below hb, h2.below hb, h3.below hb⟩
theorem check_mbr (h : MRow R c mem stk out cs W) : Calls Try.prog 14 #[.agg cs] W fun e w' => e = .returned (.int .i64 (stepCheck R c mem stk out)) ∧ Below W.heap.size W w' := by
  obtain ⟨ma, sa, oa, mc, sc, oc, e, h1, h2, h3⟩ := h.row
  rw [e]
  exact scheck_any R c mem stk out ma sa oa mc sc oc W h.h8 h1 h2 h3
theorem mbr_arg {x : MachA} {w : World} (hx : x.ok w) : MBR w.heap.size x.R x.c x.mem x.stk x.out (mcs x.R x.c (.slice x.ma x.mem.length x.mc) (.slice x.sa x.stk.length x.sc) (.slice x.oa x.out.length x.oc)) (w.alloc (.cells (mcs x.R x.c (.slice x.ma x.mem.length x.mc) (.slice x.sa x.stk.length x.sc) (.slice x.oa x.out.length x.oc)) 31)) := by
  have hb := fun cs => (ext_alloc (Below.refl w.heap.size w) (.cells cs 31) : Below w.heap.size w _)
  exact ⟨hx.h8, bk_new _ _ _, _, _, _, _, _, _, rfl, hx.mem.below (hb _), hx.stk.below (hb _), hx.out.below (hb _)⟩
end
section
variable {gs b : Nat} {d : Bool} {mem : List ValV} {ma : Option Addr} {mc n : Nat} {S S' : List KeyV} {W : World} {P : KeyV → Prop} {k : KeyV} {v : ValV}
theorem add_at (hmem : ∀ v ∈ mem, v.Ok) (hlen : mem.length ≤ 400) (h : Sought d mem P n S) (hn : n ≤ 100) (st : SeekSt gs b d mem ma mc S W) (hk : k.Ok) : Calls Try.prog 31 #[.pointer (some ⟨gs, 0, none⟩), k.val] W (AddPost gs b d mem ma mc S k W) := by
  have h1 := h.size
  have h2 : fresh mem (S ++ [k]) ≤ fresh mem S := fresh_mono fun x hx => List.mem_append_left _ hx
  exact add_any hmem hlen 100000 S k W st hk (.inr ⟨by omega, by omega⟩)
theorem val_at (hmem : ∀ v ∈ mem, v.Ok) (hlen : mem.length ≤ 400) (h : Sought d mem P n S) (hn : n ≤ 100) (st : SeekSt gs b d mem ma mc S W) (hv : v.Ok) : Calls Try.prog 32 #[.pointer (some ⟨gs, 0, none⟩), v.val] W (ValPost gs b d mem ma mc S v W) :=
  val_of st fun hi W1 h1 => add_at hmem hlen h hn h1 (by
    rcases hv with ⟨_, h, _⟩ | ⟨h, _⟩
    · exact h
    · rw [h] at hi; cases hi)
/-- The keys of some values. -/
def valKeys (l : List ValV) (x : KeyV) : Prop := ∃ v ∈ l, v.is = true ∧ x = v.k
theorem valKeys_snoc {l : List ValV} {x : KeyV} : valKeys (l ++ [v]) x ↔ valKeys l x ∨ (v.is = true ∧ x = v.k) := by
  unfold valKeys
  simp only [List.mem_append, List.mem_singleton]
  constructor
  · rintro ⟨u, h | rfl, h1, h2⟩
    · exact .inl ⟨u, h, h1, h2⟩
    · exact .inr ⟨h1, h2⟩
  · rintro (⟨u, h, h1, h2⟩ | ⟨h1, h2⟩)
    · exact ⟨u, .inl h, h1, h2⟩
    · exact ⟨v, .inr rfl, h1, h2⟩
/-- .. and of some frames. -/
def frKeys (l : List FrameV) (x : KeyV) : Prop := ∃ f ∈ l, x = f.code ∨ f.data.is = true ∧ x = f.data.k
theorem frKeys_snoc {l : List FrameV} {f : FrameV} {x : KeyV} : frKeys (l ++ [f]) x ↔ (frKeys l x ∨ x = f.code) ∨ (f.data.is = true ∧ x = f.data.k) := by
  unfold frKeys
  simp only [List.mem_append, List.mem_singleton]
  constructor
  · rintro ⟨u, h | rfl, h1⟩
    · exact .inl (.inl ⟨u, h, h1⟩)
    · rcases h1 with h1 | h1
      · exact .inl (.inr h1)
      · exact .inr h1
  · rintro ((⟨u, h, h1⟩ | h1) | h1)
    · exact ⟨u, .inl h, h1⟩
    · exact ⟨f, .inr rfl, .inl h1⟩
    · exact ⟨f, .inr rfl, .inr h1⟩
theorem Sought.val (h : Sought d mem P n S) (h1 : v.is = true → AddR d mem S v.k S') (h2 : v.is = false → S' = S) : Sought d mem (fun x => P x ∨ (v.is = true ∧ x = v.k)) (n + 1) S' := by
  cases hv : v.is
  · rw [h2 hv]
    exact (h.more (Nat.le_succ _)).same fun x => ⟨.inl, fun h => h.elim id (fun h => by cases h.1)⟩
  · exact (h.add (h1 hv)).same fun x => ⟨fun h => h.elim .inl (fun h => .inr ⟨rfl, h⟩), fun h => h.elim .inl (fun h => .inr h.2)⟩
end
/-- What is handed back. -/
def SoughtPost (d : Bool) (R : List ValV) (c : KeyV) (mem : List ValV) (stk : List FrameV) (W : World) (e : Ending) (w' : World) : Prop :=
  ∃ (gs b : Nat) (ma : Option Addr) (mc n : Nat) (S : List KeyV), e = .returned (.tuple #[.pointer (some ⟨gs, 0, none⟩), .int .i64 0]) ∧ SeekSt gs b d mem ma mc S w' ∧ Sought d mem (rootsP d R c stk) n S ∧ n ≤ 100 ∧ Below W.heap.size W w'
set_option maxHeartbeats 4000000 in
set_option maxRecDepth 100000 in
theorem sought_bad {R : List ValV} {c : KeyV} {mem : List ValV} {stk : List FrameV} {out : List Int} {cs : Array Value} {W : World} (h : MRow R c mem stk out cs W) (d : Bool) (hc : stepCheck R c mem stk out ≠ 0) :
    Calls Try.prog 18 #[.agg cs, .bool d] W fun e w' => e = .returned (.tuple #[.pointer none, .int .i64 (stepCheck R c mem stk out)]) ∧ Below W.heap.size W w' := by
  have hb := h.arg
  obtain ⟨w1, hw1⟩ : ∃ w1, w1 = W.alloc (.cells cs 31) := ⟨_, rfl⟩
  have h1w : Below W.heap.size W w1 := by rw [hw1]; exact ext_alloc (Below.refl _ _) _
  rw [← hw1] at hb
  have hck := check_mbr hb.toRow
  generalize stepCheck R c mem stk out = ec at *
  have g1 : (ec == 0) = false := by simpa using hc
  have g2 : (ec != 0) = true := by simpa using hc
  have CK := Lib.hid hck
  have MX := Lib.hid hb
  have HW1 := Lib.hid hw1
  have H1W := Lib.hid h1w
  clear h hck hb hw1 h1w hc
  go_enter Try.func18, Try.ntmps18
  go_upto_region 1 with (fail)
  rw [← HW1.out]
  go_wp2_with (first
    | (refine wpList_load_sub rfl 31 (.tmp 2) rfl W.heap.size 0 64 rfl 31 _ _ MX.out.bk Try.underlying31 rfl (by kernel_rfl) MX.out.size _ MX.out.all ?_)
    | (go_at_call 14; ((with_reducible refine CK.out.mono ?_); rintro e u1 ⟨rfl, hb⟩; have HB1 := Lib.hid hb; clear hb)))
  go_ret2
  exact ⟨rfl, ext_trans H1W.out HB1.out⟩
set_option maxHeartbeats 8000000 in
set_option maxRecDepth 100000 in
theorem sought_any {R : List ValV} {c : KeyV} {mem : List ValV} {stk : List FrameV} {out : List Int} {cs : Array Value} {W : World} (h : MRow R c mem stk out cs W) (d : Bool) (hok : MOk R c mem stk out) :
    Calls Try.prog 18 #[.agg cs, .bool d] W (SoughtPost d R c mem stk W) := by
  have hb := h.arg
  obtain ⟨w1, hw1⟩ : ∃ w1, w1 = W.alloc (.cells cs 31) := ⟨_, rfl⟩
  have h1w : Below W.heap.size W w1 := by rw [hw1]; exact ext_alloc (Below.refl _ _) _
  rw [← hw1] at hb
  have hck := check_mbr hb.toRow
  rw [stepCheck_zero.2 hok] at hck
  have hmk := @run_makeMap Try.prog
  have CK := Lib.hid hck
  have MX := Lib.hid hb
  have HW1 := Lib.hid hw1
  have H1W := Lib.hid h1w
  have HOK := Lib.hid hok
  clear h hck hb hw1 h1w hok
  go_enter Try.func18, Try.ntmps18
  go_upto_region 1 with (fail)
  rw [← HW1.out]
  go_upto_region 4 with (first
    | (refine wpList_load_sub rfl 31 (.tmp 2) rfl W.heap.size 0 64 rfl 31 _ _ MX.out.bk Try.underlying31 rfl (by kernel_rfl) MX.out.size _ MX.out.all ?_)
    | (go_at_call 14; ((with_reducible refine CK.out.mono ?_); rintro e u1 ⟨rfl, hb⟩; have HB1 := Lib.hid hb; clear hb)))
  obtain ⟨ma, mc, m61, msl⟩ := (MX.out.below HB1.out).memC
  have zL := (MX.out.below HB1.out).bk.lt
  go_upto_region 5 with (fail)
  obtain ⟨w4, hw4⟩ : ∃ w4, w4 = ((u1.alloc (.map #[] 0)).alloc (.cells #[.map (some u1.heap.size), .slice ma mem.length mc, .bool d] 60)) := ⟨_, rfl⟩
  obtain ⟨gs, hgs⟩ : ∃ gs, gs = u1.heap.size + 1 := ⟨_, rfl⟩
  obtain ⟨b, hb⟩ : ∃ b, b = u1.heap.size := ⟨_, rfl⟩
  have b14 : Below u1.heap.size u1 w4 := by rw [hw4]; exact ext_alloc (ext_alloc (Below.refl _ _) _) _
  have st4 : SeekSt gs b d mem ma mc [] w4 := by
    rw [hw4, hgs, hb]
    refine ⟨bk_new' _ _ (by simp), owns_heap (World.ownsMap_made u1 _ _ _) ?_, msl.below (ext_alloc (ext_alloc (Below.refl _ _) _) _), fun x hx => by cases hx⟩
    exact (ext_alloc (Below.refl _ _) _ : Below (u1.alloc (.map #[] 0)).heap.size (u1.alloc (.map #[] 0)) _).block _ (by simp)
  rw [← hb] at hw4
  rw [← hgs, ← hb, ← hw4]
  have hbu : u1.heap.size ≤ b := by omega
  have hmb : ∀ W1, Below u1.heap.size u1 W1 → MBR W.heap.size R c mem stk out cs W1 := fun W1 h1 => (MX.out.below HB1.out).below h1
  have hfin : ∀ W1, Below u1.heap.size u1 W1 → Below W.heap.size W W1 := fun W1 h1 => ext_trans H1W.out (ext_trans HB1.out h1)
  have HMB := Lib.hid hmb
  have HFIN := Lib.hid hfin
  have HBU := Lib.hid hbu
  have B14 := Lib.hid b14
  have ST4 := Lib.hid st4
  clear hmb hfin hbu b14 st4 hw4 hb hgs m61 msl zL HW1 hmk
  obtain ⟨z1, z2, z3, z4, z5⟩ := (HMB.out _ B14.out).codeC
  have zL := (HMB.out _ B14.out).bk.lt
  have had := add_at HOK.out.mem HOK.out.len (Sought.start (d := d) (mem := mem)) (by omega) ST4.out HOK.out.code
  have HAD := Lib.hid had
  clear had
  simp only [KeyV.val] at HAD
  go_upto_region 6 with (go_at_call 31; ((with_reducible refine HAD.out.mono ?_); rintro e u5 ⟨rfl, S5, h1, h2, h3⟩; have HX1 := Lib.hid h1; have HX2 := Lib.hid h2; have HX3 := Lib.hid h3; clear h1 h2 h3))
  clear z1 z2 z3 z4 z5 zL HAD
  have b5 : Below u1.heap.size u1 u5 := grw_below HX3.out B14.out HBU.out
  have hs5 : Sought d mem (fun x => x = c ∨ valKeys (R.take 0) x) 1 S5 := ((Sought.start (d := d) (mem := mem)).add HX2.out).same fun x => ⟨fun h => h.elim (fun h => h.elim) .inl, fun h => h.elim .inr (fun h => by obtain ⟨v, hv, _⟩ := h; simp at hv)⟩
  have B5 := Lib.hid b5
  have HS5 := Lib.hid hs5
  clear b5 hs5
  have hxp : ∀ x, (x = c ∨ valKeys R x) ↔ rootsP false R c stk x := fun x => ⟨fun h => h.elim .inl (fun h => .inr (.inl h)), fun h => h.elim .inl (fun h => h.elim .inr (fun h => by cases h.1))⟩
  have hxq : ∀ x, ((x = c ∨ valKeys R x) ∨ frKeys stk x) ↔ rootsP true R c stk x := fun x => ⟨fun h => h.elim (fun h => h.elim .inl (fun h => .inr (.inl h))) (fun h => .inr (.inr ⟨rfl, h⟩)), fun h => h.elim (fun h => .inl (.inl h)) (fun h => h.elim (fun h => .inl (.inr h)) (fun h => .inr h.2))⟩
  have HXP := Lib.hid hxp
  have HXQ := Lib.hid hxq
  clear hxp hxq
  go_wp2_with (refine wpList_load_sub rfl 26 (.tmp 27) rfl W.heap.size 0 56 rfl 31 cs _ (HMB.out _ B5.out).bk Try.underlying26 rfl (by kernel_rfl) (HMB.out _ B5.out).size56 _ (HMB.out _ B5.out).regs ?_)
  go_loopw [29] (fun i wr => ∃ (k : Nat) (S2 : List KeyV), k ≤ 8 ∧ i = .int .i64 k ∧ Below u1.heap.size u1 wr ∧ SeekSt gs b d mem ma mc S2 wr ∧ Sought d mem (fun x => x = c ∨ valKeys (R.take k) x) (1 + k) S2) (fun i _ => 8 - (intOf i).toNat)
  case atStart => exact ⟨0, S5, by omega, rfl, B5.out, HX1.out, HS5.out⟩
  case round =>
    obtain ⟨k, S2, hk, rfl, hb, hst, hso⟩ := hrel
    have HB := Lib.hid hb
    have HST := Lib.hid hst
    have HSO := Lib.hid hso
    clear hb hst hso
    by_cases hlt : k < 8
    · have q1 : (k : Int) < 8 := by omega
      obtain ⟨v, hv⟩ : ∃ v, R[k]? = some v := ⟨_, List.getElem?_eq_getElem (by have := MX.out.h8; omega)⟩
      have hix := fun W => run_index_regs R MX.out.h8 hv W
      have hva := fun (W1 : World) (h1 : Below wr.heap.size wr W1) => val_at HOK.out.mem HOK.out.len HSO.out (by omega) (HST.out.below h1) (HOK.out.regs v (List.mem_of_getElem? hv))
      have hnx : ∀ x, ((x = c ∨ valKeys (R.take k) x) ∨ (v.is = true ∧ x = v.k)) ↔ (x = c ∨ valKeys (R.take (k + 1)) x) := fun x => by
        rw [List.take_add_one, hv]
        show _ ↔ (x = c ∨ valKeys (R.take k ++ [v]) x)
        rw [valKeys_snoc, or_assoc]
      have HNX := Lib.hid hnx
      have HVA := Lib.hid hva
      clear hva hnx hv
      obtain ⟨vi, vn, vp, vb, vl, va, vs⟩ := v
      simp only [ValV.val] at hix HVA
      go_wp2_with (go_at_call 32; ((with_reducible refine (HVA.out _ (ext_alloc (Below.refl _ _) _)).mono ?_); rintro e u6 ⟨rfl, S3, h1, h2, h3, h4⟩; have HY1 := Lib.hid h1; have HY2 := Lib.hid h2; have HY3 := Lib.hid h3; have HY4 := Lib.hid h4; clear h1 h2 h3 h4))
      go_roundw
      case rel => exact ⟨k + 1, S3, by omega, by go_num, grw_below HY2.out (ext_alloc HB.out _) HBU.out, HY1.out, (HSO.out.val (v := ⟨vi, vn, ⟨vp, vb, vl, va, vs⟩⟩) HY3.out HY4.out).same HNX.out⟩
      case measure => simp [intOf]; omega
    · have q1 : ¬ ((k : Int) < 8) := by omega
      obtain rfl : k = 8 := by omega
      have hs8 : Sought d mem (fun x => x = c ∨ valKeys R x) 9 S2 := by
        have := HSO.out
        rwa [List.take_of_length_le (by have := MX.out.h8; omega)] at this
      have HS8 := Lib.hid hs8
      clear hs8 HSO
      cases d
      · go_wp2
        go_ret2
        exact ⟨gs, b, ma, mc, 9, S2, rfl, HST.out, HS8.out.same HXP.out, by omega, HFIN.out _ HB.out⟩
      · obtain ⟨wo, hwo⟩ : ∃ wo : World, wo = wr := ⟨_, rfl⟩
        subst hwo
        obtain ⟨sa, sc, m62', ssl⟩ := (HMB.out u1 (Below.refl _ _)).stkC
        have m62 : wo.cell? ⟨W.heap.size, 62, none⟩ = some (.slice sa stk.length sc) := ((HMB.out _ HB.out).bk.cell 62).trans (((HMB.out u1 (Below.refl _ _)).bk.cell 62).symm.trans m62')
        have zL := (HMB.out _ HB.out).bk.lt
        have h16 := HOK.out.deep
        have HSSL := Lib.hid ssl
        clear ssl m62'
        go_wp2
        clear m62 zL
        go_loopw [40] (fun i wr => ∃ (k : Nat) (S2 : List KeyV), k ≤ stk.length ∧ i = .int .i64 k ∧ Below u1.heap.size u1 wr ∧ SeekSt gs b true mem ma mc S2 wr ∧ Sought true mem (fun x => (x = c ∨ valKeys R x) ∨ frKeys (stk.take k) x) (9 + 2 * k) S2) (fun i _ => stk.length - (intOf i).toNat)
        case atStart => exact ⟨0, S2, Nat.zero_le _, rfl, HB.out, HST.out, HS8.out.same fun x => ⟨.inl, fun h => h.elim id (fun h => by obtain ⟨f, hf, _⟩ := h; simp at hf)⟩⟩
        case round =>
          obtain ⟨k, S3, hk, rfl, hb3, hst3, hso3⟩ := hrel
          have HB3 := Lib.hid hb3
          have HST3 := Lib.hid hst3
          have HSO3 := Lib.hid hso3
          clear hb3 hst3 hso3 HST HS8 HB
          by_cases hlt : k < stk.length
          · have q1 : (k : Int) < stk.length := by omega
            obtain ⟨f, hfk⟩ : ∃ f, stk[k]? = some f := ⟨_, List.getElem?_eq_getElem hlt⟩
            obtain ⟨ad, rfl, hab, e0, e1, e2, e3, e4, e5, e6, e7, e8, e9, e10, e11⟩ := sl_frame (HSSL.out.below HB3.out) hlt hfk
            have hfo := HOK.out.stk f (List.mem_of_getElem? hfk)
            have hac := fun (W1 : World) (h1 : Below wr.heap.size wr W1) => add_at HOK.out.mem HOK.out.len HSO3.out (by omega) (HST3.out.below h1) hfo.1
            have hnx : ∀ x, ((((x = c ∨ valKeys R x) ∨ frKeys (stk.take k) x) ∨ x = f.code) ∨ (f.data.is = true ∧ x = f.data.k)) ↔ ((x = c ∨ valKeys R x) ∨ frKeys (stk.take (k + 1)) x) := fun x => by
              rw [List.take_add_one, hfk]
              show _ ↔ ((x = c ∨ valKeys R x) ∨ frKeys (stk.take k ++ [f]) x)
              rw [frKeys_snoc]
              simp only [or_assoc]
            have HNX := Lib.hid hnx
            have HAC := Lib.hid hac
            have HFO := Lib.hid hfo
            clear hac hnx hfk hfo
            obtain ⟨⟨fp, fb, fl, fa, fs⟩, ⟨vi, vn, ⟨vp, vb, vl, va, vs⟩⟩⟩ := f
            simp only [KeyV.val] at e0 e1 e2 e3 e4 e5 e6 e7 e8 e9 e10 e11 HAC HNX HFO
            have hgf : wr.heap.size ≠ b := fun e => by have := HST3.out.own.lt; omega
            have HGF := Lib.hid hgf
            clear hgf
            go_wp2_with (first
              | (go_at_call 31; ((with_reducible refine (HAC.out _ (ext_alloc (Below.refl _ _) _)).mono ?_); rintro e u6 ⟨rfl, S4, h1, h2, h3⟩; have kf := grw_bk h3 (bk_new _ _ _) HGF.out; have y5 := kf.cell 5; have y6 := kf.cell 6; have y7 := kf.cell 7; have y8 := kf.cell 8; have y9 := kf.cell 9; have y10 := kf.cell 10; have y11 := kf.cell 11; have yL := kf.lt; have hv6 := val_at (v := ⟨vi, vn, ⟨vp, vb, vl, va, vs⟩⟩) HOK.out.mem HOK.out.len (HSO3.out.add h2) (by omega) h1 HFO.out.2; simp only [ValV.val] at hv6; have HV6 := Lib.hid hv6; have HY1 := Lib.hid h1; have HY2 := Lib.hid h2; have HY3 := Lib.hid h3; clear h1 h2 h3 kf hv6))
              | (go_at_call 32; ((with_reducible refine HV6.out.mono ?_); rintro e u7 ⟨rfl, S5', h1, h2, h3, h4⟩; have HZ1 := Lib.hid h1; have HZ2 := Lib.hid h2; have HZ3 := Lib.hid h3; have HZ4 := Lib.hid h4; clear h1 h2 h3 h4)))
            go_roundw
            case rel => exact ⟨k + 1, S5', by omega, by go_num, grw_below HZ2.out (grw_below HY3.out (ext_alloc HB3.out _) HBU.out) HBU.out, HZ1.out, (((HSO3.out.add HY2.out).val (v := ⟨vi, vn, ⟨vp, vb, vl, va, vs⟩⟩) HZ3.out HZ4.out).more (by omega)).same HNX.out⟩
            case measure => simp [intOf]; omega
          · have q1 : ¬ ((k : Int) < stk.length) := by omega
            obtain rfl : k = stk.length := by omega
            have hs8 : Sought true mem (fun x => (x = c ∨ valKeys R x) ∨ frKeys stk x) (9 + 2 * stk.length) S3 := by
              have := HSO3.out
              rwa [List.take_of_length_le (Nat.le_refl _)] at this
            have HS9 := Lib.hid hs8
            clear hs8
            go_wp2
            go_ret2
            exact ⟨gs, b, ma, mc, 9 + 2 * stk.length, S3, rfl, HST3.out, HS9.out.same HXQ.out, by omega, HFIN.out _ HB3.out⟩
end Go.Proofs.Ytcdcmbehnccicaa
