import Derived.Carry
import Derived.ChangeSame
import Derived.Lib.SmallJoins
import Derived.OpenShut
import Derived.ProofKit
import Derived.SizedLaws
import Derived.Test.YtlpejagkadalbaaGreatDoorPk00
import Derived.Test.YtlpejagkadalbaaGreatDoorPk01
import Derived.Test.YtlpejagkadalbaaGreatDoorPk02
import Derived.Test.YtlpejagkadalbaaGreatDoorRows
import Derived.Deep.RegionHeld3
import Derived.Lib.ItoaLen
import Derived.Test.YtlpejagkadalbaaGreatDoorPk03
set_option maxHeartbeats 40000000
set_option maxRecDepth 100000
set_option linter.unusedVariables false
set_option linter.unusedSimpArgs false
namespace Go.Proofs.YtlpejagkadalbaaGreatDoor
open Go.ChangeShapes Go.WideShapes Go.ChangeAt Go.RowKit
theorem own:ownKnob Tryz.prog.godebug=none:=by kernel_rfl
theorem laidOut:laidOutB Tryz.prog=true:=by kernel_rfl
section
variable {H:Type} {enc:TypeId×Value→H} {P:Program}
theorem post_of_below {f:Func} {s:ChangeSpec} {apart fresh handsOn:Bool} {W W':World} {args:Array Value} {v:Value} {ds gs:List (DataW H)} {before pa pv:List MemPlace}
  (hW:DataW.Whole enc P f.params.toList s.vars apart W args.toList ds gs before)
  (hres:∀ (b:Nat) (sp:Nat→Bool) (hd:Bool),DataW.TrodAll enc P W' b sp hd f.resultTypes.toList (v.resultList f.resultTypes.size) (s.fn H (ds++gs)).results [])
  (hargs:DataW.TrodAll enc P W' 0 (fun b=>decide (b < W.heap.size)) true f.params.toList args.toList (s.fn H (ds++gs)).args pa)
  (hvars:DataW.TrodVars enc P W' (fun b=>decide (b < W.heap.size)) s.vars (s.fn H (ds++gs)).vars pv)
  (hps:before=pa++pv) (hb:Below W.heap.size W W') :
  s.post enc P f apart fresh handsOn false W args v W':=by
 refine ⟨ds,gs,before,[],pa,pv,hW,hres _ _ _,hargs,hvars,World.keptBut_mono (fun p hp=>⟨hp,?_⟩) (hb.frame (· ∈ before)),fun h=>by cases h⟩
 rw [hps,List.mem_append] at hp
 exact Or.inr hp
theorem trodAll_below {W W':World} (hl:laidOutB P=true) (hb:Below W.heap.size W W'):∀ {ts:List TypeId} {vs:List Value} {ds:List (DataW H)} {ps:List MemPlace},
  (∀ t∈ts,P.readableRec t=true∧t < P.types.size)→DataW.TrodAll enc P W 0 (fun _=>true) true ts vs ds ps→(∀ x∈ps,x.block < W.heap.size) →
  DataW.TrodAll enc P W' 0 (fun b=>decide (b < W.heap.size)) true ts vs ds ps
 | [],vs,ds,ps,_,h,_=>by
  obtain ⟨rfl,rfl,rfl⟩:=trodAll_nil h
  exact trodAll_mk0
 | t::ts,vs,ds,ps,ht,h,hp=>by
  obtain ⟨v0,vs0,d0,ds0,p0,q0,rfl,rfl,rfl,h0,r0⟩:=trodAll_cons h
  obtain ⟨h1,h2⟩:=ht t (by simp)
  exact trodAll_cons_mk (Below.trod hl h1 h2 h0 hb (fun x hx=>hp x (by simp [hx]))) (trodAll_below hl hb (fun t' ht'=>ht t' (by simp [ht'])) r0 (fun x hx=>hp x (by simp [hx])))
end
theorem law_post {H:Type} {enc:TypeId×Value→H} {f:Func} {s:ChangeSpec} {W W':World} {args:Array Value} {ds:List (DataW H)} {p:List MemPlace}
  (hW:DataW.Whole enc Tryz.prog f.params.toList s.vars false W args.toList ds [] p)
  (hA:DataW.TrodAll enc Tryz.prog W 0 (fun _=>true) true f.params.toList args.toList ds p)
  (hr:f.resultTypes=#[4]) (hv:s.vars=[]) (hs:s.fn H (ds++[])={results:=[.lit (.bool true)],args:=ds})
  (hp:(f.params.toList.all fun t=>Tryz.prog.readableRec t&&decide (t < Tryz.prog.types.size))=true)
  (hb:Below W.heap.size W W') :
  s.post enc Tryz.prog f false true false false W args (.bool true) W':=by
 have hlt:∀ x∈p,x.block < W.heap.size:=fun x hx=>by simpa using hW.lt x hx
 refine post_of_below (pa:=p) (pv:=[]) (gs:=[]) hW (fun b sp hd=>?_) ?_ ?_ (by simp) hb
 ·rw [hs,hr]
  exact trodAll_cons_mk (shut_bool Tryz.underlying4 _) trodAll_mk0
 ·rw [hs]
  refine trodAll_below laidOut hb (fun t ht=>?_) hA hlt
  have:=List.all_eq_true.1 hp t ht
  simpa using this
 ·rw [hs,hv]
  exact rfl
end Go.Proofs.YtlpejagkadalbaaGreatDoor
namespace Go.Proofs.YtlpejagkadalbaaGreatDoor
open Go.Joins Go.ChangeShapes Go.WideShapes Go.ChangeAt Go.RowKit Go.Deep
section
variable {H:Type} {enc:TypeId×Value→H} {w:World} {base:Nat} {spare:Nat→Bool} {held:Bool}
end
end Go.Proofs.YtlpejagkadalbaaGreatDoor
namespace Go.Proofs.YtlpejagkadalbaaGreatDoor
open Go.Joins Go.ChangeShapes Go.WideShapes Go.ChangeAt Go.RowKit Go.Deep
section
variable {H:Type} {enc:TypeId×Value→H} {w:World} {base:Nat} {spare:Nat→Bool} {held:Bool}
end
end Go.Proofs.YtlpejagkadalbaaGreatDoor
namespace Go.Proofs.YtlpejagkadalbaaGreatDoor
open Go.Joins Go.ChangeShapes Go.WideShapes Go.ChangeAt Go.RowKit Go.Deep
structure SlV (α:Type) where
 ao:Option Addr
 n:Nat
 cap:Nat
 vs:List α
def SlV.val {α:Type} (x:SlV α):Value:=.slice x.ao x.n x.cap
structure SlV.ok {α:Type} [El α] (P:α→Prop) (w:World) (x:SlV α):Prop where
 sl:Sl w x.ao x.n x.vs
 wf:∀ v∈x.vs,P v
 le:x.n≤x.cap
section
variable {α:Type} [El α]
theorem cls_of_cells {w:World} {a:Addr}:∀ {xs:List α},(∀ i x,xs[i]?=some x→∀ j,j < El.k α→w.cell? (a.add (i*El.k α+j))=(cl x)[j]?)→∀ j u,(cls xs)[j]?=some u→w.cell? (a.add j)=some u:=by
 intro xs h j u hu
 have hk:0 < El.k α:=El.pos
 have hj:j < xs.length*El.k α:=by
  rw [←cls_length]
  exact (List.getElem?_eq_some_iff.1 hu).1
 have hd:j / El.k α < xs.length:=Nat.div_lt_of_lt_mul (by rw [Nat.mul_comm];exact hj)
 have hm:j % El.k α < El.k α:=Nat.mod_lt _ hk
 have e:j / El.k α*El.k α+j % El.k α=j:=Nat.div_add_mod' _ _
 have h1:=cls_at xs (j / El.k α) hd (j % El.k α) hm
 rw [e,hu] at h1
 have h2:=h (j / El.k α) _ (List.getElem?_eq_getElem hd) _ hm
 rw [e] at h2
 rw [h2,h1]
end
section
variable {H:Type} {enc:TypeId×Value→H} {w:World} {spare:Nat→Bool} {held:Bool}
theorem open_els {α:Type} [El α] [Inhabited α] {r:Reach} {b0:Nat} {t e:TypeId} {v:Value} {d:DataW H} {p:List MemPlace} {Q:α→Prop} (ht:Tryz.prog.underlying t=some (.slice e)) (hk:Tryz.prog.cellsOf e=El.k α)
  (el:∀ fuel cs x,DataW.trod enc Tryz.prog w 0 spare held fuel e cs=some x→cs.length=El.k α→∃ y:α,cs=cl y∧Q y)
  (hv:Value.okWide Tryz.prog w r b0 t v) (h:DataW.Trod enc Tryz.prog w 0 spare held t v d p):∃ x:SlV α,v=x.val∧x.ok Q w∧(x.n=0∨∃ es sp,d=.slice es sp∧es.length=x.n):=by
 obtain ⟨a0,len,cap,rfl⟩:=okWide_slice ht hv
 obtain ⟨fuel,hf⟩:=h
 rcases open_slice ht hf with ⟨hcs,_⟩ | ⟨a,len',cap',m,n,D,Pl,hcs,hb,hl,hm,hmm,hx,hi⟩
 ·simp [Value.cells] at hcs
  obtain ⟨rfl,rfl,rfl⟩:=hcs
  exact ⟨⟨none,0,0,[]⟩,rfl,⟨Sl.nil _ _,fun v hv=>by simp at hv,Nat.le_refl _⟩,.inl rfl⟩
 ·simp [Value.cells] at hcs
  obtain ⟨rfl,rfl,rfl⟩:=hcs
  have hlm:len≤m:=by rw [hmm];split<;>omega
  obtain ⟨f,hf⟩:=choose_lt (α:=α) (n:=len) (p:=fun i y=>(∀ j,j < El.k α→w.cell? (a.add (i*El.k α+j))=(cl y)[j]?)∧Q y) (fun i hil=>by
   obtain ⟨cs',h1,h2⟩:=hi i (by omega)
   rw [hk] at h1
   obtain ⟨_,hcl,hat⟩:=World.cells?_some h1
   obtain ⟨y,rfl,hy⟩:=el n cs' _ h2 hcl
   exact ⟨y,fun j hj=>by rw [←Go.Deep.add_add];exact hat j hj,hy⟩)
  have hcells:∀ j u,(cls ((List.range len).map f))[j]?=some u→w.cell? (a.add j)=some u:=cls_of_cells (fun i x hx j hj=>by
   rw [List.getElem?_map] at hx
   have hil:i < len:=by
    rcases Nat.lt_or_ge i len with h | h
    ·exact h
    ·rw [List.getElem?_eq_none (by simpa using h)] at hx;cases hx
   rw [List.getElem?_range hil] at hx
   simp at hx
   subst hx
   exact (hf i hil).1 j hj)
  simp only [Prod.mk.injEq] at hx
  refine ⟨⟨some a,len,cap,(List.range len).map f⟩,rfl,⟨⟨by simp,Nat.le_trans hl hm,fun hn=>⟨a,rfl,?_,hcells⟩⟩,fun v hv=>?_,hl⟩,.inr ⟨_,_,hx.1,by simp⟩⟩
  ·have h0:=(hf 0 hn).1 0 El.pos
   have hl0:0 < (cl (f 0)).length:=by rw [El.len];exact El.pos
   rw [List.getElem?_eq_getElem hl0] at h0
   have:=World.block_lt_of_cell? w _ h0
   rw [el_block] at this
   exact this
  ·obtain ⟨i,hi1,rfl⟩:=List.mem_map.1 hv
   exact (hf i (List.mem_range.1 hi1)).2
end
end Go.Proofs.YtlpejagkadalbaaGreatDoor
namespace Go.Proofs.YtlpejagkadalbaaGreatDoor
open Go.Joins Go.ChangeShapes Go.WideShapes Go.ChangeAt Go.RowKit Go.Deep
structure MachA where
 R:List ValV
 c:KeyV
 mem:List ValV
 stk:List FrameV
 out:List Int
 ma:Option Addr
 sa:Option Addr
 oa:Option Addr
 mc:Nat
 sc:Nat
 oc:Nat
def MachA.val (x:MachA):Value:=.agg (mcs x.R x.c (.slice x.ma x.mem.length x.mc) (.slice x.sa x.stk.length x.sc) (.slice x.oa x.out.length x.oc))
structure MachA.ok (w:World) (x:MachA):Prop where
 h8:x.R.length=8
 mem:Sl w x.ma x.mem.length x.mem
 stk:Sl w x.sa x.stk.length x.stk
 out:Sl w x.oa x.out.length x.out
 wR:∀ v∈x.R,v.wf
 wc:x.c.wf
 wm:∀ v∈x.mem,v.wf
 ws:∀ f∈x.stk,f.wf
 wo:∀ n∈x.out,I64 n
section
variable {H:Type} {enc:TypeId×Value→H} {w:World} {spare:Nat→Bool} {held:Bool}
end
end Go.Proofs.YtlpejagkadalbaaGreatDoor
namespace Go.Proofs.YtlpejagkadalbaaGreatDoor
open Go.RowKit
def Tab10 (w:World):Prop:=Lib.TabIs Tryz.prog w "internal/strconv.uint64pow10" .u64 Lib.pow10Tab
theorem tabIs_below {n:String} {k:IntKind} {zs:List Int} {w w':World} (h:Lib.TabIs Tryz.prog w n k zs) (hb:Below w.heap.size w w'):Lib.TabIs Tryz.prog w' n k zs:=by
 unfold Lib.TabIs at h ⊢
 unfold World.var? at h ⊢
 cases hg:Tryz.prog.globalNamed n with
 | none=>rw [hg] at h;cases h
 | some g =>
  rw [hg] at h
  simp only [Option.bind_some] at h ⊢
  have hlt:g < w.heap.size:=by
   rcases Nat.lt_or_ge g w.heap.size with hlt | hge
   ·exact hlt
   ·rw [Array.getElem?_eq_none hge] at h;cases h
  rw [hb.block g hlt]
  exact h
theorem Tab10.below {w w':World} (h:Tab10 w) (hb:Below w.heap.size w w'):Tab10 w':=tabIs_below h hb
theorem below_grow (w:World) (k:Nat) (os:Array Obj):Below w.heap.size w (Go.Sort.grow (w.drewN k) os) :=
 ⟨rfl,rfl,rfl,by simp [Go.Sort.grow,World.drewN],fun i hi=>by simp [Go.Sort.grow,World.drewN,Array.getElem?_append_left hi]⟩
theorem itoa_any (n:Int) (hn:I64 n) (w:World) (ht:Tab10 w):Calls Tryz.prog 131 #[.int .i64 n] w fun e w'=>e=.returned (.string ⟨(Lib.itoa n).toArray⟩)∧Below w.heap.size w w' :=
 (Tryz.strconv_Itoa n hn.1 hn.2 w ht).mono fun e w' ⟨he,k,os,hw⟩=>⟨he,by rw [hw];exact below_grow w k os⟩
def sufL (n:Int) (has ir:Bool):List UInt8:=if has then (if ir then 32::114::Lib.itoa n else 32::Lib.itoa n) else []
theorem str_add (x y:ByteArray) (h:x.size+y.size≤9223372036854775807):Op.stringOp .add x y=pure (.string (x++y)):=by
 have e:IntKind.i64.max=9223372036854775807:=by decide
 unfold Op.stringOp
 simp only [e]
 rw [if_neg (by omega)]
theorem tadd_any (n:Int) (hn:I64 n) (has ir:Bool) (g:Nat) (s:ByteArray) (w:World) (hs:s.size≤1000) (hB:Bk w g 9 #[.string s]) (ht:Tab10 w):Calls Tryz.prog 188 #[.int .i64 n,.bool has,.bool ir,.pointer (some ⟨g,0,none⟩)] w fun e w'=>e=.returned (.tuple #[])∧Below g w w'∧Bk w' g 9 #[.string (s++⟨(sufL n has ir).toArray⟩)]:=by
 have q0:∀ x:Later w,x.val.cell? ⟨g,0,none⟩=some (.string s):=fun x=>(x.bk hB).cell 0
 have qL:∀ x:Later w,g < x.val.heap.size:=fun x=>x.lt hB.lt
 have qF:∀ (x:Later w) i,x.val.frozen? ⟨g,i,none⟩=false:=fun x i=>(x.bk hB).frozen i
 have r0:w.cell? ⟨g,0,none⟩=some (.string s):=hB.cell 0
 have rL:=hB.lt
 have rF:=fun i=>Bk.frozen hB i
 have IT:=Lib.hid (fun x:Later w=>itoa_any n hn x.val (ht.below x.ok))
 obtain ⟨xd,hxd⟩:∃ xd:Later w,w.drew=xd.val:=⟨⟨_,ext_drew (Below.refl _ _)⟩,rfl⟩
 have HXD:=Lib.hid hxd
 have HB:=Lib.hid hB
 have li:=Lib.itoa_length_le n hn.1 hn.2
 have e1:(⟨#[32]⟩:ByteArray)++⟨(Lib.itoa n).toArray⟩=⟨(32::Lib.itoa n).toArray⟩:=ByteArray.ext (by simp)
 have e2:(⟨#[32,114]⟩:ByteArray)++⟨(Lib.itoa n).toArray⟩=⟨(32::114::Lib.itoa n).toArray⟩:=ByteArray.ext (by simp)
 have z1:(⟨(32::Lib.itoa n).toArray⟩:ByteArray).size=(Lib.itoa n).length+1:=by simp [ByteArray.size]
 have z2:(⟨(32::114::Lib.itoa n).toArray⟩:ByteArray).size=(Lib.itoa n).length+2:=by simp [ByteArray.size]
 have z0:(⟨(Lib.itoa n).toArray⟩:ByteArray).size=(Lib.itoa n).length:=by simp [ByteArray.size]
 have y1:(⟨#[32]⟩:ByteArray).size=1:=rfl
 have y2:(⟨#[32,114]⟩:ByteArray).size=2:=rfl
 have u1:Op.stringOp .add ⟨#[32]⟩ ⟨(Lib.itoa n).toArray⟩=pure (.string ⟨(32::Lib.itoa n).toArray⟩):=by rw [←e1];exact str_add _ _ (by omega)
 have u2:Op.stringOp .add ⟨#[32,114]⟩ ⟨(Lib.itoa n).toArray⟩=pure (.string ⟨(32::114::Lib.itoa n).toArray⟩):=by rw [←e2];exact str_add _ _ (by omega)
 have v1:Op.stringOp .add s ⟨(32::Lib.itoa n).toArray⟩=pure (.string (s++⟨(32::Lib.itoa n).toArray⟩)):=str_add _ _ (by omega)
 have v2:Op.stringOp .add s ⟨(32::114::Lib.itoa n).toArray⟩=pure (.string (s++⟨(32::114::Lib.itoa n).toArray⟩)):=str_add _ _ (by omega)
 clear e1 e2 z1 z2 z0 y1 y2 li
 clear hB ht hxd
 cases has
 ·go_enter Tryz.func188,Tryz.ntmps188
  go_wp2
  refine bodyPost_end (results_none rfl _ _ _) rfl ?_
  refine ⟨rfl,Below.refl _ _,?_⟩
  have e:s++(⟨(sufL n false ir).toArray⟩:ByteArray)=s:=by unfold sufL;exact ByteArray.ext (by simp)
  rw [e]
  exact HB.out
 ·cases ir
  ·go_enter Tryz.func188,Tryz.ntmps188
   go_upto_region 3 with (fail)
   go_region_with (go_at_call 131;(rw [HXD.out];(with_reducible refine (IT.out xd).mono ?_);rintro e w' ⟨rfl,hb⟩;obtain ⟨y,rfl⟩:=later_call xd.ok hb;clear hb))
   all_goals go_wp2_with fail
   all_goals
    refine bodyPost_end (results_none rfl _ _ _) rfl ?_
    exact ⟨rfl,(y.ok.mono (Nat.le_of_lt HB.out.lt)).setCell (Nat.le_refl _) _,bk_set 0 _ (y.bk HB.out)⟩
  ·go_enter Tryz.func188,Tryz.ntmps188
   go_upto_region 1 with (fail)
   go_region_with (go_at_call 131;(rw [HXD.out];(with_reducible refine (IT.out xd).mono ?_);rintro e w' ⟨rfl,hb⟩;obtain ⟨y,rfl⟩:=later_call xd.ok hb;clear hb))
   all_goals go_wp2_with fail
   all_goals
    refine bodyPost_end (results_none rfl _ _ _) rfl ?_
    exact ⟨rfl,(y.ok.mono (Nat.le_of_lt HB.out.lt)).setCell (Nat.le_refl _) _,bk_set 0 _ (y.bk HB.out)⟩
end Go.Proofs.YtlpejagkadalbaaGreatDoor
