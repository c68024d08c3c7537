import Derived.Test.YtlpejagkadalbaaGreatDoorZk04
import Derived.Deep.DeepCutAuto
import Derived.Lib.SmallJoins
set_option maxHeartbeats 40000000
set_option maxRecDepth 100000
set_option linter.unusedVariables false
set_option linter.unusedSimpArgs false
namespace Go.Proofs.YtlpejagkadalbaaGreatDoor
section
open Go.RowKit
def zmc:Array Value:=#[.bool false,.int .i64 0,.int .i64 0,.int .i64 0,.int .i64 0,.int .i64 0,.int .i64 0,.bool false,.int .i64 0,.int .i64 0,.int .i64 0,.int .i64 0,.int .i64 0,.int .i64 0,.bool false,.int .i64 0,.int .i64 0,.int .i64 0,.int .i64 0,.int .i64 0,.int .i64 0,.bool false,.int .i64 0,.int .i64 0,.int .i64 0,.int .i64 0,.int .i64 0,.int .i64 0,.bool false,.int .i64 0,.int .i64 0,.int .i64 0,.int .i64 0,.int .i64 0,.int .i64 0,.bool false,.int .i64 0,.int .i64 0,.int .i64 0,.int .i64 0,.int .i64 0,.int .i64 0,.bool false,.int .i64 0,.int .i64 0,.int .i64 0,.int .i64 0,.int .i64 0,.int .i64 0,.bool false,.int .i64 0,.int .i64 0,.int .i64 0,.int .i64 0,.int .i64 0,.int .i64 0,.int .i64 0,.int .i64 0,.int .i64 0,.int .i64 0,.int .i64 0,.slice none 0 0,.slice none 0 0,.slice none 0 0]
def zM3:List ValV:=List.replicate 8 zeroV
theorem zOD:mcs zM3 zeroK (.slice none 0 0) (.slice none 0 0) (.slice none 0 0)=zmc:=rfl
theorem zK4 {R:List ValV} {c:KeyV} {a b d:Value} (h:R.length=8) (x:Value):(mcs R c a b d).setIfInBounds 61 x=mcs R c x b d:=by
 unfold mcs
 rw [zC,show 61=(cls R).length+5 by rw [zAk h],List.set_append_right _ _ (by omega),Nat.add_sub_cancel_left]
 rfl
theorem zEx {R:List ValV} {c:KeyV} {a b d:Value} (h:R.length=8) (x:Value):(mcs R c a b d).setIfInBounds 62 x=mcs R c a x d:=by
 unfold mcs
 rw [zC,show 62=(cls R).length+6 by rw [zAk h],List.set_append_right _ _ (by omega),Nat.add_sub_cancel_left]
 rfl
theorem zGs {R:List ValV} {c:KeyV} {a b d:Value} (h:R.length=8) (x:Value):(mcs R c a b d).setIfInBounds 63 x=mcs R c a b x:=by
 unfold mcs
 rw [zC,show 63=(cls R).length+7 by rw [zAk h],List.set_append_right _ _ (by omega),Nat.add_sub_cancel_left]
 rfl
def zM6 (w:World) (R:List ValV) (c:KeyV) (mem:List ValV) (stk:List FrameV) (out:List Int) (e:Ending) (w':World):Prop :=
 ∃ vm vs vo,e=.returned (.agg (mcs R c vm vs vo))∧Own w' w.heap.size 56 vm mem∧Own w' w.heap.size 156 vs stk∧Own w' w.heap.size 3 vo out∧Below w.heap.size w w'
def zLi (w:World) (R:List ValV) (c:KeyV) (mem:List ValV) (stk:List FrameV) (out:List Int) (W:World):Prop :=
 ∃ vm vs vo,Bk W w.heap.size 60 (mcs R c vm vs vo)∧Bk W (w.heap.size+1) 60 zmc∧Own W w.heap.size 56 vm mem∧Own W w.heap.size 156 vs stk∧Own W w.heap.size 3 vo out∧Below w.heap.size w W
theorem zCK {α:Type} [El α] {w:World} {base m:Nat} {T:TypeId} {v:Value} {xs:List α} (h:Own w base T v xs) {p:Addr} (hp:p.block < base) (hb:m≤base) (u:Value):Own (w.setCell p u) m T v xs :=
 (show Own (w.setCell p u) base T v xs from ownsRow_setCell_below h hp u).mono hb
theorem zBv {v:Value} {w:World} {base:Nat} {T:TypeId} {α:Type} [El α] {xs:List α} (h:Own w base T v xs):v.oneCell'=true:=by
 obtain ⟨a,c,rfl,_⟩:=h.sl
 rfl
theorem zDm {R:List ValV} {c:KeyV} {ms ss os:Value} (h1:ms.oneCell'=true) (h2:ss.oneCell'=true) (h3:os.oneCell'=true):(mcs R c ms ss os).all (·.oneCell')=true:=by
 rw [Array.all_eq_true']
 intro u hu
 unfold mcs at hu
 rw [List.mem_toArray,List.mem_append] at hu
 rcases hu with hu | hu
 ·exact zFS R u hu
 ·simp at hu
  rcases hu with rfl | rfl | rfl | rfl | rfl | rfl | rfl | rfl
  all_goals first | rfl | assumption
theorem zDP {w:World} {g:Nat} {T:TypeId} {cs:Array Value} (h:Bk w g T cs) (ds:Array Value):Bk (w.setRow g ds) g T ds:=setRow_heap w g cs ds T (0,0) h
theorem zAm {a b:World} (h:Below a.heap.size a b) {g:Nat} (hg:a.heap.size≤g) (cs:Array Value):Below a.heap.size a (b.setRow g cs):=below_setRow h hg cs
theorem zAl {α:Type} [El α] {w:World} {base:Nat} {T:TypeId} {v:Value} {xs:List α} (h:Own w base T v xs) {g:Nat} {T':TypeId} {cs:Array Value} (hg:Bk w g T' cs) (hT:T'≠T) (ds:Array Value):Own (w.setRow g ds) base T v xs:=by
 have hgr:w.grownBy (w.setRow g ds) (some g):=⟨rfl,rfl,rfl,by simp,fun k _ hk=>setRow_other w g k ds (fun e=>hk (by rw [e]))⟩
 refine h.kept hgr ?_
 rcases h.2 with ⟨rfl,_⟩ | ⟨g',cap,cur,rfl,_,hg',_⟩
 ·exact .inl rfl
 ·right
  intro e
  simp [Value.ownBlock] at e
  subst e
  unfold Bk at hg
  rw [hg] at hg'
  injection hg' with hg'
  injection hg' with _ ht _
  exact hT ht
theorem zJ4 (R:List ValV) (c:KeyV) (mem:List ValV) (stk:List FrameV) (out:List Int) (ma sa oa:Option Addr) (mc sc oc:Nat) (w:World) (h8:R.length=8)
  (hm:Sl w ma mem.length mem) (hs:Sl w sa stk.length stk) (ho:Sl w oa out.length out) (zm:mem.length*56≤140737488355328) (zs:stk.length*96≤140737488355328) (zo:out.length*8≤140737488355328) :
  Calls Tryz.prog 41 #[.agg (mcs R c (.slice ma mem.length mc) (.slice sa stk.length sc) (.slice oa out.length oc))] w (zM6 w R c mem stk out):=by
 have hsz:=zBh (c:=c) (ms:=.slice ma mem.length mc) (ss:=.slice sa stk.length sc) (os:=.slice oa out.length oc) h8
 have hhi:=zAU (c:=c) (ms:=.slice ma mem.length mc) (ss:=.slice sa stk.length sc) (os:=.slice oa out.length oc) h8
 obtain ⟨cs,hcs⟩:∃ cs,cs=mcs R c (.slice ma mem.length mc) (.slice sa stk.length sc) (.slice oa out.length oc):=⟨_,rfl⟩
 rw [←hcs] at hsz hhi ⊢
 obtain ⟨w1,hw1⟩:∃ w1,w1=(w.alloc (.cells cs 60)).alloc (.cells #[.bool false,.int .i64 0,.int .i64 0,.int .i64 0,.int .i64 0,.int .i64 0,.int .i64 0,.bool false,.int .i64 0,.int .i64 0,.int .i64 0,.int .i64 0,.int .i64 0,.int .i64 0,.bool false,.int .i64 0,.int .i64 0,.int .i64 0,.int .i64 0,.int .i64 0,.int .i64 0,.bool false,.int .i64 0,.int .i64 0,.int .i64 0,.int .i64 0,.int .i64 0,.int .i64 0,.bool false,.int .i64 0,.int .i64 0,.int .i64 0,.int .i64 0,.int .i64 0,.int .i64 0,.bool false,.int .i64 0,.int .i64 0,.int .i64 0,.int .i64 0,.int .i64 0,.int .i64 0,.bool false,.int .i64 0,.int .i64 0,.int .i64 0,.int .i64 0,.int .i64 0,.int .i64 0,.bool false,.int .i64 0,.int .i64 0,.int .i64 0,.int .i64 0,.int .i64 0,.int .i64 0,.int .i64 0,.int .i64 0,.int .i64 0,.int .i64 0,.int .i64 0,.slice none 0 0,.slice none 0 0,.slice none 0 0] 60):=⟨_,rfl⟩
 have hB:Bk w1 w.heap.size 60 cs:=by rw [hw1];exact zN _ (zM _ _ _)
 have hB2:Bk w1 (w.heap.size+1) 60 zmc:=by rw [hw1];exact zO _ _ (by simp)
 have h1w:Below w.heap.size w w1:=by rw [hw1];exact zG (zG (Below.refl _ _) _) _
 have q61:∀ x:Later w1,x.val.cell? ⟨w.heap.size,61,none⟩=some (.slice ma mem.length mc):=fun x=>((x.bk hB).cell _).trans (hhi 5)
 have q62:∀ x:Later w1,x.val.cell? ⟨w.heap.size,62,none⟩=some (.slice sa stk.length sc):=fun x=>((x.bk hB).cell _).trans (hhi 6)
 have q63:∀ x:Later w1,x.val.cell? ⟨w.heap.size,63,none⟩=some (.slice oa out.length oc):=fun x=>((x.bk hB).cell _).trans (hhi 7)
 have p61:w1.cell? ⟨w.heap.size,61,none⟩=some (.slice ma mem.length mc):=(hB.cell _).trans (hhi 5)
 have p62:w1.cell? ⟨w.heap.size,62,none⟩=some (.slice sa stk.length sc):=(hB.cell _).trans (hhi 6)
 have p63:w1.cell? ⟨w.heap.size,63,none⟩=some (.slice oa out.length oc):=(hB.cell _).trans (hhi 7)
 have qf:∀ (x:Later w1) j,x.val.frozen? ⟨w.heap.size,j,none⟩=false:=fun x j=>(x.bk hB).frozen j
 have qL:∀ x:Later w1,w.heap.size < x.val.heap.size:=fun x=>x.lt hB.lt
 have cv:∀ x:Later w1,Calls Tryz.prog 32 #[.slice ma mem.length mc] x.val fun e w'=>∃ (v:Value) (y:Later w1),e=.returned v∧w'=y.val∧Own y.val x.val.heap.size 56 v mem∧Below x.val.heap.size x.val y.val:=fun x =>
  (zDO ma _ mc mem x.val ((hm.below h1w).below x.ok) zm).mono fun e w' ⟨v,e1,e2,e3⟩=>⟨v,⟨w',zI x.ok e3⟩,e1,rfl,e2,e3⟩
 have cf:∀ x:Later w1,Calls Tryz.prog 69 #[.slice sa stk.length sc] x.val fun e w'=>∃ (v:Value) (y:Later w1),e=.returned v∧w'=y.val∧Own y.val x.val.heap.size 156 v stk∧Below x.val.heap.size x.val y.val:=fun x =>
  (zI7 sa _ sc stk x.val ((hs.below h1w).below x.ok) zs).mono fun e w' ⟨v,e1,e2,e3⟩=>⟨v,⟨w',zI x.ok e3⟩,e1,rfl,e2,e3⟩
 have ci:∀ x:Later w1,Calls Tryz.prog 65 #[.slice oa out.length oc] x.val fun e w'=>∃ (v:Value) (y:Later w1),e=.returned v∧w'=y.val∧Own y.val x.val.heap.size 3 v out∧Below x.val.heap.size x.val y.val:=fun x =>
  (zLW oa _ oc out x.val ((ho.below h1w).below x.ok) zo).mono fun e w' ⟨v,e1,e2,e3⟩=>⟨v,⟨w',zI x.ok e3⟩,e1,rfl,e2,e3⟩
 have fin1:∀ (x0 y1 y2 y3:Later w1) {a1 a2 a3:Option Addr} {n1 n2 n3 c1 c2 c3:Nat},Own y1.val x0.val.heap.size 56 (.slice a1 n1 c1) mem→Own y2.val y1.val.heap.size 156 (.slice a2 n2 c2) stk→Own y3.val y2.val.heap.size 3 (.slice a3 n3 c3) out →
   Below x0.val.heap.size x0.val y1.val→Below y1.val.heap.size y1.val y2.val→Below y2.val.heap.size y2.val y3.val →
   zLi w R c mem stk out (((y3.val.setCell ⟨w.heap.size,61,none⟩ (.slice a1 n1 c1)).setCell ⟨w.heap.size,62,none⟩ (.slice a2 n2 c2)).setCell ⟨w.heap.size,63,none⟩ (.slice a3 n3 c3)):=by
  intro x0 y1 y2 y3 a1 a2 a3 n1 n2 n3 c1 c2 c3 o1 o2 o3 b1 b2 b3
  have l0:=qL x0
  have l1:=qL y1
  have l2:=qL y2
  have hk:=y3.bk hB
  rw [hcs] at hk
  refine ⟨.slice a1 n1 c1,.slice a2 n2 c2,.slice a3 n3 c3,?_,zU _ (by omega) (zU _ (by omega) (zU _ (by omega) (y3.bk hB2))),?_,?_,?_,zK (zK (zK (zI h1w y3.ok) (by simp) _) (by simp) _) (by simp) _⟩
  ·have k1:=zAg 61 (.slice a1 n1 c1) hk
   rw [zK4 h8] at k1
   have k2:=zAg 62 (.slice a2 n2 c2) k1
   rw [zEx h8] at k2
   have k3:=zAg 63 (.slice a3 n3 c3) k2
   rw [zGs h8] at k3
   exact k3
  ·exact (zCK (zCK (zCK ((o1.below b2).below b3) (m:=x0.val.heap.size) l0 (Nat.le_refl _) _) l0 (Nat.le_refl _) _) l0 (Nat.le_of_lt l0) _)
  ·exact (zCK (zCK (zCK (o2.below b3) (m:=y1.val.heap.size) l1 (Nat.le_refl _) _) l1 (Nat.le_refl _) _) l1 (Nat.le_of_lt l1) _)
  ·exact (zCK (zCK (zCK o3 (m:=y2.val.heap.size) l2 (Nat.le_refl _) _) l2 (Nat.le_refl _) _) l2 (Nat.le_of_lt l2) _)
 have FIN1:=zA fin1
 have HW1:=zA hw1
 have HSZ:=zA hsz
 have HCS:=zA hcs
 have HB:=zA hB
 have HB2:=zA hB2
 have H1W:=zA h1w
 have CV:=zA cv
 have CF:=zA cf
 have CI:=zA ci
 obtain ⟨x0,hx0⟩:∃ x:Later w1,w1.drew=x.val:=⟨⟨_,zJ (Below.refl _ _)⟩,rfl⟩
 have HX0:=zA hx0
 have H8:=zA h8
 clear hsz hhi hB hB2 h1w hw1 hm hs ho h8 cv cf ci hcs hx0 fin1
 go_enter Tryz.func41,Tryz.ntmps41
 go_upto_region 1 with (fail)
 rw [←HW1.out]
 go_cut [5] (fun s5 wx=>zLi w R c mem stk out wx)
 case first =>
  go_region_with (first
   | (go_at_call 32;(rw [HX0.out];(with_reducible refine (CV.out _).mono ?_);rintro e w' ⟨vm,y1,rfl,rfl,om,b1⟩;obtain ⟨ma1,mc1,rfl,_,_⟩:=om.sl;have OM:=zA om;have B1:=zA b1;clear om b1))
   | (go_at_call 69;((with_reducible refine (CF.out _).mono ?_);rintro e w' ⟨vs,y2,rfl,rfl,os,b2⟩;obtain ⟨sa1,sc1,rfl,_,_⟩:=os.sl;have OS:=zA os;have B2:=zA b2;clear os b2))
   | (go_at_call 65;((with_reducible refine (CI.out _).mono ?_);rintro e w' ⟨vo,y3,rfl,rfl,oo,b3⟩;obtain ⟨oa1,oc1,rfl,_,_⟩:=oo.sl;have OO:=zA oo;have B3:=zA b3;clear oo b3)))
  all_goals
   go_wp2_with fail
   go_meet
   exact FIN1.out x0 y1 y2 y3 OM.out OS.out OO.out B1.out B2.out B3.out
 case rest =>
  obtain ⟨vm,vs,vo,k1,k2,o1,o2,o3,hb⟩:=hcut
  have hsz:=zBh (c:=c) (ms:=vm) (ss:=vs) (os:=vo) H8.out
  have hone:=zDm (R:=R) (c:=c) (zBv o1) (zBv o2) (zBv o3)
  have K1:=zA k1
  have K2:=zA k2
  have O1:=zA o1
  have O2:=zA o2
  have O3:=zA o3
  have HBW:=zA hb
  have HSZ2:=zA hsz
  have HONE:=zA hone
  have HEX:=zA (show (mcs R c vm vs vo).extract 0 (0+64)=mcs R c vm vs vo by rw [Array.extract_eq_self_of_le (by rw [hsz];omega)])
  clear k1 k2 o1 o2 o3 hb hsz hone
  go_wp2_with (first
   | (refine zAZ rfl 60 (.tmp 1) rfl w.heap.size 0 64 rfl 60 _ _ K1.out Tryz.underlying60 rfl (by kernel_rfl) (by have:=HSZ2.out;omega) _ HEX.out ?_)
   | (refine wpList_store_rowTo rfl 60 (.tmp 2) (.tmp 15) rfl rfl (w.heap.size+1) (mcs R c vm vs vo) rfl rfl 60 _ K2.out (by rw [HSZ2.out];kernel_rfl) (by rw [HSZ2.out];kernel_rfl) HONE.out ?_))
  refine bodyPost_ret (results_cell_row (g:=w.heap.size+1) (t:=60) (cs:=mcs R c vm vs vo) (fr:=(0,0)) rfl _ _ _ rfl (zDP K2.out _) Tryz.underlying60 rfl (by rw [HSZ2.out];kernel_rfl)) rfl ?_
  exact ⟨vm,vs,vo,rfl,zAl O1.out K2.out (by decide) _,zAl O2.out K2.out (by decide) _,zAl O3.out K2.out (by decide) _,zAm HBW.out (by omega) _⟩
end
section
open Go.ChangeShapes Go.WideShapes Go.ChangeAt Go.RowKit
theorem own:ownKnob Tryz.prog.godebug=none:=by kernel_rfl
theorem zNj:laidOutB Tryz.prog=true:=by kernel_rfl
section
variable {H:Type} {enc:TypeId×Value→H} {P:Program}
theorem zHC {f:Func} {s:ChangeSpec} {apart zA5 handsOn:Bool} {W W':World} {args:Array Value} {v:Value} {ds gs:List (DataW H)} {before pa pv:List MemPlace}
  (hW:DataW.Whole enc P f.params.toList s.vars apart W args.toList ds gs before)
  (hres:∀ (b:Nat) (sp:Nat→Bool) (hd:Bool),DataW.TrodAll enc P W' b sp hd f.resultTypes.toList (v.resultList f.resultTypes.size) (s.fn H (ds++gs)).results [])
  (hargs:DataW.TrodAll enc P W' 0 (fun b=>decide (b < W.heap.size)) true f.params.toList args.toList (s.fn H (ds++gs)).args pa)
  (hvars:DataW.TrodVars enc P W' (fun b=>decide (b < W.heap.size)) s.vars (s.fn H (ds++gs)).vars pv)
  (hps:before=pa++pv) (hb:Below W.heap.size W W') :
  s.post enc P f apart zA5 handsOn false W args v W':=by
 refine ⟨ds,gs,before,[],pa,pv,hW,hres _ _ _,hargs,hvars,World.keptBut_mono (fun p hp=>⟨hp,?_⟩) (hb.frame (· ∈ before)),fun h=>by cases h⟩
 rw [hps,List.mem_append] at hp
 exact Or.inr hp
theorem zEb {W W':World} (hl:laidOutB P=true) (hb:Below W.heap.size W W'):∀ {ts:List TypeId} {vs:List Value} {ds:List (DataW H)} {ps:List MemPlace},
  (∀ t∈ts,P.readableRec t=true∧t < P.types.size)→DataW.TrodAll enc P W 0 (fun _=>true) true ts vs ds ps→(∀ x∈ps,x.block < W.heap.size) →
  DataW.TrodAll enc P W' 0 (fun b=>decide (b < W.heap.size)) true ts vs ds ps
 | [],vs,ds,ps,_,h,_=>by
  obtain ⟨rfl,rfl,rfl⟩:=trodAll_nil h
  exact trodAll_mk0
 | t::ts,vs,ds,ps,ht,h,hp=>by
  obtain ⟨v0,vs0,d0,ds0,p0,q0,rfl,rfl,rfl,h0,r0⟩:=trodAll_cons h
  obtain ⟨h1,h2⟩:=ht t (by simp)
  exact trodAll_cons_mk (Below.trod hl h1 h2 h0 hb (fun x hx=>hp x (by simp [hx]))) (zEb hl hb (fun t' ht'=>ht t' (by simp [ht'])) r0 (fun x hx=>hp x (by simp [hx])))
end
theorem zMR {H:Type} {enc:TypeId×Value→H} {f:Func} {s:ChangeSpec} {W W':World} {args:Array Value} {ds:List (DataW H)} {p:List MemPlace}
  (hW:DataW.Whole enc Tryz.prog f.params.toList s.vars false W args.toList ds [] p)
  (hA:DataW.TrodAll enc Tryz.prog W 0 (fun _=>true) true f.params.toList args.toList ds p)
  (hr:f.resultTypes=#[4]) (hv:s.vars=[]) (hs:s.fn H (ds++[])={results:=[.lit (.bool true)],args:=ds})
  (hp:(f.params.toList.all fun t=>Tryz.prog.readableRec t&&decide (t < Tryz.prog.types.size))=true)
  (hb:Below W.heap.size W W') :
  s.post enc Tryz.prog f false true false false W args (.bool true) W':=by
 have hlt:∀ x∈p,x.block < W.heap.size:=fun x hx=>by simpa using hW.lt x hx
 refine zHC (pa:=p) (pv:=[]) (gs:=[]) hW (fun b sp hd=>?_) ?_ ?_ (by simp) hb
 ·rw [hs,hr]
  exact trodAll_cons_mk (shut_bool Tryz.underlying4 _) trodAll_mk0
 ·rw [hs]
  refine zEb zNj hb (fun t ht=>?_) hA hlt
  have:=List.all_eq_true.1 hp t ht
  simpa using this
 ·rw [hs,hv]
  exact rfl
end
section
open Go.Joins Go.ChangeShapes Go.WideShapes Go.ChangeAt Go.RowKit Go.Deep
section
variable {H:Type} {enc:TypeId×Value→H} {w:World} {base:Nat} {spare:Nat→Bool} {held:Bool}
theorem zLB {fuel:Nat} {c0 c1 c2 c3 c4:Value} {x:DataW H×List MemPlace} (h:DataW.trod enc Tryz.prog w base spare held fuel 54 [c0,c1,c2,c3,c4]=some x) :
  ∃ k:KeyV,c0=.int .i64 k.perm∧c1=.int .i64 k.base∧c2=.int .i64 k.len∧c3=.int .i64 k.at_∧c4=.int .i64 k.seal_∧k.wf:=by
 obtain ⟨xs,n,_,hx,_,hlen,hg⟩:=DataW.trod_struct Tryz.underlying54 h
 have hs:Tryz.prog.cellsOf 3=1:=by kernel_rfl
 have g0:DataW.trod enc Tryz.prog w base spare held n 3 [c0]=xs[0]?:=by simpa [hs] using hg 0 _ rfl
 have g1:DataW.trod enc Tryz.prog w base spare held n 3 [c1]=xs[1]?:=by simpa [hs] using hg 1 _ rfl
 have g2:DataW.trod enc Tryz.prog w base spare held n 3 [c2]=xs[2]?:=by simpa [hs] using hg 2 _ rfl
 have g3:DataW.trod enc Tryz.prog w base spare held n 3 [c3]=xs[3]?:=by simpa [hs] using hg 3 _ rfl
 have g4:DataW.trod enc Tryz.prog w base spare held n 3 [c4]=xs[4]?:=by simpa [hs] using hg 4 _ rfl
 have e0:xs[0]?=some (xs[0]'(by rw [hlen];decide)):=List.getElem?_eq_getElem _
 have e1:xs[1]?=some (xs[1]'(by rw [hlen];decide)):=List.getElem?_eq_getElem _
 have e2:xs[2]?=some (xs[2]'(by rw [hlen];decide)):=List.getElem?_eq_getElem _
 have e3:xs[3]?=some (xs[3]'(by rw [hlen];decide)):=List.getElem?_eq_getElem _
 have e4:xs[4]?=some (xs[4]'(by rw [hlen];decide)):=List.getElem?_eq_getElem _
 obtain ⟨a0,f0,_,w0⟩:=DataW.trod_int Tryz.underlying3 (g0.trans e0)
 obtain ⟨a1,f1,_,w1⟩:=DataW.trod_int Tryz.underlying3 (g1.trans e1)
 obtain ⟨a2,f2,_,w2⟩:=DataW.trod_int Tryz.underlying3 (g2.trans e2)
 obtain ⟨a3,f3,_,w3⟩:=DataW.trod_int Tryz.underlying3 (g3.trans e3)
 obtain ⟨a4,f4,_,w4⟩:=DataW.trod_int Tryz.underlying3 (g4.trans e4)
 simp at f0 f1 f2 f3 f4
 exact ⟨⟨a0,a1,a2,a3,a4⟩,f0,f1,f2,f3,f4,⟨zDz w0,zDz w1,zDz w2,zDz w3,zDz w4⟩⟩
theorem zMH {r:Reach} {b0:Nat} {v:Value} {d:DataW H} {p:List MemPlace} (hv:Value.okWide Tryz.prog w r b0 54 v) (h:DataW.Trod enc Tryz.prog w base spare held 54 v d p) :
  ∃ k:KeyV,v=k.val∧k.wf:=by
 obtain ⟨cs,rfl,hsz⟩:=okWide_struct Tryz.underlying54 hv
 have hs:Tryz.prog.cellsOf 54=5:=by kernel_rfl
 obtain ⟨l⟩:=cs
 match l,hsz.trans hs with
 | [c0,c1,c2,c3,c4],_ =>
  obtain ⟨fuel,hf⟩:=h
  obtain ⟨k,rfl,rfl,rfl,rfl,rfl,hw⟩:=zLB hf
  exact ⟨k,rfl,hw⟩
end
end
section
open Go.Joins Go.ChangeShapes Go.WideShapes Go.ChangeAt Go.RowKit Go.Deep
section
variable {H:Type} {enc:TypeId×Value→H} {w:World} {base:Nat} {spare:Nat→Bool} {held:Bool}
end
end
section
open El (cl)
open Go.Joins Go.ChangeShapes Go.WideShapes Go.ChangeAt Go.RowKit Go.Deep
structure SlV (α:Type) where
 ao:Option Addr
 n:Nat
 cap:Nat
 vs:List α
def SlV.val {α:Type} (x:SlV α):Value:=.slice x.ao x.n x.cap
structure SlV.ok {α:Type} [El α] (P:α→Prop) (w:World) (x:SlV α):Prop where
 sl:Sl w x.ao x.n x.vs
 wf:∀ v∈x.vs,P v
 le:x.n≤x.cap
section
variable {α:Type} [El α]
theorem zH8 {w:World} {a:Addr}:∀ {xs:List α},(∀ i x,xs[i]?=some x→∀ j,j < El.k α→w.cell? (a.add (i*El.k α+j))=(cl x)[j]?)→∀ j u,(cls xs)[j]?=some u→w.cell? (a.add j)=some u:=by
 intro xs h j u hu
 have hk:0 < El.k α:=El.pos
 have hj:j < xs.length*El.k α:=by
  rw [←zB3]
  exact (List.getElem?_eq_some_iff.1 hu).1
 have hd:j / El.k α < xs.length:=Nat.div_lt_of_lt_mul (by rw [Nat.mul_comm];exact hj)
 have hm:j % El.k α < El.k α:=Nat.mod_lt _ hk
 have e:j / El.k α*El.k α+j % El.k α=j:=Nat.div_add_mod' _ _
 have h1:=zC5 xs (j / El.k α) hd (j % El.k α) hm
 rw [e,hu] at h1
 have h2:=h (j / El.k α) _ (List.getElem?_eq_getElem hd) _ hm
 rw [e] at h2
 rw [h2,h1]
end
section
variable {H:Type} {enc:TypeId×Value→H} {w:World} {spare:Nat→Bool} {held:Bool}
theorem zMI {α:Type} [El α] [Inhabited α] {r:Reach} {b0:Nat} {t e:TypeId} {v:Value} {d:DataW H} {p:List MemPlace} {Q:α→Prop} (ht:Tryz.prog.underlying t=some (.slice e)) (hk:Tryz.prog.cellsOf e=El.k α)
  (el:∀ fuel cs x,DataW.trod enc Tryz.prog w 0 spare held fuel e cs=some x→cs.length=El.k α→∃ y:α,cs=cl y∧Q y)
  (hv:Value.okWide Tryz.prog w r b0 t v) (h:DataW.Trod enc Tryz.prog w 0 spare held t v d p):∃ x:SlV α,v=x.val∧x.ok Q w∧(x.n=0∨∃ es sp,d=.slice es sp∧es.length=x.n):=by
 obtain ⟨a0,len,cap,rfl⟩:=okWide_slice ht hv
 obtain ⟨fuel,hf⟩:=h
 rcases open_slice ht hf with ⟨hcs,_⟩ | ⟨a,len',cap',m,n,D,Pl,hcs,hb,hl,hm,hmm,hx,hi⟩
 ·simp [Value.cells] at hcs
  obtain ⟨rfl,rfl,rfl⟩:=hcs
  exact ⟨⟨none,0,0,[]⟩,rfl,⟨Sl.nil _ _,fun v hv=>by simp at hv,Nat.le_refl _⟩,.inl rfl⟩
 ·simp [Value.cells] at hcs
  obtain ⟨rfl,rfl,rfl⟩:=hcs
  have hlm:len≤m:=by rw [hmm];split<;>omega
  obtain ⟨f,hf⟩:=choose_lt (α:=α) (n:=len) (p:=fun i y=>(∀ j,j < El.k α→w.cell? (a.add (i*El.k α+j))=(cl y)[j]?)∧Q y) (fun i hil=>by
   obtain ⟨cs',h1,h2⟩:=hi i (by omega)
   rw [hk] at h1
   obtain ⟨_,hcl,hat⟩:=World.cells?_some h1
   obtain ⟨y,rfl,hy⟩:=el n cs' _ h2 hcl
   exact ⟨y,fun j hj=>by rw [←Go.Deep.add_add];exact hat j hj,hy⟩)
  have hcells:∀ j u,(cls ((List.range len).map f))[j]?=some u→w.cell? (a.add j)=some u:=zH8 (fun i x hx j hj=>by
   rw [List.getElem?_map] at hx
   have hil:i < len:=by
    rcases Nat.lt_or_ge i len with h | h
    ·exact h
    ·rw [List.getElem?_eq_none (by simpa using h)] at hx;cases hx
   rw [List.getElem?_range hil] at hx
   simp at hx
   subst hx
   exact (hf i hil).1 j hj)
  simp only [Prod.mk.injEq] at hx
  refine ⟨⟨some a,len,cap,(List.range len).map f⟩,rfl,⟨⟨by simp,Nat.le_trans hl hm,fun hn=>⟨a,rfl,?_,hcells⟩⟩,fun v hv=>?_,hl⟩,.inr ⟨_,_,hx.1,by simp⟩⟩
  ·have h0:=(hf 0 hn).1 0 El.pos
   have hl0:0 < (cl (f 0)).length:=by rw [El.len];exact El.pos
   rw [List.getElem?_eq_getElem hl0] at h0
   have:=World.block_lt_of_cell? w _ h0
   rw [zBH] at this
   exact this
  ·obtain ⟨i,hi1,rfl⟩:=List.mem_map.1 hv
   exact (hf i (List.mem_range.1 hi1)).2
end
end
section
open El (cl)
open Go.Joins Go.ChangeShapes Go.WideShapes Go.ChangeAt Go.RowKit Go.Deep
structure MachA where
 R:List ValV
 c:KeyV
 mem:List ValV
 stk:List FrameV
 out:List Int
 ma:Option Addr
 sa:Option Addr
 oa:Option Addr
 mc:Nat
 sc:Nat
 oc:Nat
def MachA.val (x:MachA):Value:=.agg (mcs x.R x.c (.slice x.ma x.mem.length x.mc) (.slice x.sa x.stk.length x.sc) (.slice x.oa x.out.length x.oc))
structure MachA.ok (w:World) (x:MachA):Prop where
 h8:x.R.length=8
 mem:Sl w x.ma x.mem.length x.mem
 stk:Sl w x.sa x.stk.length x.stk
 out:Sl w x.oa x.out.length x.out
 wR:∀ v∈x.R,v.wf
 wc:x.c.wf
 wm:∀ v∈x.mem,v.wf
 ws:∀ f∈x.stk,f.wf
 wo:∀ n∈x.out,I64 n
section
variable {H:Type} {enc:TypeId×Value→H} {w:World} {spare:Nat→Bool} {held:Bool}
end
end
end Go.Proofs.YtlpejagkadalbaaGreatDoor
