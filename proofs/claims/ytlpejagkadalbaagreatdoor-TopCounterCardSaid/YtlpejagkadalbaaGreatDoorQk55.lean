import Derived.Test.YtlpejagkadalbaaGreatDoorQk50
import Derived.Test.YtlpejagkadalbaaGreatDoorQk54
import Derived.Maps.OwnIn
set_option maxHeartbeats 40000000
set_option maxRecDepth 100000
set_option linter.unusedVariables false
set_option linter.unusedSimpArgs false
namespace Go.Proofs.YtlpejagkadalbaaGreatDoor
section
open El (cl)
open Go.RowKit
def zGu (S G:KeyV→Prop) (k:KeyV):Prop:=S k∨(k.seal_=0∧DomT G k)
def HasV (S G:KeyV→Prop) (v:ValV):Prop:=v.is=true→zGu S G v.k
structure Cl (S G:KeyV→Prop) (m:MV):Prop where
 regs:∀ v∈m.R,HasV S G v
 code:m.c.seal_=0∧DomT G m.c
 stk:∀ f∈m.stk,(f.code.seal_=0∧DomT G f.code)∧HasV S G f.data
 mem:∀ j:Nat,HasV S G (m.mem.getD j zeroV)
section
variable {S G:KeyV→Prop} {m n:MV} {i:InstV} {k q:KeyV}
theorem HasV.num (n:Int):HasV S G (nV n):=fun h=>by cases h
theorem HasV.zero:HasV S G zeroV:=fun h=>by cases h
theorem HasV.key (h:zGu S G k):HasV S G (kV k):=fun _=>h
theorem Cl.reg (h:Cl S G m) (r:Int):HasV S G (m.reg r):=by
 unfold MV.reg
 rw [List.getD_eq_getElem?_getD]
 cases hr:m.R[r.toNat]? with
 | none=>exact HasV.zero
 | some v=>exact h.regs v (List.mem_of_getElem? hr)
theorem Cl.key (h:Cl S G m) {r:Int} (hk:m.key r=.ok k):zGu S G k:=by
 obtain ⟨h1,rfl⟩:=zFq hk
 exact h.reg r h1
theorem Cl.set (h:Cl S G m) (r:Int) {v:ValV} (hv:HasV S G v):Cl S G (m.set r v) :=
 ⟨fun u hu=>by
  rcases List.mem_or_eq_of_mem_set hu with hu | rfl
  ·exact h.regs u hu
  ·exact hv,h.code,h.stk,h.mem⟩
theorem Cl.fwd (h:Cl S G m) (d:Int):Cl S G (m.fwd d):=⟨h.regs,⟨h.code.1,h.code.2.at _⟩,h.stk,h.mem⟩
theorem zNB {k q:KeyV} {n:Int} (h:zBm k n=(q,0)):q.seal_=k.seal_:=by
 unfold zBm at h
 split at h
 ·split at h
  ·injection h with h _;rw [←h]
  ·injection h with _ h;cases h
 ·rename_i h0;injection h with _ h;exact absurd h h0
theorem zKZ {k q:KeyV} {n:Int} (h:zA6 k n=(q,0)):q.seal_=k.seal_:=by
 unfold zA6 at h
 split at h
 ·split at h
  ·injection h with h _;rw [←h]
  ·injection h with _ h;cases h
 ·rename_i h0;injection h with _ h;exact absurd h h0
theorem zNm {k q:KeyV} {n:Int} (h:zCF k n=(q,0)):q.seal_=k.seal_:=by
 unfold zCF at h
 split at h
 ·injection h with h _;rw [←h]
 ·rename_i h0;injection h with _ h;exact absurd h h0
theorem zLC {c:KeyV} {p:Int} (b:Nat) (hb:b < 64) (hp:p=((2 ^ b:Nat):Int)) (hc:zGu S G c) (hS:∀ k,S k→k.seal_≠0) (hG:∀ g,G g→(bv g.perm).getLsbD b=false):zBp c p≠0:=by
 intro h
 unfold zBp at h
 by_cases h0:c.seal_=0
 ·rw [if_pos h0] at h
  by_cases h1:zAN c.perm p=0
  ·rw [if_pos h1] at h;cases h
  ·rcases hc with hc | ⟨_,g,g1,_,g2⟩
   ·exact hS c hc h0
   ·rw [hp] at h1
    have:=(zBV _ _).1 g2 b (zEN b hb h1)
    rw [hG g g1] at this
    cases this
 ·rw [if_neg h0] at h;cases h
theorem zKb (hs:KeyStep i m k q) (h:zGu S G k) (hm:Cl S G m) (hS:∀ k,S k→k.seal_≠0) (h5:∀ g,G g→(bv g.perm).getLsbD 5=false) (h6:∀ g,G g→(bv g.perm).getLsbD 6=false):zGu S G q:=by
 have lift:∀ q:KeyV,k.seal_=0→q.seal_=k.seal_→zC2 q k→0≤q.len→zGu S G q:=by
  intro q h0 hq hl hn
  rcases h with h | ⟨_,h⟩
  ·exact absurd h0 (hS k h)
  ·exact .inr ⟨hq.trans h0,h.less hl hn⟩
 cases hs with
 | mvK ho hn hq=>have:=zIM (k:=k) (n:=_) (by rw [hq]);rw [hq] at this;exact lift q this.2.2.1 (zNB hq) this.2.2.2 this.1.l0
 | nwK ho hn hq=>have:=zGO (k:=k) (n:=_) (by rw [hq]);rw [hq] at this;exact lift q this.2.2.1 (zKZ hq) this.2.2.2 this.1.l0
 | drK ho hq=>have:=zIh (k:=k) (n:=_) (by rw [hq]);rw [hq] at this;exact lift q this.2.2.1 (zNm hq) this.2.2.2 this.1.l0
 | slK ho hn hq =>
  exfalso
  rename_i c
  have hc:=zLC 5 (by decide) (p:=32) rfl (hm.key hn) hS h5
  unfold zBN at hq
  split at hq
  ·split at hq
   ·injection hq with _ hq;exact hc hq
   ·rename_i h0;injection hq with _ hq;exact h0 hq
  ·rename_i h0;injection hq with _ hq;exact h0 hq
 | opK ho hn hq =>
  exfalso
  rename_i c
  have hc:=zLC 6 (by decide) (p:=64) rfl (hm.key hn) hS h6
  unfold zBO at hq
  split at hq
  ·split at hq
   ·injection hq with _ hq;cases hq
   ·injection hq with _ hq;exact hc hq
  ·rename_i h0;injection hq with _ hq;exact h0 hq
theorem zOu (h:Cl S G m) {off:Int} {v:ValV} (hg:zBr m.mem k off=(v,0)):HasV S G v:=by
 have h1:(atF m.mem.length k off 1).2=0:=by
  by_cases e:(atF m.mem.length k off 1).2=0
  ·exact e
  ·simp only [zBr] at hg
   rw [if_pos e] at hg
   injection hg with _ hg
 obtain ⟨a1,a2,a3,a4,a5,a6,a7⟩:=atF_ok.1 h1
 have hb:=(covB_iff.1 a6).1
 have hp:=a1.b0
 obtain ⟨j,hj⟩:=Int.eq_ofNat_of_zero_le (show 0≤k.at_+off by omega)
 rw [zEL h1 hj] at hg
 by_cases hc:(m.mem.getD j zeroV).is=true∧zAN k.perm 8=0
 ·rw [if_pos hc] at hg
  injection hg with hg
  rw [←hg]
  exact HasV.zero
 ·rw [if_neg hc] at hg
  injection hg with hg
  rw [←hg]
  exact h.mem j
theorem zOQ (h:Cl S G m) (hS:∀ k,S k→k.seal_≠0) (h5:∀ g,G g→(bv g.perm).getLsbD 5=false) (h6:∀ g,G g→(bv g.perm).getLsbD 6=false) {v:ValV} (hs:SetV i m v):HasV S G v:=by
 cases hs with
 | set ho=>exact HasV.num _
 | copy ho=>exact h.reg _
 | nums ho hb hc hn=>exact HasV.num _
 | ask0 ho hc=>exact HasV.num _
 | ask ho hc hk=>exact HasV.num _
 | here ho=>exact HasV.key (.inr h.code)
 | load ho hk hg=>exact zOu h hg
 | key hk hs=>exact HasV.key (zKb hs (h.key hk) h hS h5 h6)
theorem zMc (h:∀ j:Nat,HasV S G (m.mem.getD j zeroV)) {v:ValV} (hv:HasV S G v) (k:KeyV) (off:Int) (j:Nat):HasV S G ((zAz m.mem k off v).getD j zeroV):=by
 unfold zAz
 by_cases e:(k.at_+off).toNat=j
 ·subst e
  rw [List.getD_eq_getElem?_getD]
  by_cases hl:(k.at_+off).toNat < m.mem.length
  ·rw [List.getElem?_set_self hl];exact hv
  ·rw [List.getElem?_eq_none (by rw [List.length_set];omega)];exact HasV.zero
 ·have:=h j
  rw [List.getD_eq_getElem?_getD] at this ⊢
  rw [List.getElem?_set_ne e];exact this
structure ClStep (S G:KeyV→Prop) (m n:MV):Prop where
 cl:Cl S G n
 len:n.mem.length=m.mem.length
 mem:∀ j:Nat,¬zEu G 2 j→n.mem.getD j zeroV=m.mem.getD j zeroV
theorem Cl.step (h:Cl S G m) (hS:∀ k,S k→k.seal_≠0) (h5:∀ g,G g→(bv g.perm).getLsbD 5=false) (h6:∀ g,G g→(bv g.perm).getLsbD 6=false) (hs:Stepd i m n) :
  ClStep S G m n∨∃ a b,S a∧S b∧a.seal_=b.seal_∧zAN a.perm 4≠0∧zAN b.perm 4=0∧n={m with stk:=m.stk++[⟨{m.c with at_:=m.c.at_+1},m.reg 7⟩],c:=zBU a,R:=m.R.set 7 (kV (zBU b))}:=by
 cases hs with
 | set hv=>exact .inl ⟨(h.set _ (zOQ h hS h5 h6 hv)).fwd 1,rfl,fun _ _=>rfl⟩
 | store ho hk hp =>
  rename_i k
  have h0:(atF m.mem.length k i.c 2).2=0:=by
   by_cases h0:(atF m.mem.length k i.c 2).2=0
   ·exact h0
   ·rw [zFB h0] at hp;exact absurd hp h0
  obtain ⟨a1,a2,a3,a4,a5,a6,a7⟩:=atF_ok.1 h0
  have hb:=(covB_iff.1 a6).1
  have hp0:=a1.b0
  obtain ⟨j,hj⟩:=Int.eq_ofNat_of_zero_le (show 0≤k.at_+i.c by omega)
  refine .inl ⟨Cl.fwd (m:={m with mem:=zAz m.mem k i.c (m.reg i.a)}) ⟨h.regs,h.code,h.stk,fun l=>zMc h.mem (h.reg _) k i.c l⟩ 1,?_,fun l hl=>?_⟩
  ·show (zAz m.mem k i.c (m.reg i.a)).length=_
   unfold zAz
   rw [List.length_set]
  ·show (zAz m.mem k i.c (m.reg i.a)).getD l zeroV=_
   have e:(k.at_+i.c).toNat≠l:=by
    rintro rfl
    rcases h.key hk with hx | ⟨_,g,g1,g2⟩
    ·exact hS k hx a2
    ·refine hl ⟨g,g1,zCn (zHX a3) g2.2,?_⟩
     have:=zDm g2 a6
     rw [hj] at this ⊢
     simpa using this
   unfold zAz
   rw [List.getD_eq_getElem?_getD,List.getElem?_set_ne e,←List.getD_eq_getElem?_getD]
 | clear ho =>
  refine .inl ⟨Cl.fwd (m:={m with R:=zCB i.c m.R}) ⟨fun v hv=>?_,h.code,h.stk,h.mem⟩ 1,rfl,fun _ _=>rfl⟩
  simp only [zCB,List.mem_mapIdx] at hv
  obtain ⟨r,hr,rfl⟩:=hv
  split
  ·exact HasV.zero
  ·exact h.regs _ (List.getElem_mem hr)
 | tell ho hn hl=>rename_i x;exact .inl ⟨Cl.fwd (m:={m with out:=m.out++[x]}) ⟨h.regs,h.code,h.stk,h.mem⟩ 1,rfl,fun _ _=>rfl⟩
 | jump ho hn=>exact .inl ⟨h.fwd _,rfl,fun _ _=>rfl⟩
 | ifn ho hn hd hx=>exact .inl ⟨h.fwd _,rfl,fun _ _=>rfl⟩
 | call ho ha hb h1 h2 h3 h4 h5' =>
  rename_i a b
  have sa:S a:=by
   rcases h.key ha with hx | ⟨hx,_⟩
   ·exact hx
   ·exact absurd hx h1
  have sb:S b:=by
   rcases h.key hb with hx | ⟨hx,_⟩
   ·exact hx
   ·exact absurd (h2.trans hx) h1
  exact .inr ⟨a,b,sa,sb,h2,h3,h4,rfl⟩
 | back ho hb =>
  rename_i s f
  have hf:=h.stk f (by rw [hb];simp)
  refine .inl ⟨⟨fun v hv=>?_,hf.1,fun f' hf'=>h.stk f' (by rw [hb];exact List.mem_append_left _ hf'),h.mem⟩,rfl,fun _ _=>rfl⟩
  rcases List.mem_or_eq_of_mem_set hv with hv | rfl
  ·exact h.regs v hv
  ·exact hf.2
end
end
section
open Go Go.RowKit Go.Shelf
attribute [local go_sem] Oper.semAt_some
theorem zHd {P:Program} {fn:Func} {p q:Tmp} (h:fn.results=#[.tmp p,.tmp q]) (tmps:Array Value) (w:World):(results fn tmps).run P w=.ok (.tuple #[tmps.getD p undef,tmps.getD q undef]) w:=by
  simp [results,h]
theorem zNY:(Tryz.prog.info? 3).map (fun i=>(i.zero,i.size,i.bytes))=some (some (.int .i64 0),1,8):=by kernel_rfl
theorem zKS (m:MV) (ma sa oa:Option Addr) (mc sc oc:Nat) (fu:Nat) (w:World) (h8:m.R.length=8)
    (hm:Sl w ma m.mem.length m.mem) (hs:Sl w sa m.stk.length m.stk) (ho:Sl w oa m.out.length m.out) (hok:m.Ok) (ht:Tab w) (hfu:fu≤5000):Calls Tryz.prog 18 #[.agg (mcs m.R m.c (.slice ma m.mem.length mc) (.slice sa m.stk.length sc) (.slice oa m.out.length oc)),.int .i64 fu] w (fun e w'=>∃ v,e=.returned (.tuple #[v,.int .i64 0])∧Own w' w.heap.size 3 v (m.places fu)∧Below w.heap.size w w'):=by
  have hsz:=zBc (c:=m.c) (ms:=.slice ma m.mem.length mc) (ss:=.slice sa m.stk.length sc) (os:=.slice oa m.out.length oc) h8
  have sck:=zFA m ma sa oa mc sc oc fu
  have cpd:=zHP m.R m.c m.mem m.stk m.out ma sa oa mc sc oc
  obtain ⟨cs,hcs⟩:∃ cs,cs=mcs m.R m.c (.slice ma m.mem.length mc) (.slice sa m.stk.length sc) (.slice oa m.out.length oc):=⟨_,rfl⟩
  rw [←hcs] at hsz sck cpd ⊢
  have hex:cs.extract 0 (0+64)=cs:=by rw [Array.extract_eq_self_of_le (by rw [hsz];omega)]
  obtain ⟨w1,hw1⟩:∃ w1,w1=w.alloc (.cells cs 60):=⟨_,rfl⟩
  have hB:Bk w1 w.heap.size 60 cs:=by rw [hw1];exact zM _ _ _
  have h1w:Below w.heap.size w w1:=by rw [hw1];exact zG (Below.refl _ _) _
  have sc1:=sck w1 h8 (hm.below h1w) (hs.below h1w) (ho.below h1w)
  have l400:=hok.1.len
  have l16:=hok.1.deep
  have l100:=hok.1.told
  have hc:zCN m fu=0:=by
    unfold zCN MV.check
    rw [if_neg (by omega)]
    exact stepCheck_zero.2 hok.1
  rw [hc] at sc1
  have cp:=fun y:Later w1=>cpd y.val h8 ((hm.below h1w).below y.ok) ((hs.below h1w).below y.ok) ((ho.below h1w).below y.ok) (by omega) (by omega) (by omega)
  unfold zMU at cp
  have SC:=zA sc1
  have CP:=zA cp
  have HW1:=zA hw1
  have HSZ:=zA hsz
  have HEX:=zA hex
  have HB:=zA hB
  have H1W:=zA h1w
  have HOK:=zA hok
  have HT:=zA ht
  have H8:=zA h8
  have hz1:w1.heap.size=w.heap.size+1:=by rw [hw1];simp
  clear hsz hex hB h1w hw1 hm hs ho h8 sck cpd sc1 cp hcs hc hok ht
  refine (callsIn_wide (n:=3)).1 ?_
  refine callsIn_of_wp_marks Tryz.func18 rfl trivial ?_ rfl
  refine wpIn_wide.2 ?_
  simp only [Tryz.ntmps18,List.size_toArray,List.length_cons,List.length_nil,Nat.reduceAdd,Nat.reduceSub,Array.replicate_succ,Array.replicate_zero,List.push_toArray,List.append_toArray,List.nil_append,List.cons_append]
  go_upto_region 1 with (fail)
  rw [←HW1.out]
  go_upto_region 5 with (first
    | (refine zAm rfl 60 (.tmp 2) rfl w.heap.size 0 64 rfl 60 _ _ HB.out Tryz.underlying60 rfl (by kernel_rfl) (by have:=HSZ.out;omega) _ HEX.out ?_)
    | (refine zAm rfl 60 (.tmp 2) rfl w.heap.size 0 64 rfl 60 _ _ (y1.bk HB.out) Tryz.underlying60 rfl (by kernel_rfl) (by have:=HSZ.out;omega) _ HEX.out ?_)
    | (go_at_call 40;((with_reducible refine SC.out.mono ?_);rintro e w' ⟨rfl,hb⟩;obtain ⟨y1,rfl⟩:=zAF (Below.refl _ _) hb;clear hb))
    | (go_at_call 41;((with_reducible refine (CP.out y1).mono ?_);rintro e w2 ⟨vm,vs,vo,rfl,om,os,oo,hb2⟩;obtain ⟨mma,mmc,rfl,_,_⟩:=om.sl;obtain ⟨ssa,ssc,rfl,_,_⟩:=os.sl;obtain ⟨ooa,ooc,rfl,_,_⟩:=oo.sl;have OM:=zA om;have OS:=zA os;have OO:=zA oo;have HB22:=zA hb2;have HSZ2:=zA (zBc (c:=m.c) (ms:=.slice mma m.mem.length mmc) (ss:=.slice ssa m.stk.length ssc) (os:=.slice ooa m.out.length ooc) H8.out);have HONE:=zA (zDk (R:=m.R) (c:=m.c) (zBn om) (zBn os) (zBn oo));clear om os oo hb2))
    | (refine wpList_store_rowTo rfl 60 (.tmp 2) (.tmp 17) rfl rfl w.heap.size (mcs m.R m.c (.slice mma m.mem.length mmc) (.slice ssa m.stk.length ssc) (.slice ooa m.out.length ooc)) rfl rfl 60 _ (zH HB22.out (y1.bk HB.out)) (by rw [HSZ2.out];kernel_rfl) (by rw [HSZ2.out,HSZ.out]) HONE.out ?_))
  obtain ⟨base,hbase⟩:∃ base,base=y1.val.heap.size:=⟨_,rfl⟩
  obtain ⟨W0,hW0⟩:∃ W0,W0=w2.setRow w.heap.size (mcs m.R m.c (.slice mma m.mem.length mmc) (.slice ssa m.stk.length ssc) (.slice ooa m.out.length ooc)):=⟨_,rfl⟩
  have hwl:w.heap.size+1≤y1.val.heap.size:=by rw [←hz1];exact y1.ok.size
  have hy2:y1.val.heap.size≤w2.heap.size:=HB22.out.size
  have k1:=zH HB22.out (y1.bk HB.out)
  have hsz0:W0.heap.size=w2.heap.size:=by rw [hW0];simp
  have hm0:MS base w.heap.size (.slice mma m.mem.length mmc) (.slice ssa m.stk.length ssc) (.slice ooa m.out.length ooc) m W0:=by
    rw [hW0,hbase]
    exact ⟨H8.out,zDW k1 _,zAi OM.out k1 (by decide) _,zAi OS.out k1 (by decide) _,zAi OO.out k1 (by decide) _⟩
  have h0w:Below w.heap.size w W0:=by rw [hW0];exact zDc (zI (zI H1W.out y1.ok) HB22.out) (Nat.le_refl _) _
  have hbw:w.heap.size+1≤base:=by omega
  have hb0:base≤W0.heap.size:=by omega
  rw [←hW0]
  have HM0:=zA hm0
  have H0W:=zA h0w
  clear hW0 k1 hm0 h0w OM OS OO HB22 HSZ2 HONE hsz0 hy2 hbase
  go_wp2_with (go_at_call 42;(refine (zH7 _ _ _ _).mono ?_);rintro e w5 ⟨rfl,rfl⟩)
  obtain ⟨H,hH⟩:∃ H,H=W0.heap.size:=⟨_,rfl⟩
  obtain ⟨W5,hW5⟩:∃ W5,W5=((((W0.alloc (.cells #[.int .i64 0] 29)).alloc (.cells #[.slice none 0 0] 36)).alloc (.cells #[.pointer (some ⟨w.heap.size,0,none⟩)] 111)).alloc (.cells #[.int .i64 fu] 3)).alloc (.cells #[.pointer (some ⟨W0.heap.size,0,none⟩)] 112):=⟨_,rfl⟩
  have b05:Below W0.heap.size W0 W5:=by rw [hW5];exact zG (zG (zG (zG (zG (Below.refl _ _) _) _) _) _) _
  have z5:W5.heap.size=W0.heap.size+5:=by rw [hW5];simp
  have lt:=fun k (hk:mS w.heap.size (.slice mma m.mem.length mmc) (.slice ssa m.stk.length ssc) (.slice ooa m.out.length ooc) k)=>HM0.out.lt hk
  obtain ⟨bb,hbb⟩:∃ bb,bb=RunB.mk base w.heap.size H (H+1) (H+1+1+1) (H+1+1) (H+1+1+2) w.heap.size fu:=⟨_,rfl⟩
  have hst:PlSt w bb [] m 0 W5:=by
    rw [hbb,hH]
    refine ⟨⟨_,_,_,.slice none 0 0,HM0.out.below b05,⟨fun h=>?_,fun h=>?_,fun h=>?_,fun h=>?_⟩,?_,Own.nil _ _ _,fun g hg=>by cases hg⟩,?_,?_,?_,?_,zI H0W.out b05,?_⟩
    · have:=lt _ h;simp only at this;omega
    · have:=lt _ h;simp only at this;omega
    · have:=lt _ h;simp only at this;omega
    · have:=lt _ h;simp only at this;omega
    · rw [hW5];exact zN _ (zN _ (zN _ (zO _ _ (by simp))))
    · rw [hW5];exact zN _ (zN _ (zN _ (zN _ (zM _ _ _))))
    · rw [hW5];exact zN _ (zO _ _ (by simp))
    · rw [hW5];exact zN _ (zN _ (zO _ _ (by simp)))
    · rw [hW5];exact zO _ _ (by simp)
    · have:=H0W.out.size
      refine ⟨?_,?_,?_,?_,?_⟩<;>simp only<;>omega
  rw [←hH] at hW5 z5
  simp only [←hH]
  rw [←hW5]
  have HST:=zA hst
  have HBB:=zA hbb
  have hHw:w.heap.size+1≤H:=by omega
  clear hW5 hst hbb hH lt b05 HM0
  generalize (mcs m.R m.c (.slice mma m.mem.length mmc) (.slice ssa m.stk.length ssc) (.slice ooa m.out.length ooc))=cs2
  refine (wpIn_wide (n:=3)).1 ?_
  refine zEA (β:=List Int×MV×Int) rfl (by decide) (gf:=70) (lb:=#[.pointer (some ⟨H+1+1+1,0,none⟩),.pointer (some ⟨H+1+1,0,none⟩),.pointer (some ⟨H+1+1+2,0,none⟩)]) rfl trivial (enters_of Tryz.func70 (by kernel_rfl) rfl)
    (fun x=>#[.int .i64 x.2.2]) (fun _=>rfl) (fun x W=>x.1.length < fu∧PlSt w bb x.1 x.2.1 0 W) (fun x W=>PlSt w bb (x.1++[x.2.2]) x.2.1 0 W) (fun W=>∃ e',PlSt w bb (m.places fu) (m.run fu).1 e' W)
    (fun x W l o o' h hl hk hc=>⟨h.1,h.2.putObj hk hc (by omega)⟩) (fun x W l o o' h hl hk hc=>h.putObj hk hc (by omega)) (fun W l o o' h hl hk hc=>⟨h.choose,h.choose_spec.putObj hk hc (by omega)⟩) (fun x=>{tmps:=#[.agg cs,.int .i64 fu,.pointer (some ⟨w.heap.size,0,none⟩),undef,.slice none 0 0,.int .i64 0,.int .i64 0,.pointer (some ⟨H,0,none⟩),.pointer (some ⟨H+1,0,none⟩),.int .i64 x.2.2,.agg cs,.int .i64 fu,.int .i64 0,.int .i64 0,.bool false,undef,.agg cs,.agg cs2,.int .i64 fu,.func (.func 70) #[] #[.pointer (some ⟨H+1+1+1,0,none⟩),.pointer (some ⟨H+1+1,0,none⟩),.pointer (some ⟨H+1+1+2,0,none⟩)],.int .i64 x.2.2,undef,undef,undef,undef,undef],defers:=[]})
    ?assign ?body ?iter ?done
  case assign =>
    intro l x W K hK
    gi_wp2
    simpa using hK
  case body =>
    rintro l ⟨L,mk,at_⟩ W ⟨hk,hW⟩
    simp only at hk hW
    obtain ⟨vm,vs,vo,vl,g1,g2,g3,g4,g5⟩:=hW.ms
    have hgn:bb.gn=H+1:=by rw [HBB.out]
    have g3':=g3
    rw [hgn] at g3'
    have c0:=g3'.cell 0
    have f0:=g3'.frozen 0
    simp only [List.getElem?_toArray,List.getElem?_cons_zero] at c0
    have hbl:=g3'.lt
    have hbel:=hW.below
    have hbw:=hbel.size
    have hnew:∀ (j:Nat) (u:Value),[Value.int .i64 at_][j]?=some u→(W.alloc (.cells #[.int .i64 at_] 3)).cell? ((⟨W.heap.size,0,none⟩:Addr).add j)=some u:=fun j u hu=>by
      have h1:=(zM W 3 #[.int .i64 at_]).cell j
      have e:((⟨W.heap.size,0,none⟩:Addr).add j)=⟨W.heap.size,j,none⟩:=by unfold Addr.add;simp;try (intro h;exact h.symm)
      rw [e,h1]
      simpa using hu
    have hb1:L.length+1≤maxLen:=by unfold maxLen;omega
    have hb2:(L.length+1)*8≤140737488355328:=by omega
    have hb3:w.heap.size≤(W.alloc (.cells #[.int .i64 at_] 3)).heap.size:=by rw [World.size_alloc];omega
    have HNEW:=zA hnew
    have HB1:=zA hb1
    have HB2:=zA hb2
    have HB3:=zA hb3
    have HW:=zA hW
    have G1:=zA g1
    have G2:=zA g2
    have G3:=zA g3
    have G4:=zA g4
    have G5:=zA g5
    have HGN:=zA hgn
    obtain ⟨i0,i1,z0,z1,z2⟩:=info_parts zNY
    clear hnew hb1 hb2 hb3 hW g1 g2 g3 g4 g5 g3' hgn hbel hk HST
    gi_wp2_with (first
      | (gi_at_builtin;go_loud (refine wpListIn_append_own_at _ rfl _ _ 36 rfl w.heap.size 3 i0 (.int .i64 0) 1 8 Tryz.underlying36 i1 z0 z1 z2 rfl (by decide) vl L.length (cls L) rfl (G4.out.alloc _) ⟨W.heap.size,0,none⟩ 1 1 [.int .i64 at_] rfl rfl HNEW.out (El.one (at_:Int)) HB1.out HB2.out HB3.out ?_)
         intro v3 w3 hown3 hg3 _ hat3
         have hown3':Own w3 w.heap.size 3 v3 (L++[at_]):=by
           unfold Own
           rw [List.length_append,zCZ,zLJ]
           exact hown3
         have hst3:=HW.out.told G1.out G2.out G3.out G4.out G5.out (w2:=W.alloc (.cells #[.int .i64 at_] 3)) (zG (Below.refl _ _) _) hg3 hown3' hat3
         rw [HGN.out] at hst3
         obtain ⟨g3,cap3,rfl,hbase3,hlt3,hcap3,hmax3⟩:∃ g3 cap3,v3=.slice (some ⟨g3,0,none⟩) (L.length+1) cap3∧w.heap.size≤g3∧g3 < w3.heap.size∧L.length+1≤cap3∧cap3≤maxLen:=by
           rcases hown3'.form with ⟨_,h⟩ | ⟨g,c,h1,h2,h3,h4,h5⟩
           · simp at h
           · exact ⟨g,c,by rw [h1];simp,h2,h3,by simpa using h4,h5⟩
         have hkb:Bk w3 (H+1) 36 #[vl]:=by
           rw [←HGN.out]
           exact (hg3.block _ (by rw [World.size_alloc];have:=G3.out.lt;omega) (fun e=>zBJ G4.out G3.out (by decide) e.symm)).trans (zN _ G3.out)
         have c3:=hkb.cell 0
         have f3:=hkb.frozen 0
         simp only [List.getElem?_toArray,List.getElem?_cons_zero] at c3
         have HG3:=zA hg3
         have HST3:=zA hst3
         clear hown3 hown3' hg3 hst3 hat3 hkb
         go_frame))
    refine ⟨((KeepsOthers.alloc W _).trans (KeepsOthers.of_grownBy HG3.out ?_)).trans (KeepsOthers.setCell _ _ _) |>.from _,HST3.out⟩
    intro j o hj ho
    rcases (G4.out.alloc _).2 with ⟨rfl,_⟩ | ⟨g,c,cur,rfl,_,hg',_⟩
    · cases hj
    · obtain rfl:g=j:=Option.some.inj hj
      rw [hg'] at ho
      cases ho
      rfl
  case iter =>
    intro o1 o2 h1 h2 hY
    have hbf:bb.f=fu:=by rw [HBB.out]
    have b5:Below W5.heap.size W5 ((W5.alloc o2).alloc o1):=zG (zG (Below.refl _ _) _) _
    have hst:=HST.out
    have hst2:PlSt w bb [] m 0 ((W5.alloc o2).alloc o1):=by
      obtain ⟨vm,vs,vo,vl,g1,g2,g3,g4,g5⟩:=hst.ms
      exact ⟨⟨vm,vs,vo,vl,g1.below b5,g2,zH b5 g3,g4.below b5,g5⟩,zH b5 hst.e,zH b5 hst.A,zH b5 hst.B,zH b5 hst.C,zI hst.below b5,hst.ne⟩
    have hl1:((W5.alloc o2).alloc o1).heap[W5.heap.size+1]?=some o1:=by
      have:=World.alloc_heap_new (W5.alloc o2) o1;rwa [World.size_alloc] at this
    have hl2:((W5.alloc o2).alloc o1).heap[W5.heap.size]?=some o2:=(Below.heap_alloc _ _ _ (by simp)).trans (World.alloc_heap_new W5 o2)
    have it:=zOk bb.gm bb.ge bb.gA bb.gB bb.gC (PlL w bb (W5.heap.size+1) W5.heap.size o1 o2) 2 (W5.heap.size+1) fu (by decide)
      (fun L mk hk W h=>h.one h1 h2 hk HT.out) (fun L mk W e h e'=>h.err h1 h2 e') (fun L mk W h=>h.drew)
      (fun L mk e W h=>by
        obtain ⟨vm,vs,vo,vl,g1,_⟩:=h.1.ms
        exact ⟨by rw [←hbf];exact h.1.A.cell 0,h.1.B.cell 0,h.1.C.cell 0,h.1.e.cell 0,(g1.mB.cell 59).trans (zAh g1.h8 3),h.1.e.frozen 0⟩)
      (fun L mk at_ W hk hL=>hY (L,mk,at_) W ⟨hk,hL.1⟩ hL.2.1 hL.2.2) hfu m HOK.out ((W5.alloc o2).alloc o1) ⟨hst2,hl1,hl2⟩
    rw [HBB.out] at it ⊢
    refine it.mono ?_
    rintro e W' ⟨hv,e',hP⟩
    exact ⟨hv,⟨e',hP.1⟩,hP.2.1,hP.2.2⟩
  case done =>
    intro W hT hD
    obtain ⟨e',hT⟩:=hT
    generalize (m.run fu).1=rm at *
    obtain ⟨vm,vs,vo,vl,g1,g2,g3,g4,g5⟩:=hT.ms
    have hgn:bb.gn=H+1:=by rw [HBB.out]
    rw [hgn] at g3
    have c0:=g3.cell 0
    simp only [List.getElem?_toArray,List.getElem?_cons_zero] at c0
    have hbl:=g3.lt
    have HBEL:=zA hT.below
    have HD:=zA hD
    have HOW:=zA g4
    clear hT hD g1 g2 g3 g4 g5 HST
    go_wp2
    have hp:=Fr.putObj (o':=.deferred none) HD.out
    refine ⟨by simp,.inl ⟨_,_,rfl,run_takeDeferred HD.out,?_⟩⟩
    refine ⟨_,zHd rfl _ _,vl,rfl,hp.own HOW.out (fun g hg e=>?_),hp.below HBEL.out (fun i hi=>by omega)⟩
    obtain ⟨_,_,hbk⟩:=zFj HOW.out hg
    exact zBg hbk HD.out rfl e
end
end Go.Proofs.YtlpejagkadalbaaGreatDoor
