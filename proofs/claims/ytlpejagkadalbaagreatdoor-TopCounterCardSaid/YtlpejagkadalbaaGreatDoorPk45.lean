import Derived.Test.YtlpejagkadalbaaGreatDoorPk43
import Derived.Test.YtlpejagkadalbaaGreatDoorPk33
import Derived.Test.YtlpejagkadalbaaGreatDoorPk38
set_option maxHeartbeats 40000000
set_option maxRecDepth 100000
set_option linter.unusedVariables false
set_option linter.unusedSimpArgs false
namespace Go.Proofs.YtlpejagkadalbaaGreatDoor
open Go.RowKit
def HasK (S G:KeyV→Prop) (k:KeyV):Prop:=S k∨(k.seal_=0∧DomT G k)
def HasV (S G:KeyV→Prop) (v:ValV):Prop:=v.is=true→HasK S G v.k
structure Cl (S G:KeyV→Prop) (m:MV):Prop where
 regs:∀ v∈m.R,HasV S G v
 code:m.c.seal_=0∧DomT G m.c
 stk:∀ f∈m.stk,(f.code.seal_=0∧DomT G f.code)∧HasV S G f.data
 mem:∀ j:Nat,HasV S G (m.mem.getD j zeroV)
section
variable {S G:KeyV→Prop} {m n:MV} {i:InstV} {k q:KeyV}
theorem HasV.num (n:Int):HasV S G (nV n):=fun h=>by cases h
theorem HasV.zero:HasV S G zeroV:=fun h=>by cases h
theorem HasV.key (h:HasK S G k):HasV S G (kV k):=fun _=>h
theorem Cl.reg (h:Cl S G m) (r:Int):HasV S G (m.reg r):=by
 unfold MV.reg
 rw [List.getD_eq_getElem?_getD]
 cases hr:m.R[r.toNat]? with
 | none=>exact HasV.zero
 | some v=>exact h.regs v (List.mem_of_getElem? hr)
theorem Cl.key (h:Cl S G m) {r:Int} (hk:m.key r=.ok k):HasK S G k:=by
 obtain ⟨h1,rfl⟩:=key_ok hk
 exact h.reg r h1
theorem Cl.set (h:Cl S G m) (r:Int) {v:ValV} (hv:HasV S G v):Cl S G (m.set r v) :=
 ⟨fun u hu=>by
  rcases List.mem_or_eq_of_mem_set hu with hu | rfl
  ·exact h.regs u hu
  ·exact hv,h.code,h.stk,h.mem⟩
theorem Cl.fwd (h:Cl S G m) (d:Int):Cl S G (m.fwd d):=⟨h.regs,⟨h.code.1,h.code.2.at _⟩,h.stk,h.mem⟩
theorem move_seal {k q:KeyV} {n:Int} (h:moveF k n=(q,0)):q.seal_=k.seal_:=by
 unfold moveF at h
 split at h
 ·split at h
  ·injection h with h _;rw [←h]
  ·injection h with _ h;cases h
 ·rename_i h0;injection h with _ h;exact absurd h h0
theorem narrow_seal {k q:KeyV} {n:Int} (h:narrowF k n=(q,0)):q.seal_=k.seal_:=by
 unfold narrowF at h
 split at h
 ·split at h
  ·injection h with h _;rw [←h]
  ·injection h with _ h;cases h
 ·rename_i h0;injection h with _ h;exact absurd h h0
theorem drop_seal {k q:KeyV} {n:Int} (h:dropF k n=(q,0)):q.seal_=k.seal_:=by
 unfold dropF at h
 split at h
 ·injection h with h _;rw [←h]
 ·rename_i h0;injection h with _ h;exact absurd h h0
theorem may_not {c:KeyV} {p:Int} (b:Nat) (hb:b < 64) (hp:p=((2 ^ b:Nat):Int)) (hc:HasK S G c) (hS:∀ k,S k→k.seal_≠0) (hG:∀ g,G g→(bv g.perm).getLsbD b=false):mayF c p≠0:=by
 intro h
 unfold mayF at h
 by_cases h0:c.seal_=0
 ·rw [if_pos h0] at h
  by_cases h1:andI c.perm p=0
  ·rw [if_pos h1] at h;cases h
  ·rcases hc with hc | ⟨_,g,g1,_,g2⟩
   ·exact hS c hc h0
   ·rw [hp] at h1
    have:=(withinB_iff _ _).1 g2 b (bit_and b hb h1)
    rw [hG g g1] at this
    cases this
 ·rw [if_neg h0] at h;cases h
theorem keyStep_has (hs:KeyStep i m k q) (h:HasK S G k) (hm:Cl S G m) (hS:∀ k,S k→k.seal_≠0) (h5:∀ g,G g→(bv g.perm).getLsbD 5=false) (h6:∀ g,G g→(bv g.perm).getLsbD 6=false):HasK S G q:=by
 have lift:∀ q:KeyV,k.seal_=0→q.seal_=k.seal_→lessP q k→0≤q.len→HasK S G q:=by
  intro q h0 hq hl hn
  rcases h with h | ⟨_,h⟩
  ·exact absurd h0 (hS k h)
  ·exact .inr ⟨hq.trans h0,h.less hl hn⟩
 cases hs with
 | mvK ho hn hq=>have:=move_less (k:=k) (n:=_) (by rw [hq]);rw [hq] at this;exact lift q this.2.2.1 (move_seal hq) this.2.2.2 this.1.l0
 | nwK ho hn hq=>have:=narrow_less (k:=k) (n:=_) (by rw [hq]);rw [hq] at this;exact lift q this.2.2.1 (narrow_seal hq) this.2.2.2 this.1.l0
 | drK ho hq=>have:=drop_less (k:=k) (n:=_) (by rw [hq]);rw [hq] at this;exact lift q this.2.2.1 (drop_seal hq) this.2.2.2 this.1.l0
 | slK ho hn hq =>
  exfalso
  rename_i c
  have hc:=may_not 5 (by decide) (p:=32) rfl (hm.key hn) hS h5
  unfold sealF at hq
  split at hq
  ·split at hq
   ·injection hq with _ hq;exact hc hq
   ·rename_i h0;injection hq with _ hq;exact h0 hq
  ·rename_i h0;injection hq with _ hq;exact h0 hq
 | opK ho hn hq =>
  exfalso
  rename_i c
  have hc:=may_not 6 (by decide) (p:=64) rfl (hm.key hn) hS h6
  unfold openF at hq
  split at hq
  ·split at hq
   ·injection hq with _ hq;cases hq
   ·injection hq with _ hq;exact hc hq
  ·rename_i h0;injection hq with _ hq;exact h0 hq
theorem getF_has (h:Cl S G m) {off:Int} {v:ValV} (hg:getF m.mem k off=(v,0)):HasV S G v:=by
 have h1:(atF m.mem.length k off 1).2=0:=by
  by_cases e:(atF m.mem.length k off 1).2=0
  ·exact e
  ·simp only [getF] at hg
   rw [if_pos e] at hg
   injection hg with _ hg
 obtain ⟨a1,a2,a3,a4,a5,a6,a7⟩:=atF_ok.1 h1
 have hb:=(covB_iff.1 a6).1
 have hp:=a1.b0
 obtain ⟨j,hj⟩:=Int.eq_ofNat_of_zero_le (show 0≤k.at_+off by omega)
 rw [getF_ok h1 hj] at hg
 by_cases hc:(m.mem.getD j zeroV).is=true∧andI k.perm 8=0
 ·rw [if_pos hc] at hg
  injection hg with hg
  rw [←hg]
  exact HasV.zero
 ·rw [if_neg hc] at hg
  injection hg with hg
  rw [←hg]
  exact h.mem j
theorem setV_has (h:Cl S G m) (hS:∀ k,S k→k.seal_≠0) (h5:∀ g,G g→(bv g.perm).getLsbD 5=false) (h6:∀ g,G g→(bv g.perm).getLsbD 6=false) {v:ValV} (hs:SetV i m v):HasV S G v:=by
 cases hs with
 | set ho=>exact HasV.num _
 | copy ho=>exact h.reg _
 | nums ho hb hc hn=>exact HasV.num _
 | ask0 ho hc=>exact HasV.num _
 | ask ho hc hk=>exact HasV.num _
 | here ho=>exact HasV.key (.inr h.code)
 | load ho hk hg=>exact getF_has h hg
 | key hk hs=>exact HasV.key (keyStep_has hs (h.key hk) h hS h5 h6)
theorem store_has (h:∀ j:Nat,HasV S G (m.mem.getD j zeroV)) {v:ValV} (hv:HasV S G v) (k:KeyV) (off:Int) (j:Nat):HasV S G ((storeM m.mem k off v).getD j zeroV):=by
 unfold storeM
 by_cases e:(k.at_+off).toNat=j
 ·subst e
  rw [List.getD_eq_getElem?_getD]
  by_cases hl:(k.at_+off).toNat < m.mem.length
  ·rw [List.getElem?_set_self hl];exact hv
  ·rw [List.getElem?_eq_none (by rw [List.length_set];omega)];exact HasV.zero
 ·have:=h j
  rw [List.getD_eq_getElem?_getD] at this ⊢
  rw [List.getElem?_set_ne e];exact this
structure ClStep (S G:KeyV→Prop) (m n:MV):Prop where
 cl:Cl S G n
 len:n.mem.length=m.mem.length
 mem:∀ j:Nat,¬hitT G 2 j→n.mem.getD j zeroV=m.mem.getD j zeroV
theorem Cl.step (h:Cl S G m) (hS:∀ k,S k→k.seal_≠0) (h5:∀ g,G g→(bv g.perm).getLsbD 5=false) (h6:∀ g,G g→(bv g.perm).getLsbD 6=false) (hs:Stepd i m n) :
  ClStep S G m n∨∃ a b,S a∧S b∧a.seal_=b.seal_∧andI a.perm 4≠0∧andI b.perm 4=0∧n={m with stk:=m.stk++[⟨{m.c with at_:=m.c.at_+1},m.reg 7⟩],c:=bareK a,R:=m.R.set 7 (kV (bareK b))}:=by
 cases hs with
 | set hv=>exact .inl ⟨(h.set _ (setV_has h hS h5 h6 hv)).fwd 1,rfl,fun _ _=>rfl⟩
 | store ho hk hp =>
  rename_i k
  have h0:(atF m.mem.length k i.c 2).2=0:=by
   by_cases h0:(atF m.mem.length k i.c 2).2=0
   ·exact h0
   ·rw [putE_err h0] at hp;exact absurd hp h0
  obtain ⟨a1,a2,a3,a4,a5,a6,a7⟩:=atF_ok.1 h0
  have hb:=(covB_iff.1 a6).1
  have hp0:=a1.b0
  obtain ⟨j,hj⟩:=Int.eq_ofNat_of_zero_le (show 0≤k.at_+i.c by omega)
  refine .inl ⟨Cl.fwd (m:={m with mem:=storeM m.mem k i.c (m.reg i.a)}) ⟨h.regs,h.code,h.stk,fun l=>store_has h.mem (h.reg _) k i.c l⟩ 1,?_,fun l hl=>?_⟩
  ·show (storeM m.mem k i.c (m.reg i.a)).length=_
   unfold storeM
   rw [List.length_set]
  ·show (storeM m.mem k i.c (m.reg i.a)).getD l zeroV=_
   have e:(k.at_+i.c).toNat≠l:=by
    rintro rfl
    rcases h.key hk with hx | ⟨_,g,g1,g2⟩
    ·exact hS k hx a2
    ·refine hl ⟨g,g1,withinB_trans (within2 a3) g2.2,?_⟩
     have:=cov_less g2 a6
     rw [hj] at this ⊢
     simpa using this
   unfold storeM
   rw [List.getD_eq_getElem?_getD,List.getElem?_set_ne e,←List.getD_eq_getElem?_getD]
 | clear ho =>
  refine .inl ⟨Cl.fwd (m:={m with R:=clearL i.c m.R}) ⟨fun v hv=>?_,h.code,h.stk,h.mem⟩ 1,rfl,fun _ _=>rfl⟩
  simp only [clearL,List.mem_mapIdx] at hv
  obtain ⟨r,hr,rfl⟩:=hv
  split
  ·exact HasV.zero
  ·exact h.regs _ (List.getElem_mem hr)
 | tell ho hn hl=>rename_i x;exact .inl ⟨Cl.fwd (m:={m with out:=m.out++[x]}) ⟨h.regs,h.code,h.stk,h.mem⟩ 1,rfl,fun _ _=>rfl⟩
 | jump ho hn=>exact .inl ⟨h.fwd _,rfl,fun _ _=>rfl⟩
 | ifn ho hn hd hx=>exact .inl ⟨h.fwd _,rfl,fun _ _=>rfl⟩
 | call ho ha hb h1 h2 h3 h4 h5' =>
  rename_i a b
  have sa:S a:=by
   rcases h.key ha with hx | ⟨hx,_⟩
   ·exact hx
   ·exact absurd hx h1
  have sb:S b:=by
   rcases h.key hb with hx | ⟨hx,_⟩
   ·exact hx
   ·exact absurd (h2.trans hx) h1
  exact .inr ⟨a,b,sa,sb,h2,h3,h4,rfl⟩
 | back ho hb =>
  rename_i s f
  have hf:=h.stk f (by rw [hb];simp)
  refine .inl ⟨⟨fun v hv=>?_,hf.1,fun f' hf'=>h.stk f' (by rw [hb];exact List.mem_append_left _ hf'),h.mem⟩,rfl,fun _ _=>rfl⟩
  rcases List.mem_or_eq_of_mem_set hv with hv | rfl
  ·exact h.regs v hv
  ·exact hf.2
end
end Go.Proofs.YtlpejagkadalbaaGreatDoor
namespace Go.Proofs.YtlpejagkadalbaaGreatDoor
open Go Go.RowKit Go.Shelf
structure PlSt (w0:World) (b:RunB) (L:List Int) (m:MV) (e:Int) (W:World):Prop where
 ms:∃ vm vs vo vl,MS b.base b.gm vm vs vo m W∧(¬mS b.gm vm vs vo b.gn∧¬mS b.gm vm vs vo b.gA∧¬mS b.gm vm vs vo b.gB∧¬mS b.gm vm vs vo b.gC)∧Bk W b.gn 36 #[vl]∧Own W w0.heap.size 3 vl L∧∀ g,vl.ownBlock=some g→¬mS b.gm vm vs vo g∧g≠b.gA
 e:Bk W b.ge 29 #[.int .i64 e]
 A:Bk W b.gA 3 #[.int .i64 b.f]
 B:Bk W b.gB 111 #[.pointer (some ⟨b.gm,0,none⟩)]
 C:Bk W b.gC 112 #[.pointer (some ⟨b.ge,0,none⟩)]
 below:Below w0.heap.size w0 W
 ne:w0.heap.size≤b.gm∧w0.heap.size≤b.ge∧w0.heap.size≤b.gn∧w0.heap.size≤b.base∧b.base≤b.gn
section
variable {w0:World} {b:RunB} {L:List Int} {m:MV} {e:Int} {W:World}
theorem PlSt.putObj (h:PlSt w0 b L m e W) {l:Nat} {o o':Obj} (hl:W.heap[l]?=some o) (ho:o.isCells=false) (hb:w0.heap.size≤l):PlSt w0 b L m e (W.putObj l o'):=by
 obtain ⟨vm,vs,vo,vl,h1,h2,h3,h4,h5⟩:=h.ms
 refine ⟨⟨vm,vs,vo,vl,ms_putObj h1 hl ho,h2,bk_putObj h3 hl ho,(Fr.putObj hl).own h4 (fun g hg eq=>?_),h5⟩,bk_putObj h.e hl ho,bk_putObj h.A hl ho,bk_putObj h.B hl ho,bk_putObj h.C hl ho,(Fr.putObj hl).below h.below (fun i hi=>by omega),h.ne⟩
 obtain ⟨_,_,hbk⟩:=own_cells h4 hg
 exact bk_noncell hbk hl ho eq
theorem PlSt.drew (h:PlSt w0 b L m e W):PlSt w0 b L m e W.drew:=by
 obtain ⟨vm,vs,vo,vl,h1,h2,h3,h4,h5⟩:=h.ms
 have hf:=Fr.drew (fun _=>False) W
 exact ⟨⟨vm,vs,vo,vl,h1.fr hf (fun _ _ h=>h),h2,hf.bk h3 id,hf.own h4 (fun _ _ h=>h),h5⟩,hf.bk h.e id,hf.bk h.A id,hf.bk h.B id,hf.bk h.C id,hf.below h.below (fun _ h=>h.elim),h.ne⟩
theorem PlSt.err (h:PlSt w0 b L m e W) (e':Int):PlSt w0 b L m e' (W.setCell ⟨b.ge,0,none⟩ (.int .i64 e')):=by
 obtain ⟨vm,vs,vo,vl,h1,h2,h3,h4,h5⟩:=h.ms
 have hf:Fr (fun j=>j=b.ge) W (W.setCell ⟨b.ge,0,none⟩ (.int .i64 e')):=Fr.setCell W (p:=⟨b.ge,0,none⟩) (S:=fun j=>j=b.ge) rfl _
 have hm:=h1.not h.e (by decide) (by decide) (by decide) (by decide)
 exact ⟨⟨vm,vs,vo,vl,h1.fr hf (fun j hj e=>hm (e▸hj)),h2,hf.bk h3 (ne_ty h3 h.e (by decide)),hf.own h4 (fun g hg eq=>own_ty h4 h.e (by decide) (by rw [hg,eq])),h5⟩,bk_cell1 h.e _,hf.bk h.A (ne_ty h.A h.e (by decide)),hf.bk h.B (ne_ty h.B h.e (by decide)),hf.bk h.C (ne_ty h.C h.e (by decide)),hf.below h.below (fun i hi=>by have:=h.ne.2.1;omega),h.ne⟩
theorem PlSt.stepped (h:PlSt w0 b L m e W) {vm vs vo vl:Value} (h1:MS b.base b.gm vm vs vo m W) (h2:¬mS b.gm vm vs vo b.gn∧¬mS b.gm vm vs vo b.gA∧¬mS b.gm vm vs vo b.gB∧¬mS b.gm vm vs vo b.gC) (h3:Bk W b.gn 36 #[vl]) (h4:Own W w0.heap.size 3 vl L) (h5:∀ g,vl.ownBlock=some g→¬mS b.gm vm vs vo g∧g≠b.gA)
  {m':MV} {vs' vo':Value} {W':World} (hm:MS b.base b.gm vm vs' vo' m' W') (hf:Fr (mS b.gm vm vs vo) W W') (n1:NewB vs vs' W) (n2:NewB vo vo' W):PlSt w0 b L m' e W':=by
 have hn:∀ j,¬mS b.gm vm vs vo j→j < W.heap.size→¬mS b.gm vm vs' vo' j:=by
  intro j hj hl hk
  rcases hk with hk | hk | hk | hk
  ·exact hj (.inl hk)
  ·exact hj (.inr (.inl hk))
  ·rcases n1 j hk with h | h
   ·exact hj (.inr (.inr (.inl h)))
   ·omega
  ·rcases n2 j hk with h | h
   ·exact hj (.inr (.inr (.inr h)))
   ·omega
 have he:=h1.not h.e (by decide) (by decide) (by decide) (by decide)
 refine ⟨⟨vm,vs',vo',vl,hm,⟨hn _ h2.1 h3.lt,hn _ h2.2.1 h.A.lt,hn _ h2.2.2.1 h.B.lt,hn _ h2.2.2.2 h.C.lt⟩,hf.bk h3 h2.1,hf.own h4 (fun g hg=>(h5 g hg).1),fun g hg=>⟨hn g (h5 g hg).1 (own_lt h4 hg).2,(h5 g hg).2⟩⟩,hf.bk h.e he,hf.bk h.A h2.2.1,hf.bk h.B h2.2.2.1,hf.bk h.C h2.2.2.2,hf.below h.below (fun i hi=>?_),h.ne⟩
 have hb:=h.ne.2.2.2.1
 rcases hi with rfl | hi | hi | hi
 ·exact h.ne.1
 ·have:=(own_lt h1.om hi).1;omega
 ·have:=(own_lt h1.os hi).1;omega
 ·have:=(own_lt h1.oo hi).1;omega
theorem PlSt.told (h:PlSt w0 b L m e W) {vm vs vo vl:Value} (h1:MS b.base b.gm vm vs vo m W) (h2:¬mS b.gm vm vs vo b.gn∧¬mS b.gm vm vs vo b.gA∧¬mS b.gm vm vs vo b.gB∧¬mS b.gm vm vs vo b.gC) (h3:Bk W b.gn 36 #[vl]) (h4:Own W w0.heap.size 3 vl L) (h5:∀ g,vl.ownBlock=some g→¬mS b.gm vm vs vo g∧g≠b.gA)
  {w2 w3:World} (hb:Below W.heap.size W w2) (hg:w2.grownBy w3 vl.ownBlock) {v3:Value} {L':List Int} (ho:Own w3 w0.heap.size 3 v3 L') (hat:v3.ownBlock=vl.ownBlock∨v3.ownBlock=some w2.heap.size):PlSt w0 b L' m e (w3.setCell ⟨b.gn,0,none⟩ v3):=by
 have hf3:Fr (fun j=>vl.ownBlock=some j) W w3:=(Fr.of (S:=fun j=>vl.ownBlock=some j) hb).trans (Fr.grown (S:=fun j=>vl.ownBlock=some j) hg (fun k e=>.inl e)) (fun _ _ h=>h)
 have hs3:Fr (fun j=>j=b.gn) w3 (w3.setCell ⟨b.gn,0,none⟩ v3):=Fr.setCell w3 (p:=⟨b.gn,0,none⟩) (S:=fun j=>j=b.gn) rfl _
 have hf:Fr (fun j=>vl.ownBlock=some j∨j=b.gn) W (w3.setCell ⟨b.gn,0,none⟩ v3):=(hf3.mono (fun _ _ h=>.inl h)).trans hs3 (fun _ _ h=>.inr h)
 have k3:Bk w3 b.gn 36 #[vl]:=hf3.bk h3 (fun eq=>own_ty h4 h3 (by decide) eq)
 refine ⟨⟨vm,vs,vo,v3,h1.fr hf (fun j hj hS=>?_),h2,bk_set' k3 rfl,hs3.own ho (fun g hg eq=>own_ty ho k3 (by decide) (by rw [hg,eq])),fun g hg=>?_⟩,hf.bk h.e (fun hS=>?_),hf.bk h.A (fun hS=>?_),hf.bk h.B (fun hS=>?_),hf.bk h.C (fun hS=>?_),hf.below h.below (fun i hi=>?_),h.ne⟩
 ·rcases hS with hS | rfl
  ·exact (h5 j hS).1 hj
  ·exact h2.1 hj
 ·rcases hat with e' | e'
  ·exact h5 g (by rw [←e'];exact hg)
  ·rw [hg] at e'
   injection e' with e'
   have hz:=hb.size
   have hA:=h.A.lt
   exact ⟨fun hk=>by have:=h1.lt hk;omega,by omega⟩
 ·rcases hS with hS | hS
  ·exact own_ty h4 h.e (by decide) hS
  ·exact ne_ty h.e h3 (by decide) hS
 ·rcases hS with hS | hS
  ·exact (h5 _ hS).2 rfl
  ·exact ne_ty h.A h3 (by decide) hS
 ·rcases hS with hS | hS
  ·exact own_ty h4 h.B (by decide) hS
  ·exact ne_ty h.B h3 (by decide) hS
 ·rcases hS with hS | hS
  ·exact own_ty h4 h.C (by decide) hS
  ·exact ne_ty h.C h3 (by decide) hS
 ·rcases hi with hi | rfl
  ·exact (own_lt h4 hi).1
  ·exact h.ne.2.2.1
end
def PlL (w0:World) (b:RunB) (l D:Nat) (o1 o2:Obj) (L:List Int) (m:MV) (e:Int) (W:World):Prop:=PlSt w0 b L m e W∧W.heap[l]?=some o1∧W.heap[D]?=some o2
section
variable {w0:World} {b:RunB} {l D:Nat} {o1 o2:Obj} {L:List Int} {m:MV} {e:Int} {W:World}
theorem PlL.drew (h:PlL w0 b l D o1 o2 L m e W):PlL w0 b l D o1 o2 L m e W.drew:=⟨h.1.drew,h.2.1,h.2.2⟩
theorem PlL.err (h:PlL w0 b l D o1 o2 L m e W) (h1:o1.isCells=false) (h2:o2.isCells=false) (e':Int):PlL w0 b l D o1 o2 L m e' (W.setCell ⟨b.ge,0,none⟩ (.int .i64 e')):=by
 have hf:Fr (fun j=>j=b.ge) W (W.setCell ⟨b.ge,0,none⟩ (.int .i64 e')):=Fr.setCell W (p:=⟨b.ge,0,none⟩) (S:=fun j=>j=b.ge) rfl _
 exact ⟨h.1.err e',(hf.block l (Array.getElem?_eq_some_iff.1 h.2.1).1 (fun q=>bk_noncell h.1.e h.2.1 h1 q.symm)).trans h.2.1,(hf.block D (Array.getElem?_eq_some_iff.1 h.2.2).1 (fun q=>bk_noncell h.1.e h.2.2 h2 q.symm)).trans h.2.2⟩
theorem PlL.one (h:PlL w0 b l D o1 o2 L m e W) (h1:o1.isCells=false) (h2:o2.isCells=false) (hok:m.Ok) (ht:Tab w0) :
  Calls Tryz.prog 71 #[.pointer (some ⟨b.gm,0,none⟩)] W fun r W'=>r=.returned (.int .i64 m.err)∧PlL w0 b l D o1 o2 L m.after e W':=by
 obtain ⟨vm,vs,vo,vl,g1,g2,g3,g4,g5⟩:=h.1.ms
 refine (one_any g1 hok (ht.below h.1.below) (Nat.le_trans h.1.ne.2.2.2.2 (Nat.le_of_lt g3.lt))).mono ?_
 rintro r W' ⟨rfl,vs',vo',hm,hf,n1,n2⟩
 have kp:∀ (j:Nat) (o:Obj),W.heap[j]?=some o→o.isCells=false→W'.heap[j]?=some o:=fun j o hj ho=>(hf.block j (Array.getElem?_eq_some_iff.1 hj).1 (fun hk=>by
  obtain ⟨T,cs,hb⟩:=ms_cells g1 hk
  exact bk_noncell hb hj ho rfl)).trans hj
 exact ⟨rfl,h.1.stepped g1 g2 g3 g4 g5 hm hf n1 n2,kp _ _ h.2.1 h1,kp _ _ h.2.2 h2⟩
end
end Go.Proofs.YtlpejagkadalbaaGreatDoor
