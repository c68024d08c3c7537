import Derived.Test.YtlpejagkadalbaaGreatDoorZk34
import Derived.Test.YtlpejagkadalbaaGreatDoorZk38
set_option maxHeartbeats 40000000
set_option maxRecDepth 100000
set_option linter.unusedVariables false
set_option linter.unusedSimpArgs false
namespace Go.Proofs.YtlpejagkadalbaaGreatDoor
section
open Go.RowKit
theorem zJS (k i:Nat) (hk:k < 64):(bv ((2 ^ k:Nat):Int)).getLsbD i=decide (i=k):=by
 have e:bv ((2 ^ k:Nat):Int)=BitVec.ofNat 64 (2 ^ k):=by unfold bv;exact BitVec.ofInt_natCast 64 _
 rw [e,BitVec.getLsbD_ofNat,Nat.testBit_two_pow]
 by_cases h:i=k
 ·subst h;simp [hk]
 ·have:¬k=i:=fun e=>h e.symm
  simp [h,this]
theorem zFD {p:Int} (k:Nat) (hk:k < 64) (h:zAM p ((2 ^ k:Nat):Int)≠0):(bv p).getLsbD k=true:=by
 cases hb:(bv p).getLsbD k
 ·exfalso
  apply h
  unfold zAM
  rw [zFn]
  apply BitVec.eq_of_getLsbD_eq
  intro i hi
  rw [BitVec.getLsbD_and,zJS k i hk]
  by_cases e:i=k
  ·subst e;simp [hb]
  ·simp [e]
 ·rfl
theorem zOp:∀ i:Nat,(bv 9).getLsbD i=true→i=0∨i=3:=by
 intro i hi
 have hl:i < 64:=by
  rcases Nat.lt_or_ge i 64 with h | h
  ·exact h
  ·rw [BitVec.getLsbD_of_ge _ _ h] at hi;cases hi
 have:∀ i:Fin 64,(bv 9).getLsbD i.val=true→i.val=0∨i.val=3:=by decide
 exact this ⟨i,hl⟩ hi
theorem zM8 {p:Int} (h1:zAM p 1≠0) (h8:zAM p 8≠0):zBJ 9 p=true:=by
 rw [zBn]
 intro i hi
 rcases zOp i hi with rfl | rfl
 ·exact zFD 0 (by decide) h1
 ·exact zFD 3 (by decide) h8
theorem zJD {p:Int} (h:zAM p 2≠0):zBJ 2 p=true:=by
 rw [zBn]
 intro i hi
 rw [show (2:Int)=((2 ^ 1:Nat):Int) from rfl,zJS 1 i (by decide)] at hi
 rw [of_decide_eq_true hi]
 exact zFD 1 (by decide) h
def DomT (G:KeyV→Prop) (k:KeyV):Prop:=∃ g,G g∧zCc k g
def DomV (G:KeyV→Prop) (v:ValV):Prop:=v.is=true→DomT G v.k
def zMX (G:KeyV→Prop) (p:Int) (j:Nat):Prop:=∃ g,G g∧zBJ p g.perm=true∧zCE g.base g.len j=true
structure Safe (G:KeyV→Prop) (m0:List ValV) (m:MV):Prop where
 regs:∀ v∈m.R,DomV G v
 code:DomT G m.c
 stk:∀ f∈m.stk,DomT G f.code∧DomV G f.data
 len:m.mem.length=m0.length
 mem:∀ j:Nat,m.mem.getD j zeroV=m0.getD j zeroV∨(zMX G 2 j∧DomV G (m.mem.getD j zeroV))
def Whole (G:KeyV→Prop) (m0:List ValV):Prop:=∀ g,G g→zBJ 9 g.perm=true→∀ j:Nat,zCE g.base g.len j=true→j < m0.length→(m0.getD j zeroV).is=true→G (m0.getD j zeroV).k
section
variable {G:KeyV→Prop} {m0:List ValV} {m n:MV} {i:InstV} {k q:KeyV}
theorem DomT.at (h:DomT G k) (x:Int):DomT G {k with at_:=x}:=by
 obtain ⟨g,h1,h2⟩:=h
 exact ⟨g,h1,h2⟩
theorem DomT.bare (h:DomT G k):DomT G (zB9 k):=by
 obtain ⟨g,h1,h2⟩:=h
 exact ⟨g,h1,h2⟩
theorem DomT.less (h:DomT G k) (hl:zCc q k) (h0:0≤q.len):DomT G q:=by
 obtain ⟨g,h1,h2⟩:=h
 exact ⟨g,h1,zIp hl h2 h0⟩
theorem DomV.num (n:Int):DomV G (nV n):=fun h=>by cases h
theorem DomV.zero:DomV G zeroV:=fun h=>by cases h
theorem DomV.key (h:DomT G k):DomV G (kV k):=fun _=>h
theorem Safe.reg (h:Safe G m0 m) (r:Int):DomV G (m.reg r):=by
 unfold MV.reg
 rw [List.getD_eq_getElem?_getD]
 cases hr:m.R[r.toNat]? with
 | none=>exact DomV.zero
 | some v=>exact h.regs v (List.mem_of_getElem? hr)
theorem Safe.key (h:Safe G m0 m) {r:Int} (hk:m.key r=.ok k):DomT G k:=by
 obtain ⟨h1,rfl⟩:=zHs hk
 exact h.reg r h1
theorem Safe.set (h:Safe G m0 m) (r:Int) {v:ValV} (hv:DomV G v):Safe G m0 (m.set r v) :=
 ⟨fun u hu=>by
  rcases List.mem_or_eq_of_mem_set hu with hu | rfl
  ·exact h.regs u hu
  ·exact hv,h.code,h.stk,h.len,h.mem⟩
theorem Safe.fwd (h:Safe G m0 m) (d:Int):Safe G m0 (m.fwd d):=⟨h.regs,h.code.at _,h.stk,h.len,h.mem⟩
theorem zIs (hs:KeyStep i m k q) (h:DomT G k):DomT G q:=by
 cases hs with
 | mvK ho hn hq=>have:=zGr (k:=k) (n:=_) (by rw [hq]);rw [hq] at this;exact h.less this.2.2.2 this.1.l0
 | nwK ho hn hq=>have:=zFN (k:=k) (n:=_) (by rw [hq]);rw [hq] at this;exact h.less this.2.2.2 this.1.l0
 | drK ho hq=>have:=zG4 (k:=k) (n:=_) (by rw [hq]);rw [hq] at this;exact h.less this.2.2.2 this.1.l0
 | slK ho hn hq=>have:=zKe (k:=k) (c:=_) (by rw [hq]);rw [hq] at this;exact h.less this.2.2.2 this.1.l0
 | opK ho hn hq=>have:=zKv (k:=k) (c:=_) (by rw [hq]);rw [hq] at this;exact h.less this.2.2 this.1.l0
theorem zFe (hl:zCc q k) {x:Int} (hc:zCE q.base q.len x=true):zCE k.base k.len x=true:=by
 rw [covB_iff] at hc ⊢
 rcases hl.1 with h | h<;>omega
theorem zMf (hG:Whole G m0) (h:Safe G m0 m) (hk:DomT G k) {off:Int} {v:ValV} (hg:zCD m.mem k off=(v,0)):DomV G v:=by
 have h1:(atF m.mem.length k off 1).2=0:=by
  by_cases e:(atF m.mem.length k off 1).2=0
  ·exact e
  ·simp only [zCD] at hg
   rw [if_pos e] at hg
   injection hg with _ hg
 obtain ⟨a1,a2,a3,a4,a5,a6,a7⟩:=atF_ok.1 h1
 have hb:=(covB_iff.1 a6).1
 have hp:=a1.b0
 obtain ⟨j,hj⟩:=Int.eq_ofNat_of_zero_le (show 0≤k.at_+off by omega)
 rw [zGP h1 hj] at hg
 by_cases hc:(m.mem.getD j zeroV).is=true∧zAM k.perm 8=0
 ·rw [if_pos hc] at hg
  injection hg with hg
  rw [←hg]
  exact DomV.zero
 ·rw [if_neg hc] at hg
  injection hg with hg
  rw [←hg]
  rcases h.mem j with e | ⟨_,e⟩
  ·intro hi
   obtain ⟨g,g1,g2⟩:=hk
   have h8:zAM k.perm 8≠0:=fun e8=>hc ⟨hi,e8⟩
   rw [e] at hi ⊢
   refine ⟨_,hG g g1 (zCg (zM8 a3 h8) g2.2) j ?_ ?_ hi,zES _⟩
   ·have:=zFe g2 a6;rwa [hj] at this
   ·have:=h.len;omega
  ·exact e
theorem zL5 (hG:Whole G m0) (h:Safe G m0 m) {v:ValV} (hs:SetV i m v):DomV G v:=by
 cases hs with
 | set ho=>exact DomV.num _
 | copy ho=>exact h.reg _
 | nums ho hb hc hn=>exact DomV.num _
 | ask0 ho hc=>exact DomV.num _
 | ask ho hc hk=>exact DomV.num _
 | here ho=>exact DomV.key h.code
 | load ho hk hg=>exact zMf hG h (h.key hk) hg
 | key hk hs=>exact DomV.key (zIs hs (h.key hk))
theorem Safe.step (hG:Whole G m0) (h:Safe G m0 m) (hs:Stepd i m n):Safe G m0 n:=by
 cases hs with
 | set hv=>exact (h.set _ (zL5 hG h hv)).fwd 1
 | store ho hk hp =>
  rename_i k
  have h0:(atF m.mem.length k i.c 2).2=0:=by
   by_cases h0:(atF m.mem.length k i.c 2).2=0
   ·exact h0
   ·rw [zFY h0] at hp;exact absurd hp h0
  obtain ⟨a1,a2,a3,a4,a5,a6,a7⟩:=atF_ok.1 h0
  have hb:=(covB_iff.1 a6).1
  have hp0:=a1.b0
  obtain ⟨j,hj⟩:=Int.eq_ofNat_of_zero_le (show 0≤k.at_+i.c by omega)
  obtain ⟨g,g1,g2⟩:=h.key hk
  refine Safe.fwd (m:={m with mem:=zBN m.mem k i.c (m.reg i.a)}) ⟨h.regs,h.code,h.stk,?_,fun l=>?_⟩ 1
  ·show (zBN m.mem k i.c (m.reg i.a)).length=m0.length
   unfold zBN
   rw [List.length_set];exact h.len
  ·show (zBN m.mem k i.c (m.reg i.a)).getD l zeroV=_∨_
   unfold zBN
   rw [hj,Int.toNat_natCast]
   by_cases e:j=l
   ·subst e
    refine .inr ⟨⟨g,g1,zCg (zJD a3) g2.2,?_⟩,?_⟩
    ·have:=zFe g2 a6;rwa [hj] at this
    ·show DomV G ((m.mem.set j (m.reg i.a)).getD j zeroV)
     rw [List.getD_eq_getElem?_getD,List.getElem?_set_self (by omega)]
     exact h.reg _
   ·have e2:(m.mem.set j (m.reg i.a)).getD l zeroV=m.mem.getD l zeroV:=by
     rw [List.getD_eq_getElem?_getD,List.getD_eq_getElem?_getD,List.getElem?_set_ne e]
    show (m.mem.set j (m.reg i.a)).getD l zeroV=_∨(zMX G 2 l∧DomV G ((m.mem.set j (m.reg i.a)).getD l zeroV))
    rw [e2]
    exact h.mem l
 | clear ho =>
  refine Safe.fwd (m:={m with R:=zCX i.c m.R}) ⟨fun v hv=>?_,h.code,h.stk,h.len,h.mem⟩ 1
  simp only [zCX,List.mem_mapIdx] at hv
  obtain ⟨r,hr,rfl⟩:=hv
  split
  ·exact DomV.zero
  ·exact h.regs _ (List.getElem_mem hr)
 | tell ho hn hl=>rename_i x;exact Safe.fwd (m:={m with out:=m.out++[x]}) ⟨h.regs,h.code,h.stk,h.len,h.mem⟩ 1
 | jump ho hn=>exact h.fwd _
 | ifn ho hn hd hx=>exact h.fwd _
 | call ho ha hb h1 h2 h3 h4 h5 =>
  refine ⟨fun v hv=>?_,(h.key ha).bare,fun f hf=>?_,h.len,h.mem⟩
  ·rcases List.mem_or_eq_of_mem_set hv with hv | rfl
   ·exact h.regs v hv
   ·exact DomV.key (h.key hb).bare
  ·rcases List.mem_append.1 hf with hf | hf
   ·exact h.stk f hf
   ·rw [List.mem_singleton.1 hf]
    exact ⟨h.code.at _,h.reg _⟩
 | back ho hb =>
  rename_i s f
  have hf:=h.stk f (by rw [hb];simp)
  refine ⟨fun v hv=>?_,hf.1,fun f' hf'=>h.stk f' (by rw [hb];exact List.mem_append_left _ hf'),h.len,h.mem⟩
  rcases List.mem_or_eq_of_mem_set hv with hv | rfl
  ·exact h.regs v hv
  ·exact hf.2
theorem Safe.one (hG:Whole G m0) (h:Safe G m0 m) (ho:m.one=.ok n):Safe G m0 n:=by
 obtain ⟨i,_,hs⟩:=zEv ho
 exact h.step hG hs
theorem Safe.run (hG:Whole G m0) (f:Nat):∀ m:MV,Safe G m0 m→Safe G m0 (m.run f).1:=by
 induction f with
 | zero=>intro m h;exact h
 | succ f ih =>
  intro m h
  cases ho:m.one with
  | ok n=>rw [zFr ho];exact ih n (h.one hG ho)
  | error e=>rw [zFs ho];exact h
end
def zMy (m:MV) (k:KeyV):Prop:=Rch true m.mem (zEp true m.R m.c m.stk) k
end
section
open Go.RowKit
def MV.mm (m:MV) (x:List ValV):MV:={m with mem:=x}
structure Alike (V:Nat→Prop) (m x:List ValV):Prop where
 len:x.length=m.length
 eq:∀ j,V j→x.getD j zeroV=m.getD j zeroV
section
variable {G:KeyV→Prop} {V:Nat→Prop} {m0 x:List ValV} {m n:MV} {i:InstV} {k:KeyV}
end
end
section
open El (cl)
open Go.RowKit
def zE6 (S G:KeyV→Prop) (k:KeyV):Prop:=S k∨(k.seal_=0∧DomT G k)
def HasV (S G:KeyV→Prop) (v:ValV):Prop:=v.is=true→zE6 S G v.k
structure Cl (S G:KeyV→Prop) (m:MV):Prop where
 regs:∀ v∈m.R,HasV S G v
 code:m.c.seal_=0∧DomT G m.c
 stk:∀ f∈m.stk,(f.code.seal_=0∧DomT G f.code)∧HasV S G f.data
 mem:∀ j:Nat,HasV S G (m.mem.getD j zeroV)
section
variable {S G:KeyV→Prop} {m n:MV} {i:InstV} {k q:KeyV}
theorem HasV.num (n:Int):HasV S G (nV n):=fun h=>by cases h
theorem HasV.zero:HasV S G zeroV:=fun h=>by cases h
theorem HasV.key (h:zE6 S G k):HasV S G (kV k):=fun _=>h
theorem Cl.reg (h:Cl S G m) (r:Int):HasV S G (m.reg r):=by
 unfold MV.reg
 rw [List.getD_eq_getElem?_getD]
 cases hr:m.R[r.toNat]? with
 | none=>exact HasV.zero
 | some v=>exact h.regs v (List.mem_of_getElem? hr)
theorem Cl.key (h:Cl S G m) {r:Int} (hk:m.key r=.ok k):zE6 S G k:=by
 obtain ⟨h1,rfl⟩:=zHs hk
 exact h.reg r h1
theorem Cl.set (h:Cl S G m) (r:Int) {v:ValV} (hv:HasV S G v):Cl S G (m.set r v) :=
 ⟨fun u hu=>by
  rcases List.mem_or_eq_of_mem_set hu with hu | rfl
  ·exact h.regs u hu
  ·exact hv,h.code,h.stk,h.mem⟩
theorem Cl.fwd (h:Cl S G m) (d:Int):Cl S G (m.fwd d):=⟨h.regs,⟨h.code.1,h.code.2.at _⟩,h.stk,h.mem⟩
theorem zKz {k q:KeyV} {n:Int} (h:zBX k n=(q,0)):q.seal_=k.seal_:=by
 unfold zBX at h
 split at h
 ·split at h
  ·injection h with h _;rw [←h]
  ·injection h with _ h;cases h
 ·rename_i h0;injection h with _ h;exact absurd h h0
theorem zIm {k q:KeyV} {n:Int} (h:zA1 k n=(q,0)):q.seal_=k.seal_:=by
 unfold zA1 at h
 split at h
 ·split at h
  ·injection h with h _;rw [←h]
  ·injection h with _ h;cases h
 ·rename_i h0;injection h with _ h;exact absurd h h0
theorem zLS {k q:KeyV} {n:Int} (h:zBt k n=(q,0)):q.seal_=k.seal_:=by
 unfold zBt at h
 split at h
 ·injection h with h _;rw [←h]
 ·rename_i h0;injection h with _ h;exact absurd h h0
theorem zJL {c:KeyV} {p:Int} (b:Nat) (hb:b < 64) (hp:p=((2 ^ b:Nat):Int)) (hc:zE6 S G c) (hS:∀ k,S k→k.seal_≠0) (hG:∀ g,G g→(bv g.perm).getLsbD b=false):zBG c p≠0:=by
 intro h
 unfold zBG at h
 by_cases h0:c.seal_=0
 ·rw [if_pos h0] at h
  by_cases h1:zAM c.perm p=0
  ·rw [if_pos h1] at h;cases h
  ·rcases hc with hc | ⟨_,g,g1,_,g2⟩
   ·exact hS c hc h0
   ·rw [hp] at h1
    have:=(zBn _ _).1 g2 b (zFD b hb h1)
    rw [hG g g1] at this
    cases this
 ·rw [if_neg h0] at h;cases h
theorem zIr (hs:KeyStep i m k q) (h:zE6 S G k) (hm:Cl S G m) (hS:∀ k,S k→k.seal_≠0) (h5:∀ g,G g→(bv g.perm).getLsbD 5=false) (h6:∀ g,G g→(bv g.perm).getLsbD 6=false):zE6 S G q:=by
 have lift:∀ q:KeyV,k.seal_=0→q.seal_=k.seal_→zCc q k→0≤q.len→zE6 S G q:=by
  intro q h0 hq hl hn
  rcases h with h | ⟨_,h⟩
  ·exact absurd h0 (hS k h)
  ·exact .inr ⟨hq.trans h0,h.less hl hn⟩
 cases hs with
 | mvK ho hn hq=>have:=zGr (k:=k) (n:=_) (by rw [hq]);rw [hq] at this;exact lift q this.2.2.1 (zKz hq) this.2.2.2 this.1.l0
 | nwK ho hn hq=>have:=zFN (k:=k) (n:=_) (by rw [hq]);rw [hq] at this;exact lift q this.2.2.1 (zIm hq) this.2.2.2 this.1.l0
 | drK ho hq=>have:=zG4 (k:=k) (n:=_) (by rw [hq]);rw [hq] at this;exact lift q this.2.2.1 (zLS hq) this.2.2.2 this.1.l0
 | slK ho hn hq =>
  exfalso
  rename_i c
  have hc:=zJL 5 (by decide) (p:=32) rfl (hm.key hn) hS h5
  unfold zA0 at hq
  split at hq
  ·split at hq
   ·injection hq with _ hq;exact hc hq
   ·rename_i h0;injection hq with _ hq;exact h0 hq
  ·rename_i h0;injection hq with _ hq;exact h0 hq
 | opK ho hn hq =>
  exfalso
  rename_i c
  have hc:=zJL 6 (by decide) (p:=64) rfl (hm.key hn) hS h6
  unfold zA7 at hq
  split at hq
  ·split at hq
   ·injection hq with _ hq;cases hq
   ·injection hq with _ hq;exact hc hq
  ·rename_i h0;injection hq with _ hq;exact h0 hq
theorem zMd (h:Cl S G m) {off:Int} {v:ValV} (hg:zCD m.mem k off=(v,0)):HasV S G v:=by
 have h1:(atF m.mem.length k off 1).2=0:=by
  by_cases e:(atF m.mem.length k off 1).2=0
  ·exact e
  ·simp only [zCD] at hg
   rw [if_pos e] at hg
   injection hg with _ hg
 obtain ⟨a1,a2,a3,a4,a5,a6,a7⟩:=atF_ok.1 h1
 have hb:=(covB_iff.1 a6).1
 have hp:=a1.b0
 obtain ⟨j,hj⟩:=Int.eq_ofNat_of_zero_le (show 0≤k.at_+off by omega)
 rw [zGP h1 hj] at hg
 by_cases hc:(m.mem.getD j zeroV).is=true∧zAM k.perm 8=0
 ·rw [if_pos hc] at hg
  injection hg with hg
  rw [←hg]
  exact HasV.zero
 ·rw [if_neg hc] at hg
  injection hg with hg
  rw [←hg]
  exact h.mem j
theorem zL4 (h:Cl S G m) (hS:∀ k,S k→k.seal_≠0) (h5:∀ g,G g→(bv g.perm).getLsbD 5=false) (h6:∀ g,G g→(bv g.perm).getLsbD 6=false) {v:ValV} (hs:SetV i m v):HasV S G v:=by
 cases hs with
 | set ho=>exact HasV.num _
 | copy ho=>exact h.reg _
 | nums ho hb hc hn=>exact HasV.num _
 | ask0 ho hc=>exact HasV.num _
 | ask ho hc hk=>exact HasV.num _
 | here ho=>exact HasV.key (.inr h.code)
 | load ho hk hg=>exact zMd h hg
 | key hk hs=>exact HasV.key (zIr hs (h.key hk) h hS h5 h6)
theorem zKU (h:∀ j:Nat,HasV S G (m.mem.getD j zeroV)) {v:ValV} (hv:HasV S G v) (k:KeyV) (off:Int) (j:Nat):HasV S G ((zBN m.mem k off v).getD j zeroV):=by
 unfold zBN
 by_cases e:(k.at_+off).toNat=j
 ·subst e
  rw [List.getD_eq_getElem?_getD]
  by_cases hl:(k.at_+off).toNat < m.mem.length
  ·rw [List.getElem?_set_self hl];exact hv
  ·rw [List.getElem?_eq_none (by rw [List.length_set];omega)];exact HasV.zero
 ·have:=h j
  rw [List.getD_eq_getElem?_getD] at this ⊢
  rw [List.getElem?_set_ne e];exact this
structure ClStep (S G:KeyV→Prop) (m n:MV):Prop where
 cl:Cl S G n
 len:n.mem.length=m.mem.length
 mem:∀ j:Nat,¬zMX G 2 j→n.mem.getD j zeroV=m.mem.getD j zeroV
theorem Cl.step (h:Cl S G m) (hS:∀ k,S k→k.seal_≠0) (h5:∀ g,G g→(bv g.perm).getLsbD 5=false) (h6:∀ g,G g→(bv g.perm).getLsbD 6=false) (hs:Stepd i m n) :
  ClStep S G m n∨∃ a b,S a∧S b∧a.seal_=b.seal_∧zAM a.perm 4≠0∧zAM b.perm 4=0∧n={m with stk:=m.stk++[⟨{m.c with at_:=m.c.at_+1},m.reg 7⟩],c:=zB9 a,R:=m.R.set 7 (kV (zB9 b))}:=by
 cases hs with
 | set hv=>exact .inl ⟨(h.set _ (zL4 h hS h5 h6 hv)).fwd 1,rfl,fun _ _=>rfl⟩
 | store ho hk hp =>
  rename_i k
  have h0:(atF m.mem.length k i.c 2).2=0:=by
   by_cases h0:(atF m.mem.length k i.c 2).2=0
   ·exact h0
   ·rw [zFY h0] at hp;exact absurd hp h0
  obtain ⟨a1,a2,a3,a4,a5,a6,a7⟩:=atF_ok.1 h0
  have hb:=(covB_iff.1 a6).1
  have hp0:=a1.b0
  obtain ⟨j,hj⟩:=Int.eq_ofNat_of_zero_le (show 0≤k.at_+i.c by omega)
  refine .inl ⟨Cl.fwd (m:={m with mem:=zBN m.mem k i.c (m.reg i.a)}) ⟨h.regs,h.code,h.stk,fun l=>zKU h.mem (h.reg _) k i.c l⟩ 1,?_,fun l hl=>?_⟩
  ·show (zBN m.mem k i.c (m.reg i.a)).length=_
   unfold zBN
   rw [List.length_set]
  ·show (zBN m.mem k i.c (m.reg i.a)).getD l zeroV=_
   have e:(k.at_+i.c).toNat≠l:=by
    rintro rfl
    rcases h.key hk with hx | ⟨_,g,g1,g2⟩
    ·exact hS k hx a2
    ·refine hl ⟨g,g1,zCg (zJD a3) g2.2,?_⟩
     have:=zFe g2 a6
     rw [hj] at this ⊢
     simpa using this
   unfold zBN
   rw [List.getD_eq_getElem?_getD,List.getElem?_set_ne e,←List.getD_eq_getElem?_getD]
 | clear ho =>
  refine .inl ⟨Cl.fwd (m:={m with R:=zCX i.c m.R}) ⟨fun v hv=>?_,h.code,h.stk,h.mem⟩ 1,rfl,fun _ _=>rfl⟩
  simp only [zCX,List.mem_mapIdx] at hv
  obtain ⟨r,hr,rfl⟩:=hv
  split
  ·exact HasV.zero
  ·exact h.regs _ (List.getElem_mem hr)
 | tell ho hn hl=>rename_i x;exact .inl ⟨Cl.fwd (m:={m with out:=m.out++[x]}) ⟨h.regs,h.code,h.stk,h.mem⟩ 1,rfl,fun _ _=>rfl⟩
 | jump ho hn=>exact .inl ⟨h.fwd _,rfl,fun _ _=>rfl⟩
 | ifn ho hn hd hx=>exact .inl ⟨h.fwd _,rfl,fun _ _=>rfl⟩
 | call ho ha hb h1 h2 h3 h4 h5' =>
  rename_i a b
  have sa:S a:=by
   rcases h.key ha with hx | ⟨hx,_⟩
   ·exact hx
   ·exact absurd hx h1
  have sb:S b:=by
   rcases h.key hb with hx | ⟨hx,_⟩
   ·exact hx
   ·exact absurd (h2.trans hx) h1
  exact .inr ⟨a,b,sa,sb,h2,h3,h4,rfl⟩
 | back ho hb =>
  rename_i s f
  have hf:=h.stk f (by rw [hb];simp)
  refine .inl ⟨⟨fun v hv=>?_,hf.1,fun f' hf'=>h.stk f' (by rw [hb];exact List.mem_append_left _ hf'),h.mem⟩,rfl,fun _ _=>rfl⟩
  rcases List.mem_or_eq_of_mem_set hv with hv | rfl
  ·exact h.regs v hv
  ·exact hf.2
end
end
section
open Go.RowKit
section
variable {s:KeyV} {G:KeyV→Prop}
theorem zL6 (hs:s.seal_≠0) (h5:∀ g,G g→(bv g.perm).getLsbD 5=false) (h6:∀ g,G g→(bv g.perm).getLsbD 6=false) (f:Nat):∀ m:MV,Cl (fun k=>k=s) G m→Cl (fun k=>k=s) G (m.run f).1:=by
 induction f with
 | zero=>intro m h;exact h
 | succ f ih =>
  intro m h
  cases ho:m.one with
  | ok n =>
   rw [zFr ho]
   obtain ⟨i,_,hi⟩:=zEv ho
   rcases h.step (fun k hk=>by rw [hk];exact hs) h5 h6 hi with hc | ⟨a,b,rfl,rfl,_,h3,h4,_⟩
   ·exact ih n hc.cl
   ·exact absurd h4 h3
  | error e=>rw [zFs ho];exact h
theorem zJb {m:MV} (h:Cl (fun k=>k=s) G m) {k:KeyV} (hk:zMy m k):k.seal_=0∨k=s:=by
 have hv:∀ k,zE6 (fun k=>k=s) G k→k.seal_=0∨k=s:=by
  rintro k (h | ⟨h,_⟩)
  ·exact .inr h
  ·exact .inl h
 cases hk with
 | root hr =>
  rcases hr with rfl | ⟨v,hv',hi,rfl⟩ | ⟨_,f,hf,rfl | ⟨hi,rfl⟩⟩
  ·exact .inl h.code.1
  ·exact hv _ (h.regs v hv' hi)
  ·exact .inl (h.stk f hf).1.1
  ·exact hv _ ((h.stk f hf).2 hi)
 | next _ hn =>
  obtain ⟨ho,j,h1,h2,h3,hi,rfl⟩:=hn
  exact hv _ (h.mem j hi)
end
end
section
open Go.RowKit
def N1 {α:Type} (x:Ex α):Prop:=∀ e:Int,x=.error e→e≠1
end
section
open Go.RowKit
structure DoneV where
 e:Int
 n:Int
 out:List Int
 fuel:Int
def zH5 (M:List ValV) (x:EntryV) (args:List Int):MV:=⟨zCp x args,zDa x,M,[],[]⟩
def zMA (r:MV×Int×Int):DoneV:=⟨if r.2.2=16 then 0 else r.2.2,if (r.1.R.getD 0 zeroV).is then 0 else (r.1.R.getD 0 zeroV).n,r.1.out,r.2.1⟩
def doX (M:List ValV) (r:MV×Int×Int):DoneV×List ValV:=if r.2.2=1 then (⟨1,0,[],0⟩,M) else (zMA r,r.1.mem)
def doF (M:List ValV) (E:List EntryV) (s:ByteArray) (args:List Int) (f:Int):DoneV×List ValV :=
 if zBd E s args≠0 then (⟨zBd E s args,0,[],0⟩,M) else doX M (zCm (zH5 M ((zBD E s).getD zeroE) args) f)
theorem zLR (M:List ValV) (x:EntryV) (args:List Int):(zH5 M x args).R.length=8:=by
 show (zCp x args).length=8
 unfold zCp
 rw [List.length_set,zBV]
theorem zI2 {M:List ValV} (h:zA4 M=0) {E:List EntryV} {s:ByteArray} {args:List Int} {f:Int}:zA4 (doF M E s args f).2=0:=by
 unfold doF
 split
 ·exact h
 ·unfold doX
  split
  ·exact h
  ·next h1 =>
   show zA4 (zCm _ f).1.mem=0
   unfold zCm at h1 ⊢
   by_cases hc:zCB (zH5 M ((zBD E s).getD zeroE) args) f=0
   ·rw [if_neg (by simp [hc])]
    unfold zCB at hc
    by_cases hf:f < 0∨5000 < f
    ·rw [if_pos hf] at hc;cases hc
    ·rw [if_neg hf] at hc
     have hk:=zGH f.toNat _ (zFL (zLR M ((zBD E s).getD zeroE) args) hc)
     have:=zFT hk
     unfold MV.check at this
     exact (zBT _).2 ⟨hk.1.len,hk.1.mem⟩
   ·rw [if_pos hc]
    exact (zBT []).2 ⟨by simp,fun v hv=>by simp at hv⟩
end
section
open El (cl)
open Go.RowKit
structure JobR where
 name:ByteArray
 args:SlR
 fuel:Int
structure JobV where
 name:ByteArray
 args:List Int
 fuel:Int
instance:El JobR where
 k:=3
 cl x:=[.string x.name,.slice x.args.a x.args.n x.args.c,.int .i64 x.fuel]
 z:=⟨ByteArray.empty,⟨none,0,0⟩,0⟩
 len _:=rfl
 one _:=by intro u hu;simp at hu;rcases hu with rfl | rfl | rfl<;>rfl
 pos:=by decide
instance:Inhabited JobR:=⟨⟨ByteArray.empty,⟨none,0,0⟩,0⟩⟩
theorem zE5 (a:Addr) (i j:Nat) (hj:0 < j):a.add (i+j)=⟨(a.add i).block,(a.add i).off+j,none⟩:=by
 unfold Addr.add
 rw [if_neg (by omega)]
 by_cases hi:i=0
 ·subst hi;simp
 ·rw [if_neg hi];simp [Nat.add_assoc]
theorem zNE {w:World} {ao:Option Addr} {n:Nat} {ks:List JobR} (h:Sl w ao n ks) {i:Nat} (hi:i < n) {x:JobR} (hx:ks[i]?=some x):∃ a,ao=some a∧(a.add (i*3)).block < w.heap.size ∧
  w.cell? (a.add (i*3))=some (.string x.name)∧w.cell? ⟨(a.add (i*3)).block,(a.add (i*3)).off+1,none⟩=some (.slice x.args.a x.args.n x.args.c)∧w.cell? ⟨(a.add (i*3)).block,(a.add (i*3)).off+2,none⟩=some (.int .i64 x.fuel):=by
 obtain ⟨a,y,e,hb,hy,hc⟩:=h.at hi
 obtain rfl:y=x:=by rw [hx] at hy;injection hy with hy;exact hy.symm
 refine ⟨a,e,by rw [zBH];exact hb,?_⟩
 rw [←zE5 a (i*3) 1 (by decide),←zE5 a (i*3) 2 (by decide)]
 exact ⟨hc 0 _ rfl,hc 1 _ rfl,hc 2 _ rfl⟩
structure JobR.has (w:World) (r:JobR) (j:JobV):Prop where
 name:j.name=r.name
 fuel:j.fuel=r.fuel
 args:Sl w r.args.a r.args.n j.args
 le:r.args.n≤r.args.c
 wa:∀ n∈j.args,I64 n
 wf:I64 r.fuel
theorem JobR.has.below {w w':World} {r:JobR} {j:JobV} (h:r.has w j) (hb:Below w.heap.size w w'):r.has w' j:=⟨h.name,h.fuel,h.args.below hb,h.le,h.wa,h.wf⟩
structure Jobs (w:World) (ao:Option Addr) (n:Nat) (rs:List JobR) (js:List JobV):Prop where
 sl:Sl w ao n rs
 len:rs.length=js.length
 at_:∀ (i:Nat) (r:JobR) (j:JobV),rs[i]?=some r→js[i]?=some j→r.has w j
theorem Jobs.below {w w':World} {ao:Option Addr} {n:Nat} {rs:List JobR} {js:List JobV} (h:Jobs w ao n rs js) (hb:Below w.heap.size w w'):Jobs w' ao n rs js :=
 ⟨h.sl.below hb,h.len,fun i r m h1 h2=>(h.at_ i r m h1 h2).below hb⟩
theorem Jobs.n {w:World} {ao:Option Addr} {n:Nat} {rs:List JobR} {js:List JobV} (h:Jobs w ao n rs js):js.length=n:=by rw [←h.len];exact h.sl.len
theorem Jobs.get {w:World} {ao:Option Addr} {n:Nat} {rs:List JobR} {js:List JobV} (h:Jobs w ao n rs js) {i:Nat} (hi:i < n):∃ r j,rs[i]?=some r∧js[i]?=some j∧r.has w j:=by
 have h1:=h.n
 have h2:=h.len
 exact ⟨_,_,List.getElem?_eq_getElem (by omega),List.getElem?_eq_getElem (by omega),h.at_ i _ _ (List.getElem?_eq_getElem (by omega)) (List.getElem?_eq_getElem (by omega))⟩
end
section
open El (cl)
open Go Go.RowKit Go.Shelf
attribute [local go_sem] Oper.semAt_some
def MV.places (m:MV):Nat→List Int
 | 0=>[]
 | f+1=>if m.err=0 then m.c.at_::m.after.places f else []
end
section
open Go.RowKit
def MV.at_ (m:MV):Nat→MV
 | 0=>m
 | i+1=>(m.at_ i).after
end
section
open Go.RowKit
end
section
open Go Go.RowKit
theorem opK {i:InstV} (h:zAE i=true):0≤i.op∧i.op.toNat < 23:=by
 have h1:=(zCU (op:=i.op) (a:=i.a) (b:=i.b) (c:=i.c) h)
 omega
end
section
open Go Go.RowKit
structure Sim (r r':RdV):Prop where
 code:r.code=r'.code
 labels:r.labels=r'.labels
 holes:r.holes.map (fun h=>(h.at_,h.i,h.name))=r'.holes.map (fun h=>(h.at_,h.i,h.name))
theorem Sim.refl (r:RdV):Sim r r:=⟨rfl,rfl,rfl⟩
theorem Sim.line {r r':RdV} (h:Sim r r') (n n':Int) (s:List UInt8):Sim (zAW r n s).1 (zAW r' n' s).1∧(zAW r n s).2=(zAW r' n' s).2:=by
 obtain ⟨c,l,o⟩:=r
 obtain ⟨c',l',o'⟩:=r'
 obtain ⟨h1,h2,h3⟩:=h
 simp only at h1 h2 h3
 subst h1 h2
 unfold zAW
 split
 ·exact ⟨⟨rfl,rfl,h3⟩,rfl⟩
 split
 ·unfold zBa
  split
  ·exact ⟨⟨rfl,rfl,h3⟩,rfl⟩
  split
  ·exact ⟨⟨rfl,rfl,h3⟩,rfl⟩
  split
  ·exact ⟨⟨rfl,rfl,h3⟩,rfl⟩
  ·exact ⟨⟨rfl,rfl,h3⟩,rfl⟩
 split
 ·exact ⟨⟨rfl,rfl,h3⟩,rfl⟩
 ·unfold zAH
  split
  ·split
   ·exact ⟨⟨rfl,rfl,h3⟩,rfl⟩
   ·exact ⟨⟨rfl,rfl,h3⟩,rfl⟩
  split
  ·refine ⟨⟨rfl,rfl,?_⟩,rfl⟩
   simp only [List.map_append,h3,List.map_cons,List.map_nil]
  split
  ·exact ⟨⟨rfl,rfl,h3⟩,rfl⟩
  ·exact ⟨⟨rfl,rfl,h3⟩,rfl⟩
theorem zG0:∀ (hs:List HoleV) (labels:List NamV) (code:List Int),(zAY labels code hs).1.length=code.length
 | [],_,_=>rfl
 | h::hs,labels,code=>by
  rw [zB2]
  split
  ·rfl
  split
  ·rw [zG0 hs];simp
  ·rfl
end
section
open Go Go.RowKit
structure RInv (r:RdV):Prop where
 h1:∀ h∈r.holes,0≤h.at_∧h.at_ < r.code.length
 h2:r.holes.Pairwise fun a b=>a.at_ < b.at_
 l1:∀ x∈r.labels,zW x.name=true∧0≤x.at_∧x.at_≤r.code.length
 l2:r.labels.Pairwise fun a b=>a.name≠b.name
theorem zNV:RInv rd0:=⟨by simp [rd0],by simp [rd0],by simp [rd0],by simp [rd0]⟩
theorem zMk {l:List NamV} {s:ByteArray} (hl:∀ x∈l,0≤x.at_) (h:zBe l s < 0):∀ x∈l,x.name≠s:=by
 intro x hx e
 unfold zBe at h
 cases hf:l.find? (fun x=>decide (x.name=s)) with
 | none =>
  rw [List.find?_eq_none] at hf
  exact hf x hx (by simpa using e)
 | some y =>
  rw [hf] at h
  have:=hl y (List.mem_of_find?_eq_some hf)
  simp only at h
  omega
theorem zMP {r:RdV} (hi:RInv r) {n:Int} {s:List UInt8} (h:(zAW r n s).2=0):RInv (zAW r n s).1:=by
 obtain ⟨a1,a2,a3,a4⟩:=hi
 have more:∀ k:Int,RInv ⟨r.code++[k],r.labels,r.holes⟩:=fun k =>
  ⟨fun x hx=>by have:=a1 x hx;simp only [List.length_append,List.length_singleton];push_cast;omega,a2,fun x hx=>by have:=a3 x hx;simp only [List.length_append,List.length_singleton];push_cast;exact ⟨this.1,this.2.1,by omega⟩,a4⟩
 unfold zAW at h ⊢
 split
 ·exact ⟨a1,a2,a3,a4⟩
 next h1 =>
 rw [if_neg h1] at h
 split
 ·next h2 =>
  rw [if_pos h2] at h
  unfold zBa at h ⊢
  split
  ·exact ⟨a1,a2,a3,a4⟩
  next g1 =>
  split
  ·exact ⟨a1,a2,a3,a4⟩
  next g2 =>
  have g2':=Int.not_le.1 g2
  split
  ·exact ⟨a1,a2,a3,a4⟩
  refine ⟨a1,a2,fun x hx=>?_,?_⟩
  ·rcases List.mem_append.1 hx with h3 | h3
   ·exact a3 x h3
   ·rw [List.mem_singleton] at h3
    subst h3
    exact ⟨by simpa using g1,by simp only;omega,Int.le_refl _⟩
  ·refine List.pairwise_append.2 ⟨a4,List.pairwise_singleton _ _,fun x hx y hy=>?_⟩
   rw [List.mem_singleton] at hy
   subst hy
   exact zMk (fun z hz=>(a3 z hz).2.1) g2' x hx
 next h2 =>
 rw [if_neg h2] at h
 split
 ·exact ⟨a1,a2,a3,a4⟩
 next h3 =>
 rw [if_neg h3] at h
 unfold zAH at h ⊢
 split
 ·split
  ·exact more _
  ·exact ⟨a1,a2,a3,a4⟩
 split
 ·obtain ⟨b1,b2,b3,b4⟩:=more 0
  refine ⟨fun x hx=>?_,?_,b3,b4⟩
  ·rcases List.mem_append.1 hx with h3 | h3
   ·exact b1 x h3
   ·rw [List.mem_singleton] at h3
    subst h3
    simp only [List.length_append,List.length_singleton]
    push_cast;omega
  ·refine List.pairwise_append.2 ⟨a2,List.pairwise_singleton _ _,fun x hx y hy=>?_⟩
   rw [List.mem_singleton] at hy
   subst hy
   exact (a1 x hx).2
 split
 ·exact more _
 ·exact ⟨a1,a2,a3,a4⟩
theorem zGv:∀ (ls:List (List UInt8)) (r:RdV) (n:Nat),RInv r→(zX r n ls).2.2=0→RInv (zX r n ls).1
 | [],r,n,hi,_=>hi
 | s::ls,r,n,hi,h=>by
  rw [zBl] at h ⊢
  split
  ·next hk=>rw [if_pos hk] at h;exact zGv ls _ _ (zMP hi hk) h
  ·next hk=>rw [if_neg hk] at h;exact absurd h hk
end
section
open Go Go.RowKit
end
section
open Go.RowKit
end
section
open Go.RowKit
end
section
open El (cl)
open Go.Joins Go.ChangeShapes Go.WideShapes Go.ChangeAt Go.RowKit Go.Deep
section
variable {H:Type} {enc:TypeId×Value→H} {w:World} {spare:Nat→Bool} {held:Bool}
theorem zJv {fuel:Nat} {cs:List Value} {x:DataW H×List MemPlace} (h:DataW.trod enc Tryz.prog w 0 spare held fuel 3 cs=some x) (hl:cs.length=1):∃ n:Int,cs=cl n∧I64 n:=by
 match cs,hl with
 | [c0],_ =>
  obtain ⟨a,f0,_,w0⟩:=DataW.trod_int Tryz.underlying3 h
  simp at f0
  subst f0
  exact ⟨a,rfl,zDz w0⟩
theorem zGq {r:Reach} {b0:Nat} {v:Value} {d:DataW H} {p:List MemPlace} (hv:Value.okWide Tryz.prog w r b0 36 v) (h:DataW.Trod enc Tryz.prog w 0 spare held 36 v d p) :
  ∃ x:SlV Int,v=x.val∧x.ok I64 w∧(x.n=0∨∃ es sp,d=.slice es sp∧es.length=x.n) :=
 zMI Tryz.underlying36 (by kernel_rfl) (fun fuel cs x hx hl => zJv hx hl) hv h
end
end
section
open Go Go.ChangeShapes Go.WideShapes Go.ChangeAt Go.RowKit
theorem jfA:(Rows.topSealsRow.inPlace==Tryz.pinned.checked.prog.inPlace 6)=true:=by kernel_rfl
theorem jfB:(Rows.topSealsRow.unfollowed==Tryz.pinned.checked.prog.unfollowed 6)=true:=by kernel_rfl
theorem jfC:(Rows.topSealsRow.recurses==Tryz.pinned.checked.prog.recurses 6)=true:=by kernel_rfl
theorem jfD:(Rows.topSealsRow.named==Tryz.pinned.checked.prog.varsNamed 6)=true:=by kernel_rfl
theorem jf:joinedFacts Tryz.pinned.checked.prog 6 Tryz.f6 (OpenSpec.ofChange Rows.topSealsSpec).bare Rows.topSealsRow=true:=by
 unfold joinedFacts
 rw [jfA,jfB,jfC,jfD]
 kernel_rfl
end
end Go.Proofs.YtlpejagkadalbaaGreatDoor
