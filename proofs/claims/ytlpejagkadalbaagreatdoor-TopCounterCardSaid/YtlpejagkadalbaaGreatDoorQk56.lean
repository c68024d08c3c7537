import Derived.Test.YtlpejagkadalbaaGreatDoorQk55
import Derived.Test.YtlpejagkadalbaaGreatDoorQk37
set_option maxHeartbeats 40000000
set_option maxRecDepth 100000
set_option linter.unusedVariables false
set_option linter.unusedSimpArgs false
namespace Go.Proofs.YtlpejagkadalbaaGreatDoor
open Go.RowKit
def zLt:KeyV:=⟨5,0,9,0,1⟩
def zLu:KeyV:=⟨5,0,9,7,1⟩
def zEY:KeyV:=⟨27,9,1,9,1⟩
def cS (k:KeyV):Prop:=k=zLt∨k=zLu∨k=zEY
def cG (lc ld:Nat) (k:KeyV):Prop:=(∃ a s,k=⟨5,10,lc,a,s⟩)∨∃ a s,k=⟨27,10+lc,ld,a,s⟩
section
variable {lc ld:Nat} {m n:MV} {i:InstV} {t:Int}
theorem zQb:∀ k,cS k→k.seal_≠0:=by
 rintro k (rfl | rfl | rfl)<;>decide
theorem zRX:∀ g,cG lc ld g→(bv g.perm).getLsbD 5=false:=by
 rintro g (⟨a,s,rfl⟩ | ⟨a,s,rfl⟩)
 ·show (bv 5).getLsbD 5=false
  decide
 ·show (bv 27).getLsbD 5=false
  decide
theorem zRW:∀ g,cG lc ld g→(bv g.perm).getLsbD 6=false:=by
 rintro g (⟨a,s,rfl⟩ | ⟨a,s,rfl⟩)
 ·show (bv 5).getLsbD 6=false
  decide
 ·show (bv 27).getLsbD 6=false
  decide
theorem zRB {p:Int} {j:Nat} (h:zEu (cG lc ld) p j):10≤j:=by
 obtain ⟨g,⟨a,s,rfl⟩ | ⟨a,s,rfl⟩,_,hc⟩:=h<;>(have:=(covB_iff.1 hc).1;simp only at this;omega)
theorem zQ7 {k:KeyV} (h:DomT (cG lc ld) k) {j:Int} (hc:zCQ k.base k.len j=true):10≤j:=by
 obtain ⟨g,⟨a,s,rfl⟩ | ⟨a,s,rfl⟩,hl⟩:=h<;>(have:=(covB_iff.1 (zDm hl hc)).1;simp only at this;omega)
structure CMem (t:Int) (mem:List ValV):Prop where
 code:∀ j:Nat,j < 9→mem.getD j zeroV=nV (codeC.getD j 0)
 data:mem.getD 9 zeroV=nV t
 len:9 < mem.length
structure InC (lc ld:Nat) (t:Int) (p:Int) (m:MV):Prop where
 c:m.c=⟨5,0,9,p,0⟩
 p:p=0∨(p=1∧m.reg 1=nV t)∨(p=2∧m.reg 1=nV t∧m.reg 2=nV 1)∨(p=3∧m.reg 1=nV (t+1))∨p=4∨p=5∨p=6∨p=7∨p=8
 r7:m.reg 7=kV ⟨27,9,1,9,0⟩
 regs:∀ r:Nat,r < 7→HasV cS (cG lc ld) (m.reg r)
 stk:∀ f∈m.stk,(f.code.seal_=0∧DomT (cG lc ld) f.code)∧HasV cS (cG lc ld) f.data
 mem:∀ j:Nat,HasV cS (cG lc ld) (m.mem.getD j zeroV)
def zPN (lc ld:Nat) (t:Int) (m:MV):Prop:=CMem t m.mem∧(Cl cS (cG lc ld) m∨∃ p,InC lc ld t p m)
theorem zEU (m:MV) (r:Nat):m.reg (r:Int)=m.R.getD r zeroV:=by unfold MV.reg;rw [Int.toNat_natCast]
theorem zF6 (m:MV) (v:ValV) (r q:Nat):(m.set (r:Int) v).reg (q:Int)=if r=q∧r < m.R.length then v else m.reg q:=by
 rw [zEU,zEU]
 unfold MV.set
 simp only [Int.toNat_natCast]
 rw [List.getD_eq_getElem?_getD,List.getElem?_set,List.getD_eq_getElem?_getD]
 by_cases h:r=q
 ·subst h
  by_cases hl:r < m.R.length
  ·simp [hl]
  ·simp [hl]
 ·simp [h]
theorem zNc {p:Int} (hm:CMem t m.mem) (h:InC lc ld t p m) (hf:m.fetch=.ok i):i=zAb (codeC.getD p.toNat 0):=by
 obtain ⟨_,_,_,_,h5,h6,h7,h8,h9,h10,_⟩:=zDs hf
 rw [h.c] at h5 h6 h7 h10
 simp only at h5 h6 h7 h10
 rw [hm.code p.toNat (by omega)] at h10
 exact h10
theorem zRN:(zAb (codeC.getD 0 0)=⟨10,1,7,0⟩∧zAb (codeC.getD 1 0)=⟨1,2,0,1⟩∧zAb (codeC.getD 2 0)=⟨3,1,1,2⟩∧zAb (codeC.getD 3 0)=⟨11,1,7,0⟩∧zAb (codeC.getD 4 0)=⟨2,0,1,0⟩)∧zAb (codeC.getD 5 0)=⟨21,0,0,6⟩∧zAb (codeC.getD 6 0)=⟨19,0,0,0⟩∧zAb (codeC.getD 7 0)=⟨10,0,7,0⟩∧zAb (codeC.getD 8 0)=⟨19,0,0,0⟩:=⟨⟨by kernel_rfl,by kernel_rfl,by kernel_rfl,by kernel_rfl,by kernel_rfl⟩,by kernel_rfl,by kernel_rfl,by kernel_rfl,by kernel_rfl⟩
theorem zJq (hm:CMem t m.mem) (hr:m.reg 7=kV ⟨27,9,1,9,0⟩) {a:Int} (h:m.exec ⟨10,a,7,0⟩=.ok n):n=(m.set a (nV t)).fwd 1:=by
 have e:m.exec ⟨10,a,7,0⟩=((m.key 7 >>= fun k=>zCD (zBr m.mem k 0) >>= fun v=>pure (m.set a v)) >>= fun m'=>pure (m'.fwd 1)):=rfl
 rw [e] at h
 obtain ⟨m1,h,h2⟩:=zAa h
 injection h2 with h2
 obtain ⟨k,hk,h⟩:=zAa h
 obtain ⟨v,hv,h⟩:=zAa h
 have h9:(.ok (m.set a v):Ex MV)=.ok m1:=h
 injection h9 with h9
 have hv:=zDh hv
 obtain ⟨_,rfl⟩:=zFq hk
 rw [hr] at hv
 have hv:zBr m.mem ⟨27,9,1,9,0⟩ 0=(v,0):=hv
 have h1:(atF m.mem.length ⟨27,9,1,9,0⟩ 0 1).2=0:=by
  by_cases e:(atF m.mem.length ⟨27,9,1,9,0⟩ 0 1).2=0
  ·exact e
  ·simp only [zBr,kV] at hv
   rw [if_pos e] at hv
   injection hv with _ hv
 have h3:=zEL (m:=m.mem) (k:=⟨27,9,1,9,0⟩) (off:=0) h1 (j:=9) rfl
 rw [h3,hm.data,if_neg (by simp [nV])] at hv
 injection hv with hv
 rw [←h2,←h9,←hv]
theorem zJ1 (hS:∀ f∈m.stk,(f.code.seal_=0∧DomT (cG lc ld) f.code)∧HasV cS (cG lc ld) f.data) (hR:∀ r:Nat,r < 7→HasV cS (cG lc ld) (m.reg r)) (hl:m.R.length=8) (hM:∀ j:Nat,HasV cS (cG lc ld) (m.mem.getD j zeroV)) {i:InstV} (hi:i=⟨19,0,0,0⟩) (h:m.exec i=.ok n):n.mem=m.mem∧Cl cS (cG lc ld) n:=by
 subst hi
 have e:m.exec ⟨19,0,0,0⟩=m.back:=rfl
 rw [e] at h
 unfold MV.back at h
 cases hg:m.stk.getLast? with
 | none=>rw [hg] at h;cases h
 | some f =>
  rw [hg] at h
  injection h with h
  subst h
  have hf:=hS f (List.mem_of_getLast? hg)
  refine ⟨rfl,⟨fun v hv=>?_,hf.1,fun f' hf'=>hS f' ((List.dropLast_sublist m.stk).subset hf'),hM⟩⟩
  obtain ⟨r,hr⟩:=List.mem_iff_getElem?.1 hv
  simp only at hr
  rw [List.getElem?_set] at hr
  by_cases h7:7=r
  ·subst h7
   rw [if_pos rfl,if_pos (by omega)] at hr
   injection hr with hr
   subst hr
   exact hf.2
  ·rw [if_neg h7] at hr
   have hlt:=(List.getElem?_eq_some_iff.1 hr).1
   have:=hR r (by omega)
   rw [zEU,List.getD_eq_getElem?_getD,hr] at this
   exact this
theorem InC.next {p q t':Int} (h:InC lc ld t p m) (hl:m.R.length=8) (r:Nat) (hr:r < 7) {v:ValV} (hv:HasV cS (cG lc ld) v) (hq:q=p+1) (hp:q=0∨(q=1∧(m.set (r:Int) v).reg 1=nV t')∨(q=2∧(m.set (r:Int) v).reg 1=nV t'∧(m.set (r:Int) v).reg 2=nV 1)∨(q=3∧(m.set (r:Int) v).reg 1=nV (t'+1))∨q=4∨q=5∨q=6∨q=7∨q=8):InC lc ld t' q ((m.set (r:Int) v).fwd 1):=by
 subst hq
 refine ⟨?_,hp,?_,fun x hx=>?_,h.stk,h.mem⟩
 ·show ({m.c with at_:=m.c.at_+1}:KeyV)=_
  rw [h.c]
 ·show (m.set (r:Int) v).reg ((7:Nat):Int)=_
  rw [zF6,if_neg (by omega)]
  exact h.r7
 ·show HasV _ _ ((m.set (r:Int) v).reg x)
  rw [zF6]
  split
  ·exact hv
  ·exact h.regs x hx
theorem zOo {p:Int} (hm:CMem t m.mem) (h:InC lc ld t p m) (hl:m.R.length=8) (ht : -2147483648≤t∧t+1≤2147483647) (ho:m.one=.ok n):zPN lc ld (if p=3 then t+1 else t) n:=by
 unfold MV.one at ho
 obtain ⟨i,hf,ho⟩:=zAa ho
 have hi:=zNc hm h hf
 obtain ⟨⟨c0,c1,c2,c3,c4⟩,c5,c6,c7,c8⟩:=zRN
 have r1:=zF6 m
 rcases h.p with rfl | ⟨rfl,p1⟩ | ⟨rfl,p1,p2⟩ | ⟨rfl,p1⟩ | rfl | rfl | rfl | rfl | rfl
 ·rw [hi,show (0:Int).toNat=0 from rfl,c0] at ho
  rw [zJq hm h.r7 ho]
  refine ⟨hm,.inr ⟨1,h.next hl 1 (by decide) (HasV.num _) rfl (.inr (.inl ⟨rfl,?_⟩))⟩⟩
  have:=r1 (nV t) 1 1
  rw [if_pos ⟨rfl,by omega⟩] at this
  exact this
 ·rw [hi,show (1:Int).toNat=1 from rfl,c1] at ho
  have e:m.exec ⟨1,2,0,1⟩=.ok ((m.set 2 (nV 1)).fwd 1):=rfl
  rw [e] at ho
  injection ho with ho
  subst ho
  refine ⟨hm,.inr ⟨2,h.next hl 2 (by decide) (HasV.num _) rfl (.inr (.inr (.inl ⟨rfl,?_,?_⟩)))⟩⟩
  ·have:=r1 (nV 1) 2 1
   rw [if_neg (by omega)] at this
   exact this.trans p1
  ·have:=r1 (nV 1) 2 2
   rw [if_pos ⟨rfl,by omega⟩] at this
   exact this
 ·rw [hi,show (2:Int).toNat=2 from rfl,c2] at ho
  have e:m.exec ⟨3,1,1,2⟩=((m.num 1 >>= fun b=>m.num 2 >>= fun c=>opN 3 b c >>= fun n=>pure (m.set 1 (nV n))) >>= fun m'=>pure (m'.fwd 1)):=rfl
  rw [e] at ho
  obtain ⟨m1,ho,h2⟩:=zAa ho
  injection h2 with h2
  obtain ⟨b,hb,ho⟩:=zAa ho
  obtain ⟨c,hc,ho⟩:=zAa ho
  obtain ⟨x,hx,ho⟩:=zAa ho
  have h9:(.ok (m.set 1 (nV x)):Ex MV)=.ok m1:=ho
  injection h9 with h9
  obtain ⟨_,rfl⟩:=zJP hb
  obtain ⟨_,rfl⟩:=zJP hc
  rw [p1,p2] at hx
  have hx':zMR t 1=x:=by injection hx
  have ha:x=t+1:=by rw [←hx'];unfold zMR wrap32;omega
  rw [←h2,←h9,ha]
  refine ⟨hm,.inr ⟨3,h.next hl 1 (by decide) (HasV.num _) rfl (.inr (.inr (.inr (.inl ⟨rfl,?_⟩))))⟩⟩
  have:=r1 (nV (t+1)) 1 1
  rw [if_pos ⟨rfl,by omega⟩] at this
  exact this
 ·rw [hi,show (3:Int).toNat=3 from rfl,c3] at ho
  have e:m.exec ⟨11,1,7,0⟩=((m.key 7 >>= fun k=>if zCr m.mem.length k 0 (m.reg 1)≠0 then .error (zCr m.mem.length k 0 (m.reg 1)) else pure {m with mem:=zAz m.mem k 0 (m.reg 1)}) >>= fun m'=>pure (m'.fwd 1)):=rfl
  rw [e] at ho
  obtain ⟨m1,ho,h2⟩:=zAa ho
  injection h2 with h2
  obtain ⟨k,hk,ho⟩:=zAa ho
  obtain ⟨_,rfl⟩:=zFq hk
  split at ho
  ·cases ho
  injection ho with ho
  rw [h.r7,p1] at ho
  have es:zAz m.mem (kV ⟨27,9,1,9,0⟩).k 0 (nV (t+1))=m.mem.set 9 (nV (t+1)):=rfl
  rw [es] at ho
  rw [←h2,←ho,if_pos rfl]
  have hx:∀ j:Nat,(m.mem.set 9 (nV (t+1))).getD j zeroV=if j=9 then nV (t+1) else m.mem.getD j zeroV:=by
   intro j
   rw [List.getD_eq_getElem?_getD,List.getElem?_set,List.getD_eq_getElem?_getD]
   have:=hm.len
   by_cases h9:9=j
   ·subst h9;simp [this]
   ·rw [if_neg h9,if_neg (fun e=>h9 e.symm)]
  refine ⟨⟨fun j hj=>?_,?_,?_⟩,.inr ⟨4,⟨?_,by omega,h.r7,h.regs,h.stk,fun j=>?_⟩⟩⟩
  ·show (m.mem.set 9 (nV (t+1))).getD j zeroV=_
   rw [hx,if_neg (by omega)];exact hm.code j hj
  ·show (m.mem.set 9 (nV (t+1))).getD 9 zeroV=_
   rw [hx,if_pos rfl]
  ·show 9 < (m.mem.set 9 (nV (t+1))).length
   rw [List.length_set];exact hm.len
  ·show ({m.c with at_:=m.c.at_+1}:KeyV)=_
   rw [h.c];rfl
  ·show HasV _ _ ((m.mem.set 9 (nV (t+1))).getD j zeroV)
   rw [hx]
   split
   ·exact HasV.num _
   ·exact h.mem j
 ·rw [hi,show (4:Int).toNat=4 from rfl,c4] at ho
  have e:m.exec ⟨2,0,1,0⟩=.ok ((m.set 0 (m.reg 1)).fwd 1):=rfl
  rw [e] at ho
  injection ho with ho
  subst ho
  exact ⟨hm,.inr ⟨5,h.next (t':=t) hl 0 (by decide) (h.regs 1 (by decide)) rfl (by omega)⟩⟩
 ·rw [hi,show (5:Int).toNat=5 from rfl,c5] at ho
  have e:m.exec ⟨21,0,0,6⟩=.ok (({m with R:=zCB 6 m.R}:MV).fwd 1):=rfl
  rw [e] at ho
  injection ho with ho
  subst ho
  have hx:∀ r:Nat,r < 8→(({m with R:=zCB 6 m.R}:MV).fwd 1).reg r=if (6:Int) / (2 ^ r:Nat) % 2=1 then zeroV else m.reg r:=by
   intro r hr
   rw [zEU,zEU]
   show (zCB 6 m.R).getD r zeroV=_
   unfold zCB
   rw [List.getD_eq_getElem?_getD,List.getElem?_mapIdx,List.getD_eq_getElem?_getD,List.getElem?_eq_getElem (by omega)]
   rfl
  refine ⟨hm,.inr ⟨6,⟨?_,by omega,?_,fun r hr=>?_,h.stk,h.mem⟩⟩⟩
  ·show ({m.c with at_:=m.c.at_+1}:KeyV)=_
   rw [h.c];rfl
  ·have:=hx 7 (by decide)
   rw [if_neg (by decide)] at this
   exact this.trans h.r7
  ·rw [hx r (by omega)]
   split
   ·exact HasV.zero
   ·exact h.regs r hr
 ·rw [hi,show (6:Int).toNat=6 from rfl,c6] at ho
  obtain ⟨b1,b2⟩:=zJ1 h.stk h.regs hl h.mem rfl ho
  exact ⟨by rw [b1];exact hm,.inl b2⟩
 ·rw [hi,show (7:Int).toNat=7 from rfl,c7] at ho
  rw [zJq hm h.r7 ho]
  exact ⟨hm,.inr ⟨8,h.next (t':=t) hl 0 (by decide) (HasV.num _) rfl (by omega)⟩⟩
 ·rw [hi,show (8:Int).toNat=8 from rfl,c8] at ho
  obtain ⟨b1,b2⟩:=zJ1 h.stk h.regs hl h.mem rfl ho
  exact ⟨by rw [b1];exact hm,.inl b2⟩
theorem zQa (hm:CMem t m.mem) (h:Cl cS (cG lc ld) m) (hl:m.R.length=8) (ho:m.one=.ok n):zPN lc ld t n:=by
 obtain ⟨i,_,hs⟩:=zDx ho
 rcases h.step zQb zRX zRW hs with hc | ⟨a,b,ha,hb,hab,h3,h4,rfl⟩
 ·have hk:∀ j:Nat,j < 10→n.mem.getD j zeroV=m.mem.getD j zeroV:=fun j hj=>hc.mem j fun hh=>by have:=zRB hh;omega
  exact ⟨⟨fun j hj=>(hk j (by omega)).trans (hm.code j hj),(hk 9 (by decide)).trans hm.data,by rw [hc.len];exact hm.len⟩,.inl hc.cl⟩
 ·have hb':b=zEY:=by
   rcases hb with rfl | rfl | rfl
   ·exact absurd h4 (by decide)
   ·exact absurd h4 (by decide)
   ·rfl
  subst hb'
  have hx:∀ p:Int,(p=0∨p=7)→zBU a=⟨5,0,9,p,0⟩→InC lc ld t p {m with stk:=m.stk++[⟨{m.c with at_:=m.c.at_+1},m.reg 7⟩],c:=zBU a,R:=m.R.set 7 (kV (zBU zEY))}:=by
   intro p hp hk
   have hg:∀ r:Nat,({m with stk:=m.stk++[⟨{m.c with at_:=m.c.at_+1},m.reg 7⟩],c:=zBU a,R:=m.R.set 7 (kV (zBU zEY))}:MV).reg r=if 7=r then kV ⟨27,9,1,9,0⟩ else m.reg r:=by
    intro r
    have:=zF6 m (kV (zBU zEY)) 7 r
    by_cases h7:7=r
    ·rw [if_pos ⟨h7,by omega⟩] at this
     rw [if_pos h7];exact this
    ·rw [if_neg (fun e=>h7 e.1)] at this
     rw [if_neg h7];exact this
   refine ⟨hk,by omega,?_,fun r hr=>?_,fun f hf=>?_,h.mem⟩
   ·exact (hg 7).trans (if_pos rfl)
   ·rw [hg,if_neg (by omega)];exact h.reg r
   ·rcases List.mem_append.1 hf with hf | hf
    ·exact h.stk f hf
    ·rw [List.mem_singleton.1 hf]
     exact ⟨⟨h.code.1,h.code.2.at _⟩,h.reg _⟩
  rcases ha with rfl | rfl | rfl
  ·exact ⟨hm,.inr ⟨0,hx 0 (.inl rfl) rfl⟩⟩
  ·exact ⟨hm,.inr ⟨7,hx 7 (.inr rfl) rfl⟩⟩
  ·exact absurd (by decide) h3
theorem zM7 {m n:MV} (h:m.one=.ok n):m.err=0∧m.after=n:=by
 unfold MV.err MV.after
 rw [h]
 exact ⟨rfl,rfl⟩
theorem zNr (f:Nat):∀ (m:MV) (t:Int),m.Ok→zPN lc ld t m → -2147483648≤t→t+f≤2147483647→CMem (t+((m.places f).count 3:Nat)) (m.run f).1.mem:=by
 induction f with
 | zero=>intro m t _ h _ _;show CMem (t+(0:Nat)) m.mem;simpa using h.1
 | succ f ih =>
  intro m t hok h h1 h2
  cases ho:m.one with
  | error e =>
   have he:m.err≠0:=by unfold MV.err;rw [ho];exact zLe ho
   have hp:m.places (f+1)=[]:=by show (if m.err=0 then _ else _)=_;rw [if_neg he]
   rw [zDw ho,hp]
   simpa using h.1
  | ok n =>
   obtain ⟨e1,e2⟩:=zM7 ho
   have hp:m.places (f+1)=m.c.at_::n.places f:=by show (if m.err=0 then _ else _)=_;rw [if_pos e1,e2]
   have hn:=zJJ hok ho
   rw [zDv ho,hp,List.count_cons]
   rcases h.2 with hc | ⟨p,hc⟩
   ·have h3:m.c.at_≠3:=by
     obtain ⟨i,hi,_⟩:=zDx ho
     obtain ⟨_,_,_,_,h5,h6,_⟩:=zDs hi
     have:=zQ7 hc.code.2 (covB_iff.2 ⟨h5,h6⟩)
     omega
    rw [if_neg (by simpa using h3),Nat.add_zero]
    exact ih n t hn (zQa h.1 hc hok.2 ho) h1 (by omega)
   ·have hi:=zOo h.1 hc hok.2 ⟨h1,by omega⟩ ho
    have hat:m.c.at_=p:=by rw [hc.c]
    rw [hat]
    by_cases h3:p=3
    ·subst h3
     rw [if_pos rfl] at hi
     have:=ih n (t+1) hn hi (by omega) (by omega)
     rw [if_pos (by decide)]
     rw [show t+((List.count 3 (n.places f)+1:Nat):Int)=t+1+((n.places f).count 3:Nat) by omega]
     exact this
    ·rw [if_neg h3] at hi
     rw [if_neg (by simpa using h3),Nat.add_zero]
     exact ih n t hn hi h1 (by omega)
theorem zF7 {S G:KeyV→Prop} {l:List ValV} {v:ValV} (h:∀ j:Nat,HasV S G (l.getD j zeroV)) (hv:HasV S G v) (k j:Nat):HasV S G ((l.set k v).getD j zeroV):=by
 rw [List.getD_eq_getElem?_getD,List.getElem?_set]
 by_cases e:k=j
 ·rw [if_pos e]
  by_cases hl:k < l.length
  ·rw [if_pos hl];exact hv
  ·rw [if_neg hl];exact HasV.zero
 ·rw [if_neg e,←List.getD_eq_getElem?_getD];exact h j
theorem zOY {S G:KeyV→Prop} (l:List Int) (j:Nat):HasV S G ((l.map ValV.num).getD j zeroV):=by
 rw [List.getD_eq_getElem?_getD,List.getElem?_map]
 cases l[j]? with
 | none=>exact HasV.zero
 | some n=>exact HasV.num n
end
abbrev zDC:ByteArray:=⟨#[109,97,105,110]⟩
def zBo (code data:List Int):ModV:=⟨code,[0,0,0,0]++data,[⟨zDC,0⟩],[⟨zBq,0⟩,⟨zCP,2⟩]⟩
def zGn (code data:List Int):EntryV:=zAf 10 1 (zBo code data) ⟨zDC,0⟩
theorem zQ6 (n:Int) (code data:List Int):zU 0 0 [zAV n,zBo code data]=[⟨zBq,zLt,zEY⟩,⟨zCP,zLu,zEY⟩,zGn code data]:=by
 unfold zGn
 simp only [zU,zAV,zBo,List.map_cons,List.map_nil,List.cons_append,List.nil_append,codeC_ok.1]
 rfl
theorem zNj (n:Int) (code data:List Int):zAe (zU 0 0 [zAV n,zBo code data]) zBq=some ⟨zBq,zLt,zEY⟩∧zAe (zU 0 0 [zAV n,zBo code data]) zCP=some ⟨zCP,zLu,zEY⟩∧zAe (zU 0 0 [zAV n,zBo code data]) zDC=some (zGn code data):=by
 rw [zQ6]
 have n1:¬(zBq=zCP):=by decide
 have n2:¬(zBq=zDC):=by decide
 have n3:¬(zCP=zDC):=by decide
 have n4:(zGn code data).name=zDC:=rfl
 unfold zAe
 refine ⟨?_,?_,?_⟩<;>simp [List.find?_cons,n1,n2,n3,n4]
theorem zPQ (n:Int) (code data:List Int):zAK [zAV n,zBo code data]=((((zBb [zAV n,zBo code data]).set (10+code.length) ⟨true,0,zLt⟩).set (10+code.length+1) ⟨true,0,zEY⟩).set (10+code.length+2) ⟨true,0,zLu⟩).set (10+code.length+2+1) ⟨true,0,zEY⟩:=by
 obtain ⟨f1,f2,_⟩:=zNj n code data
 unfold zAK
 show zCV _ _ (zCV _ _ (zBb [zAV n,zBo code data]) ⟨zBq,0⟩) ⟨zCP,2⟩=_
 unfold zCV
 simp only [f1,f2,Option.getD_some]
 rfl
theorem zLB (n:Int) (code data:List Int) (j:Nat) (hj:j < 10):(zAK [zAV n,zBo code data]).getD j zeroV=nV ((codeC++[n]).getD j 0):=by
 rw [zPQ,List.getD_eq_getElem?_getD,List.getElem?_set_ne (by omega),List.getElem?_set_ne (by omega),List.getElem?_set_ne (by omega),List.getElem?_set_ne (by omega)]
 have h:=zHk [zAV n,zBo code data] 0 j (zAV n) rfl (by show j < codeC.length+1;rw [codeC_ok.1];omega)
 rw [List.take_zero,zCG,Nat.zero_add] at h
 rw [h]
 show (((codeC++[n])[j]?).map ValV.num).getD zeroV=_
 rw [List.getD_eq_getElem?_getD,List.getElem?_eq_getElem (by rw [List.length_append,codeC_ok.1];exact hj)]
 rfl
theorem zKq (code data args:List Int) (f:Nat) (hf:f≤1000) (x:MV) (hx:x=⟨zC5 (zGn code data) args,zDd (zGn code data),zAK [zAV 1000,zBo code data],[],[]⟩) (hok:x.Ok):(x.run f).1.mem.getD 9 zeroV=nV (1000+((x.places f).count 3:Nat)):=by
 have hG1:cG code.length (4+data.length) ⟨5,10,code.length,10,0⟩:=.inl ⟨_,_,rfl⟩
 have hG2:cG code.length (4+data.length) ⟨27,10+code.length,(4+data.length:Nat),10+code.length,0⟩:=.inr ⟨_,_,rfl⟩
 have hm:CMem 1000 x.mem:=by
  subst hx
  refine ⟨fun j hj=>?_,?_,?_⟩
  ·show (zAK [zAV 1000,zBo code data]).getD j zeroV=_
   rw [zLB _ _ _ _ (by omega),List.getD_eq_getElem?_getD,List.getElem?_append_left (by rw [codeC_ok.1];exact hj),←List.getD_eq_getElem?_getD]
  ·show (zAK [zAV 1000,zBo code data]).getD 9 zeroV=_
   rw [zLB _ _ _ _ (by omega)]
   rfl
  ·show 9 < (zAK [zAV 1000,zBo code data]).length
   rw [zDr,zAq]
   show 9 < codeC.length+1+_
   rw [codeC_ok.1]
   omega
 have hcl:Cl cS (cG code.length (4+data.length)) x:=by
  subst hx
  refine ⟨fun v hv=>?_,⟨rfl,_,hG1,⟨.inr ⟨?_,?_⟩,zCL _⟩⟩,fun f hf=>(by cases hf),fun j=>?_⟩
  ·rcases List.mem_or_eq_of_mem_set hv with hv | rfl
   ·unfold zCA at hv
    obtain ⟨r,_,rfl⟩:=List.mem_map.1 hv
    split
    ·exact HasV.num _
    ·exact HasV.zero
   ·refine fun _=>.inr ⟨rfl,_,hG2,⟨.inr ⟨?_,?_⟩,zCL _⟩⟩
    ·exact Int.le_refl _
    ·show (_:Int)+((([0,0,0,0]++data).length:Nat):Int)≤_
     simp only [List.length_append,List.length_cons,List.length_nil]
     exact Int.le_refl _
  ·exact Int.le_refl _
  ·exact Int.le_refl _
  ·show HasV _ _ ((zAK [zAV 1000,zBo code data]).getD j zeroV)
   rw [zPQ]
   refine zF7 (zF7 (zF7 (zF7 (fun j=>?_) ?_ _) ?_ _) ?_ _) ?_ _ j
   ·have e:zBb [zAV 1000,zBo code data]=((zAV 1000).cells++(zBo code data).cells).map ValV.num:=by
     unfold zBb;simp
    rw [e]
    exact zOY _ _
   ·exact fun _=>.inl (.inl rfl)
   ·exact fun _=>.inl (.inr (.inr rfl))
   ·exact fun _=>.inl (.inr (.inl rfl))
   ·exact fun _=>.inl (.inr (.inr rfl))
 exact (zNr f x 1000 hok ⟨hm,.inl hcl⟩ (by decide) (by omega)).data
end Go.Proofs.YtlpejagkadalbaaGreatDoor
