import Derived.Test.YtlpejagkadalbaaGreatDoorQk33
import Derived.Test.YtlpejagkadalbaaGreatDoorQk48
set_option maxHeartbeats 40000000
set_option maxRecDepth 100000
set_option linter.unusedVariables false
set_option linter.unusedSimpArgs false
namespace Go.Proofs.YtlpejagkadalbaaGreatDoor
section
open Go.RowKit
theorem zGD (k i:Nat) (hk:k < 64):(bv ((2 ^ k:Nat):Int)).getLsbD i=decide (i=k):=by
 have e:bv ((2 ^ k:Nat):Int)=BitVec.ofNat 64 (2 ^ k):=by unfold bv;exact BitVec.ofInt_natCast 64 _
 rw [e,BitVec.getLsbD_ofNat,Nat.testBit_two_pow]
 by_cases h:i=k
 ·subst h;simp [hk]
 ·have:¬k=i:=fun e=>h e.symm
  simp [h,this]
theorem zEN {p:Int} (k:Nat) (hk:k < 64) (h:zAN p ((2 ^ k:Nat):Int)≠0):(bv p).getLsbD k=true:=by
 cases hb:(bv p).getLsbD k
 ·exfalso
  apply h
  unfold zAN
  rw [zG0]
  apply BitVec.eq_of_getLsbD_eq
  intro i hi
  rw [BitVec.getLsbD_and,zGD k i hk]
  by_cases e:i=k
  ·subst e;simp [hb]
  ·simp [e]
 ·rfl
theorem zRO:∀ i:Nat,(bv 9).getLsbD i=true→i=0∨i=3:=by
 intro i hi
 have hl:i < 64:=by
  rcases Nat.lt_or_ge i 64 with h | h
  ·exact h
  ·rw [BitVec.getLsbD_of_ge _ _ h] at hi;cases hi
 have:∀ i:Fin 64,(bv 9).getLsbD i.val=true→i.val=0∨i.val=3:=by decide
 exact this ⟨i,hl⟩ hi
theorem zPU {p:Int} (h1:zAN p 1≠0) (h8:zAN p 8≠0):zBh 9 p=true:=by
 rw [zBV]
 intro i hi
 rcases zRO i hi with rfl | rfl
 ·exact zEN 0 (by decide) h1
 ·exact zEN 3 (by decide) h8
theorem zHX {p:Int} (h:zAN p 2≠0):zBh 2 p=true:=by
 rw [zBV]
 intro i hi
 rw [show (2:Int)=((2 ^ 1:Nat):Int) from rfl,zGD 1 i (by decide)] at hi
 rw [of_decide_eq_true hi]
 exact zEN 1 (by decide) h
def DomT (G:KeyV→Prop) (k:KeyV):Prop:=∃ g,G g∧zC2 k g
def DomV (G:KeyV→Prop) (v:ValV):Prop:=v.is=true→DomT G v.k
def zEu (G:KeyV→Prop) (p:Int) (j:Nat):Prop:=∃ g,G g∧zBh p g.perm=true∧zCQ g.base g.len j=true
structure Safe (G:KeyV→Prop) (m0:List ValV) (m:MV):Prop where
 regs:∀ v∈m.R,DomV G v
 code:DomT G m.c
 stk:∀ f∈m.stk,DomT G f.code∧DomV G f.data
 len:m.mem.length=m0.length
 mem:∀ j:Nat,m.mem.getD j zeroV=m0.getD j zeroV∨(zEu G 2 j∧DomV G (m.mem.getD j zeroV))
def Whole (G:KeyV→Prop) (m0:List ValV):Prop:=∀ g,G g→zBh 9 g.perm=true→∀ j:Nat,zCQ g.base g.len j=true→j < m0.length→(m0.getD j zeroV).is=true→G (m0.getD j zeroV).k
section
variable {G:KeyV→Prop} {m0:List ValV} {m n:MV} {i:InstV} {k q:KeyV}
theorem DomT.at (h:DomT G k) (x:Int):DomT G {k with at_:=x}:=by
 obtain ⟨g,h1,h2⟩:=h
 exact ⟨g,h1,h2⟩
theorem DomT.bare (h:DomT G k):DomT G (zBU k):=by
 obtain ⟨g,h1,h2⟩:=h
 exact ⟨g,h1,h2⟩
theorem DomT.less (h:DomT G k) (hl:zC2 q k) (h0:0≤q.len):DomT G q:=by
 obtain ⟨g,h1,h2⟩:=h
 exact ⟨g,h1,zGP hl h2 h0⟩
theorem DomV.num (n:Int):DomV G (nV n):=fun h=>by cases h
theorem DomV.zero:DomV G zeroV:=fun h=>by cases h
theorem DomV.key (h:DomT G k):DomV G (kV k):=fun _=>h
theorem Safe.reg (h:Safe G m0 m) (r:Int):DomV G (m.reg r):=by
 unfold MV.reg
 rw [List.getD_eq_getElem?_getD]
 cases hr:m.R[r.toNat]? with
 | none=>exact DomV.zero
 | some v=>exact h.regs v (List.mem_of_getElem? hr)
theorem Safe.key (h:Safe G m0 m) {r:Int} (hk:m.key r=.ok k):DomT G k:=by
 obtain ⟨h1,rfl⟩:=zFq hk
 exact h.reg r h1
theorem Safe.set (h:Safe G m0 m) (r:Int) {v:ValV} (hv:DomV G v):Safe G m0 (m.set r v) :=
 ⟨fun u hu=>by
  rcases List.mem_or_eq_of_mem_set hu with hu | rfl
  ·exact h.regs u hu
  ·exact hv,h.code,h.stk,h.len,h.mem⟩
theorem Safe.fwd (h:Safe G m0 m) (d:Int):Safe G m0 (m.fwd d):=⟨h.regs,h.code.at _,h.stk,h.len,h.mem⟩
theorem zKc (hs:KeyStep i m k q) (h:DomT G k):DomT G q:=by
 cases hs with
 | mvK ho hn hq=>have:=zIM (k:=k) (n:=_) (by rw [hq]);rw [hq] at this;exact h.less this.2.2.2 this.1.l0
 | nwK ho hn hq=>have:=zGO (k:=k) (n:=_) (by rw [hq]);rw [hq] at this;exact h.less this.2.2.2 this.1.l0
 | drK ho hq=>have:=zIh (k:=k) (n:=_) (by rw [hq]);rw [hq] at this;exact h.less this.2.2.2 this.1.l0
 | slK ho hn hq=>have:=zMj (k:=k) (c:=_) (by rw [hq]);rw [hq] at this;exact h.less this.2.2.2 this.1.l0
 | opK ho hn hq=>have:=zM5 (k:=k) (c:=_) (by rw [hq]);rw [hq] at this;exact h.less this.2.2 this.1.l0
theorem zDm (hl:zC2 q k) {x:Int} (hc:zCQ q.base q.len x=true):zCQ k.base k.len x=true:=by
 rw [covB_iff] at hc ⊢
 rcases hl.1 with h | h<;>omega
theorem zOw (hG:Whole G m0) (h:Safe G m0 m) (hk:DomT G k) {off:Int} {v:ValV} (hg:zBr m.mem k off=(v,0)):DomV G v:=by
 have h1:(atF m.mem.length k off 1).2=0:=by
  by_cases e:(atF m.mem.length k off 1).2=0
  ·exact e
  ·simp only [zBr] at hg
   rw [if_pos e] at hg
   injection hg with _ hg
 obtain ⟨a1,a2,a3,a4,a5,a6,a7⟩:=atF_ok.1 h1
 have hb:=(covB_iff.1 a6).1
 have hp:=a1.b0
 obtain ⟨j,hj⟩:=Int.eq_ofNat_of_zero_le (show 0≤k.at_+off by omega)
 rw [zEL h1 hj] at hg
 by_cases hc:(m.mem.getD j zeroV).is=true∧zAN k.perm 8=0
 ·rw [if_pos hc] at hg
  injection hg with hg
  rw [←hg]
  exact DomV.zero
 ·rw [if_neg hc] at hg
  injection hg with hg
  rw [←hg]
  rcases h.mem j with e | ⟨_,e⟩
  ·intro hi
   obtain ⟨g,g1,g2⟩:=hk
   have h8:zAN k.perm 8≠0:=fun e8=>hc ⟨hi,e8⟩
   rw [e] at hi ⊢
   refine ⟨_,hG g g1 (zCn (zPU a3 h8) g2.2) j ?_ ?_ hi,zEE _⟩
   ·have:=zDm g2 a6;rwa [hj] at this
   ·have:=h.len;omega
  ·exact e
theorem zOR (hG:Whole G m0) (h:Safe G m0 m) {v:ValV} (hs:SetV i m v):DomV G v:=by
 cases hs with
 | set ho=>exact DomV.num _
 | copy ho=>exact h.reg _
 | nums ho hb hc hn=>exact DomV.num _
 | ask0 ho hc=>exact DomV.num _
 | ask ho hc hk=>exact DomV.num _
 | here ho=>exact DomV.key h.code
 | load ho hk hg=>exact zOw hG h (h.key hk) hg
 | key hk hs=>exact DomV.key (zKc hs (h.key hk))
theorem Safe.step (hG:Whole G m0) (h:Safe G m0 m) (hs:Stepd i m n):Safe G m0 n:=by
 cases hs with
 | set hv=>exact (h.set _ (zOR hG h hv)).fwd 1
 | store ho hk hp =>
  rename_i k
  have h0:(atF m.mem.length k i.c 2).2=0:=by
   by_cases h0:(atF m.mem.length k i.c 2).2=0
   ·exact h0
   ·rw [zFB h0] at hp;exact absurd hp h0
  obtain ⟨a1,a2,a3,a4,a5,a6,a7⟩:=atF_ok.1 h0
  have hb:=(covB_iff.1 a6).1
  have hp0:=a1.b0
  obtain ⟨j,hj⟩:=Int.eq_ofNat_of_zero_le (show 0≤k.at_+i.c by omega)
  obtain ⟨g,g1,g2⟩:=h.key hk
  refine Safe.fwd (m:={m with mem:=zAz m.mem k i.c (m.reg i.a)}) ⟨h.regs,h.code,h.stk,?_,fun l=>?_⟩ 1
  ·show (zAz m.mem k i.c (m.reg i.a)).length=m0.length
   unfold zAz
   rw [List.length_set];exact h.len
  ·show (zAz m.mem k i.c (m.reg i.a)).getD l zeroV=_∨_
   unfold zAz
   rw [hj,Int.toNat_natCast]
   by_cases e:j=l
   ·subst e
    refine .inr ⟨⟨g,g1,zCn (zHX a3) g2.2,?_⟩,?_⟩
    ·have:=zDm g2 a6;rwa [hj] at this
    ·show DomV G ((m.mem.set j (m.reg i.a)).getD j zeroV)
     rw [List.getD_eq_getElem?_getD,List.getElem?_set_self (by omega)]
     exact h.reg _
   ·have e2:(m.mem.set j (m.reg i.a)).getD l zeroV=m.mem.getD l zeroV:=by
     rw [List.getD_eq_getElem?_getD,List.getD_eq_getElem?_getD,List.getElem?_set_ne e]
    show (m.mem.set j (m.reg i.a)).getD l zeroV=_∨(zEu G 2 l∧DomV G ((m.mem.set j (m.reg i.a)).getD l zeroV))
    rw [e2]
    exact h.mem l
 | clear ho =>
  refine Safe.fwd (m:={m with R:=zCB i.c m.R}) ⟨fun v hv=>?_,h.code,h.stk,h.len,h.mem⟩ 1
  simp only [zCB,List.mem_mapIdx] at hv
  obtain ⟨r,hr,rfl⟩:=hv
  split
  ·exact DomV.zero
  ·exact h.regs _ (List.getElem_mem hr)
 | tell ho hn hl=>rename_i x;exact Safe.fwd (m:={m with out:=m.out++[x]}) ⟨h.regs,h.code,h.stk,h.len,h.mem⟩ 1
 | jump ho hn=>exact h.fwd _
 | ifn ho hn hd hx=>exact h.fwd _
 | call ho ha hb h1 h2 h3 h4 h5 =>
  refine ⟨fun v hv=>?_,(h.key ha).bare,fun f hf=>?_,h.len,h.mem⟩
  ·rcases List.mem_or_eq_of_mem_set hv with hv | rfl
   ·exact h.regs v hv
   ·exact DomV.key (h.key hb).bare
  ·rcases List.mem_append.1 hf with hf | hf
   ·exact h.stk f hf
   ·rw [List.mem_singleton.1 hf]
    exact ⟨h.code.at _,h.reg _⟩
 | back ho hb =>
  rename_i s f
  have hf:=h.stk f (by rw [hb];simp)
  refine ⟨fun v hv=>?_,hf.1,fun f' hf'=>h.stk f' (by rw [hb];exact List.mem_append_left _ hf'),h.len,h.mem⟩
  rcases List.mem_or_eq_of_mem_set hv with hv | rfl
  ·exact h.regs v hv
  ·exact hf.2
theorem Safe.one (hG:Whole G m0) (h:Safe G m0 m) (ho:m.one=.ok n):Safe G m0 n:=by
 obtain ⟨i,_,hs⟩:=zDx ho
 exact h.step hG hs
theorem Safe.run (hG:Whole G m0) (f:Nat):∀ m:MV,Safe G m0 m→Safe G m0 (m.run f).1:=by
 induction f with
 | zero=>intro m h;exact h
 | succ f ih =>
  intro m h
  cases ho:m.one with
  | ok n=>rw [zDv ho];exact ih n (h.one hG ho)
  | error e=>rw [zDw ho];exact h
end
end
section
open Go.RowKit
theorem zQ4 {α β:Type} {x:Ex α} {f:α→Ex β} {a:α} (h:x=.ok a):(x >>= f)=f a:=by rw [h];rfl
def MV.mm (m:MV) (x:List ValV):MV:={m with mem:=x}
def vis (G:KeyV→Prop) (j:Nat):Prop:=zEu G 1 j∨zEu G 4 j
structure Alike (V:Nat→Prop) (m x:List ValV):Prop where
 len:x.length=m.length
 eq:∀ j,V j→x.getD j zeroV=m.getD j zeroV
def zBX (G:KeyV→Prop) (V:Nat→Prop) (x:List ValV) (a b:Ex MV):Prop :=
 (∃ e,a=.error e∧b=.error e)∨∃ n y,a=.ok n∧b=.ok (n.mm y)∧Alike V n.mem y∧∀ j,¬zEu G 2 j→y.getD j zeroV=x.getD j zeroV
section
variable {G:KeyV→Prop} {V:Nat→Prop} {m0 x:List ValV} {m n:MV} {i:InstV} {k:KeyV}
theorem zA4 (e:Int):zBX G V x (.error e) (.error e):=.inl ⟨e,rfl,rfl⟩
theorem zCg (ha:Alike V n.mem x):zBX G V x (.ok n) (.ok (n.mm x)):=.inr ⟨n,x,rfl,rfl,ha,fun _ _=>rfl⟩
theorem zPW {p:Int} (h:zAN p 1≠0):zBh 1 p=true:=by
 rw [zBV]
 intro i hi
 rw [show (1:Int)=((2 ^ 0:Nat):Int) from rfl,zGD 0 i (by decide)] at hi
 rw [of_decide_eq_true hi]
 exact zEN 0 (by decide) h
theorem zPV {p:Int} (h:zAN p 4≠0):zBh 4 p=true:=by
 rw [zBV]
 intro i hi
 rw [show (4:Int)=((2 ^ 2:Nat):Int) from rfl,zGD 2 i (by decide)] at hi
 rw [of_decide_eq_true hi]
 exact zEN 2 (by decide) h
theorem zGk {p:Int} (hk:DomT G k) (hp:zBh p k.perm=true) {j:Nat} (hc:zCQ k.base k.len j=true):zEu G p j:=by
 obtain ⟨g,g1,g2⟩:=hk
 exact ⟨g,g1,zCn hp g2.2,zDm g2 hc⟩
theorem zHy {l:Nat} {off p:Int} (h:(atF l k off p).2=0):∃ j:Nat,k.at_+off=j∧(atF l k off p).1=j∧j < l∧zCQ k.base k.len j=true∧zAN k.perm p≠0:=by
 obtain ⟨a1,a2,a3,a4,a5,a6,a7⟩:=atF_ok.1 h
 have hb:=(covB_iff.1 a6).1
 have hp:=a1.b0
 obtain ⟨j,hj⟩:=Int.eq_ofNat_of_zero_le (show 0≤k.at_+off by omega)
 exact ⟨j,hj,by rw [(zEO h).1,hj],by omega,by rw [←hj];exact a6,a3⟩
theorem zLy (hV:∀ j,vis G j→V j) (ha:Alike V m.mem x) (hk:DomT G k) (off:Int):zBr x k off=zBr m.mem k off:=by
 by_cases h:(atF m.mem.length k off 1).2=0
 ·obtain ⟨j,h1,_,_,h4,h5⟩:=zHy h
  have h':(atF x.length k off 1).2=0:=by rw [ha.len];exact h
  rw [zEL h h1,zEL h' h1,ha.eq j (hV j<|.inl (zGk hk (zPW h5) h4))]
 ·simp only [zBr]
  rw [ha.len,if_pos h,if_pos h]
theorem zKm (hV:∀ j,vis G j→V j) (ha:Alike V m.mem x) (hk:DomT G m.c):(m.mm x).fetch=m.fetch:=by
 have hat:atF (m.mm x).mem.length (m.mm x).c 0 4=atF m.mem.length m.c 0 4:=by
  show atF x.length m.c 0 4=_
  rw [ha.len]
 unfold MV.fetch
 simp only []
 rw [hat]
 by_cases h:(atF m.mem.length m.c 0 4).2=0
 ·obtain ⟨j,_,h2,_,h4,h5⟩:=zHy h
  have e:(m.mm x).mem.getD (atF m.mem.length m.c 0 4).1.toNat zeroV=m.mem.getD (atF m.mem.length m.c 0 4).1.toNat zeroV:=by
   rw [h2,Int.toNat_natCast]
   exact ha.eq j (hV j<|.inr (zGk hk (zPV h5) h4))
  rw [e]
 ·rw [if_pos h,if_pos h]
theorem zHI (ha:Alike V m.mem x) (d:Int):zBX G V x (m.goes d) ((m.mm x).goes d):=by
 unfold MV.goes
 show zBX G V x _ (if m.c.at_+d < 0∨400 < m.c.at_+d then _ else _)
 split
 ·exact zA4 _
 ·exact zCg (n:=m.fwd d) ha
theorem zIr (ha:Alike V m.mem x):zBX G V x (m.numbers i) ((m.mm x).numbers i):=by
 unfold MV.numbers
 show zBX G V x _ (m.num i.b >>= fun b=>m.num i.c >>= fun c=>opN i.op b c >>= fun n=>pure ((m.mm x).set i.a (nV n)))
 cases m.num i.b with
 | error e=>exact zA4 e
 | ok b =>
  show zBX G V x (m.num i.c >>= fun c=>opN i.op b c >>= fun n=>pure (m.set i.a (nV n))) (m.num i.c >>= fun c=>opN i.op b c >>= fun n=>pure ((m.mm x).set i.a (nV n)))
  cases m.num i.c with
  | error e=>exact zA4 e
  | ok c =>
   show zBX G V x (opN i.op b c >>= fun n=>pure (m.set i.a (nV n))) (opN i.op b c >>= fun n=>pure ((m.mm x).set i.a (nV n)))
   cases opN i.op b c with
   | error e=>exact zA4 e
   | ok v=>exact zCg (n:=m.set i.a (nV v)) ha
theorem zNz (ha:Alike V m.mem x):zBX G V x (m.ask i) ((m.mm x).ask i):=by
 unfold MV.ask
 by_cases hc:i.c=0
 ·rw [if_pos hc,if_pos hc]
  exact zCg (n:=m.set i.a _) ha
 ·rw [if_neg hc,if_neg hc]
  show zBX G V x _ (m.key i.b >>= fun k=>pure ((m.mm x).set i.a _))
  cases m.key i.b with
  | error e=>exact zA4 e
  | ok k=>exact zCg (n:=m.set i.a _) ha
theorem zLQ (ha:Alike V m.mem x):zBX G V x (m.tell i) ((m.mm x).tell i):=by
 unfold MV.tell
 show zBX G V x _ (m.num i.a >>= fun n=>if m.out.length=100 then .error 9 else pure { (m.mm x) with out:=m.out++[n]})
 cases m.num i.a with
 | error e=>exact zA4 e
 | ok n =>
  show zBX G V x (if m.out.length=100 then .error 9 else pure {m with out:=m.out++[n]}) (if m.out.length=100 then .error 9 else pure { (m.mm x) with out:=m.out++[n]})
  split
  ·exact zA4 _
  ·exact zCg (n:={m with out:=m.out++[n]}) ha
theorem zMG (ha:Alike V m.mem x):zBX G V x (m.call i) ((m.mm x).call i):=by
 unfold MV.call
 show zBX G V x _ (m.key i.a >>= fun a=>m.key i.b >>= fun b=>if a.seal_=0∨a.seal_≠b.seal_ then .error 11 else if zAN a.perm 4=0∨zAN b.perm 4≠0 then .error 12 else if m.stk.length=16 then .error 9
  else pure (({m with stk:=m.stk++[⟨{m.c with at_:=m.c.at_+1},m.reg 7⟩],c:=zBU a,R:=m.R.set 7 (kV (zBU b))}:MV).mm x))
 cases m.key i.a with
 | error e=>exact zA4 e
 | ok a =>
  show zBX G V x (m.key i.b >>= _) (m.key i.b >>= _)
  cases m.key i.b with
  | error e=>exact zA4 e
  | ok b =>
   show zBX G V x (if a.seal_=0∨a.seal_≠b.seal_ then .error 11 else if zAN a.perm 4=0∨zAN b.perm 4≠0 then .error 12 else if m.stk.length=16 then .error 9 else .ok _) (if a.seal_=0∨a.seal_≠b.seal_ then .error 11 else if zAN a.perm 4=0∨zAN b.perm 4≠0 then .error 12 else if m.stk.length=16 then .error 9 else .ok _)
   by_cases h1:a.seal_=0∨a.seal_≠b.seal_
   ·rw [if_pos h1,if_pos h1];exact zA4 _
   ·rw [if_neg h1,if_neg h1]
    by_cases h2:zAN a.perm 4=0∨zAN b.perm 4≠0
    ·rw [if_pos h2,if_pos h2];exact zA4 _
    ·rw [if_neg h2,if_neg h2]
     by_cases h3:m.stk.length=16
     ·rw [if_pos h3,if_pos h3];exact zA4 _
     ·rw [if_neg h3,if_neg h3]
      exact zCg (n:={m with stk:=m.stk++[⟨{m.c with at_:=m.c.at_+1},m.reg 7⟩],c:=zBU a,R:=m.R.set 7 (kV (zBU b))}) ha
theorem zMP (ha:Alike V m.mem x):zBX G V x m.back (m.mm x).back:=by
 unfold MV.back
 show zBX G V x _ (match m.stk.getLast? with | none=>.error 16 | some f=>.ok (({m with stk:=m.stk.dropLast,c:=f.code,R:=m.R.set 7 f.data}:MV).mm x))
 cases m.stk.getLast? with
 | none=>exact zA4 _
 | some f=>exact zCg (n:={m with stk:=m.stk.dropLast,c:=f.code,R:=m.R.set 7 f.data}) ha
theorem zMm (ha:Alike V m.mem x) (q:Ex ValV):zBX G V x (q >>= fun v=>pure (m.set i.a v)) (q >>= fun v=>pure ((m.mm x).set i.a v)):=by
 cases q with
 | error e=>exact zA4 e
 | ok v=>exact zCg (n:=m.set i.a v) ha
theorem zDa (ha:Alike V m.mem x) {α:Type} (q:Ex α) (f:α→Ex KeyV):zBX G V x (q >>= fun a=>f a >>= fun k=>pure (m.set i.a (kV k))) (q >>= fun a=>f a >>= fun k=>pure ((m.mm x).set i.a (kV k))):=by
 cases q with
 | error e=>exact zA4 e
 | ok a =>
  show zBX G V x (f a >>= fun k=>pure (m.set i.a (kV k))) (f a >>= fun k=>pure ((m.mm x).set i.a (kV k)))
  cases f a with
  | error e=>exact zA4 e
  | ok v=>exact zCg (n:=m.set i.a (kV v)) ha
theorem zKw (hV:∀ j,vis G j→V j) (hs:Safe G m0 m) (ha:Alike V m.mem x):zBX G V x (m.byKey i) ((m.mm x).byKey i):=by
 unfold MV.byKey
 show zBX G V x (m.key i.b >>= _) (m.key i.b >>= _)
 cases hk:m.key i.b with
 | error e=>exact zA4 e
 | ok k =>
  have hd:=hs.key hk
  simp only [zQ4 rfl]
  show zBX G V x (if i.op=10 then _ else _) (if i.op=10 then _ else _)
  by_cases o10:i.op=10
  ·rw [if_pos o10,if_pos o10]
   show zBX G V x _ (zCD (zBr x k i.c) >>= fun v=>pure ((m.mm x).set i.a v))
   rw [zLy hV ha hd]
   exact zMm ha _
  rw [if_neg o10,if_neg o10]
  by_cases o11:i.op=11
  ·rw [if_pos o11,if_pos o11]
   show zBX G V x _ (if zCr x.length k i.c (m.reg i.a)≠0 then .error (zCr x.length k i.c (m.reg i.a)) else pure (m.mm (zAz x k i.c (m.reg i.a))))
   rw [ha.len]
   by_cases hp:zCr m.mem.length k i.c (m.reg i.a)=0
   ·rw [if_neg (by simp [hp]),if_neg (by simp [hp])]
    have h0:(atF m.mem.length k i.c 2).2=0:=by
     by_cases h0:(atF m.mem.length k i.c 2).2=0
     ·exact h0
     ·rw [zFB h0] at hp;exact absurd hp h0
    obtain ⟨j,h1,_,h3,h4,h5⟩:=zHy h0
    have hst:=zGk hd (zHX h5) h4
    refine .inr ⟨{m with mem:=zAz m.mem k i.c (m.reg i.a)},zAz x k i.c (m.reg i.a),rfl,rfl,⟨?_,fun l hl=>?_⟩,fun l hl=>?_⟩
    ·unfold zAz;rw [List.length_set,List.length_set,ha.len]
    ·unfold zAz
     rw [h1,Int.toNat_natCast,List.getD_eq_getElem?_getD,List.getD_eq_getElem?_getD]
     by_cases e:j=l
     ·subst e
      rw [List.getElem?_set_self h3,List.getElem?_set_self (by rw [ha.len];exact h3)]
     ·rw [List.getElem?_set_ne e,List.getElem?_set_ne e,←List.getD_eq_getElem?_getD,←List.getD_eq_getElem?_getD]
      exact ha.eq l hl
    ·unfold zAz
     rw [h1,Int.toNat_natCast,List.getD_eq_getElem?_getD]
     have e:j≠l:=fun e=>hl (e▸hst)
     rw [List.getElem?_set_ne e,←List.getD_eq_getElem?_getD]
   ·rw [if_pos hp,if_pos hp];exact zA4 _
  rw [if_neg o11,if_neg o11]
  by_cases o12:i.op=12
  ·rw [if_pos o12,if_pos o12];exact zDa ha (m.num i.c) fun n=>zCD (zBm k n)
  rw [if_neg o12,if_neg o12]
  by_cases o13:i.op=13
  ·rw [if_pos o13,if_pos o13];exact zDa ha (m.num i.c) fun n=>zCD (zA6 k n)
  rw [if_neg o13,if_neg o13]
  by_cases o14:i.op=14
  ·rw [if_pos o14,if_pos o14];exact zDa ha (.ok ()) fun _=>zCD (zCF k i.c)
  rw [if_neg o14,if_neg o14]
  by_cases o15:i.op=15
  ·rw [if_pos o15,if_pos o15];exact zDa ha (m.key i.c) fun c=>zCD (zBN k c)
  rw [if_neg o15,if_neg o15]
  exact zDa ha (m.key i.c) fun c=>zCD (zBO k c)
theorem zKQ (hV:∀ j,vis G j→V j) (hs:Safe G m0 m) (ha:Alike V m.mem x):zBX G V x (m.plain i) ((m.mm x).plain i):=by
 unfold MV.plain
 by_cases o1:i.op=1
 ·rw [if_pos o1,if_pos o1];exact zCg (n:=m.set i.a _) ha
 rw [if_neg o1,if_neg o1]
 by_cases o2:i.op=2
 ·rw [if_pos o2,if_pos o2];exact zCg (n:=m.set i.a (m.reg i.b)) ha
 rw [if_neg o2,if_neg o2]
 by_cases o3:i.op=3∨i.op=4∨i.op=5∨i.op=7∨i.op=6
 ·rw [if_pos o3,if_pos o3];exact zIr ha
 rw [if_neg o3,if_neg o3]
 by_cases o4:i.op=17
 ·rw [if_pos o4,if_pos o4];exact zNz ha
 rw [if_neg o4,if_neg o4]
 by_cases o5:i.op=20
 ·rw [if_pos o5,if_pos o5];exact zCg (n:=m.set i.a (kV m.c)) ha
 rw [if_neg o5,if_neg o5]
 by_cases o6:i.op=21
 ·rw [if_pos o6,if_pos o6];exact zCg (n:={m with R:=zCB i.c m.R}) ha
 rw [if_neg o6,if_neg o6]
 by_cases o7:i.op=22
 ·rw [if_pos o7,if_pos o7];exact zLQ ha
 rw [if_neg o7,if_neg o7]
 exact zKw hV hs ha
theorem zL3 (hV:∀ j,vis G j→V j) (hs:Safe G m0 m) (ha:Alike V m.mem x):zBX G V x (m.exec i) ((m.mm x).exec i):=by
 unfold MV.exec
 by_cases o0:i.op=0
 ·rw [if_pos o0,if_pos o0];exact zA4 _
 rw [if_neg o0,if_neg o0]
 by_cases o1:i.op=8
 ·rw [if_pos o1,if_pos o1];exact zHI ha _
 rw [if_neg o1,if_neg o1]
 by_cases o2:i.op=9
 ·rw [if_pos o2,if_pos o2]
  show zBX G V x (m.num i.a >>= _) (m.num i.a >>= _)
  cases m.num i.a with
  | error e=>exact zA4 e
  | ok n=>exact zHI ha _
 rw [if_neg o2,if_neg o2]
 by_cases o3:i.op=18
 ·rw [if_pos o3,if_pos o3];exact zMG ha
 rw [if_neg o3,if_neg o3]
 by_cases o4:i.op=19
 ·rw [if_pos o4,if_pos o4];exact zMP ha
 rw [if_neg o4,if_neg o4]
 rcases zKQ hV (i:=i) hs ha with ⟨e,h1,h2⟩ | ⟨n,y,h1,h2,h3,h4⟩
 ·rw [h1,h2];exact zA4 e
 ·rw [h1,h2];exact .inr ⟨n.fwd 1,y,rfl,rfl,h3,h4⟩
theorem zM6 (hV:∀ j,vis G j→V j) (hs:Safe G m0 m) (ha:Alike V m.mem x):zBX G V x m.one (m.mm x).one:=by
 unfold MV.one
 rw [zKm hV ha hs.code]
 cases m.fetch with
 | error e=>exact zA4 e
 | ok i=>exact zL3 hV hs ha
end
theorem zMk {G:KeyV→Prop} {V:Nat→Prop} (hV:∀ j,vis G j→V j) {m0:List ValV} (hG:Whole G m0) (f:Nat):∀ (m:MV) (x:List ValV),Safe G m0 m→Alike V m.mem x →
  ∃ y,(m.mm x).run f=(((m.run f).1).mm y,(m.run f).2.1,(m.run f).2.2)∧Alike V (m.run f).1.mem y∧∀ j,¬zEu G 2 j→y.getD j zeroV=x.getD j zeroV:=by
 induction f with
 | zero=>intro m x hs ha;exact ⟨x,rfl,ha,fun _ _=>rfl⟩
 | succ f ih =>
  intro m x hs ha
  rcases zM6 hV hs ha with ⟨e,h1,h2⟩ | ⟨n,y,h1,h2,h3,h4⟩
  ·rw [zDw h1,zDw h2];exact ⟨x,rfl,ha,fun _ _=>rfl⟩
  ·obtain ⟨z,z1,z2,z3⟩:=ih n y (hs.one hG h1) h3
   rw [zDv h1,zDv h2,z1]
   exact ⟨z,rfl,z2,fun j hj=>(z3 j hj).trans (h4 j hj)⟩
end
end Go.Proofs.YtlpejagkadalbaaGreatDoor
