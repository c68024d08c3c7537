import Derived.Test.YtlpejagkadalbaaGreatDoorZk02
import Derived.Test.YtlpejagkadalbaaGreatDoorZk05
set_option maxHeartbeats 40000000
set_option maxRecDepth 100000
set_option linter.unusedVariables false
set_option linter.unusedSimpArgs false
namespace Go.Proofs.YtlpejagkadalbaaGreatDoor
section
open Go.RowKit
@[ext] structure MV where
 R:List ValV
 c:KeyV
 mem:List ValV
 stk:List FrameV
 out:List Int
deriving DecidableEq
def MV.Ok (m:MV):Prop:=MOk m.R m.c m.mem m.stk m.out∧m.R.length=8
def nV (n:Int):ValV:=⟨false,n,zeroK⟩
def kV (k:KeyV):ValV:=⟨true,0,k⟩
def MV.reg (m:MV) (r:Int):ValV:=m.R.getD r.toNat zeroV
def MV.set (m:MV) (r:Int) (v:ValV):MV:={m with R:=m.R.set r.toNat v}
def MV.fwd (m:MV) (n:Int):MV:={m with c:={m.c with at_:=m.c.at_+n} }
abbrev Ex:=Except Int
def MV.num (m:MV) (r:Int):Ex Int:=if (m.reg r).is then .error 10 else .ok (m.reg r).n
def MV.key (m:MV) (r:Int):Ex KeyV:=if (m.reg r).is then .ok (m.reg r).k else .error 10
def zCS {α:Type} (r:α×Int):Ex α:=if r.2=0 then .ok r.1 else .error r.2
def MV.fetch (m:MV):Ex InstV :=
 let r:=atF m.mem.length m.c 0 4
 if r.2≠0 then .error r.2 else if (m.mem.getD r.1.toNat zeroV).is then .error 5 else
  let n:=(m.mem.getD r.1.toNat zeroV).n
  if zAE (zAp n) then .ok (zAp n) else .error 5
def MV.goes (m:MV) (n:Int):Ex MV:=if m.c.at_+n < 0∨400 < m.c.at_+n then .error 13 else .ok (m.fwd n)
def zJ1 (a b:Int):Ex Int:=if wrap32 b=0 then .error 14 else .ok (zMr a b)
def opN (op:Int) (a b:Int):Ex Int:=if op=3 then .ok (zOk a b) else if op=4 then .ok (zOH a b) else if op=5 then .ok (zOR a b) else if op=7 then .ok (zET a b) else zJ1 a b
def MV.numbers (m:MV) (i:InstV):Ex MV:=do
 let b ←m.num i.b
 let c ←m.num i.c
 let n ←opN i.op b c
 pure (m.set i.a (nV n))
def MV.ask (m:MV) (i:InstV):Ex MV :=
 if i.c=0 then .ok (m.set i.a (nV (if (m.reg i.b).is then 1 else 0))) else do
  let k ←m.key i.b
  pure (m.set i.a (nV (([k.perm,k.base,k.len,k.at_,k.seal_]:List Int).getD (i.c - 1).toNat 0)))
def zCX (c:Int) (l:List ValV):List ValV:=l.mapIdx fun r v=>if c / (2 ^ r:Nat) % 2=1 then zeroV else v
def MV.tell (m:MV) (i:InstV):Ex MV:=do
 let n ←m.num i.a
 if m.out.length=100 then .error 9 else pure {m with out:=m.out++[n]}
def MV.byKey (m:MV) (i:InstV):Ex MV:=do
 let k ←m.key i.b
 if i.op=10 then
  let v ←zCS (zCD m.mem k i.c)
  pure (m.set i.a v)
 else if i.op=11 then
  if zDB m.mem.length k i.c (m.reg i.a)≠0 then .error (zDB m.mem.length k i.c (m.reg i.a)) else pure {m with mem:=zBN m.mem k i.c (m.reg i.a)}
 else if i.op=12 then
  let n ←m.num i.c
  let k ←zCS (zBX k n)
  pure (m.set i.a (kV k))
 else if i.op=13 then
  let n ←m.num i.c
  let k ←zCS (zA1 k n)
  pure (m.set i.a (kV k))
 else if i.op=14 then
  let k ←zCS (zBt k i.c)
  pure (m.set i.a (kV k))
 else if i.op=15 then
  let c ←m.key i.c
  let k ←zCS (zA0 k c)
  pure (m.set i.a (kV k))
 else
  let c ←m.key i.c
  let k ←zCS (zA7 k c)
  pure (m.set i.a (kV k))
def MV.plain (m:MV) (i:InstV):Ex MV :=
 if i.op=1 then .ok (m.set i.a (nV i.c))
 else if i.op=2 then .ok (m.set i.a (m.reg i.b))
 else if i.op=3∨i.op=4∨i.op=5∨i.op=7∨i.op=6 then m.numbers i
 else if i.op=17 then m.ask i
 else if i.op=20 then .ok (m.set i.a (kV m.c))
 else if i.op=21 then .ok {m with R:=zCX i.c m.R}
 else if i.op=22 then m.tell i
 else m.byKey i
def zB9 (k:KeyV):KeyV:={k with seal_:=0}
def MV.call (m:MV) (i:InstV):Ex MV:=do
 let a ←m.key i.a
 let b ←m.key i.b
 if a.seal_=0∨a.seal_≠b.seal_ then .error 11
 else if zAM a.perm 4=0∨zAM b.perm 4≠0 then .error 12
 else if m.stk.length=16 then .error 9
 else pure {m with stk:=m.stk++[⟨{m.c with at_:=m.c.at_+1},m.reg 7⟩],c:=zB9 a,R:=m.R.set 7 (kV (zB9 b))}
def MV.back (m:MV):Ex MV :=
 match m.stk.getLast? with
 | none=>.error 16
 | some f=>.ok {m with stk:=m.stk.dropLast,c:=f.code,R:=m.R.set 7 f.data}
def MV.exec (m:MV) (i:InstV):Ex MV :=
 if i.op=0 then .error 16
 else if i.op=8 then m.goes i.c
 else if i.op=9 then do
  let n ←m.num i.a
  m.goes (if n≠0 then i.c else 1)
 else if i.op=18 then m.call i
 else if i.op=19 then m.back
 else do
  let m' ←m.plain i
  pure (m'.fwd 1)
def MV.one (m:MV):Ex MV:=do
 let i ←m.fetch
 m.exec i
def MV.after (m:MV):MV:=match m.one with | .ok m'=>m' | .error _=>m
def MV.err (m:MV):Int:=match m.one with | .ok _=>0 | .error e=>e
end
section
open Go.RowKit
theorem zA2 {α β:Type} {x:Ex α} {f:α→Ex β} {b:β} (h:x >>= f=.ok b):∃ a,x=.ok a∧f a=.ok b:=by
 cases x with
 | error e=>cases h
 | ok a=>exact ⟨a,rfl,h⟩
theorem zOQ {m:MV} {r n:Int} (h:m.num r=.ok n):(m.reg r).is=false∧(m.reg r).n=n:=by
 unfold MV.num at h
 cases hi:(m.reg r).is
 ·rw [hi] at h;injection h with h;exact ⟨rfl,h⟩
 ·rw [hi] at h;cases h
theorem zHs {m:MV} {r:Int} {k:KeyV} (h:m.key r=.ok k):(m.reg r).is=true∧(m.reg r).k=k:=by
 unfold MV.key at h
 cases hi:(m.reg r).is
 ·rw [hi] at h;cases h
 ·rw [hi] at h;injection h with h;exact ⟨rfl,h⟩
theorem zDk {α:Type} {r:α×Int} {k:α} (h:zCS r=.ok k):r=(k,0):=by
 obtain ⟨a,e⟩:=r
 unfold zCS at h
 simp only at h
 by_cases he:e=0
 ·rw [if_pos he] at h;injection h with h;rw [h,he]
 ·rw [if_neg he] at h;cases h
inductive KeyStep (i:InstV) (m:MV) (k:KeyV):KeyV→Prop
 | mvK {n:Int} {q:KeyV} (ho:i.op=12) (hn:m.num i.c=.ok n) (h:zBX k n=(q,0)):KeyStep i m k q
 | nwK {n:Int} {q:KeyV} (ho:i.op=13) (hn:m.num i.c=.ok n) (h:zA1 k n=(q,0)):KeyStep i m k q
 | drK {q:KeyV} (ho:i.op=14) (h:zBt k i.c=(q,0)):KeyStep i m k q
 | slK {c q:KeyV} (ho:i.op=15) (hn:m.key i.c=.ok c) (h:zA0 k c=(q,0)):KeyStep i m k q
 | opK {c q:KeyV} (ho:i.op=16∨¬(i.op=10∨i.op=11∨i.op=12∨i.op=13∨i.op=14∨i.op=15∨i.op=0∨i.op=8∨i.op=9∨i.op=18∨i.op=19)) (hn:m.key i.c=.ok c) (h:zA7 k c=(q,0)):KeyStep i m k q
inductive SetV (i:InstV) (m:MV):ValV→Prop
 | set (ho:i.op=1):SetV i m (nV i.c)
 | copy (ho:i.op=2):SetV i m (m.reg i.b)
 | nums {b c n:Int} (ho:i.op=3∨i.op=4∨i.op=5∨i.op=7∨i.op=6) (hb:m.num i.b=.ok b) (hc:m.num i.c=.ok c) (hn:opN i.op b c=.ok n):SetV i m (nV n)
 | ask0 (ho:i.op=17) (hc:i.c=0):SetV i m (nV (if (m.reg i.b).is then 1 else 0))
 | ask {k:KeyV} (ho:i.op=17) (hc:i.c≠0) (hk:m.key i.b=.ok k):SetV i m (nV (([k.perm,k.base,k.len,k.at_,k.seal_]:List Int).getD (i.c - 1).toNat 0))
 | here (ho:i.op=20):SetV i m (kV m.c)
 | load {k:KeyV} {v:ValV} (ho:i.op=10) (hk:m.key i.b=.ok k) (h:zCD m.mem k i.c=(v,0)):SetV i m v
 | key {k q:KeyV} (hk:m.key i.b=.ok k) (h:KeyStep i m k q):SetV i m (kV q)
inductive Stepd (i:InstV) (m:MV):MV→Prop
 | set {v:ValV} (h:SetV i m v):Stepd i m ((m.set i.a v).fwd 1)
 | store {k:KeyV} (ho:i.op=11) (hk:m.key i.b=.ok k) (h:zDB m.mem.length k i.c (m.reg i.a)=0):Stepd i m (({m with mem:=zBN m.mem k i.c (m.reg i.a)}:MV).fwd 1)
 | clear (ho:i.op=21):Stepd i m (({m with R:=zCX i.c m.R}:MV).fwd 1)
 | tell {n:Int} (ho:i.op=22) (hn:m.num i.a=.ok n) (h:m.out.length≠100):Stepd i m (({m with out:=m.out++[n]}:MV).fwd 1)
 | jump (ho:i.op=8) (h:¬(m.c.at_+i.c < 0∨400 < m.c.at_+i.c)):Stepd i m (m.fwd i.c)
 | ifn {n d:Int} (ho:i.op=9) (hn:m.num i.a=.ok n) (hd:d=if n≠0 then i.c else 1) (h:¬(m.c.at_+d < 0∨400 < m.c.at_+d)):Stepd i m (m.fwd d)
 | call {a b:KeyV} (ho:i.op=18) (ha:m.key i.a=.ok a) (hb:m.key i.b=.ok b) (h1:a.seal_≠0) (h2:a.seal_=b.seal_) (h3:zAM a.perm 4≠0) (h4:zAM b.perm 4=0) (h5:m.stk.length≠16) :
   Stepd i m {m with stk:=m.stk++[⟨{m.c with at_:=m.c.at_+1},m.reg 7⟩],c:=zB9 a,R:=m.R.set 7 (kV (zB9 b))}
 | back {s:List FrameV} {f:FrameV} (ho:i.op=19) (h:m.stk=s++[f]):Stepd i m {m with stk:=s,c:=f.code,R:=m.R.set 7 f.data}
theorem zJQ {m m':MV} {n:Int} (h:m.goes n=.ok m'):¬(m.c.at_+n < 0∨400 < m.c.at_+n)∧m'=m.fwd n:=by
 unfold MV.goes at h
 by_cases hc:m.c.at_+n < 0∨400 < m.c.at_+n
 ·rw [if_pos hc] at h;cases h
 ·rw [if_neg hc] at h;injection h with h;exact ⟨hc,h.symm⟩
theorem zJA {m m':MV} {i:InstV} (ho:¬(i.op=0∨i.op=8∨i.op=9∨i.op=18∨i.op=19)) (h:m.byKey i=.ok m'):Stepd i m (m'.fwd 1):=by
 unfold MV.byKey at h
 obtain ⟨k,hk,h⟩:=zA2 h
 by_cases o1:i.op=10
 ·rw [if_pos o1] at h
  obtain ⟨v,hv,h⟩:=zA2 h
  injection h with h
  subst h
  exact .set (.load o1 hk (zDk hv))
 rw [if_neg o1] at h
 by_cases o2:i.op=11
 ·rw [if_pos o2] at h
  by_cases hp:zDB m.mem.length k i.c (m.reg i.a)=0
  ·rw [if_neg (by simp [hp])] at h
   injection h with h
   subst h
   exact .store o2 hk hp
  ·rw [if_pos hp] at h;cases h
 rw [if_neg o2] at h
 by_cases o3:i.op=12
 ·rw [if_pos o3] at h
  obtain ⟨n,hn,h⟩:=zA2 h
  obtain ⟨q,hq,h⟩:=zA2 h
  injection h with h
  subst h
  exact .set (.key hk (.mvK o3 hn (zDk hq)))
 rw [if_neg o3] at h
 by_cases o4:i.op=13
 ·rw [if_pos o4] at h
  obtain ⟨n,hn,h⟩:=zA2 h
  obtain ⟨q,hq,h⟩:=zA2 h
  injection h with h
  subst h
  exact .set (.key hk (.nwK o4 hn (zDk hq)))
 rw [if_neg o4] at h
 by_cases o5:i.op=14
 ·rw [if_pos o5] at h
  obtain ⟨q,hq,h⟩:=zA2 h
  injection h with h
  subst h
  exact .set (.key hk (.drK o5 (zDk hq)))
 rw [if_neg o5] at h
 by_cases o6:i.op=15
 ·rw [if_pos o6] at h
  obtain ⟨n,hn,h⟩:=zA2 h
  obtain ⟨q,hq,h⟩:=zA2 h
  injection h with h
  subst h
  exact .set (.key hk (.slK o6 hn (zDk hq)))
 rw [if_neg o6] at h
 obtain ⟨n,hn,h⟩:=zA2 h
 obtain ⟨q,hq,h⟩:=zA2 h
 injection h with h
 subst h
 exact .set (.key hk (.opK (.inr (by omega)) hn (zDk hq)))
theorem zFI {m m':MV} {i:InstV} (ho:¬(i.op=0∨i.op=8∨i.op=9∨i.op=18∨i.op=19)) (h:m.plain i=.ok m'):Stepd i m (m'.fwd 1):=by
 unfold MV.plain at h
 by_cases o1:i.op=1
 ·rw [if_pos o1] at h;injection h with h;subst h;exact .set (.set o1)
 rw [if_neg o1] at h
 by_cases o2:i.op=2
 ·rw [if_pos o2] at h;injection h with h;subst h;exact .set (.copy o2)
 rw [if_neg o2] at h
 by_cases o3:i.op=3∨i.op=4∨i.op=5∨i.op=7∨i.op=6
 ·rw [if_pos o3] at h
  unfold MV.numbers at h
  obtain ⟨b,hb,h⟩:=zA2 h
  obtain ⟨c,hc,h⟩:=zA2 h
  obtain ⟨n,hn,h⟩:=zA2 h
  injection h with h;subst h
  exact .set (.nums o3 hb hc hn)
 rw [if_neg o3] at h
 by_cases o4:i.op=17
 ·rw [if_pos o4] at h
  unfold MV.ask at h
  by_cases hc:i.c=0
  ·rw [if_pos hc] at h;injection h with h;subst h;exact .set (.ask0 o4 hc)
  ·rw [if_neg hc] at h
   obtain ⟨k,hk,h⟩:=zA2 h
   injection h with h;subst h;exact .set (.ask o4 hc hk)
 rw [if_neg o4] at h
 by_cases o5:i.op=20
 ·rw [if_pos o5] at h;injection h with h;subst h;exact .set (.here o5)
 rw [if_neg o5] at h
 by_cases o6:i.op=21
 ·rw [if_pos o6] at h;injection h with h;subst h;exact .clear o6
 rw [if_neg o6] at h
 by_cases o7:i.op=22
 ·rw [if_pos o7] at h
  unfold MV.tell at h
  obtain ⟨n,hn,h⟩:=zA2 h
  by_cases hl:m.out.length=100
  ·rw [if_pos hl] at h;cases h
  ·rw [if_neg hl] at h;injection h with h;subst h;exact .tell o7 hn hl
 rw [if_neg o7] at h
 exact zJA ho h
theorem zJz {m m':MV} {i:InstV} (h:m.exec i=.ok m'):Stepd i m m':=by
 unfold MV.exec at h
 by_cases o1:i.op=0
 ·rw [if_pos o1] at h;cases h
 rw [if_neg o1] at h
 by_cases o2:i.op=8
 ·rw [if_pos o2] at h
  obtain ⟨hg,rfl⟩:=zJQ h
  exact .jump o2 hg
 rw [if_neg o2] at h
 by_cases o3:i.op=9
 ·rw [if_pos o3] at h
  obtain ⟨n,hn,h⟩:=zA2 h
  obtain ⟨hg,rfl⟩:=zJQ h
  exact .ifn o3 hn rfl hg
 rw [if_neg o3] at h
 by_cases o4:i.op=18
 ·rw [if_pos o4] at h
  unfold MV.call at h
  obtain ⟨a,ha,h⟩:=zA2 h
  obtain ⟨b,hb,h⟩:=zA2 h
  by_cases c1:a.seal_=0∨a.seal_≠b.seal_
  ·rw [if_pos c1] at h;cases h
  rw [if_neg c1] at h
  by_cases c2:zAM a.perm 4=0∨zAM b.perm 4≠0
  ·rw [if_pos c2] at h;cases h
  rw [if_neg c2] at h
  by_cases c3:m.stk.length=16
  ·rw [if_pos c3] at h;cases h
  rw [if_neg c3] at h
  injection h with h
  subst h
  exact .call o4 ha hb (fun h=>c1 (.inl h)) (Classical.byContradiction fun h=>c1 (.inr h)) (fun h=>c2 (.inl h)) (Classical.byContradiction fun h=>c2 (.inr h)) c3
 rw [if_neg o4] at h
 by_cases o5:i.op=19
 ·rw [if_pos o5] at h
  unfold MV.back at h
  cases hl:m.stk.getLast? with
  | none=>rw [hl] at h;cases h
  | some f =>
   rw [hl] at h
   injection h with h
   subst h
   refine .back o5 ?_
   have hne:m.stk≠[]:=by intro e;rw [e] at hl;simp at hl
   have h2:=List.dropLast_concat_getLast hne
   rw [List.getLast?_eq_some_getLast hne] at hl
   injection hl with hl
   rw [←hl];exact h2.symm
 rw [if_neg o5] at h
 obtain ⟨m1,h1,h⟩:=zA2 h
 injection h with h
 subst h
 exact zFI (by omega) h1
theorem zEv {m m':MV} (h:m.one=.ok m'):∃ i,m.fetch=.ok i∧Stepd i m m':=by
 unfold MV.one at h
 obtain ⟨i,hi,h⟩:=zA2 h
 exact ⟨i,hi,zJz h⟩
theorem zFP {m:MV} {i:InstV} (h:m.fetch=.ok i):(atF m.mem.length m.c 0 4).2=0∧m.c.Ok∧m.c.seal_=0∧zAM m.c.perm 4≠0∧m.c.base≤m.c.at_∧m.c.at_ < m.c.base+m.c.len∧0≤m.c.at_∧m.c.at_ < m.mem.length ∧
  (m.mem.getD m.c.at_.toNat zeroV).is=false∧i=zAp (m.mem.getD m.c.at_.toNat zeroV).n∧zAE i=true:=by
 unfold MV.fetch at h
 simp only at h
 by_cases h1:(atF m.mem.length m.c 0 4).2=0
 ·rw [if_neg (by simp [h1])] at h
  obtain ⟨v1,v2,v3⟩:=zEM h1
  obtain ⟨a1,a2,a3,a4,a5,a6,a7⟩:=atF_ok.1 h1
  have a8:=covB_iff.1 a6
  rw [v1,Int.add_zero] at h
  cases h2:(m.mem.getD m.c.at_.toNat zeroV).is
  ·rw [h2] at h
   simp only [Bool.false_eq_true,if_false] at h
   cases h3:zAE (zAp (m.mem.getD m.c.at_.toNat zeroV).n)
   ·rw [h3] at h;cases h
   ·rw [h3] at h
    injection h with h
    subst h
    exact ⟨h1,a1,a2,a3,by omega,by omega,by omega,by omega,rfl,rfl,h3⟩
  ·rw [h2] at h;cases h
 ·rw [if_pos h1] at h;cases h
end
section
open Go.RowKit
theorem zEr {m:MV} (h:m.Ok) (r:Int):(m.reg r).Ok:=by
 unfold MV.reg
 rw [List.getD_eq_getElem?_getD]
 cases hr:m.R[r.toNat]? with
 | none=>exact zDr
 | some v=>exact h.1.regs v (List.mem_of_getElem? hr)
theorem zOS {m:MV} (h:m.Ok) (n:Nat):(m.mem.getD n zeroV).Ok:=by
 rw [List.getD_eq_getElem?_getD]
 cases hr:m.mem[n]? with
 | none=>exact zDr
 | some v=>exact h.1.mem v (List.mem_of_getElem? hr)
theorem zF0 {n:Int} (h1 : -2147483648≤n) (h2:n≤2147483647):(nV n).Ok:=.inr ⟨rfl,h1,h2,rfl⟩
theorem zJt {k:KeyV} (h:k.Ok):(kV k).Ok:=.inl ⟨rfl,h,rfl⟩
theorem zFC {m:MV} (h:m.Ok) {r:Int} {k:KeyV} (hk:m.key r=.ok k):k.Ok:=by
 obtain ⟨h1,rfl⟩:=zHs hk
 rcases zEr h r with ⟨_,h2,_⟩ | ⟨h2,_⟩
 ·exact h2
 ·rw [h1] at h2;cases h2
theorem zNa {m:MV} (h:m.Ok) {r n:Int} (hk:m.num r=.ok n) : -2147483648≤n∧n≤2147483647:=by
 obtain ⟨h1,rfl⟩:=zOQ hk
 rcases zEr h r with ⟨h2,_⟩ | ⟨_,h2,h3,_⟩
 ·rw [h1] at h2;cases h2
 ·exact ⟨h2,h3⟩
theorem zJs {i:InstV} {m:MV} {k q:KeyV} (h:m.Ok) (hk:k.Ok) (hs:KeyStep i m k q):q.Ok:=by
 obtain ⟨p0,p1,b0,b1,l0,l1,a0,a1,s0,s1⟩:=hk
 cases hs with
 | mvK ho hn hq =>
  rcases zD9 k _ with ⟨c,e,hc⟩ | ⟨e,_,_,h1,h2⟩
  ·rw [e] at hq;injection hq with _ hq;exact absurd hq hc
  ·rw [e] at hq;injection hq with hq _;subst hq;exact ⟨p0,p1,b0,b1,l0,l1,by simp only;omega,by simp only;omega,by simp only;omega,by simp only;omega⟩
 | nwK ho hn hq =>
  rcases zDT k _ with ⟨c,e,hc⟩ | ⟨e,_,_,h1,h2,h3⟩
  ·rw [e] at hq;injection hq with _ hq;exact absurd hq hc
  ·rw [e] at hq;injection hq with hq _;subst hq;exact ⟨p0,p1,by simp only;omega,by simp only;omega,h2,by simp only;omega,by simp only;omega,by simp only;omega,by simp only;omega,by simp only;omega⟩
 | drK ho hq =>
  rcases zEA k i.c with ⟨c,e,hc⟩ | ⟨e,_,_⟩
  ·rw [e] at hq;injection hq with _ hq;exact absurd hq hc
  ·rw [e] at hq;injection hq with hq _;subst hq
   have:=zJU p0 p1 i.c
   exact ⟨this.1,this.2,b0,b1,l0,l1,a0,a1,by simp only;omega,by simp only;omega⟩
 | slK ho hn hq =>
  rcases zD7 k _ with ⟨c,e,hc⟩ | ⟨e,_,_,_,_,_,_,h1,h2⟩
  ·rw [e] at hq;injection hq with _ hq;exact absurd hq hc
  ·rw [e] at hq;injection hq with hq _;subst hq;exact ⟨p0,p1,b0,b1,l0,l1,a0,a1,by simp only;omega,h2⟩
 | opK ho hn hq =>
  rcases zD8 k _ with ⟨c,e,hc⟩ | ⟨e,_⟩
  ·rw [e] at hq;injection hq with _ hq;exact absurd hq hc
  ·rw [e] at hq;injection hq with hq _;subst hq;exact ⟨p0,p1,b0,b1,l0,l1,a0,a1,by simp only;omega,by simp only;omega⟩
theorem zE7 (a:Int) : -2147483648≤wrap32 a∧wrap32 a≤2147483647:=by unfold wrap32;omega
theorem zOO {op a b n:Int} (h:opN op a b=.ok n) : -2147483648≤n∧n≤2147483647:=by
 unfold opN at h
 by_cases o1:op=3
 ·rw [if_pos o1] at h;injection h with h;subst h;exact zE7 _
 rw [if_neg o1] at h
 by_cases o2:op=4
 ·rw [if_pos o2] at h;injection h with h;subst h;exact zE7 _
 rw [if_neg o2] at h
 by_cases o3:op=5
 ·rw [if_pos o3] at h;injection h with h;subst h;exact zE7 _
 rw [if_neg o3] at h
 by_cases o4:op=7
 ·rw [if_pos o4] at h;injection h with h;subst h;unfold zET;split<;>omega
 rw [if_neg o4] at h
 unfold zJ1 at h
 by_cases o5:wrap32 b=0
 ·rw [if_pos o5] at h;cases h
 ·rw [if_neg o5] at h;injection h with h;subst h;exact zE7 _
theorem zNP {i:InstV} {m:MV} {v:ValV} (h:m.Ok) (hi:zAE i=true) (hv:SetV i m v):v.Ok:=by
 obtain ⟨op,a,b,c⟩:=i
 obtain ⟨i0,i1,i2,i3,i4,i5,i6,i7⟩:=zCU hi
 cases hv with
 | set ho=>exact zF0 (by simp only;omega) (by simp only;omega)
 | copy ho=>exact zEr h _
 | nums ho hb hc hn=>have:=zOO hn;exact zF0 this.1 this.2
 | ask0 ho hc=>split<;>exact zF0 (by decide) (by decide)
 | @ask k ho hc hk =>
  obtain ⟨p0,p1,b0,b1,l0,l1,a0,a1,s0,s1⟩:=zFC h hk
  generalize ((⟨op,a,b,c⟩:InstV).c - 1).toNat=j
  have hall:∀ z∈([k.perm,k.base,k.len,k.at_,k.seal_]:List Int),-2147483648≤z∧z≤2147483647:=fun z hz=>by
   simp only [List.mem_cons,List.not_mem_nil,or_false] at hz
   rcases hz with rfl | rfl | rfl | rfl | rfl
   ·exact ⟨by omega,by omega⟩
   ·exact ⟨by omega,by omega⟩
   ·exact ⟨by omega,by omega⟩
   ·exact ⟨by omega,by omega⟩
   ·exact ⟨by omega,by omega⟩
  rw [List.getD_eq_getElem?_getD]
  cases hj:([k.perm,k.base,k.len,k.at_,k.seal_]:List Int)[j]? with
  | none=>exact zF0 (by simp) (by simp)
  | some z=>have:=hall z (List.mem_of_getElem? hj);exact zF0 this.1 this.2
 | here ho=>exact zJt h.1.code
 | load ho hk hg =>
  simp only [zCD] at hg
  split at hg
  ·injection hg with hg _;subst hg;exact zDr
  ·split at hg
   ·injection hg with hg _;subst hg;exact zDr
   ·injection hg with hg _;subst hg;exact zOS h _
 | key hk hs=>exact zJt (zJs h (zFC h hk) hs)
theorem zFA {α:Type} {l:List α} {j:Nat} {x y:α} (h:y∈l.set j x):y∈l∨y=x:=List.mem_or_eq_of_mem_set h
theorem zFd {m:MV} {n:Int} (h:m.c.Ok) (hn:¬(m.c.at_+n < 0∨400 < m.c.at_+n)):(m.fwd n).c.Ok:=by
 obtain ⟨p0,p1,b0,b1,l0,l1,a0,a1,s0,s1⟩:=h
 exact ⟨p0,p1,b0,b1,l0,l1,by simp only [MV.fwd];omega,by simp only [MV.fwd];omega,s0,s1⟩
theorem zII {k:KeyV} (h:k.Ok):(zB9 k).Ok:=by
 obtain ⟨p0,p1,b0,b1,l0,l1,a0,a1,s0,s1⟩:=h
 exact ⟨p0,p1,b0,b1,l0,l1,a0,a1,by simp [zB9],by simp [zB9]⟩
theorem zLn {i:InstV} {m m':MV} (h:m.Ok) (hi:zAE i=true) (hat:m.c.at_ < m.c.base+m.c.len) (hs:Stepd i m m'):m'.Ok:=by
 obtain ⟨⟨r,c,ml,mo,sl,so,ol,oo⟩,h8⟩:=h
 have hM:m.Ok:=⟨⟨r,c,ml,mo,sl,so,ol,oo⟩,h8⟩
 have c1:(m.fwd 1).c.Ok:=zFd c (by have:=c.l1;have:=c.a0;omega)
 cases hs with
 | set hv =>
  refine ⟨⟨fun v hv'=>?_,c1,ml,mo,sl,so,ol,oo⟩,by simp [MV.set,MV.fwd,h8]⟩
  rcases zFA hv' with h | rfl
  ·exact r v h
  ·exact zNP hM hi hv
 | store ho hk hp =>
  refine ⟨⟨r,c1,by simpa [zBN,MV.fwd] using ml,fun v hv'=>?_,sl,so,ol,oo⟩,h8⟩
  rcases zFA hv' with h | rfl
  ·exact mo v h
  ·exact zEr hM _
 | clear ho =>
  refine ⟨⟨fun v hv'=>?_,c1,ml,mo,sl,so,ol,oo⟩,by simp [zCX,MV.fwd,h8]⟩
  simp only [MV.fwd,zCX,List.mem_mapIdx] at hv'
  obtain ⟨j,hj,rfl⟩:=hv'
  split
  ·exact zDr
  ·exact r _ (List.getElem_mem hj)
 | tell ho hn hl =>
  refine ⟨⟨r,c1,ml,mo,sl,so,by simp only [MV.fwd,List.length_append,List.length_singleton];omega,fun n hn'=>?_⟩,h8⟩
  rcases List.mem_append.1 hn' with h | h
  ·exact oo n h
  ·simp at h;subst h;exact zNa hM hn
 | jump ho hj=>exact ⟨⟨r,zFd c hj,ml,mo,sl,so,ol,oo⟩,h8⟩
 | ifn ho hn hd hj=>exact ⟨⟨r,zFd c hj,ml,mo,sl,so,ol,oo⟩,h8⟩
 | call ho ha hb g1 g2 g3 g4 g5 =>
  refine ⟨⟨fun v hv'=>?_,zII (zFC hM ha),ml,mo,by simp only [List.length_append,List.length_singleton];omega,fun f hf=>?_,ol,oo⟩,by simp [h8]⟩
  ·rcases zFA hv' with h | rfl
   ·exact r v h
   ·exact zJt (zII (zFC hM hb))
  ·rcases List.mem_append.1 hf with h | h
   ·exact so f h
   ·simp at h;subst h;exact ⟨c1,zEr hM 7⟩
 | back ho hst =>
  have hf:=so _ (by rw [hst];exact List.mem_append_right _ (List.mem_singleton_self _))
  refine ⟨⟨fun v hv'=>?_,hf.1,ml,mo,by rw [hst] at sl;simp at sl ⊢;omega,fun f hf'=>so f (by rw [hst];exact List.mem_append_left _ hf'),ol,oo⟩,by simp [h8]⟩
  rcases zFA hv' with h | rfl
  ·exact r v h
  ·exact hf.2
theorem zKw {m m':MV} (h:m.Ok) (hs:m.one=.ok m'):m'.Ok:=by
 obtain ⟨i,hi,hs⟩:=zEv hs
 have:=zFP hi
 exact zLn h this.2.2.2.2.2.2.2.2.2.2 this.2.2.2.2.2.1 hs
end
end Go.Proofs.YtlpejagkadalbaaGreatDoor
