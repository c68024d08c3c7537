import Derived.Test.YtlpejagkadalbaaGreatDoorQk32
import Derived.Test.YtlpejagkadalbaaGreatDoorQk33
import Derived.Test.YtlpejagkadalbaaGreatDoorQk36
set_option maxHeartbeats 40000000
set_option maxRecDepth 100000
set_option linter.unusedVariables false
set_option linter.unusedSimpArgs false
namespace Go.Proofs.YtlpejagkadalbaaGreatDoor
section
open Go Go.RowKit Go.Shelf
theorem zMl (g:Nat) (r:RdV) (vc vl vh:Value) (n:Int) (s:ByteArray) (w:World) (h:RdSt g r vc vl vh w) (he:PEnv w) (hs:s.size≤67108864) (hn1:r.code.length≤1000) (hn2:r.holes.length≤1000) (hn3:r.labels.length≤1000) :
  Calls Tryz.prog 87 #[.pointer (some ⟨g,0,none⟩),.int .i64 n,.string s] w (zCC g w (zAj r n s.data.toList).1 (zAj r n s.data.toList).2):=by
 have gL:=h.b.lt
 have gS:=h.gle
 have hsl:s.data.toList.length=s.size:=rfl
 have cs:∀ W,_:=fun W=>Tryz.strings_CutSuffix s ⟨#[58]⟩ W (by omega)
 by_cases h1:80 < s.size
 ·have e:zAj r n s.data.toList=(r,2):=by unfold zAj;rw [if_pos (by omega)]
  rw [e]
  have q1:(80:Int) < s.size:=by omega
  have ST:=zA h
  clear h he e cs hsl
  go_enter Tryz.func87,Tryz.ntmps87
  go_wp2
  go_ret
  exact zA5 ST.out (Below.refl _ _) rfl
 have q1:¬((80:Int) < s.size):=by omega
 cases h2:Lib.hasSuffix s.data.toList [58]
 ·have c1:Lib.hasSuffix s.data.toList (⟨#[58]⟩:ByteArray).data.toList=false:=h2
  simp only [c1] at cs
  by_cases h3:s.data.toList=[]
  ·have e:zAj r n s.data.toList=(r,0):=by unfold zAj;rw [if_neg (by omega),if_neg (by rw [h2];simp),if_pos h3]
   rw [e]
   have q0:s.toList.isEmpty=true:=by rw [ByteArray.toList_eq,h3];rfl
   have ST:=zA h
   have CS:=zA cs
   clear h he e cs hsl h1 h2 h3 c1
   go_enter Tryz.func87,Tryz.ntmps87
   go_wp2_with (go_at_call 102;((with_reducible refine (CS.out _).mono ?_);rintro e w' ⟨rfl,hw'⟩;subst w'))
   go_ret
   exact zA5 ST.out (Below.refl _ _) rfl
  ·have e:zAj r n s.data.toList=zAO r n s.data.toList:=by unfold zAj;rw [if_neg (by omega),if_neg (by rw [h2];simp),if_neg h3]
   rw [e]
   have q0:s.toList.isEmpty=false:=by
    rw [ByteArray.toList_eq]
    cases hh:s.data.toList with
    | nil=>exact absurd hh h3
    | cons x y=>rfl
   have ce:=zMn g r vc vl vh n s w h he (by omega) hn1 hn2
   obtain ⟨r',hr'⟩:∃ r',(zAO r n s.data.toList).1=r':=⟨_,rfl⟩
   obtain ⟨er,her⟩:∃ er,(zAO r n s.data.toList).2=er:=⟨_,rfl⟩
   rw [hr',her] at ce ⊢
   have CE:=zA ce
   have CS:=zA cs
   clear h he e cs hsl h1 h2 h3 c1 ce hr' her
   go_enter Tryz.func87,Tryz.ntmps87
   go_wp2_with (first
    | (go_at_call 102;((with_reducible refine (CS.out _).mono ?_);rintro e w' ⟨rfl,hw'⟩;subst w'))
    | (go_at_call 104;((with_reducible refine CE.out.mono ?_);rintro e w1 ⟨rfl,⟨vc',vl',vh',hst⟩,hb⟩;have S1:=zA hst;have HB:=zA hb;clear hst hb)))
   go_ret
   exact zA5 S1.out HB.out rfl
 ·have c1:Lib.hasSuffix s.data.toList (⟨#[58]⟩:ByteArray).data.toList=true:=h2
  obtain ⟨q,hq⟩:∃ q:ByteArray,(⟨(Lib.trimSuffix s.data.toList [58]).toArray⟩:ByteArray)=q:=⟨_,rfl⟩
  have hq2:(⟨(Lib.trimSuffix s.data.toList (⟨#[58]⟩:ByteArray).data.toList).toArray⟩:ByteArray)=q:=hq
  simp only [c1,hq2] at cs
  have e:zAj r n s.data.toList=zBz r q:=by unfold zAj;rw [if_neg (by omega),if_pos h2,←hq];rfl
  rw [e]
  have hqs:q.size≤s.size:=by
   have h3:q.size=q.data.toList.length:=rfl
   have h4:q.data.toList=Lib.trimSuffix s.data.toList [58]:=by rw [←hq]
   rw [h3,h4,←hsl]
   unfold Lib.trimSuffix
   split
   all_goals first
    | exact Nat.le_refl _
    | (rw [List.length_take];omega)
  have ce:=zLV g r vc vl vh q w h (by omega) hn1 hn3
  obtain ⟨r',hr'⟩:∃ r',(zBz r q).1=r':=⟨_,rfl⟩
  obtain ⟨er,her⟩:∃ er,(zBz r q).2=er:=⟨_,rfl⟩
  rw [hr',her] at ce ⊢
  have CE:=zA ce
  have CS:=zA cs
  clear h he e cs hsl h1 h2 c1 ce hr' her hqs hq hq2
  go_enter Tryz.func87,Tryz.ntmps87
  go_wp2_with (first
   | (go_at_call 102;((with_reducible refine (CS.out _).mono ?_);rintro e w' ⟨rfl,hw'⟩;subst w'))
   | (go_at_call 103;((with_reducible refine CE.out.mono ?_);rintro e w1 ⟨rfl,⟨vc',vl',vh',hst⟩,hb⟩;have S1:=zA hst;have HB:=zA hb;clear hst hb)))
  go_ret
  exact zA5 S1.out HB.out rfl
end
section
open Go Go.RowKit
structure RInv (r:RdV):Prop where
 h1:∀ h∈r.holes,0≤h.at_∧h.at_ < r.code.length
 h2:r.holes.Pairwise fun a b=>a.at_ < b.at_
 l1:∀ x∈r.labels,zR x.name=true∧0≤x.at_∧x.at_≤r.code.length
 l2:r.labels.Pairwise fun a b=>a.name≠b.name
theorem zPw:RInv rd0:=⟨by simp [rd0],by simp [rd0],by simp [rd0],by simp [rd0]⟩
theorem zO3 {l:List NamV} {s:ByteArray} (hl:∀ x∈l,0≤x.at_) (h:zB5 l s < 0):∀ x∈l,x.name≠s:=by
 intro x hx e
 unfold zB5 at h
 cases hf:l.find? (fun x=>decide (x.name=s)) with
 | none =>
  rw [List.find?_eq_none] at hf
  exact hf x hx (by simpa using e)
 | some y =>
  rw [hf] at h
  have:=hl y (List.mem_of_find?_eq_some hf)
  simp only at h
  omega
theorem zOg {r:RdV} (hi:RInv r) {n:Int} {s:List UInt8} (h:(zAj r n s).2=0):RInv (zAj r n s).1:=by
 obtain ⟨a1,a2,a3,a4⟩:=hi
 have more:∀ k:Int,RInv ⟨r.code++[k],r.labels,r.holes⟩:=fun k =>
  ⟨fun x hx=>by have:=a1 x hx;simp only [List.length_append,List.length_singleton];push_cast;omega,a2,fun x hx=>by have:=a3 x hx;simp only [List.length_append,List.length_singleton];push_cast;exact ⟨this.1,this.2.1,by omega⟩,a4⟩
 unfold zAj at h ⊢
 split
 ·exact ⟨a1,a2,a3,a4⟩
 next h1 =>
 rw [if_neg h1] at h
 split
 ·next h2 =>
  rw [if_pos h2] at h
  unfold zBz at h ⊢
  split
  ·exact ⟨a1,a2,a3,a4⟩
  next g1 =>
  split
  ·exact ⟨a1,a2,a3,a4⟩
  next g2 =>
  have g2':=Int.not_le.1 g2
  split
  ·exact ⟨a1,a2,a3,a4⟩
  refine ⟨a1,a2,fun x hx=>?_,?_⟩
  ·rcases List.mem_append.1 hx with h3 | h3
   ·exact a3 x h3
   ·rw [List.mem_singleton] at h3
    subst h3
    exact ⟨by simpa using g1,by simp only;omega,Int.le_refl _⟩
  ·refine List.pairwise_append.2 ⟨a4,List.pairwise_singleton _ _,fun x hx y hy=>?_⟩
   rw [List.mem_singleton] at hy
   subst hy
   exact zO3 (fun z hz=>(a3 z hz).2.1) g2' x hx
 next h2 =>
 rw [if_neg h2] at h
 split
 ·exact ⟨a1,a2,a3,a4⟩
 next h3 =>
 rw [if_neg h3] at h
 unfold zAO at h ⊢
 split
 ·split
  ·exact more _
  ·exact ⟨a1,a2,a3,a4⟩
 split
 ·obtain ⟨b1,b2,b3,b4⟩:=more 0
  refine ⟨fun x hx=>?_,?_,b3,b4⟩
  ·rcases List.mem_append.1 hx with h3 | h3
   ·exact b1 x h3
   ·rw [List.mem_singleton] at h3
    subst h3
    simp only [List.length_append,List.length_singleton]
    push_cast;omega
  ·refine List.pairwise_append.2 ⟨a2,List.pairwise_singleton _ _,fun x hx y hy=>?_⟩
   rw [List.mem_singleton] at hy
   subst hy
   exact (a1 x hx).2
 split
 ·exact more _
 ·exact ⟨a1,a2,a3,a4⟩
theorem zIQ:∀ (ls:List (List UInt8)) (r:RdV) (n:Nat),RInv r→(zAE r n ls).2.2=0→RInv (zAE r n ls).1
 | [],r,n,hi,_=>hi
 | s::ls,r,n,hi,h=>by
  rw [zCE] at h ⊢
  split
  ·next hk=>rw [if_pos hk] at h;exact zIQ ls _ _ (zOg hi hk) h
  ·next hk=>rw [if_neg hk] at h;exact absurd h hk
end
section
open Go.RowKit
def N1 {α:Type} (x:Ex α):Prop:=∀ e:Int,x=.error e→e≠1
end
section
open Go.RowKit
structure DoneV where
 e:Int
 n:Int
 out:List Int
 fuel:Int
def zCb (M:List ValV) (x:EntryV) (args:List Int):MV:=⟨zC5 x args,zDd x,M,[],[]⟩
def zOT (r:MV×Int×Int):DoneV:=⟨if r.2.2=16 then 0 else r.2.2,if (r.1.R.getD 0 zeroV).is then 0 else (r.1.R.getD 0 zeroV).n,r.1.out,r.2.1⟩
def doX (M:List ValV) (r:MV×Int×Int):DoneV×List ValV:=if r.2.2=1 then (⟨1,0,[],0⟩,M) else (zOT r,r.1.mem)
def doF (M:List ValV) (E:List EntryV) (s:ByteArray) (args:List Int) (f:Int):DoneV×List ValV :=
 if zBK E s args≠0 then (⟨zBK E s args,0,[],0⟩,M) else doX M (zCq (zCb M ((zAe E s).getD zeroE) args) f)
theorem zHN (M:List ValV) (x:EntryV) (args:List Int):(zCb M x args).R.length=8:=by
 show (zC5 x args).length=8
 unfold zC5
 rw [List.length_set,zBt]
theorem zKo {M:List ValV} (h:zBH M=0) {E:List EntryV} {s:ByteArray} {args:List Int} {f:Int}:zBH (doF M E s args f).2=0:=by
 unfold doF
 split
 ·exact h
 ·unfold doX
  split
  ·exact h
  ·next h1 =>
   show zBH (zCq _ f).1.mem=0
   unfold zCq at h1 ⊢
   by_cases hc:zCN (zCb M ((zAe E s).getD zeroE) args) f=0
   ·rw [if_neg (by simp [hc])]
    unfold zCN at hc
    by_cases hf:f < 0∨5000 < f
    ·rw [if_pos hf] at hc;cases hc
    ·rw [if_neg hf] at hc
     have hk:=zHb f.toNat _ (zGM (zHN M ((zAe E s).getD zeroE) args) hc)
     have:=zDu hk
     unfold MV.check at this
     exact (zBM _).2 ⟨hk.1.len,hk.1.mem⟩
   ·rw [if_pos hc]
    exact (zBM []).2 ⟨by simp,fun v hv=>by simp at hv⟩
end
section
open El (cl)
open Go.RowKit
structure JobR where
 name:ByteArray
 args:SlR
 fuel:Int
structure JobV where
 name:ByteArray
 args:List Int
 fuel:Int
instance:El JobR where
 k:=3
 cl x:=[.string x.name,.slice x.args.a x.args.n x.args.c,.int .i64 x.fuel]
 z:=⟨ByteArray.empty,⟨none,0,0⟩,0⟩
 len _:=rfl
 one _:=by intro u hu;simp at hu;rcases hu with rfl | rfl | rfl<;>rfl
 pos:=by decide
instance:Inhabited JobR:=⟨⟨ByteArray.empty,⟨none,0,0⟩,0⟩⟩
theorem zF0 (a:Addr) (i j:Nat) (hj:0 < j):a.add (i+j)=⟨(a.add i).block,(a.add i).off+j,none⟩:=by
 unfold Addr.add
 rw [if_neg (by omega)]
 by_cases hi:i=0
 ·subst hi;simp
 ·rw [if_neg hi];simp [Nat.add_assoc]
theorem zF5 {w:World} {ao:Option Addr} {n:Nat} {ks:List JobR} (h:Sl w ao n ks) {i:Nat} (hi:i < n) {x:JobR} (hx:ks[i]?=some x):∃ a,ao=some a∧(a.add (i*3)).block < w.heap.size ∧
  w.cell? (a.add (i*3))=some (.string x.name)∧w.cell? ⟨(a.add (i*3)).block,(a.add (i*3)).off+1,none⟩=some (.slice x.args.a x.args.n x.args.c)∧w.cell? ⟨(a.add (i*3)).block,(a.add (i*3)).off+2,none⟩=some (.int .i64 x.fuel):=by
 obtain ⟨a,y,e,hb,hy,hc⟩:=h.at hi
 obtain rfl:y=x:=by rw [hx] at hy;injection hy with hy;exact hy.symm
 refine ⟨a,e,by rw [zBL];exact hb,?_⟩
 rw [←zF0 a (i*3) 1 (by decide),←zF0 a (i*3) 2 (by decide)]
 exact ⟨hc 0 _ rfl,hc 1 _ rfl,hc 2 _ rfl⟩
structure JobR.has (w:World) (r:JobR) (j:JobV):Prop where
 name:j.name=r.name
 fuel:j.fuel=r.fuel
 args:Sl w r.args.a r.args.n j.args
 le:r.args.n≤r.args.c
 wa:∀ n∈j.args,I64 n
 wf:I64 r.fuel
theorem JobR.has.below {w w':World} {r:JobR} {j:JobV} (h:r.has w j) (hb:Below w.heap.size w w'):r.has w' j:=⟨h.name,h.fuel,h.args.below hb,h.le,h.wa,h.wf⟩
structure Jobs (w:World) (ao:Option Addr) (n:Nat) (rs:List JobR) (js:List JobV):Prop where
 sl:Sl w ao n rs
 len:rs.length=js.length
 at_:∀ (i:Nat) (r:JobR) (j:JobV),rs[i]?=some r→js[i]?=some j→r.has w j
theorem Jobs.below {w w':World} {ao:Option Addr} {n:Nat} {rs:List JobR} {js:List JobV} (h:Jobs w ao n rs js) (hb:Below w.heap.size w w'):Jobs w' ao n rs js :=
 ⟨h.sl.below hb,h.len,fun i r m h1 h2=>(h.at_ i r m h1 h2).below hb⟩
theorem Jobs.n {w:World} {ao:Option Addr} {n:Nat} {rs:List JobR} {js:List JobV} (h:Jobs w ao n rs js):js.length=n:=by rw [←h.len];exact h.sl.len
theorem Jobs.get {w:World} {ao:Option Addr} {n:Nat} {rs:List JobR} {js:List JobV} (h:Jobs w ao n rs js) {i:Nat} (hi:i < n):∃ r j,rs[i]?=some r∧js[i]?=some j∧r.has w j:=by
 have h1:=h.n
 have h2:=h.len
 exact ⟨_,_,List.getElem?_eq_getElem (by omega),List.getElem?_eq_getElem (by omega),h.at_ i _ _ (List.getElem?_eq_getElem (by omega)) (List.getElem?_eq_getElem (by omega))⟩
end
section
open El (cl)
open Go.RowKit
def zCO (E:List EntryV) (M:List ValV) (js:List JobV):List ValV:=js.foldl (fun M j=>(doF M E j.name j.args j.fuel).2) M
def zBC (E:List EntryV):List ValV→List JobV→List DoneV
 | _,[]=>[]
 | M,j::js=>(doF M E j.name j.args j.fuel).1::zBC E (doF M E j.name j.args j.fuel).2 js
theorem zEi (E:List EntryV) (M:List ValV) (js:List JobV) (j:JobV):zCO E M (js++[j])=(doF (zCO E M js) E j.name j.args j.fuel).2:=by unfold zCO;simp
theorem zGU (E:List EntryV) (j:JobV):∀ (js:List JobV) (M:List ValV),zBC E M (js++[j])=zBC E M js++[(doF (zCO E M js) E j.name j.args j.fuel).1]
 | [],M=>rfl
 | x::js,M=>by
  rw [List.cons_append,zBC,zBC,zGU E j js,List.cons_append]
  rfl
theorem zDe (E:List EntryV):∀ (js:List JobV) (M:List ValV),(zBC E M js).length=js.length
 | [],_=>rfl
 | j::js,M=>by rw [zBC,List.length_cons,List.length_cons,zDe E js]
theorem zNG {E:List EntryV} {M:List ValV} {js:List JobV} {k:Nat} {j:JobV} (h:js[k]?=some j):zCO E M (js.take (k+1))=(doF (zCO E M (js.take k)) E j.name j.args j.fuel).2:=by
 rw [List.take_add_one,h]
 exact zEi _ _ _ _
theorem zKp {E:List EntryV} {M:List ValV} {js:List JobV} {k:Nat} {j:JobV} (h:js[k]?=some j):zBC E M (js.take (k+1))=zBC E M (js.take k)++[(doF (zCO E M (js.take k)) E j.name j.args j.fuel).1]:=by
 rw [List.take_add_one,h]
 exact zGU _ _ _ _
theorem zFw {E:List EntryV}:∀ {js:List JobV} {M:List ValV} {k:Nat} {j:JobV},js[k]?=some j→(zBC E M js)[k]?=some (doF (zCO E M (js.take k)) E j.name j.args j.fuel).1
 | [],M,k,j,h=>by simp at h
 | x::js,M,0,j,h=>by
  simp at h
  subst h
  rfl
 | x::js,M,k+1,j,h=>by
  rw [zBC,List.getElem?_cons_succ,zFw (by simpa using h)]
  rfl
theorem zDS {E:List EntryV}:∀ {js:List JobV} {M:List ValV},ImOk M E→ImOk (zCO E M js) E
 | [],_,h=>h
 | j::js,M,h=>by
  show ImOk (zCO E (doF M E j.name j.args j.fuel).2 js) E
  exact zDS ⟨zKo h.m,h.e,h.k⟩
structure DoneR where
 e:Int
 n:Int
 out:SlR
 fuel:Int
instance:El DoneR where
 k:=4
 cl x:=[.int .i64 x.e,.int .i64 x.n,.slice x.out.a x.out.n x.out.c,.int .i64 x.fuel]
 z:=⟨0,0,⟨none,0,0⟩,0⟩
 len _:=rfl
 one _:=by intro u hu;simp at hu;rcases hu with rfl | rfl | rfl | rfl<;>rfl
 pos:=by decide
instance:Inhabited DoneR:=⟨⟨0,0,⟨none,0,0⟩,0⟩⟩
theorem zD9 (a:Addr) (i j:Nat) (hj:0 < j):a.add (i+j)=⟨(a.add i).block,(a.add i).off+j,none⟩:=by
 unfold Addr.add
 rw [if_neg (by omega)]
 by_cases hi:i=0
 ·subst hi;simp
 ·rw [if_neg hi];simp [Nat.add_assoc]
theorem zER {w:World} {ao:Option Addr} {n:Nat} {ks:List DoneR} (h:Sl w ao n ks) {i:Nat} (hi:i < n) {x:DoneR} (hx:ks[i]?=some x):∃ a,ao=some a∧(a.add (i*4)).block < w.heap.size ∧
  w.cell? (a.add (i*4))=some (.int .i64 x.e)∧w.cell? ⟨(a.add (i*4)).block,(a.add (i*4)).off+1,none⟩=some (.int .i64 x.n)∧w.cell? ⟨(a.add (i*4)).block,(a.add (i*4)).off+2,none⟩=some (.slice x.out.a x.out.n x.out.c)∧w.cell? ⟨(a.add (i*4)).block,(a.add (i*4)).off+3,none⟩=some (.int .i64 x.fuel):=by
 obtain ⟨a,y,e,hb,hy,hc⟩:=h.at hi
 obtain rfl:y=x:=by rw [hx] at hy;injection hy with hy;exact hy.symm
 refine ⟨a,e,by rw [zBL];exact hb,?_⟩
 rw [←zD9 a (i*4) 1 (by decide),←zD9 a (i*4) 2 (by decide),←zD9 a (i*4) 3 (by decide)]
 exact ⟨hc 0 _ rfl,hc 1 _ rfl,hc 2 _ rfl,hc 3 _ rfl⟩
structure DoneR.has (W:World) (base:Nat) (r:DoneR) (x:DoneV):Prop where
 e:r.e=x.e
 n:r.n=x.n
 fuel:r.fuel=x.fuel
 out:Own W base 3 (.slice r.out.a r.out.n r.out.c) x.out
structure Dones (W:World) (base:Nat) (rs:List DoneR) (ds:List DoneV):Prop where
 len:rs.length=ds.length
 at_:∀ (i:Nat) (r:DoneR) (x:DoneV),rs[i]?=some r→ds[i]?=some x→r.has W base x
section
variable {W W':World} {base:Nat} {rs:List DoneR} {ds:List DoneV}
theorem Dones.nil:Dones W base [] []:=⟨rfl,fun i r x h=>by simp at h⟩
theorem Dones.map (h:Dones W base rs ds) (f:∀ (v:Value) (xs:List Int),Own W base 3 v xs→Own W' base 3 v xs):Dones W' base rs ds :=
 ⟨h.len,fun i r x h1 h2=>by have:=h.at_ i r x h1 h2;exact ⟨this.e,this.n,this.fuel,f _ _ this.out⟩⟩
theorem Dones.below (h:Dones W base rs ds) (hb:Below W.heap.size W W'):Dones W' base rs ds:=h.map fun v xs o=>o.below hb
theorem Dones.mono {b':Nat} (h:Dones W base rs ds) (hb:b'≤base):Dones W b' rs ds :=
 ⟨h.len,fun i r x h1 h2=>by have:=h.at_ i r x h1 h2;exact ⟨this.e,this.n,this.fuel,this.out.mono hb⟩⟩
theorem Dones.cell (h:Dones W base rs ds) {k:Nat} {T:TypeId} {cs:Array Value} (hb:Bk W k T cs) (hT:T≠3) (i:Nat) (u:Value):Dones (W.setCell ⟨k,i,none⟩ u) base rs ds:=h.map fun v xs o=>zAQ o hb hT i u
theorem Dones.snoc (h:Dones W base rs ds) {r:DoneR} {x:DoneV} (hx:r.has W base x):Dones W base (rs++[r]) (ds++[x]):=by
 refine ⟨by rw [List.length_append,List.length_append,h.len];rfl,fun i r' x' h1 h2=>?_⟩
 have hl:=h.len
 rcases Nat.lt_or_ge i rs.length with hi | hi
 ·rw [List.getElem?_append_left hi] at h1
  rw [List.getElem?_append_left (by omega)] at h2
  exact h.at_ i r' x' h1 h2
 ·rw [List.getElem?_append_right hi] at h1
  rw [List.getElem?_append_right (by omega)] at h2
  have h0:i - rs.length=0:=by
   have:=(List.getElem?_eq_some_iff.1 h1).1
   simp at this
   omega
  rw [h0] at h1
  rw [show i - ds.length=0 by omega] at h2
  simp at h1 h2
  subst h1 h2
  exact hx
end
theorem zLd {α β:Type} [El α] [El β] {w:World} {b b':Nat} {T T':TypeId} {v u:Value} {xs:List α} {ys:List β} (h:Own w b T v xs) (h':Own w b' T' u ys) (hT:T≠T'):v.ownBlock=none∨v.ownBlock≠u.ownBlock:=by
 cases hv:v.ownBlock with
 | none=>exact .inl rfl
 | some k =>
  right
  intro e
  obtain ⟨cur,fr,h1⟩:=zE1 h hv
  obtain ⟨cur',fr',h2⟩:=zE1 h' e.symm
  rw [h1] at h2
  injection h2 with h2
  injection h2 with _ h2
  exact hT h2
theorem zOe (w:World) (r:DoneR) (T:TypeId):Sl (w.alloc (.cells #[.int .i64 r.e,.int .i64 r.n,.slice r.out.a r.out.n r.out.c,.int .i64 r.fuel] T)) (some ⟨w.heap.size,0,none⟩) 1 [r]:=by
 have h0:=zBY (xs:=[r]) w T 0 (Nat.zero_le _) #[.int .i64 r.e,.int .i64 r.n,.slice r.out.a r.out.n r.out.c,.int .i64 r.fuel] 1 rfl (by decide) rfl
 obtain ⟨ao,c,e,h,_⟩:=h0.sl
 injection e with e _ _
 subst e
 simpa using h
end
section
open Go Go.RowKit
abbrev zRU:List UInt8:=[105,110,99,58,10,108,111,97,100,32,114,49,32,114,55,32,48,10,115,101,116,32,114,50,32,49,10,97,100,100,32,114,49,32,114,49,32,114,50,10,115,116,111,114,101,32,114,49,32,114,55,32,48,10,99,111,112,121,32,114,48,32,114,49,10,99,108,101,97,114,32,54,10,98,97,99,107,10,103,101,116,58,10,108,111,97,100,32,114,48,32,114,55,32,48,10,98,97,99,107]
abbrev zBq:ByteArray:=⟨#[105,110,99]⟩
abbrev zCP:ByteArray:=⟨#[103,101,116]⟩
def codeC:List Int:=[zBT ⟨10,1,7,0⟩,zBT ⟨1,2,0,1⟩,zBT ⟨3,1,1,2⟩,zBT ⟨11,1,7,0⟩,zBT ⟨2,0,1,0⟩,zBT ⟨21,0,0,6⟩,zBT ⟨19,0,0,0⟩,zBT ⟨10,0,7,0⟩,zBT ⟨19,0,0,0⟩]
theorem zQq:zE9 zRU=⟨codeC,[⟨zBq,0⟩,⟨zCP,7⟩],0,0⟩:=by kernel_rfl
def zAV (n:Int):ModV:=⟨codeC,[n],[⟨zBq,0⟩,⟨zCP,7⟩],[]⟩
theorem codeC_ok:codeC.length=9∧zEV codeC:=by
 have h:(codeC.all fun n=>decide (-2147483648≤n∧n≤2147483647))=true:=by kernel_rfl
 exact ⟨rfl,fun n hn=>of_decide_eq_true (List.all_eq_true.1 h n hn)⟩
theorem names_C:zR zBq=true∧zR zCP=true:=⟨by kernel_rfl,by kernel_rfl⟩
theorem zLA {n:Int} (h : -2147483648≤n∧n≤2147483647):ModOk zR (zAV n):=by
 obtain ⟨c1,c2⟩:=codeC_ok
 refine ⟨by show codeC.length≤120;omega,by simp [zAV],by simp [zAV],by simp [zAV],c2,(fun x hx=>by simp [zAV] at hx;subst hx;exact h),(fun x hx=>?_),?_,(fun x hx=>by simp [zAV] at hx),by simp [zAV]⟩
 ·simp [zAV] at hx
  rcases hx with rfl | rfl
  ·exact ⟨names_C.1,by decide,by show (0:Int) < (codeC.length:Int);omega⟩
  ·exact ⟨names_C.2,by decide,by show (7:Int) < (codeC.length:Int);omega⟩
 ·show List.Pairwise _ [(⟨zBq,0⟩:NamV),⟨zCP,7⟩]
  simp
theorem zJX {n:Int} (h : -2147483648≤n∧n≤2147483647):LinkOk zR [zAV n]:=by
 refine ⟨by simp,fun m hm=>by simp at hm;subst hm;exact zLA h,?_,?_,by simp [zEK,zAV]⟩
 ·show [zBq,zCP].Nodup
  decide
 ·rw [zAq,zCG]
  show codeC.length+1+0≤400
  have:=codeC_ok.1
  omega
abbrev zEk:List JobV:=[⟨zBq,[],50⟩,⟨zBq,[],50⟩,⟨zCP,[],50⟩]
theorem counts:(zBC (zU 0 0 [zAV 5]) (zAK [zAV 5]) zEk).map (fun d=>(d.e,d.n))=[(0,6),(0,7),(0,7)]:=by kernel_rfl
theorem zL8:(zCO (zU 0 0 [zAV 5]) (zAK [zAV 5]) zEk).length=(zAK [zAV 5]).length:=by kernel_rfl
end
end Go.Proofs.YtlpejagkadalbaaGreatDoor
