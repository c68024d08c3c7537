import Derived.Test.YtlpejagkadalbaaGreatDoorQk45
import Derived.Test.YtlpejagkadalbaaGreatDoorQk48
set_option maxHeartbeats 40000000
set_option maxRecDepth 100000
set_option linter.unusedVariables false
set_option linter.unusedSimpArgs false
namespace Go.Proofs.YtlpejagkadalbaaGreatDoor
section
open Go.RowKit
def zEx (N:Nat) (l:List Int):Nat:=(List.range N).countP fun (n:Nat)=>decide ((n:Int)∉l)
theorem zDt {α:Type} {p q:α→Bool}:∀ {l:List α},(∀ x∈l,q x=true→p x=true)→∀ {a:α},a∈l→p a=true→q a=false→l.countP q+1≤l.countP p
 | [],_,a,ha,_,_=>by cases ha
 | x :: l,h,a,ha,h1,h2=>by
  rw [List.countP_cons,List.countP_cons]
  have hm:l.countP q≤l.countP p:=List.countP_mono_left fun y hy hq=>h y (List.mem_cons_of_mem _ hy) hq
  rcases List.mem_cons.1 ha with rfl | ha
  ·rw [h1,h2];simp;omega
  ·have ih:=zDt (fun y hy=>h y (List.mem_cons_of_mem _ hy)) ha h1 h2
   have hx:=h x (by simp)
   by_cases hq:q x=true
   ·rw [hq,hx hq];simp;omega
   ·have hq':q x=false:=by simpa using hq
    rw [hq']
    simp only [Bool.false_eq_true,if_false]
    split<;>omega
structure NearSt (ms:List ModV) (from_:Nat) (nl:List Int):Prop where
 mem:(from_:Int)∈nl
 rng:∀ v∈nl,∃ n:Nat,n < ms.length∧v=n
 cnt:nl.length+zEx ms.length nl≤ms.length
def Wish (ms:List ModV) (nl:List Int) (x:NamV) (N:Nat):Prop:=∀ n' m' y,n' < N→ms[n']?=some m'→y∈m'.ex→y.name=x.name→(n':Int)∈nl
def Cov1 (ms:List ModV) (nl:List Int) (l:List NamV):Prop:=∀ x∈l,Wish ms nl x ms.length
def Cov0 (ms:List ModV) (nl:List Int) (k:Nat):Prop:=∀ (i c:Nat) (m:ModV),i < k→nl[i]?=some (c:Int)→ms[c]?=some m→Cov1 ms nl m.im
def Cov3 (nl:List Int) (x:NamV) (n:Nat) (l:List NamV):Prop:=∀ y∈l,y.name=x.name→(n:Int)∈nl
section
variable {ms:List ModV} {f:Nat} {nl:List Int} {x:NamV} {n k:Nat} {v:Int}
theorem zLk (hf:f < ms.length):NearSt ms f [(f:Int)]:=by
 refine ⟨by simp,fun v hv=>⟨f,hf,by simpa using hv⟩,?_⟩
 have h:=zDt (l:=List.range ms.length) (p:=fun _=>true) (q:=fun (n:Nat)=>decide ((n:Int)∉[(f:Int)])) (fun _ _ _=>rfl) (a:=f) (List.mem_range.2 hf) rfl (by simp)
 have h2:(List.range ms.length).countP (fun _=>true)≤(List.range ms.length).length:=List.countP_le_length
 rw [List.length_range] at h2
 unfold zEx
 simp only [List.length_singleton]
 omega
theorem NearSt.snoc (h:NearSt ms f nl) (hn:n < ms.length) (hx:(n:Int)∉nl):NearSt ms f (nl++[(n:Int)]):=by
 refine ⟨List.mem_append_left _ h.mem,fun v hv=>?_,?_⟩
 ·rcases List.mem_append.1 hv with hv | hv
  ·exact h.rng v hv
  ·exact ⟨n,hn,by simpa using hv⟩
 ·have h1:=zDt (l:=List.range ms.length) (p:=fun (n:Nat)=>decide ((n:Int)∉nl)) (q:=fun (j:Nat)=>decide ((j:Int)∉nl++[(n:Int)])) (fun j _ hq=>by
   simp only [decide_eq_true_eq,List.mem_append] at hq ⊢
   exact fun e=>hq (.inl e)) (a:=n) (List.mem_range.2 hn) (by simp [hx]) (by simp)
  have:=h.cnt
  unfold zEx at *
  rw [List.length_append]
  simp only [List.length_singleton]
  omega
theorem NearSt.len (h:NearSt ms f nl):nl.length≤ms.length:=by have:=h.cnt;omega
theorem Wish.more (h:Wish ms nl x k):Wish ms (nl++[v]) x k:=fun n' m' y h1 h2 h3 h4=>List.mem_append_left _ (h n' m' y h1 h2 h3 h4)
theorem Cov1.more {l:List NamV} (h:Cov1 ms nl l):Cov1 ms (nl++[v]) l:=fun x hx=>(h x hx).more
theorem Cov0.more (h:Cov0 ms nl k) (hk:k≤nl.length):Cov0 ms (nl++[v]) k:=fun i c m hi hc hm=>by
 rw [List.getElem?_append_left (by omega)] at hc
 exact (h i c m hi hc hm).more
theorem Cov3.more {l:List NamV} (h:Cov3 nl x n l):Cov3 (nl++[v]) x n l:=fun y hy e=>List.mem_append_left _ (h y hy e)
theorem zFx {l:List NamV} {a:Nat} (hx:l[a]?=some x) (h:Cov1 ms nl (l.take a)) (hw:Wish ms nl x ms.length):Cov1 ms nl (l.take (a+1)):=by
 rw [List.take_add_one,hx]
 intro z hz
 rcases List.mem_append.1 hz with hz | hz
 ·exact h z hz
 ·obtain rfl:z=x:=by simpa using hz
  exact hw
theorem zNq {c:Nat} {m:ModV} (hc:nl[k]?=some (c:Int)) (hm:ms[c]?=some m) (h:Cov0 ms nl k) (h1:Cov1 ms nl m.im):Cov0 ms nl (k+1):=by
 intro i c' m' hi hc' hm'
 rcases Nat.lt_or_ge i k with hl | hl
 ·exact h i c' m' hl hc' hm'
 ·obtain rfl:i=k:=by omega
  rw [hc] at hc'
  injection hc' with hc'
  obtain rfl:c=c':=by omega
  rw [hm] at hm'
  injection hm' with hm'
  subst hm'
  exact h1
end
end
section
open Go Go.RowKit Go.Shelf
end
section
open Go Go.RowKit Go.Shelf
end
section
open Go.RowKit
open Go.Maps (Keyed)
section
variable {gs b:Nat} {d:Bool} {mem:List ValV} {ma:Option Addr} {mc:Nat}
end
end
section
open Go.RowKit
open Go.Maps (Keyed)
structure MBR (g:Nat) (R:List ValV) (c:KeyV) (mem:List ValV) (stk:List FrameV) (out:List Int) (cs:Array Value) (W:World):Prop where
 h8:R.length=8
 bk:Bk W g 60 cs
 row:∃ ma sa oa mc sc oc,cs=mcs R c (.slice ma mem.length mc) (.slice sa stk.length sc) (.slice oa out.length oc)∧Sl W ma mem.length mem∧Sl W sa stk.length stk∧Sl W oa out.length out
structure MRow (R:List ValV) (c:KeyV) (mem:List ValV) (stk:List FrameV) (out:List Int) (cs:Array Value) (W:World):Prop where
 h8:R.length=8
 row:∃ ma sa oa mc sc oc,cs=mcs R c (.slice ma mem.length mc) (.slice sa stk.length sc) (.slice oa out.length oc)∧Sl W ma mem.length mem∧Sl W sa stk.length stk∧Sl W oa out.length out
section
variable {g:Nat} {R:List ValV} {c:KeyV} {mem:List ValV} {stk:List FrameV} {out:List Int} {cs:Array Value} {W W':World}
theorem MRow.below (h:MRow R c mem stk out cs W) (hb:Below W.heap.size W W'):MRow R c mem stk out cs W':=by
 obtain ⟨ma,sa,oa,mc,sc,oc,e,h1,h2,h3⟩:=h.row
 exact ⟨h.h8,ma,sa,oa,mc,sc,oc,e,h1.below hb,h2.below hb,h3.below hb⟩
theorem MBR.below (h:MBR g R c mem stk out cs W) (hb:Below W.heap.size W W'):MBR g R c mem stk out cs W':=by
 obtain ⟨ma,sa,oa,mc,sc,oc,e,h1,h2,h3⟩:=h.row
 exact ⟨h.h8,zH hb h.bk,ma,sa,oa,mc,sc,oc,e,h1.below hb,h2.below hb,h3.below hb⟩
theorem MBR.sz (h:MBR g R c mem stk out cs W):cs.size=64:=by
 obtain ⟨ma,sa,oa,mc,sc,oc,e,_⟩:=h.row
 rw [e,zBc h.h8]
theorem MBR.size (h:MBR g R c mem stk out cs W):0+64≤cs.size:=by rw [h.sz];decide
theorem MBR.all (h:MBR g R c mem stk out cs W):cs.extract 0 (0+64)=cs:=by
 rw [Array.extract_eq_self_of_le (by rw [h.sz];decide)]
theorem MBR.regs (h:MBR g R c mem stk out cs W):cs.extract 0 (0+56)=(cls R).toArray:=by
 obtain ⟨ma,sa,oa,mc,sc,oc,e,_⟩:=h.row
 rw [e];exact zJT h.h8
theorem MBR.codeC (h:MBR g R c mem stk out cs W):W.cell? ⟨g,56,none⟩=some (.int .i64 c.perm)∧W.cell? ⟨g,57,none⟩=some (.int .i64 c.base)∧W.cell? ⟨g,58,none⟩=some (.int .i64 c.len)∧W.cell? ⟨g,59,none⟩=some (.int .i64 c.at_)∧W.cell? ⟨g,60,none⟩=some (.int .i64 c.seal_):=by
 obtain ⟨ma,sa,oa,mc,sc,oc,e,_⟩:=h.row
 have hb:=h.bk
 rw [e] at hb
 exact ⟨(hb.cell _).trans (zAh h.h8 0),(hb.cell _).trans (zAh h.h8 1),(hb.cell _).trans (zAh h.h8 2),(hb.cell _).trans (zAh h.h8 3),(hb.cell _).trans (zAh h.h8 4)⟩
theorem MBR.memC (h:MBR g R c mem stk out cs W):∃ ao k,W.cell? ⟨g,61,none⟩=some (.slice ao mem.length k)∧Sl W ao mem.length mem:=by
 obtain ⟨ma,sa,oa,mc,sc,oc,e,h1,h2,h3⟩:=h.row
 exact ⟨ma,mc,by rw [h.bk.cell,e];exact zAh h.h8 5,h1⟩
end
section
variable {gs b:Nat} {d:Bool} {mem:List ValV} {ma:Option Addr} {mc n:Nat} {S S':List KeyV} {W:World} {P:KeyV→Prop} {k:KeyV} {v:ValV}
theorem Sought.val (h:Sought d mem P n S) (h1:v.is=true→AddR d mem S v.k S') (h2:v.is=false→S'=S):Sought d mem (fun x=>P x∨(v.is=true∧x=v.k)) (n+1) S':=by
 cases hv:v.is
 ·rw [h2 hv]
  exact (h.more (Nat.le_succ _)).same fun x=>⟨.inl,fun h=>h.elim id (fun h=>by cases h.1)⟩
 ·exact (h.add (h1 hv)).same fun x=>⟨fun h=>h.elim .inl (fun h=>.inr ⟨rfl,h⟩),fun h=>h.elim .inl (fun h=>.inr h.2)⟩
end
end
section
open Go.RowKit
open Go.Maps (Keyed)
def KeyRange (b r:Nat) (S:List KeyV) (left:Lit→Bool) (cnt:Nat) (W:World):Prop :=
 W.ranges Tryz.prog 54 (unitElem (H:=Unit)) b r S.length (zHa S) left cnt∧∀ kl,left kl=true→Maps.has (zHa S) kl=true
section
variable {b r:Nat} {S:List KeyV} {left:Lit→Bool} {cnt:Nat} {W W':World}
theorem KeyRange.below (h:KeyRange b r S left cnt W) (hb:Below W.heap.size W W'):KeyRange b r S left cnt W' :=
 ⟨h.1.kept (row:=none) ⟨hb.os,hb.tape,hb.output,hb.size,fun i hi _=>hb.block i hi⟩ (by simp) (by simp),h.2⟩
end
end
section
open Go.RowKit
open Go.Maps (Keyed)
end
section
open Go.RowKit
open Go.Maps (Keyed)
end
section
open Go.RowKit
theorem zGB (ao:Option Addr) (n c:Nat) (xs:List Int) (y:Int) (w:World) (hx:Sl w ao n xs) :
  Calls Tryz.prog 11 #[.slice ao n c,.int .i64 y] w fun e w'=>e=.returned (.bool (decide (y∈xs)))∧w=w':=by
 have hlx:=hx.len
 have hm:=hx.max
 unfold maxLen at hm
 have HLX:=zA hlx
 have HX:=zA hx
 clear hlx hx
 go_enter Tryz.func11,Tryz.ntmps11
 go_wp2
 go_loopw [9] (fun i wr=>∃ k:Nat,k≤n∧i=.int .i64 k∧(y∉xs.take k)∧wr=w) (fun i _=>n - (intOf i).toNat)
 case atStart=>exact ⟨0,Nat.zero_le _,rfl,by simp,rfl⟩
 case round =>
  obtain ⟨k,hk,rfl,hf,rfl⟩:=hrel
  by_cases hlt:k < n
  ·have q0:(0:Int)≤k:=by omega
   have q1:(k:Int) < n:=by omega
   obtain ⟨x,hgx⟩:∃ x,xs[k]?=some x:=⟨_,List.getElem?_eq_getElem (by have:=HLX.out;omega)⟩
   obtain ⟨ad,rfl,bx,e0⟩:=zCM HX.out hlt hgx
   have htk:xs.take (k+1)=xs.take k++[x]:=by rw [List.take_add_one,hgx];rfl
   by_cases hxy:y=x
   ·subst hxy
    have hin:y∈xs:=List.mem_of_getElem? hgx
    have HIN:=zA hin
    clear hgx hin htk hf
    have g1:(y==y)=true:=by simp
    go_wp2
    go_ret
    exact ⟨zB9 (by simp [HIN.out]),rfl⟩
   ·have g1:(y==x)=false:=by simpa using hxy
    have hf2:y∉xs.take (k+1):=by rw [htk];simp [hf,hxy]
    have HF:=zA hf2
    clear hgx hxy hf hf2 htk
    go_wp2
    go_roundw
    case rel=>exact ⟨k+1,by omega,by go_num,HF.out,by first | rfl | trivial⟩
    case measure=>simp [intOf];omega
  ·obtain rfl:k=n:=by omega
   rw [List.take_of_length_le (by rw [HLX.out];exact Nat.le_refl _)] at hf
   have HF:=zA hf
   clear hf
   go_wp2
   go_ret
   exact ⟨zB9 (by simp [HF.out]),rfl⟩
end
section
open Go.RowKit
theorem zFS:∀ (x:List ModV) (b n:Nat),(zU b n x).map (·.name)=zAG x
 | [],b,n=>rfl
 | m::x,b,n=>by
  rw [zU,List.map_append,zFS x]
  unfold zAG
  rw [List.flatMap_cons,List.map_map]
  rfl
end
section
open Go.RowKit
theorem zId:∀ {es:List EntryV} {e:EntryV},e∈es→(es.map (·.name)).Nodup→zAe es e.name=some e
 | x::es,e,h,hn=>by
  rw [List.map_cons,List.nodup_cons] at hn
  unfold zAe
  rw [List.find?_cons]
  rcases List.mem_cons.1 h with rfl | h'
  ·simp
  ·have hne:x.name≠e.name:=fun e'=>hn.1 (by rw [e'];exact List.mem_map_of_mem h')
   simp only [hne,decide_false]
   exact zId h' hn.2
theorem zGS:∀ {ms:List ModV} {b n i:Nat} {m:ModV} {y:NamV},ms[i]?=some m→y∈m.ex→zAf (b+total (ms.take i)) (n+i) m y∈zU b n ms
 | [],b,n,i,m,y,h,_=>by simp at h
 | x::ms,b,n,0,m,y,h,hy=>by
  simp at h
  subst h
  rw [zU]
  exact List.mem_append_left _ (List.mem_map.2 ⟨y,hy,by simp [zCG]⟩)
 | x::ms,b,n,i+1,m,y,h,hy=>by
  have ih:=zGS (ms:=ms) (b:=b+(x.code.length+x.data.length)) (n:=n+1) (i:=i) (by simpa using h) hy
  rw [zU,List.take_succ_cons,zAq]
  refine List.mem_append_right _ ?_
  rw [show b+(x.code.length+x.data.length+total (ms.take i))=b+(x.code.length+x.data.length)+total (ms.take i) by omega,show n+(i+1)=n+1+i by omega]
  exact ih
theorem zFC {nm:ByteArray→Bool} {ms:List ModV} (h:LinkOk nm ms) {i:Nat} {m:ModV} {y:NamV} (hm:ms[i]?=some m) (hy:y∈m.ex):zAe (zU 0 0 ms) y.name=some (zAf (total (ms.take i)) i m y):=by
 have h1:=zGS (b:=0) (n:=0) hm hy
 rw [Nat.zero_add,Nat.zero_add] at h1
 exact zId (e:=zAf (total (ms.take i)) i m y) h1 (by rw [zFS];exact h.nd)
end
section
open Go.RowKit
theorem zH1 (es:List EntryV) (b:Nat):∀ (l:List NamV) (mem:List ValV) (i:Nat) (v:ValV),(zB2 es b mem l)[i]?=some v→(∃ x∈l,v.k=((zAe es x.name).getD zeroE).code∨v.k=((zAe es x.name).getD zeroE).data)∨mem[i]?=some v
 | [],mem,i,v,h=>.inr h
 | x :: l,mem,i,v,h=>by
  have h':(zB2 es b (zCV es b mem x) l)[i]?=some v:=h
  rcases zH1 es b l _ i v h' with ⟨y,hy,hk⟩ | h1
  ·exact .inl ⟨y,List.mem_cons_of_mem _ hy,hk⟩
  ·have hi:i < mem.length:=by have:=(List.getElem?_eq_some_iff.1 h1).1;rwa [zCv] at this
   rw [zE6 es b mem x i hi] at h1
   split at h1
   ·injection h1 with h1;exact .inl ⟨x,by simp,.inr (by rw [←h1])⟩
   ·split at h1
    ·injection h1 with h1;exact .inl ⟨x,by simp,.inl (by rw [←h1])⟩
    ·exact .inr h1
theorem zPC {nm:ByteArray→Bool} {ms:List ModV} (h:LinkOk nm ms) {n i:Nat} {m:ModV} {v:ValV} (hm:ms[n]?=some m) (hi:i < m.code.length+m.data.length) (hv:(zAK ms)[total (ms.take n)+i]?=some v) (his:v.is=true) :
  ∃ x∈m.im,∃ n' m' y',ms[n']?=some m'∧y'∈m'.ex∧y'.name=x.name∧(v.k=(zAf (total (ms.take n')) n' m' y').code∨v.k=(zAf (total (ms.take n')) n' m' y').data):=by
 have hin:∀ m∈ms,imIn m:=fun m hm=>(h.m m hm).imIn
 have hs:=zBZ hm
 have hl:=zB8 ms (n+1)
 have hml:=zFG ms
 have a1:=zI7 (zU 0 0 ms) ms 0 (zBb ms) n i m hin hm hi (by omega)
 rw [Nat.zero_add] at a1
 unfold zAK at hv
 rw [a1] at hv
 rcases zH1 _ _ _ _ _ _ hv with ⟨x,hx,hk⟩ | h0
 ·have hn:x.name∈zAG ms:=h.im _ (List.mem_flatMap.2 ⟨m,List.mem_of_getElem? hm,List.mem_map.2 ⟨x,hx,rfl⟩⟩)
  unfold zAG at hn
  obtain ⟨m',hm',h4⟩:=List.mem_flatMap.1 hn
  obtain ⟨y',hy',e'⟩:=List.mem_map.1 h4
  obtain ⟨n',hn'⟩:=List.getElem?_of_mem hm'
  have hf:=zFC h hn' hy'
  rw [e'] at hf
  rw [hf] at hk
  exact ⟨x,hx,n',m',y',hn',hy',e',hk⟩
 ·rw [zHk ms n i m hm hi] at h0
  obtain ⟨c,_,hc⟩:=Option.map_eq_some_iff.1 h0
  rw [←hc] at his
  cases his
def zRP (ms:List ModV) (n:Nat) (k:KeyV):Prop:=∃ m,ms[n]?=some m∧((k.perm=5∧k.base=total (ms.take n)∧k.len=m.code.length)∨(k.perm=27∧k.base=total (ms.take n)+m.code.length∧k.len=m.data.length))
def zC7 (ms:List ModV) (S:Nat→Prop):Prop:=∀ n m x n' m' y,S n→ms[n]?=some m→x∈m.im→ms[n']?=some m'→y∈m'.ex→y.name=x.name→S n'
def zRM (x:EntryV):KeyV:=⟨x.data.perm,x.data.base,x.data.len,x.data.at_,0⟩
section
variable {nm:ByteArray→Bool} {ms:List ModV} {f:Nat} {m:ModV} {y:NamV} {args:List Int}
end
end
section
open Go Go.RowKit Go.Shelf
theorem zHA (ao:Option Addr) (N c0:Nat) (rs:List ModR) (ms:List ModV) (s:ByteArray) (w:World) (h:Mods w ao N rs ms) :
  Calls Tryz.prog 34 #[.slice ao N c0,.string s] w fun e w'=>∃ v:Int,e=.returned (.int .i64 v)∧((v = -1∧∀ m∈ms,∀ y∈m.ex,y.name≠s)∨∃ (n:Nat) (m:ModV) (y:NamV),v=n∧ms[n]?=some m∧y∈m.ex∧y.name=s)∧Below w.heap.size w w':=by
 have hn:=h.n
 have hmx:=h.sl.max
 unfold maxLen at hmx
 have HM:=zA h
 clear h
 go_enter Tryz.func34,Tryz.ntmps34
 go_wp2
 go_loopw [11] (fun i wr=>∃ k:Nat,k≤N∧i=.int .i64 k∧(∀ m∈ms.take k,∀ y∈m.ex,y.name≠s)∧Below w.heap.size w wr) (fun i _=>N - (intOf i).toNat)
 case atStart=>exact ⟨0,Nat.zero_le _,rfl,fun m hm=>by simp at hm,Below.refl _ _⟩
 case round =>
  obtain ⟨k,hk,rfl,hno,hb⟩:=hrel
  have HNO:=zA hno
  clear hno
  by_cases hlt:k < N
  ·have q0:(0:Int)≤k:=by omega
   have q1:(k:Int) < N:=by omega
   obtain ⟨r,m,hr,hm,hhas⟩:=HM.out.get hlt
   obtain ⟨ad,hao,hab,e0,e1,e2,e3⟩:=zDM (HM.out.sl.below hb) hlt hr
   subst hao
   obtain ⟨⟨ca,cn,cc⟩,⟨da,dn,dc⟩,⟨xa,xn,xc⟩,⟨ia,jn,ic⟩⟩:=r
   simp only at e0 e1 e2 e3
   have hxn:=hhas.ex.len
   have hxm:=hhas.ex.max
   unfold maxLen at hxm
   simp only at hxn hxm
   have htake:ms.take (k+1)=ms.take k++[m]:=by rw [List.take_add_one,hm];rfl
   obtain ⟨w6,hw6⟩:∃ w6,w6=wr.alloc (.cells #[.slice ca cn cc,.slice da dn dc,.slice xa xn xc,.slice ia jn ic] 48):=⟨_,rfl⟩
   have r6:Below wr.heap.size wr w6:=by rw [hw6];exact zG (Below.refl _ _) _
   have x6:Bk w6 wr.heap.size 48 #[.slice ca cn cc,.slice da dn dc,.slice xa xn xc,.slice ia jn ic]:=by rw [hw6];exact zM _ _ _
   obtain ⟨gx,hgx⟩:∃ gx,gx=wr.heap.size:=⟨_,rfl⟩
   rw [←hgx] at x6
   have HW6:=zA hw6
   have HGX:=zA hgx
   have X6:=zA x6
   have HB6:=zA (zI hb r6)
   have HX:=zA hhas.ex
   have HMM:=zA hm
   have HTK:=zA htake
   clear hw6 hgx x6 hb r6 hm hr hhas htake
   go_upto_region 4 with (fail)
   rw [←HW6.out,←HGX.out]
   clear e0 e1 e2 e3 HW6 HGX hab
   obtain ⟨t0,t1,t2,t3⟩:=zT X6.out
   have tL:=X6.out.lt
   go_wp2
   clear t0 t1 t2 t3 tL
   go_loopw [19] (fun i wr=>∃ j:Nat,j≤xn∧i=.int .i64 j∧(∀ y∈m.ex.take j,y.name≠s)∧Below w.heap.size w wr) (fun i _=>xn - (intOf i).toNat)
   case atStart=>exact ⟨0,Nat.zero_le _,rfl,fun y hy=>by simp at hy,HB6.out⟩
   case round =>
    obtain ⟨j,hj,rfl,hnj,hb⟩:=hrel
    have HNJ:=zA hnj
    clear hnj
    by_cases hlj:j < xn
    ·have s0:(0:Int)≤j:=by omega
     have s1:(j:Int) < xn:=by omega
     obtain ⟨y,hy⟩:∃ y,m.ex[j]?=some y:=⟨_,List.getElem?_eq_getElem (by omega)⟩
     obtain ⟨yd,hyo,hyb,f0,f1⟩:=zCK (HX.out.below hb) hlj hy
     subst hyo
     obtain ⟨w8,hw8⟩:∃ w8,w8=wr.alloc (.cells #[.string y.name,.int .i64 y.at_] 91):=⟨_,rfl⟩
     have r8:Below wr.heap.size wr w8:=by rw [hw8];exact zG (Below.refl _ _) _
     have x8:Bk w8 wr.heap.size 91 #[.string y.name,.int .i64 y.at_]:=by rw [hw8];exact zM _ _ _
     obtain ⟨gy,hgy⟩:∃ gy,gy=wr.heap.size:=⟨_,rfl⟩
     rw [←hgy] at x8
     have HW8:=zA hw8
     have HGY:=zA hgy
     have X8:=zA x8
     have HB8:=zA (zI hb r8)
     have HY:=zA hy
     clear hw8 hgy x8 hb r8 hy
     go_upto_region 7 with (fail)
     rw [←HW8.out,←HGY.out]
     clear f0 f1 hyb HW8 HGY
     obtain ⟨k0,k1⟩:=zBQ X8.out
     have kL:=X8.out.lt
     by_cases hys:y.name=s
     ·have f:(y.name.toList==s.toList)=true:=by simp [hys]
      have HYS:=zA hys
      clear hys
      go_wp2
      go_ret
      exact ⟨k,rfl,.inr ⟨k,m,y,rfl,HMM.out,List.mem_of_getElem? HY.out,HYS.out⟩,HB8.out⟩
     ·have f:(y.name.toList==s.toList)=false:=beq_eq_false_iff_ne.2 fun e=>hys (name_eq.1 e)
      have hnx:∀ z∈m.ex.take (j+1),z.name≠s:=by
       rw [List.take_add_one,HY.out]
       intro z hz
       rcases List.mem_append.1 hz with h | h
       ·exact HNJ.out z h
       ·obtain rfl:z=y:=by simpa using h
        exact hys
      have HNX:=zA hnx
      clear hys hnx
      go_wp2
      go_roundw
      case rel=>exact ⟨j+1,by omega,by go_num,HNX.out,HB8.out⟩
      case measure=>simp [intOf];try omega
    ·have s1:¬((j:Int) < xn):=by omega
     have HB8:=zA hb
     clear hb
     go_wp2
     go_roundw
     case rel =>
      refine ⟨k+1,by omega,by go_num,?_,HB8.out⟩
      rw [HTK.out]
      intro m' hm' y hy
      rcases List.mem_append.1 hm' with h | h
      ·exact HNO.out m' h y hy
      ·obtain rfl:m'=m:=by simpa using h
       have:=HNJ.out
       rw [List.take_of_length_le (by omega)] at this
       exact this y hy
     case measure=>simp [intOf];try omega
  ·have q1:¬((k:Int) < N):=by omega
   have HB6:=zA hb
   clear hb
   have hno:=HNO.out
   rw [List.take_of_length_le (by omega)] at hno
   have HN:=zA hno
   clear hno
   go_wp2
   go_ret
   exact ⟨-1,rfl,.inl ⟨rfl,HN.out⟩,HB6.out⟩
theorem zJU (w:World) (n:Int) (T:TypeId):Sl (w.alloc (.cells #[.int .i64 n] T)) (some ⟨w.heap.size,0,none⟩) 1 [n]:=by
 have h0:=zBY (xs:=[n]) w T 0 (Nat.zero_le _) #[.int .i64 n] 1 rfl (by decide) rfl
 obtain ⟨ao,c,e,h,_⟩:=h0.sl
 injection e with e _ _
 subst e
 simpa using h
theorem zIE {ms:List ModV} (h:LinkOk zR ms) {n n':Nat} {m m':ModV} {y y':NamV} (hm:ms[n]?=some m) (hy:y∈m.ex) (hm':ms[n']?=some m') (hy':y'∈m'.ex) (e:y.name=y'.name):n=n':=by
 have h1:=zFC h hm hy
 have h2:=zFC h hm' hy'
 rw [e,h2] at h1
 injection h1 with h1
 have h3:=congrArg (fun e:EntryV=>e.code.seal_) h1
 simp only [zAf] at h3
 omega
def zPK (w:World) (ms:List ModV) (f:Nat) (e:Ending) (w':World):Prop :=
 ∃ v nl,e=.returned v∧Own w' w.heap.size 3 v nl∧NearSt ms f nl∧Cov0 ms nl nl.length∧Below w.heap.size w w'
theorem zM8 (ao:Option Addr) (N c0:Nat) (rs:List ModR) (ms:List ModV) (f:Nat) (w:World) (h:Mods w ao N rs ms) (hf:f < N) (hlk:LinkOk zR ms) :
  Calls Tryz.prog 35 #[.slice ao N c0,.int .i64 f] w (zPK w ms f):=by
 have hn:=h.n
 have h8:N≤8:=by have:=hlk.l;omega
 obtain ⟨i0,hi0,hz0,hz1,hz2⟩:=info_parts zFJ
 have hst:=zLk (ms:=ms) (f:=f) (by omega)
 obtain ⟨w1,hw1⟩:∃ w1,w1=w.alloc (.cells #[.int .i64 f] 3):=⟨_,rfl⟩
 obtain ⟨g1,hg1⟩:∃ g,g=w.heap.size:=⟨_,rfl⟩
 have o1:Own w1 w.heap.size 3 (.slice (some ⟨g1,0,none⟩) 1 1) [(f:Int)]:=by rw [hw1,hg1];exact zBY (xs:=[(f:Int)]) w 3 w.heap.size (Nat.le_refl _) #[.int .i64 f] 1 rfl (by decide) rfl
 have b1:Below w.heap.size w w1:=by rw [hw1];exact zG (Below.refl _ _) _
 have HM:=zA h
 have HLK:=zA hlk
 have HST:=zA hst
 have HW1:=zA hw1
 have HG1:=zA hg1
 have O1:=zA o1
 have B1:=zA b1
 clear h hst hw1 hg1 o1 b1 hlk
 go_enter Tryz.func35,Tryz.ntmps35
 go_upto_region 2 with (fail)
 try rw [←HG1.out]
 rw [←HW1.out]
 clear HW1 HG1
 go_wp2
 go_loopw [5,6] (fun v i wr=>∃ (k:Nat) (nl:List Int),k≤nl.length∧i=.int .i64 k∧Own wr w.heap.size 3 v nl∧NearSt ms f nl∧Cov0 ms nl k∧Below w.heap.size w wr) (fun _ i _=>N - (intOf i).toNat)
 case atStart=>exact ⟨0,[(f:Int)],Nat.zero_le _,rfl,O1.out,HST.out,fun i c m hi=>by omega,B1.out⟩
 case round =>
  obtain ⟨k,nl,hk,rfl,ho,hst,hc0,hb⟩:=hrel
  have hlen:=hst.len
  obtain ⟨va,vn,vc,rfl⟩:=zZ ho
  have hvn:vn=nl.length:=by
   obtain ⟨a',c',e,hs,_⟩:=ho.sl
   injection e with _ e _
  clear O1 B1 HST
  by_cases hlt:k < vn
  ·have q0:(0:Int)≤k:=by omega
   have q1:(k:Int) < vn:=by omega
   obtain ⟨cv,hcv⟩:∃ cv,nl[k]?=some cv:=⟨_,List.getElem?_eq_getElem (by omega)⟩
   obtain ⟨c,hcN,rfl⟩:=hst.rng cv (List.mem_of_getElem? hcv)
   have hsl:Sl wr va vn nl:=by
    obtain ⟨a',c',e,hs,_⟩:=ho.sl
    injection e with e1 e2 e3
    subst e1 e2
    exact hs
   obtain ⟨vd,hvo,hvb,f0⟩:=zCM hsl hlt hcv
   subst hvo
   have hcN':c < N:=by omega
   obtain ⟨r,m,hr,hm,hhas⟩:=HM.out.get hcN'
   obtain ⟨ad,hao,hab,e0,e1,e2,e3⟩:=zDM (HM.out.sl.below hb) hcN' hr
   subst hao
   obtain ⟨⟨ca,cn,cc⟩,⟨da,dn,dc⟩,⟨xa,xn,xc⟩,⟨ia,jn,ic⟩⟩:=r
   simp only at e0 e1 e2 e3
   have hjn:=hhas.im.len
   have hjm:=hhas.im.max
   unfold maxLen at hjm
   simp only at hjn hjm
   have c0_:(0:Int)≤c:=by omega
   have c1_:(c:Int) < N:=by omega
   have HV:=zA hvn
   have HO:=zA ho
   have HST:=zA hst
   have HC0:=zA hc0
   have HB:=zA hb
   have HCV:=zA hcv
   have HMM:=zA hm
   have HI:=zA hhas.im
   have hkl:k < nl.length:=by omega
   have HKL:=zA hkl
   clear ho hst hc0 hb hsl hcv hm hr hhas hvn hkl hk hlen
   go_wp2
   clear e0 e1 e2 e3 f0 hvb hab
   go_loopw [5,27] (fun v i wr=>∃ (a:Nat) (nl:List Int),a≤jn∧i=.int .i64 a∧Own wr w.heap.size 3 v nl∧NearSt ms f nl∧Cov0 ms nl k∧k < nl.length∧nl[k]?=some (c:Int)∧Cov1 ms nl (m.im.take a)∧Below w.heap.size w wr) (fun _ i _=>jn - (intOf i).toNat)
   case atStart=>exact ⟨0,nl,Nat.zero_le _,rfl,HO.out,HST.out,HC0.out,HKL.out,HCV.out,(fun x hx=>by simp at hx),HB.out⟩
   case round =>
    obtain ⟨a,nl,ha,rfl,ho,hst,hc0,hkl,hcv,hc1,hb⟩:=hrel
    obtain ⟨va,vn,vc,rfl⟩:=zZ ho
    have HO:=zA ho
    have HST:=zA hst
    have HC0:=zA hc0
    have HKL:=zA hkl
    have HCV:=zA hcv
    have HC1:=zA hc1
    by_cases hla:a < jn
    ·have s0:(0:Int)≤a:=by omega
     have s1:(a:Int) < jn:=by omega
     obtain ⟨x,hx⟩:∃ x,m.im[a]?=some x:=⟨_,List.getElem?_eq_getElem (by omega)⟩
     obtain ⟨yd,hyo,hyb,f0,f1⟩:=zCK (HI.out.below hb) hla hx
     subst hyo
     obtain ⟨w8,hw8⟩:∃ w8,w8=wr.alloc (.cells #[.string x.name,.int .i64 x.at_] 93):=⟨_,rfl⟩
     have r8:Below wr.heap.size wr w8:=by rw [hw8];exact zG (Below.refl _ _) _
     have x8:Bk w8 wr.heap.size 93 #[.string x.name,.int .i64 x.at_]:=by rw [hw8];exact zM _ _ _
     obtain ⟨g8,hg8⟩:∃ g,g=wr.heap.size:=⟨_,rfl⟩
     rw [←hg8] at x8
     have HW8:=zA hw8
     have HG8:=zA hg8
     have X8:=zA x8
     have HB8:=zA (zI hb r8)
     have HO8:=zA (ho.below r8)
     have HX:=zA hx
     clear hw8 hg8 x8 hb r8 hx ho hst hc0 hkl hcv hc1 HO
     go_upto_region 8 with (fail)
     try rw [←HG8.out]
     rw [←HW8.out]
     clear f0 f1 hyb HW8 HG8
     obtain ⟨k0,k1⟩:=zBQ X8.out
     have kL:=X8.out.lt
     have OW:=zA (zHA (some ad) N c0 rs ms x.name w8 (HM.out.below HB8.out))
     go_upto_region 9 with (go_at_call 34;((with_reducible refine (OW.out).mono ?_);rintro e w9 ⟨v,rfl,hv,hb9⟩;have HVV:=zA hv;have HB9:=zA (zI HB8.out hb9);have HO9:=zA (HO8.out.below hb9);clear hv hb9))
     clear k0 k1 kL
     rcases HVV.out with ⟨rfl,hno⟩ | ⟨n,m',y,rfl,hm',hy,hnm⟩
     ·have hws:Wish ms nl x ms.length:=fun n' m' y _ h1 h2 h3=>absurd h3 (hno m' (List.mem_of_getElem? h1) y h2)
      have HC1':=zA (zFx HX.out HC1.out hws)
      have q5:¬((0:Int) ≤ -1):=by decide
      clear hno hws
      go_wp2
      go_roundw
      case rel=>exact ⟨a+1,nl,by omega,by go_num,HO9.out,HST.out,HC0.out,HKL.out,HCV.out,HC1'.out,HB9.out⟩
      case measure=>simp [intOf];try omega
     ·have hwish:∀ nl',(n:Int)∈nl'→Wish ms nl' x ms.length:=fun nl' hin n' m'' y' _ h1 h2 h3=>by
       obtain rfl:=zIE HLK.out h1 h2 hm' hy (h3.trans hnm.symm)
       exact hin
      have hnl:n < ms.length:=(List.getElem?_eq_some_iff.1 hm').1
      have q5:(0:Int)≤(n:Int):=by omega
      have hsl:Sl w9 va vn nl:=by
       obtain ⟨a',c',e,hs,_⟩:=HO9.out.sl
       injection e with e1 e2 e3
       subst e1 e2
       exact hs
      have hsn:=zGB va vn vc nl (n:Int) w9 hsl
      have HWI:=zA hwish
      clear hwish hm' hy hnm hsl
      by_cases hin:(n:Int)∈nl
      ·simp only [hin,decide_true] at hsn
       have HSN:=zA hsn
       have HC1':=zA (zFx HX.out HC1.out (HWI.out nl hin))
       clear hsn hin
       go_wp2_with (go_at_call 11;((with_reducible refine (HSN.out).mono ?_);rintro e w' ⟨rfl,rfl⟩))
       go_roundw
       case rel=>exact ⟨a+1,nl,by omega,by go_num,HO9.out,HST.out,HC0.out,HKL.out,HCV.out,HC1'.out,HB9.out⟩
       case measure=>simp [intOf];try omega
      ·simp only [hin,decide_false] at hsn
       have HSN:=zA hsn
       have hst':=HST.out.snoc (n:=n) (by omega) hin
       have hc1':=zFx HX.out (HC1.out.more (v:=(n:Int))) (HWI.out (nl++[(n:Int)]) (by simp))
       have hkn:k < (nl++[(n:Int)]).length:=by have:=HKL.out;rw [List.length_append];omega
       have hcv':(nl++[(n:Int)])[k]?=some (c:Int):=by rw [List.getElem?_append_left HKL.out];exact HCV.out
       have hc0':=HC0.out.more (v:=(n:Int)) (Nat.le_of_lt HKL.out)
       have hnl2:=HST.out.len
       have c63:nl.length+1≤maxLen:=by unfold maxLen;omega
       have c47:(nl.length+1)*8≤140737488355328:=by omega
       have hla':=zJU w9 n 3
       have hva:=HO9.out.alloc (.cells #[.int .i64 n] 3)
       have hsb:w.heap.size≤(w9.alloc (.cells #[.int .i64 n] 3)).heap.size:=by have:=HB9.out.size;simp;omega
       have HST':=zA hst'
       have HC1':=zA hc1'
       have HKN:=zA hkn
       have HCV':=zA hcv'
       have HC0':=zA hc0'
       have C63:=zA c63
       have C47:=zA c47
       have HLA:=zA hla'
       have HVA:=zA hva
       have HSB:=zA hsb
       clear hsn hst' hc1' hkn hcv' hc0' c63 c47 hla' hva hsb hin hnl2
       go_wp2_with (first
        | (go_at_call 11;((with_reducible refine (HSN.out).mono ?_);rintro e w' ⟨rfl,rfl⟩))
        | (at_builtin;refine zY rfl (.tmp 43) (.tmp 45) 36 rfl w.heap.size 3 i0 _ 8 Tryz.underlying36 hi0 hz0 hz1 hz2 rfl (.slice va vn vc) nl rfl HVA.out (some ⟨w9.heap.size,0,none⟩) 1 1 [(n:Int)] rfl HLA.out C63.out C47.out HSB.out ?_;intro v9 w10 hown9 hgr9 hat9;have HO10:=zA hown9;have HG9:=zA hgr9;clear hown9 hgr9 hat9))
       go_roundw
       case rel =>
        have a12:Below w9.heap.size w9 (w9.alloc (.cells #[.int .i64 n] 3)):=zG (Below.refl _ _) _
        exact ⟨a+1,nl++[(n:Int)],by omega,by go_num,HO10.out,HST'.out,HC0'.out,HKN.out,HCV'.out,HC1'.out,(zI HB9.out a12).grown HG9.out HSB.out (fun i e=>(World.ownsRow.lt HVA.out i e).1)⟩
       case measure=>simp [intOf];try omega
    ·have s1:¬((a:Int) < jn):=by omega
     have hc1':=HC1.out
     rw [List.take_of_length_le (by omega)] at hc1'
     have HC0':=zA (zNq HCV.out HMM.out HC0.out hc1')
     have hk1:=HKL.out
     have hk2:=HST.out.len
     have hkb:(k:Int) < N:=by omega
     have HB8:=zA hb
     clear hc1' hb ho hst hc0 hkl hcv hc1 hk1 hk2
     go_wp2
     go_roundw
     case rel=>exact ⟨k+1,nl,HKL.out,by go_num,HO.out,HST.out,HC0'.out,HB8.out⟩
     case measure=>simp [intOf];omega
  ·have q1:¬((k:Int) < vn):=by omega
   obtain rfl:k=nl.length:=by omega
   have HO:=zA ho
   have HST:=zA hst
   have HC0:=zA hc0
   have HB:=zA hb
   clear ho hst hc0 hb hvn
   go_wp2
   go_ret
   exact ⟨_,nl,rfl,HO.out,HST.out,HC0.out,HB.out⟩
end
section
open Go Go.ChangeShapes Go.WideShapes Go.ChangeAt Go.RowKit
theorem jfA:(Rows.topAloneRow.inPlace==Tryz.pinned.checked.prog.inPlace 3)=true:=by kernel_rfl
theorem jfB:(Rows.topAloneRow.unfollowed==Tryz.pinned.checked.prog.unfollowed 3)=true:=by kernel_rfl
theorem jfC:(Rows.topAloneRow.recurses==Tryz.pinned.checked.prog.recurses 3)=true:=by kernel_rfl
theorem jfD:(Rows.topAloneRow.named==Tryz.pinned.checked.prog.varsNamed 3)=true:=by kernel_rfl
theorem jf:joinedFacts Tryz.pinned.checked.prog 3 Tryz.f3 (OpenSpec.ofChange Rows.topAloneSpec).bare Rows.topAloneRow=true:=by
 unfold joinedFacts
 rw [jfA,jfB,jfC,jfD]
 kernel_rfl
end
end Go.Proofs.YtlpejagkadalbaaGreatDoor
