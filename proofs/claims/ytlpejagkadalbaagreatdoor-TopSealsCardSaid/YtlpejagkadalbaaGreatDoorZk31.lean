import Derived.Test.YtlpejagkadalbaaGreatDoorZk30
import Derived.Test.YtlpejagkadalbaaGreatDoorCards
import Derived.Test.YtlpejagkadalbaaGreatDoorTie
import Derived.Lib.Join
import Derived.Deep.DeepLaidRun
import Derived.Deep.DeepWitnessRowRef
import Derived.LaidMore
import Derived.Stop.LaidErr
set_option maxHeartbeats 40000000
set_option maxRecDepth 100000
set_option linter.unusedVariables false
set_option linter.unusedSimpArgs false
namespace Go.Proofs.YtlpejagkadalbaaGreatDoor
section
open Go Go.RowKit
def ba (l:List UInt8):ByteArray:=⟨l.toArray⟩
theorem zCG (s:ByteArray):ba s.data.toList=s:=ByteArray.ext (by simp [ba])
structure HoleV where
 line:Int
 at_:Int
 i:InstV
 name:ByteArray
structure RdV where
 code:List Int
 labels:List NamV
 holes:List HoleV
def rd0:RdV:=⟨[],[],[]⟩
def zBe (l:List NamV) (s:ByteArray):Int :=
 match l.find? (fun x=>decide (x.name=s)) with
 | some x=>x.at_
 | none => -1
def zBa (r:RdV) (s:ByteArray):RdV×Int :=
 if zW s=false then (r,3) else if 0≤zBe r.labels s then (r,8) else if r.labels.length=20 then (r,9)
 else (⟨r.code,r.labels++[⟨s,r.code.length⟩],r.holes⟩,0)
def zB7:List UInt8:=[119,111,114,100,32]
def zAy (s:List UInt8):Int:=Lib.lastIndexByte (ba s) 32
def zAw (s:List UInt8):InstV×Int:=zAG (s.take (zAy s).toNat++[32,48])
def zA9 (s:List UInt8):ByteArray:=ba (s.drop ((zAy s).toNat+1))
def zBP (s:List UInt8):Bool:=decide (0≤zAy s)&&zW (zA9 s)&&decide ((zAw s).2=0)&&(decide ((zAw s).1.op=8)||decide ((zAw s).1.op=9))
def zGL (l:List UInt8):Bool:=decide (Lib.atoiAll l=.ok (atoiV l))&&decide (Lib.itoa (atoiV l)=l)&&zAs (atoiV l)
def zAH (r:RdV) (n:Int) (s:List UInt8):RdV×Int :=
 if Lib.hasPrefix s zB7=true then
  if zGL (s.drop 5)=true then (⟨r.code++[atoiV (s.drop 5)],r.labels,r.holes⟩,0) else (r,3)
 else if zBP s=true then (⟨r.code++[0],r.labels,r.holes++[⟨n,r.code.length,(zAw s).1,zA9 s⟩]⟩,0)
 else if (zAG s).2=0 then (⟨r.code++[zBC (zAG s).1],r.labels,r.holes⟩,0) else (r,3)
def zAW (r:RdV) (n:Int) (s:List UInt8):RdV×Int :=
 if 80 < s.length then (r,2)
 else if Lib.hasSuffix s [58]=true then zBa r (ba (Lib.trimSuffix s [58]))
 else if s=[] then (r,0)
 else zAH r n s
def zX (r:RdV) (n:Nat):List (List UInt8)→RdV×Int×Int
 | []=>(r,0,0)
 | s::l=>if (zAW r (n+1) s).2=0 then zX (zAW r (n+1) s).1 (n+1) l else ((zAW r (n+1) s).1,n+1,(zAW r (n+1) s).2)
def HoleV.filled (h:HoleV) (labels:List NamV):InstV:=⟨h.i.op,h.i.a,h.i.b,zBe labels h.name - h.at_⟩
def zAY (labels:List NamV) (code:List Int):List HoleV→List Int×Int×Int
 | []=>(code,0,0)
 | h::l=>if zBe labels h.name < 0 then (code,h.line,7)
  else if zAE (h.filled labels)=true then zAY labels (code.set h.at_.toNat (zBC (h.filled labels))) l else (code,h.line,13)
structure ReadV where
 code:List Int
 labels:List NamV
 line:Int
 er:Int
def zEQ (text:List UInt8):ReadV :=
 if 150 < (splitC 10 text).length then ⟨[],[],0,2⟩
 else if (zX rd0 0 (splitC 10 text)).2.2≠0 then ⟨[],[],(zX rd0 0 (splitC 10 text)).2.1,(zX rd0 0 (splitC 10 text)).2.2⟩
 else
  if (zAY (zX rd0 0 (splitC 10 text)).1.labels (zX rd0 0 (splitC 10 text)).1.code (zX rd0 0 (splitC 10 text)).1.holes).2.2≠0 then ⟨[],[],(zAY (zX rd0 0 (splitC 10 text)).1.labels (zX rd0 0 (splitC 10 text)).1.code (zX rd0 0 (splitC 10 text)).1.holes).2.1,(zAY (zX rd0 0 (splitC 10 text)).1.labels (zX rd0 0 (splitC 10 text)).1.code (zX rd0 0 (splitC 10 text)).1.holes).2.2⟩
  else ⟨(zAY (zX rd0 0 (splitC 10 text)).1.labels (zX rd0 0 (splitC 10 text)).1.code (zX rd0 0 (splitC 10 text)).1.holes).1,(zX rd0 0 (splitC 10 text)).1.labels,0,0⟩
theorem zBl (r:RdV) (n:Nat) (s:List UInt8) (l:List (List UInt8)):zX r n (s::l)=if (zAW r (n+1) s).2=0 then zX (zAW r (n+1) s).1 (n+1) l else ((zAW r (n+1) s).1,n+1,(zAW r (n+1) s).2):=rfl
theorem zB2 (labels:List NamV) (code:List Int) (h:HoleV) (l:List HoleV):zAY labels code (h::l)=if zBe labels h.name < 0 then (code,h.line,7) else if zAE (h.filled labels)=true then zAY labels (code.set h.at_.toNat (zBC (h.filled labels))) l else (code,h.line,13):=rfl
theorem zGx:∀ (a b:List (List UInt8)) (r:RdV) (n:Nat),(zX r n a).2.2=0→zX r n (a++b)=zX (zX r n a).1 (n+a.length) b
 | [],b,r,n,_=>rfl
 | s::a,b,r,n,h=>by
  rw [List.cons_append,zBl,zBl]
  rw [zBl] at h
  by_cases h0:(zAW r (n+1) s).2=0
  ·rw [if_pos h0] at h
   rw [if_pos h0,if_pos h0,zGx a b _ _ h,List.length_cons]
   congr 1;omega
  ·rw [if_neg h0] at h
   exact absurd h h0
theorem zGw:∀ (a b:List (List UInt8)) (r:RdV) (n:Nat),(zX r n a).2.2≠0→zX r n (a++b)=zX r n a
 | [],b,r,n,h=>absurd rfl h
 | s::a,b,r,n,h=>by
  rw [List.cons_append,zBl,zBl]
  rw [zBl] at h
  by_cases h0:(zAW r (n+1) s).2=0
  ·rw [if_pos h0] at h
   rw [if_pos h0,if_pos h0,zGw a b _ _ h]
  ·rw [if_neg h0,if_neg h0]
end
section
open El (cl)
open Go Go.RowKit
instance:El HoleV where
 k:=7
 cl x:=[.int .i64 x.line,.int .i64 x.at_,.int .i64 x.i.op,.int .i64 x.i.a,.int .i64 x.i.b,.int .i64 x.i.c,.string x.name]
 z:=⟨0,0,zCf,ByteArray.empty⟩
 len _:=rfl
 one _:=by intro u hu;simp at hu;rcases hu with rfl | rfl | rfl | rfl | rfl | rfl | rfl<;>rfl
 pos:=by decide
instance:Inhabited HoleV:=⟨⟨0,0,zCf,ByteArray.empty⟩⟩
theorem zBz (a:Addr) (i j:Nat) (hj:0 < j):a.add (i+j)=⟨(a.add i).block,(a.add i).off+j,none⟩:=by
 unfold Addr.add
 rw [if_neg (by omega)]
 by_cases hi:i=0
 ·subst hi;simp
 ·rw [if_neg hi];simp [Nat.add_assoc]
theorem zLp {w:World} {ao:Option Addr} {n:Nat} {ks:List HoleV} (h:Sl w ao n ks) {i:Nat} (hi:i < n) {x:HoleV} (hx:ks[i]?=some x):∃ a,ao=some a∧(a.add (i*7)).block < w.heap.size ∧
  w.cell? (a.add (i*7))=some (.int .i64 x.line)∧w.cell? ⟨(a.add (i*7)).block,(a.add (i*7)).off+1,none⟩=some (.int .i64 x.at_)∧w.cell? ⟨(a.add (i*7)).block,(a.add (i*7)).off+2,none⟩=some (.int .i64 x.i.op)∧w.cell? ⟨(a.add (i*7)).block,(a.add (i*7)).off+3,none⟩=some (.int .i64 x.i.a)∧w.cell? ⟨(a.add (i*7)).block,(a.add (i*7)).off+4,none⟩=some (.int .i64 x.i.b)∧w.cell? ⟨(a.add (i*7)).block,(a.add (i*7)).off+5,none⟩=some (.int .i64 x.i.c)∧w.cell? ⟨(a.add (i*7)).block,(a.add (i*7)).off+6,none⟩=some (.string x.name):=by
 obtain ⟨a,y,e,hb,hy,hc⟩:=h.at hi
 obtain rfl:y=x:=by rw [hx] at hy;injection hy with hy;exact hy.symm
 refine ⟨a,e,by rw [zBH];exact hb,?_⟩
 rw [←zBz a (i*7) 1 (by decide),←zBz a (i*7) 2 (by decide),←zBz a (i*7) 3 (by decide),←zBz a (i*7) 4 (by decide),←zBz a (i*7) 5 (by decide),←zBz a (i*7) 6 (by decide)]
 exact ⟨hc 0 _ rfl,hc 1 _ rfl,hc 2 _ rfl,hc 3 _ rfl,hc 4 _ rfl,hc 5 _ rfl,hc 6 _ rfl⟩
structure RdSt (g:Nat) (r:RdV) (vc vl vh:Value) (W:World):Prop where
 b:Bk W g 176 #[vc,vl,vh]
 c:Own W g 3 vc r.code
 l:Own W g 91 vl r.labels
 h:Own W g 181 vh r.holes
section
variable {g:Nat} {r:RdV} {vc vl vh u:Value} {w W W':World}
theorem RdSt.below (h:RdSt g r vc vl vh W) (hb:Below W.heap.size W W'):RdSt g r vc vl vh W':=⟨zH hb h.b,h.c.below hb,h.l.below hb,h.h.below hb⟩
theorem RdSt.drew (h:RdSt g r vc vl vh W):RdSt g r vc vl vh W.drew:=h.below (zJ (Below.refl _ _))
theorem RdSt.setC {C:List Int} (h:RdSt g r vc vl vh W) (hg:W.grownBy W' vc.ownBlock) (ho:Own W' g 3 u C):RdSt g ⟨C,r.labels,r.holes⟩ u vl vh (W'.setCell ⟨g,0,none⟩ u):=by
 have hb:=zAR h.b h.c (by decide) hg
 exact ⟨zT hb rfl,zAS ho hb (by decide) _ _,zAS (zAr h.l h.c (by decide) hg) hb (by decide) _ _,zAS (zAr h.h h.c (by decide) hg) hb (by decide) _ _⟩
theorem RdSt.setL {L:List NamV} (h:RdSt g r vc vl vh W) (hg:W.grownBy W' vl.ownBlock) (ho:Own W' g 91 u L):RdSt g ⟨r.code,L,r.holes⟩ vc u vh (W'.setCell ⟨g,1,none⟩ u):=by
 have hb:=zAR h.b h.l (by decide) hg
 exact ⟨zT hb rfl,zAS (zAr h.c h.l (by decide) hg) hb (by decide) _ _,zAS ho hb (by decide) _ _,zAS (zAr h.h h.l (by decide) hg) hb (by decide) _ _⟩
theorem RdSt.setH {H:List HoleV} (h:RdSt g r vc vl vh W) (hg:W.grownBy W' vh.ownBlock) (ho:Own W' g 181 u H):RdSt g ⟨r.code,r.labels,H⟩ vc vl u (W'.setCell ⟨g,2,none⟩ u):=by
 have hb:=zAR h.b h.h (by decide) hg
 exact ⟨zT hb rfl,zAS (zAr h.c h.h (by decide) hg) hb (by decide) _ _,zAS (zAr h.l h.h (by decide) hg) hb (by decide) _ _,zAS ho hb (by decide) _ _⟩
theorem RdSt.under {α:Type} [El α] {T:TypeId} {v:Value} {xs:List α} (ho:Own W g T v xs) (hb:Below g w W) (hgs:g≤W.heap.size) (hg:W.grownBy W' v.ownBlock) (i:Nat) (x:Value):Below g w (W'.setCell ⟨g,i,none⟩ x):=by
 have h1:Below g w W':=hb.grown hg hgs (fun k e=>(zBr ho e).1)
 exact h1.grown (zAb W' g i x) (Nat.le_trans hgs hg.size) (fun k e=>by injection e with e;omega)
end
def zBj (g:Nat) (w:World) (r:RdV) (er:Int) (e:Ending) (w':World):Prop:=e=.returned (.int .i64 er)∧(∃ vc vl vh,RdSt g r vc vl vh w')∧Below g w w'
theorem zNu {l:List NamV} {s:ByteArray} {k:Nat} {x:NamV} (hx:l[k]?=some x) (hs:x.name=s) (hn:∀ y∈l.take k,y.name≠s):zBe l s=x.at_:=by
 obtain ⟨hk,e⟩:=List.getElem?_eq_some_iff.1 hx
 have e0:l=l.take k++x::l.drop (k+1):=by rw [←e,←List.drop_eq_getElem_cons hk,List.take_append_drop]
 have h0:(l.take k).find? (fun x=>decide (x.name=s))=none:=List.find?_eq_none.2 fun y hy=>by simpa using hn y hy
 unfold zBe
 rw [e0,List.find?_append,h0]
 simp [hs]
theorem zNr {l:List NamV} {s:ByteArray} (hn:∀ y∈l,y.name≠s):zBe l s = -1:=by
 unfold zBe
 rw [List.find?_eq_none.2 fun y hy=>by simpa using hn y hy]
theorem zNA {l:List NamV} {s:ByteArray} {k:Nat} {x:NamV} (hx:l[k]?=some x) (hs:x.name≠s) (hn:∀ y∈l.take k,y.name≠s):∀ y∈l.take (k+1),y.name≠s:=by
 intro y hy
 rw [List.take_add_one,hx] at hy
 rcases List.mem_append.1 hy with h | h
 ·exact hn y h
 ·simp at h;subst h;exact hs
theorem zF3:(Tryz.prog.info? 181).map (fun i=>(i.zero,i.size,i.bytes))=some (some (.agg #[.int .i64 0,.int .i64 0,.int .i64 0,.int .i64 0,.int .i64 0,.int .i64 0,.string ⟨#[]⟩]),7,64):=by kernel_rfl
theorem zIu:(Tryz.prog.info? 91).map (fun i=>(i.zero,i.size,i.bytes))=some (some (.agg #[.string ⟨#[]⟩,.int .i64 0]),2,24):=by kernel_rfl
theorem zD3 (g:Nat) (r:RdV) (vc vl vh:Value) (s:ByteArray) (w:World) (h:RdSt g r vc vl vh w) :
  Calls Tryz.prog 88 #[.pointer (some ⟨g,0,none⟩),.string s] w fun e w'=>e=.returned (.int .i64 (zBe r.labels s))∧Below w.heap.size w w':=by
 obtain ⟨la,lc,rfl,hsl,_⟩:=h.l.sl
 obtain ⟨c0,c1,c2⟩:=zAP h.b
 have gL:=h.b.lt
 obtain ⟨l,hl⟩:∃ l,r.labels=l:=⟨_,rfl⟩
 rw [hl] at hsl c1 ⊢
 obtain ⟨n,hn⟩:∃ n,l.length=n:=⟨_,rfl⟩
 rw [hn] at hsl c1
 have hm:=hsl.max
 unfold maxLen at hm
 have HS:=zA hsl
 have HN:=zA hn
 clear hsl hn hl h
 go_enter Tryz.func88,Tryz.ntmps88
 go_wp2
 clear c0 c1 c2 gL
 go_loopw [12] (fun i wr=>∃ k:Nat,k≤n∧i=.int .i64 k∧(∀ y∈l.take k,y.name≠s)∧Below w.heap.size w wr) (fun i _=>n - (intOf i).toNat)
 case atStart=>exact ⟨0,Nat.zero_le _,rfl,by simp,Below.refl _ _⟩
 case round =>
  obtain ⟨k,hk,rfl,hno,hb⟩:=hrel
  have HNO:=zA hno
  have HB:=zA hb
  clear hno hb
  by_cases hlt:k < n
  ·have q0:(0:Int)≤k:=by omega
   have q1:(k:Int) < n:=by omega
   obtain ⟨x,hx⟩:∃ x,l[k]?=some x:=⟨_,List.getElem?_eq_getElem (by have:=HN.out;omega)⟩
   obtain ⟨ad,hao,hab,e0,e1⟩:=zCa (HS.out.below HB.out) hlt hx
   subst hao
   have HX:=zA hx
   clear hx
   by_cases he:x.name=s
   ·have f:(x.name.toList==s.toList)=true:=by simp [he]
    have hfa:=zNu HX.out he HNO.out
    have HFA:=zA hfa
    clear he hfa
    go_wp2
    go_ret
    exact ⟨zBR HFA.out.symm,zG HB.out _⟩
   ·have f:(x.name.toList==s.toList)=false:=beq_eq_false_iff_ne.2 fun e=>he (name_eq.1 e)
    have hfn:=zNA HX.out he HNO.out
    have HFN:=zA hfn
    clear he hfn
    go_wp2
    go_roundw
    case rel=>exact ⟨k+1,by omega,by go_num,HFN.out,zG HB.out _⟩
    case measure=>simp [intOf];omega
  ·have q1:¬((k:Int) < n):=by omega
   have hfn:zBe l s = -1:=zNr fun y hy=>HNO.out y (by rw [List.take_of_length_le (by have:=HN.out;omega)];exact hy)
   have HFN:=zA hfn
   clear hfn
   go_wp2
   go_ret
   exact ⟨zBR HFN.out.symm,HB.out⟩
end
section
open Go Go.RowKit Go.Shelf
theorem zEi {G:Prop} (h:∃ T:Prop,T∧(T→G)):G:=h.elim fun T hT=>hT.2 hT.1
theorem zAt {g:Nat} {w w':World} {r:RdV} {er er':Int} {vc vl vh:Value} (h:RdSt g r vc vl vh w') (hb:Below g w w') (he:er=er'):zBj g w r er' (.returned (.int .i64 er)) w':=⟨by rw [he],⟨vc,vl,vh,h⟩,hb⟩
theorem RdSt.gle {g:Nat} {r:RdV} {vc vl vh:Value} {w:World} (h:RdSt g r vc vl vh w):g≤w.heap.size:=Nat.le_of_lt h.b.lt
theorem zJd (g:Nat) (r:RdV) (vc vl vh:Value) (s:ByteArray) (w:World) (h:RdSt g r vc vl vh w) (hs:s.size≤9223372036854775807) (hn1:r.code.length≤1000) (hn2:r.labels.length≤1000) :
  Calls Tryz.prog 103 #[.pointer (some ⟨g,0,none⟩),.string s] w (zBj g w (zBa r s).1 (zBa r s).2):=by
 have isn:=fun W=>zBO s hs W
 have gL:=h.b.lt
 have gS:=h.gle
 have ST:=zA h
 have ISN:=zA isn
 clear h isn
 cases h1:zW s
 ·have e:zBa r s=(r,3):=by unfold zBa;rw [if_pos h1]
  rw [e]
  simp only [h1] at ISN
  clear h1 e
  go_enter Tryz.func103,Tryz.ntmps103
  go_wp2_with (go_at_call 46;((with_reducible refine (ISN.out _).mono ?_);rintro e w1 ⟨rfl,hb1⟩;have S1:=zA (ST.out.below hb1);have HB1:=zA hb1;clear hb1))
  go_ret
  exact zAt S1.out (HB1.out.mono gS) rfl
 simp only [h1] at ISN
 by_cases h2:0≤zBe r.labels s
 ·have e:zBa r s=(r,8):=by unfold zBa;rw [if_neg (by simp [h1]),if_pos h2]
  rw [e]
  clear h1 e
  go_enter Tryz.func103,Tryz.ntmps103
  go_wp2_with (first
   | (go_at_call 46;((with_reducible refine (ISN.out _).mono ?_);rintro e w1 ⟨rfl,hb1⟩;have S1:=zA (ST.out.below hb1);have HB1:=zA hb1;clear hb1))
   | (go_at_call 88;((with_reducible refine (zD3 g r vc vl vh s w1 S1.out).mono ?_);rintro e w2 ⟨rfl,hb2⟩;have S2:=zA (S1.out.below hb2);have HB2:=zA (zI HB1.out hb2);clear hb2)))
  go_ret
  exact zAt S2.out (HB2.out.mono gS) rfl
 obtain ⟨la,lc,rfl,hsl,_⟩:=ST.out.l.sl
 obtain ⟨n,hn⟩:∃ n,r.labels.length=n:=⟨_,rfl⟩
 rw [hn] at ST hn2
 have hq:∀ W,RdSt g r vc (.slice la n lc) vh W→W.cell? ⟨g,1,none⟩=some (.slice la n lc):=fun W hW=>hW.b.cell 1
 by_cases h3:n=20
 ·have e:zBa r s=(r,9):=by unfold zBa;rw [if_neg (by simp [h1]),if_neg h2,if_pos (by rw [hn,h3])]
  rw [e]
  subst h3
  clear h1 e hn hsl
  go_enter Tryz.func103,Tryz.ntmps103
  go_upto_region 5 with (first
   | (go_at_call 46;((with_reducible refine (ISN.out _).mono ?_);rintro e w1 ⟨rfl,hb1⟩;have S1:=zA (ST.out.below hb1);have HB1:=zA hb1;clear hb1))
   | (go_at_call 88;((with_reducible refine (zD3 g r vc _ vh s w1 S1.out).mono ?_);rintro e w2 ⟨rfl,hb2⟩;have S2:=zA (S1.out.below hb2);have HB2:=zA (zI HB1.out hb2);clear hb2)))
  have c1:=hq _ S2.out
  have gL2:=S2.out.b.lt
  go_wp2
  go_ret
  exact zAt S2.out (HB2.out.mono gS) rfl
 have q3:¬((n:Int)=20):=by omega
 obtain ⟨ca,cc,rfl,hsc,_⟩:=ST.out.c.sl
 obtain ⟨m,hm⟩:∃ m,r.code.length=m:=⟨_,rfl⟩
 rw [hm] at ST hn1
 have e:zBa r s=(⟨r.code,r.labels++[⟨s,m⟩],r.holes⟩,0):=by unfold zBa;rw [if_neg (by simp [h1]),if_neg h2,if_neg (by rw [hn];exact h3),hm]
 rw [e]
 have HN:=zA hn
 have HM:=zA hm
 clear h1 e hq hn hm hsl hsc h3
 go_enter Tryz.func103,Tryz.ntmps103
 go_upto_region 5 with (first
  | (go_at_call 46;((with_reducible refine (ISN.out _).mono ?_);rintro e w1 ⟨rfl,hb1⟩;have S1:=zA (ST.out.below hb1);have HB1:=zA hb1;clear hb1))
  | (go_at_call 88;((with_reducible refine (zD3 g r _ _ vh s w1 S1.out).mono ?_);rintro e w2 ⟨rfl,hb2⟩;have S2:=zA (S1.out.below hb2);have HB2:=zA (zI HB1.out hb2);clear hb2)))
 obtain ⟨c0,c1,c2⟩:=zAP S2.out.b
 have gL2:=S2.out.b.lt
 go_upto_region 7 with (fail)
 obtain ⟨i0,i1,iz0,iz1,iz2⟩:=info_parts zIu
 obtain ⟨w3,hw3⟩:∃ w3,w3=w2.drew.alloc (.cells #[.string s,.int .i64 m] 91):=⟨_,rfl⟩
 have b3:Below w2.heap.size w2 w3:=by rw [hw3];exact zG (zJ (Below.refl _ _)) _
 have s3:=S2.out.below b3
 have l3:Sl w3 (some ⟨w2.heap.size,0,none⟩) 1 [(⟨s,m⟩:NamV)]:=by rw [hw3];exact zBF _ _ rfl
 obtain ⟨v4,w4,hr,ho,hg,_⟩:=zBS (P:=Tryz.prog) w3 g 45 45 91 i0 _ 24 Tryz.underlying45 i1 iz0 iz1 iz2 rfl (.slice la n lc) r.labels s3.l (some ⟨w2.heap.size,0,none⟩) 1 1 [(⟨s,m⟩:NamV)] l3 (by rw [HN.out];unfold maxLen;omega) (by rw [HN.out];omega) (by have:=b3.size;omega)
 have k4:=zAR s3.b s3.l (by decide) hg
 have d4:=k4.cell 1
 have f4:=k4.frozen 1
 have g4:=k4.lt
 simp only [List.getElem?_toArray,List.getElem?_cons_succ,List.getElem?_cons_zero] at d4
 have fin:=s3.setL hg ho
 have un:=RdSt.under s3.l ((HB2.out.mono gS).trans (b3.mono S2.out.gle)) (Nat.le_trans S2.out.gle b3.size) hg 1 v4
 rw [hw3] at hr
 obtain ⟨xa,xn,xc,rfl⟩:=zAN ho
 have HR:=zA hr
 have FIN:=zA fin
 have UN:=zA un
 clear hr ho hg fin un k4 l3 s3 b3 hw3
 apply zEi
 apply Exists.intro
 apply And.intro
 rotate_left
 ·intro tail
  go_region_law (refine zAu rfl _ _ 45 45 rfl (.slice la n lc) (.slice (some ⟨w2.heap.size,0,none⟩) 1 1) (by simp [Act.eval,Act.put]) (by simp [Act.eval,Act.put]) HR.out ?_)
  all_goals with_reducible exact tail
 go_wp2
 go_ret
 exact zAt FIN.out UN.out rfl
end
section
open Go Go.ChangeShapes Go.WideShapes Go.RowKit
noncomputable def doorPinned (os:Os):World:={World.doorLaid Tryz.prog 400 os with heap:=(World.doorLaid Tryz.prog 400 os).heap.modify 2 fun
 | .cells _ t fr=>.cells (Go.Pinned.utf8FirstZ.map fun n:Nat=>Value.int .u8 (n:Int)).toArray t fr
 | o=>o}
theorem zMn (os:Os) (args:Array Value):laidMetH Tryz.prog [("math/bits.deBruijn32tab",Rows.laid_math_bits_deBruijn32tab),("math/bits.deBruijn64tab",Rows.laid_math_bits_deBruijn64tab),("internal/strconv.uint64pow10",Rows.laid_internal_strconv_uint64pow10),("unicode/utf8.acceptRanges",Rows.laid_unicode_utf8_acceptRanges),("strconv.ErrRange",Rows.laid_strconv_ErrRange),("strconv.ErrSyntax",Rows.laid_strconv_ErrSyntax),("unicode.White_Space",Rows.laid_unicode_White_Space),("strings.asciiSpace",Rows.laid_strings_asciiSpace),("unicode/utf8.first",Rows.laid_unicode_utf8_first)] ((doorPinned os).forCall (fun _ _=>0) ⟨#[],args,[]⟩).memory:=by
 rw [MakeChecks.laidMetH_plain _ _ _ (by kernel_rfl)]
 exact laidMet_of_run3 8 (by kernel_rfl) (by kernel_rfl) (by kernel_rfl)
theorem zOX:Tryz.prog.globalNamed "internal/strconv.uint64pow10" = some 7:=by kernel_rfl
theorem zJx:(Tryz.prog.globals[7]?).map (·.type)=some 298:=by kernel_rfl
theorem zKA:Tryz.prog.cellsOf 298=20:=by kernel_rfl
theorem zID:Tryz.prog.cellsOf 220=1:=by kernel_rfl
theorem zLV:(Rows.laid_internal_strconv_uint64pow10:DataW Unit)=Lib.tabData .u64 Lib.pow10Tab:=by kernel_rfl
theorem zOx:Tryz.prog.globalNamed "strings.asciiSpace" = some 1:=by kernel_rfl
theorem zMg:(Tryz.prog.globals[1]?).map (·.type)=some 270:=by kernel_rfl
theorem zMt:Tryz.prog.cellsOf 270=256:=by kernel_rfl
theorem zKB:Tryz.prog.cellsOf 5=1:=by kernel_rfl
theorem zN2:(Rows.laid_strings_asciiSpace:DataW Unit)=Lib.tabData .u8 Lib.asciiSpaceTab:=by kernel_rfl
theorem zHT : "*" ++ "errors.errorString" = "*errors.errorString" := by decide
theorem zJG (u:TypeId) (h:Tryz.prog.typeName? 3 u=some "*errors.errorString"):u=294 :=
 typeName_ptr_named (nm := "errors.errorString") (by rw [zHT];kernel_rfl) (by kernel_rfl) (by decide) u (by rw [zHT];exact h)
theorem zOy:Tryz.prog.globalNamed "strconv.ErrSyntax" = some 4:=by kernel_rfl
theorem zMh:(Tryz.prog.globals[4]?).map (·.type)=some 224:=by kernel_rfl
theorem zOz:Tryz.prog.globalNamed "strconv.ErrRange" = some 5:=by kernel_rfl
theorem zMi:(Tryz.prog.globals[5]?).map (·.type)=some 224:=by kernel_rfl
theorem zIC:Tryz.prog.cellsOf 296=1:=by kernel_rfl
theorem zIB:Tryz.prog.cellsOf 9=1:=by kernel_rfl
theorem zI1 {W:World} (h0:laidMetH Tryz.prog [("math/bits.deBruijn32tab",Rows.laid_math_bits_deBruijn32tab),("math/bits.deBruijn64tab",Rows.laid_math_bits_deBruijn64tab),("internal/strconv.uint64pow10",Rows.laid_internal_strconv_uint64pow10),("unicode/utf8.acceptRanges",Rows.laid_unicode_utf8_acceptRanges),("strconv.ErrRange",Rows.laid_strconv_ErrRange),("strconv.ErrSyntax",Rows.laid_strconv_ErrSyntax),("unicode.White_Space",Rows.laid_unicode_White_Space),("strings.asciiSpace",Rows.laid_strings_asciiSpace),("unicode/utf8.first",Rows.laid_unicode_utf8_first)] W) (hsh:W.ShapedOpen Tryz.prog):PEnv W:=by
 rw [MakeChecks.laidMetH_plain _ _ _ (by kernel_rfl)] at h0
 have h2:laidMet Tryz.prog [("internal/strconv.uint64pow10",Rows.laid_internal_strconv_uint64pow10),("unicode/utf8.acceptRanges",Rows.laid_unicode_utf8_acceptRanges),("strconv.ErrRange",Rows.laid_strconv_ErrRange),("strconv.ErrSyntax",Rows.laid_strconv_ErrSyntax),("unicode.White_Space",Rows.laid_unicode_White_Space),("strings.asciiSpace",Rows.laid_strings_asciiSpace),("unicode/utf8.first",Rows.laid_unicode_utf8_first)] W:=laidMet.tail (laidMet.tail h0)
 have h4:laidMet Tryz.prog [("strconv.ErrRange",Rows.laid_strconv_ErrRange),("strconv.ErrSyntax",Rows.laid_strconv_ErrSyntax),("unicode.White_Space",Rows.laid_unicode_White_Space),("strings.asciiSpace",Rows.laid_strings_asciiSpace),("unicode/utf8.first",Rows.laid_unicode_utf8_first)] W:=laidMet.tail (laidMet.tail h2)
 have h5:laidMet Tryz.prog [("strconv.ErrSyntax",Rows.laid_strconv_ErrSyntax),("unicode.White_Space",Rows.laid_unicode_White_Space),("strings.asciiSpace",Rows.laid_strings_asciiSpace),("unicode/utf8.first",Rows.laid_unicode_utf8_first)] W:=laidMet.tail h4
 have h7:laidMet Tryz.prog [("strings.asciiSpace",Rows.laid_strings_asciiSpace),("unicode/utf8.first",Rows.laid_unicode_utf8_first)] W:=laidMet.tail (laidMet.tail h5)
 refine ⟨?_,?_,Tryz.laysM146.s1_3 W hsh,?_,?_⟩
 ·rw [zN2] at h7
  exact Lib.tabIs_of_head (rest:=[("unicode/utf8.first",Rows.laid_unicode_utf8_first)]) zOx zMg Tryz.underlying270 Tryz.underlying5 zKB zMt h7
 ·rw [zLV] at h2
  exact Lib.tabIs_of_head (rest:=[("unicode/utf8.acceptRanges",Rows.laid_unicode_utf8_acceptRanges),("strconv.ErrRange",Rows.laid_strconv_ErrRange),("strconv.ErrSyntax",Rows.laid_strconv_ErrSyntax),("unicode.White_Space",Rows.laid_unicode_White_Space),("strings.asciiSpace",Rows.laid_strings_asciiSpace),("unicode/utf8.first",Rows.laid_unicode_utf8_first)]) zOX zJx Tryz.underlying298 Tryz.underlying220 zID zKA h2
 ·unfold Rows.laid_strconv_ErrSyntax at h5
  obtain ⟨a0,s0,hv0,-,-,-⟩:=laid_sentinel h5 zOy zMh Tryz.underlying224 zJG Tryz.underlying294 Tryz.underlying296 rfl rfl Tryz.underlying9 zIC zIB
  exact ⟨_,_,hv0⟩
 ·unfold Rows.laid_strconv_ErrRange at h4
  obtain ⟨a0,s0,hv0,-,-,-⟩:=laid_sentinel h4 zOz zMi Tryz.underlying224 zJG Tryz.underlying294 Tryz.underlying296 rfl rfl Tryz.underlying9 zIC zIB
  exact ⟨_,_,hv0⟩
end
end Go.Proofs.YtlpejagkadalbaaGreatDoor
