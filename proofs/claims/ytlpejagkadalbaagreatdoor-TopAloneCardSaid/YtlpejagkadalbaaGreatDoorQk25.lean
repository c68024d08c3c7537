import Derived.Test.YtlpejagkadalbaaGreatDoorQk24
import Derived.Test.YtlpejagkadalbaaGreatDoorQk22
import Derived.Test.YtlpejagkadalbaaGreatDoorQk23
import Derived.Test.YtlpejagkadalbaaGreatDoorCards
import Derived.Test.YtlpejagkadalbaaGreatDoorTie
import Derived.Lib.Join
import Derived.Deep.DeepLaidRun
import Derived.Deep.DeepWitnessRowRef
import Derived.LaidMore
import Derived.Stop.LaidErr
set_option maxHeartbeats 40000000
set_option maxRecDepth 100000
set_option linter.unusedVariables false
set_option linter.unusedSimpArgs false
namespace Go.Proofs.YtlpejagkadalbaaGreatDoor
section
open Go Go.RowKit
def ba (l:List UInt8):ByteArray:=⟨l.toArray⟩
theorem zCT (s:ByteArray):ba s.data.toList=s:=ByteArray.ext (by simp [ba])
structure HoleV where
 line:Int
 at_:Int
 i:InstV
 name:ByteArray
structure RdV where
 code:List Int
 labels:List NamV
 holes:List HoleV
def rd0:RdV:=⟨[],[],[]⟩
def zB5 (l:List NamV) (s:ByteArray):Int :=
 match l.find? (fun x=>decide (x.name=s)) with
 | some x=>x.at_
 | none => -1
def zBz (r:RdV) (s:ByteArray):RdV×Int :=
 if zR s=false then (r,3) else if 0≤zB5 r.labels s then (r,8) else if r.labels.length=20 then (r,9)
 else (⟨r.code,r.labels++[⟨s,r.code.length⟩],r.holes⟩,0)
def zCc:List UInt8:=[119,111,114,100,32]
def zBB (s:List UInt8):Int:=Lib.lastIndexByte (ba s) 32
def zA9 (s:List UInt8):InstV×Int:=zAM (s.take (zBB s).toNat++[32,48])
def zBP (s:List UInt8):ByteArray:=ba (s.drop ((zBB s).toNat+1))
def zBe (s:List UInt8):Bool:=decide (0≤zBB s)&&zR (zBP s)&&decide ((zA9 s).2=0)&&(decide ((zA9 s).1.op=8)||decide ((zA9 s).1.op=9))
def zHh (l:List UInt8):Bool:=decide (Lib.atoiAll l=.ok (atoiV l))&&decide (Lib.itoa (atoiV l)=l)&&zA0 (atoiV l)
def zAO (r:RdV) (n:Int) (s:List UInt8):RdV×Int :=
 if Lib.hasPrefix s zCc=true then
  if zHh (s.drop 5)=true then (⟨r.code++[atoiV (s.drop 5)],r.labels,r.holes⟩,0) else (r,3)
 else if zBe s=true then (⟨r.code++[0],r.labels,r.holes++[⟨n,r.code.length,(zA9 s).1,zBP s⟩]⟩,0)
 else if (zAM s).2=0 then (⟨r.code++[zBT (zAM s).1],r.labels,r.holes⟩,0) else (r,3)
def zAj (r:RdV) (n:Int) (s:List UInt8):RdV×Int :=
 if 80 < s.length then (r,2)
 else if Lib.hasSuffix s [58]=true then zBz r (ba (Lib.trimSuffix s [58]))
 else if s=[] then (r,0)
 else zAO r n s
def zAE (r:RdV) (n:Nat):List (List UInt8)→RdV×Int×Int
 | []=>(r,0,0)
 | s::l=>if (zAj r (n+1) s).2=0 then zAE (zAj r (n+1) s).1 (n+1) l else ((zAj r (n+1) s).1,n+1,(zAj r (n+1) s).2)
def HoleV.filled (h:HoleV) (labels:List NamV):InstV:=⟨h.i.op,h.i.a,h.i.b,zB5 labels h.name - h.at_⟩
def zAl (labels:List NamV) (code:List Int):List HoleV→List Int×Int×Int
 | []=>(code,0,0)
 | h::l=>if zB5 labels h.name < 0 then (code,h.line,7)
  else if zAL (h.filled labels)=true then zAl labels (code.set h.at_.toNat (zBT (h.filled labels))) l else (code,h.line,13)
structure ReadV where
 code:List Int
 labels:List NamV
 line:Int
 er:Int
def zE9 (text:List UInt8):ReadV :=
 if 150 < (splitC 10 text).length then ⟨[],[],0,2⟩
 else if (zAE rd0 0 (splitC 10 text)).2.2≠0 then ⟨[],[],(zAE rd0 0 (splitC 10 text)).2.1,(zAE rd0 0 (splitC 10 text)).2.2⟩
 else
  if (zAl (zAE rd0 0 (splitC 10 text)).1.labels (zAE rd0 0 (splitC 10 text)).1.code (zAE rd0 0 (splitC 10 text)).1.holes).2.2≠0 then ⟨[],[],(zAl (zAE rd0 0 (splitC 10 text)).1.labels (zAE rd0 0 (splitC 10 text)).1.code (zAE rd0 0 (splitC 10 text)).1.holes).2.1,(zAl (zAE rd0 0 (splitC 10 text)).1.labels (zAE rd0 0 (splitC 10 text)).1.code (zAE rd0 0 (splitC 10 text)).1.holes).2.2⟩
  else ⟨(zAl (zAE rd0 0 (splitC 10 text)).1.labels (zAE rd0 0 (splitC 10 text)).1.code (zAE rd0 0 (splitC 10 text)).1.holes).1,(zAE rd0 0 (splitC 10 text)).1.labels,0,0⟩
theorem zCE (r:RdV) (n:Nat) (s:List UInt8) (l:List (List UInt8)):zAE r n (s::l)=if (zAj r (n+1) s).2=0 then zAE (zAj r (n+1) s).1 (n+1) l else ((zAj r (n+1) s).1,n+1,(zAj r (n+1) s).2):=rfl
theorem zCX (labels:List NamV) (code:List Int) (h:HoleV) (l:List HoleV):zAl labels code (h::l)=if zB5 labels h.name < 0 then (code,h.line,7) else if zAL (h.filled labels)=true then zAl labels (code.set h.at_.toNat (zBT (h.filled labels))) l else (code,h.line,13):=rfl
theorem zIS:∀ (a b:List (List UInt8)) (r:RdV) (n:Nat),(zAE r n a).2.2=0→zAE r n (a++b)=zAE (zAE r n a).1 (n+a.length) b
 | [],b,r,n,_=>rfl
 | s::a,b,r,n,h=>by
  rw [List.cons_append,zCE,zCE]
  rw [zCE] at h
  by_cases h0:(zAj r (n+1) s).2=0
  ·rw [if_pos h0] at h
   rw [if_pos h0,if_pos h0,zIS a b _ _ h,List.length_cons]
   congr 1;omega
  ·rw [if_neg h0] at h
   exact absurd h h0
theorem zIR:∀ (a b:List (List UInt8)) (r:RdV) (n:Nat),(zAE r n a).2.2≠0→zAE r n (a++b)=zAE r n a
 | [],b,r,n,h=>absurd rfl h
 | s::a,b,r,n,h=>by
  rw [List.cons_append,zCE,zCE]
  rw [zCE] at h
  by_cases h0:(zAj r (n+1) s).2=0
  ·rw [if_pos h0] at h
   rw [if_pos h0,if_pos h0,zIR a b _ _ h]
  ·rw [if_neg h0,if_neg h0]
end
section
open El (cl)
open Go Go.RowKit
instance:El HoleV where
 k:=7
 cl x:=[.int .i64 x.line,.int .i64 x.at_,.int .i64 x.i.op,.int .i64 x.i.a,.int .i64 x.i.b,.int .i64 x.i.c,.string x.name]
 z:=⟨0,0,zC8,ByteArray.empty⟩
 len _:=rfl
 one _:=by intro u hu;simp at hu;rcases hu with rfl | rfl | rfl | rfl | rfl | rfl | rfl<;>rfl
 pos:=by decide
instance:Inhabited HoleV:=⟨⟨0,0,zC8,ByteArray.empty⟩⟩
theorem zCU (a:Addr) (i j:Nat) (hj:0 < j):a.add (i+j)=⟨(a.add i).block,(a.add i).off+j,none⟩:=by
 unfold Addr.add
 rw [if_neg (by omega)]
 by_cases hi:i=0
 ·subst hi;simp
 ·rw [if_neg hi];simp [Nat.add_assoc]
theorem zOC {w:World} {ao:Option Addr} {n:Nat} {ks:List HoleV} (h:Sl w ao n ks) {i:Nat} (hi:i < n) {x:HoleV} (hx:ks[i]?=some x):∃ a,ao=some a∧(a.add (i*7)).block < w.heap.size ∧
  w.cell? (a.add (i*7))=some (.int .i64 x.line)∧w.cell? ⟨(a.add (i*7)).block,(a.add (i*7)).off+1,none⟩=some (.int .i64 x.at_)∧w.cell? ⟨(a.add (i*7)).block,(a.add (i*7)).off+2,none⟩=some (.int .i64 x.i.op)∧w.cell? ⟨(a.add (i*7)).block,(a.add (i*7)).off+3,none⟩=some (.int .i64 x.i.a)∧w.cell? ⟨(a.add (i*7)).block,(a.add (i*7)).off+4,none⟩=some (.int .i64 x.i.b)∧w.cell? ⟨(a.add (i*7)).block,(a.add (i*7)).off+5,none⟩=some (.int .i64 x.i.c)∧w.cell? ⟨(a.add (i*7)).block,(a.add (i*7)).off+6,none⟩=some (.string x.name):=by
 obtain ⟨a,y,e,hb,hy,hc⟩:=h.at hi
 obtain rfl:y=x:=by rw [hx] at hy;injection hy with hy;exact hy.symm
 refine ⟨a,e,by rw [zBL];exact hb,?_⟩
 rw [←zCU a (i*7) 1 (by decide),←zCU a (i*7) 2 (by decide),←zCU a (i*7) 3 (by decide),←zCU a (i*7) 4 (by decide),←zCU a (i*7) 5 (by decide),←zCU a (i*7) 6 (by decide)]
 exact ⟨hc 0 _ rfl,hc 1 _ rfl,hc 2 _ rfl,hc 3 _ rfl,hc 4 _ rfl,hc 5 _ rfl,hc 6 _ rfl⟩
structure RdSt (g:Nat) (r:RdV) (vc vl vh:Value) (W:World):Prop where
 b:Bk W g 176 #[vc,vl,vh]
 c:Own W g 3 vc r.code
 l:Own W g 91 vl r.labels
 h:Own W g 181 vh r.holes
section
variable {g:Nat} {r:RdV} {vc vl vh u:Value} {w W W':World}
theorem RdSt.below (h:RdSt g r vc vl vh W) (hb:Below W.heap.size W W'):RdSt g r vc vl vh W':=⟨zH hb h.b,h.c.below hb,h.l.below hb,h.h.below hb⟩
theorem RdSt.drew (h:RdSt g r vc vl vh W):RdSt g r vc vl vh W.drew:=h.below (zJ (Below.refl _ _))
theorem RdSt.setC {C:List Int} (h:RdSt g r vc vl vh W) (hg:W.grownBy W' vc.ownBlock) (ho:Own W' g 3 u C):RdSt g ⟨C,r.labels,r.holes⟩ u vl vh (W'.setCell ⟨g,0,none⟩ u):=by
 have hb:=zAT h.b h.c (by decide) hg
 exact ⟨zV hb rfl,zAQ ho hb (by decide) _ _,zAQ (zAg h.l h.c (by decide) hg) hb (by decide) _ _,zAQ (zAg h.h h.c (by decide) hg) hb (by decide) _ _⟩
theorem RdSt.setL {L:List NamV} (h:RdSt g r vc vl vh W) (hg:W.grownBy W' vl.ownBlock) (ho:Own W' g 91 u L):RdSt g ⟨r.code,L,r.holes⟩ vc u vh (W'.setCell ⟨g,1,none⟩ u):=by
 have hb:=zAT h.b h.l (by decide) hg
 exact ⟨zV hb rfl,zAQ (zAg h.c h.l (by decide) hg) hb (by decide) _ _,zAQ ho hb (by decide) _ _,zAQ (zAg h.h h.l (by decide) hg) hb (by decide) _ _⟩
theorem RdSt.setH {H:List HoleV} (h:RdSt g r vc vl vh W) (hg:W.grownBy W' vh.ownBlock) (ho:Own W' g 181 u H):RdSt g ⟨r.code,r.labels,H⟩ vc vl u (W'.setCell ⟨g,2,none⟩ u):=by
 have hb:=zAT h.b h.h (by decide) hg
 exact ⟨zV hb rfl,zAQ (zAg h.c h.h (by decide) hg) hb (by decide) _ _,zAQ (zAg h.l h.h (by decide) hg) hb (by decide) _ _,zAQ ho hb (by decide) _ _⟩
theorem RdSt.under {α:Type} [El α] {T:TypeId} {v:Value} {xs:List α} (ho:Own W g T v xs) (hb:Below g w W) (hgs:g≤W.heap.size) (hg:W.grownBy W' v.ownBlock) (i:Nat) (x:Value):Below g w (W'.setCell ⟨g,i,none⟩ x):=by
 have h1:Below g w W':=hb.grown hg hgs (fun k e=>(zBG ho e).1)
 exact h1.grown (zAp W' g i x) (Nat.le_trans hgs hg.size) (fun k e=>by injection e with e;omega)
end
def zCC (g:Nat) (w:World) (r:RdV) (er:Int) (e:Ending) (w':World):Prop:=e=.returned (.int .i64 er)∧(∃ vc vl vh,RdSt g r vc vl vh w')∧Below g w w'
theorem zQK {l:List NamV} {s:ByteArray} {k:Nat} {x:NamV} (hx:l[k]?=some x) (hs:x.name=s) (hn:∀ y∈l.take k,y.name≠s):zB5 l s=x.at_:=by
 obtain ⟨hk,e⟩:=List.getElem?_eq_some_iff.1 hx
 have e0:l=l.take k++x::l.drop (k+1):=by rw [←e,←List.drop_eq_getElem_cons hk,List.take_append_drop]
 have h0:(l.take k).find? (fun x=>decide (x.name=s))=none:=List.find?_eq_none.2 fun y hy=>by simpa using hn y hy
 unfold zB5
 rw [e0,List.find?_append,h0]
 simp [hs]
theorem zQI {l:List NamV} {s:ByteArray} (hn:∀ y∈l,y.name≠s):zB5 l s = -1:=by
 unfold zB5
 rw [List.find?_eq_none.2 fun y hy=>by simpa using hn y hy]
theorem zPY {l:List NamV} {s:ByteArray} {k:Nat} {x:NamV} (hx:l[k]?=some x) (hs:x.name≠s) (hn:∀ y∈l.take k,y.name≠s):∀ y∈l.take (k+1),y.name≠s:=by
 intro y hy
 rw [List.take_add_one,hx] at hy
 rcases List.mem_append.1 hy with h | h
 ·exact hn y h
 ·simp at h;subst h;exact hs
theorem zHG:(Tryz.prog.info? 181).map (fun i=>(i.zero,i.size,i.bytes))=some (some (.agg #[.int .i64 0,.int .i64 0,.int .i64 0,.int .i64 0,.int .i64 0,.int .i64 0,.string ⟨#[]⟩]),7,64):=by kernel_rfl
theorem zKe:(Tryz.prog.info? 91).map (fun i=>(i.zero,i.size,i.bytes))=some (some (.agg #[.string ⟨#[]⟩,.int .i64 0]),2,24):=by kernel_rfl
theorem zEg (g:Nat) (r:RdV) (vc vl vh:Value) (s:ByteArray) (w:World) (h:RdSt g r vc vl vh w) :
  Calls Tryz.prog 88 #[.pointer (some ⟨g,0,none⟩),.string s] w fun e w'=>e=.returned (.int .i64 (zB5 r.labels s))∧Below w.heap.size w w':=by
 obtain ⟨la,lc,rfl,hsl,_⟩:=h.l.sl
 obtain ⟨c0,c1,c2⟩:=zAB h.b
 have gL:=h.b.lt
 obtain ⟨l,hl⟩:∃ l,r.labels=l:=⟨_,rfl⟩
 rw [hl] at hsl c1 ⊢
 obtain ⟨n,hn⟩:∃ n,l.length=n:=⟨_,rfl⟩
 rw [hn] at hsl c1
 have hm:=hsl.max
 unfold maxLen at hm
 have HS:=zA hsl
 have HN:=zA hn
 clear hsl hn hl h
 go_enter Tryz.func88,Tryz.ntmps88
 go_wp2
 clear c0 c1 c2 gL
 go_loopw [12] (fun i wr=>∃ k:Nat,k≤n∧i=.int .i64 k∧(∀ y∈l.take k,y.name≠s)∧Below w.heap.size w wr) (fun i _=>n - (intOf i).toNat)
 case atStart=>exact ⟨0,Nat.zero_le _,rfl,by simp,Below.refl _ _⟩
 case round =>
  obtain ⟨k,hk,rfl,hno,hb⟩:=hrel
  have HNO:=zA hno
  have HB:=zA hb
  clear hno hb
  by_cases hlt:k < n
  ·have q0:(0:Int)≤k:=by omega
   have q1:(k:Int) < n:=by omega
   obtain ⟨x,hx⟩:∃ x,l[k]?=some x:=⟨_,List.getElem?_eq_getElem (by have:=HN.out;omega)⟩
   obtain ⟨ad,hao,hab,e0,e1⟩:=zCK (HS.out.below HB.out) hlt hx
   subst hao
   have HX:=zA hx
   clear hx
   by_cases he:x.name=s
   ·have f:(x.name.toList==s.toList)=true:=by simp [he]
    have hfa:=zQK HX.out he HNO.out
    have HFA:=zA hfa
    clear he hfa
    go_wp2
    go_ret
    exact ⟨zBi HFA.out.symm,zG HB.out _⟩
   ·have f:(x.name.toList==s.toList)=false:=beq_eq_false_iff_ne.2 fun e=>he (name_eq.1 e)
    have hfn:=zPY HX.out he HNO.out
    have HFN:=zA hfn
    clear he hfn
    go_wp2
    go_roundw
    case rel=>exact ⟨k+1,by omega,by go_num,HFN.out,zG HB.out _⟩
    case measure=>simp [intOf];omega
  ·have q1:¬((k:Int) < n):=by omega
   have hfn:zB5 l s = -1:=zQI fun y hy=>HNO.out y (by rw [List.take_of_length_le (by have:=HN.out;omega)];exact hy)
   have HFN:=zA hfn
   clear hfn
   go_wp2
   go_ret
   exact ⟨zBi HFN.out.symm,HB.out⟩
end
section
open Go.RowKit
theorem zRQ {base gm:Nat} {vm vs vo vs' vo':Value} {m:MV} {W w':World} (h:MS base gm vm vs' vo' m w') (h1:NewB vs vs' W) (h2:NewB vo vo' W) {k:Nat} (hk:mS gm vm vs' vo' k) (hl:k < W.heap.size):mS gm vm vs vo k:=by
 rcases hk with e | e | e | e
 ·exact .inl e
 ·exact .inr (.inl e)
 ·rcases h1 k e with h | h
  ·exact .inr (.inr (.inl h))
  ·omega
 ·rcases h2 k e with h | h
  ·exact .inr (.inr (.inr h))
  ·omega
theorem zQQ {base:Nat} {W:World} {gs gm:Nat} {i:InstV} {m:MV} {vm vs vo:Value} (hs:Bk W gs 190 (zW gm i)) (hm:MS base gm vm vs vo m W) (ho:i.op=0) :
  Calls Tryz.prog 93 #[.pointer (some ⟨gs,0,none⟩)] W (StepPost base gm vm vs vo m W (.error 16)):=by
 obtain ⟨s0,s1,s2,s3,s4⟩:=zS hs
 have sL:=hs.lt
 rw [ho] at s1
 have HM:=zA hm
 clear hs hm
 go_enter Tryz.func93,Tryz.ntmps93
 go_wp2_with (go_at_call 107;((with_reducible refine (zA8 16 (by decide) _).mono ?_);rintro e w' ⟨rfl,rfl⟩))
 exact ⟨rfl,(Thrown.of (by repeat (first | with_reducible exact Below.refl _ _ | with_reducible refine zG ?_ _ | with_reducible refine zJ ?_ | with_reducible refine zK ?_ (by first | omega | (simp;done) | (simp;omega)) _))).step HM.out⟩
theorem zQP {base:Nat} {W:World} {gs gm:Nat} {i:InstV} {m:MV} {vm vs vo:Value} (hs:Bk W gs 190 (zW gm i)) (hm:MS base gm vm vs vo m W) (ho:i.op=8) {r:Ex MV} (h:∀ W1,Below W.heap.size W W1→Calls Tryz.prog 109 #[.pointer (some ⟨gs,0,none⟩),.int .i64 i.c] W1 (StepPost base gm vm vs vo m W1 r)) :
  Calls Tryz.prog 93 #[.pointer (some ⟨gs,0,none⟩)] W (StepPost base gm vm vs vo m W r):=by
 obtain ⟨s0,s1,s2,s3,s4⟩:=zS hs
 have sL:=hs.lt
 rw [ho] at s1
 clear hs hm ho
 cases r with
 | error k =>
  have NB:=zA h
  clear h
  go_enter Tryz.func93,Tryz.ntmps93
  go_wp2_with (first | (go_at_call 109;((with_reducible refine (NB.out _ (by repeat (first | with_reducible exact Below.refl _ _ | with_reducible refine zG ?_ _ | with_reducible refine zJ ?_ | with_reducible refine zK ?_ (by first | omega | (simp;done) | (simp;omega)) _))).mono ?_);rintro e w' ⟨rfl,hm2,hf2⟩)))
  exact ⟨rfl,StepPost.of (by repeat (first | with_reducible exact Below.refl _ _ | with_reducible refine zG ?_ _ | with_reducible refine zJ ?_ | with_reducible refine zK ?_ (by first | omega | (simp;done) | (simp;omega)) _)) (show StepPost base gm vm vs vo m _ (.error k) (.panicked (zA1 k)) w' from ⟨rfl,hm2,hf2⟩)⟩
 | ok m' =>
  have NB:=zA h
  clear h
  go_enter Tryz.func93,Tryz.ntmps93
  go_wp2_with (first | (go_at_call 109;((with_reducible refine (NB.out _ (by repeat (first | with_reducible exact Below.refl _ _ | with_reducible refine zG ?_ _ | with_reducible refine zJ ?_ | with_reducible refine zK ?_ (by first | omega | (simp;done) | (simp;omega)) _))).mono ?_);rintro e w' ⟨rfl,vs',vo',h2⟩)))
  go_end0
  exact StepPost.of (by repeat (first | with_reducible exact Below.refl _ _ | with_reducible refine zG ?_ _ | with_reducible refine zJ ?_ | with_reducible refine zK ?_ (by first | omega | (simp;done) | (simp;omega)) _)) (show StepPost base gm vm vs vo m _ (.ok m') (.returned (.tuple #[])) w' from ⟨rfl,vs',vo',h2⟩)
theorem zQR {base:Nat} {W:World} {gs gm:Nat} {i:InstV} {m:MV} {vm vs vo:Value} (hs:Bk W gs 190 (zW gm i)) (hm:MS base gm vm vs vo m W) (ho:i.op=18) {r:Ex MV} (h:∀ W1,Below W.heap.size W W1→Calls Tryz.prog 111 #[.pointer (some ⟨gs,0,none⟩)] W1 (StepPost base gm vm vs vo m W1 r)) :
  Calls Tryz.prog 93 #[.pointer (some ⟨gs,0,none⟩)] W (StepPost base gm vm vs vo m W r):=by
 obtain ⟨s0,s1,s2,s3,s4⟩:=zS hs
 have sL:=hs.lt
 rw [ho] at s1
 clear hs hm ho
 cases r with
 | error k =>
  have NB:=zA h
  clear h
  go_enter Tryz.func93,Tryz.ntmps93
  go_wp2_with (first | (go_at_call 111;((with_reducible refine (NB.out _ (by repeat (first | with_reducible exact Below.refl _ _ | with_reducible refine zG ?_ _ | with_reducible refine zJ ?_ | with_reducible refine zK ?_ (by first | omega | (simp;done) | (simp;omega)) _))).mono ?_);rintro e w' ⟨rfl,hm2,hf2⟩)))
  exact ⟨rfl,StepPost.of (by repeat (first | with_reducible exact Below.refl _ _ | with_reducible refine zG ?_ _ | with_reducible refine zJ ?_ | with_reducible refine zK ?_ (by first | omega | (simp;done) | (simp;omega)) _)) (show StepPost base gm vm vs vo m _ (.error k) (.panicked (zA1 k)) w' from ⟨rfl,hm2,hf2⟩)⟩
 | ok m' =>
  have NB:=zA h
  clear h
  go_enter Tryz.func93,Tryz.ntmps93
  go_wp2_with (first | (go_at_call 111;((with_reducible refine (NB.out _ (by repeat (first | with_reducible exact Below.refl _ _ | with_reducible refine zG ?_ _ | with_reducible refine zJ ?_ | with_reducible refine zK ?_ (by first | omega | (simp;done) | (simp;omega)) _))).mono ?_);rintro e w' ⟨rfl,vs',vo',h2⟩)))
  go_end0
  exact StepPost.of (by repeat (first | with_reducible exact Below.refl _ _ | with_reducible refine zG ?_ _ | with_reducible refine zJ ?_ | with_reducible refine zK ?_ (by first | omega | (simp;done) | (simp;omega)) _)) (show StepPost base gm vm vs vo m _ (.ok m') (.returned (.tuple #[])) w' from ⟨rfl,vs',vo',h2⟩)
theorem zQS {base:Nat} {W:World} {gs gm:Nat} {i:InstV} {m:MV} {vm vs vo:Value} (hs:Bk W gs 190 (zW gm i)) (hm:MS base gm vm vs vo m W) (ho:i.op=19) {r:Ex MV} (h:∀ W1,Below W.heap.size W W1→Calls Tryz.prog 112 #[.pointer (some ⟨gs,0,none⟩)] W1 (StepPost base gm vm vs vo m W1 r)) :
  Calls Tryz.prog 93 #[.pointer (some ⟨gs,0,none⟩)] W (StepPost base gm vm vs vo m W r):=by
 obtain ⟨s0,s1,s2,s3,s4⟩:=zS hs
 have sL:=hs.lt
 rw [ho] at s1
 clear hs hm ho
 cases r with
 | error k =>
  have NB:=zA h
  clear h
  go_enter Tryz.func93,Tryz.ntmps93
  go_wp2_with (first | (go_at_call 112;((with_reducible refine (NB.out _ (by repeat (first | with_reducible exact Below.refl _ _ | with_reducible refine zG ?_ _ | with_reducible refine zJ ?_ | with_reducible refine zK ?_ (by first | omega | (simp;done) | (simp;omega)) _))).mono ?_);rintro e w' ⟨rfl,hm2,hf2⟩)))
  exact ⟨rfl,StepPost.of (by repeat (first | with_reducible exact Below.refl _ _ | with_reducible refine zG ?_ _ | with_reducible refine zJ ?_ | with_reducible refine zK ?_ (by first | omega | (simp;done) | (simp;omega)) _)) (show StepPost base gm vm vs vo m _ (.error k) (.panicked (zA1 k)) w' from ⟨rfl,hm2,hf2⟩)⟩
 | ok m' =>
  have NB:=zA h
  clear h
  go_enter Tryz.func93,Tryz.ntmps93
  go_wp2_with (first | (go_at_call 112;((with_reducible refine (NB.out _ (by repeat (first | with_reducible exact Below.refl _ _ | with_reducible refine zG ?_ _ | with_reducible refine zJ ?_ | with_reducible refine zK ?_ (by first | omega | (simp;done) | (simp;omega)) _))).mono ?_);rintro e w' ⟨rfl,vs',vo',h2⟩)))
  go_end0
  exact StepPost.of (by repeat (first | with_reducible exact Below.refl _ _ | with_reducible refine zG ?_ _ | with_reducible refine zJ ?_ | with_reducible refine zK ?_ (by first | omega | (simp;done) | (simp;omega)) _)) (show StepPost base gm vm vs vo m _ (.ok m') (.returned (.tuple #[])) w' from ⟨rfl,vs',vo',h2⟩)
theorem zNn {base:Nat} {W:World} {gs gm:Nat} {i:InstV} {m:MV} {vm vs vo:Value} (hs:Bk W gs 190 (zW gm i)) (hm:MS base gm vm vs vo m W) (ho:i.op=9) (a:Nat) (ha:i.a=a) (a8:a < 8) (h1:(m.reg a).is=false) (hn:((m.reg a).n != 0)=true) {r:Ex MV} (h:∀ W1,Below W.heap.size W W1→Calls Tryz.prog 109 #[.pointer (some ⟨gs,0,none⟩),.int .i64 i.c] W1 (StepPost base gm vm vs vo m W1 r)) :
  Calls Tryz.prog 93 #[.pointer (some ⟨gs,0,none⟩)] W (StepPost base gm vm vs vo m W r):=by
 obtain ⟨s0,s1,s2,s3,s4⟩:=zS hs
 have sL:=hs.lt
 rw [ho] at s1
 rw [ha] at s2
 have NN:=zA (fun W1 (h:Below W.heap.size W W1)=>zAk (zH h hs) (zH h hm.mB) hm.h8 a a8 h1)
 generalize (m.reg a).n=n at *
 clear hs hm ho
 cases r with
 | error k =>
  have NB:=zA h
  clear h
  go_enter Tryz.func93,Tryz.ntmps93
  go_wp2_with (first | (go_at_call 110;((with_reducible refine (NN.out _ (by repeat (first | with_reducible exact Below.refl _ _ | with_reducible refine zG ?_ _ | with_reducible refine zJ ?_ | with_reducible refine zK ?_ (by first | omega | (simp;done) | (simp;omega)) _))).mono ?_);rintro e w' ⟨rfl,rfl⟩)) | (go_at_call 109;((with_reducible refine (NB.out _ (by repeat (first | with_reducible exact Below.refl _ _ | with_reducible refine zG ?_ _ | with_reducible refine zJ ?_ | with_reducible refine zK ?_ (by first | omega | (simp;done) | (simp;omega)) _))).mono ?_);rintro e w' ⟨rfl,hm2,hf2⟩)))
  exact ⟨rfl,StepPost.of (by repeat (first | with_reducible exact Below.refl _ _ | with_reducible refine zG ?_ _ | with_reducible refine zJ ?_ | with_reducible refine zK ?_ (by first | omega | (simp;done) | (simp;omega)) _)) (show StepPost base gm vm vs vo m _ (.error k) (.panicked (zA1 k)) w' from ⟨rfl,hm2,hf2⟩)⟩
 | ok m' =>
  have NB:=zA h
  clear h
  go_enter Tryz.func93,Tryz.ntmps93
  go_wp2_with (first | (go_at_call 110;((with_reducible refine (NN.out _ (by repeat (first | with_reducible exact Below.refl _ _ | with_reducible refine zG ?_ _ | with_reducible refine zJ ?_ | with_reducible refine zK ?_ (by first | omega | (simp;done) | (simp;omega)) _))).mono ?_);rintro e w' ⟨rfl,rfl⟩)) | (go_at_call 109;((with_reducible refine (NB.out _ (by repeat (first | with_reducible exact Below.refl _ _ | with_reducible refine zG ?_ _ | with_reducible refine zJ ?_ | with_reducible refine zK ?_ (by first | omega | (simp;done) | (simp;omega)) _))).mono ?_);rintro e w' ⟨rfl,vs',vo',h2⟩)))
  go_end0
  exact StepPost.of (by repeat (first | with_reducible exact Below.refl _ _ | with_reducible refine zG ?_ _ | with_reducible refine zJ ?_ | with_reducible refine zK ?_ (by first | omega | (simp;done) | (simp;omega)) _)) (show StepPost base gm vm vs vo m _ (.ok m') (.returned (.tuple #[])) w' from ⟨rfl,vs',vo',h2⟩)
theorem zO7 {base:Nat} {W:World} {gs gm:Nat} {i:InstV} {m:MV} {vm vs vo:Value} (hs:Bk W gs 190 (zW gm i)) (hm:MS base gm vm vs vo m W) (ho:i.op=9) (a:Nat) (ha:i.a=a) (a8:a < 8) (h1:(m.reg a).is=false) (hn:((m.reg a).n != 0)=false) {r:Ex MV} (h:∀ W1,Below W.heap.size W W1→Calls Tryz.prog 109 #[.pointer (some ⟨gs,0,none⟩),.int .i64 1] W1 (StepPost base gm vm vs vo m W1 r)) :
  Calls Tryz.prog 93 #[.pointer (some ⟨gs,0,none⟩)] W (StepPost base gm vm vs vo m W r):=by
 obtain ⟨s0,s1,s2,s3,s4⟩:=zS hs
 have sL:=hs.lt
 rw [ho] at s1
 rw [ha] at s2
 have NN:=zA (fun W1 (h:Below W.heap.size W W1)=>zAk (zH h hs) (zH h hm.mB) hm.h8 a a8 h1)
 generalize (m.reg a).n=n at *
 clear hs hm ho
 cases r with
 | error k =>
  have NB:=zA h
  clear h
  go_enter Tryz.func93,Tryz.ntmps93
  go_wp2_with (first | (go_at_call 110;((with_reducible refine (NN.out _ (by repeat (first | with_reducible exact Below.refl _ _ | with_reducible refine zG ?_ _ | with_reducible refine zJ ?_ | with_reducible refine zK ?_ (by first | omega | (simp;done) | (simp;omega)) _))).mono ?_);rintro e w' ⟨rfl,rfl⟩)) | (go_at_call 109;((with_reducible refine (NB.out _ (by repeat (first | with_reducible exact Below.refl _ _ | with_reducible refine zG ?_ _ | with_reducible refine zJ ?_ | with_reducible refine zK ?_ (by first | omega | (simp;done) | (simp;omega)) _))).mono ?_);rintro e w' ⟨rfl,hm2,hf2⟩)))
  exact ⟨rfl,StepPost.of (by repeat (first | with_reducible exact Below.refl _ _ | with_reducible refine zG ?_ _ | with_reducible refine zJ ?_ | with_reducible refine zK ?_ (by first | omega | (simp;done) | (simp;omega)) _)) (show StepPost base gm vm vs vo m _ (.error k) (.panicked (zA1 k)) w' from ⟨rfl,hm2,hf2⟩)⟩
 | ok m' =>
  have NB:=zA h
  clear h
  go_enter Tryz.func93,Tryz.ntmps93
  go_wp2_with (first | (go_at_call 110;((with_reducible refine (NN.out _ (by repeat (first | with_reducible exact Below.refl _ _ | with_reducible refine zG ?_ _ | with_reducible refine zJ ?_ | with_reducible refine zK ?_ (by first | omega | (simp;done) | (simp;omega)) _))).mono ?_);rintro e w' ⟨rfl,rfl⟩)) | (go_at_call 109;((with_reducible refine (NB.out _ (by repeat (first | with_reducible exact Below.refl _ _ | with_reducible refine zG ?_ _ | with_reducible refine zJ ?_ | with_reducible refine zK ?_ (by first | omega | (simp;done) | (simp;omega)) _))).mono ?_);rintro e w' ⟨rfl,vs',vo',h2⟩)))
  go_end0
  exact StepPost.of (by repeat (first | with_reducible exact Below.refl _ _ | with_reducible refine zG ?_ _ | with_reducible refine zJ ?_ | with_reducible refine zK ?_ (by first | omega | (simp;done) | (simp;omega)) _)) (show StepPost base gm vm vs vo m _ (.ok m') (.returned (.tuple #[])) w' from ⟨rfl,vs',vo',h2⟩)
theorem zNo {base:Nat} {W:World} {gs gm:Nat} {i:InstV} {m:MV} {vm vs vo:Value} (hs:Bk W gs 190 (zW gm i)) (hm:MS base gm vm vs vo m W) (ho:i.op=9) (a:Nat) (ha:i.a=a) (a8:a < 8) (h1:(m.reg a).is=true) :
  Calls Tryz.prog 93 #[.pointer (some ⟨gs,0,none⟩)] W (StepPost base gm vm vs vo m W (.error 10)):=by
 obtain ⟨s0,s1,s2,s3,s4⟩:=zS hs
 have sL:=hs.lt
 rw [ho] at s1
 rw [ha] at s2
 have NN:=zA (fun W1 (h:Below W.heap.size W W1)=>zC0 (zH h hs) (zH h hm.mB) hm.h8 a a8 h1)
 have HM:=zA hm
 clear hs hm
 go_enter Tryz.func93,Tryz.ntmps93
 go_wp2_with (go_at_call 110;((with_reducible refine (NN.out _ (by repeat (first | with_reducible exact Below.refl _ _ | with_reducible refine zG ?_ _ | with_reducible refine zJ ?_ | with_reducible refine zK ?_ (by first | omega | (simp;done) | (simp;omega)) _))).mono ?_);rintro e w' ⟨rfl,hbT⟩))
 exact ⟨rfl,(Thrown.of (show Below W.heap.size W w' from zI (by repeat (first | with_reducible exact Below.refl _ _ | with_reducible refine zG ?_ _ | with_reducible refine zJ ?_ | with_reducible refine zK ?_ (by first | omega | (simp;done) | (simp;omega)) _)) hbT)).step HM.out⟩
theorem zO6 {base:Nat} {W:World} {gs gm:Nat} {i:InstV} {m:MV} {vm vs vo:Value} (hs:Bk W gs 190 (zW gm i)) (hm:MS base gm vm vs vo m W) (g0:(i.op==0)=false) (g8:(i.op==8)=false) (g9:(i.op==9)=false) (g18:(i.op==18)=false) (g19:(i.op==19)=false) {r:Ex MV} (hb:∀ m',r=.ok m'→0≤m'.c.at_∧m'.c.at_≤400) (h:∀ W1,Below W.heap.size W W1→Calls Tryz.prog 113 #[.pointer (some ⟨gs,0,none⟩)] W1 (StepPost base gm vm vs vo m W1 r)) :
  Calls Tryz.prog 93 #[.pointer (some ⟨gs,0,none⟩)] W (StepPost base gm vm vs vo m W (r >>= fun m'=>.ok (m'.fwd 1))):=by
 obtain ⟨s0,s1,s2,s3,s4⟩:=zS hs
 have sL:=hs.lt
 have HSB:=zA hs
 have HM:=zA hm
 clear hs hm
 cases r with
 | error k =>
  rw [eb1]
  have NB:=zA h
  clear h hb
  go_enter Tryz.func93,Tryz.ntmps93
  go_wp2_with (go_at_call 113;((with_reducible refine (NB.out _ (by repeat (first | with_reducible exact Below.refl _ _ | with_reducible refine zG ?_ _ | with_reducible refine zJ ?_ | with_reducible refine zK ?_ (by first | omega | (simp;done) | (simp;omega)) _))).mono ?_);rintro e w' ⟨rfl,hm2,hf2⟩))
  exact ⟨rfl,StepPost.of (by repeat (first | with_reducible exact Below.refl _ _ | with_reducible refine zG ?_ _ | with_reducible refine zJ ?_ | with_reducible refine zK ?_ (by first | omega | (simp;done) | (simp;omega)) _)) (show StepPost base gm vm vs vo m _ (.error k) (.panicked (zA1 k)) w' from ⟨rfl,hm2,hf2⟩)⟩
 | ok m' =>
  rw [eb2]
  have NB:=zA h
  obtain ⟨hb0,hb1⟩:=hb m' rfl
  clear h hb
  go_enter Tryz.func93,Tryz.ntmps93
  go_upto_region 3 with (go_at_call 113;((with_reducible refine (NB.out _ (by repeat (first | with_reducible exact Below.refl _ _ | with_reducible refine zG ?_ _ | with_reducible refine zJ ?_ | with_reducible refine zK ?_ (by first | omega | (simp;done) | (simp;omega)) _))).mono ?_);rintro e w' ⟨rfl,vs',vo',hm2,hf2,hn1,hn2⟩;have hf3:Fr (mS gm vm vs vo) W w':=(Fr.of (by repeat (first | with_reducible exact Below.refl _ _ | with_reducible refine zG ?_ _ | with_reducible refine zJ ?_ | with_reducible refine zK ?_ (by first | omega | (simp;done) | (simp;omega)) _))).trans hf2 (fun _ _ h=>h);have hz:W.heap.size≤w'.heap.size:=hf3.size))
  have hs2:Bk w' gs 190 (zW gm i):=hf3.bk HSB.out (HM.out.not HSB.out (by decide) (by decide) (by decide) (by decide))
  have y0:=hs2.cell 0
  simp only [zW,List.getElem?_toArray,List.getElem?_cons_zero] at y0
  have yL:=hs2.lt
  have c3:=hm2.at_cell
  have mF:=fun j=>hm2.mB.frozen j
  have mL:=hm2.mB.lt
  have HF:=zA (SPost.fwd hm2 1)
  have HF3:=zA hf3
  have HN1:=zA (show NewB vs vs' W from fun k hk=>(hn1 k hk).imp id (fun h=>Nat.le_trans (by simp) h))
  have HN2:=zA (show NewB vo vo' W from fun k hk=>(hn2 k hk).imp id (fun h=>Nat.le_trans (by simp) h))
  have HM2:=zA hm2
  clear hs2 hm2 hf2 hf3 hn1 hn2
  go_wp2
  go_end0
  have hsp:=HF.out
  exact ⟨rfl,vs',vo',hsp.2.1,HF3.out.trans hsp.2.2 (fun k hk h=>(zRQ HM2.out HN1.out HN2.out h hk)),HN1.out,HN2.out⟩
end
section
open Go Go.ChangeShapes Go.WideShapes Go.RowKit
noncomputable def doorPinned (os:Os):World:={World.doorLaid Tryz.prog 400 os with heap:=(World.doorLaid Tryz.prog 400 os).heap.modify 2 fun
 | .cells _ t fr=>.cells (Go.Pinned.utf8FirstZ.map fun n:Nat=>Value.int .u8 (n:Int)).toArray t fr
 | o=>o}
theorem zGo (os:Os) (args:Array Value):laidMetH Tryz.prog [("math/bits.deBruijn32tab",Rows.laid_math_bits_deBruijn32tab),("math/bits.deBruijn64tab",Rows.laid_math_bits_deBruijn64tab),("internal/strconv.uint64pow10",Rows.laid_internal_strconv_uint64pow10),("unicode/utf8.acceptRanges",Rows.laid_unicode_utf8_acceptRanges),("strconv.ErrRange",Rows.laid_strconv_ErrRange),("strconv.ErrSyntax",Rows.laid_strconv_ErrSyntax),("unicode.White_Space",Rows.laid_unicode_White_Space),("strings.asciiSpace",Rows.laid_strings_asciiSpace),("unicode/utf8.first",Rows.laid_unicode_utf8_first)] ((doorPinned os).forCall (fun _ _=>0) ⟨#[],args,[]⟩).memory:=by
 rw [MakeChecks.laidMetH_plain _ _ _ (by kernel_rfl)]
 exact laidMet_of_run3 8 (by kernel_rfl) (by kernel_rfl) (by kernel_rfl)
theorem zQ2:Tryz.prog.globalNamed "internal/strconv.uint64pow10" = some 7:=by kernel_rfl
theorem zLz:(Tryz.prog.globals[7]?).map (·.type)=some 298:=by kernel_rfl
theorem zMD:Tryz.prog.cellsOf 298=20:=by kernel_rfl
theorem zJw:Tryz.prog.cellsOf 220=1:=by kernel_rfl
theorem zNp:(Rows.laid_internal_strconv_uint64pow10:DataW Unit)=Lib.tabData .u64 Lib.pow10Tab:=by kernel_rfl
theorem zRR:Tryz.prog.globalNamed "strings.asciiSpace" = some 1:=by kernel_rfl
theorem zOx:(Tryz.prog.globals[1]?).map (·.type)=some 270:=by kernel_rfl
theorem zPB:Tryz.prog.cellsOf 270=256:=by kernel_rfl
theorem zME:Tryz.prog.cellsOf 5=1:=by kernel_rfl
theorem zQU:(Rows.laid_strings_asciiSpace:DataW Unit)=Lib.tabData .u8 Lib.asciiSpaceTab:=by kernel_rfl
theorem zJA : "*" ++ "errors.errorString" = "*errors.errorString" := by decide
theorem zK5 (u:TypeId) (h:Tryz.prog.typeName? 3 u=some "*errors.errorString"):u=294 :=
 typeName_ptr_named (nm := "errors.errorString") (by rw [zJA];kernel_rfl) (by kernel_rfl) (by decide) u (by rw [zJA];exact h)
theorem zRS:Tryz.prog.globalNamed "strconv.ErrSyntax" = some 4:=by kernel_rfl
theorem zOy:(Tryz.prog.globals[4]?).map (·.type)=some 224:=by kernel_rfl
theorem zRT:Tryz.prog.globalNamed "strconv.ErrRange" = some 5:=by kernel_rfl
theorem zOz:(Tryz.prog.globals[5]?).map (·.type)=some 224:=by kernel_rfl
theorem zJv:Tryz.prog.cellsOf 296=1:=by kernel_rfl
theorem zJu:Tryz.prog.cellsOf 9=1:=by kernel_rfl
theorem zEv {W:World} (h0:laidMetH Tryz.prog [("math/bits.deBruijn32tab",Rows.laid_math_bits_deBruijn32tab),("math/bits.deBruijn64tab",Rows.laid_math_bits_deBruijn64tab),("internal/strconv.uint64pow10",Rows.laid_internal_strconv_uint64pow10),("unicode/utf8.acceptRanges",Rows.laid_unicode_utf8_acceptRanges),("strconv.ErrRange",Rows.laid_strconv_ErrRange),("strconv.ErrSyntax",Rows.laid_strconv_ErrSyntax),("unicode.White_Space",Rows.laid_unicode_White_Space),("strings.asciiSpace",Rows.laid_strings_asciiSpace),("unicode/utf8.first",Rows.laid_unicode_utf8_first)] W) (hsh:W.ShapedOpen Tryz.prog):PEnv W:=by
 rw [MakeChecks.laidMetH_plain _ _ _ (by kernel_rfl)] at h0
 have h2:laidMet Tryz.prog [("internal/strconv.uint64pow10",Rows.laid_internal_strconv_uint64pow10),("unicode/utf8.acceptRanges",Rows.laid_unicode_utf8_acceptRanges),("strconv.ErrRange",Rows.laid_strconv_ErrRange),("strconv.ErrSyntax",Rows.laid_strconv_ErrSyntax),("unicode.White_Space",Rows.laid_unicode_White_Space),("strings.asciiSpace",Rows.laid_strings_asciiSpace),("unicode/utf8.first",Rows.laid_unicode_utf8_first)] W:=laidMet.tail (laidMet.tail h0)
 have h4:laidMet Tryz.prog [("strconv.ErrRange",Rows.laid_strconv_ErrRange),("strconv.ErrSyntax",Rows.laid_strconv_ErrSyntax),("unicode.White_Space",Rows.laid_unicode_White_Space),("strings.asciiSpace",Rows.laid_strings_asciiSpace),("unicode/utf8.first",Rows.laid_unicode_utf8_first)] W:=laidMet.tail (laidMet.tail h2)
 have h5:laidMet Tryz.prog [("strconv.ErrSyntax",Rows.laid_strconv_ErrSyntax),("unicode.White_Space",Rows.laid_unicode_White_Space),("strings.asciiSpace",Rows.laid_strings_asciiSpace),("unicode/utf8.first",Rows.laid_unicode_utf8_first)] W:=laidMet.tail h4
 have h7:laidMet Tryz.prog [("strings.asciiSpace",Rows.laid_strings_asciiSpace),("unicode/utf8.first",Rows.laid_unicode_utf8_first)] W:=laidMet.tail (laidMet.tail h5)
 refine ⟨?_,?_,Tryz.laysM146.s1_3 W hsh,?_,?_⟩
 ·rw [zQU] at h7
  exact Lib.tabIs_of_head (rest:=[("unicode/utf8.first",Rows.laid_unicode_utf8_first)]) zRR zOx Tryz.underlying270 Tryz.underlying5 zME zPB h7
 ·rw [zNp] at h2
  exact Lib.tabIs_of_head (rest:=[("unicode/utf8.acceptRanges",Rows.laid_unicode_utf8_acceptRanges),("strconv.ErrRange",Rows.laid_strconv_ErrRange),("strconv.ErrSyntax",Rows.laid_strconv_ErrSyntax),("unicode.White_Space",Rows.laid_unicode_White_Space),("strings.asciiSpace",Rows.laid_strings_asciiSpace),("unicode/utf8.first",Rows.laid_unicode_utf8_first)]) zQ2 zLz Tryz.underlying298 Tryz.underlying220 zJw zMD h2
 ·unfold Rows.laid_strconv_ErrSyntax at h5
  obtain ⟨a0,s0,hv0,-,-,-⟩:=laid_sentinel h5 zRS zOy Tryz.underlying224 zK5 Tryz.underlying294 Tryz.underlying296 rfl rfl Tryz.underlying9 zJv zJu
  exact ⟨_,_,hv0⟩
 ·unfold Rows.laid_strconv_ErrRange at h4
  obtain ⟨a0,s0,hv0,-,-,-⟩:=laid_sentinel h4 zRT zOz Tryz.underlying224 zK5 Tryz.underlying294 Tryz.underlying296 rfl rfl Tryz.underlying9 zJv zJu
  exact ⟨_,_,hv0⟩
end
end Go.Proofs.YtlpejagkadalbaaGreatDoor
