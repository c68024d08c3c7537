import Derived.Test.YtlpejagkadalbaaGreatDoorPk05
import Derived.Test.YtlpejagkadalbaaGreatDoorPk10
set_option maxHeartbeats 40000000
set_option maxRecDepth 100000
set_option linter.unusedVariables false
set_option linter.unusedSimpArgs false
namespace Go.Proofs.YtlpejagkadalbaaGreatDoor
open Go.RowKit
theorem narrow_any (p b l a s n:Int) (hn:I64 n) (w:World) :
  Calls Tryz.prog 172 #[.agg #[.int .i64 p,.int .i64 b,.int .i64 l,.int .i64 a,.int .i64 s],.int .i64 n] w
   fun e w'=>e=.returned (KeyV.res (narrowF ⟨p,b,l,a,s⟩ n))∧Below w.heap.size w w':=by
 obtain ⟨n0,n1⟩:=hn
 by_cases hp:plainF ⟨p,b,l,a,s⟩=0
 ·obtain ⟨hok,hs⟩:=(plainF_zero _).1 hp
  obtain ⟨p0,p1,b0,b1,l0,l1,a0,a1,s0,s1⟩:=hok
  simp only at p0 p1 b0 b1 l0 l1 a0 a1 s0 s1 hs
  by_cases hc:b≤a∧inB n 0 (b+l - a)=true
  ·have hr:narrowF ⟨p,b,l,a,s⟩ n=(⟨p,a,n,a,s⟩,0):=by simp only [narrowF,hp,if_true];rw [if_pos hc]
   obtain ⟨hc1,hc2⟩:=hc
   rw [hr]
   clear hr hs
   go_enter Tryz.func172,Tryz.ntmps172
   go_wp2_with (first
    | (go_at_call 55;refine (plain_any _ _ _ _ _ _).mono ?_;rintro e w1 ⟨rfl,hb1⟩;obtain ⟨c1,f1,z1⟩:=bcell hb1;obtain ⟨k0,k1,k2,k3,k4⟩:=own5 hb1 (heap0 _ _ _);obtain ⟨j0,j1,j2,j3,j4⟩:=own5 hb1 (heap1 _ _ _);have y1:w.heap.size < w1.heap.size∧w.heap.size+1 < w1.heap.size:=⟨z1 _ (by simp;omega),z1 _ (by simp)⟩;obtain ⟨y2,y3⟩:=y1)
    | (go_at_call 57;refine (kwithin_any _ _ _ _).mono ?_;rintro e w' ⟨rfl,rfl⟩))
   refine bodyPost_ret (v:=KeyV.res _) (by simp [results,Tryz.results172,go_sem,KeyV.res,zeroK, *];try rfl) rfl ⟨rfl,?_⟩
   repeat (first | with_reducible exact Below.refl _ _ | with_reducible refine ext_alloc ?_ _ | with_reducible refine ext_set ?_ (by first | omega | (simp;done) | (simp;omega)) _ | with_reducible refine ext_trans ?_ ‹_›)
  ·have hr:narrowF ⟨p,b,l,a,s⟩ n=(zeroK,13):=by simp only [narrowF,hp,if_true];rw [if_neg hc]
   rw [hr]
   clear hr hs
   by_cases hx:b≤a
   ·have hi:inB n 0 (b+l - a)=false:=by
     cases h:inB n 0 (b+l - a)
     ·rfl
     ·exact absurd ⟨hx,h⟩ hc
    clear hc
    go_enter Tryz.func172,Tryz.ntmps172
    go_wp2_with (first
     | (go_at_call 55;refine (plain_any _ _ _ _ _ _).mono ?_;rintro e w1 ⟨rfl,hb1⟩;obtain ⟨c1,f1,z1⟩:=bcell hb1;obtain ⟨k0,k1,k2,k3,k4⟩:=own5 hb1 (heap0 _ _ _);obtain ⟨j0,j1,j2,j3,j4⟩:=own5 hb1 (heap1 _ _ _);have y1:w.heap.size < w1.heap.size∧w.heap.size+1 < w1.heap.size:=⟨z1 _ (by simp;omega),z1 _ (by simp)⟩;obtain ⟨y2,y3⟩:=y1)
     | (go_at_call 57;refine (kwithin_any _ _ _ _).mono ?_;rintro e w' ⟨rfl,rfl⟩))
    refine bodyPost_ret (v:=KeyV.res _) (by simp [results,Tryz.results172,go_sem,KeyV.res,zeroK, *];try rfl) rfl ⟨rfl,?_⟩
    repeat (first | with_reducible exact Below.refl _ _ | with_reducible refine ext_alloc ?_ _ | with_reducible refine ext_set ?_ (by first | omega | (simp;done) | (simp;omega)) _ | with_reducible refine ext_trans ?_ ‹_›)
   ·clear hc
    go_enter Tryz.func172,Tryz.ntmps172
    go_wp2_with (first
     | (go_at_call 55;refine (plain_any _ _ _ _ _ _).mono ?_;rintro e w1 ⟨rfl,hb1⟩;obtain ⟨c1,f1,z1⟩:=bcell hb1;obtain ⟨k0,k1,k2,k3,k4⟩:=own5 hb1 (heap0 _ _ _);obtain ⟨j0,j1,j2,j3,j4⟩:=own5 hb1 (heap1 _ _ _);have y1:w.heap.size < w1.heap.size∧w.heap.size+1 < w1.heap.size:=⟨z1 _ (by simp;omega),z1 _ (by simp)⟩;obtain ⟨y2,y3⟩:=y1)
     | (go_at_call 57;refine (kwithin_any _ _ _ _).mono ?_;rintro e w' ⟨rfl,rfl⟩))
    refine bodyPost_ret (v:=KeyV.res _) (by simp [results,Tryz.results172,go_sem,KeyV.res,zeroK, *];try rfl) rfl ⟨rfl,?_⟩
    repeat (first | with_reducible exact Below.refl _ _ | with_reducible refine ext_alloc ?_ _ | with_reducible refine ext_set ?_ (by first | omega | (simp;done) | (simp;omega)) _ | with_reducible refine ext_trans ?_ ‹_›)
 ·have hr:narrowF ⟨p,b,l,a,s⟩ n=(zeroK,plainF ⟨p,b,l,a,s⟩):=by simp only [narrowF];rw [if_neg hp]
  have hq:(plainF ⟨p,b,l,a,s⟩==0)=false:=by simp [hp]
  rw [hr]
  clear hr hp
  go_enter Tryz.func172,Tryz.ntmps172
  go_wp2_with (first
   | (go_at_call 55;refine (plain_any _ _ _ _ _ _).mono ?_;rintro e w1 ⟨rfl,hb1⟩;obtain ⟨c1,f1,z1⟩:=bcell hb1;obtain ⟨k0,k1,k2,k3,k4⟩:=own5 hb1 (heap0 _ _ _);obtain ⟨j0,j1,j2,j3,j4⟩:=own5 hb1 (heap1 _ _ _);have y1:w.heap.size < w1.heap.size∧w.heap.size+1 < w1.heap.size:=⟨z1 _ (by simp;omega),z1 _ (by simp)⟩;obtain ⟨y2,y3⟩:=y1)
   | (go_at_call 57;refine (kwithin_any _ _ _ _).mono ?_;rintro e w' ⟨rfl,rfl⟩))
  refine bodyPost_ret (v:=KeyV.res _) (by simp [results,Tryz.results172,go_sem,KeyV.res,zeroK, *];try rfl) rfl ⟨rfl,?_⟩
  repeat (first | with_reducible exact Below.refl _ _ | with_reducible refine ext_alloc ?_ _ | with_reducible refine ext_set ?_ (by first | omega | (simp;done) | (simp;omega)) _ | with_reducible refine ext_trans ?_ ‹_›)
theorem move_any (p b l a s n:Int) (hn:I64 n) (w:World) :
  Calls Tryz.prog 171 #[.agg #[.int .i64 p,.int .i64 b,.int .i64 l,.int .i64 a,.int .i64 s],.int .i64 n] w
   fun e w'=>e=.returned (KeyV.res (moveF ⟨p,b,l,a,s⟩ n))∧Below w.heap.size w w':=by
 obtain ⟨n0,n1⟩:=hn
 by_cases hp:plainF ⟨p,b,l,a,s⟩=0
 ·obtain ⟨hok,hs⟩:=(plainF_zero _).1 hp
  obtain ⟨p0,p1,b0,b1,l0,l1,a0,a1,s0,s1⟩:=hok
  simp only at p0 p1 b0 b1 l0 l1 a0 a1 s0 s1 hs
  by_cases hc:inB n (-a) (400 - a)=true
  ·have hr:moveF ⟨p,b,l,a,s⟩ n=(⟨p,b,l,a+n,s⟩,0):=by simp only [moveF,hp,if_true];rw [if_pos hc]
   obtain ⟨m0,m1⟩:=inB_iff.1 hc
   rw [hr]
   clear hr hs
   go_enter Tryz.func171,Tryz.ntmps171
   go_wp2_with (first
    | (go_at_call 55;refine (plain_any _ _ _ _ _ _).mono ?_;rintro e w1 ⟨rfl,hb1⟩;obtain ⟨c1,f1,z1⟩:=bcell hb1;obtain ⟨k0,k1,k2,k3,k4⟩:=own5 hb1 (heap0 _ _ _);obtain ⟨j0,j1,j2,j3,j4⟩:=own5 hb1 (heap1 _ _ _);have y1:w.heap.size < w1.heap.size∧w.heap.size+1 < w1.heap.size:=⟨z1 _ (by simp;omega),z1 _ (by simp)⟩;obtain ⟨y2,y3⟩:=y1)
    | (go_at_call 57;refine (kwithin_any _ _ _ _).mono ?_;rintro e w' ⟨rfl,rfl⟩))
   refine bodyPost_ret (v:=KeyV.res _) (by simp [results,Tryz.results171,go_sem,KeyV.res,zeroK, *];try rfl) rfl ⟨rfl,?_⟩
   repeat (first | with_reducible exact Below.refl _ _ | with_reducible refine ext_alloc ?_ _ | with_reducible refine ext_set ?_ (by first | omega | (simp;done) | (simp;omega)) _ | with_reducible refine ext_trans ?_ ‹_›)
  ·have hr:moveF ⟨p,b,l,a,s⟩ n=(zeroK,13):=by simp only [moveF,hp,if_true];rw [if_neg hc]
   have hc2:inB n (-a) (400 - a)=false:=by simpa using hc
   clear hc
   rw [hr]
   clear hr hs
   go_enter Tryz.func171,Tryz.ntmps171
   go_wp2_with (first
    | (go_at_call 55;refine (plain_any _ _ _ _ _ _).mono ?_;rintro e w1 ⟨rfl,hb1⟩;obtain ⟨c1,f1,z1⟩:=bcell hb1;obtain ⟨k0,k1,k2,k3,k4⟩:=own5 hb1 (heap0 _ _ _);obtain ⟨j0,j1,j2,j3,j4⟩:=own5 hb1 (heap1 _ _ _);have y1:w.heap.size < w1.heap.size∧w.heap.size+1 < w1.heap.size:=⟨z1 _ (by simp;omega),z1 _ (by simp)⟩;obtain ⟨y2,y3⟩:=y1)
    | (go_at_call 57;refine (kwithin_any _ _ _ _).mono ?_;rintro e w' ⟨rfl,rfl⟩))
   refine bodyPost_ret (v:=KeyV.res _) (by simp [results,Tryz.results171,go_sem,KeyV.res,zeroK, *];try rfl) rfl ⟨rfl,?_⟩
   repeat (first | with_reducible exact Below.refl _ _ | with_reducible refine ext_alloc ?_ _ | with_reducible refine ext_set ?_ (by first | omega | (simp;done) | (simp;omega)) _ | with_reducible refine ext_trans ?_ ‹_›)
 ·have hr:moveF ⟨p,b,l,a,s⟩ n=(zeroK,plainF ⟨p,b,l,a,s⟩):=by simp only [moveF];rw [if_neg hp]
  have hq:(plainF ⟨p,b,l,a,s⟩==0)=false:=by simp [hp]
  rw [hr]
  clear hr hp
  go_enter Tryz.func171,Tryz.ntmps171
  go_wp2_with (first
   | (go_at_call 55;refine (plain_any _ _ _ _ _ _).mono ?_;rintro e w1 ⟨rfl,hb1⟩;obtain ⟨c1,f1,z1⟩:=bcell hb1;obtain ⟨k0,k1,k2,k3,k4⟩:=own5 hb1 (heap0 _ _ _);obtain ⟨j0,j1,j2,j3,j4⟩:=own5 hb1 (heap1 _ _ _);have y1:w.heap.size < w1.heap.size∧w.heap.size+1 < w1.heap.size:=⟨z1 _ (by simp;omega),z1 _ (by simp)⟩;obtain ⟨y2,y3⟩:=y1)
   | (go_at_call 57;refine (kwithin_any _ _ _ _).mono ?_;rintro e w' ⟨rfl,rfl⟩))
  refine bodyPost_ret (v:=KeyV.res _) (by simp [results,Tryz.results171,go_sem,KeyV.res,zeroK, *];try rfl) rfl ⟨rfl,?_⟩
  repeat (first | with_reducible exact Below.refl _ _ | with_reducible refine ext_alloc ?_ _ | with_reducible refine ext_set ?_ (by first | omega | (simp;done) | (simp;omega)) _ | with_reducible refine ext_trans ?_ ‹_›)
theorem drop_any (p b l a s n:Int) (hn:I64 n) (w:World) :
  Calls Tryz.prog 173 #[.agg #[.int .i64 p,.int .i64 b,.int .i64 l,.int .i64 a,.int .i64 s],.int .i64 n] w
   fun e w'=>e=.returned (KeyV.res (dropF ⟨p,b,l,a,s⟩ n))∧Below w.heap.size w w':=by
 obtain ⟨n0,n1⟩:=hn
 by_cases hp:plainF ⟨p,b,l,a,s⟩=0
 ·obtain ⟨hok,hs⟩:=(plainF_zero _).1 hp
  obtain ⟨p0,p1,b0,b1,l0,l1,a0,a1,s0,s1⟩:=hok
  simp only at p0 p1 b0 b1 l0 l1 a0 a1 s0 s1 hs
  have hr:dropF ⟨p,b,l,a,s⟩ n=(⟨andI p n,b,l,a,s⟩,0):=by simp only [dropF,hp,if_true]
  have hand:bits .and .i64 p n=andI p n:=bits_and_bv p n
  rw [hr]
  clear hr hs
  go_enter Tryz.func173,Tryz.ntmps173
  go_wp2_with (first
   | (go_at_call 55;refine (plain_any _ _ _ _ _ _).mono ?_;rintro e w1 ⟨rfl,hb1⟩;obtain ⟨c1,f1,z1⟩:=bcell hb1;obtain ⟨k0,k1,k2,k3,k4⟩:=own5 hb1 (heap0 _ _ _);obtain ⟨j0,j1,j2,j3,j4⟩:=own5 hb1 (heap1 _ _ _);have y1:w.heap.size < w1.heap.size∧w.heap.size+1 < w1.heap.size:=⟨z1 _ (by simp;omega),z1 _ (by simp)⟩;obtain ⟨y2,y3⟩:=y1)
   | (go_at_call 57;refine (kwithin_any _ _ _ _).mono ?_;rintro e w' ⟨rfl,rfl⟩))
  refine bodyPost_ret (v:=KeyV.res _) (by simp [results,Tryz.results173,go_sem,KeyV.res,zeroK, *];try rfl) rfl ⟨rfl,?_⟩
  repeat (first | with_reducible exact Below.refl _ _ | with_reducible refine ext_alloc ?_ _ | with_reducible refine ext_set ?_ (by first | omega | (simp;done) | (simp;omega)) _ | with_reducible refine ext_trans ?_ ‹_›)
 ·have hr:dropF ⟨p,b,l,a,s⟩ n=(zeroK,plainF ⟨p,b,l,a,s⟩):=by simp only [dropF];rw [if_neg hp]
  have hq:(plainF ⟨p,b,l,a,s⟩==0)=false:=by simp [hp]
  rw [hr]
  clear hr hp
  go_enter Tryz.func173,Tryz.ntmps173
  go_wp2_with (first
   | (go_at_call 55;refine (plain_any _ _ _ _ _ _).mono ?_;rintro e w1 ⟨rfl,hb1⟩;obtain ⟨c1,f1,z1⟩:=bcell hb1;obtain ⟨k0,k1,k2,k3,k4⟩:=own5 hb1 (heap0 _ _ _);obtain ⟨j0,j1,j2,j3,j4⟩:=own5 hb1 (heap1 _ _ _);have y1:w.heap.size < w1.heap.size∧w.heap.size+1 < w1.heap.size:=⟨z1 _ (by simp;omega),z1 _ (by simp)⟩;obtain ⟨y2,y3⟩:=y1)
   | (go_at_call 57;refine (kwithin_any _ _ _ _).mono ?_;rintro e w' ⟨rfl,rfl⟩))
  refine bodyPost_ret (v:=KeyV.res _) (by simp [results,Tryz.results173,go_sem,KeyV.res,zeroK, *];try rfl) rfl ⟨rfl,?_⟩
  repeat (first | with_reducible exact Below.refl _ _ | with_reducible refine ext_alloc ?_ _ | with_reducible refine ext_set ?_ (by first | omega | (simp;done) | (simp;omega)) _ | with_reducible refine ext_trans ?_ ‹_›)
end Go.Proofs.YtlpejagkadalbaaGreatDoor
namespace Go.Proofs.YtlpejagkadalbaaGreatDoor
open Go.RowKit
def textL (i:InstV):List UInt8:=wordL i.op.toNat++sufL i.a (shA i.op) true++sufL i.b (shB i.op) true++sufL i.c (shC i.op != 0) (shC i.op==114)
theorem itext_bad (op a b c:Int) (hk:instOk ⟨op,a,b,c⟩=false) (w:World) (ht:Tab w):Calls Tryz.prog 167 #[.agg #[.int .i64 op,.int .i64 a,.int .i64 b,.int .i64 c]] w fun e w'=>e=.returned (.tuple #[.string ⟨#[]⟩,.int .i64 1])∧Below w.heap.size w w':=by
 obtain ⟨w1,hw1⟩:∃ w1,w1=w.alloc (.cells #[.int .i64 op,.int .i64 a,.int .i64 b,.int .i64 c] 179):=⟨_,rfl⟩
 have hB:Bk w1 w.heap.size 179 #[.int .i64 op,.int .i64 a,.int .i64 b,.int .i64 c]:=by rw [hw1];exact bk_new _ _ _
 have h1w:Below w.heap.size w w1:=by rw [hw1];exact ext_alloc (Below.refl _ _) _
 have p0:=hB.cell 0
 have p1:=hB.cell 1
 have p2:=hB.cell 2
 have p3:=hB.cell 3
 simp only [List.getElem?_toArray,List.getElem?_cons_succ,List.getElem?_cons_zero] at p0 p1 p2 p3
 have ck:=icheck_any op a b c w1 (ht.below h1w)
 rw [hk] at ck
 simp only [Bool.false_eq_true,if_false] at ck
 have HW1:=Lib.hid hw1
 have H1W:=Lib.hid h1w
 have CK:=Lib.hid ck
 clear ck hk hw1 h1w ht hB
 go_enter Tryz.func167,Tryz.ntmps167
 go_upto_region 1 with (fail)
 rw [←HW1.out]
 go_wp2_with (go_at_call 105;((with_reducible refine CK.out.mono ?_);rintro e w' ⟨rfl,hb⟩;obtain ⟨y,rfl⟩:=later_call (Below.refl _ _) hb;clear hb))
 go_ret2
 exact ⟨rfl,ext_trans H1W.out y.ok⟩
theorem wordL_len (k:Nat):(wordL k).length≤6:=by
 by_cases h:k < 23
 ·have hall:∀ k,k < 23→(wordL k).length≤6:=by decide
  exact hall k h
 ·have e:wordL k=[]:=by unfold wordL;rw [List.getD_eq_getElem?_getD,List.getElem?_eq_none (by simp;omega)];rfl
  rw [e];decide
theorem sufL_len (n:Int) (hn:I64 n) (has ir:Bool):(sufL n has ir).length≤23:=by
 have:=Lib.itoa_length_le n hn.1 hn.2
 unfold sufL
 cases has<;>cases ir<;>simp<;>omega
theorem ba_len (l:List UInt8):(⟨l.toArray⟩:ByteArray).size=l.length:=by simp [ByteArray.size]
theorem ba_app (l r:List UInt8):(⟨l.toArray⟩:ByteArray)++⟨r.toArray⟩=⟨(l++r).toArray⟩:=ByteArray.ext (by simp)
theorem opB_of {op a b c:Int} (h:instOk ⟨op,a,b,c⟩=true):opB op=true:=by
 unfold instOk at h
 simp only [Bool.and_eq_true] at h
 exact h.1
theorem itext_ok (op a b c:Int) (hk:instOk ⟨op,a,b,c⟩=true) (w:World) (ht:Tab w) (h10:Tab10 w):Calls Tryz.prog 167 #[.agg #[.int .i64 op,.int .i64 a,.int .i64 b,.int .i64 c]] w fun e w'=>e=.returned (.tuple #[.string ⟨(textL ⟨op,a,b,c⟩).toArray⟩,.int .i64 0])∧Below w.heap.size w w':=by
 obtain ⟨w1,hw1⟩:∃ w1,w1=w.alloc (.cells #[.int .i64 op,.int .i64 a,.int .i64 b,.int .i64 c] 179):=⟨_,rfl⟩
 have hB:Bk w1 w.heap.size 179 #[.int .i64 op,.int .i64 a,.int .i64 b,.int .i64 c]:=by rw [hw1];exact bk_new _ _ _
 have h1w:Below w.heap.size w w1:=by rw [hw1];exact ext_alloc (Below.refl _ _) _
 have p0:=hB.cell 0
 have p1:=hB.cell 1
 have p2:=hB.cell 2
 have p3:=hB.cell 3
 simp only [List.getElem?_toArray,List.getElem?_cons_succ,List.getElem?_cons_zero] at p0 p1 p2 p3
 have q0:∀ x:Later w1,x.val.cell? ⟨w.heap.size,0,none⟩=some (.int .i64 op):=fun x=>(x.bk hB).cell 0
 have q1:∀ x:Later w1,x.val.cell? ⟨w.heap.size,1,none⟩=some (.int .i64 a):=fun x=>(x.bk hB).cell 1
 have q2:∀ x:Later w1,x.val.cell? ⟨w.heap.size,2,none⟩=some (.int .i64 b):=fun x=>(x.bk hB).cell 2
 have q3:∀ x:Later w1,x.val.cell? ⟨w.heap.size,3,none⟩=some (.int .i64 c):=fun x=>(x.bk hB).cell 3
 have qL:∀ x:Later w1,w.heap.size < x.val.heap.size:=fun x=>x.lt hB.lt
 have ck:=icheck_any op a b c w1 (ht.below h1w)
 rw [hk] at ck
 simp only [if_true] at ck
 have sh:∀ x:Later w1,Calls Tryz.prog 135 #[.int .i64 op] x.val fun e w'=>e=.returned (.tuple #[.agg #[.string ⟨(wordL op.toNat).toArray⟩,.bool (shA op),.bool (shB op),.int .u8 (shC op)],.bool true])∧Below x.val.heap.size x.val w':=by
  intro x
  have h:=shape_any op x.val ((ht.below h1w).below x.ok)
  rw [opB_of hk] at h
  exact h
 have HW1:=Lib.hid hw1
 have H1W:=Lib.hid h1w
 have CK:=Lib.hid ck
 have SH:=Lib.hid sh
 have HB:=Lib.hid hB
 have H10:=Lib.hid h10
 have HK:=Lib.hid hk
 clear ck hk hw1 h1w ht hB sh h10
 go_enter Tryz.func167,Tryz.ntmps167
 go_upto_region 1 with (fail)
 rw [←HW1.out]
 go_upto_region 7 with (first
  | (go_at_call 105;((with_reducible refine CK.out.mono ?_);rintro e w' ⟨rfl,hb⟩;obtain ⟨y,rfl⟩:=later_call (Below.refl _ _) hb;clear hb))
  | (go_at_call 135;((with_reducible refine (SH.out y).mono ?_);rintro e w' ⟨rfl,hb⟩;obtain ⟨z,rfl⟩:=later_call y.ok hb;clear hb)))
 obtain ⟨w3,hw3⟩:∃ w3,w3=z.val.alloc (.cells #[.string ⟨(wordL op.toNat).toArray⟩,.bool (shA op),.bool (shB op),.int .u8 (shC op)] 230):=⟨_,rfl⟩
 obtain ⟨w4,hw4⟩:∃ w4,w4=w3.alloc (.cells #[.string ⟨(wordL op.toNat).toArray⟩] 9):=⟨_,rfl⟩
 have hz3:w3.heap.size=z.val.heap.size+1:=by rw [hw3,World.size_alloc]
 have kS:Bk w3 z.val.heap.size 230 #[.string ⟨(wordL op.toNat).toArray⟩,.bool (shA op),.bool (shB op),.int .u8 (shC op)]:=by rw [hw3];exact bk_new _ _ _
 have kI:Bk w3 w.heap.size 179 #[.int .i64 op,.int .i64 a,.int .i64 b,.int .i64 c]:=by rw [hw3];exact bk_old _ (z.bk HB.out)
 have h13:Below w1.heap.size w1 w3:=by rw [hw3];exact ext_alloc z.ok _
 have k4:Bk w4 (z.val.heap.size+1) 9 #[.string ⟨(wordL op.toNat).toArray⟩]:=by rw [hw4,←hz3];exact bk_new _ _ _
 have h34:Below w3.heap.size w3 w4:=by rw [hw4];exact ext_alloc (Below.refl _ _) _
 have t3:Tab10 w3:=(H10.out.below H1W.out).below h13
 have r1:∀ x:Later w3,x.val.cell? ⟨w.heap.size,1,none⟩=some (.int .i64 a):=fun x=>(x.bk kI).cell 1
 have r2:∀ x:Later w3,x.val.cell? ⟨w.heap.size,2,none⟩=some (.int .i64 b):=fun x=>(x.bk kI).cell 2
 have r3:∀ x:Later w3,x.val.cell? ⟨w.heap.size,3,none⟩=some (.int .i64 c):=fun x=>(x.bk kI).cell 3
 have s1:∀ x:Later w3,x.val.cell? ⟨z.val.heap.size,1,none⟩=some (.bool (shA op)):=fun x=>(x.bk kS).cell 1
 have s2:∀ x:Later w3,x.val.cell? ⟨z.val.heap.size,2,none⟩=some (.bool (shB op)):=fun x=>(x.bk kS).cell 2
 have s3:∀ x:Later w3,x.val.cell? ⟨z.val.heap.size,3,none⟩=some (.int .u8 (shC op)):=fun x=>(x.bk kS).cell 3
 obtain ⟨o0,o1,a0,a1,b0,b1,c0,c1⟩:=instOk_bd HK.out
 have ad:∀ (n:Int) (hn : -2048≤n∧n≤2047) (has ir:Bool) (l:List UInt8) (hl:l.length≤500) (x:Later w3) (hx:Bk x.val (z.val.heap.size+1) 9 #[.string ⟨l.toArray⟩]),Calls Tryz.prog 188 #[.int .i64 n,.bool has,.bool ir,.pointer (some ⟨z.val.heap.size+1,0,none⟩)] x.val fun e w'=>e=.returned (.tuple #[])∧∃ y:Later w3,w'=y.val∧Bk y.val (z.val.heap.size+1) 9 #[.string ⟨(l++sufL n has ir).toArray⟩]:=by
  intro n hn has ir l hl x hx
  refine (tadd_any n ⟨by omega,by omega⟩ has ir _ _ x.val (by rw [ba_len];omega) hx (t3.below x.ok)).mono ?_
  rintro e w' ⟨he,hb,hk⟩
  rw [ba_app] at hk
  rw [←hz3] at hb
  exact ⟨he,⟨w',x.ok.trans hb⟩,rfl,hk⟩
 have l0:=wordL_len op.toNat
 have l1:=sufL_len a ⟨by omega,by omega⟩ (shA op) true
 have l2:=sufL_len b ⟨by omega,by omega⟩ (shB op) true
 have A1:=Lib.hid (ad a (by omega) (shA op) true _ (by omega) ⟨w4,h34⟩ k4)
 have A2:=Lib.hid (fun y hy=>ad b (by omega) (shB op) true (wordL op.toNat++sufL a (shA op) true) (by simp only [List.length_append];omega) y hy)
 have A3:=Lib.hid (fun y hy=>ad c (by omega) (shC op != 0) (shC op==114) (wordL op.toNat++sufL a (shA op) true++sufL b (shB op) true) (by simp only [List.length_append];omega) y hy)
 have fin:=Lib.hid (fun x:Later w3=>ext_trans (ext_trans H1W.out h13) x.ok)
 have kL:∀ x:Later w3,z.val.heap.size < x.val.heap.size:=fun x=>x.lt kS.lt
 have iL:∀ x:Later w3,w.heap.size < x.val.heap.size:=fun x=>x.lt kI.lt
 have m1:=r1 ⟨w4,h34⟩
 have m2:=s1 ⟨w4,h34⟩
 simp only at m1 m2
 have HW3:=Lib.hid hw3
 have HW4:=Lib.hid hw4
 rw [←HW3.out,←HW4.out]
 clear ad l0 l1 l2 hz3 kS kI h13 k4 t3 hw3 hw4 HK a0 a1 b0 b1 c0 c1 o0 o1 q0 q1 q2 q3 p0 p1 p2 p3 CK SH
 go_wp2_with (first
  | (go_at_call 188;((with_reducible refine A1.out.mono ?_);rintro e w' ⟨rfl,y5,rfl,hc⟩;have C5:=Lib.hid hc;clear hc))
  | (go_at_call 188;((with_reducible refine (A2.out y5 C5.out).mono ?_);rintro e w' ⟨rfl,y6,rfl,hc⟩;have C6:=Lib.hid hc;clear hc))
  | (go_at_call 188;((with_reducible refine (A3.out y6 C6.out).mono ?_);rintro e w' ⟨rfl,y7,rfl,hc⟩;have c7:=hc.cell 0;simp only [List.getElem?_toArray,List.getElem?_cons_zero] at c7;have C7:=Lib.hid hc;clear hc)))
 go_ret2
 have e:textL ⟨op,a,b,c⟩=wordL op.toNat++(sufL a (shA op) true++(sufL b (shB op) true++sufL c (shC op != 0) (shC op==114))):=by unfold textL;simp only [List.append_assoc]
 rw [e]
 exact ⟨rfl,fin.out y7⟩
end Go.Proofs.YtlpejagkadalbaaGreatDoor
