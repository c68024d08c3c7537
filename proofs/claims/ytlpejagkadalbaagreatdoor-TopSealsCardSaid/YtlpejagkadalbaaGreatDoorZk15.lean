import Derived.Test.YtlpejagkadalbaaGreatDoorZk12
import Derived.Test.YtlpejagkadalbaaGreatDoorSplitMath
import Derived.Test.YtlpejagkadalbaaGreatDoorZk14
import Derived.Test.YtlpejagkadalbaaGreatDoorZk11
set_option maxHeartbeats 40000000
set_option maxRecDepth 100000
set_option linter.unusedVariables false
set_option linter.unusedSimpArgs false
namespace Go.Proofs.YtlpejagkadalbaaGreatDoor
section
open Go.RowKit
theorem zFz (p b l a s n:Int) (hn:I64 n) (w:World) :
  Calls Tryz.prog 172 #[.agg #[.int .i64 p,.int .i64 b,.int .i64 l,.int .i64 a,.int .i64 s],.int .i64 n] w
   fun e w'=>e=.returned (KeyV.res (zA1 ⟨p,b,l,a,s⟩ n))∧Below w.heap.size w w':=by
 obtain ⟨n0,n1⟩:=hn
 by_cases hp:zAT ⟨p,b,l,a,s⟩=0
 ·obtain ⟨hok,hs⟩:=(zBW _).1 hp
  obtain ⟨p0,p1,b0,b1,l0,l1,a0,a1,s0,s1⟩:=hok
  simp only at p0 p1 b0 b1 l0 l1 a0 a1 s0 s1 hs
  by_cases hc:b≤a∧inB n 0 (b+l - a)=true
  ·have hr:zA1 ⟨p,b,l,a,s⟩ n=(⟨p,a,n,a,s⟩,0):=by simp only [zA1,hp,if_true];rw [if_pos hc]
   obtain ⟨hc1,hc2⟩:=hc
   rw [hr]
   clear hr hs
   go_enter Tryz.func172,Tryz.ntmps172
   go_wp2_with (first
    | (go_at_call 55;refine (zBY _ _ _ _ _ _).mono ?_;rintro e w1 ⟨rfl,hb1⟩;obtain ⟨c1,f1,z1⟩:=zCk hb1;obtain ⟨k0,k1,k2,k3,k4⟩:=zCP hb1 (zDh _ _ _);obtain ⟨j0,j1,j2,j3,j4⟩:=zCP hb1 (zDg _ _ _);have y1:w.heap.size < w1.heap.size∧w.heap.size+1 < w1.heap.size:=⟨z1 _ (by simp;omega),z1 _ (by simp)⟩;obtain ⟨y2,y3⟩:=y1)
    | (go_at_call 57;refine (zAh _ _ _ _).mono ?_;rintro e w' ⟨rfl,rfl⟩))
   refine bodyPost_ret (v:=KeyV.res _) (by simp [results,Tryz.results172,go_sem,KeyV.res,zeroK, *];try rfl) rfl ⟨rfl,?_⟩
   repeat (first | with_reducible exact Below.refl _ _ | with_reducible refine zG ?_ _ | with_reducible refine zK ?_ (by first | omega | (simp;done) | (simp;omega)) _ | with_reducible refine zI ?_ ‹_›)
  ·have hr:zA1 ⟨p,b,l,a,s⟩ n=(zeroK,13):=by simp only [zA1,hp,if_true];rw [if_neg hc]
   rw [hr]
   clear hr hs
   by_cases hx:b≤a
   ·have hi:inB n 0 (b+l - a)=false:=by
     cases h:inB n 0 (b+l - a)
     ·rfl
     ·exact absurd ⟨hx,h⟩ hc
    clear hc
    go_enter Tryz.func172,Tryz.ntmps172
    go_wp2_with (first
     | (go_at_call 55;refine (zBY _ _ _ _ _ _).mono ?_;rintro e w1 ⟨rfl,hb1⟩;obtain ⟨c1,f1,z1⟩:=zCk hb1;obtain ⟨k0,k1,k2,k3,k4⟩:=zCP hb1 (zDh _ _ _);obtain ⟨j0,j1,j2,j3,j4⟩:=zCP hb1 (zDg _ _ _);have y1:w.heap.size < w1.heap.size∧w.heap.size+1 < w1.heap.size:=⟨z1 _ (by simp;omega),z1 _ (by simp)⟩;obtain ⟨y2,y3⟩:=y1)
     | (go_at_call 57;refine (zAh _ _ _ _).mono ?_;rintro e w' ⟨rfl,rfl⟩))
    refine bodyPost_ret (v:=KeyV.res _) (by simp [results,Tryz.results172,go_sem,KeyV.res,zeroK, *];try rfl) rfl ⟨rfl,?_⟩
    repeat (first | with_reducible exact Below.refl _ _ | with_reducible refine zG ?_ _ | with_reducible refine zK ?_ (by first | omega | (simp;done) | (simp;omega)) _ | with_reducible refine zI ?_ ‹_›)
   ·clear hc
    go_enter Tryz.func172,Tryz.ntmps172
    go_wp2_with (first
     | (go_at_call 55;refine (zBY _ _ _ _ _ _).mono ?_;rintro e w1 ⟨rfl,hb1⟩;obtain ⟨c1,f1,z1⟩:=zCk hb1;obtain ⟨k0,k1,k2,k3,k4⟩:=zCP hb1 (zDh _ _ _);obtain ⟨j0,j1,j2,j3,j4⟩:=zCP hb1 (zDg _ _ _);have y1:w.heap.size < w1.heap.size∧w.heap.size+1 < w1.heap.size:=⟨z1 _ (by simp;omega),z1 _ (by simp)⟩;obtain ⟨y2,y3⟩:=y1)
     | (go_at_call 57;refine (zAh _ _ _ _).mono ?_;rintro e w' ⟨rfl,rfl⟩))
    refine bodyPost_ret (v:=KeyV.res _) (by simp [results,Tryz.results172,go_sem,KeyV.res,zeroK, *];try rfl) rfl ⟨rfl,?_⟩
    repeat (first | with_reducible exact Below.refl _ _ | with_reducible refine zG ?_ _ | with_reducible refine zK ?_ (by first | omega | (simp;done) | (simp;omega)) _ | with_reducible refine zI ?_ ‹_›)
 ·have hr:zA1 ⟨p,b,l,a,s⟩ n=(zeroK,zAT ⟨p,b,l,a,s⟩):=by simp only [zA1];rw [if_neg hp]
  have hq:(zAT ⟨p,b,l,a,s⟩==0)=false:=by simp [hp]
  rw [hr]
  clear hr hp
  go_enter Tryz.func172,Tryz.ntmps172
  go_wp2_with (first
   | (go_at_call 55;refine (zBY _ _ _ _ _ _).mono ?_;rintro e w1 ⟨rfl,hb1⟩;obtain ⟨c1,f1,z1⟩:=zCk hb1;obtain ⟨k0,k1,k2,k3,k4⟩:=zCP hb1 (zDh _ _ _);obtain ⟨j0,j1,j2,j3,j4⟩:=zCP hb1 (zDg _ _ _);have y1:w.heap.size < w1.heap.size∧w.heap.size+1 < w1.heap.size:=⟨z1 _ (by simp;omega),z1 _ (by simp)⟩;obtain ⟨y2,y3⟩:=y1)
   | (go_at_call 57;refine (zAh _ _ _ _).mono ?_;rintro e w' ⟨rfl,rfl⟩))
  refine bodyPost_ret (v:=KeyV.res _) (by simp [results,Tryz.results172,go_sem,KeyV.res,zeroK, *];try rfl) rfl ⟨rfl,?_⟩
  repeat (first | with_reducible exact Below.refl _ _ | with_reducible refine zG ?_ _ | with_reducible refine zK ?_ (by first | omega | (simp;done) | (simp;omega)) _ | with_reducible refine zI ?_ ‹_›)
theorem zHn (p b l a s n:Int) (hn:I64 n) (w:World) :
  Calls Tryz.prog 171 #[.agg #[.int .i64 p,.int .i64 b,.int .i64 l,.int .i64 a,.int .i64 s],.int .i64 n] w
   fun e w'=>e=.returned (KeyV.res (zBX ⟨p,b,l,a,s⟩ n))∧Below w.heap.size w w':=by
 obtain ⟨n0,n1⟩:=hn
 by_cases hp:zAT ⟨p,b,l,a,s⟩=0
 ·obtain ⟨hok,hs⟩:=(zBW _).1 hp
  obtain ⟨p0,p1,b0,b1,l0,l1,a0,a1,s0,s1⟩:=hok
  simp only at p0 p1 b0 b1 l0 l1 a0 a1 s0 s1 hs
  by_cases hc:inB n (-a) (400 - a)=true
  ·have hr:zBX ⟨p,b,l,a,s⟩ n=(⟨p,b,l,a+n,s⟩,0):=by simp only [zBX,hp,if_true];rw [if_pos hc]
   obtain ⟨m0,m1⟩:=inB_iff.1 hc
   rw [hr]
   clear hr hs
   go_enter Tryz.func171,Tryz.ntmps171
   go_wp2_with (first
    | (go_at_call 55;refine (zBY _ _ _ _ _ _).mono ?_;rintro e w1 ⟨rfl,hb1⟩;obtain ⟨c1,f1,z1⟩:=zCk hb1;obtain ⟨k0,k1,k2,k3,k4⟩:=zCP hb1 (zDh _ _ _);obtain ⟨j0,j1,j2,j3,j4⟩:=zCP hb1 (zDg _ _ _);have y1:w.heap.size < w1.heap.size∧w.heap.size+1 < w1.heap.size:=⟨z1 _ (by simp;omega),z1 _ (by simp)⟩;obtain ⟨y2,y3⟩:=y1)
    | (go_at_call 57;refine (zAh _ _ _ _).mono ?_;rintro e w' ⟨rfl,rfl⟩))
   refine bodyPost_ret (v:=KeyV.res _) (by simp [results,Tryz.results171,go_sem,KeyV.res,zeroK, *];try rfl) rfl ⟨rfl,?_⟩
   repeat (first | with_reducible exact Below.refl _ _ | with_reducible refine zG ?_ _ | with_reducible refine zK ?_ (by first | omega | (simp;done) | (simp;omega)) _ | with_reducible refine zI ?_ ‹_›)
  ·have hr:zBX ⟨p,b,l,a,s⟩ n=(zeroK,13):=by simp only [zBX,hp,if_true];rw [if_neg hc]
   have hc2:inB n (-a) (400 - a)=false:=by simpa using hc
   clear hc
   rw [hr]
   clear hr hs
   go_enter Tryz.func171,Tryz.ntmps171
   go_wp2_with (first
    | (go_at_call 55;refine (zBY _ _ _ _ _ _).mono ?_;rintro e w1 ⟨rfl,hb1⟩;obtain ⟨c1,f1,z1⟩:=zCk hb1;obtain ⟨k0,k1,k2,k3,k4⟩:=zCP hb1 (zDh _ _ _);obtain ⟨j0,j1,j2,j3,j4⟩:=zCP hb1 (zDg _ _ _);have y1:w.heap.size < w1.heap.size∧w.heap.size+1 < w1.heap.size:=⟨z1 _ (by simp;omega),z1 _ (by simp)⟩;obtain ⟨y2,y3⟩:=y1)
    | (go_at_call 57;refine (zAh _ _ _ _).mono ?_;rintro e w' ⟨rfl,rfl⟩))
   refine bodyPost_ret (v:=KeyV.res _) (by simp [results,Tryz.results171,go_sem,KeyV.res,zeroK, *];try rfl) rfl ⟨rfl,?_⟩
   repeat (first | with_reducible exact Below.refl _ _ | with_reducible refine zG ?_ _ | with_reducible refine zK ?_ (by first | omega | (simp;done) | (simp;omega)) _ | with_reducible refine zI ?_ ‹_›)
 ·have hr:zBX ⟨p,b,l,a,s⟩ n=(zeroK,zAT ⟨p,b,l,a,s⟩):=by simp only [zBX];rw [if_neg hp]
  have hq:(zAT ⟨p,b,l,a,s⟩==0)=false:=by simp [hp]
  rw [hr]
  clear hr hp
  go_enter Tryz.func171,Tryz.ntmps171
  go_wp2_with (first
   | (go_at_call 55;refine (zBY _ _ _ _ _ _).mono ?_;rintro e w1 ⟨rfl,hb1⟩;obtain ⟨c1,f1,z1⟩:=zCk hb1;obtain ⟨k0,k1,k2,k3,k4⟩:=zCP hb1 (zDh _ _ _);obtain ⟨j0,j1,j2,j3,j4⟩:=zCP hb1 (zDg _ _ _);have y1:w.heap.size < w1.heap.size∧w.heap.size+1 < w1.heap.size:=⟨z1 _ (by simp;omega),z1 _ (by simp)⟩;obtain ⟨y2,y3⟩:=y1)
   | (go_at_call 57;refine (zAh _ _ _ _).mono ?_;rintro e w' ⟨rfl,rfl⟩))
  refine bodyPost_ret (v:=KeyV.res _) (by simp [results,Tryz.results171,go_sem,KeyV.res,zeroK, *];try rfl) rfl ⟨rfl,?_⟩
  repeat (first | with_reducible exact Below.refl _ _ | with_reducible refine zG ?_ _ | with_reducible refine zK ?_ (by first | omega | (simp;done) | (simp;omega)) _ | with_reducible refine zI ?_ ‹_›)
theorem zH6 (p b l a s n:Int) (hn:I64 n) (w:World) :
  Calls Tryz.prog 173 #[.agg #[.int .i64 p,.int .i64 b,.int .i64 l,.int .i64 a,.int .i64 s],.int .i64 n] w
   fun e w'=>e=.returned (KeyV.res (zBt ⟨p,b,l,a,s⟩ n))∧Below w.heap.size w w':=by
 obtain ⟨n0,n1⟩:=hn
 by_cases hp:zAT ⟨p,b,l,a,s⟩=0
 ·obtain ⟨hok,hs⟩:=(zBW _).1 hp
  obtain ⟨p0,p1,b0,b1,l0,l1,a0,a1,s0,s1⟩:=hok
  simp only at p0 p1 b0 b1 l0 l1 a0 a1 s0 s1 hs
  have hr:zBt ⟨p,b,l,a,s⟩ n=(⟨zAM p n,b,l,a,s⟩,0):=by simp only [zBt,hp,if_true]
  have hand:bits .and .i64 p n=zAM p n:=zBq p n
  rw [hr]
  clear hr hs
  go_enter Tryz.func173,Tryz.ntmps173
  go_wp2_with (first
   | (go_at_call 55;refine (zBY _ _ _ _ _ _).mono ?_;rintro e w1 ⟨rfl,hb1⟩;obtain ⟨c1,f1,z1⟩:=zCk hb1;obtain ⟨k0,k1,k2,k3,k4⟩:=zCP hb1 (zDh _ _ _);obtain ⟨j0,j1,j2,j3,j4⟩:=zCP hb1 (zDg _ _ _);have y1:w.heap.size < w1.heap.size∧w.heap.size+1 < w1.heap.size:=⟨z1 _ (by simp;omega),z1 _ (by simp)⟩;obtain ⟨y2,y3⟩:=y1)
   | (go_at_call 57;refine (zAh _ _ _ _).mono ?_;rintro e w' ⟨rfl,rfl⟩))
  refine bodyPost_ret (v:=KeyV.res _) (by simp [results,Tryz.results173,go_sem,KeyV.res,zeroK, *];try rfl) rfl ⟨rfl,?_⟩
  repeat (first | with_reducible exact Below.refl _ _ | with_reducible refine zG ?_ _ | with_reducible refine zK ?_ (by first | omega | (simp;done) | (simp;omega)) _ | with_reducible refine zI ?_ ‹_›)
 ·have hr:zBt ⟨p,b,l,a,s⟩ n=(zeroK,zAT ⟨p,b,l,a,s⟩):=by simp only [zBt];rw [if_neg hp]
  have hq:(zAT ⟨p,b,l,a,s⟩==0)=false:=by simp [hp]
  rw [hr]
  clear hr hp
  go_enter Tryz.func173,Tryz.ntmps173
  go_wp2_with (first
   | (go_at_call 55;refine (zBY _ _ _ _ _ _).mono ?_;rintro e w1 ⟨rfl,hb1⟩;obtain ⟨c1,f1,z1⟩:=zCk hb1;obtain ⟨k0,k1,k2,k3,k4⟩:=zCP hb1 (zDh _ _ _);obtain ⟨j0,j1,j2,j3,j4⟩:=zCP hb1 (zDg _ _ _);have y1:w.heap.size < w1.heap.size∧w.heap.size+1 < w1.heap.size:=⟨z1 _ (by simp;omega),z1 _ (by simp)⟩;obtain ⟨y2,y3⟩:=y1)
   | (go_at_call 57;refine (zAh _ _ _ _).mono ?_;rintro e w' ⟨rfl,rfl⟩))
  refine bodyPost_ret (v:=KeyV.res _) (by simp [results,Tryz.results173,go_sem,KeyV.res,zeroK, *];try rfl) rfl ⟨rfl,?_⟩
  repeat (first | with_reducible exact Below.refl _ _ | with_reducible refine zG ?_ _ | with_reducible refine zK ?_ (by first | omega | (simp;done) | (simp;omega)) _ | with_reducible refine zI ?_ ‹_›)
end
section
open Go.RowKit
theorem zAu {P:Program} {ops:Array Oper} {o:Oper} {a:Act} {w:World} {K:Act→World→Prop} {Q:Exit→Act→World→Prop} {E:Prop}
  (hg:o.guard=none) (d x:Operand) (dT sT:TypeId) (hop:o.op=Op.call {callee:=Callee.builtin Builtin.append,args:=#[d,x],argTypes:=#[dT,sT]})
  (v u:Value) (hd:a.eval d=v) (hx:a.eval x=u) {v':Value} {w':World} (hr:(Builtin.append_ #[dT,sT] o.type #[v,u]).run P w=.ok v' w') (hK:K (a.put o.dst v') w') :
  if Region.wanted o (yielded ops a.tmps)=true then Oper.wp P o a w K Q else E:=by
 have hw:Region.wanted o (yielded ops a.tmps)=true:=by simp [Region.wanted,hg]
 rw [if_pos hw]
 unfold Oper.wp
 simp [execOp,hop,resolve,invoke,builtin,hd,hx,hr,Result.andThen]
 exact hK
end
section
open Go.RowKit
end
section
open Go.RowKit
def zC2 (wd:List UInt8):Int :=
 match (List.range 23).find? (fun k=>decide (zV k=wd)) with
 | some k=>(k:Int)
 | none => -1
def zE8 (has:Bool) (l:List (List UInt8)):List (List UInt8)×Int:=if has=true∧1 < l.length then (l.tail,atoiV (Lib.trimPrefix (l.tail.headD []) [114])) else (l,0)
def zDY (op:Int):Bool:=opB op&&shA op
def zDX (op:Int):Bool:=opB op&&shB op
def zDW (op:Int):Bool:=opB op&&(shC op != 0)
def zEt (s:List UInt8):InstV :=
 let l:=splitC 32 s
 let op:=zC2 (l.headD [])
 let p:=zE8 (zDY op) l
 let q:=zE8 (zDX op) p.1
 let r:=zE8 (zDW op) q.1
 ⟨op,p.2,q.2,r.2⟩
def zAG (s:List UInt8):InstV×Int:=if zAE (zEt s)=true∧zDc (zEt s)=s then (zEt s,0) else (zCf,3)
theorem zK6:∀ k,k < 23→zC2 (zV k)=k:=by decide
theorem zMF {s:List UInt8} {i:InstV} (h:zAG s=(i,0)):zAE i=true∧zDc i=s:=by
 unfold zAG at h
 split at h
 ·next h1 =>
  injection h with h _
  rw [←h];exact h1
 ·injection h with _ h;cases h
end
section
open Go.RowKit
end
section
open Go Go.RowKit Go.Shelf
theorem zGh {n:String} {vs:Array Value} {w w':World} (h:w.var? Tryz.prog n=some vs) (hb:Below w.heap.size w w'):w'.var? Tryz.prog n=some vs:=by
 unfold World.var? at h ⊢
 cases hg:Tryz.prog.globalNamed n with
 | none=>rw [hg] at h;cases h
 | some g =>
  rw [hg] at h
  simp only [Option.bind_some] at h ⊢
  have hlt:g < w.heap.size:=by
   rcases Nat.lt_or_ge g w.heap.size with hlt | hge
   ·exact hlt
   ·rw [Array.getElem?_eq_none hge] at h;cases h
  rw [hb.block g hlt]
  exact h
structure PEnv (w:World):Prop where
 asc:Tab w
 ten:Tab10 w
 mx:∃ m:Int,w.cell? ⟨0,0,none⟩=some (.int .i64 m)
 syn:∃ tp p,w.var? Tryz.prog "strconv.ErrSyntax" = some #[.iface tp p]
 rng:∃ tp p,w.var? Tryz.prog "strconv.ErrRange" = some #[.iface tp p]
theorem PEnv.below {w w':World} (h:PEnv w) (hb:Below w.heap.size w w'):PEnv w':=by
 obtain ⟨m,hm⟩:=h.mx
 obtain ⟨t1,p1,h1⟩:=h.syn
 obtain ⟨t2,p2,h2⟩:=h.rng
 exact ⟨h.asc.below hb,h.ten.below hb,⟨m,(hb.cell (World.block_lt_of_cell? w _ hm)).trans hm⟩,⟨t1,p1,zGh h1 hb⟩,⟨t2,p2,zGh h2 hb⟩⟩
theorem zFh (s:ByteArray) (w:World) (h:PEnv w) (hs:s.size≤67108864):Calls Tryz.prog 130 #[.string s] w fun e w'=>∃ ev,e=.returned (.tuple #[.int .i64 (atoiV s.data.toList),ev])∧Below w.heap.size w w':=by
 unfold atoiV
 cases ha:Lib.atoiAll s.data.toList with
 | ok v =>
  refine (Tryz.strconv_Atoi_ok s (by omega) v ha w).mono ?_
  rintro e w' ⟨rfl,rfl | ⟨t,rfl⟩⟩
  ·exact ⟨_,rfl,Below.refl _ _⟩
  ·exact ⟨_,rfl,Lib.bytesWorld_below w _ _⟩
 | range =>
  obtain ⟨tp,p,hv⟩:=h.rng
  refine (Tryz.strconv_Atoi_range_var s (by omega) ha tp p w hv).mono ?_
  rintro e w' ⟨N,rfl,_,_,hb⟩
  exact ⟨_,rfl,hb⟩
 | _ =>
  obtain ⟨tp,p,hv⟩:=h.syn
  refine (Tryz.strconv_Atoi_syntax_var s (by omega) ha tp p w hv).mono ?_
  rintro e w' ⟨N,rfl,_,_,hb⟩
  exact ⟨_,rfl,hb⟩
theorem zMW:(Tryz.prog.info? 9).map (fun i=>(i.zero,i.size,i.bytes))=some (some (.string ByteArray.empty),1,16):=by kernel_rfl
theorem zC7 (x:ByteArray):(⟨x.data.toList.toArray⟩:ByteArray)=x:=ByteArray.ext (by simp)
theorem zGl (s:ByteArray) (c:UInt8) (w:World) (h:PEnv w) (hs:s.size≤67108864):Calls Tryz.prog 86 #[.string s,.string ⟨#[c]⟩] w fun e w' =>
  e=.returned (.slice (some ⟨w.heap.size,0,none⟩) (splitC c s.data.toList).length (splitC c s.data.toList).length)∧(∀ k x,(splitC c s.data.toList)[k]?=some x→w'.cell? ⟨w.heap.size,k,none⟩=some (.string ⟨x.toArray⟩))∧Below w.heap.size w w':=by
 obtain ⟨m,hm⟩:=h.mx
 have h1:1≤(⟨#[c]⟩:ByteArray).size:=Nat.le_refl _
 have hl:Lib.countB s ⟨#[c]⟩+1=(splitC c s.data.toList).length:=by
  rw [←splitB_one,List.length_map,Lib.splitB_all ⟨#[c]⟩ h1 0 _ s rfl]
 refine (Any.strings_Split Tryz.laysM146.ton146 zMW s ⟨#[c]⟩ m w (by omega) hm h1).mono ?_
 rintro e w' ⟨rfl,rfl⟩
 refine ⟨by rw [hl],fun k x hx=>?_,zG (Below.refl _ _) _⟩
 rw [←splitB_one,List.getElem?_map] at hx
 obtain ⟨y,hy,rfl⟩:=Option.map_eq_some_iff.1 hx
 refine (Bk.cell (zM w _ _) k).trans ?_
 rw [List.getElem?_toArray,List.getElem?_map,hy]
 simp only [Option.map_some]
theorem name_eq' {x y:ByteArray}:x.toList=y.toList↔x=y:=by
 rw [ByteArray.toList_eq,ByteArray.toList_eq];exact ⟨fun h=>Go.WideShapes.bytes_inj h,fun h=>by rw [h]⟩
theorem zDj (x y:ByteArray):(x.toList==y.toList)=decide (x.data.toList=y.data.toList):=by
 by_cases h:x=y
 ·subst h;simp
 ·have h1:(x.toList==y.toList)=false:=beq_eq_false_iff_ne.2 fun e=>h (name_eq'.1 e)
  rw [h1]
  symm
  rw [decide_eq_false_iff_not]
  exact fun e=>h (ByteArray.ext (Array.toList_inj.1 e))
theorem zJo {wd:List UInt8} {k:Nat} (hk:k < 23) (h:∀ j,j < k→zV j≠wd) (e:zV k=wd):zC2 wd=k:=by
 have:=zK6 k hk
 rw [e] at this
 exact this
theorem zK7 {wd:List UInt8} (h:∀ j,j < 23→zV j≠wd):zC2 wd = -1:=by
 unfold zC2
 have:(List.range 23).find? (fun k=>decide (zV k=wd))=none:=by
  rw [List.find?_eq_none]
  intro k hk
  simpa using h k (List.mem_range.1 hk)
 rw [this]
theorem zKu (s:ByteArray) (w:World) (ht:Tab w):Calls Tryz.prog 165 #[.string s] w fun e w'=>e=.returned (.int .i64 (zC2 s.data.toList))∧Below w.heap.size w w':=by
 have FW:=zA zAL
 have HT:=zA ht
 clear ht
 go_enter Tryz.func165,Tryz.ntmps165
 go_upto_region 2 with (go_at_call 168;((with_reducible refine (FW.out _ (by decide +kernel) _ HT.out).mono ?_);rintro e w1 ⟨rfl,hb1,hc1⟩;have HB1:=zA hb1;have HC1:=zA hc1;clear hb1 hc1))
 have hbL:w.heap.size < w1.heap.size:=World.block_lt_of_cell? w1 _ (HC1.out 0 (by decide))
 go_wp2
 go_loopw [7] (fun i wr=>∃ k:Nat,k≤23∧i=.int .i64 k∧(∀ j,j < k→zV j≠s.data.toList)∧wr=w1) (fun i _=>23 - (intOf i).toNat)
 case atStart=>exact ⟨0,by omega,rfl,fun j hj=>by omega,rfl⟩
 case round =>
  obtain ⟨k,hk,rfl,hno,rfl⟩:=hrel
  have HNO:=zA hno
  clear hno
  by_cases hlt:k < 23
  ·have q0:(0:Int)≤k:=by omega
   have q1:(k:Int) < 23:=by omega
   have e0:=HC1.out k hlt
   generalize hx:(⟨(zV k).toArray⟩:ByteArray)=x at e0
   have hxl:x.data.toList=zV k:=by rw [←hx]
   by_cases he:zV k=s.data.toList
   ·have f:(x.toList==s.toList)=true:=by rw [zDj,hxl];simp [he]
    have hlk:=zJo hlt HNO.out he
    have HLK:=zA hlk
    clear he hlk hxl hx
    go_wp2
    go_ret
    exact ⟨zBR HLK.out.symm,HB1.out⟩
   ·have f:(x.toList==s.toList)=false:=by rw [zDj,hxl];simp [he]
    have hn:∀ j,j < k+1→zV j≠s.data.toList:=fun j hj=>by
     rcases Nat.lt_or_ge j k with h | h
     ·exact HNO.out j h
     ·obtain rfl:j=k:=by omega
      exact he
    have HN:=zA hn
    clear he hn hxl hx
    go_wp2
    go_roundw
    case rel=>exact ⟨k+1,by omega,by go_num,HN.out,by first | rfl | trivial⟩
    case measure=>simp [intOf];omega
  ·have q1:¬((k:Int) < 23):=by omega
   obtain rfl:k=23:=by omega
   have hlk:=zK7 HNO.out
   have HLK:=zA hlk
   clear hlk
   go_wp2
   go_ret
   exact ⟨zBR HLK.out.symm,HB1.out⟩
end
section
open Go.RowKit
open Go.Maps (Keyed)
def KeyRange (b r:Nat) (S:List KeyV) (left:Lit→Bool) (cnt:Nat) (W:World):Prop :=
 W.ranges Tryz.prog 54 (unitElem (H:=Unit)) b r S.length (zCJ S) left cnt∧∀ kl,left kl=true→Maps.has (zCJ S) kl=true
section
variable {b r:Nat} {S:List KeyV} {left:Lit→Bool} {cnt:Nat} {W W':World}
theorem KeyRange.below (h:KeyRange b r S left cnt W) (hb:Below W.heap.size W W'):KeyRange b r S left cnt W' :=
 ⟨h.1.kept (row:=none) ⟨hb.os,hb.tape,hb.output,hb.size,fun i hi _=>hb.block i hi⟩ (by simp) (by simp),h.2⟩
theorem zHw {kl:Lit} (h:Maps.has (zCJ S) kl=true):∃ y∈S,kl=zBb y:=by
 unfold zCJ at h
 rw [Maps.has_setOf _ _ _ (by intro x hx;obtain ⟨y,_,rfl⟩:=List.mem_map.1 hx;exact zB1 y),List.any_map,List.any_eq_true] at h
 obtain ⟨y,hy,hs⟩:=h
 exact ⟨y,hy,(WideAt.sameKey_eq (show (zBb y).sameKey kl=true from hs)).symm⟩
end
end
section
open Go.RowKit
open Go.Maps (Keyed)
end
section
open Go.RowKit
open Go.Maps (Keyed)
end
section
open El (cl)
open Go.RowKit
instance:El KeyV where
 k:=5
 cl v:=[.int .i64 v.perm,.int .i64 v.base,.int .i64 v.len,.int .i64 v.at_,.int .i64 v.seal_]
 z:=zeroK
 len _:=rfl
 one _:=by intro u hu;simp at hu;rcases hu with rfl | rfl | rfl | rfl | rfl<;>rfl
 pos:=by decide
end
end Go.Proofs.YtlpejagkadalbaaGreatDoor
