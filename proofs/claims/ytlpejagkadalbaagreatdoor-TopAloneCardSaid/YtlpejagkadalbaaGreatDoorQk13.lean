import Derived.Test.YtlpejagkadalbaaGreatDoorQk07
import Derived.Lib.SmallJoins
set_option maxHeartbeats 40000000
set_option maxRecDepth 100000
set_option linter.unusedVariables false
set_option linter.unusedSimpArgs false
namespace Go.Proofs.YtlpejagkadalbaaGreatDoor
section
open Go.RowKit
theorem zHB (p b l a s n:Int) (hn:I64 n) (w:World) :
  Calls Tryz.prog 172 #[.agg #[.int .i64 p,.int .i64 b,.int .i64 l,.int .i64 a,.int .i64 s],.int .i64 n] w
   fun e w'=>e=.returned (KeyV.res (zA6 ⟨p,b,l,a,s⟩ n))∧Below w.heap.size w w':=by
 obtain ⟨n0,n1⟩:=hn
 by_cases hp:zAc ⟨p,b,l,a,s⟩=0
 ·obtain ⟨hok,hs⟩:=(zCH _).1 hp
  obtain ⟨p0,p1,b0,b1,l0,l1,a0,a1,s0,s1⟩:=hok
  simp only at p0 p1 b0 b1 l0 l1 a0 a1 s0 s1 hs
  by_cases hc:b≤a∧inB n 0 (b+l - a)=true
  ·have hr:zA6 ⟨p,b,l,a,s⟩ n=(⟨p,a,n,a,s⟩,0):=by simp only [zA6,hp,if_true];rw [if_pos hc]
   obtain ⟨hc1,hc2⟩:=hc
   rw [hr]
   clear hr hs
   go_enter Tryz.func172,Tryz.ntmps172
   go_wp2_with (first
    | (go_at_call 55;refine (zBy _ _ _ _ _ _).mono ?_;rintro e w1 ⟨rfl,hb1⟩;obtain ⟨c1,f1,z1⟩:=zDE hb1;obtain ⟨k0,k1,k2,k3,k4⟩:=zCs hb1 (zEG _ _ _);obtain ⟨j0,j1,j2,j3,j4⟩:=zCs hb1 (zEF _ _ _);have y1:w.heap.size < w1.heap.size∧w.heap.size+1 < w1.heap.size:=⟨z1 _ (by simp;omega),z1 _ (by simp)⟩;obtain ⟨y2,y3⟩:=y1)
    | (go_at_call 57;refine (zAw _ _ _ _).mono ?_;rintro e w' ⟨rfl,rfl⟩))
   refine bodyPost_ret (v:=KeyV.res _) (by simp [results,Tryz.results172,go_sem,KeyV.res,zeroK, *];try rfl) rfl ⟨rfl,?_⟩
   repeat (first | with_reducible exact Below.refl _ _ | with_reducible refine zG ?_ _ | with_reducible refine zK ?_ (by first | omega | (simp;done) | (simp;omega)) _ | with_reducible refine zI ?_ ‹_›)
  ·have hr:zA6 ⟨p,b,l,a,s⟩ n=(zeroK,13):=by simp only [zA6,hp,if_true];rw [if_neg hc]
   rw [hr]
   clear hr hs
   by_cases hx:b≤a
   ·have hi:inB n 0 (b+l - a)=false:=by
     cases h:inB n 0 (b+l - a)
     ·rfl
     ·exact absurd ⟨hx,h⟩ hc
    clear hc
    go_enter Tryz.func172,Tryz.ntmps172
    go_wp2_with (first
     | (go_at_call 55;refine (zBy _ _ _ _ _ _).mono ?_;rintro e w1 ⟨rfl,hb1⟩;obtain ⟨c1,f1,z1⟩:=zDE hb1;obtain ⟨k0,k1,k2,k3,k4⟩:=zCs hb1 (zEG _ _ _);obtain ⟨j0,j1,j2,j3,j4⟩:=zCs hb1 (zEF _ _ _);have y1:w.heap.size < w1.heap.size∧w.heap.size+1 < w1.heap.size:=⟨z1 _ (by simp;omega),z1 _ (by simp)⟩;obtain ⟨y2,y3⟩:=y1)
     | (go_at_call 57;refine (zAw _ _ _ _).mono ?_;rintro e w' ⟨rfl,rfl⟩))
    refine bodyPost_ret (v:=KeyV.res _) (by simp [results,Tryz.results172,go_sem,KeyV.res,zeroK, *];try rfl) rfl ⟨rfl,?_⟩
    repeat (first | with_reducible exact Below.refl _ _ | with_reducible refine zG ?_ _ | with_reducible refine zK ?_ (by first | omega | (simp;done) | (simp;omega)) _ | with_reducible refine zI ?_ ‹_›)
   ·clear hc
    go_enter Tryz.func172,Tryz.ntmps172
    go_wp2_with (first
     | (go_at_call 55;refine (zBy _ _ _ _ _ _).mono ?_;rintro e w1 ⟨rfl,hb1⟩;obtain ⟨c1,f1,z1⟩:=zDE hb1;obtain ⟨k0,k1,k2,k3,k4⟩:=zCs hb1 (zEG _ _ _);obtain ⟨j0,j1,j2,j3,j4⟩:=zCs hb1 (zEF _ _ _);have y1:w.heap.size < w1.heap.size∧w.heap.size+1 < w1.heap.size:=⟨z1 _ (by simp;omega),z1 _ (by simp)⟩;obtain ⟨y2,y3⟩:=y1)
     | (go_at_call 57;refine (zAw _ _ _ _).mono ?_;rintro e w' ⟨rfl,rfl⟩))
    refine bodyPost_ret (v:=KeyV.res _) (by simp [results,Tryz.results172,go_sem,KeyV.res,zeroK, *];try rfl) rfl ⟨rfl,?_⟩
    repeat (first | with_reducible exact Below.refl _ _ | with_reducible refine zG ?_ _ | with_reducible refine zK ?_ (by first | omega | (simp;done) | (simp;omega)) _ | with_reducible refine zI ?_ ‹_›)
 ·have hr:zA6 ⟨p,b,l,a,s⟩ n=(zeroK,zAc ⟨p,b,l,a,s⟩):=by simp only [zA6];rw [if_neg hp]
  have hq:(zAc ⟨p,b,l,a,s⟩==0)=false:=by simp [hp]
  rw [hr]
  clear hr hp
  go_enter Tryz.func172,Tryz.ntmps172
  go_wp2_with (first
   | (go_at_call 55;refine (zBy _ _ _ _ _ _).mono ?_;rintro e w1 ⟨rfl,hb1⟩;obtain ⟨c1,f1,z1⟩:=zDE hb1;obtain ⟨k0,k1,k2,k3,k4⟩:=zCs hb1 (zEG _ _ _);obtain ⟨j0,j1,j2,j3,j4⟩:=zCs hb1 (zEF _ _ _);have y1:w.heap.size < w1.heap.size∧w.heap.size+1 < w1.heap.size:=⟨z1 _ (by simp;omega),z1 _ (by simp)⟩;obtain ⟨y2,y3⟩:=y1)
   | (go_at_call 57;refine (zAw _ _ _ _).mono ?_;rintro e w' ⟨rfl,rfl⟩))
  refine bodyPost_ret (v:=KeyV.res _) (by simp [results,Tryz.results172,go_sem,KeyV.res,zeroK, *];try rfl) rfl ⟨rfl,?_⟩
  repeat (first | with_reducible exact Below.refl _ _ | with_reducible refine zG ?_ _ | with_reducible refine zK ?_ (by first | omega | (simp;done) | (simp;omega)) _ | with_reducible refine zI ?_ ‹_›)
theorem zJR (p b l a s n:Int) (hn:I64 n) (w:World) :
  Calls Tryz.prog 171 #[.agg #[.int .i64 p,.int .i64 b,.int .i64 l,.int .i64 a,.int .i64 s],.int .i64 n] w
   fun e w'=>e=.returned (KeyV.res (zBm ⟨p,b,l,a,s⟩ n))∧Below w.heap.size w w':=by
 obtain ⟨n0,n1⟩:=hn
 by_cases hp:zAc ⟨p,b,l,a,s⟩=0
 ·obtain ⟨hok,hs⟩:=(zCH _).1 hp
  obtain ⟨p0,p1,b0,b1,l0,l1,a0,a1,s0,s1⟩:=hok
  simp only at p0 p1 b0 b1 l0 l1 a0 a1 s0 s1 hs
  by_cases hc:inB n (-a) (400 - a)=true
  ·have hr:zBm ⟨p,b,l,a,s⟩ n=(⟨p,b,l,a+n,s⟩,0):=by simp only [zBm,hp,if_true];rw [if_pos hc]
   obtain ⟨m0,m1⟩:=inB_iff.1 hc
   rw [hr]
   clear hr hs
   go_enter Tryz.func171,Tryz.ntmps171
   go_wp2_with (first
    | (go_at_call 55;refine (zBy _ _ _ _ _ _).mono ?_;rintro e w1 ⟨rfl,hb1⟩;obtain ⟨c1,f1,z1⟩:=zDE hb1;obtain ⟨k0,k1,k2,k3,k4⟩:=zCs hb1 (zEG _ _ _);obtain ⟨j0,j1,j2,j3,j4⟩:=zCs hb1 (zEF _ _ _);have y1:w.heap.size < w1.heap.size∧w.heap.size+1 < w1.heap.size:=⟨z1 _ (by simp;omega),z1 _ (by simp)⟩;obtain ⟨y2,y3⟩:=y1)
    | (go_at_call 57;refine (zAw _ _ _ _).mono ?_;rintro e w' ⟨rfl,rfl⟩))
   refine bodyPost_ret (v:=KeyV.res _) (by simp [results,Tryz.results171,go_sem,KeyV.res,zeroK, *];try rfl) rfl ⟨rfl,?_⟩
   repeat (first | with_reducible exact Below.refl _ _ | with_reducible refine zG ?_ _ | with_reducible refine zK ?_ (by first | omega | (simp;done) | (simp;omega)) _ | with_reducible refine zI ?_ ‹_›)
  ·have hr:zBm ⟨p,b,l,a,s⟩ n=(zeroK,13):=by simp only [zBm,hp,if_true];rw [if_neg hc]
   have hc2:inB n (-a) (400 - a)=false:=by simpa using hc
   clear hc
   rw [hr]
   clear hr hs
   go_enter Tryz.func171,Tryz.ntmps171
   go_wp2_with (first
    | (go_at_call 55;refine (zBy _ _ _ _ _ _).mono ?_;rintro e w1 ⟨rfl,hb1⟩;obtain ⟨c1,f1,z1⟩:=zDE hb1;obtain ⟨k0,k1,k2,k3,k4⟩:=zCs hb1 (zEG _ _ _);obtain ⟨j0,j1,j2,j3,j4⟩:=zCs hb1 (zEF _ _ _);have y1:w.heap.size < w1.heap.size∧w.heap.size+1 < w1.heap.size:=⟨z1 _ (by simp;omega),z1 _ (by simp)⟩;obtain ⟨y2,y3⟩:=y1)
    | (go_at_call 57;refine (zAw _ _ _ _).mono ?_;rintro e w' ⟨rfl,rfl⟩))
   refine bodyPost_ret (v:=KeyV.res _) (by simp [results,Tryz.results171,go_sem,KeyV.res,zeroK, *];try rfl) rfl ⟨rfl,?_⟩
   repeat (first | with_reducible exact Below.refl _ _ | with_reducible refine zG ?_ _ | with_reducible refine zK ?_ (by first | omega | (simp;done) | (simp;omega)) _ | with_reducible refine zI ?_ ‹_›)
 ·have hr:zBm ⟨p,b,l,a,s⟩ n=(zeroK,zAc ⟨p,b,l,a,s⟩):=by simp only [zBm];rw [if_neg hp]
  have hq:(zAc ⟨p,b,l,a,s⟩==0)=false:=by simp [hp]
  rw [hr]
  clear hr hp
  go_enter Tryz.func171,Tryz.ntmps171
  go_wp2_with (first
   | (go_at_call 55;refine (zBy _ _ _ _ _ _).mono ?_;rintro e w1 ⟨rfl,hb1⟩;obtain ⟨c1,f1,z1⟩:=zDE hb1;obtain ⟨k0,k1,k2,k3,k4⟩:=zCs hb1 (zEG _ _ _);obtain ⟨j0,j1,j2,j3,j4⟩:=zCs hb1 (zEF _ _ _);have y1:w.heap.size < w1.heap.size∧w.heap.size+1 < w1.heap.size:=⟨z1 _ (by simp;omega),z1 _ (by simp)⟩;obtain ⟨y2,y3⟩:=y1)
   | (go_at_call 57;refine (zAw _ _ _ _).mono ?_;rintro e w' ⟨rfl,rfl⟩))
  refine bodyPost_ret (v:=KeyV.res _) (by simp [results,Tryz.results171,go_sem,KeyV.res,zeroK, *];try rfl) rfl ⟨rfl,?_⟩
  repeat (first | with_reducible exact Below.refl _ _ | with_reducible refine zG ?_ _ | with_reducible refine zK ?_ (by first | omega | (simp;done) | (simp;omega)) _ | with_reducible refine zI ?_ ‹_›)
theorem zJp (p b l a s n:Int) (hn:I64 n) (w:World) :
  Calls Tryz.prog 173 #[.agg #[.int .i64 p,.int .i64 b,.int .i64 l,.int .i64 a,.int .i64 s],.int .i64 n] w
   fun e w'=>e=.returned (KeyV.res (zCF ⟨p,b,l,a,s⟩ n))∧Below w.heap.size w w':=by
 obtain ⟨n0,n1⟩:=hn
 by_cases hp:zAc ⟨p,b,l,a,s⟩=0
 ·obtain ⟨hok,hs⟩:=(zCH _).1 hp
  obtain ⟨p0,p1,b0,b1,l0,l1,a0,a1,s0,s1⟩:=hok
  simp only at p0 p1 b0 b1 l0 l1 a0 a1 s0 s1 hs
  have hr:zCF ⟨p,b,l,a,s⟩ n=(⟨zAN p n,b,l,a,s⟩,0):=by simp only [zCF,hp,if_true]
  have hand:bits .and .i64 p n=zAN p n:=zCJ p n
  rw [hr]
  clear hr hs
  go_enter Tryz.func173,Tryz.ntmps173
  go_wp2_with (first
   | (go_at_call 55;refine (zBy _ _ _ _ _ _).mono ?_;rintro e w1 ⟨rfl,hb1⟩;obtain ⟨c1,f1,z1⟩:=zDE hb1;obtain ⟨k0,k1,k2,k3,k4⟩:=zCs hb1 (zEG _ _ _);obtain ⟨j0,j1,j2,j3,j4⟩:=zCs hb1 (zEF _ _ _);have y1:w.heap.size < w1.heap.size∧w.heap.size+1 < w1.heap.size:=⟨z1 _ (by simp;omega),z1 _ (by simp)⟩;obtain ⟨y2,y3⟩:=y1)
   | (go_at_call 57;refine (zAw _ _ _ _).mono ?_;rintro e w' ⟨rfl,rfl⟩))
  refine bodyPost_ret (v:=KeyV.res _) (by simp [results,Tryz.results173,go_sem,KeyV.res,zeroK, *];try rfl) rfl ⟨rfl,?_⟩
  repeat (first | with_reducible exact Below.refl _ _ | with_reducible refine zG ?_ _ | with_reducible refine zK ?_ (by first | omega | (simp;done) | (simp;omega)) _ | with_reducible refine zI ?_ ‹_›)
 ·have hr:zCF ⟨p,b,l,a,s⟩ n=(zeroK,zAc ⟨p,b,l,a,s⟩):=by simp only [zCF];rw [if_neg hp]
  have hq:(zAc ⟨p,b,l,a,s⟩==0)=false:=by simp [hp]
  rw [hr]
  clear hr hp
  go_enter Tryz.func173,Tryz.ntmps173
  go_wp2_with (first
   | (go_at_call 55;refine (zBy _ _ _ _ _ _).mono ?_;rintro e w1 ⟨rfl,hb1⟩;obtain ⟨c1,f1,z1⟩:=zDE hb1;obtain ⟨k0,k1,k2,k3,k4⟩:=zCs hb1 (zEG _ _ _);obtain ⟨j0,j1,j2,j3,j4⟩:=zCs hb1 (zEF _ _ _);have y1:w.heap.size < w1.heap.size∧w.heap.size+1 < w1.heap.size:=⟨z1 _ (by simp;omega),z1 _ (by simp)⟩;obtain ⟨y2,y3⟩:=y1)
   | (go_at_call 57;refine (zAw _ _ _ _).mono ?_;rintro e w' ⟨rfl,rfl⟩))
  refine bodyPost_ret (v:=KeyV.res _) (by simp [results,Tryz.results173,go_sem,KeyV.res,zeroK, *];try rfl) rfl ⟨rfl,?_⟩
  repeat (first | with_reducible exact Below.refl _ _ | with_reducible refine zG ?_ _ | with_reducible refine zK ?_ (by first | omega | (simp;done) | (simp;omega)) _ | with_reducible refine zI ?_ ‹_›)
end
section
open Go.ChangeShapes Go.WideShapes Go.ChangeAt Go.RowKit
theorem own:ownKnob Tryz.prog.godebug=none:=by kernel_rfl
theorem zP9:laidOutB Tryz.prog=true:=by kernel_rfl
section
variable {H:Type} {enc:TypeId×Value→H} {P:Program}
theorem zIp {f:Func} {s:ChangeSpec} {apart fresh handsOn:Bool} {W W':World} {args:Array Value} {v:Value} {ds gs:List (DataW H)} {before pa pv:List MemPlace}
  (hW:DataW.Whole enc P f.params.toList s.vars apart W args.toList ds gs before)
  (hres:∀ (b:Nat) (sp:Nat→Bool) (hd:Bool),DataW.TrodAll enc P W' b sp hd f.resultTypes.toList (v.resultList f.resultTypes.size) (s.fn H (ds++gs)).results [])
  (hargs:DataW.TrodAll enc P W' 0 (fun b=>decide (b < W.heap.size)) true f.params.toList args.toList (s.fn H (ds++gs)).args pa)
  (hvars:DataW.TrodVars enc P W' (fun b=>decide (b < W.heap.size)) s.vars (s.fn H (ds++gs)).vars pv)
  (hps:before=pa++pv) (hb:Below W.heap.size W W') :
  s.post enc P f apart fresh handsOn false W args v W':=by
 refine ⟨ds,gs,before,[],pa,pv,hW,hres _ _ _,hargs,hvars,World.keptBut_mono (fun p hp=>⟨hp,?_⟩) (hb.frame (· ∈ before)),fun h=>by cases h⟩
 rw [hps,List.mem_append] at hp
 exact Or.inr hp
theorem zFO {W W':World} (hl:laidOutB P=true) (hb:Below W.heap.size W W'):∀ {ts:List TypeId} {vs:List Value} {ds:List (DataW H)} {ps:List MemPlace},
  (∀ t∈ts,P.readableRec t=true∧t < P.types.size)→DataW.TrodAll enc P W 0 (fun _=>true) true ts vs ds ps→(∀ x∈ps,x.block < W.heap.size) →
  DataW.TrodAll enc P W' 0 (fun b=>decide (b < W.heap.size)) true ts vs ds ps
 | [],vs,ds,ps,_,h,_=>by
  obtain ⟨rfl,rfl,rfl⟩:=trodAll_nil h
  exact trodAll_mk0
 | t::ts,vs,ds,ps,ht,h,hp=>by
  obtain ⟨v0,vs0,d0,ds0,p0,q0,rfl,rfl,rfl,h0,r0⟩:=trodAll_cons h
  obtain ⟨h1,h2⟩:=ht t (by simp)
  exact trodAll_cons_mk (Below.trod hl h1 h2 h0 hb (fun x hx=>hp x (by simp [hx]))) (zFO hl hb (fun t' ht'=>ht t' (by simp [ht'])) r0 (fun x hx=>hp x (by simp [hx])))
end
theorem zGh {H:Type} {enc:TypeId×Value→H} {f:Func} {s:ChangeSpec} {W W':World} {args:Array Value} {ds:List (DataW H)} {p:List MemPlace}
  (hW:DataW.Whole enc Tryz.prog f.params.toList s.vars false W args.toList ds [] p)
  (hA:DataW.TrodAll enc Tryz.prog W 0 (fun _=>true) true f.params.toList args.toList ds p)
  (hr:f.resultTypes=#[4]) (hv:s.vars=[]) (hs:s.fn H (ds++[])={results:=[.lit (.bool true)],args:=ds})
  (hp:(f.params.toList.all fun t=>Tryz.prog.readableRec t&&decide (t < Tryz.prog.types.size))=true)
  (hb:Below W.heap.size W W') :
  s.post enc Tryz.prog f false true false false W args (.bool true) W':=by
 have hlt:∀ x∈p,x.block < W.heap.size:=fun x hx=>by simpa using hW.lt x hx
 refine zIp (pa:=p) (pv:=[]) (gs:=[]) hW (fun b sp hd=>?_) ?_ ?_ (by simp) hb
 ·rw [hs,hr]
  exact trodAll_cons_mk (shut_bool Tryz.underlying4 _) trodAll_mk0
 ·rw [hs]
  refine zFO zP9 hb (fun t ht=>?_) hA hlt
  have:=List.all_eq_true.1 hp t ht
  simpa using this
 ·rw [hs,hv]
  exact rfl
end
section
open Go.Joins Go.ChangeShapes Go.WideShapes Go.ChangeAt Go.RowKit Go.Deep
section
variable {H:Type} {enc:TypeId×Value→H} {w:World} {base:Nat} {spare:Nat→Bool} {held:Bool}
end
end
section
open Go.Joins Go.ChangeShapes Go.WideShapes Go.ChangeAt Go.RowKit Go.Deep
section
variable {H:Type} {enc:TypeId×Value→H} {w:World} {base:Nat} {spare:Nat→Bool} {held:Bool}
end
end
section
open El (cl)
open Go.Joins Go.ChangeShapes Go.WideShapes Go.ChangeAt Go.RowKit Go.Deep
structure SlV (α:Type) where
 ao:Option Addr
 n:Nat
 cap:Nat
 vs:List α
def SlV.val {α:Type} (x:SlV α):Value:=.slice x.ao x.n x.cap
structure SlV.ok {α:Type} [El α] (P:α→Prop) (w:World) (x:SlV α):Prop where
 sl:Sl w x.ao x.n x.vs
 wf:∀ v∈x.vs,P v
 le:x.n≤x.cap
section
variable {α:Type} [El α]
theorem zFz {w:World} {a:Addr}:∀ {xs:List α},(∀ i x,xs[i]?=some x→∀ j,j < El.k α→w.cell? (a.add (i*El.k α+j))=(cl x)[j]?)→∀ j u,(cls xs)[j]?=some u→w.cell? (a.add j)=some u:=by
 intro xs h j u hu
 have hk:0 < El.k α:=El.pos
 have hj:j < xs.length*El.k α:=by
  rw [←zBf]
  exact (List.getElem?_eq_some_iff.1 hu).1
 have hd:j / El.k α < xs.length:=Nat.div_lt_of_lt_mul (by rw [Nat.mul_comm];exact hj)
 have hm:j % El.k α < El.k α:=Nat.mod_lt _ hk
 have e:j / El.k α*El.k α+j % El.k α=j:=Nat.div_add_mod' _ _
 have h1:=zEa xs (j / El.k α) hd (j % El.k α) hm
 rw [e,hu] at h1
 have h2:=h (j / El.k α) _ (List.getElem?_eq_getElem hd) _ hm
 rw [e] at h2
 rw [h2,h1]
end
section
variable {H:Type} {enc:TypeId×Value→H} {w:World} {spare:Nat→Bool} {held:Bool}
theorem zGf {α:Type} [El α] [Inhabited α] {r:Reach} {b0:Nat} {t e:TypeId} {v:Value} {d:DataW H} {p:List MemPlace} {Q:α→Prop} (ht:Tryz.prog.underlying t=some (.slice e)) (hk:Tryz.prog.cellsOf e=El.k α)
  (el:∀ fuel cs x,DataW.trod enc Tryz.prog w 0 spare held fuel e cs=some x→cs.length=El.k α→∃ y:α,cs=cl y∧Q y)
  (hv:Value.okWide Tryz.prog w r b0 t v) (h:DataW.Trod enc Tryz.prog w 0 spare held t v d p):∃ x:SlV α,v=x.val∧x.ok Q w∧(x.n=0∨∃ es sp,d=.slice es sp∧es.length=x.n):=by
 obtain ⟨a0,len,cap,rfl⟩:=okWide_slice ht hv
 obtain ⟨fuel,hf⟩:=h
 rcases open_slice ht hf with ⟨hcs,_⟩ | ⟨a,len',cap',m,n,D,Pl,hcs,hb,hl,hm,hmm,hx,hi⟩
 ·simp [Value.cells] at hcs
  obtain ⟨rfl,rfl,rfl⟩:=hcs
  exact ⟨⟨none,0,0,[]⟩,rfl,⟨Sl.nil _ _,fun v hv=>by simp at hv,Nat.le_refl _⟩,.inl rfl⟩
 ·simp [Value.cells] at hcs
  obtain ⟨rfl,rfl,rfl⟩:=hcs
  have hlm:len≤m:=by rw [hmm];split<;>omega
  obtain ⟨f,hf⟩:=choose_lt (α:=α) (n:=len) (p:=fun i y=>(∀ j,j < El.k α→w.cell? (a.add (i*El.k α+j))=(cl y)[j]?)∧Q y) (fun i hil=>by
   obtain ⟨cs',h1,h2⟩:=hi i (by omega)
   rw [hk] at h1
   obtain ⟨_,hcl,hat⟩:=World.cells?_some h1
   obtain ⟨y,rfl,hy⟩:=el n cs' _ h2 hcl
   exact ⟨y,fun j hj=>by rw [←Go.Deep.add_add];exact hat j hj,hy⟩)
  have hcells:∀ j u,(cls ((List.range len).map f))[j]?=some u→w.cell? (a.add j)=some u:=zFz (fun i x hx j hj=>by
   rw [List.getElem?_map] at hx
   have hil:i < len:=by
    rcases Nat.lt_or_ge i len with h | h
    ·exact h
    ·rw [List.getElem?_eq_none (by simpa using h)] at hx;cases hx
   rw [List.getElem?_range hil] at hx
   simp at hx
   subst hx
   exact (hf i hil).1 j hj)
  simp only [Prod.mk.injEq] at hx
  refine ⟨⟨some a,len,cap,(List.range len).map f⟩,rfl,⟨⟨by simp,Nat.le_trans hl hm,fun hn=>⟨a,rfl,?_,hcells⟩⟩,fun v hv=>?_,hl⟩,.inr ⟨_,_,hx.1,by simp⟩⟩
  ·have h0:=(hf 0 hn).1 0 El.pos
   have hl0:0 < (cl (f 0)).length:=by rw [El.len];exact El.pos
   rw [List.getElem?_eq_getElem hl0] at h0
   have:=World.block_lt_of_cell? w _ h0
   rw [zBL] at this
   exact this
  ·obtain ⟨i,hi1,rfl⟩:=List.mem_map.1 hv
   exact (hf i (List.mem_range.1 hi1)).2
end
theorem zH9 {H:Type} {ts:List TypeId} {ds:List (DataW H)} {j:Nat} {t e:TypeId} {d:DataW H} {n b:Nat} (h:(DataW.weightsEach Tryz.prog ts ds).all (· ≤ reachBytes)=true) (ht:ts[j]?=some t) (hd:ds[j]?=some d) (hu:Tryz.prog.underlying t=some (.slice e)) (hb:Tryz.prog.bytesOf e=b)
  (hs:n=0∨∃ es sp,d=.slice es sp∧es.length=n):n*b≤140737488351232:=by
 rcases hs with h0 | ⟨es,sp,rfl,rfl⟩
 ·subst h0;omega
 ·have:=sized_slice h ht hd hu
  rw [hb,Nat.add_mul] at this
  unfold reachBytes at this
  omega
end
section
open El (cl)
open Go.Joins Go.ChangeShapes Go.WideShapes Go.ChangeAt Go.RowKit Go.Deep
structure MachA where
 R:List ValV
 c:KeyV
 mem:List ValV
 stk:List FrameV
 out:List Int
 ma:Option Addr
 sa:Option Addr
 oa:Option Addr
 mc:Nat
 sc:Nat
 oc:Nat
def MachA.val (x:MachA):Value:=.agg (mcs x.R x.c (.slice x.ma x.mem.length x.mc) (.slice x.sa x.stk.length x.sc) (.slice x.oa x.out.length x.oc))
structure MachA.ok (w:World) (x:MachA):Prop where
 h8:x.R.length=8
 mem:Sl w x.ma x.mem.length x.mem
 stk:Sl w x.sa x.stk.length x.stk
 out:Sl w x.oa x.out.length x.out
 wR:∀ v∈x.R,v.wf
 wc:x.c.wf
 wm:∀ v∈x.mem,v.wf
 ws:∀ f∈x.stk,f.wf
 wo:∀ n∈x.out,I64 n
section
variable {H:Type} {enc:TypeId×Value→H} {w:World} {spare:Nat→Bool} {held:Bool}
theorem zC6 {α:Type} [El α] [Inhabited α] {t e:TypeId} {u:Value} {fuel0:Nat} {x0:DataW H×List MemPlace} {Q:α→Prop} (ht:Tryz.prog.underlying t=some (.slice e)) (hk:Tryz.prog.cellsOf e=El.k α)
  (el:∀ fuel cs x,DataW.trod enc Tryz.prog w 0 spare held fuel e cs=some x→cs.length=El.k α→∃ y:α,cs=cl y∧Q y)
  (hf:DataW.trod enc Tryz.prog w 0 spare held fuel0 t [u]=some x0):∃ x:SlV α,u=x.val∧x.ok Q w∧(x.n=0∨∃ es sp,x0.1=.slice es sp∧es.length=x.n):=by
 rcases open_slice ht hf with ⟨hcs,_⟩ | ⟨a,len,cap,m,n,D,Pl,hcs,hb,hl,hm,hmm,hx,hi⟩
 ·simp at hcs
  subst hcs
  exact ⟨⟨none,0,0,[]⟩,rfl,⟨Sl.nil _ _,fun v hv=>by simp at hv,Nat.le_refl _⟩,.inl rfl⟩
 ·simp at hcs
  subst hcs
  have hlm:len≤m:=by rw [hmm];split<;>omega
  obtain ⟨f,hf⟩:=choose_lt (α:=α) (n:=len) (p:=fun i y=>(∀ j,j < El.k α→w.cell? (a.add (i*El.k α+j))=(cl y)[j]?)∧Q y) (fun i hil=>by
   obtain ⟨cs',h1,h2⟩:=hi i (by omega)
   rw [hk] at h1
   obtain ⟨_,hcl,hat⟩:=World.cells?_some h1
   obtain ⟨y,rfl,hy⟩:=el n cs' _ h2 hcl
   exact ⟨y,fun j hj=>by rw [←Go.Deep.add_add];exact hat j hj,hy⟩)
  have hcells:∀ j u,(cls ((List.range len).map f))[j]?=some u→w.cell? (a.add j)=some u:=zFz (fun i x hx j hj=>by
   rw [List.getElem?_map] at hx
   have hil:i < len:=by
    rcases Nat.lt_or_ge i len with h | h
    ·exact h
    ·rw [List.getElem?_eq_none (by simpa using h)] at hx;cases hx
   rw [List.getElem?_range hil] at hx
   simp at hx
   subst hx
   exact (hf i hil).1 j hj)
  refine ⟨⟨some a,len,cap,(List.range len).map f⟩,rfl,⟨⟨by simp,Nat.le_trans hl hm,fun hn=>⟨a,rfl,?_,hcells⟩⟩,fun v hv=>?_,hl⟩,.inr ⟨_,_,by rw [hx],by simp⟩⟩
  ·have h0:=(hf 0 hn).1 0 El.pos
   have hl0:0 < (cl (f 0)).length:=by rw [El.len];exact El.pos
   rw [List.getElem?_eq_getElem hl0] at h0
   have:=World.block_lt_of_cell? w _ h0
   rw [zBL] at this
   exact this
  ·obtain ⟨i,hi1,rfl⟩:=List.mem_map.1 hv
   exact (hf i (List.mem_range.1 hi1)).2
end
end
end Go.Proofs.YtlpejagkadalbaaGreatDoor
