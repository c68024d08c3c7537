import Derived.Test.YtlpejagkadalbaaGreatDoorZk12
set_option maxHeartbeats 40000000
set_option maxRecDepth 100000
set_option linter.unusedVariables false
set_option linter.unusedSimpArgs false
namespace Go.Proofs.YtlpejagkadalbaaGreatDoor
open Go.RowKit
theorem zJE {w:World} {a:Addr} {n:Nat} {vs:List ValV} (h:Sl w (some a) n vs) {i:Nat} (hi:i < n):zGE w (a.add (i*7)) (vs.getD i zeroV):=by
 obtain ⟨b,e,_,hv⟩:=zEl h hi
 injection e with e
 exact e▸hv
theorem zHo (ao:Option Addr) (n cap:Nat) (vs:List ValV) (p b l a s off:Int) (hw:KeyV.wf ⟨p,b,l,a,s⟩) (hoff:I64 off) (w:World) (h:Sl w ao n vs) :
  Calls Tryz.prog 169 #[.slice ao n cap,.agg #[.int .i64 p,.int .i64 b,.int .i64 l,.int .i64 a,.int .i64 s],.int .i64 off] w
   fun e w'=>e=.returned (.tuple #[(zCD vs ⟨p,b,l,a,s⟩ off).1.val,.int .i64 (zCD vs ⟨p,b,l,a,s⟩ off).2])∧Below w.heap.size w w':=by
 have at_:=fun W=>zGM ao n cap p b l a s off 1 hw hoff h.max W
 have hand:bits .and .i64 p 8=zAM p 8:=zBq p 8
 have hm:=h.max
 unfold maxLen at hm
 have hl:=h.len
 subst hl
 by_cases he:(atF vs.length ⟨p,b,l,a,s⟩ off 1).2=0
 ·obtain ⟨v1,v2,v3⟩:=zEM he
  rw [he,v1] at at_
  simp only at v1 v2 v3
  obtain ⟨j,hj⟩:=Int.eq_ofNat_of_zero_le v2
  have hjn:j < vs.length:=by omega
  have hjt:(a+off).toNat=j:=by omega
  rw [zGP he hj]
  rw [hj] at at_
  have AT:=zA at_
  obtain ⟨ad,rfl,hab,_⟩:=zEl h hjn
  have hS:∀ W,Below w.heap.size w W→zGE W (ad.add (j*7)) (vs.getD j zeroV):=fun W hb=>zJE (h.below hb) hjn
  generalize vs.getD j zeroV=x at *
  obtain ⟨xi,xn,xp,xb,xl,xa,xs⟩:=x
  have HS:=zA hS
  clear hS at_ he v1 hj hjt h
  cases xi
  ·simp only [Bool.false_eq_true,false_and,if_false]
   go_enter Tryz.func169,Tryz.ntmps169
   go_wp2_with (go_at_call 106;((with_reducible refine (AT.out _).mono ?_);rintro e w1 ⟨rfl,hb1⟩;have kB:Bk w1 (w.heap.size) 54 #[.int .i64 p,.int .i64 b,.int .i64 l,.int .i64 a,.int .i64 s]:=zH hb1 (by repeat (first | assumption | with_reducible exact zM _ _ _ | (with_reducible refine zO _ _ ?_;simp;done) | with_reducible refine zP ?_ | with_reducible refine bk_drewN _ ?_ | with_reducible refine zN _ ?_ | (with_reducible refine zU _ (by omega) ?_) | with_reducible apply zT | rfl));(try clear k0 k1 k2 k3 k4);obtain ⟨k0,k1,k2,k3,k4⟩:=zQ kB;have kL:=kB.lt;have zB:Bk w1 (w.heap.size+1) 56 #[.bool false,.int .i64 0,.int .i64 0,.int .i64 0,.int .i64 0,.int .i64 0,.int .i64 0]:=zH hb1 (by repeat (first | assumption | with_reducible exact zM _ _ _ | (with_reducible refine zO _ _ ?_;simp;done) | with_reducible refine zP ?_ | with_reducible refine bk_drewN _ ?_ | with_reducible refine zN _ ?_ | (with_reducible refine zU _ (by omega) ?_) | with_reducible apply zT | rfl));(try clear z0 z1 z2 z3 z4 z5 z6);obtain ⟨z0,z1,z2,z3,z4,z5,z6⟩:=zBs zB;have zL:=zB.lt;have zF:=fun i=>Bk.frozen zB i;obtain ⟨m0,m1,m2,m3,m4,m5,m6⟩:=HS.out _ (show Below w.heap.size w w1 from zI (zG (zG (Below.refl _ _) _) _) hb1);simp only at m0 m1 m2 m3 m4 m5 m6))
   refine bodyPost_ret (v:=.tuple #[.agg #[.bool false,.int .i64 xn,.int .i64 xp,.int .i64 xb,.int .i64 xl,.int .i64 xa,.int .i64 xs],.int .i64 0]) (by simp [results,Tryz.results169,go_sem,zeroV,zeroK,ValV.val, *];try rfl) rfl ⟨rfl,?_⟩
   repeat (first | with_reducible exact Below.refl _ _ | with_reducible refine zG ?_ _ | with_reducible refine zJ ?_ | with_reducible refine zBE ?_ _ | with_reducible refine zK ?_ (by first | omega | (simp;done) | (simp;omega)) _ | with_reducible refine zI ?_ ‹_›)
  ·by_cases h8:zAM p 8=0
   ·have g8:(zAM p 8==0)=true:=by simp [h8]
    rw [if_pos ⟨rfl,h8⟩]
    have H8:=zA h8
    clear h8
    go_enter Tryz.func169,Tryz.ntmps169
    go_wp2_with (go_at_call 106;((with_reducible refine (AT.out _).mono ?_);rintro e w1 ⟨rfl,hb1⟩;have kB:Bk w1 (w.heap.size) 54 #[.int .i64 p,.int .i64 b,.int .i64 l,.int .i64 a,.int .i64 s]:=zH hb1 (by repeat (first | assumption | with_reducible exact zM _ _ _ | (with_reducible refine zO _ _ ?_;simp;done) | with_reducible refine zP ?_ | with_reducible refine bk_drewN _ ?_ | with_reducible refine zN _ ?_ | (with_reducible refine zU _ (by omega) ?_) | with_reducible apply zT | rfl));(try clear k0 k1 k2 k3 k4);obtain ⟨k0,k1,k2,k3,k4⟩:=zQ kB;have kL:=kB.lt;have zB:Bk w1 (w.heap.size+1) 56 #[.bool false,.int .i64 0,.int .i64 0,.int .i64 0,.int .i64 0,.int .i64 0,.int .i64 0]:=zH hb1 (by repeat (first | assumption | with_reducible exact zM _ _ _ | (with_reducible refine zO _ _ ?_;simp;done) | with_reducible refine zP ?_ | with_reducible refine bk_drewN _ ?_ | with_reducible refine zN _ ?_ | (with_reducible refine zU _ (by omega) ?_) | with_reducible apply zT | rfl));(try clear z0 z1 z2 z3 z4 z5 z6);obtain ⟨z0,z1,z2,z3,z4,z5,z6⟩:=zBs zB;have zL:=zB.lt;have zF:=fun i=>Bk.frozen zB i;obtain ⟨m0,m1,m2,m3,m4,m5,m6⟩:=HS.out _ (show Below w.heap.size w w1 from zI (zG (zG (Below.refl _ _) _) _) hb1);simp only at m0 m1 m2 m3 m4 m5 m6))
    refine bodyPost_ret (v:=.tuple #[.agg #[.bool false,.int .i64 0,.int .i64 0,.int .i64 0,.int .i64 0,.int .i64 0,.int .i64 0],.int .i64 0]) (by simp [results,Tryz.results169,go_sem,zeroV,zeroK,ValV.val, *];try rfl) rfl ⟨rfl,?_⟩
    repeat (first | with_reducible exact Below.refl _ _ | with_reducible refine zG ?_ _ | with_reducible refine zJ ?_ | with_reducible refine zBE ?_ _ | with_reducible refine zK ?_ (by first | omega | (simp;done) | (simp;omega)) _ | with_reducible refine zI ?_ ‹_›)
   ·have g8:(zAM p 8==0)=false:=by simp [h8]
    rw [if_neg (by rintro ⟨_,h⟩;exact h8 h)]
    clear h8
    go_enter Tryz.func169,Tryz.ntmps169
    go_wp2_with (go_at_call 106;((with_reducible refine (AT.out _).mono ?_);rintro e w1 ⟨rfl,hb1⟩;have kB:Bk w1 (w.heap.size) 54 #[.int .i64 p,.int .i64 b,.int .i64 l,.int .i64 a,.int .i64 s]:=zH hb1 (by repeat (first | assumption | with_reducible exact zM _ _ _ | (with_reducible refine zO _ _ ?_;simp;done) | with_reducible refine zP ?_ | with_reducible refine bk_drewN _ ?_ | with_reducible refine zN _ ?_ | (with_reducible refine zU _ (by omega) ?_) | with_reducible apply zT | rfl));(try clear k0 k1 k2 k3 k4);obtain ⟨k0,k1,k2,k3,k4⟩:=zQ kB;have kL:=kB.lt;have zB:Bk w1 (w.heap.size+1) 56 #[.bool false,.int .i64 0,.int .i64 0,.int .i64 0,.int .i64 0,.int .i64 0,.int .i64 0]:=zH hb1 (by repeat (first | assumption | with_reducible exact zM _ _ _ | (with_reducible refine zO _ _ ?_;simp;done) | with_reducible refine zP ?_ | with_reducible refine bk_drewN _ ?_ | with_reducible refine zN _ ?_ | (with_reducible refine zU _ (by omega) ?_) | with_reducible apply zT | rfl));(try clear z0 z1 z2 z3 z4 z5 z6);obtain ⟨z0,z1,z2,z3,z4,z5,z6⟩:=zBs zB;have zL:=zB.lt;have zF:=fun i=>Bk.frozen zB i;obtain ⟨m0,m1,m2,m3,m4,m5,m6⟩:=HS.out _ (show Below w.heap.size w w1 from zI (zG (zG (Below.refl _ _) _) _) hb1);simp only at m0 m1 m2 m3 m4 m5 m6))
    refine bodyPost_ret (v:=.tuple #[.agg #[.bool true,.int .i64 xn,.int .i64 xp,.int .i64 xb,.int .i64 xl,.int .i64 xa,.int .i64 xs],.int .i64 0]) (by simp [results,Tryz.results169,go_sem,zeroV,zeroK,ValV.val, *];try rfl) rfl ⟨rfl,?_⟩
    repeat (first | with_reducible exact Below.refl _ _ | with_reducible refine zG ?_ _ | with_reducible refine zJ ?_ | with_reducible refine zBE ?_ _ | with_reducible refine zK ?_ (by first | omega | (simp;done) | (simp;omega)) _ | with_reducible refine zI ?_ ‹_›)
 ·rw [zMe he]
  have g:((atF vs.length ⟨p,b,l,a,s⟩ off 1).2==0)=false:=by simpa using he
  have g':((atF vs.length ⟨p,b,l,a,s⟩ off 1).2 != 0)=true:=by simpa using he
  generalize (atF vs.length ⟨p,b,l,a,s⟩ off 1).2=c at *
  generalize (atF vs.length ⟨p,b,l,a,s⟩ off 1).1=r at *
  have AT:=zA at_
  clear at_ he
  go_enter Tryz.func169,Tryz.ntmps169
  go_wp2_with (go_at_call 106;((with_reducible refine (AT.out _).mono ?_);rintro e w1 ⟨rfl,hb1⟩;have kB:Bk w1 (w.heap.size) 54 #[.int .i64 p,.int .i64 b,.int .i64 l,.int .i64 a,.int .i64 s]:=zH hb1 (by repeat (first | assumption | with_reducible exact zM _ _ _ | (with_reducible refine zO _ _ ?_;simp;done) | with_reducible refine zP ?_ | with_reducible refine bk_drewN _ ?_ | with_reducible refine zN _ ?_ | (with_reducible refine zU _ (by omega) ?_) | with_reducible apply zT | rfl));(try clear k0 k1 k2 k3 k4);obtain ⟨k0,k1,k2,k3,k4⟩:=zQ kB;have kL:=kB.lt;have zB:Bk w1 (w.heap.size+1) 56 #[.bool false,.int .i64 0,.int .i64 0,.int .i64 0,.int .i64 0,.int .i64 0,.int .i64 0]:=zH hb1 (by repeat (first | assumption | with_reducible exact zM _ _ _ | (with_reducible refine zO _ _ ?_;simp;done) | with_reducible refine zP ?_ | with_reducible refine bk_drewN _ ?_ | with_reducible refine zN _ ?_ | (with_reducible refine zU _ (by omega) ?_) | with_reducible apply zT | rfl));(try clear z0 z1 z2 z3 z4 z5 z6);obtain ⟨z0,z1,z2,z3,z4,z5,z6⟩:=zBs zB;have zL:=zB.lt;have zF:=fun i=>Bk.frozen zB i))
  refine bodyPost_ret (v:=.tuple #[.agg #[.bool false,.int .i64 0,.int .i64 0,.int .i64 0,.int .i64 0,.int .i64 0,.int .i64 0],.int .i64 c]) (by simp [results,Tryz.results169,go_sem,zeroV,zeroK,ValV.val, *];try rfl) rfl ⟨rfl,?_⟩
  repeat (first | with_reducible exact Below.refl _ _ | with_reducible refine zG ?_ _ | with_reducible refine zJ ?_ | with_reducible refine zBE ?_ _ | with_reducible refine zK ?_ (by first | omega | (simp;done) | (simp;omega)) _ | with_reducible refine zI ?_ ‹_›)
def zCq (w:World) (base:Nat) (ao:Option Addr) (n cap:Nat) (vs:List ValV) (k:KeyV) (off:Int) (x:ValV) (e:Ending) (w':World):Prop :=
 e=.returned (.int .i64 (zDB n k off x))∧Own w' base 56 (.slice ao n cap) (if zDB n k off x=0 then zBN vs k off x else vs)∧w.grownBy w' (Value.ownBlock (.slice ao n cap))
theorem zCd {w w':World} (h:Below w.heap.size w w') (row:Option Nat):w.grownBy w' row:=⟨h.os,h.tape,h.output,h.size,fun i hi _=>h.block i hi⟩
theorem zHm (base:Nat) (ao:Option Addr) (n cap:Nat) (vs:List ValV) (p b l a s off:Int) (xi:Bool) (xn xp xb xl xa xs:Int) (hw:KeyV.wf ⟨p,b,l,a,s⟩) (hoff:I64 off) (w:World) (h:Own w base 56 (.slice ao n cap) vs) (hl:vs.length=n) :
  Calls Tryz.prog 170 #[.slice ao n cap,.agg #[.int .i64 p,.int .i64 b,.int .i64 l,.int .i64 a,.int .i64 s],.int .i64 off,.agg #[.bool xi,.int .i64 xn,.int .i64 xp,.int .i64 xb,.int .i64 xl,.int .i64 xa,.int .i64 xs]] w (zCq w base ao n cap vs ⟨p,b,l,a,s⟩ off ⟨xi,xn,⟨xp,xb,xl,xa,xs⟩⟩):=by
 subst hl
 have hmx:vs.length≤maxLen:=by
  rcases h.form with ⟨_,rfl⟩ | ⟨g,c,_,_,_,h4,h5⟩
  ·simp [maxLen]
  ·omega
 have at_:=fun W=>zGM ao vs.length cap p b l a s off 2 hw hoff hmx W
 have hand:bits .and .i64 p 16=zAM p 16:=zBq p 16
 have hm:=hmx
 unfold maxLen at hm
 by_cases he:(atF vs.length ⟨p,b,l,a,s⟩ off 2).2=0
 ·obtain ⟨v1,v2,v3⟩:=zEM he
  rw [he,v1] at at_
  simp only at v1 v2 v3
  obtain ⟨j,hj⟩:=Int.eq_ofNat_of_zero_le v2
  have hjn:j < vs.length:=by omega
  have hjt:(a+off).toNat=j:=by omega
  have hpe:=zNW (v:=⟨xi,xn,⟨xp,xb,xl,xa,xs⟩⟩) he
  have hstore:zBN vs ⟨p,b,l,a,s⟩ off ⟨xi,xn,⟨xp,xb,xl,xa,xs⟩⟩=vs.set j ⟨xi,xn,⟨xp,xb,xl,xa,xs⟩⟩:=by unfold zBN;simp only [hjt]
  unfold zCq
  rw [hj] at at_
  have AT:=zA at_
  obtain ⟨g,c,hao,hg1,hg2,hg3,hg4⟩:∃ g c,(Value.slice ao vs.length cap)=.slice (some ⟨g,0,none⟩) vs.length c∧base≤g∧g < w.heap.size∧vs.length≤c∧c≤maxLen:=by
   rcases h.form with ⟨_,rfl⟩ | h
   ·simp at hjn
   ·exact h
  injection hao with hao _ hcc
  subst hao hcc
  have hS:∀ W,Below w.heap.size w W→zGE W (Addr.add ⟨g,0,none⟩ (j*7)) (vs.getD j zeroV)∧∀ i,W.frozen? ⟨g,i,none⟩=false:=fun W hb=>by
   have hh:=h.below hb
   obtain ⟨ao',c',e,hsl,_⟩:=hh.sl
   injection e with e _ _
   subst e
   exact ⟨zJE hsl hjn,fun i=>hh.frozen rfl i⟩
  have HS:=zA hS
  have HO:=zA h
  clear hS at_ he v1 hj hjt h
  simp only [hstore,hpe]
  clear hstore hpe
  cases xi
  ·simp only [Bool.false_eq_true,false_and,if_false,if_true]
   go_enter Tryz.func170,Tryz.ntmps170
   go_wp2_with (go_at_call 106;((with_reducible refine (AT.out _).mono ?_);rintro e w1 ⟨rfl,hb1⟩;have kB:Bk w1 (w.heap.size) 54 #[.int .i64 p,.int .i64 b,.int .i64 l,.int .i64 a,.int .i64 s]:=zH hb1 (by repeat (first | assumption | with_reducible exact zM _ _ _ | (with_reducible refine zO _ _ ?_;simp;done) | with_reducible refine zP ?_ | with_reducible refine bk_drewN _ ?_ | with_reducible refine zN _ ?_ | (with_reducible refine zU _ (by omega) ?_) | with_reducible apply zT | rfl));(try clear k0 k1 k2 k3 k4);obtain ⟨k0,k1,k2,k3,k4⟩:=zQ kB;have kL:=kB.lt;have xB:Bk w1 (w.heap.size+1) 56 #[.bool false,.int .i64 xn,.int .i64 xp,.int .i64 xb,.int .i64 xl,.int .i64 xa,.int .i64 xs]:=zH hb1 (by repeat (first | assumption | with_reducible exact zM _ _ _ | (with_reducible refine zO _ _ ?_;simp;done) | with_reducible refine zP ?_ | with_reducible refine bk_drewN _ ?_ | with_reducible refine zN _ ?_ | (with_reducible refine zU _ (by omega) ?_) | with_reducible apply zT | rfl));(try clear x0 x1 x2 x3 x4 x5 x6);obtain ⟨x0,x1,x2,x3,x4,x5,x6⟩:=zBs xB;have xL:=xB.lt;have hB:Below w.heap.size w w1:=zI (zG (zG (Below.refl _ _) _) _) hb1;have HB:=zA hB;clear hB;obtain ⟨⟨m0,m1,m2,m3,m4,m5,m6⟩,mF⟩:=HS.out _ HB.out;simp only [Addr.add_lit,Nat.zero_add] at m0 m1 m2 m3 m4 m5 m6))
   go_ret
   obtain ⟨o1,o2⟩:=zEE (HO.out.below HB.out) hjn ⟨false,xn,⟨xp,xb,xl,xa,xs⟩⟩
   exact ⟨rfl,o1,(zCd HB.out _).trans o2⟩
  ·by_cases h8:zAM p 16=0
   ·have g8:(zAM p 16==0)=true:=by simp [h8]
    simp only [h8,and_self,if_true,show (12:Int)≠0 by decide,if_false]
    have H8:=zA h8
    clear h8
    go_enter Tryz.func170,Tryz.ntmps170
    go_wp2_with (go_at_call 106;((with_reducible refine (AT.out _).mono ?_);rintro e w1 ⟨rfl,hb1⟩;have kB:Bk w1 (w.heap.size) 54 #[.int .i64 p,.int .i64 b,.int .i64 l,.int .i64 a,.int .i64 s]:=zH hb1 (by repeat (first | assumption | with_reducible exact zM _ _ _ | (with_reducible refine zO _ _ ?_;simp;done) | with_reducible refine zP ?_ | with_reducible refine bk_drewN _ ?_ | with_reducible refine zN _ ?_ | (with_reducible refine zU _ (by omega) ?_) | with_reducible apply zT | rfl));(try clear k0 k1 k2 k3 k4);obtain ⟨k0,k1,k2,k3,k4⟩:=zQ kB;have kL:=kB.lt;have xB:Bk w1 (w.heap.size+1) 56 #[.bool true,.int .i64 xn,.int .i64 xp,.int .i64 xb,.int .i64 xl,.int .i64 xa,.int .i64 xs]:=zH hb1 (by repeat (first | assumption | with_reducible exact zM _ _ _ | (with_reducible refine zO _ _ ?_;simp;done) | with_reducible refine zP ?_ | with_reducible refine bk_drewN _ ?_ | with_reducible refine zN _ ?_ | (with_reducible refine zU _ (by omega) ?_) | with_reducible apply zT | rfl));(try clear x0 x1 x2 x3 x4 x5 x6);obtain ⟨x0,x1,x2,x3,x4,x5,x6⟩:=zBs xB;have xL:=xB.lt;have hB:Below w.heap.size w w1:=zI (zG (zG (Below.refl _ _) _) _) hb1;have HB:=zA hB;clear hB))
    go_ret
    exact ⟨rfl,HO.out.below HB.out,zCd HB.out _⟩
   ·have g8:(zAM p 16==0)=false:=by simp [h8]
    simp only [h8,and_false,if_false,if_true]
    clear h8
    go_enter Tryz.func170,Tryz.ntmps170
    go_wp2_with (go_at_call 106;((with_reducible refine (AT.out _).mono ?_);rintro e w1 ⟨rfl,hb1⟩;have kB:Bk w1 (w.heap.size) 54 #[.int .i64 p,.int .i64 b,.int .i64 l,.int .i64 a,.int .i64 s]:=zH hb1 (by repeat (first | assumption | with_reducible exact zM _ _ _ | (with_reducible refine zO _ _ ?_;simp;done) | with_reducible refine zP ?_ | with_reducible refine bk_drewN _ ?_ | with_reducible refine zN _ ?_ | (with_reducible refine zU _ (by omega) ?_) | with_reducible apply zT | rfl));(try clear k0 k1 k2 k3 k4);obtain ⟨k0,k1,k2,k3,k4⟩:=zQ kB;have kL:=kB.lt;have xB:Bk w1 (w.heap.size+1) 56 #[.bool true,.int .i64 xn,.int .i64 xp,.int .i64 xb,.int .i64 xl,.int .i64 xa,.int .i64 xs]:=zH hb1 (by repeat (first | assumption | with_reducible exact zM _ _ _ | (with_reducible refine zO _ _ ?_;simp;done) | with_reducible refine zP ?_ | with_reducible refine bk_drewN _ ?_ | with_reducible refine zN _ ?_ | (with_reducible refine zU _ (by omega) ?_) | with_reducible apply zT | rfl));(try clear x0 x1 x2 x3 x4 x5 x6);obtain ⟨x0,x1,x2,x3,x4,x5,x6⟩:=zBs xB;have xL:=xB.lt;have hB:Below w.heap.size w w1:=zI (zG (zG (Below.refl _ _) _) _) hb1;have HB:=zA hB;clear hB;obtain ⟨⟨m0,m1,m2,m3,m4,m5,m6⟩,mF⟩:=HS.out _ HB.out;simp only [Addr.add_lit,Nat.zero_add] at m0 m1 m2 m3 m4 m5 m6))
    go_ret
    obtain ⟨o1,o2⟩:=zEE (HO.out.below HB.out) hjn ⟨true,xn,⟨xp,xb,xl,xa,xs⟩⟩
    exact ⟨rfl,o1,(zCd HB.out _).trans o2⟩
 ·have hpe:=zFY (v:=⟨xi,xn,⟨xp,xb,xl,xa,xs⟩⟩) he
  have g:((atF vs.length ⟨p,b,l,a,s⟩ off 2).2==0)=false:=by simpa using he
  have g':((atF vs.length ⟨p,b,l,a,s⟩ off 2).2 != 0)=true:=by simpa using he
  unfold zCq
  rw [hpe,if_neg he]
  generalize (atF vs.length ⟨p,b,l,a,s⟩ off 2).2=c at *
  generalize (atF vs.length ⟨p,b,l,a,s⟩ off 2).1=r at *
  have AT:=zA at_
  have HO:=zA h
  clear at_ he hpe h
  go_enter Tryz.func170,Tryz.ntmps170
  go_wp2_with (go_at_call 106;((with_reducible refine (AT.out _).mono ?_);rintro e w1 ⟨rfl,hb1⟩;have kB:Bk w1 (w.heap.size) 54 #[.int .i64 p,.int .i64 b,.int .i64 l,.int .i64 a,.int .i64 s]:=zH hb1 (by repeat (first | assumption | with_reducible exact zM _ _ _ | (with_reducible refine zO _ _ ?_;simp;done) | with_reducible refine zP ?_ | with_reducible refine bk_drewN _ ?_ | with_reducible refine zN _ ?_ | (with_reducible refine zU _ (by omega) ?_) | with_reducible apply zT | rfl));(try clear k0 k1 k2 k3 k4);obtain ⟨k0,k1,k2,k3,k4⟩:=zQ kB;have kL:=kB.lt;have xB:Bk w1 (w.heap.size+1) 56 #[.bool xi,.int .i64 xn,.int .i64 xp,.int .i64 xb,.int .i64 xl,.int .i64 xa,.int .i64 xs]:=zH hb1 (by repeat (first | assumption | with_reducible exact zM _ _ _ | (with_reducible refine zO _ _ ?_;simp;done) | with_reducible refine zP ?_ | with_reducible refine bk_drewN _ ?_ | with_reducible refine zN _ ?_ | (with_reducible refine zU _ (by omega) ?_) | with_reducible apply zT | rfl));(try clear x0 x1 x2 x3 x4 x5 x6);obtain ⟨x0,x1,x2,x3,x4,x5,x6⟩:=zBs xB;have xL:=xB.lt;have hB:Below w.heap.size w w1:=zI (zG (zG (Below.refl _ _) _) _) hb1;have HB:=zA hB;clear hB))
  go_ret
  exact ⟨rfl,HO.out.below HB.out,zCd HB.out _⟩
end Go.Proofs.YtlpejagkadalbaaGreatDoor
