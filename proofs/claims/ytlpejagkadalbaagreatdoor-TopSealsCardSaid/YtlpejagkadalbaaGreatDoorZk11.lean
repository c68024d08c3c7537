import Derived.Test.YtlpejagkadalbaaGreatDoorZk03
set_option maxHeartbeats 40000000
set_option maxRecDepth 100000
set_option linter.unusedVariables false
set_option linter.unusedSimpArgs false
namespace Go.Proofs.YtlpejagkadalbaaGreatDoor
open Go.RowKit
theorem zIG (p b l a s p2 b2 l2 a2 s2:Int) (w:World) :
  Calls Tryz.prog 54 #[.agg #[.int .i64 p,.int .i64 b,.int .i64 l,.int .i64 a,.int .i64 s],.agg #[.int .i64 p2,.int .i64 b2,.int .i64 l2,.int .i64 a2,.int .i64 s2]] w fun e w'=>e=.returned (.int .i64 (zBA ⟨p,b,l,a,s⟩ ⟨p2,b2,l2,a2,s2⟩))∧Below w.heap.size w w':=by
 have c1:=fun W=>zBU p b l a s W
 have c2:=fun W=>zBU p2 b2 l2 a2 s2 W
 by_cases h:okB ⟨p,b,l,a,s⟩=true
 ·have e1:zAF ⟨p,b,l,a,s⟩=0:=by simp [zAF,h]
  have e2:zBA ⟨p,b,l,a,s⟩ ⟨p2,b2,l2,a2,s2⟩=zAF ⟨p2,b2,l2,a2,s2⟩:=by simp [zBA,h]
  rw [e1] at c1
  rw [e2]
  generalize zAF ⟨p2,b2,l2,a2,s2⟩=c at *
  have C1:=zA c1
  have C2:=zA c2
  clear c1 c2 e1 e2 h
  go_enter Tryz.func54,Tryz.ntmps54
  go_wp2_with (first
    | (go_at_call 27;((with_reducible refine (C1.out _).mono ?_);rintro e w1 ⟨rfl,hb1⟩;have kB:Bk w1 (w.heap.size) 54 #[.int .i64 p,.int .i64 b,.int .i64 l,.int .i64 a,.int .i64 s]:=zH hb1 (by repeat (first | assumption | with_reducible exact zM _ _ _ | exact zO _ _ (by simp) | with_reducible refine zP ?_ | refine zN _ ?_));(try clear k0 k1 k2 k3 k4);obtain ⟨k0,k1,k2,k3,k4⟩:=zQ kB;have kL:=kB.lt;have yB:Bk w1 (w.heap.size+1) 54 #[.int .i64 p2,.int .i64 b2,.int .i64 l2,.int .i64 a2,.int .i64 s2]:=zH hb1 (by repeat (first | assumption | with_reducible exact zM _ _ _ | exact zO _ _ (by simp) | with_reducible refine zP ?_ | refine zN _ ?_));(try clear y0 y1 y2 y3 y4);obtain ⟨y0,y1,y2,y3,y4⟩:=zQ yB;have yL:=yB.lt))
    | (go_at_call 27;((with_reducible refine (C2.out _).mono ?_);rintro e w2 ⟨rfl,hb2⟩;have kB:Bk w2 (w.heap.size) 54 #[.int .i64 p,.int .i64 b,.int .i64 l,.int .i64 a,.int .i64 s]:=zH hb2 (by repeat (first | assumption | with_reducible exact zM _ _ _ | exact zO _ _ (by simp) | with_reducible refine zP ?_ | refine zN _ ?_));(try clear k0 k1 k2 k3 k4);obtain ⟨k0,k1,k2,k3,k4⟩:=zQ kB;have kL:=kB.lt;have yB:Bk w2 (w.heap.size+1) 54 #[.int .i64 p2,.int .i64 b2,.int .i64 l2,.int .i64 a2,.int .i64 s2]:=zH hb2 (by repeat (first | assumption | with_reducible exact zM _ _ _ | exact zO _ _ (by simp) | with_reducible refine zP ?_ | refine zN _ ?_));(try clear y0 y1 y2 y3 y4);obtain ⟨y0,y1,y2,y3,y4⟩:=zQ yB;have yL:=yB.lt)))
  go_ret
  refine ⟨rfl,?_⟩
  repeat (first | with_reducible exact Below.refl _ _ | with_reducible refine zG ?_ _ | with_reducible refine zJ ?_ | with_reducible refine zK ?_ (by first | omega | (simp;done) | (simp;omega)) _ | with_reducible refine zI ?_ ‹_›)
 ·have e1:zAF ⟨p,b,l,a,s⟩=1:=by simp [zAF,h]
  have e2:zBA ⟨p,b,l,a,s⟩ ⟨p2,b2,l2,a2,s2⟩=1:=by simp [zBA,h]
  rw [e1] at c1
  rw [e2]
  have C1:=zA c1
  have C2:=zA c2
  clear c1 c2 e1 e2 h
  go_enter Tryz.func54,Tryz.ntmps54
  go_wp2_with (first
    | (go_at_call 27;((with_reducible refine (C1.out _).mono ?_);rintro e w1 ⟨rfl,hb1⟩;have kB:Bk w1 (w.heap.size) 54 #[.int .i64 p,.int .i64 b,.int .i64 l,.int .i64 a,.int .i64 s]:=zH hb1 (by repeat (first | assumption | with_reducible exact zM _ _ _ | exact zO _ _ (by simp) | with_reducible refine zP ?_ | refine zN _ ?_));(try clear k0 k1 k2 k3 k4);obtain ⟨k0,k1,k2,k3,k4⟩:=zQ kB;have kL:=kB.lt;have yB:Bk w1 (w.heap.size+1) 54 #[.int .i64 p2,.int .i64 b2,.int .i64 l2,.int .i64 a2,.int .i64 s2]:=zH hb1 (by repeat (first | assumption | with_reducible exact zM _ _ _ | exact zO _ _ (by simp) | with_reducible refine zP ?_ | refine zN _ ?_));(try clear y0 y1 y2 y3 y4);obtain ⟨y0,y1,y2,y3,y4⟩:=zQ yB;have yL:=yB.lt))
    | (go_at_call 27;((with_reducible refine (C2.out _).mono ?_);rintro e w2 ⟨rfl,hb2⟩;have kB:Bk w2 (w.heap.size) 54 #[.int .i64 p,.int .i64 b,.int .i64 l,.int .i64 a,.int .i64 s]:=zH hb2 (by repeat (first | assumption | with_reducible exact zM _ _ _ | exact zO _ _ (by simp) | with_reducible refine zP ?_ | refine zN _ ?_));(try clear k0 k1 k2 k3 k4);obtain ⟨k0,k1,k2,k3,k4⟩:=zQ kB;have kL:=kB.lt;have yB:Bk w2 (w.heap.size+1) 54 #[.int .i64 p2,.int .i64 b2,.int .i64 l2,.int .i64 a2,.int .i64 s2]:=zH hb2 (by repeat (first | assumption | with_reducible exact zM _ _ _ | exact zO _ _ (by simp) | with_reducible refine zP ?_ | refine zN _ ?_));(try clear y0 y1 y2 y3 y4);obtain ⟨y0,y1,y2,y3,y4⟩:=zQ yB;have yL:=yB.lt)))
  go_ret
  refine ⟨rfl,?_⟩
  repeat (first | with_reducible exact Below.refl _ _ | with_reducible refine zG ?_ _ | with_reducible refine zJ ?_ | with_reducible refine zK ?_ (by first | omega | (simp;done) | (simp;omega)) _ | with_reducible refine zI ?_ ‹_›)
theorem zJM (p b l a s m:Int) (hb:I64 b) (hl:I64 l) (ha:I64 a) (w:World) :
  Calls Tryz.prog 56 #[.agg #[.int .i64 p,.int .i64 b,.int .i64 l,.int .i64 a,.int .i64 s],.int .i64 m] w fun e w'=>e=.returned (.int .i64 (zBG ⟨p,b,l,a,s⟩ m))∧Below w.heap.size w w':=by
 have c1:=fun W=>zF7 p b l a s a hb hl ha W
 have hand:bits .and .i64 p m=zAM p m:=zBq p m
 by_cases hs:s=0
 ·have g1:(s==0)=true:=by simp [hs]
  by_cases hm:zAM p m=0
  ·have g2:(zAM p m==0)=true:=by simp [hm]
   have e:zBG ⟨p,b,l,a,s⟩ m=12:=by simp [zBG,hs,hm]
   rw [e]
   have C1:=zA c1
   have HS:=zA hs
   have HM:=zA hm
   clear c1 e hs hm hb hl ha
   go_enter Tryz.func56,Tryz.ntmps56
   go_wp2_with (first
     | (go_at_call 79;((with_reducible refine (C1.out _).mono ?_);rintro e w1 ⟨rfl,hb1⟩;have kB:Bk w1 (w.heap.size) 54 #[.int .i64 p,.int .i64 b,.int .i64 l,.int .i64 a,.int .i64 s]:=zH hb1 (by repeat (first | assumption | with_reducible exact zM _ _ _ | exact zO _ _ (by simp) | with_reducible refine zP ?_ | refine zN _ ?_));(try clear k0 k1 k2 k3 k4);obtain ⟨k0,k1,k2,k3,k4⟩:=zQ kB;have kL:=kB.lt)))
   go_ret
   refine ⟨rfl,?_⟩
   repeat (first | with_reducible exact Below.refl _ _ | with_reducible refine zG ?_ _ | with_reducible refine zJ ?_ | with_reducible refine zK ?_ (by first | omega | (simp;done) | (simp;omega)) _ | with_reducible refine zI ?_ ‹_›)
  ·have g2:(zAM p m==0)=false:=by simp [hm]
   cases hc:zCE b l a
   ·have e:zBG ⟨p,b,l,a,s⟩ m=13:=by simp [zBG,hs,hm,hc]
    rw [e]
    rw [hc] at c1
    have C1:=zA c1
    have HS:=zA hs
    clear c1 e hs hm hc hb hl ha
    go_enter Tryz.func56,Tryz.ntmps56
    go_wp2_with (first
      | (go_at_call 79;((with_reducible refine (C1.out _).mono ?_);rintro e w1 ⟨rfl,hb1⟩;have kB:Bk w1 (w.heap.size) 54 #[.int .i64 p,.int .i64 b,.int .i64 l,.int .i64 a,.int .i64 s]:=zH hb1 (by repeat (first | assumption | with_reducible exact zM _ _ _ | exact zO _ _ (by simp) | with_reducible refine zP ?_ | refine zN _ ?_));(try clear k0 k1 k2 k3 k4);obtain ⟨k0,k1,k2,k3,k4⟩:=zQ kB;have kL:=kB.lt)))
    go_ret
    refine ⟨rfl,?_⟩
    repeat (first | with_reducible exact Below.refl _ _ | with_reducible refine zG ?_ _ | with_reducible refine zJ ?_ | with_reducible refine zK ?_ (by first | omega | (simp;done) | (simp;omega)) _ | with_reducible refine zI ?_ ‹_›)
   ·have e:zBG ⟨p,b,l,a,s⟩ m=0:=by simp [zBG,hs,hm,hc]
    rw [e]
    rw [hc] at c1
    have C1:=zA c1
    have HS:=zA hs
    clear c1 e hs hm hc hb hl ha
    go_enter Tryz.func56,Tryz.ntmps56
    go_wp2_with (first
      | (go_at_call 79;((with_reducible refine (C1.out _).mono ?_);rintro e w1 ⟨rfl,hb1⟩;have kB:Bk w1 (w.heap.size) 54 #[.int .i64 p,.int .i64 b,.int .i64 l,.int .i64 a,.int .i64 s]:=zH hb1 (by repeat (first | assumption | with_reducible exact zM _ _ _ | exact zO _ _ (by simp) | with_reducible refine zP ?_ | refine zN _ ?_));(try clear k0 k1 k2 k3 k4);obtain ⟨k0,k1,k2,k3,k4⟩:=zQ kB;have kL:=kB.lt)))
    go_ret
    refine ⟨rfl,?_⟩
    repeat (first | with_reducible exact Below.refl _ _ | with_reducible refine zG ?_ _ | with_reducible refine zJ ?_ | with_reducible refine zK ?_ (by first | omega | (simp;done) | (simp;omega)) _ | with_reducible refine zI ?_ ‹_›)
 ·have g1:(s==0)=false:=by simp [hs]
  have e:zBG ⟨p,b,l,a,s⟩ m=11:=by simp [zBG,hs]
  rw [e]
  have C1:=zA c1
  clear c1 e hs hb hl ha
  go_enter Tryz.func56,Tryz.ntmps56
  go_wp2_with (first
    | (go_at_call 79;((with_reducible refine (C1.out _).mono ?_);rintro e w1 ⟨rfl,hb1⟩;have kB:Bk w1 (w.heap.size) 54 #[.int .i64 p,.int .i64 b,.int .i64 l,.int .i64 a,.int .i64 s]:=zH hb1 (by repeat (first | assumption | with_reducible exact zM _ _ _ | exact zO _ _ (by simp) | with_reducible refine zP ?_ | refine zN _ ?_));(try clear k0 k1 k2 k3 k4);obtain ⟨k0,k1,k2,k3,k4⟩:=zQ kB;have kL:=kB.lt)))
  go_ret
  refine ⟨rfl,?_⟩
  repeat (first | with_reducible exact Below.refl _ _ | with_reducible refine zG ?_ _ | with_reducible refine zJ ?_ | with_reducible refine zK ?_ (by first | omega | (simp;done) | (simp;omega)) _ | with_reducible refine zI ?_ ‹_›)
theorem zEO (p b l a s p2 b2 l2 a2 s2:Int) (h1:KeyV.wf ⟨p,b,l,a,s⟩) (h2:KeyV.wf ⟨p2,b2,l2,a2,s2⟩) (w:World) :
  Calls Tryz.prog 26 #[.agg #[.int .i64 p,.int .i64 b,.int .i64 l,.int .i64 a,.int .i64 s],.agg #[.int .i64 p2,.int .i64 b2,.int .i64 l2,.int .i64 a2,.int .i64 s2]] w fun e w'=>e=.returned (KeyV.res (zA0 ⟨p,b,l,a,s⟩ ⟨p2,b2,l2,a2,s2⟩))∧Below w.heap.size w w':=by
 have bo:=fun W=>zIG p b l a s p2 b2 l2 a2 s2 W
 have pl:=fun W=>zBY p b l a s W
 have ma:=fun W=>zJM p2 b2 l2 a2 s2 32 h2.base h2.len h2.at_ W
 by_cases hb:zBA ⟨p,b,l,a,s⟩ ⟨p2,b2,l2,a2,s2⟩=0
 ·by_cases hp:zAT ⟨p,b,l,a,s⟩=0
  ·by_cases hm:zBG ⟨p2,b2,l2,a2,s2⟩ 32=0
   ·cases hi:inB a2 1 63
    ·have e:zA0 ⟨p,b,l,a,s⟩ ⟨p2,b2,l2,a2,s2⟩=(zeroK,13):=by simp [zA0,hb,hp,hm,hi]
     rw [e]
     rw [hb] at bo
     rw [hp] at pl
     rw [hm] at ma
     have BO:=zA bo
     have PL:=zA pl
     have MA:=zA ma
     clear hb hp hm
     clear bo pl ma e h1 h2
     go_enter Tryz.func26,Tryz.ntmps26
     go_wp2_with (first
       | (go_at_call 54;((with_reducible refine (BO.out _).mono ?_);rintro e w1 ⟨rfl,hb1⟩;have kB:Bk w1 (w.heap.size) 54 #[.int .i64 p,.int .i64 b,.int .i64 l,.int .i64 a,.int .i64 s]:=zH hb1 (by repeat (first | assumption | with_reducible exact zM _ _ _ | exact zO _ _ (by simp) | with_reducible refine zP ?_ | refine zN _ ?_));(try clear k0 k1 k2 k3 k4);obtain ⟨k0,k1,k2,k3,k4⟩:=zQ kB;have kL:=kB.lt;have kF:=fun i=>Bk.frozen kB i;have yB:Bk w1 (w.heap.size+1) 54 #[.int .i64 p2,.int .i64 b2,.int .i64 l2,.int .i64 a2,.int .i64 s2]:=zH hb1 (by repeat (first | assumption | with_reducible exact zM _ _ _ | exact zO _ _ (by simp) | with_reducible refine zP ?_ | refine zN _ ?_));(try clear y0 y1 y2 y3 y4);obtain ⟨y0,y1,y2,y3,y4⟩:=zQ yB;have yL:=yB.lt;have zB:Bk w1 (w.heap.size+1+1) 54 #[.int .i64 0,.int .i64 0,.int .i64 0,.int .i64 0,.int .i64 0]:=zH hb1 (by repeat (first | assumption | with_reducible exact zM _ _ _ | exact zO _ _ (by simp) | with_reducible refine zP ?_ | refine zN _ ?_));(try clear z0 z1 z2 z3 z4);obtain ⟨z0,z1,z2,z3,z4⟩:=zQ zB;have zL:=zB.lt;have zF:=fun i=>Bk.frozen zB i))
       | (go_at_call 55;((with_reducible refine (PL.out _).mono ?_);rintro e w2 ⟨rfl,hb2⟩;have kB:Bk w2 (w.heap.size) 54 #[.int .i64 p,.int .i64 b,.int .i64 l,.int .i64 a,.int .i64 s]:=zH hb2 (by repeat (first | assumption | with_reducible exact zM _ _ _ | exact zO _ _ (by simp) | with_reducible refine zP ?_ | refine zN _ ?_));(try clear k0 k1 k2 k3 k4);obtain ⟨k0,k1,k2,k3,k4⟩:=zQ kB;have kL:=kB.lt;have kF:=fun i=>Bk.frozen kB i;have yB:Bk w2 (w.heap.size+1) 54 #[.int .i64 p2,.int .i64 b2,.int .i64 l2,.int .i64 a2,.int .i64 s2]:=zH hb2 (by repeat (first | assumption | with_reducible exact zM _ _ _ | exact zO _ _ (by simp) | with_reducible refine zP ?_ | refine zN _ ?_));(try clear y0 y1 y2 y3 y4);obtain ⟨y0,y1,y2,y3,y4⟩:=zQ yB;have yL:=yB.lt;have zB:Bk w2 (w.heap.size+1+1) 54 #[.int .i64 0,.int .i64 0,.int .i64 0,.int .i64 0,.int .i64 0]:=zH hb2 (by repeat (first | assumption | with_reducible exact zM _ _ _ | exact zO _ _ (by simp) | with_reducible refine zP ?_ | refine zN _ ?_));(try clear z0 z1 z2 z3 z4);obtain ⟨z0,z1,z2,z3,z4⟩:=zQ zB;have zL:=zB.lt;have zF:=fun i=>Bk.frozen zB i))
       | (go_at_call 56;((with_reducible refine (MA.out _).mono ?_);rintro e w3 ⟨rfl,hb3⟩;have kB:Bk w3 (w.heap.size) 54 #[.int .i64 p,.int .i64 b,.int .i64 l,.int .i64 a,.int .i64 s]:=zH hb3 (by repeat (first | assumption | with_reducible exact zM _ _ _ | exact zO _ _ (by simp) | with_reducible refine zP ?_ | refine zN _ ?_));(try clear k0 k1 k2 k3 k4);obtain ⟨k0,k1,k2,k3,k4⟩:=zQ kB;have kL:=kB.lt;have kF:=fun i=>Bk.frozen kB i;have yB:Bk w3 (w.heap.size+1) 54 #[.int .i64 p2,.int .i64 b2,.int .i64 l2,.int .i64 a2,.int .i64 s2]:=zH hb3 (by repeat (first | assumption | with_reducible exact zM _ _ _ | exact zO _ _ (by simp) | with_reducible refine zP ?_ | refine zN _ ?_));(try clear y0 y1 y2 y3 y4);obtain ⟨y0,y1,y2,y3,y4⟩:=zQ yB;have yL:=yB.lt;have zB:Bk w3 (w.heap.size+1+1) 54 #[.int .i64 0,.int .i64 0,.int .i64 0,.int .i64 0,.int .i64 0]:=zH hb3 (by repeat (first | assumption | with_reducible exact zM _ _ _ | exact zO _ _ (by simp) | with_reducible refine zP ?_ | refine zN _ ?_));(try clear z0 z1 z2 z3 z4);obtain ⟨z0,z1,z2,z3,z4⟩:=zQ zB;have zL:=zB.lt;have zF:=fun i=>Bk.frozen zB i))
       | (go_at_call 57;refine (zAh _ _ _ _).mono ?_;rintro e w' ⟨rfl,rfl⟩))
     refine bodyPost_ret (v:=KeyV.res _) (by simp [results,Tryz.results26,go_sem,KeyV.res,zeroK, *];try rfl) rfl ⟨rfl,?_⟩
     repeat (first | with_reducible exact Below.refl _ _ | with_reducible refine zG ?_ _ | with_reducible refine zJ ?_ | with_reducible refine zK ?_ (by first | omega | (simp;done) | (simp;omega)) _ | with_reducible refine zI ?_ ‹_›)
    ·have e:zA0 ⟨p,b,l,a,s⟩ ⟨p2,b2,l2,a2,s2⟩=(⟨p,b,l,a,a2⟩,0):=by simp [zA0,hb,hp,hm,hi]
     rw [e]
     rw [hb] at bo
     rw [hp] at pl
     rw [hm] at ma
     have BO:=zA bo
     have PL:=zA pl
     have MA:=zA ma
     clear hb hp hm
     clear bo pl ma e h1 h2
     go_enter Tryz.func26,Tryz.ntmps26
     go_wp2_with (first
       | (go_at_call 54;((with_reducible refine (BO.out _).mono ?_);rintro e w1 ⟨rfl,hb1⟩;have kB:Bk w1 (w.heap.size) 54 #[.int .i64 p,.int .i64 b,.int .i64 l,.int .i64 a,.int .i64 s]:=zH hb1 (by repeat (first | assumption | with_reducible exact zM _ _ _ | exact zO _ _ (by simp) | with_reducible refine zP ?_ | refine zN _ ?_));(try clear k0 k1 k2 k3 k4);obtain ⟨k0,k1,k2,k3,k4⟩:=zQ kB;have kL:=kB.lt;have kF:=fun i=>Bk.frozen kB i;have yB:Bk w1 (w.heap.size+1) 54 #[.int .i64 p2,.int .i64 b2,.int .i64 l2,.int .i64 a2,.int .i64 s2]:=zH hb1 (by repeat (first | assumption | with_reducible exact zM _ _ _ | exact zO _ _ (by simp) | with_reducible refine zP ?_ | refine zN _ ?_));(try clear y0 y1 y2 y3 y4);obtain ⟨y0,y1,y2,y3,y4⟩:=zQ yB;have yL:=yB.lt;have zB:Bk w1 (w.heap.size+1+1) 54 #[.int .i64 0,.int .i64 0,.int .i64 0,.int .i64 0,.int .i64 0]:=zH hb1 (by repeat (first | assumption | with_reducible exact zM _ _ _ | exact zO _ _ (by simp) | with_reducible refine zP ?_ | refine zN _ ?_));(try clear z0 z1 z2 z3 z4);obtain ⟨z0,z1,z2,z3,z4⟩:=zQ zB;have zL:=zB.lt;have zF:=fun i=>Bk.frozen zB i))
       | (go_at_call 55;((with_reducible refine (PL.out _).mono ?_);rintro e w2 ⟨rfl,hb2⟩;have kB:Bk w2 (w.heap.size) 54 #[.int .i64 p,.int .i64 b,.int .i64 l,.int .i64 a,.int .i64 s]:=zH hb2 (by repeat (first | assumption | with_reducible exact zM _ _ _ | exact zO _ _ (by simp) | with_reducible refine zP ?_ | refine zN _ ?_));(try clear k0 k1 k2 k3 k4);obtain ⟨k0,k1,k2,k3,k4⟩:=zQ kB;have kL:=kB.lt;have kF:=fun i=>Bk.frozen kB i;have yB:Bk w2 (w.heap.size+1) 54 #[.int .i64 p2,.int .i64 b2,.int .i64 l2,.int .i64 a2,.int .i64 s2]:=zH hb2 (by repeat (first | assumption | with_reducible exact zM _ _ _ | exact zO _ _ (by simp) | with_reducible refine zP ?_ | refine zN _ ?_));(try clear y0 y1 y2 y3 y4);obtain ⟨y0,y1,y2,y3,y4⟩:=zQ yB;have yL:=yB.lt;have zB:Bk w2 (w.heap.size+1+1) 54 #[.int .i64 0,.int .i64 0,.int .i64 0,.int .i64 0,.int .i64 0]:=zH hb2 (by repeat (first | assumption | with_reducible exact zM _ _ _ | exact zO _ _ (by simp) | with_reducible refine zP ?_ | refine zN _ ?_));(try clear z0 z1 z2 z3 z4);obtain ⟨z0,z1,z2,z3,z4⟩:=zQ zB;have zL:=zB.lt;have zF:=fun i=>Bk.frozen zB i))
       | (go_at_call 56;((with_reducible refine (MA.out _).mono ?_);rintro e w3 ⟨rfl,hb3⟩;have kB:Bk w3 (w.heap.size) 54 #[.int .i64 p,.int .i64 b,.int .i64 l,.int .i64 a,.int .i64 s]:=zH hb3 (by repeat (first | assumption | with_reducible exact zM _ _ _ | exact zO _ _ (by simp) | with_reducible refine zP ?_ | refine zN _ ?_));(try clear k0 k1 k2 k3 k4);obtain ⟨k0,k1,k2,k3,k4⟩:=zQ kB;have kL:=kB.lt;have kF:=fun i=>Bk.frozen kB i;have yB:Bk w3 (w.heap.size+1) 54 #[.int .i64 p2,.int .i64 b2,.int .i64 l2,.int .i64 a2,.int .i64 s2]:=zH hb3 (by repeat (first | assumption | with_reducible exact zM _ _ _ | exact zO _ _ (by simp) | with_reducible refine zP ?_ | refine zN _ ?_));(try clear y0 y1 y2 y3 y4);obtain ⟨y0,y1,y2,y3,y4⟩:=zQ yB;have yL:=yB.lt;have zB:Bk w3 (w.heap.size+1+1) 54 #[.int .i64 0,.int .i64 0,.int .i64 0,.int .i64 0,.int .i64 0]:=zH hb3 (by repeat (first | assumption | with_reducible exact zM _ _ _ | exact zO _ _ (by simp) | with_reducible refine zP ?_ | refine zN _ ?_));(try clear z0 z1 z2 z3 z4);obtain ⟨z0,z1,z2,z3,z4⟩:=zQ zB;have zL:=zB.lt;have zF:=fun i=>Bk.frozen zB i))
       | (go_at_call 57;refine (zAh _ _ _ _).mono ?_;rintro e w' ⟨rfl,rfl⟩))
     refine bodyPost_ret (v:=KeyV.res _) (by simp [results,Tryz.results26,go_sem,KeyV.res,zeroK, *];try rfl) rfl ⟨rfl,?_⟩
     repeat (first | with_reducible exact Below.refl _ _ | with_reducible refine zG ?_ _ | with_reducible refine zJ ?_ | with_reducible refine zK ?_ (by first | omega | (simp;done) | (simp;omega)) _ | with_reducible refine zI ?_ ‹_›)
   ·have e:zA0 ⟨p,b,l,a,s⟩ ⟨p2,b2,l2,a2,s2⟩=(zeroK,zBG ⟨p2,b2,l2,a2,s2⟩ 32):=by simp [zA0,hb,hp,hm]
    rw [e]
    rw [hb] at bo
    rw [hp] at pl
    have g:(zBG ⟨p2,b2,l2,a2,s2⟩ 32==0)=false:=by simp [hm]
    generalize zBG ⟨p2,b2,l2,a2,s2⟩ 32=c at *
    have BO:=zA bo
    have PL:=zA pl
    have MA:=zA ma
    clear hb hp hm
    clear bo pl ma e h1 h2
    go_enter Tryz.func26,Tryz.ntmps26
    go_wp2_with (first
      | (go_at_call 54;((with_reducible refine (BO.out _).mono ?_);rintro e w1 ⟨rfl,hb1⟩;have kB:Bk w1 (w.heap.size) 54 #[.int .i64 p,.int .i64 b,.int .i64 l,.int .i64 a,.int .i64 s]:=zH hb1 (by repeat (first | assumption | with_reducible exact zM _ _ _ | exact zO _ _ (by simp) | with_reducible refine zP ?_ | refine zN _ ?_));(try clear k0 k1 k2 k3 k4);obtain ⟨k0,k1,k2,k3,k4⟩:=zQ kB;have kL:=kB.lt;have kF:=fun i=>Bk.frozen kB i;have yB:Bk w1 (w.heap.size+1) 54 #[.int .i64 p2,.int .i64 b2,.int .i64 l2,.int .i64 a2,.int .i64 s2]:=zH hb1 (by repeat (first | assumption | with_reducible exact zM _ _ _ | exact zO _ _ (by simp) | with_reducible refine zP ?_ | refine zN _ ?_));(try clear y0 y1 y2 y3 y4);obtain ⟨y0,y1,y2,y3,y4⟩:=zQ yB;have yL:=yB.lt;have zB:Bk w1 (w.heap.size+1+1) 54 #[.int .i64 0,.int .i64 0,.int .i64 0,.int .i64 0,.int .i64 0]:=zH hb1 (by repeat (first | assumption | with_reducible exact zM _ _ _ | exact zO _ _ (by simp) | with_reducible refine zP ?_ | refine zN _ ?_));(try clear z0 z1 z2 z3 z4);obtain ⟨z0,z1,z2,z3,z4⟩:=zQ zB;have zL:=zB.lt;have zF:=fun i=>Bk.frozen zB i))
      | (go_at_call 55;((with_reducible refine (PL.out _).mono ?_);rintro e w2 ⟨rfl,hb2⟩;have kB:Bk w2 (w.heap.size) 54 #[.int .i64 p,.int .i64 b,.int .i64 l,.int .i64 a,.int .i64 s]:=zH hb2 (by repeat (first | assumption | with_reducible exact zM _ _ _ | exact zO _ _ (by simp) | with_reducible refine zP ?_ | refine zN _ ?_));(try clear k0 k1 k2 k3 k4);obtain ⟨k0,k1,k2,k3,k4⟩:=zQ kB;have kL:=kB.lt;have kF:=fun i=>Bk.frozen kB i;have yB:Bk w2 (w.heap.size+1) 54 #[.int .i64 p2,.int .i64 b2,.int .i64 l2,.int .i64 a2,.int .i64 s2]:=zH hb2 (by repeat (first | assumption | with_reducible exact zM _ _ _ | exact zO _ _ (by simp) | with_reducible refine zP ?_ | refine zN _ ?_));(try clear y0 y1 y2 y3 y4);obtain ⟨y0,y1,y2,y3,y4⟩:=zQ yB;have yL:=yB.lt;have zB:Bk w2 (w.heap.size+1+1) 54 #[.int .i64 0,.int .i64 0,.int .i64 0,.int .i64 0,.int .i64 0]:=zH hb2 (by repeat (first | assumption | with_reducible exact zM _ _ _ | exact zO _ _ (by simp) | with_reducible refine zP ?_ | refine zN _ ?_));(try clear z0 z1 z2 z3 z4);obtain ⟨z0,z1,z2,z3,z4⟩:=zQ zB;have zL:=zB.lt;have zF:=fun i=>Bk.frozen zB i))
      | (go_at_call 56;((with_reducible refine (MA.out _).mono ?_);rintro e w3 ⟨rfl,hb3⟩;have kB:Bk w3 (w.heap.size) 54 #[.int .i64 p,.int .i64 b,.int .i64 l,.int .i64 a,.int .i64 s]:=zH hb3 (by repeat (first | assumption | with_reducible exact zM _ _ _ | exact zO _ _ (by simp) | with_reducible refine zP ?_ | refine zN _ ?_));(try clear k0 k1 k2 k3 k4);obtain ⟨k0,k1,k2,k3,k4⟩:=zQ kB;have kL:=kB.lt;have kF:=fun i=>Bk.frozen kB i;have yB:Bk w3 (w.heap.size+1) 54 #[.int .i64 p2,.int .i64 b2,.int .i64 l2,.int .i64 a2,.int .i64 s2]:=zH hb3 (by repeat (first | assumption | with_reducible exact zM _ _ _ | exact zO _ _ (by simp) | with_reducible refine zP ?_ | refine zN _ ?_));(try clear y0 y1 y2 y3 y4);obtain ⟨y0,y1,y2,y3,y4⟩:=zQ yB;have yL:=yB.lt;have zB:Bk w3 (w.heap.size+1+1) 54 #[.int .i64 0,.int .i64 0,.int .i64 0,.int .i64 0,.int .i64 0]:=zH hb3 (by repeat (first | assumption | with_reducible exact zM _ _ _ | exact zO _ _ (by simp) | with_reducible refine zP ?_ | refine zN _ ?_));(try clear z0 z1 z2 z3 z4);obtain ⟨z0,z1,z2,z3,z4⟩:=zQ zB;have zL:=zB.lt;have zF:=fun i=>Bk.frozen zB i))
      | (go_at_call 57;refine (zAh _ _ _ _).mono ?_;rintro e w' ⟨rfl,rfl⟩))
    refine bodyPost_ret (v:=KeyV.res _) (by simp [results,Tryz.results26,go_sem,KeyV.res,zeroK, *];try rfl) rfl ⟨rfl,?_⟩
    repeat (first | with_reducible exact Below.refl _ _ | with_reducible refine zG ?_ _ | with_reducible refine zJ ?_ | with_reducible refine zK ?_ (by first | omega | (simp;done) | (simp;omega)) _ | with_reducible refine zI ?_ ‹_›)
  ·have e:zA0 ⟨p,b,l,a,s⟩ ⟨p2,b2,l2,a2,s2⟩=(zeroK,zAT ⟨p,b,l,a,s⟩):=by simp [zA0,hb,hp]
   rw [e]
   rw [hb] at bo
   have g:(zAT ⟨p,b,l,a,s⟩==0)=false:=by simp [hp]
   generalize zAT ⟨p,b,l,a,s⟩=c at *
   have BO:=zA bo
   have PL:=zA pl
   have MA:=zA ma
   clear hb hp
   clear bo pl ma e h1 h2
   go_enter Tryz.func26,Tryz.ntmps26
   go_wp2_with (first
     | (go_at_call 54;((with_reducible refine (BO.out _).mono ?_);rintro e w1 ⟨rfl,hb1⟩;have kB:Bk w1 (w.heap.size) 54 #[.int .i64 p,.int .i64 b,.int .i64 l,.int .i64 a,.int .i64 s]:=zH hb1 (by repeat (first | assumption | with_reducible exact zM _ _ _ | exact zO _ _ (by simp) | with_reducible refine zP ?_ | refine zN _ ?_));(try clear k0 k1 k2 k3 k4);obtain ⟨k0,k1,k2,k3,k4⟩:=zQ kB;have kL:=kB.lt;have kF:=fun i=>Bk.frozen kB i;have yB:Bk w1 (w.heap.size+1) 54 #[.int .i64 p2,.int .i64 b2,.int .i64 l2,.int .i64 a2,.int .i64 s2]:=zH hb1 (by repeat (first | assumption | with_reducible exact zM _ _ _ | exact zO _ _ (by simp) | with_reducible refine zP ?_ | refine zN _ ?_));(try clear y0 y1 y2 y3 y4);obtain ⟨y0,y1,y2,y3,y4⟩:=zQ yB;have yL:=yB.lt;have zB:Bk w1 (w.heap.size+1+1) 54 #[.int .i64 0,.int .i64 0,.int .i64 0,.int .i64 0,.int .i64 0]:=zH hb1 (by repeat (first | assumption | with_reducible exact zM _ _ _ | exact zO _ _ (by simp) | with_reducible refine zP ?_ | refine zN _ ?_));(try clear z0 z1 z2 z3 z4);obtain ⟨z0,z1,z2,z3,z4⟩:=zQ zB;have zL:=zB.lt;have zF:=fun i=>Bk.frozen zB i))
     | (go_at_call 55;((with_reducible refine (PL.out _).mono ?_);rintro e w2 ⟨rfl,hb2⟩;have kB:Bk w2 (w.heap.size) 54 #[.int .i64 p,.int .i64 b,.int .i64 l,.int .i64 a,.int .i64 s]:=zH hb2 (by repeat (first | assumption | with_reducible exact zM _ _ _ | exact zO _ _ (by simp) | with_reducible refine zP ?_ | refine zN _ ?_));(try clear k0 k1 k2 k3 k4);obtain ⟨k0,k1,k2,k3,k4⟩:=zQ kB;have kL:=kB.lt;have kF:=fun i=>Bk.frozen kB i;have yB:Bk w2 (w.heap.size+1) 54 #[.int .i64 p2,.int .i64 b2,.int .i64 l2,.int .i64 a2,.int .i64 s2]:=zH hb2 (by repeat (first | assumption | with_reducible exact zM _ _ _ | exact zO _ _ (by simp) | with_reducible refine zP ?_ | refine zN _ ?_));(try clear y0 y1 y2 y3 y4);obtain ⟨y0,y1,y2,y3,y4⟩:=zQ yB;have yL:=yB.lt;have zB:Bk w2 (w.heap.size+1+1) 54 #[.int .i64 0,.int .i64 0,.int .i64 0,.int .i64 0,.int .i64 0]:=zH hb2 (by repeat (first | assumption | with_reducible exact zM _ _ _ | exact zO _ _ (by simp) | with_reducible refine zP ?_ | refine zN _ ?_));(try clear z0 z1 z2 z3 z4);obtain ⟨z0,z1,z2,z3,z4⟩:=zQ zB;have zL:=zB.lt;have zF:=fun i=>Bk.frozen zB i))
     | (go_at_call 56;((with_reducible refine (MA.out _).mono ?_);rintro e w3 ⟨rfl,hb3⟩;have kB:Bk w3 (w.heap.size) 54 #[.int .i64 p,.int .i64 b,.int .i64 l,.int .i64 a,.int .i64 s]:=zH hb3 (by repeat (first | assumption | with_reducible exact zM _ _ _ | exact zO _ _ (by simp) | with_reducible refine zP ?_ | refine zN _ ?_));(try clear k0 k1 k2 k3 k4);obtain ⟨k0,k1,k2,k3,k4⟩:=zQ kB;have kL:=kB.lt;have kF:=fun i=>Bk.frozen kB i;have yB:Bk w3 (w.heap.size+1) 54 #[.int .i64 p2,.int .i64 b2,.int .i64 l2,.int .i64 a2,.int .i64 s2]:=zH hb3 (by repeat (first | assumption | with_reducible exact zM _ _ _ | exact zO _ _ (by simp) | with_reducible refine zP ?_ | refine zN _ ?_));(try clear y0 y1 y2 y3 y4);obtain ⟨y0,y1,y2,y3,y4⟩:=zQ yB;have yL:=yB.lt;have zB:Bk w3 (w.heap.size+1+1) 54 #[.int .i64 0,.int .i64 0,.int .i64 0,.int .i64 0,.int .i64 0]:=zH hb3 (by repeat (first | assumption | with_reducible exact zM _ _ _ | exact zO _ _ (by simp) | with_reducible refine zP ?_ | refine zN _ ?_));(try clear z0 z1 z2 z3 z4);obtain ⟨z0,z1,z2,z3,z4⟩:=zQ zB;have zL:=zB.lt;have zF:=fun i=>Bk.frozen zB i))
     | (go_at_call 57;refine (zAh _ _ _ _).mono ?_;rintro e w' ⟨rfl,rfl⟩))
   refine bodyPost_ret (v:=KeyV.res _) (by simp [results,Tryz.results26,go_sem,KeyV.res,zeroK, *];try rfl) rfl ⟨rfl,?_⟩
   repeat (first | with_reducible exact Below.refl _ _ | with_reducible refine zG ?_ _ | with_reducible refine zJ ?_ | with_reducible refine zK ?_ (by first | omega | (simp;done) | (simp;omega)) _ | with_reducible refine zI ?_ ‹_›)
 ·have e:zA0 ⟨p,b,l,a,s⟩ ⟨p2,b2,l2,a2,s2⟩=(zeroK,zBA ⟨p,b,l,a,s⟩ ⟨p2,b2,l2,a2,s2⟩):=by simp [zA0,hb]
  rw [e]
  have g:(zBA ⟨p,b,l,a,s⟩ ⟨p2,b2,l2,a2,s2⟩==0)=false:=by simp [hb]
  generalize zBA ⟨p,b,l,a,s⟩ ⟨p2,b2,l2,a2,s2⟩=c at *
  have BO:=zA bo
  have PL:=zA pl
  have MA:=zA ma
  clear hb
  clear bo pl ma e h1 h2
  go_enter Tryz.func26,Tryz.ntmps26
  go_wp2_with (first
    | (go_at_call 54;((with_reducible refine (BO.out _).mono ?_);rintro e w1 ⟨rfl,hb1⟩;have kB:Bk w1 (w.heap.size) 54 #[.int .i64 p,.int .i64 b,.int .i64 l,.int .i64 a,.int .i64 s]:=zH hb1 (by repeat (first | assumption | with_reducible exact zM _ _ _ | exact zO _ _ (by simp) | with_reducible refine zP ?_ | refine zN _ ?_));(try clear k0 k1 k2 k3 k4);obtain ⟨k0,k1,k2,k3,k4⟩:=zQ kB;have kL:=kB.lt;have kF:=fun i=>Bk.frozen kB i;have yB:Bk w1 (w.heap.size+1) 54 #[.int .i64 p2,.int .i64 b2,.int .i64 l2,.int .i64 a2,.int .i64 s2]:=zH hb1 (by repeat (first | assumption | with_reducible exact zM _ _ _ | exact zO _ _ (by simp) | with_reducible refine zP ?_ | refine zN _ ?_));(try clear y0 y1 y2 y3 y4);obtain ⟨y0,y1,y2,y3,y4⟩:=zQ yB;have yL:=yB.lt;have zB:Bk w1 (w.heap.size+1+1) 54 #[.int .i64 0,.int .i64 0,.int .i64 0,.int .i64 0,.int .i64 0]:=zH hb1 (by repeat (first | assumption | with_reducible exact zM _ _ _ | exact zO _ _ (by simp) | with_reducible refine zP ?_ | refine zN _ ?_));(try clear z0 z1 z2 z3 z4);obtain ⟨z0,z1,z2,z3,z4⟩:=zQ zB;have zL:=zB.lt;have zF:=fun i=>Bk.frozen zB i))
    | (go_at_call 55;((with_reducible refine (PL.out _).mono ?_);rintro e w2 ⟨rfl,hb2⟩;have kB:Bk w2 (w.heap.size) 54 #[.int .i64 p,.int .i64 b,.int .i64 l,.int .i64 a,.int .i64 s]:=zH hb2 (by repeat (first | assumption | with_reducible exact zM _ _ _ | exact zO _ _ (by simp) | with_reducible refine zP ?_ | refine zN _ ?_));(try clear k0 k1 k2 k3 k4);obtain ⟨k0,k1,k2,k3,k4⟩:=zQ kB;have kL:=kB.lt;have kF:=fun i=>Bk.frozen kB i;have yB:Bk w2 (w.heap.size+1) 54 #[.int .i64 p2,.int .i64 b2,.int .i64 l2,.int .i64 a2,.int .i64 s2]:=zH hb2 (by repeat (first | assumption | with_reducible exact zM _ _ _ | exact zO _ _ (by simp) | with_reducible refine zP ?_ | refine zN _ ?_));(try clear y0 y1 y2 y3 y4);obtain ⟨y0,y1,y2,y3,y4⟩:=zQ yB;have yL:=yB.lt;have zB:Bk w2 (w.heap.size+1+1) 54 #[.int .i64 0,.int .i64 0,.int .i64 0,.int .i64 0,.int .i64 0]:=zH hb2 (by repeat (first | assumption | with_reducible exact zM _ _ _ | exact zO _ _ (by simp) | with_reducible refine zP ?_ | refine zN _ ?_));(try clear z0 z1 z2 z3 z4);obtain ⟨z0,z1,z2,z3,z4⟩:=zQ zB;have zL:=zB.lt;have zF:=fun i=>Bk.frozen zB i))
    | (go_at_call 56;((with_reducible refine (MA.out _).mono ?_);rintro e w3 ⟨rfl,hb3⟩;have kB:Bk w3 (w.heap.size) 54 #[.int .i64 p,.int .i64 b,.int .i64 l,.int .i64 a,.int .i64 s]:=zH hb3 (by repeat (first | assumption | with_reducible exact zM _ _ _ | exact zO _ _ (by simp) | with_reducible refine zP ?_ | refine zN _ ?_));(try clear k0 k1 k2 k3 k4);obtain ⟨k0,k1,k2,k3,k4⟩:=zQ kB;have kL:=kB.lt;have kF:=fun i=>Bk.frozen kB i;have yB:Bk w3 (w.heap.size+1) 54 #[.int .i64 p2,.int .i64 b2,.int .i64 l2,.int .i64 a2,.int .i64 s2]:=zH hb3 (by repeat (first | assumption | with_reducible exact zM _ _ _ | exact zO _ _ (by simp) | with_reducible refine zP ?_ | refine zN _ ?_));(try clear y0 y1 y2 y3 y4);obtain ⟨y0,y1,y2,y3,y4⟩:=zQ yB;have yL:=yB.lt;have zB:Bk w3 (w.heap.size+1+1) 54 #[.int .i64 0,.int .i64 0,.int .i64 0,.int .i64 0,.int .i64 0]:=zH hb3 (by repeat (first | assumption | with_reducible exact zM _ _ _ | exact zO _ _ (by simp) | with_reducible refine zP ?_ | refine zN _ ?_));(try clear z0 z1 z2 z3 z4);obtain ⟨z0,z1,z2,z3,z4⟩:=zQ zB;have zL:=zB.lt;have zF:=fun i=>Bk.frozen zB i))
    | (go_at_call 57;refine (zAh _ _ _ _).mono ?_;rintro e w' ⟨rfl,rfl⟩))
  refine bodyPost_ret (v:=KeyV.res _) (by simp [results,Tryz.results26,go_sem,KeyV.res,zeroK, *];try rfl) rfl ⟨rfl,?_⟩
  repeat (first | with_reducible exact Below.refl _ _ | with_reducible refine zG ?_ _ | with_reducible refine zJ ?_ | with_reducible refine zK ?_ (by first | omega | (simp;done) | (simp;omega)) _ | with_reducible refine zI ?_ ‹_›)
theorem zFZ (p b l a s p2 b2 l2 a2 s2:Int) (h1:KeyV.wf ⟨p,b,l,a,s⟩) (h2:KeyV.wf ⟨p2,b2,l2,a2,s2⟩) (w:World) :
  Calls Tryz.prog 29 #[.agg #[.int .i64 p,.int .i64 b,.int .i64 l,.int .i64 a,.int .i64 s],.agg #[.int .i64 p2,.int .i64 b2,.int .i64 l2,.int .i64 a2,.int .i64 s2]] w fun e w'=>e=.returned (KeyV.res (zA7 ⟨p,b,l,a,s⟩ ⟨p2,b2,l2,a2,s2⟩))∧Below w.heap.size w w':=by
 have bo:=fun W=>zIG p b l a s p2 b2 l2 a2 s2 W
 have pl:=fun W=>zBY p b l a s W
 have ma:=fun W=>zJM p2 b2 l2 a2 s2 64 h2.base h2.len h2.at_ W
 by_cases hb:zBA ⟨p,b,l,a,s⟩ ⟨p2,b2,l2,a2,s2⟩=0
 ·by_cases hs:s=0
  ·have e:zA7 ⟨p,b,l,a,s⟩ ⟨p2,b2,l2,a2,s2⟩=(zeroK,11):=by simp only [zA7,hb,if_true];rw [if_pos hs]
   rw [e]
   rw [hb] at bo
   have g:(s==0)=true:=by simp [hs]
   have BO:=zA bo
   have PL:=zA pl
   have MA:=zA ma
   have HS:=zA hs;clear hb hs
   clear bo pl ma e h1 h2
   go_enter Tryz.func29,Tryz.ntmps29
   go_wp2_with (first
     | (go_at_call 54;((with_reducible refine (BO.out _).mono ?_);rintro e w1 ⟨rfl,hb1⟩;have kB:Bk w1 (w.heap.size) 54 #[.int .i64 p,.int .i64 b,.int .i64 l,.int .i64 a,.int .i64 s]:=zH hb1 (by repeat (first | assumption | with_reducible exact zM _ _ _ | exact zO _ _ (by simp) | with_reducible refine zP ?_ | refine zN _ ?_));(try clear k0 k1 k2 k3 k4);obtain ⟨k0,k1,k2,k3,k4⟩:=zQ kB;have kL:=kB.lt;have kF:=fun i=>Bk.frozen kB i;have yB:Bk w1 (w.heap.size+1) 54 #[.int .i64 p2,.int .i64 b2,.int .i64 l2,.int .i64 a2,.int .i64 s2]:=zH hb1 (by repeat (first | assumption | with_reducible exact zM _ _ _ | exact zO _ _ (by simp) | with_reducible refine zP ?_ | refine zN _ ?_));(try clear y0 y1 y2 y3 y4);obtain ⟨y0,y1,y2,y3,y4⟩:=zQ yB;have yL:=yB.lt;have zB:Bk w1 (w.heap.size+1+1) 54 #[.int .i64 0,.int .i64 0,.int .i64 0,.int .i64 0,.int .i64 0]:=zH hb1 (by repeat (first | assumption | with_reducible exact zM _ _ _ | exact zO _ _ (by simp) | with_reducible refine zP ?_ | refine zN _ ?_));(try clear z0 z1 z2 z3 z4);obtain ⟨z0,z1,z2,z3,z4⟩:=zQ zB;have zL:=zB.lt;have zF:=fun i=>Bk.frozen zB i))
     | (go_at_call 55;((with_reducible refine (PL.out _).mono ?_);rintro e w2 ⟨rfl,hb2⟩;have kB:Bk w2 (w.heap.size) 54 #[.int .i64 p,.int .i64 b,.int .i64 l,.int .i64 a,.int .i64 s]:=zH hb2 (by repeat (first | assumption | with_reducible exact zM _ _ _ | exact zO _ _ (by simp) | with_reducible refine zP ?_ | refine zN _ ?_));(try clear k0 k1 k2 k3 k4);obtain ⟨k0,k1,k2,k3,k4⟩:=zQ kB;have kL:=kB.lt;have kF:=fun i=>Bk.frozen kB i;have yB:Bk w2 (w.heap.size+1) 54 #[.int .i64 p2,.int .i64 b2,.int .i64 l2,.int .i64 a2,.int .i64 s2]:=zH hb2 (by repeat (first | assumption | with_reducible exact zM _ _ _ | exact zO _ _ (by simp) | with_reducible refine zP ?_ | refine zN _ ?_));(try clear y0 y1 y2 y3 y4);obtain ⟨y0,y1,y2,y3,y4⟩:=zQ yB;have yL:=yB.lt;have zB:Bk w2 (w.heap.size+1+1) 54 #[.int .i64 0,.int .i64 0,.int .i64 0,.int .i64 0,.int .i64 0]:=zH hb2 (by repeat (first | assumption | with_reducible exact zM _ _ _ | exact zO _ _ (by simp) | with_reducible refine zP ?_ | refine zN _ ?_));(try clear z0 z1 z2 z3 z4);obtain ⟨z0,z1,z2,z3,z4⟩:=zQ zB;have zL:=zB.lt;have zF:=fun i=>Bk.frozen zB i))
     | (go_at_call 56;((with_reducible refine (MA.out _).mono ?_);rintro e w3 ⟨rfl,hb3⟩;have kB:Bk w3 (w.heap.size) 54 #[.int .i64 p,.int .i64 b,.int .i64 l,.int .i64 a,.int .i64 s]:=zH hb3 (by repeat (first | assumption | with_reducible exact zM _ _ _ | exact zO _ _ (by simp) | with_reducible refine zP ?_ | refine zN _ ?_));(try clear k0 k1 k2 k3 k4);obtain ⟨k0,k1,k2,k3,k4⟩:=zQ kB;have kL:=kB.lt;have kF:=fun i=>Bk.frozen kB i;have yB:Bk w3 (w.heap.size+1) 54 #[.int .i64 p2,.int .i64 b2,.int .i64 l2,.int .i64 a2,.int .i64 s2]:=zH hb3 (by repeat (first | assumption | with_reducible exact zM _ _ _ | exact zO _ _ (by simp) | with_reducible refine zP ?_ | refine zN _ ?_));(try clear y0 y1 y2 y3 y4);obtain ⟨y0,y1,y2,y3,y4⟩:=zQ yB;have yL:=yB.lt;have zB:Bk w3 (w.heap.size+1+1) 54 #[.int .i64 0,.int .i64 0,.int .i64 0,.int .i64 0,.int .i64 0]:=zH hb3 (by repeat (first | assumption | with_reducible exact zM _ _ _ | exact zO _ _ (by simp) | with_reducible refine zP ?_ | refine zN _ ?_));(try clear z0 z1 z2 z3 z4);obtain ⟨z0,z1,z2,z3,z4⟩:=zQ zB;have zL:=zB.lt;have zF:=fun i=>Bk.frozen zB i)))
   refine bodyPost_ret (v:=KeyV.res _) (by simp [results,Tryz.results29,go_sem,KeyV.res,zeroK, *];try rfl) rfl ⟨rfl,?_⟩
   repeat (first | with_reducible exact Below.refl _ _ | with_reducible refine zG ?_ _ | with_reducible refine zJ ?_ | with_reducible refine zK ?_ (by first | omega | (simp;done) | (simp;omega)) _ | with_reducible refine zI ?_ ‹_›)
  ·have g:(s==0)=false:=by simp [hs]
   by_cases hm:zBG ⟨p2,b2,l2,a2,s2⟩ 64=0
   ·by_cases ht:s=a2
    ·have e:zA7 ⟨p,b,l,a,s⟩ ⟨p2,b2,l2,a2,s2⟩=(⟨p,b,l,a,0⟩,0):=by simp only [zA7,hb,hs,hm,if_true,if_false];rw [if_pos ht]
     rw [e]
     rw [hb] at bo
     rw [hm] at ma
     have BO:=zA bo
     have PL:=zA pl
     have MA:=zA ma
     have g3:(s==a2)=true:=by simp [ht]
     have HT:=zA ht
     clear hb hm hs ht
     clear bo pl ma e h1 h2
     go_enter Tryz.func29,Tryz.ntmps29
     go_wp2_with (first
       | (go_at_call 54;((with_reducible refine (BO.out _).mono ?_);rintro e w1 ⟨rfl,hb1⟩;have kB:Bk w1 (w.heap.size) 54 #[.int .i64 p,.int .i64 b,.int .i64 l,.int .i64 a,.int .i64 s]:=zH hb1 (by repeat (first | assumption | with_reducible exact zM _ _ _ | exact zO _ _ (by simp) | with_reducible refine zP ?_ | refine zN _ ?_));(try clear k0 k1 k2 k3 k4);obtain ⟨k0,k1,k2,k3,k4⟩:=zQ kB;have kL:=kB.lt;have kF:=fun i=>Bk.frozen kB i;have yB:Bk w1 (w.heap.size+1) 54 #[.int .i64 p2,.int .i64 b2,.int .i64 l2,.int .i64 a2,.int .i64 s2]:=zH hb1 (by repeat (first | assumption | with_reducible exact zM _ _ _ | exact zO _ _ (by simp) | with_reducible refine zP ?_ | refine zN _ ?_));(try clear y0 y1 y2 y3 y4);obtain ⟨y0,y1,y2,y3,y4⟩:=zQ yB;have yL:=yB.lt;have zB:Bk w1 (w.heap.size+1+1) 54 #[.int .i64 0,.int .i64 0,.int .i64 0,.int .i64 0,.int .i64 0]:=zH hb1 (by repeat (first | assumption | with_reducible exact zM _ _ _ | exact zO _ _ (by simp) | with_reducible refine zP ?_ | refine zN _ ?_));(try clear z0 z1 z2 z3 z4);obtain ⟨z0,z1,z2,z3,z4⟩:=zQ zB;have zL:=zB.lt;have zF:=fun i=>Bk.frozen zB i))
       | (go_at_call 56;((with_reducible refine (MA.out _).mono ?_);rintro e w3 ⟨rfl,hb3⟩;have kB:Bk w3 (w.heap.size) 54 #[.int .i64 p,.int .i64 b,.int .i64 l,.int .i64 a,.int .i64 s]:=zH hb3 (by repeat (first | assumption | with_reducible exact zM _ _ _ | exact zO _ _ (by simp) | with_reducible refine zP ?_ | refine zN _ ?_));(try clear k0 k1 k2 k3 k4);obtain ⟨k0,k1,k2,k3,k4⟩:=zQ kB;have kL:=kB.lt;have kF:=fun i=>Bk.frozen kB i;have yB:Bk w3 (w.heap.size+1) 54 #[.int .i64 p2,.int .i64 b2,.int .i64 l2,.int .i64 a2,.int .i64 s2]:=zH hb3 (by repeat (first | assumption | with_reducible exact zM _ _ _ | exact zO _ _ (by simp) | with_reducible refine zP ?_ | refine zN _ ?_));(try clear y0 y1 y2 y3 y4);obtain ⟨y0,y1,y2,y3,y4⟩:=zQ yB;have yL:=yB.lt;have zB:Bk w3 (w.heap.size+1+1) 54 #[.int .i64 0,.int .i64 0,.int .i64 0,.int .i64 0,.int .i64 0]:=zH hb3 (by repeat (first | assumption | with_reducible exact zM _ _ _ | exact zO _ _ (by simp) | with_reducible refine zP ?_ | refine zN _ ?_));(try clear z0 z1 z2 z3 z4);obtain ⟨z0,z1,z2,z3,z4⟩:=zQ zB;have zL:=zB.lt;have zF:=fun i=>Bk.frozen zB i)))
     refine bodyPost_ret (v:=KeyV.res _) (by simp [results,Tryz.results29,go_sem,KeyV.res,zeroK, *];try rfl) rfl ⟨rfl,?_⟩
     repeat (first | with_reducible exact Below.refl _ _ | with_reducible refine zG ?_ _ | with_reducible refine zJ ?_ | with_reducible refine zK ?_ (by first | omega | (simp;done) | (simp;omega)) _ | with_reducible refine zI ?_ ‹_›)
    ·have e:zA7 ⟨p,b,l,a,s⟩ ⟨p2,b2,l2,a2,s2⟩=(zeroK,11):=by simp only [zA7,hb,hs,hm,if_true,if_false];rw [if_neg ht]
     rw [e]
     rw [hb] at bo
     rw [hm] at ma
     have BO:=zA bo
     have PL:=zA pl
     have MA:=zA ma
     have g3:(s==a2)=false:=by simp [ht]
     clear hb hm hs ht
     clear bo pl ma e h1 h2
     go_enter Tryz.func29,Tryz.ntmps29
     go_wp2_with (first
       | (go_at_call 54;((with_reducible refine (BO.out _).mono ?_);rintro e w1 ⟨rfl,hb1⟩;have kB:Bk w1 (w.heap.size) 54 #[.int .i64 p,.int .i64 b,.int .i64 l,.int .i64 a,.int .i64 s]:=zH hb1 (by repeat (first | assumption | with_reducible exact zM _ _ _ | exact zO _ _ (by simp) | with_reducible refine zP ?_ | refine zN _ ?_));(try clear k0 k1 k2 k3 k4);obtain ⟨k0,k1,k2,k3,k4⟩:=zQ kB;have kL:=kB.lt;have kF:=fun i=>Bk.frozen kB i;have yB:Bk w1 (w.heap.size+1) 54 #[.int .i64 p2,.int .i64 b2,.int .i64 l2,.int .i64 a2,.int .i64 s2]:=zH hb1 (by repeat (first | assumption | with_reducible exact zM _ _ _ | exact zO _ _ (by simp) | with_reducible refine zP ?_ | refine zN _ ?_));(try clear y0 y1 y2 y3 y4);obtain ⟨y0,y1,y2,y3,y4⟩:=zQ yB;have yL:=yB.lt;have zB:Bk w1 (w.heap.size+1+1) 54 #[.int .i64 0,.int .i64 0,.int .i64 0,.int .i64 0,.int .i64 0]:=zH hb1 (by repeat (first | assumption | with_reducible exact zM _ _ _ | exact zO _ _ (by simp) | with_reducible refine zP ?_ | refine zN _ ?_));(try clear z0 z1 z2 z3 z4);obtain ⟨z0,z1,z2,z3,z4⟩:=zQ zB;have zL:=zB.lt;have zF:=fun i=>Bk.frozen zB i))
       | (go_at_call 56;((with_reducible refine (MA.out _).mono ?_);rintro e w3 ⟨rfl,hb3⟩;have kB:Bk w3 (w.heap.size) 54 #[.int .i64 p,.int .i64 b,.int .i64 l,.int .i64 a,.int .i64 s]:=zH hb3 (by repeat (first | assumption | with_reducible exact zM _ _ _ | exact zO _ _ (by simp) | with_reducible refine zP ?_ | refine zN _ ?_));(try clear k0 k1 k2 k3 k4);obtain ⟨k0,k1,k2,k3,k4⟩:=zQ kB;have kL:=kB.lt;have kF:=fun i=>Bk.frozen kB i;have yB:Bk w3 (w.heap.size+1) 54 #[.int .i64 p2,.int .i64 b2,.int .i64 l2,.int .i64 a2,.int .i64 s2]:=zH hb3 (by repeat (first | assumption | with_reducible exact zM _ _ _ | exact zO _ _ (by simp) | with_reducible refine zP ?_ | refine zN _ ?_));(try clear y0 y1 y2 y3 y4);obtain ⟨y0,y1,y2,y3,y4⟩:=zQ yB;have yL:=yB.lt;have zB:Bk w3 (w.heap.size+1+1) 54 #[.int .i64 0,.int .i64 0,.int .i64 0,.int .i64 0,.int .i64 0]:=zH hb3 (by repeat (first | assumption | with_reducible exact zM _ _ _ | exact zO _ _ (by simp) | with_reducible refine zP ?_ | refine zN _ ?_));(try clear z0 z1 z2 z3 z4);obtain ⟨z0,z1,z2,z3,z4⟩:=zQ zB;have zL:=zB.lt;have zF:=fun i=>Bk.frozen zB i)))
     refine bodyPost_ret (v:=KeyV.res _) (by simp [results,Tryz.results29,go_sem,KeyV.res,zeroK, *];try rfl) rfl ⟨rfl,?_⟩
     repeat (first | with_reducible exact Below.refl _ _ | with_reducible refine zG ?_ _ | with_reducible refine zJ ?_ | with_reducible refine zK ?_ (by first | omega | (simp;done) | (simp;omega)) _ | with_reducible refine zI ?_ ‹_›)
   ·have e:zA7 ⟨p,b,l,a,s⟩ ⟨p2,b2,l2,a2,s2⟩=(zeroK,zBG ⟨p2,b2,l2,a2,s2⟩ 64):=by simp [zA7,hb,hm,hs]
    rw [e]
    rw [hb] at bo
    have g2:(zBG ⟨p2,b2,l2,a2,s2⟩ 64==0)=false:=by simp [hm]
    generalize zBG ⟨p2,b2,l2,a2,s2⟩ 64=c at *
    have BO:=zA bo
    have PL:=zA pl
    have MA:=zA ma
    clear hb hm hs
    clear bo pl ma e h1 h2
    go_enter Tryz.func29,Tryz.ntmps29
    go_wp2_with (first
      | (go_at_call 54;((with_reducible refine (BO.out _).mono ?_);rintro e w1 ⟨rfl,hb1⟩;have kB:Bk w1 (w.heap.size) 54 #[.int .i64 p,.int .i64 b,.int .i64 l,.int .i64 a,.int .i64 s]:=zH hb1 (by repeat (first | assumption | with_reducible exact zM _ _ _ | exact zO _ _ (by simp) | with_reducible refine zP ?_ | refine zN _ ?_));(try clear k0 k1 k2 k3 k4);obtain ⟨k0,k1,k2,k3,k4⟩:=zQ kB;have kL:=kB.lt;have kF:=fun i=>Bk.frozen kB i;have yB:Bk w1 (w.heap.size+1) 54 #[.int .i64 p2,.int .i64 b2,.int .i64 l2,.int .i64 a2,.int .i64 s2]:=zH hb1 (by repeat (first | assumption | with_reducible exact zM _ _ _ | exact zO _ _ (by simp) | with_reducible refine zP ?_ | refine zN _ ?_));(try clear y0 y1 y2 y3 y4);obtain ⟨y0,y1,y2,y3,y4⟩:=zQ yB;have yL:=yB.lt;have zB:Bk w1 (w.heap.size+1+1) 54 #[.int .i64 0,.int .i64 0,.int .i64 0,.int .i64 0,.int .i64 0]:=zH hb1 (by repeat (first | assumption | with_reducible exact zM _ _ _ | exact zO _ _ (by simp) | with_reducible refine zP ?_ | refine zN _ ?_));(try clear z0 z1 z2 z3 z4);obtain ⟨z0,z1,z2,z3,z4⟩:=zQ zB;have zL:=zB.lt;have zF:=fun i=>Bk.frozen zB i))
      | (go_at_call 56;((with_reducible refine (MA.out _).mono ?_);rintro e w3 ⟨rfl,hb3⟩;have kB:Bk w3 (w.heap.size) 54 #[.int .i64 p,.int .i64 b,.int .i64 l,.int .i64 a,.int .i64 s]:=zH hb3 (by repeat (first | assumption | with_reducible exact zM _ _ _ | exact zO _ _ (by simp) | with_reducible refine zP ?_ | refine zN _ ?_));(try clear k0 k1 k2 k3 k4);obtain ⟨k0,k1,k2,k3,k4⟩:=zQ kB;have kL:=kB.lt;have kF:=fun i=>Bk.frozen kB i;have yB:Bk w3 (w.heap.size+1) 54 #[.int .i64 p2,.int .i64 b2,.int .i64 l2,.int .i64 a2,.int .i64 s2]:=zH hb3 (by repeat (first | assumption | with_reducible exact zM _ _ _ | exact zO _ _ (by simp) | with_reducible refine zP ?_ | refine zN _ ?_));(try clear y0 y1 y2 y3 y4);obtain ⟨y0,y1,y2,y3,y4⟩:=zQ yB;have yL:=yB.lt;have zB:Bk w3 (w.heap.size+1+1) 54 #[.int .i64 0,.int .i64 0,.int .i64 0,.int .i64 0,.int .i64 0]:=zH hb3 (by repeat (first | assumption | with_reducible exact zM _ _ _ | exact zO _ _ (by simp) | with_reducible refine zP ?_ | refine zN _ ?_));(try clear z0 z1 z2 z3 z4);obtain ⟨z0,z1,z2,z3,z4⟩:=zQ zB;have zL:=zB.lt;have zF:=fun i=>Bk.frozen zB i)))
    refine bodyPost_ret (v:=KeyV.res _) (by simp [results,Tryz.results29,go_sem,KeyV.res,zeroK, *];try rfl) rfl ⟨rfl,?_⟩
    repeat (first | with_reducible exact Below.refl _ _ | with_reducible refine zG ?_ _ | with_reducible refine zJ ?_ | with_reducible refine zK ?_ (by first | omega | (simp;done) | (simp;omega)) _ | with_reducible refine zI ?_ ‹_›)
 ·have e:zA7 ⟨p,b,l,a,s⟩ ⟨p2,b2,l2,a2,s2⟩=(zeroK,zBA ⟨p,b,l,a,s⟩ ⟨p2,b2,l2,a2,s2⟩):=by simp [zA7,hb]
  rw [e]
  have g:(zBA ⟨p,b,l,a,s⟩ ⟨p2,b2,l2,a2,s2⟩==0)=false:=by simp [hb]
  generalize zBA ⟨p,b,l,a,s⟩ ⟨p2,b2,l2,a2,s2⟩=c at *
  have BO:=zA bo
  have PL:=zA pl
  have MA:=zA ma
  clear hb
  clear bo pl ma e h1 h2
  go_enter Tryz.func29,Tryz.ntmps29
  go_wp2_with (first
    | (go_at_call 54;((with_reducible refine (BO.out _).mono ?_);rintro e w1 ⟨rfl,hb1⟩;have kB:Bk w1 (w.heap.size) 54 #[.int .i64 p,.int .i64 b,.int .i64 l,.int .i64 a,.int .i64 s]:=zH hb1 (by repeat (first | assumption | with_reducible exact zM _ _ _ | exact zO _ _ (by simp) | with_reducible refine zP ?_ | refine zN _ ?_));(try clear k0 k1 k2 k3 k4);obtain ⟨k0,k1,k2,k3,k4⟩:=zQ kB;have kL:=kB.lt;have kF:=fun i=>Bk.frozen kB i;have yB:Bk w1 (w.heap.size+1) 54 #[.int .i64 p2,.int .i64 b2,.int .i64 l2,.int .i64 a2,.int .i64 s2]:=zH hb1 (by repeat (first | assumption | with_reducible exact zM _ _ _ | exact zO _ _ (by simp) | with_reducible refine zP ?_ | refine zN _ ?_));(try clear y0 y1 y2 y3 y4);obtain ⟨y0,y1,y2,y3,y4⟩:=zQ yB;have yL:=yB.lt;have zB:Bk w1 (w.heap.size+1+1) 54 #[.int .i64 0,.int .i64 0,.int .i64 0,.int .i64 0,.int .i64 0]:=zH hb1 (by repeat (first | assumption | with_reducible exact zM _ _ _ | exact zO _ _ (by simp) | with_reducible refine zP ?_ | refine zN _ ?_));(try clear z0 z1 z2 z3 z4);obtain ⟨z0,z1,z2,z3,z4⟩:=zQ zB;have zL:=zB.lt;have zF:=fun i=>Bk.frozen zB i))
    | (go_at_call 56;((with_reducible refine (MA.out _).mono ?_);rintro e w3 ⟨rfl,hb3⟩;have kB:Bk w3 (w.heap.size) 54 #[.int .i64 p,.int .i64 b,.int .i64 l,.int .i64 a,.int .i64 s]:=zH hb3 (by repeat (first | assumption | with_reducible exact zM _ _ _ | exact zO _ _ (by simp) | with_reducible refine zP ?_ | refine zN _ ?_));(try clear k0 k1 k2 k3 k4);obtain ⟨k0,k1,k2,k3,k4⟩:=zQ kB;have kL:=kB.lt;have kF:=fun i=>Bk.frozen kB i;have yB:Bk w3 (w.heap.size+1) 54 #[.int .i64 p2,.int .i64 b2,.int .i64 l2,.int .i64 a2,.int .i64 s2]:=zH hb3 (by repeat (first | assumption | with_reducible exact zM _ _ _ | exact zO _ _ (by simp) | with_reducible refine zP ?_ | refine zN _ ?_));(try clear y0 y1 y2 y3 y4);obtain ⟨y0,y1,y2,y3,y4⟩:=zQ yB;have yL:=yB.lt;have zB:Bk w3 (w.heap.size+1+1) 54 #[.int .i64 0,.int .i64 0,.int .i64 0,.int .i64 0,.int .i64 0]:=zH hb3 (by repeat (first | assumption | with_reducible exact zM _ _ _ | exact zO _ _ (by simp) | with_reducible refine zP ?_ | refine zN _ ?_));(try clear z0 z1 z2 z3 z4);obtain ⟨z0,z1,z2,z3,z4⟩:=zQ zB;have zL:=zB.lt;have zF:=fun i=>Bk.frozen zB i)))
  refine bodyPost_ret (v:=KeyV.res _) (by simp [results,Tryz.results29,go_sem,KeyV.res,zeroK, *];try rfl) rfl ⟨rfl,?_⟩
  repeat (first | with_reducible exact Below.refl _ _ | with_reducible refine zG ?_ _ | with_reducible refine zJ ?_ | with_reducible refine zK ?_ (by first | omega | (simp;done) | (simp;omega)) _ | with_reducible refine zI ?_ ‹_›)
end Go.Proofs.YtlpejagkadalbaaGreatDoor
