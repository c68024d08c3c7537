import Derived.Test.YtlpejagkadalbaaGreatDoorPk02
import Derived.Test.YtlpejagkadalbaaGreatDoorPk05
set_option maxHeartbeats 40000000
set_option maxRecDepth 100000
set_option linter.unusedVariables false
set_option linter.unusedSimpArgs false
namespace Go.Proofs.YtlpejagkadalbaaGreatDoor
open Go.RowKit
theorem mat_any (ao:Option Addr) (n cap:Nat) (p b l a s off q:Int) (hw:KeyV.wf ⟨p,b,l,a,s⟩) (hoff:I64 off) (hn:n≤maxLen) (w:World) :
  Calls Tryz.prog 106 #[.slice ao n cap,.agg #[.int .i64 p,.int .i64 b,.int .i64 l,.int .i64 a,.int .i64 s],.int .i64 off,.int .i64 q] w
   fun e w'=>e=.returned (.tuple #[.int .i64 (atF n ⟨p,b,l,a,s⟩ off q).1,.int .i64 (atF n ⟨p,b,l,a,s⟩ off q).2])∧Below w.heap.size w w':=by
 obtain ⟨o0,o1⟩:=hoff
 unfold maxLen at hn
 have ck:=fun W=>check_any p b l a s W
 have hand:bits .and .i64 p q=andI p q:=bits_and_bv p q
 cases hok:okB ⟨p,b,l,a,s⟩
 ·have e:atF n ⟨p,b,l,a,s⟩ off q=(0,1):=by unfold atF;rw [if_pos hok]
  have e2:keyCheck ⟨p,b,l,a,s⟩=1:=by simp [keyCheck,hok]
  rw [e]
  rw [e2] at ck
  have CK:=Lib.hid ck
  clear ck e e2 hok hw hand
  go_enter Tryz.func106,Tryz.ntmps106
  go_wp2_with (first
   | (go_at_call 27;((with_reducible refine (CK.out _).mono ?_);rintro e w1 ⟨rfl,hb1⟩;have kB:Bk w1 (w.heap.size) 54 #[.int .i64 p,.int .i64 b,.int .i64 l,.int .i64 a,.int .i64 s]:=bk_keep hb1 (by repeat (first | assumption | with_reducible exact bk_new _ _ _ | (with_reducible refine bk_new' _ _ ?_;simp;done) | with_reducible refine bk_drew ?_ | with_reducible refine bk_drewN _ ?_ | with_reducible refine bk_old _ ?_ | (with_reducible refine bk_far' _ (by omega) ?_) | with_reducible apply bk_set' | rfl));(try clear k0 k1 k2 k3 k4);obtain ⟨k0,k1,k2,k3,k4⟩:=cells5 kB;have kL:=kB.lt)))
  go_ret2
  refine ⟨rfl,?_⟩
  repeat (first | with_reducible exact Below.refl _ _ | with_reducible refine ext_alloc ?_ _ | with_reducible refine ext_drew ?_ | with_reducible refine ext_set ?_ (by first | omega | (simp;done) | (simp;omega)) _ | with_reducible refine ext_trans ?_ ‹_›)
 ·have e2:keyCheck ⟨p,b,l,a,s⟩=0:=by simp [keyCheck,hok]
  rw [e2] at ck
  have hk:=(okB_iff _).1 hok
  obtain ⟨p0,p1,b0,b1,l0,l1,a0,a1,s0,s1⟩:=hk
  simp only at p0 p1 b0 b1 l0 l1 a0 a1 s0 s1
  have CK:=Lib.hid ck
  clear ck e2
  by_cases hs:s=0
  ·have g1:(s==0)=true:=by simp [hs]
   have g1':(s != 0)=false:=by simp [hs]
   by_cases hm:andI p q=0
   ·have e:atF n ⟨p,b,l,a,s⟩ off q=(0,12):=by unfold atF;rw [if_neg (by simp [hok]),if_neg (by simp [hs]),if_pos hm]
    have g2:(andI p q==0)=true:=by simp [hm]
    rw [e]
    have HM:=Lib.hid hm
    have HS:=Lib.hid hs
    clear e hok hw hm hs
    go_enter Tryz.func106,Tryz.ntmps106
    go_wp2_with (first
     | (go_at_call 27;((with_reducible refine (CK.out _).mono ?_);rintro e w1 ⟨rfl,hb1⟩;have kB:Bk w1 (w.heap.size) 54 #[.int .i64 p,.int .i64 b,.int .i64 l,.int .i64 a,.int .i64 s]:=bk_keep hb1 (by repeat (first | assumption | with_reducible exact bk_new _ _ _ | (with_reducible refine bk_new' _ _ ?_;simp;done) | with_reducible refine bk_drew ?_ | with_reducible refine bk_drewN _ ?_ | with_reducible refine bk_old _ ?_ | (with_reducible refine bk_far' _ (by omega) ?_) | with_reducible apply bk_set' | rfl));(try clear k0 k1 k2 k3 k4);obtain ⟨k0,k1,k2,k3,k4⟩:=cells5 kB;have kL:=kB.lt)))
    go_ret2
    refine ⟨rfl,?_⟩
    repeat (first | with_reducible exact Below.refl _ _ | with_reducible refine ext_alloc ?_ _ | with_reducible refine ext_drew ?_ | with_reducible refine ext_set ?_ (by first | omega | (simp;done) | (simp;omega)) _ | with_reducible refine ext_trans ?_ ‹_›)
   ·have g2:(andI p q==0)=false:=by simp [hm]
    by_cases h4:off < -400
    ·have e:atF n ⟨p,b,l,a,s⟩ off q=(0,13):=by unfold atF;rw [if_neg (by simp [hok]),if_neg (by simp [hs]),if_neg hm,if_pos (by simp [h4])]
     rw [e]
     have HS:=Lib.hid hs
     clear e hok hw hm hs
     go_enter Tryz.func106,Tryz.ntmps106
     go_wp2_with (first
      | (go_at_call 27;((with_reducible refine (CK.out _).mono ?_);rintro e w1 ⟨rfl,hb1⟩;have kB:Bk w1 (w.heap.size) 54 #[.int .i64 p,.int .i64 b,.int .i64 l,.int .i64 a,.int .i64 s]:=bk_keep hb1 (by repeat (first | assumption | with_reducible exact bk_new _ _ _ | (with_reducible refine bk_new' _ _ ?_;simp;done) | with_reducible refine bk_drew ?_ | with_reducible refine bk_drewN _ ?_ | with_reducible refine bk_old _ ?_ | (with_reducible refine bk_far' _ (by omega) ?_) | with_reducible apply bk_set' | rfl));(try clear k0 k1 k2 k3 k4);obtain ⟨k0,k1,k2,k3,k4⟩:=cells5 kB;have kL:=kB.lt)))
     go_ret2
     refine ⟨rfl,?_⟩
     repeat (first | with_reducible exact Below.refl _ _ | with_reducible refine ext_alloc ?_ _ | with_reducible refine ext_drew ?_ | with_reducible refine ext_set ?_ (by first | omega | (simp;done) | (simp;omega)) _ | with_reducible refine ext_trans ?_ ‹_›)
    ·by_cases h5:400 < off
     ·have e:atF n ⟨p,b,l,a,s⟩ off q=(0,13):=by unfold atF;rw [if_neg (by simp [hok]),if_neg (by simp [hs]),if_neg hm,if_pos (by simp [h5])]
      rw [e]
      have HS:=Lib.hid hs
      clear e hok hw hm hs
      go_enter Tryz.func106,Tryz.ntmps106
      go_wp2_with (first
       | (go_at_call 27;((with_reducible refine (CK.out _).mono ?_);rintro e w1 ⟨rfl,hb1⟩;have kB:Bk w1 (w.heap.size) 54 #[.int .i64 p,.int .i64 b,.int .i64 l,.int .i64 a,.int .i64 s]:=bk_keep hb1 (by repeat (first | assumption | with_reducible exact bk_new _ _ _ | (with_reducible refine bk_new' _ _ ?_;simp;done) | with_reducible refine bk_drew ?_ | with_reducible refine bk_drewN _ ?_ | with_reducible refine bk_old _ ?_ | (with_reducible refine bk_far' _ (by omega) ?_) | with_reducible apply bk_set' | rfl));(try clear k0 k1 k2 k3 k4);obtain ⟨k0,k1,k2,k3,k4⟩:=cells5 kB;have kL:=kB.lt)))
      go_ret2
      refine ⟨rfl,?_⟩
      repeat (first | with_reducible exact Below.refl _ _ | with_reducible refine ext_alloc ?_ _ | with_reducible refine ext_drew ?_ | with_reducible refine ext_set ?_ (by first | omega | (simp;done) | (simp;omega)) _ | with_reducible refine ext_trans ?_ ‹_›)
     ·have cv:=fun W=>covers_any p b l a s (a+off) hw.base hw.len (by constructor<;>omega) W
      cases hc:covB b l (a+off)
      ·have e:atF n ⟨p,b,l,a,s⟩ off q=(0,13):=by unfold atF;rw [if_neg (by simp [hok]),if_neg (by simp [hs]),if_neg hm,if_pos (by simp [hc])]
       rw [e]
       rw [hc] at cv
       have CV:=Lib.hid cv
       have HS:=Lib.hid hs
       clear e hok hw hm hs hc cv
       go_enter Tryz.func106,Tryz.ntmps106
       go_wp2_with (first
        | (go_at_call 27;((with_reducible refine (CK.out _).mono ?_);rintro e w1 ⟨rfl,hb1⟩;have kB:Bk w1 (w.heap.size) 54 #[.int .i64 p,.int .i64 b,.int .i64 l,.int .i64 a,.int .i64 s]:=bk_keep hb1 (by repeat (first | assumption | with_reducible exact bk_new _ _ _ | (with_reducible refine bk_new' _ _ ?_;simp;done) | with_reducible refine bk_drew ?_ | with_reducible refine bk_drewN _ ?_ | with_reducible refine bk_old _ ?_ | (with_reducible refine bk_far' _ (by omega) ?_) | with_reducible apply bk_set' | rfl));(try clear k0 k1 k2 k3 k4);obtain ⟨k0,k1,k2,k3,k4⟩:=cells5 kB;have kL:=kB.lt))
        | (go_at_call 79;((with_reducible refine (CV.out _).mono ?_);rintro e w2 ⟨rfl,hb2⟩;have kB:Bk w2 (w.heap.size) 54 #[.int .i64 p,.int .i64 b,.int .i64 l,.int .i64 a,.int .i64 s]:=bk_keep hb2 (by repeat (first | assumption | with_reducible exact bk_new _ _ _ | (with_reducible refine bk_new' _ _ ?_;simp;done) | with_reducible refine bk_drew ?_ | with_reducible refine bk_drewN _ ?_ | with_reducible refine bk_old _ ?_ | (with_reducible refine bk_far' _ (by omega) ?_) | with_reducible apply bk_set' | rfl));(try clear k0 k1 k2 k3 k4);obtain ⟨k0,k1,k2,k3,k4⟩:=cells5 kB;have kL:=kB.lt)))
       go_ret2
       refine ⟨rfl,?_⟩
       repeat (first | with_reducible exact Below.refl _ _ | with_reducible refine ext_alloc ?_ _ | with_reducible refine ext_drew ?_ | with_reducible refine ext_set ?_ (by first | omega | (simp;done) | (simp;omega)) _ | with_reducible refine ext_trans ?_ ‹_›)
      ·have hcv:=covB_iff.1 hc
       rw [hc] at cv
       have CV:=Lib.hid cv
       by_cases h6:(n:Int)≤a+off
       ·have e:atF n ⟨p,b,l,a,s⟩ off q=(0,13):=by unfold atF;rw [if_neg (by simp [hok]),if_neg (by simp [hs]),if_neg hm,if_pos (by simp [h6])]
        rw [e]
        have HS:=Lib.hid hs
        clear e hok hw hm hs hc cv hcv
        go_enter Tryz.func106,Tryz.ntmps106
        go_wp2_with (first
         | (go_at_call 27;((with_reducible refine (CK.out _).mono ?_);rintro e w1 ⟨rfl,hb1⟩;have kB:Bk w1 (w.heap.size) 54 #[.int .i64 p,.int .i64 b,.int .i64 l,.int .i64 a,.int .i64 s]:=bk_keep hb1 (by repeat (first | assumption | with_reducible exact bk_new _ _ _ | (with_reducible refine bk_new' _ _ ?_;simp;done) | with_reducible refine bk_drew ?_ | with_reducible refine bk_drewN _ ?_ | with_reducible refine bk_old _ ?_ | (with_reducible refine bk_far' _ (by omega) ?_) | with_reducible apply bk_set' | rfl));(try clear k0 k1 k2 k3 k4);obtain ⟨k0,k1,k2,k3,k4⟩:=cells5 kB;have kL:=kB.lt))
         | (go_at_call 79;((with_reducible refine (CV.out _).mono ?_);rintro e w2 ⟨rfl,hb2⟩;have kB:Bk w2 (w.heap.size) 54 #[.int .i64 p,.int .i64 b,.int .i64 l,.int .i64 a,.int .i64 s]:=bk_keep hb2 (by repeat (first | assumption | with_reducible exact bk_new _ _ _ | (with_reducible refine bk_new' _ _ ?_;simp;done) | with_reducible refine bk_drew ?_ | with_reducible refine bk_drewN _ ?_ | with_reducible refine bk_old _ ?_ | (with_reducible refine bk_far' _ (by omega) ?_) | with_reducible apply bk_set' | rfl));(try clear k0 k1 k2 k3 k4);obtain ⟨k0,k1,k2,k3,k4⟩:=cells5 kB;have kL:=kB.lt)))
        go_ret2
        refine ⟨rfl,?_⟩
        repeat (first | with_reducible exact Below.refl _ _ | with_reducible refine ext_alloc ?_ _ | with_reducible refine ext_drew ?_ | with_reducible refine ext_set ?_ (by first | omega | (simp;done) | (simp;omega)) _ | with_reducible refine ext_trans ?_ ‹_›)
       ·have e:atF n ⟨p,b,l,a,s⟩ off q=(a+off,0):=by unfold atF;rw [if_neg (by simp [hok]),if_neg (by simp [hs]),if_neg hm,if_neg (by rintro (h | h | h | h);exact h4 h;exact h5 h;(simp only at h;rw [hc] at h;cases h);exact h6 h)]
        rw [e]
        have HS:=Lib.hid hs
        clear e hok hw hm hs hc cv hcv
        go_enter Tryz.func106,Tryz.ntmps106
        go_wp2_with (first
         | (go_at_call 27;((with_reducible refine (CK.out _).mono ?_);rintro e w1 ⟨rfl,hb1⟩;have kB:Bk w1 (w.heap.size) 54 #[.int .i64 p,.int .i64 b,.int .i64 l,.int .i64 a,.int .i64 s]:=bk_keep hb1 (by repeat (first | assumption | with_reducible exact bk_new _ _ _ | (with_reducible refine bk_new' _ _ ?_;simp;done) | with_reducible refine bk_drew ?_ | with_reducible refine bk_drewN _ ?_ | with_reducible refine bk_old _ ?_ | (with_reducible refine bk_far' _ (by omega) ?_) | with_reducible apply bk_set' | rfl));(try clear k0 k1 k2 k3 k4);obtain ⟨k0,k1,k2,k3,k4⟩:=cells5 kB;have kL:=kB.lt))
         | (go_at_call 79;((with_reducible refine (CV.out _).mono ?_);rintro e w2 ⟨rfl,hb2⟩;have kB:Bk w2 (w.heap.size) 54 #[.int .i64 p,.int .i64 b,.int .i64 l,.int .i64 a,.int .i64 s]:=bk_keep hb2 (by repeat (first | assumption | with_reducible exact bk_new _ _ _ | (with_reducible refine bk_new' _ _ ?_;simp;done) | with_reducible refine bk_drew ?_ | with_reducible refine bk_drewN _ ?_ | with_reducible refine bk_old _ ?_ | (with_reducible refine bk_far' _ (by omega) ?_) | with_reducible apply bk_set' | rfl));(try clear k0 k1 k2 k3 k4);obtain ⟨k0,k1,k2,k3,k4⟩:=cells5 kB;have kL:=kB.lt)))
        go_ret2
        refine ⟨rfl,?_⟩
        repeat (first | with_reducible exact Below.refl _ _ | with_reducible refine ext_alloc ?_ _ | with_reducible refine ext_drew ?_ | with_reducible refine ext_set ?_ (by first | omega | (simp;done) | (simp;omega)) _ | with_reducible refine ext_trans ?_ ‹_›)
  ·have g1:(s==0)=false:=by simp [hs]
   have g1':(s != 0)=true:=by simp [hs]
   have e:atF n ⟨p,b,l,a,s⟩ off q=(0,11):=by unfold atF;rw [if_neg (by simp [hok]),if_pos (by simp [hs])]
   rw [e]
   clear e hok hw hs
   go_enter Tryz.func106,Tryz.ntmps106
   go_wp2_with (first
    | (go_at_call 27;((with_reducible refine (CK.out _).mono ?_);rintro e w1 ⟨rfl,hb1⟩;have kB:Bk w1 (w.heap.size) 54 #[.int .i64 p,.int .i64 b,.int .i64 l,.int .i64 a,.int .i64 s]:=bk_keep hb1 (by repeat (first | assumption | with_reducible exact bk_new _ _ _ | (with_reducible refine bk_new' _ _ ?_;simp;done) | with_reducible refine bk_drew ?_ | with_reducible refine bk_drewN _ ?_ | with_reducible refine bk_old _ ?_ | (with_reducible refine bk_far' _ (by omega) ?_) | with_reducible apply bk_set' | rfl));(try clear k0 k1 k2 k3 k4);obtain ⟨k0,k1,k2,k3,k4⟩:=cells5 kB;have kL:=kB.lt)))
   go_ret2
   refine ⟨rfl,?_⟩
   repeat (first | with_reducible exact Below.refl _ _ | with_reducible refine ext_alloc ?_ _ | with_reducible refine ext_drew ?_ | with_reducible refine ext_set ?_ (by first | omega | (simp;done) | (simp;omega)) _ | with_reducible refine ext_trans ?_ ‹_›)
end Go.Proofs.YtlpejagkadalbaaGreatDoor
