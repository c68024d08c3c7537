import Derived.Test.YtlpejagkadalbaaGreatDoorZk03
import Derived.Test.YtlpejagkadalbaaGreatDoorZk05
import Derived.Deep.RegionHeld3
import Derived.Lib.ItoaLen
set_option maxHeartbeats 40000000
set_option maxRecDepth 100000
set_option linter.unusedVariables false
set_option linter.unusedSimpArgs false
namespace Go.Proofs.YtlpejagkadalbaaGreatDoor
section
open Go.RowKit
theorem zGM (ao:Option Addr) (n cap:Nat) (p b l a s off q:Int) (hw:KeyV.wf ⟨p,b,l,a,s⟩) (hoff:I64 off) (hn:n≤maxLen) (w:World) :
  Calls Tryz.prog 106 #[.slice ao n cap,.agg #[.int .i64 p,.int .i64 b,.int .i64 l,.int .i64 a,.int .i64 s],.int .i64 off,.int .i64 q] w
   fun e w'=>e=.returned (.tuple #[.int .i64 (atF n ⟨p,b,l,a,s⟩ off q).1,.int .i64 (atF n ⟨p,b,l,a,s⟩ off q).2])∧Below w.heap.size w w':=by
 obtain ⟨o0,o1⟩:=hoff
 unfold maxLen at hn
 have ck:=fun W=>zBU p b l a s W
 have hand:bits .and .i64 p q=zAM p q:=zBq p q
 cases hok:okB ⟨p,b,l,a,s⟩
 ·have e:atF n ⟨p,b,l,a,s⟩ off q=(0,1):=by unfold atF;rw [if_pos hok]
  have e2:zAF ⟨p,b,l,a,s⟩=1:=by simp [zAF,hok]
  rw [e]
  rw [e2] at ck
  have CK:=zA ck
  clear ck e e2 hok hw hand
  go_enter Tryz.func106,Tryz.ntmps106
  go_wp2_with (first
   | (go_at_call 27;((with_reducible refine (CK.out _).mono ?_);rintro e w1 ⟨rfl,hb1⟩;have kB:Bk w1 (w.heap.size) 54 #[.int .i64 p,.int .i64 b,.int .i64 l,.int .i64 a,.int .i64 s]:=zH hb1 (by repeat (first | assumption | with_reducible exact zM _ _ _ | (with_reducible refine zO _ _ ?_;simp;done) | with_reducible refine zP ?_ | with_reducible refine bk_drewN _ ?_ | with_reducible refine zN _ ?_ | (with_reducible refine zU _ (by omega) ?_) | with_reducible apply zT | rfl));(try clear k0 k1 k2 k3 k4);obtain ⟨k0,k1,k2,k3,k4⟩:=zQ kB;have kL:=kB.lt)))
  go_ret2
  refine ⟨rfl,?_⟩
  repeat (first | with_reducible exact Below.refl _ _ | with_reducible refine zG ?_ _ | with_reducible refine zJ ?_ | with_reducible refine zK ?_ (by first | omega | (simp;done) | (simp;omega)) _ | with_reducible refine zI ?_ ‹_›)
 ·have e2:zAF ⟨p,b,l,a,s⟩=0:=by simp [zAF,hok]
  rw [e2] at ck
  have hk:=(zBK _).1 hok
  obtain ⟨p0,p1,b0,b1,l0,l1,a0,a1,s0,s1⟩:=hk
  simp only at p0 p1 b0 b1 l0 l1 a0 a1 s0 s1
  have CK:=zA ck
  clear ck e2
  by_cases hs:s=0
  ·have g1:(s==0)=true:=by simp [hs]
   have g1':(s != 0)=false:=by simp [hs]
   by_cases hm:zAM p q=0
   ·have e:atF n ⟨p,b,l,a,s⟩ off q=(0,12):=by unfold atF;rw [if_neg (by simp [hok]),if_neg (by simp [hs]),if_pos hm]
    have g2:(zAM p q==0)=true:=by simp [hm]
    rw [e]
    have HM:=zA hm
    have HS:=zA hs
    clear e hok hw hm hs
    go_enter Tryz.func106,Tryz.ntmps106
    go_wp2_with (first
     | (go_at_call 27;((with_reducible refine (CK.out _).mono ?_);rintro e w1 ⟨rfl,hb1⟩;have kB:Bk w1 (w.heap.size) 54 #[.int .i64 p,.int .i64 b,.int .i64 l,.int .i64 a,.int .i64 s]:=zH hb1 (by repeat (first | assumption | with_reducible exact zM _ _ _ | (with_reducible refine zO _ _ ?_;simp;done) | with_reducible refine zP ?_ | with_reducible refine bk_drewN _ ?_ | with_reducible refine zN _ ?_ | (with_reducible refine zU _ (by omega) ?_) | with_reducible apply zT | rfl));(try clear k0 k1 k2 k3 k4);obtain ⟨k0,k1,k2,k3,k4⟩:=zQ kB;have kL:=kB.lt)))
    go_ret2
    refine ⟨rfl,?_⟩
    repeat (first | with_reducible exact Below.refl _ _ | with_reducible refine zG ?_ _ | with_reducible refine zJ ?_ | with_reducible refine zK ?_ (by first | omega | (simp;done) | (simp;omega)) _ | with_reducible refine zI ?_ ‹_›)
   ·have g2:(zAM p q==0)=false:=by simp [hm]
    by_cases h4:off < -400
    ·have e:atF n ⟨p,b,l,a,s⟩ off q=(0,13):=by unfold atF;rw [if_neg (by simp [hok]),if_neg (by simp [hs]),if_neg hm,if_pos (by simp [h4])]
     rw [e]
     have HS:=zA hs
     clear e hok hw hm hs
     go_enter Tryz.func106,Tryz.ntmps106
     go_wp2_with (first
      | (go_at_call 27;((with_reducible refine (CK.out _).mono ?_);rintro e w1 ⟨rfl,hb1⟩;have kB:Bk w1 (w.heap.size) 54 #[.int .i64 p,.int .i64 b,.int .i64 l,.int .i64 a,.int .i64 s]:=zH hb1 (by repeat (first | assumption | with_reducible exact zM _ _ _ | (with_reducible refine zO _ _ ?_;simp;done) | with_reducible refine zP ?_ | with_reducible refine bk_drewN _ ?_ | with_reducible refine zN _ ?_ | (with_reducible refine zU _ (by omega) ?_) | with_reducible apply zT | rfl));(try clear k0 k1 k2 k3 k4);obtain ⟨k0,k1,k2,k3,k4⟩:=zQ kB;have kL:=kB.lt)))
     go_ret2
     refine ⟨rfl,?_⟩
     repeat (first | with_reducible exact Below.refl _ _ | with_reducible refine zG ?_ _ | with_reducible refine zJ ?_ | with_reducible refine zK ?_ (by first | omega | (simp;done) | (simp;omega)) _ | with_reducible refine zI ?_ ‹_›)
    ·by_cases h5:400 < off
     ·have e:atF n ⟨p,b,l,a,s⟩ off q=(0,13):=by unfold atF;rw [if_neg (by simp [hok]),if_neg (by simp [hs]),if_neg hm,if_pos (by simp [h5])]
      rw [e]
      have HS:=zA hs
      clear e hok hw hm hs
      go_enter Tryz.func106,Tryz.ntmps106
      go_wp2_with (first
       | (go_at_call 27;((with_reducible refine (CK.out _).mono ?_);rintro e w1 ⟨rfl,hb1⟩;have kB:Bk w1 (w.heap.size) 54 #[.int .i64 p,.int .i64 b,.int .i64 l,.int .i64 a,.int .i64 s]:=zH hb1 (by repeat (first | assumption | with_reducible exact zM _ _ _ | (with_reducible refine zO _ _ ?_;simp;done) | with_reducible refine zP ?_ | with_reducible refine bk_drewN _ ?_ | with_reducible refine zN _ ?_ | (with_reducible refine zU _ (by omega) ?_) | with_reducible apply zT | rfl));(try clear k0 k1 k2 k3 k4);obtain ⟨k0,k1,k2,k3,k4⟩:=zQ kB;have kL:=kB.lt)))
      go_ret2
      refine ⟨rfl,?_⟩
      repeat (first | with_reducible exact Below.refl _ _ | with_reducible refine zG ?_ _ | with_reducible refine zJ ?_ | with_reducible refine zK ?_ (by first | omega | (simp;done) | (simp;omega)) _ | with_reducible refine zI ?_ ‹_›)
     ·have cv:=fun W=>zF7 p b l a s (a+off) hw.base hw.len (by constructor<;>omega) W
      cases hc:zCE b l (a+off)
      ·have e:atF n ⟨p,b,l,a,s⟩ off q=(0,13):=by unfold atF;rw [if_neg (by simp [hok]),if_neg (by simp [hs]),if_neg hm,if_pos (by simp [hc])]
       rw [e]
       rw [hc] at cv
       have CV:=zA cv
       have HS:=zA hs
       clear e hok hw hm hs hc cv
       go_enter Tryz.func106,Tryz.ntmps106
       go_wp2_with (first
        | (go_at_call 27;((with_reducible refine (CK.out _).mono ?_);rintro e w1 ⟨rfl,hb1⟩;have kB:Bk w1 (w.heap.size) 54 #[.int .i64 p,.int .i64 b,.int .i64 l,.int .i64 a,.int .i64 s]:=zH hb1 (by repeat (first | assumption | with_reducible exact zM _ _ _ | (with_reducible refine zO _ _ ?_;simp;done) | with_reducible refine zP ?_ | with_reducible refine bk_drewN _ ?_ | with_reducible refine zN _ ?_ | (with_reducible refine zU _ (by omega) ?_) | with_reducible apply zT | rfl));(try clear k0 k1 k2 k3 k4);obtain ⟨k0,k1,k2,k3,k4⟩:=zQ kB;have kL:=kB.lt))
        | (go_at_call 79;((with_reducible refine (CV.out _).mono ?_);rintro e w2 ⟨rfl,hb2⟩;have kB:Bk w2 (w.heap.size) 54 #[.int .i64 p,.int .i64 b,.int .i64 l,.int .i64 a,.int .i64 s]:=zH hb2 (by repeat (first | assumption | with_reducible exact zM _ _ _ | (with_reducible refine zO _ _ ?_;simp;done) | with_reducible refine zP ?_ | with_reducible refine bk_drewN _ ?_ | with_reducible refine zN _ ?_ | (with_reducible refine zU _ (by omega) ?_) | with_reducible apply zT | rfl));(try clear k0 k1 k2 k3 k4);obtain ⟨k0,k1,k2,k3,k4⟩:=zQ kB;have kL:=kB.lt)))
       go_ret2
       refine ⟨rfl,?_⟩
       repeat (first | with_reducible exact Below.refl _ _ | with_reducible refine zG ?_ _ | with_reducible refine zJ ?_ | with_reducible refine zK ?_ (by first | omega | (simp;done) | (simp;omega)) _ | with_reducible refine zI ?_ ‹_›)
      ·have hcv:=covB_iff.1 hc
       rw [hc] at cv
       have CV:=zA cv
       by_cases h6:(n:Int)≤a+off
       ·have e:atF n ⟨p,b,l,a,s⟩ off q=(0,13):=by unfold atF;rw [if_neg (by simp [hok]),if_neg (by simp [hs]),if_neg hm,if_pos (by simp [h6])]
        rw [e]
        have HS:=zA hs
        clear e hok hw hm hs hc cv hcv
        go_enter Tryz.func106,Tryz.ntmps106
        go_wp2_with (first
         | (go_at_call 27;((with_reducible refine (CK.out _).mono ?_);rintro e w1 ⟨rfl,hb1⟩;have kB:Bk w1 (w.heap.size) 54 #[.int .i64 p,.int .i64 b,.int .i64 l,.int .i64 a,.int .i64 s]:=zH hb1 (by repeat (first | assumption | with_reducible exact zM _ _ _ | (with_reducible refine zO _ _ ?_;simp;done) | with_reducible refine zP ?_ | with_reducible refine bk_drewN _ ?_ | with_reducible refine zN _ ?_ | (with_reducible refine zU _ (by omega) ?_) | with_reducible apply zT | rfl));(try clear k0 k1 k2 k3 k4);obtain ⟨k0,k1,k2,k3,k4⟩:=zQ kB;have kL:=kB.lt))
         | (go_at_call 79;((with_reducible refine (CV.out _).mono ?_);rintro e w2 ⟨rfl,hb2⟩;have kB:Bk w2 (w.heap.size) 54 #[.int .i64 p,.int .i64 b,.int .i64 l,.int .i64 a,.int .i64 s]:=zH hb2 (by repeat (first | assumption | with_reducible exact zM _ _ _ | (with_reducible refine zO _ _ ?_;simp;done) | with_reducible refine zP ?_ | with_reducible refine bk_drewN _ ?_ | with_reducible refine zN _ ?_ | (with_reducible refine zU _ (by omega) ?_) | with_reducible apply zT | rfl));(try clear k0 k1 k2 k3 k4);obtain ⟨k0,k1,k2,k3,k4⟩:=zQ kB;have kL:=kB.lt)))
        go_ret2
        refine ⟨rfl,?_⟩
        repeat (first | with_reducible exact Below.refl _ _ | with_reducible refine zG ?_ _ | with_reducible refine zJ ?_ | with_reducible refine zK ?_ (by first | omega | (simp;done) | (simp;omega)) _ | with_reducible refine zI ?_ ‹_›)
       ·have e:atF n ⟨p,b,l,a,s⟩ off q=(a+off,0):=by unfold atF;rw [if_neg (by simp [hok]),if_neg (by simp [hs]),if_neg hm,if_neg (by rintro (h | h | h | h);exact h4 h;exact h5 h;(simp only at h;rw [hc] at h;cases h);exact h6 h)]
        rw [e]
        have HS:=zA hs
        clear e hok hw hm hs hc cv hcv
        go_enter Tryz.func106,Tryz.ntmps106
        go_wp2_with (first
         | (go_at_call 27;((with_reducible refine (CK.out _).mono ?_);rintro e w1 ⟨rfl,hb1⟩;have kB:Bk w1 (w.heap.size) 54 #[.int .i64 p,.int .i64 b,.int .i64 l,.int .i64 a,.int .i64 s]:=zH hb1 (by repeat (first | assumption | with_reducible exact zM _ _ _ | (with_reducible refine zO _ _ ?_;simp;done) | with_reducible refine zP ?_ | with_reducible refine bk_drewN _ ?_ | with_reducible refine zN _ ?_ | (with_reducible refine zU _ (by omega) ?_) | with_reducible apply zT | rfl));(try clear k0 k1 k2 k3 k4);obtain ⟨k0,k1,k2,k3,k4⟩:=zQ kB;have kL:=kB.lt))
         | (go_at_call 79;((with_reducible refine (CV.out _).mono ?_);rintro e w2 ⟨rfl,hb2⟩;have kB:Bk w2 (w.heap.size) 54 #[.int .i64 p,.int .i64 b,.int .i64 l,.int .i64 a,.int .i64 s]:=zH hb2 (by repeat (first | assumption | with_reducible exact zM _ _ _ | (with_reducible refine zO _ _ ?_;simp;done) | with_reducible refine zP ?_ | with_reducible refine bk_drewN _ ?_ | with_reducible refine zN _ ?_ | (with_reducible refine zU _ (by omega) ?_) | with_reducible apply zT | rfl));(try clear k0 k1 k2 k3 k4);obtain ⟨k0,k1,k2,k3,k4⟩:=zQ kB;have kL:=kB.lt)))
        go_ret2
        refine ⟨rfl,?_⟩
        repeat (first | with_reducible exact Below.refl _ _ | with_reducible refine zG ?_ _ | with_reducible refine zJ ?_ | with_reducible refine zK ?_ (by first | omega | (simp;done) | (simp;omega)) _ | with_reducible refine zI ?_ ‹_›)
  ·have g1:(s==0)=false:=by simp [hs]
   have g1':(s != 0)=true:=by simp [hs]
   have e:atF n ⟨p,b,l,a,s⟩ off q=(0,11):=by unfold atF;rw [if_neg (by simp [hok]),if_pos (by simp [hs])]
   rw [e]
   clear e hok hw hs
   go_enter Tryz.func106,Tryz.ntmps106
   go_wp2_with (first
    | (go_at_call 27;((with_reducible refine (CK.out _).mono ?_);rintro e w1 ⟨rfl,hb1⟩;have kB:Bk w1 (w.heap.size) 54 #[.int .i64 p,.int .i64 b,.int .i64 l,.int .i64 a,.int .i64 s]:=zH hb1 (by repeat (first | assumption | with_reducible exact zM _ _ _ | (with_reducible refine zO _ _ ?_;simp;done) | with_reducible refine zP ?_ | with_reducible refine bk_drewN _ ?_ | with_reducible refine zN _ ?_ | (with_reducible refine zU _ (by omega) ?_) | with_reducible apply zT | rfl));(try clear k0 k1 k2 k3 k4);obtain ⟨k0,k1,k2,k3,k4⟩:=zQ kB;have kL:=kB.lt)))
   go_ret2
   refine ⟨rfl,?_⟩
   repeat (first | with_reducible exact Below.refl _ _ | with_reducible refine zG ?_ _ | with_reducible refine zJ ?_ | with_reducible refine zK ?_ (by first | omega | (simp;done) | (simp;omega)) _ | with_reducible refine zI ?_ ‹_›)
end
section
open Go.RowKit
def Tab10 (w:World):Prop:=Lib.TabIs Tryz.prog w "internal/strconv.uint64pow10" .u64 Lib.pow10Tab
theorem zIS {n:String} {k:IntKind} {zs:List Int} {w w':World} (h:Lib.TabIs Tryz.prog w n k zs) (hb:Below w.heap.size w w'):Lib.TabIs Tryz.prog w' n k zs:=by
 unfold Lib.TabIs at h ⊢
 unfold World.var? at h ⊢
 cases hg:Tryz.prog.globalNamed n with
 | none=>rw [hg] at h;cases h
 | some g =>
  rw [hg] at h
  simp only [Option.bind_some] at h ⊢
  have hlt:g < w.heap.size:=by
   rcases Nat.lt_or_ge g w.heap.size with hlt | hge
   ·exact hlt
   ·rw [Array.getElem?_eq_none hge] at h;cases h
  rw [hb.block g hlt]
  exact h
theorem Tab10.below {w w':World} (h:Tab10 w) (hb:Below w.heap.size w w'):Tab10 w':=zIS h hb
theorem zKK (w:World) (k:Nat) (os:Array Obj):Below w.heap.size w (Go.Sort.grow (w.drewN k) os) :=
 ⟨rfl,rfl,rfl,by simp [Go.Sort.grow,World.drewN],fun i hi=>by simp [Go.Sort.grow,World.drewN,Array.getElem?_append_left hi]⟩
theorem zFb (n:Int) (hn:I64 n) (w:World) (ht:Tab10 w):Calls Tryz.prog 131 #[.int .i64 n] w fun e w'=>e=.returned (.string ⟨(Lib.itoa n).toArray⟩)∧Below w.heap.size w w' :=
 (Tryz.strconv_Itoa n hn.1 hn.2 w ht).mono fun e w' ⟨he,k,os,hw⟩=>⟨he,by rw [hw];exact zKK w k os⟩
def zCl (n:Int) (has ir:Bool):List UInt8:=if has then (if ir then 32::114::Lib.itoa n else 32::Lib.itoa n) else []
theorem zCM (x y:ByteArray) (h:x.size+y.size≤9223372036854775807):Op.stringOp .add x y=pure (.string (x++y)):=by
 have e:IntKind.i64.max=9223372036854775807:=by decide
 unfold Op.stringOp
 simp only [e]
 rw [if_neg (by omega)]
theorem zLm (n:Int) (hn:I64 n) (has ir:Bool) (g:Nat) (s:ByteArray) (w:World) (hs:s.size≤1000) (hB:Bk w g 9 #[.string s]) (ht:Tab10 w):Calls Tryz.prog 188 #[.int .i64 n,.bool has,.bool ir,.pointer (some ⟨g,0,none⟩)] w fun e w'=>e=.returned (.tuple #[])∧Below g w w'∧Bk w' g 9 #[.string (s++⟨(zCl n has ir).toArray⟩)]:=by
 have q0:∀ x:Later w,x.val.cell? ⟨g,0,none⟩=some (.string s):=fun x=>(x.bk hB).cell 0
 have qL:∀ x:Later w,g < x.val.heap.size:=fun x=>x.lt hB.lt
 have qF:∀ (x:Later w) i,x.val.frozen? ⟨g,i,none⟩=false:=fun x i=>(x.bk hB).frozen i
 have r0:w.cell? ⟨g,0,none⟩=some (.string s):=hB.cell 0
 have rL:=hB.lt
 have rF:=fun i=>Bk.frozen hB i
 have IT:=zA (fun x:Later w=>zFb n hn x.val (ht.below x.ok))
 obtain ⟨xd,hxd⟩:∃ xd:Later w,w.drew=xd.val:=⟨⟨_,zJ (Below.refl _ _)⟩,rfl⟩
 have HXD:=zA hxd
 have HB:=zA hB
 have li:=Lib.itoa_length_le n hn.1 hn.2
 have e1:(⟨#[32]⟩:ByteArray)++⟨(Lib.itoa n).toArray⟩=⟨(32::Lib.itoa n).toArray⟩:=ByteArray.ext (by simp)
 have e2:(⟨#[32,114]⟩:ByteArray)++⟨(Lib.itoa n).toArray⟩=⟨(32::114::Lib.itoa n).toArray⟩:=ByteArray.ext (by simp)
 have z1:(⟨(32::Lib.itoa n).toArray⟩:ByteArray).size=(Lib.itoa n).length+1:=by simp [ByteArray.size]
 have z2:(⟨(32::114::Lib.itoa n).toArray⟩:ByteArray).size=(Lib.itoa n).length+2:=by simp [ByteArray.size]
 have z0:(⟨(Lib.itoa n).toArray⟩:ByteArray).size=(Lib.itoa n).length:=by simp [ByteArray.size]
 have y1:(⟨#[32]⟩:ByteArray).size=1:=rfl
 have y2:(⟨#[32,114]⟩:ByteArray).size=2:=rfl
 have u1:Op.stringOp .add ⟨#[32]⟩ ⟨(Lib.itoa n).toArray⟩=pure (.string ⟨(32::Lib.itoa n).toArray⟩):=by rw [←e1];exact zCM _ _ (by omega)
 have u2:Op.stringOp .add ⟨#[32,114]⟩ ⟨(Lib.itoa n).toArray⟩=pure (.string ⟨(32::114::Lib.itoa n).toArray⟩):=by rw [←e2];exact zCM _ _ (by omega)
 have v1:Op.stringOp .add s ⟨(32::Lib.itoa n).toArray⟩=pure (.string (s++⟨(32::Lib.itoa n).toArray⟩)):=zCM _ _ (by omega)
 have v2:Op.stringOp .add s ⟨(32::114::Lib.itoa n).toArray⟩=pure (.string (s++⟨(32::114::Lib.itoa n).toArray⟩)):=zCM _ _ (by omega)
 clear e1 e2 z1 z2 z0 y1 y2 li
 clear hB ht hxd
 cases has
 ·go_enter Tryz.func188,Tryz.ntmps188
  go_wp2
  refine bodyPost_end (results_none rfl _ _ _) rfl ?_
  refine ⟨rfl,Below.refl _ _,?_⟩
  have e:s++(⟨(zCl n false ir).toArray⟩:ByteArray)=s:=by unfold zCl;exact ByteArray.ext (by simp)
  rw [e]
  exact HB.out
 ·cases ir
  ·go_enter Tryz.func188,Tryz.ntmps188
   go_upto_region 3 with (fail)
   go_region_with (go_at_call 131;(rw [HXD.out];(with_reducible refine (IT.out xd).mono ?_);rintro e w' ⟨rfl,hb⟩;obtain ⟨y,rfl⟩:=zZ xd.ok hb;clear hb))
   all_goals go_wp2_with fail
   all_goals
    refine bodyPost_end (results_none rfl _ _ _) rfl ?_
    exact ⟨rfl,(y.ok.mono (Nat.le_of_lt HB.out.lt)).setCell (Nat.le_refl _) _,zAg 0 _ (y.bk HB.out)⟩
  ·go_enter Tryz.func188,Tryz.ntmps188
   go_upto_region 1 with (fail)
   go_region_with (go_at_call 131;(rw [HXD.out];(with_reducible refine (IT.out xd).mono ?_);rintro e w' ⟨rfl,hb⟩;obtain ⟨y,rfl⟩:=zZ xd.ok hb;clear hb))
   all_goals go_wp2_with fail
   all_goals
    refine bodyPost_end (results_none rfl _ _ _) rfl ?_
    exact ⟨rfl,(y.ok.mono (Nat.le_of_lt HB.out.lt)).setCell (Nat.le_refl _) _,zAg 0 _ (y.bk HB.out)⟩
end
section
open Go.RowKit
def zDc (i:InstV):List UInt8:=zV i.op.toNat++zCl i.a (shA i.op) true++zCl i.b (shB i.op) true++zCl i.c (shC i.op != 0) (shC i.op==114)
theorem zLD (op a b c:Int) (hk:zAE ⟨op,a,b,c⟩=false) (w:World) (ht:Tab w):Calls Tryz.prog 167 #[.agg #[.int .i64 op,.int .i64 a,.int .i64 b,.int .i64 c]] w fun e w'=>e=.returned (.tuple #[.string ⟨#[]⟩,.int .i64 1])∧Below w.heap.size w w':=by
 obtain ⟨w1,hw1⟩:∃ w1,w1=w.alloc (.cells #[.int .i64 op,.int .i64 a,.int .i64 b,.int .i64 c] 179):=⟨_,rfl⟩
 have hB:Bk w1 w.heap.size 179 #[.int .i64 op,.int .i64 a,.int .i64 b,.int .i64 c]:=by rw [hw1];exact zM _ _ _
 have h1w:Below w.heap.size w w1:=by rw [hw1];exact zG (Below.refl _ _) _
 have p0:=hB.cell 0
 have p1:=hB.cell 1
 have p2:=hB.cell 2
 have p3:=hB.cell 3
 simp only [List.getElem?_toArray,List.getElem?_cons_succ,List.getElem?_cons_zero] at p0 p1 p2 p3
 have ck:=zEU op a b c w1 (ht.below h1w)
 rw [hk] at ck
 simp only [Bool.false_eq_true,if_false] at ck
 have HW1:=zA hw1
 have H1W:=zA h1w
 have CK:=zA ck
 clear ck hk hw1 h1w ht hB
 go_enter Tryz.func167,Tryz.ntmps167
 go_upto_region 1 with (fail)
 rw [←HW1.out]
 go_wp2_with (go_at_call 105;((with_reducible refine CK.out.mono ?_);rintro e w' ⟨rfl,hb⟩;obtain ⟨y,rfl⟩:=zZ (Below.refl _ _) hb;clear hb))
 go_ret2
 exact ⟨rfl,zI H1W.out y.ok⟩
theorem zKO (k:Nat):(zV k).length≤6:=by
 by_cases h:k < 23
 ·have hall:∀ k,k < 23→(zV k).length≤6:=by decide
  exact hall k h
 ·have e:zV k=[]:=by unfold zV;rw [List.getD_eq_getElem?_getD,List.getElem?_eq_none (by simp;omega)];rfl
  rw [e];decide
theorem zHS (n:Int) (hn:I64 n) (has ir:Bool):(zCl n has ir).length≤23:=by
 have:=Lib.itoa_length_le n hn.1 hn.2
 unfold zCl
 cases has<;>cases ir<;>simp<;>omega
theorem zOc (l:List UInt8):(⟨l.toArray⟩:ByteArray).size=l.length:=by simp [ByteArray.size]
theorem zOd (l r:List UInt8):(⟨l.toArray⟩:ByteArray)++⟨r.toArray⟩=⟨(l++r).toArray⟩:=ByteArray.ext (by simp)
theorem zOP {op a b c:Int} (h:zAE ⟨op,a,b,c⟩=true):opB op=true:=by
 unfold zAE at h
 simp only [Bool.and_eq_true] at h
 exact h.1
theorem zMT (op a b c:Int) (hk:zAE ⟨op,a,b,c⟩=true) (w:World) (ht:Tab w) (h10:Tab10 w):Calls Tryz.prog 167 #[.agg #[.int .i64 op,.int .i64 a,.int .i64 b,.int .i64 c]] w fun e w'=>e=.returned (.tuple #[.string ⟨(zDc ⟨op,a,b,c⟩).toArray⟩,.int .i64 0])∧Below w.heap.size w w':=by
 obtain ⟨w1,hw1⟩:∃ w1,w1=w.alloc (.cells #[.int .i64 op,.int .i64 a,.int .i64 b,.int .i64 c] 179):=⟨_,rfl⟩
 have hB:Bk w1 w.heap.size 179 #[.int .i64 op,.int .i64 a,.int .i64 b,.int .i64 c]:=by rw [hw1];exact zM _ _ _
 have h1w:Below w.heap.size w w1:=by rw [hw1];exact zG (Below.refl _ _) _
 have p0:=hB.cell 0
 have p1:=hB.cell 1
 have p2:=hB.cell 2
 have p3:=hB.cell 3
 simp only [List.getElem?_toArray,List.getElem?_cons_succ,List.getElem?_cons_zero] at p0 p1 p2 p3
 have q0:∀ x:Later w1,x.val.cell? ⟨w.heap.size,0,none⟩=some (.int .i64 op):=fun x=>(x.bk hB).cell 0
 have q1:∀ x:Later w1,x.val.cell? ⟨w.heap.size,1,none⟩=some (.int .i64 a):=fun x=>(x.bk hB).cell 1
 have q2:∀ x:Later w1,x.val.cell? ⟨w.heap.size,2,none⟩=some (.int .i64 b):=fun x=>(x.bk hB).cell 2
 have q3:∀ x:Later w1,x.val.cell? ⟨w.heap.size,3,none⟩=some (.int .i64 c):=fun x=>(x.bk hB).cell 3
 have qL:∀ x:Later w1,w.heap.size < x.val.heap.size:=fun x=>x.lt hB.lt
 have ck:=zEU op a b c w1 (ht.below h1w)
 rw [hk] at ck
 simp only [if_true] at ck
 have sh:∀ x:Later w1,Calls Tryz.prog 135 #[.int .i64 op] x.val fun e w'=>e=.returned (.tuple #[.agg #[.string ⟨(zV op.toNat).toArray⟩,.bool (shA op),.bool (shB op),.int .u8 (shC op)],.bool true])∧Below x.val.heap.size x.val w':=by
  intro x
  have h:=zEn op x.val ((ht.below h1w).below x.ok)
  rw [zOP hk] at h
  exact h
 have HW1:=zA hw1
 have H1W:=zA h1w
 have CK:=zA ck
 have SH:=zA sh
 have HB:=zA hB
 have H10:=zA h10
 have HK:=zA hk
 clear ck hk hw1 h1w ht hB sh h10
 go_enter Tryz.func167,Tryz.ntmps167
 go_upto_region 1 with (fail)
 rw [←HW1.out]
 go_upto_region 7 with (first
  | (go_at_call 105;((with_reducible refine CK.out.mono ?_);rintro e w' ⟨rfl,hb⟩;obtain ⟨y,rfl⟩:=zZ (Below.refl _ _) hb;clear hb))
  | (go_at_call 135;((with_reducible refine (SH.out y).mono ?_);rintro e w' ⟨rfl,hb⟩;obtain ⟨z,rfl⟩:=zZ y.ok hb;clear hb)))
 obtain ⟨w3,hw3⟩:∃ w3,w3=z.val.alloc (.cells #[.string ⟨(zV op.toNat).toArray⟩,.bool (shA op),.bool (shB op),.int .u8 (shC op)] 230):=⟨_,rfl⟩
 obtain ⟨w4,hw4⟩:∃ w4,w4=w3.alloc (.cells #[.string ⟨(zV op.toNat).toArray⟩] 9):=⟨_,rfl⟩
 have hz3:w3.heap.size=z.val.heap.size+1:=by rw [hw3,World.size_alloc]
 have kS:Bk w3 z.val.heap.size 230 #[.string ⟨(zV op.toNat).toArray⟩,.bool (shA op),.bool (shB op),.int .u8 (shC op)]:=by rw [hw3];exact zM _ _ _
 have kI:Bk w3 w.heap.size 179 #[.int .i64 op,.int .i64 a,.int .i64 b,.int .i64 c]:=by rw [hw3];exact zN _ (z.bk HB.out)
 have h13:Below w1.heap.size w1 w3:=by rw [hw3];exact zG z.ok _
 have k4:Bk w4 (z.val.heap.size+1) 9 #[.string ⟨(zV op.toNat).toArray⟩]:=by rw [hw4,←hz3];exact zM _ _ _
 have h34:Below w3.heap.size w3 w4:=by rw [hw4];exact zG (Below.refl _ _) _
 have t3:Tab10 w3:=(H10.out.below H1W.out).below h13
 have r1:∀ x:Later w3,x.val.cell? ⟨w.heap.size,1,none⟩=some (.int .i64 a):=fun x=>(x.bk kI).cell 1
 have r2:∀ x:Later w3,x.val.cell? ⟨w.heap.size,2,none⟩=some (.int .i64 b):=fun x=>(x.bk kI).cell 2
 have r3:∀ x:Later w3,x.val.cell? ⟨w.heap.size,3,none⟩=some (.int .i64 c):=fun x=>(x.bk kI).cell 3
 have s1:∀ x:Later w3,x.val.cell? ⟨z.val.heap.size,1,none⟩=some (.bool (shA op)):=fun x=>(x.bk kS).cell 1
 have s2:∀ x:Later w3,x.val.cell? ⟨z.val.heap.size,2,none⟩=some (.bool (shB op)):=fun x=>(x.bk kS).cell 2
 have s3:∀ x:Later w3,x.val.cell? ⟨z.val.heap.size,3,none⟩=some (.int .u8 (shC op)):=fun x=>(x.bk kS).cell 3
 obtain ⟨o0,o1,a0,a1,b0,b1,c0,c1⟩:=zCU HK.out
 have ad:∀ (n:Int) (hn : -2048≤n∧n≤2047) (has ir:Bool) (l:List UInt8) (hl:l.length≤500) (x:Later w3) (hx:Bk x.val (z.val.heap.size+1) 9 #[.string ⟨l.toArray⟩]),Calls Tryz.prog 188 #[.int .i64 n,.bool has,.bool ir,.pointer (some ⟨z.val.heap.size+1,0,none⟩)] x.val fun e w'=>e=.returned (.tuple #[])∧∃ y:Later w3,w'=y.val∧Bk y.val (z.val.heap.size+1) 9 #[.string ⟨(l++zCl n has ir).toArray⟩]:=by
  intro n hn has ir l hl x hx
  refine (zLm n ⟨by omega,by omega⟩ has ir _ _ x.val (by rw [zOc];omega) hx (t3.below x.ok)).mono ?_
  rintro e w' ⟨he,hb,hk⟩
  rw [zOd] at hk
  rw [←hz3] at hb
  exact ⟨he,⟨w',x.ok.trans hb⟩,rfl,hk⟩
 have l0:=zKO op.toNat
 have l1:=zHS a ⟨by omega,by omega⟩ (shA op) true
 have l2:=zHS b ⟨by omega,by omega⟩ (shB op) true
 have A1:=zA (ad a (by omega) (shA op) true _ (by omega) ⟨w4,h34⟩ k4)
 have A2:=zA (fun y hy=>ad b (by omega) (shB op) true (zV op.toNat++zCl a (shA op) true) (by simp only [List.length_append];omega) y hy)
 have A3:=zA (fun y hy=>ad c (by omega) (shC op != 0) (shC op==114) (zV op.toNat++zCl a (shA op) true++zCl b (shB op) true) (by simp only [List.length_append];omega) y hy)
 have fin:=zA (fun x:Later w3=>zI (zI H1W.out h13) x.ok)
 have kL:∀ x:Later w3,z.val.heap.size < x.val.heap.size:=fun x=>x.lt kS.lt
 have iL:∀ x:Later w3,w.heap.size < x.val.heap.size:=fun x=>x.lt kI.lt
 have m1:=r1 ⟨w4,h34⟩
 have m2:=s1 ⟨w4,h34⟩
 simp only at m1 m2
 have HW3:=zA hw3
 have HW4:=zA hw4
 rw [←HW3.out,←HW4.out]
 clear ad l0 l1 l2 hz3 kS kI h13 k4 t3 hw3 hw4 HK a0 a1 b0 b1 c0 c1 o0 o1 q0 q1 q2 q3 p0 p1 p2 p3 CK SH
 go_wp2_with (first
  | (go_at_call 188;((with_reducible refine A1.out.mono ?_);rintro e w' ⟨rfl,y5,rfl,hc⟩;have C5:=zA hc;clear hc))
  | (go_at_call 188;((with_reducible refine (A2.out y5 C5.out).mono ?_);rintro e w' ⟨rfl,y6,rfl,hc⟩;have C6:=zA hc;clear hc))
  | (go_at_call 188;((with_reducible refine (A3.out y6 C6.out).mono ?_);rintro e w' ⟨rfl,y7,rfl,hc⟩;have c7:=hc.cell 0;simp only [List.getElem?_toArray,List.getElem?_cons_zero] at c7;have C7:=zA hc;clear hc)))
 go_ret2
 have e:zDc ⟨op,a,b,c⟩=zV op.toNat++(zCl a (shA op) true++(zCl b (shB op) true++zCl c (shC op != 0) (shC op==114))):=by unfold zDc;simp only [List.append_assoc]
 rw [e]
 exact ⟨rfl,fin.out y7⟩
end
end Go.Proofs.YtlpejagkadalbaaGreatDoor
