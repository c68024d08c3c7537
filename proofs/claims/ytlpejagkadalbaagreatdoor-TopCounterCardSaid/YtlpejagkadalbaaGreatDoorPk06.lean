import Derived.Test.YtlpejagkadalbaaGreatDoorPk01
import Derived.Test.YtlpejagkadalbaaGreatDoorPk02
import Derived.Test.YtlpejagkadalbaaGreatDoorPk05
set_option maxHeartbeats 40000000
set_option maxRecDepth 100000
set_option linter.unusedVariables false
set_option linter.unusedSimpArgs false
namespace Go.Proofs.YtlpejagkadalbaaGreatDoor
open Go.RowKit
theorem scheck_any (R:List ValV) (c:KeyV) (mem:List ValV) (stk:List FrameV) (out:List Int) (ma sa oa:Option Addr) (mc sc oc:Nat) (w:World) (h8:R.length=8)
  (hm:Sl w ma mem.length mem) (hs:Sl w sa stk.length stk) (ho:Sl w oa out.length out) :
  Calls Tryz.prog 68 #[.agg (mcs R c (.slice ma mem.length mc) (.slice sa stk.length sc) (.slice oa out.length oc))] w fun e w'=>e=.returned (.int .i64 (stepCheck R c mem stk out))∧Below w.heap.size w w':=by
 have hmm:=hm.max
 have hsm:=hs.max
 have hom:=ho.max
 unfold maxLen at hmm hsm hom
 have hsz:=mcs_size (c:=c) (ms:=.slice ma mem.length mc) (ss:=.slice sa stk.length sc) (os:=.slice oa out.length oc) h8
 have hrg:=mcs_regs (c:=c) (ms:=.slice ma mem.length mc) (ss:=.slice sa stk.length sc) (os:=.slice oa out.length oc) h8
 have hhi:=mcs_hi (c:=c) (ms:=.slice ma mem.length mc) (ss:=.slice sa stk.length sc) (os:=.slice oa out.length oc) h8
 generalize mcs R c (.slice ma mem.length mc) (.slice sa stk.length sc) (.slice oa out.length oc)=cs at *
 obtain ⟨w1,hw1⟩:∃ w1,w1=w.alloc (.cells cs 60):=⟨_,rfl⟩
 have hB:Bk w1 w.heap.size 60 cs:=by rw [hw1];exact bk_new _ _ _
 have h1w:Below w.heap.size w w1:=by rw [hw1];exact ext_alloc (Below.refl _ _) _
 have q56:∀ x:Later w1,x.val.cell? ⟨w.heap.size,56,none⟩=some (.int .i64 c.perm):=fun x=>((x.bk hB).cell _).trans (hhi 0)
 have q57:∀ x:Later w1,x.val.cell? ⟨w.heap.size,57,none⟩=some (.int .i64 c.base):=fun x=>((x.bk hB).cell _).trans (hhi 1)
 have q58:∀ x:Later w1,x.val.cell? ⟨w.heap.size,58,none⟩=some (.int .i64 c.len):=fun x=>((x.bk hB).cell _).trans (hhi 2)
 have q59:∀ x:Later w1,x.val.cell? ⟨w.heap.size,59,none⟩=some (.int .i64 c.at_):=fun x=>((x.bk hB).cell _).trans (hhi 3)
 have q60:∀ x:Later w1,x.val.cell? ⟨w.heap.size,60,none⟩=some (.int .i64 c.seal_):=fun x=>((x.bk hB).cell _).trans (hhi 4)
 have q61:∀ x:Later w1,x.val.cell? ⟨w.heap.size,61,none⟩=some (.slice ma mem.length mc):=fun x=>((x.bk hB).cell _).trans (hhi 5)
 have q62:∀ x:Later w1,x.val.cell? ⟨w.heap.size,62,none⟩=some (.slice sa stk.length sc):=fun x=>((x.bk hB).cell _).trans (hhi 6)
 have q63:∀ x:Later w1,x.val.cell? ⟨w.heap.size,63,none⟩=some (.slice oa out.length oc):=fun x=>((x.bk hB).cell _).trans (hhi 7)
 have qL:∀ x:Later w1,w.heap.size < x.val.heap.size:=fun x=>x.lt hB.lt
 have sm:∀ x:Later w1,Sl x.val ma mem.length mem:=fun x=>(hm.below h1w).below x.ok
 have ss:∀ x:Later w1,Sl x.val sa stk.length stk:=fun x=>(hs.below h1w).below x.ok
 have so:∀ x:Later w1,Sl x.val oa out.length out:=fun x=>(ho.below h1w).below x.ok
 have fin:∀ x:Later w1,Below w.heap.size w x.val:=fun x=>ext_trans h1w x.ok
 have HW1:=Lib.hid hw1
 have HSZ:=Lib.hid hsz
 have HRG:=Lib.hid hrg
 have HB:=Lib.hid hB
 have SM:=Lib.hid sm
 have SS:=Lib.hid ss
 have SO:=Lib.hid so
 have FIN:=Lib.hid fin
 have H8:=Lib.hid h8
 have MC:=Lib.hid (fun W h=>mcheck_any ma mem.length mc mem W h)
 obtain ⟨cp,cb,cl_,ca,cs_⟩:=c
 simp only at q56 q57 q58 q59 q60
 have KC:=Lib.hid (fun W=>check_any cp cb cl_ ca cs_ W)
 clear hsz hrg hhi hB h1w hw1 sm ss so fin hm hs ho h8
 go_enter Tryz.func68,Tryz.ntmps68
 go_upto_region 1 with (fail)
 rw [←HW1.out]
 obtain ⟨x0,hx0⟩:=later_self (w0:=w1) rfl
 have HX0:=Lib.hid hx0
 clear hx0
 go_wp2_with (refine wpList_load_sub rfl 57 (.tmp 14) rfl w.heap.size 0 56 rfl 60 cs _ HB.out Tryz.underlying57 rfl (by kernel_rfl) (by have:=HSZ.out;omega) _ HRG.out ?_)
 go_loopw [16] (fun i wr=>∃ (k:Nat) (x:Later w1),k≤8∧i=.int .i64 k∧wr=x.val∧firstErr R=firstErr (R.drop k)) (fun i _=>8 - (intOf i).toNat)
 case atStart=>exact ⟨0,x0,by omega,rfl,HX0.out,rfl⟩
 case round =>
  obtain ⟨k,x,hk,rfl,rfl,hf⟩:=hrel
  by_cases hlt:k < 8
  ·have q1:(k:Int) < 8:=by omega
   obtain ⟨v,hv⟩:∃ v,R[k]?=some v:=⟨_,List.getElem?_eq_getElem (by have:=H8.out;omega)⟩
   have hd:=firstErr_at hv
   have hix:=fun W=>run_index_regs R H8.out hv W
   obtain ⟨vi,vn,vp,vb,vl,va,vs⟩:=v
   simp only [ValV.val] at hix
   have cc:=fun W=>ccheck_any vi vn vp vb vl va vs W
   by_cases hc:valCheck ⟨vi,vn,⟨vp,vb,vl,va,vs⟩⟩=0
   ·rw [if_pos hc] at hd
    rw [hc] at cc
    have CC:=Lib.hid cc
    have HF:=Lib.hid (hf.trans hd)
    clear cc hf hd hc hv
    go_wp2_with (go_at_call 90;((with_reducible refine (CC.out _).mono ?_);rintro e w2 ⟨rfl,hb2⟩;obtain ⟨y,rfl⟩:=later_call (ext_alloc x.ok _) hb2;clear hb2))
    go_roundw
    case rel=>exact ⟨k+1,y,by omega,by go_num,rfl,HF.out⟩
    case measure=>simp [intOf];omega
   ·rw [if_neg hc] at hd
    have hst:stepCheck R ⟨cp,cb,cl_,ca,cs_⟩ mem stk out=valCheck ⟨vi,vn,⟨vp,vb,vl,va,vs⟩⟩:=by unfold stepCheck;rw [hf,hd,if_pos hc]
    generalize valCheck ⟨vi,vn,⟨vp,vb,vl,va,vs⟩⟩=ec at *
    have g1:(ec==0)=false:=by simpa using hc
    have g2:(ec != 0)=true:=by simpa using hc
    have CC:=Lib.hid cc
    have HST:=Lib.hid hst
    clear cc hf hd hc hv hst
    go_wp2_with (go_at_call 90;((with_reducible refine (CC.out _).mono ?_);rintro e w2 ⟨rfl,hb2⟩;obtain ⟨y,rfl⟩:=later_call (ext_alloc x.ok _) hb2;clear hb2))
    go_ret
    exact ⟨by rw [HST.out];rfl,FIN.out y⟩
  ·have q1:¬((k:Int) < 8):=by omega
   rw [List.drop_of_length_le (by have:=H8.out;omega)] at hf
   have hf0:firstErr R=0:=hf
   clear hf
   by_cases hko:okB ⟨cp,cb,cl_,ca,cs_⟩=true
   ·have kc0:keyCheck ⟨cp,cb,cl_,ca,cs_⟩=0:=by unfold keyCheck;rw [if_pos hko]
    have kc:=KC.out
    rw [kc0] at kc
    have KC0:=Lib.hid kc
    clear kc kc0
    by_cases hmc:memCheck mem=0
    ·have mc0:=MC.out
     rw [hmc] at mc0
     have MC0:=Lib.hid mc0
     clear mc0
     by_cases h16:16 < stk.length
     ·have hst:stepCheck R ⟨cp,cb,cl_,ca,cs_⟩ mem stk out=2:=by unfold stepCheck;rw [if_neg (by simp [hf0]),if_neg (by simp [hko]),if_neg (by simp [hmc]),if_pos h16]
      have HST:=Lib.hid hst
      have g16:((16:Int) < stk.length):=by omega
      clear hst hf0 hko hmc
      go_wp2_with (first
       | (go_at_call 27;((with_reducible refine (KC0.out _).mono ?_);rintro e w2 ⟨rfl,hb2⟩;obtain ⟨y,rfl⟩:=later_call x.ok hb2;clear hb2))
       | (go_at_call 67;((with_reducible refine (MC0.out _ (SM.out y)).mono ?_);rintro e w3 ⟨rfl,hb3⟩;obtain ⟨z,rfl⟩:=later_call y.ok hb3;clear hb3)))
      go_ret
      exact ⟨by rw [HST.out];rfl,FIN.out z⟩
     ·have g16:¬((16:Int) < stk.length):=by omega
      have hst:stepCheck R ⟨cp,cb,cl_,ca,cs_⟩ mem stk out=if stErr stk≠0 then stErr stk else if 100 < out.length then 2 else outErr out:=by unfold stepCheck;rw [if_neg (by simp [hf0]),if_neg (by simp [hko]),if_neg (by simp [hmc]),if_neg h16]
      have HST:=Lib.hid hst
      clear hst hf0 hko hmc
      go_wp2_with (first
       | (go_at_call 27;((with_reducible refine (KC0.out _).mono ?_);rintro e w2 ⟨rfl,hb2⟩;obtain ⟨y,rfl⟩:=later_call x.ok hb2;clear hb2))
       | (go_at_call 67;((with_reducible refine (MC0.out _ (SM.out y)).mono ?_);rintro e w3 ⟨rfl,hb3⟩;obtain ⟨z,rfl⟩:=later_call y.ok hb3;clear hb3)))
      go_loopw [44] (fun i wr=>∃ (k:Nat) (x:Later w1),k≤stk.length∧i=.int .i64 k∧wr=x.val∧stErr stk=stErr (stk.drop k)) (fun i _=>stk.length - (intOf i).toNat)
      case atStart=>exact ⟨0,z,Nat.zero_le _,rfl,rfl,rfl⟩
      case round =>
       obtain ⟨k,x',hk,rfl,rfl,hf⟩:=hrel
       by_cases hlt:k < stk.length
       ·have q1:(k:Int) < stk.length:=by omega
        obtain ⟨f,hfk⟩:∃ f,stk[k]?=some f:=⟨_,List.getElem?_eq_getElem hlt⟩
        have hd:=stErr_at hfk
        obtain ⟨ad,rfl,hab,e0,e1,e2,e3,e4,e5,e6,e7,e8,e9,e10,e11⟩:=sl_frame (SS.out x') hlt hfk
        obtain ⟨⟨fp,fb,fl,fa,fs⟩,⟨vi,vn,vp,vb,vl,va,vs⟩⟩:=f
        simp only at hd e0 e1 e2 e3 e4 e5 e6 e7 e8 e9 e10 e11
        have cc:=fun W=>ccheck_any vi vn vp vb vl va vs W
        have kc:=fun W=>check_any fp fb fl fa fs W
        by_cases hko2:okB ⟨fp,fb,fl,fa,fs⟩=true
        ·rw [if_neg (by simp [hko2])] at hd
         have kc0:keyCheck ⟨fp,fb,fl,fa,fs⟩=0:=by unfold keyCheck;rw [if_pos hko2]
         rw [kc0] at kc
         have KC1:=Lib.hid kc
         clear kc kc0 hko2
         by_cases hc:valCheck ⟨vi,vn,⟨vp,vb,vl,va,vs⟩⟩=0
         ·rw [if_neg (by simp [hc])] at hd
          rw [hc] at cc
          have CC:=Lib.hid cc
          have HF:=Lib.hid (hf.trans hd)
          clear cc hf hd hc hfk
          go_wp2_with (first
           | (go_at_call 27;((with_reducible refine (KC1.out _).mono ?_);rintro e w5 ⟨rfl,hb5⟩;have fB:Bk w5 x'.val.heap.size 156 #[.int .i64 fp,.int .i64 fb,.int .i64 fl,.int .i64 fa,.int .i64 fs,.bool vi,.int .i64 vn,.int .i64 vp,.int .i64 vb,.int .i64 vl,.int .i64 va,.int .i64 vs]:=bk_keep hb5 (bk_new _ _ _);have f5:=fB.cell 5;have f6:=fB.cell 6;have f7:=fB.cell 7;have f8:=fB.cell 8;have f9:=fB.cell 9;have f10:=fB.cell 10;have f11:=fB.cell 11;have fL:=fB.lt;clear fB;simp at f5 f6 f7 f8 f9 f10 f11;obtain ⟨y5,rfl⟩:=later_call (ext_alloc x'.ok _) hb5;clear hb5))
           | (go_at_call 90;((with_reducible refine (CC.out _).mono ?_);rintro e w6 ⟨rfl,hb6⟩;obtain ⟨y6,rfl⟩:=later_call y5.ok hb6;clear hb6)))
          go_roundw
          case rel=>exact ⟨k+1,y6,by omega,by go_num,rfl,HF.out⟩
          case measure=>simp [intOf];omega
         ·rw [if_pos hc] at hd
          have hst:stepCheck R ⟨cp,cb,cl_,ca,cs_⟩ mem stk out=valCheck ⟨vi,vn,⟨vp,vb,vl,va,vs⟩⟩:=by rw [HST.out,hf,hd,if_pos hc]
          generalize valCheck ⟨vi,vn,⟨vp,vb,vl,va,vs⟩⟩=ec at *
          have g1:(ec==0)=false:=by simpa using hc
          have g2:(ec != 0)=true:=by simpa using hc
          have CC:=Lib.hid cc
          have HST2:=Lib.hid hst
          clear cc hf hd hc hst hfk
          go_wp2_with (first
           | (go_at_call 27;((with_reducible refine (KC1.out _).mono ?_);rintro e w5 ⟨rfl,hb5⟩;have fB:Bk w5 x'.val.heap.size 156 #[.int .i64 fp,.int .i64 fb,.int .i64 fl,.int .i64 fa,.int .i64 fs,.bool vi,.int .i64 vn,.int .i64 vp,.int .i64 vb,.int .i64 vl,.int .i64 va,.int .i64 vs]:=bk_keep hb5 (bk_new _ _ _);have f5:=fB.cell 5;have f6:=fB.cell 6;have f7:=fB.cell 7;have f8:=fB.cell 8;have f9:=fB.cell 9;have f10:=fB.cell 10;have f11:=fB.cell 11;have fL:=fB.lt;clear fB;simp at f5 f6 f7 f8 f9 f10 f11;obtain ⟨y5,rfl⟩:=later_call (ext_alloc x'.ok _) hb5;clear hb5))
           | (go_at_call 90;((with_reducible refine (CC.out _).mono ?_);rintro e w6 ⟨rfl,hb6⟩;obtain ⟨y6,rfl⟩:=later_call y5.ok hb6;clear hb6)))
          go_ret
          exact ⟨by rw [HST2.out];rfl,FIN.out y6⟩
        ·have kc0:keyCheck ⟨fp,fb,fl,fa,fs⟩=1:=by unfold keyCheck;rw [if_neg hko2]
         rw [if_pos (by simpa using hko2)] at hd
         have hst:stepCheck R ⟨cp,cb,cl_,ca,cs_⟩ mem stk out=1:=by rw [HST.out,hf,hd,if_pos (by decide)]
         rw [kc0] at kc
         have KC1:=Lib.hid kc
         have HST2:=Lib.hid hst
         clear kc kc0 hko2 hf hd hst cc hfk
         go_wp2_with (go_at_call 27;((with_reducible refine (KC1.out _).mono ?_);rintro e w5 ⟨rfl,hb5⟩;obtain ⟨y5,rfl⟩:=later_call (ext_alloc x'.ok _) hb5;clear hb5))
         go_ret
         exact ⟨by rw [HST2.out];rfl,FIN.out y5⟩
       ·have q1:¬((k:Int) < stk.length):=by omega
        rw [List.drop_of_length_le (by omega)] at hf
        have hf0:stErr stk=0:=hf
        have hst0:=HST.out
        rw [if_neg (by simp [hf0])] at hst0
        clear hf hf0
        by_cases h100:100 < out.length
        ·rw [if_pos h100] at hst0
         have g100:((100:Int) < out.length):=by omega
         have HST2:=Lib.hid hst0
         clear hst0
         go_wp2
         go_ret
         exact ⟨by rw [HST2.out];rfl,FIN.out x'⟩
        ·rw [if_neg h100] at hst0
         have g100:¬((100:Int) < out.length):=by omega
         have HST2:=Lib.hid hst0
         clear hst0
         go_wp2
         obtain ⟨x2,hx2⟩:∃ x2:Later w1,x2=x':=⟨_,rfl⟩
         go_loopw [68] (fun i wr=>∃ (k:Nat) (x:Later w1),k≤out.length∧i=.int .i64 k∧wr=x.val∧outErr out=outErr (out.drop k)) (fun i _=>out.length - (intOf i).toNat)
         case atStart=>exact ⟨0,x',Nat.zero_le _,rfl,rfl,rfl⟩
         case round =>
          obtain ⟨k,x'',hk,rfl,rfl,hf⟩:=hrel
          by_cases hlt:k < out.length
          ·have q1:(k:Int) < out.length:=by omega
           obtain ⟨f,hfk⟩:∃ f,out[k]?=some f:=⟨_,List.getElem?_eq_getElem hlt⟩
           have hd:=outErr_at hfk
           obtain ⟨ad,rfl,hab,e0⟩:=sl_int (SO.out x'') hlt hfk
           have cc:=fun W=>wrap_any f W
           by_cases hc:f=wrap32 f
           ·rw [if_pos hc] at hd
            have HF:=Lib.hid (hf.trans hd)
            have g1:(f != wrap32 f)=false:=by rw [bne_eq_false_iff_eq];exact hc
            generalize wrap32 f=f2 at *
            have CC:=Lib.hid cc
            clear cc hf hd hc hfk
            go_wp2_with (go_at_call 39;((with_reducible refine (CC.out _).mono ?_);rintro e w5 ⟨rfl,rfl⟩))
            go_roundw
            case rel=>exact ⟨k+1,x'',by omega,by go_num,rfl,HF.out⟩
            case measure=>simp [intOf];omega
           ·rw [if_neg hc] at hd
            have hst:stepCheck R ⟨cp,cb,cl_,ca,cs_⟩ mem stk out=1:=by rw [HST2.out,hf,hd]
            have HST3:=Lib.hid hst
            have g1:(f != wrap32 f)=true:=by rw [bne_iff_ne];exact hc
            generalize wrap32 f=f2 at *
            have CC:=Lib.hid cc
            clear cc hf hd hc hst hfk
            go_wp2_with (go_at_call 39;((with_reducible refine (CC.out _).mono ?_);rintro e w5 ⟨rfl,rfl⟩))
            go_ret
            exact ⟨by rw [HST3.out];rfl,FIN.out x''⟩
          ·have q1:¬((k:Int) < out.length):=by omega
           rw [List.drop_of_length_le (by omega)] at hf
           have hst:stepCheck R ⟨cp,cb,cl_,ca,cs_⟩ mem stk out=0:=by rw [HST2.out,hf];rfl
           have HST3:=Lib.hid hst
           clear hf hst
           go_wp2
           go_ret
           exact ⟨by rw [HST3.out];rfl,FIN.out x''⟩
    ·have hst:stepCheck R ⟨cp,cb,cl_,ca,cs_⟩ mem stk out=memCheck mem:=by unfold stepCheck;rw [if_neg (by simp [hf0]),if_neg (by simp [hko]),if_pos hmc]
     have mc0:=MC.out
     generalize memCheck mem=ec at *
     have MC0:=Lib.hid mc0
     have g1:(ec==0)=false:=by simpa using hmc
     have g2:(ec != 0)=true:=by simpa using hmc
     have HST:=Lib.hid hst
     clear mc0 hst hf0 hko hmc
     go_wp2_with (first
      | (go_at_call 27;((with_reducible refine (KC0.out _).mono ?_);rintro e w2 ⟨rfl,hb2⟩;obtain ⟨y,rfl⟩:=later_call x.ok hb2;clear hb2))
      | (go_at_call 67;((with_reducible refine (MC0.out _ (SM.out y)).mono ?_);rintro e w3 ⟨rfl,hb3⟩;obtain ⟨z,rfl⟩:=later_call y.ok hb3;clear hb3)))
     go_ret
     exact ⟨by rw [HST.out];rfl,FIN.out z⟩
   ·have kc0:keyCheck ⟨cp,cb,cl_,ca,cs_⟩=1:=by unfold keyCheck;rw [if_neg hko]
    have hst:stepCheck R ⟨cp,cb,cl_,ca,cs_⟩ mem stk out=1:=by unfold stepCheck;rw [if_neg (by simp [hf0]),if_pos (by simpa using hko)]
    have kc:=KC.out
    rw [kc0] at kc
    have KC0:=Lib.hid kc
    have HST:=Lib.hid hst
    clear kc kc0 hst hf0 hko
    go_wp2_with (go_at_call 27;((with_reducible refine (KC0.out _).mono ?_);rintro e w2 ⟨rfl,hb2⟩;obtain ⟨y,rfl⟩:=later_call x.ok hb2;clear hb2))
    go_ret
    exact ⟨by rw [HST.out];rfl,FIN.out y⟩
end Go.Proofs.YtlpejagkadalbaaGreatDoor
