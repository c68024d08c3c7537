import Derived.Test.YtlpejagkadalbaaGreatDoorZk21
set_option maxHeartbeats 40000000
set_option maxRecDepth 100000
set_option linter.unusedVariables false
set_option linter.unusedSimpArgs false
namespace Go.Proofs.YtlpejagkadalbaaGreatDoor
open Go.RowKit
theorem MSt.appendStk {base gm:Nat} {vm vs vo v':Value} {m:MV} {W w':World} {s':List FrameV} (h:MS base gm vm vs vo m W) (hg:W.grownBy w' vs.ownBlock) (ho:Own w' base 156 v' s') :
  MS base gm vm v' vo {m with stk:=s'} (w'.setCell ⟨gm,62,none⟩ v')∧Fr (mS gm vm vs vo) W (w'.setCell ⟨gm,62,none⟩ v'):=by
 have hB:Bk w' gm 60 (mcs m.R m.c vm vs vo):=(hg.block gm h.mB.lt (fun e=>zBZ h.os h.mB (by decide) e.symm)).trans h.mB
 have h1:Own w' base 56 vm m.mem:=zCo h.om fun g e=>hg.block g (zB0 h.om e).2 (fun e'=>zDl h.om h.os (by decide) e e'.symm)
 have h2:Own w' base 3 vo m.out:=zCo h.oo fun g e=>hg.block g (zB0 h.oo e).2 (fun e'=>zDl h.oo h.os (by decide) e e'.symm)
 refine ⟨⟨h.h8,zT hB (zEx h.h8 v').symm,zAa h1 hB (by decide) 62 [v'],zAa ho hB (by decide) 62 [v'],zAa h2 hB (by decide) 62 [v']⟩,?_⟩
 exact (Fr.grown hg (fun k e=>.inl (.inr (.inr (.inl e))))).trans (Fr.setCell w' (p:=⟨gm,62,none⟩) (S:=mS gm vm vs vo) (.inl rfl) v') (fun _ _ h=>h)
theorem zLZ {base:Nat} {W:World} {gs gm:Nat} {i:InstV} {m:MV} {vm vs vo:Value} (hs:Bk W gs 190 (zS gm i)) (hm:MS base gm vm vs vo m W) (a b:Nat) (ha:i.a=a) (hb:i.b=b) (a8:a < 8) (b8:b < 8) (h1:(m.reg a).is=true) (h2:(m.reg b).is=true) (hbs:base≤W.heap.size) (hC:m.c.Ok) (h16:m.stk.length≤16) :
  Calls Tryz.prog 111 #[.pointer (some ⟨gs,0,none⟩)] W (StepPost base gm vm vs vo m W (if (m.reg a).k.seal_=0∨(m.reg a).k.seal_≠(m.reg b).k.seal_ then .error 11 else if zAM (m.reg a).k.perm 4=0∨zAM (m.reg b).k.perm 4≠0 then .error 12 else if m.stk.length=16 then .error 9
   else .ok {m with stk:=m.stk++[⟨{m.c with at_:=m.c.at_+1},m.reg 7⟩],c:=zB9 (m.reg a).k,R:=m.R.set 7 (kV (zB9 (m.reg b).k))})):=by
 have sL:=hs.lt
 have HS:=zA (fun (W1:World) (h:Below W.heap.size W W1)=>(show W1.cell? ⟨gs,0,none⟩=some (.pointer (some ⟨gm,0,none⟩))∧W1.cell? ⟨gs,2,none⟩=some (.int .i64 a)∧W1.cell? ⟨gs,3,none⟩=some (.int .i64 b) from ⟨(zH h hs).cell 0,((zH h hs).cell 2).trans (by rw [←ha];rfl),((zH h hs).cell 3).trans (by rw [←hb];rfl)⟩))
 obtain ⟨sa,sc,rfl,_,_⟩:=hm.os.sl
 have KA:=fun (W1:World) (h:Below W.heap.size W W1)=>zAV (zH h hs) (zH h hm.mB) hm.h8 a a8 h1
 have KB:=fun (W1:World) (h:Below W.heap.size W W1)=>zAV (zH h hs) (zH h hm.mB) hm.h8 b b8 h2
 generalize (m.reg a).k=kA at *
 generalize (m.reg b).k=kB at *
 obtain ⟨ap,ab,al,aa,as_⟩:=kA
 obtain ⟨bp,bb,bl,ba,bs⟩:=kB
 simp only at KA KB ⊢
 generalize hr:(if as_=0∨as_≠bs then (Except.error 11:Ex MV) else _)=r
 have KA:=zA KA
 have KB:=zA KB
 have HM:=zA hm
 have HSB:=zA hs
 have HC0:=hC.a0
 have HC1:=hC.a1
 have HR:=zA hr
 clear hs hm hC hr
 go_enter Tryz.func111,Tryz.ntmps111
 go_upto_region 0 with (fail)
 go_cut [2,3] (fun s2 s3 W1=>∃ g2 g3,s2=.pointer (some ⟨g2,0,none⟩)∧s3=.pointer (some ⟨g3,0,none⟩)∧Bk W1 g2 54 #[.int .i64 ap,.int .i64 ab,.int .i64 al,.int .i64 aa,.int .i64 as_]∧Bk W1 g3 54 #[.int .i64 bp,.int .i64 bb,.int .i64 bl,.int .i64 ba,.int .i64 bs]∧W.heap.size≤g2∧W.heap.size≤g3∧g2≠g3∧Below W.heap.size W W1)
 case first =>
   refine wp_region_held_drew (S:=fun W1=>W1.cell? ⟨gs,0,none⟩=some (.pointer (some ⟨gm,0,none⟩))∧W1.cell? ⟨gs,2,none⟩=some (.int .i64 a)∧W1.cell? ⟨gs,3,none⟩=some (.int .i64 b)) (by kernel_rfl) (HS.out _ (zJ (Below.refl _ _))) (fun hHeld=>?_)
   refine wpAnyH_take (i:=0) (v:=?_) rfl (by kernel_rfl) (by kernel_rfl) (by kernel_rfl) (fun _ _ _ h=>h) (Or.inl ⟨by rfl,?hyT⟩) hHeld ?restT
   case hyT=>(intro w hSw;obtain ⟨r0,r1,r2⟩:=hSw;go_simp;try with_reducible rfl)
   case restT =>
    try simp only [Act.put,zC,zD,zE]
    refine wpAnyH_take (i:=1) (v:=?_) rfl (by kernel_rfl) (by kernel_rfl) (by kernel_rfl) (fun _ _ _ h=>h) (Or.inl ⟨by rfl,?hyT⟩) hHeld ?restT
    case hyT=>(intro w hSw;obtain ⟨r0,r1,r2⟩:=hSw;go_simp;try with_reducible rfl)
    case restT =>
     try simp only [Act.put,zC,zD,zE]
     refine wpAnyH_take (i:=2) (v:=?_) rfl (by kernel_rfl) (by kernel_rfl) (by kernel_rfl) (fun _ _ _ h=>h) (Or.inl ⟨by rfl,?hyT⟩) hHeld ?restT
     case hyT=>(intro w hSw;obtain ⟨r0,r1,r2⟩:=hSw;go_simp;try with_reducible rfl)
     case restT =>
      try simp only [Act.put,zC,zD,zE]
      refine wpAnyH_take (i:=3) (v:=?_) rfl (by kernel_rfl) (by kernel_rfl) (by kernel_rfl) (fun _ _ _ h=>h) (Or.inl ⟨by rfl,?hyT⟩) hHeld ?restT
      case hyT=>(intro w hSw;obtain ⟨r0,r1,r2⟩:=hSw;go_simp;try with_reducible rfl)
      case restT =>
       try simp only [Act.put,zC,zD,zE]
       refine wpAnyH_take (i:=4) (v:=?_) rfl (by kernel_rfl) (by kernel_rfl) (by kernel_rfl) (fun _ _ _ h=>h) (Or.inl ⟨by rfl,?hyT⟩) hHeld ?restT
       case hyT=>(intro w hSw;obtain ⟨r0,r1,r2⟩:=hSw;go_simp;try with_reducible rfl)
       case restT =>
        try simp only [Act.put,zC,zD,zE]
        refine wpAnyH_take (i:=5) (v:=?_) rfl (by kernel_rfl) (by kernel_rfl) (by kernel_rfl) (fun _ _ _ h=>h) (Or.inl ⟨by rfl,?hyT⟩) hHeld ?restT
        case hyT=>(intro w hSw;obtain ⟨r0,r1,r2⟩:=hSw;go_simp;try with_reducible rfl)
        case restT =>
         try simp only [Act.put,zC,zD,zE]
         refine wpAnyH_take (i:=7) (v:=?_) rfl (by kernel_rfl) (by kernel_rfl) (by kernel_rfl) (fun _ _ _ h=>h) (Or.inl ⟨by rfl,?hyT⟩) hHeld ?restT
         case hyT=>(intro w hSw;obtain ⟨r0,r1,r2⟩:=hSw;go_simp;try with_reducible rfl)
         case restT =>
          try simp only [Act.put,zC,zD,zE]
          refine wpAnyH_take (i:=8) (v:=?_) rfl (by kernel_rfl) (by kernel_rfl) (by kernel_rfl) (fun _ _ _ h=>h) (Or.inl ⟨by rfl,?hyT⟩) hHeld ?restT
          case hyT=>(intro w hSw;obtain ⟨r0,r1,r2⟩:=hSw;go_simp;try with_reducible rfl)
          case restT =>
           try simp only [Act.put,zC,zD,zE]
           refine wpAnyH_take (i:=9) (v:=?_) rfl (by kernel_rfl) (by kernel_rfl) (by kernel_rfl) (fun _ _ _ h=>h) (Or.inl ⟨by rfl,?hyT⟩) hHeld ?restT
           case hyT=>(intro w hSw;obtain ⟨r0,r1,r2⟩:=hSw;go_simp;try with_reducible rfl)
           case restT =>
            try simp only [Act.put,zC,zD,zE]
            refine wpAnyH_take (i:=10) (v:=?_) rfl (by kernel_rfl) (by kernel_rfl) (by kernel_rfl) (fun _ _ _ h=>h) (Or.inl ⟨by rfl,?hyT⟩) hHeld ?restT
            case hyT=>(intro w hSw;obtain ⟨r0,r1,r2⟩:=hSw;go_simp;try with_reducible rfl)
            case restT =>
             try simp only [Act.put,zC,zD,zE]
             refine wpAnyH_take (i:=11) (v:=?_) rfl (by kernel_rfl) (by kernel_rfl) (by kernel_rfl) (fun _ _ _ h=>h) (Or.inl ⟨by rfl,?hyT⟩) hHeld ?restT
             case hyT=>(intro w hSw;obtain ⟨r0,r1,r2⟩:=hSw;go_simp;try with_reducible rfl)
             case restT =>
              try simp only [Act.put,zC,zD,zE]
              refine wpAnyH_take (i:=12) (v:=?_) rfl (by kernel_rfl) (by kernel_rfl) (by kernel_rfl) (fun _ _ _ h=>h) (Or.inl ⟨by rfl,?hyT⟩) hHeld ?restT
              case hyT=>(intro w hSw;obtain ⟨r0,r1,r2⟩:=hSw;go_simp;try with_reducible rfl)
              case restT =>
               try simp only [Act.put,zC,zD,zE]
               refine wpAnyH_ready (rs:=[6,14,15]) (by kernel_rfl) (by simp) ?_
               refine AllReadyH.cons rfl (fun K hK=>?_) (AllReadyH.cons rfl (fun K hK=>?_) (AllReadyH.cons rfl (fun K hK=>?_) AllReadyH.nil))
               ·go_simp
                go_wp2_with (go_at_call 138;((with_reducible refine (KA.out _ (by repeat (first | with_reducible exact Below.refl _ _ | with_reducible refine zG ?_ _ | with_reducible refine zJ ?_ | with_reducible refine zK ?_ (by first | omega | (simp;done) | (simp;omega)) _))).mono ?_);rintro e w2 ⟨rfl,hbT⟩;have HB2:=zA (show Below W.heap.size W w2 from zI (by repeat (first | with_reducible exact Below.refl _ _ | with_reducible refine zG ?_ _ | with_reducible refine zJ ?_ | with_reducible refine zK ?_ (by first | omega | (simp;done) | (simp;omega)) _)) hbT);have sw2:=HB2.out.size;clear hbT))
                refine hK.out _ _ (HS.out _ HB2.out) (fun hHeld=>?_)
                clear hK K
                try simp only [Act.put,zC,zD,zE]
                refine wpAnyH_ready (rs:=[13,14,15]) (by kernel_rfl) (by simp) ?_
                refine AllReadyH.cons rfl (fun K hK=>?_) (AllReadyH.cons rfl (fun K hK=>?_) (AllReadyH.cons rfl (fun K hK=>?_) AllReadyH.nil))
                ·go_simp
                 go_wp2_with (go_at_call 138;((with_reducible refine (KB.out _ (by repeat (first | with_reducible exact HB2.out | with_reducible refine zG ?_ _ | with_reducible refine zJ ?_ | with_reducible refine zK ?_ (by first | omega | (simp;done) | (simp;omega)) _))).mono ?_);rintro e w3 ⟨rfl,hbT⟩;have HB3:=zA (show Below W.heap.size W w3 from zI (by repeat (first | with_reducible exact HB2.out | with_reducible refine zG ?_ _ | with_reducible refine zJ ?_ | with_reducible refine zK ?_ (by first | omega | (simp;done) | (simp;omega)) _)) hbT);have sw3:=HB3.out.size;clear hbT))
                 refine hK.out _ _ (HS.out _ HB3.out) (fun hHeld=>?_)
                 clear hK K
                 try simp only [Act.put,zC,zD,zE]
                 refine wpAnyH_ready (rs:=[14,15]) (by kernel_rfl) (by simp) ?_
                 refine AllReadyH.cons rfl (fun K hK=>?_) (AllReadyH.cons rfl (fun K hK=>?_) AllReadyH.nil)
                 ·go_simp
                  refine hK.out _ _ (HS.out _ (by repeat (first | with_reducible exact HB3.out | with_reducible refine zG ?_ _ | with_reducible refine zJ ?_ | with_reducible refine zK ?_ (by first | omega | (simp;done) | (simp;omega)) _))) (fun hHeld=>?_)
                  clear hK K
                  try simp only [Act.put,zC,zD,zE]
                  refine wpAnyH_ready (rs:=[15]) (by kernel_rfl) (by simp) ?_
                  refine AllReadyH.cons rfl (fun K hK=>?_) AllReadyH.nil
                  ·go_simp
                   refine hK.out _ _ (HS.out _ (by repeat (first | with_reducible exact HB3.out | with_reducible refine zG ?_ _ | with_reducible refine zJ ?_ | with_reducible refine zK ?_ (by first | omega | (simp;done) | (simp;omega)) _))) (fun hHeld=>?_)
                   clear hK K
                   try simp only [Act.put,zC,zD,zE]
                   refine wpAnyH_ready (rs:=[16]) (by kernel_rfl) (by simp) ?_
                   refine AllReadyH.cons rfl (fun K hK=>?_) AllReadyH.nil
                   go_simp
                   refine hK.out _ _ (HS.out _ (by repeat (first | with_reducible exact HB3.out | with_reducible refine zG ?_ _ | with_reducible refine zJ ?_ | with_reducible refine zK ?_ (by first | omega | (simp;done) | (simp;omega)) _))) (fun hHeld=>?_)
                   clear hK K
                   try simp only [Act.put,zC,zD,zE]
                   refine wpAnyH_ready (rs:=[17]) (by kernel_rfl) (by simp) ?_
                   refine AllReadyH.cons rfl (fun K hK=>?_) AllReadyH.nil
                   go_simp
                   refine hK.out _ _ (HS.out _ (by repeat (first | with_reducible exact HB3.out | with_reducible refine zG ?_ _ | with_reducible refine zJ ?_ | with_reducible refine zK ?_ (by first | omega | (simp;done) | (simp;omega)) _))) (fun hHeld=>?_)
                   clear hK K
                   try simp only [Act.put,zC,zD,zE]
                   refine wpAnyH_done (by kernel_rfl) ?_ _
                   go_wp2_with fail
                   go_meet
                   refine ⟨w3.heap.size,w3.heap.size+1,rfl,rfl,(by repeat (first | with_reducible exact zM _ _ _ | (with_reducible refine zO _ _ ?_;simp;done) | with_reducible refine zP ?_ | with_reducible refine zN _ ?_ | with_reducible refine zAB (by omega) ?_ | with_reducible refine zAA ?_)),(by repeat (first | with_reducible exact zM _ _ _ | (with_reducible refine zO _ _ ?_;simp;done) | with_reducible refine zP ?_ | with_reducible refine zN _ ?_ | with_reducible refine zAB (by omega) ?_ | with_reducible refine zAA ?_)),by omega,by omega,by omega,(by repeat (first | with_reducible exact HB3.out | with_reducible refine zG ?_ _ | with_reducible refine zJ ?_ | with_reducible refine zK ?_ (by first | omega | (simp;done) | (simp;omega)) _))⟩
                 ·go_simp
                  refine hK.out _ _ (HS.out _ (by repeat (first | with_reducible exact HB3.out | with_reducible refine zG ?_ _ | with_reducible refine zJ ?_ | with_reducible refine zK ?_ (by first | omega | (simp;done) | (simp;omega)) _))) (fun hHeld=>?_)
                  clear hK K
                  try simp only [Act.put,zC,zD,zE]
                  refine wpAnyH_ready (rs:=[14]) (by kernel_rfl) (by simp) ?_
                  refine AllReadyH.cons rfl (fun K hK=>?_) AllReadyH.nil
                  ·go_simp
                   refine hK.out _ _ (HS.out _ (by repeat (first | with_reducible exact HB3.out | with_reducible refine zG ?_ _ | with_reducible refine zJ ?_ | with_reducible refine zK ?_ (by first | omega | (simp;done) | (simp;omega)) _))) (fun hHeld=>?_)
                   clear hK K
                   try simp only [Act.put,zC,zD,zE]
                   refine wpAnyH_ready (rs:=[16]) (by kernel_rfl) (by simp) ?_
                   refine AllReadyH.cons rfl (fun K hK=>?_) AllReadyH.nil
                   go_simp
                   refine hK.out _ _ (HS.out _ (by repeat (first | with_reducible exact HB3.out | with_reducible refine zG ?_ _ | with_reducible refine zJ ?_ | with_reducible refine zK ?_ (by first | omega | (simp;done) | (simp;omega)) _))) (fun hHeld=>?_)
                   clear hK K
                   try simp only [Act.put,zC,zD,zE]
                   refine wpAnyH_ready (rs:=[17]) (by kernel_rfl) (by simp) ?_
                   refine AllReadyH.cons rfl (fun K hK=>?_) AllReadyH.nil
                   go_simp
                   refine hK.out _ _ (HS.out _ (by repeat (first | with_reducible exact HB3.out | with_reducible refine zG ?_ _ | with_reducible refine zJ ?_ | with_reducible refine zK ?_ (by first | omega | (simp;done) | (simp;omega)) _))) (fun hHeld=>?_)
                   clear hK K
                   try simp only [Act.put,zC,zD,zE]
                   refine wpAnyH_done (by kernel_rfl) ?_ _
                   go_wp2_with fail
                   go_meet
                   refine ⟨w3.heap.size+1,w3.heap.size,rfl,rfl,(by repeat (first | with_reducible exact zM _ _ _ | (with_reducible refine zO _ _ ?_;simp;done) | with_reducible refine zP ?_ | with_reducible refine zN _ ?_ | with_reducible refine zAB (by omega) ?_ | with_reducible refine zAA ?_)),(by repeat (first | with_reducible exact zM _ _ _ | (with_reducible refine zO _ _ ?_;simp;done) | with_reducible refine zP ?_ | with_reducible refine zN _ ?_ | with_reducible refine zAB (by omega) ?_ | with_reducible refine zAA ?_)),by omega,by omega,by omega,(by repeat (first | with_reducible exact HB3.out | with_reducible refine zG ?_ _ | with_reducible refine zJ ?_ | with_reducible refine zK ?_ (by first | omega | (simp;done) | (simp;omega)) _))⟩
                ·go_simp
                 refine hK.out _ _ (HS.out _ (by repeat (first | with_reducible exact HB2.out | with_reducible refine zG ?_ _ | with_reducible refine zJ ?_ | with_reducible refine zK ?_ (by first | omega | (simp;done) | (simp;omega)) _))) (fun hHeld=>?_)
                 clear hK K
                 try simp only [Act.put,zC,zD,zE]
                 refine wpAnyH_ready (rs:=[13,15]) (by kernel_rfl) (by simp) ?_
                 refine AllReadyH.cons rfl (fun K hK=>?_) (AllReadyH.cons rfl (fun K hK=>?_) AllReadyH.nil)
                 ·go_simp
                  go_wp2_with (go_at_call 138;((with_reducible refine (KB.out _ (by repeat (first | with_reducible exact HB2.out | with_reducible refine zG ?_ _ | with_reducible refine zJ ?_ | with_reducible refine zK ?_ (by first | omega | (simp;done) | (simp;omega)) _))).mono ?_);rintro e w3 ⟨rfl,hbT⟩;have z14_1:Bk w3 (w2.heap.size) 54 #[.int .i64 0,.int .i64 0,.int .i64 0,.int .i64 0,.int .i64 0]:=zH hbT (by repeat (first | with_reducible exact zM _ _ _ | (with_reducible refine zO _ _ ?_;simp;done) | with_reducible refine zP ?_ | with_reducible refine zN _ ?_ | with_reducible refine zAB (by omega) ?_ | with_reducible refine zAA ?_));obtain ⟨y0,y1,y2,y3,y4⟩:=zQ z14_1;have yF14:=fun j=>Bk.frozen z14_1 j;have yL14:=Bk.lt z14_1;have HB3:=zA (show Below W.heap.size W w3 from zI (by repeat (first | with_reducible exact HB2.out | with_reducible refine zG ?_ _ | with_reducible refine zJ ?_ | with_reducible refine zK ?_ (by first | omega | (simp;done) | (simp;omega)) _)) hbT);have sw3:=HB3.out.size;clear hbT))
                  refine hK.out _ _ (HS.out _ HB3.out) (fun hHeld=>?_)
                  clear hK K
                  try simp only [Act.put,zC,zD,zE]
                  refine wpAnyH_ready (rs:=[15]) (by kernel_rfl) (by simp) ?_
                  refine AllReadyH.cons rfl (fun K hK=>?_) AllReadyH.nil
                  ·go_simp
                   refine hK.out _ _ (HS.out _ (by repeat (first | with_reducible exact HB3.out | with_reducible refine zG ?_ _ | with_reducible refine zJ ?_ | with_reducible refine zK ?_ (by first | omega | (simp;done) | (simp;omega)) _))) (fun hHeld=>?_)
                   clear hK K
                   try simp only [Act.put,zC,zD,zE]
                   refine wpAnyH_ready (rs:=[16]) (by kernel_rfl) (by simp) ?_
                   refine AllReadyH.cons rfl (fun K hK=>?_) AllReadyH.nil
                   go_simp
                   refine hK.out _ _ (HS.out _ (by repeat (first | with_reducible exact HB3.out | with_reducible refine zG ?_ _ | with_reducible refine zJ ?_ | with_reducible refine zK ?_ (by first | omega | (simp;done) | (simp;omega)) _))) (fun hHeld=>?_)
                   clear hK K
                   try simp only [Act.put,zC,zD,zE]
                   refine wpAnyH_ready (rs:=[17]) (by kernel_rfl) (by simp) ?_
                   refine AllReadyH.cons rfl (fun K hK=>?_) AllReadyH.nil
                   go_simp
                   refine hK.out _ _ (HS.out _ (by repeat (first | with_reducible exact HB3.out | with_reducible refine zG ?_ _ | with_reducible refine zJ ?_ | with_reducible refine zK ?_ (by first | omega | (simp;done) | (simp;omega)) _))) (fun hHeld=>?_)
                   clear hK K
                   try simp only [Act.put,zC,zD,zE]
                   refine wpAnyH_done (by kernel_rfl) ?_ _
                   go_wp2_with fail
                   go_meet
                   refine ⟨w2.heap.size,w3.heap.size,rfl,rfl,(by repeat (first | with_reducible exact z14_1 | with_reducible exact zM _ _ _ | (with_reducible refine zO _ _ ?_;simp;done) | with_reducible refine zP ?_ | with_reducible refine zN _ ?_ | with_reducible refine zAB (by omega) ?_ | with_reducible refine zAA ?_)),(by repeat (first | with_reducible exact zM _ _ _ | (with_reducible refine zO _ _ ?_;simp;done) | with_reducible refine zP ?_ | with_reducible refine zN _ ?_ | with_reducible refine zAB (by omega) ?_ | with_reducible refine zAA ?_)),by omega,by omega,by omega,(by repeat (first | with_reducible exact HB3.out | with_reducible refine zG ?_ _ | with_reducible refine zJ ?_ | with_reducible refine zK ?_ (by first | omega | (simp;done) | (simp;omega)) _))⟩
                 ·go_simp
                  refine hK.out _ _ (HS.out _ (by repeat (first | with_reducible exact HB2.out | with_reducible refine zG ?_ _ | with_reducible refine zJ ?_ | with_reducible refine zK ?_ (by first | omega | (simp;done) | (simp;omega)) _))) (fun hHeld=>?_)
                  clear hK K
                  try simp only [Act.put,zC,zD,zE]
                  refine wpAnyH_ready (rs:=[13]) (by kernel_rfl) (by simp) ?_
                  refine AllReadyH.cons rfl (fun K hK=>?_) AllReadyH.nil
                  ·go_simp
                   go_wp2_with (go_at_call 138;((with_reducible refine (KB.out _ (by repeat (first | with_reducible exact HB2.out | with_reducible refine zG ?_ _ | with_reducible refine zJ ?_ | with_reducible refine zK ?_ (by first | omega | (simp;done) | (simp;omega)) _))).mono ?_);rintro e w3 ⟨rfl,hbT⟩;have z14_1:Bk w3 (w2.heap.size) 54 #[.int .i64 0,.int .i64 0,.int .i64 0,.int .i64 0,.int .i64 0]:=zH hbT (by repeat (first | with_reducible exact zM _ _ _ | (with_reducible refine zO _ _ ?_;simp;done) | with_reducible refine zP ?_ | with_reducible refine zN _ ?_ | with_reducible refine zAB (by omega) ?_ | with_reducible refine zAA ?_));obtain ⟨y0,y1,y2,y3,y4⟩:=zQ z14_1;have yF14:=fun j=>Bk.frozen z14_1 j;have yL14:=Bk.lt z14_1;have z15_1:Bk w3 (w2.heap.size+1) 54 #[.int .i64 0,.int .i64 0,.int .i64 0,.int .i64 0,.int .i64 0]:=zH hbT (by repeat (first | with_reducible exact zM _ _ _ | (with_reducible refine zO _ _ ?_;simp;done) | with_reducible refine zP ?_ | with_reducible refine zN _ ?_ | with_reducible refine zAB (by omega) ?_ | with_reducible refine zAA ?_));obtain ⟨y0,y1,y2,y3,y4⟩:=zQ z15_1;have yF15:=fun j=>Bk.frozen z15_1 j;have yL15:=Bk.lt z15_1;have HB3:=zA (show Below W.heap.size W w3 from zI (by repeat (first | with_reducible exact HB2.out | with_reducible refine zG ?_ _ | with_reducible refine zJ ?_ | with_reducible refine zK ?_ (by first | omega | (simp;done) | (simp;omega)) _)) hbT);have sw3:=HB3.out.size;clear hbT))
                   refine hK.out _ _ (HS.out _ HB3.out) (fun hHeld=>?_)
                   clear hK K
                   try simp only [Act.put,zC,zD,zE]
                   refine wpAnyH_ready (rs:=[16]) (by kernel_rfl) (by simp) ?_
                   refine AllReadyH.cons rfl (fun K hK=>?_) AllReadyH.nil
                   go_simp
                   refine hK.out _ _ (HS.out _ (by repeat (first | with_reducible exact HB3.out | with_reducible refine zG ?_ _ | with_reducible refine zJ ?_ | with_reducible refine zK ?_ (by first | omega | (simp;done) | (simp;omega)) _))) (fun hHeld=>?_)
                   clear hK K
                   try simp only [Act.put,zC,zD,zE]
                   refine wpAnyH_ready (rs:=[17]) (by kernel_rfl) (by simp) ?_
                   refine AllReadyH.cons rfl (fun K hK=>?_) AllReadyH.nil
                   go_simp
                   refine hK.out _ _ (HS.out _ (by repeat (first | with_reducible exact HB3.out | with_reducible refine zG ?_ _ | with_reducible refine zJ ?_ | with_reducible refine zK ?_ (by first | omega | (simp;done) | (simp;omega)) _))) (fun hHeld=>?_)
                   clear hK K
                   try simp only [Act.put,zC,zD,zE]
                   refine wpAnyH_done (by kernel_rfl) ?_ _
                   go_wp2_with fail
                   go_meet
                   refine ⟨w2.heap.size,w2.heap.size+1,rfl,rfl,(by repeat (first | with_reducible exact z14_1 | with_reducible exact zM _ _ _ | (with_reducible refine zO _ _ ?_;simp;done) | with_reducible refine zP ?_ | with_reducible refine zN _ ?_ | with_reducible refine zAB (by omega) ?_ | with_reducible refine zAA ?_)),(by repeat (first | with_reducible exact z15_1 | with_reducible exact zM _ _ _ | (with_reducible refine zO _ _ ?_;simp;done) | with_reducible refine zP ?_ | with_reducible refine zN _ ?_ | with_reducible refine zAB (by omega) ?_ | with_reducible refine zAA ?_)),by omega,by omega,by omega,(by repeat (first | with_reducible exact HB3.out | with_reducible refine zG ?_ _ | with_reducible refine zJ ?_ | with_reducible refine zK ?_ (by first | omega | (simp;done) | (simp;omega)) _))⟩
                ·go_simp
                 refine hK.out _ _ (HS.out _ (by repeat (first | with_reducible exact HB2.out | with_reducible refine zG ?_ _ | with_reducible refine zJ ?_ | with_reducible refine zK ?_ (by first | omega | (simp;done) | (simp;omega)) _))) (fun hHeld=>?_)
                 clear hK K
                 try simp only [Act.put,zC,zD,zE]
                 refine wpAnyH_ready (rs:=[13,14]) (by kernel_rfl) (by simp) ?_
                 refine AllReadyH.cons rfl (fun K hK=>?_) (AllReadyH.cons rfl (fun K hK=>?_) AllReadyH.nil)
                 ·go_simp
                  go_wp2_with (go_at_call 138;((with_reducible refine (KB.out _ (by repeat (first | with_reducible exact HB2.out | with_reducible refine zG ?_ _ | with_reducible refine zJ ?_ | with_reducible refine zK ?_ (by first | omega | (simp;done) | (simp;omega)) _))).mono ?_);rintro e w3 ⟨rfl,hbT⟩;have z15_1:Bk w3 (w2.heap.size) 54 #[.int .i64 0,.int .i64 0,.int .i64 0,.int .i64 0,.int .i64 0]:=zH hbT (by repeat (first | with_reducible exact zM _ _ _ | (with_reducible refine zO _ _ ?_;simp;done) | with_reducible refine zP ?_ | with_reducible refine zN _ ?_ | with_reducible refine zAB (by omega) ?_ | with_reducible refine zAA ?_));obtain ⟨y0,y1,y2,y3,y4⟩:=zQ z15_1;have yF15:=fun j=>Bk.frozen z15_1 j;have yL15:=Bk.lt z15_1;have HB3:=zA (show Below W.heap.size W w3 from zI (by repeat (first | with_reducible exact HB2.out | with_reducible refine zG ?_ _ | with_reducible refine zJ ?_ | with_reducible refine zK ?_ (by first | omega | (simp;done) | (simp;omega)) _)) hbT);have sw3:=HB3.out.size;clear hbT))
                  refine hK.out _ _ (HS.out _ HB3.out) (fun hHeld=>?_)
                  clear hK K
                  try simp only [Act.put,zC,zD,zE]
                  refine wpAnyH_ready (rs:=[14]) (by kernel_rfl) (by simp) ?_
                  refine AllReadyH.cons rfl (fun K hK=>?_) AllReadyH.nil
                  ·go_simp
                   refine hK.out _ _ (HS.out _ (by repeat (first | with_reducible exact HB3.out | with_reducible refine zG ?_ _ | with_reducible refine zJ ?_ | with_reducible refine zK ?_ (by first | omega | (simp;done) | (simp;omega)) _))) (fun hHeld=>?_)
                   clear hK K
                   try simp only [Act.put,zC,zD,zE]
                   refine wpAnyH_ready (rs:=[16]) (by kernel_rfl) (by simp) ?_
                   refine AllReadyH.cons rfl (fun K hK=>?_) AllReadyH.nil
                   go_simp
                   refine hK.out _ _ (HS.out _ (by repeat (first | with_reducible exact HB3.out | with_reducible refine zG ?_ _ | with_reducible refine zJ ?_ | with_reducible refine zK ?_ (by first | omega | (simp;done) | (simp;omega)) _))) (fun hHeld=>?_)
                   clear hK K
                   try simp only [Act.put,zC,zD,zE]
                   refine wpAnyH_ready (rs:=[17]) (by kernel_rfl) (by simp) ?_
                   refine AllReadyH.cons rfl (fun K hK=>?_) AllReadyH.nil
                   go_simp
                   refine hK.out _ _ (HS.out _ (by repeat (first | with_reducible exact HB3.out | with_reducible refine zG ?_ _ | with_reducible refine zJ ?_ | with_reducible refine zK ?_ (by first | omega | (simp;done) | (simp;omega)) _))) (fun hHeld=>?_)
                   clear hK K
                   try simp only [Act.put,zC,zD,zE]
                   refine wpAnyH_done (by kernel_rfl) ?_ _
                   go_wp2_with fail
                   go_meet
                   refine ⟨w3.heap.size,w2.heap.size,rfl,rfl,(by repeat (first | with_reducible exact zM _ _ _ | (with_reducible refine zO _ _ ?_;simp;done) | with_reducible refine zP ?_ | with_reducible refine zN _ ?_ | with_reducible refine zAB (by omega) ?_ | with_reducible refine zAA ?_)),(by repeat (first | with_reducible exact z15_1 | with_reducible exact zM _ _ _ | (with_reducible refine zO _ _ ?_;simp;done) | with_reducible refine zP ?_ | with_reducible refine zN _ ?_ | with_reducible refine zAB (by omega) ?_ | with_reducible refine zAA ?_)),by omega,by omega,by omega,(by repeat (first | with_reducible exact HB3.out | with_reducible refine zG ?_ _ | with_reducible refine zJ ?_ | with_reducible refine zK ?_ (by first | omega | (simp;done) | (simp;omega)) _))⟩
                 ·go_simp
                  refine hK.out _ _ (HS.out _ (by repeat (first | with_reducible exact HB2.out | with_reducible refine zG ?_ _ | with_reducible refine zJ ?_ | with_reducible refine zK ?_ (by first | omega | (simp;done) | (simp;omega)) _))) (fun hHeld=>?_)
                  clear hK K
                  try simp only [Act.put,zC,zD,zE]
                  refine wpAnyH_ready (rs:=[13]) (by kernel_rfl) (by simp) ?_
                  refine AllReadyH.cons rfl (fun K hK=>?_) AllReadyH.nil
                  ·go_simp
                   go_wp2_with (go_at_call 138;((with_reducible refine (KB.out _ (by repeat (first | with_reducible exact HB2.out | with_reducible refine zG ?_ _ | with_reducible refine zJ ?_ | with_reducible refine zK ?_ (by first | omega | (simp;done) | (simp;omega)) _))).mono ?_);rintro e w3 ⟨rfl,hbT⟩;have z15_1:Bk w3 (w2.heap.size) 54 #[.int .i64 0,.int .i64 0,.int .i64 0,.int .i64 0,.int .i64 0]:=zH hbT (by repeat (first | with_reducible exact zM _ _ _ | (with_reducible refine zO _ _ ?_;simp;done) | with_reducible refine zP ?_ | with_reducible refine zN _ ?_ | with_reducible refine zAB (by omega) ?_ | with_reducible refine zAA ?_));obtain ⟨y0,y1,y2,y3,y4⟩:=zQ z15_1;have yF15:=fun j=>Bk.frozen z15_1 j;have yL15:=Bk.lt z15_1;have z14_1:Bk w3 (w2.heap.size+1) 54 #[.int .i64 0,.int .i64 0,.int .i64 0,.int .i64 0,.int .i64 0]:=zH hbT (by repeat (first | with_reducible exact zM _ _ _ | (with_reducible refine zO _ _ ?_;simp;done) | with_reducible refine zP ?_ | with_reducible refine zN _ ?_ | with_reducible refine zAB (by omega) ?_ | with_reducible refine zAA ?_));obtain ⟨y0,y1,y2,y3,y4⟩:=zQ z14_1;have yF14:=fun j=>Bk.frozen z14_1 j;have yL14:=Bk.lt z14_1;have HB3:=zA (show Below W.heap.size W w3 from zI (by repeat (first | with_reducible exact HB2.out | with_reducible refine zG ?_ _ | with_reducible refine zJ ?_ | with_reducible refine zK ?_ (by first | omega | (simp;done) | (simp;omega)) _)) hbT);have sw3:=HB3.out.size;clear hbT))
                   refine hK.out _ _ (HS.out _ HB3.out) (fun hHeld=>?_)
                   clear hK K
                   try simp only [Act.put,zC,zD,zE]
                   refine wpAnyH_ready (rs:=[16]) (by kernel_rfl) (by simp) ?_
                   refine AllReadyH.cons rfl (fun K hK=>?_) AllReadyH.nil
                   go_simp
                   refine hK.out _ _ (HS.out _ (by repeat (first | with_reducible exact HB3.out | with_reducible refine zG ?_ _ | with_reducible refine zJ ?_ | with_reducible refine zK ?_ (by first | omega | (simp;done) | (simp;omega)) _))) (fun hHeld=>?_)
                   clear hK K
                   try simp only [Act.put,zC,zD,zE]
                   refine wpAnyH_ready (rs:=[17]) (by kernel_rfl) (by simp) ?_
                   refine AllReadyH.cons rfl (fun K hK=>?_) AllReadyH.nil
                   go_simp
                   refine hK.out _ _ (HS.out _ (by repeat (first | with_reducible exact HB3.out | with_reducible refine zG ?_ _ | with_reducible refine zJ ?_ | with_reducible refine zK ?_ (by first | omega | (simp;done) | (simp;omega)) _))) (fun hHeld=>?_)
                   clear hK K
                   try simp only [Act.put,zC,zD,zE]
                   refine wpAnyH_done (by kernel_rfl) ?_ _
                   go_wp2_with fail
                   go_meet
                   refine ⟨w2.heap.size+1,w2.heap.size,rfl,rfl,(by repeat (first | with_reducible exact z14_1 | with_reducible exact zM _ _ _ | (with_reducible refine zO _ _ ?_;simp;done) | with_reducible refine zP ?_ | with_reducible refine zN _ ?_ | with_reducible refine zAB (by omega) ?_ | with_reducible refine zAA ?_)),(by repeat (first | with_reducible exact z15_1 | with_reducible exact zM _ _ _ | (with_reducible refine zO _ _ ?_;simp;done) | with_reducible refine zP ?_ | with_reducible refine zN _ ?_ | with_reducible refine zAB (by omega) ?_ | with_reducible refine zAA ?_)),by omega,by omega,by omega,(by repeat (first | with_reducible exact HB3.out | with_reducible refine zG ?_ _ | with_reducible refine zJ ?_ | with_reducible refine zK ?_ (by first | omega | (simp;done) | (simp;omega)) _))⟩
               ·go_simp
                refine hK.out _ _ (HS.out _ (by repeat (first | with_reducible exact Below.refl _ _ | with_reducible refine zG ?_ _ | with_reducible refine zJ ?_ | with_reducible refine zK ?_ (by first | omega | (simp;done) | (simp;omega)) _))) (fun hHeld=>?_)
                clear hK K
                try simp only [Act.put,zC,zD,zE]
                refine wpAnyH_ready (rs:=[6,15]) (by kernel_rfl) (by simp) ?_
                refine AllReadyH.cons rfl (fun K hK=>?_) (AllReadyH.cons rfl (fun K hK=>?_) AllReadyH.nil)
                ·go_simp
                 go_wp2_with (go_at_call 138;((with_reducible refine (KA.out _ (by repeat (first | with_reducible exact Below.refl _ _ | with_reducible refine zG ?_ _ | with_reducible refine zJ ?_ | with_reducible refine zK ?_ (by first | omega | (simp;done) | (simp;omega)) _))).mono ?_);rintro e w2 ⟨rfl,hbT⟩;have z14_0:Bk w2 (W.heap.size) 54 #[.int .i64 0,.int .i64 0,.int .i64 0,.int .i64 0,.int .i64 0]:=zH hbT (by repeat (first | with_reducible exact zM _ _ _ | (with_reducible refine zO _ _ ?_;simp;done) | with_reducible refine zP ?_ | with_reducible refine zN _ ?_ | with_reducible refine zAB (by omega) ?_ | with_reducible refine zAA ?_));obtain ⟨y0,y1,y2,y3,y4⟩:=zQ z14_0;have yF14:=fun j=>Bk.frozen z14_0 j;have yL14:=Bk.lt z14_0;have HB2:=zA (show Below W.heap.size W w2 from zI (by repeat (first | with_reducible exact Below.refl _ _ | with_reducible refine zG ?_ _ | with_reducible refine zJ ?_ | with_reducible refine zK ?_ (by first | omega | (simp;done) | (simp;omega)) _)) hbT);have sw2:=HB2.out.size;clear hbT))
                 refine hK.out _ _ (HS.out _ HB2.out) (fun hHeld=>?_)
                 clear hK K
                 try simp only [Act.put,zC,zD,zE]
                 refine wpAnyH_ready (rs:=[13,15]) (by kernel_rfl) (by simp) ?_
                 refine AllReadyH.cons rfl (fun K hK=>?_) (AllReadyH.cons rfl (fun K hK=>?_) AllReadyH.nil)
                 ·go_simp
                  go_wp2_with (go_at_call 138;((with_reducible refine (KB.out _ (by repeat (first | with_reducible exact HB2.out | with_reducible refine zG ?_ _ | with_reducible refine zJ ?_ | with_reducible refine zK ?_ (by first | omega | (simp;done) | (simp;omega)) _))).mono ?_);rintro e w3 ⟨rfl,hbT⟩;have z14_1:Bk w3 (W.heap.size) 54 #[.int .i64 0,.int .i64 0,.int .i64 0,.int .i64 0,.int .i64 0]:=zH hbT (by repeat (first | with_reducible exact z14_0 | with_reducible exact zM _ _ _ | (with_reducible refine zO _ _ ?_;simp;done) | with_reducible refine zP ?_ | with_reducible refine zN _ ?_ | with_reducible refine zAB (by omega) ?_ | with_reducible refine zAA ?_));obtain ⟨y0,y1,y2,y3,y4⟩:=zQ z14_1;have yF14:=fun j=>Bk.frozen z14_1 j;have yL14:=Bk.lt z14_1;have HB3:=zA (show Below W.heap.size W w3 from zI (by repeat (first | with_reducible exact HB2.out | with_reducible refine zG ?_ _ | with_reducible refine zJ ?_ | with_reducible refine zK ?_ (by first | omega | (simp;done) | (simp;omega)) _)) hbT);have sw3:=HB3.out.size;clear hbT))
                  refine hK.out _ _ (HS.out _ HB3.out) (fun hHeld=>?_)
                  clear hK K
                  try simp only [Act.put,zC,zD,zE]
                  refine wpAnyH_ready (rs:=[15]) (by kernel_rfl) (by simp) ?_
                  refine AllReadyH.cons rfl (fun K hK=>?_) AllReadyH.nil
                  ·go_simp
                   refine hK.out _ _ (HS.out _ (by repeat (first | with_reducible exact HB3.out | with_reducible refine zG ?_ _ | with_reducible refine zJ ?_ | with_reducible refine zK ?_ (by first | omega | (simp;done) | (simp;omega)) _))) (fun hHeld=>?_)
                   clear hK K
                   try simp only [Act.put,zC,zD,zE]
                   refine wpAnyH_ready (rs:=[16]) (by kernel_rfl) (by simp) ?_
                   refine AllReadyH.cons rfl (fun K hK=>?_) AllReadyH.nil
                   go_simp
                   refine hK.out _ _ (HS.out _ (by repeat (first | with_reducible exact HB3.out | with_reducible refine zG ?_ _ | with_reducible refine zJ ?_ | with_reducible refine zK ?_ (by first | omega | (simp;done) | (simp;omega)) _))) (fun hHeld=>?_)
                   clear hK K
                   try simp only [Act.put,zC,zD,zE]
                   refine wpAnyH_ready (rs:=[17]) (by kernel_rfl) (by simp) ?_
                   refine AllReadyH.cons rfl (fun K hK=>?_) AllReadyH.nil
                   go_simp
                   refine hK.out _ _ (HS.out _ (by repeat (first | with_reducible exact HB3.out | with_reducible refine zG ?_ _ | with_reducible refine zJ ?_ | with_reducible refine zK ?_ (by first | omega | (simp;done) | (simp;omega)) _))) (fun hHeld=>?_)
                   clear hK K
                   try simp only [Act.put,zC,zD,zE]
                   refine wpAnyH_done (by kernel_rfl) ?_ _
                   go_wp2_with fail
                   go_meet
                   refine ⟨W.heap.size,w3.heap.size,rfl,rfl,(by repeat (first | with_reducible exact z14_1 | with_reducible exact zM _ _ _ | (with_reducible refine zO _ _ ?_;simp;done) | with_reducible refine zP ?_ | with_reducible refine zN _ ?_ | with_reducible refine zAB (by omega) ?_ | with_reducible refine zAA ?_)),(by repeat (first | with_reducible exact zM _ _ _ | (with_reducible refine zO _ _ ?_;simp;done) | with_reducible refine zP ?_ | with_reducible refine zN _ ?_ | with_reducible refine zAB (by omega) ?_ | with_reducible refine zAA ?_)),by omega,by omega,by omega,(by repeat (first | with_reducible exact HB3.out | with_reducible refine zG ?_ _ | with_reducible refine zJ ?_ | with_reducible refine zK ?_ (by first | omega | (simp;done) | (simp;omega)) _))⟩
                 ·go_simp
                  refine hK.out _ _ (HS.out _ (by repeat (first | with_reducible exact HB2.out | with_reducible refine zG ?_ _ | with_reducible refine zJ ?_ | with_reducible refine zK ?_ (by first | omega | (simp;done) | (simp;omega)) _))) (fun hHeld=>?_)
                  clear hK K
                  try simp only [Act.put,zC,zD,zE]
                  refine wpAnyH_ready (rs:=[13]) (by kernel_rfl) (by simp) ?_
                  refine AllReadyH.cons rfl (fun K hK=>?_) AllReadyH.nil
                  ·go_simp
                   go_wp2_with (go_at_call 138;((with_reducible refine (KB.out _ (by repeat (first | with_reducible exact HB2.out | with_reducible refine zG ?_ _ | with_reducible refine zJ ?_ | with_reducible refine zK ?_ (by first | omega | (simp;done) | (simp;omega)) _))).mono ?_);rintro e w3 ⟨rfl,hbT⟩;have z14_1:Bk w3 (W.heap.size) 54 #[.int .i64 0,.int .i64 0,.int .i64 0,.int .i64 0,.int .i64 0]:=zH hbT (by repeat (first | with_reducible exact z14_0 | with_reducible exact zM _ _ _ | (with_reducible refine zO _ _ ?_;simp;done) | with_reducible refine zP ?_ | with_reducible refine zN _ ?_ | with_reducible refine zAB (by omega) ?_ | with_reducible refine zAA ?_));obtain ⟨y0,y1,y2,y3,y4⟩:=zQ z14_1;have yF14:=fun j=>Bk.frozen z14_1 j;have yL14:=Bk.lt z14_1;have z15_1:Bk w3 (w2.heap.size) 54 #[.int .i64 0,.int .i64 0,.int .i64 0,.int .i64 0,.int .i64 0]:=zH hbT (by repeat (first | with_reducible exact zM _ _ _ | (with_reducible refine zO _ _ ?_;simp;done) | with_reducible refine zP ?_ | with_reducible refine zN _ ?_ | with_reducible refine zAB (by omega) ?_ | with_reducible refine zAA ?_));obtain ⟨y0,y1,y2,y3,y4⟩:=zQ z15_1;have yF15:=fun j=>Bk.frozen z15_1 j;have yL15:=Bk.lt z15_1;have HB3:=zA (show Below W.heap.size W w3 from zI (by repeat (first | with_reducible exact HB2.out | with_reducible refine zG ?_ _ | with_reducible refine zJ ?_ | with_reducible refine zK ?_ (by first | omega | (simp;done) | (simp;omega)) _)) hbT);have sw3:=HB3.out.size;clear hbT))
                   refine hK.out _ _ (HS.out _ HB3.out) (fun hHeld=>?_)
                   clear hK K
                   try simp only [Act.put,zC,zD,zE]
                   refine wpAnyH_ready (rs:=[16]) (by kernel_rfl) (by simp) ?_
                   refine AllReadyH.cons rfl (fun K hK=>?_) AllReadyH.nil
                   go_simp
                   refine hK.out _ _ (HS.out _ (by repeat (first | with_reducible exact HB3.out | with_reducible refine zG ?_ _ | with_reducible refine zJ ?_ | with_reducible refine zK ?_ (by first | omega | (simp;done) | (simp;omega)) _))) (fun hHeld=>?_)
                   clear hK K
                   try simp only [Act.put,zC,zD,zE]
                   refine wpAnyH_ready (rs:=[17]) (by kernel_rfl) (by simp) ?_
                   refine AllReadyH.cons rfl (fun K hK=>?_) AllReadyH.nil
                   go_simp
                   refine hK.out _ _ (HS.out _ (by repeat (first | with_reducible exact HB3.out | with_reducible refine zG ?_ _ | with_reducible refine zJ ?_ | with_reducible refine zK ?_ (by first | omega | (simp;done) | (simp;omega)) _))) (fun hHeld=>?_)
                   clear hK K
                   try simp only [Act.put,zC,zD,zE]
                   refine wpAnyH_done (by kernel_rfl) ?_ _
                   go_wp2_with fail
                   go_meet
                   refine ⟨W.heap.size,w2.heap.size,rfl,rfl,(by repeat (first | with_reducible exact z14_1 | with_reducible exact zM _ _ _ | (with_reducible refine zO _ _ ?_;simp;done) | with_reducible refine zP ?_ | with_reducible refine zN _ ?_ | with_reducible refine zAB (by omega) ?_ | with_reducible refine zAA ?_)),(by repeat (first | with_reducible exact z15_1 | with_reducible exact zM _ _ _ | (with_reducible refine zO _ _ ?_;simp;done) | with_reducible refine zP ?_ | with_reducible refine zN _ ?_ | with_reducible refine zAB (by omega) ?_ | with_reducible refine zAA ?_)),by omega,by omega,by omega,(by repeat (first | with_reducible exact HB3.out | with_reducible refine zG ?_ _ | with_reducible refine zJ ?_ | with_reducible refine zK ?_ (by first | omega | (simp;done) | (simp;omega)) _))⟩
                ·go_simp
                 refine hK.out _ _ (HS.out _ (by repeat (first | with_reducible exact Below.refl _ _ | with_reducible refine zG ?_ _ | with_reducible refine zJ ?_ | with_reducible refine zK ?_ (by first | omega | (simp;done) | (simp;omega)) _))) (fun hHeld=>?_)
                 clear hK K
                 try simp only [Act.put,zC,zD,zE]
                 refine wpAnyH_ready (rs:=[6]) (by kernel_rfl) (by simp) ?_
                 refine AllReadyH.cons rfl (fun K hK=>?_) AllReadyH.nil
                 ·go_simp
                  go_wp2_with (go_at_call 138;((with_reducible refine (KA.out _ (by repeat (first | with_reducible exact Below.refl _ _ | with_reducible refine zG ?_ _ | with_reducible refine zJ ?_ | with_reducible refine zK ?_ (by first | omega | (simp;done) | (simp;omega)) _))).mono ?_);rintro e w2 ⟨rfl,hbT⟩;have z14_0:Bk w2 (W.heap.size) 54 #[.int .i64 0,.int .i64 0,.int .i64 0,.int .i64 0,.int .i64 0]:=zH hbT (by repeat (first | with_reducible exact zM _ _ _ | (with_reducible refine zO _ _ ?_;simp;done) | with_reducible refine zP ?_ | with_reducible refine zN _ ?_ | with_reducible refine zAB (by omega) ?_ | with_reducible refine zAA ?_));obtain ⟨y0,y1,y2,y3,y4⟩:=zQ z14_0;have yF14:=fun j=>Bk.frozen z14_0 j;have yL14:=Bk.lt z14_0;have z15_0:Bk w2 (W.heap.size+1) 54 #[.int .i64 0,.int .i64 0,.int .i64 0,.int .i64 0,.int .i64 0]:=zH hbT (by repeat (first | with_reducible exact zM _ _ _ | (with_reducible refine zO _ _ ?_;simp;done) | with_reducible refine zP ?_ | with_reducible refine zN _ ?_ | with_reducible refine zAB (by omega) ?_ | with_reducible refine zAA ?_));obtain ⟨y0,y1,y2,y3,y4⟩:=zQ z15_0;have yF15:=fun j=>Bk.frozen z15_0 j;have yL15:=Bk.lt z15_0;have HB2:=zA (show Below W.heap.size W w2 from zI (by repeat (first | with_reducible exact Below.refl _ _ | with_reducible refine zG ?_ _ | with_reducible refine zJ ?_ | with_reducible refine zK ?_ (by first | omega | (simp;done) | (simp;omega)) _)) hbT);have sw2:=HB2.out.size;clear hbT))
                  refine hK.out _ _ (HS.out _ HB2.out) (fun hHeld=>?_)
                  clear hK K
                  try simp only [Act.put,zC,zD,zE]
                  refine wpAnyH_ready (rs:=[13]) (by kernel_rfl) (by simp) ?_
                  refine AllReadyH.cons rfl (fun K hK=>?_) AllReadyH.nil
                  ·go_simp
                   go_wp2_with (go_at_call 138;((with_reducible refine (KB.out _ (by repeat (first | with_reducible exact HB2.out | with_reducible refine zG ?_ _ | with_reducible refine zJ ?_ | with_reducible refine zK ?_ (by first | omega | (simp;done) | (simp;omega)) _))).mono ?_);rintro e w3 ⟨rfl,hbT⟩;have z14_1:Bk w3 (W.heap.size) 54 #[.int .i64 0,.int .i64 0,.int .i64 0,.int .i64 0,.int .i64 0]:=zH hbT (by repeat (first | with_reducible exact z14_0 | with_reducible exact zM _ _ _ | (with_reducible refine zO _ _ ?_;simp;done) | with_reducible refine zP ?_ | with_reducible refine zN _ ?_ | with_reducible refine zAB (by omega) ?_ | with_reducible refine zAA ?_));obtain ⟨y0,y1,y2,y3,y4⟩:=zQ z14_1;have yF14:=fun j=>Bk.frozen z14_1 j;have yL14:=Bk.lt z14_1;have z15_1:Bk w3 (W.heap.size+1) 54 #[.int .i64 0,.int .i64 0,.int .i64 0,.int .i64 0,.int .i64 0]:=zH hbT (by repeat (first | with_reducible exact z15_0 | with_reducible exact zM _ _ _ | (with_reducible refine zO _ _ ?_;simp;done) | with_reducible refine zP ?_ | with_reducible refine zN _ ?_ | with_reducible refine zAB (by omega) ?_ | with_reducible refine zAA ?_));obtain ⟨y0,y1,y2,y3,y4⟩:=zQ z15_1;have yF15:=fun j=>Bk.frozen z15_1 j;have yL15:=Bk.lt z15_1;have HB3:=zA (show Below W.heap.size W w3 from zI (by repeat (first | with_reducible exact HB2.out | with_reducible refine zG ?_ _ | with_reducible refine zJ ?_ | with_reducible refine zK ?_ (by first | omega | (simp;done) | (simp;omega)) _)) hbT);have sw3:=HB3.out.size;clear hbT))
                   refine hK.out _ _ (HS.out _ HB3.out) (fun hHeld=>?_)
                   clear hK K
                   try simp only [Act.put,zC,zD,zE]
                   refine wpAnyH_ready (rs:=[16]) (by kernel_rfl) (by simp) ?_
                   refine AllReadyH.cons rfl (fun K hK=>?_) AllReadyH.nil
                   go_simp
                   refine hK.out _ _ (HS.out _ (by repeat (first | with_reducible exact HB3.out | with_reducible refine zG ?_ _ | with_reducible refine zJ ?_ | with_reducible refine zK ?_ (by first | omega | (simp;done) | (simp;omega)) _))) (fun hHeld=>?_)
                   clear hK K
                   try simp only [Act.put,zC,zD,zE]
                   refine wpAnyH_ready (rs:=[17]) (by kernel_rfl) (by simp) ?_
                   refine AllReadyH.cons rfl (fun K hK=>?_) AllReadyH.nil
                   go_simp
                   refine hK.out _ _ (HS.out _ (by repeat (first | with_reducible exact HB3.out | with_reducible refine zG ?_ _ | with_reducible refine zJ ?_ | with_reducible refine zK ?_ (by first | omega | (simp;done) | (simp;omega)) _))) (fun hHeld=>?_)
                   clear hK K
                   try simp only [Act.put,zC,zD,zE]
                   refine wpAnyH_done (by kernel_rfl) ?_ _
                   go_wp2_with fail
                   go_meet
                   refine ⟨W.heap.size,W.heap.size+1,rfl,rfl,(by repeat (first | with_reducible exact z14_1 | with_reducible exact zM _ _ _ | (with_reducible refine zO _ _ ?_;simp;done) | with_reducible refine zP ?_ | with_reducible refine zN _ ?_ | with_reducible refine zAB (by omega) ?_ | with_reducible refine zAA ?_)),(by repeat (first | with_reducible exact z15_1 | with_reducible exact zM _ _ _ | (with_reducible refine zO _ _ ?_;simp;done) | with_reducible refine zP ?_ | with_reducible refine zN _ ?_ | with_reducible refine zAB (by omega) ?_ | with_reducible refine zAA ?_)),by omega,by omega,by omega,(by repeat (first | with_reducible exact HB3.out | with_reducible refine zG ?_ _ | with_reducible refine zJ ?_ | with_reducible refine zK ?_ (by first | omega | (simp;done) | (simp;omega)) _))⟩
               ·go_simp
                refine hK.out _ _ (HS.out _ (by repeat (first | with_reducible exact Below.refl _ _ | with_reducible refine zG ?_ _ | with_reducible refine zJ ?_ | with_reducible refine zK ?_ (by first | omega | (simp;done) | (simp;omega)) _))) (fun hHeld=>?_)
                clear hK K
                try simp only [Act.put,zC,zD,zE]
                refine wpAnyH_ready (rs:=[6,14]) (by kernel_rfl) (by simp) ?_
                refine AllReadyH.cons rfl (fun K hK=>?_) (AllReadyH.cons rfl (fun K hK=>?_) AllReadyH.nil)
                ·go_simp
                 go_wp2_with (go_at_call 138;((with_reducible refine (KA.out _ (by repeat (first | with_reducible exact Below.refl _ _ | with_reducible refine zG ?_ _ | with_reducible refine zJ ?_ | with_reducible refine zK ?_ (by first | omega | (simp;done) | (simp;omega)) _))).mono ?_);rintro e w2 ⟨rfl,hbT⟩;have z15_0:Bk w2 (W.heap.size) 54 #[.int .i64 0,.int .i64 0,.int .i64 0,.int .i64 0,.int .i64 0]:=zH hbT (by repeat (first | with_reducible exact zM _ _ _ | (with_reducible refine zO _ _ ?_;simp;done) | with_reducible refine zP ?_ | with_reducible refine zN _ ?_ | with_reducible refine zAB (by omega) ?_ | with_reducible refine zAA ?_));obtain ⟨y0,y1,y2,y3,y4⟩:=zQ z15_0;have yF15:=fun j=>Bk.frozen z15_0 j;have yL15:=Bk.lt z15_0;have HB2:=zA (show Below W.heap.size W w2 from zI (by repeat (first | with_reducible exact Below.refl _ _ | with_reducible refine zG ?_ _ | with_reducible refine zJ ?_ | with_reducible refine zK ?_ (by first | omega | (simp;done) | (simp;omega)) _)) hbT);have sw2:=HB2.out.size;clear hbT))
                 refine hK.out _ _ (HS.out _ HB2.out) (fun hHeld=>?_)
                 clear hK K
                 try simp only [Act.put,zC,zD,zE]
                 refine wpAnyH_ready (rs:=[13,14]) (by kernel_rfl) (by simp) ?_
                 refine AllReadyH.cons rfl (fun K hK=>?_) (AllReadyH.cons rfl (fun K hK=>?_) AllReadyH.nil)
                 ·go_simp
                  go_wp2_with (go_at_call 138;((with_reducible refine (KB.out _ (by repeat (first | with_reducible exact HB2.out | with_reducible refine zG ?_ _ | with_reducible refine zJ ?_ | with_reducible refine zK ?_ (by first | omega | (simp;done) | (simp;omega)) _))).mono ?_);rintro e w3 ⟨rfl,hbT⟩;have z15_1:Bk w3 (W.heap.size) 54 #[.int .i64 0,.int .i64 0,.int .i64 0,.int .i64 0,.int .i64 0]:=zH hbT (by repeat (first | with_reducible exact z15_0 | with_reducible exact zM _ _ _ | (with_reducible refine zO _ _ ?_;simp;done) | with_reducible refine zP ?_ | with_reducible refine zN _ ?_ | with_reducible refine zAB (by omega) ?_ | with_reducible refine zAA ?_));obtain ⟨y0,y1,y2,y3,y4⟩:=zQ z15_1;have yF15:=fun j=>Bk.frozen z15_1 j;have yL15:=Bk.lt z15_1;have HB3:=zA (show Below W.heap.size W w3 from zI (by repeat (first | with_reducible exact HB2.out | with_reducible refine zG ?_ _ | with_reducible refine zJ ?_ | with_reducible refine zK ?_ (by first | omega | (simp;done) | (simp;omega)) _)) hbT);have sw3:=HB3.out.size;clear hbT))
                  refine hK.out _ _ (HS.out _ HB3.out) (fun hHeld=>?_)
                  clear hK K
                  try simp only [Act.put,zC,zD,zE]
                  refine wpAnyH_ready (rs:=[14]) (by kernel_rfl) (by simp) ?_
                  refine AllReadyH.cons rfl (fun K hK=>?_) AllReadyH.nil
                  ·go_simp
                   refine hK.out _ _ (HS.out _ (by repeat (first | with_reducible exact HB3.out | with_reducible refine zG ?_ _ | with_reducible refine zJ ?_ | with_reducible refine zK ?_ (by first | omega | (simp;done) | (simp;omega)) _))) (fun hHeld=>?_)
                   clear hK K
                   try simp only [Act.put,zC,zD,zE]
                   refine wpAnyH_ready (rs:=[16]) (by kernel_rfl) (by simp) ?_
                   refine AllReadyH.cons rfl (fun K hK=>?_) AllReadyH.nil
                   go_simp
                   refine hK.out _ _ (HS.out _ (by repeat (first | with_reducible exact HB3.out | with_reducible refine zG ?_ _ | with_reducible refine zJ ?_ | with_reducible refine zK ?_ (by first | omega | (simp;done) | (simp;omega)) _))) (fun hHeld=>?_)
                   clear hK K
                   try simp only [Act.put,zC,zD,zE]
                   refine wpAnyH_ready (rs:=[17]) (by kernel_rfl) (by simp) ?_
                   refine AllReadyH.cons rfl (fun K hK=>?_) AllReadyH.nil
                   go_simp
                   refine hK.out _ _ (HS.out _ (by repeat (first | with_reducible exact HB3.out | with_reducible refine zG ?_ _ | with_reducible refine zJ ?_ | with_reducible refine zK ?_ (by first | omega | (simp;done) | (simp;omega)) _))) (fun hHeld=>?_)
                   clear hK K
                   try simp only [Act.put,zC,zD,zE]
                   refine wpAnyH_done (by kernel_rfl) ?_ _
                   go_wp2_with fail
                   go_meet
                   refine ⟨w3.heap.size,W.heap.size,rfl,rfl,(by repeat (first | with_reducible exact zM _ _ _ | (with_reducible refine zO _ _ ?_;simp;done) | with_reducible refine zP ?_ | with_reducible refine zN _ ?_ | with_reducible refine zAB (by omega) ?_ | with_reducible refine zAA ?_)),(by repeat (first | with_reducible exact z15_1 | with_reducible exact zM _ _ _ | (with_reducible refine zO _ _ ?_;simp;done) | with_reducible refine zP ?_ | with_reducible refine zN _ ?_ | with_reducible refine zAB (by omega) ?_ | with_reducible refine zAA ?_)),by omega,by omega,by omega,(by repeat (first | with_reducible exact HB3.out | with_reducible refine zG ?_ _ | with_reducible refine zJ ?_ | with_reducible refine zK ?_ (by first | omega | (simp;done) | (simp;omega)) _))⟩
                 ·go_simp
                  refine hK.out _ _ (HS.out _ (by repeat (first | with_reducible exact HB2.out | with_reducible refine zG ?_ _ | with_reducible refine zJ ?_ | with_reducible refine zK ?_ (by first | omega | (simp;done) | (simp;omega)) _))) (fun hHeld=>?_)
                  clear hK K
                  try simp only [Act.put,zC,zD,zE]
                  refine wpAnyH_ready (rs:=[13]) (by kernel_rfl) (by simp) ?_
                  refine AllReadyH.cons rfl (fun K hK=>?_) AllReadyH.nil
                  ·go_simp
                   go_wp2_with (go_at_call 138;((with_reducible refine (KB.out _ (by repeat (first | with_reducible exact HB2.out | with_reducible refine zG ?_ _ | with_reducible refine zJ ?_ | with_reducible refine zK ?_ (by first | omega | (simp;done) | (simp;omega)) _))).mono ?_);rintro e w3 ⟨rfl,hbT⟩;have z15_1:Bk w3 (W.heap.size) 54 #[.int .i64 0,.int .i64 0,.int .i64 0,.int .i64 0,.int .i64 0]:=zH hbT (by repeat (first | with_reducible exact z15_0 | with_reducible exact zM _ _ _ | (with_reducible refine zO _ _ ?_;simp;done) | with_reducible refine zP ?_ | with_reducible refine zN _ ?_ | with_reducible refine zAB (by omega) ?_ | with_reducible refine zAA ?_));obtain ⟨y0,y1,y2,y3,y4⟩:=zQ z15_1;have yF15:=fun j=>Bk.frozen z15_1 j;have yL15:=Bk.lt z15_1;have z14_1:Bk w3 (w2.heap.size) 54 #[.int .i64 0,.int .i64 0,.int .i64 0,.int .i64 0,.int .i64 0]:=zH hbT (by repeat (first | with_reducible exact zM _ _ _ | (with_reducible refine zO _ _ ?_;simp;done) | with_reducible refine zP ?_ | with_reducible refine zN _ ?_ | with_reducible refine zAB (by omega) ?_ | with_reducible refine zAA ?_));obtain ⟨y0,y1,y2,y3,y4⟩:=zQ z14_1;have yF14:=fun j=>Bk.frozen z14_1 j;have yL14:=Bk.lt z14_1;have HB3:=zA (show Below W.heap.size W w3 from zI (by repeat (first | with_reducible exact HB2.out | with_reducible refine zG ?_ _ | with_reducible refine zJ ?_ | with_reducible refine zK ?_ (by first | omega | (simp;done) | (simp;omega)) _)) hbT);have sw3:=HB3.out.size;clear hbT))
                   refine hK.out _ _ (HS.out _ HB3.out) (fun hHeld=>?_)
                   clear hK K
                   try simp only [Act.put,zC,zD,zE]
                   refine wpAnyH_ready (rs:=[16]) (by kernel_rfl) (by simp) ?_
                   refine AllReadyH.cons rfl (fun K hK=>?_) AllReadyH.nil
                   go_simp
                   refine hK.out _ _ (HS.out _ (by repeat (first | with_reducible exact HB3.out | with_reducible refine zG ?_ _ | with_reducible refine zJ ?_ | with_reducible refine zK ?_ (by first | omega | (simp;done) | (simp;omega)) _))) (fun hHeld=>?_)
                   clear hK K
                   try simp only [Act.put,zC,zD,zE]
                   refine wpAnyH_ready (rs:=[17]) (by kernel_rfl) (by simp) ?_
                   refine AllReadyH.cons rfl (fun K hK=>?_) AllReadyH.nil
                   go_simp
                   refine hK.out _ _ (HS.out _ (by repeat (first | with_reducible exact HB3.out | with_reducible refine zG ?_ _ | with_reducible refine zJ ?_ | with_reducible refine zK ?_ (by first | omega | (simp;done) | (simp;omega)) _))) (fun hHeld=>?_)
                   clear hK K
                   try simp only [Act.put,zC,zD,zE]
                   refine wpAnyH_done (by kernel_rfl) ?_ _
                   go_wp2_with fail
                   go_meet
                   refine ⟨w2.heap.size,W.heap.size,rfl,rfl,(by repeat (first | with_reducible exact z14_1 | with_reducible exact zM _ _ _ | (with_reducible refine zO _ _ ?_;simp;done) | with_reducible refine zP ?_ | with_reducible refine zN _ ?_ | with_reducible refine zAB (by omega) ?_ | with_reducible refine zAA ?_)),(by repeat (first | with_reducible exact z15_1 | with_reducible exact zM _ _ _ | (with_reducible refine zO _ _ ?_;simp;done) | with_reducible refine zP ?_ | with_reducible refine zN _ ?_ | with_reducible refine zAB (by omega) ?_ | with_reducible refine zAA ?_)),by omega,by omega,by omega,(by repeat (first | with_reducible exact HB3.out | with_reducible refine zG ?_ _ | with_reducible refine zJ ?_ | with_reducible refine zK ?_ (by first | omega | (simp;done) | (simp;omega)) _))⟩
                ·go_simp
                 refine hK.out _ _ (HS.out _ (by repeat (first | with_reducible exact Below.refl _ _ | with_reducible refine zG ?_ _ | with_reducible refine zJ ?_ | with_reducible refine zK ?_ (by first | omega | (simp;done) | (simp;omega)) _))) (fun hHeld=>?_)
                 clear hK K
                 try simp only [Act.put,zC,zD,zE]
                 refine wpAnyH_ready (rs:=[6]) (by kernel_rfl) (by simp) ?_
                 refine AllReadyH.cons rfl (fun K hK=>?_) AllReadyH.nil
                 ·go_simp
                  go_wp2_with (go_at_call 138;((with_reducible refine (KA.out _ (by repeat (first | with_reducible exact Below.refl _ _ | with_reducible refine zG ?_ _ | with_reducible refine zJ ?_ | with_reducible refine zK ?_ (by first | omega | (simp;done) | (simp;omega)) _))).mono ?_);rintro e w2 ⟨rfl,hbT⟩;have z15_0:Bk w2 (W.heap.size) 54 #[.int .i64 0,.int .i64 0,.int .i64 0,.int .i64 0,.int .i64 0]:=zH hbT (by repeat (first | with_reducible exact zM _ _ _ | (with_reducible refine zO _ _ ?_;simp;done) | with_reducible refine zP ?_ | with_reducible refine zN _ ?_ | with_reducible refine zAB (by omega) ?_ | with_reducible refine zAA ?_));obtain ⟨y0,y1,y2,y3,y4⟩:=zQ z15_0;have yF15:=fun j=>Bk.frozen z15_0 j;have yL15:=Bk.lt z15_0;have z14_0:Bk w2 (W.heap.size+1) 54 #[.int .i64 0,.int .i64 0,.int .i64 0,.int .i64 0,.int .i64 0]:=zH hbT (by repeat (first | with_reducible exact zM _ _ _ | (with_reducible refine zO _ _ ?_;simp;done) | with_reducible refine zP ?_ | with_reducible refine zN _ ?_ | with_reducible refine zAB (by omega) ?_ | with_reducible refine zAA ?_));obtain ⟨y0,y1,y2,y3,y4⟩:=zQ z14_0;have yF14:=fun j=>Bk.frozen z14_0 j;have yL14:=Bk.lt z14_0;have HB2:=zA (show Below W.heap.size W w2 from zI (by repeat (first | with_reducible exact Below.refl _ _ | with_reducible refine zG ?_ _ | with_reducible refine zJ ?_ | with_reducible refine zK ?_ (by first | omega | (simp;done) | (simp;omega)) _)) hbT);have sw2:=HB2.out.size;clear hbT))
                  refine hK.out _ _ (HS.out _ HB2.out) (fun hHeld=>?_)
                  clear hK K
                  try simp only [Act.put,zC,zD,zE]
                  refine wpAnyH_ready (rs:=[13]) (by kernel_rfl) (by simp) ?_
                  refine AllReadyH.cons rfl (fun K hK=>?_) AllReadyH.nil
                  ·go_simp
                   go_wp2_with (go_at_call 138;((with_reducible refine (KB.out _ (by repeat (first | with_reducible exact HB2.out | with_reducible refine zG ?_ _ | with_reducible refine zJ ?_ | with_reducible refine zK ?_ (by first | omega | (simp;done) | (simp;omega)) _))).mono ?_);rintro e w3 ⟨rfl,hbT⟩;have z15_1:Bk w3 (W.heap.size) 54 #[.int .i64 0,.int .i64 0,.int .i64 0,.int .i64 0,.int .i64 0]:=zH hbT (by repeat (first | with_reducible exact z15_0 | with_reducible exact zM _ _ _ | (with_reducible refine zO _ _ ?_;simp;done) | with_reducible refine zP ?_ | with_reducible refine zN _ ?_ | with_reducible refine zAB (by omega) ?_ | with_reducible refine zAA ?_));obtain ⟨y0,y1,y2,y3,y4⟩:=zQ z15_1;have yF15:=fun j=>Bk.frozen z15_1 j;have yL15:=Bk.lt z15_1;have z14_1:Bk w3 (W.heap.size+1) 54 #[.int .i64 0,.int .i64 0,.int .i64 0,.int .i64 0,.int .i64 0]:=zH hbT (by repeat (first | with_reducible exact z14_0 | with_reducible exact zM _ _ _ | (with_reducible refine zO _ _ ?_;simp;done) | with_reducible refine zP ?_ | with_reducible refine zN _ ?_ | with_reducible refine zAB (by omega) ?_ | with_reducible refine zAA ?_));obtain ⟨y0,y1,y2,y3,y4⟩:=zQ z14_1;have yF14:=fun j=>Bk.frozen z14_1 j;have yL14:=Bk.lt z14_1;have HB3:=zA (show Below W.heap.size W w3 from zI (by repeat (first | with_reducible exact HB2.out | with_reducible refine zG ?_ _ | with_reducible refine zJ ?_ | with_reducible refine zK ?_ (by first | omega | (simp;done) | (simp;omega)) _)) hbT);have sw3:=HB3.out.size;clear hbT))
                   refine hK.out _ _ (HS.out _ HB3.out) (fun hHeld=>?_)
                   clear hK K
                   try simp only [Act.put,zC,zD,zE]
                   refine wpAnyH_ready (rs:=[16]) (by kernel_rfl) (by simp) ?_
                   refine AllReadyH.cons rfl (fun K hK=>?_) AllReadyH.nil
                   go_simp
                   refine hK.out _ _ (HS.out _ (by repeat (first | with_reducible exact HB3.out | with_reducible refine zG ?_ _ | with_reducible refine zJ ?_ | with_reducible refine zK ?_ (by first | omega | (simp;done) | (simp;omega)) _))) (fun hHeld=>?_)
                   clear hK K
                   try simp only [Act.put,zC,zD,zE]
                   refine wpAnyH_ready (rs:=[17]) (by kernel_rfl) (by simp) ?_
                   refine AllReadyH.cons rfl (fun K hK=>?_) AllReadyH.nil
                   go_simp
                   refine hK.out _ _ (HS.out _ (by repeat (first | with_reducible exact HB3.out | with_reducible refine zG ?_ _ | with_reducible refine zJ ?_ | with_reducible refine zK ?_ (by first | omega | (simp;done) | (simp;omega)) _))) (fun hHeld=>?_)
                   clear hK K
                   try simp only [Act.put,zC,zD,zE]
                   refine wpAnyH_done (by kernel_rfl) ?_ _
                   go_wp2_with fail
                   go_meet
                   refine ⟨W.heap.size+1,W.heap.size,rfl,rfl,(by repeat (first | with_reducible exact z14_1 | with_reducible exact zM _ _ _ | (with_reducible refine zO _ _ ?_;simp;done) | with_reducible refine zP ?_ | with_reducible refine zN _ ?_ | with_reducible refine zAB (by omega) ?_ | with_reducible refine zAA ?_)),(by repeat (first | with_reducible exact z15_1 | with_reducible exact zM _ _ _ | (with_reducible refine zO _ _ ?_;simp;done) | with_reducible refine zP ?_ | with_reducible refine zN _ ?_ | with_reducible refine zAB (by omega) ?_ | with_reducible refine zAA ?_)),by omega,by omega,by omega,(by repeat (first | with_reducible exact HB3.out | with_reducible refine zG ?_ _ | with_reducible refine zJ ?_ | with_reducible refine zK ?_ (by first | omega | (simp;done) | (simp;omega)) _))⟩
 case rest =>
  obtain ⟨g2,g3,rfl,rfl,kA,kB,hg2,hg3,hne,hbw⟩:=hcut
  have hmc:=HM.out.below hbw
  have hsc:=zH hbw HSB.out
  obtain ⟨s0,s1,s2,s3,s4⟩:=zR hsc
  obtain ⟨m56,m57,m58,m59,m60,m61,m62,m63⟩:=zAx hmc
  obtain ⟨c0,c1,c2,c3,c4,c5,c6⟩:=zC1 hmc
  obtain ⟨x0,x1,x2,x3,x4⟩:=zQ kA
  obtain ⟨y0,y1,y2,y3,y4⟩:=zQ kB
  have sLc:=hsc.lt
  have mLc:=hmc.mB.lt
  have xL:=kA.lt
  have yL:=kB.lt
  have HMC:=zA hmc
  have HSC:=zA hsc
  have HBW:=zA hbw
  have KAB:=zA kA
  have KBB:=zA kB
  have hr:=HR.out
  have hand1:bits .and .i64 ap 4=zAM ap 4:=zBq ap 4
  have hand2:bits .and .i64 bp 4=zAM bp 4:=zBq bp 4
  generalize zAM ap 4=ta at *
  generalize zAM bp 4=tb at *
  clear hmc hsc hbw kA kB
  have fin:∀ k,Thrown k wc (.panicked (zAj k)) wc→StepPost base gm vm (.slice sa m.stk.length sc) vo m W (.error k) (.panicked (zAj k)) wc:=fun k h=>StepPost.of HBW.out (h.step HMC.out)
  have FIN:=zA fin
  clear fin
  by_cases t1:as_=0∨as_≠bs
  ·rw [if_pos t1] at hr
   subst hr
   by_cases t2:as_=0
   ·have g1:(as_==0)=true:=by simpa using t2
    clear t1 t2
    go_wp2_with (go_at_call 107;((with_reducible refine (zAv 11 (by decide) _).mono ?_);rintro e w' ⟨rfl,rfl⟩))
    exact ⟨rfl,FIN.out 11 ⟨rfl,Below.refl _ _⟩⟩
   ·have g1:(as_==0)=false:=by simpa using t2
    have g2':(as_ != bs)=true:=by rcases t1 with h | h;exact absurd h t2;simpa using h
    clear t1 t2
    go_wp2_with (go_at_call 107;((with_reducible refine (zAv 11 (by decide) _).mono ?_);rintro e w' ⟨rfl,rfl⟩))
    exact ⟨rfl,FIN.out 11 ⟨rfl,Below.refl _ _⟩⟩
  ·rw [if_neg t1] at hr
   have g1:(as_==0)=false:=by simp;omega
   have g2':(as_ != bs)=false:=by simp;omega
   clear t1
   by_cases t3:ta=0∨tb≠0
   ·rw [if_pos t3] at hr
    subst hr
    by_cases t4:ta=0
    ·have g3':(ta==0)=true:=by simpa using t4
     clear t3 t4
     go_wp2_with (go_at_call 107;((with_reducible refine (zAv 12 (by decide) _).mono ?_);rintro e w' ⟨rfl,rfl⟩))
     exact ⟨rfl,FIN.out 12 ⟨rfl,Below.refl _ _⟩⟩
    ·have g3':(ta==0)=false:=by simpa using t4
     have g4':(tb != 0)=true:=by rcases t3 with h | h;exact absurd h t4;simpa using h
     clear t3 t4
     go_wp2_with (go_at_call 107;((with_reducible refine (zAv 12 (by decide) _).mono ?_);rintro e w' ⟨rfl,rfl⟩))
     exact ⟨rfl,FIN.out 12 ⟨rfl,Below.refl _ _⟩⟩
   ·rw [if_neg t3] at hr
    have g3':(ta==0)=false:=by simp;omega
    have g4':(tb != 0)=false:=by simp;omega
    clear t3
    by_cases t5:m.stk.length=16
    ·rw [if_pos t5] at hr
     subst hr
     have g5':((m.stk.length:Int)==16)=true:=by rw [t5];rfl
     clear t5
     go_wp2_with (go_at_call 107;((with_reducible refine (zAv 9 (by decide) _).mono ?_);rintro e w' ⟨rfl,rfl⟩))
     exact ⟨rfl,FIN.out 9 ⟨rfl,Below.refl _ _⟩⟩
    ·rw [if_neg t5] at hr
     have g5':((m.stk.length:Int)==16)=false:=by simp;omega
     have hl15:m.stk.length≤15:=by omega
     have HRR:=zA hr
     clear t5 FIN hr
     go_upto_region 7 with (fail)
     go_region
     go_upto_region 9 with (fail)
     obtain ⟨w9,hw9⟩:∃ w9,w9=(wc.alloc (.cells #[.int .i64 m.c.perm,.int .i64 m.c.base,.int .i64 m.c.len,.int .i64 (m.c.at_+1),.int .i64 m.c.seal_,.bool (m.reg 7).is,.int .i64 (m.reg 7).n,.int .i64 (m.reg 7).k.perm,.int .i64 (m.reg 7).k.base,.int .i64 (m.reg 7).k.len,.int .i64 (m.reg 7).k.at_,.int .i64 (m.reg 7).k.seal_] 156)).drew:=⟨_,rfl⟩
     have hc9:Below wc.heap.size wc w9:=by rw [hw9];exact zJ (zG (Below.refl _ _) _)
     have kf9:Bk w9 wc.heap.size 156 #[.int .i64 m.c.perm,.int .i64 m.c.base,.int .i64 m.c.len,.int .i64 (m.c.at_+1),.int .i64 m.c.seal_,.bool (m.reg 7).is,.int .i64 (m.reg 7).n,.int .i64 (m.reg 7).k.perm,.int .i64 (m.reg 7).k.base,.int .i64 (m.reg 7).k.len,.int .i64 (m.reg 7).k.at_,.int .i64 (m.reg 7).k.seal_]:=by rw [hw9];exact zP (zM _ _ _)
     have hz9:w9.heap.size=wc.heap.size+1:=by rw [hw9];simp [World.drew]
     have hm9:=HMC.out.below hc9
     have hs9:=zH hc9 HSC.out
     have ka9:=zH hc9 KAB.out
     have kb9:=zH hc9 KBB.out
     rw [←hw9]
     clear s0 s1 s2 s3 s4 m56 m57 m58 m59 m60 m61 m62 m63 c0 c1 c2 c3 c4 c5 c6 x0 x1 x2 x3 x4 y0 y1 y2 y3 y4 sLc mLc xL yL hw9
     obtain ⟨i0,hi0,hz0,hz1,hz2⟩:=info_parts zF4
     have hown1:=(zBw (α:=FrameV) (xs:=[(⟨{m.c with at_:=m.c.at_+1},m.reg 7⟩:FrameV)]) w9 156 0 (Nat.zero_le _) #[.int .i64 m.c.perm,.int .i64 m.c.base,.int .i64 m.c.len,.int .i64 (m.c.at_+1),.int .i64 m.c.seal_,.bool (m.reg 7).is,.int .i64 (m.reg 7).n,.int .i64 (m.reg 7).k.perm,.int .i64 (m.reg 7).k.base,.int .i64 (m.reg 7).k.len,.int .i64 (m.reg 7).k.at_,.int .i64 (m.reg 7).k.seal_] 1 rfl (by decide) rfl).drew
     obtain ⟨ao1,cap1,e1,hsl1,e4⟩:=hown1.sl
     clear e4
     injection e1 with e1 e2 e3
     subst e1
     clear e2 e3
     have hm9a:=(hm9.below (zG (Below.refl _ _) (.cells #[.int .i64 m.c.perm,.int .i64 m.c.base,.int .i64 m.c.len,.int .i64 (m.c.at_+1),.int .i64 m.c.seal_,.bool (m.reg 7).is,.int .i64 (m.reg 7).n,.int .i64 (m.reg 7).k.perm,.int .i64 (m.reg 7).k.base,.int .i64 (m.reg 7).k.len,.int .i64 (m.reg 7).k.at_,.int .i64 (m.reg 7).k.seal_] 156))).drew'
     have hbs9:base≤((w9.alloc (.cells #[.int .i64 m.c.perm,.int .i64 m.c.base,.int .i64 m.c.len,.int .i64 (m.c.at_+1),.int .i64 m.c.seal_,.bool (m.reg 7).is,.int .i64 (m.reg 7).n,.int .i64 (m.reg 7).k.perm,.int .i64 (m.reg 7).k.base,.int .i64 (m.reg 7).k.len,.int .i64 (m.reg 7).k.at_,.int .i64 (m.reg 7).k.seal_] 156)).drew).heap.size:=by have:=HBW.out.size;simp [World.drew];omega
     obtain ⟨v',w',hr1,ho',hg',hblk⟩:=zBS (P:=Tryz.prog) ((w9.alloc (.cells #[.int .i64 m.c.perm,.int .i64 m.c.base,.int .i64 m.c.len,.int .i64 (m.c.at_+1),.int .i64 m.c.seal_,.bool (m.reg 7).is,.int .i64 (m.reg 7).n,.int .i64 (m.reg 7).k.perm,.int .i64 (m.reg 7).k.base,.int .i64 (m.reg 7).k.len,.int .i64 (m.reg 7).k.at_,.int .i64 (m.reg 7).k.seal_] 156)).drew) base 58 58 156 i0 _ 96 Tryz.underlying58 hi0 hz0 hz1 hz2 rfl (.slice sa m.stk.length sc) m.stk hm9a.os (some ⟨w9.heap.size,0,none⟩) 1 1 [(⟨{m.c with at_:=m.c.at_+1},m.reg 7⟩:FrameV)] hsl1 (by unfold maxLen;omega) (by omega) hbs9
     obtain ⟨vao,vcap,ev,hvx,hvy⟩:=ho'.sl
     rw [List.length_append,List.length_singleton] at ev
     subst ev
     clear hvx hvy
     have hap:=hm9a.appendStk hg' ho'
     have hlt:=fun k (e:(Value.slice sa m.stk.length sc).ownBlock=some k)=>(zB0 HMC.out.os e).2
     have hbk:∀ {g:Nat} {T:TypeId} {cs:Array Value},Bk w9 g T cs→(Value.slice sa m.stk.length sc).ownBlock≠some g→Bk w' g T cs:=fun {g T cs} hb hn=>(hg'.block g (by have:=hb.lt;simp [World.drew];omega) (fun e=>hn e.symm)).trans (zP (zN _ hb))
     have ka':=hbk ka9 (zBZ hm9.os ka9 (by decide))
     have kb':=hbk kb9 (zBZ hm9.os kb9 (by decide))
     have hs':=hbk hs9 (zBZ hm9.os hs9 (by decide))
     have hM':=hbk hm9.mB (zBZ hm9.os hm9.mB (by decide))
     have c62':w'.cell? ⟨gm,62,none⟩=some (.slice sa m.stk.length sc):=(hM'.cell 62).trans (zAU hm9.h8 6)
     have mF':=fun j=>hM'.frozen j
     have mL':=hM'.lt
     obtain ⟨m56,m57,m58,m59,m60,m61,m62,m63⟩:=zAx hm9
     have s0:=hs9.cell 0
     simp only [zS,List.getElem?_toArray,List.getElem?_cons_zero] at s0
     have b0:=kf9.cell 0
     have b1:=kf9.cell 1
     have b2:=kf9.cell 2
     have b3:=kf9.cell 3
     have b4:=kf9.cell 4
     have b5:=kf9.cell 5
     have b6:=kf9.cell 6
     have b7:=kf9.cell 7
     have b8':=kf9.cell 8
     have b9:=kf9.cell 9
     have b10:=kf9.cell 10
     have b11:=kf9.cell 11
     simp only [List.getElem?_toArray,List.getElem?_cons_zero,List.getElem?_cons_succ] at b0 b1 b2 b3 b4 b5 b6 b7 b8' b9 b10 b11
     have sL9:=hs9.lt
     have hS9:∀ W1,Bk W1 gs 190 (zS gm i)→Bk W1 wc.heap.size 156 #[.int .i64 m.c.perm,.int .i64 m.c.base,.int .i64 m.c.len,.int .i64 (m.c.at_+1),.int .i64 m.c.seal_,.bool (m.reg 7).is,.int .i64 (m.reg 7).n,.int .i64 (m.reg 7).k.perm,.int .i64 (m.reg 7).k.base,.int .i64 (m.reg 7).k.len,.int .i64 (m.reg 7).k.at_,.int .i64 (m.reg 7).k.seal_]→W1.cell? ⟨gs,0,none⟩=some (.pointer (some ⟨gm,0,none⟩))∧W1.cell? ⟨wc.heap.size,0,none⟩=some (.int .i64 m.c.perm)∧W1.cell? ⟨wc.heap.size,1,none⟩=some (.int .i64 m.c.base)∧W1.cell? ⟨wc.heap.size,2,none⟩=some (.int .i64 m.c.len)∧W1.cell? ⟨wc.heap.size,3,none⟩=some (.int .i64 (m.c.at_+1))∧W1.cell? ⟨wc.heap.size,4,none⟩=some (.int .i64 m.c.seal_)∧W1.cell? ⟨wc.heap.size,5,none⟩=some (.bool (m.reg 7).is)∧W1.cell? ⟨wc.heap.size,6,none⟩=some (.int .i64 (m.reg 7).n)∧W1.cell? ⟨wc.heap.size,7,none⟩=some (.int .i64 (m.reg 7).k.perm)∧W1.cell? ⟨wc.heap.size,8,none⟩=some (.int .i64 (m.reg 7).k.base)∧W1.cell? ⟨wc.heap.size,9,none⟩=some (.int .i64 (m.reg 7).k.len)∧W1.cell? ⟨wc.heap.size,10,none⟩=some (.int .i64 (m.reg 7).k.at_)∧W1.cell? ⟨wc.heap.size,11,none⟩=some (.int .i64 (m.reg 7).k.seal_):=fun W1 h1 h2=>⟨h1.cell 0,h2.cell 0,h2.cell 1,h2.cell 2,h2.cell 3,h2.cell 4,h2.cell 5,h2.cell 6,h2.cell 7,h2.cell 8,h2.cell 9,h2.cell 10,h2.cell 11⟩
     have kf':=hbk kf9 (fun e=>by have:=hlt _ e;omega)
     have SA:=zA (fun W1 (h:Below w9.heap.size w9 W1)=>hS9 W1 (zH h hs9) (zH h kf9))
     have SB:=zA (hS9 w' hs' kf')
     have hg2m:g2≠gm:=zCQ ka9 hm9.mB (by decide)
     have hg3m:g3≠gm:=zCQ kb9 hm9.mB (by decide)
     have gsm:gs≠gm:=zCQ hs9 hm9.mB (by decide)
     have wcm:wc.heap.size≠gm:=by have:=HMC.out.mB.lt;omega
     have SC:=zA (fun u=>hS9 (w'.setCell ⟨gm,62,none⟩ u) (zU _ gsm hs') (zU _ wcm kf'))
     have mL9:=hm9.mB.lt
     have fL9:=kf9.lt
     have HR1:=zA hr1
     have HAP:=zA hap
     have HBLK:=zA hblk
     have HG':=zA hg'
     have KA':=zA ka'
     have KB':=zA kb'
     have HS':=zA hs'
     have HC9:=zA hc9
     have HLT:=zA hlt
     clear hS9 kf' hz9 hi0 hz0 hz1 hz2 hr1 ho' hg' hblk hap hlt hbk ka' kb' hs' hM' hm9a hown1 hsl1 ka9 kb9 kf9 hm9 hs9 hc9 hbs9
     refine wp_region_held_drew (S:=fun W1=>W1.cell? ⟨gs,0,none⟩=some (.pointer (some ⟨gm,0,none⟩))∧W1.cell? ⟨wc.heap.size,0,none⟩=some (.int .i64 m.c.perm)∧W1.cell? ⟨wc.heap.size,1,none⟩=some (.int .i64 m.c.base)∧W1.cell? ⟨wc.heap.size,2,none⟩=some (.int .i64 m.c.len)∧W1.cell? ⟨wc.heap.size,3,none⟩=some (.int .i64 (m.c.at_+1))∧W1.cell? ⟨wc.heap.size,4,none⟩=some (.int .i64 m.c.seal_)∧W1.cell? ⟨wc.heap.size,5,none⟩=some (.bool (m.reg 7).is)∧W1.cell? ⟨wc.heap.size,6,none⟩=some (.int .i64 (m.reg 7).n)∧W1.cell? ⟨wc.heap.size,7,none⟩=some (.int .i64 (m.reg 7).k.perm)∧W1.cell? ⟨wc.heap.size,8,none⟩=some (.int .i64 (m.reg 7).k.base)∧W1.cell? ⟨wc.heap.size,9,none⟩=some (.int .i64 (m.reg 7).k.len)∧W1.cell? ⟨wc.heap.size,10,none⟩=some (.int .i64 (m.reg 7).k.at_)∧W1.cell? ⟨wc.heap.size,11,none⟩=some (.int .i64 (m.reg 7).k.seal_)) (by kernel_rfl) (SA.out _ (zJ (Below.refl _ _))) (fun hHeld=>?_)
     refine wpAnyH_take (i:=0) (v:=?_) rfl (by kernel_rfl) (by kernel_rfl) (by kernel_rfl) (fun _ _ _ h=>h) (Or.inl ⟨by rfl,?hyT⟩) hHeld ?restT
     case hyT=>(intro w hSw;obtain ⟨r0,r1,r2,r3,r4,r5,r6,r7,r8,r9,r10,r11,r12⟩:=hSw;go_simp;try with_reducible rfl)
     case restT =>
      try simp only [Act.put,zC,zD,zE]
      refine wpAnyH_take (i:=1) (v:=?_) rfl (by kernel_rfl) (by kernel_rfl) (by kernel_rfl) (fun _ _ _ h=>h) (Or.inl ⟨by rfl,?hyT⟩) hHeld ?restT
      case hyT=>(intro w hSw;obtain ⟨r0,r1,r2,r3,r4,r5,r6,r7,r8,r9,r10,r11,r12⟩:=hSw;go_simp;try with_reducible rfl)
      case restT =>
       try simp only [Act.put,zC,zD,zE]
       refine wpAnyH_take (i:=2) (v:=?_) rfl (by kernel_rfl) (by kernel_rfl) (by kernel_rfl) (fun _ _ _ h=>h) (Or.inl ⟨by rfl,?hyT⟩) hHeld ?restT
       case hyT=>(intro w hSw;obtain ⟨r0,r1,r2,r3,r4,r5,r6,r7,r8,r9,r10,r11,r12⟩:=hSw;go_simp;try with_reducible rfl)
       case restT =>
        try simp only [Act.put,zC,zD,zE]
        refine wpAnyH_take (i:=3) (v:=?_) rfl (by kernel_rfl) (by kernel_rfl) (by kernel_rfl) (fun _ _ _ h=>h) (Or.inl ⟨by rfl,?hyT⟩) hHeld ?restT
        case hyT=>(intro w hSw;obtain ⟨r0,r1,r2,r3,r4,r5,r6,r7,r8,r9,r10,r11,r12⟩:=hSw;go_simp;try with_reducible rfl)
        case restT =>
         try simp only [Act.put,zC,zD,zE]
         refine wpAnyH_take (i:=4) (v:=?_) rfl (by kernel_rfl) (by kernel_rfl) (by kernel_rfl) (fun _ _ _ h=>h) (Or.inl ⟨by rfl,?hyT⟩) hHeld ?restT
         case hyT=>(intro w hSw;obtain ⟨r0,r1,r2,r3,r4,r5,r6,r7,r8,r9,r10,r11,r12⟩:=hSw;go_simp;try with_reducible rfl)
         case restT =>
          try simp only [Act.put,zC,zD,zE]
          refine wpAnyH_take (i:=5) (v:=?_) rfl (by kernel_rfl) (by kernel_rfl) (by kernel_rfl) (fun _ _ _ h=>h) (Or.inl ⟨by rfl,?hyT⟩) hHeld ?restT
          case hyT=>(intro w hSw;obtain ⟨r0,r1,r2,r3,r4,r5,r6,r7,r8,r9,r10,r11,r12⟩:=hSw;go_simp;try with_reducible rfl)
          case restT =>
           try simp only [Act.put,zC,zD,zE]
           refine wpAnyH_take (i:=6) (v:=?_) rfl (by kernel_rfl) (by kernel_rfl) (by kernel_rfl) (fun _ _ _ h=>h) (Or.inl ⟨by rfl,?hyT⟩) hHeld ?restT
           case hyT=>(intro w hSw;obtain ⟨r0,r1,r2,r3,r4,r5,r6,r7,r8,r9,r10,r11,r12⟩:=hSw;go_simp;try with_reducible rfl)
           case restT =>
            try simp only [Act.put,zC,zD,zE]
            refine wpAnyH_take (i:=7) (v:=?_) rfl (by kernel_rfl) (by kernel_rfl) (by kernel_rfl) (fun _ _ _ h=>h) (Or.inl ⟨by rfl,?hyT⟩) hHeld ?restT
            case hyT=>(intro w hSw;obtain ⟨r0,r1,r2,r3,r4,r5,r6,r7,r8,r9,r10,r11,r12⟩:=hSw;go_simp;try with_reducible rfl)
            case restT =>
             try simp only [Act.put,zC,zD,zE]
             refine wpAnyH_take (i:=8) (v:=?_) rfl (by kernel_rfl) (by kernel_rfl) (by kernel_rfl) (fun _ _ _ h=>h) (Or.inl ⟨by rfl,?hyT⟩) hHeld ?restT
             case hyT=>(intro w hSw;obtain ⟨r0,r1,r2,r3,r4,r5,r6,r7,r8,r9,r10,r11,r12⟩:=hSw;go_simp;try with_reducible rfl)
             case restT =>
              try simp only [Act.put,zC,zD,zE]
              refine wpAnyH_take (i:=9) (v:=?_) rfl (by kernel_rfl) (by kernel_rfl) (by kernel_rfl) (fun _ _ _ h=>h) (Or.inl ⟨by rfl,?hyT⟩) hHeld ?restT
              case hyT=>(intro w hSw;obtain ⟨r0,r1,r2,r3,r4,r5,r6,r7,r8,r9,r10,r11,r12⟩:=hSw;go_simp;try with_reducible rfl)
              case restT =>
               try simp only [Act.put,zC,zD,zE]
               refine wpAnyH_take (i:=11) (v:=?_) rfl (by kernel_rfl) (by kernel_rfl) (by kernel_rfl) (fun _ _ _ h=>h) (Or.inl ⟨by rfl,?hyT⟩) hHeld ?restT
               case hyT=>(intro w hSw;obtain ⟨r0,r1,r2,r3,r4,r5,r6,r7,r8,r9,r10,r11,r12⟩:=hSw;go_simp;try with_reducible rfl)
               case restT =>
                try simp only [Act.put,zC,zD,zE]
                refine wpAnyH_ready (rs:=[10,12]) (by kernel_rfl) (by simp) ?_
                refine AllReadyH.cons rfl (fun K hK=>?_) (AllReadyH.cons rfl (fun K hK=>?_) AllReadyH.nil)
                ·go_simp
                 refine hK.out _ _ (SA.out _ (by repeat (first | with_reducible exact Below.refl _ _ | with_reducible refine zG ?_ _ | with_reducible refine zJ ?_ | with_reducible refine zK ?_ (by first | omega | (simp;done) | (simp;omega)) _))) (fun hHeld=>?_)
                 clear hK K
                 try simp only [Act.put,zC,zD,zE]
                 refine wpAnyH_ready (rs:=[12]) (by kernel_rfl) (by simp) ?_
                 refine AllReadyH.cons rfl (fun K hK=>?_) AllReadyH.nil
                 go_simp
                 refine hK.out _ _ (SA.out _ (by repeat (first | with_reducible exact Below.refl _ _ | with_reducible refine zG ?_ _ | with_reducible refine zJ ?_ | with_reducible refine zK ?_ (by first | omega | (simp;done) | (simp;omega)) _))) (fun hHeld=>?_)
                 clear hK K
                 try simp only [Act.put,zC,zD,zE]
                 refine wpAnyH_ready (rs:=[13]) (by kernel_rfl) (by simp) ?_
                 refine AllReadyH.cons rfl (fun K hK=>?_) AllReadyH.nil
                 refine zAu rfl _ _ 58 58 rfl (.slice sa m.stk.length sc) (.slice (some ⟨w9.heap.size,0,none⟩) 1 1) rfl rfl HR1.out ?_
                 refine hK.out _ _ (SB.out) (fun hHeld=>?_)
                 clear hK K
                 try simp only [Act.put,zC,zD,zE]
                 refine wpAnyH_take (i:=14) (v:=?_) rfl (by kernel_rfl) (by kernel_rfl) (by kernel_rfl) (fun _ _ _ h=>h) (Or.inl ⟨by rfl,?hyT⟩) hHeld ?restT
                 case hyT=>(intro w hSw;obtain ⟨r0,r1,r2,r3,r4,r5,r6,r7,r8,r9,r10,r11,r12⟩:=hSw;go_simp;try with_reducible rfl)
                 case restT =>
                  try simp only [Act.put,zC,zD,zE]
                  refine wpAnyH_take (i:=15) (v:=?_) rfl (by kernel_rfl) (by kernel_rfl) (by kernel_rfl) (fun _ _ _ h=>h) (Or.inl ⟨by rfl,?hyT⟩) hHeld ?restT
                  case hyT=>(intro w hSw;obtain ⟨r0,r1,r2,r3,r4,r5,r6,r7,r8,r9,r10,r11,r12⟩:=hSw;go_simp;try with_reducible rfl)
                  case restT =>
                   try simp only [Act.put,zC,zD,zE]
                   refine wpAnyH_ready (rs:=[16]) (by kernel_rfl) (by simp) ?_
                   refine AllReadyH.cons rfl (fun K hK=>?_) AllReadyH.nil
                   go_simp
                   refine hK.out _ _ (SC.out _) (fun hHeld=>?_)
                   clear hK K
                   try simp only [Act.put,zC,zD,zE]
                   refine wpAnyH_done (by kernel_rfl) ?_ _
                   go_upto_region 10 with (fail)
                   obtain ⟨w10,hw10⟩:∃ w10,w10=w'.setCell ⟨gm,62,none⟩ (.slice vao (m.stk.length+1) vcap):=⟨_,rfl⟩
                   have hap:=HAP.out
                   rw [←hw10] at hap ⊢
                   obtain ⟨hm10,hf10⟩:=hap
                   have ka10:Bk w10 g2 54 #[.int .i64 ap,.int .i64 ab,.int .i64 al,.int .i64 aa,.int .i64 as_]:=by rw [hw10];exact zU _ hg2m KA'.out
                   have kb10:Bk w10 g3 54 #[.int .i64 bp,.int .i64 bb,.int .i64 bl,.int .i64 ba,.int .i64 bs]:=by rw [hw10];exact zU _ hg3m KB'.out
                   have hs10:Bk w10 gs 190 (zS gm i):=by rw [hw10];exact zU _ gsm HS'.out
                   have hf0:Fr (mS gm vm (.slice sa m.stk.length sc) vo) W w10:=(Fr.of (zI HBW.out (zI HC9.out (zJ (zG (Below.refl _ _) _))))).trans hf10 (fun _ _ h=>h)
                   clear s0 m56 m57 m58 m59 m60 m61 m62 m63 b0 b1 b2 b3 b4 b5 b6 b7 b8' b9 b10 b11 sL9 mL9 fL9 c62' mF' mL' hw10 hf10 hHeld
                   obtain ⟨x0,x1,x2,x3,x4⟩:=zQ ka10
                   obtain ⟨y0,y1,y2,y3,y4⟩:=zQ kb10
                   have xF:=fun j=>ka10.frozen j
                   have yF:=fun j=>kb10.frozen j
                   have xL:=ka10.lt
                   have yL:=kb10.lt
                   have ngm2:gm≠g2:=zCQ hm10.mB ka10 (by decide)
                   have ngm3:gm≠g3:=zCQ hm10.mB kb10 (by decide)
                   have ngs2:gs≠g2:=zCQ hs10 ka10 (by decide)
                   have ngs3:gs≠g3:=zCQ hs10 kb10 (by decide)
                   go_upto_region 11 with (fail)
                   obtain ⟨w11,hw11⟩:∃ w11,w11=(w10.setCell ⟨g2,4,none⟩ (.int .i64 0)).setCell ⟨g3,4,none⟩ (.int .i64 0):=⟨_,rfl⟩
                   have ka11:Bk w11 g2 54 #[.int .i64 ap,.int .i64 ab,.int .i64 al,.int .i64 aa,.int .i64 0]:=by rw [hw11];exact zU _ hne (zT ka10 rfl)
                   have kb11:Bk w11 g3 54 #[.int .i64 bp,.int .i64 bb,.int .i64 bl,.int .i64 ba,.int .i64 0]:=by rw [hw11];exact zT (zU _ hne.symm kb10) rfl
                   have hs11:Bk w11 gs 190 (zS gm i):=by rw [hw11];exact zU _ ngs3 (zU _ ngs2 hs10)
                   have hf11:Fr (fun k=>k=g2∨k=g3) w10 w11:=by rw [hw11];exact (Fr.setCell w10 (p:=⟨g2,4,none⟩) (.inl rfl) _).trans (Fr.setCell _ (p:=⟨g3,4,none⟩) (S:=fun k=>k=g2∨k=g3) (.inr rfl) _) (fun _ _ h=>h)
                   have hm11:=hm10.fr hf11 (fun k hk h=>by rcases h with rfl | rfl;exact hm10.not ka10 (by decide) (by decide) (by decide) (by decide) hk;exact hm10.not kb10 (by decide) (by decide) (by decide) (by decide) hk)
                   have hf1:Fr (mS gm vm (.slice sa m.stk.length sc) vo) W w11:=hf0.trans hf11 (fun k hk h=>by rcases h with rfl | rfl<;>omega)
                   rw [←hw11]
                   clear hw11 ka10 kb10 hs10 hm10 hf0 hf11 x0 x1 x2 x3 x4 y0 y1 y2 y3 y4 xF yF xL yL ngm2 ngm3 ngs2 ngs3
                   obtain ⟨x0,x1,x2,x3,x4⟩:=zQ ka11
                   obtain ⟨y0,y1,y2,y3,y4⟩:=zQ kb11
                   obtain ⟨s0,s1,s2,s3,s4⟩:=zR hs11
                   obtain ⟨m56,m57,m58,m59,m60,m61,m62,m63⟩:=zAx hm11
                   obtain ⟨c0,c1,c2,c3,c4,c5,c6⟩:=zC1 hm11
                   have mF:=fun j=>hm11.mB.frozen j
                   have mL:=hm11.mB.lt
                   have xL:=ka11.lt
                   have yL:=kb11.lt
                   have sL11:=hs11.lt
                   have HM11:=zA hm11
                   have HF1:=zA hf1
                   clear hm11 hf1 ka11 kb11 hs11
                   go_region
                   go_wp2
                   go_end0
                   rw [zEo,zDu]
                   have hb:=MSt.both HM11.out (zB9 ⟨ap,ab,al,aa,as_⟩) (kV (zB9 ⟨bp,bb,bl,ba,bs⟩)) (mS gm vm (.slice sa m.stk.length sc) vo) (.inl rfl)
                   rw [←HRR.out]
                   refine ⟨rfl,.slice vao (m.stk.length+1) vcap,vo,hb.1,HF1.out.trans hb.2 (fun _ _ h=>h),fun k h=>?_,NewB.refl _ _⟩
                   rcases HBLK.out with e | e
                   ·exact .inl (e▸h)
                   ·refine .inr ?_
                    rw [h] at e
                    injection e with e
                    have:=HBW.out.size
                    have:=HC9.out.size
                    simp [World.drew] at e
                    omega
                ·go_simp
                 refine hK.out _ _ (SA.out _ (by repeat (first | with_reducible exact Below.refl _ _ | with_reducible refine zG ?_ _ | with_reducible refine zJ ?_ | with_reducible refine zK ?_ (by first | omega | (simp;done) | (simp;omega)) _))) (fun hHeld=>?_)
                 clear hK K
                 try simp only [Act.put,zC,zD,zE]
                 refine wpAnyH_ready (rs:=[10]) (by kernel_rfl) (by simp) ?_
                 refine AllReadyH.cons rfl (fun K hK=>?_) AllReadyH.nil
                 go_simp
                 refine hK.out _ _ (SA.out _ (by repeat (first | with_reducible exact Below.refl _ _ | with_reducible refine zG ?_ _ | with_reducible refine zJ ?_ | with_reducible refine zK ?_ (by first | omega | (simp;done) | (simp;omega)) _))) (fun hHeld=>?_)
                 clear hK K
                 try simp only [Act.put,zC,zD,zE]
                 refine wpAnyH_ready (rs:=[13]) (by kernel_rfl) (by simp) ?_
                 refine AllReadyH.cons rfl (fun K hK=>?_) AllReadyH.nil
                 refine zAu rfl _ _ 58 58 rfl (.slice sa m.stk.length sc) (.slice (some ⟨w9.heap.size,0,none⟩) 1 1) rfl rfl HR1.out ?_
                 refine hK.out _ _ (SB.out) (fun hHeld=>?_)
                 clear hK K
                 try simp only [Act.put,zC,zD,zE]
                 refine wpAnyH_take (i:=14) (v:=?_) rfl (by kernel_rfl) (by kernel_rfl) (by kernel_rfl) (fun _ _ _ h=>h) (Or.inl ⟨by rfl,?hyT⟩) hHeld ?restT
                 case hyT=>(intro w hSw;obtain ⟨r0,r1,r2,r3,r4,r5,r6,r7,r8,r9,r10,r11,r12⟩:=hSw;go_simp;try with_reducible rfl)
                 case restT =>
                  try simp only [Act.put,zC,zD,zE]
                  refine wpAnyH_take (i:=15) (v:=?_) rfl (by kernel_rfl) (by kernel_rfl) (by kernel_rfl) (fun _ _ _ h=>h) (Or.inl ⟨by rfl,?hyT⟩) hHeld ?restT
                  case hyT=>(intro w hSw;obtain ⟨r0,r1,r2,r3,r4,r5,r6,r7,r8,r9,r10,r11,r12⟩:=hSw;go_simp;try with_reducible rfl)
                  case restT =>
                   try simp only [Act.put,zC,zD,zE]
                   refine wpAnyH_ready (rs:=[16]) (by kernel_rfl) (by simp) ?_
                   refine AllReadyH.cons rfl (fun K hK=>?_) AllReadyH.nil
                   go_simp
                   refine hK.out _ _ (SC.out _) (fun hHeld=>?_)
                   clear hK K
                   try simp only [Act.put,zC,zD,zE]
                   refine wpAnyH_done (by kernel_rfl) ?_ _
                   go_upto_region 10 with (fail)
                   obtain ⟨w10,hw10⟩:∃ w10,w10=w'.setCell ⟨gm,62,none⟩ (.slice vao (m.stk.length+1) vcap):=⟨_,rfl⟩
                   have hap:=HAP.out
                   rw [←hw10] at hap ⊢
                   obtain ⟨hm10,hf10⟩:=hap
                   have ka10:Bk w10 g2 54 #[.int .i64 ap,.int .i64 ab,.int .i64 al,.int .i64 aa,.int .i64 as_]:=by rw [hw10];exact zU _ hg2m KA'.out
                   have kb10:Bk w10 g3 54 #[.int .i64 bp,.int .i64 bb,.int .i64 bl,.int .i64 ba,.int .i64 bs]:=by rw [hw10];exact zU _ hg3m KB'.out
                   have hs10:Bk w10 gs 190 (zS gm i):=by rw [hw10];exact zU _ gsm HS'.out
                   have hf0:Fr (mS gm vm (.slice sa m.stk.length sc) vo) W w10:=(Fr.of (zI HBW.out (zI HC9.out (zJ (zG (Below.refl _ _) _))))).trans hf10 (fun _ _ h=>h)
                   clear s0 m56 m57 m58 m59 m60 m61 m62 m63 b0 b1 b2 b3 b4 b5 b6 b7 b8' b9 b10 b11 sL9 mL9 fL9 c62' mF' mL' hw10 hf10 hHeld
                   obtain ⟨x0,x1,x2,x3,x4⟩:=zQ ka10
                   obtain ⟨y0,y1,y2,y3,y4⟩:=zQ kb10
                   have xF:=fun j=>ka10.frozen j
                   have yF:=fun j=>kb10.frozen j
                   have xL:=ka10.lt
                   have yL:=kb10.lt
                   have ngm2:gm≠g2:=zCQ hm10.mB ka10 (by decide)
                   have ngm3:gm≠g3:=zCQ hm10.mB kb10 (by decide)
                   have ngs2:gs≠g2:=zCQ hs10 ka10 (by decide)
                   have ngs3:gs≠g3:=zCQ hs10 kb10 (by decide)
                   go_upto_region 11 with (fail)
                   obtain ⟨w11,hw11⟩:∃ w11,w11=(w10.setCell ⟨g2,4,none⟩ (.int .i64 0)).setCell ⟨g3,4,none⟩ (.int .i64 0):=⟨_,rfl⟩
                   have ka11:Bk w11 g2 54 #[.int .i64 ap,.int .i64 ab,.int .i64 al,.int .i64 aa,.int .i64 0]:=by rw [hw11];exact zU _ hne (zT ka10 rfl)
                   have kb11:Bk w11 g3 54 #[.int .i64 bp,.int .i64 bb,.int .i64 bl,.int .i64 ba,.int .i64 0]:=by rw [hw11];exact zT (zU _ hne.symm kb10) rfl
                   have hs11:Bk w11 gs 190 (zS gm i):=by rw [hw11];exact zU _ ngs3 (zU _ ngs2 hs10)
                   have hf11:Fr (fun k=>k=g2∨k=g3) w10 w11:=by rw [hw11];exact (Fr.setCell w10 (p:=⟨g2,4,none⟩) (.inl rfl) _).trans (Fr.setCell _ (p:=⟨g3,4,none⟩) (S:=fun k=>k=g2∨k=g3) (.inr rfl) _) (fun _ _ h=>h)
                   have hm11:=hm10.fr hf11 (fun k hk h=>by rcases h with rfl | rfl;exact hm10.not ka10 (by decide) (by decide) (by decide) (by decide) hk;exact hm10.not kb10 (by decide) (by decide) (by decide) (by decide) hk)
                   have hf1:Fr (mS gm vm (.slice sa m.stk.length sc) vo) W w11:=hf0.trans hf11 (fun k hk h=>by rcases h with rfl | rfl<;>omega)
                   rw [←hw11]
                   clear hw11 ka10 kb10 hs10 hm10 hf0 hf11 x0 x1 x2 x3 x4 y0 y1 y2 y3 y4 xF yF xL yL ngm2 ngm3 ngs2 ngs3
                   obtain ⟨x0,x1,x2,x3,x4⟩:=zQ ka11
                   obtain ⟨y0,y1,y2,y3,y4⟩:=zQ kb11
                   obtain ⟨s0,s1,s2,s3,s4⟩:=zR hs11
                   obtain ⟨m56,m57,m58,m59,m60,m61,m62,m63⟩:=zAx hm11
                   obtain ⟨c0,c1,c2,c3,c4,c5,c6⟩:=zC1 hm11
                   have mF:=fun j=>hm11.mB.frozen j
                   have mL:=hm11.mB.lt
                   have xL:=ka11.lt
                   have yL:=kb11.lt
                   have sL11:=hs11.lt
                   have HM11:=zA hm11
                   have HF1:=zA hf1
                   clear hm11 hf1 ka11 kb11 hs11
                   go_region
                   go_wp2
                   go_end0
                   rw [zEo,zDu]
                   have hb:=MSt.both HM11.out (zB9 ⟨ap,ab,al,aa,as_⟩) (kV (zB9 ⟨bp,bb,bl,ba,bs⟩)) (mS gm vm (.slice sa m.stk.length sc) vo) (.inl rfl)
                   rw [←HRR.out]
                   refine ⟨rfl,.slice vao (m.stk.length+1) vcap,vo,hb.1,HF1.out.trans hb.2 (fun _ _ h=>h),fun k h=>?_,NewB.refl _ _⟩
                   rcases HBLK.out with e | e
                   ·exact .inl (e▸h)
                   ·refine .inr ?_
                    rw [h] at e
                    injection e with e
                    have:=HBW.out.size
                    have:=HC9.out.size
                    simp [World.drew] at e
                    omega
end Go.Proofs.YtlpejagkadalbaaGreatDoor
