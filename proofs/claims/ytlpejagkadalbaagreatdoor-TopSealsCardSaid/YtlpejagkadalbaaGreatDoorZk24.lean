import Derived.Test.YtlpejagkadalbaaGreatDoorZk20
set_option maxHeartbeats 40000000
set_option maxRecDepth 100000
set_option linter.unusedVariables false
set_option linter.unusedSimpArgs false
namespace Go.Proofs.YtlpejagkadalbaaGreatDoor
section
open Go.RowKit
theorem zLJ:(Tryz.prog.info? 3).map (fun i=>(i.zero,i.size,i.bytes))=some (some (.int .i64 0),1,8):=by kernel_rfl
theorem MSt.appendOut {base gm:Nat} {vm vs vo v':Value} {m:MV} {W w':World} {s':List Int} (h:MS base gm vm vs vo m W) (hg:W.grownBy w' vo.ownBlock) (ho:Own w' base 3 v' s') :
  MS base gm vm vs v' {m with out:=s'} (w'.setCell ⟨gm,63,none⟩ v')∧Fr (mS gm vm vs vo) W (w'.setCell ⟨gm,63,none⟩ v'):=by
 have hB:Bk w' gm 60 (mcs m.R m.c vm vs vo):=(hg.block gm h.mB.lt (fun e=>zBZ h.oo h.mB (by decide) e.symm)).trans h.mB
 have h1:Own w' base 56 vm m.mem:=zCo h.om fun g e=>hg.block g (zB0 h.om e).2 (fun e'=>zDl h.om h.oo (by decide) e e'.symm)
 have h2:Own w' base 156 vs m.stk:=zCo h.os fun g e=>hg.block g (zB0 h.os e).2 (fun e'=>zDl h.os h.oo (by decide) e e'.symm)
 refine ⟨⟨h.h8,zT hB (zGs h.h8 v').symm,zAa h1 hB (by decide) 63 [v'],zAa h2 hB (by decide) 63 [v'],zAa ho hB (by decide) 63 [v']⟩,?_⟩
 exact (Fr.grown hg (fun k e=>.inl (.inr (.inr (.inr e))))).trans (Fr.setCell w' (p:=⟨gm,63,none⟩) (S:=mS gm vm vs vo) (.inl rfl) v') (fun _ _ h=>h)
theorem zGJ {base:Nat} {W:World} {gs gm:Nat} {i:InstV} {m:MV} {vm vs vo:Value} (hs:Bk W gs 190 (zS gm i)) (hm:MS base gm vm vs vo m W) (ho:i.op=22) (a:Nat) (ha:i.a=a) (a8:a < 8) (h1:(m.reg a).is=true) :
  Calls Tryz.prog 113 #[.pointer (some ⟨gs,0,none⟩)] W (Thrown 10 W):=by
 obtain ⟨s0,s1,s2,s3,s4⟩:=zR hs
 have sL:=hs.lt
 rw [ho] at s1
 rw [ha] at s2
 have NB:=zA (fun W1 (h:Below W.heap.size W W1)=>zCb (zH h hs) (zH h hm.mB) hm.h8 a a8 h1)
 clear hs hm
 go_enter Tryz.func113,Tryz.ntmps113
 go_wp2_with (go_at_call 110;((with_reducible refine (NB.out _ (by repeat (first | with_reducible exact Below.refl _ _ | with_reducible refine zG ?_ _ | with_reducible refine zJ ?_ | with_reducible refine zK ?_ (by first | omega | (simp;done) | (simp;omega)) _))).mono ?_);rintro e w' ⟨rfl,hbT⟩))
 exact ⟨rfl,Thrown.of (show Below W.heap.size W w' from zI (by repeat (first | with_reducible exact Below.refl _ _ | with_reducible refine zG ?_ _ | with_reducible refine zJ ?_ | with_reducible refine zK ?_ (by first | omega | (simp;done) | (simp;omega)) _)) hbT)⟩
theorem zFw {base:Nat} {W:World} {gs gm:Nat} {i:InstV} {m:MV} {vm vs vo:Value} (hs:Bk W gs 190 (zS gm i)) (hm:MS base gm vm vs vo m W) (ho:i.op=22) (a:Nat) (ha:i.a=a) (a8:a < 8) (h1:(m.reg a).is=false) (hl:m.out.length=100) :
  Calls Tryz.prog 113 #[.pointer (some ⟨gs,0,none⟩)] W (Thrown 9 W):=by
 obtain ⟨s0,s1,s2,s3,s4⟩:=zR hs
 have sL:=hs.lt
 rw [ho] at s1
 rw [ha] at s2
 have NB:=zA (fun W1 (h:Below W.heap.size W W1)=>zAX (zH h hs) (zH h hm.mB) hm.h8 a a8 h1)
 obtain ⟨oa,oc,rfl,_,_⟩:=hm.oo.sl
 obtain ⟨m56,m57,m58,m59,m60,m61,m62,m63⟩:=zAx hm
 have mL:=hm.mB.lt
 have g1:((m.out.length:Int)==100)=true:=by rw [hl];rfl
 clear hs hm hl
 go_enter Tryz.func113,Tryz.ntmps113
 go_wp2_with (first
  | (go_at_call 110;((with_reducible refine (NB.out _ (by repeat (first | with_reducible exact Below.refl _ _ | with_reducible refine zG ?_ _ | with_reducible refine zJ ?_ | with_reducible refine zK ?_ (by first | omega | (simp;done) | (simp;omega)) _))).mono ?_);rintro e w' ⟨rfl,rfl⟩))
  | (go_at_call 107;((with_reducible refine (zAv 9 (by decide) _).mono ?_);rintro e w' ⟨rfl,rfl⟩)))
 exact ⟨rfl,Thrown.of (by repeat (first | with_reducible exact Below.refl _ _ | with_reducible refine zG ?_ _ | with_reducible refine zJ ?_ | with_reducible refine zK ?_ (by first | omega | (simp;done) | (simp;omega)) _))⟩
theorem zHD {base:Nat} {W:World} {gs gm:Nat} {i:InstV} {m:MV} {vm vs vo:Value} (hs:Bk W gs 190 (zS gm i)) (hm:MS base gm vm vs vo m W) (hbs:base≤W.heap.size) (ho:i.op=22) (a:Nat) (ha:i.a=a) (a8:a < 8) (h1:(m.reg a).is=false) (hl:m.out.length≠100) (h100:m.out.length≤100) :
  Calls Tryz.prog 113 #[.pointer (some ⟨gs,0,none⟩)] W (StepPost base gm vm vs vo m W (.ok {m with out:=m.out++[(m.reg a).n]})):=by
 obtain ⟨s0,s1,s2,s3,s4⟩:=zR hs
 have sL:=hs.lt
 rw [ho] at s1
 rw [ha] at s2
 have NB:=zA (fun W1 (h:Below W.heap.size W W1)=>zAX (zH h hs) (zH h hm.mB) hm.h8 a a8 h1)
 obtain ⟨oa,oc,rfl,_,_⟩:=hm.oo.sl
 obtain ⟨m56,m57,m58,m59,m60,m61,m62,m63⟩:=zAx hm
 have mL:=hm.mB.lt
 have g1:((m.out.length:Int)==100)=false:=by simp;omega
 have hl99:m.out.length≤99:=by omega
 have HM:=zA hm
 have HSB:=zA hs
 generalize hn:(m.reg a).n=n at *
 clear hs hm hl hn
 go_enter Tryz.func113,Tryz.ntmps113
 go_upto_region 32 with (go_at_call 110;((with_reducible refine (NB.out _ (by repeat (first | with_reducible exact Below.refl _ _ | with_reducible refine zG ?_ _ | with_reducible refine zJ ?_ | with_reducible refine zK ?_ (by first | omega | (simp;done) | (simp;omega)) _))).mono ?_);rintro e w' ⟨rfl,rfl⟩))
 obtain ⟨w1,hw1⟩:∃ w1,w1=W.alloc (.cells #[.int .i64 22,.int .i64 a,.int .i64 i.b,.int .i64 i.c] 179):=⟨_,rfl⟩
 have h1':Below W.heap.size W w1:=by rw [hw1];exact zG (Below.refl _ _) _
 rw [←hw1]
 have hm1:=HM.out.below h1'
 have hs1:=zH h1' HSB.out
 clear s0 s1 s2 s3 s4 sL hw1 m56 m57 m58 m59 m60 m61 m62 m63 mL
 obtain ⟨i0,hi0,hz0,hz1,hz2⟩:=info_parts zLJ
 have hown1:=(zBw (α:=Int) (xs:=[n]) w1 3 0 (Nat.zero_le _) #[.int .i64 n] 1 rfl (by decide) rfl).drew
 obtain ⟨ao1,cap1,e1,hsl1,e4⟩:=hown1.sl
 clear e4
 injection e1 with e1 e2 e3
 subst e1
 clear e2 e3
 have hm1a:=(hm1.below (zG (Below.refl _ _) (.cells #[.int .i64 n] 3))).drew'
 have hbs1:base≤((w1.alloc (.cells #[.int .i64 n] 3)).drew).heap.size:=by have:=h1'.size;simp [World.drew];omega
 obtain ⟨v',w',hr1,ho',hg',hblk⟩:=zBS (P:=Tryz.prog) ((w1.alloc (.cells #[.int .i64 n] 3)).drew) base 36 36 3 i0 _ 8 Tryz.underlying36 hi0 hz0 hz1 hz2 rfl (.slice oa m.out.length oc) m.out hm1a.oo (some ⟨w1.heap.size,0,none⟩) 1 1 [n] hsl1 (by unfold maxLen;omega) (by omega) hbs1
 obtain ⟨vao,vcap,ev,hvx,hvy⟩:=ho'.sl
 rw [List.length_append,List.length_singleton] at ev
 subst ev
 clear hvx hvy
 have hap:=hm1a.appendOut hg' ho'
 have hs':Bk w' gs 190 (zS gm i):=(hg'.block gs (by have:=hs1.lt;simp [World.drew];omega) (fun e=>zBZ hm1.oo hs1 (by decide) e.symm)).trans (zP (zN _ hs1))
 have hM':Bk w' gm 60 (mcs m.R m.c vm vs (.slice oa m.out.length oc)):=(hg'.block gm (by have:=hm1.mB.lt;simp [World.drew];omega) (fun e=>zBZ hm1.oo hm1.mB (by decide) e.symm)).trans (zP (zN _ hm1.mB))
 have c63':w'.cell? ⟨gm,63,none⟩=some (.slice oa m.out.length oc):=(hM'.cell 63).trans (zAU hm1.h8 7)
 have mF':=fun j=>hM'.frozen j
 have mL':=hM'.lt
 obtain ⟨m56,m57,m58,m59,m60,m61,m62,m63⟩:=zAx hm1
 have mL:=hm1.mB.lt
 have sL:=hs1.lt
 have gsm:gs≠gm:=zCQ hs1 hm1.mB (by decide)
 have HR1:=zA hr1
 have HAP:=zA hap
 have HBLK:=zA hblk
 have H1:=zA h1'
 have SA:=zA (fun W1 (h:Below w1.heap.size w1 W1)=>(show W1.cell? ⟨gs,0,none⟩=some (.pointer (some ⟨gm,0,none⟩)) from (zH h hs1).cell 0))
 have SB:=zA (hs'.cell 0)
 have SC:=zA (fun u=>(zU (w:=w') (i:=63) u gsm hs').cell 0)
 simp only [zS,List.getElem?_toArray,List.getElem?_cons_zero] at SB SC
 clear hr1 ho' hg' hblk hap hs' hM' hm1a hown1 hsl1 hm1 hs1 h1' hbs1 hi0 hz0 hz1 hz2
 refine wp_region_held_drew (S:=fun W1=>W1.cell? ⟨gs,0,none⟩=some (.pointer (some ⟨gm,0,none⟩))) (by kernel_rfl) (SA.out _ (zJ (Below.refl _ _))) (fun hHeld=>?_)
 refine wpAnyH_take (i:=0) (v:=?_) rfl (by kernel_rfl) (by kernel_rfl) (by kernel_rfl) (fun _ _ _ h=>h) (Or.inl ⟨by rfl,?hyT⟩) hHeld ?restT
 case hyT=>(intro w hSw;obtain r0:=hSw;go_simp;try with_reducible rfl)
 case restT =>
  try simp only [Act.put,zC,zD,zE]
  refine wpAnyH_take (i:=1) (v:=?_) rfl (by kernel_rfl) (by kernel_rfl) (by kernel_rfl) (fun _ _ _ h=>h) (Or.inl ⟨by rfl,?hyT⟩) hHeld ?restT
  case hyT=>(intro w hSw;obtain r0:=hSw;go_simp;try with_reducible rfl)
  case restT =>
   try simp only [Act.put,zC,zD,zE]
   refine wpAnyH_take (i:=2) (v:=?_) rfl (by kernel_rfl) (by kernel_rfl) (by kernel_rfl) (fun _ _ _ h=>h) (Or.inl ⟨by rfl,?hyT⟩) hHeld ?restT
   case hyT=>(intro w hSw;obtain r0:=hSw;go_simp;try with_reducible rfl)
   case restT =>
    try simp only [Act.put,zC,zD,zE]
    refine wpAnyH_take (i:=3) (v:=?_) rfl (by kernel_rfl) (by kernel_rfl) (by kernel_rfl) (fun _ _ _ h=>h) (Or.inl ⟨by rfl,?hyT⟩) hHeld ?restT
    case hyT=>(intro w hSw;obtain r0:=hSw;go_simp;try with_reducible rfl)
    case restT =>
     try simp only [Act.put,zC,zD,zE]
     refine wpAnyH_take (i:=4) (v:=?_) rfl (by kernel_rfl) (by kernel_rfl) (by kernel_rfl) (fun _ _ _ h=>h) (Or.inl ⟨by rfl,?hyT⟩) hHeld ?restT
     case hyT=>(intro w hSw;obtain r0:=hSw;go_simp;try with_reducible rfl)
     case restT =>
      try simp only [Act.put,zC,zD,zE]
      refine wpAnyH_take (i:=5) (v:=?_) rfl (by kernel_rfl) (by kernel_rfl) (by kernel_rfl) (fun _ _ _ h=>h) (Or.inl ⟨by rfl,?hyT⟩) hHeld ?restT
      case hyT=>(intro w hSw;obtain r0:=hSw;go_simp;try with_reducible rfl)
      case restT =>
       try simp only [Act.put,zC,zD,zE]
       refine wpAnyH_take (i:=6) (v:=?_) rfl (by kernel_rfl) (by kernel_rfl) (by kernel_rfl) (fun _ _ _ h=>h) (Or.inl ⟨by rfl,?hyT⟩) hHeld ?restT
       case hyT=>(intro w hSw;obtain r0:=hSw;go_simp;try with_reducible rfl)
       case restT =>
        try simp only [Act.put,zC,zD,zE]
        refine wpAnyH_take (i:=7) (v:=?_) rfl (by kernel_rfl) (by kernel_rfl) (by kernel_rfl) (fun _ _ _ h=>h) (Or.inl ⟨by rfl,?hyT⟩) hHeld ?restT
        case hyT=>(intro w hSw;obtain r0:=hSw;go_simp;try with_reducible rfl)
        case restT =>
         try simp only [Act.put,zC,zD,zE]
         refine wpAnyH_take (i:=8) (v:=?_) rfl (by kernel_rfl) (by kernel_rfl) (by kernel_rfl) (fun _ _ _ h=>h) (Or.inl ⟨by rfl,?hyT⟩) hHeld ?restT
         case hyT=>(intro w hSw;obtain r0:=hSw;go_simp;try with_reducible rfl)
         case restT =>
          try simp only [Act.put,zC,zD,zE]
          refine wpAnyH_take (i:=9) (v:=?_) rfl (by kernel_rfl) (by kernel_rfl) (by kernel_rfl) (fun _ _ _ h=>h) (Or.inl ⟨by rfl,?hyT⟩) hHeld ?restT
          case hyT=>(intro w hSw;obtain r0:=hSw;go_simp;try with_reducible rfl)
          case restT =>
           try simp only [Act.put,zC,zD,zE]
           refine wpAnyH_take (i:=11) (v:=?_) rfl (by kernel_rfl) (by kernel_rfl) (by kernel_rfl) (fun _ _ _ h=>h) (Or.inl ⟨by rfl,?hyT⟩) hHeld ?restT
           case hyT=>(intro w hSw;obtain r0:=hSw;go_simp;try with_reducible rfl)
           case restT =>
            try simp only [Act.put,zC,zD,zE]
            refine wpAnyH_ready (rs:=[10,12]) (by kernel_rfl) (by simp) ?_
            refine AllReadyH.cons rfl (fun K hK=>?_) (AllReadyH.cons rfl (fun K hK=>?_) AllReadyH.nil)
            ·go_simp
             refine hK.out _ _ (SA.out _ (by repeat (first | with_reducible exact Below.refl _ _ | with_reducible refine zG ?_ _ | with_reducible refine zJ ?_ | with_reducible refine zK ?_ (by first | omega | (simp;done) | (simp;omega)) _))) (fun hHeld=>?_)
             clear hK K
             try simp only [Act.put,zC,zD,zE]
             refine wpAnyH_ready (rs:=[12]) (by kernel_rfl) (by simp) ?_
             refine AllReadyH.cons rfl (fun K hK=>?_) AllReadyH.nil
             go_simp
             refine hK.out _ _ (SA.out _ (by repeat (first | with_reducible exact Below.refl _ _ | with_reducible refine zG ?_ _ | with_reducible refine zJ ?_ | with_reducible refine zK ?_ (by first | omega | (simp;done) | (simp;omega)) _))) (fun hHeld=>?_)
             clear hK K
             try simp only [Act.put,zC,zD,zE]
             refine wpAnyH_ready (rs:=[13]) (by kernel_rfl) (by simp) ?_
             refine AllReadyH.cons rfl (fun K hK=>?_) AllReadyH.nil
             refine zAu rfl _ _ 36 36 rfl (.slice oa m.out.length oc) (.slice (some ⟨w1.heap.size,0,none⟩) 1 1) rfl rfl HR1.out ?_
             refine hK.out _ _ (SB.out) (fun hHeld=>?_)
             clear hK K
             try simp only [Act.put,zC,zD,zE]
             refine wpAnyH_take (i:=14) (v:=?_) rfl (by kernel_rfl) (by kernel_rfl) (by kernel_rfl) (fun _ _ _ h=>h) (Or.inl ⟨by rfl,?hyT⟩) hHeld ?restT
             case hyT=>(intro w hSw;obtain r0:=hSw;go_simp;try with_reducible rfl)
             case restT =>
              try simp only [Act.put,zC,zD,zE]
              refine wpAnyH_take (i:=15) (v:=?_) rfl (by kernel_rfl) (by kernel_rfl) (by kernel_rfl) (fun _ _ _ h=>h) (Or.inl ⟨by rfl,?hyT⟩) hHeld ?restT
              case hyT=>(intro w hSw;obtain r0:=hSw;go_simp;try with_reducible rfl)
              case restT =>
               try simp only [Act.put,zC,zD,zE]
               refine wpAnyH_ready (rs:=[16]) (by kernel_rfl) (by simp) ?_
               refine AllReadyH.cons rfl (fun K hK=>?_) AllReadyH.nil
               go_simp
               refine hK.out _ _ (SC.out _) (fun hHeld=>?_)
               clear hK K
               try simp only [Act.put,zC,zD,zE]
               refine wpAnyH_done (by kernel_rfl) ?_ _
               go_wp2
               go_end0
               refine ⟨rfl,vs,.slice vao (m.out.length+1) vcap,HAP.out.1,(Fr.of (zI H1.out (zJ (zG (Below.refl _ _) _)))).trans HAP.out.2 (fun _ _ h=>h),NewB.refl _ _,fun k h=>?_⟩
               rcases HBLK.out with e | e
               ·exact .inl (e▸h)
               ·refine .inr ?_
                rw [h] at e
                injection e with e
                have:=H1.out.size
                simp [World.drew] at e
                omega
            ·go_simp
             refine hK.out _ _ (SA.out _ (by repeat (first | with_reducible exact Below.refl _ _ | with_reducible refine zG ?_ _ | with_reducible refine zJ ?_ | with_reducible refine zK ?_ (by first | omega | (simp;done) | (simp;omega)) _))) (fun hHeld=>?_)
             clear hK K
             try simp only [Act.put,zC,zD,zE]
             refine wpAnyH_ready (rs:=[10]) (by kernel_rfl) (by simp) ?_
             refine AllReadyH.cons rfl (fun K hK=>?_) AllReadyH.nil
             go_simp
             refine hK.out _ _ (SA.out _ (by repeat (first | with_reducible exact Below.refl _ _ | with_reducible refine zG ?_ _ | with_reducible refine zJ ?_ | with_reducible refine zK ?_ (by first | omega | (simp;done) | (simp;omega)) _))) (fun hHeld=>?_)
             clear hK K
             try simp only [Act.put,zC,zD,zE]
             refine wpAnyH_ready (rs:=[13]) (by kernel_rfl) (by simp) ?_
             refine AllReadyH.cons rfl (fun K hK=>?_) AllReadyH.nil
             refine zAu rfl _ _ 36 36 rfl (.slice oa m.out.length oc) (.slice (some ⟨w1.heap.size,0,none⟩) 1 1) rfl rfl HR1.out ?_
             refine hK.out _ _ (SB.out) (fun hHeld=>?_)
             clear hK K
             try simp only [Act.put,zC,zD,zE]
             refine wpAnyH_take (i:=14) (v:=?_) rfl (by kernel_rfl) (by kernel_rfl) (by kernel_rfl) (fun _ _ _ h=>h) (Or.inl ⟨by rfl,?hyT⟩) hHeld ?restT
             case hyT=>(intro w hSw;obtain r0:=hSw;go_simp;try with_reducible rfl)
             case restT =>
              try simp only [Act.put,zC,zD,zE]
              refine wpAnyH_take (i:=15) (v:=?_) rfl (by kernel_rfl) (by kernel_rfl) (by kernel_rfl) (fun _ _ _ h=>h) (Or.inl ⟨by rfl,?hyT⟩) hHeld ?restT
              case hyT=>(intro w hSw;obtain r0:=hSw;go_simp;try with_reducible rfl)
              case restT =>
               try simp only [Act.put,zC,zD,zE]
               refine wpAnyH_ready (rs:=[16]) (by kernel_rfl) (by simp) ?_
               refine AllReadyH.cons rfl (fun K hK=>?_) AllReadyH.nil
               go_simp
               refine hK.out _ _ (SC.out _) (fun hHeld=>?_)
               clear hK K
               try simp only [Act.put,zC,zD,zE]
               refine wpAnyH_done (by kernel_rfl) ?_ _
               go_wp2
               go_end0
               refine ⟨rfl,vs,.slice vao (m.out.length+1) vcap,HAP.out.1,(Fr.of (zI H1.out (zJ (zG (Below.refl _ _) _)))).trans HAP.out.2 (fun _ _ h=>h),NewB.refl _ _,fun k h=>?_⟩
               rcases HBLK.out with e | e
               ·exact .inl (e▸h)
               ·refine .inr ?_
                rw [h] at e
                injection e with e
                have:=H1.out.size
                simp [World.drew] at e
                omega
end
section
open Go.RowKit
def zCF (k:Nat) (c:Int) (l:List ValV):List ValV:=l.mapIdx fun r v=>if r < k∧c / (2 ^ r:Nat) % 2=1 then zeroV else v
theorem zIA (c:Int) (l:List ValV):zCF 0 c l=l:=by
 unfold zCF
 refine List.ext_getElem? fun j=>?_
 rw [List.getElem?_mapIdx]
 cases l[j]?<;>simp
theorem zI9 (c:Int) (l:List ValV) (h:l.length=8):zCF 8 c l=zCX c l:=by
 unfold zCF zCX
 refine List.ext_getElem? fun j=>?_
 rw [List.getElem?_mapIdx,List.getElem?_mapIdx]
 rcases Nat.lt_or_ge j 8 with hj | hj
 ·cases l[j]? with
  | none=>rfl
  | some v=>simp [hj]
 ·rw [List.getElem?_eq_none (by omega)];rfl
theorem zI8 {k:Nat} {c:Int} {l:List ValV} (hk:k < l.length) (h:c / (2 ^ k:Nat) % 2=1):(zCF k c l).set k zeroV=zCF (k+1) c l:=by
 refine List.ext_getElem? fun j=>?_
 rw [List.getElem?_set]
 unfold zCF
 rw [List.getElem?_mapIdx,List.getElem?_mapIdx,List.length_mapIdx]
 by_cases hj:k=j
 ·subst hj
  rw [if_pos rfl,if_pos hk,List.getElem?_eq_getElem hk]
  simp only [Option.map_some,Nat.lt_add_one,true_and,if_pos h]
 ·rw [if_neg hj]
  cases l[j]? with
  | none=>rfl
  | some v =>
   have e:(j < k)=(j < k+1):=by apply propext;omega
   simp only [Option.map_some,e]
theorem zJ9 {k:Nat} {c:Int} {l:List ValV} (h:¬c / (2 ^ k:Nat) % 2=1):zCF k c l=zCF (k+1) c l:=by
 refine List.ext_getElem? fun j=>?_
 unfold zCF
 rw [List.getElem?_mapIdx,List.getElem?_mapIdx]
 cases l[j]? with
 | none=>rfl
 | some v =>
  by_cases hj:j=k
  ·subst hj
   simp only [Option.map_some,Nat.lt_irrefl,false_and,if_false,Nat.lt_add_one,true_and,if_neg h]
  ·have e:(j < k)=(j < k+1):=by apply propext;omega
   simp only [Option.map_some,e]
theorem zIf {base:Nat} {W:World} {gs gm:Nat} {i:InstV} {m:MV} {vm vs vo:Value} (hs:Bk W gs 190 (zS gm i)) (hm:MS base gm vm vs vo m W) (ho:i.op=21) (hc0:0≤i.c) (hc1:i.c≤255) :
  Calls Tryz.prog 113 #[.pointer (some ⟨gs,0,none⟩)] W (StepPost base gm vm vs vo m W (.ok {m with R:=zCX i.c m.R})):=by
 obtain ⟨s0,s1,s2,s3,s4⟩:=zR hs
 have sL:=hs.lt
 rw [ho] at s1
 have h8:=hm.h8
 have hW:=World.block_lt_of_cell? W _ s0
 have HM:=zA hm
 have HSB:=zA hs
 generalize i.c=c at *
 generalize i.a=ia at *
 generalize i.b=ib at *
 clear hs hm
 go_enter Tryz.func113,Tryz.ntmps113
 go_upto_region 22 with (fail)
 obtain ⟨w1,hw1⟩:∃ w1,w1=W.alloc (.cells #[.int .i64 21,.int .i64 ia,.int .i64 ib,.int .i64 c] 179):=⟨_,rfl⟩
 have h1:Below W.heap.size W w1:=by rw [hw1];exact zG (Below.refl _ _) _
 have k1:Bk w1 W.heap.size 179 #[.int .i64 21,.int .i64 ia,.int .i64 ib,.int .i64 c]:=by rw [hw1];exact zM _ _ _
 have hs1:=zH h1 HSB.out
 have hm1:=HM.out.below h1
 rw [←hw1]
 have HS1:=zA hs1
 have HM1:=zA hm1
 have K1:=zA k1
 have H1:=zA h1
 clear hw1 h1 k1 hs1 hm1 s0 s1 s2 s3 s4 sL hW
 go_wp2_with fail
 go_loopw [77] (fun j wr=>∃ k:Nat,k≤8∧j=.int .i64 k∧MS base gm vm vs vo {m with R:=zCF k c m.R} wr∧Bk wr W.heap.size 179 #[.int .i64 21,.int .i64 ia,.int .i64 ib,.int .i64 c]∧Bk wr gs 190 (zS gm i)∧Fr (mS gm vm vs vo) W wr) (fun j _=>8 - (intOf j).toNat)
 case atStart=>exact ⟨0,by omega,rfl,by rw [zIA];exact HM1.out,K1.out,HS1.out,Fr.of H1.out⟩
 case round =>
  obtain ⟨k,hk,rfl,hmr,hkr,hsr,hfr⟩:=hrel
  by_cases hlt:k < 8
  ·have q1:(k:Int) < 8:=by omega
   have q0:(0:Int)≤(k:Int):=by omega
   have x3:=hkr.cell 3
   simp only [List.getElem?_toArray,List.getElem?_cons_zero,List.getElem?_cons_succ] at x3
   have xL:=hkr.lt
   have y0:=hsr.cell 0
   simp only [zS,List.getElem?_toArray,List.getElem?_cons_zero] at y0
   have yL:=hsr.lt
   have hh8:=hmr.h8
   obtain ⟨c0,c1,c2,c3,c4,c5,c6⟩:=zAf hmr.mB hmr.h8 hlt
   have mF:=fun j=>hmr.mB.frozen j
   have mL:=hmr.mB.lt
   have hp2:(2:Int) ^ k=((2 ^ k:Nat):Int):=by push_cast;rfl
   have hq0:0≤c / 2 ^ k:=Int.ediv_nonneg hc0 (by rw [hp2];exact Int.natCast_nonneg _)
   have hq1:c / 2 ^ k≤c:=Int.ediv_le_self _ hc0
   have hbit:bits .and .i64 (c / 2 ^ k) 1=c / 2 ^ k % 2:=zGd _ 1 (by decide) ⟨Int.le_trans (by decide) hq0,Int.le_trans hq1 (by omega)⟩
   have HMR:=zA hmr
   have HKR:=zA hkr
   have HSR:=zA hsr
   have HFR:=zA hfr
   by_cases hb:c / (2 ^ k:Nat) % 2=1
   ·have g1:(c / 2 ^ k % 2==1)=true:=by rw [hp2];simpa using hb
    have HB:=zA (zI8 (l:=m.R) (by omega) hb)
    clear hmr hkr hsr hfr hb hp2
    go_wp2
    rw [zCt]
    go_roundw
    case rel =>
     have h:=MSt.setReg HMR.out k hlt zeroV (us:=[.bool false,.int .i64 0,.int .i64 0,.int .i64 0,.int .i64 0,.int .i64 0,.int .i64 0]) rfl
     refine ⟨k+1,by omega,by go_num,?_,h.2.bk HKR.out (HMR.out.not HKR.out (by decide) (by decide) (by decide) (by decide)),h.2.bk HSR.out (HMR.out.not HSR.out (by decide) (by decide) (by decide) (by decide)),HFR.out.trans h.2 (fun _ _ h=>h)⟩
     have h1:=h.1
     unfold MV.set at h1
     rw [Int.toNat_natCast] at h1
     simp only [HB.out] at h1
     exact h1
    case measure=>simp [intOf];omega
   ·have g1:(c / 2 ^ k % 2==1)=false:=by rw [hp2];simpa using hb
    have HB:=zA (zJ9 (l:=m.R) hb)
    clear hmr hkr hsr hfr hb hp2
    go_wp2
    go_roundw
    case rel=>exact ⟨k+1,by omega,by go_num,by rw [←HB.out];exact HMR.out,HKR.out,HSR.out,HFR.out⟩
    case measure=>simp [intOf];omega
  ·have q1:¬((k:Int) < 8):=by omega
   obtain rfl:k=8:=by omega
   have HMR:=zA hmr
   have HFR:=zA hfr
   clear hmr hkr hsr hfr
   go_wp2
   go_end0
   refine ⟨rfl,vs,vo,?_,HFR.out,NewB.refl _ _,NewB.refl _ _⟩
   rw [←zI9 c m.R h8]
   exact HMR.out
end
end Go.Proofs.YtlpejagkadalbaaGreatDoor
