import Derived.Test.YtlpejagkadalbaaGreatDoorZk18
import Derived.Test.YtlpejagkadalbaaGreatDoorZk13
set_option maxHeartbeats 40000000
set_option maxRecDepth 100000
set_option linter.unusedVariables false
set_option linter.unusedSimpArgs false
namespace Go.Proofs.YtlpejagkadalbaaGreatDoor
open Go.RowKit
def zGf (k:Int) (base gm:Nat) (vm vs vo:Value) (m:MV) (W:World) (e:Ending) (w':World):Prop:=e=.panicked (zAj k)∧MS base gm vm vs vo m w'∧Fr (mS gm vm vs vo) W w'
theorem Thrown.m {k:Int} {base gm:Nat} {vm vs vo:Value} {m:MV} {W w':World} {e:Ending} (h:Thrown k W e w') (hm:MS base gm vm vs vo m W):zGf k base gm vm vs vo m W e w':=⟨h.1,hm.below h.2,Fr.of h.2⟩
theorem zDl {α β:Type} [El α] [El β] {w:World} {base base':Nat} {T T':TypeId} {v u:Value} {xs:List α} {ys:List β} (h:Own w base T v xs) (h':Own w base' T' u ys) (hT:T≠T') {g:Nat} (hv:v.ownBlock=some g) (hu:u.ownBlock=some g):False:=by
 rcases h.2 with ⟨rfl,_⟩ | ⟨g1,c1,cur1,rfl,_,e1,_⟩
 ·cases hv
 ·rcases h'.2 with ⟨rfl,_⟩ | ⟨g2,c2,cur2,rfl,_,e2,_⟩
  ·cases hu
  ·injection hv with hv
   injection hu with hu
   simp only at hv hu
   rw [hv] at e1
   rw [hu,e1] at e2
   injection e2 with e2
   injection e2 with _ e2
   exact hT e2
theorem zGk {base gm:Nat} {vm vs vo:Value} {m:MV} {W w':World} {mem:List ValV} (h:MS base gm vm vs vo m W) (ho:Own w' base 56 vm mem) (hg:W.drew.grownBy w' vm.ownBlock):MS base gm vm vs vo {m with mem:=mem} w' :=
 ⟨h.h8,(hg.block gm h.mB.lt (fun e=>zBZ h.om h.mB (by decide) e.symm)).trans h.mB,ho,zCo h.os fun g e=>hg.block g (zB0 h.os e).2 (fun e'=>zDl h.om h.os (by decide) (e'.symm) e),zCo h.oo fun g e=>hg.block g (zB0 h.oo e).2 (fun e'=>zDl h.om h.oo (by decide) (e'.symm) e)⟩
theorem zIU (w:World) (g:Nat) (u0 u1 u2 u3 u4 u5 u6:Value) :
  ((((((w.setCell ⟨g,0,none⟩ u0).setCell ⟨g,1,none⟩ u1).setCell ⟨g,2,none⟩ u2).setCell ⟨g,3,none⟩ u3).setCell ⟨g,4,none⟩ u4).setCell ⟨g,5,none⟩ u5).setCell ⟨g,6,none⟩ u6=w.setCells g 0 [u0,u1,u2,u3,u4,u5,u6]:=rfl
theorem zLc {base:Nat} {W:World} {gs gm:Nat} {i:InstV} {m:MV} {vm vs vo:Value} (hs:Bk W gs 190 (zS gm i)) (hm:MS base gm vm vs vo m W) (b:Nat) (hb:i.b=b) (b8:b < 8) (hi:(m.reg b).is=false) :
  Calls Tryz.prog 149 #[.pointer (some ⟨gs,0,none⟩)] W (Thrown 10 W):=by
 obtain ⟨s0,s1,s2,s3,s4⟩:=zR hs
 rw [hb] at s3
 have sL:=hs.lt
 have KO:=zA (zDn hs hm.mB hm.h8 b b8 hi)
 clear hs hm
 go_enter Tryz.func149,Tryz.ntmps149
 go_wp2_with (go_at_call 138;((with_reducible refine KO.out.mono ?_);rintro e w' ⟨rfl,hbT⟩))
 exact ⟨rfl,Thrown.of hbT⟩
theorem zGZ {base:Nat} {W:World} {gs gm:Nat} {i:InstV} {m:MV} {vm vs vo:Value} (hs:Bk W gs 190 (zS gm i)) (hm:MS base gm vm vs vo m W) (hR:∀ v∈m.R,v.wf) (ho:i.op=10) (a b:Nat) (ha:i.a=a) (hb:i.b=b) (a8:a < 8) (b8:b < 8) (hcI:I64 i.c) (hi:(m.reg b).is=true) (er:Int) (he:er≠0) (hr:zCD m.mem (m.reg b).k i.c=(zeroV,er)) :
  Calls Tryz.prog 149 #[.pointer (some ⟨gs,0,none⟩)] W (Thrown er W):=by
 obtain ⟨ma,mc,rfl,hsl,_⟩:=hm.om.sl
 obtain ⟨s0,s1,s2,s3,s4⟩:=zR hs
 rw [hb] at s3
 rw [ho] at s1
 rw [ha] at s2
 have sL:=hs.lt
 have gL:=hm.mB.lt
 have q1:(0:Int)≤(a:Int):=by omega
 have q2:(a:Int) < 8:=by omega
 have KO:=zAV hs hm.mB hm.h8 b b8 hi
 have hwf:=(zAq hm.h8 hR b).k
 have HM:=zA hm
 have HSB:=zA hs
 have h8:=hm.h8
 clear hs hm hR
 generalize (m.reg b).k=kk at *
 obtain ⟨kp,kb,kl,ka,ks⟩:=kk
 simp only at *
 have KO:=zA KO
 go_enter Tryz.func149,Tryz.ntmps149
 go_upto_region 4 with (go_at_call 138;((with_reducible refine KO.out.mono ?_);rintro e w2 ⟨rfl,hb2⟩;have u0:=HSB.out;have t0:=(zH hb2 u0).cell 0;have t1:=(zH hb2 u0).cell 1;have t2:=(zH hb2 u0).cell 2;have t3:=(zH hb2 u0).cell 3;have t4:=(zH hb2 u0).cell 4;have tL:=(zH hb2 u0).lt;simp only [zS,List.getElem?_toArray,List.getElem?_cons_zero,List.getElem?_cons_succ,ho,ha,hb] at t0 t1 t2 t3 t4;clear u0))
 obtain ⟨w4,hw4⟩:∃ w4,w4=(w2.alloc (.cells #[.int .i64 kp,.int .i64 kb,.int .i64 kl,.int .i64 ka,.int .i64 ks] 54)).alloc (.cells #[.int .i64 10,.int .i64 a,.int .i64 b,.int .i64 i.c] 179):=⟨_,rfl⟩
 have h24:Below w2.heap.size w2 w4:=by rw [hw4];exact zG (zG (Below.refl _ _) _) _
 have hW4:Below W.heap.size W w4:=zI hb2 h24
 have k2:Bk w4 w2.heap.size 54 #[.int .i64 kp,.int .i64 kb,.int .i64 kl,.int .i64 ka,.int .i64 ks]:=by rw [hw4];exact zN _ (zM _ _ _)
 have k3:Bk w4 (w2.heap.size+1) 179 #[.int .i64 10,.int .i64 a,.int .i64 b,.int .i64 i.c]:=by rw [hw4];exact zO _ _ (by simp)
 have hm4:=HM.out.below hW4
 have hs4:=zH hW4 HSB.out
 have hS:∀ W1,Bk W1 gs 190 (zS gm i)→Bk W1 w2.heap.size 54 #[.int .i64 kp,.int .i64 kb,.int .i64 kl,.int .i64 ka,.int .i64 ks]→Bk W1 (w2.heap.size+1) 179 #[.int .i64 10,.int .i64 a,.int .i64 b,.int .i64 i.c]→Bk W1 gm 60 (mcs m.R m.c (.slice ma m.mem.length mc) vs vo)→W1.cell? ⟨gs,0,none⟩=some (.pointer (some ⟨gm,0,none⟩))∧W1.cell? ⟨w2.heap.size+1,3,none⟩=some (.int .i64 i.c)∧W1.cell? ⟨w2.heap.size,0,none⟩=some (.int .i64 kp)∧W1.cell? ⟨w2.heap.size,1,none⟩=some (.int .i64 kb)∧W1.cell? ⟨w2.heap.size,2,none⟩=some (.int .i64 kl)∧W1.cell? ⟨w2.heap.size,3,none⟩=some (.int .i64 ka)∧W1.cell? ⟨w2.heap.size,4,none⟩=some (.int .i64 ks)∧W1.cell? ⟨gm,61,none⟩=some (.slice ma m.mem.length mc):=fun W1 h1 h2 h3 h4=>⟨h1.cell 0,h3.cell 3,h2.cell 0,h2.cell 1,h2.cell 2,h2.cell 3,h2.cell 4,(h4.cell 61).trans (zAU h8 5)⟩
 have HS:=zA (fun W1 (h:Below w4.heap.size w4 W1)=>hS W1 (zH h hs4) (zH h k2) (zH h k3) (zH h hm4.mB))
 have t4L:gs < w4.heap.size:=hs4.lt
 have t2L:w2.heap.size < w4.heap.size:=k2.lt
 have t3L:w2.heap.size+1 < w4.heap.size:=k3.lt
 have tmL:gm < w4.heap.size:=hm4.mB.lt
 have HW4:=zA hW4
 have HM4:=zA hm4
 have oc:∀ W1,Below w4.heap.size w4 W1→Calls Tryz.prog 169 #[.slice ma m.mem.length mc,.agg #[.int .i64 kp,.int .i64 kb,.int .i64 kl,.int .i64 ka,.int .i64 ks],.int .i64 i.c] W1 fun e w'=>e=.returned (.tuple #[zeroV.val,.int .i64 er])∧Below W1.heap.size W1 w':=fun W1 h=>by have g:=zHo ma m.mem.length mc m.mem kp kb kl ka ks i.c hwf hcI W1 (hsl.below (zI hW4 h));rw [hr] at g;exact g
 simp only [ValV.val,zeroV,zeroK] at oc
 have OC:=zA oc
 have MB:=zA (fun W=>zAv er he W)
 clear oc hr hsl
 rw [←hw4]
 clear hS hs4 hm4 k2 k3 hw4 h24 hW4 hb2 t0 t1 t2 t3 t4
 refine wp_region_held_drew (S:=fun W1=>W1.cell? ⟨gs,0,none⟩=some (.pointer (some ⟨gm,0,none⟩))∧W1.cell? ⟨w2.heap.size+1,3,none⟩=some (.int .i64 i.c)∧W1.cell? ⟨w2.heap.size,0,none⟩=some (.int .i64 kp)∧W1.cell? ⟨w2.heap.size,1,none⟩=some (.int .i64 kb)∧W1.cell? ⟨w2.heap.size,2,none⟩=some (.int .i64 kl)∧W1.cell? ⟨w2.heap.size,3,none⟩=some (.int .i64 ka)∧W1.cell? ⟨w2.heap.size,4,none⟩=some (.int .i64 ks)∧W1.cell? ⟨gm,61,none⟩=some (.slice ma m.mem.length mc)) (by kernel_rfl) (HS.out _ (zJ (Below.refl _ _))) (fun hHeld=>?_)
 refine wpAnyH_take (i:=0) (v:=?_) rfl (by kernel_rfl) (by kernel_rfl) (by kernel_rfl) (fun _ _ _ h=>h) (Or.inl ⟨by rfl,?hy⟩) hHeld ?rest
 case hy=>(intro w hSw;obtain ⟨r0,r1,r2,r3,r4,r5,r6,r7⟩:=hSw;go_simp;try with_reducible rfl)
 case rest =>
  try simp only [Act.put,zC,zD,zE]
  refine wpAnyH_take (i:=1) (v:=?_) rfl (by kernel_rfl) (by kernel_rfl) (by kernel_rfl) (fun _ _ _ h=>h) (Or.inl ⟨by rfl,?hy⟩) hHeld ?rest
  case hy=>(intro w hSw;obtain ⟨r0,r1,r2,r3,r4,r5,r6,r7⟩:=hSw;go_simp;try with_reducible rfl)
  case rest =>
   try simp only [Act.put,zC,zD,zE]
   refine wpAnyH_take (i:=2) (v:=?_) rfl (by kernel_rfl) (by kernel_rfl) (by kernel_rfl) (fun _ _ _ h=>h) (Or.inl ⟨by rfl,?hy⟩) hHeld ?rest
   case hy=>(intro w hSw;obtain ⟨r0,r1,r2,r3,r4,r5,r6,r7⟩:=hSw;go_simp;try with_reducible rfl)
   case rest =>
    try simp only [Act.put,zC,zD,zE]
    refine wpAnyH_take (i:=3) (v:=?_) rfl (by kernel_rfl) (by kernel_rfl) (by kernel_rfl) (fun _ _ _ h=>h) (Or.inl ⟨by rfl,?hy⟩) hHeld ?rest
    case hy=>(intro w hSw;obtain ⟨r0,r1,r2,r3,r4,r5,r6,r7⟩:=hSw;go_simp;try with_reducible rfl)
    case rest =>
     try simp only [Act.put,zC,zD,zE]
     refine wpAnyH_take (i:=4) (v:=?_) rfl (by kernel_rfl) (by kernel_rfl) (by kernel_rfl) (fun _ _ _ h=>h) (Or.inl ⟨by rfl,?hy⟩) hHeld ?rest
     case hy=>(intro w hSw;obtain ⟨r0,r1,r2,r3,r4,r5,r6,r7⟩:=hSw;go_simp;try with_reducible rfl)
     case rest =>
      try simp only [Act.put,zC,zD,zE]
      refine wpAnyH_take (i:=5) (v:=?_) rfl (by kernel_rfl) (by kernel_rfl) (by kernel_rfl) (fun _ _ _ h=>h) (Or.inl ⟨by rfl,?hy⟩) hHeld ?rest
      case hy=>(intro w hSw;obtain ⟨r0,r1,r2,r3,r4,r5,r6,r7⟩:=hSw;go_simp;try with_reducible rfl)
      case rest =>
       try simp only [Act.put,zC,zD,zE]
       refine wpAnyH_take (i:=6) (v:=?_) rfl (by kernel_rfl) (by kernel_rfl) (by kernel_rfl) (fun _ _ _ h=>h) (Or.inl ⟨by rfl,?hy⟩) hHeld ?rest
       case hy=>(intro w hSw;obtain ⟨r0,r1,r2,r3,r4,r5,r6,r7⟩:=hSw;go_simp;try with_reducible rfl)
       case rest =>
        try simp only [Act.put,zC,zD,zE]
        refine wpAnyH_take (i:=7) (v:=?_) rfl (by kernel_rfl) (by kernel_rfl) (by kernel_rfl) (fun _ _ _ h=>h) (Or.inl ⟨by rfl,?hy⟩) hHeld ?rest
        case hy=>(intro w hSw;obtain ⟨r0,r1,r2,r3,r4,r5,r6,r7⟩:=hSw;go_simp;try with_reducible rfl)
        case rest =>
         try simp only [Act.put,zC,zD,zE]
         refine wpAnyH_take (i:=8) (v:=?_) rfl (by kernel_rfl) (by kernel_rfl) (by kernel_rfl) (fun _ _ _ h=>h) (Or.inl ⟨by rfl,?hy⟩) hHeld ?rest
         case hy=>(intro w hSw;obtain ⟨r0,r1,r2,r3,r4,r5,r6,r7⟩:=hSw;go_simp;try with_reducible rfl)
         case rest =>
          try simp only [Act.put,zC,zD,zE]
          refine wpAnyH_take (i:=9) (v:=?_) rfl (by kernel_rfl) (by kernel_rfl) (by kernel_rfl) (fun _ _ _ h=>h) (Or.inl ⟨by rfl,?hy⟩) hHeld ?rest
          case hy=>(intro w hSw;obtain ⟨r0,r1,r2,r3,r4,r5,r6,r7⟩:=hSw;go_simp;try with_reducible rfl)
          case rest =>
           try simp only [Act.put,zC,zD,zE]
           refine wpAnyH_ready (rs:=[10,14]) (by kernel_rfl) (by simp) ?_
           refine AllReadyH.cons rfl (fun K hK=>?_) (AllReadyH.cons rfl (fun K hK=>?_) AllReadyH.nil)
           ·go_simp
            go_wp2_with (go_at_call 169;((with_reducible refine (OC.out _ (by repeat (first | with_reducible exact Below.refl _ _ | with_reducible refine zG ?_ _ | with_reducible refine zJ ?_ | with_reducible refine zK ?_ (by first | omega | (simp;done) | (simp;omega)) _))).mono ?_);rintro e w5 ⟨rfl,hb5⟩;have HB5:=zA (show Below w4.heap.size w4 w5 from zI (by repeat (first | with_reducible exact Below.refl _ _ | with_reducible refine zG ?_ _ | with_reducible refine zJ ?_ | with_reducible refine zK ?_ (by first | omega | (simp;done) | (simp;omega)) _)) hb5);have HS5:=zA (HS.out _ HB5.out)))
            refine hK.out _ _ (HS5.out) (fun hHeld=>?_)
            clear hK K
            try simp only [Act.put,zC,zD,zE]
            refine wpAnyH_take (i:=11) (v:=?_) rfl (by kernel_rfl) (by kernel_rfl) (by kernel_rfl) (fun _ _ _ h=>h) (Or.inl ⟨by rfl,?hy⟩) hHeld ?rest
            case hy=>(intro w hSw;obtain ⟨r0,r1,r2,r3,r4,r5,r6,r7⟩:=hSw;go_simp;try with_reducible rfl)
            case rest =>
             try simp only [Act.put,zC,zD,zE]
             refine wpAnyH_take (i:=12) (v:=?_) rfl (by kernel_rfl) (by kernel_rfl) (by kernel_rfl) (fun _ _ _ h=>h) (Or.inl ⟨by rfl,?hy⟩) hHeld ?rest
             case hy=>(intro w hSw;obtain ⟨r0,r1,r2,r3,r4,r5,r6,r7⟩:=hSw;go_simp;try with_reducible rfl)
             case rest =>
              try simp only [Act.put,zC,zD,zE]
              refine wpAnyH_take (i:=13) (v:=?_) rfl (by kernel_rfl) (by kernel_rfl) (by kernel_rfl) (fun _ _ _ h=>h) (Or.inl ⟨by rfl,?hy⟩) hHeld ?rest
              case hy=>(intro w hSw;obtain ⟨r0,r1,r2,r3,r4,r5,r6,r7⟩:=hSw;go_simp;try with_reducible rfl)
              case rest =>
               try simp only [Act.put,zC,zD,zE]
               refine wpAnyH_ready (rs:=[14]) (by kernel_rfl) (by simp) ?_
               refine AllReadyH.cons rfl (fun K hK=>?_) AllReadyH.nil
               go_simp
               refine hK.out _ _ (HS.out _ (by repeat (first | with_reducible exact HB5.out | with_reducible refine zG ?_ _ | with_reducible refine zJ ?_ | with_reducible refine zK ?_ (by first | omega | (simp;done) | (simp;omega)) _))) (fun hHeld=>?_)
               clear hK K
               try simp only [Act.put,zC,zD,zE]
               refine wpAnyH_ready (rs:=[15]) (by kernel_rfl) (by simp) ?_
               refine AllReadyH.cons rfl (fun K hK=>?_) AllReadyH.nil
               go_simp
               refine hK.out _ _ (HS.out _ (by repeat (first | with_reducible exact HB5.out | with_reducible refine zG ?_ _ | with_reducible refine zJ ?_ | with_reducible refine zK ?_ (by first | omega | (simp;done) | (simp;omega)) _))) (fun hHeld=>?_)
               clear hK K
               try simp only [Act.put,zC,zD,zE]
               refine wpAnyH_take (i:=16) (v:=?_) rfl (by kernel_rfl) (by kernel_rfl) (by kernel_rfl) (fun _ _ _ h=>h) (Or.inl ⟨by rfl,?hy⟩) hHeld ?rest
               case hy=>(intro w hSw;obtain ⟨r0,r1,r2,r3,r4,r5,r6,r7⟩:=hSw;go_simp;try with_reducible rfl)
               case rest =>
                try simp only [Act.put,zC,zD,zE]
                refine wpAnyH_done (by kernel_rfl) ?_ _
                go_wp2_with (go_at_call 107;((with_reducible refine (MB.out _).mono ?_);rintro e w7 ⟨rfl,rfl⟩))
                exact ⟨rfl,Thrown.of (zI HW4.out (by repeat (first | with_reducible exact HB5.out | with_reducible refine zG ?_ _ | with_reducible refine zJ ?_ | with_reducible refine zK ?_ (by first | omega | (simp;done) | (simp;omega)) _)))⟩
           ·go_simp
            refine hK.out _ _ (HS.out _ (by repeat (first | with_reducible exact Below.refl _ _ | with_reducible refine zG ?_ _ | with_reducible refine zJ ?_ | with_reducible refine zK ?_ (by first | omega | (simp;done) | (simp;omega)) _))) (fun hHeld=>?_)
            clear hK K
            try simp only [Act.put,zC,zD,zE]
            refine wpAnyH_ready (rs:=[10]) (by kernel_rfl) (by simp) ?_
            refine AllReadyH.cons rfl (fun K hK=>?_) AllReadyH.nil
            go_simp
            go_wp2_with (go_at_call 169;((with_reducible refine (OC.out _ (by repeat (first | with_reducible exact Below.refl _ _ | with_reducible refine zG ?_ _ | with_reducible refine zJ ?_ | with_reducible refine zK ?_ (by first | omega | (simp;done) | (simp;omega)) _))).mono ?_);rintro e w5 ⟨rfl,hb5⟩;have kz:Bk w5 w4.heap.size 56 #[.bool false,.int .i64 0,.int .i64 0,.int .i64 0,.int .i64 0,.int .i64 0,.int .i64 0]:=zH hb5 (by repeat (first | with_reducible exact zM _ _ _ | with_reducible refine zP ?_));obtain ⟨z0,z1,z2,z3,z4,z5,z6⟩:=zBs kz;have zF:=fun j=>kz.frozen j;have zL:=kz.lt;have HB5:=zA (show Below w4.heap.size w4 w5 from zI (by repeat (first | with_reducible exact Below.refl _ _ | with_reducible refine zG ?_ _ | with_reducible refine zJ ?_ | with_reducible refine zK ?_ (by first | omega | (simp;done) | (simp;omega)) _)) hb5);have HS5:=zA (HS.out _ HB5.out)))
            refine hK.out _ _ (HS5.out) (fun hHeld=>?_)
            clear hK K
            try simp only [Act.put,zC,zD,zE]
            refine wpAnyH_take (i:=11) (v:=?_) rfl (by kernel_rfl) (by kernel_rfl) (by kernel_rfl) (fun _ _ _ h=>h) (Or.inl ⟨by rfl,?hy⟩) hHeld ?rest
            case hy=>(intro w hSw;obtain ⟨r0,r1,r2,r3,r4,r5,r6,r7⟩:=hSw;go_simp;try with_reducible rfl)
            case rest =>
             try simp only [Act.put,zC,zD,zE]
             refine wpAnyH_take (i:=12) (v:=?_) rfl (by kernel_rfl) (by kernel_rfl) (by kernel_rfl) (fun _ _ _ h=>h) (Or.inl ⟨by rfl,?hy⟩) hHeld ?rest
             case hy=>(intro w hSw;obtain ⟨r0,r1,r2,r3,r4,r5,r6,r7⟩:=hSw;go_simp;try with_reducible rfl)
             case rest =>
              try simp only [Act.put,zC,zD,zE]
              refine wpAnyH_take (i:=13) (v:=?_) rfl (by kernel_rfl) (by kernel_rfl) (by kernel_rfl) (fun _ _ _ h=>h) (Or.inl ⟨by rfl,?hy⟩) hHeld ?rest
              case hy=>(intro w hSw;obtain ⟨r0,r1,r2,r3,r4,r5,r6,r7⟩:=hSw;go_simp;try with_reducible rfl)
              case rest =>
               try simp only [Act.put,zC,zD,zE]
               refine wpAnyH_ready (rs:=[15]) (by kernel_rfl) (by simp) ?_
               refine AllReadyH.cons rfl (fun K hK=>?_) AllReadyH.nil
               go_simp
               refine hK.out _ _ (HS.out _ (by repeat (first | with_reducible exact HB5.out | with_reducible refine zG ?_ _ | with_reducible refine zJ ?_ | with_reducible refine zK ?_ (by first | omega | (simp;done) | (simp;omega)) _))) (fun hHeld=>?_)
               clear hK K
               try simp only [Act.put,zC,zD,zE]
               refine wpAnyH_take (i:=16) (v:=?_) rfl (by kernel_rfl) (by kernel_rfl) (by kernel_rfl) (fun _ _ _ h=>h) (Or.inl ⟨by rfl,?hy⟩) hHeld ?rest
               case hy=>(intro w hSw;obtain ⟨r0,r1,r2,r3,r4,r5,r6,r7⟩:=hSw;go_simp;try with_reducible rfl)
               case rest =>
                try simp only [Act.put,zC,zD,zE]
                refine wpAnyH_done (by kernel_rfl) ?_ _
                go_wp2_with (go_at_call 107;((with_reducible refine (MB.out _).mono ?_);rintro e w7 ⟨rfl,rfl⟩))
                exact ⟨rfl,Thrown.of (zI HW4.out (by repeat (first | with_reducible exact HB5.out | with_reducible refine zG ?_ _ | with_reducible refine zJ ?_ | with_reducible refine zK ?_ (by first | omega | (simp;done) | (simp;omega)) _)))⟩
theorem zHL {base:Nat} {W:World} {gs gm:Nat} {i:InstV} {m:MV} {vm vs vo:Value} (hs:Bk W gs 190 (zS gm i)) (hm:MS base gm vm vs vo m W) (hR:∀ v∈m.R,v.wf) (ho:i.op=10) (a b:Nat) (ha:i.a=a) (hb:i.b=b) (a8:a < 8) (b8:b < 8) (hcI:I64 i.c) (hi:(m.reg b).is=true) (v:ValV) (hr:zCD m.mem (m.reg b).k i.c=(v,0)) :
  Calls Tryz.prog 149 #[.pointer (some ⟨gs,0,none⟩)] W (SPost base gm vm vs vo (m.set a v) W):=by
 obtain ⟨ma,mc,rfl,hsl,_⟩:=hm.om.sl
 obtain ⟨s0,s1,s2,s3,s4⟩:=zR hs
 rw [hb] at s3
 rw [ho] at s1
 rw [ha] at s2
 have sL:=hs.lt
 have gL:=hm.mB.lt
 have q1:(0:Int)≤(a:Int):=by omega
 have q2:(a:Int) < 8:=by omega
 have KO:=zAV hs hm.mB hm.h8 b b8 hi
 have hwf:=(zAq hm.h8 hR b).k
 have HM:=zA hm
 have HSB:=zA hs
 have h8:=hm.h8
 clear hs hm hR
 generalize (m.reg b).k=kk at *
 obtain ⟨kp,kb,kl,ka,ks⟩:=kk
 simp only at *
 have KO:=zA KO
 go_enter Tryz.func149,Tryz.ntmps149
 go_upto_region 4 with (go_at_call 138;((with_reducible refine KO.out.mono ?_);rintro e w2 ⟨rfl,hb2⟩;have u0:=HSB.out;have t0:=(zH hb2 u0).cell 0;have t1:=(zH hb2 u0).cell 1;have t2:=(zH hb2 u0).cell 2;have t3:=(zH hb2 u0).cell 3;have t4:=(zH hb2 u0).cell 4;have tL:=(zH hb2 u0).lt;simp only [zS,List.getElem?_toArray,List.getElem?_cons_zero,List.getElem?_cons_succ,ho,ha,hb] at t0 t1 t2 t3 t4;clear u0))
 obtain ⟨w4,hw4⟩:∃ w4,w4=(w2.alloc (.cells #[.int .i64 kp,.int .i64 kb,.int .i64 kl,.int .i64 ka,.int .i64 ks] 54)).alloc (.cells #[.int .i64 10,.int .i64 a,.int .i64 b,.int .i64 i.c] 179):=⟨_,rfl⟩
 have h24:Below w2.heap.size w2 w4:=by rw [hw4];exact zG (zG (Below.refl _ _) _) _
 have hW4:Below W.heap.size W w4:=zI hb2 h24
 have k2:Bk w4 w2.heap.size 54 #[.int .i64 kp,.int .i64 kb,.int .i64 kl,.int .i64 ka,.int .i64 ks]:=by rw [hw4];exact zN _ (zM _ _ _)
 have k3:Bk w4 (w2.heap.size+1) 179 #[.int .i64 10,.int .i64 a,.int .i64 b,.int .i64 i.c]:=by rw [hw4];exact zO _ _ (by simp)
 have hm4:=HM.out.below hW4
 have hs4:=zH hW4 HSB.out
 have hS:∀ W1,Bk W1 gs 190 (zS gm i)→Bk W1 w2.heap.size 54 #[.int .i64 kp,.int .i64 kb,.int .i64 kl,.int .i64 ka,.int .i64 ks]→Bk W1 (w2.heap.size+1) 179 #[.int .i64 10,.int .i64 a,.int .i64 b,.int .i64 i.c]→Bk W1 gm 60 (mcs m.R m.c (.slice ma m.mem.length mc) vs vo)→W1.cell? ⟨gs,0,none⟩=some (.pointer (some ⟨gm,0,none⟩))∧W1.cell? ⟨w2.heap.size+1,3,none⟩=some (.int .i64 i.c)∧W1.cell? ⟨w2.heap.size,0,none⟩=some (.int .i64 kp)∧W1.cell? ⟨w2.heap.size,1,none⟩=some (.int .i64 kb)∧W1.cell? ⟨w2.heap.size,2,none⟩=some (.int .i64 kl)∧W1.cell? ⟨w2.heap.size,3,none⟩=some (.int .i64 ka)∧W1.cell? ⟨w2.heap.size,4,none⟩=some (.int .i64 ks)∧W1.cell? ⟨gm,61,none⟩=some (.slice ma m.mem.length mc):=fun W1 h1 h2 h3 h4=>⟨h1.cell 0,h3.cell 3,h2.cell 0,h2.cell 1,h2.cell 2,h2.cell 3,h2.cell 4,(h4.cell 61).trans (zAU h8 5)⟩
 have HS:=zA (fun W1 (h:Below w4.heap.size w4 W1)=>hS W1 (zH h hs4) (zH h k2) (zH h k3) (zH h hm4.mB))
 have t4L:gs < w4.heap.size:=hs4.lt
 have t2L:w2.heap.size < w4.heap.size:=k2.lt
 have t3L:w2.heap.size+1 < w4.heap.size:=k3.lt
 have tmL:gm < w4.heap.size:=hm4.mB.lt
 have HW4:=zA hW4
 have TA:=zA (fun W1 (h:Below w4.heap.size w4 W1)=>(show W1.cell? ⟨w2.heap.size+1,1,none⟩=some (.int .i64 a) from (zH h k3).cell 1))
 have HM4:=zA hm4
 obtain ⟨vi,vn,⟨vp,vb,vl,va,vs_⟩⟩:=v
 have oc:∀ W1,Below w4.heap.size w4 W1→Calls Tryz.prog 169 #[.slice ma m.mem.length mc,.agg #[.int .i64 kp,.int .i64 kb,.int .i64 kl,.int .i64 ka,.int .i64 ks],.int .i64 i.c] W1 fun e w'=>e=.returned (.tuple #[(⟨vi,vn,⟨vp,vb,vl,va,vs_⟩⟩:ValV).val,.int .i64 0])∧Below W1.heap.size W1 w':=fun W1 h=>by have g:=zHo ma m.mem.length mc m.mem kp kb kl ka ks i.c hwf hcI W1 (hsl.below (zI hW4 h));rw [hr] at g;exact g
 simp only [ValV.val] at oc
 have OC:=zA oc
 clear oc hr hsl
 rw [←hw4]
 clear hS hs4 hm4 k2 k3 hw4 h24 hW4 hb2 t0 t1 t2 t3 t4
 refine wp_region_held_drew (S:=fun W1=>W1.cell? ⟨gs,0,none⟩=some (.pointer (some ⟨gm,0,none⟩))∧W1.cell? ⟨w2.heap.size+1,3,none⟩=some (.int .i64 i.c)∧W1.cell? ⟨w2.heap.size,0,none⟩=some (.int .i64 kp)∧W1.cell? ⟨w2.heap.size,1,none⟩=some (.int .i64 kb)∧W1.cell? ⟨w2.heap.size,2,none⟩=some (.int .i64 kl)∧W1.cell? ⟨w2.heap.size,3,none⟩=some (.int .i64 ka)∧W1.cell? ⟨w2.heap.size,4,none⟩=some (.int .i64 ks)∧W1.cell? ⟨gm,61,none⟩=some (.slice ma m.mem.length mc)) (by kernel_rfl) (HS.out _ (zJ (Below.refl _ _))) (fun hHeld=>?_)
 refine wpAnyH_take (i:=0) (v:=?_) rfl (by kernel_rfl) (by kernel_rfl) (by kernel_rfl) (fun _ _ _ h=>h) (Or.inl ⟨by rfl,?hy⟩) hHeld ?rest
 case hy=>(intro w hSw;obtain ⟨r0,r1,r2,r3,r4,r5,r6,r7⟩:=hSw;go_simp;try with_reducible rfl)
 case rest =>
  try simp only [Act.put,zC,zD,zE]
  refine wpAnyH_take (i:=1) (v:=?_) rfl (by kernel_rfl) (by kernel_rfl) (by kernel_rfl) (fun _ _ _ h=>h) (Or.inl ⟨by rfl,?hy⟩) hHeld ?rest
  case hy=>(intro w hSw;obtain ⟨r0,r1,r2,r3,r4,r5,r6,r7⟩:=hSw;go_simp;try with_reducible rfl)
  case rest =>
   try simp only [Act.put,zC,zD,zE]
   refine wpAnyH_take (i:=2) (v:=?_) rfl (by kernel_rfl) (by kernel_rfl) (by kernel_rfl) (fun _ _ _ h=>h) (Or.inl ⟨by rfl,?hy⟩) hHeld ?rest
   case hy=>(intro w hSw;obtain ⟨r0,r1,r2,r3,r4,r5,r6,r7⟩:=hSw;go_simp;try with_reducible rfl)
   case rest =>
    try simp only [Act.put,zC,zD,zE]
    refine wpAnyH_take (i:=3) (v:=?_) rfl (by kernel_rfl) (by kernel_rfl) (by kernel_rfl) (fun _ _ _ h=>h) (Or.inl ⟨by rfl,?hy⟩) hHeld ?rest
    case hy=>(intro w hSw;obtain ⟨r0,r1,r2,r3,r4,r5,r6,r7⟩:=hSw;go_simp;try with_reducible rfl)
    case rest =>
     try simp only [Act.put,zC,zD,zE]
     refine wpAnyH_take (i:=4) (v:=?_) rfl (by kernel_rfl) (by kernel_rfl) (by kernel_rfl) (fun _ _ _ h=>h) (Or.inl ⟨by rfl,?hy⟩) hHeld ?rest
     case hy=>(intro w hSw;obtain ⟨r0,r1,r2,r3,r4,r5,r6,r7⟩:=hSw;go_simp;try with_reducible rfl)
     case rest =>
      try simp only [Act.put,zC,zD,zE]
      refine wpAnyH_take (i:=5) (v:=?_) rfl (by kernel_rfl) (by kernel_rfl) (by kernel_rfl) (fun _ _ _ h=>h) (Or.inl ⟨by rfl,?hy⟩) hHeld ?rest
      case hy=>(intro w hSw;obtain ⟨r0,r1,r2,r3,r4,r5,r6,r7⟩:=hSw;go_simp;try with_reducible rfl)
      case rest =>
       try simp only [Act.put,zC,zD,zE]
       refine wpAnyH_take (i:=6) (v:=?_) rfl (by kernel_rfl) (by kernel_rfl) (by kernel_rfl) (fun _ _ _ h=>h) (Or.inl ⟨by rfl,?hy⟩) hHeld ?rest
       case hy=>(intro w hSw;obtain ⟨r0,r1,r2,r3,r4,r5,r6,r7⟩:=hSw;go_simp;try with_reducible rfl)
       case rest =>
        try simp only [Act.put,zC,zD,zE]
        refine wpAnyH_take (i:=7) (v:=?_) rfl (by kernel_rfl) (by kernel_rfl) (by kernel_rfl) (fun _ _ _ h=>h) (Or.inl ⟨by rfl,?hy⟩) hHeld ?rest
        case hy=>(intro w hSw;obtain ⟨r0,r1,r2,r3,r4,r5,r6,r7⟩:=hSw;go_simp;try with_reducible rfl)
        case rest =>
         try simp only [Act.put,zC,zD,zE]
         refine wpAnyH_take (i:=8) (v:=?_) rfl (by kernel_rfl) (by kernel_rfl) (by kernel_rfl) (fun _ _ _ h=>h) (Or.inl ⟨by rfl,?hy⟩) hHeld ?rest
         case hy=>(intro w hSw;obtain ⟨r0,r1,r2,r3,r4,r5,r6,r7⟩:=hSw;go_simp;try with_reducible rfl)
         case rest =>
          try simp only [Act.put,zC,zD,zE]
          refine wpAnyH_take (i:=9) (v:=?_) rfl (by kernel_rfl) (by kernel_rfl) (by kernel_rfl) (fun _ _ _ h=>h) (Or.inl ⟨by rfl,?hy⟩) hHeld ?rest
          case hy=>(intro w hSw;obtain ⟨r0,r1,r2,r3,r4,r5,r6,r7⟩:=hSw;go_simp;try with_reducible rfl)
          case rest =>
           try simp only [Act.put,zC,zD,zE]
           refine wpAnyH_ready (rs:=[10,14]) (by kernel_rfl) (by simp) ?_
           refine AllReadyH.cons rfl (fun K hK=>?_) (AllReadyH.cons rfl (fun K hK=>?_) AllReadyH.nil)
           ·go_simp
            go_wp2_with (go_at_call 169;((with_reducible refine (OC.out _ (by repeat (first | with_reducible exact Below.refl _ _ | with_reducible refine zG ?_ _ | with_reducible refine zJ ?_ | with_reducible refine zK ?_ (by first | omega | (simp;done) | (simp;omega)) _))).mono ?_);rintro e w5 ⟨rfl,hb5⟩;have HB5:=zA (show Below w4.heap.size w4 w5 from zI (by repeat (first | with_reducible exact Below.refl _ _ | with_reducible refine zG ?_ _ | with_reducible refine zJ ?_ | with_reducible refine zK ?_ (by first | omega | (simp;done) | (simp;omega)) _)) hb5);have HS5:=zA (HS.out _ HB5.out)))
            refine hK.out _ _ (HS5.out) (fun hHeld=>?_)
            clear hK K
            try simp only [Act.put,zC,zD,zE]
            refine wpAnyH_take (i:=11) (v:=?_) rfl (by kernel_rfl) (by kernel_rfl) (by kernel_rfl) (fun _ _ _ h=>h) (Or.inl ⟨by rfl,?hy⟩) hHeld ?rest
            case hy=>(intro w hSw;obtain ⟨r0,r1,r2,r3,r4,r5,r6,r7⟩:=hSw;go_simp;try with_reducible rfl)
            case rest =>
             try simp only [Act.put,zC,zD,zE]
             refine wpAnyH_take (i:=12) (v:=?_) rfl (by kernel_rfl) (by kernel_rfl) (by kernel_rfl) (fun _ _ _ h=>h) (Or.inl ⟨by rfl,?hy⟩) hHeld ?rest
             case hy=>(intro w hSw;obtain ⟨r0,r1,r2,r3,r4,r5,r6,r7⟩:=hSw;go_simp;try with_reducible rfl)
             case rest =>
              try simp only [Act.put,zC,zD,zE]
              refine wpAnyH_take (i:=13) (v:=?_) rfl (by kernel_rfl) (by kernel_rfl) (by kernel_rfl) (fun _ _ _ h=>h) (Or.inl ⟨by rfl,?hy⟩) hHeld ?rest
              case hy=>(intro w hSw;obtain ⟨r0,r1,r2,r3,r4,r5,r6,r7⟩:=hSw;go_simp;try with_reducible rfl)
              case rest =>
               try simp only [Act.put,zC,zD,zE]
               refine wpAnyH_ready (rs:=[14]) (by kernel_rfl) (by simp) ?_
               refine AllReadyH.cons rfl (fun K hK=>?_) AllReadyH.nil
               go_simp
               refine hK.out _ _ (HS.out _ (by repeat (first | with_reducible exact HB5.out | with_reducible refine zG ?_ _ | with_reducible refine zJ ?_ | with_reducible refine zK ?_ (by first | omega | (simp;done) | (simp;omega)) _))) (fun hHeld=>?_)
               clear hK K
               try simp only [Act.put,zC,zD,zE]
               refine wpAnyH_ready (rs:=[15]) (by kernel_rfl) (by simp) ?_
               refine AllReadyH.cons rfl (fun K hK=>?_) AllReadyH.nil
               go_simp
               refine hK.out _ _ (HS.out _ (by repeat (first | with_reducible exact HB5.out | with_reducible refine zG ?_ _ | with_reducible refine zJ ?_ | with_reducible refine zK ?_ (by first | omega | (simp;done) | (simp;omega)) _))) (fun hHeld=>?_)
               clear hK K
               try simp only [Act.put,zC,zD,zE]
               refine wpAnyH_take (i:=16) (v:=?_) rfl (by kernel_rfl) (by kernel_rfl) (by kernel_rfl) (fun _ _ _ h=>h) (Or.inl ⟨by rfl,?hy⟩) hHeld ?rest
               case hy=>(intro w hSw;obtain ⟨r0,r1,r2,r3,r4,r5,r6,r7⟩:=hSw;go_simp;try with_reducible rfl)
               case rest =>
                try simp only [Act.put,zC,zD,zE]
                refine wpAnyH_done (by kernel_rfl) ?_ _
                go_upto_region 6 with (go_at_call 107;((with_reducible refine (zCv _).mono ?_);rintro e w7 ⟨rfl,rfl⟩))
                obtain ⟨w6,hw6⟩:∃ w6,w6=w5.alloc (.cells #[.bool vi,.int .i64 vn,.int .i64 vp,.int .i64 vb,.int .i64 vl,.int .i64 va,.int .i64 vs_] 56):=⟨_,rfl⟩
                have h46:Below w4.heap.size w4 w6:=by rw [hw6];exact zG HB5.out _
                have k6:Bk w6 w5.heap.size 56 #[.bool vi,.int .i64 vn,.int .i64 vp,.int .i64 vb,.int .i64 vl,.int .i64 va,.int .i64 vs_]:=by rw [hw6];exact zM _ _ _
                obtain ⟨r0,r1,r2,r3,r4,r5,r6,r7⟩:=HS.out w6 h46
                have i1:=TA.out w6 h46
                obtain ⟨v0,v1,v2,v3,v4,v5,v6⟩:=zBs k6
                have hm6:=HM4.out.below h46
                obtain ⟨c0,c1,c2,c3,c4,c5,c6⟩:=zAf hm6.mB hm6.h8 a8
                have mF:=fun j=>hm6.mB.frozen j
                have mL:=hm6.mB.lt
                have vL:=k6.lt
                have u3L:w2.heap.size+1 < w6.heap.size:=Nat.lt_of_lt_of_le t3L h46.size
                have u4L:gs < w6.heap.size:=Nat.lt_of_lt_of_le t4L h46.size
                have HM6:=zA hm6
                have H46:=zA h46
                rw [←hw6]
                clear hw6 k6 hm6 h46 HS5
                go_region
                go_wp2
                go_end0
                rw [zCt]
                refine SPost.of (zI HW4.out H46.out) ?_
                repeat (first | with_reducible refine SPost.drew ?_ | with_reducible refine SPost.alloc ?_ _)
                exact SPost.reg HM6.out a a8 ⟨vi,vn,⟨vp,vb,vl,va,vs_⟩⟩ rfl
           ·go_simp
            refine hK.out _ _ (HS.out _ (by repeat (first | with_reducible exact Below.refl _ _ | with_reducible refine zG ?_ _ | with_reducible refine zJ ?_ | with_reducible refine zK ?_ (by first | omega | (simp;done) | (simp;omega)) _))) (fun hHeld=>?_)
            clear hK K
            try simp only [Act.put,zC,zD,zE]
            refine wpAnyH_ready (rs:=[10]) (by kernel_rfl) (by simp) ?_
            refine AllReadyH.cons rfl (fun K hK=>?_) AllReadyH.nil
            go_simp
            go_wp2_with (go_at_call 169;((with_reducible refine (OC.out _ (by repeat (first | with_reducible exact Below.refl _ _ | with_reducible refine zG ?_ _ | with_reducible refine zJ ?_ | with_reducible refine zK ?_ (by first | omega | (simp;done) | (simp;omega)) _))).mono ?_);rintro e w5 ⟨rfl,hb5⟩;have kz:Bk w5 w4.heap.size 56 #[.bool false,.int .i64 0,.int .i64 0,.int .i64 0,.int .i64 0,.int .i64 0,.int .i64 0]:=zH hb5 (by repeat (first | with_reducible exact zM _ _ _ | with_reducible refine zP ?_));obtain ⟨z0,z1,z2,z3,z4,z5,z6⟩:=zBs kz;have zF:=fun j=>kz.frozen j;have zL:=kz.lt;have HB5:=zA (show Below w4.heap.size w4 w5 from zI (by repeat (first | with_reducible exact Below.refl _ _ | with_reducible refine zG ?_ _ | with_reducible refine zJ ?_ | with_reducible refine zK ?_ (by first | omega | (simp;done) | (simp;omega)) _)) hb5);have HS5:=zA (HS.out _ HB5.out)))
            refine hK.out _ _ (HS5.out) (fun hHeld=>?_)
            clear hK K
            try simp only [Act.put,zC,zD,zE]
            refine wpAnyH_take (i:=11) (v:=?_) rfl (by kernel_rfl) (by kernel_rfl) (by kernel_rfl) (fun _ _ _ h=>h) (Or.inl ⟨by rfl,?hy⟩) hHeld ?rest
            case hy=>(intro w hSw;obtain ⟨r0,r1,r2,r3,r4,r5,r6,r7⟩:=hSw;go_simp;try with_reducible rfl)
            case rest =>
             try simp only [Act.put,zC,zD,zE]
             refine wpAnyH_take (i:=12) (v:=?_) rfl (by kernel_rfl) (by kernel_rfl) (by kernel_rfl) (fun _ _ _ h=>h) (Or.inl ⟨by rfl,?hy⟩) hHeld ?rest
             case hy=>(intro w hSw;obtain ⟨r0,r1,r2,r3,r4,r5,r6,r7⟩:=hSw;go_simp;try with_reducible rfl)
             case rest =>
              try simp only [Act.put,zC,zD,zE]
              refine wpAnyH_take (i:=13) (v:=?_) rfl (by kernel_rfl) (by kernel_rfl) (by kernel_rfl) (fun _ _ _ h=>h) (Or.inl ⟨by rfl,?hy⟩) hHeld ?rest
              case hy=>(intro w hSw;obtain ⟨r0,r1,r2,r3,r4,r5,r6,r7⟩:=hSw;go_simp;try with_reducible rfl)
              case rest =>
               try simp only [Act.put,zC,zD,zE]
               refine wpAnyH_ready (rs:=[15]) (by kernel_rfl) (by simp) ?_
               refine AllReadyH.cons rfl (fun K hK=>?_) AllReadyH.nil
               go_simp
               refine hK.out _ _ (HS.out _ (by repeat (first | with_reducible exact HB5.out | with_reducible refine zG ?_ _ | with_reducible refine zJ ?_ | with_reducible refine zK ?_ (by first | omega | (simp;done) | (simp;omega)) _))) (fun hHeld=>?_)
               clear hK K
               try simp only [Act.put,zC,zD,zE]
               refine wpAnyH_take (i:=16) (v:=?_) rfl (by kernel_rfl) (by kernel_rfl) (by kernel_rfl) (fun _ _ _ h=>h) (Or.inl ⟨by rfl,?hy⟩) hHeld ?rest
               case hy=>(intro w hSw;obtain ⟨r0,r1,r2,r3,r4,r5,r6,r7⟩:=hSw;go_simp;try with_reducible rfl)
               case rest =>
                try simp only [Act.put,zC,zD,zE]
                refine wpAnyH_done (by kernel_rfl) ?_ _
                go_upto_region 6 with (go_at_call 107;((with_reducible refine (zCv _).mono ?_);rintro e w7 ⟨rfl,rfl⟩))
                rw [zIU]
                obtain ⟨w6,hw6⟩:∃ w6,w6=w5.setCells w4.heap.size 0 [.bool vi,.int .i64 vn,.int .i64 vp,.int .i64 vb,.int .i64 vl,.int .i64 va,.int .i64 vs_]:=⟨_,rfl⟩
                have h46:Below w4.heap.size w4 w6:=by rw [hw6];exact zGc HB5.out (Nat.le_refl _) 0 _
                have k6:Bk w6 w4.heap.size 56 #[.bool vi,.int .i64 vn,.int .i64 vp,.int .i64 vb,.int .i64 vl,.int .i64 va,.int .i64 vs_]:=by rw [hw6];exact zBp (w:=w5) [.bool vi,.int .i64 vn,.int .i64 vp,.int .i64 vb,.int .i64 vl,.int .i64 va,.int .i64 vs_] _ 0 w5 kz
                obtain ⟨r0,r1,r2,r3,r4,r5,r6,r7⟩:=HS.out w6 h46
                have i1:=TA.out w6 h46
                obtain ⟨v0,v1,v2,v3,v4,v5,v6⟩:=zBs k6
                have hm6:=HM4.out.below h46
                obtain ⟨c0,c1,c2,c3,c4,c5,c6⟩:=zAf hm6.mB hm6.h8 a8
                have mF:=fun j=>hm6.mB.frozen j
                have mL:=hm6.mB.lt
                have vL:=k6.lt
                have u3L:w2.heap.size+1 < w6.heap.size:=Nat.lt_of_lt_of_le t3L h46.size
                have u4L:gs < w6.heap.size:=Nat.lt_of_lt_of_le t4L h46.size
                have HM6:=zA hm6
                have H46:=zA h46
                rw [←hw6]
                clear hw6 k6 hm6 h46 HS5
                go_region
                go_wp2
                go_end0
                rw [zCt]
                refine SPost.of (zI HW4.out H46.out) ?_
                repeat (first | with_reducible refine SPost.drew ?_ | with_reducible refine SPost.alloc ?_ _)
                exact SPost.reg HM6.out a a8 ⟨vi,vn,⟨vp,vb,vl,va,vs_⟩⟩ rfl
theorem zF9 {base:Nat} {W:World} {gs gm:Nat} {i:InstV} {m:MV} {vm vs vo:Value} (hs:Bk W gs 190 (zS gm i)) (hm:MS base gm vm vs vo m W) (hR:∀ v∈m.R,v.wf) (ho:i.op=11) (a b:Nat) (ha:i.a=a) (hb:i.b=b) (a8:a < 8) (b8:b < 8) (hcI:I64 i.c) (hi:(m.reg b).is=true) (er:Int) (he:er≠0) (hr:zDB m.mem.length (m.reg b).k i.c (m.reg a)=er) :
  Calls Tryz.prog 149 #[.pointer (some ⟨gs,0,none⟩)] W (zGf er base gm vm vs vo m W):=by
 obtain ⟨ma,mc,rfl,hsl,_⟩:=hm.om.sl
 obtain ⟨s0,s1,s2,s3,s4⟩:=zR hs
 rw [hb] at s3
 rw [ho] at s1
 rw [ha] at s2
 have sL:=hs.lt
 have gL:=hm.mB.lt
 have q1:(0:Int)≤(a:Int):=by omega
 have q2:(a:Int) < 8:=by omega
 have KO:=zAV hs hm.mB hm.h8 b b8 hi
 have hwf:=(zAq hm.h8 hR b).k
 have HM:=zA hm
 have HSB:=zA hs
 have h8:=hm.h8
 have hx:=zED hm.h8 a8
 generalize hxx:m.reg a=x at *
 obtain ⟨xi,xn,xp,xb,xl,xa,xs⟩:=x
 clear hs hm hR
 generalize (m.reg b).k=kk at *
 obtain ⟨kp,kb,kl,ka,ks⟩:=kk
 simp only at *
 have KO:=zA KO
 go_enter Tryz.func149,Tryz.ntmps149
 go_upto_region 8 with (go_at_call 138;((with_reducible refine KO.out.mono ?_);rintro e w2 ⟨rfl,hb2⟩;have u0:=HSB.out;have t0:=(zH hb2 u0).cell 0;have t1:=(zH hb2 u0).cell 1;have t2:=(zH hb2 u0).cell 2;have t3:=(zH hb2 u0).cell 3;have t4:=(zH hb2 u0).cell 4;have tL:=(zH hb2 u0).lt;simp only [zS,List.getElem?_toArray,List.getElem?_cons_zero,List.getElem?_cons_succ,ho,ha,hb] at t0 t1 t2 t3 t4;clear u0))
 obtain ⟨w4,hw4⟩:∃ w4,w4=(w2.alloc (.cells #[.int .i64 kp,.int .i64 kb,.int .i64 kl,.int .i64 ka,.int .i64 ks] 54)).alloc (.cells #[.int .i64 11,.int .i64 a,.int .i64 b,.int .i64 i.c] 179):=⟨_,rfl⟩
 have h24:Below w2.heap.size w2 w4:=by rw [hw4];exact zG (zG (Below.refl _ _) _) _
 have hW4:Below W.heap.size W w4:=zI hb2 h24
 have k2:Bk w4 w2.heap.size 54 #[.int .i64 kp,.int .i64 kb,.int .i64 kl,.int .i64 ka,.int .i64 ks]:=by rw [hw4];exact zN _ (zM _ _ _)
 have k3:Bk w4 (w2.heap.size+1) 179 #[.int .i64 11,.int .i64 a,.int .i64 b,.int .i64 i.c]:=by rw [hw4];exact zO _ _ (by simp)
 have hm4:=HM.out.below hW4
 have hs4:=zH hW4 HSB.out
 have hS:∀ W1,Bk W1 gs 190 (zS gm i)→Bk W1 w2.heap.size 54 #[.int .i64 kp,.int .i64 kb,.int .i64 kl,.int .i64 ka,.int .i64 ks]→Bk W1 (w2.heap.size+1) 179 #[.int .i64 11,.int .i64 a,.int .i64 b,.int .i64 i.c]→Bk W1 gm 60 (mcs m.R m.c (.slice ma m.mem.length mc) vs vo)→W1.cell? ⟨gs,0,none⟩=some (.pointer (some ⟨gm,0,none⟩))∧W1.cell? ⟨w2.heap.size+1,3,none⟩=some (.int .i64 i.c)∧W1.cell? ⟨w2.heap.size,0,none⟩=some (.int .i64 kp)∧W1.cell? ⟨w2.heap.size,1,none⟩=some (.int .i64 kb)∧W1.cell? ⟨w2.heap.size,2,none⟩=some (.int .i64 kl)∧W1.cell? ⟨w2.heap.size,3,none⟩=some (.int .i64 ka)∧W1.cell? ⟨w2.heap.size,4,none⟩=some (.int .i64 ks)∧W1.cell? ⟨gm,61,none⟩=some (.slice ma m.mem.length mc)∧W1.cell? ⟨w2.heap.size+1,1,none⟩=some (.int .i64 a)∧W1.cell? ⟨gm,a*7,none⟩=some (.bool xi)∧W1.cell? ⟨gm,a*7+1,none⟩=some (.int .i64 xn)∧W1.cell? ⟨gm,a*7+2,none⟩=some (.int .i64 xp)∧W1.cell? ⟨gm,a*7+3,none⟩=some (.int .i64 xb)∧W1.cell? ⟨gm,a*7+4,none⟩=some (.int .i64 xl)∧W1.cell? ⟨gm,a*7+5,none⟩=some (.int .i64 xa)∧W1.cell? ⟨gm,a*7+6,none⟩=some (.int .i64 xs):=fun W1 h1 h2 h3 h4=>⟨h1.cell 0,h3.cell 3,h2.cell 0,h2.cell 1,h2.cell 2,h2.cell 3,h2.cell 4,(h4.cell 61).trans (zAU h8 5),h3.cell 1,(h4.cell (a*7+0)).trans (zAo h8 hx (by decide)),(h4.cell (a*7+1)).trans (zAo h8 hx (by decide)),(h4.cell (a*7+2)).trans (zAo h8 hx (by decide)),(h4.cell (a*7+3)).trans (zAo h8 hx (by decide)),(h4.cell (a*7+4)).trans (zAo h8 hx (by decide)),(h4.cell (a*7+5)).trans (zAo h8 hx (by decide)),(h4.cell (a*7+6)).trans (zAo h8 hx (by decide))⟩
 have HS:=zA (fun W1 (h:Below w4.heap.size w4 W1)=>hS W1 (zH h hs4) (zH h k2) (zH h k3) (zH h hm4.mB))
 have t4L:gs < w4.heap.size:=hs4.lt
 have t2L:w2.heap.size < w4.heap.size:=k2.lt
 have t3L:w2.heap.size+1 < w4.heap.size:=k3.lt
 have tmL:gm < w4.heap.size:=hm4.mB.lt
 have HW4:=zA hW4
 have HM4:=zA hm4
 have oc:∀ W1,Below w4.heap.size w4 W1→Calls Tryz.prog 170 #[.slice ma m.mem.length mc,.agg #[.int .i64 kp,.int .i64 kb,.int .i64 kl,.int .i64 ka,.int .i64 ks],.int .i64 i.c,.agg #[.bool xi,.int .i64 xn,.int .i64 xp,.int .i64 xb,.int .i64 xl,.int .i64 xa,.int .i64 xs]] W1 (zCq W1 base ma m.mem.length mc m.mem ⟨kp,kb,kl,ka,ks⟩ i.c ⟨xi,xn,⟨xp,xb,xl,xa,xs⟩⟩):=fun W1 h=>zHm base ma m.mem.length mc m.mem kp kb kl ka ks i.c xi xn xp xb xl xa xs hwf hcI W1 ((hm4.om).below h) rfl
 unfold zCq at oc
 rw [hr] at oc
 rw [if_neg he] at oc
 have OC:=zA oc
 have MB:=zA (fun W=>zAv er he W)
 have HKP:=zA (fun (W1:World) (hg:w4.drew.grownBy W1 (Value.ownBlock (.slice ma m.mem.length mc))) =>
  have hf:Fr (mS gm (.slice ma m.mem.length mc) vs vo) w4.drew W1:=Fr.grown hg (fun k e=>.inl (.inr (.inl e)))
  hS W1 (hf.bk hs4 (hm4.not hs4 (by decide) (by decide) (by decide) (by decide))) (hf.bk k2 (hm4.not k2 (by decide) (by decide) (by decide) (by decide))) (hf.bk k3 (hm4.not k3 (by decide) (by decide) (by decide) (by decide))) ((hg.block gm hm4.mB.lt (fun e=>zBZ hm4.om hm4.mB (by decide) e.symm)).trans hm4.mB))
 clear oc hr hsl hx
 rw [←hw4]
 clear hS hs4 hm4 k2 k3 hw4 h24 hW4 hb2 t0 t1 t2 t3 t4
 refine wp_region_held_drew (S:=fun W1=>W1.cell? ⟨gs,0,none⟩=some (.pointer (some ⟨gm,0,none⟩))∧W1.cell? ⟨w2.heap.size+1,3,none⟩=some (.int .i64 i.c)∧W1.cell? ⟨w2.heap.size,0,none⟩=some (.int .i64 kp)∧W1.cell? ⟨w2.heap.size,1,none⟩=some (.int .i64 kb)∧W1.cell? ⟨w2.heap.size,2,none⟩=some (.int .i64 kl)∧W1.cell? ⟨w2.heap.size,3,none⟩=some (.int .i64 ka)∧W1.cell? ⟨w2.heap.size,4,none⟩=some (.int .i64 ks)∧W1.cell? ⟨gm,61,none⟩=some (.slice ma m.mem.length mc)∧W1.cell? ⟨w2.heap.size+1,1,none⟩=some (.int .i64 a)∧W1.cell? ⟨gm,a*7,none⟩=some (.bool xi)∧W1.cell? ⟨gm,a*7+1,none⟩=some (.int .i64 xn)∧W1.cell? ⟨gm,a*7+2,none⟩=some (.int .i64 xp)∧W1.cell? ⟨gm,a*7+3,none⟩=some (.int .i64 xb)∧W1.cell? ⟨gm,a*7+4,none⟩=some (.int .i64 xl)∧W1.cell? ⟨gm,a*7+5,none⟩=some (.int .i64 xa)∧W1.cell? ⟨gm,a*7+6,none⟩=some (.int .i64 xs)) (by kernel_rfl) (HS.out _ (zJ (Below.refl _ _))) (fun hHeld=>?_)
 refine wpAnyH_take (i:=0) (v:=?_) rfl (by kernel_rfl) (by kernel_rfl) (by kernel_rfl) (fun _ _ _ h=>h) (Or.inl ⟨by rfl,?hy⟩) hHeld ?rest
 case hy=>(intro w hSw;obtain ⟨r0,r1,r2,r3,r4,r5,r6,r7,r8,r9,r10,r11,r12,r13,r14,r15⟩:=hSw;go_simp;try with_reducible rfl)
 case rest =>
  try simp only [Act.put,zC,zD,zE]
  refine wpAnyH_take (i:=1) (v:=?_) rfl (by kernel_rfl) (by kernel_rfl) (by kernel_rfl) (fun _ _ _ h=>h) (Or.inl ⟨by rfl,?hy⟩) hHeld ?rest
  case hy=>(intro w hSw;obtain ⟨r0,r1,r2,r3,r4,r5,r6,r7,r8,r9,r10,r11,r12,r13,r14,r15⟩:=hSw;go_simp;try with_reducible rfl)
  case rest =>
   try simp only [Act.put,zC,zD,zE]
   refine wpAnyH_take (i:=2) (v:=?_) rfl (by kernel_rfl) (by kernel_rfl) (by kernel_rfl) (fun _ _ _ h=>h) (Or.inl ⟨by rfl,?hy⟩) hHeld ?rest
   case hy=>(intro w hSw;obtain ⟨r0,r1,r2,r3,r4,r5,r6,r7,r8,r9,r10,r11,r12,r13,r14,r15⟩:=hSw;go_simp;try with_reducible rfl)
   case rest =>
    try simp only [Act.put,zC,zD,zE]
    refine wpAnyH_take (i:=3) (v:=?_) rfl (by kernel_rfl) (by kernel_rfl) (by kernel_rfl) (fun _ _ _ h=>h) (Or.inl ⟨by rfl,?hy⟩) hHeld ?rest
    case hy=>(intro w hSw;obtain ⟨r0,r1,r2,r3,r4,r5,r6,r7,r8,r9,r10,r11,r12,r13,r14,r15⟩:=hSw;go_simp;try with_reducible rfl)
    case rest =>
     try simp only [Act.put,zC,zD,zE]
     refine wpAnyH_take (i:=4) (v:=?_) rfl (by kernel_rfl) (by kernel_rfl) (by kernel_rfl) (fun _ _ _ h=>h) (Or.inl ⟨by rfl,?hy⟩) hHeld ?rest
     case hy=>(intro w hSw;obtain ⟨r0,r1,r2,r3,r4,r5,r6,r7,r8,r9,r10,r11,r12,r13,r14,r15⟩:=hSw;go_simp;try with_reducible rfl)
     case rest =>
      try simp only [Act.put,zC,zD,zE]
      refine wpAnyH_take (i:=5) (v:=?_) rfl (by kernel_rfl) (by kernel_rfl) (by kernel_rfl) (fun _ _ _ h=>h) (Or.inl ⟨by rfl,?hy⟩) hHeld ?rest
      case hy=>(intro w hSw;obtain ⟨r0,r1,r2,r3,r4,r5,r6,r7,r8,r9,r10,r11,r12,r13,r14,r15⟩:=hSw;go_simp;try with_reducible rfl)
      case rest =>
       try simp only [Act.put,zC,zD,zE]
       refine wpAnyH_take (i:=6) (v:=?_) rfl (by kernel_rfl) (by kernel_rfl) (by kernel_rfl) (fun _ _ _ h=>h) (Or.inl ⟨by rfl,?hy⟩) hHeld ?rest
       case hy=>(intro w hSw;obtain ⟨r0,r1,r2,r3,r4,r5,r6,r7,r8,r9,r10,r11,r12,r13,r14,r15⟩:=hSw;go_simp;try with_reducible rfl)
       case rest =>
        try simp only [Act.put,zC,zD,zE]
        refine wpAnyH_take (i:=7) (v:=?_) rfl (by kernel_rfl) (by kernel_rfl) (by kernel_rfl) (fun _ _ _ h=>h) (Or.inl ⟨by rfl,?hy⟩) hHeld ?rest
        case hy=>(intro w hSw;obtain ⟨r0,r1,r2,r3,r4,r5,r6,r7,r8,r9,r10,r11,r12,r13,r14,r15⟩:=hSw;go_simp;try with_reducible rfl)
        case rest =>
         try simp only [Act.put,zC,zD,zE]
         refine wpAnyH_take (i:=8) (v:=?_) rfl (by kernel_rfl) (by kernel_rfl) (by kernel_rfl) (fun _ _ _ h=>h) (Or.inl ⟨by rfl,?hy⟩) hHeld ?rest
         case hy=>(intro w hSw;obtain ⟨r0,r1,r2,r3,r4,r5,r6,r7,r8,r9,r10,r11,r12,r13,r14,r15⟩:=hSw;go_simp;try with_reducible rfl)
         case rest =>
          try simp only [Act.put,zC,zD,zE]
          refine wpAnyH_take (i:=9) (v:=?_) rfl (by kernel_rfl) (by kernel_rfl) (by kernel_rfl) (fun _ _ _ h=>h) (Or.inl ⟨by rfl,?hy⟩) hHeld ?rest
          case hy=>(intro w hSw;obtain ⟨r0,r1,r2,r3,r4,r5,r6,r7,r8,r9,r10,r11,r12,r13,r14,r15⟩:=hSw;go_simp;try with_reducible rfl)
          case rest =>
           try simp only [Act.put,zC,zD,zE]
           refine wpAnyH_take (i:=10) (v:=?_) rfl (by kernel_rfl) (by kernel_rfl) (by kernel_rfl) (fun _ _ _ h=>h) (Or.inl ⟨by rfl,?hy⟩) hHeld ?rest
           case hy=>(intro w hSw;obtain ⟨r0,r1,r2,r3,r4,r5,r6,r7,r8,r9,r10,r11,r12,r13,r14,r15⟩:=hSw;go_simp;try with_reducible rfl)
           case rest =>
            try simp only [Act.put,zC,zD,zE]
            refine wpAnyH_take (i:=11) (v:=?_) rfl (by kernel_rfl) (by kernel_rfl) (by kernel_rfl) (fun _ _ _ h=>h) (Or.inl ⟨by rfl,?hy⟩) hHeld ?rest
            case hy=>(intro w hSw;obtain ⟨r0,r1,r2,r3,r4,r5,r6,r7,r8,r9,r10,r11,r12,r13,r14,r15⟩:=hSw;go_simp;try with_reducible rfl)
            case rest =>
             try simp only [Act.put,zC,zD,zE]
             refine wpAnyH_take (i:=12) (v:=?_) rfl (by kernel_rfl) (by kernel_rfl) (by kernel_rfl) (fun _ _ _ h=>h) (Or.inl ⟨by rfl,?hy⟩) hHeld ?rest
             case hy=>(intro w hSw;obtain ⟨r0,r1,r2,r3,r4,r5,r6,r7,r8,r9,r10,r11,r12,r13,r14,r15⟩:=hSw;go_simp;try with_reducible rfl)
             case rest =>
              try simp only [Act.put,zC,zD,zE]
              refine wpAnyH_take (i:=13) (v:=?_) rfl (by kernel_rfl) (by kernel_rfl) (by kernel_rfl) (fun _ _ _ h=>h) (Or.inl ⟨by rfl,?hy⟩) hHeld ?rest
              case hy=>(intro w hSw;obtain ⟨r0,r1,r2,r3,r4,r5,r6,r7,r8,r9,r10,r11,r12,r13,r14,r15⟩:=hSw;go_simp;try with_reducible rfl)
              case rest =>
               try simp only [Act.put,zC,zD,zE]
               refine wpAnyH_take (i:=14) (v:=?_) rfl (by kernel_rfl) (by kernel_rfl) (by kernel_rfl) (fun _ _ _ h=>h) (Or.inl ⟨by rfl,?hy⟩) hHeld ?rest
               case hy=>(intro w hSw;obtain ⟨r0,r1,r2,r3,r4,r5,r6,r7,r8,r9,r10,r11,r12,r13,r14,r15⟩:=hSw;go_simp;try with_reducible rfl)
               case rest =>
                try simp only [Act.put,zC,zD,zE]
                refine wpAnyH_take (i:=15) (v:=?_) rfl (by kernel_rfl) (by kernel_rfl) (by kernel_rfl) (fun _ _ _ h=>h) (Or.inl ⟨by rfl,?hy⟩) hHeld ?rest
                case hy=>(intro w hSw;obtain ⟨r0,r1,r2,r3,r4,r5,r6,r7,r8,r9,r10,r11,r12,r13,r14,r15⟩:=hSw;go_simp;try with_reducible rfl)
                case rest =>
                 try simp only [Act.put,zC,zD,zE]
                 refine wpAnyH_take (i:=16) (v:=?_) rfl (by kernel_rfl) (by kernel_rfl) (by kernel_rfl) (fun _ _ _ h=>h) (Or.inl ⟨by rfl,?hy⟩) hHeld ?rest
                 case hy=>(intro w hSw;obtain ⟨r0,r1,r2,r3,r4,r5,r6,r7,r8,r9,r10,r11,r12,r13,r14,r15⟩:=hSw;go_simp;try with_reducible rfl)
                 case rest =>
                  try simp only [Act.put,zC,zD,zE]
                  refine wpAnyH_take (i:=17) (v:=?_) rfl (by kernel_rfl) (by kernel_rfl) (by kernel_rfl) (fun _ _ _ h=>h) (Or.inl ⟨by rfl,?hy⟩) hHeld ?rest
                  case hy=>(intro w hSw;obtain ⟨r0,r1,r2,r3,r4,r5,r6,r7,r8,r9,r10,r11,r12,r13,r14,r15⟩:=hSw;go_simp;try with_reducible rfl)
                  case rest =>
                   try simp only [Act.put,zC,zD,zE]
                   refine wpAnyH_take (i:=18) (v:=?_) rfl (by kernel_rfl) (by kernel_rfl) (by kernel_rfl) (fun _ _ _ h=>h) (Or.inl ⟨by rfl,?hy⟩) hHeld ?rest
                   case hy=>(intro w hSw;obtain ⟨r0,r1,r2,r3,r4,r5,r6,r7,r8,r9,r10,r11,r12,r13,r14,r15⟩:=hSw;go_simp;try with_reducible rfl)
                   case rest =>
                    try simp only [Act.put,zC,zD,zE]
                    refine wpAnyH_take (i:=19) (v:=?_) rfl (by kernel_rfl) (by kernel_rfl) (by kernel_rfl) (fun _ _ _ h=>h) (Or.inl ⟨by rfl,?hy⟩) hHeld ?rest
                    case hy=>(intro w hSw;obtain ⟨r0,r1,r2,r3,r4,r5,r6,r7,r8,r9,r10,r11,r12,r13,r14,r15⟩:=hSw;go_simp;try with_reducible rfl)
                    case rest =>
                     try simp only [Act.put,zC,zD,zE]
                     refine wpAnyH_ready (rs:=[20]) (by kernel_rfl) (by simp) ?_
                     refine AllReadyH.cons rfl (fun K hK=>?_) AllReadyH.nil
                     go_simp
                     go_wp2_with (go_at_call 170;((with_reducible refine (OC.out _ (zJ (Below.refl _ _))).mono ?_);rintro e w5 ⟨rfl,ho5,hg5⟩;have HS5:=zA (HKP.out _ hg5)))
                     refine hK.out _ _ (HS5.out) (fun hHeld=>?_)
                     clear hK K
                     try simp only [Act.put,zC,zD,zE]
                     refine wpAnyH_ready (rs:=[21]) (by kernel_rfl) (by simp) ?_
                     refine AllReadyH.cons rfl (fun K hK=>?_) AllReadyH.nil
                     go_simp
                     go_wp2_with (go_at_call 107;((with_reducible refine (MB.out _).mono ?_);rintro e w7 ⟨rfl,rfl⟩))
                     exact ⟨rfl,rfl,zGk HM4.out ho5 hg5,(Fr.of (zJ HW4.out)).trans (Fr.grown hg5 (fun k e=>.inl (.inr (.inl e)))) (fun _ _ h=>h)⟩
theorem zGS {base:Nat} {W:World} {gs gm:Nat} {i:InstV} {m:MV} {vm vs vo:Value} (hs:Bk W gs 190 (zS gm i)) (hm:MS base gm vm vs vo m W) (hR:∀ v∈m.R,v.wf) (ho:i.op=11) (a b:Nat) (ha:i.a=a) (hb:i.b=b) (a8:a < 8) (b8:b < 8) (hcI:I64 i.c) (hi:(m.reg b).is=true) (hr:zDB m.mem.length (m.reg b).k i.c (m.reg a)=0) :
  Calls Tryz.prog 149 #[.pointer (some ⟨gs,0,none⟩)] W (SPost base gm vm vs vo {m with mem:=zBN m.mem (m.reg b).k i.c (m.reg a)} W):=by
 obtain ⟨ma,mc,rfl,hsl,_⟩:=hm.om.sl
 obtain ⟨s0,s1,s2,s3,s4⟩:=zR hs
 rw [hb] at s3
 rw [ho] at s1
 rw [ha] at s2
 have sL:=hs.lt
 have gL:=hm.mB.lt
 have q1:(0:Int)≤(a:Int):=by omega
 have q2:(a:Int) < 8:=by omega
 have KO:=zAV hs hm.mB hm.h8 b b8 hi
 have hwf:=(zAq hm.h8 hR b).k
 have HM:=zA hm
 have HSB:=zA hs
 have h8:=hm.h8
 have hx:=zED hm.h8 a8
 generalize hxx:m.reg a=x at *
 obtain ⟨xi,xn,xp,xb,xl,xa,xs⟩:=x
 clear hs hm hR
 generalize (m.reg b).k=kk at *
 obtain ⟨kp,kb,kl,ka,ks⟩:=kk
 simp only at *
 have KO:=zA KO
 go_enter Tryz.func149,Tryz.ntmps149
 go_upto_region 8 with (go_at_call 138;((with_reducible refine KO.out.mono ?_);rintro e w2 ⟨rfl,hb2⟩;have u0:=HSB.out;have t0:=(zH hb2 u0).cell 0;have t1:=(zH hb2 u0).cell 1;have t2:=(zH hb2 u0).cell 2;have t3:=(zH hb2 u0).cell 3;have t4:=(zH hb2 u0).cell 4;have tL:=(zH hb2 u0).lt;simp only [zS,List.getElem?_toArray,List.getElem?_cons_zero,List.getElem?_cons_succ,ho,ha,hb] at t0 t1 t2 t3 t4;clear u0))
 obtain ⟨w4,hw4⟩:∃ w4,w4=(w2.alloc (.cells #[.int .i64 kp,.int .i64 kb,.int .i64 kl,.int .i64 ka,.int .i64 ks] 54)).alloc (.cells #[.int .i64 11,.int .i64 a,.int .i64 b,.int .i64 i.c] 179):=⟨_,rfl⟩
 have h24:Below w2.heap.size w2 w4:=by rw [hw4];exact zG (zG (Below.refl _ _) _) _
 have hW4:Below W.heap.size W w4:=zI hb2 h24
 have k2:Bk w4 w2.heap.size 54 #[.int .i64 kp,.int .i64 kb,.int .i64 kl,.int .i64 ka,.int .i64 ks]:=by rw [hw4];exact zN _ (zM _ _ _)
 have k3:Bk w4 (w2.heap.size+1) 179 #[.int .i64 11,.int .i64 a,.int .i64 b,.int .i64 i.c]:=by rw [hw4];exact zO _ _ (by simp)
 have hm4:=HM.out.below hW4
 have hs4:=zH hW4 HSB.out
 have hS:∀ W1,Bk W1 gs 190 (zS gm i)→Bk W1 w2.heap.size 54 #[.int .i64 kp,.int .i64 kb,.int .i64 kl,.int .i64 ka,.int .i64 ks]→Bk W1 (w2.heap.size+1) 179 #[.int .i64 11,.int .i64 a,.int .i64 b,.int .i64 i.c]→Bk W1 gm 60 (mcs m.R m.c (.slice ma m.mem.length mc) vs vo)→W1.cell? ⟨gs,0,none⟩=some (.pointer (some ⟨gm,0,none⟩))∧W1.cell? ⟨w2.heap.size+1,3,none⟩=some (.int .i64 i.c)∧W1.cell? ⟨w2.heap.size,0,none⟩=some (.int .i64 kp)∧W1.cell? ⟨w2.heap.size,1,none⟩=some (.int .i64 kb)∧W1.cell? ⟨w2.heap.size,2,none⟩=some (.int .i64 kl)∧W1.cell? ⟨w2.heap.size,3,none⟩=some (.int .i64 ka)∧W1.cell? ⟨w2.heap.size,4,none⟩=some (.int .i64 ks)∧W1.cell? ⟨gm,61,none⟩=some (.slice ma m.mem.length mc)∧W1.cell? ⟨w2.heap.size+1,1,none⟩=some (.int .i64 a)∧W1.cell? ⟨gm,a*7,none⟩=some (.bool xi)∧W1.cell? ⟨gm,a*7+1,none⟩=some (.int .i64 xn)∧W1.cell? ⟨gm,a*7+2,none⟩=some (.int .i64 xp)∧W1.cell? ⟨gm,a*7+3,none⟩=some (.int .i64 xb)∧W1.cell? ⟨gm,a*7+4,none⟩=some (.int .i64 xl)∧W1.cell? ⟨gm,a*7+5,none⟩=some (.int .i64 xa)∧W1.cell? ⟨gm,a*7+6,none⟩=some (.int .i64 xs):=fun W1 h1 h2 h3 h4=>⟨h1.cell 0,h3.cell 3,h2.cell 0,h2.cell 1,h2.cell 2,h2.cell 3,h2.cell 4,(h4.cell 61).trans (zAU h8 5),h3.cell 1,(h4.cell (a*7+0)).trans (zAo h8 hx (by decide)),(h4.cell (a*7+1)).trans (zAo h8 hx (by decide)),(h4.cell (a*7+2)).trans (zAo h8 hx (by decide)),(h4.cell (a*7+3)).trans (zAo h8 hx (by decide)),(h4.cell (a*7+4)).trans (zAo h8 hx (by decide)),(h4.cell (a*7+5)).trans (zAo h8 hx (by decide)),(h4.cell (a*7+6)).trans (zAo h8 hx (by decide))⟩
 have HS:=zA (fun W1 (h:Below w4.heap.size w4 W1)=>hS W1 (zH h hs4) (zH h k2) (zH h k3) (zH h hm4.mB))
 have t4L:gs < w4.heap.size:=hs4.lt
 have t2L:w2.heap.size < w4.heap.size:=k2.lt
 have t3L:w2.heap.size+1 < w4.heap.size:=k3.lt
 have tmL:gm < w4.heap.size:=hm4.mB.lt
 have HW4:=zA hW4
 have HM4:=zA hm4
 have oc:∀ W1,Below w4.heap.size w4 W1→Calls Tryz.prog 170 #[.slice ma m.mem.length mc,.agg #[.int .i64 kp,.int .i64 kb,.int .i64 kl,.int .i64 ka,.int .i64 ks],.int .i64 i.c,.agg #[.bool xi,.int .i64 xn,.int .i64 xp,.int .i64 xb,.int .i64 xl,.int .i64 xa,.int .i64 xs]] W1 (zCq W1 base ma m.mem.length mc m.mem ⟨kp,kb,kl,ka,ks⟩ i.c ⟨xi,xn,⟨xp,xb,xl,xa,xs⟩⟩):=fun W1 h=>zHm base ma m.mem.length mc m.mem kp kb kl ka ks i.c xi xn xp xb xl xa xs hwf hcI W1 ((hm4.om).below h) rfl
 unfold zCq at oc
 rw [hr] at oc
 rw [if_pos rfl] at oc
 have OC:=zA oc
 have HKP:=zA (fun (W1:World) (hg:w4.drew.grownBy W1 (Value.ownBlock (.slice ma m.mem.length mc))) =>
  have hf:Fr (mS gm (.slice ma m.mem.length mc) vs vo) w4.drew W1:=Fr.grown hg (fun k e=>.inl (.inr (.inl e)))
  hS W1 (hf.bk hs4 (hm4.not hs4 (by decide) (by decide) (by decide) (by decide))) (hf.bk k2 (hm4.not k2 (by decide) (by decide) (by decide) (by decide))) (hf.bk k3 (hm4.not k3 (by decide) (by decide) (by decide) (by decide))) ((hg.block gm hm4.mB.lt (fun e=>zBZ hm4.om hm4.mB (by decide) e.symm)).trans hm4.mB))
 clear oc hr hsl hx
 rw [←hw4]
 clear hS hs4 hm4 k2 k3 hw4 h24 hW4 hb2 t0 t1 t2 t3 t4
 refine wp_region_held_drew (S:=fun W1=>W1.cell? ⟨gs,0,none⟩=some (.pointer (some ⟨gm,0,none⟩))∧W1.cell? ⟨w2.heap.size+1,3,none⟩=some (.int .i64 i.c)∧W1.cell? ⟨w2.heap.size,0,none⟩=some (.int .i64 kp)∧W1.cell? ⟨w2.heap.size,1,none⟩=some (.int .i64 kb)∧W1.cell? ⟨w2.heap.size,2,none⟩=some (.int .i64 kl)∧W1.cell? ⟨w2.heap.size,3,none⟩=some (.int .i64 ka)∧W1.cell? ⟨w2.heap.size,4,none⟩=some (.int .i64 ks)∧W1.cell? ⟨gm,61,none⟩=some (.slice ma m.mem.length mc)∧W1.cell? ⟨w2.heap.size+1,1,none⟩=some (.int .i64 a)∧W1.cell? ⟨gm,a*7,none⟩=some (.bool xi)∧W1.cell? ⟨gm,a*7+1,none⟩=some (.int .i64 xn)∧W1.cell? ⟨gm,a*7+2,none⟩=some (.int .i64 xp)∧W1.cell? ⟨gm,a*7+3,none⟩=some (.int .i64 xb)∧W1.cell? ⟨gm,a*7+4,none⟩=some (.int .i64 xl)∧W1.cell? ⟨gm,a*7+5,none⟩=some (.int .i64 xa)∧W1.cell? ⟨gm,a*7+6,none⟩=some (.int .i64 xs)) (by kernel_rfl) (HS.out _ (zJ (Below.refl _ _))) (fun hHeld=>?_)
 refine wpAnyH_take (i:=0) (v:=?_) rfl (by kernel_rfl) (by kernel_rfl) (by kernel_rfl) (fun _ _ _ h=>h) (Or.inl ⟨by rfl,?hy⟩) hHeld ?rest
 case hy=>(intro w hSw;obtain ⟨r0,r1,r2,r3,r4,r5,r6,r7,r8,r9,r10,r11,r12,r13,r14,r15⟩:=hSw;go_simp;try with_reducible rfl)
 case rest =>
  try simp only [Act.put,zC,zD,zE]
  refine wpAnyH_take (i:=1) (v:=?_) rfl (by kernel_rfl) (by kernel_rfl) (by kernel_rfl) (fun _ _ _ h=>h) (Or.inl ⟨by rfl,?hy⟩) hHeld ?rest
  case hy=>(intro w hSw;obtain ⟨r0,r1,r2,r3,r4,r5,r6,r7,r8,r9,r10,r11,r12,r13,r14,r15⟩:=hSw;go_simp;try with_reducible rfl)
  case rest =>
   try simp only [Act.put,zC,zD,zE]
   refine wpAnyH_take (i:=2) (v:=?_) rfl (by kernel_rfl) (by kernel_rfl) (by kernel_rfl) (fun _ _ _ h=>h) (Or.inl ⟨by rfl,?hy⟩) hHeld ?rest
   case hy=>(intro w hSw;obtain ⟨r0,r1,r2,r3,r4,r5,r6,r7,r8,r9,r10,r11,r12,r13,r14,r15⟩:=hSw;go_simp;try with_reducible rfl)
   case rest =>
    try simp only [Act.put,zC,zD,zE]
    refine wpAnyH_take (i:=3) (v:=?_) rfl (by kernel_rfl) (by kernel_rfl) (by kernel_rfl) (fun _ _ _ h=>h) (Or.inl ⟨by rfl,?hy⟩) hHeld ?rest
    case hy=>(intro w hSw;obtain ⟨r0,r1,r2,r3,r4,r5,r6,r7,r8,r9,r10,r11,r12,r13,r14,r15⟩:=hSw;go_simp;try with_reducible rfl)
    case rest =>
     try simp only [Act.put,zC,zD,zE]
     refine wpAnyH_take (i:=4) (v:=?_) rfl (by kernel_rfl) (by kernel_rfl) (by kernel_rfl) (fun _ _ _ h=>h) (Or.inl ⟨by rfl,?hy⟩) hHeld ?rest
     case hy=>(intro w hSw;obtain ⟨r0,r1,r2,r3,r4,r5,r6,r7,r8,r9,r10,r11,r12,r13,r14,r15⟩:=hSw;go_simp;try with_reducible rfl)
     case rest =>
      try simp only [Act.put,zC,zD,zE]
      refine wpAnyH_take (i:=5) (v:=?_) rfl (by kernel_rfl) (by kernel_rfl) (by kernel_rfl) (fun _ _ _ h=>h) (Or.inl ⟨by rfl,?hy⟩) hHeld ?rest
      case hy=>(intro w hSw;obtain ⟨r0,r1,r2,r3,r4,r5,r6,r7,r8,r9,r10,r11,r12,r13,r14,r15⟩:=hSw;go_simp;try with_reducible rfl)
      case rest =>
       try simp only [Act.put,zC,zD,zE]
       refine wpAnyH_take (i:=6) (v:=?_) rfl (by kernel_rfl) (by kernel_rfl) (by kernel_rfl) (fun _ _ _ h=>h) (Or.inl ⟨by rfl,?hy⟩) hHeld ?rest
       case hy=>(intro w hSw;obtain ⟨r0,r1,r2,r3,r4,r5,r6,r7,r8,r9,r10,r11,r12,r13,r14,r15⟩:=hSw;go_simp;try with_reducible rfl)
       case rest =>
        try simp only [Act.put,zC,zD,zE]
        refine wpAnyH_take (i:=7) (v:=?_) rfl (by kernel_rfl) (by kernel_rfl) (by kernel_rfl) (fun _ _ _ h=>h) (Or.inl ⟨by rfl,?hy⟩) hHeld ?rest
        case hy=>(intro w hSw;obtain ⟨r0,r1,r2,r3,r4,r5,r6,r7,r8,r9,r10,r11,r12,r13,r14,r15⟩:=hSw;go_simp;try with_reducible rfl)
        case rest =>
         try simp only [Act.put,zC,zD,zE]
         refine wpAnyH_take (i:=8) (v:=?_) rfl (by kernel_rfl) (by kernel_rfl) (by kernel_rfl) (fun _ _ _ h=>h) (Or.inl ⟨by rfl,?hy⟩) hHeld ?rest
         case hy=>(intro w hSw;obtain ⟨r0,r1,r2,r3,r4,r5,r6,r7,r8,r9,r10,r11,r12,r13,r14,r15⟩:=hSw;go_simp;try with_reducible rfl)
         case rest =>
          try simp only [Act.put,zC,zD,zE]
          refine wpAnyH_take (i:=9) (v:=?_) rfl (by kernel_rfl) (by kernel_rfl) (by kernel_rfl) (fun _ _ _ h=>h) (Or.inl ⟨by rfl,?hy⟩) hHeld ?rest
          case hy=>(intro w hSw;obtain ⟨r0,r1,r2,r3,r4,r5,r6,r7,r8,r9,r10,r11,r12,r13,r14,r15⟩:=hSw;go_simp;try with_reducible rfl)
          case rest =>
           try simp only [Act.put,zC,zD,zE]
           refine wpAnyH_take (i:=10) (v:=?_) rfl (by kernel_rfl) (by kernel_rfl) (by kernel_rfl) (fun _ _ _ h=>h) (Or.inl ⟨by rfl,?hy⟩) hHeld ?rest
           case hy=>(intro w hSw;obtain ⟨r0,r1,r2,r3,r4,r5,r6,r7,r8,r9,r10,r11,r12,r13,r14,r15⟩:=hSw;go_simp;try with_reducible rfl)
           case rest =>
            try simp only [Act.put,zC,zD,zE]
            refine wpAnyH_take (i:=11) (v:=?_) rfl (by kernel_rfl) (by kernel_rfl) (by kernel_rfl) (fun _ _ _ h=>h) (Or.inl ⟨by rfl,?hy⟩) hHeld ?rest
            case hy=>(intro w hSw;obtain ⟨r0,r1,r2,r3,r4,r5,r6,r7,r8,r9,r10,r11,r12,r13,r14,r15⟩:=hSw;go_simp;try with_reducible rfl)
            case rest =>
             try simp only [Act.put,zC,zD,zE]
             refine wpAnyH_take (i:=12) (v:=?_) rfl (by kernel_rfl) (by kernel_rfl) (by kernel_rfl) (fun _ _ _ h=>h) (Or.inl ⟨by rfl,?hy⟩) hHeld ?rest
             case hy=>(intro w hSw;obtain ⟨r0,r1,r2,r3,r4,r5,r6,r7,r8,r9,r10,r11,r12,r13,r14,r15⟩:=hSw;go_simp;try with_reducible rfl)
             case rest =>
              try simp only [Act.put,zC,zD,zE]
              refine wpAnyH_take (i:=13) (v:=?_) rfl (by kernel_rfl) (by kernel_rfl) (by kernel_rfl) (fun _ _ _ h=>h) (Or.inl ⟨by rfl,?hy⟩) hHeld ?rest
              case hy=>(intro w hSw;obtain ⟨r0,r1,r2,r3,r4,r5,r6,r7,r8,r9,r10,r11,r12,r13,r14,r15⟩:=hSw;go_simp;try with_reducible rfl)
              case rest =>
               try simp only [Act.put,zC,zD,zE]
               refine wpAnyH_take (i:=14) (v:=?_) rfl (by kernel_rfl) (by kernel_rfl) (by kernel_rfl) (fun _ _ _ h=>h) (Or.inl ⟨by rfl,?hy⟩) hHeld ?rest
               case hy=>(intro w hSw;obtain ⟨r0,r1,r2,r3,r4,r5,r6,r7,r8,r9,r10,r11,r12,r13,r14,r15⟩:=hSw;go_simp;try with_reducible rfl)
               case rest =>
                try simp only [Act.put,zC,zD,zE]
                refine wpAnyH_take (i:=15) (v:=?_) rfl (by kernel_rfl) (by kernel_rfl) (by kernel_rfl) (fun _ _ _ h=>h) (Or.inl ⟨by rfl,?hy⟩) hHeld ?rest
                case hy=>(intro w hSw;obtain ⟨r0,r1,r2,r3,r4,r5,r6,r7,r8,r9,r10,r11,r12,r13,r14,r15⟩:=hSw;go_simp;try with_reducible rfl)
                case rest =>
                 try simp only [Act.put,zC,zD,zE]
                 refine wpAnyH_take (i:=16) (v:=?_) rfl (by kernel_rfl) (by kernel_rfl) (by kernel_rfl) (fun _ _ _ h=>h) (Or.inl ⟨by rfl,?hy⟩) hHeld ?rest
                 case hy=>(intro w hSw;obtain ⟨r0,r1,r2,r3,r4,r5,r6,r7,r8,r9,r10,r11,r12,r13,r14,r15⟩:=hSw;go_simp;try with_reducible rfl)
                 case rest =>
                  try simp only [Act.put,zC,zD,zE]
                  refine wpAnyH_take (i:=17) (v:=?_) rfl (by kernel_rfl) (by kernel_rfl) (by kernel_rfl) (fun _ _ _ h=>h) (Or.inl ⟨by rfl,?hy⟩) hHeld ?rest
                  case hy=>(intro w hSw;obtain ⟨r0,r1,r2,r3,r4,r5,r6,r7,r8,r9,r10,r11,r12,r13,r14,r15⟩:=hSw;go_simp;try with_reducible rfl)
                  case rest =>
                   try simp only [Act.put,zC,zD,zE]
                   refine wpAnyH_take (i:=18) (v:=?_) rfl (by kernel_rfl) (by kernel_rfl) (by kernel_rfl) (fun _ _ _ h=>h) (Or.inl ⟨by rfl,?hy⟩) hHeld ?rest
                   case hy=>(intro w hSw;obtain ⟨r0,r1,r2,r3,r4,r5,r6,r7,r8,r9,r10,r11,r12,r13,r14,r15⟩:=hSw;go_simp;try with_reducible rfl)
                   case rest =>
                    try simp only [Act.put,zC,zD,zE]
                    refine wpAnyH_take (i:=19) (v:=?_) rfl (by kernel_rfl) (by kernel_rfl) (by kernel_rfl) (fun _ _ _ h=>h) (Or.inl ⟨by rfl,?hy⟩) hHeld ?rest
                    case hy=>(intro w hSw;obtain ⟨r0,r1,r2,r3,r4,r5,r6,r7,r8,r9,r10,r11,r12,r13,r14,r15⟩:=hSw;go_simp;try with_reducible rfl)
                    case rest =>
                     try simp only [Act.put,zC,zD,zE]
                     refine wpAnyH_ready (rs:=[20]) (by kernel_rfl) (by simp) ?_
                     refine AllReadyH.cons rfl (fun K hK=>?_) AllReadyH.nil
                     go_simp
                     go_wp2_with (go_at_call 170;((with_reducible refine (OC.out _ (zJ (Below.refl _ _))).mono ?_);rintro e w5 ⟨rfl,ho5,hg5⟩;have HS5:=zA (HKP.out _ hg5)))
                     refine hK.out _ _ (HS5.out) (fun hHeld=>?_)
                     clear hK K
                     try simp only [Act.put,zC,zD,zE]
                     refine wpAnyH_ready (rs:=[21]) (by kernel_rfl) (by simp) ?_
                     refine AllReadyH.cons rfl (fun K hK=>?_) AllReadyH.nil
                     go_simp
                     go_wp2_with (go_at_call 107;((with_reducible refine (zCv _).mono ?_);rintro e w7 ⟨rfl,rfl⟩))
                     refine hK.out _ _ HS5.out (fun hHeld=>?_)
                     clear hK K
                     refine wpAnyH_done (by kernel_rfl) ?_ _
                     go_wp2
                     go_end0
                     exact ⟨rfl,zGk HM4.out ho5 hg5,(Fr.of (zJ HW4.out)).trans (Fr.grown hg5 (fun k e=>.inl (.inr (.inl e)))) (fun _ _ h=>h)⟩
end Go.Proofs.YtlpejagkadalbaaGreatDoor
