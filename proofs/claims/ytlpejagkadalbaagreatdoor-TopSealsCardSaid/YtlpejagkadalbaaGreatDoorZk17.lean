import Derived.Test.YtlpejagkadalbaaGreatDoorZk16
set_option maxHeartbeats 40000000
set_option maxRecDepth 100000
set_option linter.unusedVariables false
set_option linter.unusedSimpArgs false
namespace Go.Proofs.YtlpejagkadalbaaGreatDoor
open Go.RowKit
theorem zFf {base:Nat} {W:World} {gs gm:Nat} {i:InstV} {m:MV} {vm vs vo:Value} (hs:Bk W gs 190 (zS gm i)) (hm:MS base gm vm vs vo m W) (hR:∀ v∈m.R,v.wf) (ho:i.op=13) (a b:Nat) (ha:i.a=a) (hb:i.b=b) (a8:a < 8) (b8:b < 8) (hi:(m.reg b).is=true) (c:Nat) (hc:i.c=c) (c8:c < 8) (hn:(m.reg c).is=true) :
  Calls Tryz.prog 149 #[.pointer (some ⟨gs,0,none⟩)] W (Thrown 10 W):=by
 obtain ⟨s0,s1,s2,s3,s4⟩:=zR hs
 rw [hb] at s3
 rw [ho] at s1
 rw [ha] at s2
 rw [hc] at s4
 have sL:=hs.lt
 have KO:=zA (zAV hs hm.mB hm.h8 b b8 hi)
 have NO0:=zA (fun (W0:World) (h:Below W.heap.size W W0)=>zCb (zH h hs) (zH h hm.mB) hm.h8 c c8 hn)
 have hwf:=zAq hm.h8 hR b
 have HM:=zA hm
 have HSB:=zA hs
 clear hs hm hR
 generalize m.reg b=x at *
 obtain ⟨xi,xn,kp,kb,kl,ka,ks⟩:=x
 simp only at *
 go_enter Tryz.func149,Tryz.ntmps149
 go_upto_region 12 with (go_at_call 138;((with_reducible refine KO.out.mono ?_);rintro e w2 ⟨rfl,hb2⟩;have u0:=HSB.out;have t0:=(zH hb2 u0).cell 0;have t1:=(zH hb2 u0).cell 1;have t2:=(zH hb2 u0).cell 2;have t3:=(zH hb2 u0).cell 3;have t4:=(zH hb2 u0).cell 4;have tL:=(zH hb2 u0).lt;simp only [zS,List.getElem?_toArray,List.getElem?_cons_zero,List.getElem?_cons_succ,ho,ha,hb,hc] at t0 t1 t2 t3 t4;clear u0))
 obtain ⟨w4,hw4⟩:∃ w4,w4=(w2.alloc (.cells #[.int .i64 kp,.int .i64 kb,.int .i64 kl,.int .i64 ka,.int .i64 ks] 54)).alloc (.cells #[.int .i64 13,.int .i64 a,.int .i64 b,.int .i64 c] 179):=⟨_,rfl⟩
 have h24:Below w2.heap.size w2 w4:=by rw [hw4];exact zG (zG (Below.refl _ _) _) _
 have hW4:Below W.heap.size W w4:=zI hb2 h24
 have k2:Bk w4 w2.heap.size 54 #[.int .i64 kp,.int .i64 kb,.int .i64 kl,.int .i64 ka,.int .i64 ks]:=by rw [hw4];exact zN _ (zM _ _ _)
 have k3:Bk w4 (w2.heap.size+1) 179 #[.int .i64 13,.int .i64 a,.int .i64 b,.int .i64 c]:=by rw [hw4];exact zO _ _ (by simp)
 have hm4:=HM.out.below hW4
 have hs4:=zH hW4 HSB.out
 have hS:∀ W1,Bk W1 gs 190 (zS gm i)→Bk W1 w2.heap.size 54 #[.int .i64 kp,.int .i64 kb,.int .i64 kl,.int .i64 ka,.int .i64 ks]→Bk W1 (w2.heap.size+1) 179 #[.int .i64 13,.int .i64 a,.int .i64 b,.int .i64 c]→W1.cell? ⟨gs,0,none⟩=some (.pointer (some ⟨gm,0,none⟩))∧W1.cell? ⟨w2.heap.size+1,3,none⟩=some (.int .i64 c)∧W1.cell? ⟨w2.heap.size,0,none⟩=some (.int .i64 kp)∧W1.cell? ⟨w2.heap.size,1,none⟩=some (.int .i64 kb)∧W1.cell? ⟨w2.heap.size,2,none⟩=some (.int .i64 kl)∧W1.cell? ⟨w2.heap.size,3,none⟩=some (.int .i64 ka)∧W1.cell? ⟨w2.heap.size,4,none⟩=some (.int .i64 ks):=fun W1 h1 h2 h3=>⟨h1.cell 0,h3.cell 3,h2.cell 0,h2.cell 1,h2.cell 2,h2.cell 3,h2.cell 4⟩
 have HS:=zA (fun W1 (h:Below w4.heap.size w4 W1)=>hS W1 (zH h hs4) (zH h k2) (zH h k3))
 have HKP:=zA (fun (W0 W1:World) (h:Below w4.heap.size w4 W0) (hf:Fr (mS gm vm vs vo) W0 W1) =>
  hS W1 (hf.bk (zH h hs4) ((hm4.below h).not (zH h hs4) (by decide) (by decide) (by decide) (by decide))) (hf.bk (zH h k2) ((hm4.below h).not (zH h k2) (by decide) (by decide) (by decide) (by decide))) (hf.bk (zH h k3) ((hm4.below h).not (zH h k3) (by decide) (by decide) (by decide) (by decide))))
 have t4L:gs < w4.heap.size:=hs4.lt
 have t2L:w2.heap.size < w4.heap.size:=k2.lt
 have t3L:w2.heap.size+1 < w4.heap.size:=k3.lt
 have HW4:=zA hW4
 have NO:=zA (fun W1 (h:Below w4.heap.size w4 W1)=>NO0.out W1 (zI hW4 h))
 rw [←hw4]
 clear hS hs4 hm4 k2 k3 hw4 h24 hW4 hb2 t0 t1 t2 t3 t4
 refine wp_region_held_drew (S:=fun W1=>W1.cell? ⟨gs,0,none⟩=some (.pointer (some ⟨gm,0,none⟩))∧W1.cell? ⟨w2.heap.size+1,3,none⟩=some (.int .i64 c)∧W1.cell? ⟨w2.heap.size,0,none⟩=some (.int .i64 kp)∧W1.cell? ⟨w2.heap.size,1,none⟩=some (.int .i64 kb)∧W1.cell? ⟨w2.heap.size,2,none⟩=some (.int .i64 kl)∧W1.cell? ⟨w2.heap.size,3,none⟩=some (.int .i64 ka)∧W1.cell? ⟨w2.heap.size,4,none⟩=some (.int .i64 ks)) (by kernel_rfl) (HS.out _ (zJ (Below.refl _ _))) (fun hHeld=>?_)
 refine wpAnyH_take (i:=0) (v:=?_) rfl (by kernel_rfl) (by kernel_rfl) (by kernel_rfl) (fun _ _ _ h=>h) (Or.inl ⟨by rfl,?hy⟩) hHeld ?rest
 case hy=>(intro w hSw;obtain ⟨r0,r1,r2,r3,r4,r5,r6⟩:=hSw;go_simp;try with_reducible rfl)
 case rest =>
  try simp only [Act.put,zC,zD,zE]
  refine wpAnyH_take (i:=1) (v:=?_) rfl (by kernel_rfl) (by kernel_rfl) (by kernel_rfl) (fun _ _ _ h=>h) (Or.inl ⟨by rfl,?hy⟩) hHeld ?rest
  case hy=>(intro w hSw;obtain ⟨r0,r1,r2,r3,r4,r5,r6⟩:=hSw;go_simp;try with_reducible rfl)
  case rest =>
   try simp only [Act.put,zC,zD,zE]
   refine wpAnyH_take (i:=2) (v:=?_) rfl (by kernel_rfl) (by kernel_rfl) (by kernel_rfl) (fun _ _ _ h=>h) (Or.inl ⟨by rfl,?hy⟩) hHeld ?rest
   case hy=>(intro w hSw;obtain ⟨r0,r1,r2,r3,r4,r5,r6⟩:=hSw;go_simp;try with_reducible rfl)
   case rest =>
    try simp only [Act.put,zC,zD,zE]
    refine wpAnyH_take (i:=3) (v:=?_) rfl (by kernel_rfl) (by kernel_rfl) (by kernel_rfl) (fun _ _ _ h=>h) (Or.inl ⟨by rfl,?hy⟩) hHeld ?rest
    case hy=>(intro w hSw;obtain ⟨r0,r1,r2,r3,r4,r5,r6⟩:=hSw;go_simp;try with_reducible rfl)
    case rest =>
     try simp only [Act.put,zC,zD,zE]
     refine wpAnyH_take (i:=4) (v:=?_) rfl (by kernel_rfl) (by kernel_rfl) (by kernel_rfl) (fun _ _ _ h=>h) (Or.inl ⟨by rfl,?hy⟩) hHeld ?rest
     case hy=>(intro w hSw;obtain ⟨r0,r1,r2,r3,r4,r5,r6⟩:=hSw;go_simp;try with_reducible rfl)
     case rest =>
      try simp only [Act.put,zC,zD,zE]
      refine wpAnyH_ready (rs:=[5]) (by kernel_rfl) (by simp) ?_
      refine AllReadyH.cons rfl (fun K hK=>?_) AllReadyH.nil
      go_simp
      go_wp2_with (go_at_call 110;((with_reducible refine (NO.out _ (zJ (Below.refl _ _))).mono ?_);rintro e w' ⟨rfl,hbT⟩;exact ⟨rfl,Thrown.of (zI HW4.out (zI (zJ (Below.refl _ _)) hbT))⟩))
theorem zFg {base:Nat} {W:World} {gs gm:Nat} {i:InstV} {m:MV} {vm vs vo:Value} (hs:Bk W gs 190 (zS gm i)) (hm:MS base gm vm vs vo m W) (hR:∀ v∈m.R,v.wf) (ho:i.op=13) (a b:Nat) (ha:i.a=a) (hb:i.b=b) (a8:a < 8) (b8:b < 8) (hi:(m.reg b).is=true) (c:Nat) (hc:i.c=c) (c8:c < 8) (hn:(m.reg c).is=false) (er:Int) (he:er≠0) (hr:zA1 (m.reg b).k (m.reg c).n=(zeroK,er)) :
  Calls Tryz.prog 149 #[.pointer (some ⟨gs,0,none⟩)] W (Thrown er W):=by
 obtain ⟨s0,s1,s2,s3,s4⟩:=zR hs
 rw [hb] at s3
 rw [ho] at s1
 rw [ha] at s2
 rw [hc] at s4
 have sL:=hs.lt
 have KO:=zA (zAV hs hm.mB hm.h8 b b8 hi)
 have NO0:=zA (fun (W0:World) (h:Below W.heap.size W W0)=>zAX (zH h hs) (zH h hm.mB) hm.h8 c c8 hn)
 have hnw:=(zAq hm.h8 hR c).n
 generalize hnn:(m.reg c).n=nn at *
 have hwf:=zAq hm.h8 hR b
 have HM:=zA hm
 have HSB:=zA hs
 clear hs hm hR
 generalize m.reg b=x at *
 obtain ⟨xi,xn,kp,kb,kl,ka,ks⟩:=x
 simp only at *
 go_enter Tryz.func149,Tryz.ntmps149
 go_upto_region 12 with (go_at_call 138;((with_reducible refine KO.out.mono ?_);rintro e w2 ⟨rfl,hb2⟩;have u0:=HSB.out;have t0:=(zH hb2 u0).cell 0;have t1:=(zH hb2 u0).cell 1;have t2:=(zH hb2 u0).cell 2;have t3:=(zH hb2 u0).cell 3;have t4:=(zH hb2 u0).cell 4;have tL:=(zH hb2 u0).lt;simp only [zS,List.getElem?_toArray,List.getElem?_cons_zero,List.getElem?_cons_succ,ho,ha,hb,hc] at t0 t1 t2 t3 t4;clear u0))
 obtain ⟨w4,hw4⟩:∃ w4,w4=(w2.alloc (.cells #[.int .i64 kp,.int .i64 kb,.int .i64 kl,.int .i64 ka,.int .i64 ks] 54)).alloc (.cells #[.int .i64 13,.int .i64 a,.int .i64 b,.int .i64 c] 179):=⟨_,rfl⟩
 have h24:Below w2.heap.size w2 w4:=by rw [hw4];exact zG (zG (Below.refl _ _) _) _
 have hW4:Below W.heap.size W w4:=zI hb2 h24
 have k2:Bk w4 w2.heap.size 54 #[.int .i64 kp,.int .i64 kb,.int .i64 kl,.int .i64 ka,.int .i64 ks]:=by rw [hw4];exact zN _ (zM _ _ _)
 have k3:Bk w4 (w2.heap.size+1) 179 #[.int .i64 13,.int .i64 a,.int .i64 b,.int .i64 c]:=by rw [hw4];exact zO _ _ (by simp)
 have hm4:=HM.out.below hW4
 have hs4:=zH hW4 HSB.out
 have hS:∀ W1,Bk W1 gs 190 (zS gm i)→Bk W1 w2.heap.size 54 #[.int .i64 kp,.int .i64 kb,.int .i64 kl,.int .i64 ka,.int .i64 ks]→Bk W1 (w2.heap.size+1) 179 #[.int .i64 13,.int .i64 a,.int .i64 b,.int .i64 c]→W1.cell? ⟨gs,0,none⟩=some (.pointer (some ⟨gm,0,none⟩))∧W1.cell? ⟨w2.heap.size+1,3,none⟩=some (.int .i64 c)∧W1.cell? ⟨w2.heap.size,0,none⟩=some (.int .i64 kp)∧W1.cell? ⟨w2.heap.size,1,none⟩=some (.int .i64 kb)∧W1.cell? ⟨w2.heap.size,2,none⟩=some (.int .i64 kl)∧W1.cell? ⟨w2.heap.size,3,none⟩=some (.int .i64 ka)∧W1.cell? ⟨w2.heap.size,4,none⟩=some (.int .i64 ks):=fun W1 h1 h2 h3=>⟨h1.cell 0,h3.cell 3,h2.cell 0,h2.cell 1,h2.cell 2,h2.cell 3,h2.cell 4⟩
 have HS:=zA (fun W1 (h:Below w4.heap.size w4 W1)=>hS W1 (zH h hs4) (zH h k2) (zH h k3))
 have HKP:=zA (fun (W0 W1:World) (h:Below w4.heap.size w4 W0) (hf:Fr (mS gm vm vs vo) W0 W1) =>
  hS W1 (hf.bk (zH h hs4) ((hm4.below h).not (zH h hs4) (by decide) (by decide) (by decide) (by decide))) (hf.bk (zH h k2) ((hm4.below h).not (zH h k2) (by decide) (by decide) (by decide) (by decide))) (hf.bk (zH h k3) ((hm4.below h).not (zH h k3) (by decide) (by decide) (by decide) (by decide))))
 have t4L:gs < w4.heap.size:=hs4.lt
 have t2L:w2.heap.size < w4.heap.size:=k2.lt
 have t3L:w2.heap.size+1 < w4.heap.size:=k3.lt
 have HW4:=zA hW4
 have NO:=zA (fun W1 (h:Below w4.heap.size w4 W1)=>NO0.out W1 (zI hW4 h))
 have oc:∀ W1,Calls Tryz.prog 172 #[.agg #[.int .i64 kp,.int .i64 kb,.int .i64 kl,.int .i64 ka,.int .i64 ks],.int .i64 nn] W1 fun e w'=>e=.returned (KeyV.res (zeroK,er))∧Below W1.heap.size W1 w':=fun W1=>by rw [←hr];exact zFz _ _ _ _ _ nn hnw W1
 simp only [KeyV.res,zeroK] at oc
 have OC:=zA oc
 have SK:=zA (fun W1=>zC0 (W:=W1) gs 0 0 0 0 0 er he)
 clear oc hr hnw
 rw [←hw4]
 clear hS hs4 hm4 k2 k3 hw4 h24 hW4 hb2 t0 t1 t2 t3 t4
 refine wp_region_held_drew (S:=fun W1=>W1.cell? ⟨gs,0,none⟩=some (.pointer (some ⟨gm,0,none⟩))∧W1.cell? ⟨w2.heap.size+1,3,none⟩=some (.int .i64 c)∧W1.cell? ⟨w2.heap.size,0,none⟩=some (.int .i64 kp)∧W1.cell? ⟨w2.heap.size,1,none⟩=some (.int .i64 kb)∧W1.cell? ⟨w2.heap.size,2,none⟩=some (.int .i64 kl)∧W1.cell? ⟨w2.heap.size,3,none⟩=some (.int .i64 ka)∧W1.cell? ⟨w2.heap.size,4,none⟩=some (.int .i64 ks)) (by kernel_rfl) (HS.out _ (zJ (Below.refl _ _))) (fun hHeld=>?_)
 refine wpAnyH_take (i:=0) (v:=?_) rfl (by kernel_rfl) (by kernel_rfl) (by kernel_rfl) (fun _ _ _ h=>h) (Or.inl ⟨by rfl,?hy⟩) hHeld ?rest
 case hy=>(intro w hSw;obtain ⟨r0,r1,r2,r3,r4,r5,r6⟩:=hSw;go_simp;try with_reducible rfl)
 case rest =>
  try simp only [Act.put,zC,zD,zE]
  refine wpAnyH_take (i:=1) (v:=?_) rfl (by kernel_rfl) (by kernel_rfl) (by kernel_rfl) (fun _ _ _ h=>h) (Or.inl ⟨by rfl,?hy⟩) hHeld ?rest
  case hy=>(intro w hSw;obtain ⟨r0,r1,r2,r3,r4,r5,r6⟩:=hSw;go_simp;try with_reducible rfl)
  case rest =>
   try simp only [Act.put,zC,zD,zE]
   refine wpAnyH_take (i:=2) (v:=?_) rfl (by kernel_rfl) (by kernel_rfl) (by kernel_rfl) (fun _ _ _ h=>h) (Or.inl ⟨by rfl,?hy⟩) hHeld ?rest
   case hy=>(intro w hSw;obtain ⟨r0,r1,r2,r3,r4,r5,r6⟩:=hSw;go_simp;try with_reducible rfl)
   case rest =>
    try simp only [Act.put,zC,zD,zE]
    refine wpAnyH_take (i:=3) (v:=?_) rfl (by kernel_rfl) (by kernel_rfl) (by kernel_rfl) (fun _ _ _ h=>h) (Or.inl ⟨by rfl,?hy⟩) hHeld ?rest
    case hy=>(intro w hSw;obtain ⟨r0,r1,r2,r3,r4,r5,r6⟩:=hSw;go_simp;try with_reducible rfl)
    case rest =>
     try simp only [Act.put,zC,zD,zE]
     refine wpAnyH_take (i:=4) (v:=?_) rfl (by kernel_rfl) (by kernel_rfl) (by kernel_rfl) (fun _ _ _ h=>h) (Or.inl ⟨by rfl,?hy⟩) hHeld ?rest
     case hy=>(intro w hSw;obtain ⟨r0,r1,r2,r3,r4,r5,r6⟩:=hSw;go_simp;try with_reducible rfl)
     case rest =>
      try simp only [Act.put,zC,zD,zE]
      refine wpAnyH_ready (rs:=[5]) (by kernel_rfl) (by simp) ?_
      refine AllReadyH.cons rfl (fun K hK=>?_) AllReadyH.nil
      go_simp
      go_wp2_with (go_at_call 110;((with_reducible refine (NO.out _ (zJ (Below.refl _ _))).mono ?_);rintro e w' ⟨rfl,rfl⟩))
      refine hK.out _ _ (hHeld) (fun hHeld=>?_)
      clear hK K
      try simp only [Act.put,zC,zD,zE]
      refine wpAnyH_ready (rs:=[6]) (by kernel_rfl) (by simp) ?_
      refine AllReadyH.cons rfl (fun K hK=>?_) AllReadyH.nil
      go_simp
      go_wp2_with (go_at_call 172;((with_reducible refine (OC.out _).mono ?_);rintro e w5 ⟨rfl,hb5⟩;have HB5:=zA (zI (zJ (Below.refl _ _)) hb5);have HS5:=zA (HS.out _ HB5.out)))
      refine hK.out _ _ (HS5.out) (fun hHeld=>?_)
      clear hK K
      try simp only [Act.put,zC,zD,zE]
      refine wpAnyH_take (i:=7) (v:=?_) rfl (by kernel_rfl) (by kernel_rfl) (by kernel_rfl) (fun _ _ _ h=>h) (Or.inl ⟨by rfl,?hy⟩) hHeld ?rest
      case hy=>(intro w hSw;obtain ⟨r0,r1,r2,r3,r4,r5,r6⟩:=hSw;go_simp;try with_reducible rfl)
      case rest =>
       try simp only [Act.put,zC,zD,zE]
       refine wpAnyH_take (i:=8) (v:=?_) rfl (by kernel_rfl) (by kernel_rfl) (by kernel_rfl) (fun _ _ _ h=>h) (Or.inl ⟨by rfl,?hy⟩) hHeld ?rest
       case hy=>(intro w hSw;obtain ⟨r0,r1,r2,r3,r4,r5,r6⟩:=hSw;go_simp;try with_reducible rfl)
       case rest =>
        try simp only [Act.put,zC,zD,zE]
        refine wpAnyH_ready (rs:=[9]) (by kernel_rfl) (by simp) ?_
        refine AllReadyH.cons rfl (fun K hK=>?_) AllReadyH.nil
        go_simp
        go_wp2_with (go_at_call 148;((with_reducible refine (SK.out _).mono ?_);rintro e w6 ⟨rfl,hbT⟩;exact ⟨rfl,Thrown.of (zI HW4.out (zI HB5.out hbT))⟩))
theorem zGA {base:Nat} {W:World} {gs gm:Nat} {i:InstV} {m:MV} {vm vs vo:Value} (hs:Bk W gs 190 (zS gm i)) (hm:MS base gm vm vs vo m W) (hR:∀ v∈m.R,v.wf) (ho:i.op=13) (a b:Nat) (ha:i.a=a) (hb:i.b=b) (a8:a < 8) (b8:b < 8) (hi:(m.reg b).is=true) (c:Nat) (hc:i.c=c) (c8:c < 8) (hn:(m.reg c).is=false) (q:KeyV) (hr:zA1 (m.reg b).k (m.reg c).n=(q,0)) :
  Calls Tryz.prog 149 #[.pointer (some ⟨gs,0,none⟩)] W (SPost base gm vm vs vo (m.set a (kV q)) W):=by
 obtain ⟨s0,s1,s2,s3,s4⟩:=zR hs
 rw [hb] at s3
 rw [ho] at s1
 rw [ha] at s2
 rw [hc] at s4
 have sL:=hs.lt
 have KO:=zA (zAV hs hm.mB hm.h8 b b8 hi)
 have NO0:=zA (fun (W0:World) (h:Below W.heap.size W W0)=>zAX (zH h hs) (zH h hm.mB) hm.h8 c c8 hn)
 have hnw:=(zAq hm.h8 hR c).n
 generalize hnn:(m.reg c).n=nn at *
 have hwf:=zAq hm.h8 hR b
 have HM:=zA hm
 have HSB:=zA hs
 clear hs hm hR
 generalize m.reg b=x at *
 obtain ⟨xi,xn,kp,kb,kl,ka,ks⟩:=x
 simp only at *
 go_enter Tryz.func149,Tryz.ntmps149
 go_upto_region 12 with (go_at_call 138;((with_reducible refine KO.out.mono ?_);rintro e w2 ⟨rfl,hb2⟩;have u0:=HSB.out;have t0:=(zH hb2 u0).cell 0;have t1:=(zH hb2 u0).cell 1;have t2:=(zH hb2 u0).cell 2;have t3:=(zH hb2 u0).cell 3;have t4:=(zH hb2 u0).cell 4;have tL:=(zH hb2 u0).lt;simp only [zS,List.getElem?_toArray,List.getElem?_cons_zero,List.getElem?_cons_succ,ho,ha,hb,hc] at t0 t1 t2 t3 t4;clear u0))
 obtain ⟨w4,hw4⟩:∃ w4,w4=(w2.alloc (.cells #[.int .i64 kp,.int .i64 kb,.int .i64 kl,.int .i64 ka,.int .i64 ks] 54)).alloc (.cells #[.int .i64 13,.int .i64 a,.int .i64 b,.int .i64 c] 179):=⟨_,rfl⟩
 have h24:Below w2.heap.size w2 w4:=by rw [hw4];exact zG (zG (Below.refl _ _) _) _
 have hW4:Below W.heap.size W w4:=zI hb2 h24
 have k2:Bk w4 w2.heap.size 54 #[.int .i64 kp,.int .i64 kb,.int .i64 kl,.int .i64 ka,.int .i64 ks]:=by rw [hw4];exact zN _ (zM _ _ _)
 have k3:Bk w4 (w2.heap.size+1) 179 #[.int .i64 13,.int .i64 a,.int .i64 b,.int .i64 c]:=by rw [hw4];exact zO _ _ (by simp)
 have hm4:=HM.out.below hW4
 have hs4:=zH hW4 HSB.out
 have hS:∀ W1,Bk W1 gs 190 (zS gm i)→Bk W1 w2.heap.size 54 #[.int .i64 kp,.int .i64 kb,.int .i64 kl,.int .i64 ka,.int .i64 ks]→Bk W1 (w2.heap.size+1) 179 #[.int .i64 13,.int .i64 a,.int .i64 b,.int .i64 c]→W1.cell? ⟨gs,0,none⟩=some (.pointer (some ⟨gm,0,none⟩))∧W1.cell? ⟨w2.heap.size+1,3,none⟩=some (.int .i64 c)∧W1.cell? ⟨w2.heap.size,0,none⟩=some (.int .i64 kp)∧W1.cell? ⟨w2.heap.size,1,none⟩=some (.int .i64 kb)∧W1.cell? ⟨w2.heap.size,2,none⟩=some (.int .i64 kl)∧W1.cell? ⟨w2.heap.size,3,none⟩=some (.int .i64 ka)∧W1.cell? ⟨w2.heap.size,4,none⟩=some (.int .i64 ks):=fun W1 h1 h2 h3=>⟨h1.cell 0,h3.cell 3,h2.cell 0,h2.cell 1,h2.cell 2,h2.cell 3,h2.cell 4⟩
 have HS:=zA (fun W1 (h:Below w4.heap.size w4 W1)=>hS W1 (zH h hs4) (zH h k2) (zH h k3))
 have HKP:=zA (fun (W0 W1:World) (h:Below w4.heap.size w4 W0) (hf:Fr (mS gm vm vs vo) W0 W1) =>
  hS W1 (hf.bk (zH h hs4) ((hm4.below h).not (zH h hs4) (by decide) (by decide) (by decide) (by decide))) (hf.bk (zH h k2) ((hm4.below h).not (zH h k2) (by decide) (by decide) (by decide) (by decide))) (hf.bk (zH h k3) ((hm4.below h).not (zH h k3) (by decide) (by decide) (by decide) (by decide))))
 have t4L:gs < w4.heap.size:=hs4.lt
 have t2L:w2.heap.size < w4.heap.size:=k2.lt
 have t3L:w2.heap.size+1 < w4.heap.size:=k3.lt
 have HW4:=zA hW4
 have NO:=zA (fun W1 (h:Below w4.heap.size w4 W1)=>NO0.out W1 (zI hW4 h))
 have oc:∀ W1,Calls Tryz.prog 172 #[.agg #[.int .i64 kp,.int .i64 kb,.int .i64 kl,.int .i64 ka,.int .i64 ks],.int .i64 nn] W1 fun e w'=>e=.returned (KeyV.res (q,0))∧Below W1.heap.size W1 w':=fun W1=>by rw [←hr];exact zFz _ _ _ _ _ nn hnw W1
 obtain ⟨q0,q1,q2,q3,q4⟩:=q
 simp only [KeyV.res] at oc
 have OC:=zA oc
 have SK:=zA (fun W1 (h:Below w4.heap.size w4 W1)=>zCs (zH h hs4) (hm4.below h) a ha a8 q0 q1 q2 q3 q4)
 clear oc hr hnw
 rw [←hw4]
 clear hS hs4 hm4 k2 k3 hw4 h24 hW4 hb2 t0 t1 t2 t3 t4
 go_region_held3 (fun W1:World=>W1.cell? ⟨gs,0,none⟩=some (.pointer (some ⟨gm,0,none⟩))∧W1.cell? ⟨w2.heap.size+1,3,none⟩=some (.int .i64 c)∧W1.cell? ⟨w2.heap.size,0,none⟩=some (.int .i64 kp)∧W1.cell? ⟨w2.heap.size,1,none⟩=some (.int .i64 kb)∧W1.cell? ⟨w2.heap.size,2,none⟩=some (.int .i64 kl)∧W1.cell? ⟨w2.heap.size,3,none⟩=some (.int .i64 ka)∧W1.cell? ⟨w2.heap.size,4,none⟩=some (.int .i64 ks)) (first | exact HS.out _ (zJ (Below.refl _ _)) | exact HS5.out | exact HS6.out) (first
  | (go_at_call 110;((with_reducible refine (NO.out _ (zJ (Below.refl _ _))).mono ?_);rintro e w' ⟨rfl,rfl⟩))
  | (go_at_call 172;((with_reducible refine (OC.out _).mono ?_);rintro e w5 ⟨rfl,hb5⟩;have HB5:=zA (zI (zJ (Below.refl _ _)) hb5);have HS5:=zA (HS.out _ HB5.out)))
  | (go_at_call 148;((with_reducible refine (SK.out _ HB5.out).mono ?_);rintro e w6 ⟨rfl,hm6,hf6⟩;have HS6:=zA (HKP.out _ _ HB5.out hf6))))
 go_wp2
 go_end0
 exact SPost.of (zI HW4.out HB5.out) ⟨rfl,hm6,hf6⟩
end Go.Proofs.YtlpejagkadalbaaGreatDoor
