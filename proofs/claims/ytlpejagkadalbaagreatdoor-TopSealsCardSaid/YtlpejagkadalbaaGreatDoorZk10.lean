import Derived.Test.YtlpejagkadalbaaGreatDoorZk09
set_option maxHeartbeats 40000000
set_option maxRecDepth 100000
set_option linter.unusedVariables false
set_option linter.unusedSimpArgs false
namespace Go.Proofs.YtlpejagkadalbaaGreatDoor
open Go.RowKit
theorem SPost.of {base gm:Nat} {vm vs vo:Value} {m:MV} {W W1 w':World} {e:Ending} (hb:Below W.heap.size W W1) (h:SPost base gm vm vs vo m W1 e w'):SPost base gm vm vs vo m W e w' :=
 ⟨h.1,h.2.1,(Fr.of hb).trans h.2.2 (fun _ _ h=>h)⟩
theorem zJB {base:Nat} {W:World} {gs gm:Nat} {i:InstV} {m:MV} {vm vs vo:Value} (hs:Bk W gs 190 (zS gm i)) (hm:MS base gm vm vs vo m W) (a b:Nat) (ha:i.a=a) (hb:i.b=b) (a8:a < 8) (b8:b < 8) (hc:i.c=0) (hi:(m.reg b).is=true) :
  Calls Tryz.prog 147 #[.pointer (some ⟨gs,0,none⟩)] W (SPost base gm vm vs vo (m.set a (nV 1)) W):=by
 obtain ⟨s0,s1,s2,s3,s4⟩:=zR hs
 rw [hb] at s3
 have sL:=hs.lt
 have mL:=hm.mB.lt
 have q1:(0:Int)≤(b:Int):=by omega
 have q2:(b:Int) < 8:=by omega
 obtain ⟨c0,c1,c2,c3,c4,c5,c6⟩:=zAf hm.mB hm.h8 b8
 rw [hc] at s4
 rw [hi] at c0
 have SN:=zA (fun W1 (h:Below W.heap.size W W1)=>zAe (zH h hs) (hm.below h) a ha a8 1)
 clear hs hm
 go_enter Tryz.func147,Tryz.ntmps147
 go_wp2
 go_region
 go_wp2_with (go_at_call 139;((with_reducible refine (SN.out _ (by repeat (first | with_reducible exact Below.refl _ _ | with_reducible refine zG ?_ _ | with_reducible refine zJ ?_ | with_reducible refine zK ?_ (by first | omega | (simp;done) | (simp;omega)) _))).mono ?_);rintro e w' ⟨rfl,hm2,hf2⟩))
 go_end0
 exact SPost.of (by repeat (first | with_reducible exact Below.refl _ _ | with_reducible refine zG ?_ _ | with_reducible refine zJ ?_ | with_reducible refine zK ?_ (by first | omega | (simp;done) | (simp;omega)) _)) ⟨rfl,hm2,hf2⟩
theorem zIJ {base:Nat} {W:World} {gs gm:Nat} {i:InstV} {m:MV} {vm vs vo:Value} (hs:Bk W gs 190 (zS gm i)) (hm:MS base gm vm vs vo m W) (a b:Nat) (ha:i.a=a) (hb:i.b=b) (a8:a < 8) (b8:b < 8) (hc:i.c=0) (hi:(m.reg b).is=false) :
  Calls Tryz.prog 147 #[.pointer (some ⟨gs,0,none⟩)] W (SPost base gm vm vs vo (m.set a (nV 0)) W):=by
 obtain ⟨s0,s1,s2,s3,s4⟩:=zR hs
 rw [hb] at s3
 have sL:=hs.lt
 have mL:=hm.mB.lt
 have q1:(0:Int)≤(b:Int):=by omega
 have q2:(b:Int) < 8:=by omega
 obtain ⟨c0,c1,c2,c3,c4,c5,c6⟩:=zAf hm.mB hm.h8 b8
 rw [hc] at s4
 rw [hi] at c0
 have SN:=zA (fun W1 (h:Below W.heap.size W W1)=>zAe (zH h hs) (hm.below h) a ha a8 0)
 clear hs hm
 go_enter Tryz.func147,Tryz.ntmps147
 go_wp2
 go_region
 go_wp2_with (go_at_call 139;((with_reducible refine (SN.out _ (by repeat (first | with_reducible exact Below.refl _ _ | with_reducible refine zG ?_ _ | with_reducible refine zJ ?_ | with_reducible refine zK ?_ (by first | omega | (simp;done) | (simp;omega)) _))).mono ?_);rintro e w' ⟨rfl,hm2,hf2⟩))
 go_end0
 exact SPost.of (by repeat (first | with_reducible exact Below.refl _ _ | with_reducible refine zG ?_ _ | with_reducible refine zJ ?_ | with_reducible refine zK ?_ (by first | omega | (simp;done) | (simp;omega)) _)) ⟨rfl,hm2,hf2⟩
theorem zN8 {base:Nat} {W:World} {gs gm:Nat} {i:InstV} {m:MV} {vm vs vo:Value} (hs:Bk W gs 190 (zS gm i)) (hm:MS base gm vm vs vo m W) (a b:Nat) (ha:i.a=a) (hb:i.b=b) (a8:a < 8) (b8:b < 8) (hc:i.c≠0) (hi:(m.reg b).is=false) :
  Calls Tryz.prog 147 #[.pointer (some ⟨gs,0,none⟩)] W (Thrown 10 W):=by
 obtain ⟨s0,s1,s2,s3,s4⟩:=zR hs
 rw [hb] at s3
 have sL:=hs.lt
 have mL:=hm.mB.lt
 have q1:(0:Int)≤(b:Int):=by omega
 have q2:(b:Int) < 8:=by omega
 obtain ⟨c0,c1,c2,c3,c4,c5,c6⟩:=zAf hm.mB hm.h8 b8
 have g1:(i.c==0)=false:=by simpa using hc
 have KB:=zA (fun W1 (h:Below W.heap.size W W1)=>zDn (zH h hs) (zH h hm.mB) hm.h8 b b8 hi)
 clear hs hm
 go_enter Tryz.func147,Tryz.ntmps147
 go_wp2
 go_region
 go_wp2_with (go_at_call 138;((with_reducible refine (KB.out _ (by repeat (first | with_reducible exact Below.refl _ _ | with_reducible refine zG ?_ _ | with_reducible refine zJ ?_ | with_reducible refine zK ?_ (by first | omega | (simp;done) | (simp;omega)) _))).mono ?_);rintro e w' ⟨rfl,hb2⟩))
 exact ⟨rfl,Thrown.of (zI (by repeat (first | with_reducible exact Below.refl _ _ | with_reducible refine zG ?_ _ | with_reducible refine zJ ?_ | with_reducible refine zK ?_ (by first | omega | (simp;done) | (simp;omega)) _)) hb2)⟩
theorem zOi {base:Nat} {W:World} {gs gm:Nat} {i:InstV} {m:MV} {vm vs vo:Value} (hs:Bk W gs 190 (zS gm i)) (hm:MS base gm vm vs vo m W) (a b:Nat) (ha:i.a=a) (hb:i.b=b) (a8:a < 8) (b8:b < 8) (hc:i.c=1) (hi:(m.reg b).is=true) :
  Calls Tryz.prog 147 #[.pointer (some ⟨gs,0,none⟩)] W (SPost base gm vm vs vo (m.set a (nV (m.reg b).k.perm)) W):=by
 obtain ⟨s0,s1,s2,s3,s4⟩:=zR hs
 rw [hb] at s3
 have sL:=hs.lt
 have mL:=hm.mB.lt
 have q1:(0:Int)≤(b:Int):=by omega
 have q2:(b:Int) < 8:=by omega
 obtain ⟨c0,c1,c2,c3,c4,c5,c6⟩:=zAf hm.mB hm.h8 b8
 rw [hc] at s4
 rw [hi] at c0
 have KO:=zA (fun W1 (h:Below W.heap.size W W1)=>zAV (zH h hs) (zH h hm.mB) hm.h8 b b8 hi)
 have SN:=zA (fun W1 (h:Below W.heap.size W W1)=>zAe (zH h hs) (hm.below h) a ha a8 (m.reg b).k.perm)
 have t4:∀ W1,Below W.heap.size W W1→W1.cell? ⟨gs,4,none⟩=some (.int .i64 1):=fun W1 h=>((zH h hs).cell 4).trans (by rw [←hc];rfl)
 have HM:=zA hm
 have HSB:=zA hs
 clear hs hm
 generalize m.reg b=x at *
 obtain ⟨xi,xn,kp,kb,kl,ka,ks⟩:=x
 simp only at *
 go_enter Tryz.func147,Tryz.ntmps147
 go_wp2
 go_region
 go_upto_region 7 with (go_at_call 138;((with_reducible refine (KO.out _ (by repeat (first | with_reducible exact Below.refl _ _ | with_reducible refine zG ?_ _ | with_reducible refine zJ ?_ | with_reducible refine zK ?_ (by first | omega | (simp;done) | (simp;omega)) _))).mono ?_);rintro e w2 ⟨rfl,hb2⟩))
 have hW2:Below W.heap.size W w2:=zI (by repeat (first | with_reducible exact Below.refl _ _ | with_reducible refine zG ?_ _ | with_reducible refine zJ ?_ | with_reducible refine zK ?_ (by first | omega | (simp;done) | (simp;omega)) _)) hb2
 clear hb2
 obtain ⟨w3,hw3⟩:∃ w3,w3=w2.alloc (.cells #[.int .i64 kp,.int .i64 kb,.int .i64 kl,.int .i64 ka,.int .i64 ks] 54):=⟨_,rfl⟩
 have hW3:Below W.heap.size W w3:=by rw [hw3];exact zG hW2 _
 have k3:Bk w3 w2.heap.size 54 #[.int .i64 kp,.int .i64 kb,.int .i64 kl,.int .i64 ka,.int .i64 ks]:=by rw [hw3];exact zM _ _ _
 have hS:w3.cell? ⟨gs,4,none⟩=some (.int .i64 1)∧w3.cell? ⟨w2.heap.size,0,none⟩=some (.int .i64 kp)∧w3.cell? ⟨w2.heap.size,1,none⟩=some (.int .i64 kb)∧w3.cell? ⟨w2.heap.size,2,none⟩=some (.int .i64 kl)∧w3.cell? ⟨w2.heap.size,3,none⟩=some (.int .i64 ka)∧w3.cell? ⟨w2.heap.size,4,none⟩=some (.int .i64 ks) :=
  ⟨t4 w3 hW3,k3.cell 0,k3.cell 1,k3.cell 2,k3.cell 3,k3.cell 4⟩
 have uL:=Nat.lt_of_lt_of_le sL hW3.size
 have kL:=k3.lt
 have HS:=zA hS
 have hm3:=HM.out.below hW3
 have hs3:=zH hW3 HSB.out
 have HKP:=zA (fun (w':World) (hf:Fr (mS gm vm vs vo) w3.drew w')=>(show w'.cell? ⟨gs,4,none⟩=some (.int .i64 1)∧w'.cell? ⟨w2.heap.size,0,none⟩=some (.int .i64 kp)∧w'.cell? ⟨w2.heap.size,1,none⟩=some (.int .i64 kb)∧w'.cell? ⟨w2.heap.size,2,none⟩=some (.int .i64 kl)∧w'.cell? ⟨w2.heap.size,3,none⟩=some (.int .i64 ka)∧w'.cell? ⟨w2.heap.size,4,none⟩=some (.int .i64 ks) from
  ⟨((hf.bk hs3 (hm3.not hs3 (by decide) (by decide) (by decide) (by decide))).cell 4).trans (by rw [←hc];rfl),(hf.bk k3 (hm3.not k3 (by decide) (by decide) (by decide) (by decide))).cell 0,(hf.bk k3 (hm3.not k3 (by decide) (by decide) (by decide) (by decide))).cell 1,(hf.bk k3 (hm3.not k3 (by decide) (by decide) (by decide) (by decide))).cell 2,(hf.bk k3 (hm3.not k3 (by decide) (by decide) (by decide) (by decide))).cell 3,(hf.bk k3 (hm3.not k3 (by decide) (by decide) (by decide) (by decide))).cell 4⟩))
 have hix:∀ W:World,(Instr.index 255 (.agg #[.int .i64 kp,.int .i64 kb,.int .i64 kl,.int .i64 ka,.int .i64 ks]) (.int .i64 (IntKind.i64.wrap 0))).run Tryz.prog W=.ok (.int .i64 kp) W:=fun W=>by kernel_rfl
 rw [←hw3]
 clear hS k3 hw3 t4 hm3 hs3
 go_region_held3 (fun W1:World=>W1.cell? ⟨gs,4,none⟩=some (.int .i64 1)∧W1.cell? ⟨w2.heap.size,0,none⟩=some (.int .i64 kp)∧W1.cell? ⟨w2.heap.size,1,none⟩=some (.int .i64 kb)∧W1.cell? ⟨w2.heap.size,2,none⟩=some (.int .i64 kl)∧W1.cell? ⟨w2.heap.size,3,none⟩=some (.int .i64 ka)∧W1.cell? ⟨w2.heap.size,4,none⟩=some (.int .i64 ks)) (first | exact HS.out | exact HS5.out) (first
  | (go_at_call 139;((with_reducible refine (SN.out _ (zJ hW3)).mono ?_);rintro e w' ⟨rfl,hm2,hf2⟩;have HS5:=zA (HKP.out _ hf2))))
 go_wp2
 go_end0
 exact SPost.of (zJ hW3) ⟨rfl,hm2,hf2⟩
theorem zOh {base:Nat} {W:World} {gs gm:Nat} {i:InstV} {m:MV} {vm vs vo:Value} (hs:Bk W gs 190 (zS gm i)) (hm:MS base gm vm vs vo m W) (a b:Nat) (ha:i.a=a) (hb:i.b=b) (a8:a < 8) (b8:b < 8) (hc:i.c=2) (hi:(m.reg b).is=true) :
  Calls Tryz.prog 147 #[.pointer (some ⟨gs,0,none⟩)] W (SPost base gm vm vs vo (m.set a (nV (m.reg b).k.base)) W):=by
 obtain ⟨s0,s1,s2,s3,s4⟩:=zR hs
 rw [hb] at s3
 have sL:=hs.lt
 have mL:=hm.mB.lt
 have q1:(0:Int)≤(b:Int):=by omega
 have q2:(b:Int) < 8:=by omega
 obtain ⟨c0,c1,c2,c3,c4,c5,c6⟩:=zAf hm.mB hm.h8 b8
 rw [hc] at s4
 rw [hi] at c0
 have KO:=zA (fun W1 (h:Below W.heap.size W W1)=>zAV (zH h hs) (zH h hm.mB) hm.h8 b b8 hi)
 have SN:=zA (fun W1 (h:Below W.heap.size W W1)=>zAe (zH h hs) (hm.below h) a ha a8 (m.reg b).k.base)
 have t4:∀ W1,Below W.heap.size W W1→W1.cell? ⟨gs,4,none⟩=some (.int .i64 2):=fun W1 h=>((zH h hs).cell 4).trans (by rw [←hc];rfl)
 have HM:=zA hm
 have HSB:=zA hs
 clear hs hm
 generalize m.reg b=x at *
 obtain ⟨xi,xn,kp,kb,kl,ka,ks⟩:=x
 simp only at *
 go_enter Tryz.func147,Tryz.ntmps147
 go_wp2
 go_region
 go_upto_region 7 with (go_at_call 138;((with_reducible refine (KO.out _ (by repeat (first | with_reducible exact Below.refl _ _ | with_reducible refine zG ?_ _ | with_reducible refine zJ ?_ | with_reducible refine zK ?_ (by first | omega | (simp;done) | (simp;omega)) _))).mono ?_);rintro e w2 ⟨rfl,hb2⟩))
 have hW2:Below W.heap.size W w2:=zI (by repeat (first | with_reducible exact Below.refl _ _ | with_reducible refine zG ?_ _ | with_reducible refine zJ ?_ | with_reducible refine zK ?_ (by first | omega | (simp;done) | (simp;omega)) _)) hb2
 clear hb2
 obtain ⟨w3,hw3⟩:∃ w3,w3=w2.alloc (.cells #[.int .i64 kp,.int .i64 kb,.int .i64 kl,.int .i64 ka,.int .i64 ks] 54):=⟨_,rfl⟩
 have hW3:Below W.heap.size W w3:=by rw [hw3];exact zG hW2 _
 have k3:Bk w3 w2.heap.size 54 #[.int .i64 kp,.int .i64 kb,.int .i64 kl,.int .i64 ka,.int .i64 ks]:=by rw [hw3];exact zM _ _ _
 have hS:w3.cell? ⟨gs,4,none⟩=some (.int .i64 2)∧w3.cell? ⟨w2.heap.size,0,none⟩=some (.int .i64 kp)∧w3.cell? ⟨w2.heap.size,1,none⟩=some (.int .i64 kb)∧w3.cell? ⟨w2.heap.size,2,none⟩=some (.int .i64 kl)∧w3.cell? ⟨w2.heap.size,3,none⟩=some (.int .i64 ka)∧w3.cell? ⟨w2.heap.size,4,none⟩=some (.int .i64 ks) :=
  ⟨t4 w3 hW3,k3.cell 0,k3.cell 1,k3.cell 2,k3.cell 3,k3.cell 4⟩
 have uL:=Nat.lt_of_lt_of_le sL hW3.size
 have kL:=k3.lt
 have HS:=zA hS
 have hm3:=HM.out.below hW3
 have hs3:=zH hW3 HSB.out
 have HKP:=zA (fun (w':World) (hf:Fr (mS gm vm vs vo) w3.drew w')=>(show w'.cell? ⟨gs,4,none⟩=some (.int .i64 2)∧w'.cell? ⟨w2.heap.size,0,none⟩=some (.int .i64 kp)∧w'.cell? ⟨w2.heap.size,1,none⟩=some (.int .i64 kb)∧w'.cell? ⟨w2.heap.size,2,none⟩=some (.int .i64 kl)∧w'.cell? ⟨w2.heap.size,3,none⟩=some (.int .i64 ka)∧w'.cell? ⟨w2.heap.size,4,none⟩=some (.int .i64 ks) from
  ⟨((hf.bk hs3 (hm3.not hs3 (by decide) (by decide) (by decide) (by decide))).cell 4).trans (by rw [←hc];rfl),(hf.bk k3 (hm3.not k3 (by decide) (by decide) (by decide) (by decide))).cell 0,(hf.bk k3 (hm3.not k3 (by decide) (by decide) (by decide) (by decide))).cell 1,(hf.bk k3 (hm3.not k3 (by decide) (by decide) (by decide) (by decide))).cell 2,(hf.bk k3 (hm3.not k3 (by decide) (by decide) (by decide) (by decide))).cell 3,(hf.bk k3 (hm3.not k3 (by decide) (by decide) (by decide) (by decide))).cell 4⟩))
 have hix:∀ W:World,(Instr.index 255 (.agg #[.int .i64 kp,.int .i64 kb,.int .i64 kl,.int .i64 ka,.int .i64 ks]) (.int .i64 (IntKind.i64.wrap 1))).run Tryz.prog W=.ok (.int .i64 kb) W:=fun W=>by kernel_rfl
 rw [←hw3]
 clear hS k3 hw3 t4 hm3 hs3
 go_region_held3 (fun W1:World=>W1.cell? ⟨gs,4,none⟩=some (.int .i64 2)∧W1.cell? ⟨w2.heap.size,0,none⟩=some (.int .i64 kp)∧W1.cell? ⟨w2.heap.size,1,none⟩=some (.int .i64 kb)∧W1.cell? ⟨w2.heap.size,2,none⟩=some (.int .i64 kl)∧W1.cell? ⟨w2.heap.size,3,none⟩=some (.int .i64 ka)∧W1.cell? ⟨w2.heap.size,4,none⟩=some (.int .i64 ks)) (first | exact HS.out | exact HS5.out) (first
  | (go_at_call 139;((with_reducible refine (SN.out _ (zJ hW3)).mono ?_);rintro e w' ⟨rfl,hm2,hf2⟩;have HS5:=zA (HKP.out _ hf2))))
 go_wp2
 go_end0
 exact SPost.of (zJ hW3) ⟨rfl,hm2,hf2⟩
theorem zOg {base:Nat} {W:World} {gs gm:Nat} {i:InstV} {m:MV} {vm vs vo:Value} (hs:Bk W gs 190 (zS gm i)) (hm:MS base gm vm vs vo m W) (a b:Nat) (ha:i.a=a) (hb:i.b=b) (a8:a < 8) (b8:b < 8) (hc:i.c=3) (hi:(m.reg b).is=true) :
  Calls Tryz.prog 147 #[.pointer (some ⟨gs,0,none⟩)] W (SPost base gm vm vs vo (m.set a (nV (m.reg b).k.len)) W):=by
 obtain ⟨s0,s1,s2,s3,s4⟩:=zR hs
 rw [hb] at s3
 have sL:=hs.lt
 have mL:=hm.mB.lt
 have q1:(0:Int)≤(b:Int):=by omega
 have q2:(b:Int) < 8:=by omega
 obtain ⟨c0,c1,c2,c3,c4,c5,c6⟩:=zAf hm.mB hm.h8 b8
 rw [hc] at s4
 rw [hi] at c0
 have KO:=zA (fun W1 (h:Below W.heap.size W W1)=>zAV (zH h hs) (zH h hm.mB) hm.h8 b b8 hi)
 have SN:=zA (fun W1 (h:Below W.heap.size W W1)=>zAe (zH h hs) (hm.below h) a ha a8 (m.reg b).k.len)
 have t4:∀ W1,Below W.heap.size W W1→W1.cell? ⟨gs,4,none⟩=some (.int .i64 3):=fun W1 h=>((zH h hs).cell 4).trans (by rw [←hc];rfl)
 have HM:=zA hm
 have HSB:=zA hs
 clear hs hm
 generalize m.reg b=x at *
 obtain ⟨xi,xn,kp,kb,kl,ka,ks⟩:=x
 simp only at *
 go_enter Tryz.func147,Tryz.ntmps147
 go_wp2
 go_region
 go_upto_region 7 with (go_at_call 138;((with_reducible refine (KO.out _ (by repeat (first | with_reducible exact Below.refl _ _ | with_reducible refine zG ?_ _ | with_reducible refine zJ ?_ | with_reducible refine zK ?_ (by first | omega | (simp;done) | (simp;omega)) _))).mono ?_);rintro e w2 ⟨rfl,hb2⟩))
 have hW2:Below W.heap.size W w2:=zI (by repeat (first | with_reducible exact Below.refl _ _ | with_reducible refine zG ?_ _ | with_reducible refine zJ ?_ | with_reducible refine zK ?_ (by first | omega | (simp;done) | (simp;omega)) _)) hb2
 clear hb2
 obtain ⟨w3,hw3⟩:∃ w3,w3=w2.alloc (.cells #[.int .i64 kp,.int .i64 kb,.int .i64 kl,.int .i64 ka,.int .i64 ks] 54):=⟨_,rfl⟩
 have hW3:Below W.heap.size W w3:=by rw [hw3];exact zG hW2 _
 have k3:Bk w3 w2.heap.size 54 #[.int .i64 kp,.int .i64 kb,.int .i64 kl,.int .i64 ka,.int .i64 ks]:=by rw [hw3];exact zM _ _ _
 have hS:w3.cell? ⟨gs,4,none⟩=some (.int .i64 3)∧w3.cell? ⟨w2.heap.size,0,none⟩=some (.int .i64 kp)∧w3.cell? ⟨w2.heap.size,1,none⟩=some (.int .i64 kb)∧w3.cell? ⟨w2.heap.size,2,none⟩=some (.int .i64 kl)∧w3.cell? ⟨w2.heap.size,3,none⟩=some (.int .i64 ka)∧w3.cell? ⟨w2.heap.size,4,none⟩=some (.int .i64 ks) :=
  ⟨t4 w3 hW3,k3.cell 0,k3.cell 1,k3.cell 2,k3.cell 3,k3.cell 4⟩
 have uL:=Nat.lt_of_lt_of_le sL hW3.size
 have kL:=k3.lt
 have HS:=zA hS
 have hm3:=HM.out.below hW3
 have hs3:=zH hW3 HSB.out
 have HKP:=zA (fun (w':World) (hf:Fr (mS gm vm vs vo) w3.drew w')=>(show w'.cell? ⟨gs,4,none⟩=some (.int .i64 3)∧w'.cell? ⟨w2.heap.size,0,none⟩=some (.int .i64 kp)∧w'.cell? ⟨w2.heap.size,1,none⟩=some (.int .i64 kb)∧w'.cell? ⟨w2.heap.size,2,none⟩=some (.int .i64 kl)∧w'.cell? ⟨w2.heap.size,3,none⟩=some (.int .i64 ka)∧w'.cell? ⟨w2.heap.size,4,none⟩=some (.int .i64 ks) from
  ⟨((hf.bk hs3 (hm3.not hs3 (by decide) (by decide) (by decide) (by decide))).cell 4).trans (by rw [←hc];rfl),(hf.bk k3 (hm3.not k3 (by decide) (by decide) (by decide) (by decide))).cell 0,(hf.bk k3 (hm3.not k3 (by decide) (by decide) (by decide) (by decide))).cell 1,(hf.bk k3 (hm3.not k3 (by decide) (by decide) (by decide) (by decide))).cell 2,(hf.bk k3 (hm3.not k3 (by decide) (by decide) (by decide) (by decide))).cell 3,(hf.bk k3 (hm3.not k3 (by decide) (by decide) (by decide) (by decide))).cell 4⟩))
 have hix:∀ W:World,(Instr.index 255 (.agg #[.int .i64 kp,.int .i64 kb,.int .i64 kl,.int .i64 ka,.int .i64 ks]) (.int .i64 (IntKind.i64.wrap 2))).run Tryz.prog W=.ok (.int .i64 kl) W:=fun W=>by kernel_rfl
 rw [←hw3]
 clear hS k3 hw3 t4 hm3 hs3
 go_region_held3 (fun W1:World=>W1.cell? ⟨gs,4,none⟩=some (.int .i64 3)∧W1.cell? ⟨w2.heap.size,0,none⟩=some (.int .i64 kp)∧W1.cell? ⟨w2.heap.size,1,none⟩=some (.int .i64 kb)∧W1.cell? ⟨w2.heap.size,2,none⟩=some (.int .i64 kl)∧W1.cell? ⟨w2.heap.size,3,none⟩=some (.int .i64 ka)∧W1.cell? ⟨w2.heap.size,4,none⟩=some (.int .i64 ks)) (first | exact HS.out | exact HS5.out) (first
  | (go_at_call 139;((with_reducible refine (SN.out _ (zJ hW3)).mono ?_);rintro e w' ⟨rfl,hm2,hf2⟩;have HS5:=zA (HKP.out _ hf2))))
 go_wp2
 go_end0
 exact SPost.of (zJ hW3) ⟨rfl,hm2,hf2⟩
theorem zOf {base:Nat} {W:World} {gs gm:Nat} {i:InstV} {m:MV} {vm vs vo:Value} (hs:Bk W gs 190 (zS gm i)) (hm:MS base gm vm vs vo m W) (a b:Nat) (ha:i.a=a) (hb:i.b=b) (a8:a < 8) (b8:b < 8) (hc:i.c=4) (hi:(m.reg b).is=true) :
  Calls Tryz.prog 147 #[.pointer (some ⟨gs,0,none⟩)] W (SPost base gm vm vs vo (m.set a (nV (m.reg b).k.at_)) W):=by
 obtain ⟨s0,s1,s2,s3,s4⟩:=zR hs
 rw [hb] at s3
 have sL:=hs.lt
 have mL:=hm.mB.lt
 have q1:(0:Int)≤(b:Int):=by omega
 have q2:(b:Int) < 8:=by omega
 obtain ⟨c0,c1,c2,c3,c4,c5,c6⟩:=zAf hm.mB hm.h8 b8
 rw [hc] at s4
 rw [hi] at c0
 have KO:=zA (fun W1 (h:Below W.heap.size W W1)=>zAV (zH h hs) (zH h hm.mB) hm.h8 b b8 hi)
 have SN:=zA (fun W1 (h:Below W.heap.size W W1)=>zAe (zH h hs) (hm.below h) a ha a8 (m.reg b).k.at_)
 have t4:∀ W1,Below W.heap.size W W1→W1.cell? ⟨gs,4,none⟩=some (.int .i64 4):=fun W1 h=>((zH h hs).cell 4).trans (by rw [←hc];rfl)
 have HM:=zA hm
 have HSB:=zA hs
 clear hs hm
 generalize m.reg b=x at *
 obtain ⟨xi,xn,kp,kb,kl,ka,ks⟩:=x
 simp only at *
 go_enter Tryz.func147,Tryz.ntmps147
 go_wp2
 go_region
 go_upto_region 7 with (go_at_call 138;((with_reducible refine (KO.out _ (by repeat (first | with_reducible exact Below.refl _ _ | with_reducible refine zG ?_ _ | with_reducible refine zJ ?_ | with_reducible refine zK ?_ (by first | omega | (simp;done) | (simp;omega)) _))).mono ?_);rintro e w2 ⟨rfl,hb2⟩))
 have hW2:Below W.heap.size W w2:=zI (by repeat (first | with_reducible exact Below.refl _ _ | with_reducible refine zG ?_ _ | with_reducible refine zJ ?_ | with_reducible refine zK ?_ (by first | omega | (simp;done) | (simp;omega)) _)) hb2
 clear hb2
 obtain ⟨w3,hw3⟩:∃ w3,w3=w2.alloc (.cells #[.int .i64 kp,.int .i64 kb,.int .i64 kl,.int .i64 ka,.int .i64 ks] 54):=⟨_,rfl⟩
 have hW3:Below W.heap.size W w3:=by rw [hw3];exact zG hW2 _
 have k3:Bk w3 w2.heap.size 54 #[.int .i64 kp,.int .i64 kb,.int .i64 kl,.int .i64 ka,.int .i64 ks]:=by rw [hw3];exact zM _ _ _
 have hS:w3.cell? ⟨gs,4,none⟩=some (.int .i64 4)∧w3.cell? ⟨w2.heap.size,0,none⟩=some (.int .i64 kp)∧w3.cell? ⟨w2.heap.size,1,none⟩=some (.int .i64 kb)∧w3.cell? ⟨w2.heap.size,2,none⟩=some (.int .i64 kl)∧w3.cell? ⟨w2.heap.size,3,none⟩=some (.int .i64 ka)∧w3.cell? ⟨w2.heap.size,4,none⟩=some (.int .i64 ks) :=
  ⟨t4 w3 hW3,k3.cell 0,k3.cell 1,k3.cell 2,k3.cell 3,k3.cell 4⟩
 have uL:=Nat.lt_of_lt_of_le sL hW3.size
 have kL:=k3.lt
 have HS:=zA hS
 have hm3:=HM.out.below hW3
 have hs3:=zH hW3 HSB.out
 have HKP:=zA (fun (w':World) (hf:Fr (mS gm vm vs vo) w3.drew w')=>(show w'.cell? ⟨gs,4,none⟩=some (.int .i64 4)∧w'.cell? ⟨w2.heap.size,0,none⟩=some (.int .i64 kp)∧w'.cell? ⟨w2.heap.size,1,none⟩=some (.int .i64 kb)∧w'.cell? ⟨w2.heap.size,2,none⟩=some (.int .i64 kl)∧w'.cell? ⟨w2.heap.size,3,none⟩=some (.int .i64 ka)∧w'.cell? ⟨w2.heap.size,4,none⟩=some (.int .i64 ks) from
  ⟨((hf.bk hs3 (hm3.not hs3 (by decide) (by decide) (by decide) (by decide))).cell 4).trans (by rw [←hc];rfl),(hf.bk k3 (hm3.not k3 (by decide) (by decide) (by decide) (by decide))).cell 0,(hf.bk k3 (hm3.not k3 (by decide) (by decide) (by decide) (by decide))).cell 1,(hf.bk k3 (hm3.not k3 (by decide) (by decide) (by decide) (by decide))).cell 2,(hf.bk k3 (hm3.not k3 (by decide) (by decide) (by decide) (by decide))).cell 3,(hf.bk k3 (hm3.not k3 (by decide) (by decide) (by decide) (by decide))).cell 4⟩))
 have hix:∀ W:World,(Instr.index 255 (.agg #[.int .i64 kp,.int .i64 kb,.int .i64 kl,.int .i64 ka,.int .i64 ks]) (.int .i64 (IntKind.i64.wrap 3))).run Tryz.prog W=.ok (.int .i64 ka) W:=fun W=>by kernel_rfl
 rw [←hw3]
 clear hS k3 hw3 t4 hm3 hs3
 go_region_held3 (fun W1:World=>W1.cell? ⟨gs,4,none⟩=some (.int .i64 4)∧W1.cell? ⟨w2.heap.size,0,none⟩=some (.int .i64 kp)∧W1.cell? ⟨w2.heap.size,1,none⟩=some (.int .i64 kb)∧W1.cell? ⟨w2.heap.size,2,none⟩=some (.int .i64 kl)∧W1.cell? ⟨w2.heap.size,3,none⟩=some (.int .i64 ka)∧W1.cell? ⟨w2.heap.size,4,none⟩=some (.int .i64 ks)) (first | exact HS.out | exact HS5.out) (first
  | (go_at_call 139;((with_reducible refine (SN.out _ (zJ hW3)).mono ?_);rintro e w' ⟨rfl,hm2,hf2⟩;have HS5:=zA (HKP.out _ hf2))))
 go_wp2
 go_end0
 exact SPost.of (zJ hW3) ⟨rfl,hm2,hf2⟩
theorem zOe {base:Nat} {W:World} {gs gm:Nat} {i:InstV} {m:MV} {vm vs vo:Value} (hs:Bk W gs 190 (zS gm i)) (hm:MS base gm vm vs vo m W) (a b:Nat) (ha:i.a=a) (hb:i.b=b) (a8:a < 8) (b8:b < 8) (hc:i.c=5) (hi:(m.reg b).is=true) :
  Calls Tryz.prog 147 #[.pointer (some ⟨gs,0,none⟩)] W (SPost base gm vm vs vo (m.set a (nV (m.reg b).k.seal_)) W):=by
 obtain ⟨s0,s1,s2,s3,s4⟩:=zR hs
 rw [hb] at s3
 have sL:=hs.lt
 have mL:=hm.mB.lt
 have q1:(0:Int)≤(b:Int):=by omega
 have q2:(b:Int) < 8:=by omega
 obtain ⟨c0,c1,c2,c3,c4,c5,c6⟩:=zAf hm.mB hm.h8 b8
 rw [hc] at s4
 rw [hi] at c0
 have KO:=zA (fun W1 (h:Below W.heap.size W W1)=>zAV (zH h hs) (zH h hm.mB) hm.h8 b b8 hi)
 have SN:=zA (fun W1 (h:Below W.heap.size W W1)=>zAe (zH h hs) (hm.below h) a ha a8 (m.reg b).k.seal_)
 have t4:∀ W1,Below W.heap.size W W1→W1.cell? ⟨gs,4,none⟩=some (.int .i64 5):=fun W1 h=>((zH h hs).cell 4).trans (by rw [←hc];rfl)
 have HM:=zA hm
 have HSB:=zA hs
 clear hs hm
 generalize m.reg b=x at *
 obtain ⟨xi,xn,kp,kb,kl,ka,ks⟩:=x
 simp only at *
 go_enter Tryz.func147,Tryz.ntmps147
 go_wp2
 go_region
 go_upto_region 7 with (go_at_call 138;((with_reducible refine (KO.out _ (by repeat (first | with_reducible exact Below.refl _ _ | with_reducible refine zG ?_ _ | with_reducible refine zJ ?_ | with_reducible refine zK ?_ (by first | omega | (simp;done) | (simp;omega)) _))).mono ?_);rintro e w2 ⟨rfl,hb2⟩))
 have hW2:Below W.heap.size W w2:=zI (by repeat (first | with_reducible exact Below.refl _ _ | with_reducible refine zG ?_ _ | with_reducible refine zJ ?_ | with_reducible refine zK ?_ (by first | omega | (simp;done) | (simp;omega)) _)) hb2
 clear hb2
 obtain ⟨w3,hw3⟩:∃ w3,w3=w2.alloc (.cells #[.int .i64 kp,.int .i64 kb,.int .i64 kl,.int .i64 ka,.int .i64 ks] 54):=⟨_,rfl⟩
 have hW3:Below W.heap.size W w3:=by rw [hw3];exact zG hW2 _
 have k3:Bk w3 w2.heap.size 54 #[.int .i64 kp,.int .i64 kb,.int .i64 kl,.int .i64 ka,.int .i64 ks]:=by rw [hw3];exact zM _ _ _
 have hS:w3.cell? ⟨gs,4,none⟩=some (.int .i64 5)∧w3.cell? ⟨w2.heap.size,0,none⟩=some (.int .i64 kp)∧w3.cell? ⟨w2.heap.size,1,none⟩=some (.int .i64 kb)∧w3.cell? ⟨w2.heap.size,2,none⟩=some (.int .i64 kl)∧w3.cell? ⟨w2.heap.size,3,none⟩=some (.int .i64 ka)∧w3.cell? ⟨w2.heap.size,4,none⟩=some (.int .i64 ks) :=
  ⟨t4 w3 hW3,k3.cell 0,k3.cell 1,k3.cell 2,k3.cell 3,k3.cell 4⟩
 have uL:=Nat.lt_of_lt_of_le sL hW3.size
 have kL:=k3.lt
 have HS:=zA hS
 have hm3:=HM.out.below hW3
 have hs3:=zH hW3 HSB.out
 have HKP:=zA (fun (w':World) (hf:Fr (mS gm vm vs vo) w3.drew w')=>(show w'.cell? ⟨gs,4,none⟩=some (.int .i64 5)∧w'.cell? ⟨w2.heap.size,0,none⟩=some (.int .i64 kp)∧w'.cell? ⟨w2.heap.size,1,none⟩=some (.int .i64 kb)∧w'.cell? ⟨w2.heap.size,2,none⟩=some (.int .i64 kl)∧w'.cell? ⟨w2.heap.size,3,none⟩=some (.int .i64 ka)∧w'.cell? ⟨w2.heap.size,4,none⟩=some (.int .i64 ks) from
  ⟨((hf.bk hs3 (hm3.not hs3 (by decide) (by decide) (by decide) (by decide))).cell 4).trans (by rw [←hc];rfl),(hf.bk k3 (hm3.not k3 (by decide) (by decide) (by decide) (by decide))).cell 0,(hf.bk k3 (hm3.not k3 (by decide) (by decide) (by decide) (by decide))).cell 1,(hf.bk k3 (hm3.not k3 (by decide) (by decide) (by decide) (by decide))).cell 2,(hf.bk k3 (hm3.not k3 (by decide) (by decide) (by decide) (by decide))).cell 3,(hf.bk k3 (hm3.not k3 (by decide) (by decide) (by decide) (by decide))).cell 4⟩))
 have hix:∀ W:World,(Instr.index 255 (.agg #[.int .i64 kp,.int .i64 kb,.int .i64 kl,.int .i64 ka,.int .i64 ks]) (.int .i64 (IntKind.i64.wrap 4))).run Tryz.prog W=.ok (.int .i64 ks) W:=fun W=>by kernel_rfl
 rw [←hw3]
 clear hS k3 hw3 t4 hm3 hs3
 go_region_held3 (fun W1:World=>W1.cell? ⟨gs,4,none⟩=some (.int .i64 5)∧W1.cell? ⟨w2.heap.size,0,none⟩=some (.int .i64 kp)∧W1.cell? ⟨w2.heap.size,1,none⟩=some (.int .i64 kb)∧W1.cell? ⟨w2.heap.size,2,none⟩=some (.int .i64 kl)∧W1.cell? ⟨w2.heap.size,3,none⟩=some (.int .i64 ka)∧W1.cell? ⟨w2.heap.size,4,none⟩=some (.int .i64 ks)) (first | exact HS.out | exact HS5.out) (first
  | (go_at_call 139;((with_reducible refine (SN.out _ (zJ hW3)).mono ?_);rintro e w' ⟨rfl,hm2,hf2⟩;have HS5:=zA (HKP.out _ hf2))))
 go_wp2
 go_end0
 exact SPost.of (zJ hW3) ⟨rfl,hm2,hf2⟩
end Go.Proofs.YtlpejagkadalbaaGreatDoor
