import Derived.Test.YtlpejagkadalbaaGreatDoorZk20
set_option maxHeartbeats 40000000
set_option maxRecDepth 100000
set_option linter.unusedVariables false
set_option linter.unusedSimpArgs false
namespace Go.Proofs.YtlpejagkadalbaaGreatDoor
open Go.RowKit
theorem zKk {base:Nat} {W:World} {gs gm:Nat} {i:InstV} {m:MV} {vm vs vo:Value} (hs:Bk W gs 190 (zS gm i)) (hm:MS base gm vm vs vo m W) (ho:i.op=1) (a:Nat) (ha:i.a=a) (a8:a < 8) :
  Calls Tryz.prog 113 #[.pointer (some ⟨gs,0,none⟩)] W (StepPost base gm vm vs vo m W (.ok (m.set a (nV i.c)))):=by
 obtain ⟨s0,s1,s2,s3,s4⟩:=zR hs
 have sL:=hs.lt
 rw [ho] at s1
 have SN:=zA (fun W1 (h:Below W.heap.size W W1)=>zAe (zH h hs) (hm.below h) a ha a8 i.c)
 clear hs hm
 go_enter Tryz.func113,Tryz.ntmps113
 go_wp2_with (go_at_call 139;((with_reducible refine (SN.out _ (by repeat (first | with_reducible exact Below.refl _ _ | with_reducible refine zG ?_ _ | with_reducible refine zJ ?_ | with_reducible refine zK ?_ (by first | omega | (simp;done) | (simp;omega)) _))).mono ?_);rintro e w' ⟨rfl,hm2,hf2⟩))
 go_end0
 exact (SPost.of (by repeat (first | with_reducible exact Below.refl _ _ | with_reducible refine zG ?_ _ | with_reducible refine zJ ?_ | with_reducible refine zK ?_ (by first | omega | (simp;done) | (simp;omega)) _)) ⟨rfl,hm2,hf2⟩).step
theorem zJi {base:Nat} {W:World} {gs gm:Nat} {i:InstV} {m:MV} {vm vs vo:Value} (hs:Bk W gs 190 (zS gm i)) (hm:MS base gm vm vs vo m W) (ho:i.op=2) (a b:Nat) (ha:i.a=a) (hb:i.b=b) (a8:a < 8) (b8:b < 8) :
  Calls Tryz.prog 113 #[.pointer (some ⟨gs,0,none⟩)] W (StepPost base gm vm vs vo m W (.ok (m.set a (m.reg b)))):=by
 obtain ⟨s0,s1,s2,s3,s4⟩:=zR hs
 have sL:=hs.lt
 rw [ho] at s1
 rw [ha] at s2
 rw [hb] at s3
 have q1:(0:Int)≤(a:Int):=by omega
 have q2:(a:Int) < 8:=by omega
 have q3:(0:Int)≤(b:Int):=by omega
 have q4:(b:Int) < 8:=by omega
 have HM:=zA hm
 have HSB:=zA hs
 clear hs hm
 go_enter Tryz.func113,Tryz.ntmps113
 go_upto_region 6 with (fail)
 obtain ⟨w1,hw1⟩:∃ w1,w1=W.alloc (.cells #[.int .i64 2,.int .i64 a,.int .i64 b,.int .i64 i.c] 179):=⟨_,rfl⟩
 have h1:Below W.heap.size W w1:=by rw [hw1];exact zG (Below.refl _ _) _
 have k1:Bk w1 W.heap.size 179 #[.int .i64 2,.int .i64 a,.int .i64 b,.int .i64 i.c]:=by rw [hw1];exact zM _ _ _
 rw [←hw1]
 have hm1:=HM.out.below h1
 have hs1:=zH h1 HSB.out
 clear s0 s1 s2 s3 s4 sL hw1
 have s0:=hs1.cell 0
 simp only [zS,List.getElem?_toArray,List.getElem?_cons_zero] at s0
 obtain ⟨z0,z1,z2,z3⟩:=zAD k1
 obtain ⟨c0,c1,c2,c3,c4,c5,c6⟩:=zAf hm1.mB hm1.h8 a8
 obtain ⟨d0,d1,d2,d3,d4,d5,d6⟩:=zAf hm1.mB hm1.h8 b8
 have sL:=hs1.lt
 have kL:=k1.lt
 have mL:=hm1.mB.lt
 have mF:=fun j=>hm1.mB.frozen j
 have HM1:=zA hm1
 have H1:=zA h1
 clear hm1 hs1 k1 h1
 go_region
 go_wp2
 go_end0
 rw [zCt]
 refine (SPost.of H1.out ?_).step
 repeat (first | with_reducible refine SPost.drew ?_ | with_reducible refine SPost.alloc ?_ _)
 exact SPost.reg HM1.out a a8 (m.reg b) rfl
theorem zKo {base:Nat} {W:World} {gs gm:Nat} {i:InstV} {m:MV} {vm vs vo:Value} (hs:Bk W gs 190 (zS gm i)) (hm:MS base gm vm vs vo m W) (ho:i.op=3) {r:Ex MV} (h:∀ W1,Below W.heap.size W W1→Calls Tryz.prog 140 #[.pointer (some ⟨gs,0,none⟩),.func (.func 141) #[] #[]] W1 (StepPost base gm vm vs vo m W1 r)) :
  Calls Tryz.prog 113 #[.pointer (some ⟨gs,0,none⟩)] W (StepPost base gm vm vs vo m W r):=by
 obtain ⟨s0,s1,s2,s3,s4⟩:=zR hs
 have sL:=hs.lt
 rw [ho] at s1
 clear hs hm ho
 cases r with
 | error k =>
  have NB:=zA h
  clear h
  go_enter Tryz.func113,Tryz.ntmps113
  go_wp2_with (go_at_call 140;((with_reducible refine (NB.out _ (by repeat (first | with_reducible exact Below.refl _ _ | with_reducible refine zG ?_ _ | with_reducible refine zJ ?_ | with_reducible refine zK ?_ (by first | omega | (simp;done) | (simp;omega)) _))).mono ?_);rintro e w' ⟨rfl,hm2,hf2⟩))
  exact ⟨rfl,StepPost.of (by repeat (first | with_reducible exact Below.refl _ _ | with_reducible refine zG ?_ _ | with_reducible refine zJ ?_ | with_reducible refine zK ?_ (by first | omega | (simp;done) | (simp;omega)) _)) (show StepPost base gm vm vs vo m _ (.error k) (.panicked (zAj k)) w' from ⟨rfl,hm2,hf2⟩)⟩
 | ok m' =>
  have NB:=zA h
  clear h
  go_enter Tryz.func113,Tryz.ntmps113
  go_wp2_with (go_at_call 140;((with_reducible refine (NB.out _ (by repeat (first | with_reducible exact Below.refl _ _ | with_reducible refine zG ?_ _ | with_reducible refine zJ ?_ | with_reducible refine zK ?_ (by first | omega | (simp;done) | (simp;omega)) _))).mono ?_);rintro e w' ⟨rfl,vs',vo',h2⟩))
  go_end0
  exact StepPost.of (by repeat (first | with_reducible exact Below.refl _ _ | with_reducible refine zG ?_ _ | with_reducible refine zJ ?_ | with_reducible refine zK ?_ (by first | omega | (simp;done) | (simp;omega)) _)) (show StepPost base gm vm vs vo m _ (.ok m') (.returned (.tuple #[])) w' from ⟨rfl,vs',vo',h2⟩)
theorem zKj {base:Nat} {W:World} {gs gm:Nat} {i:InstV} {m:MV} {vm vs vo:Value} (hs:Bk W gs 190 (zS gm i)) (hm:MS base gm vm vs vo m W) (ho:i.op=4) {r:Ex MV} (h:∀ W1,Below W.heap.size W W1→Calls Tryz.prog 140 #[.pointer (some ⟨gs,0,none⟩),.func (.func 142) #[] #[]] W1 (StepPost base gm vm vs vo m W1 r)) :
  Calls Tryz.prog 113 #[.pointer (some ⟨gs,0,none⟩)] W (StepPost base gm vm vs vo m W r):=by
 obtain ⟨s0,s1,s2,s3,s4⟩:=zR hs
 have sL:=hs.lt
 rw [ho] at s1
 clear hs hm ho
 cases r with
 | error k =>
  have NB:=zA h
  clear h
  go_enter Tryz.func113,Tryz.ntmps113
  go_wp2_with (go_at_call 140;((with_reducible refine (NB.out _ (by repeat (first | with_reducible exact Below.refl _ _ | with_reducible refine zG ?_ _ | with_reducible refine zJ ?_ | with_reducible refine zK ?_ (by first | omega | (simp;done) | (simp;omega)) _))).mono ?_);rintro e w' ⟨rfl,hm2,hf2⟩))
  exact ⟨rfl,StepPost.of (by repeat (first | with_reducible exact Below.refl _ _ | with_reducible refine zG ?_ _ | with_reducible refine zJ ?_ | with_reducible refine zK ?_ (by first | omega | (simp;done) | (simp;omega)) _)) (show StepPost base gm vm vs vo m _ (.error k) (.panicked (zAj k)) w' from ⟨rfl,hm2,hf2⟩)⟩
 | ok m' =>
  have NB:=zA h
  clear h
  go_enter Tryz.func113,Tryz.ntmps113
  go_wp2_with (go_at_call 140;((with_reducible refine (NB.out _ (by repeat (first | with_reducible exact Below.refl _ _ | with_reducible refine zG ?_ _ | with_reducible refine zJ ?_ | with_reducible refine zK ?_ (by first | omega | (simp;done) | (simp;omega)) _))).mono ?_);rintro e w' ⟨rfl,vs',vo',h2⟩))
  go_end0
  exact StepPost.of (by repeat (first | with_reducible exact Below.refl _ _ | with_reducible refine zG ?_ _ | with_reducible refine zJ ?_ | with_reducible refine zK ?_ (by first | omega | (simp;done) | (simp;omega)) _)) (show StepPost base gm vm vs vo m _ (.ok m') (.returned (.tuple #[])) w' from ⟨rfl,vs',vo',h2⟩)
theorem zKl {base:Nat} {W:World} {gs gm:Nat} {i:InstV} {m:MV} {vm vs vo:Value} (hs:Bk W gs 190 (zS gm i)) (hm:MS base gm vm vs vo m W) (ho:i.op=5) {r:Ex MV} (h:∀ W1,Below W.heap.size W W1→Calls Tryz.prog 140 #[.pointer (some ⟨gs,0,none⟩),.func (.func 143) #[] #[]] W1 (StepPost base gm vm vs vo m W1 r)) :
  Calls Tryz.prog 113 #[.pointer (some ⟨gs,0,none⟩)] W (StepPost base gm vm vs vo m W r):=by
 obtain ⟨s0,s1,s2,s3,s4⟩:=zR hs
 have sL:=hs.lt
 rw [ho] at s1
 clear hs hm ho
 cases r with
 | error k =>
  have NB:=zA h
  clear h
  go_enter Tryz.func113,Tryz.ntmps113
  go_wp2_with (go_at_call 140;((with_reducible refine (NB.out _ (by repeat (first | with_reducible exact Below.refl _ _ | with_reducible refine zG ?_ _ | with_reducible refine zJ ?_ | with_reducible refine zK ?_ (by first | omega | (simp;done) | (simp;omega)) _))).mono ?_);rintro e w' ⟨rfl,hm2,hf2⟩))
  exact ⟨rfl,StepPost.of (by repeat (first | with_reducible exact Below.refl _ _ | with_reducible refine zG ?_ _ | with_reducible refine zJ ?_ | with_reducible refine zK ?_ (by first | omega | (simp;done) | (simp;omega)) _)) (show StepPost base gm vm vs vo m _ (.error k) (.panicked (zAj k)) w' from ⟨rfl,hm2,hf2⟩)⟩
 | ok m' =>
  have NB:=zA h
  clear h
  go_enter Tryz.func113,Tryz.ntmps113
  go_wp2_with (go_at_call 140;((with_reducible refine (NB.out _ (by repeat (first | with_reducible exact Below.refl _ _ | with_reducible refine zG ?_ _ | with_reducible refine zJ ?_ | with_reducible refine zK ?_ (by first | omega | (simp;done) | (simp;omega)) _))).mono ?_);rintro e w' ⟨rfl,vs',vo',h2⟩))
  go_end0
  exact StepPost.of (by repeat (first | with_reducible exact Below.refl _ _ | with_reducible refine zG ?_ _ | with_reducible refine zJ ?_ | with_reducible refine zK ?_ (by first | omega | (simp;done) | (simp;omega)) _)) (show StepPost base gm vm vs vo m _ (.ok m') (.returned (.tuple #[])) w' from ⟨rfl,vs',vo',h2⟩)
theorem zJg {base:Nat} {W:World} {gs gm:Nat} {i:InstV} {m:MV} {vm vs vo:Value} (hs:Bk W gs 190 (zS gm i)) (hm:MS base gm vm vs vo m W) (ho:i.op=7) {r:Ex MV} (h:∀ W1,Below W.heap.size W W1→Calls Tryz.prog 140 #[.pointer (some ⟨gs,0,none⟩),.func (.func 144) #[] #[]] W1 (StepPost base gm vm vs vo m W1 r)) :
  Calls Tryz.prog 113 #[.pointer (some ⟨gs,0,none⟩)] W (StepPost base gm vm vs vo m W r):=by
 obtain ⟨s0,s1,s2,s3,s4⟩:=zR hs
 have sL:=hs.lt
 rw [ho] at s1
 clear hs hm ho
 cases r with
 | error k =>
  have NB:=zA h
  clear h
  go_enter Tryz.func113,Tryz.ntmps113
  go_wp2_with (go_at_call 140;((with_reducible refine (NB.out _ (by repeat (first | with_reducible exact Below.refl _ _ | with_reducible refine zG ?_ _ | with_reducible refine zJ ?_ | with_reducible refine zK ?_ (by first | omega | (simp;done) | (simp;omega)) _))).mono ?_);rintro e w' ⟨rfl,hm2,hf2⟩))
  exact ⟨rfl,StepPost.of (by repeat (first | with_reducible exact Below.refl _ _ | with_reducible refine zG ?_ _ | with_reducible refine zJ ?_ | with_reducible refine zK ?_ (by first | omega | (simp;done) | (simp;omega)) _)) (show StepPost base gm vm vs vo m _ (.error k) (.panicked (zAj k)) w' from ⟨rfl,hm2,hf2⟩)⟩
 | ok m' =>
  have NB:=zA h
  clear h
  go_enter Tryz.func113,Tryz.ntmps113
  go_wp2_with (go_at_call 140;((with_reducible refine (NB.out _ (by repeat (first | with_reducible exact Below.refl _ _ | with_reducible refine zG ?_ _ | with_reducible refine zJ ?_ | with_reducible refine zK ?_ (by first | omega | (simp;done) | (simp;omega)) _))).mono ?_);rintro e w' ⟨rfl,vs',vo',h2⟩))
  go_end0
  exact StepPost.of (by repeat (first | with_reducible exact Below.refl _ _ | with_reducible refine zG ?_ _ | with_reducible refine zJ ?_ | with_reducible refine zK ?_ (by first | omega | (simp;done) | (simp;omega)) _)) (show StepPost base gm vm vs vo m _ (.ok m') (.returned (.tuple #[])) w' from ⟨rfl,vs',vo',h2⟩)
theorem zKm {base:Nat} {W:World} {gs gm:Nat} {i:InstV} {m:MV} {vm vs vo:Value} (hs:Bk W gs 190 (zS gm i)) (hm:MS base gm vm vs vo m W) (ho:i.op=6) {r:Ex MV} (h:∀ W1,Below W.heap.size W W1→Calls Tryz.prog 140 #[.pointer (some ⟨gs,0,none⟩),.func (.func 145) #[] #[]] W1 (StepPost base gm vm vs vo m W1 r)) :
  Calls Tryz.prog 113 #[.pointer (some ⟨gs,0,none⟩)] W (StepPost base gm vm vs vo m W r):=by
 obtain ⟨s0,s1,s2,s3,s4⟩:=zR hs
 have sL:=hs.lt
 rw [ho] at s1
 clear hs hm ho
 cases r with
 | error k =>
  have NB:=zA h
  clear h
  go_enter Tryz.func113,Tryz.ntmps113
  go_wp2_with (go_at_call 140;((with_reducible refine (NB.out _ (by repeat (first | with_reducible exact Below.refl _ _ | with_reducible refine zG ?_ _ | with_reducible refine zJ ?_ | with_reducible refine zK ?_ (by first | omega | (simp;done) | (simp;omega)) _))).mono ?_);rintro e w' ⟨rfl,hm2,hf2⟩))
  exact ⟨rfl,StepPost.of (by repeat (first | with_reducible exact Below.refl _ _ | with_reducible refine zG ?_ _ | with_reducible refine zJ ?_ | with_reducible refine zK ?_ (by first | omega | (simp;done) | (simp;omega)) _)) (show StepPost base gm vm vs vo m _ (.error k) (.panicked (zAj k)) w' from ⟨rfl,hm2,hf2⟩)⟩
 | ok m' =>
  have NB:=zA h
  clear h
  go_enter Tryz.func113,Tryz.ntmps113
  go_wp2_with (go_at_call 140;((with_reducible refine (NB.out _ (by repeat (first | with_reducible exact Below.refl _ _ | with_reducible refine zG ?_ _ | with_reducible refine zJ ?_ | with_reducible refine zK ?_ (by first | omega | (simp;done) | (simp;omega)) _))).mono ?_);rintro e w' ⟨rfl,vs',vo',h2⟩))
  go_end0
  exact StepPost.of (by repeat (first | with_reducible exact Below.refl _ _ | with_reducible refine zG ?_ _ | with_reducible refine zJ ?_ | with_reducible refine zK ?_ (by first | omega | (simp;done) | (simp;omega)) _)) (show StepPost base gm vm vs vo m _ (.ok m') (.returned (.tuple #[])) w' from ⟨rfl,vs',vo',h2⟩)
theorem zKn {base:Nat} {W:World} {gs gm:Nat} {i:InstV} {m:MV} {vm vs vo:Value} (hs:Bk W gs 190 (zS gm i)) (hm:MS base gm vm vs vo m W) (ho:i.op=17) {r:Ex MV} (h:∀ W1,Below W.heap.size W W1→Calls Tryz.prog 147 #[.pointer (some ⟨gs,0,none⟩)] W1 (StepPost base gm vm vs vo m W1 r)) :
  Calls Tryz.prog 113 #[.pointer (some ⟨gs,0,none⟩)] W (StepPost base gm vm vs vo m W r):=by
 obtain ⟨s0,s1,s2,s3,s4⟩:=zR hs
 have sL:=hs.lt
 rw [ho] at s1
 clear hs hm ho
 cases r with
 | error k =>
  have NB:=zA h
  clear h
  go_enter Tryz.func113,Tryz.ntmps113
  go_wp2_with (go_at_call 147;((with_reducible refine (NB.out _ (by repeat (first | with_reducible exact Below.refl _ _ | with_reducible refine zG ?_ _ | with_reducible refine zJ ?_ | with_reducible refine zK ?_ (by first | omega | (simp;done) | (simp;omega)) _))).mono ?_);rintro e w' ⟨rfl,hm2,hf2⟩))
  exact ⟨rfl,StepPost.of (by repeat (first | with_reducible exact Below.refl _ _ | with_reducible refine zG ?_ _ | with_reducible refine zJ ?_ | with_reducible refine zK ?_ (by first | omega | (simp;done) | (simp;omega)) _)) (show StepPost base gm vm vs vo m _ (.error k) (.panicked (zAj k)) w' from ⟨rfl,hm2,hf2⟩)⟩
 | ok m' =>
  have NB:=zA h
  clear h
  go_enter Tryz.func113,Tryz.ntmps113
  go_wp2_with (go_at_call 147;((with_reducible refine (NB.out _ (by repeat (first | with_reducible exact Below.refl _ _ | with_reducible refine zG ?_ _ | with_reducible refine zJ ?_ | with_reducible refine zK ?_ (by first | omega | (simp;done) | (simp;omega)) _))).mono ?_);rintro e w' ⟨rfl,vs',vo',h2⟩))
  go_end0
  exact StepPost.of (by repeat (first | with_reducible exact Below.refl _ _ | with_reducible refine zG ?_ _ | with_reducible refine zJ ?_ | with_reducible refine zK ?_ (by first | omega | (simp;done) | (simp;omega)) _)) (show StepPost base gm vm vs vo m _ (.ok m') (.returned (.tuple #[])) w' from ⟨rfl,vs',vo',h2⟩)
theorem zIe {base:Nat} {W:World} {gs gm:Nat} {i:InstV} {m:MV} {vm vs vo:Value} (hs:Bk W gs 190 (zS gm i)) (hm:MS base gm vm vs vo m W) (ho:i.op=10) {r:Ex MV} (h:∀ W1,Below W.heap.size W W1→Calls Tryz.prog 149 #[.pointer (some ⟨gs,0,none⟩)] W1 (StepPost base gm vm vs vo m W1 r)) :
  Calls Tryz.prog 113 #[.pointer (some ⟨gs,0,none⟩)] W (StepPost base gm vm vs vo m W r):=by
 obtain ⟨s0,s1,s2,s3,s4⟩:=zR hs
 have sL:=hs.lt
 rw [ho] at s1
 clear hs hm ho
 cases r with
 | error k =>
  have NB:=zA h
  clear h
  go_enter Tryz.func113,Tryz.ntmps113
  go_wp2_with (go_at_call 149;((with_reducible refine (NB.out _ (by repeat (first | with_reducible exact Below.refl _ _ | with_reducible refine zG ?_ _ | with_reducible refine zJ ?_ | with_reducible refine zK ?_ (by first | omega | (simp;done) | (simp;omega)) _))).mono ?_);rintro e w' ⟨rfl,hm2,hf2⟩))
  exact ⟨rfl,StepPost.of (by repeat (first | with_reducible exact Below.refl _ _ | with_reducible refine zG ?_ _ | with_reducible refine zJ ?_ | with_reducible refine zK ?_ (by first | omega | (simp;done) | (simp;omega)) _)) (show StepPost base gm vm vs vo m _ (.error k) (.panicked (zAj k)) w' from ⟨rfl,hm2,hf2⟩)⟩
 | ok m' =>
  have NB:=zA h
  clear h
  go_enter Tryz.func113,Tryz.ntmps113
  go_wp2_with (go_at_call 149;((with_reducible refine (NB.out _ (by repeat (first | with_reducible exact Below.refl _ _ | with_reducible refine zG ?_ _ | with_reducible refine zJ ?_ | with_reducible refine zK ?_ (by first | omega | (simp;done) | (simp;omega)) _))).mono ?_);rintro e w' ⟨rfl,vs',vo',h2⟩))
  go_end0
  exact StepPost.of (by repeat (first | with_reducible exact Below.refl _ _ | with_reducible refine zG ?_ _ | with_reducible refine zJ ?_ | with_reducible refine zK ?_ (by first | omega | (simp;done) | (simp;omega)) _)) (show StepPost base gm vm vs vo m _ (.ok m') (.returned (.tuple #[])) w' from ⟨rfl,vs',vo',h2⟩)
theorem zId {base:Nat} {W:World} {gs gm:Nat} {i:InstV} {m:MV} {vm vs vo:Value} (hs:Bk W gs 190 (zS gm i)) (hm:MS base gm vm vs vo m W) (ho:i.op=11) {r:Ex MV} (h:∀ W1,Below W.heap.size W W1→Calls Tryz.prog 149 #[.pointer (some ⟨gs,0,none⟩)] W1 (StepPost base gm vm vs vo m W1 r)) :
  Calls Tryz.prog 113 #[.pointer (some ⟨gs,0,none⟩)] W (StepPost base gm vm vs vo m W r):=by
 obtain ⟨s0,s1,s2,s3,s4⟩:=zR hs
 have sL:=hs.lt
 rw [ho] at s1
 clear hs hm ho
 cases r with
 | error k =>
  have NB:=zA h
  clear h
  go_enter Tryz.func113,Tryz.ntmps113
  go_wp2_with (go_at_call 149;((with_reducible refine (NB.out _ (by repeat (first | with_reducible exact Below.refl _ _ | with_reducible refine zG ?_ _ | with_reducible refine zJ ?_ | with_reducible refine zK ?_ (by first | omega | (simp;done) | (simp;omega)) _))).mono ?_);rintro e w' ⟨rfl,hm2,hf2⟩))
  exact ⟨rfl,StepPost.of (by repeat (first | with_reducible exact Below.refl _ _ | with_reducible refine zG ?_ _ | with_reducible refine zJ ?_ | with_reducible refine zK ?_ (by first | omega | (simp;done) | (simp;omega)) _)) (show StepPost base gm vm vs vo m _ (.error k) (.panicked (zAj k)) w' from ⟨rfl,hm2,hf2⟩)⟩
 | ok m' =>
  have NB:=zA h
  clear h
  go_enter Tryz.func113,Tryz.ntmps113
  go_wp2_with (go_at_call 149;((with_reducible refine (NB.out _ (by repeat (first | with_reducible exact Below.refl _ _ | with_reducible refine zG ?_ _ | with_reducible refine zJ ?_ | with_reducible refine zK ?_ (by first | omega | (simp;done) | (simp;omega)) _))).mono ?_);rintro e w' ⟨rfl,vs',vo',h2⟩))
  go_end0
  exact StepPost.of (by repeat (first | with_reducible exact Below.refl _ _ | with_reducible refine zG ?_ _ | with_reducible refine zJ ?_ | with_reducible refine zK ?_ (by first | omega | (simp;done) | (simp;omega)) _)) (show StepPost base gm vm vs vo m _ (.ok m') (.returned (.tuple #[])) w' from ⟨rfl,vs',vo',h2⟩)
theorem zIc {base:Nat} {W:World} {gs gm:Nat} {i:InstV} {m:MV} {vm vs vo:Value} (hs:Bk W gs 190 (zS gm i)) (hm:MS base gm vm vs vo m W) (ho:i.op=12) {r:Ex MV} (h:∀ W1,Below W.heap.size W W1→Calls Tryz.prog 149 #[.pointer (some ⟨gs,0,none⟩)] W1 (StepPost base gm vm vs vo m W1 r)) :
  Calls Tryz.prog 113 #[.pointer (some ⟨gs,0,none⟩)] W (StepPost base gm vm vs vo m W r):=by
 obtain ⟨s0,s1,s2,s3,s4⟩:=zR hs
 have sL:=hs.lt
 rw [ho] at s1
 clear hs hm ho
 cases r with
 | error k =>
  have NB:=zA h
  clear h
  go_enter Tryz.func113,Tryz.ntmps113
  go_wp2_with (go_at_call 149;((with_reducible refine (NB.out _ (by repeat (first | with_reducible exact Below.refl _ _ | with_reducible refine zG ?_ _ | with_reducible refine zJ ?_ | with_reducible refine zK ?_ (by first | omega | (simp;done) | (simp;omega)) _))).mono ?_);rintro e w' ⟨rfl,hm2,hf2⟩))
  exact ⟨rfl,StepPost.of (by repeat (first | with_reducible exact Below.refl _ _ | with_reducible refine zG ?_ _ | with_reducible refine zJ ?_ | with_reducible refine zK ?_ (by first | omega | (simp;done) | (simp;omega)) _)) (show StepPost base gm vm vs vo m _ (.error k) (.panicked (zAj k)) w' from ⟨rfl,hm2,hf2⟩)⟩
 | ok m' =>
  have NB:=zA h
  clear h
  go_enter Tryz.func113,Tryz.ntmps113
  go_wp2_with (go_at_call 149;((with_reducible refine (NB.out _ (by repeat (first | with_reducible exact Below.refl _ _ | with_reducible refine zG ?_ _ | with_reducible refine zJ ?_ | with_reducible refine zK ?_ (by first | omega | (simp;done) | (simp;omega)) _))).mono ?_);rintro e w' ⟨rfl,vs',vo',h2⟩))
  go_end0
  exact StepPost.of (by repeat (first | with_reducible exact Below.refl _ _ | with_reducible refine zG ?_ _ | with_reducible refine zJ ?_ | with_reducible refine zK ?_ (by first | omega | (simp;done) | (simp;omega)) _)) (show StepPost base gm vm vs vo m _ (.ok m') (.returned (.tuple #[])) w' from ⟨rfl,vs',vo',h2⟩)
theorem zIb {base:Nat} {W:World} {gs gm:Nat} {i:InstV} {m:MV} {vm vs vo:Value} (hs:Bk W gs 190 (zS gm i)) (hm:MS base gm vm vs vo m W) (ho:i.op=13) {r:Ex MV} (h:∀ W1,Below W.heap.size W W1→Calls Tryz.prog 149 #[.pointer (some ⟨gs,0,none⟩)] W1 (StepPost base gm vm vs vo m W1 r)) :
  Calls Tryz.prog 113 #[.pointer (some ⟨gs,0,none⟩)] W (StepPost base gm vm vs vo m W r):=by
 obtain ⟨s0,s1,s2,s3,s4⟩:=zR hs
 have sL:=hs.lt
 rw [ho] at s1
 clear hs hm ho
 cases r with
 | error k =>
  have NB:=zA h
  clear h
  go_enter Tryz.func113,Tryz.ntmps113
  go_wp2_with (go_at_call 149;((with_reducible refine (NB.out _ (by repeat (first | with_reducible exact Below.refl _ _ | with_reducible refine zG ?_ _ | with_reducible refine zJ ?_ | with_reducible refine zK ?_ (by first | omega | (simp;done) | (simp;omega)) _))).mono ?_);rintro e w' ⟨rfl,hm2,hf2⟩))
  exact ⟨rfl,StepPost.of (by repeat (first | with_reducible exact Below.refl _ _ | with_reducible refine zG ?_ _ | with_reducible refine zJ ?_ | with_reducible refine zK ?_ (by first | omega | (simp;done) | (simp;omega)) _)) (show StepPost base gm vm vs vo m _ (.error k) (.panicked (zAj k)) w' from ⟨rfl,hm2,hf2⟩)⟩
 | ok m' =>
  have NB:=zA h
  clear h
  go_enter Tryz.func113,Tryz.ntmps113
  go_wp2_with (go_at_call 149;((with_reducible refine (NB.out _ (by repeat (first | with_reducible exact Below.refl _ _ | with_reducible refine zG ?_ _ | with_reducible refine zJ ?_ | with_reducible refine zK ?_ (by first | omega | (simp;done) | (simp;omega)) _))).mono ?_);rintro e w' ⟨rfl,vs',vo',h2⟩))
  go_end0
  exact StepPost.of (by repeat (first | with_reducible exact Below.refl _ _ | with_reducible refine zG ?_ _ | with_reducible refine zJ ?_ | with_reducible refine zK ?_ (by first | omega | (simp;done) | (simp;omega)) _)) (show StepPost base gm vm vs vo m _ (.ok m') (.returned (.tuple #[])) w' from ⟨rfl,vs',vo',h2⟩)
theorem zIa {base:Nat} {W:World} {gs gm:Nat} {i:InstV} {m:MV} {vm vs vo:Value} (hs:Bk W gs 190 (zS gm i)) (hm:MS base gm vm vs vo m W) (ho:i.op=14) {r:Ex MV} (h:∀ W1,Below W.heap.size W W1→Calls Tryz.prog 149 #[.pointer (some ⟨gs,0,none⟩)] W1 (StepPost base gm vm vs vo m W1 r)) :
  Calls Tryz.prog 113 #[.pointer (some ⟨gs,0,none⟩)] W (StepPost base gm vm vs vo m W r):=by
 obtain ⟨s0,s1,s2,s3,s4⟩:=zR hs
 have sL:=hs.lt
 rw [ho] at s1
 clear hs hm ho
 cases r with
 | error k =>
  have NB:=zA h
  clear h
  go_enter Tryz.func113,Tryz.ntmps113
  go_wp2_with (go_at_call 149;((with_reducible refine (NB.out _ (by repeat (first | with_reducible exact Below.refl _ _ | with_reducible refine zG ?_ _ | with_reducible refine zJ ?_ | with_reducible refine zK ?_ (by first | omega | (simp;done) | (simp;omega)) _))).mono ?_);rintro e w' ⟨rfl,hm2,hf2⟩))
  exact ⟨rfl,StepPost.of (by repeat (first | with_reducible exact Below.refl _ _ | with_reducible refine zG ?_ _ | with_reducible refine zJ ?_ | with_reducible refine zK ?_ (by first | omega | (simp;done) | (simp;omega)) _)) (show StepPost base gm vm vs vo m _ (.error k) (.panicked (zAj k)) w' from ⟨rfl,hm2,hf2⟩)⟩
 | ok m' =>
  have NB:=zA h
  clear h
  go_enter Tryz.func113,Tryz.ntmps113
  go_wp2_with (go_at_call 149;((with_reducible refine (NB.out _ (by repeat (first | with_reducible exact Below.refl _ _ | with_reducible refine zG ?_ _ | with_reducible refine zJ ?_ | with_reducible refine zK ?_ (by first | omega | (simp;done) | (simp;omega)) _))).mono ?_);rintro e w' ⟨rfl,vs',vo',h2⟩))
  go_end0
  exact StepPost.of (by repeat (first | with_reducible exact Below.refl _ _ | with_reducible refine zG ?_ _ | with_reducible refine zJ ?_ | with_reducible refine zK ?_ (by first | omega | (simp;done) | (simp;omega)) _)) (show StepPost base gm vm vs vo m _ (.ok m') (.returned (.tuple #[])) w' from ⟨rfl,vs',vo',h2⟩)
theorem zIZ {base:Nat} {W:World} {gs gm:Nat} {i:InstV} {m:MV} {vm vs vo:Value} (hs:Bk W gs 190 (zS gm i)) (hm:MS base gm vm vs vo m W) (ho:i.op=15) {r:Ex MV} (h:∀ W1,Below W.heap.size W W1→Calls Tryz.prog 149 #[.pointer (some ⟨gs,0,none⟩)] W1 (StepPost base gm vm vs vo m W1 r)) :
  Calls Tryz.prog 113 #[.pointer (some ⟨gs,0,none⟩)] W (StepPost base gm vm vs vo m W r):=by
 obtain ⟨s0,s1,s2,s3,s4⟩:=zR hs
 have sL:=hs.lt
 rw [ho] at s1
 clear hs hm ho
 cases r with
 | error k =>
  have NB:=zA h
  clear h
  go_enter Tryz.func113,Tryz.ntmps113
  go_wp2_with (go_at_call 149;((with_reducible refine (NB.out _ (by repeat (first | with_reducible exact Below.refl _ _ | with_reducible refine zG ?_ _ | with_reducible refine zJ ?_ | with_reducible refine zK ?_ (by first | omega | (simp;done) | (simp;omega)) _))).mono ?_);rintro e w' ⟨rfl,hm2,hf2⟩))
  exact ⟨rfl,StepPost.of (by repeat (first | with_reducible exact Below.refl _ _ | with_reducible refine zG ?_ _ | with_reducible refine zJ ?_ | with_reducible refine zK ?_ (by first | omega | (simp;done) | (simp;omega)) _)) (show StepPost base gm vm vs vo m _ (.error k) (.panicked (zAj k)) w' from ⟨rfl,hm2,hf2⟩)⟩
 | ok m' =>
  have NB:=zA h
  clear h
  go_enter Tryz.func113,Tryz.ntmps113
  go_wp2_with (go_at_call 149;((with_reducible refine (NB.out _ (by repeat (first | with_reducible exact Below.refl _ _ | with_reducible refine zG ?_ _ | with_reducible refine zJ ?_ | with_reducible refine zK ?_ (by first | omega | (simp;done) | (simp;omega)) _))).mono ?_);rintro e w' ⟨rfl,vs',vo',h2⟩))
  go_end0
  exact StepPost.of (by repeat (first | with_reducible exact Below.refl _ _ | with_reducible refine zG ?_ _ | with_reducible refine zJ ?_ | with_reducible refine zK ?_ (by first | omega | (simp;done) | (simp;omega)) _)) (show StepPost base gm vm vs vo m _ (.ok m') (.returned (.tuple #[])) w' from ⟨rfl,vs',vo',h2⟩)
theorem zIY {base:Nat} {W:World} {gs gm:Nat} {i:InstV} {m:MV} {vm vs vo:Value} (hs:Bk W gs 190 (zS gm i)) (hm:MS base gm vm vs vo m W) (ho:i.op=16) {r:Ex MV} (h:∀ W1,Below W.heap.size W W1→Calls Tryz.prog 149 #[.pointer (some ⟨gs,0,none⟩)] W1 (StepPost base gm vm vs vo m W1 r)) :
  Calls Tryz.prog 113 #[.pointer (some ⟨gs,0,none⟩)] W (StepPost base gm vm vs vo m W r):=by
 obtain ⟨s0,s1,s2,s3,s4⟩:=zR hs
 have sL:=hs.lt
 rw [ho] at s1
 clear hs hm ho
 cases r with
 | error k =>
  have NB:=zA h
  clear h
  go_enter Tryz.func113,Tryz.ntmps113
  go_wp2_with (go_at_call 149;((with_reducible refine (NB.out _ (by repeat (first | with_reducible exact Below.refl _ _ | with_reducible refine zG ?_ _ | with_reducible refine zJ ?_ | with_reducible refine zK ?_ (by first | omega | (simp;done) | (simp;omega)) _))).mono ?_);rintro e w' ⟨rfl,hm2,hf2⟩))
  exact ⟨rfl,StepPost.of (by repeat (first | with_reducible exact Below.refl _ _ | with_reducible refine zG ?_ _ | with_reducible refine zJ ?_ | with_reducible refine zK ?_ (by first | omega | (simp;done) | (simp;omega)) _)) (show StepPost base gm vm vs vo m _ (.error k) (.panicked (zAj k)) w' from ⟨rfl,hm2,hf2⟩)⟩
 | ok m' =>
  have NB:=zA h
  clear h
  go_enter Tryz.func113,Tryz.ntmps113
  go_wp2_with (go_at_call 149;((with_reducible refine (NB.out _ (by repeat (first | with_reducible exact Below.refl _ _ | with_reducible refine zG ?_ _ | with_reducible refine zJ ?_ | with_reducible refine zK ?_ (by first | omega | (simp;done) | (simp;omega)) _))).mono ?_);rintro e w' ⟨rfl,vs',vo',h2⟩))
  go_end0
  exact StepPost.of (by repeat (first | with_reducible exact Below.refl _ _ | with_reducible refine zG ?_ _ | with_reducible refine zJ ?_ | with_reducible refine zK ?_ (by first | omega | (simp;done) | (simp;omega)) _)) (show StepPost base gm vm vs vo m _ (.ok m') (.returned (.tuple #[])) w' from ⟨rfl,vs',vo',h2⟩)
theorem zJh {base:Nat} {W:World} {gs gm:Nat} {i:InstV} {m:MV} {vm vs vo:Value} (hs:Bk W gs 190 (zS gm i)) (hm:MS base gm vm vs vo m W) (ho:i.op=20) (a:Nat) (ha:i.a=a) (a8:a < 8) :
  Calls Tryz.prog 113 #[.pointer (some ⟨gs,0,none⟩)] W (StepPost base gm vm vs vo m W (.ok (m.set a (kV m.c)))):=by
 obtain ⟨s0,s1,s2,s3,s4⟩:=zR hs
 have sL:=hs.lt
 rw [ho] at s1
 obtain ⟨m56,m57,m58,m59,m60,m61,m62,m63⟩:=zAx hm
 have mL:=hm.mB.lt
 have SN:=zA (fun W1 (h:Below W.heap.size W W1)=>zCs (zH h hs) (hm.below h) a ha a8 m.c.perm m.c.base m.c.len m.c.at_ m.c.seal_)
 clear hs hm
 go_enter Tryz.func113,Tryz.ntmps113
 go_wp2_with (go_at_call 148;((with_reducible refine (SN.out _ (by repeat (first | with_reducible exact Below.refl _ _ | with_reducible refine zG ?_ _ | with_reducible refine zJ ?_ | with_reducible refine zK ?_ (by first | omega | (simp;done) | (simp;omega)) _))).mono ?_);rintro e w' ⟨rfl,hm2,hf2⟩))
 go_end0
 exact (SPost.of (by repeat (first | with_reducible exact Below.refl _ _ | with_reducible refine zG ?_ _ | with_reducible refine zJ ?_ | with_reducible refine zK ?_ (by first | omega | (simp;done) | (simp;omega)) _)) ⟨rfl,hm2,hf2⟩).step
end Go.Proofs.YtlpejagkadalbaaGreatDoor
