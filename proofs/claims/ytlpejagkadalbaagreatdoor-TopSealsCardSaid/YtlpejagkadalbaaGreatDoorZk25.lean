import Derived.Test.YtlpejagkadalbaaGreatDoorZk24
import Derived.Test.YtlpejagkadalbaaGreatDoorZk22
import Derived.Test.YtlpejagkadalbaaGreatDoorZk23
set_option maxHeartbeats 40000000
set_option maxRecDepth 100000
set_option linter.unusedVariables false
set_option linter.unusedSimpArgs false
namespace Go.Proofs.YtlpejagkadalbaaGreatDoor
open Go.RowKit
theorem zOq {base gm:Nat} {vm vs vo vs' vo':Value} {m:MV} {W w':World} (h:MS base gm vm vs' vo' m w') (h1:NewB vs vs' W) (h2:NewB vo vo' W) {k:Nat} (hk:mS gm vm vs' vo' k) (hl:k < W.heap.size):mS gm vm vs vo k:=by
 rcases hk with e | e | e | e
 ·exact .inl e
 ·exact .inr (.inl e)
 ·rcases h1 k e with h | h
  ·exact .inr (.inr (.inl h))
  ·omega
 ·rcases h2 k e with h | h
  ·exact .inr (.inr (.inr h))
  ·omega
theorem zNy {base:Nat} {W:World} {gs gm:Nat} {i:InstV} {m:MV} {vm vs vo:Value} (hs:Bk W gs 190 (zS gm i)) (hm:MS base gm vm vs vo m W) (ho:i.op=0) :
  Calls Tryz.prog 93 #[.pointer (some ⟨gs,0,none⟩)] W (StepPost base gm vm vs vo m W (.error 16)):=by
 obtain ⟨s0,s1,s2,s3,s4⟩:=zR hs
 have sL:=hs.lt
 rw [ho] at s1
 have HM:=zA hm
 clear hs hm
 go_enter Tryz.func93,Tryz.ntmps93
 go_wp2_with (go_at_call 107;((with_reducible refine (zAv 16 (by decide) _).mono ?_);rintro e w' ⟨rfl,rfl⟩))
 exact ⟨rfl,(Thrown.of (by repeat (first | with_reducible exact Below.refl _ _ | with_reducible refine zG ?_ _ | with_reducible refine zJ ?_ | with_reducible refine zK ?_ (by first | omega | (simp;done) | (simp;omega)) _))).step HM.out⟩
theorem zNx {base:Nat} {W:World} {gs gm:Nat} {i:InstV} {m:MV} {vm vs vo:Value} (hs:Bk W gs 190 (zS gm i)) (hm:MS base gm vm vs vo m W) (ho:i.op=8) {r:Ex MV} (h:∀ W1,Below W.heap.size W W1→Calls Tryz.prog 109 #[.pointer (some ⟨gs,0,none⟩),.int .i64 i.c] W1 (StepPost base gm vm vs vo m W1 r)) :
  Calls Tryz.prog 93 #[.pointer (some ⟨gs,0,none⟩)] W (StepPost base gm vm vs vo m W r):=by
 obtain ⟨s0,s1,s2,s3,s4⟩:=zR hs
 have sL:=hs.lt
 rw [ho] at s1
 clear hs hm ho
 cases r with
 | error k =>
  have NB:=zA h
  clear h
  go_enter Tryz.func93,Tryz.ntmps93
  go_wp2_with (first | (go_at_call 109;((with_reducible refine (NB.out _ (by repeat (first | with_reducible exact Below.refl _ _ | with_reducible refine zG ?_ _ | with_reducible refine zJ ?_ | with_reducible refine zK ?_ (by first | omega | (simp;done) | (simp;omega)) _))).mono ?_);rintro e w' ⟨rfl,hm2,hf2⟩)))
  exact ⟨rfl,StepPost.of (by repeat (first | with_reducible exact Below.refl _ _ | with_reducible refine zG ?_ _ | with_reducible refine zJ ?_ | with_reducible refine zK ?_ (by first | omega | (simp;done) | (simp;omega)) _)) (show StepPost base gm vm vs vo m _ (.error k) (.panicked (zAj k)) w' from ⟨rfl,hm2,hf2⟩)⟩
 | ok m' =>
  have NB:=zA h
  clear h
  go_enter Tryz.func93,Tryz.ntmps93
  go_wp2_with (first | (go_at_call 109;((with_reducible refine (NB.out _ (by repeat (first | with_reducible exact Below.refl _ _ | with_reducible refine zG ?_ _ | with_reducible refine zJ ?_ | with_reducible refine zK ?_ (by first | omega | (simp;done) | (simp;omega)) _))).mono ?_);rintro e w' ⟨rfl,vs',vo',h2⟩)))
  go_end0
  exact StepPost.of (by repeat (first | with_reducible exact Below.refl _ _ | with_reducible refine zG ?_ _ | with_reducible refine zJ ?_ | with_reducible refine zK ?_ (by first | omega | (simp;done) | (simp;omega)) _)) (show StepPost base gm vm vs vo m _ (.ok m') (.returned (.tuple #[])) w' from ⟨rfl,vs',vo',h2⟩)
theorem zNz {base:Nat} {W:World} {gs gm:Nat} {i:InstV} {m:MV} {vm vs vo:Value} (hs:Bk W gs 190 (zS gm i)) (hm:MS base gm vm vs vo m W) (ho:i.op=18) {r:Ex MV} (h:∀ W1,Below W.heap.size W W1→Calls Tryz.prog 111 #[.pointer (some ⟨gs,0,none⟩)] W1 (StepPost base gm vm vs vo m W1 r)) :
  Calls Tryz.prog 93 #[.pointer (some ⟨gs,0,none⟩)] W (StepPost base gm vm vs vo m W r):=by
 obtain ⟨s0,s1,s2,s3,s4⟩:=zR hs
 have sL:=hs.lt
 rw [ho] at s1
 clear hs hm ho
 cases r with
 | error k =>
  have NB:=zA h
  clear h
  go_enter Tryz.func93,Tryz.ntmps93
  go_wp2_with (first | (go_at_call 111;((with_reducible refine (NB.out _ (by repeat (first | with_reducible exact Below.refl _ _ | with_reducible refine zG ?_ _ | with_reducible refine zJ ?_ | with_reducible refine zK ?_ (by first | omega | (simp;done) | (simp;omega)) _))).mono ?_);rintro e w' ⟨rfl,hm2,hf2⟩)))
  exact ⟨rfl,StepPost.of (by repeat (first | with_reducible exact Below.refl _ _ | with_reducible refine zG ?_ _ | with_reducible refine zJ ?_ | with_reducible refine zK ?_ (by first | omega | (simp;done) | (simp;omega)) _)) (show StepPost base gm vm vs vo m _ (.error k) (.panicked (zAj k)) w' from ⟨rfl,hm2,hf2⟩)⟩
 | ok m' =>
  have NB:=zA h
  clear h
  go_enter Tryz.func93,Tryz.ntmps93
  go_wp2_with (first | (go_at_call 111;((with_reducible refine (NB.out _ (by repeat (first | with_reducible exact Below.refl _ _ | with_reducible refine zG ?_ _ | with_reducible refine zJ ?_ | with_reducible refine zK ?_ (by first | omega | (simp;done) | (simp;omega)) _))).mono ?_);rintro e w' ⟨rfl,vs',vo',h2⟩)))
  go_end0
  exact StepPost.of (by repeat (first | with_reducible exact Below.refl _ _ | with_reducible refine zG ?_ _ | with_reducible refine zJ ?_ | with_reducible refine zK ?_ (by first | omega | (simp;done) | (simp;omega)) _)) (show StepPost base gm vm vs vo m _ (.ok m') (.returned (.tuple #[])) w' from ⟨rfl,vs',vo',h2⟩)
theorem zN0 {base:Nat} {W:World} {gs gm:Nat} {i:InstV} {m:MV} {vm vs vo:Value} (hs:Bk W gs 190 (zS gm i)) (hm:MS base gm vm vs vo m W) (ho:i.op=19) {r:Ex MV} (h:∀ W1,Below W.heap.size W W1→Calls Tryz.prog 112 #[.pointer (some ⟨gs,0,none⟩)] W1 (StepPost base gm vm vs vo m W1 r)) :
  Calls Tryz.prog 93 #[.pointer (some ⟨gs,0,none⟩)] W (StepPost base gm vm vs vo m W r):=by
 obtain ⟨s0,s1,s2,s3,s4⟩:=zR hs
 have sL:=hs.lt
 rw [ho] at s1
 clear hs hm ho
 cases r with
 | error k =>
  have NB:=zA h
  clear h
  go_enter Tryz.func93,Tryz.ntmps93
  go_wp2_with (first | (go_at_call 112;((with_reducible refine (NB.out _ (by repeat (first | with_reducible exact Below.refl _ _ | with_reducible refine zG ?_ _ | with_reducible refine zJ ?_ | with_reducible refine zK ?_ (by first | omega | (simp;done) | (simp;omega)) _))).mono ?_);rintro e w' ⟨rfl,hm2,hf2⟩)))
  exact ⟨rfl,StepPost.of (by repeat (first | with_reducible exact Below.refl _ _ | with_reducible refine zG ?_ _ | with_reducible refine zJ ?_ | with_reducible refine zK ?_ (by first | omega | (simp;done) | (simp;omega)) _)) (show StepPost base gm vm vs vo m _ (.error k) (.panicked (zAj k)) w' from ⟨rfl,hm2,hf2⟩)⟩
 | ok m' =>
  have NB:=zA h
  clear h
  go_enter Tryz.func93,Tryz.ntmps93
  go_wp2_with (first | (go_at_call 112;((with_reducible refine (NB.out _ (by repeat (first | with_reducible exact Below.refl _ _ | with_reducible refine zG ?_ _ | with_reducible refine zJ ?_ | with_reducible refine zK ?_ (by first | omega | (simp;done) | (simp;omega)) _))).mono ?_);rintro e w' ⟨rfl,vs',vo',h2⟩)))
  go_end0
  exact StepPost.of (by repeat (first | with_reducible exact Below.refl _ _ | with_reducible refine zG ?_ _ | with_reducible refine zJ ?_ | with_reducible refine zK ?_ (by first | omega | (simp;done) | (simp;omega)) _)) (show StepPost base gm vm vs vo m _ (.ok m') (.returned (.tuple #[])) w' from ⟨rfl,vs',vo',h2⟩)
theorem zLT {base:Nat} {W:World} {gs gm:Nat} {i:InstV} {m:MV} {vm vs vo:Value} (hs:Bk W gs 190 (zS gm i)) (hm:MS base gm vm vs vo m W) (ho:i.op=9) (a:Nat) (ha:i.a=a) (a8:a < 8) (h1:(m.reg a).is=false) (hn:((m.reg a).n != 0)=true) {r:Ex MV} (h:∀ W1,Below W.heap.size W W1→Calls Tryz.prog 109 #[.pointer (some ⟨gs,0,none⟩),.int .i64 i.c] W1 (StepPost base gm vm vs vo m W1 r)) :
  Calls Tryz.prog 93 #[.pointer (some ⟨gs,0,none⟩)] W (StepPost base gm vm vs vo m W r):=by
 obtain ⟨s0,s1,s2,s3,s4⟩:=zR hs
 have sL:=hs.lt
 rw [ho] at s1
 rw [ha] at s2
 have NN:=zA (fun W1 (h:Below W.heap.size W W1)=>zAX (zH h hs) (zH h hm.mB) hm.h8 a a8 h1)
 generalize (m.reg a).n=n at *
 clear hs hm ho
 cases r with
 | error k =>
  have NB:=zA h
  clear h
  go_enter Tryz.func93,Tryz.ntmps93
  go_wp2_with (first | (go_at_call 110;((with_reducible refine (NN.out _ (by repeat (first | with_reducible exact Below.refl _ _ | with_reducible refine zG ?_ _ | with_reducible refine zJ ?_ | with_reducible refine zK ?_ (by first | omega | (simp;done) | (simp;omega)) _))).mono ?_);rintro e w' ⟨rfl,rfl⟩)) | (go_at_call 109;((with_reducible refine (NB.out _ (by repeat (first | with_reducible exact Below.refl _ _ | with_reducible refine zG ?_ _ | with_reducible refine zJ ?_ | with_reducible refine zK ?_ (by first | omega | (simp;done) | (simp;omega)) _))).mono ?_);rintro e w' ⟨rfl,hm2,hf2⟩)))
  exact ⟨rfl,StepPost.of (by repeat (first | with_reducible exact Below.refl _ _ | with_reducible refine zG ?_ _ | with_reducible refine zJ ?_ | with_reducible refine zK ?_ (by first | omega | (simp;done) | (simp;omega)) _)) (show StepPost base gm vm vs vo m _ (.error k) (.panicked (zAj k)) w' from ⟨rfl,hm2,hf2⟩)⟩
 | ok m' =>
  have NB:=zA h
  clear h
  go_enter Tryz.func93,Tryz.ntmps93
  go_wp2_with (first | (go_at_call 110;((with_reducible refine (NN.out _ (by repeat (first | with_reducible exact Below.refl _ _ | with_reducible refine zG ?_ _ | with_reducible refine zJ ?_ | with_reducible refine zK ?_ (by first | omega | (simp;done) | (simp;omega)) _))).mono ?_);rintro e w' ⟨rfl,rfl⟩)) | (go_at_call 109;((with_reducible refine (NB.out _ (by repeat (first | with_reducible exact Below.refl _ _ | with_reducible refine zG ?_ _ | with_reducible refine zJ ?_ | with_reducible refine zK ?_ (by first | omega | (simp;done) | (simp;omega)) _))).mono ?_);rintro e w' ⟨rfl,vs',vo',h2⟩)))
  go_end0
  exact StepPost.of (by repeat (first | with_reducible exact Below.refl _ _ | with_reducible refine zG ?_ _ | with_reducible refine zJ ?_ | with_reducible refine zK ?_ (by first | omega | (simp;done) | (simp;omega)) _)) (show StepPost base gm vm vs vo m _ (.ok m') (.returned (.tuple #[])) w' from ⟨rfl,vs',vo',h2⟩)
theorem zMp {base:Nat} {W:World} {gs gm:Nat} {i:InstV} {m:MV} {vm vs vo:Value} (hs:Bk W gs 190 (zS gm i)) (hm:MS base gm vm vs vo m W) (ho:i.op=9) (a:Nat) (ha:i.a=a) (a8:a < 8) (h1:(m.reg a).is=false) (hn:((m.reg a).n != 0)=false) {r:Ex MV} (h:∀ W1,Below W.heap.size W W1→Calls Tryz.prog 109 #[.pointer (some ⟨gs,0,none⟩),.int .i64 1] W1 (StepPost base gm vm vs vo m W1 r)) :
  Calls Tryz.prog 93 #[.pointer (some ⟨gs,0,none⟩)] W (StepPost base gm vm vs vo m W r):=by
 obtain ⟨s0,s1,s2,s3,s4⟩:=zR hs
 have sL:=hs.lt
 rw [ho] at s1
 rw [ha] at s2
 have NN:=zA (fun W1 (h:Below W.heap.size W W1)=>zAX (zH h hs) (zH h hm.mB) hm.h8 a a8 h1)
 generalize (m.reg a).n=n at *
 clear hs hm ho
 cases r with
 | error k =>
  have NB:=zA h
  clear h
  go_enter Tryz.func93,Tryz.ntmps93
  go_wp2_with (first | (go_at_call 110;((with_reducible refine (NN.out _ (by repeat (first | with_reducible exact Below.refl _ _ | with_reducible refine zG ?_ _ | with_reducible refine zJ ?_ | with_reducible refine zK ?_ (by first | omega | (simp;done) | (simp;omega)) _))).mono ?_);rintro e w' ⟨rfl,rfl⟩)) | (go_at_call 109;((with_reducible refine (NB.out _ (by repeat (first | with_reducible exact Below.refl _ _ | with_reducible refine zG ?_ _ | with_reducible refine zJ ?_ | with_reducible refine zK ?_ (by first | omega | (simp;done) | (simp;omega)) _))).mono ?_);rintro e w' ⟨rfl,hm2,hf2⟩)))
  exact ⟨rfl,StepPost.of (by repeat (first | with_reducible exact Below.refl _ _ | with_reducible refine zG ?_ _ | with_reducible refine zJ ?_ | with_reducible refine zK ?_ (by first | omega | (simp;done) | (simp;omega)) _)) (show StepPost base gm vm vs vo m _ (.error k) (.panicked (zAj k)) w' from ⟨rfl,hm2,hf2⟩)⟩
 | ok m' =>
  have NB:=zA h
  clear h
  go_enter Tryz.func93,Tryz.ntmps93
  go_wp2_with (first | (go_at_call 110;((with_reducible refine (NN.out _ (by repeat (first | with_reducible exact Below.refl _ _ | with_reducible refine zG ?_ _ | with_reducible refine zJ ?_ | with_reducible refine zK ?_ (by first | omega | (simp;done) | (simp;omega)) _))).mono ?_);rintro e w' ⟨rfl,rfl⟩)) | (go_at_call 109;((with_reducible refine (NB.out _ (by repeat (first | with_reducible exact Below.refl _ _ | with_reducible refine zG ?_ _ | with_reducible refine zJ ?_ | with_reducible refine zK ?_ (by first | omega | (simp;done) | (simp;omega)) _))).mono ?_);rintro e w' ⟨rfl,vs',vo',h2⟩)))
  go_end0
  exact StepPost.of (by repeat (first | with_reducible exact Below.refl _ _ | with_reducible refine zG ?_ _ | with_reducible refine zJ ?_ | with_reducible refine zK ?_ (by first | omega | (simp;done) | (simp;omega)) _)) (show StepPost base gm vm vs vo m _ (.ok m') (.returned (.tuple #[])) w' from ⟨rfl,vs',vo',h2⟩)
theorem zLU {base:Nat} {W:World} {gs gm:Nat} {i:InstV} {m:MV} {vm vs vo:Value} (hs:Bk W gs 190 (zS gm i)) (hm:MS base gm vm vs vo m W) (ho:i.op=9) (a:Nat) (ha:i.a=a) (a8:a < 8) (h1:(m.reg a).is=true) :
  Calls Tryz.prog 93 #[.pointer (some ⟨gs,0,none⟩)] W (StepPost base gm vm vs vo m W (.error 10)):=by
 obtain ⟨s0,s1,s2,s3,s4⟩:=zR hs
 have sL:=hs.lt
 rw [ho] at s1
 rw [ha] at s2
 have NN:=zA (fun W1 (h:Below W.heap.size W W1)=>zCb (zH h hs) (zH h hm.mB) hm.h8 a a8 h1)
 have HM:=zA hm
 clear hs hm
 go_enter Tryz.func93,Tryz.ntmps93
 go_wp2_with (go_at_call 110;((with_reducible refine (NN.out _ (by repeat (first | with_reducible exact Below.refl _ _ | with_reducible refine zG ?_ _ | with_reducible refine zJ ?_ | with_reducible refine zK ?_ (by first | omega | (simp;done) | (simp;omega)) _))).mono ?_);rintro e w' ⟨rfl,hbT⟩))
 exact ⟨rfl,(Thrown.of (show Below W.heap.size W w' from zI (by repeat (first | with_reducible exact Below.refl _ _ | with_reducible refine zG ?_ _ | with_reducible refine zJ ?_ | with_reducible refine zK ?_ (by first | omega | (simp;done) | (simp;omega)) _)) hbT)).step HM.out⟩
theorem zMo {base:Nat} {W:World} {gs gm:Nat} {i:InstV} {m:MV} {vm vs vo:Value} (hs:Bk W gs 190 (zS gm i)) (hm:MS base gm vm vs vo m W) (g0:(i.op==0)=false) (g8:(i.op==8)=false) (g9:(i.op==9)=false) (g18:(i.op==18)=false) (g19:(i.op==19)=false) {r:Ex MV} (hb:∀ m',r=.ok m'→0≤m'.c.at_∧m'.c.at_≤400) (h:∀ W1,Below W.heap.size W W1→Calls Tryz.prog 113 #[.pointer (some ⟨gs,0,none⟩)] W1 (StepPost base gm vm vs vo m W1 r)) :
  Calls Tryz.prog 93 #[.pointer (some ⟨gs,0,none⟩)] W (StepPost base gm vm vs vo m W (r >>= fun m'=>.ok (m'.fwd 1))):=by
 obtain ⟨s0,s1,s2,s3,s4⟩:=zR hs
 have sL:=hs.lt
 have HSB:=zA hs
 have HM:=zA hm
 clear hs hm
 cases r with
 | error k =>
  rw [eb1]
  have NB:=zA h
  clear h hb
  go_enter Tryz.func93,Tryz.ntmps93
  go_wp2_with (go_at_call 113;((with_reducible refine (NB.out _ (by repeat (first | with_reducible exact Below.refl _ _ | with_reducible refine zG ?_ _ | with_reducible refine zJ ?_ | with_reducible refine zK ?_ (by first | omega | (simp;done) | (simp;omega)) _))).mono ?_);rintro e w' ⟨rfl,hm2,hf2⟩))
  exact ⟨rfl,StepPost.of (by repeat (first | with_reducible exact Below.refl _ _ | with_reducible refine zG ?_ _ | with_reducible refine zJ ?_ | with_reducible refine zK ?_ (by first | omega | (simp;done) | (simp;omega)) _)) (show StepPost base gm vm vs vo m _ (.error k) (.panicked (zAj k)) w' from ⟨rfl,hm2,hf2⟩)⟩
 | ok m' =>
  rw [eb2]
  have NB:=zA h
  obtain ⟨hb0,hb1⟩:=hb m' rfl
  clear h hb
  go_enter Tryz.func93,Tryz.ntmps93
  go_upto_region 3 with (go_at_call 113;((with_reducible refine (NB.out _ (by repeat (first | with_reducible exact Below.refl _ _ | with_reducible refine zG ?_ _ | with_reducible refine zJ ?_ | with_reducible refine zK ?_ (by first | omega | (simp;done) | (simp;omega)) _))).mono ?_);rintro e w' ⟨rfl,vs',vo',hm2,hf2,hn1,hn2⟩;have hf3:Fr (mS gm vm vs vo) W w':=(Fr.of (by repeat (first | with_reducible exact Below.refl _ _ | with_reducible refine zG ?_ _ | with_reducible refine zJ ?_ | with_reducible refine zK ?_ (by first | omega | (simp;done) | (simp;omega)) _))).trans hf2 (fun _ _ h=>h);have hz:W.heap.size≤w'.heap.size:=hf3.size))
  have hs2:Bk w' gs 190 (zS gm i):=hf3.bk HSB.out (HM.out.not HSB.out (by decide) (by decide) (by decide) (by decide))
  have y0:=hs2.cell 0
  simp only [zS,List.getElem?_toArray,List.getElem?_cons_zero] at y0
  have yL:=hs2.lt
  have c3:=hm2.at_cell
  have mF:=fun j=>hm2.mB.frozen j
  have mL:=hm2.mB.lt
  have HF:=zA (SPost.fwd hm2 1)
  have HF3:=zA hf3
  have HN1:=zA (show NewB vs vs' W from fun k hk=>(hn1 k hk).imp id (fun h=>Nat.le_trans (by simp) h))
  have HN2:=zA (show NewB vo vo' W from fun k hk=>(hn2 k hk).imp id (fun h=>Nat.le_trans (by simp) h))
  have HM2:=zA hm2
  clear hs2 hm2 hf2 hf3 hn1 hn2
  go_wp2
  go_end0
  have hsp:=HF.out
  exact ⟨rfl,vs',vo',hsp.2.1,HF3.out.trans hsp.2.2 (fun k hk h=>(zOq HM2.out HN1.out HN2.out h hk)),HN1.out,HN2.out⟩
end Go.Proofs.YtlpejagkadalbaaGreatDoor
