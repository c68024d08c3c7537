import Derived.Test.YtlpejagkadalbaaGreatDoorZk07
set_option maxHeartbeats 40000000
set_option maxRecDepth 100000
set_option linter.unusedVariables false
set_option linter.unusedSimpArgs false
namespace Go.Proofs.YtlpejagkadalbaaGreatDoor
section
open Go.RowKit
open Go.Maps (Keyed)
def zDq (gs b:Nat) (d:Bool) (mem:List ValV) (ma:Option Addr) (mc:Nat) (S:List KeyV) (k:KeyV) (W:World) (e:Ending) (w':World):Prop :=
 e=.returned (.tuple #[])∧∃ S',SeekSt gs b d mem ma mc S' w'∧AddR d mem S k S'∧Grw b W w'
def zJV (gs b:Nat) (d:Bool) (mem:List ValV) (ma:Option Addr) (mc:Nat) (S:List KeyV) (v:ValV) (W:World) (e:Ending) (w':World):Prop :=
 e=.returned (.tuple #[])∧∃ S',SeekSt gs b d mem ma mc S' w'∧Grw b W w'∧(v.is=true→AddR d mem S v.k S')∧(v.is=false→S'=S)
section
variable {gs b:Nat} {d:Bool} {mem:List ValV} {ma:Option Addr} {mc:Nat}
theorem zKS {S:List KeyV} {v:ValV} {W:World} (h:SeekSt gs b d mem ma mc S W) (ha:v.is=true→∀ W1,SeekSt gs b d mem ma mc S W1→Calls Tryz.prog 80 #[.pointer (some ⟨gs,0,none⟩),v.k.val] W1 (zDq gs b d mem ma mc S v.k W1)) :
  Calls Tryz.prog 81 #[.pointer (some ⟨gs,0,none⟩),v.val] W (zJV gs b d mem ma mc S v W):=by
 obtain ⟨is,n,p,bb,l,a,s⟩:=v
 simp only [ValV.val,KeyV.val] at ha ⊢
 cases is
 ·have HS:=zA h
  clear ha h
  go_enter Tryz.func81,Tryz.ntmps81
  go_wp2
  refine bodyPost_ret (results_none rfl _ _ _) rfl ?_
  exact ⟨rfl,S,HS.out.below (zG (Below.refl _ _) _),zCL (zG (Below.refl _ _) _),(fun e=>by cases e),fun _=>rfl⟩
 ·have HA:=zA (ha rfl)
  have HS:=zA h
  clear ha h
  go_enter Tryz.func81,Tryz.ntmps81
  go_wp2_with (go_at_call 80;((with_reducible refine (HA.out _ (HS.out.below (zG (Below.refl _ _) _))).mono ?_);rintro e w' ⟨rfl,S',h1,h2,h3⟩;have H1:=zA h1;have H2:=zA h2;have H3:=zA h3;clear h1 h2 h3))
  refine bodyPost_ret (results_none rfl _ _ _) rfl ?_
  exact ⟨rfl,S',H1.out,zBo (zCL (zG (Below.refl _ _) _)) H3.out,fun _=>H2.out,fun e=>by cases e⟩
theorem zGi {S:List KeyV} {k:KeyV} {W:World} (hst:SeekSt gs b d mem ma mc S W) (hk:k.Ok) (hin:k∈S):Calls Tryz.prog 80 #[.pointer (some ⟨gs,0,none⟩),k.val] W (zDq gs b d mem ma mc S k W):=by
 have hr:=AddR.there (d:=d) (mem:=mem) hin
 have HR:=zA hr
 clear hr
 obtain ⟨p,bb,l,a,s⟩:=k
 have hlk:=fun (W1:World) (h1:SeekSt gs b d mem ma mc S W1)=>h1.look hk.wf (fun x hx=>(h1.wf x hx).wf)
 simp only [decide_eq_true (show (_:Prop) from hin)] at hlk
 simp only [KeyV.val] at hlk ⊢
 obtain ⟨w1,hw1⟩:∃ w1,w1=W.alloc (.cells #[.int .i64 p,.int .i64 bb,.int .i64 l,.int .i64 a,.int .i64 s] 54):=⟨_,rfl⟩
 have h1w:Below W.heap.size W w1:=by rw [hw1];exact zG (Below.refl _ _) _
 have k1:Bk w1 W.heap.size 54 #[.int .i64 p,.int .i64 bb,.int .i64 l,.int .i64 a,.int .i64 s]:=by rw [hw1];exact zM _ _ _
 have st1:=hst.below h1w
 have hf:∀ W1,Below w1.heap.size w1 W1→W1.cell? ⟨gs,0,none⟩=some (.map (some b))∧(W1.cell? ⟨W.heap.size,0,none⟩=some (.int .i64 p)∧W1.cell? ⟨W.heap.size,1,none⟩=some (.int .i64 bb)∧W1.cell? ⟨W.heap.size,2,none⟩=some (.int .i64 l)∧W1.cell? ⟨W.heap.size,3,none⟩=some (.int .i64 a)∧W1.cell? ⟨W.heap.size,4,none⟩=some (.int .i64 s))∧(Instr.lookup 140 (.map (some b)) (.agg #[.int .i64 p,.int .i64 bb,.int .i64 l,.int .i64 a,.int .i64 s]) true).run Tryz.prog W1=.ok (.tuple #[.agg #[],.bool true]) W1:=fun W1 hb =>
  ⟨(st1.below hb).bk.cell 0,zQ (zH hb k1),hlk W1 (st1.below hb)⟩
 have HF:=zA hf
 have ST:=zA hst
 have HW1:=zA hw1
 have H1W:=zA h1w
 have K1:=zA k1
 clear hf hst hw1 h1w k1 st1 hlk
 go_enter Tryz.func80,Tryz.ntmps80
 go_upto_region 1 with (fail)
 rw [←HW1.out]
 refine wp_region_held_drew (S:=fun W1=>Below w1.heap.size w1 W1) (by kernel_rfl) (zJ (Below.refl _ _)) (fun hHeld=>?_)
 refine wpAnyH_take (i:=0) (v:=?_) rfl (by kernel_rfl) (by kernel_rfl) (by kernel_rfl) (fun _ _ _ h=>h) (Or.inl ⟨by rfl,?hyT⟩) hHeld ?restT
 case hyT=>(intro wS hSw;obtain ⟨q0,⟨q1,q2,q3,q4,q5⟩,q6⟩:=HF.out wS hSw;go_simp;try with_reducible rfl)
 case restT =>
  change wpAnyH _ _ _ _ _ _ _ (Act.mk _ _) _;try simp only [Act.put,zC,zD,zE]
  refine wpAnyH_take (i:=1) (v:=?_) rfl (by kernel_rfl) (by kernel_rfl) (by kernel_rfl) (fun _ _ _ h=>h) (Or.inl ⟨by rfl,?hyT⟩) hHeld ?restT
  case hyT=>(intro wS hSw;obtain ⟨q0,⟨q1,q2,q3,q4,q5⟩,q6⟩:=HF.out wS hSw;go_simp;try with_reducible rfl)
  case restT =>
   change wpAnyH _ _ _ _ _ _ _ (Act.mk _ _) _;try simp only [Act.put,zC,zD,zE]
   refine wpAnyH_take (i:=2) (v:=?_) rfl (by kernel_rfl) (by kernel_rfl) (by kernel_rfl) (fun _ _ _ h=>h) (Or.inl ⟨by rfl,?hyT⟩) hHeld ?restT
   case hyT=>(intro wS hSw;obtain ⟨q0,⟨q1,q2,q3,q4,q5⟩,q6⟩:=HF.out wS hSw;go_simp;try with_reducible rfl)
   case restT =>
    change wpAnyH _ _ _ _ _ _ _ (Act.mk _ _) _;try simp only [Act.put,zC,zD,zE]
    refine wpAnyH_take (i:=3) (v:=?_) rfl (by kernel_rfl) (by kernel_rfl) (by kernel_rfl) (fun _ _ _ h=>h) (Or.inl ⟨by rfl,?hyT⟩) hHeld ?restT
    case hyT=>(intro wS hSw;obtain ⟨q0,⟨q1,q2,q3,q4,q5⟩,q6⟩:=HF.out wS hSw;go_simp;try with_reducible rfl)
    case restT =>
     change wpAnyH _ _ _ _ _ _ _ (Act.mk _ _) _;try simp only [Act.put,zC,zD,zE]
     refine wpAnyH_take (i:=4) (v:=?_) rfl (by kernel_rfl) (by kernel_rfl) (by kernel_rfl) (fun _ _ _ h=>h) (Or.inl ⟨by rfl,?hyT⟩) hHeld ?restT
     case hyT=>(intro wS hSw;obtain ⟨q0,⟨q1,q2,q3,q4,q5⟩,q6⟩:=HF.out wS hSw;go_simp;try with_reducible rfl)
     case restT =>
      change wpAnyH _ _ _ _ _ _ _ (Act.mk _ _) _;try simp only [Act.put,zC,zD,zE]
      refine wpAnyH_take (i:=5) (v:=?_) rfl (by kernel_rfl) (by kernel_rfl) (by kernel_rfl) (fun _ _ _ h=>h) (Or.inl ⟨by rfl,?hyT⟩) hHeld ?restT
      case hyT=>(intro wS hSw;obtain ⟨q0,⟨q1,q2,q3,q4,q5⟩,q6⟩:=HF.out wS hSw;go_simp;try with_reducible rfl)
      case restT =>
       change wpAnyH _ _ _ _ _ _ _ (Act.mk _ _) _;try simp only [Act.put,zC,zD,zE]
       refine wpAnyH_take (i:=6) (v:=?_) rfl (by kernel_rfl) (by kernel_rfl) (by kernel_rfl) (fun _ _ _ h=>h) (Or.inl ⟨by rfl,?hyT⟩) hHeld ?restT
       case hyT=>(intro wS hSw;obtain ⟨q0,⟨q1,q2,q3,q4,q5⟩,q6⟩:=HF.out wS hSw;go_simp;try with_reducible rfl)
       case restT =>
        change wpAnyH _ _ _ _ _ _ _ (Act.mk _ _) _;try simp only [Act.put,zC,zD,zE]
        refine wpAnyH_take (i:=7) (v:=?_) rfl (by kernel_rfl) (by kernel_rfl) (by kernel_rfl) (fun _ _ _ h=>h) (Or.inl ⟨by rfl,?hyT⟩) hHeld ?restT
        case hyT=>(intro wS hSw;obtain ⟨q0,⟨q1,q2,q3,q4,q5⟩,q6⟩:=HF.out wS hSw;go_simp;try with_reducible rfl)
        case restT =>
         change wpAnyH _ _ _ _ _ _ _ (Act.mk _ _) _;try simp only [Act.put,zC,zD,zE]
         refine wpAnyH_take (i:=8) (v:=?_) rfl (by kernel_rfl) (by kernel_rfl) (by kernel_rfl) (fun _ _ _ h=>h) (Or.inl ⟨by rfl,?hyT⟩) hHeld ?restT
         case hyT=>(intro wS hSw;obtain ⟨q0,⟨q1,q2,q3,q4,q5⟩,q6⟩:=HF.out wS hSw;go_simp;try with_reducible rfl)
         case restT =>
          change wpAnyH _ _ _ _ _ _ _ (Act.mk _ _) _;try simp only [Act.put,zC,zD,zE]
          refine wpAnyH_ready (rs:=[9]) (by kernel_rfl) (by simp) ?_
          refine AllReadyH.cons rfl (fun K hK=>?_) AllReadyH.nil
          go_simp
          refine hK.out _ _ (zG (zJ (Below.refl _ _)) _) (fun hHeld=>?_)
          clear hK K
          change wpAnyH _ _ _ _ _ _ _ (Act.mk _ _) _;try simp only [Act.put,zC,zD,zE]
          refine wpAnyH_ready (rs:=[10]) (by kernel_rfl) (by simp) ?_
          refine AllReadyH.cons rfl (fun K hK=>?_) AllReadyH.nil
          go_simp
          refine hK.out _ _ (zG (zJ (Below.refl _ _)) _) (fun hHeld=>?_)
          clear hK K
          change wpAnyH _ _ _ _ _ _ _ (Act.mk _ _) _;try simp only [Act.put,zC,zD,zE]
          refine wpAnyH_ready (rs:=[11]) (by kernel_rfl) (by simp) ?_
          refine AllReadyH.cons rfl (fun K hK=>?_) AllReadyH.nil
          go_simp
          refine hK.out _ _ (zG (zJ (Below.refl _ _)) _) (fun hHeld=>?_)
          clear hK K
          change wpAnyH _ _ _ _ _ _ _ (Act.mk _ _) _;try simp only [Act.put,zC,zD,zE]
          refine wpAnyH_done (by kernel_rfl) ?_ _
          go_wp2
          refine bodyPost_ret (results_none rfl _ _ _) rfl ?_
          exact ⟨rfl,S,ST.out.below (zI H1W.out (zG (zJ (Below.refl _ _)) _)),HR.out,zCL (zI H1W.out (zG (zJ (Below.refl _ _)) _))⟩
theorem zNb {N:Nat} (hmem:∀ v∈mem,v.Ok) (hlen:mem.length≤400) {S:List KeyV} {k:KeyV} {W:World} (hst:SeekSt gs b d mem ma mc S W) (hk:k.Ok) (hs:S.length+zA5 mem (S++[k])+1 < 100000) (hin:k∉S)
  (ih:∀ (S:List KeyV) (k:KeyV) (W:World),SeekSt gs b d mem ma mc S W→k.Ok→(k∈S∨S.length+zA5 mem (S++[k])+1 < 100000∧zA5 mem (S++[k]) < N)→Calls Tryz.prog 80 #[.pointer (some ⟨gs,0,none⟩),k.val] W (zDq gs b d mem ma mc S k W))
  (hN:zA5 mem (S++[k])≤N):Calls Tryz.prog 80 #[.pointer (some ⟨gs,0,none⟩),k.val] W (zDq gs b d mem ma mc S k W):=by
 have HIH:=zA ih
 have HIN:=zA hin
 have HSZ:=zA hs
 have HN:=zA hN
 have HKO:=zA hk
 have HMEM:=zA hmem
 have HLEN:=zA hlen
 have hbnd:0≤k.base∧k.base≤400∧0≤k.len∧k.base+k.len≤400:=⟨hk.b0,hk.b1,hk.l0,hk.l1⟩
 clear ih hs hN hmem hlen
 obtain ⟨p,bb,l,a,s⟩:=k
 have hlk:=fun (W1:World) (h1:SeekSt gs b d mem ma mc S W1)=>h1.look hk.wf (fun x hx=>(h1.wf x hx).wf)
 simp only [decide_eq_false (show (_:Prop) from hin)] at hlk
 simp only [KeyV.val] at hlk ⊢
 obtain ⟨w1,hw1⟩:∃ w1,w1=W.alloc (.cells #[.int .i64 p,.int .i64 bb,.int .i64 l,.int .i64 a,.int .i64 s] 54):=⟨_,rfl⟩
 have h1w:Below W.heap.size W w1:=by rw [hw1];exact zG (Below.refl _ _) _
 have k1:Bk w1 W.heap.size 54 #[.int .i64 p,.int .i64 bb,.int .i64 l,.int .i64 a,.int .i64 s]:=by rw [hw1];exact zM _ _ _
 have st1:=hst.below h1w
 have hf:∀ W1,Below w1.heap.size w1 W1→W1.cell? ⟨gs,0,none⟩=some (.map (some b))∧(W1.cell? ⟨W.heap.size,0,none⟩=some (.int .i64 p)∧W1.cell? ⟨W.heap.size,1,none⟩=some (.int .i64 bb)∧W1.cell? ⟨W.heap.size,2,none⟩=some (.int .i64 l)∧W1.cell? ⟨W.heap.size,3,none⟩=some (.int .i64 a)∧W1.cell? ⟨W.heap.size,4,none⟩=some (.int .i64 s))∧(Instr.lookup 140 (.map (some b)) (.agg #[.int .i64 p,.int .i64 bb,.int .i64 l,.int .i64 a,.int .i64 s]) true).run Tryz.prog W1=.ok (.tuple #[.agg #[],.bool false]) W1:=fun W1 hb =>
  ⟨(st1.below hb).bk.cell 0,zQ (zH hb k1),hlk W1 (st1.below hb)⟩
 have HF:=zA hf
 have ST:=zA hst
 have HW1:=zA hw1
 have H1W:=zA h1w
 have K1:=zA k1
 clear hf hst hw1 h1w k1 st1 hlk
 go_enter Tryz.func80,Tryz.ntmps80
 go_upto_region 1 with (fail)
 rw [←HW1.out]
 refine wp_region_held_drew (S:=fun W1=>Below w1.heap.size w1 W1) (by kernel_rfl) (zJ (Below.refl _ _)) (fun hHeld=>?_)
 refine wpAnyH_take (i:=0) (v:=?_) rfl (by kernel_rfl) (by kernel_rfl) (by kernel_rfl) (fun _ _ _ h=>h) (Or.inl ⟨by rfl,?hyT⟩) hHeld ?restT
 case hyT=>(intro wS hSw;obtain ⟨q0,⟨q1,q2,q3,q4,q5⟩,q6⟩:=HF.out wS hSw;go_simp;try with_reducible rfl)
 case restT =>
  change wpAnyH _ _ _ _ _ _ _ (Act.mk _ _) _;try simp only [Act.put,zC,zD,zE]
  refine wpAnyH_take (i:=1) (v:=?_) rfl (by kernel_rfl) (by kernel_rfl) (by kernel_rfl) (fun _ _ _ h=>h) (Or.inl ⟨by rfl,?hyT⟩) hHeld ?restT
  case hyT=>(intro wS hSw;obtain ⟨q0,⟨q1,q2,q3,q4,q5⟩,q6⟩:=HF.out wS hSw;go_simp;try with_reducible rfl)
  case restT =>
   change wpAnyH _ _ _ _ _ _ _ (Act.mk _ _) _;try simp only [Act.put,zC,zD,zE]
   refine wpAnyH_take (i:=2) (v:=?_) rfl (by kernel_rfl) (by kernel_rfl) (by kernel_rfl) (fun _ _ _ h=>h) (Or.inl ⟨by rfl,?hyT⟩) hHeld ?restT
   case hyT=>(intro wS hSw;obtain ⟨q0,⟨q1,q2,q3,q4,q5⟩,q6⟩:=HF.out wS hSw;go_simp;try with_reducible rfl)
   case restT =>
    change wpAnyH _ _ _ _ _ _ _ (Act.mk _ _) _;try simp only [Act.put,zC,zD,zE]
    refine wpAnyH_take (i:=3) (v:=?_) rfl (by kernel_rfl) (by kernel_rfl) (by kernel_rfl) (fun _ _ _ h=>h) (Or.inl ⟨by rfl,?hyT⟩) hHeld ?restT
    case hyT=>(intro wS hSw;obtain ⟨q0,⟨q1,q2,q3,q4,q5⟩,q6⟩:=HF.out wS hSw;go_simp;try with_reducible rfl)
    case restT =>
     change wpAnyH _ _ _ _ _ _ _ (Act.mk _ _) _;try simp only [Act.put,zC,zD,zE]
     refine wpAnyH_take (i:=4) (v:=?_) rfl (by kernel_rfl) (by kernel_rfl) (by kernel_rfl) (fun _ _ _ h=>h) (Or.inl ⟨by rfl,?hyT⟩) hHeld ?restT
     case hyT=>(intro wS hSw;obtain ⟨q0,⟨q1,q2,q3,q4,q5⟩,q6⟩:=HF.out wS hSw;go_simp;try with_reducible rfl)
     case restT =>
      change wpAnyH _ _ _ _ _ _ _ (Act.mk _ _) _;try simp only [Act.put,zC,zD,zE]
      refine wpAnyH_take (i:=5) (v:=?_) rfl (by kernel_rfl) (by kernel_rfl) (by kernel_rfl) (fun _ _ _ h=>h) (Or.inl ⟨by rfl,?hyT⟩) hHeld ?restT
      case hyT=>(intro wS hSw;obtain ⟨q0,⟨q1,q2,q3,q4,q5⟩,q6⟩:=HF.out wS hSw;go_simp;try with_reducible rfl)
      case restT =>
       change wpAnyH _ _ _ _ _ _ _ (Act.mk _ _) _;try simp only [Act.put,zC,zD,zE]
       refine wpAnyH_take (i:=6) (v:=?_) rfl (by kernel_rfl) (by kernel_rfl) (by kernel_rfl) (fun _ _ _ h=>h) (Or.inl ⟨by rfl,?hyT⟩) hHeld ?restT
       case hyT=>(intro wS hSw;obtain ⟨q0,⟨q1,q2,q3,q4,q5⟩,q6⟩:=HF.out wS hSw;go_simp;try with_reducible rfl)
       case restT =>
        change wpAnyH _ _ _ _ _ _ _ (Act.mk _ _) _;try simp only [Act.put,zC,zD,zE]
        refine wpAnyH_take (i:=7) (v:=?_) rfl (by kernel_rfl) (by kernel_rfl) (by kernel_rfl) (fun _ _ _ h=>h) (Or.inl ⟨by rfl,?hyT⟩) hHeld ?restT
        case hyT=>(intro wS hSw;obtain ⟨q0,⟨q1,q2,q3,q4,q5⟩,q6⟩:=HF.out wS hSw;go_simp;try with_reducible rfl)
        case restT =>
         change wpAnyH _ _ _ _ _ _ _ (Act.mk _ _) _;try simp only [Act.put,zC,zD,zE]
         refine wpAnyH_take (i:=8) (v:=?_) rfl (by kernel_rfl) (by kernel_rfl) (by kernel_rfl) (fun _ _ _ h=>h) (Or.inl ⟨by rfl,?hyT⟩) hHeld ?restT
         case hyT=>(intro wS hSw;obtain ⟨q0,⟨q1,q2,q3,q4,q5⟩,q6⟩:=HF.out wS hSw;go_simp;try with_reducible rfl)
         case restT =>
          change wpAnyH _ _ _ _ _ _ _ (Act.mk _ _) _;try simp only [Act.put,zC,zD,zE]
          refine wpAnyH_ready (rs:=[9]) (by kernel_rfl) (by simp) ?_
          refine AllReadyH.cons rfl (fun K hK=>?_) AllReadyH.nil
          go_simp
          refine hK.out _ _ (zG (zJ (Below.refl _ _)) _) (fun hHeld=>?_)
          clear hK K
          change wpAnyH _ _ _ _ _ _ _ (Act.mk _ _) _;try simp only [Act.put,zC,zD,zE]
          refine wpAnyH_ready (rs:=[10]) (by kernel_rfl) (by simp) ?_
          refine AllReadyH.cons rfl (fun K hK=>?_) AllReadyH.nil
          go_simp
          refine hK.out _ _ (zG (zJ (Below.refl _ _)) _) (fun hHeld=>?_)
          clear hK K
          change wpAnyH _ _ _ _ _ _ _ (Act.mk _ _) _;try simp only [Act.put,zC,zD,zE]
          refine wpAnyH_ready (rs:=[11]) (by kernel_rfl) (by simp) ?_
          refine AllReadyH.cons rfl (fun K hK=>?_) AllReadyH.nil
          go_simp
          refine hK.out _ _ (zG (zJ (Below.refl _ _)) _) (fun hHeld=>?_)
          clear hK K
          change wpAnyH _ _ _ _ _ _ _ (Act.mk _ _) _;try simp only [Act.put,zC,zD,zE]
          refine wpAnyH_done (by kernel_rfl) ?_ _
          clear hin
          go_upto_region 3 with (fail)
          obtain ⟨w2,hw2⟩:∃ w2,w2=(w1.alloc (.cells #[] 141)).drew:=⟨_,rfl⟩
          have b12:Below w1.heap.size w1 w2:=by rw [hw2];exact zJ (zG (Below.refl _ _) _)
          rw [←hw2]
          clear hw2
          have st2:=ST.out.below (zI H1W.out b12)
          have k2:=zH b12 K1.out
          have st2d:SeekSt gs b d mem ma mc S w2.drew:=st2.below (zJ (Below.refl _ _))
          have hgk:W.heap.size≠b:=fun e=>by have:=ST.out.own.lt;omega
          obtain ⟨w3,hrun,hown,hgr⟩:=st2d.own.update keyedK Tryz.underlying140 (by have:=HSZ.out;unfold maxLen;omega) (zDN HKO.out.wf) (unitElem_mk (H:=Unit))
          have g23:Grw b w2 w3:=zBo (zCL (zJ (Below.refl _ _))) hgr
          have st3:SeekSt gs b d mem ma mc (S++[⟨p,bb,l,a,s⟩]) w3:=st2.step g23 (by rw [List.length_append,zKc];exact hown) (fun x hx=>by
           rcases List.mem_append.1 hx with h | h
           ·exact st2.wf x h
           ·rw [List.mem_singleton.1 h];exact HKO.out)
          have hgf:∀ W1,Grw b w2 W1→W1.cell? ⟨gs,0,none⟩=some (.map (some b))∧(W1.cell? ⟨W.heap.size,0,none⟩=some (.int .i64 p)∧W1.cell? ⟨W.heap.size,1,none⟩=some (.int .i64 bb)∧W1.cell? ⟨W.heap.size,2,none⟩=some (.int .i64 l)∧W1.cell? ⟨W.heap.size,3,none⟩=some (.int .i64 a)∧W1.cell? ⟨W.heap.size,4,none⟩=some (.int .i64 s)):=fun W1 hg =>
           ⟨(zEI hg st2.bk st2.ne).cell 0,zQ (zEI hg k2 hgk)⟩
          have g13:Grw b W w3:=zBo (zCL (zI H1W.out b12)) g23
          have k3:Bk w3 W.heap.size 54 #[.int .i64 p,.int .i64 bb,.int .i64 l,.int .i64 a,.int .i64 s]:=zEI g23 k2 hgk
          have HGF:=zA hgf
          have ST3:=zA st3
          have G13:=zA g13
          have K3:=zA k3
          have G23:=zA g23
          have HGK:=zA hgk
          simp only [KeyV.val] at hrun
          clear hgf st3 g13 k3 g23 hgk st2 st2d k2 hown hgr b12
          refine wp_region_held_drew (S:=fun W1=>Grw b w2 W1) (by kernel_rfl) (zCL (zJ (Below.refl _ _))) (fun hHeld=>?_)
          refine wpAnyH_take (i:=0) (v:=?_) rfl (by kernel_rfl) (by kernel_rfl) (by kernel_rfl) (fun _ _ _ h=>h) (Or.inl ⟨by rfl,?hyT⟩) hHeld ?restT
          case hyT=>(intro wS hSw;obtain ⟨q0,q1,q2,q3,q4,q5⟩:=HGF.out wS hSw;go_simp;try with_reducible rfl)
          case restT =>
           change wpAnyH _ _ _ _ _ _ _ (Act.mk _ _) _;try simp only [Act.put,zC,zD,zE]
           refine wpAnyH_take (i:=1) (v:=?_) rfl (by kernel_rfl) (by kernel_rfl) (by kernel_rfl) (fun _ _ _ h=>h) (Or.inl ⟨by rfl,?hyT⟩) hHeld ?restT
           case hyT=>(intro wS hSw;obtain ⟨q0,q1,q2,q3,q4,q5⟩:=HGF.out wS hSw;go_simp;try with_reducible rfl)
           case restT =>
            change wpAnyH _ _ _ _ _ _ _ (Act.mk _ _) _;try simp only [Act.put,zC,zD,zE]
            refine wpAnyH_take (i:=2) (v:=?_) rfl (by kernel_rfl) (by kernel_rfl) (by kernel_rfl) (fun _ _ _ h=>h) (Or.inl ⟨by rfl,?hyT⟩) hHeld ?restT
            case hyT=>(intro wS hSw;obtain ⟨q0,q1,q2,q3,q4,q5⟩:=HGF.out wS hSw;go_simp;try with_reducible rfl)
            case restT =>
             change wpAnyH _ _ _ _ _ _ _ (Act.mk _ _) _;try simp only [Act.put,zC,zD,zE]
             refine wpAnyH_take (i:=3) (v:=?_) rfl (by kernel_rfl) (by kernel_rfl) (by kernel_rfl) (fun _ _ _ h=>h) (Or.inl ⟨by rfl,?hyT⟩) hHeld ?restT
             case hyT=>(intro wS hSw;obtain ⟨q0,q1,q2,q3,q4,q5⟩:=HGF.out wS hSw;go_simp;try with_reducible rfl)
             case restT =>
              change wpAnyH _ _ _ _ _ _ _ (Act.mk _ _) _;try simp only [Act.put,zC,zD,zE]
              refine wpAnyH_take (i:=4) (v:=?_) rfl (by kernel_rfl) (by kernel_rfl) (by kernel_rfl) (fun _ _ _ h=>h) (Or.inl ⟨by rfl,?hyT⟩) hHeld ?restT
              case hyT=>(intro wS hSw;obtain ⟨q0,q1,q2,q3,q4,q5⟩:=HGF.out wS hSw;go_simp;try with_reducible rfl)
              case restT =>
               change wpAnyH _ _ _ _ _ _ _ (Act.mk _ _) _;try simp only [Act.put,zC,zD,zE]
               refine wpAnyH_take (i:=5) (v:=?_) rfl (by kernel_rfl) (by kernel_rfl) (by kernel_rfl) (fun _ _ _ h=>h) (Or.inl ⟨by rfl,?hyT⟩) hHeld ?restT
               case hyT=>(intro wS hSw;obtain ⟨q0,q1,q2,q3,q4,q5⟩:=HGF.out wS hSw;go_simp;try with_reducible rfl)
               case restT =>
                change wpAnyH _ _ _ _ _ _ _ (Act.mk _ _) _;try simp only [Act.put,zC,zD,zE]
                refine wpAnyH_ready (rs:=[6]) (by kernel_rfl) (by simp) ?_
                refine AllReadyH.cons rfl (fun K hK=>?_) AllReadyH.nil
                go_simp
                refine hK.out _ _ (G23.out) (fun hHeld=>?_)
                clear hK K
                change wpAnyH _ _ _ _ _ _ _ (Act.mk _ _) _;try simp only [Act.put,zC,zD,zE]
                refine wpAnyH_done (by kernel_rfl) ?_ _
                clear hrun
                have hcts:=fun (W1:World) (hb:Below w3.heap.size w3 W1)=>zJ3 (ST3.out.below hb) p bb l a s
                have hkc:=fun (W1:World) (hb:Below w3.heap.size w3 W1)=>zQ (zH hb K3.out)
                have hwi:=fun W1=>zJW 9 p W1
                have hkl:∀ W1,Below w3.heap.size w3 W1→W.heap.size < W1.heap.size:=fun W1 hb=>(zH hb K3.out).lt
                have hop:zFy d ⟨p,bb,l,a,s⟩=(zEJ d ⟨p,bb,l,a,s⟩&&zBJ 9 p):=rfl
                obtain ⟨cv,hcv⟩:∃ cv,zEJ d ⟨p,bb,l,a,s⟩=cv:=⟨_,rfl⟩
                obtain ⟨wv,hwv⟩:∃ wv,zBJ 9 p=wv:=⟨_,rfl⟩
                rw [hwv] at hwi hop
                simp only [hcv] at hcts hop
                have HCTS:=zA hcts
                have HWI:=zA hwi
                have HKC:=zA hkc
                have HKL:=zA hkl
                have HOP:=zA hop
                clear hcts hkc hwi hkl hcv hwv hop
                obtain ⟨z1,z2,z3,z4,z5⟩:=HKC.out w3 (Below.refl _ _)
                have zL:=HKL.out w3 (Below.refl _ _)
                cases cv
                ·go_wp2_with (go_at_call 96;((with_reducible refine (HCTS.out _ (Below.refl _ _)).mono ?_);rintro e u4 ⟨rfl,hb⟩;have HB4:=zA hb;clear hb))
                 refine bodyPost_ret (results_none rfl _ _ _) rfl ?_
                 exact ⟨rfl,_,ST3.out.below HB4.out,AddR.shutK HIN.out (by rw [HOP.out];rfl),zBo G13.out (zCL HB4.out)⟩
                ·cases wv
                 ·go_wp2_with (first
                   | (go_at_call 96;((with_reducible refine (HCTS.out _ (Below.refl _ _)).mono ?_);rintro e u4 ⟨rfl,hb⟩;obtain ⟨y1,y2,y3,y4,y5⟩:=HKC.out u4 hb;have yL:=HKL.out u4 hb;have HB4:=zA hb;clear hb))
                   | (go_at_call 97;((with_reducible refine (HWI.out _).mono ?_);rintro e u5 ⟨rfl,rfl⟩)))
                  refine bodyPost_ret (results_none rfl _ _ _) rfl ?_
                  exact ⟨rfl,_,ST3.out.below HB4.out,AddR.shutK HIN.out (by rw [HOP.out];rfl),zBo G13.out (zCL HB4.out)⟩
                 ·go_upto_region 6 with (first
                   | (go_at_call 96;((with_reducible refine (HCTS.out _ (Below.refl _ _)).mono ?_);rintro e u4 ⟨rfl,hb⟩;obtain ⟨y1,y2,y3,y4,y5⟩:=HKC.out u4 hb;have yL:=HKL.out u4 hb;have HB4:=zA hb;clear hb))
                   | (go_at_call 97;((with_reducible refine (HWI.out _).mono ?_);rintro e u5 ⟨rfl,rfl⟩)))
                  clear z1 z2 z3 z4 z5 zL y1 y2 y3 y4 y5 yL
                  obtain ⟨nb,hnb⟩:=Int.eq_ofNat_of_zero_le hbnd.1
                  try simp only at hnb
                  subst hnb
                  try simp only at hbnd
                  have hst4:=ST3.out.below HB4.out
                  have hk4:=zH HB4.out K3.out
                  have hg4:=zBo G13.out (zCL HB4.out)
                  have HST4:=zA hst4
                  have HK4:=zA hk4
                  have HG4:=zA hg4
                  clear hst4 hk4 hg4 HB4 HCTS HWI HKC HKL G23 HGF
                  go_loopw [6] (fun x wr=>∃ (n:Nat) (S2:List KeyV),x=.int .i64 n∧nb≤n∧SeekSt gs b d mem ma mc S2 wr∧Bk wr W.heap.size 54 #[.int .i64 p,.int .i64 nb,.int .i64 l,.int .i64 a,.int .i64 s]∧Grw b W wr∧AddL d mem ⟨p,nb,l,a,s⟩ (S++[⟨p,nb,l,a,s⟩]) n S2) (fun x _=>(801 - intOf x).toNat)
                  case atStart=>exact ⟨nb,_,rfl,Nat.le_refl _,HST4.out,HK4.out,HG4.out,AddL.start⟩
                  case round =>
                   obtain ⟨n,S2,rfl,hn,hs2,hk2,hg2,hl2⟩:=hrel
                   obtain ⟨z1,z2,z3,z4,z5⟩:=zQ hk2
                   have zL:=hk2.lt
                   have sL:=hs2.bk.lt
                   have s1:wr.cell? ⟨gs,1,none⟩=some (.slice ma mem.length mc):=hs2.bk.cell 1
                   have hlen:=HLEN.out
                   obtain ⟨lm,hlm⟩:∃ lm,mem.length=lm:=⟨_,rfl⟩
                   rw [hlm] at s1 hlen
                   have HST:=zA hs2
                   have HK:=zA hk2
                   have HG:=zA hg2
                   have HL:=zA hl2
                   have HLM:=zA hlm
                   clear hs2 hk2 hg2 hl2 hlm
                   by_cases hlt:(n:Int) < nb+l∧n < lm
                   ·obtain ⟨hlt1,hlt2⟩:=hlt
                    have hnm:n < mem.length:=by rw [HLM.out];exact hlt2
                    obtain ⟨mm,hmm,g0⟩:∃ mm:Int,(if (lm:Int) < (nb:Int)+l then (lm:Int) else (nb:Int)+l)=mm∧(n:Int) < mm:=⟨_,rfl,by split<;>omega⟩
                    have g1:decide ((n:Int) < mm)=true:=by simpa using g0
                    obtain ⟨ad,hma,hab,hva⟩:=zEl HST.out.sl hnm
                    obtain ⟨v,hv⟩:∃ v,mem.getD n zeroV=v:=⟨_,rfl⟩
                    have hin:v∈mem:=by
                     rw [←hv,List.getD_eq_getElem?_getD,List.getElem?_eq_getElem hnm];exact List.getElem_mem hnm
                    have hvok:=HMEM.out v hin
                    rw [hv] at hva
                    have HV:=zA hv
                    have hval:=fun (W1:World) (hb:Below wr.heap.size wr W1)=>zKS (v:=v) (HST.out.below hb) (fun hi W2 h2=>HIH.out S2 v.k W2 h2 (by
                     rcases hvok with ⟨_,h,_⟩ | ⟨h,_⟩
                     ·exact h
                     ·rw [h] at hi;cases hi) (by
                     by_cases hx:v.k∈S2
                     ·exact .inl hx
                     ·have f1:=zHy hin hi hx
                      have f2:=HL.out.size
                      have f3:zA5 mem S2≤zA5 mem (S++[⟨p,nb,l,a,s⟩]):=zEX HL.out.sub
                      have f4:=HSZ.out
                      have f5:=HN.out
                      rw [List.length_append] at f2
                      simp only [List.length_singleton] at f2
                      exact .inr ⟨by omega,by omega⟩))
                    have HVAL:=zA hval
                    subst hma
                    clear hval hin hvok hnm hv
                    obtain ⟨vi,vn,vp,vb,vl,va,vs⟩:=v
                    obtain ⟨e0,e1,e2,e3,e4,e5,e6⟩:=hva
                    simp only [ValV.val] at e0 e1 e2 e3 e4 e5 e6 HVAL
                    obtain ⟨q1,q1b⟩:IntKind.i64.wrap ((nb:Int)+l)=(nb:Int)+l∧wrap64 ((nb:Int)+l)=(nb:Int)+l:=⟨IntWalk.i64_in _ ⟨by omega,by omega⟩,IntWalk.wrap64_in _ ⟨by omega,by omega⟩⟩
                    obtain ⟨q2,q2b⟩:IntKind.i64.wrap ((n:Int)+1)=(n:Int)+1∧wrap64 ((n:Int)+1)=(n:Int)+1:=⟨IntWalk.i64_in _ ⟨by omega,by omega⟩,IntWalk.wrap64_in _ ⟨by omega,by omega⟩⟩
                    go_wp2
                    go_region
                    go_wp2_with (go_at_call 81;((with_reducible refine (HVAL.out _ (zJ (Below.refl _ _))).mono ?_);rintro e w' ⟨rfl,S3,h1,h2,h3,h4⟩;have HX1:=zA h1;have HX2:=zA h2;have HX3:=zA h3;have HX4:=zA h4;clear h1 h2 h3 h4))
                    go_roundw
                    case rel =>
                     clear q1 q1b q2 q2b hmm
                     refine ⟨n+1,S3,by go_num,by omega,HX1.out,zEI (zBo (zCL (zJ (Below.refl _ _))) HX2.out) HK.out HGK.out,zBo HG.out (zBo (zCL (zJ (Below.refl _ _))) HX2.out),?_⟩
                     have hnm:n < mem.length:=by rw [HLM.out];exact hlt2
                     cases vi
                     ·rw [HX4.out rfl]
                      exact HL.out.skip (by rw [HV.out])
                     ·exact HL.out.add HOP.out (by simp only;omega) hlt1 hnm (by rw [HV.out]) (by rw [HV.out];exact HX3.out rfl)
                    case measure=>clear q1 q1b q2 q2b hmm;simp [intOf];omega
                   ·obtain ⟨mm,hmm,g0⟩:∃ mm:Int,(if (lm:Int) < (nb:Int)+l then (lm:Int) else (nb:Int)+l)=mm∧¬((n:Int) < mm):=⟨_,rfl,by split<;>omega⟩
                    have g1:decide ((n:Int) < mm)=false:=by simpa using g0
                    have hx:(nb:Int)+l≤n∨(mem.length:Int)≤n:=by rw [HLM.out];omega
                    have HXX:=zA hx
                    clear hx
                    obtain ⟨q1,q1b⟩:IntKind.i64.wrap ((nb:Int)+l)=(nb:Int)+l∧wrap64 ((nb:Int)+l)=(nb:Int)+l:=⟨IntWalk.i64_in _ ⟨by omega,by omega⟩,IntWalk.wrap64_in _ ⟨by omega,by omega⟩⟩
                    go_wp2
                    go_region
                    go_wp2
                    refine bodyPost_ret (results_none rfl _ _ _) rfl ?_
                    exact ⟨rfl,S2,HST.out.below (zJ (Below.refl _ _)),HL.out.done' HIN.out HXX.out,zBo HG.out (zCL (zJ (Below.refl _ _)))⟩
theorem zMC (hmem:∀ v∈mem,v.Ok) (hlen:mem.length≤400):∀ (N:Nat) (S:List KeyV) (k:KeyV) (W:World),SeekSt gs b d mem ma mc S W→k.Ok→(k∈S∨S.length+zA5 mem (S++[k])+1 < 100000∧zA5 mem (S++[k]) < N) →
  Calls Tryz.prog 80 #[.pointer (some ⟨gs,0,none⟩),k.val] W (zDq gs b d mem ma mc S k W):=by
 intro N
 induction N with
 | zero =>
  intro S k W hst hk hN
  rcases hN with h | h
  ·exact zGi hst hk h
  ·exact absurd h.2 (by omega)
 | succ N ih =>
  intro S k W hst hk hN
  by_cases hin:k∈S
  ·exact zGi hst hk hin
  ·rcases hN with h | ⟨h1,h2⟩
   ·exact absurd h hin
   ·exact zNb (N:=N) hmem hlen hst hk h1 hin ih (by omega)
end
end
section
open Go.RowKit
open Go.Maps (Keyed)
structure MBR (g:Nat) (R:List ValV) (c:KeyV) (mem:List ValV) (stk:List FrameV) (out:List Int) (cs:Array Value) (W:World):Prop where
 h8:R.length=8
 bk:Bk W g 60 cs
 row:∃ ma sa oa mc sc oc,cs=mcs R c (.slice ma mem.length mc) (.slice sa stk.length sc) (.slice oa out.length oc)∧Sl W ma mem.length mem∧Sl W sa stk.length stk∧Sl W oa out.length out
structure MRow (R:List ValV) (c:KeyV) (mem:List ValV) (stk:List FrameV) (out:List Int) (cs:Array Value) (W:World):Prop where
 h8:R.length=8
 row:∃ ma sa oa mc sc oc,cs=mcs R c (.slice ma mem.length mc) (.slice sa stk.length sc) (.slice oa out.length oc)∧Sl W ma mem.length mem∧Sl W sa stk.length stk∧Sl W oa out.length out
section
variable {g:Nat} {R:List ValV} {c:KeyV} {mem:List ValV} {stk:List FrameV} {out:List Int} {cs:Array Value} {W W':World}
theorem MBR.toRow (h:MBR g R c mem stk out cs W):MRow R c mem stk out cs W:=⟨h.h8,h.row⟩
theorem MRow.below (h:MRow R c mem stk out cs W) (hb:Below W.heap.size W W'):MRow R c mem stk out cs W':=by
 obtain ⟨ma,sa,oa,mc,sc,oc,e,h1,h2,h3⟩:=h.row
 exact ⟨h.h8,ma,sa,oa,mc,sc,oc,e,h1.below hb,h2.below hb,h3.below hb⟩
theorem MBR.below (h:MBR g R c mem stk out cs W) (hb:Below W.heap.size W W'):MBR g R c mem stk out cs W':=by
 obtain ⟨ma,sa,oa,mc,sc,oc,e,h1,h2,h3⟩:=h.row
 exact ⟨h.h8,zH hb h.bk,ma,sa,oa,mc,sc,oc,e,h1.below hb,h2.below hb,h3.below hb⟩
theorem MBR.sz (h:MBR g R c mem stk out cs W):cs.size=64:=by
 obtain ⟨ma,sa,oa,mc,sc,oc,e,_⟩:=h.row
 rw [e,zBh h.h8]
theorem MBR.size (h:MBR g R c mem stk out cs W):0+64≤cs.size:=by rw [h.sz];decide
theorem MBR.size56 (h:MBR g R c mem stk out cs W):0+56≤cs.size:=by rw [h.sz];decide
theorem MBR.all (h:MBR g R c mem stk out cs W):cs.extract 0 (0+64)=cs:=by
 rw [Array.extract_eq_self_of_le (by rw [h.sz];decide)]
theorem MBR.regs (h:MBR g R c mem stk out cs W):cs.extract 0 (0+56)=(cls R).toArray:=by
 obtain ⟨ma,sa,oa,mc,sc,oc,e,_⟩:=h.row
 rw [e];exact zHp h.h8
theorem MBR.codeC (h:MBR g R c mem stk out cs W):W.cell? ⟨g,56,none⟩=some (.int .i64 c.perm)∧W.cell? ⟨g,57,none⟩=some (.int .i64 c.base)∧W.cell? ⟨g,58,none⟩=some (.int .i64 c.len)∧W.cell? ⟨g,59,none⟩=some (.int .i64 c.at_)∧W.cell? ⟨g,60,none⟩=some (.int .i64 c.seal_):=by
 obtain ⟨ma,sa,oa,mc,sc,oc,e,_⟩:=h.row
 have hb:=h.bk
 rw [e] at hb
 exact ⟨(hb.cell _).trans (zAU h.h8 0),(hb.cell _).trans (zAU h.h8 1),(hb.cell _).trans (zAU h.h8 2),(hb.cell _).trans (zAU h.h8 3),(hb.cell _).trans (zAU h.h8 4)⟩
theorem MBR.memC (h:MBR g R c mem stk out cs W):∃ ao k,W.cell? ⟨g,61,none⟩=some (.slice ao mem.length k)∧Sl W ao mem.length mem:=by
 obtain ⟨ma,sa,oa,mc,sc,oc,e,h1,h2,h3⟩:=h.row
 exact ⟨ma,mc,by rw [h.bk.cell,e];exact zAU h.h8 5,h1⟩
theorem MBR.stkC (h:MBR g R c mem stk out cs W):∃ ao k,W.cell? ⟨g,62,none⟩=some (.slice ao stk.length k)∧Sl W ao stk.length stk:=by
 obtain ⟨ma,sa,oa,mc,sc,oc,e,h1,h2,h3⟩:=h.row
 exact ⟨sa,sc,by rw [h.bk.cell,e];exact zAU h.h8 6,h2⟩
theorem MRow.arg (h:MRow R c mem stk out cs W):MBR W.heap.size R c mem stk out cs (W.alloc (.cells cs 60)):=by
 obtain ⟨ma,sa,oa,mc,sc,oc,e,h1,h2,h3⟩:=h.row
 have hb:Below W.heap.size W (W.alloc (.cells cs 60)):=zG (Below.refl _ _) _
 exact ⟨h.h8,zM _ _ _,ma,sa,oa,mc,sc,oc,e,h1.below hb,h2.below hb,h3.below hb⟩
theorem zLX (h:MRow R c mem stk out cs W):Calls Tryz.prog 68 #[.agg cs] W fun e w'=>e=.returned (.int .i64 (zAd R c mem stk out))∧Below W.heap.size W w':=by
 obtain ⟨ma,sa,oa,mc,sc,oc,e,h1,h2,h3⟩:=h.row
 rw [e]
 exact zFq R c mem stk out ma sa oa mc sc oc W h.h8 h1 h2 h3
end
section
variable {gs b:Nat} {d:Bool} {mem:List ValV} {ma:Option Addr} {mc n:Nat} {S S':List KeyV} {W:World} {P:KeyV→Prop} {k:KeyV} {v:ValV}
theorem zIL (hmem:∀ v∈mem,v.Ok) (hlen:mem.length≤400) (h:Sought d mem P n S) (hn:n≤100) (st:SeekSt gs b d mem ma mc S W) (hk:k.Ok):Calls Tryz.prog 80 #[.pointer (some ⟨gs,0,none⟩),k.val] W (zDq gs b d mem ma mc S k W):=by
 have h1:=h.size
 have h2:zA5 mem (S++[k])≤zA5 mem S:=zEX fun x hx=>List.mem_append_left _ hx
 exact zMC hmem hlen 100000 S k W st hk (.inr ⟨by omega,by omega⟩)
theorem zKT (hmem:∀ v∈mem,v.Ok) (hlen:mem.length≤400) (h:Sought d mem P n S) (hn:n≤100) (st:SeekSt gs b d mem ma mc S W) (hv:v.Ok):Calls Tryz.prog 81 #[.pointer (some ⟨gs,0,none⟩),v.val] W (zJV gs b d mem ma mc S v W) :=
 zKS st fun hi W1 h1=>zIL hmem hlen h hn h1 (by
  rcases hv with ⟨_,h,_⟩ | ⟨h,_⟩
  ·exact h
  ·rw [h] at hi;cases hi)
def zBQ (l:List ValV) (x:KeyV):Prop:=∃ v∈l,v.is=true∧x=v.k
theorem zHR {l:List ValV} {x:KeyV}:zBQ (l++[v]) x↔zBQ l x∨(v.is=true∧x=v.k):=by
 unfold zBQ
 simp only [List.mem_append,List.mem_singleton]
 constructor
 ·rintro ⟨u,h | rfl,h1,h2⟩
  ·exact .inl ⟨u,h,h1,h2⟩
  ·exact .inr ⟨h1,h2⟩
 ·rintro (⟨u,h,h1,h2⟩ | ⟨h1,h2⟩)
  ·exact ⟨u,.inl h,h1,h2⟩
  ·exact ⟨v,.inr rfl,h1,h2⟩
def zC4 (l:List FrameV) (x:KeyV):Prop:=∃ f∈l,x=f.code∨f.data.is=true∧x=f.data.k
theorem zIx {l:List FrameV} {f:FrameV} {x:KeyV}:zC4 (l++[f]) x↔(zC4 l x∨x=f.code)∨(f.data.is=true∧x=f.data.k):=by
 unfold zC4
 simp only [List.mem_append,List.mem_singleton]
 constructor
 ·rintro ⟨u,h | rfl,h1⟩
  ·exact .inl (.inl ⟨u,h,h1⟩)
  ·rcases h1 with h1 | h1
   ·exact .inl (.inr h1)
   ·exact .inr h1
 ·rintro ((⟨u,h,h1⟩ | h1) | h1)
  ·exact ⟨u,.inl h,h1⟩
  ·exact ⟨f,.inr rfl,.inl h1⟩
  ·exact ⟨f,.inr rfl,.inr h1⟩
theorem Sought.val (h:Sought d mem P n S) (h1:v.is=true→AddR d mem S v.k S') (h2:v.is=false→S'=S):Sought d mem (fun x=>P x∨(v.is=true∧x=v.k)) (n+1) S':=by
 cases hv:v.is
 ·rw [h2 hv]
  exact (h.more (Nat.le_succ _)).same fun x=>⟨.inl,fun h=>h.elim id (fun h=>by cases h.1)⟩
 ·exact (h.add (h1 hv)).same fun x=>⟨fun h=>h.elim .inl (fun h=>.inr ⟨rfl,h⟩),fun h=>h.elim .inl (fun h=>.inr h.2)⟩
end
def zKL (d:Bool) (R:List ValV) (c:KeyV) (mem:List ValV) (stk:List FrameV) (W:World) (e:Ending) (w':World):Prop :=
 ∃ (gs b:Nat) (ma:Option Addr) (mc n:Nat) (S:List KeyV),e=.returned (.tuple #[.pointer (some ⟨gs,0,none⟩),.int .i64 0])∧SeekSt gs b d mem ma mc S w'∧Sought d mem (zEp d R c stk) n S∧n≤100∧Below W.heap.size W w'
theorem zJZ {R:List ValV} {c:KeyV} {mem:List ValV} {stk:List FrameV} {out:List Int} {cs:Array Value} {W:World} (h:MRow R c mem stk out cs W) (d:Bool) (hok:MOk R c mem stk out) :
  Calls Tryz.prog 58 #[.agg cs,.bool d] W (zKL d R c mem stk W):=by
 have hb:=h.arg
 obtain ⟨w1,hw1⟩:∃ w1,w1=W.alloc (.cells cs 60):=⟨_,rfl⟩
 have h1w:Below W.heap.size W w1:=by rw [hw1];exact zG (Below.refl _ _) _
 rw [←hw1] at hb
 have hck:=zLX hb.toRow
 rw [stepCheck_zero.2 hok] at hck
 have hmk:=@run_makeMap Tryz.prog
 have CK:=zA hck
 have MX:=zA hb
 have HW1:=zA hw1
 have H1W:=zA h1w
 have HOK:=zA hok
 clear h hck hb hw1 h1w hok
 go_enter Tryz.func58,Tryz.ntmps58
 go_upto_region 1 with (fail)
 rw [←HW1.out]
 go_upto_region 4 with (first
  | (refine zAZ rfl 60 (.tmp 2) rfl W.heap.size 0 64 rfl 60 _ _ MX.out.bk Tryz.underlying60 rfl (by kernel_rfl) MX.out.size _ MX.out.all ?_)
  | (go_at_call 68;((with_reducible refine CK.out.mono ?_);rintro e u1 ⟨rfl,hb⟩;have HB1:=zA hb;clear hb)))
 obtain ⟨ma,mc,m61,msl⟩:=(MX.out.below HB1.out).memC
 have zL:=(MX.out.below HB1.out).bk.lt
 go_upto_region 5 with (fail)
 obtain ⟨w4,hw4⟩:∃ w4,w4=((u1.alloc (.map #[] 0)).alloc (.cells #[.map (some u1.heap.size),.slice ma mem.length mc,.bool d] 143)):=⟨_,rfl⟩
 obtain ⟨gs,hgs⟩:∃ gs,gs=u1.heap.size+1:=⟨_,rfl⟩
 obtain ⟨b,hb⟩:∃ b,b=u1.heap.size:=⟨_,rfl⟩
 have b14:Below u1.heap.size u1 w4:=by rw [hw4];exact zG (zG (Below.refl _ _) _) _
 have st4:SeekSt gs b d mem ma mc [] w4:=by
  rw [hw4,hgs,hb]
  refine ⟨zO _ _ (by simp),zEu (World.ownsMap_made u1 _ _ _) ?_,msl.below (zG (zG (Below.refl _ _) _) _),fun x hx=>by cases hx⟩
  exact (zG (Below.refl _ _) _:Below (u1.alloc (.map #[] 0)).heap.size (u1.alloc (.map #[] 0)) _).block _ (by simp)
 rw [←hb] at hw4
 rw [←hgs,←hb,←hw4]
 have hbu:u1.heap.size≤b:=by omega
 have hmb:∀ W1,Below u1.heap.size u1 W1→MBR W.heap.size R c mem stk out cs W1:=fun W1 h1=>(MX.out.below HB1.out).below h1
 have hfin:∀ W1,Below u1.heap.size u1 W1→Below W.heap.size W W1:=fun W1 h1=>zI H1W.out (zI HB1.out h1)
 have HMB:=zA hmb
 have HFIN:=zA hfin
 have HBU:=zA hbu
 have B14:=zA b14
 have ST4:=zA st4
 clear hmb hfin hbu b14 st4 hw4 hb hgs m61 msl zL HW1 hmk
 obtain ⟨z1,z2,z3,z4,z5⟩:=(HMB.out _ B14.out).codeC
 have zL:=(HMB.out _ B14.out).bk.lt
 have had:=zIL HOK.out.mem HOK.out.len (Sought.start (d:=d) (mem:=mem)) (by omega) ST4.out HOK.out.code
 have HAD:=zA had
 clear had
 simp only [KeyV.val] at HAD
 go_upto_region 6 with (go_at_call 80;((with_reducible refine HAD.out.mono ?_);rintro e u5 ⟨rfl,S5,h1,h2,h3⟩;have HX1:=zA h1;have HX2:=zA h2;have HX3:=zA h3;clear h1 h2 h3))
 clear z1 z2 z3 z4 z5 zL HAD
 have b5:Below u1.heap.size u1 u5:=zD5 HX3.out B14.out HBU.out
 have hs5:Sought d mem (fun x=>x=c∨zBQ (R.take 0) x) 1 S5:=((Sought.start (d:=d) (mem:=mem)).add HX2.out).same fun x=>⟨fun h=>h.elim (fun h=>h.elim) .inl,fun h=>h.elim .inr (fun h=>by obtain ⟨v,hv,_⟩:=h;simp at hv)⟩
 have B5:=zA b5
 have HS5:=zA hs5
 clear b5 hs5
 have hxp:∀ x,(x=c∨zBQ R x)↔zEp false R c stk x:=fun x=>⟨fun h=>h.elim .inl (fun h=>.inr (.inl h)),fun h=>h.elim .inl (fun h=>h.elim .inr (fun h=>by cases h.1))⟩
 have hxq:∀ x,((x=c∨zBQ R x)∨zC4 stk x)↔zEp true R c stk x:=fun x=>⟨fun h=>h.elim (fun h=>h.elim .inl (fun h=>.inr (.inl h))) (fun h=>.inr (.inr ⟨rfl,h⟩)),fun h=>h.elim (fun h=>.inl (.inl h)) (fun h=>h.elim (fun h=>.inl (.inr h)) (fun h=>.inr h.2))⟩
 have HXP:=zA hxp
 have HXQ:=zA hxq
 clear hxp hxq
 go_wp2_with (refine zAZ rfl 57 (.tmp 27) rfl W.heap.size 0 56 rfl 60 cs _ (HMB.out _ B5.out).bk Tryz.underlying57 rfl (by kernel_rfl) (HMB.out _ B5.out).size56 _ (HMB.out _ B5.out).regs ?_)
 go_loopw [29] (fun i wr=>∃ (k:Nat) (S2:List KeyV),k≤8∧i=.int .i64 k∧Below u1.heap.size u1 wr∧SeekSt gs b d mem ma mc S2 wr∧Sought d mem (fun x=>x=c∨zBQ (R.take k) x) (1+k) S2) (fun i _=>8 - (intOf i).toNat)
 case atStart=>exact ⟨0,S5,by omega,rfl,B5.out,HX1.out,HS5.out⟩
 case round =>
  obtain ⟨k,S2,hk,rfl,hb,hst,hso⟩:=hrel
  have HB:=zA hb
  have HST:=zA hst
  have HSO:=zA hso
  clear hb hst hso
  by_cases hlt:k < 8
  ·have q1:(k:Int) < 8:=by omega
   obtain ⟨v,hv⟩:∃ v,R[k]?=some v:=⟨_,List.getElem?_eq_getElem (by have:=MX.out.h8;omega)⟩
   have hix:=fun W=>zEC R MX.out.h8 hv W
   have hva:=fun (W1:World) (h1:Below wr.heap.size wr W1)=>zKT HOK.out.mem HOK.out.len HSO.out (by omega) (HST.out.below h1) (HOK.out.regs v (List.mem_of_getElem? hv))
   have hnx:∀ x,((x=c∨zBQ (R.take k) x)∨(v.is=true∧x=v.k))↔(x=c∨zBQ (R.take (k+1)) x):=fun x=>by
    rw [List.take_add_one,hv]
    show _↔(x=c∨zBQ (R.take k++[v]) x)
    rw [zHR,or_assoc]
   have HNX:=zA hnx
   have HVA:=zA hva
   clear hva hnx hv
   obtain ⟨vi,vn,vp,vb,vl,va,vs⟩:=v
   simp only [ValV.val] at hix HVA
   go_wp2_with (go_at_call 81;((with_reducible refine (HVA.out _ (zG (Below.refl _ _) _)).mono ?_);rintro e u6 ⟨rfl,S3,h1,h2,h3,h4⟩;have HY1:=zA h1;have HY2:=zA h2;have HY3:=zA h3;have HY4:=zA h4;clear h1 h2 h3 h4))
   go_roundw
   case rel=>exact ⟨k+1,S3,by omega,by go_num,zD5 HY2.out (zG HB.out _) HBU.out,HY1.out,(HSO.out.val (v:=⟨vi,vn,⟨vp,vb,vl,va,vs⟩⟩) HY3.out HY4.out).same HNX.out⟩
   case measure=>simp [intOf];omega
  ·have q1:¬((k:Int) < 8):=by omega
   obtain rfl:k=8:=by omega
   have hs8:Sought d mem (fun x=>x=c∨zBQ R x) 9 S2:=by
    have:=HSO.out
    rwa [List.take_of_length_le (by have:=MX.out.h8;omega)] at this
   have HS8:=zA hs8
   clear hs8 HSO
   cases d
   ·go_wp2
    go_ret2
    exact ⟨gs,b,ma,mc,9,S2,rfl,HST.out,HS8.out.same HXP.out,by omega,HFIN.out _ HB.out⟩
   ·obtain ⟨wo,hwo⟩:∃ wo:World,wo=wr:=⟨_,rfl⟩
    subst hwo
    obtain ⟨sa,sc,m62',ssl⟩:=(HMB.out u1 (Below.refl _ _)).stkC
    have m62:wo.cell? ⟨W.heap.size,62,none⟩=some (.slice sa stk.length sc):=((HMB.out _ HB.out).bk.cell 62).trans (((HMB.out u1 (Below.refl _ _)).bk.cell 62).symm.trans m62')
    have zL:=(HMB.out _ HB.out).bk.lt
    have h16:=HOK.out.deep
    have HSSL:=zA ssl
    clear ssl m62'
    go_wp2
    clear m62 zL
    go_loopw [40] (fun i wr=>∃ (k:Nat) (S2:List KeyV),k≤stk.length∧i=.int .i64 k∧Below u1.heap.size u1 wr∧SeekSt gs b true mem ma mc S2 wr∧Sought true mem (fun x=>(x=c∨zBQ R x)∨zC4 (stk.take k) x) (9+2*k) S2) (fun i _=>stk.length - (intOf i).toNat)
    case atStart=>exact ⟨0,S2,Nat.zero_le _,rfl,HB.out,HST.out,HS8.out.same fun x=>⟨.inl,fun h=>h.elim id (fun h=>by obtain ⟨f,hf,_⟩:=h;simp at hf)⟩⟩
    case round =>
     obtain ⟨k,S3,hk,rfl,hb3,hst3,hso3⟩:=hrel
     have HB3:=zA hb3
     have HST3:=zA hst3
     have HSO3:=zA hso3
     clear hb3 hst3 hso3 HST HS8 HB
     by_cases hlt:k < stk.length
     ·have q1:(k:Int) < stk.length:=by omega
      obtain ⟨f,hfk⟩:∃ f,stk[k]?=some f:=⟨_,List.getElem?_eq_getElem hlt⟩
      obtain ⟨ad,rfl,hab,e0,e1,e2,e3,e4,e5,e6,e7,e8,e9,e10,e11⟩:=zHV (HSSL.out.below HB3.out) hlt hfk
      have hfo:=HOK.out.stk f (List.mem_of_getElem? hfk)
      have hac:=fun (W1:World) (h1:Below wr.heap.size wr W1)=>zIL HOK.out.mem HOK.out.len HSO3.out (by omega) (HST3.out.below h1) hfo.1
      have hnx:∀ x,((((x=c∨zBQ R x)∨zC4 (stk.take k) x)∨x=f.code)∨(f.data.is=true∧x=f.data.k))↔((x=c∨zBQ R x)∨zC4 (stk.take (k+1)) x):=fun x=>by
       rw [List.take_add_one,hfk]
       show _↔((x=c∨zBQ R x)∨zC4 (stk.take k++[f]) x)
       rw [zIx]
       simp only [or_assoc]
      have HNX:=zA hnx
      have HAC:=zA hac
      have HFO:=zA hfo
      clear hac hnx hfk hfo
      obtain ⟨⟨fp,fb,fl,fa,fs⟩,⟨vi,vn,⟨vp,vb,vl,va,vs⟩⟩⟩:=f
      simp only [KeyV.val] at e0 e1 e2 e3 e4 e5 e6 e7 e8 e9 e10 e11 HAC HNX HFO
      have hgf:wr.heap.size≠b:=fun e=>by have:=HST3.out.own.lt;omega
      have HGF:=zA hgf
      clear hgf
      go_wp2_with (first
       | (go_at_call 80;((with_reducible refine (HAC.out _ (zG (Below.refl _ _) _)).mono ?_);rintro e u6 ⟨rfl,S4,h1,h2,h3⟩;have kf:=zEI h3 (zM _ _ _) HGF.out;have y5:=kf.cell 5;have y6:=kf.cell 6;have y7:=kf.cell 7;have y8:=kf.cell 8;have y9:=kf.cell 9;have y10:=kf.cell 10;have y11:=kf.cell 11;have yL:=kf.lt;have hv6:=zKT (v:=⟨vi,vn,⟨vp,vb,vl,va,vs⟩⟩) HOK.out.mem HOK.out.len (HSO3.out.add h2) (by omega) h1 HFO.out.2;simp only [ValV.val] at hv6;have HV6:=zA hv6;have HY1:=zA h1;have HY2:=zA h2;have HY3:=zA h3;clear h1 h2 h3 kf hv6))
       | (go_at_call 81;((with_reducible refine HV6.out.mono ?_);rintro e u7 ⟨rfl,S5',h1,h2,h3,h4⟩;have HZ1:=zA h1;have HZ2:=zA h2;have HZ3:=zA h3;have HZ4:=zA h4;clear h1 h2 h3 h4)))
      go_roundw
      case rel=>exact ⟨k+1,S5',by omega,by go_num,zD5 HZ2.out (zD5 HY3.out (zG HB3.out _) HBU.out) HBU.out,HZ1.out,(((HSO3.out.add HY2.out).val (v:=⟨vi,vn,⟨vp,vb,vl,va,vs⟩⟩) HZ3.out HZ4.out).more (by omega)).same HNX.out⟩
      case measure=>simp [intOf];omega
     ·have q1:¬((k:Int) < stk.length):=by omega
      obtain rfl:k=stk.length:=by omega
      have hs8:Sought true mem (fun x=>(x=c∨zBQ R x)∨zC4 stk x) (9+2*stk.length) S3:=by
       have:=HSO3.out
       rwa [List.take_of_length_le (Nat.le_refl _)] at this
      have HS9:=zA hs8
      clear hs8
      go_wp2
      go_ret2
      exact ⟨gs,b,ma,mc,9+2*stk.length,S3,rfl,HST3.out,HS9.out.same HXQ.out,by omega,HFIN.out _ HB3.out⟩
end
end Go.Proofs.YtlpejagkadalbaaGreatDoor
