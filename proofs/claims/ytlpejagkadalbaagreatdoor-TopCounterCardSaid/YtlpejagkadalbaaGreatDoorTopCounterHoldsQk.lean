/- TopCounter: whatever code a client has, the counter rises by its own code alone, and is never set. The given statement TopCounterCardSaid holds: at all inputs, with no condition of ours. -/
import Derived.Test.YtlpejagkadalbaaGreatDoorQk57
set_option maxHeartbeats 40000000
set_option maxRecDepth 100000
set_option linter.unusedVariables false
set_option linter.unusedSimpArgs false
namespace Go.Proofs.YtlpejagkadalbaaGreatDoor
open Go.ChangeShapes Go.WideShapes Go.ChangeAt Go.RowKit
theorem reads (os:Os) {H:Type} (enc:TypeId×Value→H):∃ places,DataW.whole enc Tryz.prog ((doorPinned os).forCall (fun _ _=>0) ⟨#[],#[.slice none 0 0,.slice none 0 0,.slice none 0 0,.int .i64 0],[]⟩).memory Tryz.f4.params.toList Rows.topCounterSpec.vars false (#[.slice none 0 0,.slice none 0 0,.slice none 0 0,.int .i64 0]:Array Value).toList 8=some ([.nil,.nil,.nil,.lit (.int .i64 0)],[],places) :=
 ⟨[],by kernel_rfl⟩
theorem topCounter_lifted (os:Os) (started:os.Started) (H:Type) (enc:TypeId×Value→H) (Fi:Stop.Interp) :
  ReturnsInHanded {} Tryz.checked os 4 .any ((OpenSpec.ofChange Rows.topCounterSpec).preRow enc Tryz.prog Tryz.f4 Rows.topCounterRow.domain false Rows.topCounterRow.laid) (((OpenSpec.ofChange Rows.topCounterSpec).at Fi).post enc Tryz.prog Tryz.f4 false true false false):=by
 obtain ⟨places,hx⟩:=reads os enc
 refine returnsInHanded_of_row (C:=Tryz.checked) (s:=(OpenSpec.ofChange Rows.topCounterSpec)) own started (by kernel_rfl) Tryz.func4
  (witness_row_atRef (enc:=enc) (C:=Tryz.checked) false (doorPinned os) #[.slice none 0 0,.slice none 0 0,.slice none 0 0,.int .i64 0] rfl (by kernel_rfl) (by kernel_rfl) (by kernel_rfl)
   (OpenSpec.preRow_of_cond 8 hx (by kernel_rfl) (fun k hk=>by cases hk) (by kernel_rfl) (zGo os _))) ?_
 intro W base args ds gs before hval0 hW _ hcond hsz hL hsh _
 have hval:∀ (j:Nat) t v,Tryz.f4.params[j]?=some t→args[j]?=some v→Value.okWide Tryz.prog W .any base t v:=hval0
 have hW':=hW
 obtain ⟨p,q,hA0,hV,rfl,hfz,hnd⟩:=hW
 obtain ⟨rfl,rfl⟩:=trodVars_none hV
 rw [List.append_nil] at hW'
 have hA:DataW.TrodAll enc Tryz.prog W 0 (fun _=>true) true Tryz.f4.params.toList args.toList ds p:=hA0
 rw [Tryz.params4] at hA hval
 obtain ⟨v0,vs0,d0,ds0,p0,q0,hargs,rfl,rfl,h0,r0⟩:=trodAll_cons hA
 obtain ⟨v1,vs1,d1,ds1,p1,q1,rfl,rfl,rfl,h1,r1⟩:=trodAll_cons r0
 obtain ⟨v2,vs2,d2,ds2,p2,q2,rfl,rfl,rfl,h2,r2⟩:=trodAll_cons r1
 obtain ⟨v3,vs3,d3,ds3,p3,q3,rfl,rfl,rfl,h3,r3⟩:=trodAll_cons r2
 obtain ⟨rfl,rfl,rfl⟩:=trodAll_nil r3
 obtain rfl:args=#[v0,v1,v2,v3]:=by cases args;simp_all
 obtain ⟨a0,rfl,w0,z0⟩:=zFk (hval 0 36 v0 rfl rfl) h0
 obtain ⟨a1,rfl,w1,z1⟩:=zFk (hval 1 36 v1 rfl rfl) h1
 obtain ⟨a2,rfl,w2,z2⟩:=zFk (hval 2 36 v2 rfl rfl) h2
 obtain ⟨a3,rfl,rfl,rfl,w3⟩:=open_int Tryz.underlying3 (hval 3 3 v3 rfl rfl) h3
 clear hval0
 refine (zGz a0 a1 a2 a3 W w0 w1 w2 (zF2 w3) (zEv hL hsh)).mono fun e W' ⟨he,hb⟩=>?_
 subst he
 exact ⟨_,rfl,zGh (s:=Rows.topCounterSpec) hW' hA0 rfl rfl rfl (by kernel_rfl) hb⟩
theorem topCounter_said:Rows.TopCounterSaid :=
 OpenClaim.holds_of_cond 4 Tryz.f4 rfl rfl rfl rfl rfl rfl rfl ⟨rfl,rfl,rfl,rfl,rfl⟩ rfl rfl rfl rfl rfl (by kernel_rfl) Tryz.func4 jf
  (of_decide_eq_true (by kernel_rfl)) (by unfold Func.isWrapper;first | (rw [if_pos (by decide +kernel)];kernel_rfl) | (rw [if_neg (by decide +kernel)];exact ⟨rfl,rfl⟩))
  (fun os started H enc _ Fi=>by rw [OpenClaim.pre_eq_preRow];exact topCounter_lifted os started H enc Fi)
theorem plain_card (f:FuncId) (fn:Func) (hf:Tryz.pinned.checked.prog.funcNamed "custodian/custodiantop.TopCounter" = some f) (hfn:Tryz.pinned.checked.prog.funcs[f]?=some fn) :
  true=Tryz.pinned.checked.prog.looks []∧∀ (j:Nat) t,fn.params[j]?=some t→Tryz.pinned.checked.prog.wantsStandIn t=false:=by
 obtain rfl:f=4:=Option.some.inj ((show Tryz.prog.funcNamed "custodian/custodiantop.TopCounter" = some 4 by kernel_rfl).symm.trans hf) |>.symm
 obtain rfl:fn=Tryz.f4:=(Option.some.inj (Tryz.func4.symm.trans hfn)).symm
 refine ⟨by kernel_rfl,fun j t ht=>?_⟩
 rw [Tryz.params4] at ht
 have hm:t∈[36,36,36,3]:=by simpa using Array.mem_of_getElem? ht
 have hall:([36,36,36,3].all fun u => !Tryz.prog.wantsStandIn u)=true:=by kernel_rfl
 exact (show Tryz.prog.wantsStandIn t=false by simpa using List.all_eq_true.1 hall t hm)
theorem topCounter_holds:Rows.TopCounterCardSaid :=
 Claim7.holds_tied_plain_at .later [] _ _ _ _ topCounter_said (fun _ h=>by cases h) (by kernel_rfl) (fun _ h=>by cases h) topCounter_row_tie rfl ⟨rfl,rfl⟩ (by kernel_rfl) rfl plain_card (by kernel_rfl)
end Go.Proofs.YtlpejagkadalbaaGreatDoor
