/- The given statement TopSumCardSaid holds: at all inputs, with no condition of ours. -/
import Derived.Test.YtpjhjefjbkjhkaaGreatDoorPk25
import Derived.Test.YtpjhjefjbkjhkaaGreatDoorCards
import Derived.Test.YtpjhjefjbkjhkaaGreatDoorPk40
import Derived.Test.YtpjhjefjbkjhkaaGreatDoorPk26
import Derived.Test.YtpjhjefjbkjhkaaGreatDoorTie
import Derived.Test.YtpjhjefjbkjhkaaGreatDoorPk43
import Derived.Test.YtpjhjefjbkjhkaaGreatDoorPk48
set_option maxHeartbeats 40000000
set_option maxRecDepth 100000
set_option linter.unusedVariables false
set_option linter.unusedSimpArgs false
namespace Go.Proofs.YtpjhjefjbkjhkaaGreatDoor
open Go.ChangeShapes Go.WideShapes Go.ChangeAt Go.RowKit
theorem reads (os : Os) {H : Type} (enc : TypeId × Value → H) : ∃ places, DataW.whole enc Tryz.prog ((doorPinned os).forCall (fun _ _ => 0) ⟨#[], #[.slice none 0 0], []⟩).memory Tryz.f3.params.toList Rows.topSumSpec.vars false (#[.slice none 0 0] : Array Value).toList 8 = some ([.nil], [], places) :=
 ⟨[], by kernel_rfl⟩
theorem topSum_lifted (os : Os) (started : os.Started) (H : Type) (enc : TypeId × Value → H) (Fi : Stop.Interp) :
  ReturnsInHanded {} Tryz.checked os 3 .any ((OpenSpec.ofChange Rows.topSumSpec).preRow enc Tryz.prog Tryz.f3 Rows.topSumRow.domain false Rows.topSumRow.laid) (((OpenSpec.ofChange Rows.topSumSpec).at Fi).post enc Tryz.prog Tryz.f3 false true false false) := by
 obtain ⟨places, hx⟩ := reads os enc
 refine returnsInHanded_of_row (C := Tryz.checked) (s := (OpenSpec.ofChange Rows.topSumSpec)) own started (by kernel_rfl) Tryz.func3
  (witness_row_atRef (enc := enc) (C := Tryz.checked) false (doorPinned os) #[.slice none 0 0] rfl (by kernel_rfl) (by kernel_rfl) (by kernel_rfl)
   (OpenSpec.preRow_of_cond 8 hx (by kernel_rfl) (fun k hk => by cases hk) (by kernel_rfl) (door_met os _))) ?_
 intro W base args ds gs before hval0 hW _ hcond _ hL hsh _
 have hval : ∀ (j : Nat) t v, Tryz.f3.params[j]? = some t → args[j]? = some v → Value.okWide Tryz.prog W .any base t v := hval0
 have hW' := hW
 obtain ⟨p, q, hA0, hV, rfl, hfz, hnd⟩ := hW
 obtain ⟨rfl, rfl⟩ := trodVars_none hV
 rw [List.append_nil] at hW'
 have hA : DataW.TrodAll enc Tryz.prog W 0 (fun _ => true) true Tryz.f3.params.toList args.toList ds p := hA0
 rw [Tryz.params3] at hA hval
 obtain ⟨v0, vs0, d0, ds0, p0, q0, hargs, rfl, rfl, h0, r0⟩ := trodAll_cons hA
 obtain ⟨rfl, rfl, rfl⟩ := trodAll_nil r0
 obtain rfl : args = #[v0] := by cases args; simp_all
 obtain ⟨a0, rfl, w0, _⟩ := open_ints (hval 0 22 v0 rfl rfl) h0
 clear hval0
 refine (topSum_walk a0 W w0 (env_of_laid hL hsh)).mono fun e W' ⟨he, hb⟩ => ?_
 subst he
 exact ⟨_, rfl, law_post (s := Rows.topSumSpec) hW' hA0 rfl rfl rfl (by kernel_rfl) hb⟩
theorem topSum_said : Rows.TopSumSaid :=
 OpenClaim.holds_of_cond 3 Tryz.f3 rfl rfl rfl rfl rfl rfl rfl ⟨rfl, rfl, rfl, rfl, rfl⟩ rfl rfl rfl rfl rfl (by kernel_rfl) Tryz.func3 jf
  (of_decide_eq_true (by kernel_rfl)) (by unfold Func.isWrapper; first | (rw [if_pos (by decide +kernel)]; kernel_rfl) | (rw [if_neg (by decide +kernel)]; exact ⟨rfl, rfl⟩))
  (fun os started H enc _ Fi => by rw [OpenClaim.pre_eq_preRow]; exact topSum_lifted os started H enc Fi)
theorem plain_card (f : FuncId) (fn : Func) (hf : Tryz.pinned.checked.prog.funcNamed "custodian/custodiantop.TopSum" = some f) (hfn : Tryz.pinned.checked.prog.funcs[f]? = some fn) :
  true = Tryz.pinned.checked.prog.looks [] ∧ ∀ (j : Nat) t, fn.params[j]? = some t → Tryz.pinned.checked.prog.wantsStandIn t = false := by
 obtain rfl : f = 3 := Option.some.inj ((show Tryz.prog.funcNamed "custodian/custodiantop.TopSum" = some 3 by kernel_rfl).symm.trans hf) |>.symm
 obtain rfl : fn = Tryz.f3 := (Option.some.inj (Tryz.func3.symm.trans hfn)).symm
 refine ⟨by kernel_rfl, fun j t ht => ?_⟩
 rw [Tryz.params3] at ht
 have hm : t ∈ [22] := by simpa using Array.mem_of_getElem? ht
 have hall : ([22].all fun u => !Tryz.prog.wantsStandIn u) = true := by kernel_rfl
 exact (show Tryz.prog.wantsStandIn t = false by simpa using List.all_eq_true.1 hall t hm)
theorem topSum_holds : Rows.TopSumCardSaid :=
 Claim7.holds_tied_plain_at .later [] _ _ _ _ topSum_said (fun _ h => by cases h) (by kernel_rfl) (fun _ h => by cases h) topSum_row_tie rfl ⟨rfl, rfl⟩ (by kernel_rfl) rfl plain_card (by kernel_rfl)
end Go.Proofs.YtpjhjefjbkjhkaaGreatDoor
