/- The given statement ModuleLabelsUptoCardSaid holds: at all inputs within its bound, with no condition of ours. -/
import Derived.Test.YtpjhjefjbkjhkaaGreatDoorBuO
import Derived.Test.YtpjhjefjbkjhkaaGreatDoorCards
import Derived.Test.YtpjhjefjbkjhkaaGreatDoorEnvLaidZ
import Derived.Test.YtpjhjefjbkjhkaaGreatDoorLiftBulkZ
import Derived.Test.YtpjhjefjbkjhkaaGreatDoorModLabZ
import Derived.Test.YtpjhjefjbkjhkaaGreatDoorModuleLabelsFactsZ
import Derived.Test.YtpjhjefjbkjhkaaGreatDoorTie
/- A module made from a program has its cells and exports its labels. -/
namespace Go.Proofs.YtpjhjefjbkjhkaaGreatDoor
open Go.ChangeShapes Go.WideShapes Go.ChangeAt Go.RowKit
set_option linter.unusedSimpArgs false

theorem reads (os : Os) {H : Type} (enc : TypeId × Value → H) : ∃ places, DataW.whole enc Tryz.prog ((doorPinned os).forCall (fun _ _ => 0) ⟨#[], #[.slice none 0 0, .slice none 0 0, .slice none 0 0], []⟩).memory Tryz.f6.params.toList Rows.moduleLabelsSpec.vars false (#[.slice none 0 0, .slice none 0 0, .slice none 0 0] : Array Value).toList 8 = some ([.nil, .nil, .nil], [], places) :=
  ⟨[], by kernel_rfl⟩
set_option maxRecDepth 100000 in
theorem moduleLabels_lifted (os : Os) (started : os.Started) (H : Type) (enc : TypeId × Value → H) (Fi : Stop.Interp) :
    ReturnsInHanded {} Tryz.checked os 6 .any ((Rows.OpenSpec.upto Rows.moduleLabelsSpec).preRow enc Tryz.prog Tryz.f6 Rows.moduleLabelsUptoRow.domain false Rows.moduleLabelsUptoRow.laid) (((Rows.OpenSpec.upto Rows.moduleLabelsSpec).at Fi).post enc Tryz.prog Tryz.f6 false true false false) := by
  obtain ⟨places, hx⟩ := reads os enc
  refine returnsInHanded_of_row (C := Tryz.checked) (s := (Rows.OpenSpec.upto Rows.moduleLabelsSpec)) own started (by kernel_rfl) Tryz.func6
    (witness_row_atRef (enc := enc) (C := Tryz.checked) false (doorPinned os) #[.slice none 0 0, .slice none 0 0, .slice none 0 0] rfl (by kernel_rfl) (by kernel_rfl) (by kernel_rfl)
      (OpenSpec.preRow_of_cond 8 hx (by kernel_rfl) (fun k hk => by cases hk; kernel_rfl) (by kernel_rfl) (door_met os _))) ?_
  intro W base args ds gs before hval0 hW _ hcond _ hL hsh _
  have hval : ∀ (j : Nat) t v, Tryz.f6.params[j]? = some t → args[j]? = some v → Value.okWide Tryz.prog W .any base t v := hval0
  have hW' := hW
  obtain ⟨p, q, hA0, hV, rfl, hfz, hnd⟩ := hW
  obtain ⟨rfl, rfl⟩ := trodVars_none hV
  rw [List.append_nil] at hW'
  have hA : DataW.TrodAll enc Tryz.prog W 0 (fun _ => true) true Tryz.f6.params.toList args.toList ds p := hA0
  rw [Tryz.params6] at hA hval
  obtain ⟨v0, vs0, d0, ds0, p0, q0, hargs, rfl, rfl, h0, r0⟩ := trodAll_cons hA
  obtain ⟨v1, vs1, d1, ds1, p1, q1, rfl, rfl, rfl, h1, r1⟩ := trodAll_cons r0
  obtain ⟨v2, vs2, d2, ds2, p2, q2, rfl, rfl, rfl, h2, r2⟩ := trodAll_cons r1
  obtain ⟨rfl, rfl, rfl⟩ := trodAll_nil r2
  obtain rfl : args = #[v0, v1, v2] := by cases args; simp_all
  obtain ⟨a0, rfl, w0, y0⟩ := open_ints (hval 0 22 v0 rfl rfl) h0
  obtain ⟨a1, rfl, w1, y1⟩ := open_ints (hval 1 22 v1 rfl rfl) h1
  obtain ⟨a2, rfl, w2, y2⟩ := open_strings (hval 2 80 v2 rfl rfl) h2
  have hk := of_decide_eq_true (show decide (Rows.uptoBulkAll _ ≤ 1048576) = true from hcond _ rfl)
  simp only [Rows.uptoBulkAll, Rows.uptoBulk, List.append_nil] at hk
  have z0 : a0.n ≤ 1048576 := by have h2 := bulk_of y0; omega
  have z1 : a1.n ≤ 1048576 := by have h2 := bulk_of y1; omega
  have z2 : a2.n ≤ 1048576 := by have h2 := bulk_of y2; omega
  clear hval0
  refine (moduleLabels_walk a0 a1 a2 W w0 z0 w1 z1 w2 z2 (env_of_laid hL hsh)).mono fun e W' ⟨he, hb⟩ => ?_
  subst he
  exact ⟨_, rfl, law_post (s := Rows.moduleLabelsSpec) hW' hA0 rfl rfl rfl (by kernel_rfl) hb⟩

/-- The row's statement. -/
theorem moduleLabels_said : Rows.ModuleLabelsUptoSaid :=
  OpenClaim.holds_of_cond 6 Tryz.f6 rfl rfl rfl rfl rfl rfl rfl ⟨rfl, rfl, rfl, rfl, rfl⟩ rfl rfl rfl rfl rfl (by kernel_rfl) Tryz.func6 jf
    (of_decide_eq_true (by kernel_rfl)) (by unfold Func.isWrapper; first | (rw [if_pos (by decide +kernel)]; kernel_rfl) | (rw [if_neg (by decide +kernel)]; exact ⟨rfl, rfl⟩))
    (fun os started H enc _ Fi => by rw [OpenClaim.pre_eq_preRow]; exact moduleLabels_lifted os started H enc Fi)
/-- No parameter wants a stand-in; the program's own looks are off. -/
theorem plain_card (f : FuncId) (fn : Func) (hf : Tryz.pinned.checked.prog.funcNamed "custodian/custodiankeep.ModuleLabels" = some f) (hfn : Tryz.pinned.checked.prog.funcs[f]? = some fn) :
    true = Tryz.pinned.checked.prog.looks [] ∧ ∀ (j : Nat) t, fn.params[j]? = some t → Tryz.pinned.checked.prog.wantsStandIn t = false := by
  obtain rfl : f = 6 := Option.some.inj ((show Tryz.prog.funcNamed "custodian/custodiankeep.ModuleLabels" = some 6 by kernel_rfl).symm.trans hf) |>.symm
  obtain rfl : fn = Tryz.f6 := (Option.some.inj (Tryz.func6.symm.trans hfn)).symm
  refine ⟨by kernel_rfl, fun j t ht => ?_⟩
  rw [Tryz.params6] at ht
  have hm : t ∈ [22, 22, 80] := by simpa using Array.mem_of_getElem? ht
  have hall : ([22, 22, 80].all fun u => !Tryz.prog.wantsStandIn u) = true := by kernel_rfl
  exact (show Tryz.prog.wantsStandIn t = false by simpa using List.all_eq_true.1 hall t hm)
/-- The card. -/
theorem moduleLabels_holds : Rows.ModuleLabelsUptoCardSaid :=
  Claim7.holds_tied_plain_at .later [] _ _ _ _ moduleLabels_said (fun _ h => by cases h) (by kernel_rfl) (fun _ h => by cases h) moduleLabelsUpto_row_tie rfl ⟨rfl, rfl⟩ (by kernel_rfl) rfl plain_card (by kernel_rfl)
end Go.Proofs.YtpjhjefjbkjhkaaGreatDoor
