/- The given statement ProgLinesUptoCardSaid holds: at all inputs within its bound, with no condition of ours. -/
import Derived.Test.YtjlncoodkejncaaDoorBuO
import Derived.Test.YtjlncoodkejncaaDoorCards
import Derived.Test.YtjlncoodkejncaaDoorEnvLaidZ
import Derived.Test.YtjlncoodkejncaaDoorLiftStrZ
import Derived.Test.YtjlncoodkejncaaDoorProgLines2Z
import Derived.Test.YtjlncoodkejncaaDoorTie
/- Empty lines do not matter, and every other line that is not a label defines a cell. -/
namespace Go.Proofs.YtjlncoodkejncaaDoor
open Go.ChangeShapes Go.WideShapes Go.ChangeAt Go.RowKit

theorem reads (os : Os) {H : Type} (enc : TypeId × Value → H) : ∃ places, DataW.whole enc Tryd.prog ((doorPinned os).forCall (fun _ _ => 0) ⟨#[], #[.string ByteArray.empty], []⟩).memory Tryd.f5.params.toList Rows.progLinesSpec.vars false (#[.string ByteArray.empty] : Array Value).toList 8 = some ([.lit (.string [])], [], places) :=
  ⟨[], by kernel_rfl⟩
set_option maxRecDepth 100000 in
theorem progLines_lifted (os : Os) (started : os.Started) (H : Type) (enc : TypeId × Value → H) (Fi : Stop.Interp) :
    ReturnsInHanded {} Tryd.checked os 5 .any ((Rows.OpenSpec.upto Rows.progLinesSpec).preRow enc Tryd.prog Tryd.f5 Rows.progLinesUptoRow.domain false Rows.progLinesUptoRow.laid) (((Rows.OpenSpec.upto Rows.progLinesSpec).at Fi).post enc Tryd.prog Tryd.f5 false true false false) := by
  obtain ⟨places, hx⟩ := reads os enc
  refine returnsInHanded_of_row (C := Tryd.checked) (s := (Rows.OpenSpec.upto Rows.progLinesSpec)) own started (by kernel_rfl) Tryd.func5
    (witness_row_atRef (enc := enc) (C := Tryd.checked) false (doorPinned os) #[.string ByteArray.empty] rfl (by kernel_rfl) (by kernel_rfl) (by kernel_rfl)
      (OpenSpec.preRow_of_cond 8 hx (by kernel_rfl) (fun k hk => by cases hk; kernel_rfl) (by kernel_rfl) (door_met os _))) ?_
  intro W base args ds gs before hval0 hW _ hcond _ hL hsh _
  have hval : ∀ (j : Nat) t v, Tryd.f5.params[j]? = some t → args[j]? = some v → Value.okWide Tryd.prog W .any base t v := hval0
  have hW' := hW
  obtain ⟨p, q, hA0, hV, rfl, hfz, hnd⟩ := hW
  obtain ⟨rfl, rfl⟩ := trodVars_none hV
  rw [List.append_nil] at hW'
  have hA : DataW.TrodAll enc Tryd.prog W 0 (fun _ => true) true Tryd.f5.params.toList args.toList ds p := hA0
  rw [Tryd.params5] at hA hval
  obtain ⟨v0, vs0, d0, ds0, p0, q0, hargs, rfl, rfl, h0, r0⟩ := trodAll_cons hA
  obtain ⟨rfl, rfl, rfl⟩ := trodAll_nil r0
  obtain rfl : args = #[v0] := by cases args; simp_all
  obtain ⟨a0, rfl, rfl, rfl, w0⟩ := open_string Tryd.underlying9 (hval 0 9 v0 rfl rfl) h0
  have hk := of_decide_eq_true (show decide (Rows.uptoBulkAll _ ≤ 1048576) = true from hcond _ rfl)
  simp only [Rows.uptoBulkAll, Rows.uptoBulk, List.append_nil] at hk
  have z0 : a0.size ≤ 1048576 := by have h2 : a0.size = a0.data.toList.length := rfl; omega
  clear hval0
  refine (progLines_walk a0 W z0 (env_of_laid hL hsh)).mono fun e W' ⟨he, hb⟩ => ?_
  subst he
  exact ⟨_, rfl, law_post (s := Rows.progLinesSpec) hW' hA0 rfl rfl rfl (by kernel_rfl) hb⟩

/-- The row's statement. -/
theorem progLines_said : Rows.ProgLinesUptoSaid :=
  OpenClaim.holds_of_cond 5 Tryd.f5 rfl rfl rfl rfl rfl rfl rfl ⟨rfl, rfl, rfl, rfl, rfl⟩ rfl rfl rfl rfl rfl (by kernel_rfl) Tryd.func5 (by kernel_rfl)
    (of_decide_eq_true (by kernel_rfl)) (by unfold Func.isWrapper; first | (rw [if_pos (by decide +kernel)]; kernel_rfl) | (rw [if_neg (by decide +kernel)]; exact ⟨rfl, rfl⟩))
    (fun os started H enc _ Fi => by rw [OpenClaim.pre_eq_preRow]; exact progLines_lifted os started H enc Fi)
/-- No parameter wants a stand-in; the program's own looks are off. -/
theorem plain_card (f : FuncId) (fn : Func) (hf : Tryd.pinned.checked.prog.funcNamed "custodian/custodiankeep.ProgLines" = some f) (hfn : Tryd.pinned.checked.prog.funcs[f]? = some fn) :
    true = Tryd.pinned.checked.prog.looks [] ∧ ∀ (j : Nat) t, fn.params[j]? = some t → Tryd.pinned.checked.prog.wantsStandIn t = false := by
  obtain rfl : f = 5 := Option.some.inj ((show Tryd.prog.funcNamed "custodian/custodiankeep.ProgLines" = some 5 by kernel_rfl).symm.trans hf) |>.symm
  obtain rfl : fn = Tryd.f5 := (Option.some.inj (Tryd.func5.symm.trans hfn)).symm
  refine ⟨by kernel_rfl, fun j t ht => ?_⟩
  rw [Tryd.params5] at ht
  have hm : t ∈ [9] := by simpa using Array.mem_of_getElem? ht
  have hall : ([9].all fun u => !Tryd.prog.wantsStandIn u) = true := by kernel_rfl
  exact (show Tryd.prog.wantsStandIn t = false by simpa using List.all_eq_true.1 hall t hm)
/-- The card. -/
theorem progLines_holds : Rows.ProgLinesUptoCardSaid :=
  Claim7.holds_tied_plain_at .later [] _ _ _ _ progLines_said (fun _ h => by cases h) (by kernel_rfl) (fun _ h => by cases h) progLinesUpto_row_tie rfl ⟨rfl, rfl⟩ (by kernel_rfl) rfl plain_card (by kernel_rfl)
end Go.Proofs.YtjlncoodkejncaaDoor
