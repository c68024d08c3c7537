/- The walk of OwnMemory. -/
import Derived.Test.YtkcnhagpjnhiiaaOwnMemory
import Derived.Test.YtkcnhagpjnhiiaaLift
import Derived.Test.YtkcnhagpjnhiiaaLiftKey
import Derived.Test.YtkcnhagpjnhiiaaLiftPieces
import Derived.Test.YtkcnhagpjnhiiaaLiftVal
import Derived.Test.YtkcnhagpjnhiiaaLiftVals
namespace Go.Proofs.Ytkcnhagpjnhiiaa
open Go.ChangeShapes Go.WideShapes Go.ChangeAt Go.RowKit

set_option maxRecDepth 100000 in
theorem ownMemory_lifted (os : Os) (started : os.Started) (H : Type) (enc : TypeId × Value → H) :
    ReturnsInHanded {} Try.checked os 10 .any (Rows.ownMemorySpec.pre6 enc Try.prog Try.f10 Rows.ownMemoryRow.domain false) (Rows.ownMemorySpec.post enc Try.prog Try.f10 false true false false) := by
  refine returnsInHanded_of_change_sized (C := Try.checked) own started (by kernel_rfl) Try.func10
    (ChangeSpec.witness6 (enc := enc) (C := Try.checked) false ⟨#[], #[.slice none 0 0, (KeyV.mk 0 0 0 0 0).val, .int .i64 0, (ValV.num 0).val, .slice none 0 0, .int .i64 0], []⟩ 8 (by kernel_rfl) (by kernel_rfl) (by kernel_rfl) (by kernel_rfl)) ?_
  intro W base args ds gs before hval0 hW hcnd hsz _
  have hval : ∀ (j : Nat) t v, Try.f10.params[j]? = some t → args[j]? = some v → Value.okWide Try.prog W .any base t v := hval0
  have hW' := hW
  obtain ⟨p, q, hA0, hV, rfl, hfz, hnd⟩ := hW
  obtain ⟨rfl, rfl⟩ := trodVars_none hV
  rw [List.append_nil] at hW'
  have hA : DataW.TrodAll enc Try.prog W 0 (fun _ => true) true Try.f10.params.toList args.toList ds p := hA0
  rw [Try.params10] at hA hval
  obtain ⟨v0, vs0, d0, ds0, p0, q0, hargs, rfl, rfl, h0, r0⟩ := trodAll_cons hA
  obtain ⟨v1, vs1, d1, ds1, p1, q1, rfl, rfl, rfl, h1, r1⟩ := trodAll_cons r0
  obtain ⟨v2, vs2, d2, ds2, p2, q2, rfl, rfl, rfl, h2, r2⟩ := trodAll_cons r1
  obtain ⟨v3, vs3, d3, ds3, p3, q3, rfl, rfl, rfl, h3, r3⟩ := trodAll_cons r2
  obtain ⟨v4, vs4, d4, ds4, p4, q4, rfl, rfl, rfl, h4, r4⟩ := trodAll_cons r3
  obtain ⟨v5, vs5, d5, ds5, p5, q5, rfl, rfl, rfl, h5, r5⟩ := trodAll_cons r4
  obtain ⟨rfl, rfl, rfl⟩ := trodAll_nil r5
  obtain rfl : args = #[v0, v1, v2, v3, v4, v5] := by cases args; simp_all
  obtain ⟨a0, rfl, w0, z0⟩ := open_vals (hval 0 27 v0 rfl rfl) h0
  have z0 := sized_els hsz (j := 0) rfl rfl Try.underlying27 (show Try.prog.bytesOf 25 = 56 by kernel_rfl) z0
  obtain ⟨a1, rfl, w1⟩ := open_key (hval 1 23 v1 rfl rfl) h1
  obtain ⟨a2, rfl, rfl, rfl, w2⟩ := open_int Try.underlying3 (hval 2 3 v2 rfl rfl) h2
  obtain ⟨a3, rfl, w3⟩ := open_val (hval 3 25 v3 rfl rfl) h3
  obtain ⟨a4, rfl, w4, z4⟩ := open_pieces (hval 4 71 v4 rfl rfl) h4
  have z4 := sized_els hsz (j := 4) rfl rfl Try.underlying71 (show Try.prog.bytesOf 76 = 24 by kernel_rfl) z4
  obtain ⟨a5, rfl, rfl, rfl, w5⟩ := open_int Try.underlying3 (hval 5 3 v5 rfl rfl) h5
  clear hval0
  refine (ownMemory_walk (w := W) a0 a1 a2 a3 a4 a5 w0 z0 w1 w2 w3 w4 z4 w5).mono fun e W' ⟨he, hb⟩ => ?_
  subst he
  exact ⟨_, rfl, law_post hW' hA0 rfl rfl rfl (by kernel_rfl) hb⟩

/-- THE STATEMENT. -/
theorem ownMemory_holds : Rows.OwnMemorySaid :=
  OpenClaim.holds_of_wide 10 Try.f10 rfl rfl rfl rfl rfl rfl rfl ⟨rfl, rfl, rfl, rfl, rfl⟩ rfl rfl rfl rfl rfl (by kernel_rfl) Try.func10 (by kernel_rfl)
    (of_decide_eq_true (by kernel_rfl)) (by unfold Func.isWrapper; first | (rw [if_pos (by decide +kernel)]; kernel_rfl) | (rw [if_neg (by decide +kernel)]; exact ⟨rfl, rfl⟩))
    (fun os started H enc _ => ownMemory_lifted os started H enc)
end Go.Proofs.Ytkcnhagpjnhiiaa
