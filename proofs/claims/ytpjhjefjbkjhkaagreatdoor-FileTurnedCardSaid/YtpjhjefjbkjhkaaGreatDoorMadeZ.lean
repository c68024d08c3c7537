import Derived.Test.YtpjhjefjbkjhkaaGreatDoorModMakeZ
/- made: a module made of a program. -/
namespace Go.Proofs.YtpjhjefjbkjhkaaGreatDoor
open Go Go.RowKit Go.Shelf
set_option linter.unusedVariables false
set_option linter.unusedSimpArgs false
theorem sl_litM (w : World) (c : UInt8) (n : Int) : Sl (w.alloc (.cells #[.string ⟨#[c]⟩, .int .i64 n] 83)) (some ⟨w.heap.size, 0, none⟩) 1 [(⟨ba [c], n⟩ : NamV)] := lit_sl1 _ _ rfl
theorem name_a : isNameB (ba [97]) = true := by kernel_rfl
theorem made_ok : ModOk isNameB ⟨[4194304], [], [⟨ba [97], 0⟩], []⟩ := by
  refine ⟨by decide, by decide, by decide, by decide, ?_, ?_, ?_, List.pairwise_singleton _ _, ?_, List.Pairwise.nil⟩
  · intro n hn; simp at hn; subst hn; decide
  · intro n hn; simp at hn
  · intro x hx; simp at hx; subst hx; exact ⟨name_a, by decide, by decide⟩
  · intro x hx; simp at hx
set_option maxHeartbeats 8000000 in
set_option maxRecDepth 100000 in
theorem made_any (w : World) (he : PEnv w) : Calls Tryz.prog 31 #[] w fun e w' => e = .returned (.bool true) ∧ Below w.heap.size w w' := by
  have mk := make_any ⟨#[97, 58, 10, 104, 97, 108, 116]⟩ none 0 0 [] w he (by decide) (Sl.nil _ _) (by decide) (fun x hx => by simp at hx) ⟨[4194304], [⟨ba [97], 0⟩], 0, 0⟩ read_ah (fun y hy => by simp at hy; subst hy; exact ⟨by decide, by decide⟩) (fun y hy => by simp at hy; subst hy; exact ⟨by decide, ⟨by decide, by decide⟩⟩)
  have mk2 : Calls Tryz.prog 15 #[.string ⟨#[97, 58, 10, 104, 97, 108, 116]⟩, .slice none 0 0, .slice none 0 0] w fun e w' => ∃ (ca : Option Addr) (cc : Nat) (da : Option Addr) (dc : Nat) (ea : Option Addr) (ec : Nat), e = .returned (.tuple #[.agg #[.slice ca 1 cc, .slice da 0 dc, .slice ea 1 ec, .slice none 0 0], .int .i64 0, .int .i64 0]) ∧ Sl w' ea 1 [(⟨ba [97], 0⟩ : NamV)] ∧ Below w.heap.size w w' := by
    refine mk.mono ?_
    rintro e w' ⟨h, hb⟩
    rcases h with ⟨_, h⟩ | ⟨r, rfl, hr, him, _, _⟩
    · rcases h with h | h
      · exact absurd rfl h
      · exact absurd made_ok h
    · obtain ⟨⟨ca, cn, cc⟩, ⟨da, dn, dc⟩, ⟨ea, en, ec⟩, im⟩ := r
      have l1 : cn = 1 := by have := hr.code.len; simpa using this.symm
      have l2 : dn = 0 := by have := hr.data.len; simpa using this.symm
      have l3 : en = 1 := by have := hr.ex.len; simpa using this.symm
      simp only at him
      subst l1 l2 l3 him
      exact ⟨ca, cc, da, dc, ea, ec, rfl, hr.ex, hb⟩
  have MK := Lib.hid mk2
  clear mk mk2 he
  go_enter Tryz.func31, Tryz.ntmps31
  go_upto_region 2 with (go_at_call 15; ((with_reducible refine MK.out.mono ?_); rintro e w1 ⟨ca, cc, da, dc, ea, ec, rfl, hse, hb1⟩; have HB1 := Lib.hid hb1; have SE := Lib.hid hse; clear hb1 hse))
  obtain ⟨g, hg⟩ : ∃ g, w1.heap.size = g := ⟨_, rfl⟩
  obtain ⟨w2, hw2⟩ : ∃ w2, w2 = w1.alloc (.cells #[.slice ca 1 cc, .slice da 0 dc, .slice ea 1 ec, .slice none 0 0] 28) := ⟨_, rfl⟩
  rw [← hw2]
  try rw [hg]
  have m2 : Bk w2 g 28 #[.slice ca 1 cc, .slice da 0 dc, .slice ea 1 ec, .slice none 0 0] := by rw [hw2, ← hg]; exact bk_new _ _ _
  have b2 : Below w1.heap.size w1 w2 := by rw [hw2]; exact ext_alloc (Below.refl _ _) _
  have HB2 := Lib.hid (ext_trans HB1.out b2)
  have SE2 := Lib.hid (SE.out.below b2)
  obtain ⟨z0, z1, z2, z3⟩ := cellsM4 m2
  have zL := m2.lt
  clear hw2 hg m2 b2 SE
  go_wp2_with (go_at_call 33; ((with_reducible refine (eqs_Label ea (some ⟨w2.heap.size, 0, none⟩) 1 ec 1 [(⟨ba [97], 0⟩ : NamV)] _ (SE2.out.alloc _) (sl_litM w2 97 0)).mono ?_); rintro e w3 ⟨rfl, hb3⟩; have HB3 := Lib.hid (ext_trans (show Below w.heap.size w (w2.alloc (.cells #[.string ⟨#[97]⟩, .int .i64 0] 83)) from ext_alloc HB2.out _) hb3); clear hb3))
  go_ret
  exact ⟨rfl, HB3.out⟩
end Go.Proofs.YtpjhjefjbkjhkaaGreatDoor
