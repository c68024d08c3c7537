import Derived.Test.YtpjhjefjbkjhkaaGreatDoorLiftModuleZ
import Derived.Test.YtpjhjefjbkjhkaaGreatDoorMadeZ
import Derived.Test.YtpjhjefjbkjhkaaGreatDoorTurnLawZ
/- FileTurned, of what may not be packed. -/
namespace Go.Proofs.YtpjhjefjbkjhkaaGreatDoor
open Go Go.RowKit Go.Shelf
set_option linter.unusedVariables false
set_option linter.unusedSimpArgs false
set_option maxHeartbeats 4000000 in
set_option maxRecDepth 100000 in
theorem fileTurned_bad (x : ModA) (at_ cut c : Int) (w : World) (hx : x.ok w) (he : PEnv w) (hno : ¬ ModOk isNameB x.m) : Calls Tryz.prog 7 #[x.val, .int .i64 at_, .int .i64 cut, .int .u8 c] w fun e w' => e = .returned (.bool true) ∧ Below w.heap.size w w' := by
  obtain ⟨⟨⟨ca, cn, cc⟩, ⟨da, dn, dc⟩, ⟨ea, en, ec⟩, ⟨ia, jn, ic⟩⟩, m⟩ := x
  obtain ⟨w1, hw1⟩ : ∃ w1, w1 = w.alloc (.cells #[.slice ca cn cc, .slice da dn dc, .slice ea en ec, .slice ia jn ic] 28) := ⟨_, rfl⟩
  have h1w : Below w.heap.size w w1 := by rw [hw1]; exact ext_alloc (Below.refl _ _) _
  have b1 : Bk w1 w.heap.size 28 #[.slice ca cn cc, .slice da dn dc, .slice ea en ec, .slice ia jn ic] := by rw [hw1]; exact bk_new _ _ _
  have hx1 : ModR.has w1 ⟨⟨ca, cn, cc⟩, ⟨da, dn, dc⟩, ⟨ea, en, ec⟩, ⟨ia, jn, ic⟩⟩ m := hx.below h1w
  obtain ⟨z0, z1, z2, z3⟩ := cellsM4 b1
  have zL := b1.lt
  have HW1 := Lib.hid hw1
  have H1 := Lib.hid h1w
  have HE := Lib.hid he
  have PK := Lib.hid (fpack_bad _ m w1 hx1 hno)
  clear hw1 h1w b1 he hx hx1
  show Calls Tryz.prog 7 #[.agg #[.slice ca cn cc, .slice da dn dc, .slice ea en ec, .slice ia jn ic], .int .i64 at_, .int .i64 cut, .int .u8 c] w _
  go_enter Tryz.func7, Tryz.ntmps7
  go_upto_region 1 with (fail)
  rw [← HW1.out]
  go_wp2_with (first
    | (go_at_call 35; ((with_reducible refine PK.out.mono ?_); rintro e w2 ⟨er, hne, rfl, hb2⟩; have q1 : (er != 0) = true := (by simpa using hne); have q2 : (er == 0) = false := (by simpa using hne); have HB2 := Lib.hid (ext_trans H1.out hb2); clear hb2))
    | (go_at_call 31; ((with_reducible refine (made_any _ (HE.out.below HB2.out)).mono ?_); rintro e w3 ⟨rfl, hb3⟩; have HB3 := Lib.hid (ext_trans HB2.out hb3); clear hb3)))
  go_ret
  exact ⟨rfl, HB3.out⟩
end Go.Proofs.YtpjhjefjbkjhkaaGreatDoor
