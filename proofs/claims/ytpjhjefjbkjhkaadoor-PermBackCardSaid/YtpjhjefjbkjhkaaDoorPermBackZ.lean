import Derived.Deep.DeepHandedRow
import Derived.Deep.DeepLaidRun
import Derived.Deep.DeepWitnessRowRef
import Derived.LaidMore
import Derived.MakeChecks
import Derived.OpenShut
import Derived.Test.YtpjhjefjbkjhkaaDoorBuF
import Derived.Test.YtpjhjefjbkjhkaaDoorBuO
import Derived.Test.YtpjhjefjbkjhkaaDoorCards
import Derived.Test.YtpjhjefjbkjhkaaDoorLiftStrZ
import Derived.Test.YtpjhjefjbkjhkaaDoorPermRead
import Derived.Test.YtpjhjefjbkjhkaaDoorTie
/- PermBack: what is allowed is read as it was told; what is read is told so. -/
namespace Go.Proofs.YtpjhjefjbkjhkaaDoor
open Go Go.ChangeShapes Go.WideShapes Go.RowKit Go.Shelf
set_option linter.unusedVariables false
set_option linter.unusedSimpArgs false
set_option maxHeartbeats 4000000 in
set_option maxRecDepth 100000 in
theorem permBack_walk (p : Int) (s : ByteArray) (w : World) (hp : -9223372036854775808 ≤ p ∧ p ≤ 9223372036854775807) (hs : s.size ≤ maxLen) (_ : True) : Calls Tryd.prog 3 #[.int .i64 p, .string s] w fun e w' => e = .returned (.bool true) ∧ Below w.heap.size w w' := by
  obtain ⟨q, hq⟩ : ∃ q : Nat, p % 128 = q := ⟨(p % 128).toNat, by omega⟩
  have q1 : q < 128 := by omega
  have rs := fun W => rest_any p 128 W (by decide) (by decide)
  rw [hq] at rs
  have tx := fun W => ptext_some q q1 W
  have hl := permT_len q q1
  obtain ⟨S, hS⟩ : ∃ S : ByteArray, (⟨(permT q).toArray⟩ : ByteArray) = S := ⟨_, rfl⟩
  have hSd : S.data.toList = permT q := by rw [← hS]
  rw [hS] at tx
  have rd := fun W => permread_any S W
  rw [hSd, permR_text q1] at rd
  have e1 : S.toList.isEmpty = false := by
    rw [ByteArray.toList_eq, hSd]
    cases h : permT q with
    | nil => rw [h] at hl; simp at hl
    | cons a b => rfl
  have rd2 := fun W => permread_any s W
  have RS := Lib.hid rs
  have TX := Lib.hid tx
  have RD := Lib.hid rd
  have RD2 := Lib.hid rd2
  clear rs tx rd rd2 hp hs hq hS hSd hl
  by_cases hk : permT (permOf s.data.toList) = s.data.toList
  · have e2 : permR s.data.toList = (((permOf s.data.toList : Nat) : Int), (0 : Int)) := by unfold permR; rw [if_pos hk]
    have tx2 := fun W => ptext_some _ (permOf_lt s.data.toList) W
    have e3 : (⟨(permT (permOf s.data.toList)).toArray⟩ : ByteArray) = s := (toArr_eq _ _).2 hk
    rw [e3] at tx2
    rw [e2] at RD2
    obtain ⟨n, hn⟩ : ∃ n, permOf s.data.toList = n := ⟨_, rfl⟩
    rw [hn] at RD2 tx2
    have TX2 := Lib.hid tx2
    clear tx2 e2 e3 hn hk
    go_enter Tryd.func3, Tryd.ntmps3
    go_upto_region 3 with (first
      | (go_at_call 4; ((with_reducible refine (RS.out _).mono ?_); rintro e w' ⟨rfl, hw'⟩; subst w'))
      | (go_at_call 5; ((with_reducible refine (TX.out _).mono ?_); rintro e w1 ⟨rfl, hb1⟩)))
    go_upto_region 6 with (go_at_call 6; ((with_reducible refine (RD.out _).mono ?_); rintro e w2 ⟨rfl, hb2⟩))
    go_upto_region 7 with (go_at_call 6; ((with_reducible refine (RD2.out _).mono ?_); rintro e w3 ⟨rfl, hb3⟩))
    go_wp2_with (go_at_call 5; ((with_reducible refine (TX2.out _).mono ?_); rintro e w4 ⟨rfl, hb4⟩))
    go_ret
    exact ⟨by simp, ((hb1.trans (hb2.mono hb1.size)).trans (hb3.mono (Nat.le_trans hb1.size hb2.size))).trans (hb4.mono (Nat.le_trans (Nat.le_trans hb1.size hb2.size) hb3.size))⟩
  · have e2 : permR s.data.toList = (0, 3) := by unfold permR; rw [if_neg hk]
    rw [e2] at RD2
    clear e2 hk
    go_enter Tryd.func3, Tryd.ntmps3
    go_upto_region 3 with (first
      | (go_at_call 4; ((with_reducible refine (RS.out _).mono ?_); rintro e w' ⟨rfl, hw'⟩; subst w'))
      | (go_at_call 5; ((with_reducible refine (TX.out _).mono ?_); rintro e w1 ⟨rfl, hb1⟩)))
    go_upto_region 6 with (go_at_call 6; ((with_reducible refine (RD.out _).mono ?_); rintro e w2 ⟨rfl, hb2⟩))
    go_upto_region 7 with (go_at_call 6; ((with_reducible refine (RD2.out _).mono ?_); rintro e w3 ⟨rfl, hb3⟩))
    go_wp2
    go_ret
    exact ⟨rfl, (hb1.trans (hb2.mono hb1.size)).trans (hb3.mono (Nat.le_trans hb1.size hb2.size))⟩
/-- A world whose variables hold what the row lists. -/
noncomputable def doorPinned (os : Os) : World := { World.doorLaid Tryd.prog 400 os with heap := (World.doorLaid Tryd.prog 400 os).heap.modify 1 fun
  | .cells _ t fr => .cells (Go.Pinned.utf8FirstZ.map fun n : Nat => Value.int .u8 (n : Int)).toArray t fr
  | o => o }
theorem door_met (os : Os) (args : Array Value) : laidMetH Tryd.prog [("unicode/utf8.acceptRanges", Rows.laid_unicode_utf8_acceptRanges), ("unicode/utf8.first", Rows.laid_unicode_utf8_first)] ((doorPinned os).forCall (fun _ _ => 0) ⟨#[], args, []⟩).memory := by
  rw [MakeChecks.laidMetH_plain _ _ _ (by kernel_rfl)]
  exact laidMet_of_run3 8 (by kernel_rfl) (by kernel_rfl) (by kernel_rfl)
theorem env_of_laid {W : World} (h0 : laidMetH Tryd.prog [("unicode/utf8.acceptRanges", Rows.laid_unicode_utf8_acceptRanges), ("unicode/utf8.first", Rows.laid_unicode_utf8_first)] W) (hsh : W.ShapedOpen Tryd.prog) : True := trivial
end Go.Proofs.YtpjhjefjbkjhkaaDoor
