import Derived.Test.YtjlncoodkejncaaDoorLiftIntsPZ
import Derived.Test.YtjlncoodkejncaaDoorProgBaseZ
/- The text of cells is assembled to these cells. -/
namespace Go.Proofs.YtjlncoodkejncaaDoor
open Go Go.RowKit Go.Shelf
set_option linter.unusedVariables false
set_option linter.unusedSimpArgs false
theorem lit05 : textF [0, -5] = ([119, 111, 114, 100, 32, 48, 10, 119, 111, 114, 100, 32, 45, 53], 0) := by
  have e1 : Lib.itoa 0 = [48] := by unfold Lib.itoa; rw [if_neg (by decide)]; exact Lib.decDigits_one (by decide)
  have e2 : Lib.itoa (-5) = [45, 53] := by unfold Lib.itoa; rw [if_pos (by decide)]; rw [Lib.decDigits_one (by decide)]; rfl
  have c1 : cellL 0 = wordP ++ [48] := by unfold cellL; rw [if_neg (by decide), e1]
  have c2 : cellL (-5) = wordP ++ [45, 53] := by unfold cellL; rw [if_neg (by decide), e2]
  unfold textF textP
  rw [if_neg (by decide), if_neg (by decide)]
  simp only [List.map_cons, List.map_nil, c1, c2]
  rfl
set_option maxHeartbeats 8000000 in
set_option maxRecDepth 100000 in
theorem progBack_walk (x : SlV Int) (w : World) (hx : x.ok I64 w) (he : PEnv w) : Calls Tryd.prog 6 #[x.val] w fun e w' => e = .returned (.bool true) ∧ Below w.heap.size w w' := by
  obtain ⟨ao, n, c, code⟩ := x
  obtain ⟨hc, hi, hle⟩ := hx
  simp only [SlV.val] at hc hi hle ⊢
  have hn := hc.len
  have b1 : Below w.heap.size w (w.alloc (.cells #[.int .i64 0, .int .i64 (-5)] 3)) := ext_alloc (Below.refl _ _) _
  have t0 := ptext_any (some ⟨w.heap.size, 0, none⟩) 2 2 [0, -5] (w.alloc (.cells #[.int .i64 0, .int .i64 (-5)] 3)) (he.below b1) (lit_slE _ [0, -5] (by decide) rfl) (fun x hx => by simp at hx; rcases hx with rfl | rfl <;> (unfold I64; omega))
  obtain ⟨Z, hZ⟩ : ∃ Z : ByteArray, (⟨#[119, 111, 114, 100, 32, 48, 10, 119, 111, 114, 100, 32, 45, 53]⟩ : ByteArray) = Z := ⟨_, rfl⟩
  rw [lit05] at t0
  simp only [show ba [119, 111, 114, 100, 32, 48, 10, 119, 111, 114, 100, 32, 45, 53] = Z from hZ] at t0
  have fZ : (Z.toList == [119, 111, 114, 100, 32, 48, 10, 119, 111, 114, 100, 32, 45, 53]) = true := by rw [ByteArray.toList_eq, ← hZ]; rfl
  have tx := fun W (hW : Below w.heap.size w W) => ptext_any ao n c code W (he.below hW) (hc.below hW) hi
  have HE := Lib.hid he
  have HC := Lib.hid hc
  have H1 := Lib.hid b1
  have T0 := Lib.hid t0
  have HN := Lib.hid hn
  clear he b1 t0 hZ hc hn hle
  by_cases h0 : (textF code).2 = 0
  · obtain ⟨h150, hall, e⟩ := textF_ok h0
    rw [e] at tx
    simp only at tx
    have hl := textP_len hi
    have hr := read_textP (all32 hall) h150
    obtain ⟨S1, hS1⟩ : ∃ S1, ba (textP code) = S1 := ⟨_, rfl⟩
    have hsz : S1.size = (textP code).length := by rw [← hS1, ba_size]
    simp only [hS1] at tx
    have rd := fun W (hW : PEnv W) => pread_view S1 W hW (by rw [hsz]; omega) ⟨code, [], 0, 0⟩ (by rw [← hS1]; exact hr)
    simp only [List.length_nil] at rd
    have TXC := Lib.hid tx
    by_cases hz : S1.size = 0
    · have hcn : code = [] := textP_nil (List.eq_nil_of_length_eq_zero (by rw [← hsz]; exact hz))
      have hn0 : n = 0 := by have := HN.out; rw [hcn] at this; simpa using this.symm
      subst hn0
      have q0 : (S1.size : Int) = 0 := by omega
      clear e tx hl hr hS1 rd h0 hall h150 hsz hi hcn
      go_enter Tryd.func6, Tryd.ntmps6
      go_wp2_with (first
        | (go_at_call 20; ((with_reducible refine (T0.out).mono ?_); rintro e w2 ⟨rfl, hb2⟩; have HB2 := Lib.hid (ext_trans H1.out hb2); clear hb2))
        | (go_at_call 20; ((with_reducible refine (TXC.out _ HB2.out).mono ?_); rintro e w3 ⟨rfl, hb3⟩; have HB3 := Lib.hid (ext_trans HB2.out hb3); clear hb3)))
      go_ret
      exact ⟨rfl, HB3.out⟩
    · have q0 : ¬ ((S1.size : Int) = 0) := by omega
      have hn2 := HN.out
      subst hn2
      have RD := Lib.hid rd
      clear e tx hl hr hS1 rd h0 hall h150 hsz hi hz
      go_enter Tryd.func6, Tryd.ntmps6
      go_wp2_with (first
        | (go_at_call 20; ((with_reducible refine (T0.out).mono ?_); rintro e w2 ⟨rfl, hb2⟩; have HB2 := Lib.hid (ext_trans H1.out hb2); clear hb2))
        | (go_at_call 20; ((with_reducible refine (TXC.out _ HB2.out).mono ?_); rintro e w3 ⟨rfl, hb3⟩; have HB3 := Lib.hid (ext_trans HB2.out hb3); clear hb3))
        | (go_at_call 14; ((with_reducible refine (RD.out _ (HE.out.below HB3.out)).mono ?_); rintro e w4 ⟨ca4, cc4, la4, lc4, rfl, hc4, hl4, hb4⟩; have CS4 := Lib.hid hc4; have LS4 := Lib.hid hl4; have HB4 := Lib.hid (ext_trans HB3.out hb4); clear hc4 hl4 hb4))
        | (go_at_call 19; ((with_reducible refine (eqs_Int ca4 ao _ cc4 c code _ CS4.out (HC.out.below HB4.out)).mono ?_); rintro e w5 ⟨rfl, hb5⟩; have HB5 := Lib.hid (ext_trans HB4.out hb5); clear hb5)))
      go_ret
      exact ⟨rfl, HB5.out⟩
  · obtain ⟨er, her, e⟩ := textF_bad h0
    rw [e] at tx
    simp only at tx
    obtain ⟨S1, hS1⟩ : ∃ S1, ba [] = S1 := ⟨_, rfl⟩
    rw [hS1] at tx
    have f1 : S1.toList.isEmpty = true := by rw [← hS1, ByteArray.toList_eq]; rfl
    have q1 : (er != 0) = true := by simpa using her
    have q2 : (er == 0) = false := by simpa using her
    have TXC := Lib.hid tx
    clear e tx hS1 h0 hi her
    go_enter Tryd.func6, Tryd.ntmps6
    go_wp2_with (first
      | (go_at_call 20; ((with_reducible refine (T0.out).mono ?_); rintro e w2 ⟨rfl, hb2⟩; have HB2 := Lib.hid (ext_trans H1.out hb2); clear hb2))
      | (go_at_call 20; ((with_reducible refine (TXC.out _ HB2.out).mono ?_); rintro e w3 ⟨rfl, hb3⟩; have HB3 := Lib.hid (ext_trans HB2.out hb3); clear hb3)))
    go_ret
    exact ⟨rfl, HB3.out⟩
end Go.Proofs.YtjlncoodkejncaaDoor
