import Derived.Test.YtpjhjefjbkjhkaaGreatDoorNameLawZ
import Derived.Test.YtpjhjefjbkjhkaaGreatDoorParseAZ
/- What the references' IsName computes: it is the program's. -/
namespace Go.Proofs.YtpjhjefjbkjhkaaGreatDoor
open Go Go.RowKit Go.Shelf
set_option linter.unusedVariables false
set_option linter.unusedSimpArgs false
def lettersL : List UInt8 := [97, 98, 99, 100, 101, 102, 103, 104, 105, 106, 107, 108, 109, 110, 111, 112, 113, 114, 115, 116, 117, 118, 119, 120, 121, 122]
def lettersD : List UInt8 := [97, 98, 99, 100, 101, 102, 103, 104, 105, 106, 107, 108, 109, 110, 111, 112, 113, 114, 115, 116, 117, 118, 119, 120, 121, 122, 48, 49, 50, 51, 52, 53, 54, 55, 56, 57]
theorem cont_letN : ∀ n : Nat, n < 256 → Lib.contains lettersL [UInt8.ofNat n] = (decide (97 ≤ n) && decide (n ≤ 122)) := by decide +kernel
theorem cont_digN : ∀ n : Nat, n < 256 → Lib.contains lettersD [UInt8.ofNat n] = goodCh (UInt8.ofNat n) := by decide +kernel
theorem cont_let (c : UInt8) : Lib.contains lettersL [c] = (decide (97 ≤ c.toNat) && decide (c.toNat ≤ 122)) := by
  have := cont_letN c.toNat c.toNat_lt
  rwa [UInt8.ofNat_toNat] at this
theorem cont_dig (c : UInt8) : Lib.contains lettersD [c] = goodCh c := by
  have := cont_digN c.toNat c.toNat_lt
  rwa [UInt8.ofNat_toNat] at this
theorem outside_any (n a b : Int) (w : World) : Calls Tryz.prog 62 #[.int .i64 n, .int .i64 a, .int .i64 b] w fun e w' => e = .returned (.bool (decide (n < a) || decide (b < n))) ∧ w' = w := by
  by_cases h1 : n < a
  · go_enter Tryz.func62, Tryz.ntmps62
    go_wp2
    go_ret
    exact ⟨by simp [h1], rfl⟩
  · by_cases h2 : b < n
    · go_enter Tryz.func62, Tryz.ntmps62
      go_wp2
      go_ret
      exact ⟨by simp [h1, h2], rfl⟩
    · go_enter Tryz.func62, Tryz.ntmps62
      go_wp2
      go_ret
      exact ⟨by simp [h1, h2], rfl⟩
theorem one_byte (s : ByteArray) (k : Nat) (h : k < s.size) : (s.extract k (k + 1)).data.toList = [s.get! k] := by
  rw [get_at s h]
  have hl : k < s.data.toList.length := by rw [Array.length_toList]; exact h
  rw [ByteArray.data_extract, Array.toList_extract, List.extract_eq_take_drop, List.drop_eq_getElem_cons hl, show k + 1 - k = 1 by omega]
  rfl
theorem byte0_get (s : ByteArray) (h : 0 < s.size) : byte0 s = (s.get! 0).toNat := by
  unfold byte0
  rw [get_at s h]
  simp [h]
  rfl
set_option maxHeartbeats 4000000 in
set_option maxRecDepth 100000 in
theorem rname_any (s : ByteArray) (w : World) (he : PEnv w) : Calls Tryz.prog 32 #[.string s] w fun e w' => e = .returned (.bool (isNameB s)) ∧ w' = w := by
  obtain ⟨m, hm⟩ := he.mx
  have co := fun (l sub : ByteArray) (hs : l.size < 4294967281) => Tryz.strings_Contains l sub m w hs hm
  have ou := fun W => outside_any (s.size : Int) 1 12 W
  obtain ⟨B, hB⟩ : ∃ B, isNameB s = B := ⟨_, rfl⟩
  have hiff := isName_iff s
  rw [hB] at hiff ⊢
  by_cases h0 : s.size = 0 ∨ 12 < s.size
  · have hb : B = false := by
      cases hB2 : B with
      | false => rfl
      | true =>
        obtain ⟨a, b, _⟩ := hiff.1 hB2
        omega
    subst hb
    have e1 : (decide ((s.size : Int) < 1) || decide (12 < (s.size : Int))) = true := by
      rcases h0 with h | h
      · simp; left; omega
      · simp; right; omega
    rw [e1] at ou
    clear hiff hB
    go_enter Tryz.func32, Tryz.ntmps32
    go_wp2_with (go_at_call 62; ((with_reducible refine (ou _).mono ?_); rintro e w' ⟨rfl, hw'⟩; subst w'))
    go_ret
    exact ⟨rfl, rfl⟩
  · have h1 : 0 < s.size := by omega
    have h2 : s.size ≤ 12 := by omega
    have e1 : (decide ((s.size : Int) < 1) || decide (12 < (s.size : Int))) = false := by
      simp; omega
    rw [e1] at ou
    have d0 := one_byte s 0 h1
    simp only [Nat.zero_add] at d0
    have c1 := co ⟨lettersL.toArray⟩ (s.extract 0 1) (by decide)
    rw [d0, show (⟨lettersL.toArray⟩ : ByteArray).data.toList = lettersL from rfl, cont_let] at c1
    have k1 : (1 : Int) ≤ (s.size : Int) := by omega
    have k1' : 1 ≤ s.size := h1
    have hby : (97 ≤ byte0 s) ↔ 97 ≤ (s.get! 0).toNat := by
      rw [byte0_get s h1]
    by_cases hf : (97 ≤ (s.get! 0).toNat ∧ (s.get! 0).toNat ≤ 122)
    · have e2 : (decide (97 ≤ (s.get! 0).toNat) && decide ((s.get! 0).toNat ≤ 122)) = true := by simp [hf]
      rw [e2] at c1
      have hall : (∀ c ∈ s.data.toList, goodCh c = true) ↔ ∀ k, k < s.size → goodCh (s.get! k) = true := by
        constructor
        · intro h k hk
          rw [get_at s hk]
          exact h _ (List.getElem_mem _)
        · intro h c hc
          obtain ⟨k, hk, rfl⟩ := List.getElem_of_mem hc
          have hk2 : k < s.size := by rw [Array.length_toList] at hk; exact hk
          rw [← get_at s hk2]
          exact h k hk2
      rw [hall] at hiff
      have HI := Lib.hid hiff
      clear hall hiff hB c1
      have c1 := co ⟨lettersL.toArray⟩ (s.extract 0 1) (by decide)
      rw [d0, show (⟨lettersL.toArray⟩ : ByteArray).data.toList = lettersL from rfl, cont_let, e2] at c1
      have cd := fun k (hk : k < s.size) => co ⟨lettersD.toArray⟩ (s.extract k (k + 1)) (by decide)
      have cd2 : ∀ k, k < s.size → Calls Tryz.prog 63 #[.string ⟨lettersD.toArray⟩, .string (s.extract k (k + 1))] w fun e w' => e = .returned (.bool (goodCh (s.get! k))) ∧ w' = w := fun k hk => by
        have := cd k hk
        rw [one_byte s k hk, show (⟨lettersD.toArray⟩ : ByteArray).data.toList = lettersD from rfl, cont_dig] at this
        exact this
      have C1 := Lib.hid c1
      have CD := Lib.hid cd2
      have HBY := Lib.hid hby
      have HF := Lib.hid hf
      clear c1 cd cd2 co hby hf e2 d0 he hm
      unfold lettersL at C1
      unfold lettersD at CD
      go_enter Tryz.func32, Tryz.ntmps32
      go_wp2_with (first
        | (go_at_call 62; ((with_reducible refine (ou _).mono ?_); rintro e w' ⟨rfl, hw'⟩; subst w'))
        | (go_at_call 63; ((with_reducible refine C1.out.mono ?_); rintro e w' ⟨rfl, hw'⟩; subst w')))
      go_loopg [15] s.size (fun gk s15 wx => ∃ k : Nat, s15 = .int .i64 (k : Int) ∧ wx = w ∧ (∀ j, j < k → goodCh (s.get! j) = true) ∧ s.size ≤ k + gk ∧ k ≤ s.size)
      case atStart => exact ⟨0, rfl, rfl, fun j hj => by omega, by omega, by omega⟩
      case round =>
        obtain ⟨k, rfl, rfl, hg, hfu, hks⟩ := hrel
        by_cases hlt : k < s.size
        · obtain ⟨g', rfl⟩ : ∃ g', gk = g' + 1 := ⟨gk - 1, by omega⟩
          have i1 : (k : Int) < (s.size : Int) := by omega
          have i2 : IntKind.i64.wrap ((k : Int) + 1) = (k : Int) + 1 := by rw [IntKind.wrap_i64]; omega
          have i3 : ((k : Int) + 1).toNat = k + 1 := by omega
          have i4 : (0 : Int) ≤ (k : Int) + 1 := by omega
          have i5 : (k : Int) + 1 ≤ (s.size : Int) := by omega
          have i6 : (0 : Int) ≤ (k : Int) := by omega
          have i7 : k + 1 ≤ s.size := by omega
          have i8 : (k : Int) ≤ (k : Int) + 1 := by omega
          have cc := CD.out k hlt
          cases hgk : goodCh (s.get! k) with
          | true =>
            rw [hgk] at cc
            have HG := Lib.hid hg
            have HGK := Lib.hid hgk
            clear hg hgk
            go_wp2_with (go_at_call 63; ((with_reducible refine cc.mono ?_); rintro e w' ⟨rfl, hw'⟩; subst w'))
            go_roundg g'
            case measure => omega
            case rel =>
              refine ⟨k + 1, by go_num, rfl, fun j hj => ?_, by omega, by omega⟩
              rcases Nat.lt_or_ge j k with h | h
              · exact HG.out j h
              · obtain rfl : j = k := by omega
                exact HGK.out
          | false =>
            rw [hgk] at cc
            have hb : B = false := by
              cases hB2 : B with
              | false => rfl
              | true =>
                obtain ⟨_, _, _, h⟩ := HI.out.1 hB2
                rw [h k hlt] at hgk; cases hgk
            subst hb
            clear hg hgk
            go_wp2_with (go_at_call 63; ((with_reducible refine cc.mono ?_); rintro e w' ⟨rfl, hw'⟩; subst w'))
            go_ret
            exact ⟨rfl, rfl⟩
        · obtain rfl : k = s.size := by omega
          have hb : B = true := HI.out.2 ⟨by omega, h2, HBY.out.2 HF.out.1, fun j hj => hg j hj⟩
          subst hb
          have i1 : ¬ ((s.size : Int) < (s.size : Int)) := by omega
          clear hg
          go_wp2
          go_ret
          exact ⟨rfl, rfl⟩
    · have hb : B = false := by
        cases hB2 : B with
        | false => rfl
        | true =>
          obtain ⟨_, _, a, b⟩ := hiff.1 hB2
          have hg := b (s.get! 0) (by rw [get_at s h1]; exact List.getElem_mem _)
          unfold goodCh at hg
          have := hby.1 a
          simp at hg
          omega
      subst hb
      have e2 : (decide (97 ≤ (s.get! 0).toNat) && decide ((s.get! 0).toNat ≤ 122)) = false := by
        cases h : (decide (97 ≤ (s.get! 0).toNat) && decide ((s.get! 0).toNat ≤ 122)) with
        | false => rfl
        | true => simp at h; exact absurd h hf
      rw [e2] at c1
      have C1 := Lib.hid c1
      clear c1 co hby hf e2 d0 he hm hiff hB
      unfold lettersL at C1
      go_enter Tryz.func32, Tryz.ntmps32
      go_wp2_with (first
        | (go_at_call 62; ((with_reducible refine (ou _).mono ?_); rintro e w' ⟨rfl, hw'⟩; subst w'))
        | (go_at_call 63; ((with_reducible refine C1.out.mono ?_); rintro e w' ⟨rfl, hw'⟩; subst w')))
      go_ret
      exact ⟨rfl, rfl⟩
end Go.Proofs.YtpjhjefjbkjhkaaGreatDoor
