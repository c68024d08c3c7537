/- What perm.Read computes. -/
import Derived.Test.YtpjhjefjbkjhkaaGreatDoorPermText
namespace Go.Proofs.YtpjhjefjbkjhkaaGreatDoor
open Go Go.Shelf Go.RowKit Go.Lib Go.Proofs
set_option linter.unusedVariables false
set_option linter.unusedSimpArgs false
theorem str_neq (a b : ByteArray) : (a.toList != b.toList) = !decide (a = b) := by
  by_cases h : a = b
  · subst h; simp
  · have : a.toList ≠ b.toList := fun e => h (by
      rw [ByteArray.toList_eq, ByteArray.toList_eq] at e
      exact ByteArray.ext (Array.toList_inj.1 e))
    simp [h, this]
theorem toArr_eq (l : List UInt8) (s : ByteArray) : ((⟨l.toArray⟩ : ByteArray) = s) ↔ l = s.data.toList := by
  constructor
  · rintro rfl; rfl
  · intro h; subst h; exact ByteArray.ext (by simp)
set_option maxHeartbeats 4000000 in
set_option maxRecDepth 100000 in
theorem permread_any (s : ByteArray) (w : World) : Calls Tryz.prog 141 #[.string s] w fun e w' => e = .returned (.tuple #[.int .i64 (permR s.data.toList).1, .int .i64 (permR s.data.toList).2]) ∧ Below w.heap.size w w' := by
  obtain ⟨R, hR⟩ : ∃ R, permR s.data.toList = R := ⟨_, rfl⟩
  rw [hR]
  have HR := Lib.hid hR
  clear hR
  have hlen : s.data.toList.length = s.size := (Lib.size_eq s).symm
  go_enter Tryz.func141, Tryz.ntmps141
  go_wp2
  go_loopg [4] s.size (fun gk s4 wx => ∃ pos p : Nat, s4 = .int .i64 (p : Int) ∧ p < 128 ∧ wx.heap[w.heap.size]? = some (.stringIter s pos) ∧ Below w.heap.size w wx ∧ ((∀ c ∈ s.data.toList, c.toNat < 128) → p = permOf (s.data.toList.take pos)) ∧ s.size ≤ pos + gk ∧ pos ≤ s.size)
  case atStart => exact ⟨0, 0, rfl, by decide, World.iter_heap w s 0, (Below.refl _ w).alloc (Nat.le_refl _) _, fun _ => by simp [permOf], by omega, by omega⟩
  case round =>
    obtain ⟨pos, p, rfl, hp, hit, hbw, hall, hfu, hps⟩ := hrel
    by_cases hlt : pos < s.size
    · obtain ⟨g', rfl⟩ : ∃ g', gk = g' + 1 := ⟨gk - 1, by omega⟩
      have hnx : ∀ ty, (Instr.next (.pointer (some ⟨w.heap.size, 0, none⟩)) true ty).run Tryz.prog wr = _ := fun ty => Lib.run_next_any_at wr w.heap.size s pos ty hit hlt
      have hwd := Lib.width_pos s pos
      have hwn : pos + (Utf8.decode s pos).2 ≤ s.size := by
        have hne : s.data.toList.drop pos ≠ [] := by
          intro h0
          have := congrArg List.length h0
          rw [List.length_drop, hlen] at this
          simp at this
          omega
        have := Lib.decodeL_le _ hne
        rw [Lib.decodeL_drop, List.length_drop, hlen] at this
        omega
      have hrl := Lib.rune_le s pos
      have hasc : (∀ c ∈ s.data.toList, c.toNat < 128) → (Utf8.decode s pos).2 = 1 ∧ permOf (s.data.toList.take (pos + 1)) = runeP (permOf (s.data.toList.take pos)) (Utf8.decode s pos).1 := by
        intro h
        have hb := h _ (get_memI s hlt)
        rw [← get_loI s hlt] at hb
        have e := decode_loI s pos hb
        rw [e]
        refine ⟨rfl, ?_⟩
        have hll : pos < s.data.toList.length := by omega
        have et : s.data.toList.take (pos + 1) = s.data.toList.take pos ++ [s.data.toList[pos]] := by rw [List.take_add_one, List.getElem?_eq_getElem hll]; rfl
        rw [et, permOf_app]
        show _ = runeP _ (s.get! pos).toNat
        rw [get_loI s hlt]
        rfl
      obtain ⟨r, hr⟩ : ∃ r, (Utf8.decode s pos).1 = r := ⟨_, rfl⟩
      obtain ⟨K, hK⟩ : ∃ K, (Utf8.decode s pos).2 = K := ⟨_, rfl⟩
      rw [hr, hK] at hnx hasc
      rw [hK] at hwd hwn
      rw [hr] at hrl
      have hit2 := Lib.iterAt_heap wr w.heap.size s pos (pos + K) hit
      have hbw2 := Lib.below_iterAt hbw (k := w.heap.size) (Nat.le_refl _) s (pos + K)
      obtain ⟨W, hWd⟩ : ∃ W, wr.iterAt w.heap.size s (pos + K) = W := ⟨_, rfl⟩
      rw [hWd] at hnx hit2 hbw2
      have hlW := (Array.getElem?_eq_some_iff.1 hit2).1
      have cI : Calls Tryz.prog 186 #[.string ⟨#[114, 119, 120, 82, 87, 115, 117]⟩, .int .i32 (r : Int)] W fun e w' => e = .returned (.int .i64 (match signI r with | some k => (k : Int) | none => -1)) ∧ Below W.heap.size W w' := by
        by_cases h128 : r < 128
        · refine (Tryz.strings_IndexRune_ascii signsB (r : Int) W (by omega) (by omega)).mono ?_
          rintro e w' ⟨rfl, rfl⟩
          rw [signsB_list, idx_sign r h128]
          exact ⟨rfl, Below.refl _ _⟩
        · rw [signI_hi (by omega)]
          exact indexRune_hi signsB r W (by omega) hrl sign_ascii (by decide) (by decide)
      have hp' := runeP_lt (x := r) hp
      have hnew : (∀ c ∈ s.data.toList, c.toNat < 128) → runeP p r = permOf (s.data.toList.take (pos + K)) := by
        intro h
        obtain ⟨h1, h2⟩ := hasc h
        rw [h1, h2, hall h]
      have HN := Lib.hid hnew
      clear hit hbw hWd hall hasc hnew hr hK
      cases hs : signI r with
      | none =>
        rw [hs] at cI
        simp only at cI
        have er : runeP p r = p := by unfold runeP; rw [hs]
        rw [er] at HN
        go_wp2_with (go_at_call 186; ((with_reducible refine cI.mono ?_); rintro e W2 ⟨rfl, hb2⟩))
        go_roundg g'
        case measure => omega
        case rel => exact ⟨pos + K, p, rfl, hp, (hb2.block _ hlW).trans hit2, hbw2.trans (hb2.mono hbw2.size), HN.out, by omega, hwn⟩
      | some k =>
        rw [hs] at cI
        simp only at cI
        have hk := signI_lt hs
        have er : runeP p r = p ||| 2 ^ k := by unfold runeP; rw [hs]
        rw [er] at HN hp'
        have k0 : (0 : Int) ≤ (k : Int) := by omega
        have hor := or_small p hp k hk
        obtain ⟨p2, hp2⟩ : ∃ p2, p ||| 2 ^ k = p2 := ⟨_, rfl⟩
        rw [hp2] at HN hp' hor
        obtain rfl | rfl | rfl | rfl | rfl | rfl | rfl : k = 0 ∨ k = 1 ∨ k = 2 ∨ k = 3 ∨ k = 4 ∨ k = 5 ∨ k = 6 := by omega
        all_goals (
          simp only [Nat.reducePow, Int.cast_ofNat_Int] at hor cI
          go_wp2_with (go_at_call 186; ((with_reducible refine cI.mono ?_); rintro e W2 ⟨rfl, hb2⟩))
          go_roundg g'
          case measure => omega
          case rel => exact ⟨pos + K, p2, rfl, hp', (hb2.block _ hlW).trans hit2, hbw2.trans (hb2.mono hbw2.size), HN.out, by omega, hwn⟩)
    · obtain rfl : pos = s.size := by omega
      have hnx : ∀ ty, (Instr.next (.pointer (some ⟨w.heap.size, 0, none⟩)) true ty).run Tryz.prog wr = _ := fun ty => Lib.run_next_end_at wr w.heap.size s s.size ty hit hlt
      have tx := fun W => ptext_some p hp W
      have hRp : R = if permT p = s.data.toList then ((p : Int), 0) else (0, 3) := by
        rw [← HR.out]
        unfold permR
        by_cases ha : ∀ c ∈ s.data.toList, c.toNat < 128
        · have e := hall ha
          rw [← hlen, List.take_length] at e
          rw [e]
        · have n1 : permT p ≠ s.data.toList := fun e => ha (fun c hc => permT_ascii p hp c (by rw [e]; exact hc))
          have n2 : permT (permOf s.data.toList) ≠ s.data.toList := fun e => ha (fun c hc => permT_ascii _ (permOf_lt _) c (by rw [e]; exact hc))
          rw [if_neg n1, if_neg n2]
      obtain ⟨S, hS⟩ : ∃ S : ByteArray, (⟨(permT p).toArray⟩ : ByteArray) = S := ⟨_, rfl⟩
      rw [hS] at tx
      have hq := str_neq S s
      have hiff : S = s ↔ permT p = s.data.toList := by rw [← hS]; exact toArr_eq _ _
      clear hS hall HR
      by_cases he : permT p = s.data.toList
      · rw [if_pos he] at hRp
        subst hRp
        have he2 := hiff.2 he
        rw [decide_eq_true he2, Bool.not_true] at hq
        have hq1 : (S.toList == s.toList) = true := by rw [he2]; exact beq_self_eq_true _
        have hq2 : S.toList = s.toList := by rw [he2]
        clear hiff he he2
        go_wp2_with (go_at_call 184; ((with_reducible refine (tx _).mono ?_); rintro e W2 ⟨rfl, hb2⟩))
        go_ret2
        exact ⟨rfl, hbw.trans (hb2.mono hbw.size)⟩
      · rw [if_neg he] at hRp
        subst hRp
        have he2 : ¬ S = s := fun h => he (hiff.1 h)
        rw [decide_eq_false he2, Bool.not_false] at hq
        have hq1 : (S.toList == s.toList) = false := by simpa using hq
        have hq2 : ¬ S.toList = s.toList := by simpa using hq
        clear hiff he he2
        go_wp2_with (go_at_call 184; ((with_reducible refine (tx _).mono ?_); rintro e W2 ⟨rfl, hb2⟩))
        go_ret2
        exact ⟨rfl, hbw.trans (hb2.mono hbw.size)⟩
end Go.Proofs.YtpjhjefjbkjhkaaGreatDoor
