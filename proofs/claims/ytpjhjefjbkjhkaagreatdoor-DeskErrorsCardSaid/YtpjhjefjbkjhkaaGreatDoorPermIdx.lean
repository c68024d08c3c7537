/- strings.IndexRune at a rune that is no ASCII one, in an ASCII text: none. -/
import Derived.Test.YtpjhjefjbkjhkaaGreatDoorShelf
import Derived.Laws.Runes
import Derived.BigQuiet
import Derived.WalkMore
import Derived.Test.YtpjhjefjbkjhkaaGreatDoorRows
import Derived.WalkKit
import Derived.WalkSpells
namespace Go.Proofs.YtpjhjefjbkjhkaaGreatDoor
open Go Go.Shelf Go.RowKit Go.Lib Go.Proofs
set_option linter.unusedVariables false
set_option linter.unusedSimpArgs false
theorem decode_loI (s : ByteArray) (pos : Nat) (h : (s.get! pos).toNat < 128) : Utf8.decode s pos = ((s.get! pos).toNat, 1) := by
  unfold Utf8.decode
  simp only [Nat.add_zero]
  rw [if_pos h]
theorem get_loI (s : ByteArray) {k : Nat} (h : k < s.size) : s.get! k = s[k] := by
  show s.data[k]! = _
  rw [getElem!_pos s.data k h]
  rfl
theorem get_memI (s : ByteArray) {k : Nat} (h : k < s.size) : s[k] ∈ s.data.toList := by
  show s.data[k] ∈ _
  exact Array.getElem_mem_toList _
theorem indexByte_none : ∀ {l : List UInt8} {c : UInt8}, (∀ b ∈ l, b.toNat < 128) → 128 ≤ c.toNat → Lib.indexByte l c = -1
  | [], _, _, _ => rfl
  | b :: l, c, h, hc => by
    have h1 := h b List.mem_cons_self
    have h2 : (b == c) = false := by
      apply beq_false_of_ne
      intro e
      rw [e] at h1
      omega
    rw [Lib.indexByte, h2, indexByte_none (fun x hx => h x (List.mem_cons_of_mem _ hx)) hc]
    rfl
set_option maxHeartbeats 4000000 in
set_option maxRecDepth 1000000 in
theorem indexRune_hi (s : ByteArray) (r : Nat) (w : World) (h128 : 128 ≤ r) (hr : r ≤ 1114111) (hA : ∀ c ∈ s.data.toList, c.toNat < 128) (hs4 : 4 ≤ s.size) (hs : s.size ≤ 1000) :
    Calls Tryz.prog 186 #[.string s, .int .i32 r] w fun e w' => e = .returned (.int .i64 (-1)) ∧ Below w.heap.size w w' := by
  have q0 : (0 : Int) ≤ (r : Int) := by omega
  have q1 : ¬ ((r : Int) < 128) := by omega
  by_cases h5 : r = 65533
  · subst h5
    clear h128 hr
    go_enter Tryz.func186, Tryz.ntmps186
    go_wp2
    go_loopg [] s.size (fun gk wx => ∃ pos : Nat, wx.heap[w.heap.size]? = some (.stringIter s pos) ∧ Below w.heap.size w wx ∧ s.size ≤ pos + gk ∧ pos ≤ s.size)
    case atStart => exact ⟨0, World.iter_heap w s 0, (Below.refl _ w).alloc (Nat.le_refl _) _, by omega, by omega⟩
    case round =>
      obtain ⟨pos, hit, hbw, hfu, hps⟩ := hrel
      by_cases hlt : pos < s.size
      · obtain ⟨g', rfl⟩ : ∃ g', gk = g' + 1 := ⟨gk - 1, by omega⟩
        have hnx : ∀ ty, (Instr.next (.pointer (some ⟨w.heap.size, 0, none⟩)) true ty).run Tryz.prog wr = _ := fun ty => Lib.run_next_any_at wr w.heap.size s pos ty hit hlt
        have hx := hA _ (get_memI s hlt)
        rw [← get_loI s hlt] at hx
        rw [decode_loI s pos hx] at hnx
        obtain ⟨x, hxd⟩ : ∃ x, (s.get! pos).toNat = x := ⟨_, rfl⟩
        rw [hxd] at hx hnx
        have hit2 := Lib.iterAt_heap wr w.heap.size s pos (pos + 1) hit
        have hbw2 := Lib.below_iterAt hbw (k := w.heap.size) (Nat.le_refl _) s (pos + 1)
        obtain ⟨W, hWd⟩ : ∃ W, wr.iterAt w.heap.size s (pos + 1) = W := ⟨_, rfl⟩
        simp only at hnx
        rw [hWd] at hnx hit2 hbw2
        have x5 : ¬ ((x : Int) = 65533) := by omega
        have x6 : ((x : Int) == 65533) = false := beq_false_of_ne x5
        clear hit hbw hWd
        go_wp2
        go_roundg g'
        case measure => omega
        case rel => exact ⟨pos + 1, hit2, hbw2, by omega, by omega⟩
      · obtain rfl : pos = s.size := by omega
        have hnx : ∀ ty, (Instr.next (.pointer (some ⟨w.heap.size, 0, none⟩)) true ty).run Tryz.prog wr = _ := fun ty => Lib.run_next_end_at wr w.heap.size s s.size ty hit hlt
        go_wp2
        go_ret
        exact ⟨rfl, hbw⟩
  · have h5b : ((r : Int) == 65533) = false := beq_false_of_ne (by omega)
    have h5c : ¬ ((r : Int) = 65533) := by omega
    have cV := Tryz.utf8_ValidRune (r : Int) w
    cases hv : Lib.validRune (r : Int) with
    | false =>
      rw [hv] at cV
      go_enter Tryz.func186, Tryz.ntmps186
      go_wp2_with (go_at_call 225; ((with_reducible refine cV.mono ?_); rintro e w' ⟨rfl, hw'⟩; subst w'))
      go_ret
      exact ⟨rfl, Below.refl _ _⟩
    | true =>
      rw [hv] at cV
      have hu : Utf8.valid (r : Int) = true := by
        rw [validRune_eq]
        exact hv
      obtain ⟨e1, e2, e3⟩ := encode_facts (r : Int) hu (by omega)
      obtain ⟨E, hE⟩ : ∃ E, Utf8.encode (r : Int) = E := ⟨_, rfl⟩
      rw [hE] at e1 e2 e3
      have hcv : ∀ W, (convert 21 9 (.int .i32 (r : Int))).run Tryz.prog W = .ok (.string E) W := fun W => by rw [run_convert_int_string W 21 9 .i32 (r : Int) (by rw [Tryz.underlying21]; rfl) Tryz.underlying9, hE]
      obtain ⟨k, hk⟩ : ∃ k, E.size = k + 1 := ⟨E.size - 1, by omega⟩
      have e4 := e3 (by omega)
      have kE : k < E.size := by omega
      have ks : k < s.size := by omega
      have e5 : 128 ≤ (E[k]).toNat := by
        have : E.size - 1 = k := by omega
        simp only [this] at e4
        exact e4
      have e6 := hA _ (get_memI s ks)
      have b1 : (((s[k]).toNat : Int) != ((E[k]).toNat : Int)) = true := by simp; omega
      have k1 : ((E.size : Nat) : Int) - 1 = (k : Int) := by omega
      have k2 : IntKind.i64.wrap (((E.size : Nat) : Int) - 1) = (k : Int) := by rw [k1, IntKind.wrap_i64]; omega
      have k3 : (0 : Int) ≤ (k : Int) := by omega
      have k4 : (k : Int) < (s.size : Int) := by omega
      have k5 : (k : Int) < (E.size : Int) := by omega
      have k6 : IntKind.i64.wrap ((k : Int) + 1) = (k : Int) + 1 := by rw [IntKind.wrap_i64]; omega
      have k7 : ((k : Int) + 1).toNat = k + 1 := by omega
      have k8 : (0 : Int) ≤ (k : Int) + 1 := by omega
      have k9 : (k : Int) + 1 ≤ (s.size : Int) := by omega
      have k10 : k + 1 ≤ s.size := by omega
      have cI := fun W => Tryz.strings_IndexByte (s.extract (k + 1) s.size) ((E[k]).toNat : Int) W
      have hib : Lib.indexByte (s.extract (k + 1) s.size).data.toList ((E[k]).toNat : Int).toNat.toUInt8 = -1 := by
        refine indexByte_none (fun b hb => hA b (mem_extract hb)) ?_
        have : ((E[k]).toNat : Int).toNat.toUInt8 = E[k] := by simp
        rw [this]; exact e5
      rw [hib] at cI
      clear e1 e2 e3 e4 hib hk
      go_enter Tryz.func186, Tryz.ntmps186
      go_wp2_with (go_at_call 225; ((with_reducible refine cV.mono ?_); rintro e w' ⟨rfl, hw'⟩; subst w'))
      go_step3
      go_wp2
      go_loopg [9] 1 (fun gk s9 wx => s9 = .int .i64 (k : Int) ∧ wx = w)
      case atStart => exact ⟨rfl, rfl⟩
      case round =>
        obtain ⟨rfl, rfl⟩ := hrel
        go_wp2
        go_step3
        go_wp2
        repeat (refine wp_seq ?_)
        go_quiet (fail)
        go_wp2
        repeat (refine wp_seq ?_)
        go_quiet (first | (go_at_call 224; exact (cI _).mono fun _ _ h => ⟨h.1, _, h.2⟩))
        go_wp2
        rw [Exit.noGoto_ret]
        simp only [Exit.inBlock, Exit.then]
        rw [Exit.noGoto_ret]
        simp only [Exit.inBlock, Exit.then]
        go_ret
        exact ⟨rfl, below_drewNm _ _⟩
end Go.Proofs.YtpjhjefjbkjhkaaGreatDoor
