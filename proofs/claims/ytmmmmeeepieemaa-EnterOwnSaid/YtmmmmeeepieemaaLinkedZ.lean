import Derived.Test.YtmmmmeeepieemaaBuY
import Derived.Test.YtmmmmeeepieemaaLinkZ
/- custodiankeep.linked: a closed fact. -/
namespace Go.Proofs.Ytmmmmeeepieemaa
open Go Go.RowKit Go.Shelf
set_option linter.unusedVariables false
set_option linter.unusedSimpArgs false
def nameX : ByteArray := ⟨#[120]⟩
def modX1 : ModV := ⟨[7], [], [⟨nameX, 0⟩], []⟩
def modX2 : ModV := ⟨[], [1, 2, 3], [], [⟨nameX, 1⟩]⟩
theorem nameX_ok : isNameB nameX = true := by kernel_rfl
theorem modsX_ok : LinkOk isNameB [modX1, modX2] where
  l := by decide
  m := by
    intro m hm
    simp at hm
    rcases hm with rfl | rfl
    · exact ⟨by decide, by decide, by decide, by decide, by unfold nums32 modX1; simp, by unfold nums32 modX1; simp, fun x hx => by simp [modX1] at hx; subst hx; exact ⟨nameX_ok, by decide, by decide⟩, by simp [modX1], fun x hx => by simp [modX1] at hx, by simp [modX1]⟩
    · exact ⟨by decide, by decide, by decide, by decide, by unfold nums32 modX2; simp, by unfold nums32 modX2; simp, fun x hx => by simp [modX2] at hx, by simp [modX2], fun x hx => by simp [modX2] at hx; subst hx; exact ⟨nameX_ok, by decide, by decide⟩, by simp [modX2]⟩
  nd := by simp [exNames, modX1, modX2]
  t := by decide
  im := by simp [exNames, imNames, modX1, modX2]
theorem modsX_mem : linkMem [modX1, modX2] = [⟨false, 7, zeroK⟩, ⟨false, 1, zeroK⟩, ⟨true, 0, ⟨5, 0, 1, 0, 1⟩⟩, ⟨true, 0, ⟨27, 1, 0, 1, 1⟩⟩] := by decide +kernel
theorem lit_slN {α : Type} [El α] {w : World} {T : TypeId} (cs : Array Value) (xs : List α) (hm : xs.length ≤ maxLen) (hc : cs.toList = cls xs) : Sl (w.alloc (.cells cs T)) (some ⟨w.heap.size, 0, none⟩) xs.length xs := by
  obtain ⟨ao, c, e, h, _⟩ := (own_lit (xs := xs) w T 0 (Nat.zero_le _) cs xs.length rfl hm hc).sl
  injection e with e _ _
  subst e
  exact h
set_option maxHeartbeats 4000000 in
set_option maxRecDepth 100000 in
theorem linked_any (w : World) : Calls Try.prog 12 #[] w fun e w' => e = .returned (.bool true) ∧ Below w.heap.size w w' := by
  obtain ⟨w5, hw5⟩ : ∃ w5, w5 = ((((w.alloc (.cells #[.int .i64 7] 3)).alloc (.cells #[.string ⟨#[120]⟩, .int .i64 0] 54)).alloc (.cells #[.int .i64 1, .int .i64 2, .int .i64 3] 3)).alloc (.cells #[.string ⟨#[120]⟩, .int .i64 1] 44)).alloc (.cells #[.slice (some ⟨w.heap.size, 0, none⟩) 1 1, .slice none 0 0, .slice (some ⟨w.heap.size + 1, 0, none⟩) 1 1, .slice none 0 0, .slice none 0 0, .slice (some ⟨w.heap.size + 1 + 1, 0, none⟩) 3 3, .slice none 0 0, .slice (some ⟨w.heap.size + 1 + 1 + 1, 0, none⟩) 1 1] 36) := ⟨_, rfl⟩
  have h5w : Below w.heap.size w w5 := by rw [hw5]; exact ext_alloc (ext_alloc (ext_alloc (ext_alloc (ext_alloc (Below.refl _ _) _) _) _) _) _
  have s0 : Sl w5 (some ⟨w.heap.size, 0, none⟩) 1 [(7 : Int)] := by
    rw [hw5]; exact (lit_slN (w := w) #[.int .i64 7] [(7 : Int)] (by decide) rfl).below (ext_alloc (ext_alloc (ext_alloc (ext_alloc (Below.refl _ _) _) _) _) _)
  have s1 : Sl w5 (some ⟨w.heap.size + 1, 0, none⟩) 1 [(⟨nameX, 0⟩ : NamV)] := by
    have := (lit_slN (w := w.alloc (.cells #[.int .i64 7] 3)) (T := 54) #[.string ⟨#[120]⟩, .int .i64 0] [(⟨nameX, 0⟩ : NamV)] (by decide) rfl)
    rw [World.size_alloc] at this
    rw [hw5]; exact this.below (ext_alloc (ext_alloc (ext_alloc (Below.refl _ _) _) _) _)
  have s2 : Sl w5 (some ⟨w.heap.size + 1 + 1, 0, none⟩) 3 [(1 : Int), 2, 3] := by
    have := (lit_slN (w := (w.alloc (.cells #[.int .i64 7] 3)).alloc (.cells #[.string ⟨#[120]⟩, .int .i64 0] 54)) (T := 3) #[.int .i64 1, .int .i64 2, .int .i64 3] [(1 : Int), 2, 3] (by decide) rfl)
    rw [World.size_alloc, World.size_alloc] at this
    rw [hw5]; exact this.below (ext_alloc (ext_alloc (Below.refl _ _) _) _)
  have s3 : Sl w5 (some ⟨w.heap.size + 1 + 1 + 1, 0, none⟩) 1 [(⟨nameX, 1⟩ : NamV)] := by
    have := (lit_slN (w := ((w.alloc (.cells #[.int .i64 7] 3)).alloc (.cells #[.string ⟨#[120]⟩, .int .i64 0] 54)).alloc (.cells #[.int .i64 1, .int .i64 2, .int .i64 3] 3)) (T := 44) #[.string ⟨#[120]⟩, .int .i64 1] [(⟨nameX, 1⟩ : NamV)] (by decide) rfl)
    rw [World.size_alloc, World.size_alloc, World.size_alloc] at this
    rw [hw5]; exact this.below (ext_alloc (Below.refl _ _) _)
  obtain ⟨R1, hR1⟩ : ∃ R : ModR, R = ⟨⟨some ⟨w.heap.size, 0, none⟩, 1, 1⟩, ⟨none, 0, 0⟩, ⟨some ⟨w.heap.size + 1, 0, none⟩, 1, 1⟩, ⟨none, 0, 0⟩⟩ := ⟨_, rfl⟩
  obtain ⟨R2, hR2⟩ : ∃ R : ModR, R = ⟨⟨none, 0, 0⟩, ⟨some ⟨w.heap.size + 1 + 1, 0, none⟩, 3, 3⟩, ⟨none, 0, 0⟩, ⟨some ⟨w.heap.size + 1 + 1 + 1, 0, none⟩, 1, 1⟩⟩ := ⟨_, rfl⟩
  have s4 : Sl w5 (some ⟨w.heap.size + 1 + 1 + 1 + 1, 0, none⟩) 2 [R1, R2] := by
    have := (lit_slN (w := (((w.alloc (.cells #[.int .i64 7] 3)).alloc (.cells #[.string ⟨#[120]⟩, .int .i64 0] 54)).alloc (.cells #[.int .i64 1, .int .i64 2, .int .i64 3] 3)).alloc (.cells #[.string ⟨#[120]⟩, .int .i64 1] 44)) (T := 36) #[.slice (some ⟨w.heap.size, 0, none⟩) 1 1, .slice none 0 0, .slice (some ⟨w.heap.size + 1, 0, none⟩) 1 1, .slice none 0 0, .slice none 0 0, .slice (some ⟨w.heap.size + 1 + 1, 0, none⟩) 3 3, .slice none 0 0, .slice (some ⟨w.heap.size + 1 + 1 + 1, 0, none⟩) 1 1] [R1, R2] (by show 2 ≤ maxLen; decide) (by rw [hR1, hR2]; rfl))
    rw [World.size_alloc, World.size_alloc, World.size_alloc, World.size_alloc] at this
    rw [hw5]; exact this
  have i64s : ∀ n : Int, -9223372036854775808 ≤ n → n ≤ 9223372036854775807 → I64 n := fun n a b => ⟨a, b⟩
  have hm1 : R1.has w5 modX1 := by
    rw [hR1]
    exact ⟨s0, Sl.nil _ _, s1, Sl.nil _ _, ⟨Nat.le_refl _, Nat.le_refl _, Nat.le_refl _, Nat.le_refl _⟩, fun n hn => by simp [modX1] at hn; subst hn; unfold I64; omega, fun n hn => by simp [modX1] at hn, fun x hx => by simp [modX1] at hx; subst hx; exact ⟨by decide, by unfold I64; simp⟩, fun x hx => by simp [modX1] at hx⟩
  have hm2 : R2.has w5 modX2 := by
    rw [hR2]
    exact ⟨Sl.nil _ _, s2, Sl.nil _ _, s3, ⟨Nat.le_refl _, Nat.le_refl _, Nat.le_refl _, Nat.le_refl _⟩, fun n hn => by simp [modX2] at hn, fun n hn => by simp [modX2] at hn; unfold I64; omega, fun x hx => by simp [modX2] at hx, fun x hx => by simp [modX2] at hx; subst hx; exact ⟨by decide, by unfold I64; simp⟩⟩
  have hmods : Mods w5 (some ⟨w.heap.size + 1 + 1 + 1 + 1, 0, none⟩) 2 [R1, R2] [modX1, modX2] := ⟨s4, rfl, fun i r m h1 h2 => by
    match i with
    | 0 => simp at h1 h2; subst h1 h2; exact hm1
    | 1 => simp at h1 h2; subst h1 h2; exact hm2
    | i + 2 => simp at h1⟩
  have lk := link_good _ 2 2 _ _ w5 hmods modsX_ok
  unfold LinkRes at lk
  rw [modsX_mem] at lk
  have hq : ∀ W, (binOp .eql 42 (.agg #[.bool false, .int .i64 7, .int .i64 0, .int .i64 0, .int .i64 0, .int .i64 0, .int .i64 0]) (.agg #[.bool false, .int .i64 7, .int .i64 0, .int .i64 0, .int .i64 0, .int .i64 0, .int .i64 0])).run Try.prog W = .ok (.bool true) W := fun W => by
    rw [run_eql_struct]
    go_simp
  have LK := Lib.hid lk
  have HW5 := Lib.hid hw5
  have H5W := Lib.hid h5w
  clear lk hw5 h5w s0 s1 s2 s3 s4 hm1 hm2 hmods hR1 hR2 i64s
  go_enter Try.func12, Try.ntmps12
  go_upto_region 2 with (go_at_call 11; rw [← HW5.out]; ((with_reducible refine (LK.out).mono ?_); rintro e w6 ⟨vm, vp, ve, rfl, om, op, oe, hb⟩; obtain ⟨pa, pn, pc, rfl⟩ := own_shape op; obtain ⟨ea, en, ec, rfl⟩ := own_shape oe; have OM := Lib.hid om; have HB6 := Lib.hid hb; obtain ⟨ma, mn, mc, rfl⟩ := own_shape om; clear om op oe hb))
  have om := OM.out
  obtain ⟨g, c', hv, hg1, hg2, _⟩ : ∃ g cap, (Value.slice ma mn mc) = .slice (some ⟨g, 0, none⟩) 4 cap ∧ w5.heap.size ≤ g ∧ g < w6.heap.size ∧ 4 ≤ cap := by
    rcases om.form with ⟨_, h⟩ | ⟨g, cap, h, h1, h2, h3, h4⟩
    · cases h
    · exact ⟨g, cap, h, h1, h2, h3⟩
  injection hv with e1 e2 e3
  subst e1 e2 e3
  obtain ⟨w7, hw7⟩ : ∃ w7, w7 = w6.alloc (.cells #[.slice (some ⟨g, 0, none⟩) 4 mc, .slice pa pn pc, .slice ea en ec] 27) := ⟨_, rfl⟩
  rw [← hw7]
  have r7 : Below w6.heap.size w6 w7 := by rw [hw7]; exact ext_alloc (Below.refl _ _) _
  have x7 : Bk w7 w6.heap.size 27 #[.slice (some ⟨g, 0, none⟩) 4 mc, .slice pa pn pc, .slice ea en ec] := by rw [hw7]; exact bk_new _ _ _
  obtain ⟨i0, i1, i2⟩ := cells3 x7
  have iL := x7.lt
  have om7 := om.below r7
  have gL := Nat.lt_of_lt_of_le hg2 r7.size
  have cc : ∀ (j : Nat) (u : Value), (cls [(⟨false, 7, zeroK⟩ : ValV), ⟨false, 1, zeroK⟩, ⟨true, 0, ⟨5, 0, 1, 0, 1⟩⟩, ⟨true, 0, ⟨27, 1, 0, 1, 1⟩⟩])[j]? = some u → w7.cell? ⟨g, j, none⟩ = some u := fun j u h => by
    have := om7.cells rfl j u h
    simpa only [Addr.add_lit, Nat.zero_add] using this
  have a0 := cc 0 _ rfl
  have a1 := cc 1 _ rfl
  have a2 := cc 2 _ rfl
  have a3 := cc 3 _ rfl
  have a4 := cc 4 _ rfl
  have a5 := cc 5 _ rfl
  have a6 := cc 6 _ rfl
  have a14 := cc 14 _ rfl
  have a20 := cc 20 _ rfl
  have a21 := cc 21 _ rfl
  simp only [zeroK] at a0 a1 a2 a3 a4 a5 a6 a14 a20 a21
  have R7 := Lib.hid r7
  clear cc om om7 hw7 x7 r7 OM LK HW5
  go_wp2
  go_ret
  exact ⟨rfl, ext_trans H5W.out (ext_trans HB6.out R7.out)⟩
end Go.Proofs.Ytmmmmeeepieemaa
