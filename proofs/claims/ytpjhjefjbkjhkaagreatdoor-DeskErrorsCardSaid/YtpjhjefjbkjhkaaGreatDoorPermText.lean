/- What perm.Text and perm.Read compute. -/
import Derived.Test.YtpjhjefjbkjhkaaGreatDoorShelf
import Derived.Lib.Hide
import Derived.Test.YtpjhjefjbkjhkaaGreatDoorPermMath
import Derived.Test.YtpjhjefjbkjhkaaGreatDoorPermMap
import Derived.Test.YtpjhjefjbkjhkaaGreatDoorPermIdx
namespace Go.Proofs.YtpjhjefjbkjhkaaGreatDoor
open Go Go.Shelf Go.RowKit Go.Lib Go.Proofs
set_option linter.unusedVariables false
set_option linter.unusedSimpArgs false
abbrev signsB : ByteArray := ⟨#[114, 119, 120, 82, 87, 115, 117]⟩
theorem signsB_list : signsB.data.toList = signsL := rfl
theorem and1_small : ∀ n : Nat, n < 128 → bits .and .i64 (n : Int) 1 = ((n % 2 : Nat) : Int) := by decide +kernel
theorem or_small : ∀ p : Nat, p < 128 → ∀ k : Nat, k < 7 → bits .or .i64 (p : Int) ((2 ^ k : Nat) : Int) = ((p ||| 2 ^ k : Nat) : Int) := by decide +kernel
theorem idx_sign : ∀ x : Nat, x < 128 → Lib.indexByte signsL ((x : Int)).toNat.toUInt8 = (match signI x with | some k => (k : Int) | none => -1) := by decide +kernel
theorem sign_ascii : ∀ c ∈ signsB.data.toList, c.toNat < 128 := by decide
theorem sign_some : ∀ c ∈ signsB.data.toList, ∃ k, k < 7 ∧ signI c.toNat = some k := by
  intro c hc
  have h : ∀ c ∈ signsL, (signI c.toNat).isSome = true := by decide
  obtain ⟨k, hk⟩ := Option.isSome_iff_exists.1 (h c hc)
  exact ⟨k, signI_lt hk, hk⟩
/-- One sign. -/
theorem tsign_any (p : Nat) (hp : p < 128) (g x k : Nat) (hx : x < 128) (hk : signI x = some k) (W : World) (hB : W.cell? ⟨g, 0, none⟩ = some (.int .i64 (p : Int))) :
    Calls Tryz.prog 223 #[.int .i32 (x : Int), .pointer (some ⟨g, 0, none⟩)] W fun e w' => e = .returned (.int .i32 (if keptS p (UInt8.ofNat x) = true then (x : Int) else -1)) ∧ Below W.heap.size W w' := by
  have hk7 := signI_lt hk
  have cI := fun W => Tryz.strings_IndexRune_ascii signsB (x : Int) W (by omega) (by omega)
  rw [signsB_list, idx_sign x hx, hk] at cI
  simp only at cI
  have hx8 : (UInt8.ofNat x).toNat = x := by simp; omega
  have e1 : keptS p (UInt8.ofNat x) = p.testBit k := by unfold keptS; rw [hx8, hk]
  rw [e1]
  have hd : (p : Int) / 2 ^ k = ((p / 2 ^ k : Nat) : Int) := by simp
  have hlt : p / 2 ^ k < 128 := Nat.lt_of_le_of_lt (Nat.div_le_self _ _) hp
  have h1 : bits .and .i64 ((p : Int) / 2 ^ k) 1 = ((p / 2 ^ k % 2 : Nat) : Int) := by rw [hd]; exact and1_small _ hlt
  have h2 : p.testBit k = decide (p / 2 ^ k % 2 = 1) := by rw [Nat.testBit_eq_decide_div_mod_eq]
  have k0 : (0 : Int) ≤ (k : Int) := by omega
  have k1 : (k : Int) ≤ 64 := by omega
  rw [h2]
  obtain ⟨b, hb⟩ : ∃ b, p / 2 ^ k % 2 = b := ⟨_, rfl⟩
  have hb2 : b < 2 := by rw [← hb]; exact Nat.mod_lt _ (by decide)
  rw [hb] at h1 ⊢
  clear hk hd hlt h2 hb e1
  obtain ⟨q, hq⟩ : ∃ q, (p : Int) / 2 ^ k = q := ⟨_, rfl⟩
  rw [hq] at h1
  show Calls Tryz.prog 223 #[.int .i32 (x : Int), .pointer (some ⟨g, 0, none⟩)] W _
  obtain rfl | rfl : b = 0 ∨ b = 1 := by omega
  all_goals (
    go_enter Tryz.func223, Tryz.ntmps223
    go_upto_region 1 with (fail)
    go_quiet (first | (go_at_call 186; exact (cI _).mono fun _ _ h => ⟨h.1, 0, h.2⟩) | (go_at_call 186; exact (cI _).mono fun _ _ h => ⟨h.1, _, h.2⟩))
    go_wp2
    go_ret
    exact ⟨rfl, below_drewNm _ _⟩)
theorem map_signs (g : Nat) (lb : Array Value) (eg : ∀ args w, (callFunc g args).run Tryz.prog w = .ok (.enter g args) w) (keep : Nat → Bool) (w : World)
    (hf : ∀ (W : World) (x : Nat), (∃ c ∈ signsB.data.toList, c.toNat = x) → Below w.heap.size w W → Calls Tryz.prog g (#[encR x] ++ lb) W fun e w' => e = .returned (.int .i32 (if keep x = true then (x : Int) else -1)) ∧ Below W.heap.size W w') :
    Calls Tryz.prog 222 #[.func (.func g) #[] lb, .string signsB] w fun e w' => e = .returned (.string ⟨(keptL keep signsB.data.toList).toArray⟩) ∧ Below w.heap.size w w' :=
  map_keeps Tryz.lays230 Tryz.Builder_Extra_230 g lb eg keep signsB w (by decide) sign_ascii hf
theorem ptext_none (p : Int) (h : p < 0 ∨ 127 < p) (w : World) : Calls Tryz.prog 184 #[.int .i64 p] w fun e w' => e = .returned (.tuple #[.string ⟨#[]⟩, .int .i64 1]) ∧ Below w.heap.size w w' := by
  rcases h with h | h
  · go_enter Tryz.func184, Tryz.ntmps184
    go_wp2
    go_ret2
    exact ⟨rfl, (Below.refl _ _).alloc (Nat.le_refl _) _⟩
  · have h0 : ¬ p < 0 := by omega
    go_enter Tryz.func184, Tryz.ntmps184
    go_wp2
    go_ret2
    exact ⟨rfl, (Below.refl _ _).alloc (Nat.le_refl _) _⟩
set_option maxHeartbeats 4000000 in
theorem ptext_some (p : Nat) (h : p < 128) (w : World) : Calls Tryz.prog 184 #[.int .i64 (p : Int)] w fun e w' => e = .returned (.tuple #[.string ⟨(permT p).toArray⟩, .int .i64 0]) ∧ Below w.heap.size w w' := by
  have h0 : ¬ (p : Int) < 0 := by omega
  have h1 : ¬ (127 < (p : Int)) := by omega
  obtain ⟨w1, hw1⟩ : ∃ w1, w1 = w.alloc (.cells #[.int .i64 (p : Int)] 3) := ⟨_, rfl⟩
  have c1 : w1.cell? ⟨w.heap.size, 0, none⟩ = some (.int .i64 (p : Int)) := by rw [hw1]; simp
  have b1 : Below w.heap.size w w1 := by rw [hw1]; exact (Below.refl _ _).alloc (Nat.le_refl _) _
  have l1 := World.block_lt_of_cell? w1 _ c1
  have mp := map_signs 223 #[.pointer (some ⟨w.heap.size, 0, none⟩)] (enters_of Tryz.func223 (by kernel_rfl) rfl) (fun x => keptS p (UInt8.ofNat x)) w1 (fun W x hx hb => by
    obtain ⟨c, hc, rfl⟩ := hx
    obtain ⟨k, _, hk⟩ := sign_some c hc
    exact tsign_any p h w.heap.size c.toNat k (sign_ascii c hc) hk W ((hb.cell l1).trans c1))
  have hkl : keptL (fun x => keptS p (UInt8.ofNat x)) signsB.data.toList = signsL.filter (keptS p) := by
    unfold keptL
    rw [signsB_list]
    apply List.filter_congr
    intro c _
    show keptS p (UInt8.ofNat c.toNat) = _
    rw [UInt8.ofNat_toNat]
  rw [hkl] at mp
  obtain ⟨L, hL⟩ : ∃ L, signsL.filter (keptS p) = L := ⟨_, rfl⟩
  have hT : permT p = if L.isEmpty then [45] else L := by unfold permT; rw [hL]
  rw [hL] at mp
  rw [hT]
  have HW1 := Lib.hid hw1
  have MP := Lib.hid mp
  have hmf : ∀ (fn : Fn) (first cap : Array Value) (w : World), (Instr.makeFunc fn first cap).run Tryz.prog w = .ok (.func fn first cap) w := fun _ _ _ _ => rfl
  clear hw1 hkl mp hL hT
  cases hE : L with
  | nil =>
    subst hE
    go_enter Tryz.func184, Tryz.ntmps184
    go_upto_region 1 with (fail)
    rw [← HW1.out]
    go_wp2_with (go_at_call 222; ((with_reducible refine MP.out.mono ?_); rintro e w2 ⟨rfl, hb2⟩))
    go_ret2
    exact ⟨rfl, b1.trans (hb2.mono b1.size)⟩
  | cons x xs =>
    rw [hE] at MP
    obtain ⟨S, hS⟩ : ∃ S : ByteArray, (⟨(x :: xs).toArray⟩ : ByteArray) = S := ⟨_, rfl⟩
    rw [hS] at MP
    have q1 : S.toList.isEmpty = false := by rw [← hS, ByteArray.toList_eq]; rfl
    simp only [List.isEmpty_cons, Bool.false_eq_true, if_false]
    rw [hS]
    go_enter Tryz.func184, Tryz.ntmps184
    go_upto_region 1 with (fail)
    rw [← HW1.out]
    go_wp2_with (go_at_call 222; ((with_reducible refine MP.out.mono ?_); rintro e w2 ⟨rfl, hb2⟩))
    go_ret2
    exact ⟨rfl, b1.trans (hb2.mono b1.size)⟩
end Go.Proofs.YtpjhjefjbkjhkaaGreatDoor
