/- Seeking: a key is added, with all that one comes to by it. -/
import Derived.Test.YtcdcmbehnccicaaReachB
namespace Go.Proofs.Ytcdcmbehnccicaa
open Go.RowKit
open Go.Maps (Keyed)
set_option linter.unusedVariables false
set_option linter.unusedSimpArgs false
/-- What adding a key leaves. -/
def AddPost (gs b : Nat) (d : Bool) (mem : List ValV) (ma : Option Addr) (mc : Nat) (S : List KeyV) (k : KeyV) (W : World) (e : Ending) (w' : World) : Prop :=
  e = .returned (.tuple #[]) ∧ ∃ S', SeekSt gs b d mem ma mc S' w' ∧ AddR d mem S k S' ∧ Grw b W w'
/-- .. and a value. -/
def ValPost (gs b : Nat) (d : Bool) (mem : List ValV) (ma : Option Addr) (mc : Nat) (S : List KeyV) (v : ValV) (W : World) (e : Ending) (w' : World) : Prop :=
  e = .returned (.tuple #[]) ∧ ∃ S', SeekSt gs b d mem ma mc S' w' ∧ Grw b W w' ∧ (v.is = true → AddR d mem S v.k S') ∧ (v.is = false → S' = S)
section
variable {gs b : Nat} {d : Bool} {mem : List ValV} {ma : Option Addr} {mc : Nat}
set_option maxHeartbeats 4000000 in
theorem val_of {S : List KeyV} {v : ValV} {W : World} (h : SeekSt gs b d mem ma mc S W) (ha : v.is = true → ∀ W1, SeekSt gs b d mem ma mc S W1 → Calls Try.prog 31 #[.pointer (some ⟨gs, 0, none⟩), v.k.val] W1 (AddPost gs b d mem ma mc S v.k W1)) :
    Calls Try.prog 32 #[.pointer (some ⟨gs, 0, none⟩), v.val] W (ValPost gs b d mem ma mc S v W) := by
  obtain ⟨is, n, p, bb, l, a, s⟩ := v
  simp only [ValV.val, KeyV.val] at ha ⊢
  cases is
  · have HS := Lib.hid h
    clear ha h
    go_enter Try.func32, Try.ntmps32
    go_wp2
    refine bodyPost_ret (results_none rfl _ _ _) rfl ?_
    exact ⟨rfl, S, HS.out.below (ext_alloc (Below.refl _ _) _), grw_of (ext_alloc (Below.refl _ _) _), (fun e => by cases e), fun _ => rfl⟩
  · have HA := Lib.hid (ha rfl)
    have HS := Lib.hid h
    clear ha h
    go_enter Try.func32, Try.ntmps32
    go_wp2_with (go_at_call 31; ((with_reducible refine (HA.out _ (HS.out.below (ext_alloc (Below.refl _ _) _))).mono ?_); rintro e w' ⟨rfl, S', h1, h2, h3⟩; have H1 := Lib.hid h1; have H2 := Lib.hid h2; have H3 := Lib.hid h3; clear h1 h2 h3))
    refine bodyPost_ret (results_none rfl _ _ _) rfl ?_
    exact ⟨rfl, S', H1.out, grw_trans (grw_of (ext_alloc (Below.refl _ _) _)) H3.out, fun _ => H2.out, fun e => by cases e⟩
set_option maxHeartbeats 4000000 in
theorem there_any {S : List KeyV} {k : KeyV} {W : World} (hst : SeekSt gs b d mem ma mc S W) (hk : k.Ok) (hin : k ∈ S) : Calls Try.prog 31 #[.pointer (some ⟨gs, 0, none⟩), k.val] W (AddPost gs b d mem ma mc S k W) := by
  have hr := AddR.there (d := d) (mem := mem) hin
  have HR := Lib.hid hr
  clear hr
  obtain ⟨p, bb, l, a, s⟩ := k
  have hlk := fun (W1 : World) (h1 : SeekSt gs b d mem ma mc S W1) => h1.look hk.wf (fun x hx => (h1.wf x hx).wf)
  simp only [decide_eq_true (show (_ : Prop) from hin)] at hlk
  simp only [KeyV.val] at hlk ⊢
  obtain ⟨w1, hw1⟩ : ∃ w1, w1 = W.alloc (.cells #[.int .i64 p, .int .i64 bb, .int .i64 l, .int .i64 a, .int .i64 s] 23) := ⟨_, rfl⟩
  have h1w : Below W.heap.size W w1 := by rw [hw1]; exact ext_alloc (Below.refl _ _) _
  have k1 : Bk w1 W.heap.size 23 #[.int .i64 p, .int .i64 bb, .int .i64 l, .int .i64 a, .int .i64 s] := by rw [hw1]; exact bk_new _ _ _
  have st1 := hst.below h1w
  have hf : ∀ W1, Below w1.heap.size w1 W1 → W1.cell? ⟨gs, 0, none⟩ = some (.map (some b)) ∧ (W1.cell? ⟨W.heap.size, 0, none⟩ = some (.int .i64 p) ∧ W1.cell? ⟨W.heap.size, 1, none⟩ = some (.int .i64 bb) ∧ W1.cell? ⟨W.heap.size, 2, none⟩ = some (.int .i64 l) ∧ W1.cell? ⟨W.heap.size, 3, none⟩ = some (.int .i64 a) ∧ W1.cell? ⟨W.heap.size, 4, none⟩ = some (.int .i64 s)) ∧ (Instr.lookup 57 (.map (some b)) (.agg #[.int .i64 p, .int .i64 bb, .int .i64 l, .int .i64 a, .int .i64 s]) true).run Try.prog W1 = .ok (.tuple #[.agg #[], .bool true]) W1 := fun W1 hb =>
    ⟨(st1.below hb).bk.cell 0, cells5 (bk_keep hb k1), hlk W1 (st1.below hb)⟩
  have HF := Lib.hid hf
  have ST := Lib.hid hst
  have HW1 := Lib.hid hw1
  have H1W := Lib.hid h1w
  have K1 := Lib.hid k1
  clear hf hst hw1 h1w k1 st1 hlk
  go_enter Try.func31, Try.ntmps31
  go_upto_region 1 with (fail)
  rw [← HW1.out]
  refine wp_region_held_drew (S := fun W1 => Below w1.heap.size w1 W1) (by kernel_rfl) (ext_drew (Below.refl _ _)) (fun hHeld => ?_)
  refine wpAnyH_take (i := 0) (v := ?_) rfl (by kernel_rfl) (by kernel_rfl) (by kernel_rfl) (fun _ _ _ h => h) (Or.inl ⟨by rfl, ?hyT⟩) hHeld ?restT
  case hyT => (intro wS hSw; obtain ⟨q0, ⟨q1, q2, q3, q4, q5⟩, q6⟩ := HF.out wS hSw; go_simp; try with_reducible rfl)
  case restT =>
    change wpAnyH _ _ _ _ _ _ _ (Act.mk _ _) _; try simp only [Act.put, List.setIfInBounds_toArray, List.set_cons_zero, List.set_cons_succ]
    refine wpAnyH_take (i := 1) (v := ?_) rfl (by kernel_rfl) (by kernel_rfl) (by kernel_rfl) (fun _ _ _ h => h) (Or.inl ⟨by rfl, ?hyT⟩) hHeld ?restT
    case hyT => (intro wS hSw; obtain ⟨q0, ⟨q1, q2, q3, q4, q5⟩, q6⟩ := HF.out wS hSw; go_simp; try with_reducible rfl)
    case restT =>
      change wpAnyH _ _ _ _ _ _ _ (Act.mk _ _) _; try simp only [Act.put, List.setIfInBounds_toArray, List.set_cons_zero, List.set_cons_succ]
      refine wpAnyH_take (i := 2) (v := ?_) rfl (by kernel_rfl) (by kernel_rfl) (by kernel_rfl) (fun _ _ _ h => h) (Or.inl ⟨by rfl, ?hyT⟩) hHeld ?restT
      case hyT => (intro wS hSw; obtain ⟨q0, ⟨q1, q2, q3, q4, q5⟩, q6⟩ := HF.out wS hSw; go_simp; try with_reducible rfl)
      case restT =>
        change wpAnyH _ _ _ _ _ _ _ (Act.mk _ _) _; try simp only [Act.put, List.setIfInBounds_toArray, List.set_cons_zero, List.set_cons_succ]
        refine wpAnyH_take (i := 3) (v := ?_) rfl (by kernel_rfl) (by kernel_rfl) (by kernel_rfl) (fun _ _ _ h => h) (Or.inl ⟨by rfl, ?hyT⟩) hHeld ?restT
        case hyT => (intro wS hSw; obtain ⟨q0, ⟨q1, q2, q3, q4, q5⟩, q6⟩ := HF.out wS hSw; go_simp; try with_reducible rfl)
        case restT =>
          change wpAnyH _ _ _ _ _ _ _ (Act.mk _ _) _; try simp only [Act.put, List.setIfInBounds_toArray, List.set_cons_zero, List.set_cons_succ]
          refine wpAnyH_take (i := 4) (v := ?_) rfl (by kernel_rfl) (by kernel_rfl) (by kernel_rfl) (fun _ _ _ h => h) (Or.inl ⟨by rfl, ?hyT⟩) hHeld ?restT
          case hyT => (intro wS hSw; obtain ⟨q0, ⟨q1, q2, q3, q4, q5⟩, q6⟩ := HF.out wS hSw; go_simp; try with_reducible rfl)
          case restT =>
            change wpAnyH _ _ _ _ _ _ _ (Act.mk _ _) _; try simp only [Act.put, List.setIfInBounds_toArray, List.set_cons_zero, List.set_cons_succ]
            refine wpAnyH_take (i := 5) (v := ?_) rfl (by kernel_rfl) (by kernel_rfl) (by kernel_rfl) (fun _ _ _ h => h) (Or.inl ⟨by rfl, ?hyT⟩) hHeld ?restT
            case hyT => (intro wS hSw; obtain ⟨q0, ⟨q1, q2, q3, q4, q5⟩, q6⟩ := HF.out wS hSw; go_simp; try with_reducible rfl)
            case restT =>
              change wpAnyH _ _ _ _ _ _ _ (Act.mk _ _) _; try simp only [Act.put, List.setIfInBounds_toArray, List.set_cons_zero, List.set_cons_succ]
              refine wpAnyH_take (i := 6) (v := ?_) rfl (by kernel_rfl) (by kernel_rfl) (by kernel_rfl) (fun _ _ _ h => h) (Or.inl ⟨by rfl, ?hyT⟩) hHeld ?restT
              case hyT => (intro wS hSw; obtain ⟨q0, ⟨q1, q2, q3, q4, q5⟩, q6⟩ := HF.out wS hSw; go_simp; try with_reducible rfl)
              case restT =>
                change wpAnyH _ _ _ _ _ _ _ (Act.mk _ _) _; try simp only [Act.put, List.setIfInBounds_toArray, List.set_cons_zero, List.set_cons_succ]
                refine wpAnyH_take (i := 7) (v := ?_) rfl (by kernel_rfl) (by kernel_rfl) (by kernel_rfl) (fun _ _ _ h => h) (Or.inl ⟨by rfl, ?hyT⟩) hHeld ?restT
                case hyT => (intro wS hSw; obtain ⟨q0, ⟨q1, q2, q3, q4, q5⟩, q6⟩ := HF.out wS hSw; go_simp; try with_reducible rfl)
                case restT =>
                  change wpAnyH _ _ _ _ _ _ _ (Act.mk _ _) _; try simp only [Act.put, List.setIfInBounds_toArray, List.set_cons_zero, List.set_cons_succ]
                  refine wpAnyH_take (i := 8) (v := ?_) rfl (by kernel_rfl) (by kernel_rfl) (by kernel_rfl) (fun _ _ _ h => h) (Or.inl ⟨by rfl, ?hyT⟩) hHeld ?restT
                  case hyT => (intro wS hSw; obtain ⟨q0, ⟨q1, q2, q3, q4, q5⟩, q6⟩ := HF.out wS hSw; go_simp; try with_reducible rfl)
                  case restT =>
                    change wpAnyH _ _ _ _ _ _ _ (Act.mk _ _) _; try simp only [Act.put, List.setIfInBounds_toArray, List.set_cons_zero, List.set_cons_succ]
                    refine wpAnyH_ready (rs := [9]) (by kernel_rfl) (by simp) ?_
                    refine AllReadyH.cons rfl (fun K hK => ?_) AllReadyH.nil
                    go_simp
                    refine hK.out _ _ (ext_alloc (ext_drew (Below.refl _ _)) _) (fun hHeld => ?_)
                    clear hK K
                    change wpAnyH _ _ _ _ _ _ _ (Act.mk _ _) _; try simp only [Act.put, List.setIfInBounds_toArray, List.set_cons_zero, List.set_cons_succ]
                    refine wpAnyH_ready (rs := [10]) (by kernel_rfl) (by simp) ?_
                    refine AllReadyH.cons rfl (fun K hK => ?_) AllReadyH.nil
                    go_simp
                    refine hK.out _ _ (ext_alloc (ext_drew (Below.refl _ _)) _) (fun hHeld => ?_)
                    clear hK K
                    change wpAnyH _ _ _ _ _ _ _ (Act.mk _ _) _; try simp only [Act.put, List.setIfInBounds_toArray, List.set_cons_zero, List.set_cons_succ]
                    refine wpAnyH_ready (rs := [11]) (by kernel_rfl) (by simp) ?_
                    refine AllReadyH.cons rfl (fun K hK => ?_) AllReadyH.nil
                    go_simp
                    refine hK.out _ _ (ext_alloc (ext_drew (Below.refl _ _)) _) (fun hHeld => ?_)
                    clear hK K
                    change wpAnyH _ _ _ _ _ _ _ (Act.mk _ _) _; try simp only [Act.put, List.setIfInBounds_toArray, List.set_cons_zero, List.set_cons_succ]
                    refine wpAnyH_done (by kernel_rfl) ?_ _
                    go_wp2
                    refine bodyPost_ret (results_none rfl _ _ _) rfl ?_
                    exact ⟨rfl, S, ST.out.below (ext_trans H1W.out (ext_alloc (ext_drew (Below.refl _ _)) _)), HR.out, grw_of (ext_trans H1W.out (ext_alloc (ext_drew (Below.refl _ _)) _))⟩
set_option maxHeartbeats 8000000 in
set_option maxRecDepth 100000 in
theorem new_any {N : Nat} (hmem : ∀ v ∈ mem, v.Ok) (hlen : mem.length ≤ 400) {S : List KeyV} {k : KeyV} {W : World} (hst : SeekSt gs b d mem ma mc S W) (hk : k.Ok) (hs : S.length + fresh mem (S ++ [k]) + 1 < 100000) (hin : k ∉ S)
    (ih : ∀ (S : List KeyV) (k : KeyV) (W : World), SeekSt gs b d mem ma mc S W → k.Ok → (k ∈ S ∨ S.length + fresh mem (S ++ [k]) + 1 < 100000 ∧ fresh mem (S ++ [k]) < N) → Calls Try.prog 31 #[.pointer (some ⟨gs, 0, none⟩), k.val] W (AddPost gs b d mem ma mc S k W))
    (hN : fresh mem (S ++ [k]) ≤ N) : Calls Try.prog 31 #[.pointer (some ⟨gs, 0, none⟩), k.val] W (AddPost gs b d mem ma mc S k W) := by
  have HIH := Lib.hid ih
  have HIN := Lib.hid hin
  have HSZ := Lib.hid hs
  have HN := Lib.hid hN
  have HKO := Lib.hid hk
  have HMEM := Lib.hid hmem
  have HLEN := Lib.hid hlen
  have hbnd : 0 ≤ k.base ∧ k.base ≤ 400 ∧ 0 ≤ k.len ∧ k.base + k.len ≤ 400 := ⟨hk.b0, hk.b1, hk.l0, hk.l1⟩
  clear ih hs hN hmem hlen
  obtain ⟨p, bb, l, a, s⟩ := k
  have hlk := fun (W1 : World) (h1 : SeekSt gs b d mem ma mc S W1) => h1.look hk.wf (fun x hx => (h1.wf x hx).wf)
  simp only [decide_eq_false (show (_ : Prop) from hin)] at hlk
  simp only [KeyV.val] at hlk ⊢
  obtain ⟨w1, hw1⟩ : ∃ w1, w1 = W.alloc (.cells #[.int .i64 p, .int .i64 bb, .int .i64 l, .int .i64 a, .int .i64 s] 23) := ⟨_, rfl⟩
  have h1w : Below W.heap.size W w1 := by rw [hw1]; exact ext_alloc (Below.refl _ _) _
  have k1 : Bk w1 W.heap.size 23 #[.int .i64 p, .int .i64 bb, .int .i64 l, .int .i64 a, .int .i64 s] := by rw [hw1]; exact bk_new _ _ _
  have st1 := hst.below h1w
  have hf : ∀ W1, Below w1.heap.size w1 W1 → W1.cell? ⟨gs, 0, none⟩ = some (.map (some b)) ∧ (W1.cell? ⟨W.heap.size, 0, none⟩ = some (.int .i64 p) ∧ W1.cell? ⟨W.heap.size, 1, none⟩ = some (.int .i64 bb) ∧ W1.cell? ⟨W.heap.size, 2, none⟩ = some (.int .i64 l) ∧ W1.cell? ⟨W.heap.size, 3, none⟩ = some (.int .i64 a) ∧ W1.cell? ⟨W.heap.size, 4, none⟩ = some (.int .i64 s)) ∧ (Instr.lookup 57 (.map (some b)) (.agg #[.int .i64 p, .int .i64 bb, .int .i64 l, .int .i64 a, .int .i64 s]) true).run Try.prog W1 = .ok (.tuple #[.agg #[], .bool false]) W1 := fun W1 hb =>
    ⟨(st1.below hb).bk.cell 0, cells5 (bk_keep hb k1), hlk W1 (st1.below hb)⟩
  have HF := Lib.hid hf
  have ST := Lib.hid hst
  have HW1 := Lib.hid hw1
  have H1W := Lib.hid h1w
  have K1 := Lib.hid k1
  clear hf hst hw1 h1w k1 st1 hlk
  go_enter Try.func31, Try.ntmps31
  go_upto_region 1 with (fail)
  rw [← HW1.out]
  refine wp_region_held_drew (S := fun W1 => Below w1.heap.size w1 W1) (by kernel_rfl) (ext_drew (Below.refl _ _)) (fun hHeld => ?_)
  refine wpAnyH_take (i := 0) (v := ?_) rfl (by kernel_rfl) (by kernel_rfl) (by kernel_rfl) (fun _ _ _ h => h) (Or.inl ⟨by rfl, ?hyT⟩) hHeld ?restT
  case hyT => (intro wS hSw; obtain ⟨q0, ⟨q1, q2, q3, q4, q5⟩, q6⟩ := HF.out wS hSw; go_simp; try with_reducible rfl)
  case restT =>
    change wpAnyH _ _ _ _ _ _ _ (Act.mk _ _) _; try simp only [Act.put, List.setIfInBounds_toArray, List.set_cons_zero, List.set_cons_succ]
    refine wpAnyH_take (i := 1) (v := ?_) rfl (by kernel_rfl) (by kernel_rfl) (by kernel_rfl) (fun _ _ _ h => h) (Or.inl ⟨by rfl, ?hyT⟩) hHeld ?restT
    case hyT => (intro wS hSw; obtain ⟨q0, ⟨q1, q2, q3, q4, q5⟩, q6⟩ := HF.out wS hSw; go_simp; try with_reducible rfl)
    case restT =>
      change wpAnyH _ _ _ _ _ _ _ (Act.mk _ _) _; try simp only [Act.put, List.setIfInBounds_toArray, List.set_cons_zero, List.set_cons_succ]
      refine wpAnyH_take (i := 2) (v := ?_) rfl (by kernel_rfl) (by kernel_rfl) (by kernel_rfl) (fun _ _ _ h => h) (Or.inl ⟨by rfl, ?hyT⟩) hHeld ?restT
      case hyT => (intro wS hSw; obtain ⟨q0, ⟨q1, q2, q3, q4, q5⟩, q6⟩ := HF.out wS hSw; go_simp; try with_reducible rfl)
      case restT =>
        change wpAnyH _ _ _ _ _ _ _ (Act.mk _ _) _; try simp only [Act.put, List.setIfInBounds_toArray, List.set_cons_zero, List.set_cons_succ]
        refine wpAnyH_take (i := 3) (v := ?_) rfl (by kernel_rfl) (by kernel_rfl) (by kernel_rfl) (fun _ _ _ h => h) (Or.inl ⟨by rfl, ?hyT⟩) hHeld ?restT
        case hyT => (intro wS hSw; obtain ⟨q0, ⟨q1, q2, q3, q4, q5⟩, q6⟩ := HF.out wS hSw; go_simp; try with_reducible rfl)
        case restT =>
          change wpAnyH _ _ _ _ _ _ _ (Act.mk _ _) _; try simp only [Act.put, List.setIfInBounds_toArray, List.set_cons_zero, List.set_cons_succ]
          refine wpAnyH_take (i := 4) (v := ?_) rfl (by kernel_rfl) (by kernel_rfl) (by kernel_rfl) (fun _ _ _ h => h) (Or.inl ⟨by rfl, ?hyT⟩) hHeld ?restT
          case hyT => (intro wS hSw; obtain ⟨q0, ⟨q1, q2, q3, q4, q5⟩, q6⟩ := HF.out wS hSw; go_simp; try with_reducible rfl)
          case restT =>
            change wpAnyH _ _ _ _ _ _ _ (Act.mk _ _) _; try simp only [Act.put, List.setIfInBounds_toArray, List.set_cons_zero, List.set_cons_succ]
            refine wpAnyH_take (i := 5) (v := ?_) rfl (by kernel_rfl) (by kernel_rfl) (by kernel_rfl) (fun _ _ _ h => h) (Or.inl ⟨by rfl, ?hyT⟩) hHeld ?restT
            case hyT => (intro wS hSw; obtain ⟨q0, ⟨q1, q2, q3, q4, q5⟩, q6⟩ := HF.out wS hSw; go_simp; try with_reducible rfl)
            case restT =>
              change wpAnyH _ _ _ _ _ _ _ (Act.mk _ _) _; try simp only [Act.put, List.setIfInBounds_toArray, List.set_cons_zero, List.set_cons_succ]
              refine wpAnyH_take (i := 6) (v := ?_) rfl (by kernel_rfl) (by kernel_rfl) (by kernel_rfl) (fun _ _ _ h => h) (Or.inl ⟨by rfl, ?hyT⟩) hHeld ?restT
              case hyT => (intro wS hSw; obtain ⟨q0, ⟨q1, q2, q3, q4, q5⟩, q6⟩ := HF.out wS hSw; go_simp; try with_reducible rfl)
              case restT =>
                change wpAnyH _ _ _ _ _ _ _ (Act.mk _ _) _; try simp only [Act.put, List.setIfInBounds_toArray, List.set_cons_zero, List.set_cons_succ]
                refine wpAnyH_take (i := 7) (v := ?_) rfl (by kernel_rfl) (by kernel_rfl) (by kernel_rfl) (fun _ _ _ h => h) (Or.inl ⟨by rfl, ?hyT⟩) hHeld ?restT
                case hyT => (intro wS hSw; obtain ⟨q0, ⟨q1, q2, q3, q4, q5⟩, q6⟩ := HF.out wS hSw; go_simp; try with_reducible rfl)
                case restT =>
                  change wpAnyH _ _ _ _ _ _ _ (Act.mk _ _) _; try simp only [Act.put, List.setIfInBounds_toArray, List.set_cons_zero, List.set_cons_succ]
                  refine wpAnyH_take (i := 8) (v := ?_) rfl (by kernel_rfl) (by kernel_rfl) (by kernel_rfl) (fun _ _ _ h => h) (Or.inl ⟨by rfl, ?hyT⟩) hHeld ?restT
                  case hyT => (intro wS hSw; obtain ⟨q0, ⟨q1, q2, q3, q4, q5⟩, q6⟩ := HF.out wS hSw; go_simp; try with_reducible rfl)
                  case restT =>
                    change wpAnyH _ _ _ _ _ _ _ (Act.mk _ _) _; try simp only [Act.put, List.setIfInBounds_toArray, List.set_cons_zero, List.set_cons_succ]
                    refine wpAnyH_ready (rs := [9]) (by kernel_rfl) (by simp) ?_
                    refine AllReadyH.cons rfl (fun K hK => ?_) AllReadyH.nil
                    go_simp
                    refine hK.out _ _ (ext_alloc (ext_drew (Below.refl _ _)) _) (fun hHeld => ?_)
                    clear hK K
                    change wpAnyH _ _ _ _ _ _ _ (Act.mk _ _) _; try simp only [Act.put, List.setIfInBounds_toArray, List.set_cons_zero, List.set_cons_succ]
                    refine wpAnyH_ready (rs := [10]) (by kernel_rfl) (by simp) ?_
                    refine AllReadyH.cons rfl (fun K hK => ?_) AllReadyH.nil
                    go_simp
                    refine hK.out _ _ (ext_alloc (ext_drew (Below.refl _ _)) _) (fun hHeld => ?_)
                    clear hK K
                    change wpAnyH _ _ _ _ _ _ _ (Act.mk _ _) _; try simp only [Act.put, List.setIfInBounds_toArray, List.set_cons_zero, List.set_cons_succ]
                    refine wpAnyH_ready (rs := [11]) (by kernel_rfl) (by simp) ?_
                    refine AllReadyH.cons rfl (fun K hK => ?_) AllReadyH.nil
                    go_simp
                    refine hK.out _ _ (ext_alloc (ext_drew (Below.refl _ _)) _) (fun hHeld => ?_)
                    clear hK K
                    change wpAnyH _ _ _ _ _ _ _ (Act.mk _ _) _; try simp only [Act.put, List.setIfInBounds_toArray, List.set_cons_zero, List.set_cons_succ]
                    refine wpAnyH_done (by kernel_rfl) ?_ _
                    clear hin
                    go_upto_region 3 with (fail)
                    obtain ⟨w2, hw2⟩ : ∃ w2, w2 = (w1.alloc (.cells #[] 58)).drew := ⟨_, rfl⟩
                    have b12 : Below w1.heap.size w1 w2 := by rw [hw2]; exact ext_drew (ext_alloc (Below.refl _ _) _)
                    rw [← hw2]
                    clear hw2
                    have st2 := ST.out.below (ext_trans H1W.out b12)
                    have k2 := bk_keep b12 K1.out
                    have st2d : SeekSt gs b d mem ma mc S w2.drew := st2.below (ext_drew (Below.refl _ _))
                    have hgk : W.heap.size ≠ b := fun e => by have := ST.out.own.lt; omega
                    obtain ⟨w3, hrun, hown, hgr⟩ := st2d.own.update keyedK Try.underlying57 (by have := HSZ.out; unfold maxLen; omega) (keyOf_key HKO.out.wf) (unitElem_mk (H := Unit))
                    have g23 : Grw b w2 w3 := grw_trans (grw_of (ext_drew (Below.refl _ _))) hgr
                    have st3 : SeekSt gs b d mem ma mc (S ++ [⟨p, bb, l, a, s⟩]) w3 := st2.step g23 (by rw [List.length_append, setD_snoc]; exact hown) (fun x hx => by
                      rcases List.mem_append.1 hx with h | h
                      · exact st2.wf x h
                      · rw [List.mem_singleton.1 h]; exact HKO.out)
                    have hgf : ∀ W1, Grw b w2 W1 → W1.cell? ⟨gs, 0, none⟩ = some (.map (some b)) ∧ (W1.cell? ⟨W.heap.size, 0, none⟩ = some (.int .i64 p) ∧ W1.cell? ⟨W.heap.size, 1, none⟩ = some (.int .i64 bb) ∧ W1.cell? ⟨W.heap.size, 2, none⟩ = some (.int .i64 l) ∧ W1.cell? ⟨W.heap.size, 3, none⟩ = some (.int .i64 a) ∧ W1.cell? ⟨W.heap.size, 4, none⟩ = some (.int .i64 s)) := fun W1 hg =>
                      ⟨(grw_bk hg st2.bk st2.ne).cell 0, cells5 (grw_bk hg k2 hgk)⟩
                    have g13 : Grw b W w3 := grw_trans (grw_of (ext_trans H1W.out b12)) g23
                    have k3 : Bk w3 W.heap.size 23 #[.int .i64 p, .int .i64 bb, .int .i64 l, .int .i64 a, .int .i64 s] := grw_bk g23 k2 hgk
                    have HGF := Lib.hid hgf
                    have ST3 := Lib.hid st3
                    have G13 := Lib.hid g13
                    have K3 := Lib.hid k3
                    have G23 := Lib.hid g23
                    have HGK := Lib.hid hgk
                    simp only [KeyV.val] at hrun
                    clear hgf st3 g13 k3 g23 hgk st2 st2d k2 hown hgr b12
                    refine wp_region_held_drew (S := fun W1 => Grw b w2 W1) (by kernel_rfl) (grw_of (ext_drew (Below.refl _ _))) (fun hHeld => ?_)
                    refine wpAnyH_take (i := 0) (v := ?_) rfl (by kernel_rfl) (by kernel_rfl) (by kernel_rfl) (fun _ _ _ h => h) (Or.inl ⟨by rfl, ?hyT⟩) hHeld ?restT
                    case hyT => (intro wS hSw; obtain ⟨q0, q1, q2, q3, q4, q5⟩ := HGF.out wS hSw; go_simp; try with_reducible rfl)
                    case restT =>
                      change wpAnyH _ _ _ _ _ _ _ (Act.mk _ _) _; try simp only [Act.put, List.setIfInBounds_toArray, List.set_cons_zero, List.set_cons_succ]
                      refine wpAnyH_take (i := 1) (v := ?_) rfl (by kernel_rfl) (by kernel_rfl) (by kernel_rfl) (fun _ _ _ h => h) (Or.inl ⟨by rfl, ?hyT⟩) hHeld ?restT
                      case hyT => (intro wS hSw; obtain ⟨q0, q1, q2, q3, q4, q5⟩ := HGF.out wS hSw; go_simp; try with_reducible rfl)
                      case restT =>
                        change wpAnyH _ _ _ _ _ _ _ (Act.mk _ _) _; try simp only [Act.put, List.setIfInBounds_toArray, List.set_cons_zero, List.set_cons_succ]
                        refine wpAnyH_take (i := 2) (v := ?_) rfl (by kernel_rfl) (by kernel_rfl) (by kernel_rfl) (fun _ _ _ h => h) (Or.inl ⟨by rfl, ?hyT⟩) hHeld ?restT
                        case hyT => (intro wS hSw; obtain ⟨q0, q1, q2, q3, q4, q5⟩ := HGF.out wS hSw; go_simp; try with_reducible rfl)
                        case restT =>
                          change wpAnyH _ _ _ _ _ _ _ (Act.mk _ _) _; try simp only [Act.put, List.setIfInBounds_toArray, List.set_cons_zero, List.set_cons_succ]
                          refine wpAnyH_take (i := 3) (v := ?_) rfl (by kernel_rfl) (by kernel_rfl) (by kernel_rfl) (fun _ _ _ h => h) (Or.inl ⟨by rfl, ?hyT⟩) hHeld ?restT
                          case hyT => (intro wS hSw; obtain ⟨q0, q1, q2, q3, q4, q5⟩ := HGF.out wS hSw; go_simp; try with_reducible rfl)
                          case restT =>
                            change wpAnyH _ _ _ _ _ _ _ (Act.mk _ _) _; try simp only [Act.put, List.setIfInBounds_toArray, List.set_cons_zero, List.set_cons_succ]
                            refine wpAnyH_take (i := 4) (v := ?_) rfl (by kernel_rfl) (by kernel_rfl) (by kernel_rfl) (fun _ _ _ h => h) (Or.inl ⟨by rfl, ?hyT⟩) hHeld ?restT
                            case hyT => (intro wS hSw; obtain ⟨q0, q1, q2, q3, q4, q5⟩ := HGF.out wS hSw; go_simp; try with_reducible rfl)
                            case restT =>
                              change wpAnyH _ _ _ _ _ _ _ (Act.mk _ _) _; try simp only [Act.put, List.setIfInBounds_toArray, List.set_cons_zero, List.set_cons_succ]
                              refine wpAnyH_take (i := 5) (v := ?_) rfl (by kernel_rfl) (by kernel_rfl) (by kernel_rfl) (fun _ _ _ h => h) (Or.inl ⟨by rfl, ?hyT⟩) hHeld ?restT
                              case hyT => (intro wS hSw; obtain ⟨q0, q1, q2, q3, q4, q5⟩ := HGF.out wS hSw; go_simp; try with_reducible rfl)
                              case restT =>
                                change wpAnyH _ _ _ _ _ _ _ (Act.mk _ _) _; try simp only [Act.put, List.setIfInBounds_toArray, List.set_cons_zero, List.set_cons_succ]
                                refine wpAnyH_ready (rs := [6]) (by kernel_rfl) (by simp) ?_
                                refine AllReadyH.cons rfl (fun K hK => ?_) AllReadyH.nil
                                go_simp
                                refine hK.out _ _ (G23.out) (fun hHeld => ?_)
                                clear hK K
                                change wpAnyH _ _ _ _ _ _ _ (Act.mk _ _) _; try simp only [Act.put, List.setIfInBounds_toArray, List.set_cons_zero, List.set_cons_succ]
                                refine wpAnyH_done (by kernel_rfl) ?_ _
                                clear hrun
                                have hcts := fun (W1 : World) (hb : Below w3.heap.size w3 W1) => counts_any (ST3.out.below hb) p bb l a s
                                have hkc := fun (W1 : World) (hb : Below w3.heap.size w3 W1) => cells5 (bk_keep hb K3.out)
                                have hwi := fun W1 => within_any 9 p W1
                                have hkl : ∀ W1, Below w3.heap.size w3 W1 → W.heap.size < W1.heap.size := fun W1 hb => (bk_keep hb K3.out).lt
                                have hop : opensB d ⟨p, bb, l, a, s⟩ = (countsB d ⟨p, bb, l, a, s⟩ && withinB 9 p) := rfl
                                obtain ⟨cv, hcv⟩ : ∃ cv, countsB d ⟨p, bb, l, a, s⟩ = cv := ⟨_, rfl⟩
                                obtain ⟨wv, hwv⟩ : ∃ wv, withinB 9 p = wv := ⟨_, rfl⟩
                                rw [hwv] at hwi hop
                                simp only [hcv] at hcts hop
                                have HCTS := Lib.hid hcts
                                have HWI := Lib.hid hwi
                                have HKC := Lib.hid hkc
                                have HKL := Lib.hid hkl
                                have HOP := Lib.hid hop
                                clear hcts hkc hwi hkl hcv hwv hop
                                obtain ⟨z1, z2, z3, z4, z5⟩ := HKC.out w3 (Below.refl _ _)
                                have zL := HKL.out w3 (Below.refl _ _)
                                cases cv
                                · go_wp2_with (go_at_call 28; ((with_reducible refine (HCTS.out _ (Below.refl _ _)).mono ?_); rintro e u4 ⟨rfl, hb⟩; have HB4 := Lib.hid hb; clear hb))
                                  refine bodyPost_ret (results_none rfl _ _ _) rfl ?_
                                  exact ⟨rfl, _, ST3.out.below HB4.out, AddR.shutK HIN.out (by rw [HOP.out]; rfl), grw_trans G13.out (grw_of HB4.out)⟩
                                · cases wv
                                  · go_wp2_with (first
                                      | (go_at_call 28; ((with_reducible refine (HCTS.out _ (Below.refl _ _)).mono ?_); rintro e u4 ⟨rfl, hb⟩; obtain ⟨y1, y2, y3, y4, y5⟩ := HKC.out u4 hb; have yL := HKL.out u4 hb; have HB4 := Lib.hid hb; clear hb))
                                      | (go_at_call 29; ((with_reducible refine (HWI.out _).mono ?_); rintro e u5 ⟨rfl, rfl⟩)))
                                    refine bodyPost_ret (results_none rfl _ _ _) rfl ?_
                                    exact ⟨rfl, _, ST3.out.below HB4.out, AddR.shutK HIN.out (by rw [HOP.out]; rfl), grw_trans G13.out (grw_of HB4.out)⟩
                                  · go_upto_region 6 with (first
                                      | (go_at_call 28; ((with_reducible refine (HCTS.out _ (Below.refl _ _)).mono ?_); rintro e u4 ⟨rfl, hb⟩; obtain ⟨y1, y2, y3, y4, y5⟩ := HKC.out u4 hb; have yL := HKL.out u4 hb; have HB4 := Lib.hid hb; clear hb))
                                      | (go_at_call 29; ((with_reducible refine (HWI.out _).mono ?_); rintro e u5 ⟨rfl, rfl⟩)))
                                    clear z1 z2 z3 z4 z5 zL y1 y2 y3 y4 y5 yL
                                    obtain ⟨nb, hnb⟩ := Int.eq_ofNat_of_zero_le hbnd.1
                                    try simp only at hnb
                                    subst hnb
                                    try simp only at hbnd
                                    have hst4 := ST3.out.below HB4.out
                                    have hk4 := bk_keep HB4.out K3.out
                                    have hg4 := grw_trans G13.out (grw_of HB4.out)
                                    have HST4 := Lib.hid hst4
                                    have HK4 := Lib.hid hk4
                                    have HG4 := Lib.hid hg4
                                    clear hst4 hk4 hg4 HB4 HCTS HWI HKC HKL G23 HGF
                                    go_loopw [6] (fun x wr => ∃ (n : Nat) (S2 : List KeyV), x = .int .i64 n ∧ nb ≤ n ∧ SeekSt gs b d mem ma mc S2 wr ∧ Bk wr W.heap.size 23 #[.int .i64 p, .int .i64 nb, .int .i64 l, .int .i64 a, .int .i64 s] ∧ Grw b W wr ∧ AddL d mem ⟨p, nb, l, a, s⟩ (S ++ [⟨p, nb, l, a, s⟩]) n S2) (fun x _ => (801 - intOf x).toNat)
                                    case atStart => exact ⟨nb, _, rfl, Nat.le_refl _, HST4.out, HK4.out, HG4.out, AddL.start⟩
                                    case round =>
                                      obtain ⟨n, S2, rfl, hn, hs2, hk2, hg2, hl2⟩ := hrel
                                      obtain ⟨z1, z2, z3, z4, z5⟩ := cells5 hk2
                                      have zL := hk2.lt
                                      have sL := hs2.bk.lt
                                      have s1 : wr.cell? ⟨gs, 1, none⟩ = some (.slice ma mem.length mc) := hs2.bk.cell 1
                                      have hlen := HLEN.out
                                      obtain ⟨lm, hlm⟩ : ∃ lm, mem.length = lm := ⟨_, rfl⟩
                                      rw [hlm] at s1 hlen
                                      have HST := Lib.hid hs2
                                      have HK := Lib.hid hk2
                                      have HG := Lib.hid hg2
                                      have HL := Lib.hid hl2
                                      have HLM := Lib.hid hlm
                                      clear hs2 hk2 hg2 hl2 hlm
                                      by_cases hlt : (n : Int) < nb + l ∧ n < lm
                                      · obtain ⟨hlt1, hlt2⟩ := hlt
                                        have hnm : n < mem.length := by rw [HLM.out]; exact hlt2
                                        obtain ⟨mm, hmm, g0⟩ : ∃ mm : Int, (if (lm : Int) < (nb : Int) + l then (lm : Int) else (nb : Int) + l) = mm ∧ (n : Int) < mm := ⟨_, rfl, by split <;> omega⟩
                                        have g1 : decide ((n : Int) < mm) = true := by simpa using g0
                                        obtain ⟨ad, hma, hab, hva⟩ := sl_val HST.out.sl hnm
                                        obtain ⟨v, hv⟩ : ∃ v, mem.getD n zeroV = v := ⟨_, rfl⟩
                                        have hin : v ∈ mem := by
                                          rw [← hv, List.getD_eq_getElem?_getD, List.getElem?_eq_getElem hnm]; exact List.getElem_mem hnm
                                        have hvok := HMEM.out v hin
                                        rw [hv] at hva
                                        have HV := Lib.hid hv
                                        have hval := fun (W1 : World) (hb : Below wr.heap.size wr W1) => val_of (v := v) (HST.out.below hb) (fun hi W2 h2 => HIH.out S2 v.k W2 h2 (by
                                          rcases hvok with ⟨_, h, _⟩ | ⟨h, _⟩
                                          · exact h
                                          · rw [h] at hi; cases hi) (by
                                          by_cases hx : v.k ∈ S2
                                          · exact .inl hx
                                          · have f1 := fresh_lt hin hi hx
                                            have f2 := HL.out.size
                                            have f3 : fresh mem S2 ≤ fresh mem (S ++ [⟨p, nb, l, a, s⟩]) := fresh_mono HL.out.sub
                                            have f4 := HSZ.out
                                            have f5 := HN.out
                                            rw [List.length_append] at f2
                                            simp only [List.length_singleton] at f2
                                            exact .inr ⟨by omega, by omega⟩))
                                        have HVAL := Lib.hid hval
                                        subst hma
                                        clear hval hin hvok hnm hv
                                        obtain ⟨vi, vn, vp, vb, vl, va, vs⟩ := v
                                        obtain ⟨e0, e1, e2, e3, e4, e5, e6⟩ := hva
                                        simp only [ValV.val] at e0 e1 e2 e3 e4 e5 e6 HVAL
                                        obtain ⟨q1, q1b⟩ : IntKind.i64.wrap ((nb : Int) + l) = (nb : Int) + l ∧ wrap64 ((nb : Int) + l) = (nb : Int) + l := ⟨IntWalk.i64_in _ ⟨by omega, by omega⟩, IntWalk.wrap64_in _ ⟨by omega, by omega⟩⟩
                                        obtain ⟨q2, q2b⟩ : IntKind.i64.wrap ((n : Int) + 1) = (n : Int) + 1 ∧ wrap64 ((n : Int) + 1) = (n : Int) + 1 := ⟨IntWalk.i64_in _ ⟨by omega, by omega⟩, IntWalk.wrap64_in _ ⟨by omega, by omega⟩⟩
                                        go_wp2
                                        go_region
                                        go_wp2_with (go_at_call 32; ((with_reducible refine (HVAL.out _ (ext_drew (Below.refl _ _))).mono ?_); rintro e w' ⟨rfl, S3, h1, h2, h3, h4⟩; have HX1 := Lib.hid h1; have HX2 := Lib.hid h2; have HX3 := Lib.hid h3; have HX4 := Lib.hid h4; clear h1 h2 h3 h4))
                                        go_roundw
                                        case rel =>
                                          clear q1 q1b q2 q2b hmm
                                          refine ⟨n + 1, S3, by go_num, by omega, HX1.out, grw_bk (grw_trans (grw_of (ext_drew (Below.refl _ _))) HX2.out) HK.out HGK.out, grw_trans HG.out (grw_trans (grw_of (ext_drew (Below.refl _ _))) HX2.out), ?_⟩
                                          have hnm : n < mem.length := by rw [HLM.out]; exact hlt2
                                          cases vi
                                          · rw [HX4.out rfl]
                                            exact HL.out.skip (by rw [HV.out])
                                          · exact HL.out.add HOP.out (by simp only; omega) hlt1 hnm (by rw [HV.out]) (by rw [HV.out]; exact HX3.out rfl)
                                        case measure => clear q1 q1b q2 q2b hmm; simp [intOf]; omega
                                      · obtain ⟨mm, hmm, g0⟩ : ∃ mm : Int, (if (lm : Int) < (nb : Int) + l then (lm : Int) else (nb : Int) + l) = mm ∧ ¬ ((n : Int) < mm) := ⟨_, rfl, by split <;> omega⟩
                                        have g1 : decide ((n : Int) < mm) = false := by simpa using g0
                                        have hx : (nb : Int) + l ≤ n ∨ (mem.length : Int) ≤ n := by rw [HLM.out]; omega
                                        have HXX := Lib.hid hx
                                        clear hx
                                        obtain ⟨q1, q1b⟩ : IntKind.i64.wrap ((nb : Int) + l) = (nb : Int) + l ∧ wrap64 ((nb : Int) + l) = (nb : Int) + l := ⟨IntWalk.i64_in _ ⟨by omega, by omega⟩, IntWalk.wrap64_in _ ⟨by omega, by omega⟩⟩
                                        go_wp2
                                        go_region
                                        go_wp2
                                        refine bodyPost_ret (results_none rfl _ _ _) rfl ?_
                                        exact ⟨rfl, S2, HST.out.below (ext_drew (Below.refl _ _)), HL.out.done' HIN.out HXX.out, grw_trans HG.out (grw_of (ext_drew (Below.refl _ _)))⟩
theorem add_any (hmem : ∀ v ∈ mem, v.Ok) (hlen : mem.length ≤ 400) : ∀ (N : Nat) (S : List KeyV) (k : KeyV) (W : World), SeekSt gs b d mem ma mc S W → k.Ok → (k ∈ S ∨ S.length + fresh mem (S ++ [k]) + 1 < 100000 ∧ fresh mem (S ++ [k]) < N) →
    Calls Try.prog 31 #[.pointer (some ⟨gs, 0, none⟩), k.val] W (AddPost gs b d mem ma mc S k W) := by
  intro N
  induction N with
  | zero =>
    intro S k W hst hk hN
    rcases hN with h | h
    · exact there_any hst hk h
    · exact absurd h.2 (by omega)
  | succ N ih =>
    intro S k W hst hk hN
    by_cases hin : k ∈ S
    · exact there_any hst hk hin
    · rcases hN with h | ⟨h1, h2⟩
      · exact absurd h hin
      · exact new_any (N := N) hmem hlen hst hk h1 hin ih (by omega)
end
end Go.Proofs.Ytcdcmbehnccicaa
