/- ReachDeep. -/
import Derived.Test.YtcdcmbehnccicaaReachG
namespace Go.Proofs.Ytcdcmbehnccicaa
open Go.RowKit
set_option linter.unusedVariables false
set_option linter.unusedSimpArgs false
set_option maxRecDepth 100000 in
theorem info_valR : (Try.prog.info? 25).map (fun i => (i.zero, i.size, i.bytes)) = some (some (.agg #[.bool false, .int .i64 0, .int .i64 0, .int .i64 0, .int .i64 0, .int .i64 0, .int .i64 0]), 7, 56) := by kernel_rfl
theorem rch_only {d : Bool} {mem : List ValV} {P : KeyV → Prop} (hP : ∀ k, P k → opensB d k = false) {x : KeyV} (h : Rch d mem P x) : P x := by
  induction h with
  | root h => exact h
  | next _ n ih => exact absurd n.1 (by rw [hP _ ih]; decide)
theorem zeros_no : ∀ v ∈ List.replicate 8 zeroV, v.is = true → False := fun v hv hi => by
  rw [List.eq_of_mem_replicate hv] at hi
  cases hi
theorem roots_zero {d : Bool} {c k : KeyV} : rootsP d (List.replicate 8 zeroV) c [] k ↔ k = c := by
  constructor
  · rintro (h | ⟨v, hv, hi, _⟩ | ⟨_, f, hf, _⟩)
    · exact h
    · exact (zeros_no v hv hi).elim
    · cases hf
  · exact .inl
theorem hit_one {mem : List ValV} {d : Bool} {c : KeyV} {p a : Int} (ho : opensB d c = false) : hitP d mem (rootsP d (List.replicate 8 zeroV) c []) p a ↔ countsB d c = true ∧ withinB p c.perm = true ∧ covB c.base c.len a = true := by
  constructor
  · rintro ⟨k, h1, h2⟩
    have := rch_only (fun k hk => by rw [roots_zero.1 hk]; exact ho) h1
    rw [roots_zero.1 this] at h2
    exact h2
  · exact fun h => ⟨c, .root (roots_zero.2 rfl), h⟩
def K3 : KeyV := ⟨1, 1, 9, 0, 0⟩
theorem hits3 : hitsL false (List.replicate 3 zeroV) (rootsP false (List.replicate 8 zeroV) K3 []) 1 0 3 = [1, 2] := by
  have h := fun a => hit_one (mem := List.replicate 3 zeroV) (d := false) (c := K3) (p := 1) (a := a) (by decide)
  have h0 : ¬ hitP false (List.replicate 3 zeroV) (rootsP false (List.replicate 8 zeroV) K3 []) 1 (0 + (0 : Nat)) := by rw [h]; decide
  have h1 : hitP false (List.replicate 3 zeroV) (rootsP false (List.replicate 8 zeroV) K3 []) 1 (0 + (1 : Nat)) := by rw [h]; decide
  have h2 : hitP false (List.replicate 3 zeroV) (rootsP false (List.replicate 8 zeroV) K3 []) 1 (0 + (2 : Nat)) := by rw [h]; decide
  rw [hits_snoc h2, hits_snoc h1, hits_skip h0]
  rfl
theorem within_or {p q k : Int} (h : withinB (orI p q) k = true) : withinB p k = true := by
  rw [withinB_iff] at h ⊢
  intro i hi
  refine h i ?_
  unfold orI
  rw [show bv (bv p ||| bv q).toInt = (bv p ||| bv q) from bv_toInt _]
  simp [hi]
theorem hits_more {d : Bool} {mem : List ValV} {P : KeyV → Prop} {p q a : Int} (h : hitP d mem P (orI p q) a) : hitP d mem P p a := by
  obtain ⟨k, h1, h2, h3, h4⟩ := h
  exact ⟨k, h1, h2, within_or h3, h4⟩
set_option maxHeartbeats 8000000 in
set_option maxRecDepth 100000 in
theorem deep_ok {R : List ValV} {c : KeyV} {mem : List ValV} {stk : List FrameV} {out : List Int} {cs : Array Value} {w : World} (hbox : MBR w.heap.size R c mem stk out cs (w.alloc (.cells cs 31))) (p q : Int) (hok : MOk R c mem stk out) : Calls Try.prog 3 #[.agg cs, .int .i64 p, .int .i64 q] w fun e w' => e = .returned (.bool true) ∧ Below w.heap.size w w' := by
  obtain ⟨w1, hw1⟩ : ∃ w1, w1 = w.alloc (.cells cs 31) := ⟨_, rfl⟩
  have h1w : Below w.heap.size w w1 := by rw [hw1]; exact ext_alloc (Below.refl _ _) _
  rw [← hw1] at hbox
  obtain ⟨G3, hG3⟩ : ∃ G3, G3 = w1.heap.size := ⟨_, rfl⟩
  obtain ⟨w2, hw2⟩ : ∃ w2, w2 = w1.alloc (.cells #[.bool false, .int .i64 0, .int .i64 0, .int .i64 0, .int .i64 0, .int .i64 0, .int .i64 0, .bool false, .int .i64 0, .int .i64 0, .int .i64 0, .int .i64 0, .int .i64 0, .int .i64 0, .bool false, .int .i64 0, .int .i64 0, .int .i64 0, .int .i64 0, .int .i64 0, .int .i64 0] 25) := ⟨_, rfl⟩
  have b12 : Below w1.heap.size w1 w2 := by rw [hw2]; exact ext_alloc (Below.refl _ _) _
  obtain ⟨i0, hi0, hz0, hz1, hz2⟩ := info_parts info_valR
  have hmk : (Instr.makeSlice 27 (.int .i64 3) (.int .i64 3)).run Try.prog w1 = .ok (.slice (some ⟨G3, 0, none⟩) 3 3) w2 := by
    have h := run_make w1 27 25 i0 _ Try.underlying27 hi0 hz0 .i64 .i64 3 3 (by decide) (by decide) (by rw [hz2]; decide) (by decide)
    rw [hz1, show madeCells (Value.agg #[.bool false, .int .i64 0, .int .i64 0, .int .i64 0, .int .i64 0, .int .i64 0, .int .i64 0]).cells (Int.toNat 3 * 7) = #[.bool false, .int .i64 0, .int .i64 0, .int .i64 0, .int .i64 0, .int .i64 0, .int .i64 0, .bool false, .int .i64 0, .int .i64 0, .int .i64 0, .int .i64 0, .int .i64 0, .int .i64 0, .bool false, .int .i64 0, .int .i64 0, .int .i64 0, .int .i64 0, .int .i64 0, .int .i64 0] from by first | kernel_rfl | rfl | (unfold madeCells; rfl)] at h
    rw [hG3, hw2]
    exact h
  have hlit : Calls Try.prog 7 #[.agg #[.bool false, .int .i64 0, .int .i64 0, .int .i64 0, .int .i64 0, .int .i64 0, .int .i64 0, .bool false, .int .i64 0, .int .i64 0, .int .i64 0, .int .i64 0, .int .i64 0, .int .i64 0, .bool false, .int .i64 0, .int .i64 0, .int .i64 0, .int .i64 0, .int .i64 0, .int .i64 0, .bool false, .int .i64 0, .int .i64 0, .int .i64 0, .int .i64 0, .int .i64 0, .int .i64 0, .bool false, .int .i64 0, .int .i64 0, .int .i64 0, .int .i64 0, .int .i64 0, .int .i64 0, .bool false, .int .i64 0, .int .i64 0, .int .i64 0, .int .i64 0, .int .i64 0, .int .i64 0, .bool false, .int .i64 0, .int .i64 0, .int .i64 0, .int .i64 0, .int .i64 0, .int .i64 0, .bool false, .int .i64 0, .int .i64 0, .int .i64 0, .int .i64 0, .int .i64 0, .int .i64 0, .int .i64 1, .int .i64 1, .int .i64 9, .int .i64 0, .int .i64 0, .slice (some ⟨G3, 0, none⟩) 3 3, .slice none 0 0, .slice none 0 0], .int .i64 1, .bool false] w2 (PlacesPost w2 [1, 2]) := by
    have hrow : MRow (List.replicate 8 zeroV) K3 (List.replicate 3 zeroV) [] [] #[.bool false, .int .i64 0, .int .i64 0, .int .i64 0, .int .i64 0, .int .i64 0, .int .i64 0, .bool false, .int .i64 0, .int .i64 0, .int .i64 0, .int .i64 0, .int .i64 0, .int .i64 0, .bool false, .int .i64 0, .int .i64 0, .int .i64 0, .int .i64 0, .int .i64 0, .int .i64 0, .bool false, .int .i64 0, .int .i64 0, .int .i64 0, .int .i64 0, .int .i64 0, .int .i64 0, .bool false, .int .i64 0, .int .i64 0, .int .i64 0, .int .i64 0, .int .i64 0, .int .i64 0, .bool false, .int .i64 0, .int .i64 0, .int .i64 0, .int .i64 0, .int .i64 0, .int .i64 0, .bool false, .int .i64 0, .int .i64 0, .int .i64 0, .int .i64 0, .int .i64 0, .int .i64 0, .bool false, .int .i64 0, .int .i64 0, .int .i64 0, .int .i64 0, .int .i64 0, .int .i64 0, .int .i64 1, .int .i64 1, .int .i64 9, .int .i64 0, .int .i64 0, .slice (some ⟨G3, 0, none⟩) 3 3, .slice none 0 0, .slice none 0 0] w2 := by
      refine ⟨rfl, some ⟨G3, 0, none⟩, none, none, 3, 0, 0, rfl, ?_, Sl.nil _ _, Sl.nil _ _⟩
      have h0 := own_lit (xs := List.replicate 3 zeroV) w1 25 0 (Nat.zero_le _) #[.bool false, .int .i64 0, .int .i64 0, .int .i64 0, .int .i64 0, .int .i64 0, .int .i64 0, .bool false, .int .i64 0, .int .i64 0, .int .i64 0, .int .i64 0, .int .i64 0, .int .i64 0, .bool false, .int .i64 0, .int .i64 0, .int .i64 0, .int .i64 0, .int .i64 0, .int .i64 0] 3 rfl (by decide) rfl
      obtain ⟨ao, c', e, h, _⟩ := h0.sl
      injection e with e _ _
      subst e
      rw [hw2, hG3]
      exact h
    have := cells_any hrow false 1 ((stepCheck_zero).1 (by decide))
    rw [show (List.replicate 3 zeroV).length = 3 from rfl, hits3] at this
    exact this
  have hc1 := fun (W : World) (hb : Below w1.heap.size w1 W) => cells_any (hbox.below hb).toRow false p hok
  have hc2 := fun (W : World) (hb : Below w1.heap.size w1 W) => cells_any (hbox.below hb).toRow true p hok
  have hc3 := fun (W : World) (hb : Below w1.heap.size w1 W) => cells_any (hbox.below hb).toRow true (orI p q) hok
  have hl := hok.len
  obtain ⟨la, hla⟩ : ∃ la, hitsL false mem (rootsP false R c stk) p 0 mem.length = la := ⟨_, rfl⟩
  obtain ⟨lb, hlb⟩ : ∃ lb, hitsL true mem (rootsP true R c stk) p 0 mem.length = lb := ⟨_, rfl⟩
  obtain ⟨lc, hlc⟩ : ∃ lc, hitsL true mem (rootsP true R c stk) (orI p q) 0 mem.length = lc := ⟨_, rfl⟩
  have na : la.length ≤ 100000 := by rw [← hla]; exact Nat.le_trans (hits_len _ _ _ _ _ _) (by omega)
  have nb : lb.length ≤ 100000 := by rw [← hlb]; exact Nat.le_trans (hits_len _ _ _ _ _ _) (by omega)
  have nc : lc.length ≤ 100000 := by rw [← hlc]; exact Nat.le_trans (hits_len _ _ _ _ _ _) (by omega)
  have hi : ∀ x ∈ lb, I64 x := fun x hx => by
    rw [← hlb] at hx
    have := (mem_hits.1 hx).1
    exact ⟨by omega, by omega⟩
  have hsa : ∀ x ∈ la, x ∈ lb := fun x hx => by
    rw [← hla] at hx
    rw [← hlb]
    have := mem_hits.1 hx
    exact mem_hits.2 ⟨this.1, hit_deep this.2⟩
  have hsc : ∀ x ∈ lc, x ∈ lb := fun x hx => by
    rw [← hlc] at hx
    rw [← hlb]
    have := mem_hits.1 hx
    exact mem_hits.2 ⟨this.1, hits_more this.2⟩
  rw [hla] at hc1
  rw [hlb] at hc2
  rw [hlc] at hc3
  have HI := Lib.hid hi
  have HSA := Lib.hid hsa
  have HSC := Lib.hid hsc
  have NA := Lib.hid na
  have NB := Lib.hid nb
  have NC := Lib.hid nc
  clear hla hlb hlc hl hi hsa hsc na nb nc
  have hor : bits .or .i64 p q = orI p q := bits_or_bv p q
  have C1 := Lib.hid hc1
  have C2 := Lib.hid hc2
  have C3 := Lib.hid hc3
  have LIT := Lib.hid hlit
  have MX := Lib.hid hbox
  have HW1 := Lib.hid hw1
  have H1W := Lib.hid h1w
  have HW2 := Lib.hid hw2
  have B12 := Lib.hid b12
  have HG3 := Lib.hid hG3
  clear hc1 hc2 hc3 hlit hbox hw1 h1w hw2 b12 hok hG3 hi0 hz0 hz1 hz2
  go_enter Try.func3, Try.ntmps3
  go_upto_region 1 with (fail)
  rw [← HW1.out]
  go_upto_region 2 with (first
    | (go_at_call 7; ((with_reducible refine LIT.out.mono ?_); rintro e u1 ⟨v1, rfl, ho, hb⟩; obtain ⟨a1, k1, rfl, s1, _⟩ := ho.sl; have S1 := Lib.hid s1; have HB1 := Lib.hid hb; clear hb ho s1)))
  have s12 : Sl (u1.alloc (.cells #[.int .i64 1, .int .i64 2] 3)) (some ⟨u1.heap.size, 0, none⟩) 2 [(1 : Int), 2] := by
    have h0 := own_lit (xs := [(1 : Int), 2]) u1 3 0 (Nat.zero_le _) #[.int .i64 1, .int .i64 2] 2 rfl (by decide) rfl
    obtain ⟨ao, c', e, h, _⟩ := h0.sl
    injection e with e _ _
    subst e
    exact h
  have heq := eq_int a1 (some ⟨u1.heap.size, 0, none⟩) 2 2 k1 2 [(1 : Int), 2] [(1 : Int), 2] _ (S1.out.alloc _) s12
  rw [decide_eq_true rfl] at heq
  have HEQ := Lib.hid heq
  clear heq s12
  go_wp2_with (first
    | (go_at_call 8; ((with_reducible refine HEQ.out.mono ?_); rintro e u2 ⟨rfl, hb⟩; have HB2 := Lib.hid hb; clear hb))
    | (refine wpList_load_sub rfl 31 (.tmp 3) rfl w.heap.size 0 64 rfl 31 _ _ (MX.out.below (ext_trans (ext_alloc (ext_trans B12.out HB1.out) _) HB2.out)).bk Try.underlying31 rfl (by kernel_rfl) MX.out.size _ MX.out.all ?_)
    | (go_at_call 7; ((with_reducible refine (C1.out _ (ext_trans (ext_alloc (ext_trans B12.out HB1.out) _) HB2.out)).mono ?_); rintro e u3 ⟨v3, rfl, ho, hb⟩; obtain ⟨a3, k3, rfl, s3, _⟩ := ho.sl; have S3 := Lib.hid s3; have HB3 := Lib.hid hb; clear hb ho s3))
    | (refine wpList_load_sub rfl 31 (.tmp 3) rfl w.heap.size 0 64 rfl 31 _ _ (MX.out.below (ext_trans (ext_trans (ext_alloc (ext_trans B12.out HB1.out) _) HB2.out) HB3.out)).bk Try.underlying31 rfl (by kernel_rfl) MX.out.size _ MX.out.all ?_)
    | (go_at_call 7; ((with_reducible refine (C2.out _ (ext_trans (ext_trans (ext_alloc (ext_trans B12.out HB1.out) _) HB2.out) HB3.out)).mono ?_); rintro e u4 ⟨v4, rfl, ho, hb⟩; obtain ⟨a4, k4, rfl, s4, _⟩ := ho.sl; have S4 := Lib.hid s4; have HB4 := Lib.hid hb; clear hb ho s4))
    | (refine wpList_load_sub rfl 31 (.tmp 3) rfl w.heap.size 0 64 rfl 31 _ _ (MX.out.below (ext_trans (ext_trans (ext_trans (ext_alloc (ext_trans B12.out HB1.out) _) HB2.out) HB3.out) HB4.out)).bk Try.underlying31 rfl (by kernel_rfl) MX.out.size _ MX.out.all ?_)
    | (go_at_call 7; ((with_reducible refine (C3.out _ (ext_trans (ext_trans (ext_trans (ext_alloc (ext_trans B12.out HB1.out) _) HB2.out) HB3.out) HB4.out)).mono ?_); rintro e u5 ⟨v5, rfl, ho, hb⟩; obtain ⟨a5, k5, rfl, s5, _⟩ := ho.sl; have S5 := Lib.hid s5; have HB5 := Lib.hid hb; clear hb ho s5))
    | (go_at_call 9; ((with_reducible refine (cellsin_any a3 a4 la.length lb.length k3 k4 la lb _ (S3.out.below (ext_trans HB4.out HB5.out)) (S4.out.below HB5.out) NA.out NB.out HI.out HSA.out).mono ?_); rintro e u6 ⟨rfl, hb⟩; have HB6 := Lib.hid hb; clear hb))
    | (go_at_call 9; ((with_reducible refine (cellsin_any a5 a4 lc.length lb.length k5 k4 lc lb _ (S5.out.below HB6.out) (S4.out.below (ext_trans HB5.out HB6.out)) NC.out NB.out HI.out HSC.out).mono ?_); rintro e u7 ⟨rfl, hb⟩; have HB7 := Lib.hid hb; clear hb)))
  go_ret
  exact ⟨rfl, ext_trans H1W.out (ext_trans (ext_trans (ext_trans (ext_trans (ext_trans (ext_trans (ext_alloc (ext_trans B12.out HB1.out) _) HB2.out) HB3.out) HB4.out) HB5.out) HB6.out) HB7.out)⟩
set_option maxHeartbeats 8000000 in
set_option maxRecDepth 100000 in
theorem deep_bad {R : List ValV} {c : KeyV} {mem : List ValV} {stk : List FrameV} {out : List Int} {cs : Array Value} {w : World} (hbox : MBR w.heap.size R c mem stk out cs (w.alloc (.cells cs 31))) (p q : Int) (hok : stepCheck R c mem stk out ≠ 0) : Calls Try.prog 3 #[.agg cs, .int .i64 p, .int .i64 q] w fun e w' => e = .returned (.bool true) ∧ Below w.heap.size w w' := by
  obtain ⟨w1, hw1⟩ : ∃ w1, w1 = w.alloc (.cells cs 31) := ⟨_, rfl⟩
  have h1w : Below w.heap.size w w1 := by rw [hw1]; exact ext_alloc (Below.refl _ _) _
  rw [← hw1] at hbox
  obtain ⟨G3, hG3⟩ : ∃ G3, G3 = w1.heap.size := ⟨_, rfl⟩
  obtain ⟨w2, hw2⟩ : ∃ w2, w2 = w1.alloc (.cells #[.bool false, .int .i64 0, .int .i64 0, .int .i64 0, .int .i64 0, .int .i64 0, .int .i64 0, .bool false, .int .i64 0, .int .i64 0, .int .i64 0, .int .i64 0, .int .i64 0, .int .i64 0, .bool false, .int .i64 0, .int .i64 0, .int .i64 0, .int .i64 0, .int .i64 0, .int .i64 0] 25) := ⟨_, rfl⟩
  have b12 : Below w1.heap.size w1 w2 := by rw [hw2]; exact ext_alloc (Below.refl _ _) _
  obtain ⟨i0, hi0, hz0, hz1, hz2⟩ := info_parts info_valR
  have hmk : (Instr.makeSlice 27 (.int .i64 3) (.int .i64 3)).run Try.prog w1 = .ok (.slice (some ⟨G3, 0, none⟩) 3 3) w2 := by
    have h := run_make w1 27 25 i0 _ Try.underlying27 hi0 hz0 .i64 .i64 3 3 (by decide) (by decide) (by rw [hz2]; decide) (by decide)
    rw [hz1, show madeCells (Value.agg #[.bool false, .int .i64 0, .int .i64 0, .int .i64 0, .int .i64 0, .int .i64 0, .int .i64 0]).cells (Int.toNat 3 * 7) = #[.bool false, .int .i64 0, .int .i64 0, .int .i64 0, .int .i64 0, .int .i64 0, .int .i64 0, .bool false, .int .i64 0, .int .i64 0, .int .i64 0, .int .i64 0, .int .i64 0, .int .i64 0, .bool false, .int .i64 0, .int .i64 0, .int .i64 0, .int .i64 0, .int .i64 0, .int .i64 0] from by first | kernel_rfl | rfl | (unfold madeCells; rfl)] at h
    rw [hG3, hw2]
    exact h
  have hlit : Calls Try.prog 7 #[.agg #[.bool false, .int .i64 0, .int .i64 0, .int .i64 0, .int .i64 0, .int .i64 0, .int .i64 0, .bool false, .int .i64 0, .int .i64 0, .int .i64 0, .int .i64 0, .int .i64 0, .int .i64 0, .bool false, .int .i64 0, .int .i64 0, .int .i64 0, .int .i64 0, .int .i64 0, .int .i64 0, .bool false, .int .i64 0, .int .i64 0, .int .i64 0, .int .i64 0, .int .i64 0, .int .i64 0, .bool false, .int .i64 0, .int .i64 0, .int .i64 0, .int .i64 0, .int .i64 0, .int .i64 0, .bool false, .int .i64 0, .int .i64 0, .int .i64 0, .int .i64 0, .int .i64 0, .int .i64 0, .bool false, .int .i64 0, .int .i64 0, .int .i64 0, .int .i64 0, .int .i64 0, .int .i64 0, .bool false, .int .i64 0, .int .i64 0, .int .i64 0, .int .i64 0, .int .i64 0, .int .i64 0, .int .i64 1, .int .i64 1, .int .i64 9, .int .i64 0, .int .i64 0, .slice (some ⟨G3, 0, none⟩) 3 3, .slice none 0 0, .slice none 0 0], .int .i64 1, .bool false] w2 (PlacesPost w2 [1, 2]) := by
    have hrow : MRow (List.replicate 8 zeroV) K3 (List.replicate 3 zeroV) [] [] #[.bool false, .int .i64 0, .int .i64 0, .int .i64 0, .int .i64 0, .int .i64 0, .int .i64 0, .bool false, .int .i64 0, .int .i64 0, .int .i64 0, .int .i64 0, .int .i64 0, .int .i64 0, .bool false, .int .i64 0, .int .i64 0, .int .i64 0, .int .i64 0, .int .i64 0, .int .i64 0, .bool false, .int .i64 0, .int .i64 0, .int .i64 0, .int .i64 0, .int .i64 0, .int .i64 0, .bool false, .int .i64 0, .int .i64 0, .int .i64 0, .int .i64 0, .int .i64 0, .int .i64 0, .bool false, .int .i64 0, .int .i64 0, .int .i64 0, .int .i64 0, .int .i64 0, .int .i64 0, .bool false, .int .i64 0, .int .i64 0, .int .i64 0, .int .i64 0, .int .i64 0, .int .i64 0, .bool false, .int .i64 0, .int .i64 0, .int .i64 0, .int .i64 0, .int .i64 0, .int .i64 0, .int .i64 1, .int .i64 1, .int .i64 9, .int .i64 0, .int .i64 0, .slice (some ⟨G3, 0, none⟩) 3 3, .slice none 0 0, .slice none 0 0] w2 := by
      refine ⟨rfl, some ⟨G3, 0, none⟩, none, none, 3, 0, 0, rfl, ?_, Sl.nil _ _, Sl.nil _ _⟩
      have h0 := own_lit (xs := List.replicate 3 zeroV) w1 25 0 (Nat.zero_le _) #[.bool false, .int .i64 0, .int .i64 0, .int .i64 0, .int .i64 0, .int .i64 0, .int .i64 0, .bool false, .int .i64 0, .int .i64 0, .int .i64 0, .int .i64 0, .int .i64 0, .int .i64 0, .bool false, .int .i64 0, .int .i64 0, .int .i64 0, .int .i64 0, .int .i64 0, .int .i64 0] 3 rfl (by decide) rfl
      obtain ⟨ao, c', e, h, _⟩ := h0.sl
      injection e with e _ _
      subst e
      rw [hw2, hG3]
      exact h
    have := cells_any hrow false 1 ((stepCheck_zero).1 (by decide))
    rw [show (List.replicate 3 zeroV).length = 3 from rfl, hits3] at this
    exact this
  have hc1 := fun (W : World) (hb : Below w1.heap.size w1 W) => cells_bad (hbox.below hb).toRow false p hok
  have hc2 := fun (W : World) (hb : Below w1.heap.size w1 W) => cells_bad (hbox.below hb).toRow true p hok
  have hc3 := fun (W : World) (hb : Below w1.heap.size w1 W) => cells_bad (hbox.below hb).toRow true (orI p q) hok
  generalize stepCheck R c mem stk out = ec at *
  have g1 : (ec == 0) = false := by simpa using hok
  have g2 : (ec != 0) = true := by simpa using hok
  have hor : bits .or .i64 p q = orI p q := bits_or_bv p q
  have C1 := Lib.hid hc1
  have C2 := Lib.hid hc2
  have C3 := Lib.hid hc3
  have LIT := Lib.hid hlit
  have MX := Lib.hid hbox
  have HW1 := Lib.hid hw1
  have H1W := Lib.hid h1w
  have HW2 := Lib.hid hw2
  have B12 := Lib.hid b12
  have HG3 := Lib.hid hG3
  clear hc1 hc2 hc3 hlit hbox hw1 h1w hw2 b12 hok hG3 hi0 hz0 hz1 hz2
  go_enter Try.func3, Try.ntmps3
  go_upto_region 1 with (fail)
  rw [← HW1.out]
  go_upto_region 2 with (first
    | (go_at_call 7; ((with_reducible refine LIT.out.mono ?_); rintro e u1 ⟨v1, rfl, ho, hb⟩; obtain ⟨a1, k1, rfl, s1, _⟩ := ho.sl; have S1 := Lib.hid s1; have HB1 := Lib.hid hb; clear hb ho s1)))
  have s12 : Sl (u1.alloc (.cells #[.int .i64 1, .int .i64 2] 3)) (some ⟨u1.heap.size, 0, none⟩) 2 [(1 : Int), 2] := by
    have h0 := own_lit (xs := [(1 : Int), 2]) u1 3 0 (Nat.zero_le _) #[.int .i64 1, .int .i64 2] 2 rfl (by decide) rfl
    obtain ⟨ao, c', e, h, _⟩ := h0.sl
    injection e with e _ _
    subst e
    exact h
  have heq := eq_int a1 (some ⟨u1.heap.size, 0, none⟩) 2 2 k1 2 [(1 : Int), 2] [(1 : Int), 2] _ (S1.out.alloc _) s12
  rw [decide_eq_true rfl] at heq
  have HEQ := Lib.hid heq
  clear heq s12
  go_wp2_with (first
    | (go_at_call 8; ((with_reducible refine HEQ.out.mono ?_); rintro e u2 ⟨rfl, hb⟩; have HB2 := Lib.hid hb; clear hb))
    | (refine wpList_load_sub rfl 31 (.tmp 3) rfl w.heap.size 0 64 rfl 31 _ _ (MX.out.below (ext_trans (ext_alloc (ext_trans B12.out HB1.out) _) HB2.out)).bk Try.underlying31 rfl (by kernel_rfl) MX.out.size _ MX.out.all ?_)
    | (go_at_call 7; ((with_reducible refine (C1.out _ (ext_trans (ext_alloc (ext_trans B12.out HB1.out) _) HB2.out)).mono ?_); rintro e u3 ⟨rfl, hb⟩; have HB3 := Lib.hid hb; clear hb))
    | (refine wpList_load_sub rfl 31 (.tmp 3) rfl w.heap.size 0 64 rfl 31 _ _ (MX.out.below (ext_trans (ext_trans (ext_alloc (ext_trans B12.out HB1.out) _) HB2.out) HB3.out)).bk Try.underlying31 rfl (by kernel_rfl) MX.out.size _ MX.out.all ?_)
    | (go_at_call 7; ((with_reducible refine (C2.out _ (ext_trans (ext_trans (ext_alloc (ext_trans B12.out HB1.out) _) HB2.out) HB3.out)).mono ?_); rintro e u4 ⟨rfl, hb⟩; have HB4 := Lib.hid hb; clear hb))
    | (refine wpList_load_sub rfl 31 (.tmp 3) rfl w.heap.size 0 64 rfl 31 _ _ (MX.out.below (ext_trans (ext_trans (ext_trans (ext_alloc (ext_trans B12.out HB1.out) _) HB2.out) HB3.out) HB4.out)).bk Try.underlying31 rfl (by kernel_rfl) MX.out.size _ MX.out.all ?_)
    | (go_at_call 7; ((with_reducible refine (C3.out _ (ext_trans (ext_trans (ext_trans (ext_alloc (ext_trans B12.out HB1.out) _) HB2.out) HB3.out) HB4.out)).mono ?_); rintro e u5 ⟨rfl, hb⟩; have HB5 := Lib.hid hb; clear hb)))
  go_ret
  exact ⟨rfl, ext_trans H1W.out (ext_trans (ext_trans (ext_trans (ext_trans (ext_alloc (ext_trans B12.out HB1.out) _) HB2.out) HB3.out) HB4.out) HB5.out)⟩
theorem reachDeep_walk (x : MachA) (p q : Int) {w : World} (hx : x.ok w) (hp : (Lit.int .i64 p).wf = true) (hq : (Lit.int .i64 q).wf = true) : Calls Try.prog 3 #[x.val, .int .i64 p, .int .i64 q] w fun e w' => e = .returned (.bool true) ∧ Below w.heap.size w w' := by
  by_cases h : stepCheck x.R x.c x.mem x.stk x.out = 0
  · exact deep_ok (mbr_arg hx) p q (stepCheck_zero.1 h)
  · exact deep_bad (mbr_arg hx) p q h
end Go.Proofs.Ytcdcmbehnccicaa
