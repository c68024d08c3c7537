import Derived.BigQuiet
import Derived.Deep.QuietTactic
import Derived.Test.YtcdcmbehnccicaaHasZ
import Derived.Test.YtcdcmbehnccicaaReachNilZ
/- ReachAll. -/
namespace Go.Proofs.Ytcdcmbehnccicaa
open Go.RowKit
set_option linter.unusedVariables false
set_option linter.unusedSimpArgs false
set_option maxHeartbeats 4000000 in
set_option maxRecDepth 100000 in
theorem seals_bad {R : List ValV} {c : KeyV} {mem : List ValV} {stk : List FrameV} {out : List Int} {cs : Array Value} {W : World} (h : MRow R c mem stk out cs W) (d : Bool) (p : Int) (hc : stepCheck R c mem stk out ≠ 0) :
    Calls Try.prog 15 #[.agg cs, .int .i64 p, .bool d] W fun e w' => e = .returned (.tuple #[.slice none 0 0, .int .i64 (stepCheck R c mem stk out)]) ∧ Below W.heap.size W w' := by
  have hb := h.arg
  obtain ⟨w1, hw1⟩ : ∃ w1, w1 = W.alloc (.cells cs 31) := ⟨_, rfl⟩
  have h1w : Below W.heap.size W w1 := by rw [hw1]; exact ext_alloc (Below.refl _ _) _
  rw [← hw1] at hb
  have hck := places_bad hb.toRow d p 1 64 hc
  have zL := hb.bk.lt
  generalize stepCheck R c mem stk out = ec at *
  have CK := Lib.hid hck
  have MX := Lib.hid hb
  have HW1 := Lib.hid hw1
  have H1W := Lib.hid h1w
  clear h hck hb hw1 h1w hc
  go_enter Try.func15, Try.ntmps15
  go_upto_region 1 with (fail)
  rw [← HW1.out]
  go_wp2_with (first
    | (refine wpList_load_sub rfl 31 (.tmp 3) rfl W.heap.size 0 64 rfl 31 _ _ MX.out.bk Try.underlying31 rfl (by kernel_rfl) MX.out.size _ MX.out.all ?_)
    | (go_at_call 17; ((with_reducible refine CK.out.mono ?_); rintro e u1 ⟨rfl, hb⟩; have HB1 := Lib.hid hb; clear hb)))
  go_ret2
  exact ⟨rfl, ext_trans H1W.out HB1.out⟩
set_option maxHeartbeats 4000000 in
set_option maxRecDepth 100000 in
theorem seals_any {R : List ValV} {c : KeyV} {mem : List ValV} {stk : List FrameV} {out : List Int} {cs : Array Value} {W : World} (h : MRow R c mem stk out cs W) (d : Bool) (p : Int) (hok : MOk R c mem stk out) :
    Calls Try.prog 15 #[.agg cs, .int .i64 p, .bool d] W (PlacesPost W (hitsL d mem (rootsP d R c stk) p 1 63)) := by
  have hb := h.arg
  obtain ⟨w1, hw1⟩ : ∃ w1, w1 = W.alloc (.cells cs 31) := ⟨_, rfl⟩
  have h1w : Below W.heap.size W w1 := by rw [hw1]; exact ext_alloc (Below.refl _ _) _
  rw [← hw1] at hb
  have hck := places_any hb.toRow d p 1 63 (by decide) (by decide) hok
  rw [show (1 : Int) + ((63 : Nat) : Int) = 64 from rfl] at hck
  have zL := hb.bk.lt
  have CK := Lib.hid hck
  have MX := Lib.hid hb
  have HW1 := Lib.hid hw1
  have H1W := Lib.hid h1w
  clear h hck hb hw1 h1w hok
  go_enter Try.func15, Try.ntmps15
  go_upto_region 1 with (fail)
  rw [← HW1.out]
  go_wp2_with (first
    | (refine wpList_load_sub rfl 31 (.tmp 3) rfl W.heap.size 0 64 rfl 31 _ _ MX.out.bk Try.underlying31 rfl (by kernel_rfl) MX.out.size _ MX.out.all ?_)
    | (go_at_call 17; ((with_reducible refine CK.out.mono ?_); rintro e u1 ⟨v, rfl, ho, hb⟩; have HO := Lib.hid ho; have HB1 := Lib.hid hb; clear hb ho)))
  go_ret2
  exact ⟨v, rfl, HO.out.mono H1W.out.size, ext_trans H1W.out HB1.out⟩
theorem lit_hits : hitsL false [] (rootsP false (List.replicate 8 zeroV) ⟨32, 0, 3, 0, 0⟩ []) 32 1 63 = [1, 2] := by
  have hr : ∀ k, Rch false [] (rootsP false (List.replicate 8 zeroV) ⟨32, 0, 3, 0, 0⟩ []) k → k = ⟨32, 0, 3, 0, 0⟩ := fun k hk => by
    induction hk with
    | root h =>
      rcases h with h | ⟨v, hv, hi, _⟩ | ⟨h, _⟩
      · exact h
      · rw [List.eq_of_mem_replicate hv] at hi; cases hi
      · cases h
    | next _ hn _ =>
      obtain ⟨_, j, _, _, h3, _⟩ := hn
      simp at h3
  have hh : ∀ x, hitP false [] (rootsP false (List.replicate 8 zeroV) ⟨32, 0, 3, 0, 0⟩ []) 32 x ↔ (0 ≤ x ∧ x < 3) := fun x => by
    constructor
    · rintro ⟨k, h1, _, _, h4⟩
      rw [hr k h1, covB_iff] at h4
      simpa using h4
    · intro h
      exact ⟨⟨32, 0, 3, 0, 0⟩, .root (.inl rfl), by decide, by decide, covB_iff.2 (by simpa using h)⟩
  have e : hitsL false [] (rootsP false (List.replicate 8 zeroV) ⟨32, 0, 3, 0, 0⟩ []) 32 1 63 = ((List.range 63).map fun (i : Nat) => (1 : Int) + (i : Int)).filter fun x => decide (0 ≤ x ∧ x < 3) := by
    unfold hitsL
    exact List.filter_congr fun x _ => decide_eq_decide.2 (hh x)
  rw [e]
  decide
theorem lit_row (W : World) : MRow (List.replicate 8 zeroV) ⟨32, 0, 3, 0, 0⟩ [] [] [] #[.bool false, .int .i64 0, .int .i64 0, .int .i64 0, .int .i64 0, .int .i64 0, .int .i64 0, .bool false, .int .i64 0, .int .i64 0, .int .i64 0, .int .i64 0, .int .i64 0, .int .i64 0, .bool false, .int .i64 0, .int .i64 0, .int .i64 0, .int .i64 0, .int .i64 0, .int .i64 0, .bool false, .int .i64 0, .int .i64 0, .int .i64 0, .int .i64 0, .int .i64 0, .int .i64 0, .bool false, .int .i64 0, .int .i64 0, .int .i64 0, .int .i64 0, .int .i64 0, .int .i64 0, .bool false, .int .i64 0, .int .i64 0, .int .i64 0, .int .i64 0, .int .i64 0, .int .i64 0, .bool false, .int .i64 0, .int .i64 0, .int .i64 0, .int .i64 0, .int .i64 0, .int .i64 0, .bool false, .int .i64 0, .int .i64 0, .int .i64 0, .int .i64 0, .int .i64 0, .int .i64 0, .int .i64 32, .int .i64 0, .int .i64 3, .int .i64 0, .int .i64 0, .slice none 0 0, .slice none 0 0, .slice none 0 0] W := ⟨rfl, none, none, none, 0, 0, 0, rfl, Sl.nil _ _, Sl.nil _ _, Sl.nil _ _⟩
theorem seals_lit (W : World) : Calls Try.prog 15 #[.agg #[.bool false, .int .i64 0, .int .i64 0, .int .i64 0, .int .i64 0, .int .i64 0, .int .i64 0, .bool false, .int .i64 0, .int .i64 0, .int .i64 0, .int .i64 0, .int .i64 0, .int .i64 0, .bool false, .int .i64 0, .int .i64 0, .int .i64 0, .int .i64 0, .int .i64 0, .int .i64 0, .bool false, .int .i64 0, .int .i64 0, .int .i64 0, .int .i64 0, .int .i64 0, .int .i64 0, .bool false, .int .i64 0, .int .i64 0, .int .i64 0, .int .i64 0, .int .i64 0, .int .i64 0, .bool false, .int .i64 0, .int .i64 0, .int .i64 0, .int .i64 0, .int .i64 0, .int .i64 0, .bool false, .int .i64 0, .int .i64 0, .int .i64 0, .int .i64 0, .int .i64 0, .int .i64 0, .bool false, .int .i64 0, .int .i64 0, .int .i64 0, .int .i64 0, .int .i64 0, .int .i64 0, .int .i64 32, .int .i64 0, .int .i64 3, .int .i64 0, .int .i64 0, .slice none 0 0, .slice none 0 0, .slice none 0 0], .int .i64 32, .bool false] W (PlacesPost W [1, 2]) := by
  have := seals_any (lit_row W) false 32 (stepCheck_zero.1 (by decide))
  rwa [lit_hits] at this
def max1 (l : Int) : Int := if l > 1 then l else 1
theorem max_one (ats : Array TypeId) (ty : TypeId) (l : Int) : Go.Builtin.max_ ats ty #[.int .i64 1, .int .i64 l] = pure (.int .i64 (max1 l)) := by
  unfold Go.Builtin.max_ max1
  simp [Go.Builtin.max2]
attribute [local go_sem] max_one
set_option maxHeartbeats 8000000 in
set_option maxRecDepth 100000 in
theorem all_bad {R : List ValV} {c : KeyV} {mem : List ValV} {stk : List FrameV} {out : List Int} {cs : Array Value} {w : World} (hbox : MBR w.heap.size R c mem stk out cs (w.alloc (.cells cs 31))) (at_ : Int) (hc : stepCheck R c mem stk out ≠ 0) :
    Calls Try.prog 6 #[.agg cs, .int .i64 at_] w fun e w' => e = .returned (.bool true) ∧ Below w.heap.size w w' := by
  obtain ⟨w1, hw1⟩ : ∃ w1, w1 = w.alloc (.cells cs 31) := ⟨_, rfl⟩
  have h1w : Below w.heap.size w w1 := by rw [hw1]; exact ext_alloc (Below.refl _ _) _
  rw [← hw1] at hbox
  have hlit := seals_lit w1
  obtain ⟨ec, hec⟩ : ∃ ec, stepCheck R c mem stk out = ec := ⟨_, rfl⟩
  have g1 : (ec == 0) = false := by rw [← hec]; simpa using hc
  have g2 : (ec != 0) = true := by rw [← hec]; simpa using hc
  have HC := Lib.hid hc
  have HEC := Lib.hid hec
  clear hc hec
  have HLIT := Lib.hid hlit
  have MX := Lib.hid hbox
  have HW1 := Lib.hid hw1
  have H1W := Lib.hid h1w
  clear hlit hbox hw1 h1w 
  go_enter Try.func6, Try.ntmps6
  go_upto_region 1 with (fail)
  rw [← HW1.out]
  go_upto_region 2 with (go_at_call 15; ((with_reducible refine HLIT.out.mono ?_); rintro e u1 ⟨v1, rfl, ho, hb⟩; obtain ⟨a1, k1, rfl, s1, _⟩ := ho.sl; have S1 := Lib.hid s1; have HB1 := Lib.hid hb; clear hb ho s1))
  have s12 : Sl (u1.alloc (.cells #[.int .i64 1, .int .i64 2] 3)) (some ⟨u1.heap.size, 0, none⟩) 2 ([1, 2] : List Int) := by
    have h0 := own_lit (xs := ([1, 2] : List Int)) u1 3 0 (Nat.zero_le _) #[.int .i64 1, .int .i64 2] 2 rfl (by decide) rfl
    obtain ⟨ao, c', e, h, _⟩ := h0.sl
    injection e with e _ _
    subst e
    exact h
  have heq := eq_int a1 (some ⟨u1.heap.size, 0, none⟩) 2 2 k1 2 [1, 2] [1, 2] _ (S1.out.alloc _) s12
  rw [decide_eq_true rfl] at heq
  have HEQ := Lib.hid heq
  clear heq s12
  go_upto_region 5 with (first
    | (go_at_call 8; ((with_reducible refine HEQ.out.mono ?_); rintro e u2 ⟨rfl, hb⟩; have HB2 := Lib.hid hb; clear hb))
    | (refine wpList_load_sub rfl 31 (.tmp 2) rfl w.heap.size 0 64 rfl 31 _ _ (MX.out.below (ext_trans (ext_alloc HB1.out _) HB2.out)).bk Try.underlying31 rfl (by kernel_rfl) MX.out.size _ MX.out.all ?_)
    | (go_at_call 10; ((with_reducible refine (keys_bad (MX.out.below (ext_trans (ext_alloc HB1.out _) HB2.out)).toRow true HC.out).mono ?_); rintro e u3 ⟨rfl, hb⟩; rw [HEC.out]; have HB3 := Lib.hid hb; clear hb)))
  go_wp2
  go_ret
  exact ⟨rfl, ext_trans H1W.out (ext_trans (ext_alloc HB1.out _) (ext_trans HB2.out HB3.out))⟩
set_option maxHeartbeats 8000000 in
set_option maxRecDepth 100000 in
theorem all_good {R : List ValV} {c : KeyV} {mem : List ValV} {stk : List FrameV} {out : List Int} {cs : Array Value} {w : World} (hbox : MBR w.heap.size R c mem stk out cs (w.alloc (.cells cs 31))) (at_ : Int) (hc : stepCheck R c mem stk out = 0) :
    Calls Try.prog 6 #[.agg cs, .int .i64 at_] w fun e w' => e = .returned (.bool true) ∧ Below w.heap.size w w' := by
  obtain ⟨w1, hw1⟩ : ∃ w1, w1 = w.alloc (.cells cs 31) := ⟨_, rfl⟩
  have h1w : Below w.heap.size w w1 := by rw [hw1]; exact ext_alloc (Below.refl _ _) _
  rw [← hw1] at hbox
  have hlit := seals_lit w1
  have HC := Lib.hid (stepCheck_zero.1 hc)
  clear hc
  have HLIT := Lib.hid hlit
  have MX := Lib.hid hbox
  have HW1 := Lib.hid hw1
  have H1W := Lib.hid h1w
  clear hlit hbox hw1 h1w 
  go_enter Try.func6, Try.ntmps6
  go_upto_region 1 with (fail)
  rw [← HW1.out]
  go_upto_region 2 with (go_at_call 15; ((with_reducible refine HLIT.out.mono ?_); rintro e u1 ⟨v1, rfl, ho, hb⟩; obtain ⟨a1, k1, rfl, s1, _⟩ := ho.sl; have S1 := Lib.hid s1; have HB1 := Lib.hid hb; clear hb ho s1))
  have s12 : Sl (u1.alloc (.cells #[.int .i64 1, .int .i64 2] 3)) (some ⟨u1.heap.size, 0, none⟩) 2 ([1, 2] : List Int) := by
    have h0 := own_lit (xs := ([1, 2] : List Int)) u1 3 0 (Nat.zero_le _) #[.int .i64 1, .int .i64 2] 2 rfl (by decide) rfl
    obtain ⟨ao, c', e, h, _⟩ := h0.sl
    injection e with e _ _
    subst e
    exact h
  have heq := eq_int a1 (some ⟨u1.heap.size, 0, none⟩) 2 2 k1 2 [1, 2] [1, 2] _ (S1.out.alloc _) s12
  rw [decide_eq_true rfl] at heq
  have HEQ := Lib.hid heq
  clear heq s12
  go_upto_region 5 with (first
    | (go_at_call 8; ((with_reducible refine HEQ.out.mono ?_); rintro e u2 ⟨rfl, hb⟩; have HB2 := Lib.hid hb; clear hb))
    | (refine wpList_load_sub rfl 31 (.tmp 2) rfl w.heap.size 0 64 rfl 31 _ _ (MX.out.below (ext_trans (ext_alloc HB1.out _) HB2.out)).bk Try.underlying31 rfl (by kernel_rfl) MX.out.size _ MX.out.all ?_)
    | (go_at_call 10; ((with_reducible refine (keys_any (MX.out.below (ext_trans (ext_alloc HB1.out _) HB2.out)).toRow true HC.out).mono ?_); rintro e u3 ⟨lo, lc, ts, rfl, ls, li, lk, ⟨ll, _⟩, hb⟩; have LS := Lib.hid ls; have LI := Lib.hid li; have LK := Lib.hid lk; have HB3 := Lib.hid hb; clear hb ls li lk)))
  have B13 := Lib.hid (ext_trans (ext_alloc HB1.out _) (ext_trans HB2.out HB3.out))
  have MX3 := Lib.hid (MX.out.below B13.out)
  have FIN := Lib.hid (ext_trans H1W.out B13.out)
  obtain ⟨nt, hnt⟩ : ∃ nt, ts.length = nt := ⟨_, rfl⟩
  have hls := LS.out
  rw [hnt] at hls ll ⊢
  clear LS
  have LS := Lib.hid hls
  have HNT := Lib.hid hnt
  obtain ⟨nm, hnm⟩ : ∃ nm, mem.length = nm := ⟨_, rfl⟩
  have HNM := Lib.hid hnm
  have l400 := HC.out.len
  rw [hnm] at l400
  clear hls hnt hnm MX HB1 HB2 HB3 HLIT HEQ S1 HW1 H1W B13
  go_wp2
  go_loopw [42] (fun i wr => ∃ j : Nat, j ≤ nt ∧ i = .int .i64 j ∧ Below u3.heap.size u3 wr) (fun i _ => nt - (intOf i).toNat)
  case atStart => exact ⟨0, Nat.zero_le _, rfl, Below.refl _ _⟩
  case round =>
    obtain ⟨j, hj, rfl, hb⟩ := hrel
    obtain ⟨wo, hwo⟩ : ∃ wo, wo = wr := ⟨_, rfl⟩
    subst hwo
    by_cases hlt : j < nt
    · have q0 : (0 : Int) ≤ j := by omega
      have q1 : (j : Int) < nt := by omega
      obtain ⟨k, hgk⟩ : ∃ k, ts[j]? = some k := ⟨_, List.getElem?_eq_getElem (by have := HNT.out; omega)⟩
      obtain ⟨ad, rfl, bx, e0, e1, e2, e3, e4⟩ := sl_keyS (LS.out.below hb) hlt hgk
      have hmem := List.mem_of_getElem? hgk
      have hrch := (LI.out k).1 hmem
      have hkok := LK.out k hmem
      obtain ⟨kp, kb, kl, ka, ks⟩ := k
      have kb0 := hkok.b0
      have kl0 := hkok.l0
      have kl1 := hkok.l1
      simp only at kb0 kl0 kl1 e0 e1 e2 e3 e4
      have hca := fun W (hb : Below u3.heap.size u3 W) => cells_any (MX3.out.below hb).toRow true kp HC.out
      have hcb := fun W (hb : Below u3.heap.size u3 W) => seals_any (MX3.out.below hb).toRow true kp HC.out
      have hhit : ∀ x : Int, kb ≤ x → x < kb + kl → hitP true mem (rootsP true R c stk) kp x := fun x h1 h2 => ⟨_, hrch, rfl, withinB_refl _, covB_iff.2 ⟨h1, h2⟩⟩
      have hinA : ∀ x : Int, kb ≤ x → x < kb + kl → x < nm → x ∈ hitsL true mem (rootsP true R c stk) kp 0 mem.length := fun x h1 h2 h3 => mem_hits.2 ⟨⟨by omega, by rw [HNM.out]; omega⟩, hhit x h1 h2⟩
      have hinB : ∀ x : Int, kb ≤ x → x < kb + kl → 1 ≤ x → x ≤ 63 → x ∈ hitsL true mem (rootsP true R c stk) kp 1 63 := fun x h1 h2 h3 h4 => mem_hits.2 ⟨⟨h3, by omega⟩, hhit x h1 h2⟩
      obtain ⟨la, hla⟩ : ∃ la, hitsL true mem (rootsP true R c stk) kp 0 mem.length = la := ⟨_, rfl⟩
      obtain ⟨lb, hlb⟩ : ∃ lb, hitsL true mem (rootsP true R c stk) kp 1 63 = lb := ⟨_, rfl⟩
      simp only [hla] at hca hinA
      simp only [hlb] at hcb hinB
      have ml0 : 0 < max1 kl := by unfold max1; split <;> omega
      have ml1 : max1 kl ≤ 4294967296 := by unfold max1; split <;> omega
      have ml2 : max1 kl ≤ kl ∨ kl = 0 := by unfold max1; split <;> omega
      have ml3 : max1 kl ≤ 400 := by unfold max1; split <;> omega
      have hra := fun W => rest_any at_ (max1 kl) W ml0 ml1
      have r0 := Int.emod_nonneg at_ (show max1 kl ≠ 0 by omega)
      have r1 := Int.emod_lt_of_pos at_ ml0
      obtain ⟨rr, hrr⟩ : ∃ rr, at_ % max1 kl = rr := ⟨_, rfl⟩
      simp only [hrr] at hra r0 r1
      obtain ⟨w5, hw5⟩ : ∃ w5, w5 = wo.alloc (.cells #[.int .i64 kp, .int .i64 kb, .int .i64 kl, .int .i64 ka, .int .i64 ks] 23) := ⟨_, rfl⟩
      have b5 : Below u3.heap.size u3 w5 := by rw [hw5]; exact ext_alloc hb _
      have x5 : Bk w5 wo.heap.size 23 #[.int .i64 kp, .int .i64 kb, .int .i64 kl, .int .i64 ka, .int .i64 ks] := by rw [hw5]; exact bk_new _ _ _
      obtain ⟨gx, hgx⟩ : ∃ gx, gx = wo.heap.size := ⟨_, rfl⟩
      rw [← hgx] at x5
      obtain ⟨t0, t1, t2, t3, t4⟩ := cells5 x5
      have tL := x5.lt
      have X5 := Lib.hid x5
      have HW5 := Lib.hid hw5
      have HGX := Lib.hid hgx
      have B5 := Lib.hid b5
      have HCA := Lib.hid hca
      have HCB := Lib.hid hcb
      have HIA := Lib.hid hinA
      have HIB := Lib.hid hinB
      have HRA := Lib.hid hra
      clear x5 hw5 hgx b5 hca hcb hinA hinB hra hhit hla hlb hrr hb hrch hkok hmem hgk
      go_upto_region 10 with (fail)
      rw [← HW5.out, ← HGX.out]
      clear e0 e1 e2 e3 e4 bx HW5 HGX
      go_upto_region 11 with (first
        | (refine wpList_load_sub rfl 31 (.tmp 2) rfl w.heap.size 0 64 rfl 31 _ _ (MX3.out.below B5.out).bk Try.underlying31 rfl (by kernel_rfl) MX3.out.size _ MX3.out.all ?_)
        | (go_at_call 7; ((with_reducible refine (HCA.out _ B5.out).mono ?_); rintro e u6 ⟨va, rfl, oa, hb⟩; obtain ⟨aa, ca, rfl, sa, _⟩ := oa.sl; have SA := Lib.hid sa; have HB6 := Lib.hid hb; clear hb oa sa)))
      have x6 := bk_keep HB6.out X5.out
      obtain ⟨y0, y1, y2, y3, y4⟩ := cells5 x6
      have yL := x6.lt
      have X6 := Lib.hid x6
      clear x6 t0 t1 t2 t3 t4 tL
      go_upto_region 12 with (first
        | (refine wpList_load_sub rfl 31 (.tmp 2) rfl w.heap.size 0 64 rfl 31 _ _ (MX3.out.below (ext_trans B5.out HB6.out)).bk Try.underlying31 rfl (by kernel_rfl) MX3.out.size _ MX3.out.all ?_)
        | (go_at_call 15; ((with_reducible refine (HCB.out _ (ext_trans B5.out HB6.out)).mono ?_); rintro e u7 ⟨vb, rfl, ob, hb⟩; obtain ⟨ab, cb, rfl, sb, _⟩ := ob.sl; have SB := Lib.hid sb; have HB7 := Lib.hid hb; clear hb ob sb)))
      have x7 := bk_keep HB7.out X6.out
      have b37 := ext_trans B5.out (ext_trans HB6.out HB7.out)
      obtain ⟨z0, z1, z2, z3, z4⟩ := cells5 x7
      have zL := x7.lt
      obtain ⟨ma, mc, m61, _⟩ := (MX3.out.below b37).memC
      have mL := (MX3.out.below b37).bk.lt
      rw [HNM.out] at m61
      have B37 := Lib.hid b37
      clear x7 b37 y0 y1 y2 y3 y4 yL X6 X5
      go_upto_region 14 with (fail)
      go_quiet (first | (go_at_call 12; exact Calls.quiet_of_same (calls_flip3 (HRA.out _))))
      have hsa := fun W (hb : Below u6.heap.size u6 W) => has_num aa la.length ca la (kb + rr) W (SA.out.below hb)
      have hsb := fun W (hb : Below u7.heap.size u7 W) => has_num ab lb.length cb lb (kb + rr) W (SB.out.below hb)
      have hia := HIA.out (kb + rr) (by omega)
      have hib := HIB.out (kb + rr) (by omega)
      clear SA SB HIA HIB HCA HCB HRA
      by_cases hl0 : 0 < kl
      · have r2 : kb + rr < kb + kl := by omega
        have ib := hib r2
        have ia := hia r2
        clear hia hib
        by_cases h1 : kb + rr < nm
        · have ia := ia h1
          simp only [decide_eq_true ia] at hsa
          have SA := Lib.hid hsa
          clear hsa ia
          by_cases h2 : 1 ≤ kb + rr
          · by_cases h3 : kb + rr ≤ 63
            · have ib := ib h2 h3
              simp only [decide_eq_true ib] at hsb
              have SB := Lib.hid hsb
              clear hsb ib
              go_upto_region 17 with (go_at_call 16; first | ((with_reducible refine (SA.out _ (ext_drewN HB7.out _)).mono ?_); rintro e w' ⟨rfl, rfl⟩) | ((with_reducible refine (SB.out _ (ext_drewN (Below.refl _ _) _)).mono ?_); rintro e w' ⟨rfl, rfl⟩))
              go_wp2
              go_roundw
              case rel => exact ⟨j + 1, by omega, by go_num, by repeat (first | exact B37.out | with_reducible refine ext_drewN ?_ _ | with_reducible refine ext_drew ?_)⟩
              case measure => simp [intOf]; omega
            · have SB := Lib.hid hsb
              clear hsb ib
              go_upto_region 17 with (go_at_call 16; first | ((with_reducible refine (SA.out _ (ext_drewN HB7.out _)).mono ?_); rintro e w' ⟨rfl, rfl⟩) | ((with_reducible refine (SB.out _ (ext_drewN (Below.refl _ _) _)).mono ?_); rintro e w' ⟨rfl, rfl⟩))
              go_wp2
              go_roundw
              case rel => exact ⟨j + 1, by omega, by go_num, by repeat (first | exact B37.out | with_reducible refine ext_drewN ?_ _ | with_reducible refine ext_drew ?_)⟩
              case measure => simp [intOf]; omega
          · have SB := Lib.hid hsb
            clear hsb ib
            go_upto_region 17 with (go_at_call 16; first | ((with_reducible refine (SA.out _ (ext_drewN HB7.out _)).mono ?_); rintro e w' ⟨rfl, rfl⟩) | ((with_reducible refine (SB.out _ (ext_drewN (Below.refl _ _) _)).mono ?_); rintro e w' ⟨rfl, rfl⟩))
            go_wp2
            go_roundw
            case rel => exact ⟨j + 1, by omega, by go_num, by repeat (first | exact B37.out | with_reducible refine ext_drewN ?_ _ | with_reducible refine ext_drew ?_)⟩
            case measure => simp [intOf]; omega
        · have SA := Lib.hid hsa
          clear hsa ia
          by_cases h2 : 1 ≤ kb + rr
          · by_cases h3 : kb + rr ≤ 63
            · have ib := ib h2 h3
              simp only [decide_eq_true ib] at hsb
              have SB := Lib.hid hsb
              clear hsb ib
              go_upto_region 17 with (go_at_call 16; first | ((with_reducible refine (SA.out _ (ext_drewN HB7.out _)).mono ?_); rintro e w' ⟨rfl, rfl⟩) | ((with_reducible refine (SB.out _ (ext_drewN (Below.refl _ _) _)).mono ?_); rintro e w' ⟨rfl, rfl⟩))
              go_wp2
              go_roundw
              case rel => exact ⟨j + 1, by omega, by go_num, by repeat (first | exact B37.out | with_reducible refine ext_drewN ?_ _ | with_reducible refine ext_drew ?_)⟩
              case measure => simp [intOf]; omega
            · have SB := Lib.hid hsb
              clear hsb ib
              go_upto_region 17 with (go_at_call 16; first | ((with_reducible refine (SA.out _ (ext_drewN HB7.out _)).mono ?_); rintro e w' ⟨rfl, rfl⟩) | ((with_reducible refine (SB.out _ (ext_drewN (Below.refl _ _) _)).mono ?_); rintro e w' ⟨rfl, rfl⟩))
              go_wp2
              go_roundw
              case rel => exact ⟨j + 1, by omega, by go_num, by repeat (first | exact B37.out | with_reducible refine ext_drewN ?_ _ | with_reducible refine ext_drew ?_)⟩
              case measure => simp [intOf]; omega
          · have SB := Lib.hid hsb
            clear hsb ib
            go_upto_region 17 with (go_at_call 16; first | ((with_reducible refine (SA.out _ (ext_drewN HB7.out _)).mono ?_); rintro e w' ⟨rfl, rfl⟩) | ((with_reducible refine (SB.out _ (ext_drewN (Below.refl _ _) _)).mono ?_); rintro e w' ⟨rfl, rfl⟩))
            go_wp2
            go_roundw
            case rel => exact ⟨j + 1, by omega, by go_num, by repeat (first | exact B37.out | with_reducible refine ext_drewN ?_ _ | with_reducible refine ext_drew ?_)⟩
            case measure => simp [intOf]; omega
      · have SA := Lib.hid hsa
        have SB := Lib.hid hsb
        clear hsa hsb hia hib
        go_upto_region 17 with (go_at_call 16; first | ((with_reducible refine (SA.out _ (ext_drewN HB7.out _)).mono ?_); rintro e w' ⟨rfl, rfl⟩) | ((with_reducible refine (SB.out _ (ext_drewN (Below.refl _ _) _)).mono ?_); rintro e w' ⟨rfl, rfl⟩))
        go_wp2
        go_roundw
        case rel => exact ⟨j + 1, by omega, by go_num, by repeat (first | exact B37.out | with_reducible refine ext_drewN ?_ _ | with_reducible refine ext_drew ?_)⟩
        case measure => simp [intOf]; omega
    · have q1 : ¬ ((j : Int) < nt) := by omega
      have HB := Lib.hid hb
      clear hb
      go_wp2
      go_ret
      exact ⟨rfl, ext_trans FIN.out HB.out⟩
theorem reachAll_walk (x : MachA) (a : Int) {w : World} (hx : x.ok w) (ha : (Lit.int .i64 a).wf = true) : Calls Try.prog 6 #[x.val, .int .i64 a] w fun e w' => e = .returned (.bool true) ∧ Below w.heap.size w w' := by
  by_cases hc : stepCheck x.R x.c x.mem x.stk x.out = 0
  · exact all_good (mbr_arg hx) a hc
  · exact all_bad (mbr_arg hx) a hc
end Go.Proofs.Ytcdcmbehnccicaa
