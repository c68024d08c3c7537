/- What Pack of package cell computes. -/
import Derived.Test.YthadehaoafkaeaaCellCheck
import Derived.Test.YthadehaoafkaeaaCellBytes
import Derived.Deep.AppendLies
namespace Go.Proofs.Ythadehaoafkaeaa
open Go.RowKit
set_option linter.unusedVariables false

theorem own_fresh (w : World) {base : Nat} (e : TypeId) (cs : Array Value) (n : Nat) (hb : base ≤ w.heap.size) (hn : cs.size = n) (hm : n ≤ maxLen) :
    (w.alloc (.cells cs e)).ownsRow base e 1 (.slice (some ⟨w.heap.size, 0, none⟩) n n) n cs.toList :=
  ⟨by simp [hn], .inr ⟨w.heap.size, n, cs, rfl, hb, heap_alloc_new w _, Nat.le_refl _, hm, by simp [hn], by subst hn; rw [Nat.mul_one, List.take_of_length_le (by simp)]⟩⟩
theorem own_freshg (w : World) {base g : Nat} (hg : w.heap.size = g) (e : TypeId) (cs : Array Value) (n : Nat) (hb : base ≤ w.heap.size) (hn : cs.size = n) (hm : n ≤ maxLen) :
    (w.alloc (.cells cs e)).ownsRow base e 1 (.slice (some ⟨g, 0, none⟩) n n) n cs.toList := hg ▸ own_fresh w e cs n hb hn hm
theorem below_grown {n : Nat} {a b c : World} {r : Option Nat} (h : Below n a b) (k : b.grownBy c r) (hr : ∀ g, r = some g → n ≤ g) (hn : n ≤ b.heap.size) : Below n a c := by
  refine h.trans ⟨k.os, k.tape, k.output, k.size, fun i hi => k.block i (Nat.lt_of_lt_of_le hi hn) ?_⟩
  intro e
  have := hr i e.symm
  omega
theorem Wrote.below {n : Nat} {a b c : World} {v v' : Value} (h : Below n a b) (k : Wrote b c v v') (hr : ∀ g, v.ownBlock = some g → n ≤ g) (hn : n ≤ b.heap.size) : Below n a c := below_grown h k.1 hr hn
theorem Wrote.own {n : Nat} {b c : World} {v v' : Value} (k : Wrote b c v v') (hr : ∀ g, v.ownBlock = some g → n ≤ g) (hn : n ≤ b.heap.size) : ∀ g, v'.ownBlock = some g → n ≤ g := by
  intro g hg
  rcases k.2 with h | ⟨g1, h, h2⟩
  · exact hr g (h ▸ hg)
  · rw [h] at hg; injection hg with hg; omega
theorem Wrote.trans {a b c : World} {v v1 v2 : Value} (h : Wrote a b v v1) (k : Wrote b c v1 v2) : Wrote a c v v2 := h.step k.1 k.2
theorem own_slice {g n cap N : Nat} (h : N ≤ g) : ∀ k, (Value.slice (some ⟨g, 0, none⟩) n cap).ownBlock = some k → N ≤ k := by
  intro k hk
  simp [Value.ownBlock] at hk
  omega

theorem put4 (B : Nat) (v0 : Value) (m : Nat) (xs : List Value) (n : Int) (w : World) (hown : w.ownsRow B 5 1 v0 m xs) (hB : B ≤ w.heap.size) (hm : m ≤ 1000) (hn : 0 ≤ n) (hn2 : n ≤ 1099511627776) :
    Calls Try.prog 44 #[v0, .int .i64 n, .int .i64 4] w (PutPost B xs m n 4 w v0) := put_any B v0 m xs n 4 w hown hB hm (by decide) hn hn2
theorem put2 (B : Nat) (v0 : Value) (m : Nat) (xs : List Value) (n : Int) (w : World) (hown : w.ownsRow B 5 1 v0 m xs) (hB : B ≤ w.heap.size) (hm : m ≤ 1000) (hn : 0 ≤ n) (hn2 : n ≤ 1099511627776) :
    Calls Try.prog 44 #[v0, .int .i64 n, .int .i64 2] w (PutPost B xs m n 2 w v0) := put_any B v0 m xs n 2 w hown hB hm (by decide) hn hn2
set_option maxHeartbeats 1000000 in
theorem pack_num (n : Int) (h1 : -2147483648 ≤ n) (h2 : n ≤ 2147483647) (w : World) :
    Calls Try.prog 26 #[.agg #[.bool false, .int .i64 n, .int .i64 0, .int .i64 0, .int .i64 0, .int .i64 0, .int .i64 0]] w fun e w' => e = .returned (.tuple #[.string (packS (.num n)), .int .i64 0]) ∧ Below w.heap.size w w' := by
  obtain ⟨i0, hi, hz0, hz1, hz2⟩ := info_parts infoU8
  have cc := fun W => ccheck_any false n 0 0 0 0 0 W
  have e0 : valCheck ⟨false, n, ⟨0, 0, 0, 0, 0⟩⟩ = 0 := (valCheck_zero _).2 (.inr ⟨rfl, h1, h2, rfl⟩)
  rw [e0] at cc
  have CC := Lib.hid cc
  clear cc e0
  have hp : packS (.num n) = ⟨(sealL (numL n)).toArray⟩ := rfl
  have hl : [Value.int .u8 0] ++ bytesUp (n + 2147483648) 4 0 ++ bytesUp 0 4 0 = (numL n).map bV := by
    rw [up4, up4, be4_zero]; rfl
  have hs : (numL n).length = 9 := rfl
  rw [hp]
  clear hp
  generalize numL n = L at *
  have sm : ∀ W, Calls Try.prog 45 #[.string ⟨L.toArray⟩] W fun e w' => e = .returned (.int .u8 (sumB L)) ∧ W = w' := fun W => sum_any ⟨L.toArray⟩ W (by show L.toArray.size ≤ maxLen; unfold maxLen; simp; omega)
  have SM := Lib.hid sm
  have HL := Lib.hid hl
  clear sm hl hs
  go_enter Try.func26, Try.ntmps26
  go_wp2_with (first
    | (go_at_call 29; ((with_reducible refine (CC.out _).mono ?_); rintro e w1 ⟨rfl, hb1⟩; have vB : Bk w1 w.heap.size 41 #[.bool false, .int .i64 n, .int .i64 0, .int .i64 0, .int .i64 0, .int .i64 0, .int .i64 0] := bk_keep hb1 (bk_new _ _ _); obtain ⟨v0, v1, v2, v3, v4, v5, v6⟩ := cells7 vB; have vL := vB.lt))
    | (go_at_call 44; (with_reducible refine (put4 w.heap.size (.slice (some ⟨w1.heap.size, 0, none⟩) 1 1) 1 [.int .u8 0] (n + 2147483648) _ ?o1 ?o2 (by decide) (by omega) (by omega)).mono ?_); (case o1 => exact own_fresh w1 5 #[.int .u8 0] 1 (by have := hb1.size; simp at this; omega) rfl (by decide)); (case o2 => have := hb1.size; simp at this; simp; omega); rintro e w2 ⟨v2, rfl, ho2, hw2⟩)
    | (go_at_call 44; (with_reducible refine (put4 w.heap.size v2 5 ([.int .u8 0] ++ bytesUp (n + 2147483648) 4 0) 0 w2 ?o1 ?o2 (by decide) (by omega) (by omega)).mono ?_); (case o1 => exact ho2); (case o2 => have := hb1.size; have h2 := hw2.1.size; simp at this h2; omega); rintro e w3 ⟨v3, rfl, ho3, hw3⟩; rw [HL.out] at ho3; obtain ⟨g, cap, rfl, hg1, hg2⟩ := ho3.form (by decide); have ec := row_string (P := Try.prog) ho3 Try.underlying47 Try.underlying5 Try.underlying9; have hb3 : Below w.heap.size w w3 := (hw2.trans hw3).below (ext_alloc (ext_trans (ext_alloc (Below.refl _ _) _) hb1) _) (own_slice (by have := hb1.size; simp at this; omega)) (by have := hb1.size; simp at this; simp; omega); have HB := Lib.hid hb3; have HG := Lib.hid (own_slice (n := 9) (cap := cap) hg1); have HO := Lib.hid ho3; clear ho2 hw2 hw3 ho3 hb3)
    | (go_at_call 45; ((with_reducible refine (SM.out _).mono ?_); rintro e w' ⟨rfl, rfl⟩))
    | (at_builtin; refine wpList_append_lies _ rfl _ _ 47 rfl w.heap.size 5 i0 (.int .u8 0) 1 1 Try.underlying47 hi hz0 hz1 hz2 rfl (by decide) _ 9 _ rfl (HO.out.alloc _) ⟨w3.heap.size, 0, none⟩ 1 1 [.int .u8 (sumB L)] rfl rfl ?c1 ?c2 (by decide) ?c3 ?c4 ?c5 _ rfl ?_))
  case c1 => exact cell_one_new _ _ _
  case c2 => simp [Value.oneCell']
  case c3 => unfold maxLen; omega
  case c4 => omega
  case c5 => have := HB.out.size; simp; omega
  intro g2 cap2 w4 hown2 hgrow hat hlt
  rw [show L.map bV ++ [Value.int .u8 (sumB L)] = (sealL L).map bV from (sealL_map L).symm] at hown2
  have ec2 := row_string (P := Try.prog) hown2 Try.underlying47 Try.underlying5 Try.underlying9
  have hbe : Below w.heap.size w w4 := below_grown (ext_alloc HB.out _) hgrow (fun k hk => by have := HG.out k hk; omega) (by have := HB.out.size; simp; omega)
  have HBE := Lib.hid hbe
  clear hown2 hgrow hat hbe
  go_wp2
  refine bodyPost_ret (v := .tuple #[.string ⟨(sealL L).toArray⟩, .int .i64 0]) (by simp [results, Try.results26, go_sem, *]; try rfl) rfl ⟨rfl, HBE.out⟩

theorem pack_bad (is : Bool) (n p b l a s : Int) (hc : valCheck ⟨is, n, ⟨p, b, l, a, s⟩⟩ ≠ 0) (w : World) :
    Calls Try.prog 26 #[.agg #[.bool is, .int .i64 n, .int .i64 p, .int .i64 b, .int .i64 l, .int .i64 a, .int .i64 s]] w fun e w' => e = .returned (.tuple #[.string ⟨#[]⟩, .int .i64 (valCheck ⟨is, n, ⟨p, b, l, a, s⟩⟩)]) ∧ Below w.heap.size w w' := by
  have cc := fun W => ccheck_any is n p b l a s W
  generalize valCheck ⟨is, n, ⟨p, b, l, a, s⟩⟩ = c at *
  have e1 : (c == 0) = false := by simp [hc]
  have e2 : (c != 0) = true := by simp [hc]
  have CC := Lib.hid cc
  clear cc hc
  go_enter Try.func26, Try.ntmps26
  go_wp2_with (first
    | (go_at_call 29; ((with_reducible refine (CC.out _).mono ?_); rintro e w1 ⟨rfl, hb1⟩; have vB : Bk w1 w.heap.size 41 #[.bool is, .int .i64 n, .int .i64 p, .int .i64 b, .int .i64 l, .int .i64 a, .int .i64 s] := bk_keep hb1 (bk_new _ _ _); obtain ⟨v0, v1, v2, v3, v4, v5, v6⟩ := cells7 vB; have vL := vB.lt)))
  refine bodyPost_ret (v := .tuple #[.string ⟨#[]⟩, .int .i64 c]) (by simp [results, Try.results26, go_sem, *]; try rfl) rfl ⟨rfl, ?_⟩
  exact ext_trans (ext_alloc (Below.refl _ _) _) hb1

def preL (p b l a s : Int) : Nat → List Value
  | 0 => [.int .u8 1, .int .u8 p, .int .u8 s]
  | 1 => [.int .u8 1, .int .u8 p, .int .u8 s] ++ bytesUp b 2 0
  | 2 => [.int .u8 1, .int .u8 p, .int .u8 s] ++ bytesUp b 2 0 ++ bytesUp l 2 0
  | _ => [.int .u8 1, .int .u8 p, .int .u8 s] ++ bytesUp b 2 0 ++ bytesUp l 2 0 ++ bytesUp a 2 0
def KeyRel (B gi : Nat) (p b l a s : Int) (wl : World) (v0 : Value) (v i : Value) (wr : World) : Prop :=
  ∃ k : Nat, k ≤ 3 ∧ i = .int .i64 (k : Int) ∧ wr.ownsRow B 5 1 v (3 + 2 * k) (preL p b l a s k) ∧ Wrote wl wr v0 v ∧ Bk wr gi 3 #[.int .i64 b, .int .i64 l, .int .i64 a]
set_option maxHeartbeats 2000000 in
theorem pack_key (p b l a s : Int) (hok : (⟨p, b, l, a, s⟩ : KeyV).Ok) (w : World) :
    Calls Try.prog 26 #[.agg #[.bool true, .int .i64 0, .int .i64 p, .int .i64 b, .int .i64 l, .int .i64 a, .int .i64 s]] w fun e w' => e = .returned (.tuple #[.string (packS ⟨true, 0, ⟨p, b, l, a, s⟩⟩), .int .i64 0]) ∧ Below w.heap.size w w' := by
  obtain ⟨i0, hi, hz0, hz1, hz2⟩ := info_parts infoU8
  have cc := fun W => ccheck_any true 0 p b l a s W
  have e0 : valCheck ⟨true, 0, ⟨p, b, l, a, s⟩⟩ = 0 := (valCheck_zero _).2 (.inl ⟨rfl, hok, rfl⟩)
  obtain ⟨p0, p1, b0, b1, l0, l1, a0, a1, s0, s1⟩ := hok
  simp only at p0 p1 b0 b1 l0 l1 a0 a1 s0 s1
  rw [e0] at cc
  have CC := Lib.hid cc
  clear cc e0
  have hp : packS ⟨true, 0, ⟨p, b, l, a, s⟩⟩ = ⟨(sealL (keyL ⟨p, b, l, a, s⟩)).toArray⟩ := rfl
  have hl : preL p b l a s 3 = (keyL ⟨p, b, l, a, s⟩).map bV := by
    have e1 := bN_id p0 (by omega)
    have e2 := bN_id s0 (by omega)
    show [Value.int .u8 1, .int .u8 p, .int .u8 s] ++ bytesUp b 2 0 ++ bytesUp l 2 0 ++ bytesUp a 2 0 = _
    rw [up2, up2, up2]
    simp [keyL, be2, bV, e1, e2]
  have hs : (keyL ⟨p, b, l, a, s⟩).length = 9 := rfl
  rw [hp]
  clear hp
  generalize keyL ⟨p, b, l, a, s⟩ = L at *
  have sm : ∀ W, Calls Try.prog 45 #[.string ⟨L.toArray⟩] W fun e w' => e = .returned (.int .u8 (sumB L)) ∧ W = w' := fun W => sum_any ⟨L.toArray⟩ W (by show L.toArray.size ≤ maxLen; unfold maxLen; simp; omega)
  have SM := Lib.hid sm
  have HL := Lib.hid hl
  clear sm hl hs
  go_enter Try.func26, Try.ntmps26
  go_wp2_with (first
    | (go_at_call 29; ((with_reducible refine (CC.out _).mono ?_); rintro e w1 ⟨rfl, hb1⟩; have vB : Bk w1 w.heap.size 41 #[.bool true, .int .i64 0, .int .i64 p, .int .i64 b, .int .i64 l, .int .i64 a, .int .i64 s] := bk_keep hb1 (bk_new _ _ _); obtain ⟨v0, v1, v2, v3, v4, v5, v6⟩ := cells7 vB; have vL := vB.lt)))
  have hs1 := hb1.size
  simp at hs1
  go_loopw [5, 7, 36] (fun v _ i wr => KeyRel w.heap.size (w1.heap.size + 2) p b l a s (((w1.alloc (.cells #[.int .u8 0] 5)).alloc (.cells #[.int .u8 1, .int .u8 p, .int .u8 s] 5)).alloc (.cells #[.int .i64 b, .int .i64 l, .int .i64 a] 3)) (.slice (some ⟨w1.heap.size + 1, 0, none⟩) 3 3) v i wr) (fun _ _ i _ => (3 - intOf i).toNat)
  case atStart => exact ⟨0, by decide, rfl, (own_freshg (base := w.heap.size) (w1.alloc (.cells #[.int .u8 0] 5)) (by simp) 5 #[.int .u8 1, .int .u8 p, .int .u8 s] 3 (by simp; omega) rfl (by decide)).alloc _, Wrote.refl _ _, bk_new' _ _ (by simp)⟩
  case round =>
    obtain ⟨k, hk, rfl, hrow, hwr, hbk⟩ := hrel
    have hgi : u5.ownBlock ≠ some (w1.heap.size + 2) := by
      rcases hwr.2 with h | ⟨g, h, hg⟩
      · rw [h]; simp [Value.ownBlock]
      · rw [h]; simp at hg ⊢; omega
    have hB : w.heap.size ≤ wr.heap.size := by have := hwr.1.size; simp at this; omega
    obtain ⟨x0, x1, x2⟩ := cells3 hbk
    have xl := hbk.lt
    have HWR := Lib.hid hwr
    have HBK := Lib.hid hbk
    clear hwr hbk
    obtain rfl | rfl | rfl | rfl : k = 0 ∨ k = 1 ∨ k = 2 ∨ k = 3 := by omega
    · have HROW := Lib.hid hrow
      clear hrow
      go_wp2_with (go_at_call 44; (with_reducible refine (put2 w.heap.size u5 3 (preL p b l a s 0) b wr ?o1 ?o2 (by decide) (by omega) (by omega)).mono ?_); (case o1 => exact HROW.out); (case o2 => exact hB); rintro e w3 ⟨v3, rfl, ho3, hw3⟩; have HO3 := Lib.hid ho3; have HW3 := Lib.hid (HWR.out.trans hw3); have HB3 := Lib.hid (show Bk w3 (w1.heap.size + 2) 3 #[.int .i64 b, .int .i64 l, .int .i64 a] from (hw3.1.block _ xl (by intro h; exact hgi h.symm)).trans HBK.out); clear ho3 hw3 HROW hgi)
      go_roundw
      case rel => exact ⟨1, by decide, rfl, HO3.out, HW3.out, HB3.out⟩
      case measure => simp [intOf]
    · have HROW := Lib.hid hrow
      clear hrow
      go_wp2_with (go_at_call 44; (with_reducible refine (put2 w.heap.size u5 5 (preL p b l a s 1) l wr ?o1 ?o2 (by decide) (by omega) (by omega)).mono ?_); (case o1 => exact HROW.out); (case o2 => exact hB); rintro e w3 ⟨v3, rfl, ho3, hw3⟩; have HO3 := Lib.hid ho3; have HW3 := Lib.hid (HWR.out.trans hw3); have HB3 := Lib.hid (show Bk w3 (w1.heap.size + 2) 3 #[.int .i64 b, .int .i64 l, .int .i64 a] from (hw3.1.block _ xl (by intro h; exact hgi h.symm)).trans HBK.out); clear ho3 hw3 HROW hgi)
      go_roundw
      case rel => exact ⟨2, by decide, rfl, HO3.out, HW3.out, HB3.out⟩
      case measure => simp [intOf]
    · have HROW := Lib.hid hrow
      clear hrow
      go_wp2_with (go_at_call 44; (with_reducible refine (put2 w.heap.size u5 7 (preL p b l a s 2) a wr ?o1 ?o2 (by decide) (by omega) (by omega)).mono ?_); (case o1 => exact HROW.out); (case o2 => exact hB); rintro e w3 ⟨v3, rfl, ho3, hw3⟩; have HO3 := Lib.hid ho3; have HW3 := Lib.hid (HWR.out.trans hw3); have HB3 := Lib.hid (show Bk w3 (w1.heap.size + 2) 3 #[.int .i64 b, .int .i64 l, .int .i64 a] from (hw3.1.block _ xl (by intro h; exact hgi h.symm)).trans HBK.out); clear ho3 hw3 HROW hgi)
      go_roundw
      case rel => exact ⟨3, by decide, rfl, HO3.out, HW3.out, HB3.out⟩
      case measure => simp [intOf]
    · rw [show preL p b l a s 3 = L.map bV from HL.out] at hrow
      obtain ⟨g, cap, rfl, hg1, hg2⟩ := hrow.form (by decide)
      have ec := row_string (P := Try.prog) hrow Try.underlying47 Try.underlying5 Try.underlying9
      have hb3 : Below w.heap.size w wr := HWR.out.below (ext_alloc (ext_alloc (ext_alloc (ext_trans (ext_alloc (Below.refl _ _) _) hb1) _) _) _) (own_slice (by omega)) (by simp; omega)
      have HB := Lib.hid hb3
      have HG := Lib.hid (own_slice (n := 9) (cap := cap) hg1)
      have HO := Lib.hid hrow
      clear hrow hb3 hgi x0 x1 x2
      go_wp2_with (first
        | (go_at_call 45; ((with_reducible refine (SM.out _).mono ?_); rintro e w' ⟨rfl, rfl⟩))
        | (at_builtin; refine wpList_append_lies _ rfl _ _ 47 rfl w.heap.size 5 i0 (.int .u8 0) 1 1 Try.underlying47 hi hz0 hz1 hz2 rfl (by decide) _ 9 _ rfl (HO.out.alloc _) ⟨wr.heap.size, 0, none⟩ 1 1 [.int .u8 (sumB L)] rfl rfl ?c1 ?c2 (by decide) ?c3 ?c4 ?c5 _ rfl ?_))
      case c1 => exact cell_one_new _ _ _
      case c2 => simp [Value.oneCell']
      case c3 => unfold maxLen; omega
      case c4 => omega
      case c5 => have := HB.out.size; simp; omega
      intro g2 cap2 w4 hown2 hgrow hat hlt
      rw [show L.map bV ++ [Value.int .u8 (sumB L)] = (sealL L).map bV from (sealL_map L).symm] at hown2
      have ec2 := row_string (P := Try.prog) hown2 Try.underlying47 Try.underlying5 Try.underlying9
      have hbe : Below w.heap.size w w4 := below_grown (ext_alloc HB.out _) hgrow (fun k hk => by have := HG.out k hk; omega) (by have := HB.out.size; simp; omega)
      have HBE := Lib.hid hbe
      clear hown2 hgrow hat hbe
      go_wp2
      refine bodyPost_ret (v := .tuple #[.string ⟨(sealL L).toArray⟩, .int .i64 0]) (by simp [results, Try.results26, go_sem, *]; try rfl) rfl ⟨rfl, HBE.out⟩
end Go.Proofs.Ythadehaoafkaeaa
