import Derived.Test.YtmmmmeeepieemaaBuF
import Derived.Test.YtmmmmeeepieemaaLinkLawZ
import Derived.Test.YtmmmmeeepieemaaLinkZ
/- enter.Check at an image that may be. -/
namespace Go.Proofs.Ytmmmmeeepieemaa
open Go Go.RowKit Go.Shelf
set_option linter.unusedVariables false
set_option linter.unusedSimpArgs false
/-- An image that may be entered. -/
structure ImOk (M : List ValV) (E : List EntryV) : Prop where
  m : memCheck M = 0
  e : E.length ≤ 160
  k : EntOk E
theorem entries_len {nm : ByteArray → Bool} : ∀ (l : List ModV) (b n : Nat), (∀ m ∈ l, ModOk nm m) → (entriesF b n l).length ≤ l.length * 20
  | [], b, n, _ => Nat.le_refl _
  | x :: l, b, n, h => by
    have h1 := entries_len l (b + (x.code.length + x.data.length)) (n + 1) fun m hm => h m (List.mem_cons_of_mem _ hm)
    have h3 := (h x (by simp)).l3
    rw [entriesF, List.length_append, List.length_map, List.length_cons]
    omega
theorem LinkOk.im_ok {nm : ByteArray → Bool} {ms : List ModV} (h : LinkOk nm ms) : ImOk (linkMem ms) (entriesF 0 0 ms) :=
  ⟨h.check, by have h1 := entries_len ms 0 0 h.m; have h2 := h.l; omega, h.ents⟩
theorem im_none : ImOk [] [] := ⟨by decide, by decide, fun e he => by cases he⟩
theorem kcheck_ok {k : KeyV} (h : k.Ok) : keyCheck k = 0 := by unfold keyCheck; rw [if_pos ((okB_iff k).2 h)]
set_option maxHeartbeats 4000000 in
set_option maxRecDepth 100000 in
theorem echeck_any (ma pa ea : Option Addr) (mn mc pn pc en ec : Nat) (M : List ValV) (E : List EntryV) (w : World) (hm : Sl w ma mn M) (he : Sl w ea en E) (hok : ImOk M E) :
    Calls Try.prog 36 #[.agg #[.slice ma mn mc, .slice pa pn pc, .slice ea en ec]] w fun e w' => e = .returned (.int .i64 0) ∧ Below w.heap.size w w' := by
  have hel := he.len
  have he160 := hok.e
  have hmx := he.max
  unfold maxLen at hmx
  obtain ⟨w1, hw1⟩ : ∃ w1, w1 = w.alloc (.cells #[.slice ma mn mc, .slice pa pn pc, .slice ea en ec] 27) := ⟨_, rfl⟩
  have h1w : Below w.heap.size w w1 := by rw [hw1]; exact ext_alloc (Below.refl _ _) _
  have b1 : Bk w1 w.heap.size 27 #[.slice ma mn mc, .slice pa pn pc, .slice ea en ec] := by rw [hw1]; exact bk_new _ _ _
  have mk := mcheck_any ma mn mc M w1 (hm.below h1w)
  rw [hok.m] at mk
  obtain ⟨c0, c1, c2⟩ := cells3 b1
  have bL := b1.lt
  have HW1 := Lib.hid hw1
  have H1W := Lib.hid h1w
  have B1 := Lib.hid b1
  have MK := Lib.hid mk
  have HE := Lib.hid (he.below h1w)
  have HK := Lib.hid hok.k
  clear hw1 h1w b1 mk hm he hok
  go_enter Try.func36, Try.ntmps36
  go_upto_region 1 with (fail)
  rw [← HW1.out]
  go_upto_region 4 with (go_at_call 19; ((with_reducible refine (MK.out).mono ?_); rintro e w2 ⟨rfl, hb2⟩; have HB2 := Lib.hid hb2; clear hb2))
  clear c0 c1 c2 bL
  obtain ⟨c0, c1, c2⟩ := cells3 (bk_keep HB2.out B1.out)
  have bL := (bk_keep HB2.out B1.out).lt
  have q160 : ¬ ((160 : Int) < en) := by omega
  go_wp2
  clear c0 c1 c2 bL
  go_loopw [22] (fun i wr => ∃ k : Nat, k ≤ en ∧ i = .int .i64 k ∧ Below w1.heap.size w1 wr) (fun i _ => en - (intOf i).toNat)
  case atStart => exact ⟨0, Nat.zero_le _, rfl, HB2.out⟩
  case round =>
    obtain ⟨k, hk, rfl, hb⟩ := hrel
    by_cases hlt : k < en
    · have q0 : (0 : Int) ≤ k := by omega
      have q1 : (k : Int) < en := by omega
      obtain ⟨x, hx⟩ : ∃ x, E[k]? = some x := ⟨_, List.getElem?_eq_getElem (by omega)⟩
      obtain ⟨ad, hao, hab, e0, e1, e2, e3, e4, e5, e6, e7, e8, e9, e10⟩ := sl_EntryV (HE.out.below hb) hlt hx
      subst hao
      obtain ⟨k1, k2⟩ := HK.out x (List.mem_of_getElem? hx)
      have kc1 := fun W => check_any x.code.perm x.code.base x.code.len x.code.at_ x.code.seal_ W
      have kc2 := fun W => check_any x.data.perm x.data.base x.data.len x.data.at_ x.data.seal_ W
      rw [show keyCheck ⟨x.code.perm, x.code.base, x.code.len, x.code.at_, x.code.seal_⟩ = 0 from kcheck_ok k1] at kc1
      rw [show keyCheck ⟨x.data.perm, x.data.base, x.data.len, x.data.at_, x.data.seal_⟩ = 0 from kcheck_ok k2] at kc2
      obtain ⟨w2', hw2⟩ : ∃ w2', w2' = wr.alloc (.cells #[.string x.name, .int .i64 x.code.perm, .int .i64 x.code.base, .int .i64 x.code.len, .int .i64 x.code.at_, .int .i64 x.code.seal_, .int .i64 x.data.perm, .int .i64 x.data.base, .int .i64 x.data.len, .int .i64 x.data.at_, .int .i64 x.data.seal_] 51) := ⟨_, rfl⟩
      have b2 : Below w1.heap.size w1 w2' := by rw [hw2]; exact ext_alloc hb _
      have x2 : Bk w2' wr.heap.size 51 #[.string x.name, .int .i64 x.code.perm, .int .i64 x.code.base, .int .i64 x.code.len, .int .i64 x.code.at_, .int .i64 x.code.seal_, .int .i64 x.data.perm, .int .i64 x.data.base, .int .i64 x.data.len, .int .i64 x.data.at_, .int .i64 x.data.seal_] := by rw [hw2]; exact bk_new _ _ _
      obtain ⟨gx, hgx⟩ : ∃ gx, gx = wr.heap.size := ⟨_, rfl⟩
      rw [← hgx] at x2
      have HW2 := Lib.hid hw2
      have HGX := Lib.hid hgx
      have B2 := Lib.hid b2
      have X2 := Lib.hid x2
      have KC1 := Lib.hid kc1
      have KC2 := Lib.hid kc2
      clear hw2 hgx b2 x2 kc1 kc2 hb hx k1 k2
      go_upto_region 9 with (fail)
      rw [← HW2.out, ← HGX.out]
      clear e0 e1 e2 e3 e4 e5 e6 e7 e8 e9 e10 HW2 HGX hab
      obtain ⟨t0, t1, t2, t3, t4, t5, t6, t7, t8, t9, t10⟩ := cells11 X2.out
      have tL := X2.out.lt
      obtain ⟨w3, hw3⟩ : ∃ w3, w3 = w2'.alloc (.cells #[.int .i64 x.code.perm, .int .i64 x.code.base, .int .i64 x.code.len, .int .i64 x.code.at_, .int .i64 x.code.seal_, .int .i64 x.data.perm, .int .i64 x.data.base, .int .i64 x.data.len, .int .i64 x.data.at_, .int .i64 x.data.seal_] 40) := ⟨_, rfl⟩
      obtain ⟨g3, hg3⟩ : ∃ g3, w2'.heap.size = g3 := ⟨_, rfl⟩
      have b3 : Below w1.heap.size w1 w3 := by rw [hw3]; exact ext_alloc B2.out _
      have x3 : Bk w3 g3 40 #[.int .i64 x.code.perm, .int .i64 x.code.base, .int .i64 x.code.len, .int .i64 x.code.at_, .int .i64 x.code.seal_, .int .i64 x.data.perm, .int .i64 x.data.base, .int .i64 x.data.len, .int .i64 x.data.at_, .int .i64 x.data.seal_] := by rw [hw3, ← hg3]; exact bk_new _ _ _
      have HW3 := Lib.hid hw3
      have B3 := Lib.hid b3
      have X3 := Lib.hid x3
      clear hw3 b3 x3
      go_wp2
      rw [← HW3.out]
      clear t0 t1 t2 t3 t4 t5 t6 t7 t8 t9 t10 tL HW3
      go_loopw [32] (fun i wr => ∃ t : Nat, t ≤ 2 ∧ i = .int .i64 t ∧ Below w3.heap.size w3 wr) (fun i _ => 2 - (intOf i).toNat)
      case atStart => exact ⟨0, Nat.zero_le _, rfl, Below.refl _ _⟩
      case round =>
        obtain ⟨t, ht, rfl, hb⟩ := hrel
        obtain rfl | rfl | rfl : t = 0 ∨ t = 1 ∨ t = 2 := by omega
        · rw [show ((0 : Nat) : Int) = 0 from rfl]
          have ya := bk_keep hb X3.out
          have yL := ya.lt
          have y0 := ya.cell 0
          simp only [List.getElem?_toArray, List.getElem?_cons_succ, List.getElem?_cons_zero] at y0
          have y1 := ya.cell 1
          simp only [List.getElem?_toArray, List.getElem?_cons_succ, List.getElem?_cons_zero] at y1
          have y2 := ya.cell 2
          simp only [List.getElem?_toArray, List.getElem?_cons_succ, List.getElem?_cons_zero] at y2
          have y3 := ya.cell 3
          simp only [List.getElem?_toArray, List.getElem?_cons_succ, List.getElem?_cons_zero] at y3
          have y4 := ya.cell 4
          simp only [List.getElem?_toArray, List.getElem?_cons_succ, List.getElem?_cons_zero] at y4
          have HB5 := Lib.hid hb
          clear ya hb
          obtain ⟨w5, hw5⟩ : ∃ w5, w5 = wr.alloc (.cells #[.int .i64 x.code.perm, .int .i64 x.code.base, .int .i64 x.code.len, .int .i64 x.code.at_, .int .i64 x.code.seal_] 40) := ⟨_, rfl⟩
          have b5 : Below w3.heap.size w3 w5 := by rw [hw5]; exact ext_alloc HB5.out _
          have x5 : Bk w5 wr.heap.size 40 #[.int .i64 x.code.perm, .int .i64 x.code.base, .int .i64 x.code.len, .int .i64 x.code.at_, .int .i64 x.code.seal_] := by rw [hw5]; exact bk_new _ _ _
          obtain ⟨gk, hgk⟩ : ∃ gk, gk = wr.heap.size := ⟨_, rfl⟩
          rw [← hgk] at x5
          have kc := KC1.out w5
          have HW5 := Lib.hid hw5
          have HGK := Lib.hid hgk
          have B5 := Lib.hid b5
          have X5 := Lib.hid x5
          have KC := Lib.hid kc
          clear hw5 hgk b5 x5 kc
          go_upto_region 12 with (fail)
          rw [← HW5.out, ← HGK.out]
          clear y0 y1 y2 y3 y4 yL HW5 HGK
          obtain ⟨t0, t1, t2, t3, t4⟩ := cells5 X5.out
          have tL := X5.out.lt
          go_wp2_with (go_at_call 53; ((with_reducible refine (KC.out).mono ?_); rintro e w6 ⟨rfl, hb6⟩; have HB6 := Lib.hid hb6; clear hb6))
          go_roundw
          case rel => exact ⟨1, by omega, by go_num, ext_trans B5.out HB6.out⟩
          case measure => simp [intOf]; try omega
        · rw [show ((1 : Nat) : Int) = 1 from rfl]
          have ya := bk_keep hb X3.out
          have yL := ya.lt
          have y0 := ya.cell 5
          simp only [List.getElem?_toArray, List.getElem?_cons_succ, List.getElem?_cons_zero] at y0
          have y1 := ya.cell 6
          simp only [List.getElem?_toArray, List.getElem?_cons_succ, List.getElem?_cons_zero] at y1
          have y2 := ya.cell 7
          simp only [List.getElem?_toArray, List.getElem?_cons_succ, List.getElem?_cons_zero] at y2
          have y3 := ya.cell 8
          simp only [List.getElem?_toArray, List.getElem?_cons_succ, List.getElem?_cons_zero] at y3
          have y4 := ya.cell 9
          simp only [List.getElem?_toArray, List.getElem?_cons_succ, List.getElem?_cons_zero] at y4
          have HB5 := Lib.hid hb
          clear ya hb
          obtain ⟨w5, hw5⟩ : ∃ w5, w5 = wr.alloc (.cells #[.int .i64 x.data.perm, .int .i64 x.data.base, .int .i64 x.data.len, .int .i64 x.data.at_, .int .i64 x.data.seal_] 40) := ⟨_, rfl⟩
          have b5 : Below w3.heap.size w3 w5 := by rw [hw5]; exact ext_alloc HB5.out _
          have x5 : Bk w5 wr.heap.size 40 #[.int .i64 x.data.perm, .int .i64 x.data.base, .int .i64 x.data.len, .int .i64 x.data.at_, .int .i64 x.data.seal_] := by rw [hw5]; exact bk_new _ _ _
          obtain ⟨gk, hgk⟩ : ∃ gk, gk = wr.heap.size := ⟨_, rfl⟩
          rw [← hgk] at x5
          have kc := KC2.out w5
          have HW5 := Lib.hid hw5
          have HGK := Lib.hid hgk
          have B5 := Lib.hid b5
          have X5 := Lib.hid x5
          have KC := Lib.hid kc
          clear hw5 hgk b5 x5 kc
          go_upto_region 12 with (fail)
          rw [← HW5.out, ← HGK.out]
          clear y0 y1 y2 y3 y4 yL HW5 HGK
          obtain ⟨t0, t1, t2, t3, t4⟩ := cells5 X5.out
          have tL := X5.out.lt
          go_wp2_with (go_at_call 53; ((with_reducible refine (KC.out).mono ?_); rintro e w6 ⟨rfl, hb6⟩; have HB6 := Lib.hid hb6; clear hb6))
          go_roundw
          case rel => exact ⟨2, by omega, by go_num, ext_trans B5.out HB6.out⟩
          case measure => simp [intOf]; try omega
        · rw [show ((2 : Nat) : Int) = 2 from rfl]
          have HB5 := Lib.hid hb
          clear hb
          go_wp2
          go_roundw
          case rel => exact ⟨k + 1, by omega, by go_num, ext_trans B3.out HB5.out⟩
          case measure => simp [intOf]; try omega
    · have q1 : ¬ ((k : Int) < en) := by omega
      have HB5 := Lib.hid hb
      clear hb
      go_wp2
      go_ret
      exact ⟨rfl, ext_trans H1W.out HB5.out⟩
end Go.Proofs.Ytmmmmeeepieemaa
