import Derived.Test.YtmffdgeebhpacaaDoorBuV
import Derived.Test.YtmffdgeebhpacaaDoorHasIntZ
import Derived.Test.YtmffdgeebhpacaaDoorReachNilZ
/- custodiankeep.within: is each key no more than one of others? And reach.Keys at a machine in a box. -/
namespace Go.Proofs.YtmffdgeebhpacaaDoor
open Go.RowKit
set_option linter.unusedVariables false
set_option linter.unusedSimpArgs false
def anyU (k : KeyV) (l : List KeyV) : Bool := l.any fun x => underB (bareK k) (bareK x)
theorem anyU_snoc (k : KeyV) (l : List KeyV) (x : KeyV) : anyU k (l ++ [x]) = (anyU k l || underB (bareK k) (bareK x)) := by unfold anyU; simp
theorem anyU_true {k : KeyV} {l : List KeyV} {x : KeyV} (hx : x ∈ l) (h : underB (bareK k) (bareK x) = true) : anyU k l = true := List.any_eq_true.2 ⟨x, hx, h⟩
theorem KeyV.Ok.bare {k : KeyV} (h : k.Ok) : (bareK k).Ok := by
  obtain ⟨a, b, c, d, e, f, g, i, j, l⟩ := h
  exact ⟨a, b, c, d, e, f, g, i, (by show (0 : Int) ≤ 0; decide), (by show (0 : Int) ≤ 63; decide)⟩
theorem under_less {k x : KeyV} (hk : k.Ok) (hx : x.Ok) (h : lessP k x) : underB (bareK k) (bareK x) = true := (underB_iff hk.bare hx.bare).2 ⟨h.1, h.2, .inl rfl⟩
set_option maxHeartbeats 4000000 in
set_option maxRecDepth 100000 in
theorem withinAll_any (ao bo : Option Addr) (n m c d : Nat) (ks xs : List KeyV) (w : World) (hk : Sl w ao n ks) (hx : Sl w bo m xs) (hko : ∀ k ∈ ks, k.Ok) (hxo : ∀ k ∈ xs, k.Ok) (hall : ∀ k ∈ ks, ∃ x ∈ xs, lessP k x) :
    Calls Tryd.prog 39 #[.slice ao n c, .slice bo m d] w fun e w' => e = .returned (.bool true) ∧ Below w.heap.size w w' := by
  have hnm := hk.max
  have hmm := hx.max
  unfold maxLen at hnm hmm
  have hkl := hk.len
  have hxl := hx.len
  have HK := Lib.hid hk
  have HX := Lib.hid hx
  have HKO := Lib.hid hko
  have HXO := Lib.hid hxo
  have HALL := Lib.hid hall
  clear hk hx hko hxo hall
  go_enter Tryd.func39, Tryd.ntmps39
  go_wp2
  go_loopw [12] (fun i wr => ∃ j : Nat, j ≤ n ∧ i = .int .i64 j ∧ Below w.heap.size w wr) (fun i _ => n - (intOf i).toNat)
  case atStart => exact ⟨0, Nat.zero_le _, rfl, Below.refl _ _⟩
  case round =>
    obtain ⟨j, hj, rfl, hb⟩ := hrel
    obtain ⟨wo, hwo⟩ : ∃ wo : World, wo = wr := ⟨_, rfl⟩
    subst hwo
    by_cases hlt : j < n
    · have q0 : (0 : Int) ≤ j := by omega
      have q1 : (j : Int) < n := by omega
      obtain ⟨k, hgk⟩ : ∃ k, ks[j]? = some k := ⟨_, List.getElem?_eq_getElem (by omega)⟩
      obtain ⟨ad, rfl, bx, e0, e1, e2, e3, e4⟩ := sl_keyS (HK.out.below hb) hlt hgk
      have hkm := List.mem_of_getElem? hgk
      have hko := HKO.out k hkm
      obtain ⟨x0, hx0, hl0⟩ := HALL.out k hkm
      have hfin := anyU_true hx0 (under_less hko (HXO.out x0 hx0) hl0)
      have hun := fun x (hx : x ∈ xs) W => under_any k.perm k.base k.len k.at_ 0 x.perm x.base x.len x.at_ 0 hko.bare.wf (HXO.out x hx).bare.wf W
      have hbk : bareK k = ⟨k.perm, k.base, k.len, k.at_, 0⟩ := rfl
      have HU := Lib.hid hun
      have HFIN := Lib.hid hfin
      have HB := Lib.hid hb
      clear hun hfin hgk hkm hko hx0 hl0 x0 hb
      obtain ⟨w3, hw3⟩ : ∃ w3, w3 = wo.alloc (.cells #[.int .i64 k.perm, .int .i64 k.base, .int .i64 k.len, .int .i64 k.at_, .int .i64 0] 23) := ⟨_, rfl⟩
      have b3 : Below w.heap.size w w3 := by rw [hw3]; exact ext_alloc HB.out _
      have k3 : Bk w3 wo.heap.size 23 #[.int .i64 k.perm, .int .i64 k.base, .int .i64 k.len, .int .i64 k.at_, .int .i64 0] := by rw [hw3]; exact bk_new _ _ _
      obtain ⟨gk, hgk⟩ : ∃ gk, gk = wo.heap.size := ⟨_, rfl⟩
      rw [← hgk] at k3
      have hs3 : w3.heap.size = wo.heap.size + 1 := by rw [hw3]; simp
      have HW3 := Lib.hid hw3
      have HGK := Lib.hid hgk
      clear hw3 hgk
      go_upto_region 5 with (fail)
      rw [← HW3.out, ← HGK.out]
      have B3 := Lib.hid b3
      have K3 := Lib.hid k3
      clear b3 k3 HW3 HGK e0 e1 e2 e3 e4
      go_wp2
      go_loopw [7, 19] (fun v i wr => ∃ t : Nat, t ≤ m ∧ i = .int .i64 t ∧ v = .bool (anyU k (xs.take t)) ∧ Below w3.heap.size w3 wr) (fun _ i _ => m - (intOf i).toNat)
      case atStart => exact ⟨0, Nat.zero_le _, rfl, rfl, Below.refl _ _⟩
      case round =>
        obtain ⟨t, ht, rfl, rfl, hb⟩ := hrel
        by_cases hlm : t < m
        · have q2 : (0 : Int) ≤ t := by omega
          have q3 : (t : Int) < m := by omega
          obtain ⟨x, hgx⟩ : ∃ x, xs[t]? = some x := ⟨_, List.getElem?_eq_getElem (by omega)⟩
          obtain ⟨bd, rfl, by_, f0, f1, f2, f3, f4⟩ := sl_keyS (HX.out.below (ext_trans B3.out hb)) hlm hgx
          have htk : anyU k (xs.take (t + 1)) = (anyU k (xs.take t) || underB (bareK k) (bareK x)) := by
            rw [List.take_add_one, hgx]
            exact anyU_snoc _ _ _
          have hu := HU.out x (List.mem_of_getElem? hgx)
          obtain ⟨z0, z1, z2, z3, z4⟩ := cells5 (bk_keep hb K3.out)
          have zL := (bk_keep hb K3.out).lt
          have HB4 := Lib.hid hb
          clear hgx hb
          cases hat : anyU k (xs.take t)
          · rw [hat, Bool.false_or] at htk
            obtain ⟨w5, hw5⟩ : ∃ w5, w5 = wr.alloc (.cells #[.int .i64 x.perm, .int .i64 x.base, .int .i64 x.len, .int .i64 x.at_, .int .i64 0] 23) := ⟨_, rfl⟩
            have b5 : Below w3.heap.size w3 w5 := by rw [hw5]; exact ext_alloc HB4.out _
            obtain ⟨y0, y1, y2, y3, y4⟩ := cells5 (bk_keep b5 K3.out)
            have yL := (bk_keep b5 K3.out).lt
            have x5 : Bk w5 wr.heap.size 23 #[.int .i64 x.perm, .int .i64 x.base, .int .i64 x.len, .int .i64 x.at_, .int .i64 0] := by rw [hw5]; exact bk_new _ _ _
            obtain ⟨gx, hgx⟩ : ∃ gx, gx = wr.heap.size := ⟨_, rfl⟩
            rw [← hgx] at x5
            obtain ⟨t0, t1, t2, t3, t4⟩ := cells5 x5
            have tL := x5.lt
            have hul := hu w5
            have HW5 := Lib.hid hw5
            have HGX := Lib.hid hgx
            have HUL := Lib.hid hul
            have B5 := Lib.hid b5
            have HTK := Lib.hid htk
            have HBK := Lib.hid hbk
            clear hw5 hgx hu hul b5 x5 htk hat hbk
            go_upto_region 10 with (fail)
            rw [← HW5.out, ← HGX.out]
            clear z0 z1 z2 z3 z4 zL f0 f1 f2 f3 f4 HW5 HGX
            go_wp2_with (go_at_call 65; ((with_reducible refine HUL.out.mono ?_); rintro e w6 ⟨rfl, hb⟩; have HB6 := Lib.hid hb; clear hb))
            go_roundw
            case rel => exact ⟨t + 1, by omega, by go_num, by rw [HTK.out]; rfl, ext_trans B5.out HB6.out⟩
            case measure => simp [intOf]; omega
          · rw [hat, Bool.true_or] at htk
            have HTK := Lib.hid htk
            clear htk hat hu
            go_wp2
            go_roundw
            case rel => exact ⟨t + 1, by omega, by go_num, by rw [HTK.out], by repeat (first | exact HB4.out | with_reducible refine ext_alloc ?_ _ | with_reducible refine ext_set ?_ (by have := HB4.out.size; first | omega | (simp; omega)) _)⟩
            case measure => simp [intOf]; omega
        · have q3 : ¬ ((t : Int) < m) := by omega
          obtain rfl : t = m := by omega
          have hat : anyU k (xs.take t) = true := by rw [List.take_of_length_le (by omega)]; exact HFIN.out
          rw [hat]
          have HB4 := Lib.hid hb
          clear hb hat
          go_wp2
          go_roundw
          case rel => exact ⟨j + 1, by omega, by go_num, ext_trans B3.out HB4.out⟩
          case measure => simp [intOf]; omega
    · have q1 : ¬ ((j : Int) < n) := by omega
      have HB := Lib.hid hb
      clear hb
      go_wp2
      go_ret
      exact ⟨rfl, HB.out⟩
theorem allK_roots {m : MV} : allK m = Rch true m.mem (rootsP true m.R m.c m.stk) := rfl
theorem keys_box {g : Nat} {m : MV} {cs : Array Value} {W : World} (h : MBox g m cs W) (hok : m.Ok) :
    Calls Tryd.prog 38 #[.agg cs, .bool true] W fun e w' => ∃ (ao : Option Addr) (c : Nat) (ts : List KeyV), e = .returned (.tuple #[.slice ao ts.length c, .int .i64 0]) ∧ Sl w' ao ts.length ts ∧ (∀ x, x ∈ ts ↔ allK m x) ∧ (∀ x ∈ ts, x.Ok) ∧ (0 < ts.length ∧ ts.length ≤ 500) ∧ Below W.heap.size W w' := by
  refine (keys_any h.mbr.toRow true hok.1).mono ?_
  rintro e w' ⟨ao, c, ts, rfl, h1, h2, h3, h4, h5⟩
  exact ⟨ao, c, ts, rfl, h1, h2, h3, ⟨List.length_pos_of_mem ((h2 m.c).2 (.root (.inl rfl))), h4.1⟩, h5⟩
theorem keys_boxb {g : Nat} {m : MV} {cs : Array Value} {W : World} (h : MBox g m cs W) {ec : Int} (he : m.check = ec) (hne : ec ≠ 0) :
    Calls Tryd.prog 38 #[.agg cs, .bool true] W fun e w' => e = .returned (.tuple #[.slice none 0 0, .int .i64 ec]) ∧ Below W.heap.size W w' := by
  rw [← he]
  exact keys_bad h.mbr.toRow true (by rw [← he] at hne; exact hne)
end Go.Proofs.YtmffdgeebhpacaaDoor
