import Derived.BigQuiet
import Derived.Deep.QuietTactic
import Derived.Test.YtmmmmeeepieemaaBuX
import Derived.Test.YtmmmmeeepieemaaHasZ
import Derived.Test.YtmmmmeeepieemaaLinkTwoZ
import Derived.Test.YtmmmmeeepieemaaNearMathZ
/- Who owns a name; whom modules come to by imports; whose a cell is. -/
namespace Go.Proofs.Ytmmmmeeepieemaa
open Go Go.RowKit Go.Shelf
set_option linter.unusedVariables false
set_option linter.unusedSimpArgs false
set_option maxHeartbeats 8000000 in
set_option maxRecDepth 100000 in
theorem owner_any (ao : Option Addr) (N c0 : Nat) (rs : List ModR) (ms : List ModV) (s : ByteArray) (w : World) (h : Mods w ao N rs ms) :
    Calls Try.prog 21 #[.slice ao N c0, .string s] w fun e w' => ∃ v : Int, e = .returned (.int .i64 v) ∧ ((v = -1 ∧ ∀ m ∈ ms, ∀ y ∈ m.ex, y.name ≠ s) ∨ ∃ (n : Nat) (m : ModV) (y : NamV), v = n ∧ ms[n]? = some m ∧ y ∈ m.ex ∧ y.name = s) ∧ Below w.heap.size w w' := by
  have hn := h.n
  have hmx := h.sl.max
  unfold maxLen at hmx
  have HM := Lib.hid h
  clear h
  go_enter Try.func21, Try.ntmps21
  go_wp2
  go_loopw [11] (fun i wr => ∃ k : Nat, k ≤ N ∧ i = .int .i64 k ∧ (∀ m ∈ ms.take k, ∀ y ∈ m.ex, y.name ≠ s) ∧ Below w.heap.size w wr) (fun i _ => N - (intOf i).toNat)
  case atStart => exact ⟨0, Nat.zero_le _, rfl, fun m hm => by simp at hm, Below.refl _ _⟩
  case round =>
    obtain ⟨k, hk, rfl, hno, hb⟩ := hrel
    have HNO := Lib.hid hno
    clear hno
    by_cases hlt : k < N
    · have q0 : (0 : Int) ≤ k := by omega
      have q1 : (k : Int) < N := by omega
      obtain ⟨r, m, hr, hm, hhas⟩ := HM.out.get hlt
      obtain ⟨ad, hao, hab, e0, e1, e2, e3⟩ := sl_ModR (HM.out.sl.below hb) hlt hr
      subst hao
      obtain ⟨⟨ca, cn, cc⟩, ⟨da, dn, dc⟩, ⟨xa, xn, xc⟩, ⟨ia, jn, ic⟩⟩ := r
      simp only at e0 e1 e2 e3
      have hxn := hhas.ex.len
      have hxm := hhas.ex.max
      unfold maxLen at hxm
      simp only at hxn hxm
      have htake : ms.take (k + 1) = ms.take k ++ [m] := by rw [List.take_add_one, hm]; rfl
      obtain ⟨w6, hw6⟩ : ∃ w6, w6 = wr.alloc (.cells #[.slice ca cn cc, .slice da dn dc, .slice xa xn xc, .slice ia jn ic] 36) := ⟨_, rfl⟩
      have r6 : Below wr.heap.size wr w6 := by rw [hw6]; exact ext_alloc (Below.refl _ _) _
      have x6 : Bk w6 wr.heap.size 36 #[.slice ca cn cc, .slice da dn dc, .slice xa xn xc, .slice ia jn ic] := by rw [hw6]; exact bk_new _ _ _
      obtain ⟨gx, hgx⟩ : ∃ gx, gx = wr.heap.size := ⟨_, rfl⟩
      rw [← hgx] at x6
      have HW6 := Lib.hid hw6
      have HGX := Lib.hid hgx
      have X6 := Lib.hid x6
      have HB6 := Lib.hid (ext_trans hb r6)
      have HX := Lib.hid hhas.ex
      have HMM := Lib.hid hm
      have HTK := Lib.hid htake
      clear hw6 hgx x6 hb r6 hm hr hhas htake
      go_upto_region 4 with (fail)
      rw [← HW6.out, ← HGX.out]
      clear e0 e1 e2 e3 HW6 HGX hab
      obtain ⟨t0, t1, t2, t3⟩ := cellsM4 X6.out
      have tL := X6.out.lt
      go_wp2
      clear t0 t1 t2 t3 tL
      go_loopw [19] (fun i wr => ∃ j : Nat, j ≤ xn ∧ i = .int .i64 j ∧ (∀ y ∈ m.ex.take j, y.name ≠ s) ∧ Below w.heap.size w wr) (fun i _ => xn - (intOf i).toNat)
      case atStart => exact ⟨0, Nat.zero_le _, rfl, fun y hy => by simp at hy, HB6.out⟩
      case round =>
        obtain ⟨j, hj, rfl, hnj, hb⟩ := hrel
        have HNJ := Lib.hid hnj
        clear hnj
        by_cases hlj : j < xn
        · have s0 : (0 : Int) ≤ j := by omega
          have s1 : (j : Int) < xn := by omega
          obtain ⟨y, hy⟩ : ∃ y, m.ex[j]? = some y := ⟨_, List.getElem?_eq_getElem (by omega)⟩
          obtain ⟨yd, hyo, hyb, f0, f1⟩ := sl_NamV (HX.out.below hb) hlj hy
          subst hyo
          obtain ⟨w8, hw8⟩ : ∃ w8, w8 = wr.alloc (.cells #[.string y.name, .int .i64 y.at_] 54) := ⟨_, rfl⟩
          have r8 : Below wr.heap.size wr w8 := by rw [hw8]; exact ext_alloc (Below.refl _ _) _
          have x8 : Bk w8 wr.heap.size 54 #[.string y.name, .int .i64 y.at_] := by rw [hw8]; exact bk_new _ _ _
          obtain ⟨gy, hgy⟩ : ∃ gy, gy = wr.heap.size := ⟨_, rfl⟩
          rw [← hgy] at x8
          have HW8 := Lib.hid hw8
          have HGY := Lib.hid hgy
          have X8 := Lib.hid x8
          have HB8 := Lib.hid (ext_trans hb r8)
          have HY := Lib.hid hy
          clear hw8 hgy x8 hb r8 hy
          go_upto_region 7 with (fail)
          rw [← HW8.out, ← HGY.out]
          clear f0 f1 hyb HW8 HGY
          obtain ⟨k0, k1⟩ := cellsM2 X8.out
          have kL := X8.out.lt
          by_cases hys : y.name = s
          · have f : (y.name.toList == s.toList) = true := by simp [hys]
            have HYS := Lib.hid hys
            clear hys
            go_wp2
            go_ret
            exact ⟨k, rfl, .inr ⟨k, m, y, rfl, HMM.out, List.mem_of_getElem? HY.out, HYS.out⟩, HB8.out⟩
          · have f : (y.name.toList == s.toList) = false := beq_eq_false_iff_ne.2 fun e => hys (name_eq.1 e)
            have hnx : ∀ z ∈ m.ex.take (j + 1), z.name ≠ s := by
              rw [List.take_add_one, HY.out]
              intro z hz
              rcases List.mem_append.1 hz with h | h
              · exact HNJ.out z h
              · obtain rfl : z = y := by simpa using h
                exact hys
            have HNX := Lib.hid hnx
            clear hys hnx
            go_wp2
            go_roundw
            case rel => exact ⟨j + 1, by omega, by go_num, HNX.out, HB8.out⟩
            case measure => simp [intOf]; try omega
        · have s1 : ¬ ((j : Int) < xn) := by omega
          have HB8 := Lib.hid hb
          clear hb
          go_wp2
          go_roundw
          case rel =>
            refine ⟨k + 1, by omega, by go_num, ?_, HB8.out⟩
            rw [HTK.out]
            intro m' hm' y hy
            rcases List.mem_append.1 hm' with h | h
            · exact HNO.out m' h y hy
            · obtain rfl : m' = m := by simpa using h
              have := HNJ.out
              rw [List.take_of_length_le (by omega)] at this
              exact this y hy
          case measure => simp [intOf]; try omega
    · have q1 : ¬ ((k : Int) < N) := by omega
      have HB6 := Lib.hid hb
      clear hb
      have hno := HNO.out
      rw [List.take_of_length_le (by omega)] at hno
      have HN := Lib.hid hno
      clear hno
      go_wp2
      go_ret
      exact ⟨-1, rfl, .inl ⟨rfl, HN.out⟩, HB6.out⟩
theorem info_intN : (Try.prog.info? 3).map (fun i => (i.zero, i.size, i.bytes)) = some (some (.int .i64 0), 1, 8) := by kernel_rfl
theorem lit_intN (w : World) (n : Int) (T : TypeId) : Sl (w.alloc (.cells #[.int .i64 n] T)) (some ⟨w.heap.size, 0, none⟩) 1 [n] := by
  have h0 := own_lit (xs := [n]) w T 0 (Nat.zero_le _) #[.int .i64 n] 1 rfl (by decide) rfl
  obtain ⟨ao, c, e, h, _⟩ := h0.sl
  injection e with e _ _
  subst e
  simpa using h
/-- What near answers. -/
def NearRes (w : World) (ms : List ModV) (f : Nat) (e : Ending) (w' : World) : Prop :=
  ∃ v nl, e = .returned v ∧ Own w' w.heap.size 3 v nl ∧ NearSt ms f nl ∧ Cov0 ms nl nl.length ∧ Below w.heap.size w w'
set_option maxHeartbeats 16000000 in
set_option maxRecDepth 100000 in
theorem near_any (ao : Option Addr) (N c0 : Nat) (rs : List ModR) (ms : List ModV) (f : Nat) (w : World) (h : Mods w ao N rs ms) (hf : f < N) (h8 : N ≤ 100) :
    Calls Try.prog 22 #[.slice ao N c0, .int .i64 f] w (NearRes w ms f) := by
  have hn := h.n
  obtain ⟨i0, hi0, hz0, hz1, hz2⟩ := info_parts info_intN
  have hst := near_start (ms := ms) (f := f) (by omega)
  obtain ⟨w1, hw1⟩ : ∃ w1, w1 = w.alloc (.cells #[.int .i64 f] 3) := ⟨_, rfl⟩
  obtain ⟨g1, hg1⟩ : ∃ g, g = w.heap.size := ⟨_, rfl⟩
  have o1 : Own w1 w.heap.size 3 (.slice (some ⟨g1, 0, none⟩) 1 1) [(f : Int)] := by rw [hw1, hg1]; exact own_lit (xs := [(f : Int)]) w 3 w.heap.size (Nat.le_refl _) #[.int .i64 f] 1 rfl (by decide) rfl
  have b1 : Below w.heap.size w w1 := by rw [hw1]; exact ext_alloc (Below.refl _ _) _
  have HM := Lib.hid h
  have HST := Lib.hid hst
  have HW1 := Lib.hid hw1
  have HG1 := Lib.hid hg1
  have O1 := Lib.hid o1
  have B1 := Lib.hid b1
  clear h hst hw1 hg1 o1 b1
  go_enter Try.func22, Try.ntmps22
  go_upto_region 2 with (fail)
  try rw [← HG1.out]
  rw [← HW1.out]
  clear HW1 HG1
  go_wp2
  go_loopw [5, 6] (fun v i wr => ∃ (k : Nat) (nl : List Int), k ≤ nl.length ∧ i = .int .i64 k ∧ Own wr w.heap.size 3 v nl ∧ NearSt ms f nl ∧ Cov0 ms nl k ∧ Below w.heap.size w wr) (fun _ i _ => N - (intOf i).toNat)
  case atStart => exact ⟨0, [(f : Int)], Nat.zero_le _, rfl, O1.out, HST.out, fun i c m hi => by omega, B1.out⟩
  case round =>
    obtain ⟨k, nl, hk, rfl, ho, hst, hc0, hb⟩ := hrel
    have hlen := hst.len
    obtain ⟨va, vn, vc, rfl⟩ := own_shape ho
    have hvn : vn = nl.length := by
      obtain ⟨a', c', e, hs, _⟩ := ho.sl
      injection e with _ e _
    clear O1 B1 HST
    by_cases hlt : k < vn
    · have q0 : (0 : Int) ≤ k := by omega
      have q1 : (k : Int) < vn := by omega
      obtain ⟨cv, hcv⟩ : ∃ cv, nl[k]? = some cv := ⟨_, List.getElem?_eq_getElem (by omega)⟩
      obtain ⟨c, hcN, rfl⟩ := hst.rng cv (List.mem_of_getElem? hcv)
      have hsl : Sl wr va vn nl := by
        obtain ⟨a', c', e, hs, _⟩ := ho.sl
        injection e with e1 e2 e3
        subst e1 e2
        exact hs
      obtain ⟨vd, hvo, hvb, f0⟩ := sl_int hsl hlt hcv
      subst hvo
      have hcN' : c < N := by omega
      obtain ⟨r, m, hr, hm, hhas⟩ := HM.out.get hcN'
      obtain ⟨ad, hao, hab, e0, e1, e2, e3⟩ := sl_ModR (HM.out.sl.below hb) hcN' hr
      subst hao
      obtain ⟨⟨ca, cn, cc⟩, ⟨da, dn, dc⟩, ⟨xa, xn, xc⟩, ⟨ia, jn, ic⟩⟩ := r
      simp only at e0 e1 e2 e3
      have hjn := hhas.im.len
      have hjm := hhas.im.max
      unfold maxLen at hjm
      simp only at hjn hjm
      have c0_ : (0 : Int) ≤ c := by omega
      have c1_ : (c : Int) < N := by omega
      have HV := Lib.hid hvn
      have HO := Lib.hid ho
      have HST := Lib.hid hst
      have HC0 := Lib.hid hc0
      have HB := Lib.hid hb
      have HCV := Lib.hid hcv
      have HMM := Lib.hid hm
      have HI := Lib.hid hhas.im
      have hkl : k < nl.length := by omega
      have HKL := Lib.hid hkl
      clear ho hst hc0 hb hsl hcv hm hr hhas hvn hkl hk hlen
      go_wp2
      clear e0 e1 e2 e3 f0 hvb hab
      go_loopw [5, 30] (fun v i wr => ∃ (a : Nat) (nl : List Int), a ≤ jn ∧ i = .int .i64 a ∧ Own wr w.heap.size 3 v nl ∧ NearSt ms f nl ∧ Cov0 ms nl k ∧ k < nl.length ∧ nl[k]? = some (c : Int) ∧ Cov1 ms nl (m.im.take a) ∧ Below w.heap.size w wr) (fun _ i _ => jn - (intOf i).toNat)
      case atStart => exact ⟨0, nl, Nat.zero_le _, rfl, HO.out, HST.out, HC0.out, HKL.out, HCV.out, (fun x hx => by simp at hx), HB.out⟩
      case round =>
        obtain ⟨a, nl, ha, rfl, ho, hst, hc0, hkl, hcv, hc1, hb⟩ := hrel
        have HO := Lib.hid ho
        have HST := Lib.hid hst
        have HC0 := Lib.hid hc0
        have HKL := Lib.hid hkl
        have HCV := Lib.hid hcv
        have HC1 := Lib.hid hc1
        by_cases hla : a < jn
        · have s0 : (0 : Int) ≤ a := by omega
          have s1 : (a : Int) < jn := by omega
          obtain ⟨x, hx⟩ : ∃ x, m.im[a]? = some x := ⟨_, List.getElem?_eq_getElem (by omega)⟩
          obtain ⟨yd, hyo, hyb, f0, f1⟩ := sl_NamV (HI.out.below hb) hla hx
          subst hyo
          obtain ⟨w8, hw8⟩ : ∃ w8, w8 = wr.alloc (.cells #[.string x.name, .int .i64 x.at_] 44) := ⟨_, rfl⟩
          have r8 : Below wr.heap.size wr w8 := by rw [hw8]; exact ext_alloc (Below.refl _ _) _
          have x8 : Bk w8 wr.heap.size 44 #[.string x.name, .int .i64 x.at_] := by rw [hw8]; exact bk_new _ _ _
          obtain ⟨g8, hg8⟩ : ∃ g, g = wr.heap.size := ⟨_, rfl⟩
          rw [← hg8] at x8
          have HW8 := Lib.hid hw8
          have HG8 := Lib.hid hg8
          have X8 := Lib.hid x8
          have HB8 := Lib.hid (ext_trans hb r8)
          have HO8 := Lib.hid (ho.below r8)
          have HX := Lib.hid hx
          clear hw8 hg8 x8 hb r8 hx ho hst hc0 hkl hcv hc1 HO
          go_upto_region 8 with (fail)
          try rw [← HG8.out]
          rw [← HW8.out]
          clear f0 f1 hyb HW8 HG8
          go_wp2
          go_loopw [5, 36] (fun v i wr => ∃ (n : Nat) (nl : List Int), n ≤ N ∧ i = .int .i64 n ∧ Own wr w.heap.size 3 v nl ∧ NearSt ms f nl ∧ Cov0 ms nl k ∧ k < nl.length ∧ nl[k]? = some (c : Int) ∧ Cov1 ms nl (m.im.take a) ∧ Wish ms nl x n ∧ Bk wr g8 44 #[.string x.name, .int .i64 x.at_] ∧ Below w.heap.size w wr) (fun _ i _ => N - (intOf i).toNat)
          case atStart => exact ⟨0, nl, Nat.zero_le _, rfl, HO8.out, HST.out, HC0.out, HKL.out, HCV.out, HC1.out, (fun n' m' y h => by omega), X8.out, HB8.out⟩
          case round =>
            obtain ⟨n, nl, hnN, rfl, ho, hst, hc0, hkl, hcv, hc1, hws, hx8, hb⟩ := hrel
            have HO := Lib.hid ho
            have HST := Lib.hid hst
            have HC0 := Lib.hid hc0
            have HKL := Lib.hid hkl
            have HCV := Lib.hid hcv
            have HC1 := Lib.hid hc1
            have HWS := Lib.hid hws
            have HX8 := Lib.hid hx8
            clear ho hst hc0 hkl hcv hc1 hws hx8
            by_cases hln : n < N
            · have n0 : (0 : Int) ≤ n := by omega
              have n1 : (n : Int) < N := by omega
              obtain ⟨r', m', hr', hm', hhas'⟩ := HM.out.get hln
              obtain ⟨ad', hao', hab', e0, e1, e2, e3⟩ := sl_ModR (HM.out.sl.below hb) hln hr'
              injection hao' with hao'
              subst hao'
              obtain ⟨⟨ca', cn', cc'⟩, ⟨da', dn', dc'⟩, ⟨xa', xn', xc'⟩, ⟨ia', jn', ic'⟩⟩ := r'
              simp only at e0 e1 e2 e3
              have hxn := hhas'.ex.len
              have hxm := hhas'.ex.max
              unfold maxLen at hxm
              simp only at hxn hxm
              obtain ⟨w10, hw10⟩ : ∃ w10, w10 = wr.alloc (.cells #[.slice ca' cn' cc', .slice da' dn' dc', .slice xa' xn' xc', .slice ia' jn' ic'] 36) := ⟨_, rfl⟩
              have r10 : Below wr.heap.size wr w10 := by rw [hw10]; exact ext_alloc (Below.refl _ _) _
              have x10 : Bk w10 wr.heap.size 36 #[.slice ca' cn' cc', .slice da' dn' dc', .slice xa' xn' xc', .slice ia' jn' ic'] := by rw [hw10]; exact bk_new _ _ _
              obtain ⟨g10, hg10⟩ : ∃ g, g = wr.heap.size := ⟨_, rfl⟩
              rw [← hg10] at x10
              have HW10 := Lib.hid hw10
              have HG10 := Lib.hid hg10
              have X10 := Lib.hid x10
              have HB10 := Lib.hid (ext_trans hb r10)
              have HO10 := Lib.hid (HO.out.below r10)
              have HX10 := Lib.hid (bk_keep r10 HX8.out)
              have HE := Lib.hid hhas'.ex
              have HM' := Lib.hid hm'
              clear hw10 hg10 x10 hb r10 hm' hr' hhas' HO HX8
              go_upto_region 11 with (fail)
              try rw [← HG10.out]
              rw [← HW10.out]
              clear e0 e1 e2 e3 hab' HW10 HG10
              obtain ⟨t0, t1, t2, t3⟩ := cellsM4 X10.out
              have tL := X10.out.lt
              go_wp2
              clear t0 t1 t2 t3 tL
              go_loopw [5, 44] (fun v i wr => ∃ (b : Nat) (nl : List Int), b ≤ xn' ∧ i = .int .i64 b ∧ Own wr w.heap.size 3 v nl ∧ NearSt ms f nl ∧ Cov0 ms nl k ∧ k < nl.length ∧ nl[k]? = some (c : Int) ∧ Cov1 ms nl (m.im.take a) ∧ Wish ms nl x n ∧ Cov3 nl x n (m'.ex.take b) ∧ Bk wr g8 44 #[.string x.name, .int .i64 x.at_] ∧ Below w.heap.size w wr) (fun _ i _ => xn' - (intOf i).toNat)
              case atStart => exact ⟨0, nl, Nat.zero_le _, rfl, HO10.out, HST.out, HC0.out, HKL.out, HCV.out, HC1.out, HWS.out, (fun y hy => by simp at hy), HX10.out, HB10.out⟩
              case round =>
                obtain ⟨b, nl, hbx, rfl, ho, hst, hc0, hkl, hcv, hc1, hws, hc3, hx8, hb⟩ := hrel
                have HST := Lib.hid hst
                have HC0 := Lib.hid hc0
                have HKL := Lib.hid hkl
                have HCV := Lib.hid hcv
                have HC1 := Lib.hid hc1
                have HWS := Lib.hid hws
                have HC3 := Lib.hid hc3
                obtain ⟨va, vn, vc, rfl⟩ := own_shape ho
                have hsl : Sl wr va vn nl := by
                  obtain ⟨a', c', e, hs, _⟩ := ho.sl
                  injection e with e1 e2 e3
                  subst e1 e2
                  exact hs
                have HO := Lib.hid ho
                have HSL := Lib.hid hsl
                clear hst hc0 hkl hcv hc1 hws hc3 ho hsl HO10 HX10 HB10
                by_cases hlb : b < xn'
                · have b0 : (0 : Int) ≤ b := by omega
                  have b1 : (b : Int) < xn' := by omega
                  obtain ⟨y, hy⟩ : ∃ y, m'.ex[b]? = some y := ⟨_, List.getElem?_eq_getElem (by omega)⟩
                  obtain ⟨zd, hzo, hzb, f0, f1⟩ := sl_NamV (HE.out.below hb) hlb hy
                  subst hzo
                  obtain ⟨w12, hw12⟩ : ∃ w12, w12 = wr.alloc (.cells #[.string y.name, .int .i64 y.at_] 54) := ⟨_, rfl⟩
                  have r12 : Below wr.heap.size wr w12 := by rw [hw12]; exact ext_alloc (Below.refl _ _) _
                  have x12 : Bk w12 wr.heap.size 54 #[.string y.name, .int .i64 y.at_] := by rw [hw12]; exact bk_new _ _ _
                  obtain ⟨g12, hg12⟩ : ∃ g, g = wr.heap.size := ⟨_, rfl⟩
                  rw [← hg12] at x12
                  have HW12 := Lib.hid hw12
                  have HG12 := Lib.hid hg12
                  have X12 := Lib.hid x12
                  have HB12 := Lib.hid (ext_trans hb r12)
                  have HO12 := Lib.hid (HO.out.below r12)
                  have HSL12 := Lib.hid (HSL.out.below r12)
                  have HX12 := Lib.hid (bk_keep r12 hx8)
                  have HY := Lib.hid hy
                  clear hw12 hg12 x12 hb r12 hy hx8 HO HSL
                  go_upto_region 14 with (fail)
                  try rw [← HG12.out]
                  rw [← HW12.out]
                  clear f0 f1 hzb HW12 HG12
                  obtain ⟨k0, k1⟩ := cellsM2 X12.out
                  have kL := X12.out.lt
                  obtain ⟨l0, l1⟩ := cellsM2 HX12.out
                  have lL := HX12.out.lt
                  by_cases hys : y.name = x.name
                  · have fe : (y.name.toList == x.name.toList) = true := by simp [hys]
                    have hsn := has_numR va vn vc nl n w12 HSL12.out
                    by_cases hin : (n : Int) ∈ nl
                    · simp only [hin, decide_true] at hsn
                      have HSN := Lib.hid hsn
                      have hc3' := cov3_next HY.out HC3.out (fun _ => hin)
                      have HC3' := Lib.hid hc3'
                      clear hsn hc3' hin hys
                      go_wp2_with (go_at_call 25; ((with_reducible refine (HSN.out).mono ?_); rintro e w' ⟨rfl, rfl⟩))
                      go_roundw
                      case rel => exact ⟨b + 1, nl, by omega, by go_num, HO12.out, HST.out, HC0.out, HKL.out, HCV.out, HC1.out, HWS.out, HC3'.out, HX12.out, HB12.out⟩
                      case measure => simp [intOf]; try omega
                    · simp only [hin, decide_false] at hsn
                      have HSN := Lib.hid hsn
                      have hst' := HST.out.snoc (n := n) (by omega) hin
                      have hc3' := cov3_next (nl := nl ++ [(n : Int)]) HY.out HC3.out.more (fun _ => by simp)
                      have hkn : k < (nl ++ [(n : Int)]).length := by have := HKL.out; rw [List.length_append]; omega
                      have hcv' : (nl ++ [(n : Int)])[k]? = some (c : Int) := by rw [List.getElem?_append_left HKL.out]; exact HCV.out
                      have hc0' := HC0.out.more (v := (n : Int)) (Nat.le_of_lt HKL.out)
                      have hnl := HST.out.len
                      have c63 : nl.length + 1 ≤ maxLen := by unfold maxLen; omega
                      have c47 : (nl.length + 1) * 8 ≤ 140737488355328 := by omega
                      have hla' := lit_intN w12 n 3
                      have hva := HO12.out.alloc (.cells #[.int .i64 n] 3)
                      have hsb : w.heap.size ≤ (w12.alloc (.cells #[.int .i64 n] 3)).heap.size := by have := HB12.out.size; simp; omega
                      have HST' := Lib.hid hst'
                      have HC3' := Lib.hid hc3'
                      have HKN := Lib.hid hkn
                      have HCV' := Lib.hid hcv'
                      have HC0' := Lib.hid hc0'
                      have C63 := Lib.hid c63
                      have C47 := Lib.hid c47
                      have HLA := Lib.hid hla'
                      have HVA := Lib.hid hva
                      have HSB := Lib.hid hsb
                      clear hsn hst' hc3' hkn hcv' hc0' c63 c47 hla' hva hsb hin hys hnl
                      go_wp2_with (first
                        | (go_at_call 25; ((with_reducible refine (HSN.out).mono ?_); rintro e w' ⟨rfl, rfl⟩))
                        | (at_builtin; refine wpList_append_sl rfl (.tmp 59) (.tmp 61) 32 rfl w.heap.size 3 i0 _ 8 Try.underlying32 hi0 hz0 hz1 hz2 rfl (.slice va vn vc) nl rfl HVA.out (some ⟨w12.heap.size, 0, none⟩) 1 1 [(n : Int)] rfl HLA.out C63.out C47.out HSB.out ?_; intro v9 w9 hown9 hgr9 hat9; have HO9 := Lib.hid hown9; have HG9 := Lib.hid hgr9; clear hown9 hgr9 hat9))
                      go_roundw
                      case rel =>
                        have a12 : Below w12.heap.size w12 (w12.alloc (.cells #[.int .i64 n] 3)) := ext_alloc (Below.refl _ _) _
                        exact ⟨b + 1, nl ++ [(n : Int)], by omega, by go_num, HO9.out, HST'.out, HC0'.out, HKN.out, HCV'.out, HC1.out.more, HWS.out.more, HC3'.out, bk_grown (bk_keep a12 HX12.out) HG9.out (fun e => own_not_bk HVA.out (bk_keep a12 HX12.out) (by decide) e), (ext_trans HB12.out a12).grown HG9.out HSB.out (fun i e => (World.ownsRow.lt HVA.out i e).1)⟩
                      case measure => simp [intOf]; try omega
                  · have fe : (y.name.toList == x.name.toList) = false := beq_eq_false_iff_ne.2 fun e => hys (name_eq.1 e)
                    have hc3' := cov3_next HY.out HC3.out (fun e => absurd e hys)
                    have HC3' := Lib.hid hc3'
                    clear hc3' hys
                    go_wp2
                    go_roundw
                    case rel => exact ⟨b + 1, nl, by omega, by go_num, HO12.out, HST.out, HC0.out, HKL.out, HCV.out, HC1.out, HWS.out, HC3'.out, HX12.out, HB12.out⟩
                    case measure => simp [intOf]; try omega
                · have b1 : ¬ ((b : Int) < xn') := by omega
                  have hc3 := HC3.out
                  rw [List.take_of_length_le (by omega)] at hc3
                  have HW' := Lib.hid (wish_next HM'.out HWS.out hc3)
                  have HB12 := Lib.hid hb
                  have HX12 := Lib.hid hx8
                  clear hc3 hb hx8
                  go_wp2
                  go_roundw
                  case rel => exact ⟨n + 1, nl, by omega, by go_num, HO.out, HST.out, HC0.out, HKL.out, HCV.out, HC1.out, HW'.out, HX12.out, HB12.out⟩
                  case measure => simp [intOf]; try omega
            · have n1 : ¬ ((n : Int) < N) := by omega
              have hws := HWS.out
              rw [show n = ms.length by omega] at hws
              have HC1' := Lib.hid (cov1_next HX.out HC1.out hws)
              have HB10 := Lib.hid hb
              clear hws hb
              go_wp2
              go_roundw
              case rel => exact ⟨a + 1, nl, by omega, by go_num, HO.out, HST.out, HC0.out, HKL.out, HCV.out, HC1'.out, HB10.out⟩
              case measure => simp [intOf]; try omega
        · have s1 : ¬ ((a : Int) < jn) := by omega
          have hc1' := HC1.out
          rw [List.take_of_length_le (by omega)] at hc1'
          have HC0' := Lib.hid (cov0_next HCV.out HMM.out HC0.out hc1')
          have hk1 := HKL.out
          have hk2 := HST.out.len
          have hkb : (k : Int) < N := by omega
          have HB8 := Lib.hid hb
          clear hc1' hb ho hst hc0 hkl hcv hc1 hk1 hk2
          go_wp2
          go_roundw
          case rel => exact ⟨k + 1, nl, HKL.out, by go_num, HO.out, HST.out, HC0'.out, HB8.out⟩
          case measure => simp [intOf]; omega
    · have q1 : ¬ ((k : Int) < vn) := by omega
      obtain rfl : k = nl.length := by omega
      have HO := Lib.hid ho
      have HST := Lib.hid hst
      have HC0 := Lib.hid hc0
      have HB := Lib.hid hb
      clear ho hst hc0 hb hvn
      go_wp2
      go_ret
      exact ⟨_, nl, rfl, HO.out, HST.out, HC0.out, HB.out⟩
set_option maxHeartbeats 8000000 in
set_option maxRecDepth 100000 in
theorem whose_any (g N pc : Nat) (pa : Option Addr) (u0 u2 : Value) (P : List PlaceV) (ms : List ModV) (n : Nat) (m : ModV) (v : Int) (w : World) (hB : Bk w g 27 #[u0, .slice pa N pc, u2]) (hP : Sl w pa N P) (hN : ms.length = N)
    (hPat : ∀ (t : Nat) (m : ModV), ms[t]? = some m → P[t]? = some (placeOf (total (ms.take t)) t m)) (htot : total ms ≤ 400) (hm : ms[n]? = some m) (h1 : (total (ms.take n) : Int) ≤ v) (h2 : v < total (ms.take n) + (m.code.length + m.data.length)) :
    Calls Try.prog 24 #[.int .i64 v, .pointer (some ⟨g, 0, none⟩)] w fun e w' => e = .returned (.tuple #[.int .i64 n, .bool (decide (v < total (ms.take n) + m.code.length))]) ∧ Below w.heap.size w w' := by
  have hmx := hP.max
  unfold maxLen at hmx
  have hnN : n < N := by rw [← hN]; exact (List.getElem?_eq_some_iff.1 hm).1
  have hle := total_take_le ms
  have hts := fun i m (h : ms[i]? = some m) => total_take_succ h
  have hmono : ∀ i, i < n → total (ms.take (i + 1)) ≤ total (ms.take n) := fun i hi => by
    have h := total_take_le (ms.take n) (i + 1)
    rwa [List.take_take, Nat.min_eq_left (by omega)] at h
  have htn := total_take_le ms n
  obtain ⟨c0, c1, c2⟩ := cells3 hB
  have bL := hB.lt
  have HPP := Lib.hid hP
  have HPAT := Lib.hid hPat
  have HM := Lib.hid hm
  have HTS := Lib.hid hts
  have HMO := Lib.hid hmono
  clear hB hP hPat hm hts hmono hle
  go_enter Try.func24, Try.ntmps24
  go_wp2
  go_loopw [10] (fun i wr => ∃ k : Nat, k ≤ n ∧ i = .int .i64 k ∧ Below w.heap.size w wr) (fun i _ => n + 1 - (intOf i).toNat)
  case atStart => exact ⟨0, Nat.zero_le _, rfl, Below.refl _ _⟩
  case round =>
    obtain ⟨k, hk, rfl, hb⟩ := hrel
    have q0 : (0 : Int) ≤ k := by omega
    have q1 : (k : Int) < N := by omega
    obtain ⟨mk, hmk⟩ : ∃ mk, ms[k]? = some mk := ⟨_, List.getElem?_eq_getElem (by omega)⟩
    obtain ⟨pd, hpo, hpb, f0, f1, f2, f3⟩ := sl_PlaceV (HPP.out.below hb) (show k < N by omega) (HPAT.out k mk hmk)
    subst hpo
    unfold placeOf at f0 f1 f2 f3
    simp only at f0 f1 f2 f3
    have htk := HTS.out k mk hmk
    have hle1 := total_take_le ms (k + 1)
    have hkm := fun h => HMO.out k h
    obtain ⟨cn, hcn⟩ : ∃ c, mk.code.length = c := ⟨_, rfl⟩
    obtain ⟨dn, hdn⟩ : ∃ c, mk.data.length = c := ⟨_, rfl⟩
    obtain ⟨tk, htkk⟩ : ∃ t, total (ms.take k) = t := ⟨_, rfl⟩
    rw [hcn, hdn] at htk
    rw [hcn] at f1
    rw [hdn] at f2
    rw [htkk] at f0 htk
    obtain ⟨w6, hw6⟩ : ∃ w6, w6 = wr.alloc (.cells #[.int .i64 tk, .int .i64 cn, .int .i64 dn, .int .i64 ((k : Int) + 1)] 38) := ⟨_, rfl⟩
    have r6 : Below wr.heap.size wr w6 := by rw [hw6]; exact ext_alloc (Below.refl _ _) _
    have x6 : Bk w6 wr.heap.size 38 #[.int .i64 tk, .int .i64 cn, .int .i64 dn, .int .i64 ((k : Int) + 1)] := by rw [hw6]; exact bk_new _ _ _
    obtain ⟨g6, hg6⟩ : ∃ g, g = wr.heap.size := ⟨_, rfl⟩
    rw [← hg6] at x6
    have HW6 := Lib.hid hw6
    have HG6 := Lib.hid hg6
    have X6 := Lib.hid x6
    have HB6 := Lib.hid (ext_trans hb r6)
    by_cases hkn : k < n
    · have hup := hkm hkn
      have q2 : (tk : Int) ≤ v := by omega
      have q3 : ¬ (v < (tk : Int) + cn + dn) := by omega
      have q4 : (tk : Int) + cn + dn ≤ 400 := by omega
      clear hw6 hg6 x6 r6 hb hmk htk hle1 hkm hup hcn hdn htkk
      go_upto_region 4 with (fail)
      try rw [← HG6.out]
      rw [← HW6.out]
      clear f0 f1 f2 f3 hpb HW6 HG6
      obtain ⟨t0, t1, t2, t3⟩ := cellsM4 X6.out
      have tL := X6.out.lt
      go_wp2
      go_roundw
      case rel => exact ⟨k + 1, by omega, by go_num, HB6.out⟩
      case measure => simp [intOf]; omega
    · obtain rfl : k = n := by omega
      have hmm := HM.out
      rw [hmk] at hmm
      injection hmm with hmm
      subst hmm
      rw [hcn, hdn, htkk] at h2
      rw [htkk] at h1
      have HCN := Lib.hid hcn
      have HTKK := Lib.hid htkk
      have q2 : (tk : Int) ≤ v := by omega
      have q3 : v < (tk : Int) + cn + dn := by omega
      have q4 : (tk : Int) + cn + dn ≤ 400 := by omega
      clear hw6 hg6 x6 r6 hb hmk htk hle1 hkm hcn hdn htkk
      go_upto_region 4 with (fail)
      try rw [← HG6.out]
      rw [← HW6.out]
      clear f0 f1 f2 f3 hpb HW6 HG6
      obtain ⟨t0, t1, t2, t3⟩ := cellsM4 X6.out
      have tL := X6.out.lt
      go_wp2
      go_quiet (fail)
      go_wp2
      refine bodyPost_ret (results_tmp2 rfl _ _ _) rfl ?_
      rw [HCN.out, HTKK.out]
      exact ⟨rfl, ext_drewN HB6.out _⟩
end Go.Proofs.Ytmmmmeeepieemaa
