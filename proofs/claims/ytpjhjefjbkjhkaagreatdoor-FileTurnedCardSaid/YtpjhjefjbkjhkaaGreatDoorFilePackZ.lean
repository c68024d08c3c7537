import Derived.Deep.RegionLaw
import Derived.Test.YtpjhjefjbkjhkaaGreatDoorFileAZ
import Derived.Test.YtpjhjefjbkjhkaaGreatDoorHeapAppendZ
/- What Pack of package file computes. -/
namespace Go.Proofs.YtpjhjefjbkjhkaaGreatDoor
open Go Go.RowKit Go.Joins
set_option linter.unusedVariables false
set_option linter.unusedSimpArgs false
theorem vB_ (n : Int) : Value.int .u8 (n % 256) = Value.int .u8 ((byteN n).toNat : Int) := by
  rw [byteN_nat, Int.toNat_of_nonneg (by omega)]
theorem nameB_le {s : ByteArray} (h : isNameB s = true) : s.size ≤ 12 := by
  unfold isNameB at h
  simp only [Bool.and_eq_true, decide_eq_true_eq] at h
  exact h.1.1.2
theorem names_le : ∀ {l : List NamV}, (∀ x ∈ l, x.name.size ≤ 12) → (l.flatMap nameL).length ≤ 14 * l.length
  | [], _ => by simp
  | x :: l, h => by
    have h1 := names_le (l := l) fun y hy => h y (List.mem_cons_of_mem _ hy)
    have h2 := h x (by simp)
    rw [List.flatMap_cons, List.length_append, nameL_len, List.length_cons]
    omega
def preF (m : ModV) : Nat → List UInt8
  | 0 => headL m
  | 1 => headL m ++ m.code.flatMap four
  | _ => headL m ++ m.code.flatMap four ++ m.data.flatMap four
theorem sl_four (W : World) (y : Int) : Sl (W.alloc (.cells #[.int .u8 (y / 16777216 % 256), .int .u8 (y / 65536 % 256), .int .u8 (y / 256 % 256), .int .u8 (y % 256)] 5)) (some ⟨W.heap.size, 0, none⟩) 4 [byteN (y / 16777216), byteN (y / 65536), byteN (y / 256), byteN y] := by
  have h0 := own_lit (xs := [byteN (y / 16777216), byteN (y / 65536), byteN (y / 256), byteN y]) W 5 0 (Nat.zero_le _) #[.int .u8 (y / 16777216 % 256), .int .u8 (y / 65536 % 256), .int .u8 (y / 256 % 256), .int .u8 (y % 256)] 4 rfl (by decide) (by rw [cls_bytes, vB_, vB_, vB_, vB_]; rfl)
  obtain ⟨ao, c, e, h, _⟩ := h0.sl
  injection e with e _ _
  subst e
  exact h
theorem sl_head (W : World) (a b c d : Int) : Sl (W.alloc (.cells #[.int .u8 (a % 256), .int .u8 (b % 256), .int .u8 (c % 256), .int .u8 (d % 256)] 5)) (some ⟨W.heap.size, 0, none⟩) 4 [byteN a, byteN b, byteN c, byteN d] := by
  have h0 := own_lit (xs := [byteN a, byteN b, byteN c, byteN d]) W 5 0 (Nat.zero_le _) #[.int .u8 (a % 256), .int .u8 (b % 256), .int .u8 (c % 256), .int .u8 (d % 256)] 4 rfl (by decide) (by rw [cls_bytes, vB_, vB_, vB_, vB_]; rfl)
  obtain ⟨ao, c, e, h, _⟩ := h0.sl
  injection e with e _ _
  subst e
  exact h
theorem sl_mark (W : World) : Sl (W.alloc (.cells #[.int .u8 67, .int .u8 77, .int .u8 49] 5 (3, 4))) (some ⟨W.heap.size, 0, none⟩) 3 ([67, 77, 49] : List UInt8) :=
  ⟨rfl, by decide, fun _ => ⟨_, rfl, by show W.heap.size < _; rw [World.size_alloc]; omega, fun j u hu => by
    rw [Addr.add_lit, World.cell?_alloc_mark]
    rw [cls_bytes] at hu
    simpa using hu⟩⟩
set_option maxRecDepth 100000 in
theorem app_grow {ops : Array Oper} {rest : List Oper} {o : Oper} {a : Act} {Q : Exit → Act → World → Prop} {W : World} (hgd : o.guard = none) (s x : Operand)
    (ho : o.op = .call { callee := .builtin .append, args := #[s, x], argTypes := #[91, 91] }) (B : Nat) (b : Addr) (n0 cap0 : Nat) (l : List UInt8) (hs : a.eval s = .slice (some b) n0 cap0) (h0 : Sl W (some b) n0 l) (hn : 0 < n0)
    (a2 : Addr) (m c : Nat) (ys : List UInt8) (hx : a.eval x = .slice (some a2) m c) (hr : Sl W (some a2) m ys) (hm : 0 < m) (hcap : cap0 < n0 + m) (h1 : n0 ≤ 1000) (h2 : m ≤ 1000) (hB : B ≤ W.heap.size)
    (h : ∀ V N C w', Own w' B 5 (.slice V N C) (l ++ ys) → GrewB B W w' → wpList Tryz.prog ops Q rest (a.put o.dst (.slice V N C)) w') : wpList Tryz.prog ops Q (o :: rest) a W := by
  obtain ⟨i0, hi, hz0, hz1, hz2⟩ := info_parts info_u8F
  obtain ⟨_, e1, _, hc1⟩ := h0.row hn
  injection e1 with e1
  subst e1
  obtain ⟨_, e2, _, hc2⟩ := hr.row hm
  injection e2 with e2
  subst e2
  have l0 := h0.len
  have l1 := hr.len
  have k0 : (cls l).length = n0 * i0.size := by rw [cls_length, l0, hz1]; rfl
  have k1 : (cls ys).length = m * i0.size := by rw [cls_length, l1, hz1]; rfl
  have run := run_append_grow (P := Tryz.prog) W 91 o.type 5 i0 _ Tryz.underlying91 hi hz0 b n0 cap0 (cls l) k0 hc1 a2 m c (cls ys) k1 hc2 hcap (by omega) (growslice_fits (by omega) (by rw [hz2]; omega))
  refine wpList_plain hgd fun _ hK => ?_
  unfold Oper.wp
  simp [execOp, ho, resolve, invoke, builtin, hs, hx, run, Result.andThen]
  refine hK _ _ (h _ _ _ _ ?_ ?_)
  · have hge := grownCap_ge W (n0 + m) cap0 5
    have hcm : grownCap W (n0 + m) cap0 5 ≤ maxLen := grownCap_le_maxLen W (n0 + m) cap0 5 (by unfold maxLen; omega)
    refine ⟨by rw [cls_length], .inr ⟨W.heap.size, _, _, ?_, hB, heap_alloc_new W.drew _, ?_, hcm, ?_, ?_⟩⟩
    · rw [List.length_append, l0, l1]
    · rw [List.length_append, l0, l1]; exact hge
    · have hzc : (Value.int IntKind.u8 0).cells.size = 1 := rfl
      have e1 : El.k UInt8 = 1 := rfl
      simp only [Array.size_append, List.size_toArray, List.length_append, size_zeroCells, hzc, k0, k1, hz1, e1]
      omega
    · have e3 : (l ++ ys).length * El.k UInt8 = (cls l ++ cls ys).length := by rw [← cls_append, cls_length]
      rw [e3]
      simp only [Array.toList_append, List.append_assoc]
      rw [← List.append_assoc, cls_append]
      exact List.take_left
  · exact ⟨(Below.refl B W).drew.alloc hB _, by rw [World.size_alloc]; simp, fun _ hb => bk_old _ hb⟩
set_option maxRecDepth 100000 in
theorem app_run {W : World} (B : Nat) (v : Value) (l : List UInt8) (hown : Own W B 5 v l)
    (ao : Option Addr) (m c : Nat) (ys : List UInt8) (hr : Sl W ao m ys) (h1 : l.length ≤ 10000000) (h2 : m ≤ 10000000) (hB : B ≤ W.heap.size) :
    ∃ V N C w', (Builtin.append_ #[91, 91] 91 #[v, .slice ao m c]).run Tryz.prog W = .ok (.slice V N C) w' ∧ Own w' B 5 (.slice V N C) (l ++ ys) ∧ GrewB B W w' := by
  obtain ⟨i0, hi, hz0, hz1, hz2⟩ := info_parts info_u8F
  obtain ⟨v', w', h3, h4, h5, _⟩ := run_append_sl (α := UInt8) (P := Tryz.prog) W B 91 91 5 i0 _ 1 Tryz.underlying91 hi hz0 hz1 hz2 rfl v l hown ao m c ys hr (by unfold maxLen; omega) (by omega) hB
  obtain ⟨V, N, C, rfl⟩ := own_shape h4
  exact ⟨V, N, C, w', h3, h4, grewB_of hown h5 hB⟩
theorem own_sl2 {w : World} {B : Nat} {T : TypeId} {ao : Option Addr} {n c : Nat} {xs : List UInt8} (h : Own w B T (.slice ao n c) xs) : Sl w ao n xs := by
  obtain ⟨a, k, e, h2, _⟩ := h.sl
  injection e with e1 e2 e3
  subst e1 e2
  exact h2
/-- The bytes so far. -/
structure PkSt (B gb : Nat) (l : List UInt8) (V : Option Addr) (N C : Nat) (wl wr : World) : Prop where
  b : Bk wr gb 91 #[.slice V N C]
  o : Own wr B 5 (.slice V N C) l
  below : Below B wl wr
  kept : ∀ {k : Nat} {T' : TypeId} {cs : Array Value}, T' ≠ 5 → k ≠ gb → Bk wl k T' cs → Bk wr k T' cs
  le : B ≤ gb
theorem PkSt.put {B gb : Nat} {l l' : List UInt8} {V V' : Option Addr} {N C N' C' : Nat} {wl wr w' : World} (h : PkSt B gb l V N C wl wr) (hg : GrewB B wr w') (ho : Own w' B 5 (.slice V' N' C') l') : PkSt B gb l' V' N' C' wl (w'.setCell ⟨gb, 0, none⟩ (.slice V' N' C')) :=
  have hb := hg.bk (by decide) h.b
  ⟨bk_set' hb rfl, own_cell ho hb (by decide) 0 _, (h.below.trans hg.below).setCell h.le _, fun ht hk hk2 => bk_cell (hg.bk ht (h.kept ht hk hk2)) hk 0 _, h.le⟩
theorem PkSt.call {B gb : Nat} {l l' : List UInt8} {V V' : Option Addr} {N C N' C' : Nat} {wl wr w' : World} (h : PkSt B gb l V N C wl wr) (hb : Bk w' gb 91 #[.slice V' N' C']) (ho : Own w' B 5 (.slice V' N' C') l') (hw : Below B wr w')
    (hk : ∀ {k : Nat} {T' : TypeId} {cs : Array Value}, T' ≠ 5 → k ≠ gb → Bk wr k T' cs → Bk w' k T' cs) : PkSt B gb l' V' N' C' wl w' :=
  ⟨hb, ho, h.below.trans hw, fun ht hne h2 => hk ht hne (h.kept ht hne h2), h.le⟩
theorem PkSt.alloc {B gb : Nat} {l : List UInt8} {V : Option Addr} {N C : Nat} {wl wr : World} (h : PkSt B gb l V N C wl wr) (o : Obj) : PkSt B gb l V N C wl (wr.alloc o) :=
  ⟨bk_old _ h.b, h.o.alloc _, h.below.alloc (by have := h.b.lt; have := h.le; omega) _, fun ht hk hb => bk_old _ (h.kept ht hk hb), h.le⟩
set_option maxHeartbeats 4000000 in
set_option maxRecDepth 100000 in
theorem fpack_ok (r : ModR) (m : ModV) (w : World) (h : r.has w m) (hok : ModOk isNameB m) :
    Calls Tryz.prog 35 #[.agg #[.slice r.code.a r.code.n r.code.c, .slice r.data.a r.data.n r.data.c, .slice r.ex.a r.ex.n r.ex.c, .slice r.im.a r.im.n r.im.c]] w fun e w' => e = .returned (.tuple #[.string ⟨(packM m).toArray⟩, .int .i64 0]) ∧ Below w.heap.size w w' := by
  obtain ⟨⟨ca, cn, cc⟩, ⟨da, dn, dc⟩, ⟨ea, en, ec⟩, ⟨ia, jn, ic⟩⟩ := r
  obtain ⟨w1, hw1⟩ : ∃ w1, w1 = w.alloc (.cells #[.slice ca cn cc, .slice da dn dc, .slice ea en ec, .slice ia jn ic] 28) := ⟨_, rfl⟩
  have h1w : Below w.heap.size w w1 := by rw [hw1]; exact ext_alloc (Below.refl _ _) _
  have b1 : Bk w1 w.heap.size 28 #[.slice ca cn cc, .slice da dn dc, .slice ea en ec, .slice ia jn ic] := by rw [hw1]; exact bk_new _ _ _
  have ck := mod_check _ m w1 (h.below h1w)
  simp only at ck
  obtain ⟨hc, hd, he, hi, ⟨hlc, hld, hle, hli⟩, wc, wd, we, wi⟩ := h
  simp only at *
  have lc := hc.len
  have ld := hd.len
  have le := he.len
  have li := hi.len
  have HW1 := Lib.hid hw1
  have H1W := Lib.hid h1w
  have B1 := Lib.hid b1
  have CK := Lib.hid ck
  have HCO := Lib.hid hc
  have HDA := Lib.hid hd
  have HEX := Lib.hid he
  have HIM := Lib.hid hi
  have HMO := Lib.hid hok
  obtain ⟨c0, c1, c2, c3⟩ := cellsM4 b1
  have bL := b1.lt
  have l1 := hok.l1
  have l2 := hok.l2
  have l3 := hok.l3
  have l4 := hok.l4
  have hhd : ([67, 77, 49] : List UInt8) ++ [byteN cn, byteN dn, byteN en, byteN jn] = preF m 0 := by show _ = headL m; unfold headL; rw [lc, ld, le, li]; rfl
  have HHD := Lib.hid hhd
  clear hw1 h1w b1 ck hc hd he hi wc wd we wi hok hhd
  go_enter Tryz.func35, Tryz.ntmps35
  go_upto_region 1 with (fail)
  rw [← HW1.out]
  go_upto_region 4 with (go_at_call 34; ((with_reducible refine CK.out.mono ?_); rintro e w2 ⟨er, rfl, her, hb2⟩; have he0 := her.2 HMO.out; subst he0; clear her; have HB2 := Lib.hid (ext_trans H1W.out hb2); have B2 := Lib.hid (bk_keep hb2 B1.out); clear hb2))
  clear c0 c1 c2 c3 bL
  obtain ⟨m0, m1, m2, m3⟩ := cellsM4 B2.out
  have mL := B2.out.lt
  have hBw : w.heap.size ≤ w2.heap.size := HB2.out.size
  have KV := run_convert_bytes_const_at (P := Tryz.prog) w2 91 5 #[.int .u8 67, .int .u8 77, .int .u8 49] 3 3 w2.heap.size rfl Tryz.underlying91 Tryz.underlying5
  obtain ⟨w3, hw3⟩ : ∃ w3, w3 = w2.alloc (.cells #[.int .u8 67, .int .u8 77, .int .u8 49] 5 (3, 4)) := ⟨_, rfl⟩
  have kv : (convert 91 91 (.slice (some ⟨w2.heap.size, 0, none⟩) 3 3)).run Tryz.prog (w2.alloc (.cells #[.int .u8 67, .int .u8 77, .int .u8 49] 5)) = .ok (.slice (some ⟨w2.heap.size, 0, none⟩) 3 3) w3 := by rw [hw3]; exact KV
  clear KV
  have g3 : GrewB w.heap.size w2 w3 := by rw [hw3]; exact GrewB.alloc _ _ hBw _
  have s3 : Sl w3 (some ⟨w2.heap.size, 0, none⟩) 3 ([67, 77, 49] : List UInt8) := by rw [hw3]; exact sl_mark w2
  have h3 : w.heap.size ≤ w3.heap.size := Nat.le_trans hBw g3.size
  have B3 := Lib.hid (g3.bk (by decide) B2.out)
  have O4 := Lib.hid (s3.alloc (.cells #[.int .u8 (cn : Int), .int .u8 (dn : Int), .int .u8 (en : Int), .int .u8 (jn : Int)] 5))
  have s4 := sl_head w3 cn dn en jn
  rw [show (cn : Int) % 256 = cn by omega, show (dn : Int) % 256 = dn by omega, show (en : Int) % 256 = en by omega, show (jn : Int) % 256 = jn by omega] at s4
  have S4 := Lib.hid s4
  clear s4
  have G4 := Lib.hid (g3.trans (GrewB.alloc w.heap.size w3 h3 (.cells #[.int .u8 (cn : Int), .int .u8 (dn : Int), .int .u8 (en : Int), .int .u8 (jn : Int)] 5)))
  have h4 := Nat.le_trans h3 (show w3.heap.size ≤ (w3.alloc (.cells #[.int .u8 (cn : Int), .int .u8 (dn : Int), .int .u8 (en : Int), .int .u8 (jn : Int)] 5)).heap.size by rw [World.size_alloc]; omega)
  clear m0 m1 m2 m3 mL hw3 g3 s3
  obtain ⟨m0, m1, m2, m3⟩ := cellsM4 B3.out
  have mL := B3.out.lt
  go_upto_region 5 with (at_builtin; go_loud (refine app_grow rfl (.tmp 21) (.tmp 38) rfl w.heap.size ⟨w2.heap.size, 0, none⟩ 3 3 [67, 77, 49] rfl O4.out (by decide) ⟨w3.heap.size, 0, none⟩ 4 4 [byteN cn, byteN dn, byteN en, byteN jn] rfl S4.out (by decide) (by decide) (by decide) (by decide) h4 ?_; intro V5 N5 C5 w5 ho5 hg5; rw [HHD.out] at ho5; have O5 := Lib.hid ho5; have G5 := Lib.hid (G4.out.trans hg5); clear ho5 hg5))
  obtain ⟨gb, hgb⟩ : ∃ gb, w5.heap.size = gb := ⟨_, rfl⟩
  obtain ⟨w6, hw6⟩ : ∃ w6, w6 = w5.alloc (.cells #[.slice V5 N5 C5] 91) := ⟨_, rfl⟩
  rw [← hw6]
  try rw [hgb]
  have hB5 : w.heap.size ≤ w5.heap.size := Nat.le_trans hBw G5.out.size
  have g6 : GrewB w.heap.size w5 w6 := by rw [hw6]; exact GrewB.alloc _ _ hB5 _
  have b6 : Bk w6 gb 91 #[.slice V5 N5 C5] := by rw [hw6, ← hgb]; exact bk_new _ _ _
  have o6 : Own w6 w.heap.size 5 (.slice V5 N5 C5) (preF m 0) := by rw [hw6]; exact O5.out.alloc _
  have m6 := (G5.out.trans g6).bk (by decide) B2.out
  have d6 : Below w.heap.size w w6 := HB2.out.trans (G5.out.trans g6).below
  clear m0 m1 m2 m3 mL hw6
  obtain ⟨m0, m1, m2, m3⟩ := cellsM4 m6
  have mL := m6.lt
  have st6 : PkSt w.heap.size gb (preF m 0) V5 N5 C5 w6 w6 := ⟨b6, o6, Below.refl _ _, fun _ _ h => h, by omega⟩
  obtain ⟨g7, hg7⟩ : ∃ g7, w6.heap.size = g7 := ⟨_, rfl⟩
  obtain ⟨w7, hw7⟩ : ∃ w7, w7 = w6.alloc (.cells #[.slice ca cn cc, .slice da dn dc] 22) := ⟨_, rfl⟩
  have a7 : Bk w7 g7 22 #[.slice ca cn cc, .slice da dn dc] := by rw [hw7, ← hg7]; exact bk_new _ _ _
  have s7' := st6.alloc (.cells #[.slice ca cn cc, .slice da dn dc] 22)
  rw [← hw7] at s7'
  have ST7 := Lib.hid (show PkSt w.heap.size gb (preF m 0) V5 N5 C5 w7 w7 from ⟨s7'.b, s7'.o, Below.refl _ _, fun _ _ h => h, s7'.le⟩)
  have D7 := Lib.hid (show Below w.heap.size w w7 by rw [hw7]; exact ext_alloc d6 _)
  have M7 := Lib.hid (show Bk w7 w.heap.size 28 #[.slice ca cn cc, .slice da dn dc, .slice ea en ec, .slice ia jn ic] by rw [hw7]; exact bk_old _ m6)
  have A7 := Lib.hid a7
  have ngb : g7 ≠ gb := by have := b6.lt; omega
  have nmb : w.heap.size ≠ gb := by have := B2.out.lt; have := G5.out.size; omega
  have HW7 := Lib.hid hw7
  clear hw7 a7 s7' st6 m6 b6 o6 g6 d6 G5 O5
  go_upto_region 6 with (fail)
  rw [← HW7.out]
  try rw [hg7]
  clear m0 m1 m2 m3 mL HW7
  go_loopw [46] (fun i wr => ∃ (t : Nat) (V : Option Addr) (N C : Nat), t ≤ 2 ∧ i = .int .i64 t ∧ PkSt w.heap.size gb (preF m t) V N C w7 wr) (fun i _ => 2 - (intOf i).toNat)
  case atStart => exact ⟨0, _, _, _, Nat.zero_le _, rfl, ST7.out⟩
  case round =>
    obtain ⟨t, V, N, C, ht, rfl, hst⟩ := hrel
    obtain rfl | rfl | rfl : t = 0 ∨ t = 1 ∨ t = 2 := by omega
    · rw [show ((0 : Nat) : Int) = 0 from rfl]
      obtain ⟨WR, rfl⟩ : ∃ WR, wr = WR := ⟨_, rfl⟩
      obtain ⟨P0, hP0⟩ : ∃ P0, P0 = preF m 0 := ⟨_, rfl⟩
      obtain ⟨L0, hL0⟩ : ∃ L0, L0 = m.code := ⟨_, rfl⟩
      have hl0 : L0.length = cn := by rw [hL0]; omega
      have hp0 : P0.length ≤ 1000 := by rw [hP0]; unfold preF headL; simp only [List.length_append, fours_len, List.length_cons, List.length_nil]; omega
      rw [← hP0] at hst
      have HC0 := Lib.hid (show Sl w _ cn L0 from hL0 ▸ HCO.out)
      have HNU := Lib.hid (show nums32 L0 from hL0 ▸ HMO.out.n1)
      have ya := hst.kept (by decide) ngb A7.out
      have y := ya.cell 0
      simp only [List.getElem?_toArray, List.getElem?_cons_succ, List.getElem?_cons_zero] at y
      have yL := ya.lt
      have HST := Lib.hid hst
      clear ya hst
      go_wp2
      clear y yL
      go_loopw [9, 52] (fun _ i wr => ∃ (j : Nat) (V : Option Addr) (N C : Nat), j ≤ cn ∧ i = .int .i64 j ∧ PkSt w.heap.size gb (P0 ++ (L0.take j).flatMap four) V N C w7 wr) (fun _ i _ => cn - (intOf i).toNat)
      case atStart => exact ⟨0, _, _, _, Nat.zero_le _, rfl, by simpa using HST.out⟩
      case round =>
        obtain ⟨j, V2, N2, C2, hj, rfl, hst⟩ := hrel
        by_cases hlj : j < cn
        · have o0 : (0 : Int) ≤ j := by omega
          have o1 : (j : Int) < cn := by omega
          obtain ⟨x, hx⟩ : ∃ x, L0[j]? = some x := ⟨_, List.getElem?_eq_getElem (by omega)⟩
          obtain ⟨x0, x1⟩ := HNU.out x (List.mem_of_getElem? hx)
          obtain ⟨ad, hao, hab, e0⟩ := sl_int (HC0.out.below (D7.out.trans hst.below)) hlj hx
          subst hao
          have htk : P0 ++ (L0.take (j + 1)).flatMap four = (P0 ++ (L0.take j).flatMap four) ++ four x := by rw [List.take_add_one, hx, List.flatMap_append, List.append_assoc]; simp
          have hle : (P0 ++ (L0.take j).flatMap four).length ≤ 10000000 := by rw [List.length_append, fours_len, List.length_take]; omega
          have c0 := hst.b.cell 0
          have cL := hst.b.lt
          have cF := fun i => Bk.frozen hst.b i
          have HTK := Lib.hid htk
          have HS2 := Lib.hid hst
          clear hst hx htk
          go_upto_region 12 with (fail)
          obtain ⟨y, hy⟩ : ∃ y, x + 2147483648 = y := ⟨_, rfl⟩
          rw [hy]
          have h4 : four x = [byteN (y / 16777216), byteN (y / 65536), byteN (y / 256), byteN y] := by rw [← hy]; rfl
          rw [h4] at HTK
          have hbr : w.heap.size ≤ wr.heap.size := by have := HS2.out.le; omega
          have hba : w.heap.size ≤ (wr.alloc (.cells #[.int .u8 (y / 16777216 % 256), .int .u8 (y / 65536 % 256), .int .u8 (y / 256 % 256), .int .u8 (y % 256)] 5)).heap.size := by rw [World.size_alloc]; omega
          have HO := Lib.hid (HS2.out.o.alloc (.cells #[.int .u8 (y / 16777216 % 256), .int .u8 (y / 65536 % 256), .int .u8 (y / 256 % 256), .int .u8 (y % 256)] 5))
          have HG := Lib.hid (GrewB.alloc w.heap.size wr hbr (.cells #[.int .u8 (y / 16777216 % 256), .int .u8 (y / 65536 % 256), .int .u8 (y / 256 % 256), .int .u8 (y % 256)] 5))
          clear x0 x1 hy h4 e0 hab
          go_wp2_with (at_builtin; go_loud (refine app_bytes rfl (.tmp 58) (.tmp 70) rfl w.heap.size (.slice V2 N2 C2) (P0 ++ (L0.take j).flatMap four) rfl HO.out (some ⟨wr.heap.size, 0, none⟩) 4 4 [byteN (y / 16777216), byteN (y / 65536), byteN (y / 256), byteN y] rfl (sl_four wr y) hle (by decide) hba ?_; intro V3 N3 C3 w9 ho9 hg9; have hg := HG.out.trans hg9; have hb9 := hg.bk (by decide) HS2.out.b; have c9 := hb9.cell 0; have cL9 := hb9.lt; have cF9 := fun i => Bk.frozen hb9 i; have HP9 := Lib.hid (HS2.out.put hg ho9); clear ho9 hg9 hg hb9))
          go_roundw
          case rel => exact ⟨j + 1, V3, N3, C3, by omega, by go_num, by rw [HTK.out]; exact HP9.out⟩
          case measure => simp [intOf]; omega
        · have o1 : ¬ ((j : Int) < cn) := by omega
          obtain rfl : j = cn := by omega
          rw [List.take_of_length_le (by omega)] at hst
          have HS2 := Lib.hid hst
          clear hst
          go_wp2
          go_roundw
          case rel => exact ⟨0 + 1, V2, N2, C2, by omega, by go_num, by have := HS2.out; rw [hP0, hL0] at this; exact this⟩
          case measure => simp [intOf]; try omega
    · rw [show ((1 : Nat) : Int) = 1 from rfl]
      obtain ⟨WR, rfl⟩ : ∃ WR, wr = WR := ⟨_, rfl⟩
      obtain ⟨P0, hP0⟩ : ∃ P0, P0 = preF m 1 := ⟨_, rfl⟩
      obtain ⟨L0, hL0⟩ : ∃ L0, L0 = m.data := ⟨_, rfl⟩
      have hl0 : L0.length = dn := by rw [hL0]; omega
      have hp0 : P0.length ≤ 1000 := by rw [hP0]; unfold preF headL; simp only [List.length_append, fours_len, List.length_cons, List.length_nil]; omega
      rw [← hP0] at hst
      have HC0 := Lib.hid (show Sl w _ dn L0 from hL0 ▸ HDA.out)
      have HNU := Lib.hid (show nums32 L0 from hL0 ▸ HMO.out.n2)
      have ya := hst.kept (by decide) ngb A7.out
      have y := ya.cell 1
      simp only [List.getElem?_toArray, List.getElem?_cons_succ, List.getElem?_cons_zero] at y
      have yL := ya.lt
      have HST := Lib.hid hst
      clear ya hst
      go_wp2
      clear y yL
      go_loopw [9, 52] (fun _ i wr => ∃ (j : Nat) (V : Option Addr) (N C : Nat), j ≤ dn ∧ i = .int .i64 j ∧ PkSt w.heap.size gb (P0 ++ (L0.take j).flatMap four) V N C w7 wr) (fun _ i _ => dn - (intOf i).toNat)
      case atStart => exact ⟨0, _, _, _, Nat.zero_le _, rfl, by simpa using HST.out⟩
      case round =>
        obtain ⟨j, V2, N2, C2, hj, rfl, hst⟩ := hrel
        by_cases hlj : j < dn
        · have o0 : (0 : Int) ≤ j := by omega
          have o1 : (j : Int) < dn := by omega
          obtain ⟨x, hx⟩ : ∃ x, L0[j]? = some x := ⟨_, List.getElem?_eq_getElem (by omega)⟩
          obtain ⟨x0, x1⟩ := HNU.out x (List.mem_of_getElem? hx)
          obtain ⟨ad, hao, hab, e0⟩ := sl_int (HC0.out.below (D7.out.trans hst.below)) hlj hx
          subst hao
          have htk : P0 ++ (L0.take (j + 1)).flatMap four = (P0 ++ (L0.take j).flatMap four) ++ four x := by rw [List.take_add_one, hx, List.flatMap_append, List.append_assoc]; simp
          have hle : (P0 ++ (L0.take j).flatMap four).length ≤ 10000000 := by rw [List.length_append, fours_len, List.length_take]; omega
          have c0 := hst.b.cell 0
          have cL := hst.b.lt
          have cF := fun i => Bk.frozen hst.b i
          have HTK := Lib.hid htk
          have HS2 := Lib.hid hst
          clear hst hx htk
          go_upto_region 12 with (fail)
          obtain ⟨y, hy⟩ : ∃ y, x + 2147483648 = y := ⟨_, rfl⟩
          rw [hy]
          have h4 : four x = [byteN (y / 16777216), byteN (y / 65536), byteN (y / 256), byteN y] := by rw [← hy]; rfl
          rw [h4] at HTK
          have hbr : w.heap.size ≤ wr.heap.size := by have := HS2.out.le; omega
          have hba : w.heap.size ≤ (wr.alloc (.cells #[.int .u8 (y / 16777216 % 256), .int .u8 (y / 65536 % 256), .int .u8 (y / 256 % 256), .int .u8 (y % 256)] 5)).heap.size := by rw [World.size_alloc]; omega
          have HO := Lib.hid (HS2.out.o.alloc (.cells #[.int .u8 (y / 16777216 % 256), .int .u8 (y / 65536 % 256), .int .u8 (y / 256 % 256), .int .u8 (y % 256)] 5))
          have HG := Lib.hid (GrewB.alloc w.heap.size wr hbr (.cells #[.int .u8 (y / 16777216 % 256), .int .u8 (y / 65536 % 256), .int .u8 (y / 256 % 256), .int .u8 (y % 256)] 5))
          clear x0 x1 hy h4 e0 hab
          go_wp2_with (at_builtin; go_loud (refine app_bytes rfl (.tmp 58) (.tmp 70) rfl w.heap.size (.slice V2 N2 C2) (P0 ++ (L0.take j).flatMap four) rfl HO.out (some ⟨wr.heap.size, 0, none⟩) 4 4 [byteN (y / 16777216), byteN (y / 65536), byteN (y / 256), byteN y] rfl (sl_four wr y) hle (by decide) hba ?_; intro V3 N3 C3 w9 ho9 hg9; have hg := HG.out.trans hg9; have hb9 := hg.bk (by decide) HS2.out.b; have c9 := hb9.cell 0; have cL9 := hb9.lt; have cF9 := fun i => Bk.frozen hb9 i; have HP9 := Lib.hid (HS2.out.put hg ho9); clear ho9 hg9 hg hb9))
          go_roundw
          case rel => exact ⟨j + 1, V3, N3, C3, by omega, by go_num, by rw [HTK.out]; exact HP9.out⟩
          case measure => simp [intOf]; omega
        · have o1 : ¬ ((j : Int) < dn) := by omega
          obtain rfl : j = dn := by omega
          rw [List.take_of_length_le (by omega)] at hst
          have HS2 := Lib.hid hst
          clear hst
          go_wp2
          go_roundw
          case rel => exact ⟨1 + 1, V2, N2, C2, by omega, by go_num, by have := HS2.out; rw [hP0, hL0] at this; exact this⟩
          case measure => simp [intOf]; try omega
    · rw [show ((2 : Nat) : Int) = 2 from rfl]
      obtain ⟨WR, rfl⟩ : ∃ WR, wr = WR := ⟨_, rfl⟩
      obtain ⟨P2, hP2⟩ : ∃ P2, P2 = preF m 2 := ⟨_, rfl⟩
      have hp2 : P2.length ≤ 1000 := by rw [hP2]; unfold preF headL; simp only [List.length_append, fours_len, List.length_cons, List.length_nil]; omega
      rw [← hP2] at hst
      have HST := Lib.hid hst
      obtain ⟨m0, m1, m2, m3⟩ := cellsM4 (hst.kept (by decide) nmb M7.out)
      have mL := (hst.kept (by decide) nmb M7.out).lt
      clear hst
      go_wp2
      clear m0 m1 m2 m3 mL
      go_loopw [78] (fun i wr => ∃ (j : Nat) (V : Option Addr) (N C : Nat), j ≤ en ∧ i = .int .i64 j ∧ PkSt w.heap.size gb (P2 ++ (m.ex.take j).flatMap nameL) V N C w7 wr) (fun i _ => en - (intOf i).toNat)
      case atStart => exact ⟨0, _, _, _, Nat.zero_le _, rfl, by simpa using HST.out⟩
      case round =>
        obtain ⟨j, V2, N2, C2, hj, rfl, hst⟩ := hrel
        by_cases hlj : j < en
        · have o0 : (0 : Int) ≤ j := by omega
          have o1 : (j : Int) < en := by omega
          obtain ⟨x, hx⟩ : ∃ x, m.ex[j]? = some x := ⟨_, List.getElem?_eq_getElem (by omega)⟩
          have hxn := nameB_le (HMO.out.e1 x (List.mem_of_getElem? hx)).1
          obtain ⟨ad, hao, hab, e0, e1⟩ := sl_NamV (HEX.out.below (D7.out.trans hst.below)) hlj hx
          subst hao
          have htk : P2 ++ (m.ex.take (j + 1)).flatMap nameL = (P2 ++ (m.ex.take j).flatMap nameL) ++ nameL x := by rw [List.take_add_one, hx, List.flatMap_append, List.append_assoc]; simp
          have hle : (P2 ++ (m.ex.take j).flatMap nameL).length ≤ 1000000 := by
            have := names_le (l := m.ex.take j) fun y hy => nameB_le (HMO.out.e1 y (List.mem_of_mem_take hy)).1
            rw [List.length_take] at this
            rw [List.length_append]
            omega
          have s8 := hst.alloc (.cells #[.string x.name, .int .i64 x.at_] 83)
          have fn := fname_any x w.heap.size gb _ _ _ s8.le s8.b s8.o hle (by omega)
          have HTK := Lib.hid htk
          have S8 := Lib.hid s8
          have FN := Lib.hid fn
          clear hst hx htk s8 fn
          go_wp2_with (go_at_call 70; ((with_reducible refine FN.out.mono ?_); rintro e w9 ⟨rfl, V3, N3, C3, hb9, ho9, hw9, hk9⟩; have HP9 := Lib.hid (S8.out.call hb9 ho9 hw9 hk9); clear hb9 ho9 hw9 hk9))
          go_roundw
          case rel => exact ⟨j + 1, V3, N3, C3, by omega, by go_num, by rw [HTK.out]; exact HP9.out⟩
          case measure => simp [intOf]; omega
        · have o1 : ¬ ((j : Int) < en) := by omega
          obtain rfl : j = en := by omega
          rw [List.take_of_length_le (by omega)] at hst
          obtain ⟨WR2, rfl⟩ : ∃ WR, wr = WR := ⟨_, rfl⟩
          obtain ⟨P3, hP3⟩ : ∃ P3, P3 = P2 ++ m.ex.flatMap nameL := ⟨_, rfl⟩
          have hp3 : P3.length ≤ 2000 := by
            have := names_le (l := m.ex) fun y hy => nameB_le (HMO.out.e1 y hy).1
            rw [hP3, List.length_append]
            omega
          rw [← hP3] at hst
          have HST := Lib.hid hst
          obtain ⟨m0, m1, m2, m3⟩ := cellsM4 (hst.kept (by decide) nmb M7.out)
          have mL := (hst.kept (by decide) nmb M7.out).lt
          clear hst
          go_wp2
          clear m0 m1 m2 m3 mL
          go_loopw [92] (fun i wr => ∃ (j : Nat) (V : Option Addr) (N C : Nat), j ≤ jn ∧ i = .int .i64 j ∧ PkSt w.heap.size gb (P3 ++ (m.im.take j).flatMap nameL) V N C w7 wr) (fun i _ => jn - (intOf i).toNat)
          case atStart => exact ⟨0, _, _, _, Nat.zero_le _, rfl, by simpa using HST.out⟩
          case round =>
            obtain ⟨j, V2, N2, C2, hj, rfl, hst⟩ := hrel
            by_cases hlj : j < jn
            · have o0 : (0 : Int) ≤ j := by omega
              have o1 : (j : Int) < jn := by omega
              obtain ⟨x, hx⟩ : ∃ x, m.im[j]? = some x := ⟨_, List.getElem?_eq_getElem (by omega)⟩
              have hxn := nameB_le (HMO.out.i1 x (List.mem_of_getElem? hx)).1
              obtain ⟨ad, hao, hab, e0, e1⟩ := sl_NamV (HIM.out.below (D7.out.trans hst.below)) hlj hx
              subst hao
              have htk : P3 ++ (m.im.take (j + 1)).flatMap nameL = (P3 ++ (m.im.take j).flatMap nameL) ++ nameL x := by rw [List.take_add_one, hx, List.flatMap_append, List.append_assoc]; simp
              have hle : (P3 ++ (m.im.take j).flatMap nameL).length ≤ 1000000 := by
                have := names_le (l := m.im.take j) fun y hy => nameB_le (HMO.out.i1 y (List.mem_of_mem_take hy)).1
                rw [List.length_take] at this
                rw [List.length_append]
                omega
              have s8 := hst.alloc (.cells #[.string x.name, .int .i64 x.at_] 118)
              have fn := fname_any x w.heap.size gb _ _ _ s8.le s8.b s8.o hle (by omega)
              have HTK := Lib.hid htk
              have S8 := Lib.hid s8
              have FN := Lib.hid fn
              clear hst hx htk s8 fn
              go_wp2_with (go_at_call 70; ((with_reducible refine FN.out.mono ?_); rintro e w9 ⟨rfl, V3, N3, C3, hb9, ho9, hw9, hk9⟩; have HP9 := Lib.hid (S8.out.call hb9 ho9 hw9 hk9); clear hb9 ho9 hw9 hk9))
              go_roundw
              case rel => exact ⟨j + 1, V3, N3, C3, by omega, by go_num, by rw [HTK.out]; exact HP9.out⟩
              case measure => simp [intOf]; omega
            · have o1 : ¬ ((j : Int) < jn) := by omega
              obtain rfl : j = jn := by omega
              rw [List.take_of_length_le (by omega)] at hst
              have hbl : P3 ++ m.im.flatMap nameL = bodyL m := by
                rw [hP3, hP2]; unfold preF bodyL
                simp only [List.append_assoc]
              have hln : (bodyL m).length ≤ 3000 := by
                have := names_le (l := m.im) fun y hy => nameB_le (HMO.out.i1 y hy).1
                rw [← hbl, List.length_append]
                omega
              rw [hbl] at hst
              have hcv := rowB_string (P := Tryz.prog) (w := wr.drew) hst.o.drew (by unfold bodyL headL; simp) Tryz.underlying91 Tryz.underlying5 Tryz.underlying9
              have hsz : (⟨(bodyL m).toArray⟩ : ByteArray).size = (bodyL m).length := by simp [ByteArray.size]
              have sm := fsum_any ⟨(bodyL m).toArray⟩ wr.drew (by rw [hsz]; omega)
              have c0 := hst.b.cell 0
              have cL := hst.b.lt
              simp only [List.getElem?_toArray, List.getElem?_cons_zero] at c0
              have HST := Lib.hid hst
              have SM := Lib.hid sm
              have hB : w.heap.size ≤ wr.heap.size := by have := hst.le; omega
              obtain ⟨B0, hB0⟩ : ∃ B0, B0 = bodyL m := ⟨_, rfl⟩
              have hpk : packM m = B0 ++ sumL B0 := by rw [hB0]; rfl
              rw [← hB0] at hcv HST SM hln
              have HPK := Lib.hid hpk
              clear hst hsz hbl sm hpk hB0
              go_upto_region 26 with (fail)
              go_region_law (first
                | (go_simp; go_at_call 71; ((with_reducible refine SM.out.mono ?_); rintro e w10 ⟨ao, c, rfl, hos, hb10⟩; have hbx : Below wr.heap.size wr w10 := ext_trans (ext_drew (Below.refl _ _)) hb10; have c10 : w10.cell? ⟨gb, 0, none⟩ = some (.slice V2 N2 C2) := (bk_keep hbx HST.out.b).cell 0; have cL10 : gb < w10.heap.size := (bk_keep hbx HST.out.b).lt; have h10 : Below w.heap.size w w10 := ((D7.out.trans HST.out.below).trans (Below.mono hbx hB)); have hB10 : w.heap.size ≤ w10.heap.size := Nat.le_trans hB hbx.size; obtain ⟨V11, N11, C11, w11, hr11, ho11, hg11⟩ := app_run w.heap.size (.slice V2 N2 C2) B0 (Own.below HST.out.o hbx) ao 2 c (sumL B0) (own_sl2 hos) (by omega) (by decide) hB10; have hcv2 := rowB_string (P := Tryz.prog) ho11 (by unfold sumL; simp) Tryz.underlying91 Tryz.underlying5 Tryz.underlying9; have H11 := Lib.hid (h10.trans hg11.below); have HR11 := Lib.hid hr11; clear hos hb10 hbx ho11 hg11 h10 hr11))
                | (refine step_append_run2 rfl _ _ 91 91 rfl (.slice V2 N2 C2) (.slice ao 2 c) (by simp [Act.eval, Act.put]) (by simp [Act.eval, Act.put]) HR11.out ?_))
              all_goals (
                go_wp2
                refine bodyPost_ret (v := .tuple #[.string ⟨(B0 ++ sumL B0).toArray⟩, .int .i64 0]) (by simp [results, Tryz.results35, go_sem, *]; try rfl) rfl ⟨by rw [HPK.out], H11.out⟩)
set_option maxHeartbeats 1000000 in
set_option maxRecDepth 100000 in
theorem fpack_bad (r : ModR) (m : ModV) (w : World) (h : r.has w m) (hno : ¬ ModOk isNameB m) :
    Calls Tryz.prog 35 #[.agg #[.slice r.code.a r.code.n r.code.c, .slice r.data.a r.data.n r.data.c, .slice r.ex.a r.ex.n r.ex.c, .slice r.im.a r.im.n r.im.c]] w fun e w' => ∃ er, er ≠ 0 ∧ e = .returned (.tuple #[.string ⟨#[]⟩, .int .i64 er]) ∧ Below w.heap.size w w' := by
  obtain ⟨⟨ca, cn, cc⟩, ⟨da, dn, dc⟩, ⟨ea, en, ec⟩, ⟨ia, jn, ic⟩⟩ := r
  obtain ⟨w1, hw1⟩ : ∃ w1, w1 = w.alloc (.cells #[.slice ca cn cc, .slice da dn dc, .slice ea en ec, .slice ia jn ic] 28) := ⟨_, rfl⟩
  have h1w : Below w.heap.size w w1 := by rw [hw1]; exact ext_alloc (Below.refl _ _) _
  have b1 : Bk w1 w.heap.size 28 #[.slice ca cn cc, .slice da dn dc, .slice ea en ec, .slice ia jn ic] := by rw [hw1]; exact bk_new _ _ _
  have ck := mod_check _ m w1 (h.below h1w)
  simp only at ck
  obtain ⟨hc, hd, he, hi, ⟨hlc, hld, hle, hli⟩, wc, wd, we, wi⟩ := h
  simp only at *
  have lc := hc.len
  have ld := hd.len
  have le := he.len
  have li := hi.len
  have HW1 := Lib.hid hw1
  have H1W := Lib.hid h1w
  have B1 := Lib.hid b1
  have CK := Lib.hid ck
  have HCO := Lib.hid hc
  have HDA := Lib.hid hd
  have HEX := Lib.hid he
  have HIM := Lib.hid hi
  obtain ⟨c0, c1, c2, c3⟩ := cellsM4 b1
  have bL := b1.lt
  clear hw1 h1w b1 ck hc hd he hi wc wd we wi
  go_enter Tryz.func35, Tryz.ntmps35
  go_upto_region 1 with (fail)
  rw [← HW1.out]
  go_upto_region 2 with (go_at_call 34; ((with_reducible refine CK.out.mono ?_); rintro e w2 ⟨er, rfl, her, hb2⟩; have HB2 := Lib.hid (ext_trans H1W.out hb2); have HER := Lib.hid her; clear hb2 her))
  have h0 : er ≠ 0 := fun h => hno (HER.out.1 h)
  have q1 : (er != 0) = true := by simpa using h0
  have q2 : (er == 0) = false := by simpa using h0
  go_wp2
  refine bodyPost_ret (v := .tuple #[.string ⟨#[]⟩, .int .i64 er]) (by simp [results, Tryz.results35, go_sem, *]; try rfl) rfl ⟨er, h0, rfl, HB2.out⟩
end Go.Proofs.YtpjhjefjbkjhkaaGreatDoor
