import Derived.Test.YtpjhjefjbkjhkaaGreatDoorPk26
set_option maxHeartbeats 40000000
set_option maxRecDepth 100000
set_option linter.unusedVariables false
set_option linter.unusedSimpArgs false
namespace Go.Proofs.YtpjhjefjbkjhkaaGreatDoor
open Go Go.RowKit
def hasK (op : Int) (k : Nat) : Bool := if k = 0 then hasA op else if k = 1 then hasB op else hasC op
def setK (i : InstV) (k : Nat) (v : Int) : InstV := if k = 0 then ⟨i.op, v, i.b, i.c⟩ else if k = 1 then ⟨i.op, i.a, v, i.c⟩ else ⟨i.op, i.a, i.b, v⟩
def stP (op : Int) (L : List (List UInt8)) : Nat → List (List UInt8) × InstV
 | 0 => (L, ⟨op, 0, 0, 0⟩)
 | k + 1 => if hasK op k = true ∧ 1 < (stP op L k).1.length then ((stP op L k).1.tail, setK (stP op L k).2 k (atoiV (Lib.trimPrefix ((stP op L k).1.tail.headD []) [114]))) else stP op L k
def ics (i : InstV) : Array Value := #[.int .i64 i.op, .int .i64 i.a, .int .i64 i.b, .int .i64 i.c]
theorem cells6 {w : World} {g : Nat} {T : TypeId} {v0 v1 v2 v3 v4 v5 : Value} (h : Bk w g T #[v0, v1, v2, v3, v4, v5]) :
  w.cell? ⟨g, 0, none⟩ = some v0 ∧ w.cell? ⟨g, 1, none⟩ = some v1 ∧ w.cell? ⟨g, 2, none⟩ = some v2 ∧ w.cell? ⟨g, 3, none⟩ = some v3 ∧ w.cell? ⟨g, 4, none⟩ = some v4 ∧ w.cell? ⟨g, 5, none⟩ = some v5 := ⟨h.cell 0, h.cell 1, h.cell 2, h.cell 3, h.cell 4, h.cell 5⟩
theorem cells2 {w : World} {g : Nat} {T : TypeId} {v0 v1 : Value} (h : Bk w g T #[v0, v1]) : w.cell? ⟨g, 0, none⟩ = some v0 ∧ w.cell? ⟨g, 1, none⟩ = some v1 := ⟨h.cell 0, h.cell 1⟩
theorem stP_no {op : Int} {L : List (List UInt8)} {k : Nat} (h : ¬ (hasK op k = true ∧ 1 < (stP op L k).1.length)) : stP op L (k + 1) = stP op L k := by
 show (if _ then _ else _) = _
 rw [if_neg h]
theorem stP_go {op : Int} {L : List (List UInt8)} {k : Nat} (h : hasK op k = true ∧ 1 < (stP op L k).1.length) : stP op L (k + 1) = ((stP op L k).1.tail, setK (stP op L k).2 k (atoiV (Lib.trimPrefix ((stP op L k).1.tail.headD []) [114]))) := by
 show (if _ then _ else _) = _
 rw [if_pos h]
theorem stP_step {op : Int} {L l : List (List UInt8)} {i : InstV} {k : Nat} (h : stP op L k = (l, i)) (hz : setK i k 0 = i) : stP op L (k + 1) = ((stepP (hasK op k) l).1, setK i k (stepP (hasK op k) l).2) := by
 unfold stepP
 by_cases hc : hasK op k = true ∧ 1 < l.length
 ·rw [stP_go (by rw [h]; exact hc), h, if_pos hc]
 ·rw [stP_no (by rw [h]; exact hc), h, if_neg hc, hz]
theorem stP_parse (s : List UInt8) : parseR s = (stP (opLook ((splitC 32 s).headD [])) (splitC 32 s) 3).2 := by
 unfold parseR
 simp only
 generalize splitC 32 s = L
 generalize opLook (L.headD []) = op
 have h0 : stP op L 0 = (L, ⟨op, 0, 0, 0⟩) := rfl
 have h1 := stP_step h0 rfl
 have h2 := stP_step h1 rfl
 have h3 := stP_step h2 rfl
 rw [h3]
 rfl
theorem splitC_length (c : UInt8) : ∀ l : List UInt8, (splitC c l).length ≤ l.length + 1
 | [] => by simp [splitC]
 | b :: l => by
  have := splitC_length c l
  unfold splitC
  split
  ·simp; omega
  ·split
   ·simp
   ·next h => rw [h] at this; simp at this ⊢; omega
theorem trim_any (y z : ByteArray) (hz : z.data.toList = Lib.trimPrefix y.data.toList [114]) (w : World) : Calls Tryz.prog 174 #[.string y, .string ⟨#[114]⟩] w fun e w' => e = .returned (.string z) ∧ w' = w := by
 refine (Tryz.strings_TrimPrefix y ⟨#[114]⟩ w).mono ?_
 rintro e w' ⟨rfl, rfl⟩
 refine ⟨?_, rfl⟩
 have : (⟨(Lib.trimPrefix y.data.toList (⟨#[114]⟩ : ByteArray).data.toList).toArray⟩ : ByteArray) = z := ByteArray.ext (by rw [show (⟨#[114]⟩ : ByteArray).data.toList = [114] from rfl, ← hz])
 rw [this]
theorem trimPrefix_len (a b : List UInt8) : (Lib.trimPrefix a b).length ≤ a.length := by
 unfold Lib.trimPrefix
 split <;> simp
theorem splitC_len (c : UInt8) : ∀ (l : List UInt8), ∀ x ∈ splitC c l, x.length ≤ l.length
 | [], x, hx => by simp [splitC] at hx; simp [hx]
 | b :: l, x, hx => by
  unfold splitC at hx
  split at hx
  ·rcases List.mem_cons.1 hx with h | h
   ·simp [h]
   ·have := splitC_len c l x h; simp; omega
  ·split at hx
   ·next h => exact absurd h (splitC_ne c l)
   ·next y ys h =>
    rcases List.mem_cons.1 hx with e | e
    ·have := splitC_len c l y (by rw [h]; simp); simp [e]; omega
    ·have := splitC_len c l x (by rw [h]; exact List.mem_cons_of_mem _ e); simp; omega
theorem parse_any (s : ByteArray) (w : World) (h : PEnv w) (hs : s.size ≤ 67108864) : Calls Tryz.prog 133 #[.string s] w fun e w' => e = .returned (.tuple #[(parseF s.data.toList).1.val, .int .i64 (parseF s.data.toList).2]) ∧ Below w.heap.size w w' := by
 obtain ⟨w1, hw1⟩ : ∃ w1, w1 = w.alloc (.cells #[.int .i64 0, .int .i64 0, .int .i64 0, .int .i64 0] 49) := ⟨_, rfl⟩
 have z1 : Bk w1 w.heap.size 49 #[.int .i64 0, .int .i64 0, .int .i64 0, .int .i64 0] := by rw [hw1]; exact bk_new _ _ _
 have b1 : Below w.heap.size w w1 := by rw [hw1]; exact ext_alloc (Below.refl _ _) _
 have sp := split_any s 32 w1 (h.below b1) hs
 have hsp := stP_parse s.data.toList
 have hlen := splitC_len 32 s.data.toList
 have hne := splitC_ne 32 s.data.toList
 have hn1 := splitC_length 32 s.data.toList
 obtain ⟨L, hL⟩ : ∃ L, splitC 32 s.data.toList = L := ⟨_, rfl⟩
 rw [hL] at sp hsp hlen hne hn1
 obtain ⟨n, hn⟩ : ∃ n, L.length = n := ⟨_, rfl⟩
 obtain ⟨x0, L', rfl⟩ : ∃ x0 L', L = x0 :: L' := by cases L with | nil => exact absurd rfl hne | cons a b => exact ⟨a, b, rfl⟩
 rw [hn] at sp
 obtain ⟨m0, rfl⟩ : ∃ m0, n = m0 + 1 := ⟨n - 1, by rw [← hn]; simp⟩
 rw [hn] at hn1
 have hsz : s.data.toList.length = s.size := rfl
 simp only [List.headD_cons] at hsp
 obtain ⟨op, hop⟩ : ∃ op, opLook x0 = op := ⟨_, rfl⟩
 rw [hop] at hsp
 generalize hLL : x0 :: L' = L at *
 have hx0 : L[0]? = some x0 := by rw [← hLL]; rfl
 obtain ⟨gs, hgs⟩ : ∃ gs, w1.heap.size = gs := ⟨_, rfl⟩
 obtain ⟨g2, hg2⟩ : ∃ g2, w.heap.size = g2 := ⟨_, rfl⟩
 have hg12 : g2 < gs := by rw [← hgs, ← hg2]; exact z1.lt
 rw [hgs] at sp
 have Z1 := Lib.hid z1
 have HW1 := Lib.hid hw1
 have SP := Lib.hid sp
 have B1 := Lib.hid b1
 have HE := Lib.hid h
 clear z1 hw1 sp b1 h
 go_enter Tryz.func133, Tryz.ntmps133
 go_upto_region 1 with (fail)
 rw [← HW1.out]
 go_upto_region 2 with (go_at_call 87; ((with_reducible refine SP.out.mono ?_); rintro e w2 ⟨rfl, hc2, hb2⟩; have HC2 := Lib.hid hc2; have HB2 := Lib.hid (show Below w1.heap.size w1 w2 by rw [hgs]; exact hb2); clear hc2 hb2))
 have k2 := HC2.out 0 x0 hx0
 generalize hsx : (⟨x0.toArray⟩ : ByteArray) = sx at k2
 have hb2w : Below w.heap.size w w2 := ext_trans B1.out HB2.out
 have of := opofw_any sx w2 (HE.out.below hb2w).asc
 rw [show sx.data.toList = x0 by rw [← hsx], hop] at of
 have OF := Lib.hid of
 have HB2W := Lib.hid hb2w
 clear of hb2w
 go_upto_region 3 with (go_at_call 173; ((with_reducible refine OF.out.mono ?_); rintro e w3 ⟨rfl, hb3⟩; have HB3 := Lib.hid hb3; clear hb3))
 obtain ⟨g5, hg5⟩ : ∃ g5, w3.heap.size = g5 := ⟨_, rfl⟩
 obtain ⟨w4, hw4⟩ : ∃ w4, w4 = w3.alloc (.cells #[.int .i64 op, .int .i64 0, .int .i64 0, .int .i64 0] 49) := ⟨_, rfl⟩
 rw [← hw4, hg5]
 have i4 : Bk w4 g5 49 #[.int .i64 op, .int .i64 0, .int .i64 0, .int .i64 0] := by rw [hw4, ← hg5]; exact bk_new _ _ _
 have b34 : Below w3.heap.size w3 w4 := by rw [hw4]; exact ext_alloc (Below.refl _ _) _
 have b3 : Below w.heap.size w w3 := ext_trans HB2W.out HB3.out
 have b4 : Below w.heap.size w w4 := ext_trans b3 b34
 have hg25 : gs < g5 := by have h1 := World.block_lt_of_cell? w2 _ k2; have h2 := HB3.out.size; rw [← hg5]; simp only at h1; omega
 -- what lies ahead of g5 stays
 have pc : ∀ x : Later w3, ∀ k y, L[k]? = some y → x.val.cell? ⟨gs, k, none⟩ = some (.string ⟨y.toArray⟩) := fun x k y hy => by
  have h1 := HC2.out k y hy
  exact (x.ok.cell (by have := World.block_lt_of_cell? w2 _ h1; have h2 := HB3.out.size; simp only at this ⊢; omega)).trans ((HB3.out.cell (World.block_lt_of_cell? w2 _ h1)).trans h1)
 have z3 : ∀ x : Later w3, Bk x.val g2 49 #[.int .i64 0, .int .i64 0, .int .i64 0, .int .i64 0] := fun x => by rw [← hg2]; exact bk_keep x.ok (bk_keep HB3.out (bk_keep HB2.out Z1.out))
 have ev : ∀ x : Later w3, PEnv x.val := fun x => HE.out.below (ext_trans b3 x.ok)
 have sh := shape_any op w4 (ev ⟨w4, b34⟩).asc
 obtain ⟨wd, hwd⟩ : ∃ wd, (if opB op then wordL op.toNat else []) = wd := ⟨_, rfl⟩
 obtain ⟨cC, hcC⟩ : ∃ cC, (if opB op then shC op else 0) = cC := ⟨_, rfl⟩
 have hcc : (cC != 0) = hasC op := by rw [← hcC]; unfold hasC; cases opB op <;> simp
 have hcd : decide (cC = 0) = !hasC op := by rw [← hcc]; by_cases h : cC = 0 <;> simp [h]
 rw [hwd] at sh
 unfold ShPost at sh
 rw [hcC, show (opB op && shA op) = hasA op from rfl, show (opB op && shB op) = hasB op from rfl] at sh
 obtain ⟨opk, hopk⟩ : ∃ opk, opB op = opk := ⟨_, rfl⟩
 rw [hopk] at sh
 obtain ⟨sw, hsw⟩ : ∃ sw : ByteArray, (⟨wd.toArray⟩ : ByteArray) = sw := ⟨_, rfl⟩
 rw [hsw] at sh
 clear hwd hcC hsw hopk wd
 have SH := Lib.hid sh
 have I4 := Lib.hid i4
 have HW4 := Lib.hid hw4
 have B34 := Lib.hid b34
 have B3 := Lib.hid b3
 obtain ⟨i40, i41, i42, i43⟩ := cells4 i4
 have i4L := i4.lt
 clear sh i4 hw4 b34 b3 b4 k2 hsx SP OF
 go_upto_region 4 with (go_at_call 90; ((with_reducible refine SH.out.mono ?_); rintro e w5 ⟨rfl, hb5⟩; have HB5 := Lib.hid hb5; clear hb5))
 obtain ⟨g6, hg6⟩ : ∃ g6, w5.heap.size = g6 := ⟨_, rfl⟩
 obtain ⟨w6, hw6⟩ : ∃ w6, w6 = w5.alloc (.cells #[.string sw, .bool (hasA op), .bool (hasB op), .int .u8 cC] 183) := ⟨_, rfl⟩
 rw [← hw6, hg6]
 have s6 : Bk w6 g6 183 #[.string sw, .bool (hasA op), .bool (hasB op), .int .u8 cC] := by rw [hw6, ← hg6]; exact bk_new _ _ _
 have b56 : Below w5.heap.size w5 w6 := by rw [hw6]; exact ext_alloc (Below.refl _ _) _
 have b46 : Below w4.heap.size w4 w6 := ext_trans HB5.out b56
 have b36 : Below w3.heap.size w3 w6 := ext_trans B34.out b46
 have I6 := Lib.hid (bk_keep b46 I4.out)
 obtain ⟨s60, s61, s62, s63⟩ := cells4 s6
 have s6L := s6.lt
 have i6L := I6.out.lt
 have B36 := Lib.hid b36
 have g6z : w6.heap.size = g6 + 1 := by rw [hw6, ← hg6, World.size_alloc]
 clear i40 i41 i42 i43 i4L b56 b46 b36 hw6 SH
 go_upto_region 5 with (fail)
 obtain ⟨w7, hw7⟩ : ∃ w7, w7 = w6.alloc (.cells #[.pointer (some ⟨g5, 1, none⟩), .bool (hasA op), .pointer (some ⟨g5, 2, none⟩), .bool (hasB op), .pointer (some ⟨g5, 3, none⟩), .bool (hasC op)] 261) := ⟨_, rfl⟩
 rw [← hw7]
 have l7 : Bk w7 (g6 + 1) 261 #[.pointer (some ⟨g5, 1, none⟩), .bool (hasA op), .pointer (some ⟨g5, 2, none⟩), .bool (hasB op), .pointer (some ⟨g5, 3, none⟩), .bool (hasC op)] := by rw [hw7, ← g6z]; exact bk_new _ _ _
 have b67 : Below w6.heap.size w6 w7 := by rw [hw7]; exact ext_alloc (Below.refl _ _) _
 have L7 := Lib.hid l7
 have I7 := Lib.hid (bk_keep b67 I6.out)
 have B7 := Lib.hid (ext_trans B36.out b67)
 have hne56 : g5 ≠ g6 + 1 := by omega
 clear l7 b67 hw7 s60 s61 s62 s63 s6L i6L g6z s6 I6 B36
 have LEN := Lib.hid hlen
 have HN := Lib.hid hn
 clear hlen hn
 go_loopw [4, 40] (fun l i wr => ∃ k j m : Nat, k ≤ 3 ∧ j + (m + 1) = m0 + 1 ∧ i = .int .i64 k ∧ l = .slice (some ⟨gs, j, none⟩) (m + 1) (m + 1) ∧ (stP op L k).1 = L.drop j ∧ Bk wr g5 49 (ics (stP op L k).2) ∧ Bk wr (g6 + 1) 261 #[.pointer (some ⟨g5, 1, none⟩), .bool (hasA op), .pointer (some ⟨g5, 2, none⟩), .bool (hasB op), .pointer (some ⟨g5, 3, none⟩), .bool (hasC op)] ∧ Below w3.heap.size w3 wr) (fun _ i _ => 3 - (intOf i).toNat)
 case atStart => exact ⟨0, 0, m0, by omega, by omega, rfl, rfl, rfl, I7.out, L7.out, B7.out⟩
 case round =>
  obtain ⟨k, j, m, hk, hjm, rfl, rfl, hst, hi, hl, hb⟩ := hrel
  have HST := Lib.hid hst
  have HI := Lib.hid hi
  have HL := Lib.hid hl
  have HB := Lib.hid hb
  clear hst hi hl hb I7 L7 B7
  obtain ⟨l0, l1, l2, l3, l4, l5⟩ := cells6 HL.out
  have lL := HL.out.lt
  rcases k with _ | _ | _ | k
  ·
   rcases (by cases hasA op <;> simp : hasA op = false ∨ hasA op = true) with hh | hh
   ·have hno := stP_no (op := op) (L := L) (k := 0) (by rw [show hasK op 0 = hasA op from rfl, hh]; simp)
    have HNO := Lib.hid hno
    clear hno
    rw [hh] at l1
    go_wp2
    go_roundw
    case rel => exact ⟨1, j, m, by omega, hjm, by first | rfl | go_num, rfl, by rw [HNO.out]; exact HST.out, by rw [HNO.out]; exact bk_old _ HI.out, bk_old _ HL.out, ext_alloc HB.out _⟩
    case measure => simp [intOf]
   ·rw [hh] at l1
    rcases m with _ | m
    ·have hno := stP_no (op := op) (L := L) (k := 0) (by rw [HST.out, List.length_drop, HN.out]; omega)
     have HNO := Lib.hid hno
     clear hno
     go_wp2
     go_roundw
     case rel => exact ⟨1, j, 0, by omega, hjm, by first | rfl | go_num, rfl, by rw [HNO.out]; exact HST.out, by rw [HNO.out]; exact bk_old _ HI.out, bk_old _ HL.out, ext_alloc HB.out _⟩
     case measure => simp [intOf]
    ·have q1 : (1 : Int) < (m : Int) + 1 + 1 := by omega
     have hgo := stP_go (op := op) (L := L) (k := 0) ⟨hh, by rw [HST.out, List.length_drop, HN.out]; omega⟩
     obtain ⟨y, hy⟩ : ∃ y, L[j + 1]? = some y := ⟨_, List.getElem?_eq_getElem (by rw [HN.out]; omega)⟩
     have hyl := LEN.out y (List.mem_of_getElem? hy)
     have htl : (L.drop j).tail = L.drop (j + 1) := by rw [List.tail_drop]
     have hhd : (L.drop (j + 1)).headD [] = y := by rw [List.headD_eq_head?_getD, List.head?_drop, hy]; rfl
     rw [HST.out, htl, hhd] at hgo
     obtain ⟨v, hv⟩ : ∃ v, atoiV (Lib.trimPrefix y [114]) = v := ⟨_, rfl⟩
     rw [hv] at hgo
     obtain ⟨ys, hys⟩ : ∃ ys : ByteArray, (⟨y.toArray⟩ : ByteArray) = ys := ⟨_, rfl⟩
     obtain ⟨zs, hzs⟩ : ∃ zs : ByteArray, (⟨(Lib.trimPrefix y [114]).toArray⟩ : ByteArray) = zs := ⟨_, rfl⟩
     have hyd : ys.data.toList = y := by rw [← hys]
     have hzd : zs.data.toList = Lib.trimPrefix y [114] := by rw [← hzs]
     have hzl : zs.size ≤ 67108864 := by have h1 := trimPrefix_len y [114]; have h2 : zs.size = zs.data.toList.length := rfl; rw [h2, hzd]; omega
     have TP := Lib.hid (trim_any ys zs (by rw [hyd, hzd]))
     obtain ⟨wq, hwq⟩ : ∃ wq, wq = wr.alloc (.cells #[.pointer (some ⟨g5, 1, none⟩), .bool true] 261) := ⟨_, rfl⟩
     have tq : Bk wq wr.heap.size 261 #[.pointer (some ⟨g5, 1, none⟩), .bool true] := by rw [hwq]; exact bk_new _ _ _
     have bq : Below wr.heap.size wr wq := by rw [hwq]; exact ext_alloc (Below.refl _ _) _
     obtain ⟨gt, hgt⟩ : ∃ gt, wr.heap.size = gt := ⟨_, rfl⟩
     rw [hgt] at tq
     have b3q := ext_trans HB.out bq
     have at_ : ∀ W : World, Below wq.heap.size wq W → Calls Tryz.prog 153 #[.string zs] W fun e w' => ∃ ev, e = .returned (.tuple #[.int .i64 v, ev]) ∧ Below W.heap.size W w' := fun W hW => by
      have h1 := atoi_any zs W (ev ⟨W, ext_trans b3q hW⟩) hzl
      rw [hzd, hv] at h1
      exact h1
     have py := pc ⟨wq, b3q⟩ (j + 1) y hy
     rw [hys] at py
     simp only at py
     have AT := Lib.hid at_
     have HGO := Lib.hid hgo
     have EV := Lib.hid ev
     have PC := Lib.hid pc
     have HY := Lib.hid hy
     have HWQ := Lib.hid hwq
     have B3Q := Lib.hid b3q
     clear hgo htl hhd hv hzd hyd hzs hyl hwq at_ b3q hh
     go_upto_region 9 with (fail)
     rw [← HWQ.out]
     try rw [hgt]
     have IQ := Lib.hid (bk_keep bq HI.out)
     have LQ := Lib.hid (bk_keep bq HL.out)
     have TQ := Lib.hid tq
     obtain ⟨tq0, tq1⟩ := cells2 tq
     have tqL := tq.lt
     have hz3 := B3Q.out.size
     clear l0 l1 l2 l3 l4 l5 lL tq bq
     go_region_law (go_simp; (first
      | (go_at_call 174; ((with_reducible refine (TP.out _).mono ?_); rintro e w' ⟨rfl, rfl⟩))
      | (go_at_call 153; ((with_reducible refine (AT.out _ (ext_drew (Below.refl _ _))).mono ?_); rintro e w9 ⟨ev9, rfl, hb9⟩; have I9 := Lib.hid (bk_keep hb9 (bk_drew IQ.out)); have L9 := Lib.hid (bk_keep hb9 (bk_drew LQ.out)); have B9 := Lib.hid (ext_trans (ext_drew B3Q.out) hb9); obtain ⟨u0, u1⟩ := cells2 (bk_keep hb9 (bk_drew TQ.out)); have uL := (bk_keep hb9 (bk_drew TQ.out)).lt; obtain ⟨i0, i1, i2, i3⟩ := cells4 I9.out; have iL := I9.out.lt; have iF := fun i => I9.out.frozen i; clear hb9))))
     all_goals (
      go_wp2
      go_roundw
      case rel => exact ⟨1, j + 1, m, by omega, by omega, by first | rfl | go_num, by first | rfl | (simp; done), by rw [HGO.out], by rw [HGO.out]; exact bk_set' I9.out rfl, bk_far' _ (by omega) L9.out, ext_set B9.out (by show w3.heap.size ≤ g5; omega) _⟩
      case measure => simp [intOf])
  ·
   rcases (by cases hasB op <;> simp : hasB op = false ∨ hasB op = true) with hh | hh
   ·have hno := stP_no (op := op) (L := L) (k := 1) (by rw [show hasK op 1 = hasB op from rfl, hh]; simp)
    have HNO := Lib.hid hno
    clear hno
    rw [hh] at l3
    go_wp2
    go_roundw
    case rel => exact ⟨2, j, m, by omega, hjm, by first | rfl | go_num, rfl, by rw [HNO.out]; exact HST.out, by rw [HNO.out]; exact bk_old _ HI.out, bk_old _ HL.out, ext_alloc HB.out _⟩
    case measure => simp [intOf]
   ·rw [hh] at l3
    rcases m with _ | m
    ·have hno := stP_no (op := op) (L := L) (k := 1) (by rw [HST.out, List.length_drop, HN.out]; omega)
     have HNO := Lib.hid hno
     clear hno
     go_wp2
     go_roundw
     case rel => exact ⟨2, j, 0, by omega, hjm, by first | rfl | go_num, rfl, by rw [HNO.out]; exact HST.out, by rw [HNO.out]; exact bk_old _ HI.out, bk_old _ HL.out, ext_alloc HB.out _⟩
     case measure => simp [intOf]
    ·have q1 : (1 : Int) < (m : Int) + 1 + 1 := by omega
     have hgo := stP_go (op := op) (L := L) (k := 1) ⟨hh, by rw [HST.out, List.length_drop, HN.out]; omega⟩
     obtain ⟨y, hy⟩ : ∃ y, L[j + 1]? = some y := ⟨_, List.getElem?_eq_getElem (by rw [HN.out]; omega)⟩
     have hyl := LEN.out y (List.mem_of_getElem? hy)
     have htl : (L.drop j).tail = L.drop (j + 1) := by rw [List.tail_drop]
     have hhd : (L.drop (j + 1)).headD [] = y := by rw [List.headD_eq_head?_getD, List.head?_drop, hy]; rfl
     rw [HST.out, htl, hhd] at hgo
     obtain ⟨v, hv⟩ : ∃ v, atoiV (Lib.trimPrefix y [114]) = v := ⟨_, rfl⟩
     rw [hv] at hgo
     obtain ⟨ys, hys⟩ : ∃ ys : ByteArray, (⟨y.toArray⟩ : ByteArray) = ys := ⟨_, rfl⟩
     obtain ⟨zs, hzs⟩ : ∃ zs : ByteArray, (⟨(Lib.trimPrefix y [114]).toArray⟩ : ByteArray) = zs := ⟨_, rfl⟩
     have hyd : ys.data.toList = y := by rw [← hys]
     have hzd : zs.data.toList = Lib.trimPrefix y [114] := by rw [← hzs]
     have hzl : zs.size ≤ 67108864 := by have h1 := trimPrefix_len y [114]; have h2 : zs.size = zs.data.toList.length := rfl; rw [h2, hzd]; omega
     have TP := Lib.hid (trim_any ys zs (by rw [hyd, hzd]))
     obtain ⟨wq, hwq⟩ : ∃ wq, wq = wr.alloc (.cells #[.pointer (some ⟨g5, 2, none⟩), .bool true] 261) := ⟨_, rfl⟩
     have tq : Bk wq wr.heap.size 261 #[.pointer (some ⟨g5, 2, none⟩), .bool true] := by rw [hwq]; exact bk_new _ _ _
     have bq : Below wr.heap.size wr wq := by rw [hwq]; exact ext_alloc (Below.refl _ _) _
     obtain ⟨gt, hgt⟩ : ∃ gt, wr.heap.size = gt := ⟨_, rfl⟩
     rw [hgt] at tq
     have b3q := ext_trans HB.out bq
     have at_ : ∀ W : World, Below wq.heap.size wq W → Calls Tryz.prog 153 #[.string zs] W fun e w' => ∃ ev, e = .returned (.tuple #[.int .i64 v, ev]) ∧ Below W.heap.size W w' := fun W hW => by
      have h1 := atoi_any zs W (ev ⟨W, ext_trans b3q hW⟩) hzl
      rw [hzd, hv] at h1
      exact h1
     have py := pc ⟨wq, b3q⟩ (j + 1) y hy
     rw [hys] at py
     simp only at py
     have AT := Lib.hid at_
     have HGO := Lib.hid hgo
     have EV := Lib.hid ev
     have PC := Lib.hid pc
     have HY := Lib.hid hy
     have HWQ := Lib.hid hwq
     have B3Q := Lib.hid b3q
     clear hgo htl hhd hv hzd hyd hzs hyl hwq at_ b3q hh
     go_upto_region 9 with (fail)
     rw [← HWQ.out]
     try rw [hgt]
     have IQ := Lib.hid (bk_keep bq HI.out)
     have LQ := Lib.hid (bk_keep bq HL.out)
     have TQ := Lib.hid tq
     obtain ⟨tq0, tq1⟩ := cells2 tq
     have tqL := tq.lt
     have hz3 := B3Q.out.size
     clear l0 l1 l2 l3 l4 l5 lL tq bq
     go_region_law (go_simp; (first
      | (go_at_call 174; ((with_reducible refine (TP.out _).mono ?_); rintro e w' ⟨rfl, rfl⟩))
      | (go_at_call 153; ((with_reducible refine (AT.out _ (ext_drew (Below.refl _ _))).mono ?_); rintro e w9 ⟨ev9, rfl, hb9⟩; have I9 := Lib.hid (bk_keep hb9 (bk_drew IQ.out)); have L9 := Lib.hid (bk_keep hb9 (bk_drew LQ.out)); have B9 := Lib.hid (ext_trans (ext_drew B3Q.out) hb9); obtain ⟨u0, u1⟩ := cells2 (bk_keep hb9 (bk_drew TQ.out)); have uL := (bk_keep hb9 (bk_drew TQ.out)).lt; obtain ⟨i0, i1, i2, i3⟩ := cells4 I9.out; have iL := I9.out.lt; have iF := fun i => I9.out.frozen i; clear hb9))))
     all_goals (
      go_wp2
      go_roundw
      case rel => exact ⟨2, j + 1, m, by omega, by omega, by first | rfl | go_num, by first | rfl | (simp; done), by rw [HGO.out], by rw [HGO.out]; exact bk_set' I9.out rfl, bk_far' _ (by omega) L9.out, ext_set B9.out (by show w3.heap.size ≤ g5; omega) _⟩
      case measure => simp [intOf])
  ·
   rcases (by cases hasC op <;> simp : hasC op = false ∨ hasC op = true) with hh | hh
   ·have hno := stP_no (op := op) (L := L) (k := 2) (by rw [show hasK op 2 = hasC op from rfl, hh]; simp)
    have HNO := Lib.hid hno
    clear hno
    rw [hh] at l5
    go_wp2
    go_roundw
    case rel => exact ⟨3, j, m, by omega, hjm, by first | rfl | go_num, rfl, by rw [HNO.out]; exact HST.out, by rw [HNO.out]; exact bk_old _ HI.out, bk_old _ HL.out, ext_alloc HB.out _⟩
    case measure => simp [intOf]
   ·rw [hh] at l5
    rcases m with _ | m
    ·have hno := stP_no (op := op) (L := L) (k := 2) (by rw [HST.out, List.length_drop, HN.out]; omega)
     have HNO := Lib.hid hno
     clear hno
     go_wp2
     go_roundw
     case rel => exact ⟨3, j, 0, by omega, hjm, by first | rfl | go_num, rfl, by rw [HNO.out]; exact HST.out, by rw [HNO.out]; exact bk_old _ HI.out, bk_old _ HL.out, ext_alloc HB.out _⟩
     case measure => simp [intOf]
    ·have q1 : (1 : Int) < (m : Int) + 1 + 1 := by omega
     have hgo := stP_go (op := op) (L := L) (k := 2) ⟨hh, by rw [HST.out, List.length_drop, HN.out]; omega⟩
     obtain ⟨y, hy⟩ : ∃ y, L[j + 1]? = some y := ⟨_, List.getElem?_eq_getElem (by rw [HN.out]; omega)⟩
     have hyl := LEN.out y (List.mem_of_getElem? hy)
     have htl : (L.drop j).tail = L.drop (j + 1) := by rw [List.tail_drop]
     have hhd : (L.drop (j + 1)).headD [] = y := by rw [List.headD_eq_head?_getD, List.head?_drop, hy]; rfl
     rw [HST.out, htl, hhd] at hgo
     obtain ⟨v, hv⟩ : ∃ v, atoiV (Lib.trimPrefix y [114]) = v := ⟨_, rfl⟩
     rw [hv] at hgo
     obtain ⟨ys, hys⟩ : ∃ ys : ByteArray, (⟨y.toArray⟩ : ByteArray) = ys := ⟨_, rfl⟩
     obtain ⟨zs, hzs⟩ : ∃ zs : ByteArray, (⟨(Lib.trimPrefix y [114]).toArray⟩ : ByteArray) = zs := ⟨_, rfl⟩
     have hyd : ys.data.toList = y := by rw [← hys]
     have hzd : zs.data.toList = Lib.trimPrefix y [114] := by rw [← hzs]
     have hzl : zs.size ≤ 67108864 := by have h1 := trimPrefix_len y [114]; have h2 : zs.size = zs.data.toList.length := rfl; rw [h2, hzd]; omega
     have TP := Lib.hid (trim_any ys zs (by rw [hyd, hzd]))
     obtain ⟨wq, hwq⟩ : ∃ wq, wq = wr.alloc (.cells #[.pointer (some ⟨g5, 3, none⟩), .bool true] 261) := ⟨_, rfl⟩
     have tq : Bk wq wr.heap.size 261 #[.pointer (some ⟨g5, 3, none⟩), .bool true] := by rw [hwq]; exact bk_new _ _ _
     have bq : Below wr.heap.size wr wq := by rw [hwq]; exact ext_alloc (Below.refl _ _) _
     obtain ⟨gt, hgt⟩ : ∃ gt, wr.heap.size = gt := ⟨_, rfl⟩
     rw [hgt] at tq
     have b3q := ext_trans HB.out bq
     have at_ : ∀ W : World, Below wq.heap.size wq W → Calls Tryz.prog 153 #[.string zs] W fun e w' => ∃ ev, e = .returned (.tuple #[.int .i64 v, ev]) ∧ Below W.heap.size W w' := fun W hW => by
      have h1 := atoi_any zs W (ev ⟨W, ext_trans b3q hW⟩) hzl
      rw [hzd, hv] at h1
      exact h1
     have py := pc ⟨wq, b3q⟩ (j + 1) y hy
     rw [hys] at py
     simp only at py
     have AT := Lib.hid at_
     have HGO := Lib.hid hgo
     have EV := Lib.hid ev
     have PC := Lib.hid pc
     have HY := Lib.hid hy
     have HWQ := Lib.hid hwq
     have B3Q := Lib.hid b3q
     clear hgo htl hhd hv hzd hyd hzs hyl hwq at_ b3q hh
     go_upto_region 9 with (fail)
     rw [← HWQ.out]
     try rw [hgt]
     have IQ := Lib.hid (bk_keep bq HI.out)
     have LQ := Lib.hid (bk_keep bq HL.out)
     have TQ := Lib.hid tq
     obtain ⟨tq0, tq1⟩ := cells2 tq
     have tqL := tq.lt
     have hz3 := B3Q.out.size
     clear l0 l1 l2 l3 l4 l5 lL tq bq
     go_region_law (go_simp; (first
      | (go_at_call 174; ((with_reducible refine (TP.out _).mono ?_); rintro e w' ⟨rfl, rfl⟩))
      | (go_at_call 153; ((with_reducible refine (AT.out _ (ext_drew (Below.refl _ _))).mono ?_); rintro e w9 ⟨ev9, rfl, hb9⟩; have I9 := Lib.hid (bk_keep hb9 (bk_drew IQ.out)); have L9 := Lib.hid (bk_keep hb9 (bk_drew LQ.out)); have B9 := Lib.hid (ext_trans (ext_drew B3Q.out) hb9); obtain ⟨u0, u1⟩ := cells2 (bk_keep hb9 (bk_drew TQ.out)); have uL := (bk_keep hb9 (bk_drew TQ.out)).lt; obtain ⟨i0, i1, i2, i3⟩ := cells4 I9.out; have iL := I9.out.lt; have iF := fun i => I9.out.frozen i; clear hb9))))
     all_goals (
      go_wp2
      go_roundw
      case rel => exact ⟨3, j + 1, m, by omega, by omega, by first | rfl | go_num, by first | rfl | (simp; done), by rw [HGO.out], by rw [HGO.out]; exact bk_set' I9.out rfl, bk_far' _ (by omega) L9.out, ext_set B9.out (by show w3.heap.size ≤ g5; omega) _⟩
      case measure => simp [intOf])
  ·obtain rfl : k = 0 := by omega
   have q1 : ¬ ((3 : Int) < 3) := by omega
   obtain ⟨i, hi3⟩ : ∃ i, (stP op L 3).2 = i := ⟨_, rfl⟩
   have hi := HI.out
   rw [show (0 + 1 + 1 + 1 : Nat) = 3 from rfl, hi3] at hi
   rw [hi3] at hsp
   obtain ⟨a0, a1, a2, a3⟩ := i
   have r0 : ∀ x : Later wr, x.val.cell? ⟨g5, 0, none⟩ = some (.int .i64 a0) := fun x => (x.bk hi).cell 0
   have r1 : ∀ x : Later wr, x.val.cell? ⟨g5, 1, none⟩ = some (.int .i64 a1) := fun x => (x.bk hi).cell 1
   have r2 : ∀ x : Later wr, x.val.cell? ⟨g5, 2, none⟩ = some (.int .i64 a2) := fun x => (x.bk hi).cell 2
   have r3 : ∀ x : Later wr, x.val.cell? ⟨g5, 3, none⟩ = some (.int .i64 a3) := fun x => (x.bk hi).cell 3
   obtain ⟨i0, i1, i2, i3⟩ := cells4 hi
   have iL := hi.lt
   have rL : ∀ x : Later wr, g5 < x.val.heap.size := fun x => x.lt hi.lt
   have zr := z3 ⟨wr, HB.out⟩
   have qF : ∀ (x : Later wr) i, x.val.frozen? ⟨g2, i, none⟩ = false := fun x i => (x.bk zr).frozen i
   have qL : ∀ x : Later wr, g2 < x.val.heap.size := fun x => x.lt zr.lt
   have qz0 : ∀ x : Later wr, x.val.cell? ⟨g2, 0, none⟩ = some (.int .i64 0) := fun x => (x.bk zr).cell 0
   have qz1 : ∀ x : Later wr, x.val.cell? ⟨g2, 1, none⟩ = some (.int .i64 0) := fun x => (x.bk zr).cell 1
   have qz2 : ∀ x : Later wr, x.val.cell? ⟨g2, 2, none⟩ = some (.int .i64 0) := fun x => (x.bk zr).cell 2
   have qz3 : ∀ x : Later wr, x.val.cell? ⟨g2, 3, none⟩ = some (.int .i64 0) := fun x => (x.bk zr).cell 3
   have ZR := Lib.hid zr
   have HBW := Lib.hid (ext_trans B3.out HB.out)
   have er := ev ⟨wr, HB.out⟩
   simp only at er
   clear l0 l1 l2 l3 l4 l5 zr ev pc z3
   rcases (by cases instOk ⟨a0, a1, a2, a3⟩ <;> simp : instOk ⟨a0, a1, a2, a3⟩ = false ∨ instOk ⟨a0, a1, a2, a3⟩ = true) with hk | hk
   ·have TXC := Lib.hid (itext_bad a0 a1 a2 a3 hk wr er.asc)
    have pf : parseF s.data.toList = (zeroI, 3) := by unfold parseF; rw [hsp, if_neg (by simp [hk])]
    have PF := Lib.hid pf
    clear pf hsp hk er hi hi3
    go_wp2_with (go_at_call 140; ((with_reducible refine TXC.out.mono ?_); rintro e w' ⟨rfl, hb⟩; obtain ⟨y, rfl⟩ := later_call (Below.refl _ _) hb; clear hb))
    have Z : Bk ((((y.val.setCell ⟨g2, 0, none⟩ (.int .i64 0)).setCell ⟨g2, 1, none⟩ (.int .i64 0)).setCell ⟨g2, 2, none⟩ (.int .i64 0)).setCell ⟨g2, 3, none⟩ (.int .i64 0)) g2 49 #[.int .i64 0, .int .i64 0, .int .i64 0, .int .i64 0] := bk_set 3 _ (bk_set 2 _ (bk_set 1 _ (bk_set 0 _ (y.bk ZR.out))))
    obtain ⟨z0, z1, z2, z3⟩ := cells4 Z
    have zF := fun i => Bk.frozen Z i
    have zL := Z.lt
    have hgw : w.heap.size ≤ g2 := by omega
    refine bodyPost_ret (v := .tuple #[.agg #[.int .i64 0, .int .i64 0, .int .i64 0, .int .i64 0], .int .i64 3]) (by simp [results, Tryz.results133, go_sem, z0, z1, z2, z3, zL]; try rfl) rfl ⟨by rw [PF.out]; rfl, ext_set (ext_set (ext_set (ext_set (ext_trans HBW.out y.ok) hgw _) hgw _) hgw _) hgw _⟩
   ·have txc := itext_ok a0 a1 a2 a3 hk wr er.asc er.ten
    obtain ⟨tx, htx⟩ : ∃ tx : ByteArray, (⟨(textL ⟨a0, a1, a2, a3⟩).toArray⟩ : ByteArray) = tx := ⟨_, rfl⟩
    have htd : tx.data.toList = textL ⟨a0, a1, a2, a3⟩ := by rw [← htx]
    rw [htx] at txc
    have TXC := Lib.hid txc
    by_cases hts : textL ⟨a0, a1, a2, a3⟩ = s.data.toList
    ·have f1 : (tx.toList == s.toList) = true := by rw [str_eqB, htd]; simp [hts]
     have f2 : (tx.toList != s.toList) = false := by rw [bne, f1]; rfl
     have pf : parseF s.data.toList = (⟨a0, a1, a2, a3⟩, 0) := by unfold parseF; rw [hsp, if_pos ⟨hk, hts⟩]
     have PF := Lib.hid pf
     clear pf hsp hk er hi hi3 htd htx hts txc
     go_wp2_with (go_at_call 140; ((with_reducible refine TXC.out.mono ?_); rintro e w' ⟨rfl, hb⟩; obtain ⟨y, rfl⟩ := later_call (Below.refl _ _) hb; clear hb))
     have Z : Bk ((((y.val.setCell ⟨g2, 0, none⟩ (.int .i64 a0)).setCell ⟨g2, 1, none⟩ (.int .i64 a1)).setCell ⟨g2, 2, none⟩ (.int .i64 a2)).setCell ⟨g2, 3, none⟩ (.int .i64 a3)) g2 49 #[.int .i64 a0, .int .i64 a1, .int .i64 a2, .int .i64 a3] := bk_set 3 _ (bk_set 2 _ (bk_set 1 _ (bk_set 0 _ (y.bk ZR.out))))
     obtain ⟨z0, z1, z2, z3⟩ := cells4 Z
     have zF := fun i => Bk.frozen Z i
     have zL := Z.lt
     have hgw : w.heap.size ≤ g2 := by omega
     refine bodyPost_ret (v := .tuple #[.agg #[.int .i64 a0, .int .i64 a1, .int .i64 a2, .int .i64 a3], .int .i64 0]) (by simp [results, Tryz.results133, go_sem, z0, z1, z2, z3, zL]; try rfl) rfl ⟨by rw [PF.out]; rfl, ext_set (ext_set (ext_set (ext_set (ext_trans HBW.out y.ok) hgw _) hgw _) hgw _) hgw _⟩
    ·have f1 : (tx.toList == s.toList) = false := by rw [str_eqB, htd]; simp [hts]
     have f2 : (tx.toList != s.toList) = true := by rw [bne, f1]; rfl
     have pf : parseF s.data.toList = (zeroI, 3) := by unfold parseF; rw [hsp, if_neg (fun h => hts h.2)]
     have PF := Lib.hid pf
     clear pf hsp hk er hi hi3 htd htx hts txc
     go_wp2_with (go_at_call 140; ((with_reducible refine TXC.out.mono ?_); rintro e w' ⟨rfl, hb⟩; obtain ⟨y, rfl⟩ := later_call (Below.refl _ _) hb; clear hb))
     have Z : Bk ((((y.val.setCell ⟨g2, 0, none⟩ (.int .i64 0)).setCell ⟨g2, 1, none⟩ (.int .i64 0)).setCell ⟨g2, 2, none⟩ (.int .i64 0)).setCell ⟨g2, 3, none⟩ (.int .i64 0)) g2 49 #[.int .i64 0, .int .i64 0, .int .i64 0, .int .i64 0] := bk_set 3 _ (bk_set 2 _ (bk_set 1 _ (bk_set 0 _ (y.bk ZR.out))))
     obtain ⟨z0, z1, z2, z3⟩ := cells4 Z
     have zF := fun i => Bk.frozen Z i
     have zL := Z.lt
     have hgw : w.heap.size ≤ g2 := by omega
     refine bodyPost_ret (v := .tuple #[.agg #[.int .i64 0, .int .i64 0, .int .i64 0, .int .i64 0], .int .i64 3]) (by simp [results, Tryz.results133, go_sem, z0, z1, z2, z3, zL]; try rfl) rfl ⟨by rw [PF.out]; rfl, ext_set (ext_set (ext_set (ext_set (ext_trans HBW.out y.ok) hgw _) hgw _) hgw _) hgw _⟩
end Go.Proofs.YtpjhjefjbkjhkaaGreatDoor
