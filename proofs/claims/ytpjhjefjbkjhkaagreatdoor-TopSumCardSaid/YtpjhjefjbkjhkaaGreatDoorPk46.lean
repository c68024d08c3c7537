import Derived.Test.YtpjhjefjbkjhkaaGreatDoorPk43
set_option maxHeartbeats 40000000
set_option maxRecDepth 100000
set_option linter.unusedVariables false
set_option linter.unusedSimpArgs false
namespace Go.Proofs.YtpjhjefjbkjhkaaGreatDoor
open El (cl)
open Go Go.RowKit Go.Shelf
theorem line_len {r : RdV} {n : Int} {s : List UInt8} : (lineR r n s).1.code.length ≤ r.code.length + 1 ∧ (lineR r n s).1.labels.length ≤ r.labels.length + 1 ∧ (lineR r n s).1.holes.length ≤ r.holes.length + 1 := by
 unfold lineR labelR cellR
 repeat' split
 all_goals simp
theorem lines_len : ∀ (ls : List (List UInt8)) (r : RdV) (n : Nat), (linesR r n ls).1.code.length ≤ r.code.length + ls.length ∧ (linesR r n ls).1.labels.length ≤ r.labels.length + ls.length ∧ (linesR r n ls).1.holes.length ≤ r.holes.length + ls.length
 | [], r, n => ⟨Nat.le_refl _, Nat.le_refl _, Nat.le_refl _⟩
 | s :: ls, r, n => by
  rw [lines_cons, List.length_cons]
  have h1 := line_len (r := r) (n := (n : Int) + 1) (s := s)
  split
  ·have h2 := lines_len ls (lineR r ((n : Int) + 1) s).1 (n + 1)
   omega
  ·simp only; omega
theorem lines_take {L : List (List UInt8)} {k : Nat} {x : List UInt8} (hx : L[k]? = some x) (hok : (linesR rd0 0 (L.take k)).2.2 = 0) :
  (linesR rd0 0 (L.take (k + 1))) = (if (lineR (linesR rd0 0 (L.take k)).1 ((k : Int) + 1) x).2 = 0 then ((lineR (linesR rd0 0 (L.take k)).1 ((k : Int) + 1) x).1, 0, 0) else ((lineR (linesR rd0 0 (L.take k)).1 ((k : Int) + 1) x).1, (k : Int) + 1, (lineR (linesR rd0 0 (L.take k)).1 ((k : Int) + 1) x).2)) := by
 have hk : k < L.length := (List.getElem?_eq_some_iff.1 hx).1
 rw [List.take_add_one, hx]
 simp only [Option.toList_some]
 rw [lines_app _ _ _ _ hok, List.length_take, Nat.min_eq_left (by omega), Nat.zero_add, lines_cons]
 split <;> rfl
theorem lines_cut {L : List (List UInt8)} {k : Nat} (h : (linesR rd0 0 (L.take k)).2.2 ≠ 0) : linesR rd0 0 L = linesR rd0 0 (L.take k) := by
 conv => lhs; rw [← List.take_append_drop k L]
 exact lines_bad _ _ _ _ h
theorem holes_app : ∀ (a b : List HoleV) (l : List NamV) (c : List Int), (holesR l c a).2.2 = 0 → holesR l c (a ++ b) = holesR l (holesR l c a).1 b
 | [], b, l, c, _ => rfl
 | h :: a, b, l, c, h0 => by
  rw [List.cons_append, holes_cons, holes_cons]
  rw [holes_cons] at h0
  by_cases h1 : findA l h.name < 0
  ·rw [if_pos h1] at h0; cases h0
  rw [if_neg h1] at h0
  rw [if_neg h1, if_neg h1]
  by_cases h2 : instOk (h.filled l) = true
  ·rw [if_pos h2] at h0
   rw [if_pos h2, if_pos h2, holes_app a b l _ h0]
  ·rw [if_neg h2] at h0; cases h0
theorem holes_bad : ∀ (a b : List HoleV) (l : List NamV) (c : List Int), (holesR l c a).2.2 ≠ 0 → holesR l c (a ++ b) = holesR l c a
 | [], b, l, c, h => absurd rfl h
 | h :: a, b, l, c, h0 => by
  rw [List.cons_append, holes_cons, holes_cons]
  rw [holes_cons] at h0
  by_cases h1 : findA l h.name < 0
  ·rw [if_pos h1, if_pos h1]
  rw [if_neg h1] at h0
  rw [if_neg h1, if_neg h1]
  by_cases h2 : instOk (h.filled l) = true
  ·rw [if_pos h2] at h0
   rw [if_pos h2, if_pos h2, holes_bad a b l _ h0]
  ·rw [if_neg h2, if_neg h2]
theorem holes_take {H : List HoleV} {l : List NamV} {c : List Int} {k : Nat} {x : HoleV} (hx : H[k]? = some x) (hok : (holesR l c (H.take k)).2.2 = 0) :
  holesR l c (H.take (k + 1)) = (if findA l x.name < 0 then ((holesR l c (H.take k)).1, x.line, 7) else if instOk (x.filled l) = true then ((holesR l c (H.take k)).1.set x.at_.toNat (packF (x.filled l)), 0, 0) else ((holesR l c (H.take k)).1, x.line, 13)) := by
 rw [List.take_add_one, hx]
 simp only [Option.toList_some]
 rw [holes_app _ _ _ _ hok, holes_cons]
 rfl
theorem holes_cut {H : List HoleV} {l : List NamV} {c : List Int} {k : Nat} (h : (holesR l c (H.take k)).2.2 ≠ 0) : holesR l c H = holesR l c (H.take k) := by
 conv => lhs; rw [← List.take_append_drop k H]
 exact holes_bad _ _ _ _ h
theorem find_bd {l : List NamV} {s : ByteArray} {b : Int} (hl : ∀ x ∈ l, 0 ≤ x.at_ ∧ x.at_ ≤ b) (hb : 0 ≤ b) : -1 ≤ findA l s ∧ findA l s ≤ b := by
 unfold findA
 cases hf : l.find? (fun x => decide (x.name = s)) with
 | none => simp only; omega
 | some y => have := hl y (List.mem_of_find?_eq_some hf); simp only; omega
theorem cls_get {C : List Int} {m a : Nat} (h : C.length = m) (ha : a < m) : (cls C)[a]? = some (.int .i64 (C[a]'(by omega))) := by
 have := cls_at C a (by omega) 0 (by decide)
 simpa [El.k, cl] using this
theorem RdSt.apart {g : Nat} {r : RdV} {vc vl vh : Value} {W : World} (h : RdSt g r vc vl vh W) : vc.ownBlock ≠ some W.heap.size ∧ vl.ownBlock ≠ some W.heap.size ∧ vh.ownBlock ≠ some W.heap.size :=
 ⟨fun e => Nat.lt_irrefl _ (own_span h.c e).2, fun e => Nat.lt_irrefl _ (own_span h.l e).2, fun e => Nat.lt_irrefl _ (own_span h.h e).2⟩
theorem RdSt.far {g p : Nat} {r : RdV} {vc vl vh : Value} {W : World} (h : RdSt g r vc vl vh W) (ha : vc.ownBlock ≠ some p ∧ vl.ownBlock ≠ some p ∧ vh.ownBlock ≠ some p) (hg : g ≠ p) (i : Nat) (u : Value) : RdSt g r vc vl vh (W.setCell ⟨p, i, none⟩ u) :=
 ⟨bk_far' _ hg h.b, h.c.kept (grown_setCell W p i u) (.inr ha.1), h.l.kept (grown_setCell W p i u) (.inr ha.2.1), h.h.kept (grown_setCell W p i u) (.inr ha.2.2)⟩
theorem RdSt.setAt {g gc m cc a : Nat} {C : List Int} {l : List NamV} {H : List HoleV} {vl vh : Value} {W : World} (h : RdSt g ⟨C, l, H⟩ (.slice (some ⟨gc, 0, none⟩) m cc) vl vh W) (hm : C.length = m) (ha : a < m) (P : Int) :
  RdSt g ⟨C.set a P, l, H⟩ (.slice (some ⟨gc, 0, none⟩) m cc) vl vh (W.setCell ⟨gc, a, none⟩ (.int .i64 P)) ∧ g ≤ gc := by
 subst hm
 have hc := h.c
 simp only at hc
 obtain ⟨o1, o2⟩ := own_set_cell (i := a) (j := 0) (x := C[a]) (y := P) (u := .int .i64 P) hc (List.getElem?_eq_getElem ha) (by decide) rfl
 have e : a * El.k Int + 0 = a := by show a * 1 + 0 = a; omega
 rw [e] at o1 o2
 exact ⟨⟨bk_other h.b hc (by decide) o2, o1, own_other h.l hc (by decide) o2, own_other h.h hc (by decide) o2⟩, (own_span hc rfl).1⟩
def ReadPost (w : World) (x : ReadV) (e : Ending) (w' : World) : Prop := ∃ vc vl, e = .returned (.tuple #[vc, vl, .int .i64 x.line, .int .i64 x.er]) ∧ Own w' w.heap.size 3 vc x.code ∧ Own w' w.heap.size 83 vl x.labels ∧ Below w.heap.size w w'
theorem read_err (w w' : World) (l e : Int) (x : ReadV) (hx : x = ⟨[], [], l, e⟩) (hb : Below w.heap.size w w') : ReadPost w x (.returned (.tuple #[.slice none 0 0, .slice none 0 0, .int .i64 l, .int .i64 e])) w' :=
 ⟨_, _, by rw [hx], by rw [hx]; exact Own.nil _ _ _, by rw [hx]; exact Own.nil _ _ _, hb⟩
theorem cells7h {w : World} {g : Nat} {T : TypeId} {v0 v1 v2 v3 v4 v5 v6 : Value} (h : Bk w g T #[v0, v1, v2, v3, v4, v5, v6]) : w.cell? ⟨g, 0, none⟩ = some v0 ∧ w.cell? ⟨g, 1, none⟩ = some v1 ∧ w.cell? ⟨g, 2, none⟩ = some v2 ∧ w.cell? ⟨g, 3, none⟩ = some v3 ∧ w.cell? ⟨g, 4, none⟩ = some v4 ∧ w.cell? ⟨g, 5, none⟩ = some v5 ∧ w.cell? ⟨g, 6, none⟩ = some v6 := ⟨h.cell 0, h.cell 1, h.cell 2, h.cell 3, h.cell 4, h.cell 5, h.cell 6⟩
theorem pread_any (s : ByteArray) (w : World) (he : PEnv w) (hs : s.size ≤ 67108864) : Calls Tryz.prog 48 #[.string s] w (ReadPost w (readF s.data.toList)) := by
 have sp := split_any s 10 w he hs
 have hlen := splitC_len 10 s.data.toList
 have hsz : s.data.toList.length = s.size := rfl
 have hne := splitC_ne 10 s.data.toList
 have hn1 := splitC_length 10 s.data.toList
 obtain ⟨L, hL⟩ : ∃ L, splitC 10 s.data.toList = L := ⟨_, rfl⟩
 rw [hL] at sp hlen hn1
 obtain ⟨n, hn⟩ : ∃ n, L.length = n := ⟨_, rfl⟩
 rw [hn] at sp hn1
 have SP := Lib.hid sp
 have HE := Lib.hid he
 clear sp he hne
 by_cases h150 : 150 < n
 ·have e : readF s.data.toList = ⟨[], [], 0, 2⟩ := by unfold readF; rw [hL, if_pos (by omega)]
  have EE := Lib.hid e
  have q1 : (150 : Int) < n := by omega
  clear e hL hlen hn
  go_enter Tryz.func48, Tryz.ntmps48
  go_wp2_with (go_at_call 87; ((with_reducible refine SP.out.mono ?_); rintro e w1 ⟨rfl, hc1, hb1⟩; have HC1 := Lib.hid hc1; have HB1 := Lib.hid hb1; clear hc1 hb1))
  refine bodyPost_ret (v := .tuple #[.slice none 0 0, .slice none 0 0, .int .i64 0, .int .i64 2]) (by simp [results, Tryz.results48, go_sem]; try rfl) rfl ?_
  exact read_err w _ 0 2 _ EE.out HB1.out
 have q1 : ¬ ((150 : Int) < n) := by omega
 have hrd : readF s.data.toList = if (linesR rd0 0 L).2.2 ≠ 0 then ⟨[], [], (linesR rd0 0 L).2.1, (linesR rd0 0 L).2.2⟩ else if (holesR (linesR rd0 0 L).1.labels (linesR rd0 0 L).1.code (linesR rd0 0 L).1.holes).2.2 ≠ 0 then ⟨[], [], (holesR (linesR rd0 0 L).1.labels (linesR rd0 0 L).1.code (linesR rd0 0 L).1.holes).2.1, (holesR (linesR rd0 0 L).1.labels (linesR rd0 0 L).1.code (linesR rd0 0 L).1.holes).2.2⟩ else ⟨(holesR (linesR rd0 0 L).1.labels (linesR rd0 0 L).1.code (linesR rd0 0 L).1.holes).1, (linesR rd0 0 L).1.labels, 0, 0⟩ := by
  unfold readF; rw [hL, if_neg (by omega)]
 obtain ⟨gs, hgs⟩ : ∃ gs, w.heap.size = gs := ⟨_, rfl⟩
 have HRD := Lib.hid hrd
 have HLEN := Lib.hid hlen
 have HN := Lib.hid hn
 clear hrd hlen hn hL
 go_enter Tryz.func48, Tryz.ntmps48
 go_upto_region 4 with (go_at_call 87; ((with_reducible refine SP.out.mono ?_); rintro e w1 ⟨rfl, hc1, hb1⟩; have HC1 := Lib.hid hc1; have HB1 := Lib.hid hb1; clear hc1 hb1))
 rw [hgs] at HC1
 try rw [hgs]
 obtain ⟨g, hg⟩ : ∃ g, w1.heap.size = g := ⟨_, rfl⟩
 obtain ⟨w2, hw2⟩ : ∃ w2, w2 = w1.alloc (.cells #[.slice none 0 0, .slice none 0 0, .slice none 0 0] 176) := ⟨_, rfl⟩
 have s2 : RdSt g rd0 (.slice none 0 0) (.slice none 0 0) (.slice none 0 0) w2 := by
  rw [hw2, ← hg]
  exact ⟨bk_new _ _ _, Own.nil _ _ _, Own.nil _ _ _, Own.nil _ _ _⟩
 have b12 : Below w1.heap.size w1 w2 := by rw [hw2]; exact ext_alloc (Below.refl _ _) _
 have b2 : Below w.heap.size w w2 := ext_trans HB1.out b12
 have hgsg : w.heap.size ≤ g := by rw [← hg]; exact HB1.out.size
 have lc : ∀ W, Below g w2 W → ∀ k x, L[k]? = some x → W.cell? ⟨gs, k, none⟩ = some (.string ⟨x.toArray⟩) := fun W hW k x hx => by
  have h1 := HC1.out k x hx
  have hlt := World.block_lt_of_cell? w1 _ h1
  rw [hW.cell (p := ⟨gs, k, none⟩) (by rw [← hg]; exact hlt), b12.cell (p := ⟨gs, k, none⟩) hlt]
  exact h1
 have HW2 := Lib.hid hw2
 have S2 := Lib.hid s2
 have B2 := Lib.hid b2
 have LC := Lib.hid lc
 have HG := Lib.hid hg
 clear hw2 s2 b12 b2 lc hg
 go_upto_region 5 with (fail)
 rw [← HW2.out, HG.out]
 go_wp2
 go_loopw [25] (fun i wr => ∃ (k : Nat) (vc vl vh : Value), k ≤ n ∧ i = .int .i64 k ∧ (linesR rd0 0 (L.take k)).2.2 = 0 ∧ RdSt g (linesR rd0 0 (L.take k)).1 vc vl vh wr ∧ Below g w2 wr) (fun i _ => n - (intOf i).toNat)
 case atStart => exact ⟨0, _, _, _, Nat.zero_le _, rfl, rfl, S2.out, Below.refl _ _⟩
 case round =>
  obtain ⟨k, vc, vl, vh, hk, rfl, hok, hst, hb⟩ := hrel
  by_cases hlt : k < n
  ·have q2 : (0 : Int) ≤ k := by omega
   have q3 : (k : Int) < n := by omega
   obtain ⟨x, hx⟩ : ∃ x, L[k]? = some x := ⟨_, List.getElem?_eq_getElem (by have := HN.out; omega)⟩
   have ce := LC.out wr hb k x hx
   have hxl := HLEN.out x (List.mem_of_getElem? hx)
   obtain ⟨y, hy⟩ : ∃ y : ByteArray, (⟨x.toArray⟩ : ByteArray) = y := ⟨_, rfl⟩
   have hyd : y.data.toList = x := by rw [← hy]
   have hys : y.size ≤ 67108864 := by
    have h1 : y.size = y.data.toList.length := rfl
    rw [h1, hyd]; omega
   rw [hy] at ce
   have hll := lines_len (L.take k) rd0 0
   have htk : (L.take k).length ≤ k := by rw [List.length_take]; omega
   have hltk := lines_take hx hok
   obtain ⟨r, hr⟩ : ∃ r, (linesR rd0 0 (L.take k)).1 = r := ⟨_, rfl⟩
   rw [hr] at hst hll hltk
   simp only [rd0, List.length_nil] at hll
   have hew : PEnv wr := HE.out.below (B2.out.trans (hb.mono hgsg))
   have lr := rline_any g r vc vl vh ((k : Int) + 1) y wr hst hew hys (by omega) (by omega) (by omega)
   rw [hyd] at lr
   obtain ⟨r', hr'⟩ : ∃ r', (lineR r ((k : Int) + 1) x).1 = r' := ⟨_, rfl⟩
   obtain ⟨er, her⟩ : ∃ er, (lineR r ((k : Int) + 1) x).2 = er := ⟨_, rfl⟩
   rw [hr', her] at lr hltk
   have LR := Lib.hid lr
   have HB := Lib.hid hb
   have HTK := Lib.hid hltk
   have wr1 : IntKind.i64.wrap ((k : Int) + 1) = (k : Int) + 1 := IntWalk.i64_in _ ⟨by omega, by omega⟩
   have gsL : gs < wr.heap.size := World.block_lt_of_cell? wr _ ce
   clear lr hb hltk hll htk hew hst hr' her hys hyd hy hxl hx hr
   by_cases h0 : er = 0
   ·subst h0
    have ht := HTK.out
    rw [if_pos rfl] at ht
    have HT := Lib.hid ht
    clear ht hok
    go_wp2_with (go_at_call 88; ((with_reducible refine LR.out.mono ?_); rintro e w3 ⟨rfl, ⟨vc', vl', vh', hst'⟩, hb'⟩; have S3 := Lib.hid hst'; have HB3 := Lib.hid (HB.out.trans hb'); clear hst' hb'))
    go_roundw
    case rel => exact ⟨k + 1, vc', vl', vh', by omega, by go_num, by rw [HT.out], by rw [HT.out]; exact S3.out, HB3.out⟩
    case measure => simp [intOf]; omega
   ·have q4 : (er != 0) = true := by simpa using h0
    have q5 : (er == 0) = false := by simpa using h0
    have ht := HTK.out
    rw [if_neg h0] at ht
    have h2 : (linesR rd0 0 (L.take (k + 1))).2.2 ≠ 0 := by rw [ht]; exact h0
    have h3 := HRD.out
    rw [lines_cut h2, ht, if_pos (by exact h0)] at h3
    have H3 := Lib.hid h3
    clear ht hok h2 h3 h0
    go_wp2_with (go_at_call 88; ((with_reducible refine LR.out.mono ?_); rintro e w3 ⟨rfl, ⟨vc', vl', vh', hst'⟩, hb'⟩; have S3 := Lib.hid hst'; have HB3 := Lib.hid (HB.out.trans hb'); clear hst' hb'))
    refine bodyPost_ret (v := .tuple #[.slice none 0 0, .slice none 0 0, .int .i64 ((k : Int) + 1), .int .i64 er]) (by simp [results, Tryz.results48, go_sem]; try rfl) rfl ?_
    exact read_err w _ _ _ _ H3.out (B2.out.trans (HB3.out.mono hgsg))
  ·have q3 : ¬ ((k : Int) < n) := by omega
   rw [List.take_of_length_le (by have := HN.out; omega)] at hok hst
   have hinv := lines_inv L rd0 0 rd0_inv hok
   have hll := lines_len L rd0 0
   have hrd := HRD.out
   rw [if_neg (by rw [hok]; simp)] at hrd
   clear HRD LC HC1 HLEN
   obtain ⟨r, hr⟩ : ∃ r, (linesR rd0 0 L).1 = r := ⟨_, rfl⟩
   rw [hr] at hst hinv hll hrd
   simp only [rd0, List.length_nil] at hll
   have HLL := Lib.hid (show r.code.length ≤ 150 ∧ r.labels.length ≤ 150 ∧ r.holes.length ≤ 150 by have := HN.out; omega)
   clear hll hr hok
   have HRD := Lib.hid hrd
   have HI := Lib.hid hinv
   have HB := Lib.hid hb
   clear hrd hinv hb
   obtain ⟨C0, l, H⟩ := r
   obtain ⟨ca, cc, rfl, _, _⟩ := hst.c.sl
   obtain ⟨m, hm⟩ : ∃ m, C0.length = m := ⟨_, rfl⟩
   obtain ⟨ha, hc, rfl, hsl, _⟩ := hst.h.sl
   obtain ⟨mh, hmh⟩ : ∃ mh, H.length = mh := ⟨_, rfl⟩
   try simp only at hst
   try simp only at hsl
   rw [hm, hmh] at hst
   rw [hmh] at hsl
   have HM := Lib.hid hm
   have HMH := Lib.hid hmh
   have SW := Lib.hid hst
   have HSL := Lib.hid hsl
   clear hm hmh hst hsl
   obtain ⟨c0, c1, c2⟩ := cells3 SW.out.b
   have gL := SW.out.b.lt
   go_wp2
   clear c0 c1 c2 gL
   obtain ⟨W7, rfl⟩ : ∃ W7, wr = W7 := ⟨_, rfl⟩
   go_loopw [46] (fun i wr => ∃ k : Nat, k ≤ mh ∧ i = .int .i64 k ∧ (holesR l C0 (H.take k)).2.2 = 0 ∧ RdSt g ⟨(holesR l C0 (H.take k)).1, l, H⟩ (.slice ca m cc) vl (.slice ha mh hc) wr ∧ Below g w2 wr) (fun i _ => mh - (intOf i).toNat)
   case atStart => exact ⟨0, Nat.zero_le _, rfl, rfl, SW.out, HB.out⟩
   case round =>
    obtain ⟨k, hk, rfl, hok, hst, hb⟩ := hrel
    obtain ⟨C, hC⟩ : ∃ C, (holesR l C0 (H.take k)).1 = C := ⟨_, rfl⟩
    rw [hC] at hst
    have hCl : C.length = m := by rw [← hC, holes_len]; exact HM.out
    have HB := Lib.hid hb
    by_cases hlt : k < mh
    ·have q2 : (0 : Int) ≤ k := by omega
     have q3 : (k : Int) < mh := by omega
     obtain ⟨x, hx⟩ : ∃ x, H[k]? = some x := ⟨_, List.getElem?_eq_getElem (by have := HMH.out; omega)⟩
     obtain ⟨ao, c', e', hsl2, _⟩ := hst.h.sl
     injection e' with e1 e2 e3
     subst e1
     clear e2 e3
     rw [show (RdV.mk C l H).holes.length = mh from HMH.out] at hsl2
     obtain ⟨ad, hao, hab, e0, e1, e2', e3', e4, e5, e6⟩ := sl_HoleV hsl2 hlt hx
     subst hao
     have hmem := List.mem_of_getElem? hx
     have hat : 0 ≤ x.at_ ∧ x.at_ < (C0.length : Int) := HI.out.h1 x hmem
     rw [show C0.length = m from HM.out] at hat
     have htk := holes_take hx hok
     rw [hC] at htk
     have hfb := find_bd (l := l) (s := x.name) (b := m) (fun y hy => by have h8 := HI.out.l1 y hy; have h9 : y.at_ ≤ (C0.length : Int) := h8.2.2; rw [show C0.length = m from HM.out] at h9; exact ⟨h8.2.1, h9⟩) (by omega)
     have hmh150 : mh ≤ 150 := by have h9 : H.length ≤ 150 := HLL.out.2.2; rw [show H.length = mh from HMH.out] at h9; exact h9
     have hm150 : m ≤ 150 := by have h9 : C0.length ≤ 150 := HLL.out.1; rw [show C0.length = m from HM.out] at h9; exact h9
     obtain ⟨hl, ha', ⟨io, ia, ib, ic⟩, nm⟩ := x
     try simp only at hat
     try simp only at htk
     try simp only at hfb
     try simp only at e0
     try simp only at e1
     try simp only at e2'
     try simp only at e3'
     try simp only at e4
     try simp only at e5
     try simp only at e6
     try simp only at hmem
     obtain ⟨a, rfl⟩ := Int.eq_ofNat_of_zero_le hat.1
     have ham : a < m := by omega
     obtain ⟨tz, hto⟩ : ∃ tz, findA l nm = tz := ⟨_, rfl⟩
     rw [show HoleV.filled ⟨hl, (a : Int), ⟨io, ia, ib, ic⟩, nm⟩ l = ⟨io, ia, ib, tz - (a : Int)⟩ by unfold HoleV.filled; rw [← hto], Int.toNat_natCast] at htk
     obtain ⟨w5, hw5⟩ : ∃ w5, w5 = wr.alloc (.cells #[.int .i64 hl, .int .i64 (a : Int), .int .i64 io, .int .i64 ia, .int .i64 ib, .int .i64 ic, .string nm] 179) := ⟨_, rfl⟩
     obtain ⟨gx, hgx⟩ : ∃ gx, gx = wr.heap.size := ⟨_, rfl⟩
     have b5 : Below wr.heap.size wr w5 := by rw [hw5]; exact ext_alloc (Below.refl _ _) _
     have x5 : Bk w5 gx 179 #[.int .i64 hl, .int .i64 (a : Int), .int .i64 io, .int .i64 ia, .int .i64 ib, .int .i64 ic, .string nm] := by rw [hw5, hgx]; exact bk_new _ _ _
     have s5 := hst.below b5
     have ggx : g < gx := by rw [hgx]; exact hst.b.lt
     have hap := hst.apart
     rw [← hgx] at hap
     have HAP := Lib.hid hap
     clear hap
     have u5 : Below g w2 w5 := HB.out.trans (b5.mono hst.gle)
     have fi := rfind_any g ⟨C, l, H⟩ _ _ _ nm w5 s5
     simp only [hto] at fi htk hfb
     have FI := Lib.hid fi
     have HW5 := Lib.hid hw5
     have HGX := Lib.hid hgx
     have X5 := Lib.hid x5
     have S5 := Lib.hid s5
     have U5 := Lib.hid u5
     have HTK := Lib.hid htk
     clear fi hw5 hgx b5 x5 s5 u5 htk hst hb hsl2 hmem hx
     go_upto_region 15 with (fail)
     rw [← HW5.out, ← HGX.out]
     clear e0 e1 e2' e3' e4 e5 e6 hab
     obtain ⟨y0, y1, y2, y3, y4, y5, y6⟩ := cells7h X5.out
     have yL := X5.out.lt
     go_upto_region 16 with (go_at_call 89; ((with_reducible refine FI.out.mono ?_); rintro e w6 ⟨rfl, hb6⟩; have X6 := Lib.hid (bk_keep hb6 X5.out); have S6 := Lib.hid (S5.out.below hb6); have U6 := Lib.hid (U5.out.trans (hb6.mono S5.out.gle)); clear hb6))
     clear y0 y1 y2 y3 y4 y5 y6 yL
     obtain ⟨y0, y1, y2, y3, y4, y5, y6⟩ := cells7h X6.out
     have yL := X6.out.lt
     have yF := fun i => X6.out.frozen i
     by_cases h0 : tz < 0
     ·have ht := HTK.out
      rw [if_pos h0] at ht
      have h2 : (holesR l C0 (H.take (k + 1))).2.2 ≠ 0 := by rw [ht]; show (7 : Int) ≠ 0; decide
      have h3 := HRD.out
      rw [holes_cut h2, ht, if_pos (show (7 : Int) ≠ 0 by decide)] at h3
      have H3 := Lib.hid h3
      clear ht h2 h3 hok hC
      go_upto_region 17 with (fail)
      go_quiet (fail)
      go_wp2
      refine bodyPost_ret (v := .tuple #[.slice none 0 0, .slice none 0 0, .int .i64 hl, .int .i64 7]) (by simp [results, Tryz.results48, go_sem]; try rfl) rfl ?_
      exact read_err w _ _ _ _ H3.out (ext_drewN (B2.out.trans (U6.out.mono hgsg)) _)
     ·have hwr : IntKind.i64.wrap (tz - (a : Int)) = tz - (a : Int) := IntWalk.i64_in _ ⟨by omega, by omega⟩
      have pk := fun W (hW : Tab W) => ipack_any io ia ib (tz - (a : Int)) W hW
      have ht := HTK.out
      rw [if_neg h0] at ht
      obtain ⟨v, hv⟩ : ∃ v, tz - (a : Int) = v := ⟨_, rfl⟩
      rw [hv] at ht
      simp only [hv] at pk
      obtain ⟨w7, hw7⟩ : ∃ w7, w7 = w6.setCell ⟨gx, 5, none⟩ (.int .i64 v) := ⟨_, rfl⟩
      have X7 := Lib.hid (show Bk w7 gx 179 #[.int .i64 hl, .int .i64 (a : Int), .int .i64 io, .int .i64 ia, .int .i64 ib, .int .i64 v, .string nm] by rw [hw7]; exact bk_set' X6.out rfl)
      have S7 := Lib.hid (show RdSt g ⟨C, l, H⟩ (.slice ca m cc) vl (.slice (some ad) mh hc) w7 by rw [hw7]; exact S6.out.far HAP.out (by omega) _ _)
      have U7 := Lib.hid (show Below g w2 w7 by rw [hw7]; exact U6.out.setCell (by show g ≤ gx; omega) _)
      have HW7 := Lib.hid hw7
      clear hw7
      go_upto_region 19 with (fail)
      try rw [show tz - (a : Int) = v from hv]
      rw [← HW7.out]
      clear y0 y1 y2 y3 y4 y5 y6 yL yF
      obtain ⟨y0, y1, y2, y3, y4, y5, y6⟩ := cells7h X7.out
      have yL := X7.out.lt
      have hew : PEnv w7 := HE.out.below (B2.out.trans (U7.out.mono hgsg))
      have PK := Lib.hid (pk w7 hew.asc)
      clear pk hew
      cases hk : instOk ⟨io, ia, ib, v⟩
      ·rw [hk] at PK
       simp only [hk, Bool.false_eq_true, if_false] at ht
       have h2 : (holesR l C0 (H.take (k + 1))).2.2 ≠ 0 := by rw [ht]; show (13 : Int) ≠ 0; decide
       have h3 := HRD.out
       rw [holes_cut h2, ht, if_pos (show (13 : Int) ≠ 0 by decide)] at h3
       have H3 := Lib.hid h3
       simp only [Bool.false_eq_true, if_false] at PK
       clear ht h2 h3 hok hC hk
       go_upto_region 20 with (go_at_call 18; ((with_reducible refine PK.out.mono ?_); rintro e w8 ⟨rfl, hb8⟩; have X8 := Lib.hid (bk_keep hb8 X7.out); have U8 := Lib.hid (U7.out.trans (hb8.mono S7.out.gle)); clear hb8))
       clear y0 y1 y2 y3 y4 y5 y6 yL
       obtain ⟨y0, y1, y2, y3, y4, y5, y6⟩ := cells7h X8.out
       have yL := X8.out.lt
       go_upto_region 21 with (fail)
       go_quiet (fail)
       go_wp2
       refine bodyPost_ret (v := .tuple #[.slice none 0 0, .slice none 0 0, .int .i64 hl, .int .i64 13]) (by simp [results, Tryz.results48, go_sem]; try rfl) rfl ?_
       exact read_err w _ _ _ _ H3.out (ext_drewN (B2.out.trans (U8.out.mono hgsg)) _)
      ·rw [hk] at PK
       simp only [hk, if_true] at ht
       simp only [if_true] at PK
       obtain ⟨P, hP⟩ : ∃ P, packF ⟨io, ia, ib, v⟩ = P := ⟨_, rfl⟩
       rw [hP] at PK ht
       have HT := Lib.hid ht
       clear ht hok hC hk hP
       go_upto_region 20 with (go_at_call 18; ((with_reducible refine PK.out.mono ?_); rintro e w8 ⟨rfl, hb8⟩; have X8 := Lib.hid (bk_keep hb8 X7.out); have S8 := Lib.hid (S7.out.below hb8); have U8 := Lib.hid (U7.out.trans (hb8.mono S7.out.gle)); clear hb8))
       clear y0 y1 y2 y3 y4 y5 y6 yL
       obtain ⟨y0, y1, y2, y3, y4, y5, y6⟩ := cells7h X8.out
       have yL := X8.out.lt
       obtain ⟨gc, cap, e', _, _, hslc, hfc⟩ := Own.some S8.out.c (by simp only; omega)
       injection e' with e1 e2 e3
       subst e1
       clear e2 e3
       obtain ⟨z0, z1, z2⟩ := cells3 S8.out.b
       have zL := S8.out.b.lt
       have gcL : gc < w8.heap.size := (own_span S8.out.c rfl).2
       have q7 : (0 : Int) ≤ (a : Int) := by omega
       have q8 : (a : Int) < (m : Int) := by omega
       obtain ⟨so, hgc⟩ := S8.out.setAt hCl ham P
       have SO := Lib.hid so.drew
       have UO := Lib.hid (show Below g w2 (w8.setCell ⟨gc, a, none⟩ (.int .i64 P)).drew from (U8.out.setCell (by show g ≤ gc; omega) _).drew)
       obtain ⟨cx, hcx⟩ : ∃ cx, w8.cell? ⟨gc, a, none⟩ = some cx := by
        obtain ⟨a0, e0, hb0, hcc⟩ := hslc.row (by simp only; omega)
        injection e0 with e0
        subst e0
        exact ⟨.int .i64 C[a], by have := hcc a (.int .i64 C[a]) (by rw [cls_get hCl ham]); rwa [Addr.add_lit, Nat.zero_add] at this⟩
       clear so hslc hgc
       go_upto_region 22 with (fail)
       go_region
       go_wp2
       go_roundw
       case rel => exact ⟨k + 1, by omega, by go_num, by rw [HT.out], by rw [HT.out]; exact SO.out, UO.out⟩
       case measure => simp [intOf]; omega
    ·have q3 : ¬ ((k : Int) < mh) := by omega
     rw [List.take_of_length_le (by have := HMH.out; omega)] at hok hC
     have h3 := HRD.out
     try simp only at h3
     rw [if_neg (by rw [hok]; simp), hC] at h3
     have H3 := Lib.hid h3
     clear h3 hok hC
     obtain ⟨la, lN, lc, rfl⟩ := own_shape hst.l
     obtain ⟨c0, c1, c2⟩ := cells3 hst.b
     have gL := hst.b.lt
     have fc := hst.c.mono hgsg
     have fl := hst.l.mono hgsg
     have FC := Lib.hid fc
     have FL := Lib.hid fl
     clear hst hb fc fl
     go_upto_region 24 with (fail)
     go_quiet (fail)
     go_wp2
     refine bodyPost_ret (v := .tuple #[(.slice ca m cc), (.slice la lN lc), .int .i64 0, .int .i64 0]) (by simp [results, Tryz.results48, go_sem]; try rfl) rfl ?_
     exact ⟨_, _, by rw [H3.out], by rw [H3.out]; exact FC.out.below (ext_drewN (Below.refl _ _) _), by rw [H3.out]; exact FL.out.below (ext_drewN (Below.refl _ _) _), ext_drewN (B2.out.trans (HB.out.mono hgsg)) _⟩
end Go.Proofs.YtpjhjefjbkjhkaaGreatDoor
