/- The walk of HeapAgain. -/
import Derived.Test.YtlbhnkbchiklnaaHeapWhole
import Derived.Test.YtlbhnkbchiklnaaPieceEq
namespace Go.Proofs.Ytlbhnkbchiklnaa
open El (cl)
open Go.RowKit
set_option linter.unusedVariables false
set_option linter.unusedSimpArgs false
theorem add_moreKey (a : Addr) (i j : Nat) (hj : 0 < j) : a.add (i + j) = ⟨(a.add i).block, (a.add i).off + j, none⟩ := by
  unfold Addr.add
  rw [if_neg (by omega)]
  by_cases hi : i = 0
  · subst hi; simp
  · rw [if_neg hi]; simp [Nat.add_assoc]
theorem sl_keyA {w : World} {ao : Option Addr} {n : Nat} {ks : List KeyV} (h : Sl w ao n ks) {i : Nat} (hi : i < n) {x : KeyV} (hx : ks[i]? = some x) : ∃ a, ao = some a ∧ (a.add (i * 5)).block < w.heap.size ∧
    w.cell? (a.add (i * 5)) = some (.int .i64 x.perm) ∧ w.cell? ⟨(a.add (i * 5)).block, (a.add (i * 5)).off + 1, none⟩ = some (.int .i64 x.base) ∧ w.cell? ⟨(a.add (i * 5)).block, (a.add (i * 5)).off + 2, none⟩ = some (.int .i64 x.len)
    ∧ w.cell? ⟨(a.add (i * 5)).block, (a.add (i * 5)).off + 3, none⟩ = some (.int .i64 x.at_) ∧ w.cell? ⟨(a.add (i * 5)).block, (a.add (i * 5)).off + 4, none⟩ = some (.int .i64 x.seal_) := by
  obtain ⟨a, y, e, hb, hy, hc⟩ := h.at hi
  obtain rfl : y = x := by rw [hx] at hy; injection hy with hy; exact hy.symm
  refine ⟨a, e, by rw [el_block]; exact hb, ?_⟩
  rw [← add_moreKey a (i * 5) 1 (by decide), ← add_moreKey a (i * 5) 2 (by decide), ← add_moreKey a (i * 5) 3 (by decide), ← add_moreKey a (i * 5) 4 (by decide)]
  exact ⟨hc 0 _ rfl, hc 1 _ rfl, hc 2 _ rfl, hc 3 _ rfl, hc 4 _ rfl⟩
theorem lit_slp {w : World} {T : TypeId} (g : Nat) (cs : Array Value) (k : PieceV) (hc : cs.toList = cl k) (hg : g = w.heap.size) : Sl (w.alloc (.cells cs T)) (some ⟨g, 0, none⟩) 1 [k] := by
  subst hg
  have h0 := own_lit (xs := [k]) w T 0 (Nat.zero_le _) cs 1 rfl (by decide) (by rw [hc, cls_one])
  obtain ⟨ao, c, e, h, _⟩ := h0.sl
  injection e with e _ _
  subst e
  simpa using h
theorem hinv_done {base n : Int} {ps : List PieceV} (h : HInv base n ps []) (hb : 0 ≤ base) (hn : 1 ≤ n) : cleanF ps = ([⟨base, n, 0⟩], 0) := by
  obtain ⟨e, _⟩ := hinv_clean h hb
  rw [e]
  obtain ⟨i1, i2, i3, _, i5⟩ := clean_ok h.err hb h.cov
  have hg : gl (cleanL ps) = [] := by
    rw [i3]
    have := h.keys.length_eq
    rw [List.length_map] at this
    exact List.eq_nil_of_length_eq_zero (by simpa using this.symm)
  have hz : ∀ p ∈ cleanL ps, p.state = 0 := by
    intro p hp
    rcases i5 p hp with h | h
    · exact h
    · have : (p.base, p.len) ∈ gl (cleanL ps) := mem_gl.2 ⟨p, hp, h, rfl⟩
      rw [hg] at this
      cases this
  obtain ⟨h1, _⟩ := all_free i1 hz (fun q h => by cases h)
  generalize cleanL ps = m at *
  match m, i2, h1, hz with
  | [], i2, _, _ => unfold cov at i2; omega
  | [p], i2, _, hz =>
    obtain ⟨c1, c2⟩ := i2
    have h0 := hz p (by simp)
    obtain ⟨pb, pl, ps⟩ := p
    simp only at c1 c2 h0
    unfold cov at c2
    have : pl = n := by omega
    subst this c1 h0
    rfl
theorem hinv_next {base n : Int} {ps : List PieceV} {K : List KeyV} {k : Nat} {q : KeyV} (h : HInv base n ps (K.drop k)) (hq : K[k]? = some q) : ∃ m, backF ps q.base = (m, 0) ∧ HInv base n m (K.drop (k + 1)) := by
  obtain ⟨m, e, hi⟩ := hinv_back (j := 0) h (k := q) (by rw [List.getElem?_drop]; simpa using hq)
  refine ⟨m, e, ?_⟩
  simpa [List.drop_drop] using hi
set_option maxHeartbeats 2000000 in
set_option maxRecDepth 100000 in
theorem heapAgain_walk {w : World} (base n : Int) (l : SlV TurnV) (hbase : (Lit.int .i64 base).wf = true) (hn : (Lit.int .i64 n).wf = true) (hl : l.ok TurnV.wf w) :
    Calls Try.prog 12 #[.int .i64 base, .int .i64 n, l.val] w fun e w' => e = .returned (.bool true) ∧ Below w.heap.size w w' := by
  obtain ⟨ao, N, cap, ts⟩ := l
  obtain ⟨hsl, htw, _⟩ := hl
  simp only [SlV.val] at hsl htw ⊢
  have h0 : 0 ≤ base % 390 := by omega
  have h1 : base % 390 < 390 := by omega
  have h2 : 0 ≤ n % (400 - base % 390) := Int.emod_nonneg _ (by omega)
  have h3 : n % (400 - base % 390) < 400 - base % 390 := Int.emod_lt_of_pos _ (by omega)
  have rg := fun W => ranged_any base n W
  generalize n % (400 - base % 390) = r at *
  generalize base % 390 = b at *
  have hp := heaped_any b (r + 1) ao N cap ts w hsl htw h0 (by omega) (by omega) (by omega)
  have RG := Lib.hid rg
  have HP := Lib.hid hp
  clear rg hp hsl htw
  go_enter Try.func12, Try.ntmps12
  go_wp2_with (first
    | (go_at_call 38; ((with_reducible refine (RG.out _).mono ?_); rintro e w' ⟨rfl, rfl⟩))
    | (go_at_call 39; ((with_reducible refine HP.out.mono ?_); rintro e w1 ⟨v, u, ps, K, rfl, hoh, hok, hinv, hb⟩; obtain ⟨hao, hcap, rfl, hsh, _⟩ := hoh.sl; obtain ⟨kao, kcap, rfl, hsk, _⟩ := hok.sl; have HSH := Lib.hid hsh; have HSK := Lib.hid hsk; have HIN := Lib.hid hinv; have HB := Lib.hid hb; have hkl := hinv.many; clear hoh hok hinv hb hsh hsk)))
  go_loopw [7, 32] (fun h i wr => ∃ (k : Nat) (ps' : List PieceV) (bo : Option Addr) (bc : Nat), k ≤ K.length ∧ i = .int .i64 k ∧ h = .slice bo ps'.length bc ∧ HInv b (r + 1) ps' (K.drop k) ∧ Sl wr bo ps'.length ps' ∧ Below w.heap.size w wr ∧ Below w1.heap.size w1 wr) (fun _ i _ => K.length - (intOf i).toNat)
  case atStart => exact ⟨0, ps, hao, hcap, Nat.zero_le _, rfl, rfl, HIN.out, HSH.out, HB.out, Below.refl _ _⟩
  case round =>
    obtain ⟨k, qs, bo, bc, hk, rfl, rfl, hiv, hsr, hbw, hb1⟩ := hrel
    by_cases hlt : k < K.length
    · obtain ⟨q, hq⟩ : ∃ q, K[k]? = some q := ⟨_, List.getElem?_eq_getElem hlt⟩
      obtain ⟨m, hm, hiv'⟩ := hinv_next hiv hq
      obtain ⟨ad, rfl, hab, e0, e1, e2, e3, e4⟩ := sl_keyA (HSK.out.below hb1) hlt hq
      have hk63 : (k : Int) ≤ 100 := by omega
      have bk := fun W (h : Sl W bo qs.length qs) => hback_any bo _ bc qs q.base W h
      simp only [hm] at bk
      unfold ResPost at bk
      obtain ⟨kp, kb, kl, ka, ks⟩ := q
      simp only at bk e0 e1 e2 e3 e4
      have BK := Lib.hid bk
      have HI := Lib.hid hiv'
      have HBW := Lib.hid hbw
      have HB1 := Lib.hid hb1
      have HSR := Lib.hid hsr
      clear bk hm hiv hiv' hbw hb1 hsr hq
      go_wp2_with (go_at_call 42; ((with_reducible refine (BK.out _ (HSR.out.alloc _)).mono ?_); rintro e w2 ⟨v2, rfl, ho2, hb2⟩; obtain ⟨ao2, cap2, rfl, hs2, _⟩ := ho2.sl; have HS2 := Lib.hid hs2; have HB2 := Lib.hid hb2; clear ho2 hb2 hs2))
      go_roundw
      case rel => exact ⟨k + 1, m, ao2, cap2, by omega, by go_num, rfl, HI.out, HS2.out, ext_trans (ext_alloc HBW.out _) HB2.out, ext_trans (ext_alloc HB1.out _) HB2.out⟩
      case measure => simp [intOf]; omega
    · have hnlt : ¬ ((k : Int) < K.length) := by omega
      rw [List.drop_of_length_le (by omega)] at hiv
      have hd := hinv_done hiv h0 (by omega)
      have ck := hclean_any bo _ bc qs wr hsr
      rw [hd] at ck
      unfold ResPost at ck
      have eqc := fun W (ao : Option Addr) (c d : Nat) (h : Sl W ao 1 [(⟨b, r + 1, 0⟩ : PieceV)]) => eq_piece ao (some ⟨W.heap.size, 0, none⟩) 1 1 c d _ _ (W.alloc (.cells #[.int .i64 b, .int .i64 (r + 1), .int .i64 0] 72)) (h.alloc _) (lit_slp W.heap.size _ ⟨b, r + 1, 0⟩ rfl rfl)
      simp only [decide_true] at eqc
      have CK := Lib.hid ck
      have EQ := Lib.hid eqc
      have HBW := Lib.hid hbw
      clear hd hiv ck eqc hbw hb1 hsr
      go_wp2_with (first
        | (go_at_call 43; ((with_reducible refine CK.out.mono ?_); rintro e w2 ⟨v2, rfl, ho2, hb2⟩; obtain ⟨ao2, cap2, rfl, hs2, _⟩ := ho2.sl; have HS2 := Lib.hid hs2; have HB2 := Lib.hid hb2; clear ho2 hb2 hs2))
        | (go_at_call 44; ((with_reducible refine (EQ.out _ _ _ _ HS2.out).mono ?_); rintro e w3 ⟨rfl, hb3⟩; have HB3 := Lib.hid hb3; clear hb3)))
      go_ret
      exact ⟨rfl, ext_trans (ext_alloc (ext_trans HBW.out HB2.out) _) HB3.out⟩
end Go.Proofs.Ytlbhnkbchiklnaa
