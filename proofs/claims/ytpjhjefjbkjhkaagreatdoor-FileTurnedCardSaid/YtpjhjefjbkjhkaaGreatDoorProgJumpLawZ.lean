import Derived.Test.YtpjhjefjbkjhkaaGreatDoorProgLinesZ
/- A jump to a label leads to its position: plain lists. -/
namespace Go.Proofs.YtpjhjefjbkjhkaaGreatDoor
open Go Go.RowKit
set_option linter.unusedVariables false
set_option linter.unusedSimpArgs false
structure RInv (r : RdV) : Prop where
  h1 : ∀ h ∈ r.holes, 0 ≤ h.at_ ∧ h.at_ < r.code.length
  h2 : r.holes.Pairwise fun a b => a.at_ < b.at_
  l1 : ∀ x ∈ r.labels, isNameB x.name = true ∧ 0 ≤ x.at_ ∧ x.at_ ≤ r.code.length
  l2 : r.labels.Pairwise fun a b => a.name ≠ b.name
theorem rd0_inv : RInv rd0 := ⟨by simp [rd0], by simp [rd0], by simp [rd0], by simp [rd0]⟩
theorem findA_no {l : List NamV} {s : ByteArray} (hl : ∀ x ∈ l, 0 ≤ x.at_) (h : findA l s < 0) : ∀ x ∈ l, x.name ≠ s := by
  intro x hx e
  unfold findA at h
  cases hf : l.find? (fun x => decide (x.name = s)) with
  | none =>
    rw [List.find?_eq_none] at hf
    exact hf x hx (by simpa using e)
  | some y =>
    rw [hf] at h
    have := hl y (List.mem_of_find?_eq_some hf)
    simp only at h
    omega
theorem findA_at : ∀ {l : List NamV} {x : NamV}, l.Pairwise (fun a b => a.name ≠ b.name) → x ∈ l → findA l x.name = x.at_
  | [], x, _, h => by cases h
  | y :: l, x, hp, h => by
    rw [List.pairwise_cons] at hp
    unfold findA
    by_cases e : y.name = x.name
    · have : y = x := by
        rcases List.mem_cons.1 h with h1 | h1
        · exact h1.symm
        · exact absurd e (hp.1 x h1)
      subst this
      rw [List.find?_cons_of_pos (by simp)]
    · rw [List.find?_cons_of_neg (by simpa using e)]
      rcases List.mem_cons.1 h with h1 | h1
      · subst h1; exact absurd rfl e
      · exact findA_at hp.2 h1
theorem line_inv {r : RdV} (hi : RInv r) {n : Int} {s : List UInt8} (h : (lineR r n s).2 = 0) : RInv (lineR r n s).1 := by
  obtain ⟨a1, a2, a3, a4⟩ := hi
  have more : ∀ k : Int, RInv ⟨r.code ++ [k], r.labels, r.holes⟩ := fun k =>
    ⟨fun x hx => by have := a1 x hx; simp only [List.length_append, List.length_singleton]; push_cast; omega, a2, fun x hx => by have := a3 x hx; simp only [List.length_append, List.length_singleton]; push_cast; exact ⟨this.1, this.2.1, by omega⟩, a4⟩
  unfold lineR at h ⊢
  split
  · exact ⟨a1, a2, a3, a4⟩
  next h1 =>
  rw [if_neg h1] at h
  split
  · next h2 =>
    rw [if_pos h2] at h
    unfold labelR at h ⊢
    split
    · exact ⟨a1, a2, a3, a4⟩
    next g1 =>
    split
    · exact ⟨a1, a2, a3, a4⟩
    next g2 =>
    have g2' := Int.not_le.1 g2
    split
    · exact ⟨a1, a2, a3, a4⟩
    refine ⟨a1, a2, fun x hx => ?_, ?_⟩
    · rcases List.mem_append.1 hx with h3 | h3
      · exact a3 x h3
      · rw [List.mem_singleton] at h3
        subst h3
        exact ⟨by simpa using g1, by simp only; omega, Int.le_refl _⟩
    · refine List.pairwise_append.2 ⟨a4, List.pairwise_singleton _ _, fun x hx y hy => ?_⟩
      rw [List.mem_singleton] at hy
      subst hy
      exact findA_no (fun z hz => (a3 z hz).2.1) g2' x hx
  next h2 =>
  rw [if_neg h2] at h
  split
  · exact ⟨a1, a2, a3, a4⟩
  next h3 =>
  rw [if_neg h3] at h
  unfold cellR at h ⊢
  split
  · split
    · exact more _
    · exact ⟨a1, a2, a3, a4⟩
  split
  · obtain ⟨b1, b2, b3, b4⟩ := more 0
    refine ⟨fun x hx => ?_, ?_, b3, b4⟩
    · rcases List.mem_append.1 hx with h3 | h3
      · exact b1 x h3
      · rw [List.mem_singleton] at h3
        subst h3
        simp only [List.length_append, List.length_singleton]
        push_cast; omega
    · refine List.pairwise_append.2 ⟨a2, List.pairwise_singleton _ _, fun x hx y hy => ?_⟩
      rw [List.mem_singleton] at hy
      subst hy
      exact (a1 x hx).2
  split
  · exact more _
  · exact ⟨a1, a2, a3, a4⟩
theorem lines_inv : ∀ (ls : List (List UInt8)) (r : RdV) (n : Nat), RInv r → (linesR r n ls).2.2 = 0 → RInv (linesR r n ls).1
  | [], r, n, hi, _ => hi
  | s :: ls, r, n, hi, h => by
    rw [lines_cons] at h ⊢
    split
    · next hk => rw [if_pos hk] at h; exact lines_inv ls _ _ (line_inv hi hk) h
    · next hk => rw [if_neg hk] at h; exact absurd h hk
theorem line_keeps {r : RdV} {n : Int} {s : List UInt8} : (∀ h ∈ r.holes, h ∈ (lineR r n s).1.holes) ∧ (∃ t, (lineR r n s).1.code = r.code ++ t) := by
  unfold lineR labelR cellR
  repeat' split
  all_goals first
    | exact ⟨fun h hh => hh, _, rfl⟩
    | exact ⟨fun h hh => hh, [], (List.append_nil _).symm⟩
    | exact ⟨fun h hh => List.mem_append.2 (.inl hh), _, rfl⟩
theorem lines_keeps : ∀ (ls : List (List UInt8)) (r : RdV) (n : Nat), (∀ h ∈ r.holes, h ∈ (linesR r n ls).1.holes) ∧ (∃ t, (linesR r n ls).1.code = r.code ++ t)
  | [], r, n => ⟨fun h hh => hh, [], by simp [linesR]⟩
  | s :: ls, r, n => by
    rw [lines_cons]
    obtain ⟨a, t, e⟩ := line_keeps (r := r) (n := (n : Int) + 1) (s := s)
    split
    · obtain ⟨b, u, e2⟩ := lines_keeps ls (lineR r ((n : Int) + 1) s).1 (n + 1)
      exact ⟨fun h hh => b h (a h hh), t ++ u, by rw [e2, e, List.append_assoc]⟩
    · exact ⟨a, t, e⟩
theorem holes_far : ∀ (hs : List HoleV) (labels : List NamV) (code : List Int) (k : Nat), (∀ h ∈ hs, 0 ≤ h.at_ ∧ h.at_ ≠ k) → (holesR labels code hs).1[k]? = code[k]?
  | [], _, _, _, _ => rfl
  | h :: hs, labels, code, k, hh => by
    rw [holes_cons]
    split
    · rfl
    split
    · rw [holes_far hs _ _ _ fun x hx => hh x (List.mem_cons_of_mem _ hx)]
      have := hh h (by simp)
      rw [List.getElem?_set_ne (by omega)]
    · rfl
theorem holes_fill : ∀ (hs : List HoleV) (labels : List NamV) (code : List Int), (holesR labels code hs).2.2 = 0 → hs.Pairwise (fun a b => a.at_ < b.at_) → (∀ h ∈ hs, 0 ≤ h.at_ ∧ h.at_ < code.length) →
    ∀ h ∈ hs, 0 ≤ findA labels h.name ∧ instOk (h.filled labels) = true ∧ (holesR labels code hs).1[h.at_.toNat]? = some (packF (h.filled labels))
  | [], _, _, _, _, _, h, hh => by cases hh
  | g :: hs, labels, code, h0, hp, hb, h, hh => by
    rw [List.pairwise_cons] at hp
    rw [holes_cons] at h0 ⊢
    split
    · next h1 => rw [if_pos h1] at h0; cases h0
    next h1 =>
    rw [if_neg h1] at h0
    split
    · next h2 =>
      rw [if_pos h2] at h0
      have g0 := hb g (by simp)
      rcases List.mem_cons.1 hh with e | e
      · subst e
        refine ⟨by omega, h2, ?_⟩
        rw [holes_far hs _ _ _ fun x hx => ⟨(hb x (List.mem_cons_of_mem _ hx)).1, by have := hp.1 x hx; omega⟩]
        rw [List.getElem?_set_self (by omega)]
      · exact holes_fill hs labels _ h0 hp.2 (fun x hx => by rw [List.length_set]; exact hb x (List.mem_cons_of_mem _ hx)) h e
    · next h2 => rw [if_neg h2] at h0; cases h0
theorem split_head (c : UInt8) : ∀ s : List UInt8, (splitC c s).headD [] = s.takeWhile (fun x => x != c)
  | [] => rfl
  | b :: s => by
    unfold splitC
    by_cases h : b = c
    · rw [if_pos h, List.takeWhile_cons]
      simp [h]
    · rw [if_neg h, List.takeWhile_cons]
      have h1 : (b != c) = true := by simpa using h
      rw [if_pos h1, ← split_head c s]
      cases hs : splitC c s with
      | nil => exact absurd hs (splitC_ne c s)
      | cons y ys => rfl
theorem word_first {s : List UInt8} (h : Lib.hasPrefix s wordP = true) : s.takeWhile (fun c => c != 32) = [119, 111, 114, 100] := by
  unfold Lib.hasPrefix at h
  rw [List.isPrefixOf_iff_prefix] at h
  obtain ⟨t, e⟩ := h
  rw [← e]
  unfold wordP; simp
/-- A line that names a label behind jump or if leads to it. -/
theorem jumps_law {text : List UInt8} (h : (readF text).er = 0) {j : Nat} {s : List UInt8} (hs : (splitC 10 text)[j]? = some s) (hc : isCell s = true) :
    ∃ v, (readF text).code[cellsN ((splitC 10 text).take j)]? = some v ∧ ∀ a b, s = a ++ 32 :: b → (32 : UInt8) ∉ b → (s.takeWhile (fun c => c != 32) = wordL 8 ∨ s.takeWhile (fun c => c != 32) = wordL 9) →
      ∀ x ∈ (readF text).labels, x.name = ba b → instOk (unpack v) = true ∧ (cellsN ((splitC 10 text).take j) : Int) + (unpack v).c = x.at_ := by
  obtain ⟨hk, _⟩ := read_ok h
  generalize (readF text).code = c at *
  generalize (readF text).labels = l at *
  obtain ⟨hn, h1, h2, h3, h4⟩ := hk
  generalize hls : splitC 10 text = ls at *
  have hcut : ls = ls.take j ++ s :: ls.drop (j + 1) := by
    rw [List.getElem?_eq_some_iff] at hs
    obtain ⟨hj, e⟩ := hs
    rw [← e, ← List.drop_eq_getElem_cons hj, List.take_append_drop]
  have hpre : (linesR rd0 0 (ls.take j)).2.2 = 0 := by
    rcases Decidable.em ((linesR rd0 0 (ls.take j)).2.2 = 0) with e | e
    · exact e
    · rw [hcut, lines_bad _ _ _ _ e] at h1
      exact absurd h1 e
  have happ := lines_app (ls.take j) (s :: ls.drop (j + 1)) rd0 0 hpre
  rw [← hcut] at happ
  generalize hr : (linesR rd0 0 (ls.take j)).1 = r at *
  have hrc : r.code.length = cellsN (ls.take j) := by
    have := (lines_add (ls.take j) rd0 0 hpre).1
    rw [hr] at this
    simpa [rd0] using this
  have hri : RInv r := by
    have := lines_inv (ls.take j) rd0 0 rd0_inv hpre
    rwa [hr] at this
  generalize hm : 0 + (ls.take j).length = m at *
  rw [happ] at h1 h2 h3 h4
  have hfi : RInv (linesR r m (s :: ls.drop (j + 1))).1 := lines_inv _ _ _ hri h1
  have hline : (lineR r ((m : Int) + 1) s).2 = 0 := by
    rw [lines_cons] at h1
    split at h1
    · assumption
    · next hk => exact absurd h1 hk
  have hstep : linesR r m (s :: ls.drop (j + 1)) = linesR (lineR r ((m : Int) + 1) s).1 (m + 1) (ls.drop (j + 1)) := by
    rw [lines_cons]
    rw [if_pos hline]
  obtain ⟨kh, t, kc⟩ := lines_keeps (ls.drop (j + 1)) (lineR r ((m : Int) + 1) s).1 (m + 1)
  rw [← hstep] at kh kc
  generalize hF : (linesR r m (s :: ls.drop (j + 1))).1 = fin at *
  have hadd := (line_adds hline).1
  rw [hc, if_pos rfl] at hadd
  have hlen : cellsN (ls.take j) < c.length := by
    rw [← h4, holes_len, kc, List.length_append]
    omega
  refine ⟨c[cellsN (ls.take j)], List.getElem?_eq_getElem hlen, ?_⟩
  intro a b es hb hw x hx hxn
  have hlab := hfi.l1 x (by rw [h2]; exact hx)
  rw [hxn] at hlab
  have hc2 : isLab s = false ∧ s ≠ [] := by
    unfold isCell at hc
    simp only [Bool.and_eq_true, Bool.not_eq_true'] at hc
    refine ⟨hc.1, ?_⟩
    intro e0; rw [e0] at hc; simp at hc
  have hcell : lineR r ((m : Int) + 1) s = cellR r ((m : Int) + 1) s := by
    have h80 := lineR_ok hline
    unfold lineR
    rw [if_neg (by omega), if_neg (by rw [show Lib.hasSuffix s [58] = false from hc2.1]; simp), if_neg hc2.2]
  rw [hcell] at hline kh kc
  unfold cellR at hline kh kc
  by_cases hp : Lib.hasPrefix s wordP = true
  · exfalso
    rw [word_first hp] at hw
    rcases hw with hw | hw <;> exact absurd hw (by decide)
  rw [if_neg hp] at hline kh kc
  by_cases hh : holeB s = true
  · rw [if_pos hh] at kh
    obtain ⟨a', b', es', hb', hI, hN, _, _, _⟩ := hole_parts hh
    obtain ⟨rfl, rfl⟩ := cut_uniq (es.symm.trans es') hb hb'
    have hmem := kh ⟨(m : Int) + 1, r.code.length, (holeI s).1, holeN s⟩ (List.mem_append.2 (.inr (by simp)))
    obtain ⟨f1, f2, f3⟩ := holes_fill fin.holes l fin.code h3 hfi.h2 hfi.h1 _ hmem
    simp only [Int.toNat_natCast] at f3
    rw [h4, show r.code.length = cellsN (ls.take j) from hrc, List.getElem?_eq_getElem hlen] at f3
    injection f3 with f3
    rw [hrc] at f2
    rw [f3, unpack_pack f2]
    refine ⟨f2, ?_⟩
    have hfx := findA_at (l := l) (by rw [← h2]; exact hfi.l2) hx
    show (cellsN (ls.take j) : Int) + (findA l (holeN s) - (cellsN (ls.take j) : Int)) = x.at_
    rw [hN, ← hxn, hfx]
    omega
  · exfalso
    rw [if_neg hh] at hline
    by_cases h0 : (parseF s).2 = 0
    · obtain ⟨hk, ht⟩ := parse_eta h0
      have f1 := text_first hk
      rw [ht] at f1
      have ho : (parseF s).1.op = 8 ∨ (parseF s).1.op = 9 := by
        have p1 := (opK hk).1
        rcases hw with hw | hw
        · have := word_inj _ (opK hk).2 8 (by decide) (f1.symm.trans hw); omega
        · have := word_inj _ (opK hk).2 9 (by decide) (f1.symm.trans hw); omega
      obtain ⟨p, ep⟩ := jump_form ho
      rw [ht, es] at ep
      obtain ⟨_, eb⟩ := cut_uniq ep hb (itoa_no32 _)
      rw [eb, itoa_noname] at hlab
      cases hlab.1
    · rw [if_neg h0] at hline; cases hline
end Go.Proofs.YtpjhjefjbkjhkaaGreatDoor
