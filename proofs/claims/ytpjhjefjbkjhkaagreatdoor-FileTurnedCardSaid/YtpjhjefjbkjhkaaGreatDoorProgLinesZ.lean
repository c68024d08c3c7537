import Derived.Test.YtpjhjefjbkjhkaaGreatDoorProgLawZ
/- What a program's lines come to: plain lists. -/
namespace Go.Proofs.YtpjhjefjbkjhkaaGreatDoor
open Go Go.RowKit
set_option linter.unusedVariables false
set_option linter.unusedSimpArgs false
def isLab (s : List UInt8) : Bool := Lib.hasSuffix s [58]
def isCell (s : List UInt8) : Bool := !isLab s && !s.isEmpty
/-- Alike but for the numbers of lines. -/
structure Sim (r r' : RdV) : Prop where
  code : r.code = r'.code
  labels : r.labels = r'.labels
  holes : r.holes.map (fun h => (h.at_, h.i, h.name)) = r'.holes.map (fun h => (h.at_, h.i, h.name))
theorem Sim.refl (r : RdV) : Sim r r := ⟨rfl, rfl, rfl⟩
theorem lineR_ok {r : RdV} {n : Int} {s : List UInt8} (h : (lineR r n s).2 = 0) : s.length ≤ 80 := by
  unfold lineR at h
  split at h
  · cases h
  · omega
theorem Sim.line {r r' : RdV} (h : Sim r r') (n n' : Int) (s : List UInt8) : Sim (lineR r n s).1 (lineR r' n' s).1 ∧ (lineR r n s).2 = (lineR r' n' s).2 := by
  obtain ⟨c, l, o⟩ := r
  obtain ⟨c', l', o'⟩ := r'
  obtain ⟨h1, h2, h3⟩ := h
  simp only at h1 h2 h3
  subst h1 h2
  unfold lineR
  split
  · exact ⟨⟨rfl, rfl, h3⟩, rfl⟩
  split
  · unfold labelR
    split
    · exact ⟨⟨rfl, rfl, h3⟩, rfl⟩
    split
    · exact ⟨⟨rfl, rfl, h3⟩, rfl⟩
    split
    · exact ⟨⟨rfl, rfl, h3⟩, rfl⟩
    · exact ⟨⟨rfl, rfl, h3⟩, rfl⟩
  split
  · exact ⟨⟨rfl, rfl, h3⟩, rfl⟩
  · unfold cellR
    split
    · split
      · exact ⟨⟨rfl, rfl, h3⟩, rfl⟩
      · exact ⟨⟨rfl, rfl, h3⟩, rfl⟩
    split
    · refine ⟨⟨rfl, rfl, ?_⟩, rfl⟩
      simp only [List.map_append, h3, List.map_cons, List.map_nil]
    split
    · exact ⟨⟨rfl, rfl, h3⟩, rfl⟩
    · exact ⟨⟨rfl, rfl, h3⟩, rfl⟩
theorem lines_full : ∀ (ls : List (List UInt8)) (r r' : RdV) (n n' : Nat), Sim r r' → (linesR r n ls).2.2 = 0 → Sim (linesR r n ls).1 (linesR r' n' (ls.filter fun s => !s.isEmpty)).1 ∧ (linesR r' n' (ls.filter fun s => !s.isEmpty)).2.2 = 0
  | [], r, r', n, n', h, _ => ⟨h, rfl⟩
  | s :: ls, r, r', n, n', h, h0 => by
    by_cases he : s = []
    · subst he
      rw [lines_cons] at h0 ⊢
      rw [line_empty] at h0 ⊢
      simp only [if_true] at h0 ⊢
      rw [List.filter_cons_of_neg (by simp)]
      exact lines_full ls r r' (n + 1) n' h h0
    · rw [List.filter_cons_of_pos (by cases s <;> simp_all)]
      rw [lines_cons] at h0 ⊢
      obtain ⟨hs, e⟩ := h.line ((n : Int) + 1) ((n' : Int) + 1) s
      rw [lines_cons]
      by_cases hk : (lineR r ((n : Int) + 1) s).2 = 0
      · rw [if_pos hk] at h0 ⊢
        rw [if_pos (show (lineR r' ((n' : Int) + 1) s).2 = 0 by rw [← e]; exact hk)]
        exact lines_full ls _ _ (n + 1) (n' + 1) hs h0
      · rw [if_neg hk] at h0
        exact absurd h0 hk
theorem holes_len : ∀ (hs : List HoleV) (labels : List NamV) (code : List Int), (holesR labels code hs).1.length = code.length
  | [], _, _ => rfl
  | h :: hs, labels, code => by
    rw [holes_cons]
    split
    · rfl
    split
    · rw [holes_len hs]; simp
    · rfl
theorem holes_sim : ∀ (hs hs' : List HoleV) (labels : List NamV) (code : List Int), hs.map (fun h => (h.at_, h.i, h.name)) = hs'.map (fun h => (h.at_, h.i, h.name)) → (holesR labels code hs).1 = (holesR labels code hs').1 ∧ (holesR labels code hs).2.2 = (holesR labels code hs').2.2
  | [], [], _, _, _ => ⟨rfl, rfl⟩
  | [], _ :: _, _, _, h => by cases h
  | _ :: _, [], _, _, h => by cases h
  | h :: hs, h' :: hs', labels, code, e => by
    obtain ⟨n, a, i, nm⟩ := h
    obtain ⟨n', a', i', nm'⟩ := h'
    rw [List.map_cons, List.map_cons] at e
    injection e with e1 e2
    injection e1 with e1 e3
    injection e3 with e3 e4
    simp only at e1 e3 e4
    subst e1 e3 e4
    rw [holes_cons, holes_cons]
    rw [show HoleV.filled ⟨n', a, i, nm⟩ labels = HoleV.filled ⟨n, a, i, nm⟩ labels from rfl]
    generalize HoleV.filled ⟨n, a, i, nm⟩ labels = q
    show (if findA labels nm < 0 then (code, n, (7 : Int)) else if instOk q = true then holesR labels (code.set a.toNat (packF q)) hs else (code, n, 13)).1 = (if findA labels nm < 0 then (code, n', (7 : Int)) else if instOk q = true then holesR labels (code.set a.toNat (packF q)) hs' else (code, n', 13)).1 ∧ (if findA labels nm < 0 then (code, n, (7 : Int)) else if instOk q = true then holesR labels (code.set a.toNat (packF q)) hs else (code, n, 13)).2.2 = (if findA labels nm < 0 then (code, n', (7 : Int)) else if instOk q = true then holesR labels (code.set a.toNat (packF q)) hs' else (code, n', 13)).2.2
    by_cases c1 : findA labels nm < 0
    · rw [if_pos c1, if_pos c1]; exact ⟨rfl, rfl⟩
    rw [if_neg c1, if_neg c1]
    by_cases c2 : instOk q = true
    · rw [if_pos c2, if_pos c2]; exact holes_sim hs hs' labels _ e2
    · rw [if_neg c2, if_neg c2]; exact ⟨rfl, rfl⟩
/-- A line that reads: a label, or a cell, or nothing. -/
theorem line_adds {r : RdV} {n : Int} {s : List UInt8} (h : (lineR r n s).2 = 0) : (lineR r n s).1.code.length = r.code.length + (if isCell s then 1 else 0) ∧ (lineR r n s).1.labels.length = r.labels.length + (if isLab s then 1 else 0) := by
  unfold lineR at h ⊢
  unfold isCell
  split
  · next h1 => rw [if_pos h1] at h; cases h
  · next h1 =>
    rw [if_neg h1] at h
    split
    · next h2 =>
      rw [if_pos h2] at h
      have hl : isLab s = true := h2
      rw [hl]
      unfold labelR at h ⊢
      split
      · next h3 => rw [if_pos h3] at h; cases h
      · next h3 =>
        rw [if_neg h3] at h
        split
        · next h4 => rw [if_pos h4] at h; cases h
        · next h4 =>
          rw [if_neg h4] at h
          split
          · next h5 => rw [if_pos h5] at h; cases h
          · simp
    · next h2 =>
      rw [if_neg h2] at h
      have hl : isLab s = false := by simpa [isLab] using h2
      rw [hl]
      split
      · next h3 => subst h3; simp
      · next h3 =>
        rw [if_neg h3] at h
        have he : s.isEmpty = false := by cases s <;> simp_all
        rw [he]
        unfold cellR at h ⊢
        split
        · next h4 =>
          rw [if_pos h4] at h
          split
          · simp
          · next h5 => rw [if_neg h5] at h; cases h
        · next h4 =>
          rw [if_neg h4] at h
          split
          · simp
          · next h5 =>
            rw [if_neg h5] at h
            split
            · simp
            · next h6 => rw [if_neg h6] at h; cases h
def cellsN (ls : List (List UInt8)) : Nat := (ls.filter isCell).length
def labsN (ls : List (List UInt8)) : Nat := (ls.filter isLab).length
theorem cellsN_cons (s : List UInt8) (ls : List (List UInt8)) : cellsN (s :: ls) = (if isCell s then 1 else 0) + cellsN ls := by
  unfold cellsN
  cases h : isCell s <;> simp [List.filter_cons, h]; omega
theorem labsN_cons (s : List UInt8) (ls : List (List UInt8)) : labsN (s :: ls) = (if isLab s then 1 else 0) + labsN ls := by
  unfold labsN
  cases h : isLab s <;> simp [List.filter_cons, h]; omega
theorem lines_add : ∀ (ls : List (List UInt8)) (r : RdV) (n : Nat), (linesR r n ls).2.2 = 0 → (linesR r n ls).1.code.length = r.code.length + cellsN ls ∧ (linesR r n ls).1.labels.length = r.labels.length + labsN ls
  | [], r, n, _ => ⟨rfl, rfl⟩
  | s :: ls, r, n, h => by
    rw [lines_cons] at h ⊢
    by_cases hk : (lineR r ((n : Int) + 1) s).2 = 0
    · rw [if_pos hk] at h ⊢
      obtain ⟨a, b⟩ := line_adds hk
      obtain ⟨c, d⟩ := lines_add ls _ _ h
      rw [cellsN_cons, labsN_cons]
      omega
    · rw [if_neg hk] at h; exact absurd h hk
theorem full_count (ls : List (List UInt8)) : labsN ls + cellsN ls = (ls.filter fun s => !s.isEmpty).length := by
  induction ls with
  | nil => rfl
  | cons s ls ih =>
    rw [labsN_cons, cellsN_cons]
    cases s with
    | nil => simp [isCell, isLab, Lib.hasSuffix]; exact ih
    | cons c s =>
      rw [List.filter_cons_of_pos (by simp), List.length_cons]
      cases h : isLab (c :: s) <;> simp [isCell, h] <;> omega
structure ReadOk (text : List UInt8) (c : List Int) (l : List NamV) : Prop where
  n : (splitC 10 text).length ≤ 150
  lines : (linesR rd0 0 (splitC 10 text)).2.2 = 0
  labels : (linesR rd0 0 (splitC 10 text)).1.labels = l
  holes : (holesR l (linesR rd0 0 (splitC 10 text)).1.code (linesR rd0 0 (splitC 10 text)).1.holes).2.2 = 0
  code : (holesR l (linesR rd0 0 (splitC 10 text)).1.code (linesR rd0 0 (splitC 10 text)).1.holes).1 = c
theorem line_er {r : RdV} {n : Int} {s : List UInt8} : 0 ≤ (lineR r n s).2 := by
  unfold lineR labelR cellR
  repeat' split
  all_goals simp
theorem read_ok {text : List UInt8} (h : (readF text).er = 0) : ReadOk text (readF text).code (readF text).labels ∧ (readF text).line = 0 := by
  unfold readF at h ⊢
  split
  · next h1 => rw [if_pos h1] at h; cases h
  · next h1 =>
    rw [if_neg h1] at h
    split
    · next h2 => rw [if_pos h2] at h; exact absurd h h2
    · next h2 =>
      rw [if_neg h2] at h
      split
      · next h3 => rw [if_pos h3] at h; exact absurd h h3
      · next h3 => exact ⟨⟨by omega, by simpa using h2, rfl, by simpa using h3, rfl⟩, rfl⟩
theorem read_is {text : List UInt8} {c : List Int} {l : List NamV} (h : ReadOk text c l) : readF text = ⟨c, l, 0, 0⟩ := by
  unfold readF
  rw [if_neg (by have := h.n; omega), if_neg (by rw [h.lines]; simp), h.labels, if_neg (by rw [h.holes]; simp), h.code]
theorem lines_line : ∀ (ls : List (List UInt8)) (r : RdV) (n : Nat), 0 ≤ (linesR r n ls).2.1 ∧ (linesR r n ls).2.1 ≤ n + ls.length
  | [], r, n => by simp [linesR]
  | s :: ls, r, n => by
    rw [lines_cons]
    split
    · have := lines_line ls (lineR r ((n : Int) + 1) s).1 (n + 1)
      rw [List.length_cons]
      push_cast at this ⊢
      omega
    · rw [List.length_cons]; push_cast; omega
theorem line_holes {r : RdV} {n : Int} {s : List UInt8} : ∀ h ∈ (lineR r n s).1.holes, h ∈ r.holes ∨ h.line = n := by
  intro h hh
  unfold lineR labelR cellR at hh
  repeat' split at hh
  all_goals first
    | exact .inl hh
    | (rcases List.mem_append.1 hh with h1 | h1
       · exact .inl h1
       · right; simp at h1; rw [h1])
theorem lines_holes : ∀ (ls : List (List UInt8)) (r : RdV) (n : Nat), ∀ h ∈ (linesR r n ls).1.holes, h ∈ r.holes ∨ (0 ≤ h.line ∧ h.line ≤ n + ls.length)
  | [], r, n, h, hh => .inl hh
  | s :: ls, r, n, h, hh => by
    rw [lines_cons] at hh
    split at hh
    · rcases lines_holes ls _ (n + 1) h hh with h1 | h1
      · rcases line_holes h h1 with h2 | h2
        · exact .inl h2
        · right; rw [List.length_cons]; push_cast; omega
      · right; rw [List.length_cons]; push_cast at h1 ⊢; omega
    · rcases line_holes h hh with h2 | h2
      · exact .inl h2
      · right; rw [List.length_cons]; push_cast; omega
theorem holes_line : ∀ (hs : List HoleV) (labels : List NamV) (code : List Int) (m : Int), 0 ≤ m → (∀ h ∈ hs, 0 ≤ h.line ∧ h.line ≤ m) → 0 ≤ (holesR labels code hs).2.1 ∧ (holesR labels code hs).2.1 ≤ m
  | [], _, _, m, hm, _ => by simp [holesR]; exact hm
  | h :: hs, labels, code, m, hm, hh => by
    rw [holes_cons]
    split
    · exact hh h (by simp)
    split
    · exact holes_line hs labels _ m hm fun x hx => hh x (List.mem_cons_of_mem _ hx)
    · exact hh h (by simp)
theorem read_bad {text : List UInt8} (h : (readF text).er ≠ 0) : (readF text).code = [] ∧ (readF text).labels = [] ∧ 0 ≤ (readF text).line ∧ (readF text).line ≤ (splitC 10 text).length := by
  unfold readF at h ⊢
  split
  · exact ⟨rfl, rfl, by simp, by simp⟩
  · next h1 =>
    rw [if_neg h1] at h
    split
    · have := lines_line (splitC 10 text) rd0 0
      refine ⟨rfl, rfl, this.1, ?_⟩
      have := this.2
      simp only at this ⊢
      omega
    · next h2 =>
      rw [if_neg h2] at h
      split
      · have := holes_line (linesR rd0 0 (splitC 10 text)).1.holes (linesR rd0 0 (splitC 10 text)).1.labels (linesR rd0 0 (splitC 10 text)).1.code (splitC 10 text).length (by omega) fun x hx => by
          rcases lines_holes (splitC 10 text) rd0 0 x hx with h1 | h1
          · simp [rd0] at h1
          · simpa using h1
        exact ⟨rfl, rfl, this.1, this.2⟩
      · next h3 => rw [if_neg h3] at h; exact absurd rfl h
theorem holes_er : ∀ (hs : List HoleV) (labels : List NamV) (code : List Int), 0 ≤ (holesR labels code hs).2.2
  | [], _, _ => by simp [holesR]
  | h :: hs, labels, code => by
    rw [holes_cons]
    split
    · simp
    split
    · exact holes_er hs _ _
    · simp
/-- Empty lines do not matter, and every other line is a label or a cell. -/
theorem lines_law {text : List UInt8} (h : (readF text).er = 0) (full : List (List UInt8)) (hf : full = (splitC 10 text).filter fun s => !s.isEmpty) :
    readF (Lib.join full [10]) = ⟨(readF text).code, (readF text).labels, 0, 0⟩ ∧ (readF text).code.length = cellsN (splitC 10 text) ∧ (readF text).labels.length + cellsN (splitC 10 text) = full.length := by
  obtain ⟨hk, _⟩ := read_ok h
  generalize (readF text).code = c at *
  generalize (readF text).labels = l at *
  obtain ⟨hn, h1, h2, h3, h4⟩ := hk
  have hs : ∃ r', linesR rd0 0 (splitC 10 (Lib.join full [10])) = (r', 0, 0) ∧ Sim (linesR rd0 0 (splitC 10 text)).1 r' ∧ (splitC 10 (Lib.join full [10])).length ≤ 150 := by
    obtain ⟨a, b⟩ := lines_full (splitC 10 text) rd0 rd0 0 0 (Sim.refl _) h1
    rw [← hf] at a b
    have hz : ∀ (ls : List (List UInt8)) (r : RdV) (n : Nat), (linesR r n ls).2.2 = 0 → (linesR r n ls).2.1 = 0 := by
      intro ls
      induction ls with
      | nil => intro r n _; rfl
      | cons s ls ih =>
        intro r n hh
        rw [lines_cons] at hh ⊢
        split
        · next hk => rw [if_pos hk] at hh; exact ih _ _ hh
        · next hk => rw [if_neg hk] at hh; exact absurd hh hk
    by_cases hfe : full = []
    · rw [hfe] at a b ⊢
      refine ⟨rd0, ?_, a, ?_⟩
      · rw [Lib.join_nil]
        show linesR rd0 0 [[]] = _
        rw [lines_cons]
        rw [line_empty]
        simp [linesR]
      · rw [Lib.join_nil]; simp [splitC]
    · have e : splitC 10 (Lib.join full [10]) = full := split_join 10 hfe fun x hx => by
        rw [hf] at hx
        exact split_no 10 _ x (List.mem_filter.1 hx).1
      rw [e]
      refine ⟨(linesR rd0 0 full).1, ?_, a, ?_⟩
      · exact Prod.ext rfl (Prod.ext (hz _ _ _ b) b)
      · rw [hf]; exact Nat.le_trans (List.length_filter_le _ _) hn
  obtain ⟨r', e, sim, hlen⟩ := hs
  obtain ⟨q1, q2⟩ := holes_sim _ _ l (linesR rd0 0 (splitC 10 text)).1.code sim.holes
  obtain ⟨c1, c2⟩ := lines_add (splitC 10 text) rd0 0 h1
  refine ⟨read_is ⟨hlen, by rw [e], by rw [e]; simp only; rw [← sim.labels]; exact h2, ?_, ?_⟩, ?_, ?_⟩
  · rw [e]; simp only; rw [← sim.code, ← q2]; exact h3
  · rw [e]; simp only; rw [← sim.code, ← q1]; exact h4
  · rw [← h4, holes_len, c1]; simp [rd0]
  · have hc := full_count (splitC 10 text)
    rw [← hf] at hc
    rw [h2] at c2
    simp [rd0] at c2
    omega
end Go.Proofs.YtpjhjefjbkjhkaaGreatDoor
