import Derived.Test.YtpjhjefjbkjhkaaGreatDoorInstOneInjZ
import Derived.Test.YtpjhjefjbkjhkaaGreatDoorProgMathZ
/- Numbers as lines, and lines as numbers: plain lists. -/
namespace Go.Proofs.YtpjhjefjbkjhkaaGreatDoor
open Go Go.RowKit
set_option linter.unusedVariables false
set_option linter.unusedSimpArgs false
/-- The bytes that a text of an instruction has. -/
def okCh (c : UInt8) : Prop := c.toNat = 32 ∨ c.toNat = 45 ∨ (48 ≤ c.toNat ∧ c.toNat ≤ 57) ∨ (97 ≤ c.toNat ∧ c.toNat ≤ 122)
theorem itoa_ch (n : Int) : ∀ c ∈ Lib.itoa n, c.toNat = 45 ∨ (48 ≤ c.toNat ∧ c.toNat ≤ 57) := by
  unfold Lib.itoa
  split
  · intro c h
    rcases List.mem_cons.1 h with h | h
    · subst h; exact .inl rfl
    · exact .inr (dec_dig _ c h)
  · intro c h; exact .inr (dec_dig _ c h)
theorem itoa_ne (n : Int) : Lib.itoa n ≠ [] := by
  unfold Lib.itoa
  split
  · simp
  · exact dec_ne _
theorem word_ch : ∀ k, k < 23 → ∀ c ∈ wordL k, 97 ≤ c.toNat ∧ c.toNat ≤ 122 := by decide
theorem suf_ch (n : Int) (has ir : Bool) : ∀ c ∈ sufL n has ir, okCh c := by
  intro c hc
  have hi := itoa_ch n
  unfold sufL at hc
  cases has <;> cases ir <;> simp at hc
  · rcases hc with h | h
    · subst h; exact .inl rfl
    · rcases hi c h with h | h
      · exact .inr (.inl h)
      · exact .inr (.inr (.inl h))
  · rcases hc with h | h | h
    · subst h; exact .inl rfl
    · subst h; exact .inr (.inr (.inr (by decide)))
    · rcases hi c h with h | h
      · exact .inr (.inl h)
      · exact .inr (.inr (.inl h))
theorem opK {i : InstV} (h : instOk i = true) : 0 ≤ i.op ∧ i.op.toNat < 23 := by
  have h1 := (instOk_bd (op := i.op) (a := i.a) (b := i.b) (c := i.c) h)
  omega
theorem text_ch {i : InstV} (h : instOk i = true) : ∀ c ∈ textL i, okCh c := by
  intro c hc
  unfold textL at hc
  simp only [List.mem_append] at hc
  rcases hc with ((hc | hc) | hc) | hc
  · exact .inr (.inr (.inr (word_ch _ (opK h).2 c hc)))
  · exact suf_ch _ _ _ c hc
  · exact suf_ch _ _ _ c hc
  · exact suf_ch _ _ _ c hc
theorem text_len {i : InstV} (h : instOk i = true) : (textL i).length ≤ 80 := by
  obtain ⟨o0, o1, a0, a1, b0, b1, c0, c1⟩ := instOk_bd (op := i.op) (a := i.a) (b := i.b) (c := i.c) h
  have l0 := wordL_len i.op.toNat
  have l1 := sufL_len i.a ⟨by omega, by omega⟩ (shA i.op) true
  have l2 := sufL_len i.b ⟨by omega, by omega⟩ (shB i.op) true
  have l3 := sufL_len i.c ⟨by omega, by omega⟩ (shC i.op != 0) (shC i.op == 114)
  unfold textL
  simp only [List.length_append]
  omega
theorem text_ne {i : InstV} (h : instOk i = true) : textL i ≠ [] := by
  have hall : ∀ k, k < 23 → wordL k ≠ [] := by decide
  have h1 := hall i.op.toNat (opK h).2
  intro e
  unfold textL at e
  simp only [List.append_assoc, List.append_eq_nil_iff] at e
  exact h1 e.1
theorem text_form (i : InstV) : ∃ rest, textL i = wordL i.op.toNat ++ rest ∧ (rest = [] ∨ ∃ r, rest = 32 :: r) := by
  refine ⟨_, ?_, form_app (suf_form i.a (shA i.op) true) (form_app (suf_form i.b (shB i.op) true) (suf_form i.c (shC i.op != 0) (shC i.op == 114)))⟩
  unfold textL
  simp only [List.append_assoc]
/-- The first word. -/
theorem text_first {i : InstV} (h : instOk i = true) : (textL i).takeWhile (fun c => c != 32) = wordL i.op.toNat := by
  obtain ⟨rest, e, hr⟩ := text_form i
  rw [e, take_word _ _ (word_no _ (opK h).2) hr]
theorem first_cut (a b : List UInt8) : (a ++ 32 :: b).takeWhile (fun c => c != 32) = a.takeWhile (fun c => c != 32) := by
  induction a with
  | nil => simp
  | cons x a ih => rw [List.cons_append, List.takeWhile_cons, List.takeWhile_cons, ih]
theorem text_no58 {i : InstV} (h : instOk i = true) : (58 : UInt8) ∉ textL i := fun hm => by
  have := text_ch h _ hm
  revert this
  unfold okCh
  decide
theorem text_no10 {i : InstV} (h : instOk i = true) : (10 : UInt8) ∉ textL i := fun hm => by
  have := text_ch h _ hm
  revert this
  unfold okCh
  decide
theorem suffix_no {s : List UInt8} {c : UInt8} (h : c ∉ s) : Lib.hasSuffix s [c] = false := by
  cases hb : Lib.hasSuffix s [c] with
  | false => rfl
  | true =>
    exfalso
    unfold Lib.hasSuffix at hb
    rw [List.isSuffixOf_iff_suffix] at hb
    exact h (hb.subset (by simp))
theorem text_noword {i : InstV} (h : instOk i = true) : Lib.hasPrefix (textL i) wordP = false := by
  cases hb : Lib.hasPrefix (textL i) wordP with
  | false => rfl
  | true =>
    exfalso
    unfold Lib.hasPrefix at hb
    rw [List.isPrefixOf_iff_prefix] at hb
    obtain ⟨t, e⟩ := hb
    have h1 := text_first h
    rw [← e] at h1
    have h2 : (wordP ++ t).takeWhile (fun c => c != 32) = [119, 111, 114, 100] := by unfold wordP; simp
    rw [h2] at h1
    have hall : ∀ k, k < 23 → wordL k ≠ [119, 111, 114, 100] := by decide
    exact hall _ (opK h).2 h1.symm
theorem name_byte {b : List UInt8} (h : isNameB (ba b) = true) : ∃ c r, b = c :: r ∧ 97 ≤ c.toNat := by
  unfold isNameB at h
  simp only [Bool.and_eq_true, decide_eq_true_eq] at h
  obtain ⟨⟨⟨h1, h2⟩, h3⟩, _⟩ := h
  cases b with
  | nil => exact absurd rfl h1
  | cons c r =>
    refine ⟨c, r, rfl, ?_⟩
    unfold byte0 at h3
    rw [dif_pos (by rw [show (ba (c :: r)).size = (c :: r).length from ba_len _]; simp)] at h3
    exact h3
theorem itoa_noname (n : Int) : isNameB (ba (Lib.itoa n)) = false := by
  cases hb : isNameB (ba (Lib.itoa n)) with
  | false => rfl
  | true =>
    exfalso
    obtain ⟨c, r, e, hc⟩ := name_byte hb
    have := itoa_ch n c (by rw [e]; simp)
    omega
/-- The text of a jump ends with its number. -/
theorem jump_form {i : InstV} (h : i.op = 8 ∨ i.op = 9) : ∃ p, textL i = p ++ 32 :: Lib.itoa i.c := by
  have e : sufL i.c (shC i.op != 0) (shC i.op == 114) = 32 :: Lib.itoa i.c := by
    rcases h with h | h <;> rw [h] <;> rfl
  unfold textL
  rw [e]
  exact ⟨_, rfl⟩
theorem cut_uniq {a b x y : List UInt8} (h : a ++ 32 :: b = x ++ 32 :: y) (hb : (32 : UInt8) ∉ b) (hy : (32 : UInt8) ∉ y) : a = x ∧ b = y := by
  have h1 := lastSp_app (a := a) hb
  have h2 := lastSp_app (a := x) hy
  rw [h, h2] at h1
  have h3 : a.length = x.length := by omega
  obtain ⟨e1, e2⟩ := List.append_inj h h3
  exact ⟨e1, by injection e2⟩
theorem hole_parts {s : List UInt8} (h : holeB s = true) : ∃ a b, s = a ++ 32 :: b ∧ (32 : UInt8) ∉ b ∧ holeI s = parseF (a ++ [32, 48]) ∧ holeN s = ba b ∧ isNameB (ba b) = true ∧ (parseF (a ++ [32, 48])).2 = 0 ∧ ((parseF (a ++ [32, 48])).1.op = 8 ∨ (parseF (a ++ [32, 48])).1.op = 9) := by
  unfold holeB at h
  simp only [Bool.and_eq_true, Bool.or_eq_true, decide_eq_true_eq] at h
  obtain ⟨⟨⟨h1, h2⟩, h3⟩, h4⟩ := h
  have hm : (32 : UInt8) ∈ s := by
    by_cases hm : (32 : UInt8) ∈ s
    · exact hm
    · rw [lastSp_none hm] at h1; omega
  obtain ⟨a, b, e, hb⟩ := last_cut s hm
  have hl := lastSp_app (a := a) hb
  have hI : holeI s = parseF (a ++ [32, 48]) := by
    unfold holeI
    rw [e, hl, Int.toNat_natCast, List.take_left']
    rfl
  have hN : holeN s = ba b := by
    unfold holeN
    rw [e, hl, Int.toNat_natCast, List.drop_append, List.drop_of_length_le (by omega), show a.length + 1 - a.length = 1 by omega]
    rfl
  rw [hI] at h3 h4
  rw [hN] at h2
  exact ⟨a, b, e, hb, hI, hN, h2, h3, h4⟩
theorem parse_eta {s : List UInt8} (h : (parseF s).2 = 0) : instOk (parseF s).1 = true ∧ textL (parseF s).1 = s := by
  refine parse_ok ?_
  rw [← h]
theorem text_nohole {i : InstV} (h : instOk i = true) : holeB (textL i) = false := by
  cases hb : holeB (textL i) with
  | false => rfl
  | true =>
    exfalso
    obtain ⟨a, b, e, hb2, _, _, hn, hp, hop⟩ := hole_parts hb
    obtain ⟨hk, ht⟩ := parse_eta hp
    have f1 := text_first h
    have f2 := text_first hk
    rw [e, first_cut] at f1
    rw [ht, first_cut, f1] at f2
    have ho := word_inj _ (opK h).2 _ (opK hk).2 f2
    have ho2 : i.op = 8 ∨ i.op = 9 := by
      have p1 := (opK h).1
      have p2 := (opK hk).1
      omega
    obtain ⟨p, ep⟩ := jump_form ho2
    rw [e] at ep
    obtain ⟨_, rfl⟩ := cut_uniq ep hb2 (itoa_no32 _)
    rw [itoa_noname] at hn
    cases hn
theorem numB_itoa {n : Int} (h : num32B n = true) : numB (Lib.itoa n) = true ∧ atoiV (Lib.itoa n) = n := by
  have hb : -2147483648 ≤ n ∧ n ≤ 2147483647 := by simpa [num32B] using h
  have e := atoiV_itoa (n := n) ⟨by omega, by omega⟩
  refine ⟨?_, e⟩
  unfold numB
  rw [e, atoi_itoa ⟨by omega, by omega⟩, h]
  simp
theorem numB_ok {l : List UInt8} (h : numB l = true) : Lib.itoa (atoiV l) = l ∧ num32B (atoiV l) = true := by
  unfold numB at h
  simp only [Bool.and_eq_true, decide_eq_true_eq] at h
  exact ⟨h.1.2, h.2⟩
theorem word_pre (t : List UInt8) : Lib.hasPrefix (wordP ++ t) wordP = true := by
  unfold Lib.hasPrefix
  rw [List.isPrefixOf_iff_prefix]
  exact List.prefix_append _ _
theorem word_no58 (n : Int) : (58 : UInt8) ∉ wordP ++ Lib.itoa n := fun hm => by
  rcases List.mem_append.1 hm with h | h
  · revert h; decide
  · have := itoa_ch n _ h
    revert this; decide
theorem word_no10 (n : Int) : (10 : UInt8) ∉ wordP ++ Lib.itoa n := fun hm => by
  rcases List.mem_append.1 hm with h | h
  · revert h; decide
  · have := itoa_ch n _ h
    revert this; decide
theorem itoa32_len {n : Int} (h : I64 n) : (Lib.itoa n).length ≤ 21 := Lib.itoa_length_le n h.1 h.2
theorem line_word {n : Int} (h : num32B n = true) (r : RdV) (k : Int) : lineR r k (wordP ++ Lib.itoa n) = (⟨r.code ++ [n], r.labels, r.holes⟩, 0) := by
  have hb : -2147483648 ≤ n ∧ n ≤ 2147483647 := by simpa [num32B] using h
  have hl := itoa32_len (n := n) ⟨by omega, by omega⟩
  obtain ⟨h1, h2⟩ := numB_itoa h
  unfold lineR
  rw [if_neg (by rw [List.length_append]; simp [wordP]; omega), if_neg (by rw [suffix_no (word_no58 n)]; simp), if_neg (by simp [wordP])]
  unfold cellR
  rw [if_pos (word_pre _)]
  have hd : (wordP ++ Lib.itoa n).drop 5 = Lib.itoa n := rfl
  rw [hd, if_pos h1, h2]
theorem line_text {i : InstV} (h : instOk i = true) (r : RdV) (k : Int) : lineR r k (textL i) = (⟨r.code ++ [packF i], r.labels, r.holes⟩, 0) := by
  have hl := text_len h
  unfold lineR
  rw [if_neg (by omega), if_neg (by rw [suffix_no (text_no58 h)]; simp), if_neg (text_ne h)]
  unfold cellR
  rw [text_noword h, if_neg (by simp), text_nohole h, if_neg (by simp), parse_text h, if_pos rfl]
theorem line_cell {n : Int} (h : num32B n = true) (r : RdV) (k : Int) : lineR r k (cellL n) = (⟨r.code ++ [n], r.labels, r.holes⟩, 0) := by
  unfold cellL
  split
  · next hk => rw [line_text hk, pack_unpack]
  · exact line_word h r k
theorem cellL_no10 (n : Int) : (10 : UInt8) ∉ cellL n := by
  unfold cellL
  split
  · next h => exact text_no10 h
  · exact word_no10 n
theorem cellL_ne (n : Int) : cellL n ≠ [] := by
  unfold cellL
  split
  · next h => exact text_ne h
  · simp [wordP]
theorem lines_cells : ∀ (code : List Int) (r : RdV) (k : Nat), (∀ n ∈ code, num32B n = true) → linesR r k (code.map cellL) = (⟨r.code ++ code, r.labels, r.holes⟩, 0, 0)
  | [], r, k, _ => by simp [linesR]
  | n :: code, r, k, h => by
    rw [List.map_cons]
    rw [lines_cons]
    rw [line_cell (h n (by simp))]
    simp only [if_true]
    rw [lines_cells code _ _ fun x hx => h x (List.mem_cons_of_mem _ hx)]
    simp
theorem line_empty (r : RdV) (k : Int) : lineR r k [] = (r, 0) := by
  unfold lineR
  rw [if_neg (by simp), if_neg (by decide), if_pos rfl]
theorem split_textP (code : List Int) : splitC 10 (textP code) = if code = [] then [[]] else code.map cellL := by
  unfold textP
  cases code with
  | nil => rfl
  | cons n code =>
    rw [if_neg (by simp), split_join 10 (by simp)]
    intro l hl
    obtain ⟨x, _, rfl⟩ := List.mem_map.1 hl
    exact cellL_no10 x
theorem lines_textP (code : List Int) (r : RdV) (k : Nat) (h : ∀ n ∈ code, num32B n = true) : linesR r k (splitC 10 (textP code)) = (⟨r.code ++ code, r.labels, r.holes⟩, 0, 0) := by
  rw [split_textP]
  split
  · next e => subst e; rw [lines_cons]; rw [line_empty]; simp [linesR]
  · exact lines_cells code r k h
theorem split_textP_len (code : List Int) : (splitC 10 (textP code)).length ≤ code.length + 1 := by
  rw [split_textP]
  split
  · simp
  · simp
theorem read_textP {code : List Int} (h : ∀ n ∈ code, num32B n = true) (hl : code.length ≤ 150) : readF (textP code) = ⟨code, [], 0, 0⟩ := by
  have hs : (splitC 10 (textP code)).length ≤ 150 := by
    rw [split_textP]
    split
    · simp
    · simpa using hl
  unfold readF
  rw [if_neg (by omega), lines_textP code _ _ h]
  simp [rd0, holesR]
theorem read_joins {a b : List Int} (ha : ∀ n ∈ a, num32B n = true) (hb : ∀ n ∈ b, num32B n = true) (hl : a.length + b.length ≤ 140) : readF (textP a ++ 10 :: textP b) = ⟨a ++ b, [], 0, 0⟩ := by
  have h1 := split_textP_len a
  have h2 := split_textP_len b
  unfold readF
  rw [splitC_mid, if_neg (by rw [List.length_append]; omega)]
  have e := lines_textP a rd0 0 ha
  rw [lines_app _ _ _ _ (by rw [e]), e, lines_textP b _ _ hb]
  simp [rd0, holesR]
theorem textP_nil {code : List Int} (h : textP code = []) : code = [] := by
  cases code with
  | nil => rfl
  | cons n code =>
    exfalso
    unfold textP at h
    rw [List.map_cons, Lib.join_cons] at h
    exact cellL_ne n (List.append_eq_nil_iff.1 h).1
theorem read_word {n : Int} (h : num32B n = true) : readF (wordP ++ Lib.itoa n) = ⟨[n], [], 0, 0⟩ := by
  unfold readF
  rw [splitC_none (word_no10 n), if_neg (by simp)]
  have e : linesR rd0 0 [wordP ++ Lib.itoa n] = (⟨[n], [], []⟩, 0, 0) := by
    rw [lines_cons]
    rw [line_word h]
    simp [linesR, rd0]
  rw [e]
  simp [holesR]
end Go.Proofs.YtpjhjefjbkjhkaaGreatDoor
