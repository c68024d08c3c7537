import Derived.Test.YtpjhjefjbkjhkaaGreatDoorInstTextBZ
import Derived.Test.YtpjhjefjbkjhkaaGreatDoorSplitMath
/- What inst.Parse comes to: plain lists. -/
namespace Go.Proofs.YtpjhjefjbkjhkaaGreatDoor
open Go.RowKit
set_option linter.unusedVariables false
set_option linter.unusedSimpArgs false
/-- The number of a word (-1: it is none). -/
def opLook (wd : List UInt8) : Int :=
  match (List.range 23).find? (fun k => decide (wordL k = wd)) with
  | some k => (k : Int)
  | none => -1
/-- A word taken, if one is wanted and there is one. -/
def stepP (has : Bool) (l : List (List UInt8)) : List (List UInt8) × Int := if has = true ∧ 1 < l.length then (l.tail, atoiV (Lib.trimPrefix (l.tail.headD []) [114])) else (l, 0)
def hasA (op : Int) : Bool := opB op && shA op
def hasB (op : Int) : Bool := opB op && shB op
def hasC (op : Int) : Bool := opB op && (shC op != 0)
def parseR (s : List UInt8) : InstV :=
  let l := splitC 32 s
  let op := opLook (l.headD [])
  let p := stepP (hasA op) l
  let q := stepP (hasB op) p.1
  let r := stepP (hasC op) q.1
  ⟨op, p.2, q.2, r.2⟩
/-- What Parse answers. -/
def parseF (s : List UInt8) : InstV × Int := if instOk (parseR s) = true ∧ textL (parseR s) = s then (parseR s, 0) else (zeroI, 3)
theorem look_word : ∀ k, k < 23 → opLook (wordL k) = k := by decide
theorem word_no32 : ∀ k, k < 23 → (32 : UInt8) ∉ wordL k := by decide
theorem split_words : ∀ (ws : List (List UInt8)) (wd : List UInt8), (32 : UInt8) ∉ wd → (∀ w ∈ ws, (32 : UInt8) ∉ w) → splitC 32 (wd ++ ws.flatMap fun w => 32 :: w) = wd :: ws
  | [], wd, h, _ => by rw [List.flatMap_nil, List.append_nil, splitC_none h]
  | w :: ws, wd, h, hw => by
    rw [List.flatMap_cons, List.cons_append, splitC_app h, split_words ws w (hw w (by simp)) fun x hx => hw x (List.mem_cons_of_mem _ hx)]
/-- The word of an operand. -/
def sufW (n : Int) (has ir : Bool) : List (List UInt8) := if has then [if ir then 114 :: Lib.itoa n else Lib.itoa n] else []
theorem suf_words (n : Int) (has ir : Bool) : sufL n has ir = (sufW n has ir).flatMap fun w => 32 :: w := by
  unfold sufL sufW
  cases has <;> cases ir <;> simp
theorem sufW_no32 {n : Int} {has ir : Bool} : ∀ w ∈ sufW n has ir, (32 : UInt8) ∉ w := by
  unfold sufW
  intro w hw
  have := itoa_no32 n
  cases has <;> cases ir <;> simp at hw
  · subst hw; exact this
  · subst hw
    intro h
    rcases List.mem_cons.1 h with h | h
    · revert h; decide
    · exact this h
theorem stepP_suf {n : Int} {has ir : Bool} {w : List UInt8} {rest : List (List UInt8)} (hn : has = true → -9223372036854775808 ≤ n ∧ n ≤ 9223372036854775807) (hz : has = false → n = 0) : ∃ w', stepP has (w :: (sufW n has ir ++ rest)) = (w' :: rest, n) := by
  cases has
  · refine ⟨w, ?_⟩
    unfold stepP sufW
    rw [if_neg (by simp)]
    rw [hz rfl]; rfl
  · have hb := hn rfl
    unfold stepP sufW
    rw [if_pos ⟨rfl, by simp⟩]
    refine ⟨if ir then 114 :: Lib.itoa n else Lib.itoa n, ?_⟩
    cases ir
    · simp [itoa_noR, atoiV_itoa hb]
    · simp [trimR, atoiV_itoa hb]
theorem parse_text {i : InstV} (h : instOk i = true) : parseF (textL i) = (i, 0) := by
  have h0 := h
  unfold instOk at h
  simp only [Bool.and_eq_true] at h
  obtain ⟨ho, ha, hb, hc⟩ := h
  have hop : 0 ≤ i.op ∧ i.op < 23 := by simpa [opB] using ho
  have hk : i.op.toNat < 23 := by omega
  have hs : splitC 32 (textL i) = wordL i.op.toNat :: (sufW i.a (shA i.op) true ++ (sufW i.b (shB i.op) true ++ (sufW i.c (shC i.op != 0) (shC i.op == 114) ++ []))) := by
    have e : textL i = wordL i.op.toNat ++ (sufW i.a (shA i.op) true ++ (sufW i.b (shB i.op) true ++ (sufW i.c (shC i.op != 0) (shC i.op == 114) ++ []))).flatMap fun w => 32 :: w := by
      unfold textL
      rw [suf_words, suf_words, suf_words]
      simp only [List.flatMap_append, List.append_assoc, List.flatMap_nil, List.append_nil]
    rw [e, split_words _ _ (word_no32 _ hk)]
    intro w hw
    simp only [List.append_nil, List.mem_append] at hw
    rcases hw with hw | hw | hw <;> exact sufW_no32 w hw
  have hl : opLook (wordL i.op.toNat) = i.op := by rw [look_word _ hk]; omega
  have hA : hasA i.op = shA i.op := by unfold hasA; rw [ho]; rfl
  have hB : hasB i.op = shB i.op := by unfold hasB; rw [ho]; rfl
  have hC : hasC i.op = (shC i.op != 0) := by unfold hasC; rw [ho]; rfl
  obtain ⟨w1, e1⟩ := stepP_suf (n := i.a) (has := shA i.op) (ir := true) (w := wordL i.op.toNat) (rest := sufW i.b (shB i.op) true ++ (sufW i.c (shC i.op != 0) (shC i.op == 114) ++ [])) (fun hh => by unfold regB at ha; rw [hh] at ha; simp at ha; omega) (fun hh => by unfold regB at ha; rw [hh] at ha; simpa using ha)
  obtain ⟨w2, e2⟩ := stepP_suf (n := i.b) (has := shB i.op) (ir := true) (w := w1) (rest := sufW i.c (shC i.op != 0) (shC i.op == 114) ++ []) (fun hh => by unfold regB at hb; rw [hh] at hb; simp at hb; omega) (fun hh => by unfold regB at hb; rw [hh] at hb; simpa using hb)
  have hcb : loC (shC i.op) ≤ i.c ∧ i.c ≤ hiC (shC i.op) := by simpa using hc
  have hbd : -2048 ≤ loC (shC i.op) ∧ hiC (shC i.op) ≤ 2047 := by
    unfold loC hiC
    refine ⟨by split <;> omega, ?_⟩
    repeat' split
    all_goals omega
  obtain ⟨w3, e3⟩ := stepP_suf (n := i.c) (has := shC i.op != 0) (ir := shC i.op == 114) (w := w2) (rest := []) (fun hh => by omega) (fun hh => by
    have hz : shC i.op = 0 := by simpa using hh
    rw [hz] at hcb
    unfold loC hiC at hcb
    simp at hcb
    omega)
  have hp : parseR (textL i) = i := by
    unfold parseR
    simp only [hs, List.headD_cons, hl, hA, hB, hC, e1, e2, e3]
  unfold parseF
  rw [hp, if_pos ⟨h0, rfl⟩]
theorem parse_ok {s : List UInt8} {i : InstV} (h : parseF s = (i, 0)) : instOk i = true ∧ textL i = s := by
  unfold parseF at h
  split at h
  · next h1 =>
    injection h with h _
    rw [← h]; exact h1
  · injection h with _ h; cases h
end Go.Proofs.YtpjhjefjbkjhkaaGreatDoor
