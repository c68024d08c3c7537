/- Lines that are answered one after the other: plain lists. -/
import Derived.Laws.Runes
namespace Go.Proofs.YtpjhjefjbkjhkaaGreatDoor
set_option linter.unusedVariables false
set_option linter.unusedSimpArgs false
section
variable {K A : Type} (F : K → A → K × A)
/-- The answers, from a state on. -/
def outsF : K → List A → List A
  | _, [] => []
  | k, s :: l => (F k s).2 :: outsF (F k s).1 l
/-- The state behind. -/
def endF : K → List A → K
  | k, [] => k
  | k, s :: l => endF (F k s).1 l
theorem outsF_len : ∀ (l : List A) (k : K), (outsF F k l).length = l.length
  | [], _ => rfl
  | s :: l, k => by rw [outsF, List.length_cons, outsF_len l, List.length_cons]
theorem outsF_app : ∀ (a b : List A) (k : K), outsF F k (a ++ b) = outsF F k a ++ outsF F (endF F k a) b
  | [], b, k => rfl
  | s :: a, b, k => by rw [List.cons_append, outsF, outsF_app a b, outsF, endF, List.cons_append]
theorem endF_app : ∀ (a b : List A) (k : K), endF F k (a ++ b) = endF F (endF F k a) b
  | [], b, k => rfl
  | s :: a, b, k => by rw [List.cons_append, endF, endF_app a b, endF]
variable (bad : A → Bool)
/-- The lines whose answer tells no error. -/
def goodF : K → List A → List A
  | _, [] => []
  | k, s :: l => if bad (F k s).2 = true then goodF (F k s).1 l else s :: goodF (F k s).1 l
theorem goodF_outs (h : ∀ k s, bad (F k s).2 = true → (F k s).1 = k) : ∀ (l : List A) (k : K), outsF F k (goodF F bad k l) = (outsF F k l).filter fun x => !bad x
  | [], k => rfl
  | s :: l, k => by
    rw [goodF, outsF]
    cases hb : bad (F k s).2 with
    | true =>
      have e := h k s hb
      rw [if_pos rfl, List.filter_cons, hb, e]
      exact goodF_outs h l k
    | false =>
      rw [if_neg (by decide), outsF, List.filter_cons, hb]
      simp only [Bool.not_false, if_true]
      rw [goodF_outs h l]
theorem goodF_len : ∀ (l : List A) (k : K), (goodF F bad k l).length ≤ l.length
  | [], _ => Nat.le_refl _
  | s :: l, k => by
    rw [goodF]
    have := goodF_len l (F k s).1
    split
    · simp only [List.length_cons]; omega
    · simp only [List.length_cons]; omega
theorem goodF_mem : ∀ (l : List A) (k : K), ∀ x ∈ goodF F bad k l, x ∈ l
  | [], _, x, hx => by cases hx
  | s :: l, k, x, hx => by
    rw [goodF] at hx
    split at hx
    · exact List.mem_cons_of_mem _ (goodF_mem l _ x hx)
    · rcases List.mem_cons.1 hx with h | h
      · rw [h]; exact List.mem_cons_self
      · exact List.mem_cons_of_mem _ (goodF_mem l _ x h)
/-- As the loop gathers them: by the place of an answer. -/
theorem goodF_take : ∀ (l : List A) (k : K) (n : Nat) (hn : n < l.length), goodF F bad k (l.take (n + 1)) = goodF F bad k (l.take n) ++ (if bad ((outsF F k l)[n]'(by rw [outsF_len]; exact hn)) = true then [] else [l[n]])
  | [], k, n, hn => by simp at hn
  | s :: l, k, 0, hn => by
    simp only [List.take_succ_cons, List.take_zero, goodF, outsF, List.getElem_cons_zero, List.nil_append]
    rfl
  | s :: l, k, n + 1, hn => by
    have h' : n < l.length := by simpa using hn
    rw [List.take_succ_cons, List.take_succ_cons, goodF, goodF, goodF_take l _ n h']
    simp only [outsF, List.getElem_cons_succ]
    split
    · rfl
    · rw [List.cons_append]
      rfl
end
end Go.Proofs.YtpjhjefjbkjhkaaGreatDoor
