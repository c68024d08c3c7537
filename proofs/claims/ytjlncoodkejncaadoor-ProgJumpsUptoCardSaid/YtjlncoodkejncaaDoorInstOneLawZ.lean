import Derived.Test.YtjlncoodkejncaaDoorInstOneInjZ
/- The text of a good instruction tells it. -/
namespace Go.Proofs.YtjlncoodkejncaaDoor
open Go.RowKit
theorem textL_inj {i j : InstV} (hi : instOk i = true) (hj : instOk j = true) (h : textL i = textL j) : i = j := by
  obtain ⟨p, a, b, c⟩ := i
  obtain ⟨q, a', b', c'⟩ := j
  obtain ⟨o0, o1, a0, a1, b0, b1, c0, c1⟩ := instOk_bd hi
  obtain ⟨o2, o3, a2, a3, b2, b3, c2, c3⟩ := instOk_bd hj
  unfold textL at h
  simp only [List.append_assoc] at h
  have t1 := take_word (wordL p.toNat) _ (word_no _ (by omega)) (form_app (suf_form a (shA p) true) (form_app (suf_form b (shB p) true) (suf_form c (shC p != 0) (shC p == 114))))
  have t2 := take_word (wordL q.toNat) _ (word_no _ (by omega)) (form_app (suf_form a' (shA q) true) (form_app (suf_form b' (shB q) true) (suf_form c' (shC q != 0) (shC q == 114))))
  rw [h, t2] at t1
  have e := word_inj _ (by omega) _ (by omega) t1
  obtain rfl : p = q := by omega
  have h2 := List.append_cancel_left h
  obtain ⟨h3, h4⟩ := List.append_inj h2 (by rw [suf_reg_len _ a0 a1, suf_reg_len _ a2 a3])
  obtain ⟨h5, h6⟩ := List.append_inj h4 (by rw [suf_reg_len _ b0 b1, suf_reg_len _ b2 b3])
  unfold instOk at hi hj
  simp only [Bool.and_eq_true, decide_eq_true_eq] at hi hj
  obtain ⟨_, ra, rb, rc⟩ := hi
  obtain ⟨_, ra', rb', rc'⟩ := hj
  have ea : a = a' := by
    cases hs : shA p
    · rw [hs] at ra ra'; unfold regB at ra ra'; simp at ra ra'; omega
    · exact suf_inj hs h3
  have eb : b = b' := by
    cases hs : shB p
    · rw [hs] at rb rb'; unfold regB at rb rb'; simp at rb rb'; omega
    · exact suf_inj hs h5
  have ec : c = c' := by
    by_cases hs : shC p = 0
    · rw [hs] at rc rc'; simp [loC, hiC] at rc rc'; omega
    · exact suf_inj (by simpa using hs) h6
  rw [ea, eb, ec]
end Go.Proofs.YtjlncoodkejncaaDoor
