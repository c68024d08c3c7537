/- Keys among a law's arguments. -/
import Derived.Test.YtcdcmbehnccicaaLift
import Derived.Test.YtcdcmbehnccicaaKeysMath
import Derived.Lib.SmallJoins
namespace Go.Proofs.Ytcdcmbehnccicaa
open Go.Joins Go.ChangeShapes Go.WideShapes Go.ChangeAt Go.RowKit Go.Deep

section
variable {H : Type} {enc : TypeId × Value → H} {w : World} {base : Nat} {spare : Nat → Bool} {held : Bool}
/-- Five cells that read as a key are its five numbers. -/
theorem key_cells {fuel : Nat} {c0 c1 c2 c3 c4 : Value} {x : DataW H × List MemPlace} (h : DataW.trod enc Try.prog w base spare held fuel 23 [c0, c1, c2, c3, c4] = some x) :
    ∃ k : KeyV, c0 = .int .i64 k.perm ∧ c1 = .int .i64 k.base ∧ c2 = .int .i64 k.len ∧ c3 = .int .i64 k.at_ ∧ c4 = .int .i64 k.seal_ ∧ k.wf := by
  obtain ⟨xs, n, _, hx, _, hlen, hg⟩ := DataW.trod_struct Try.underlying23 h
  have hs : Try.prog.cellsOf 3 = 1 := by kernel_rfl
  have g0 : DataW.trod enc Try.prog w base spare held n 3 [c0] = xs[0]? := by simpa [hs] using hg 0 _ rfl
  have g1 : DataW.trod enc Try.prog w base spare held n 3 [c1] = xs[1]? := by simpa [hs] using hg 1 _ rfl
  have g2 : DataW.trod enc Try.prog w base spare held n 3 [c2] = xs[2]? := by simpa [hs] using hg 2 _ rfl
  have g3 : DataW.trod enc Try.prog w base spare held n 3 [c3] = xs[3]? := by simpa [hs] using hg 3 _ rfl
  have g4 : DataW.trod enc Try.prog w base spare held n 3 [c4] = xs[4]? := by simpa [hs] using hg 4 _ rfl
  have e0 : xs[0]? = some (xs[0]'(by rw [hlen]; decide)) := List.getElem?_eq_getElem _
  have e1 : xs[1]? = some (xs[1]'(by rw [hlen]; decide)) := List.getElem?_eq_getElem _
  have e2 : xs[2]? = some (xs[2]'(by rw [hlen]; decide)) := List.getElem?_eq_getElem _
  have e3 : xs[3]? = some (xs[3]'(by rw [hlen]; decide)) := List.getElem?_eq_getElem _
  have e4 : xs[4]? = some (xs[4]'(by rw [hlen]; decide)) := List.getElem?_eq_getElem _
  obtain ⟨a0, f0, _, w0⟩ := DataW.trod_int Try.underlying3 (g0.trans e0)
  obtain ⟨a1, f1, _, w1⟩ := DataW.trod_int Try.underlying3 (g1.trans e1)
  obtain ⟨a2, f2, _, w2⟩ := DataW.trod_int Try.underlying3 (g2.trans e2)
  obtain ⟨a3, f3, _, w3⟩ := DataW.trod_int Try.underlying3 (g3.trans e3)
  obtain ⟨a4, f4, _, w4⟩ := DataW.trod_int Try.underlying3 (g4.trans e4)
  simp at f0 f1 f2 f3 f4
  exact ⟨⟨a0, a1, a2, a3, a4⟩, f0, f1, f2, f3, f4, ⟨wf_bd w0, wf_bd w1, wf_bd w2, wf_bd w3, wf_bd w4⟩⟩
set_option maxRecDepth 100000 in
theorem open_key {r : Reach} {b0 : Nat} {v : Value} {d : DataW H} {p : List MemPlace} (hv : Value.okWide Try.prog w r b0 23 v) (h : DataW.Trod enc Try.prog w base spare held 23 v d p) :
    ∃ k : KeyV, v = k.val ∧ k.wf := by
  obtain ⟨cs, rfl, hsz⟩ := okWide_struct Try.underlying23 hv
  have hs : Try.prog.cellsOf 23 = 5 := by kernel_rfl
  obtain ⟨l⟩ := cs
  match l, hsz.trans hs with
  | [c0, c1, c2, c3, c4], _ =>
    obtain ⟨fuel, hf⟩ := h
    obtain ⟨k, rfl, rfl, rfl, rfl, rfl, hw⟩ := key_cells hf
    exact ⟨k, rfl, hw⟩
end
end Go.Proofs.Ytcdcmbehnccicaa
