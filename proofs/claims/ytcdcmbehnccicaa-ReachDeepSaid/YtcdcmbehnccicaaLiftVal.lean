/- Values of the machine among a law's arguments. -/
import Derived.Test.YtcdcmbehnccicaaLiftKey
import Derived.Test.YtcdcmbehnccicaaCellMath
namespace Go.Proofs.Ytcdcmbehnccicaa
open Go.Joins Go.ChangeShapes Go.WideShapes Go.ChangeAt Go.RowKit Go.Deep

section
variable {H : Type} {enc : TypeId × Value → H} {w : World} {base : Nat} {spare : Nat → Bool} {held : Bool}
/-- Seven cells that read as a value are its flag, its number and its key. -/
theorem val_cells {fuel : Nat} {c0 c1 c2 c3 c4 c5 c6 : Value} {x : DataW H × List MemPlace} (h : DataW.trod enc Try.prog w base spare held fuel 25 [c0, c1, c2, c3, c4, c5, c6] = some x) :
    ∃ v : ValV, c0 = .bool v.is ∧ c1 = .int .i64 v.n ∧ c2 = .int .i64 v.k.perm ∧ c3 = .int .i64 v.k.base ∧ c4 = .int .i64 v.k.len ∧ c5 = .int .i64 v.k.at_ ∧ c6 = .int .i64 v.k.seal_ ∧ v.wf := by
  obtain ⟨xs, n, _, hx, _, hlen, hg⟩ := DataW.trod_struct Try.underlying25 h
  have hb : Try.prog.cellsOf 4 = 1 := by kernel_rfl
  have hs : Try.prog.cellsOf 3 = 1 := by kernel_rfl
  have hk : Try.prog.cellsOf 23 = 5 := by kernel_rfl
  have g0 : DataW.trod enc Try.prog w base spare held n 4 [c0] = xs[0]? := by simpa [hb] using hg 0 _ rfl
  have g1 : DataW.trod enc Try.prog w base spare held n 3 [c1] = xs[1]? := by simpa [hs] using hg 1 _ rfl
  have g2 : DataW.trod enc Try.prog w base spare held n 23 [c2, c3, c4, c5, c6] = xs[2]? := by simpa [hk] using hg 2 _ rfl
  have e0 : xs[0]? = some (xs[0]'(by rw [hlen]; decide)) := List.getElem?_eq_getElem _
  have e1 : xs[1]? = some (xs[1]'(by rw [hlen]; decide)) := List.getElem?_eq_getElem _
  have e2 : xs[2]? = some (xs[2]'(by rw [hlen]; decide)) := List.getElem?_eq_getElem _
  obtain ⟨a0, f0, _⟩ := DataW.trod_bool Try.underlying4 (g0.trans e0)
  obtain ⟨a1, f1, _, w1⟩ := DataW.trod_int Try.underlying3 (g1.trans e1)
  obtain ⟨k, f2, f3, f4, f5, f6, hw⟩ := key_cells (g2.trans e2)
  simp at f0 f1
  exact ⟨⟨a0, a1, k⟩, f0, f1, f2, f3, f4, f5, f6, ⟨wf_bd w1, hw⟩⟩
set_option maxRecDepth 100000 in
theorem open_val {r : Reach} {b0 : Nat} {v : Value} {d : DataW H} {p : List MemPlace} (hv : Value.okWide Try.prog w r b0 25 v) (h : DataW.Trod enc Try.prog w base spare held 25 v d p) :
    ∃ x : ValV, v = x.val ∧ x.wf := by
  obtain ⟨cs, rfl, hsz⟩ := okWide_struct Try.underlying25 hv
  have hs : Try.prog.cellsOf 25 = 7 := by kernel_rfl
  obtain ⟨l⟩ := cs
  match l, hsz.trans hs with
  | [c0, c1, c2, c3, c4, c5, c6], _ =>
    obtain ⟨fuel, hf⟩ := h
    obtain ⟨k, rfl, rfl, rfl, rfl, rfl, rfl, rfl, hw⟩ := val_cells hf
    exact ⟨k, rfl, hw⟩
end
end Go.Proofs.Ytcdcmbehnccicaa
