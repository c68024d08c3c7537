import Derived.Test.YtmmmmeeepieemaaBuO
import Derived.Test.YtmmmmeeepieemaaTurnZ
/- Slices of turns among a law's arguments. -/
namespace Go.Proofs.Ytmmmmeeepieemaa
open Go.Joins Go.ChangeShapes Go.WideShapes Go.ChangeAt Go.RowKit Go.Deep
section
variable {H : Type} {enc : TypeId × Value → H} {w : World} {spare : Nat → Bool} {held : Bool}
theorem turn_cells {base fuel : Nat} {c0 c1 c2 : Value} {x : DataW H × List MemPlace} (h : DataW.trod enc Try.prog w base spare held fuel 81 [c0, c1, c2] = some x) :
    ∃ k : TurnV, c0 = .int .i64 k.kind ∧ c1 = .int .i64 k.n ∧ c2 = .int .i64 k.m ∧ k.wf := by
  obtain ⟨xs, n, _, hx, _, hlen, hg⟩ := DataW.trod_struct Try.underlying81 h
  have hs : Try.prog.cellsOf 3 = 1 := by kernel_rfl
  have g0 : DataW.trod enc Try.prog w base spare held n 3 [c0] = xs[0]? := by simpa [hs] using hg 0 _ rfl
  have e0 : xs[0]? = some (xs[0]'(by rw [hlen]; decide)) := List.getElem?_eq_getElem _
  obtain ⟨a0, f0, _, w0⟩ := DataW.trod_int Try.underlying3 (g0.trans e0)
  have g1 : DataW.trod enc Try.prog w base spare held n 3 [c1] = xs[1]? := by simpa [hs] using hg 1 _ rfl
  have e1 : xs[1]? = some (xs[1]'(by rw [hlen]; decide)) := List.getElem?_eq_getElem _
  obtain ⟨a1, f1, _, w1⟩ := DataW.trod_int Try.underlying3 (g1.trans e1)
  have g2 : DataW.trod enc Try.prog w base spare held n 3 [c2] = xs[2]? := by simpa [hs] using hg 2 _ rfl
  have e2 : xs[2]? = some (xs[2]'(by rw [hlen]; decide)) := List.getElem?_eq_getElem _
  obtain ⟨a2, f2, _, w2⟩ := DataW.trod_int Try.underlying3 (g2.trans e2)
  simp at f0 f1 f2
  exact ⟨⟨a0, a1, a2⟩, f0, f1, f2, ⟨wf_bd w0, wf_bd w1, wf_bd w2⟩⟩
set_option maxRecDepth 100000 in
theorem open_turns {r : Reach} {b0 : Nat} {v : Value} {d : DataW H} {p : List MemPlace} (hv : Value.okWide Try.prog w r b0 74 v) (h : DataW.Trod enc Try.prog w 0 spare held 74 v d p) :
    ∃ x : SlV TurnV, v = x.val ∧ x.ok TurnV.wf w ∧ (x.n = 0 ∨ ∃ es sp, d = .slice es sp ∧ es.length = x.n) :=
  open_els Try.underlying74 (by kernel_rfl) (fun fuel cs x hx hl => by
    match cs, hl with
    | [c0, c1, c2], _ =>
      obtain ⟨k, rfl, rfl, rfl, hw⟩ := turn_cells hx
      exact ⟨k, rfl, hw⟩) hv h
end
end Go.Proofs.Ytmmmmeeepieemaa
