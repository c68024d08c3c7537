import Derived.Lib.SmallJoins
import Derived.Test.YtjlncoodkejncaaDoorBuA
import Derived.Test.YtjlncoodkejncaaDoorBuO
/- Instructions among a law's arguments. -/
namespace Go.Proofs.YtjlncoodkejncaaDoor
open Go.Joins Go.ChangeShapes Go.WideShapes Go.ChangeAt Go.RowKit Go.Deep
section
variable {H : Type} {enc : TypeId × Value → H} {w : World} {base : Nat} {spare : Nat → Bool} {held : Bool}
theorem inst_cells {fuel : Nat} {c0 c1 c2 c3 : Value} {x : DataW H × List MemPlace} (h : DataW.trod enc Tryd.prog w base spare held fuel 23 [c0, c1, c2, c3] = some x) :
    ∃ op a b c : Int, c0 = .int .i64 op ∧ c1 = .int .i64 a ∧ c2 = .int .i64 b ∧ c3 = .int .i64 c ∧ I64 op ∧ I64 a ∧ I64 b ∧ I64 c := by
  obtain ⟨xs, n, _, hx, _, hlen, hg⟩ := DataW.trod_struct Tryd.underlying23 h
  have hs : Tryd.prog.cellsOf 3 = 1 := by kernel_rfl
  have g0 : DataW.trod enc Tryd.prog w base spare held n 3 [c0] = xs[0]? := by simpa [hs] using hg 0 _ rfl
  have g1 : DataW.trod enc Tryd.prog w base spare held n 3 [c1] = xs[1]? := by simpa [hs] using hg 1 _ rfl
  have g2 : DataW.trod enc Tryd.prog w base spare held n 3 [c2] = xs[2]? := by simpa [hs] using hg 2 _ rfl
  have g3 : DataW.trod enc Tryd.prog w base spare held n 3 [c3] = xs[3]? := by simpa [hs] using hg 3 _ rfl
  have e0 : xs[0]? = some (xs[0]'(by rw [hlen]; decide)) := List.getElem?_eq_getElem _
  have e1 : xs[1]? = some (xs[1]'(by rw [hlen]; decide)) := List.getElem?_eq_getElem _
  have e2 : xs[2]? = some (xs[2]'(by rw [hlen]; decide)) := List.getElem?_eq_getElem _
  have e3 : xs[3]? = some (xs[3]'(by rw [hlen]; decide)) := List.getElem?_eq_getElem _
  obtain ⟨a0, f0, _, w0⟩ := DataW.trod_int Tryd.underlying3 (g0.trans e0)
  obtain ⟨a1, f1, _, w1⟩ := DataW.trod_int Tryd.underlying3 (g1.trans e1)
  obtain ⟨a2, f2, _, w2⟩ := DataW.trod_int Tryd.underlying3 (g2.trans e2)
  obtain ⟨a3, f3, _, w3⟩ := DataW.trod_int Tryd.underlying3 (g3.trans e3)
  simp at f0 f1 f2 f3
  exact ⟨a0, a1, a2, a3, f0, f1, f2, f3, wf_bd w0, wf_bd w1, wf_bd w2, wf_bd w3⟩
set_option maxRecDepth 100000 in
theorem open_inst {r : Reach} {b0 : Nat} {v : Value} {d : DataW H} {p : List MemPlace} (hv : Value.okWide Tryd.prog w r b0 23 v) (h : DataW.Trod enc Tryd.prog w base spare held 23 v d p) :
    ∃ op a b c : Int, v = .agg #[.int .i64 op, .int .i64 a, .int .i64 b, .int .i64 c] ∧ I64 op ∧ I64 a ∧ I64 b ∧ I64 c := by
  obtain ⟨cs, rfl, hsz⟩ := okWide_struct Tryd.underlying23 hv
  have hs4 : Tryd.prog.cellsOf 23 = 4 := by kernel_rfl
  obtain ⟨l⟩ := cs
  match l, hsz.trans hs4 with
  | [c0, c1, c2, c3], _ =>
    obtain ⟨fuel, hf⟩ := h
    obtain ⟨op, a, b, c, rfl, rfl, rfl, rfl, h1⟩ := inst_cells hf
    exact ⟨op, a, b, c, rfl, h1⟩
end
end Go.Proofs.YtjlncoodkejncaaDoor
