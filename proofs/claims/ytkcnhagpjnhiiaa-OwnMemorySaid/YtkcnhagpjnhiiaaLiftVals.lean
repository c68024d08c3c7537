/- Slices of values among a law's arguments. -/
import Derived.Test.YtkcnhagpjnhiiaaLiftVal
import Derived.Test.YtkcnhagpjnhiiaaLiftSl
import Derived.Test.YtkcnhagpjnhiiaaMemRow
namespace Go.Proofs.Ytkcnhagpjnhiiaa
open Go.Joins Go.ChangeShapes Go.WideShapes Go.ChangeAt Go.RowKit Go.Deep
section
variable {H : Type} {enc : TypeId × Value → H} {w : World} {spare : Nat → Bool} {held : Bool}
set_option maxRecDepth 100000 in
theorem open_vals {r : Reach} {b0 : Nat} {v : Value} {d : DataW H} {p : List MemPlace} (hv : Value.okWide Try.prog w r b0 27 v) (h : DataW.Trod enc Try.prog w 0 spare held 27 v d p) :
    ∃ x : SlV ValV, v = x.val ∧ x.ok ValV.wf w ∧ (x.n = 0 ∨ ∃ es sp, d = .slice es sp ∧ es.length = x.n) :=
  open_els Try.underlying27 (by kernel_rfl) (fun fuel cs x hx hl => by
    match cs, hl with
    | [c0, c1, c2, c3, c4, c5, c6], _ =>
      obtain ⟨k, rfl, rfl, rfl, rfl, rfl, rfl, rfl, hw⟩ := val_cells hx
      exact ⟨k, rfl, hw⟩) hv h
end
end Go.Proofs.Ytkcnhagpjnhiiaa
