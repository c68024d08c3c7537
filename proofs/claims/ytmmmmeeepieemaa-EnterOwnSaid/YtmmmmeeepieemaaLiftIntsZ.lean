import Derived.Test.YtmmmmeeepieemaaBuC
import Derived.Test.YtmmmmeeepieemaaBuO
/- Slices of numbers among a law's arguments. -/
namespace Go.Proofs.Ytmmmmeeepieemaa
open Go.Joins Go.ChangeShapes Go.WideShapes Go.ChangeAt Go.RowKit Go.Deep
section
variable {H : Type} {enc : TypeId × Value → H} {w : World} {spare : Nat → Bool} {held : Bool}
set_option maxRecDepth 100000 in
theorem open_ints {r : Reach} {b0 : Nat} {v : Value} {d : DataW H} {p : List MemPlace} (hv : Value.okWide Try.prog w r b0 32 v) (h : DataW.Trod enc Try.prog w 0 spare held 32 v d p) :
    ∃ x : SlV Int, v = x.val ∧ x.ok I64 w ∧ (x.n = 0 ∨ ∃ es sp, d = .slice es sp ∧ es.length = x.n) :=
  open_els Try.underlying32 (by kernel_rfl) (fun fuel cs x hx hl => int_cells hx hl) hv h
end
end Go.Proofs.Ytmmmmeeepieemaa
