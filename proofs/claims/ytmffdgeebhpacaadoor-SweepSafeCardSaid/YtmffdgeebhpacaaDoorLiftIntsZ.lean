import Derived.Test.YtmffdgeebhpacaaDoorBuC
import Derived.Test.YtmffdgeebhpacaaDoorBuO
/- Slices of numbers among a law's arguments. -/
namespace Go.Proofs.YtmffdgeebhpacaaDoor
open Go.Joins Go.ChangeShapes Go.WideShapes Go.ChangeAt Go.RowKit Go.Deep
section
variable {H : Type} {enc : TypeId × Value → H} {w : World} {spare : Nat → Bool} {held : Bool}
set_option maxRecDepth 100000 in
theorem open_ints {r : Reach} {b0 : Nat} {v : Value} {d : DataW H} {p : List MemPlace} (hv : Value.okWide Tryd.prog w r b0 29 v) (h : DataW.Trod enc Tryd.prog w 0 spare held 29 v d p) :
    ∃ x : SlV Int, v = x.val ∧ x.ok I64 w ∧ (x.n = 0 ∨ ∃ es sp, d = .slice es sp ∧ es.length = x.n) :=
  open_els Tryd.underlying29 (by kernel_rfl) (fun fuel cs x hx hl => int_cells hx hl) hv h
end
end Go.Proofs.YtmffdgeebhpacaaDoor
