import Derived.Test.YtpjhjefjbkjhkaaGreatDoorBuC
import Derived.Test.YtpjhjefjbkjhkaaGreatDoorBuO
/- Slices of numbers among a law's arguments, where no machine is. -/
namespace Go.Proofs.YtpjhjefjbkjhkaaGreatDoor
open El (cl)
open Go.Joins Go.ChangeShapes Go.WideShapes Go.ChangeAt Go.RowKit Go.Deep
section
variable {H : Type} {enc : TypeId × Value → H} {w : World} {spare : Nat → Bool} {held : Bool}
theorem int_cellsP {fuel : Nat} {cs : List Value} {x : DataW H × List MemPlace} (h : DataW.trod enc Tryz.prog w 0 spare held fuel 3 cs = some x) (hl : cs.length = 1) : ∃ n : Int, cs = cl n ∧ I64 n := by
  match cs, hl with
  | [c0], _ =>
    obtain ⟨a, f0, _, w0⟩ := DataW.trod_int Tryz.underlying3 h
    simp at f0
    subst f0
    exact ⟨a, rfl, wf_bd w0⟩
set_option maxRecDepth 100000 in
theorem open_ints {r : Reach} {b0 : Nat} {v : Value} {d : DataW H} {p : List MemPlace} (hv : Value.okWide Tryz.prog w r b0 22 v) (h : DataW.Trod enc Tryz.prog w 0 spare held 22 v d p) :
    ∃ x : SlV Int, v = x.val ∧ x.ok I64 w ∧ (x.n = 0 ∨ ∃ es sp, d = .slice es sp ∧ es.length = x.n) :=
  open_els Tryz.underlying22 (by kernel_rfl) (fun fuel cs x hx hl => int_cellsP hx hl) hv h
end
end Go.Proofs.YtpjhjefjbkjhkaaGreatDoor
