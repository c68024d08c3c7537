/- Worlds in which all of an older one stands. -/
import Derived.Test.YtcdcmbehnccicaaBlk
namespace Go.Proofs.Ytcdcmbehnccicaa
open Go.RowKit
/-- A world in which all that was there in w0 is as it was. -/
abbrev Later (w0 : World) := Wd (fun W => Below w0.heap.size w0 W)
theorem later_call {w0 : World} {W w' : World} (h : Below w0.heap.size w0 W) (hb : Below W.heap.size W w') : ∃ y : Later w0, w' = y.val := ⟨⟨w', ext_trans h hb⟩, rfl⟩
theorem Later.bk {w0 : World} (x : Later w0) {g : Nat} {T : TypeId} {cs : Array Value} (h : Bk w0 g T cs) : Bk x.val g T cs := bk_keep x.ok h
theorem Later.lt {w0 : World} (x : Later w0) {g : Nat} (h : g < w0.heap.size) : g < x.val.heap.size := Nat.lt_of_lt_of_le h x.ok.size
theorem later_self {w0 W : World} (h : W = w0) : ∃ x : Later w0, W = x.val := ⟨⟨W, by subst h; exact Below.refl _ _⟩, rfl⟩
end Go.Proofs.Ytcdcmbehnccicaa
