import Derived.Test.YtjlncoodkejncaaGreatDoorBuW
/- A module that may be without one of its exports or imports: plain data. -/
namespace Go.Proofs.YtjlncoodkejncaaGreatDoor
open Go.RowKit
set_option linter.unusedVariables false
set_option linter.unusedSimpArgs false
theorem cut_sub {α : Type} (l : List α) (k : Nat) : (l.take k ++ l.drop (k + 1)).Sublist l := by
  conv => rhs; rw [← List.take_append_drop k l]
  refine List.Sublist.append (List.Sublist.refl _) ?_
  rw [← List.drop_drop]
  exact List.drop_sublist _ _
theorem ModOk.less_ex {nm : ByteArray → Bool} {m : ModV} (h : ModOk nm m) (k : Nat) : ModOk nm { m with ex := m.ex.take k ++ m.ex.drop (k + 1) } :=
  ⟨h.l1, h.l2, Nat.le_trans (cut_sub m.ex k).length_le h.l3, h.l4, h.n1, h.n2, fun x hx => h.e1 x ((cut_sub m.ex k).subset hx), h.e2.sublist (cut_sub m.ex k), h.i1, h.i2⟩
theorem ModOk.less_im {nm : ByteArray → Bool} {m : ModV} (h : ModOk nm m) (k : Nat) : ModOk nm { m with im := m.im.take k ++ m.im.drop (k + 1) } :=
  ⟨h.l1, h.l2, h.l3, Nat.le_trans (cut_sub m.im k).length_le h.l4, h.n1, h.n2, h.e1, h.e2, fun x hx => h.i1 x ((cut_sub m.im k).subset hx), h.i2.sublist (cut_sub m.im k)⟩
end Go.Proofs.YtjlncoodkejncaaGreatDoor
