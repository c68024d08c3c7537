import Derived.Test.YtpjhjefjbkjhkaaGreatDoorElStrZ
import Derived.Test.YtpjhjefjbkjhkaaGreatDoorLiftIntsPZ
import Derived.Test.YtpjhjefjbkjhkaaGreatDoorLiftStrZ
/- Lists among the arguments of a law that is asked of what is of bounded bulk. -/
namespace Go.Proofs.YtpjhjefjbkjhkaaGreatDoor
open El (cl)
open Go.Joins Go.ChangeShapes Go.WideShapes Go.ChangeAt Go.RowKit Go.Deep
section
variable {H : Type} {enc : TypeId × Value → H} {w : World} {spare : Nat → Bool} {held : Bool}
theorem str_cells {fuel : Nat} {cs : List Value} {x : DataW H × List MemPlace} (h : DataW.trod enc Tryz.prog w 0 spare held fuel 9 cs = some x) (hl : cs.length = 1) : ∃ s : ByteArray, cs = cl s ∧ s.size ≤ maxLen := by
  match cs, hl with
  | [c0], _ =>
    obtain ⟨a, f0, _, w0⟩ := DataW.trod_string Tryz.underlying9 h
    simp at f0
    subst f0
    exact ⟨a, rfl, w0⟩
theorem bulkAll_len {H : Type} : ∀ es : List (DataW H), es.length ≤ Rows.uptoBulkAll es
  | [] => Nat.zero_le _
  | d :: r => by
    have h1 := bulkAll_len r
    have h2 : 1 ≤ Rows.uptoBulk d := by
      cases d with
      | lit l => cases l <;> simp [Rows.uptoBulk]
      | _ => simp [Rows.uptoBulk]
    simp only [List.length_cons, Rows.uptoBulkAll]
    omega
theorem bulk_of {α : Type} [El α] {x : SlV α} {d : DataW H} (h : x.n = 0 ∨ ∃ es sp, d = .slice es sp ∧ es.length = x.n) : x.n ≤ Rows.uptoBulk d := by
  rcases h with h | ⟨es, sp, rfl, h⟩
  · omega
  · have := bulkAll_len es
    simp only [Rows.uptoBulk]
    omega
set_option maxRecDepth 100000 in
theorem open_strings {r : Reach} {b0 : Nat} {v : Value} {d : DataW H} {p : List MemPlace} (hv : Value.okWide Tryz.prog w r b0 80 v) (h : DataW.Trod enc Tryz.prog w 0 spare held 80 v d p) :
    ∃ x : SlV ByteArray, v = x.val ∧ x.ok (fun s => s.size ≤ maxLen) w ∧ (x.n = 0 ∨ ∃ es sp, d = .slice es sp ∧ es.length = x.n) :=
  open_els Tryz.underlying80 (by kernel_rfl) (fun fuel cs x hx hl => str_cells hx hl) hv h
end
end Go.Proofs.YtpjhjefjbkjhkaaGreatDoor
