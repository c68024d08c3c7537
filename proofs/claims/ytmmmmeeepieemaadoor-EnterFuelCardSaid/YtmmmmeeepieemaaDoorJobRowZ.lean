import Derived.Test.YtmmmmeeepieemaaDoorBuW
/- Rows of jobs. -/
namespace Go.Proofs.YtmmmmeeepieemaaDoor
open El (cl)
open Go.RowKit
set_option linter.unusedVariables false
set_option linter.unusedSimpArgs false
/-- A job as a row. -/
structure JobR where
  name : ByteArray
  args : SlR
  fuel : Int
/-- A job. -/
structure JobV where
  name : ByteArray
  args : List Int
  fuel : Int
instance : El JobR where
  k := 3
  cl x := [.string x.name, .slice x.args.a x.args.n x.args.c, .int .i64 x.fuel]
  z := ⟨ByteArray.empty, ⟨none, 0, 0⟩, 0⟩
  len _ := rfl
  one _ := by intro u hu; simp at hu; rcases hu with rfl | rfl | rfl <;> rfl
  pos := by decide
instance : Inhabited JobR := ⟨⟨ByteArray.empty, ⟨none, 0, 0⟩, 0⟩⟩
theorem add_moreJobR (a : Addr) (i j : Nat) (hj : 0 < j) : a.add (i + j) = ⟨(a.add i).block, (a.add i).off + j, none⟩ := by
  unfold Addr.add
  rw [if_neg (by omega)]
  by_cases hi : i = 0
  · subst hi; simp
  · rw [if_neg hi]; simp [Nat.add_assoc]
theorem sl_JobR {w : World} {ao : Option Addr} {n : Nat} {ks : List JobR} (h : Sl w ao n ks) {i : Nat} (hi : i < n) {x : JobR} (hx : ks[i]? = some x) : ∃ a, ao = some a ∧ (a.add (i * 3)).block < w.heap.size ∧
    w.cell? (a.add (i * 3)) = some (.string x.name) ∧ w.cell? ⟨(a.add (i * 3)).block, (a.add (i * 3)).off + 1, none⟩ = some (.slice x.args.a x.args.n x.args.c) ∧ w.cell? ⟨(a.add (i * 3)).block, (a.add (i * 3)).off + 2, none⟩ = some (.int .i64 x.fuel) := by
  obtain ⟨a, y, e, hb, hy, hc⟩ := h.at hi
  obtain rfl : y = x := by rw [hx] at hy; injection hy with hy; exact hy.symm
  refine ⟨a, e, by rw [el_block]; exact hb, ?_⟩
  rw [← add_moreJobR a (i * 3) 1 (by decide), ← add_moreJobR a (i * 3) 2 (by decide)]
  exact ⟨hc 0 _ rfl, hc 1 _ rfl, hc 2 _ rfl⟩
/-- A job lies behind its row. -/
structure JobR.has (w : World) (r : JobR) (j : JobV) : Prop where
  name : j.name = r.name
  fuel : j.fuel = r.fuel
  args : Sl w r.args.a r.args.n j.args
  le : r.args.n ≤ r.args.c
  wa : ∀ n ∈ j.args, I64 n
  wf : I64 r.fuel
theorem JobR.has.below {w w' : World} {r : JobR} {j : JobV} (h : r.has w j) (hb : Below w.heap.size w w') : r.has w' j := ⟨h.name, h.fuel, h.args.below hb, h.le, h.wa, h.wf⟩
/-- Jobs lie behind a row of rows. -/
structure Jobs (w : World) (ao : Option Addr) (n : Nat) (rs : List JobR) (js : List JobV) : Prop where
  sl : Sl w ao n rs
  len : rs.length = js.length
  at_ : ∀ (i : Nat) (r : JobR) (j : JobV), rs[i]? = some r → js[i]? = some j → r.has w j
theorem Jobs.below {w w' : World} {ao : Option Addr} {n : Nat} {rs : List JobR} {js : List JobV} (h : Jobs w ao n rs js) (hb : Below w.heap.size w w') : Jobs w' ao n rs js :=
  ⟨h.sl.below hb, h.len, fun i r m h1 h2 => (h.at_ i r m h1 h2).below hb⟩
theorem Jobs.n {w : World} {ao : Option Addr} {n : Nat} {rs : List JobR} {js : List JobV} (h : Jobs w ao n rs js) : js.length = n := by rw [← h.len]; exact h.sl.len
theorem Jobs.get {w : World} {ao : Option Addr} {n : Nat} {rs : List JobR} {js : List JobV} (h : Jobs w ao n rs js) {i : Nat} (hi : i < n) : ∃ r j, rs[i]? = some r ∧ js[i]? = some j ∧ r.has w j := by
  have h1 := h.n
  have h2 := h.len
  exact ⟨_, _, List.getElem?_eq_getElem (by omega), List.getElem?_eq_getElem (by omega), h.at_ i _ _ (List.getElem?_eq_getElem (by omega)) (List.getElem?_eq_getElem (by omega))⟩
end Go.Proofs.YtmmmmeeepieemaaDoor
