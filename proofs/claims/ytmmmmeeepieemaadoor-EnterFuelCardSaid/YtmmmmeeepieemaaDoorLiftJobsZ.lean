import Derived.Test.YtmmmmeeepieemaaDoorJobRowZ
import Derived.Test.YtmmmmeeepieemaaDoorLiftModsZ
/- Jobs among a law's arguments. -/
namespace Go.Proofs.YtmmmmeeepieemaaDoor
open El (cl)
open Go.Joins Go.ChangeShapes Go.WideShapes Go.ChangeAt Go.RowKit Go.Deep
set_option linter.unusedVariables false
/-- A job as an argument. -/
structure JobA where
  r : JobR
  j : JobV
def JobA.val (x : JobA) : Value := .agg #[.string x.r.name, .slice x.r.args.a x.r.args.n x.r.args.c, .int .i64 x.r.fuel]
def JobA.ok (w : World) (x : JobA) : Prop := x.r.has w x.j
/-- Jobs as an argument. -/
structure JobsA where
  ao : Option Addr
  n : Nat
  cap : Nat
  rs : List JobR
  js : List JobV
def JobsA.val (x : JobsA) : Value := .slice x.ao x.n x.cap
structure JobsA.ok (w : World) (x : JobsA) : Prop where
  jobs : Jobs w x.ao x.n x.rs x.js
  le : x.n ≤ x.cap
theorem jobs_of {w : World} : ∀ rs : List JobR, (∀ r ∈ rs, ∃ m, JobR.has w r m) → ∃ ms : List JobV, rs.length = ms.length ∧ ∀ (i : Nat) (r : JobR) (m : JobV), rs[i]? = some r → ms[i]? = some m → r.has w m
  | [], _ => ⟨[], rfl, fun i r m h => by simp at h⟩
  | r :: rs, h => by
    obtain ⟨m, hm⟩ := h r (by simp)
    obtain ⟨ms, h1, h2⟩ := jobs_of rs fun r hr => h r (List.mem_cons_of_mem _ hr)
    refine ⟨m :: ms, by simp [h1], fun i r' m' e1 e2 => ?_⟩
    cases i with
    | zero => simp at e1 e2; subst e1 e2; exact hm
    | succ i => exact h2 i r' m' (by simpa using e1) (by simpa using e2)
section
variable {H : Type} {enc : TypeId × Value → H} {w : World} {spare : Nat → Bool} {held : Bool}
set_option maxRecDepth 100000 in
theorem job_cells {fuel : Nat} {cs : List Value} {x : DataW H × List MemPlace} (h : DataW.trod enc Tryd.prog w 0 spare held fuel 51 cs = some x) (hl : cs.length = 3) : ∃ y : JobR, cs = cl y ∧ ∃ m, y.has w m := by
  match cs, hl with
  | [c0, c1, c2], _ =>
    obtain ⟨xs, n, _, hx, _, hlen, hg⟩ := DataW.trod_struct Tryd.underlying51 h
    have hs : Tryd.prog.cellsOf 9 = 1 := by kernel_rfl
    have hi : Tryd.prog.cellsOf 3 = 1 := by kernel_rfl
    have hl1 : Tryd.prog.cellsOf 36 = 1 := by kernel_rfl
    have g0 : DataW.trod enc Tryd.prog w 0 spare held n 9 [c0] = xs[0]? := by simpa [hs] using hg 0 _ rfl
    have g1 : DataW.trod enc Tryd.prog w 0 spare held n 36 [c1] = xs[1]? := by simpa [hs, hl1] using hg 1 _ rfl
    have g2 : DataW.trod enc Tryd.prog w 0 spare held n 3 [c2] = xs[2]? := by simpa [hs, hi, hl1] using hg 2 _ rfl
    have e0 : xs[0]? = some (xs[0]'(by rw [hlen]; decide)) := List.getElem?_eq_getElem _
    have e1 : xs[1]? = some (xs[1]'(by rw [hlen]; decide)) := List.getElem?_eq_getElem _
    have e2 : xs[2]? = some (xs[2]'(by rw [hlen]; decide)) := List.getElem?_eq_getElem _
    obtain ⟨s, f0, _, hs0⟩ := DataW.trod_string Tryd.underlying9 (g0.trans e0)
    obtain ⟨x1, rfl, k1, _⟩ := open_els_in (α := Int) (Q := I64) Tryd.underlying36 (by kernel_rfl) (fun fuel cs x hx hl => num_cells hx hl) (g1.trans e1)
    obtain ⟨a, f2, _, w2⟩ := DataW.trod_int Tryd.underlying3 (g2.trans e2)
    simp at f0 f2
    subst f0 f2
    exact ⟨⟨s, ⟨x1.ao, x1.n, x1.cap⟩, a⟩, rfl, ⟨s, x1.vs, a⟩, ⟨rfl, rfl, k1.sl, k1.le, k1.wf, wf_bd w2⟩⟩
set_option maxRecDepth 100000 in
theorem open_job {r : Reach} {b0 : Nat} {v : Value} {d : DataW H} {p : List MemPlace} (hv : Value.okWide Tryd.prog w r b0 51 v) (h : DataW.Trod enc Tryd.prog w 0 spare held 51 v d p) :
    ∃ x : JobA, v = x.val ∧ x.ok w := by
  obtain ⟨cs, rfl, hsz⟩ := okWide_struct Tryd.underlying51 hv
  have hs3 : Tryd.prog.cellsOf 51 = 3 := by kernel_rfl
  obtain ⟨l⟩ := cs
  have hl : l.length = 3 := hsz.trans hs3
  obtain ⟨fuel, hf⟩ := h
  have hf' : DataW.trod enc Tryd.prog w 0 spare held fuel 51 l = some (d, p) := hf
  obtain ⟨y, e, m, hm⟩ := job_cells hf' hl
  subst e
  exact ⟨⟨y, m⟩, rfl, hm⟩
set_option maxRecDepth 100000 in
theorem open_jobs {r : Reach} {b0 : Nat} {v : Value} {d : DataW H} {p : List MemPlace} (hv : Value.okWide Tryd.prog w r b0 65 v) (h : DataW.Trod enc Tryd.prog w 0 spare held 65 v d p) :
    ∃ x : JobsA, v = x.val ∧ x.ok w ∧ (x.n = 0 ∨ ∃ es sp, d = .slice es sp ∧ es.length = x.n) := by
  obtain ⟨x, rfl, hx, hs⟩ := open_els (α := JobR) (Q := fun r => ∃ m, JobR.has w r m) Tryd.underlying65 (by kernel_rfl) (fun fuel cs x hx hl => job_cells hx hl) hv h
  obtain ⟨ms, h1, h2⟩ := jobs_of x.vs hx.wf
  exact ⟨⟨x.ao, x.n, x.cap, x.vs, ms⟩, rfl, ⟨⟨hx.sl, h1, h2⟩, hx.le⟩, hs⟩
end
end Go.Proofs.YtmmmmeeepieemaaDoor
