import Derived.Test.YtmmmmeeepieemaaDoorBuO
import Derived.Test.YtmmmmeeepieemaaDoorBuW
/- Slices of modules among a law's arguments. -/
namespace Go.Proofs.YtmmmmeeepieemaaDoor
open El (cl)
open Go.Joins Go.ChangeShapes Go.WideShapes Go.ChangeAt Go.RowKit Go.Deep
set_option linter.unusedVariables false
/-- Modules as an argument. -/
structure ModsA where
  ao : Option Addr
  n : Nat
  cap : Nat
  rs : List ModR
  ms : List ModV
def ModsA.val (x : ModsA) : Value := .slice x.ao x.n x.cap
structure ModsA.ok (w : World) (x : ModsA) : Prop where
  mods : Mods w x.ao x.n x.rs x.ms
  le : x.n ≤ x.cap
theorem mods_of {w : World} : ∀ rs : List ModR, (∀ r ∈ rs, ∃ m, ModR.has w r m) → ∃ ms : List ModV, rs.length = ms.length ∧ ∀ (i : Nat) (r : ModR) (m : ModV), rs[i]? = some r → ms[i]? = some m → r.has w m
  | [], _ => ⟨[], rfl, fun i r m h => by simp at h⟩
  | r :: rs, h => by
    obtain ⟨m, hm⟩ := h r (by simp)
    obtain ⟨ms, h1, h2⟩ := mods_of rs fun r hr => h r (List.mem_cons_of_mem _ hr)
    refine ⟨m :: ms, by simp [h1], fun i r' m' e1 e2 => ?_⟩
    cases i with
    | zero => simp at e1 e2; subst e1 e2; exact hm
    | succ i => exact h2 i r' m' (by simpa using e1) (by simpa using e2)
section
variable {H : Type} {enc : TypeId × Value → H} {w : World} {spare : Nat → Bool} {held : Bool}
theorem num_cells {fuel : Nat} {cs : List Value} {x : DataW H × List MemPlace} (h : DataW.trod enc Tryd.prog w 0 spare held fuel 3 cs = some x) (hl : cs.length = 1) : ∃ n : Int, cs = cl n ∧ I64 n := by
  match cs, hl with
  | [c0], _ =>
    obtain ⟨a, f0, _, w0⟩ := DataW.trod_int Tryd.underlying3 h
    simp at f0
    subst f0
    exact ⟨a, rfl, wf_bd w0⟩
theorem lab_cells {fuel : Nat} {cs : List Value} {x : DataW H × List MemPlace} (h : DataW.trod enc Tryd.prog w 0 spare held fuel 102 cs = some x) (hl : cs.length = 2) : ∃ y : NamV, cs = cl y ∧ y.wf := by
  match cs, hl with
  | [c0, c1], _ =>
    obtain ⟨xs, n, _, hx, _, hlen, hg⟩ := DataW.trod_struct Tryd.underlying102 h
    have hs : Tryd.prog.cellsOf 9 = 1 := by kernel_rfl
    have hi : Tryd.prog.cellsOf 3 = 1 := by kernel_rfl
    have g0 : DataW.trod enc Tryd.prog w 0 spare held n 9 [c0] = xs[0]? := by simpa [hs] using hg 0 _ rfl
    have g1 : DataW.trod enc Tryd.prog w 0 spare held n 3 [c1] = xs[1]? := by simpa [hs, hi] using hg 1 _ rfl
    have e0 : xs[0]? = some (xs[0]'(by rw [hlen]; decide)) := List.getElem?_eq_getElem _
    have e1 : xs[1]? = some (xs[1]'(by rw [hlen]; decide)) := List.getElem?_eq_getElem _
    obtain ⟨s, f0, _, hs0⟩ := DataW.trod_string Tryd.underlying9 (g0.trans e0)
    obtain ⟨a, f1, _, w1⟩ := DataW.trod_int Tryd.underlying3 (g1.trans e1)
    simp at f0 f1
    subst f0 f1
    exact ⟨⟨s, a⟩, rfl, ⟨hs0, wf_bd w1⟩⟩
theorem imp_cells {fuel : Nat} {cs : List Value} {x : DataW H × List MemPlace} (h : DataW.trod enc Tryd.prog w 0 spare held fuel 106 cs = some x) (hl : cs.length = 2) : ∃ y : NamV, cs = cl y ∧ y.wf := by
  match cs, hl with
  | [c0, c1], _ =>
    obtain ⟨xs, n, _, hx, _, hlen, hg⟩ := DataW.trod_struct Tryd.underlying106 h
    have hs : Tryd.prog.cellsOf 9 = 1 := by kernel_rfl
    have hi : Tryd.prog.cellsOf 3 = 1 := by kernel_rfl
    have g0 : DataW.trod enc Tryd.prog w 0 spare held n 9 [c0] = xs[0]? := by simpa [hs] using hg 0 _ rfl
    have g1 : DataW.trod enc Tryd.prog w 0 spare held n 3 [c1] = xs[1]? := by simpa [hs, hi] using hg 1 _ rfl
    have e0 : xs[0]? = some (xs[0]'(by rw [hlen]; decide)) := List.getElem?_eq_getElem _
    have e1 : xs[1]? = some (xs[1]'(by rw [hlen]; decide)) := List.getElem?_eq_getElem _
    obtain ⟨s, f0, _, hs0⟩ := DataW.trod_string Tryd.underlying9 (g0.trans e0)
    obtain ⟨a, f1, _, w1⟩ := DataW.trod_int Tryd.underlying3 (g1.trans e1)
    simp at f0 f1
    subst f0 f1
    exact ⟨⟨s, a⟩, rfl, ⟨hs0, wf_bd w1⟩⟩
set_option maxRecDepth 100000 in
theorem mod_cells {fuel : Nat} {cs : List Value} {x : DataW H × List MemPlace} (h : DataW.trod enc Tryd.prog w 0 spare held fuel 97 cs = some x) (hl : cs.length = 4) : ∃ y : ModR, cs = cl y ∧ ∃ m, y.has w m := by
  match cs, hl with
  | [c0, c1, c2, c3], _ =>
    obtain ⟨xs, n, _, hx, _, hlen, hg⟩ := DataW.trod_struct Tryd.underlying97 h
    have h0 : Tryd.prog.cellsOf 36 = 1 := by kernel_rfl
    have h2 : Tryd.prog.cellsOf 94 = 1 := by kernel_rfl
    have h3 : Tryd.prog.cellsOf 95 = 1 := by kernel_rfl
    have g0 : DataW.trod enc Tryd.prog w 0 spare held n 36 [c0] = xs[0]? := by simpa [h0] using hg 0 _ rfl
    have g1 : DataW.trod enc Tryd.prog w 0 spare held n 36 [c1] = xs[1]? := by simpa [h0] using hg 1 _ rfl
    have g2 : DataW.trod enc Tryd.prog w 0 spare held n 94 [c2] = xs[2]? := by simpa [h0, h2] using hg 2 _ rfl
    have g3 : DataW.trod enc Tryd.prog w 0 spare held n 95 [c3] = xs[3]? := by simpa [h0, h2, h3] using hg 3 _ rfl
    have e0 : xs[0]? = some (xs[0]'(by rw [hlen]; decide)) := List.getElem?_eq_getElem _
    have e1 : xs[1]? = some (xs[1]'(by rw [hlen]; decide)) := List.getElem?_eq_getElem _
    have e2 : xs[2]? = some (xs[2]'(by rw [hlen]; decide)) := List.getElem?_eq_getElem _
    have e3 : xs[3]? = some (xs[3]'(by rw [hlen]; decide)) := List.getElem?_eq_getElem _
    obtain ⟨x0, rfl, k0, _⟩ := open_els_in (α := Int) (Q := I64) Tryd.underlying36 (by kernel_rfl) (fun fuel cs x hx hl => num_cells hx hl) (g0.trans e0)
    obtain ⟨x1, rfl, k1, _⟩ := open_els_in (α := Int) (Q := I64) Tryd.underlying36 (by kernel_rfl) (fun fuel cs x hx hl => num_cells hx hl) (g1.trans e1)
    obtain ⟨x2, rfl, k2, _⟩ := open_els_in (α := NamV) (Q := NamV.wf) Tryd.underlying94 (by kernel_rfl) (fun fuel cs x hx hl => lab_cells hx hl) (g2.trans e2)
    obtain ⟨x3, rfl, k3, _⟩ := open_els_in (α := NamV) (Q := NamV.wf) Tryd.underlying95 (by kernel_rfl) (fun fuel cs x hx hl => imp_cells hx hl) (g3.trans e3)
    exact ⟨⟨⟨x0.ao, x0.n, x0.cap⟩, ⟨x1.ao, x1.n, x1.cap⟩, ⟨x2.ao, x2.n, x2.cap⟩, ⟨x3.ao, x3.n, x3.cap⟩⟩, rfl, ⟨x0.vs, x1.vs, x2.vs, x3.vs⟩, ⟨k0.sl, k1.sl, k2.sl, k3.sl, ⟨k0.le, k1.le, k2.le, k3.le⟩, k0.wf, k1.wf, k2.wf, k3.wf⟩⟩
set_option maxRecDepth 100000 in
theorem open_mods {r : Reach} {b0 : Nat} {v : Value} {d : DataW H} {p : List MemPlace} (hv : Value.okWide Tryd.prog w r b0 49 v) (h : DataW.Trod enc Tryd.prog w 0 spare held 49 v d p) :
    ∃ x : ModsA, v = x.val ∧ x.ok w ∧ (x.n = 0 ∨ ∃ es sp, d = .slice es sp ∧ es.length = x.n) := by
  obtain ⟨x, rfl, hx, hs⟩ := open_els (α := ModR) (Q := fun r => ∃ m, ModR.has w r m) Tryd.underlying49 (by kernel_rfl) (fun fuel cs x hx hl => mod_cells hx hl) hv h
  obtain ⟨ms, h1, h2⟩ := mods_of x.vs hx.wf
  exact ⟨⟨x.ao, x.n, x.cap, x.vs, ms⟩, rfl, ⟨⟨hx.sl, h1, h2⟩, hx.le⟩, hs⟩
end
end Go.Proofs.YtmmmmeeepieemaaDoor
