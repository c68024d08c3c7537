import Derived.Test.YtmmmmeeepieemaaDoorBuX
import Derived.Test.YtmmmmeeepieemaaDoorBuZ
import Derived.Test.YtmmmmeeepieemaaDoorJobRowZ
/- Jobs one behind the other: plain data, and rows of what was done. -/
namespace Go.Proofs.YtmmmmeeepieemaaDoor
open El (cl)
open Go.RowKit
set_option linter.unusedVariables false
set_option linter.unusedSimpArgs false
/-- The memory behind jobs. -/
def memK (E : List EntryV) (M : List ValV) (js : List JobV) : List ValV := js.foldl (fun M j => (doF M E j.name j.args j.fuel).2) M
/-- What is told of them. -/
def donesK (E : List EntryV) : List ValV → List JobV → List DoneV
  | _, [] => []
  | M, j :: js => (doF M E j.name j.args j.fuel).1 :: donesK E (doF M E j.name j.args j.fuel).2 js
theorem memK_snoc (E : List EntryV) (M : List ValV) (js : List JobV) (j : JobV) : memK E M (js ++ [j]) = (doF (memK E M js) E j.name j.args j.fuel).2 := by unfold memK; simp
theorem donesK_snoc (E : List EntryV) (j : JobV) : ∀ (js : List JobV) (M : List ValV), donesK E M (js ++ [j]) = donesK E M js ++ [(doF (memK E M js) E j.name j.args j.fuel).1]
  | [], M => rfl
  | x :: js, M => by
    rw [List.cons_append, donesK, donesK, donesK_snoc E j js, List.cons_append]
    rfl
theorem donesK_len (E : List EntryV) : ∀ (js : List JobV) (M : List ValV), (donesK E M js).length = js.length
  | [], _ => rfl
  | j :: js, M => by rw [donesK, List.length_cons, List.length_cons, donesK_len E js]
theorem memK_next {E : List EntryV} {M : List ValV} {js : List JobV} {k : Nat} {j : JobV} (h : js[k]? = some j) : memK E M (js.take (k + 1)) = (doF (memK E M (js.take k)) E j.name j.args j.fuel).2 := by
  rw [List.take_add_one, h]
  exact memK_snoc _ _ _ _
theorem donesK_next {E : List EntryV} {M : List ValV} {js : List JobV} {k : Nat} {j : JobV} (h : js[k]? = some j) : donesK E M (js.take (k + 1)) = donesK E M (js.take k) ++ [(doF (memK E M (js.take k)) E j.name j.args j.fuel).1] := by
  rw [List.take_add_one, h]
  exact donesK_snoc _ _ _ _
theorem donesK_at {E : List EntryV} : ∀ {js : List JobV} {M : List ValV} {k : Nat} {j : JobV}, js[k]? = some j → (donesK E M js)[k]? = some (doF (memK E M (js.take k)) E j.name j.args j.fuel).1
  | [], M, k, j, h => by simp at h
  | x :: js, M, 0, j, h => by
    simp at h
    subst h
    rfl
  | x :: js, M, k + 1, j, h => by
    rw [donesK, List.getElem?_cons_succ, donesK_at (by simpa using h)]
    rfl
theorem memK_ok {E : List EntryV} : ∀ {js : List JobV} {M : List ValV}, ImOk M E → ImOk (memK E M js) E
  | [], _, h => h
  | j :: js, M, h => by
    show ImOk (memK E (doF M E j.name j.args j.fuel).2 js) E
    exact memK_ok ⟨entM_mem_ok h.m, h.e, h.k⟩
/-- What was done, as a row. -/
structure DoneR where
  e : Int
  n : Int
  out : SlR
  fuel : Int
instance : El DoneR where
  k := 4
  cl x := [.int .i64 x.e, .int .i64 x.n, .slice x.out.a x.out.n x.out.c, .int .i64 x.fuel]
  z := ⟨0, 0, ⟨none, 0, 0⟩, 0⟩
  len _ := rfl
  one _ := by intro u hu; simp at hu; rcases hu with rfl | rfl | rfl | rfl <;> rfl
  pos := by decide
instance : Inhabited DoneR := ⟨⟨0, 0, ⟨none, 0, 0⟩, 0⟩⟩
theorem add_moreDoneR (a : Addr) (i j : Nat) (hj : 0 < j) : a.add (i + j) = ⟨(a.add i).block, (a.add i).off + j, none⟩ := by
  unfold Addr.add
  rw [if_neg (by omega)]
  by_cases hi : i = 0
  · subst hi; simp
  · rw [if_neg hi]; simp [Nat.add_assoc]
theorem sl_DoneR {w : World} {ao : Option Addr} {n : Nat} {ks : List DoneR} (h : Sl w ao n ks) {i : Nat} (hi : i < n) {x : DoneR} (hx : ks[i]? = some x) : ∃ a, ao = some a ∧ (a.add (i * 4)).block < w.heap.size ∧
    w.cell? (a.add (i * 4)) = some (.int .i64 x.e) ∧ w.cell? ⟨(a.add (i * 4)).block, (a.add (i * 4)).off + 1, none⟩ = some (.int .i64 x.n) ∧ w.cell? ⟨(a.add (i * 4)).block, (a.add (i * 4)).off + 2, none⟩ = some (.slice x.out.a x.out.n x.out.c) ∧ w.cell? ⟨(a.add (i * 4)).block, (a.add (i * 4)).off + 3, none⟩ = some (.int .i64 x.fuel) := by
  obtain ⟨a, y, e, hb, hy, hc⟩ := h.at hi
  obtain rfl : y = x := by rw [hx] at hy; injection hy with hy; exact hy.symm
  refine ⟨a, e, by rw [el_block]; exact hb, ?_⟩
  rw [← add_moreDoneR a (i * 4) 1 (by decide), ← add_moreDoneR a (i * 4) 2 (by decide), ← add_moreDoneR a (i * 4) 3 (by decide)]
  exact ⟨hc 0 _ rfl, hc 1 _ rfl, hc 2 _ rfl, hc 3 _ rfl⟩
/-- What was done lies behind its row. -/
structure DoneR.has (W : World) (base : Nat) (r : DoneR) (x : DoneV) : Prop where
  e : r.e = x.e
  n : r.n = x.n
  fuel : r.fuel = x.fuel
  out : Own W base 3 (.slice r.out.a r.out.n r.out.c) x.out
structure Dones (W : World) (base : Nat) (rs : List DoneR) (ds : List DoneV) : Prop where
  len : rs.length = ds.length
  at_ : ∀ (i : Nat) (r : DoneR) (x : DoneV), rs[i]? = some r → ds[i]? = some x → r.has W base x
section
variable {W W' : World} {base : Nat} {rs : List DoneR} {ds : List DoneV}
theorem Dones.nil : Dones W base [] [] := ⟨rfl, fun i r x h => by simp at h⟩
theorem Dones.map (h : Dones W base rs ds) (f : ∀ (v : Value) (xs : List Int), Own W base 3 v xs → Own W' base 3 v xs) : Dones W' base rs ds :=
  ⟨h.len, fun i r x h1 h2 => by have := h.at_ i r x h1 h2; exact ⟨this.e, this.n, this.fuel, f _ _ this.out⟩⟩
theorem Dones.below (h : Dones W base rs ds) (hb : Below W.heap.size W W') : Dones W' base rs ds := h.map fun v xs o => o.below hb
theorem Dones.mono {b' : Nat} (h : Dones W base rs ds) (hb : b' ≤ base) : Dones W b' rs ds :=
  ⟨h.len, fun i r x h1 h2 => by have := h.at_ i r x h1 h2; exact ⟨this.e, this.n, this.fuel, this.out.mono hb⟩⟩
theorem Dones.cell (h : Dones W base rs ds) {k : Nat} {T : TypeId} {cs : Array Value} (hb : Bk W k T cs) (hT : T ≠ 3) (i : Nat) (u : Value) : Dones (W.setCell ⟨k, i, none⟩ u) base rs ds := h.map fun v xs o => own_cell o hb hT i u
theorem Dones.snoc (h : Dones W base rs ds) {r : DoneR} {x : DoneV} (hx : r.has W base x) : Dones W base (rs ++ [r]) (ds ++ [x]) := by
  refine ⟨by rw [List.length_append, List.length_append, h.len]; rfl, fun i r' x' h1 h2 => ?_⟩
  have hl := h.len
  rcases Nat.lt_or_ge i rs.length with hi | hi
  · rw [List.getElem?_append_left hi] at h1
    rw [List.getElem?_append_left (by omega)] at h2
    exact h.at_ i r' x' h1 h2
  · rw [List.getElem?_append_right hi] at h1
    rw [List.getElem?_append_right (by omega)] at h2
    have h0 : i - rs.length = 0 := by
      have := (List.getElem?_eq_some_iff.1 h1).1
      simp at this
      omega
    rw [h0] at h1
    rw [show i - ds.length = 0 by omega] at h2
    simp at h1 h2
    subst h1 h2
    exact hx
end
theorem own_parted {α β : Type} [El α] [El β] {w : World} {b b' : Nat} {T T' : TypeId} {v u : Value} {xs : List α} {ys : List β} (h : Own w b T v xs) (h' : Own w b' T' u ys) (hT : T ≠ T') : v.ownBlock = none ∨ v.ownBlock ≠ u.ownBlock := by
  cases hv : v.ownBlock with
  | none => exact .inl rfl
  | some k =>
    right
    intro e
    obtain ⟨cur, fr, h1⟩ := own_obj h hv
    obtain ⟨cur', fr', h2⟩ := own_obj h' e.symm
    rw [h1] at h2
    injection h2 with h2
    injection h2 with _ h2
    exact hT h2
theorem lit_done (w : World) (r : DoneR) (T : TypeId) : Sl (w.alloc (.cells #[.int .i64 r.e, .int .i64 r.n, .slice r.out.a r.out.n r.out.c, .int .i64 r.fuel] T)) (some ⟨w.heap.size, 0, none⟩) 1 [r] := by
  have h0 := own_lit (xs := [r]) w T 0 (Nat.zero_le _) #[.int .i64 r.e, .int .i64 r.n, .slice r.out.a r.out.n r.out.c, .int .i64 r.fuel] 1 rfl (by decide) rfl
  obtain ⟨ao, c, e, h, _⟩ := h0.sl
  injection e with e _ _
  subst e
  simpa using h
end Go.Proofs.YtmmmmeeepieemaaDoor
