import Derived.BigQuiet
import Derived.Deep.QuietTactic
import Derived.IntWalk
import Derived.StillTailTactics
import Derived.Test.YtmmmmeeepieemaaBuC
import Derived.Test.YtmmmmeeepieemaaMachCheckZ
import Derived.Test.YtmmmmeeepieemaaMachCopiedZ
/- What the broom of package sweep does. -/
namespace Go.Proofs.Ytmmmmeeepieemaa
open Go.RowKit
set_option linter.unusedVariables false
set_option linter.unusedSimpArgs false
set_option maxHeartbeats 1000000 in
theorem hits_any (gb : Nat) (b n p kb l a s : Int) (w : World) (c0 : w.cell? ⟨gb, 0, none⟩ = some (.int .i64 b)) (c1 : w.cell? ⟨gb, 1, none⟩ = some (.int .i64 n)) (hg : gb < w.heap.size)
    (b0 : 0 ≤ b) (b1 : b ≤ 400) (n0 : 0 ≤ n) (n1 : n ≤ 400) (k0 : 0 ≤ kb) (k1 : kb ≤ 400) (l0 : 0 ≤ l) (l1 : l ≤ 400) :
    Calls Try.prog 61 #[.pointer (some ⟨gb, 0, none⟩), .agg #[.int .i64 p, .int .i64 kb, .int .i64 l, .int .i64 a, .int .i64 s]] w fun e w' => e = .returned (.bool (hitsB b n ⟨p, kb, l, a, s⟩)) ∧ Below w.heap.size w w' := by
  have q1 : IntKind.i64.wrap (b + n) = b + n := IntWalk.i64_in _ ⟨by omega, by omega⟩
  have q2 : IntKind.i64.wrap (kb + l) = kb + l := IntWalk.i64_in _ ⟨by omega, by omega⟩
  by_cases h0 : 0 < l
  · by_cases h1 : 0 < n
    · by_cases h2 : kb < b + n
      · by_cases h3 : b < kb + l
        · have e : hitsB b n ⟨p, kb, l, a, s⟩ = true := by unfold hitsB; simp; try omega
          have t0 : decide (0 < l) = true := by simp; omega
          have t1 : decide (0 < n) = true := by simp; omega
          have t2 : decide (kb < b + n) = true := by simp; omega
          have t3 : decide (b < kb + l) = true := by simp; omega
          rw [e]
          clear e
          go_enter Try.func61, Try.ntmps61
          go_wp2
          go_quiet (fail)
          go_wp2
          go_ret
          exact ⟨rfl, by repeat (first | with_reducible exact Below.refl _ _ | with_reducible refine ext_alloc ?_ _ | with_reducible refine ext_drewN ?_ _ | with_reducible refine ext_drew ?_)⟩
        · have e : hitsB b n ⟨p, kb, l, a, s⟩ = false := by unfold hitsB; simp; try omega
          have t0 : decide (0 < l) = true := by simp; omega
          have t1 : decide (0 < n) = true := by simp; omega
          have t2 : decide (kb < b + n) = true := by simp; omega
          have t3 : decide (b < kb + l) = false := by simp; omega
          rw [e]
          clear e
          go_enter Try.func61, Try.ntmps61
          go_wp2
          go_quiet (fail)
          go_wp2
          go_ret
          exact ⟨rfl, by repeat (first | with_reducible exact Below.refl _ _ | with_reducible refine ext_alloc ?_ _ | with_reducible refine ext_drewN ?_ _ | with_reducible refine ext_drew ?_)⟩
      · have e : hitsB b n ⟨p, kb, l, a, s⟩ = false := by unfold hitsB; simp; try omega
        have t0 : decide (0 < l) = true := by simp; omega
        have t1 : decide (0 < n) = true := by simp; omega
        have t2 : decide (kb < b + n) = false := by simp; omega
        rw [e]
        clear e
        go_enter Try.func61, Try.ntmps61
        go_wp2
        go_quiet (fail)
        go_wp2
        go_ret
        exact ⟨rfl, by repeat (first | with_reducible exact Below.refl _ _ | with_reducible refine ext_alloc ?_ _ | with_reducible refine ext_drewN ?_ _ | with_reducible refine ext_drew ?_)⟩
    · have e : hitsB b n ⟨p, kb, l, a, s⟩ = false := by unfold hitsB; simp; try omega
      have t0 : decide (0 < l) = true := by simp; omega
      have t1 : decide (0 < n) = false := by simp; omega
      rw [e]
      clear e
      go_enter Try.func61, Try.ntmps61
      go_wp2
      go_quiet (fail)
      go_wp2
      go_ret
      exact ⟨rfl, by repeat (first | with_reducible exact Below.refl _ _ | with_reducible refine ext_alloc ?_ _ | with_reducible refine ext_drewN ?_ _ | with_reducible refine ext_drew ?_)⟩
  · have e : hitsB b n ⟨p, kb, l, a, s⟩ = false := by unfold hitsB; simp; try omega
    have t0 : decide (0 < l) = false := by simp; omega
    rw [e]
    clear e
    go_enter Try.func61, Try.ntmps61
    go_wp2
    go_quiet (fail)
    go_wp2
    go_ret
    exact ⟨rfl, by repeat (first | with_reducible exact Below.refl _ _ | with_reducible refine ext_alloc ?_ _ | with_reducible refine ext_drewN ?_ _ | with_reducible refine ext_drew ?_)⟩
abbrev z5 : List Value := [.int .i64 0, .int .i64 0, .int .i64 0, .int .i64 0, .int .i64 0]
abbrev z7 : List Value := [.bool false, .int .i64 0, .int .i64 0, .int .i64 0, .int .i64 0, .int .i64 0, .int .i64 0]
/-- What key and val leave. -/
def SweptPost (w : World) (gb : Nat) (many : Int) (g off : Nat) (zs : List Value) (h : Bool) (e : Ending) (w' : World) : Prop :=
  e = .returned (.tuple #[]) ∧ ∃ w1, Below w.heap.size w w1 ∧ w' = if h then (w1.setCells g off zs).setCell ⟨gb, 2, none⟩ (.int .i64 (many + 1)) else w1
set_option maxHeartbeats 1000000 in
theorem swkey_any (gb g off : Nat) (b n many p kb l a s : Int) (w : World) (T : TypeId) (hB : Bk w gb T #[.int .i64 b, .int .i64 n, .int .i64 many]) (hne : g ≠ gb) (hgl : g < w.heap.size)
    (hf : ∀ j, w.frozen? ⟨g, j, none⟩ = false)
    (e0 : w.cell? ⟨g, off, none⟩ = some (.int .i64 p)) (e1 : w.cell? ⟨g, off + 1, none⟩ = some (.int .i64 kb)) (e2 : w.cell? ⟨g, off + 2, none⟩ = some (.int .i64 l)) (e3 : w.cell? ⟨g, off + 3, none⟩ = some (.int .i64 a)) (e4 : w.cell? ⟨g, off + 4, none⟩ = some (.int .i64 s))
    (b0 : 0 ≤ b) (b1 : b ≤ 400) (n0 : 0 ≤ n) (n1 : n ≤ 400) (m0 : 0 ≤ many) (m1 : many ≤ 10000) (k0 : 0 ≤ kb) (k1 : kb ≤ 400) (l0 : 0 ≤ l) (l1 : l ≤ 400) :
    Calls Try.prog 50 #[.pointer (some ⟨gb, 0, none⟩), .pointer (some ⟨g, off, none⟩)] w (SweptPost w gb many g off z5 (hitsB b n ⟨p, kb, l, a, s⟩)) := by
  have hits := hits_any gb b n p kb l a s w (hB.cell 0) (hB.cell 1) hB.lt b0 b1 n0 n1 k0 k1 l0 l1
  have fz : ∀ (x : Later w) j, x.val.frozen? ⟨g, j, none⟩ = false := fun x j => (x.ok.frozen (p := ⟨g, j, none⟩) hgl).trans (hf j)
  have fb : ∀ (x : Later w) j, x.val.frozen? ⟨gb, j, none⟩ = false := fun x j => (x.bk hB).frozen j
  have q2 : ∀ (x : Later w), x.val.cell? ⟨gb, 2, none⟩ = some (.int .i64 many) := fun x => (x.bk hB).cell 2
  have d0 : ∀ (x : Later w), x.val.cell? ⟨g, off, none⟩ = some (.int .i64 p) := fun x => (x.ok.cell (p := ⟨g, off, none⟩) hgl).trans e0
  have d1 : ∀ (x : Later w), x.val.cell? ⟨g, off + 1, none⟩ = some (.int .i64 kb) := fun x => (x.ok.cell (p := ⟨g, off + 1, none⟩) hgl).trans e1
  have d2 : ∀ (x : Later w), x.val.cell? ⟨g, off + 2, none⟩ = some (.int .i64 l) := fun x => (x.ok.cell (p := ⟨g, off + 2, none⟩) hgl).trans e2
  have d3 : ∀ (x : Later w), x.val.cell? ⟨g, off + 3, none⟩ = some (.int .i64 a) := fun x => (x.ok.cell (p := ⟨g, off + 3, none⟩) hgl).trans e3
  have d4 : ∀ (x : Later w), x.val.cell? ⟨g, off + 4, none⟩ = some (.int .i64 s) := fun x => (x.ok.cell (p := ⟨g, off + 4, none⟩) hgl).trans e4
  have hne2 : gb ≠ g := fun e => hne e.symm
  cases hh : hitsB b n ⟨p, kb, l, a, s⟩
  · rw [hh] at hits
    have HI := Lib.hid hits
    clear hits hB hh fz fb q2 d0 d1 d2 d3 d4
    go_enter Try.func50, Try.ntmps50
    go_wp2_with (go_at_call 61; ((with_reducible refine HI.out.mono ?_); rintro e w1 ⟨rfl, hb1⟩))
    go_end0
    exact ⟨rfl, _, hb1, rfl⟩
  · rw [hh] at hits
    have HI := Lib.hid hits
    clear hits hB hh
    go_enter Try.func50, Try.ntmps50
    go_wp2_with (go_at_call 61; ((with_reducible refine HI.out.mono ?_); rintro e w1 ⟨rfl, hb1⟩; obtain ⟨y, rfl⟩ := later_call (Below.refl _ _) hb1))
    go_end0
    exact ⟨rfl, _, y.ok, rfl⟩
set_option maxHeartbeats 1000000 in
theorem swval_any (gb g off : Nat) (b n many : Int) (is : Bool) (vn p kb l a s : Int) (w : World) (T : TypeId) (hB : Bk w gb T #[.int .i64 b, .int .i64 n, .int .i64 many]) (hne : g ≠ gb) (hgl : g < w.heap.size)
    (hf : ∀ j, w.frozen? ⟨g, j, none⟩ = false)
    (e0 : w.cell? ⟨g, off, none⟩ = some (.bool is)) (e1 : w.cell? ⟨g, off + 1, none⟩ = some (.int .i64 vn)) (e2 : w.cell? ⟨g, off + 2, none⟩ = some (.int .i64 p)) (e3 : w.cell? ⟨g, off + 3, none⟩ = some (.int .i64 kb)) (e4 : w.cell? ⟨g, off + 4, none⟩ = some (.int .i64 l)) (e5 : w.cell? ⟨g, off + 5, none⟩ = some (.int .i64 a)) (e6 : w.cell? ⟨g, off + 6, none⟩ = some (.int .i64 s))
    (b0 : 0 ≤ b) (b1 : b ≤ 400) (n0 : 0 ≤ n) (n1 : n ≤ 400) (m0 : 0 ≤ many) (m1 : many ≤ 10000) (k0 : 0 ≤ kb) (k1 : kb ≤ 400) (l0 : 0 ≤ l) (l1 : l ≤ 400) :
    Calls Try.prog 51 #[.pointer (some ⟨gb, 0, none⟩), .pointer (some ⟨g, off, none⟩)] w (SweptPost w gb many g off z7 (is && hitsB b n ⟨p, kb, l, a, s⟩)) := by
  have hits := hits_any gb b n p kb l a s w (hB.cell 0) (hB.cell 1) hB.lt b0 b1 n0 n1 k0 k1 l0 l1
  have fz : ∀ (x : Later w) j, x.val.frozen? ⟨g, j, none⟩ = false := fun x j => (x.ok.frozen (p := ⟨g, j, none⟩) hgl).trans (hf j)
  have fb : ∀ (x : Later w) j, x.val.frozen? ⟨gb, j, none⟩ = false := fun x j => (x.bk hB).frozen j
  have q2 : ∀ (x : Later w), x.val.cell? ⟨gb, 2, none⟩ = some (.int .i64 many) := fun x => (x.bk hB).cell 2
  have d0 : ∀ (x : Later w), x.val.cell? ⟨g, off, none⟩ = some (.bool is) := fun x => (x.ok.cell (p := ⟨g, off, none⟩) hgl).trans e0
  have d1 : ∀ (x : Later w), x.val.cell? ⟨g, off + 1, none⟩ = some (.int .i64 vn) := fun x => (x.ok.cell (p := ⟨g, off + 1, none⟩) hgl).trans e1
  have d2 : ∀ (x : Later w), x.val.cell? ⟨g, off + 2, none⟩ = some (.int .i64 p) := fun x => (x.ok.cell (p := ⟨g, off + 2, none⟩) hgl).trans e2
  have d3 : ∀ (x : Later w), x.val.cell? ⟨g, off + 3, none⟩ = some (.int .i64 kb) := fun x => (x.ok.cell (p := ⟨g, off + 3, none⟩) hgl).trans e3
  have d4 : ∀ (x : Later w), x.val.cell? ⟨g, off + 4, none⟩ = some (.int .i64 l) := fun x => (x.ok.cell (p := ⟨g, off + 4, none⟩) hgl).trans e4
  have d5 : ∀ (x : Later w), x.val.cell? ⟨g, off + 5, none⟩ = some (.int .i64 a) := fun x => (x.ok.cell (p := ⟨g, off + 5, none⟩) hgl).trans e5
  have d6 : ∀ (x : Later w), x.val.cell? ⟨g, off + 6, none⟩ = some (.int .i64 s) := fun x => (x.ok.cell (p := ⟨g, off + 6, none⟩) hgl).trans e6
  have hne2 : gb ≠ g := fun e => hne e.symm
  cases is
  · simp only [Bool.false_and]
    clear hits hB fz fb q2 d0 d1 d2 d3 d4 d5 d6
    go_enter Try.func51, Try.ntmps51
    go_wp2
    go_end0
    exact ⟨rfl, _, Below.refl _ _, rfl⟩
  · simp only [Bool.true_and]
    cases hh : hitsB b n ⟨p, kb, l, a, s⟩
    · rw [hh] at hits
      have HI := Lib.hid hits
      clear hits hB hh fz fb q2 d0 d1 d2 d3 d4 d5 d6
      go_enter Try.func51, Try.ntmps51
      go_wp2_with (go_at_call 61; ((with_reducible refine HI.out.mono ?_); rintro e w1 ⟨rfl, hb1⟩))
      go_end0
      exact ⟨rfl, _, hb1, rfl⟩
    · rw [hh] at hits
      have HI := Lib.hid hits
      clear hits hB hh
      go_enter Try.func51, Try.ntmps51
      go_wp2_with (go_at_call 61; ((with_reducible refine HI.out.mono ?_); rintro e w1 ⟨rfl, hb1⟩; obtain ⟨y, rfl⟩ := later_call (Below.refl _ _) hb1))
      go_end0
      exact ⟨rfl, _, y.ok, rfl⟩
end Go.Proofs.Ytmmmmeeepieemaa
/- The state of a machine of the call's own, and what stores into it leave. -/
namespace Go.Proofs.Ytmmmmeeepieemaa
open El (cl)
open Go.RowKit
set_option linter.unusedVariables false
set_option linter.unusedSimpArgs false
theorem setL_app_left : ∀ (us l m : List Value) (i : Nat), i + us.length ≤ l.length → setL (l ++ m) i us = setL l i us ++ m
  | [], l, m, i, _ => rfl
  | u :: us, l, m, i, h => by
    rw [List.length_cons] at h
    rw [setL, setL, List.set_append_left _ _ (by omega), setL_app_left us (l.set i u) m (i + 1) (by rw [List.length_set]; omega)]
theorem setL_app_right : ∀ (us l m : List Value) (i : Nat), setL (l ++ m) (l.length + i) us = l ++ setL m i us
  | [], l, m, i => rfl
  | u :: us, l, m, i => by
    rw [setL, setL, List.set_append_right _ _ (by omega), Nat.add_sub_cancel_left, show l.length + i + 1 = l.length + (i + 1) by omega, setL_app_right us l (m.set i u) (i + 1)]
theorem setL_part {α : Type} [El α] : ∀ {xs : List α} {i j : Nat} {x y : α} {us : List Value}, xs[i]? = some x → j + us.length ≤ El.k α → cl y = setL (cl x) j us → setL (cls xs) (i * El.k α + j) us = cls (xs.set i y)
  | [], i, j, x, y, us, h, _, _ => by simp at h
  | z :: xs, 0, j, x, y, us, h, hj, hc => by
    simp at h
    subst h
    rw [cls_cons, List.set_cons_zero, cls_cons, Nat.zero_mul, Nat.zero_add, setL_app_left _ _ _ _ (by rw [El.len]; exact hj), hc]
  | z :: xs, i + 1, j, x, y, us, h, hj, hc => by
    rw [cls_cons, List.set_cons_succ, cls_cons]
    have e : (i + 1) * El.k α + j = (cl z).length + (i * El.k α + j) := by rw [El.len, Nat.add_mul]; omega
    rw [e, setL_app_right, setL_part (by simpa using h) hj hc]
theorem bk_setCells {w : World} {g : Nat} {T : TypeId} : ∀ (us l : List Value) (i : Nat) (w : World), Bk w g T l.toArray → Bk (w.setCells g i us) g T (setL l i us).toArray
  | [], l, i, w, h => h
  | u :: us, l, i, w, h => by
    have h1 := bk_set i u h
    rw [List.setIfInBounds_toArray] at h1
    exact bk_setCells (w := w) (g := g) us (l.set i u) (i + 1) _ h1
theorem grown_setCells (g : Nat) : ∀ (us : List Value) (i : Nat) (w : World), w.grownBy (w.setCells g i us) (some g)
  | [], i, w => World.grownBy.refl w _
  | u :: us, i, w => by
    have h1 : w.grownBy (w.setCell ⟨g, i, none⟩ u) (some g) := ⟨rfl, rfl, rfl, by simp [World.setCell], fun k _ hk => Below.heap_setCell w _ u k (fun e => hk (by rw [e]))⟩
    exact h1.trans (grown_setCells g us (i + 1) _)
theorem below_setCells {a b : World} (h : Below a.heap.size a b) {g : Nat} (hg : a.heap.size ≤ g) (i : Nat) (us : List Value) : Below a.heap.size a (b.setCells g i us) :=
  h.grown (grown_setCells g us i b) h.size (fun k e => by injection e with e; omega)
theorem bk_setCells_far {w : World} {g h : Nat} {T : TypeId} {cs : Array Value} (hb : Bk w h T cs) (hne : h ≠ g) (i : Nat) (us : List Value) : Bk (w.setCells g i us) h T cs :=
  ((grown_setCells g us i w).block h hb.lt (fun e => hne (by injection e))).trans hb
theorem own_part {α : Type} [El α] {w : World} {base : Nat} {T : TypeId} {xs : List α} {g cap i j : Nat} {x y : α} {us : List Value} (h : Own w base T (.slice (some ⟨g, 0, none⟩) xs.length cap) xs) (hx : xs[i]? = some x) (hj : j + us.length ≤ El.k α) (hc : cl y = setL (cl x) j us) :
    Own (w.setCells g (i * El.k α + j) us) base T (.slice (some ⟨g, 0, none⟩) xs.length cap) (xs.set i y) := by
  obtain ⟨h1, _⟩ := row_stored (w := w) us w (cls xs) (i * El.k α + j) h
  rw [setL_part hx hj hc] at h1
  unfold Own
  rw [List.length_set]
  exact h1
theorem own_setCells_bk {α : Type} [El α] {w : World} {base : Nat} {T : TypeId} {v : Value} {xs : List α} (h : Own w base T v xs) {g : Nat} {T' : TypeId} {cs : Array Value} (hg : Bk w g T' cs) (hT : T' ≠ T) (i : Nat) (us : List Value) : Own (w.setCells g i us) base T v xs := by
  refine h.kept (grown_setCells g us i w) ?_
  rcases h.2 with ⟨rfl, _⟩ | ⟨g', cap, cur, rfl, _, hg', _⟩
  · exact .inl rfl
  · right
    intro e
    simp [Value.ownBlock] at e
    subst e
    unfold Bk at hg
    rw [hg] at hg'
    injection hg' with hg'
    injection hg' with _ ht _
    exact hT ht
theorem own_setCells_own {α β : Type} [El α] [El β] {w : World} {base base' : Nat} {T T' : TypeId} {v : Value} {xs : List α} {ys : List β} (h : Own w base T v xs) {g n cap : Nat} (hg : Own w base' T' (.slice (some ⟨g, 0, none⟩) n cap) ys) (hT : T' ≠ T) (i : Nat) (us : List Value) : Own (w.setCells g i us) base T v xs := by
  obtain ⟨cur, hcur⟩ : ∃ cur, Bk w g T' cur := by
    rcases hg.2 with ⟨e, _⟩ | ⟨g', c, cur, e, _, hg', _⟩
    · cases e
    · injection e with e _ _
      injection e with e
      injection e with e _ _
      subst e
      exact ⟨cur, hg'⟩
  exact own_setCells_bk h hcur hT i us
theorem own_bk_ne {α : Type} [El α] {w : World} {base : Nat} {T : TypeId} {xs : List α} {g n cap : Nat} (h : Own w base T (.slice (some ⟨g, 0, none⟩) n cap) xs) {k : Nat} {T' : TypeId} {cs : Array Value} (hk : Bk w k T' cs) (hT : T' ≠ T) : g ≠ k := by
  rintro rfl
  rcases h.2 with ⟨e, _⟩ | ⟨g', c, cur, e, _, hg', _⟩
  · cases e
  · injection e with e _ _
    injection e with e
    injection e with e _ _
    subst e
    unfold Bk at hk
    rw [hk] at hg'
    injection hg' with hg'
    injection hg' with _ ht _
    exact hT ht
theorem setCells_one (w : World) (g i : Nat) (v : Value) : w.setCells g i [v] = w.setCell ⟨g, i, none⟩ v := rfl
theorem mcs_regset {R : List ValV} {c : KeyV} {ms ss os : Value} (h8 : R.length = 8) {k : Nat} {x y : ValV} (hx : R[k]? = some x) {us : List Value} (hu : us = cl y) : (setL (cls R ++ [.int .i64 c.perm, .int .i64 c.base, .int .i64 c.len, .int .i64 c.at_, .int .i64 c.seal_, ms, ss, os]) (k * 7) us).toArray = mcs (R.set k y) c ms ss os := by
  have hk : k < 8 := by have := (List.getElem?_eq_some_iff.1 hx).1; omega
  have e7 : El.k ValV = 7 := rfl
  have hl : us.length = 7 := by rw [hu, El.len]; rfl
  unfold mcs
  rw [setL_app_left _ _ _ _ (by rw [regs_cells h8, hl]; omega)]
  have := setL_part (y := y) (j := 0) (us := us) hx (by rw [hl, e7]; exact Nat.le_refl _) (by
    rw [hu, setL_eq _ _ _ (by rw [El.len, El.len, e7]; exact Nat.le_refl _), List.take_zero, List.nil_append, List.drop_of_length_le (by rw [El.len, El.len]; omega), List.append_nil])
  rw [e7, Nat.add_zero] at this
  rw [this]
theorem mcs_codeset {R : List ValV} {c d : KeyV} {ms ss os : Value} (h8 : R.length = 8) : (setL (cls R ++ [.int .i64 c.perm, .int .i64 c.base, .int .i64 c.len, .int .i64 c.at_, .int .i64 c.seal_, ms, ss, os]) 56 [.int .i64 d.perm, .int .i64 d.base, .int .i64 d.len, .int .i64 d.at_, .int .i64 d.seal_]).toArray = mcs R d ms ss os := by
  unfold mcs
  rw [show 56 = (cls R).length + 0 by rw [regs_cells h8], setL_app_right]
  rfl
/-- A load of a part of a block at the head of a region that draws its order. -/
theorem wpStill_load_sub {P : Program} {ops : Array Oper} {w : World} {Q : Act → Prop} {a : Act} {o : Oper} {rest : List Oper} (hgd : o.guard = none) (ty : TypeId) (x : Operand) (ho : o.op = .load ty x)
    (g off k : Nat) (hx : a.eval x = .pointer (some ⟨g, off, none⟩)) (t : TypeId) (cs : Array Value) (d : TypeDesc) (hg : w.heap[g]? = some (.cells cs t (0, 0)))
    (hu : P.underlying ty = some d) (hd : (match d with | .struct _ | .array _ _ => true | _ => false) = true) (hi : (P.info? ty).map (·.size) = some k) (hk : off + k ≤ cs.size) (u : Array Value) (he : cs.extract off (off + k) = u)
    (h : wpStill P ops w Q rest (a.put o.dst (.agg u))) : wpStill P ops w Q (o :: rest) a := by
  refine wpStill_step (fun K hK => ?_)
  have hw : Region.wanted o (yielded ops a.tmps) = true := by simp [Region.wanted, hgd]
  rw [if_pos hw]
  unfold Oper.still execOp
  simp only [ho, hx, Instr.loadAt, Instr.sureAddr, Sem.run_bind, Sem.run_pure, Result.andThen_ok, run_loadVar_sub w g off t ty cs _ d k hg hu hd hi hk, he, Oper.stillUpon]
  exact ⟨trivial, hK _ h⟩
theorem step_load_sub {P : Program} {ops : Array Oper} {o : Oper} {a : Act} {w : World} {K : Act → World → Prop} {Q : Exit → Act → World → Prop} {E : Prop}
    (hgd : o.guard = none) (ty : TypeId) (x : Operand) (ho : o.op = .load ty x)
    (g off k : Nat) (hx : a.eval x = .pointer (some ⟨g, off, none⟩)) (t : TypeId) (cs : Array Value) (d : TypeDesc) (hg : w.heap[g]? = some (.cells cs t (0, 0)))
    (hu : P.underlying ty = some d) (hd : (match d with | .struct _ | .array _ _ => true | _ => false) = true) (hi : (P.info? ty).map (·.size) = some k) (hk : off + k ≤ cs.size) (u : Array Value) (he : cs.extract off (off + k) = u)
    (hK : K (a.put o.dst (.agg u)) w) : if Region.wanted o (yielded ops a.tmps) = true then Oper.wp P o a w K Q else E := by
  have hw : Region.wanted o (yielded ops a.tmps) = true := by simp [Region.wanted, hgd]
  rw [if_pos hw]
  exact wp_load_sub ty x ho g off k hx t cs d hg hu hd hi hk (he ▸ hK)
theorem step_store_row {P : Program} {ops : Array Oper} {o : Oper} {a : Act} {w : World} {K : Act → World → Prop} {Q : Exit → Act → World → Prop} {E : Prop}
    (hgd : o.guard = none) (ty : TypeId) (x y : Operand) (ho : o.op = .store ty x y)
    (g : Nat) (cells : Array Value) (hx : a.eval x = .pointer (some ⟨g, 0, none⟩)) (hy : a.eval y = .agg cells)
    (t : TypeId) (old : Array Value) (hg : w.heap[g]? = some (.cells old t (0, 0))) (hi : (P.info? ty).map (·.size) = some cells.size)
    (hold : old.size = cells.size) (h1 : cells.all (·.oneCell') = true)
    (hK : K (a.put o.dst undef) (w.setRow g cells)) : if Region.wanted o (yielded ops a.tmps) = true then Oper.wp P o a w K Q else E := by
  have hw : Region.wanted o (yielded ops a.tmps) = true := by simp [Region.wanted, hgd]
  rw [if_pos hw]
  exact wp_store_row ty x y ho g cells hx hy t old hg hi hold h1 hK
theorem results_row3 {P : Program} {fn : Func} {p q r : Tmp} {ty : TypeId} (h : fn.results = #[.cell p ty, .tmp q, .tmp r]) (tmps : Array Value) (w : World) (g : Nat) (t : TypeId) (cs : Array Value) (fr : Nat × Nat) (d : TypeDesc)
    (hp : tmps.getD p undef = .pointer (some ⟨g, 0, none⟩)) (hg : w.heap[g]? = some (.cells cs t fr))
    (hu : P.underlying ty = some d) (hd : (match d with | .struct _ | .array _ _ => true | _ => false) = true) (hi : (P.info? ty).map (·.size) = some cs.size) :
    (results fn tmps).run P w = .ok (.tuple #[.agg cs, tmps.getD q undef, tmps.getD r undef]) w := by
  have hp' : tmps[p]?.getD undef = .pointer (some ⟨g, 0, none⟩) := by simpa using hp
  simp [results, h, hp', asAddr, run_loadVar_row w g t ty cs fr d hg hu hd hi]
theorem own_at {α : Type} [El α] {w : World} {base : Nat} {T : TypeId} {ao : Option Addr} {n cap : Nat} {xs : List α} (h : Own w base T (.slice ao n cap) xs) {k : Nat} {x : α} (hx : xs[k]? = some x) :
    ∃ g, ao = some ⟨g, 0, none⟩ ∧ xs.length = n ∧ base ≤ g ∧ g < w.heap.size ∧ (∀ j, w.frozen? ⟨g, j, none⟩ = false) ∧ ∀ j u, (cl x)[j]? = some u → w.cell? ⟨g, k * El.k α + j, none⟩ = some u := by
  have hk : k < xs.length := (List.getElem?_eq_some_iff.1 hx).1
  obtain ⟨g, c, e, h1, h2, hs, hf⟩ := Own.some h (by omega)
  injection e with e1 e2 e3
  refine ⟨g, e1, e2.symm, h1, h2, hf, fun j u hu => ?_⟩
  obtain ⟨a, y, ea, _, hy, hc⟩ := hs.at hk
  injection ea with ea
  subst ea
  obtain rfl : y = x := by rw [hx] at hy; injection hy with hy; exact hy.symm
  have := hc j u hu
  rw [Addr.add_lit, Nat.zero_add] at this
  exact this
/-- The state while a sweep goes on. -/
structure SwSt (w Z : World) (gm gb base : Nat) (TM TB TV TF TI : TypeId) (b n : Int) (vm vs vo : Value) (R : List ValV) (c : KeyV) (mem : List ValV) (stk : List FrameV) (out : List Int) (cnt : Int) (W : World) : Prop where
  h8 : R.length = 8
  mB : Bk W gm TM (mcs R c vm vs vo)
  bB : Bk W gb TB #[.int .i64 b, .int .i64 n, .int .i64 cnt]
  om : Own W base TV vm mem
  os : Own W base TF vs stk
  oo : Own W base TI vo out
  bel : Below w.heap.size w W
  bs : base ≤ W.heap.size
  keep : ∀ k, k < base → k ≠ gm → W.heap[k]? = Z.heap[k]?
section
variable {w Z : World} {gm gb base : Nat} {TM TB TV TF TI : TypeId} {b n : Int} {vm vs vo : Value} {R : List ValV} {c : KeyV} {mem : List ValV} {stk : List FrameV} {out : List Int} {cnt : Int} {W W1 : World}
theorem SwSt.below (h : SwSt w Z gm gb base TM TB TV TF TI b n vm vs vo R c mem stk out cnt W) (hb : Below W.heap.size W W1) : SwSt w Z gm gb base TM TB TV TF TI b n vm vs vo R c mem stk out cnt W1 :=
  ⟨h.h8, bk_keep hb h.mB, bk_keep hb h.bB, h.om.below hb, h.os.below hb, h.oo.below hb, ext_trans h.bel hb, Nat.le_trans h.bs hb.size, fun k hk hn => (hb.block k (Nat.lt_of_lt_of_le hk h.bs)).trans (h.keep k hk hn)⟩
/-- One more was counted. -/
theorem SwSt.count (h : SwSt w Z gm gb base TM TB TV TF TI b n vm vs vo R c mem stk out cnt W) (hbase : w.heap.size ≤ base) (hgb : base ≤ gb) (t1 : TM ≠ TB) (t2 : TB ≠ TV) (t3 : TB ≠ TF) (t4 : TB ≠ TI) :
    SwSt w Z gm gb base TM TB TV TF TI b n vm vs vo R c mem stk out (cnt + 1) (W.setCell ⟨gb, 2, none⟩ (.int .i64 (cnt + 1))) :=
  ⟨h.h8, bk_far' _ (bk_ne h.mB h.bB t1) h.mB, bk_set' h.bB rfl, own_setCells_bk h.om h.bB t2 2 [.int .i64 (cnt + 1)], own_setCells_bk h.os h.bB t3 2 [.int .i64 (cnt + 1)], own_setCells_bk h.oo h.bB t4 2 [.int .i64 (cnt + 1)], ext_set h.bel (p := ⟨gb, 2, none⟩) (Nat.le_trans hbase hgb) _, by rw [show (W.setCell ⟨gb, 2, none⟩ (.int .i64 (cnt + 1))).heap.size = W.heap.size by simp [World.setCell]]; exact h.bs, fun k hk hn => (Below.heap_setCell W ⟨gb, 2, none⟩ _ k (by simp only; omega)).trans (h.keep k hk hn)⟩
theorem SwSt.mach (h : SwSt w Z gm gb base TM TB TV TF TI b n vm vs vo R c mem stk out cnt W) (hgm : w.heap.size ≤ gm) (t1 : TM ≠ TB) (t2 : TM ≠ TV) (t3 : TM ≠ TF) (t4 : TM ≠ TI) (i : Nat) (us : List Value) (R' : List ValV) (c' : KeyV) (h8 : R'.length = 8)
    (e : (setL (cls R ++ [.int .i64 c.perm, .int .i64 c.base, .int .i64 c.len, .int .i64 c.at_, .int .i64 c.seal_, vm, vs, vo]) i us).toArray = mcs R' c' vm vs vo) :
    SwSt w Z gm gb base TM TB TV TF TI b n vm vs vo R' c' mem stk out cnt (W.setCells gm i us) :=
  ⟨h8, e ▸ bk_setCells (w := W) us _ i W h.mB, bk_setCells_far h.bB (bk_ne h.mB h.bB t1).symm i us, own_setCells_bk h.om h.mB t2 i us, own_setCells_bk h.os h.mB t3 i us, own_setCells_bk h.oo h.mB t4 i us, below_setCells h.bel hgm i us, Nat.le_trans h.bs (grown_setCells gm us i W).size, fun k hk hn => ((grown_setCells gm us i W).block k (Nat.lt_of_lt_of_le hk h.bs) (fun e => hn (by injection e))).trans (h.keep k hk hn)⟩
theorem SwSt.memSet {g cap m : Nat} (h : SwSt w Z gm gb base TM TB TV TF TI b n (.slice (some ⟨g, 0, none⟩) m cap) vs vo R c mem stk out cnt W) (hm : mem.length = m) (hbase : w.heap.size ≤ base) (t1 : TM ≠ TV) (t2 : TB ≠ TV) (t3 : TV ≠ TF) (t4 : TV ≠ TI) {k : Nat} {x y : ValV} (hx : mem[k]? = some x) {us : List Value} (hu : us = cl y) :
    SwSt w Z gm gb base TM TB TV TF TI b n (.slice (some ⟨g, 0, none⟩) m cap) vs vo R c (mem.set k y) stk out cnt (W.setCells g (k * 7) us) := by
  subst hm
  have hl : us.length = 7 := by rw [hu, El.len]; rfl
  have e7 : El.k ValV = 7 := rfl
  have hg : base ≤ g := by
    rcases h.om.form with ⟨e, _⟩ | ⟨g', c', e, h1, _⟩
    · cases e
    · injection e with e _ _
      injection e with e
      injection e with e _ _
      omega
  have ho := own_part (y := y) (j := 0) (us := us) h.om hx (by rw [hl, e7]; exact Nat.le_refl _) (by
    rw [hu, setL_eq _ _ _ (by rw [El.len, El.len, e7]; exact Nat.le_refl _), List.take_zero, List.nil_append, List.drop_of_length_le (by rw [El.len, El.len]; omega), List.append_nil])
  rw [e7, Nat.add_zero] at ho
  exact ⟨h.h8, bk_setCells_far h.mB (own_bk_ne h.om h.mB t1).symm _ us, bk_setCells_far h.bB (own_bk_ne h.om h.bB t2).symm _ us, ho, own_setCells_own h.os h.om t3 _ us, own_setCells_own h.oo h.om t4 _ us, below_setCells h.bel (Nat.le_trans hbase hg) _ us, Nat.le_trans h.bs (grown_setCells g us _ W).size, fun k' hk hn => ((grown_setCells g us _ W).block k' (Nat.lt_of_lt_of_le hk h.bs) (fun e => by injection e; omega)).trans (h.keep k' hk hn)⟩
theorem SwSt.stkSet {g cap m : Nat} (h : SwSt w Z gm gb base TM TB TV TF TI b n vm (.slice (some ⟨g, 0, none⟩) m cap) vo R c mem stk out cnt W) (hm : stk.length = m) (hbase : w.heap.size ≤ base) (t1 : TM ≠ TF) (t2 : TB ≠ TF) (t3 : TF ≠ TV) (t4 : TF ≠ TI) {k j : Nat} {x y : FrameV} (hx : stk[k]? = some x) {us : List Value} (hj : j + us.length ≤ 12) (hc : cl y = setL (cl x) j us) :
    SwSt w Z gm gb base TM TB TV TF TI b n vm (.slice (some ⟨g, 0, none⟩) m cap) vo R c mem (stk.set k y) out cnt (W.setCells g (k * 12 + j) us) := by
  subst hm
  have hg : base ≤ g := by
    rcases h.os.form with ⟨e, _⟩ | ⟨g', c', e, h1, _⟩
    · cases e
    · injection e with e _ _
      injection e with e
      injection e with e _ _
      omega
  exact ⟨h.h8, bk_setCells_far h.mB (own_bk_ne h.os h.mB t1).symm _ us, bk_setCells_far h.bB (own_bk_ne h.os h.bB t2).symm _ us, own_setCells_own h.om h.os t3 _ us, own_part h.os hx hj hc, own_setCells_own h.oo h.os t4 _ us, below_setCells h.bel (Nat.le_trans hbase hg) _ us, Nat.le_trans h.bs (grown_setCells g us _ W).size, fun k' hk hn => ((grown_setCells g us _ W).block k' (Nat.lt_of_lt_of_le hk h.bs) (fun e => by injection e; omega)).trans (h.keep k' hk hn)⟩
end
end Go.Proofs.Ytmmmmeeepieemaa
