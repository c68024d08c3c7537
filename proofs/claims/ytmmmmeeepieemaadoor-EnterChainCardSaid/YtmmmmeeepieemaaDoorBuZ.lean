import Derived.Test.YtmmmmeeepieemaaDoorBuR
import Derived.Test.YtmmmmeeepieemaaDoorBuY
/- No step of a machine that may be says that the machine may not be; more fuel. -/
namespace Go.Proofs.YtmmmmeeepieemaaDoor
open Go.RowKit
set_option linter.unusedVariables false
def N1 {α : Type} (x : Ex α) : Prop := ∀ e : Int, x = .error e → e ≠ 1
theorem n1_ok {α : Type} (a : α) : N1 (.ok a : Ex α) := fun e h => by cases h
theorem n1_pure {α : Type} (a : α) : N1 (pure a : Ex α) := fun e h => by cases h
theorem n1_err {α : Type} {k : Int} (h : k ≠ 1) : N1 (.error k : Ex α) := fun e he => by injection he with he; rw [← he]; exact h
theorem n1_bind {α β : Type} {x : Ex α} {f : α → Ex β} (hx : N1 x) (hf : ∀ a, x = .ok a → N1 (f a)) : N1 (x >>= f) := by
  intro e h
  cases x with
  | error k => exact hx e (by cases h; rfl)
  | ok a => exact hf a rfl e h
theorem n1_if {α : Type} {p : Prop} [Decidable p] {x y : Ex α} (hx : N1 x) (hy : N1 y) : N1 (if p then x else y) := by
  by_cases h : p
  · rw [if_pos h]; exact hx
  · rw [if_neg h]; exact hy
theorem n1_res {α : Type} {r : α × Int} (h : r.2 ≠ 1) : N1 (resE r) := by
  unfold resE
  exact n1_if (n1_ok _) (n1_err h)
theorem atF_n1 (n : Nat) {k : KeyV} (hk : k.Ok) (off p : Int) : (atF n k off p).2 ≠ 1 := by
  have h := (okB_iff k).2 hk
  unfold atF
  rw [h]
  repeat' split
  all_goals simp at *
theorem getF_n1 (m : List ValV) {k : KeyV} (hk : k.Ok) (off : Int) : (getF m k off).2 ≠ 1 := by
  have := atF_n1 m.length hk off 1
  unfold getF
  simp only
  repeat' split
  all_goals first | exact this | simp
theorem putE_n1 (n : Nat) {k : KeyV} (hk : k.Ok) (off : Int) (v : ValV) : putE n k off v ≠ 1 := by
  have := atF_n1 n hk off 2
  unfold putE
  simp only
  repeat' split
  all_goals first | exact this | simp
theorem plainF_n1 {k : KeyV} (hk : k.Ok) : plainF k ≠ 1 := by
  have h := (okB_iff k).2 hk
  unfold plainF
  rw [h]
  repeat' split
  all_goals simp at *
theorem mayF_n1 (k : KeyV) (p : Int) : mayF k p ≠ 1 := by
  unfold mayF
  repeat' split
  all_goals simp
theorem bothF_n1 {k c : KeyV} (hk : k.Ok) (hc : c.Ok) : bothF k c ≠ 1 := by
  have h := (okB_iff k).2 hk
  have h2 := (okB_iff c).2 hc
  unfold bothF keyCheck
  rw [h, h2]
  simp
theorem moveF_n1 {k : KeyV} (hk : k.Ok) (n : Int) : (moveF k n).2 ≠ 1 := by
  have := plainF_n1 hk
  unfold moveF
  repeat' split
  all_goals first | exact this | simp
theorem narrowF_n1 {k : KeyV} (hk : k.Ok) (n : Int) : (narrowF k n).2 ≠ 1 := by
  have := plainF_n1 hk
  unfold narrowF
  repeat' split
  all_goals first | exact this | simp
theorem dropF_n1 {k : KeyV} (hk : k.Ok) (n : Int) : (dropF k n).2 ≠ 1 := by
  have := plainF_n1 hk
  unfold dropF
  repeat' split
  all_goals first | exact this | simp
theorem sealF_n1 {k c : KeyV} (hk : k.Ok) (hc : c.Ok) : (sealF k c).2 ≠ 1 := by
  have h1 := plainF_n1 hk
  have h2 := mayF_n1 c 32
  have h3 := bothF_n1 hk hc
  unfold sealF
  repeat' split
  all_goals first | exact h1 | exact h2 | exact h3 | simp
theorem openF_n1 {k c : KeyV} (hk : k.Ok) (hc : c.Ok) : (openF k c).2 ≠ 1 := by
  have h2 := mayF_n1 c 64
  have h3 := bothF_n1 hk hc
  unfold openF
  repeat' split
  all_goals first | exact h2 | exact h3 | simp
theorem num_n1 (m : MV) (r : Int) : N1 (m.num r) := n1_if (n1_err (by decide)) (n1_ok _)
theorem key_n1 (m : MV) (r : Int) : N1 (m.key r) := n1_if (n1_ok _) (n1_err (by decide))
theorem fetch_n1 {m : MV} (hm : m.Ok) : N1 m.fetch := by
  unfold MV.fetch
  exact n1_if (n1_err (atF_n1 _ hm.1.code _ _)) (n1_if (n1_err (by decide)) (n1_if (n1_ok _) (n1_err (by decide))))
theorem goes_n1 (m : MV) (n : Int) : N1 (m.goes n) := n1_if (n1_err (by decide)) (n1_ok _)
theorem opN_n1 (op a b : Int) : N1 (opN op a b) := by
  unfold opN divE
  exact n1_if (n1_ok _) (n1_if (n1_ok _) (n1_if (n1_ok _) (n1_if (n1_ok _) (n1_if (n1_err (by decide)) (n1_ok _)))))
theorem numbers_n1 (m : MV) (i : InstV) : N1 (m.numbers i) :=
  n1_bind (num_n1 _ _) fun _ _ => n1_bind (num_n1 _ _) fun _ _ => n1_bind (opN_n1 _ _ _) fun _ _ => n1_pure _
theorem ask_n1 (m : MV) (i : InstV) : N1 (m.ask i) := n1_if (n1_ok _) (n1_bind (key_n1 _ _) fun _ _ => n1_pure _)
theorem tell_n1 (m : MV) (i : InstV) : N1 (m.tell i) := n1_bind (num_n1 _ _) fun _ _ => n1_if (n1_err (by decide)) (n1_pure _)
theorem byKey_n1 {m : MV} (hm : m.Ok) (i : InstV) : N1 (m.byKey i) := by
  refine n1_bind (key_n1 _ _) fun k hk => ?_
  have hk := key_ok' hm hk
  refine n1_if (n1_bind (n1_res (getF_n1 _ hk _)) fun _ _ => n1_pure _) ?_
  refine n1_if (n1_if (n1_err (putE_n1 _ hk _ _)) (n1_pure _)) ?_
  refine n1_if (n1_bind (num_n1 _ _) fun _ _ => n1_bind (n1_res (moveF_n1 hk _)) fun _ _ => n1_pure _) ?_
  refine n1_if (n1_bind (num_n1 _ _) fun _ _ => n1_bind (n1_res (narrowF_n1 hk _)) fun _ _ => n1_pure _) ?_
  refine n1_if (n1_bind (n1_res (dropF_n1 hk _)) fun _ _ => n1_pure _) ?_
  refine n1_if (n1_bind (key_n1 _ _) fun _ hc => n1_bind (n1_res (sealF_n1 hk (key_ok' hm hc))) fun _ _ => n1_pure _) ?_
  exact n1_bind (key_n1 _ _) fun _ hc => n1_bind (n1_res (openF_n1 hk (key_ok' hm hc))) fun _ _ => n1_pure _
theorem plain_n1 {m : MV} (hm : m.Ok) (i : InstV) : N1 (m.plain i) := by
  unfold MV.plain
  exact n1_if (n1_ok _) (n1_if (n1_ok _) (n1_if (numbers_n1 _ _) (n1_if (ask_n1 _ _) (n1_if (n1_ok _) (n1_if (n1_ok _) (n1_if (tell_n1 _ _) (byKey_n1 hm _)))))))
theorem call_n1 (m : MV) (i : InstV) : N1 (m.call i) :=
  n1_bind (key_n1 _ _) fun _ _ => n1_bind (key_n1 _ _) fun _ _ => n1_if (n1_err (by decide)) (n1_if (n1_err (by decide)) (n1_if (n1_err (by decide)) (n1_pure _)))
theorem back_n1 (m : MV) : N1 m.back := by
  unfold MV.back
  split
  · exact n1_err (by decide)
  · exact n1_ok _
theorem exec_n1 {m : MV} (hm : m.Ok) (i : InstV) : N1 (m.exec i) := by
  unfold MV.exec
  exact n1_if (n1_err (by decide)) (n1_if (goes_n1 _ _) (n1_if (n1_bind (num_n1 _ _) fun _ _ => goes_n1 _ _) (n1_if (call_n1 _ _) (n1_if (back_n1 _) (n1_bind (plain_n1 hm _) fun _ _ => n1_pure _)))))
theorem one_n1 {m : MV} (hm : m.Ok) : N1 m.one := n1_bind (fetch_n1 hm) fun i _ => exec_n1 hm i
theorem run_n1 (f : Nat) : ∀ {m : MV}, m.Ok → (m.run f).2.2 ≠ 1 := by
  induction f with
  | zero => intro m _; show (15 : Int) ≠ 1; decide
  | succ f ih =>
    intro m hm
    cases h : m.one with
    | ok n => rw [run_ok h]; exact ih (one_ok hm h)
    | error e => rw [run_er h]; exact one_n1 hm e h
/-- What ends so with some fuel does so with one step more than it used, and does not with just those. -/
theorem run_used (f : Nat) : ∀ {m : MV}, (m.run f).2.2 ≠ 15 → (m.run ((m.run f).2.1 + 1)).2.2 ≠ 15 ∧ m.run ((m.run f).2.1 + 1) = m.run f ∧ (m.run (m.run f).2.1).2.2 = 15 := by
  induction f with
  | zero => intro m h; exact absurd rfl h
  | succ f ih =>
    intro m h
    cases h1 : m.one with
    | ok n =>
      rw [run_ok h1] at h ⊢
      obtain ⟨i1, i2, i3⟩ := ih h
      simp only
      rw [run_ok h1, run_ok h1, i2]
      exact ⟨h, rfl, i3⟩
    | error e =>
      rw [run_er (f := f) h1] at h ⊢
      show (m.run (0 + 1)).2.2 ≠ 15 ∧ m.run (0 + 1) = (m, 0, e) ∧ (m.run 0).2.2 = 15
      rw [run_er h1]
      exact ⟨h, rfl, rfl⟩
theorem run_more {m : MV} {f : Nat} (h : (m.run f).2.2 ≠ 15) (k : Nat) : m.run ((m.run f).2.1 + 1 + k) = m.run f := by
  obtain ⟨h1, h2, _⟩ := run_used f h
  rw [run_add_halt _ k m h1, h2]
end Go.Proofs.YtmmmmeeepieemaaDoor
/- What a job comes to: plain data. -/
namespace Go.Proofs.YtmmmmeeepieemaaDoor
open Go.RowKit
set_option linter.unusedVariables false
structure DoneV where
  e : Int
  n : Int
  out : List Int
  fuel : Int
/-- The machine of one who enters. -/
def entM (M : List ValV) (x : EntryV) (args : List Int) : MV := ⟨entR x args, entK x, M, [], []⟩
/-- What is told of a run. -/
def runD (r : MV × Int × Int) : DoneV := ⟨if r.2.2 = 16 then 0 else r.2.2, if (r.1.R.getD 0 zeroV).is then 0 else (r.1.R.getD 0 zeroV).n, r.1.out, r.2.1⟩
def doX (M : List ValV) (r : MV × Int × Int) : DoneV × List ValV := if r.2.2 = 1 then (⟨1, 0, [], 0⟩, M) else (runD r, r.1.mem)
def doF (M : List ValV) (E : List EntryV) (s : ByteArray) (args : List Int) (f : Int) : DoneV × List ValV :=
  if enterE E s args ≠ 0 then (⟨enterE E s args, 0, [], 0⟩, M) else doX M (runF (entM M ((findE E s).getD zeroE) args) f)
theorem entM_8 (M : List ValV) (x : EntryV) (args : List Int) : (entM M x args).R.length = 8 := by
  show (entR x args).length = 8
  unfold entR
  rw [List.length_set, argR_len]
/-- One who has ended does so with more fuel, and with just what was used. -/
theorem do_fuel {M : List ValV} {E : List EntryV} {s : ByteArray} {args : List Int} {f : Nat} (hf : f ≤ 5000) (h15 : (doF M E s args f).1.e ≠ 15) :
    0 ≤ (doF M E s args f).1.fuel ∧ (doF M E s args f).1.fuel ≤ 5000 ∧
    (∀ k : Nat, (doF M E s args f).1.fuel + 1 + k ≤ 5000 → doF M E s args ((doF M E s args f).1.fuel + 1 + k) = doF M E s args f) ∧
    (((doF M E s args (doF M E s args f).1.fuel).1.e = 15 ∧ (doF M E s args (doF M E s args f).1.fuel).1.fuel = (doF M E s args f).1.fuel) ∨
      ((doF M E s args (doF M E s args f).1.fuel).1.e ≠ 15 ∧ (doF M E s args f).1.fuel = 0 ∧ (doF M E s args (doF M E s args f).1.fuel).1.e = (doF M E s args f).1.e)) := by
  by_cases he : enterE E s args = 0
  · have hd : ∀ g, doF M E s args g = doX M (runF (entM M ((findE E s).getD zeroE) args) g) := fun g => by unfold doF; rw [if_neg (by simp [he])]
    simp only [hd] at h15 ⊢
    have h8 := entM_8 M ((findE E s).getD zeroE) args
    generalize entM M ((findE E s).getD zeroE) args = m at *
    by_cases hc : m.check = 0
    · have hm := ok_of_check h8 hc
      have hx : ∀ g : Nat, g ≤ 5000 → doX M (runF m g) = (runD ((m.run g).1, ((m.run g).2.1 : Int), (m.run g).2.2), (m.run g).1.mem) := fun g hg => by
        rw [runF_good hg hc]
        unfold doX
        rw [if_neg (run_n1 g hm)]
      rw [hx f hf] at h15 ⊢
      have hle := run_le f m
      have hr : (m.run f).2.2 ≠ 15 := fun e => h15 (by unfold runD; simp [e])
      obtain ⟨u1, u2, u3⟩ := run_used f hr
      simp only [runD]
      refine ⟨by omega, by omega, fun k hk => ?_, .inl ?_⟩
      · rw [show ((m.run f).2.1 : Int) + 1 + (k : Int) = (((m.run f).2.1 + 1 + k : Nat) : Int) by omega, hx _ (by omega), run_more hr k]
        rfl
      · rw [hx _ (by omega)]
        simp only [runD]
        rw [u3, run_full _ m u3]
        exact ⟨by decide, rfl⟩
    · have hx : ∀ g : Nat, g ≤ 5000 → doX M (runF m g) = doX M (zeroMV, 0, m.check) := fun g hg => by rw [runF_bad hg hc]
      have hfu : (doX M (zeroMV, 0, m.check)).1.fuel = 0 := by unfold doX runD; split <;> rfl
      rw [hx f hf] at h15 ⊢
      rw [hfu]
      refine ⟨by omega, by omega, fun k hk => ?_, .inr ?_⟩
      · rw [show (0 : Int) + 1 + (k : Int) = ((1 + k : Nat) : Int) by omega, hx _ (by omega)]
      · have := hx 0 (by omega)
        rw [show ((0 : Nat) : Int) = 0 from rfl] at this
        rw [this]
        exact ⟨h15, rfl, rfl⟩
  · have hd : ∀ g, doF M E s args g = (⟨enterE E s args, 0, [], 0⟩, M) := fun g => by unfold doF; rw [if_pos he]
    simp only [hd] at h15 ⊢
    exact ⟨by omega, by omega, fun _ _ => trivial, .inr ⟨h15, trivial, trivial⟩⟩
/-- What a job leaves may be. -/
theorem entM_mem_ok {M : List ValV} (h : memCheck M = 0) {E : List EntryV} {s : ByteArray} {args : List Int} {f : Int} : memCheck (doF M E s args f).2 = 0 := by
  unfold doF
  split
  · exact h
  · unfold doX
    split
    · exact h
    · next h1 =>
      show memCheck (runF _ f).1.mem = 0
      unfold runF at h1 ⊢
      by_cases hc : runE (entM M ((findE E s).getD zeroE) args) f = 0
      · rw [if_neg (by simp [hc])]
        unfold runE at hc
        by_cases hf : f < 0 ∨ 5000 < f
        · rw [if_pos hf] at hc; cases hc
        · rw [if_neg hf] at hc
          have hk := run_okM f.toNat _ (ok_of_check (entM_8 M ((findE E s).getD zeroE) args) hc)
          have := check_of_ok hk
          unfold MV.check at this
          exact (memCheck_zero _).2 ⟨hk.1.len, hk.1.mem⟩
      · rw [if_pos hc]
        exact (memCheck_zero []).2 ⟨by simp, fun v hv => by simp at hv⟩
end Go.Proofs.YtmmmmeeepieemaaDoor
