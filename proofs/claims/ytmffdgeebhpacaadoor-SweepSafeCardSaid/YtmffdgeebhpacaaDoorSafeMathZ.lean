import Derived.Test.YtmffdgeebhpacaaDoorBuC
import Derived.Test.YtmffdgeebhpacaaDoorBuV
/- What was swept is never looked at again: plain data. -/
namespace Go.Proofs.YtmffdgeebhpacaaDoor
open Go.RowKit
set_option linter.unusedVariables false
def MV.swept (m : MV) (b n : Int) : MV := ⟨m.R.map (swV b n), swK b n m.c, m.mem.map (swV b n), m.stk.map (swF b n), m.out⟩
theorem no_hit {b n : Int} {k : KeyV} (h : hitsB b n k = false) {j : Nat} (hc : covB k.base k.len j = true) : ¬ (b ≤ (j : Int) ∧ (j : Int) < b + n) := by
  rintro ⟨h1, h2⟩
  obtain ⟨h3, h4⟩ := covB_iff.1 hc
  have : hitsB b n k = true := by
    unfold hitsB
    exact decide_eq_true ⟨by omega, by omega, by omega, by omega⟩
  rw [h] at this
  cases this
theorem swV_key {b n : Int} {v : ValV} (hi : (swV b n v).is = true) : hitsB b n (swV b n v).k = false := by
  have := swV_hits b n v
  rw [hi] at this
  simpa using this
theorem allK_swept {m : MV} {b n : Int} {k : KeyV} (h : allK (m.swept b n) k) : hitsB b n k = false := by
  induction h with
  | root hr =>
    rcases hr with rfl | ⟨v, hv, hi, rfl⟩ | ⟨_, f, hf, rfl | ⟨hi, rfl⟩⟩
    · exact swK_hits b n m.c
    · obtain ⟨u, _, rfl⟩ := List.mem_map.1 hv
      exact swV_key hi
    · obtain ⟨u, _, rfl⟩ := List.mem_map.1 hf
      exact swK_hits b n u.code
    · obtain ⟨u, _, rfl⟩ := List.mem_map.1 hf
      exact swV_key hi
  | next _ hn ih =>
    obtain ⟨ho, j, h1, h2, h3, hi, rfl⟩ := hn
    have h3' : j < m.mem.length := by simpa [MV.swept] using h3
    have e : (m.swept b n).mem.getD j zeroV = swV b n (m.mem.getD j zeroV) := by
      unfold MV.swept
      simp [List.getD_eq_getElem?_getD, h3']
    rw [e] at hi ⊢
    exact swV_key hi
theorem hitT_swept {m : MV} {b n p : Int} {j : Nat} (h : hitT (allK (m.swept b n)) p j) : ¬ (b ≤ (j : Int) ∧ (j : Int) < b + n) := by
  obtain ⟨g, g1, _, g3⟩ := h
  exact no_hit (allK_swept g1) g3
/-- However long it runs, what lies in swept cells is of no matter, and stays. -/
theorem safe_law (m : MV) (b n : Int) (y : List ValV) (hlen : y.length = m.mem.length) (hy : ∀ j : Nat, ¬ (b ≤ (j : Int) ∧ (j : Int) < b + n) → y.getD j zeroV = (m.swept b n).mem.getD j zeroV) (f : Nat) :
    ∃ z, ((m.swept b n).mm y).run f = ((((m.swept b n).run f).1).mm z, ((m.swept b n).run f).2.1, ((m.swept b n).run f).2.2) ∧ z.length = m.mem.length ∧ ((m.swept b n).run f).1.mem.length = m.mem.length ∧
      (∀ j : Nat, ¬ (b ≤ (j : Int) ∧ (j : Int) < b + n) → z.getD j zeroV = ((m.swept b n).run f).1.mem.getD j zeroV) ∧
      (∀ j : Nat, (b ≤ (j : Int) ∧ (j : Int) < b + n) → z.getD j zeroV = y.getD j zeroV ∧ ((m.swept b n).run f).1.mem.getD j zeroV = (m.swept b n).mem.getD j zeroV) := by
  have hl0 : (m.swept b n).mem.length = m.mem.length := by simp [MV.swept]
  obtain ⟨z, z1, z2, z3⟩ := run_alike (G := allK (m.swept b n)) (V := fun j => ¬ (b ≤ (j : Int) ∧ (j : Int) < b + n)) (fun j hj => hj.elim hitT_swept hitT_swept) (allK_whole _) f (m.swept b n) y (allK_safe _) ⟨by rw [hlen, hl0], hy⟩
  obtain ⟨g1, g2⟩ := guards_law (m.swept b n) f
  refine ⟨z, z1, by rw [z2.len, g1, hl0], by rw [g1, hl0], z2.eq, fun j hj => ⟨z3 j fun h => hitT_swept h hj, g2 j fun h => ?_⟩⟩
  obtain ⟨k, k1, _, k3, k4⟩ := h
  exact hitT_swept ⟨k, k1, k3, k4⟩ hj
end Go.Proofs.YtmffdgeebhpacaaDoor
