/- Seeking: a range over the keys of a set. -/
import Derived.Test.YtcdcmbehnccicaaReachB
import Derived.Maps.RangeWalk
namespace Go.Proofs.Ytcdcmbehnccicaa
open Go.RowKit
open Go.Maps (Keyed)
set_option linter.unusedVariables false
set_option linter.unusedSimpArgs false
/-- A range over the keys of a set is under way. -/
def KeyRange (b r : Nat) (S : List KeyV) (left : Lit → Bool) (cnt : Nat) (W : World) : Prop :=
  W.ranges Try.prog 23 (unitElem (H := Unit)) b r S.length (setD S) left cnt ∧ ∀ kl, left kl = true → Maps.has (setD S) kl = true
section
variable {b r : Nat} {S : List KeyV} {left : Lit → Bool} {cnt : Nat} {W W' : World}
theorem KeyRange.below (h : KeyRange b r S left cnt W) (hb : Below W.heap.size W W') : KeyRange b r S left cnt W' :=
  ⟨h.1.kept (row := none) ⟨hb.os, hb.tape, hb.output, hb.size, fun i hi _ => hb.block i hi⟩ (by simp) (by simp), h.2⟩
theorem has_setD_mem {kl : Lit} (h : Maps.has (setD S) kl = true) : ∃ y ∈ S, kl = keyLit y := by
  unfold setD at h
  rw [Maps.has_setOf _ _ _ (by intro x hx; obtain ⟨y, _, rfl⟩ := List.mem_map.1 hx; exact isKeyLit_keyLit y), List.any_map, List.any_eq_true] at h
  obtain ⟨y, hy, hs⟩ := h
  exact ⟨y, hy, (WideAt.sameKey_eq (show (keyLit y).sameKey kl = true from hs)).symm⟩
theorem wpList_range_keys {ops : Array Oper} {rest : List Oper} {o : Oper} {a : Act} {Q : Exit → Act → World → Prop} (hg : o.guard = none) (m : Operand) (hop : o.op = Op.range 57 m)
    (hm : a.eval m = .map (some b)) (hown : W.ownsMap Try.prog 23 (unitElem (H := Unit)) b S.length (setD S)) (hS : ∀ x ∈ S, x.wf)
    (hK : ∀ w' cnt, KeyRange b W.heap.size S (Maps.has (setD S)) cnt w' → Below W.heap.size W w' → wpList Try.prog ops Q rest (a.put o.dst (.pointer (some ⟨W.heap.size, 0, none⟩))) w') :
    wpList Try.prog ops Q (o :: rest) a W :=
  wpList_range_own W hg m 57 hop 23 58 keyedK Try.underlying57 (unitElem (H := Unit)) b S.length (setD S) hm hown fun w' h1 h2 h3 => hK w' _ ⟨h1, fun _ h => h⟩ ⟨h2.os, h2.tape, h2.output, h2.size, fun i hi => h2.block i hi (by simp)⟩
theorem wpList_next_keys {ops : Array Oper} {rest : List Oper} {o : Oper} {a : Act} {Q : Exit → Act → World → Prop} (hg : o.guard = none) (it : Operand) (hop : o.op = Op.next it false)
    (hit : a.eval it = .pointer (some ⟨r, 0, none⟩)) (h : KeyRange b r S left cnt W) (hS : ∀ x ∈ S, x.wf)
    (hDone : (∀ kl, left kl = false) → wpList Try.prog ops Q rest (a.put o.dst (.tuple #[.bool false])) W)
    (hMore : ∀ (x : KeyV) (w' : World) (left' : Lit → Bool) (cnt' : Nat), x ∈ S → (∀ y ∈ S, y ≠ x → left' (keyLit y) = left (keyLit y)) → KeyRange b r S left' cnt' w' → cnt' < cnt → W.grownBy w' (some r) → w'.heap.size = W.heap.size →
      (Instr.entry (.pointer (some ⟨r, 0, none⟩))).run Try.prog w' = .ok (.tuple #[x.val, .agg #[]]) w' → wpList Try.prog ops Q rest (a.put o.dst (.tuple #[.bool true, x.val, .agg #[]])) w') :
    wpList Try.prog ops Q (o :: rest) a W := by
  refine wpList_plain hg fun K' hK' => ?_
  unfold Oper.wp
  rcases h.1.next keyedK o.type with ⟨h0, hl, hrun⟩ | ⟨key, v, kl, y, w', cnt', hkey, hlk, hv, hat, hrun, hrg, hlt, hgr, hsz, hen⟩
  · simp [execOp, hop, hit, hrun, Result.andThen]
    exact hK' _ _ (hDone hl)
  · obtain ⟨x, hx, rfl⟩ := has_setD_mem (h.2 kl hlk)
    have hxw := hS x hx
    obtain rfl : key = x.val := keyedK.inj hkey (keyOf_key hxw)
    obtain ⟨rfl, _⟩ := unitElem_inv hv
    simp [execOp, hop, hit, hrun, Result.andThen]
    refine hK' _ _ (hMore x w' _ cnt' hx (fun z hz hne => ?_) ⟨hrg, fun kl hk => h.2 kl ?_⟩ hlt hgr hsz hen)
    · have : (keyLit z).sameKey (keyLit x) = false := Maps.sameKey_ne fun e => hne (keyLit_inj (hS z hz) hxw e)
      simp [this]
    · simp only [Bool.and_eq_true] at hk
      exact hk.1
end
end Go.Proofs.Ytcdcmbehnccicaa
