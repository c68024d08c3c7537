/- A map that is written out: its keys are strings, its elements whatever. -/
import Derived.Maps.Own
import Derived.RangeFuncCalls
namespace Go.Proofs.YtpjhjefjbkjhkaaGreatDoor
open Go Go.RowKit
set_option linter.unusedVariables false
set_option linter.unusedSimpArgs false
section
variable {P : Program} {t K E : TypeId}
theorem checkKey_str (hK : P.underlying K = some .string) (b : Bool) (k : ByteArray) (W : World) : (Instr.checkKey b 10000 K (.string k)).run P W = .ok () W := by
  show (Instr.checkKey b (9999 + 1) K (.string k)).run P W = _
  unfold Instr.checkKey
  simp [run_underlying hK, go_sem]
/-- A new key. -/
theorem upd_new (ht : P.underlying t = some (.map K E)) (hK : P.underlying K = some .string) {W : World} {b c : Nat} {es : Array MapEntry} {k : ByteArray} (v : Value) (hb : W.heap[b]? = some (.map es c)) (hn : Instr.findNow .string (.string k) es.toList 0 = some none) :
    (Instr.mapUpdate t (.map (some b)) (.string k) v).run P W = .ok () (W.putObj b (.map (es.push ⟨.string k, v, c⟩) (c + 1))) := by
  obtain ⟨hlt, hbe⟩ := Array.getElem?_eq_some_iff.1 hb
  simp [Instr.mapUpdate, Instr.findKey, run_underlying ht, run_underlying hK, checkKey_str hK, getObj, setObj, hb, hbe, hn, hlt, go_sem, Sem.run, Result.andThen, World.putObj]
theorem look_yes (ht : P.underlying t = some (.map K E)) (hK : P.underlying K = some .string) {W : World} {b c : Nat} {es : Array MapEntry} {k : ByteArray} {i : Nat} {v : Value} (hb : W.heap[b]? = some (.map es c)) (hn : Instr.findNow .string (.string k) es.toList 0 = some (some (i, v))) :
    (Instr.lookup t (.map (some b)) (.string k) true).run P W = .ok (.tuple #[v, .bool true]) W := by
  simp [Instr.lookup, Instr.findKey, run_underlying ht, run_underlying hK, checkKey_str hK, getObj, hb, hn, go_sem, Sem.run, Result.andThen]
theorem look_no (ht : P.underlying t = some (.map K E)) (hK : P.underlying K = some .string) {W : World} {b c : Nat} {es : Array MapEntry} {k : ByteArray} {z : Value} (hz : (zeroValue E).run P W = .ok z W) (hb : W.heap[b]? = some (.map es c)) (hn : Instr.findNow .string (.string k) es.toList 0 = some none) :
    (Instr.lookup t (.map (some b)) (.string k) true).run P W = .ok (.tuple #[z, .bool false]) W := by
  simp [Instr.lookup, Instr.findKey, run_underlying ht, run_underlying hK, checkKey_str hK, getObj, hb, hn, hz, go_sem, Sem.run, Result.andThen]
theorem wpList_mkm {ops : Array Oper} {rest : List Oper} {o : Oper} {a : Act} {W : World} {Q : Exit → Act → World → Prop} (hgd : o.guard = none) (t : TypeId) (ho : o.op = .makeMap t none)
    (h : wpList P ops Q rest (a.put o.dst (.map (some W.heap.size))) (W.alloc (.map #[] 0))) : wpList P ops Q (o :: rest) a W := by
  refine wpList_plain hgd fun K' hK' => ?_
  unfold Oper.wp
  simp [execOp, ho, Instr.makeMap, newObj, go_sem, Sem.run, Result.andThen]
  exact hK' _ _ h
theorem wpList_ins {ops : Array Oper} {rest : List Oper} {o : Oper} {a : Act} {W : World} {Q : Exit → Act → World → Prop} (hgd : o.guard = none) (t K E : TypeId) (m x y : Operand) (ho : o.op = .insert t m x y) (hd : o.dst = none)
    (ht : P.underlying t = some (.map K E)) (hK : P.underlying K = some .string) (b c : Nat) (es : Array MapEntry) (k : ByteArray) (v : Value) (hm : a.eval m = .map (some b)) (hx : a.eval x = .string k) (hy : a.eval y = v)
    (hb : W.heap[b]? = some (.map es c)) (hn : Instr.findNow .string (.string k) es.toList 0 = some none)
    (h : wpList P ops Q rest a (W.putObj b (.map (es.push ⟨.string k, v, c⟩) (c + 1)))) : wpList P ops Q (o :: rest) a W := by
  refine wpList_plain hgd fun K' hK' => ?_
  have hrun := upd_new ht hK v hb hn
  unfold Oper.wp
  simp [execOp, ho, hm, hx, hy, hrun, Result.andThen]
  refine hK' _ _ ?_
  rw [hd]
  exact h
end
end Go.Proofs.YtpjhjefjbkjhkaaGreatDoor
