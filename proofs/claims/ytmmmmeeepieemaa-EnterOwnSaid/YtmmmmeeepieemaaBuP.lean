import Derived.Test.YtmmmmeeepieemaaMachCopiedZ
/- A row that is stored into what was made just now. -/
namespace Go.Proofs.Ytmmmmeeepieemaa
open Go.RowKit
set_option linter.unusedVariables false
theorem setRow_alloc (w : World) (T : TypeId) (old cells : Array Value) : (w.alloc (.cells old T)).setRow w.heap.size cells = w.alloc (.cells cells T) := by
  unfold World.setRow
  show World.mk .. = World.mk ..
  congr 1
  apply Array.ext_getElem?
  intro i
  show ((w.heap.push (.cells old T)).modify w.heap.size _)[i]? = (w.heap.push (.cells cells T))[i]?
  rw [Array.getElem?_modify, Array.getElem?_push, Array.getElem?_push]
  by_cases h : i = w.heap.size
  · subst h; simp
  · rw [if_neg h, if_neg h, if_neg (fun e => h e.symm)]
theorem wpList_store_fresh {P : Program} {ops : Array Oper} {rest : List Oper} {o : Oper} {a : Act} {w0 : World} {Q : Exit → Act → World → Prop} (hgd : o.guard = none) (ty : TypeId) (x y : Operand) (ho : o.op = .store ty x y)
    (hd : o.dst = none) (cells : Array Value) (t : TypeId) (old : Array Value) (hx : a.eval x = .pointer (some ⟨w0.heap.size, 0, none⟩)) (hy : a.eval y = .agg cells)
    (hi : (P.info? ty).map (·.size) = some cells.size) (hold : old.size = cells.size) (h1 : cells.all (·.oneCell') = true)
    (h : wpList P ops Q rest a (w0.alloc (.cells cells t))) : wpList P ops Q (o :: rest) a (w0.alloc (.cells old t)) :=
  wpList_store_rowTo hgd ty x y ho hd w0.heap.size cells hx hy t old (bk_new _ _ _) hi hold h1 (by rw [setRow_alloc]; exact h)
end Go.Proofs.Ytmmmmeeepieemaa
