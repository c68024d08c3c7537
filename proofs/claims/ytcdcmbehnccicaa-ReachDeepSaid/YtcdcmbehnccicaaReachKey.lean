/- A key of the set: how it reads; what the set says. -/
import Derived.Test.YtcdcmbehnccicaaReachMath
import Derived.Test.YtcdcmbehnccicaaMemRow
import Derived.Test.YtcdcmbehnccicaaPerm
import Derived.Maps.OwnSet
import Derived.DeepKeys4
namespace Go.Proofs.Ytcdcmbehnccicaa
open Go.RowKit
open Go.Maps (Keyed)
set_option linter.unusedVariables false
set_option maxRecDepth 100000 in
theorem keyedK : Keyed Try.prog 23 := Keyed.of_law (Go.deep_law_laid (m := 3) (by kernel_rfl) (by decide) (of_decide_eq_true (by kernel_rfl)) (by kernel_rfl) (by kernel_rfl))
def keyLit (k : KeyV) : Lit := .string (keyBytes [.int .i64 k.perm, .int .i64 k.base, .int .i64 k.len, .int .i64 k.at_, .int .i64 k.seal_])
theorem i64_wf {n : Int} (h : I64 n) : (Lit.int .i64 n).wf = true := by
  obtain ⟨h1, h2⟩ := h
  exact WalkArith.wf_i64 (by omega)
theorem lits_int {P : Program} {I : TypeId} {n : Nat} (hI : P.underlying I = some (.int .i64)) {a : Int} (w : (Lit.int .i64 a).wf = true) : P.keyLits (n + 1) I [.int .i64 a] = some [.int .i64 a] := by
  unfold Program.keyLits
  rw [hI]
  simp [w]
theorem keyOf5 {P : Program} {K I : TypeId} {f0 f1 f2 f3 f4 : Field} {n : Nat} (hK : P.underlying K = some (.struct #[f0, f1, f2, f3, f4])) (hI : P.underlying I = some (.int .i64)) (e1 : P.keyType K = true) (e2 : P.cellsOf K = 5) (e3 : P.cellsOf I = 1)
    (e4 : P.types.size = n + 1) (nm : (#[f0, f1, f2, f3, f4].all (·.name != "_")) = true) (o0 : f0.offset = 0) (o1 : f1.offset = 1) (o2 : f2.offset = 2) (o3 : f3.offset = 3) (o4 : f4.offset = 4)
    (t0 : f0.type = I) (t1 : f1.type = I) (t2 : f2.type = I) (t3 : f3.type = I) (t4 : f4.type = I) {a0 a1 a2 a3 a4 : Int}
    (w0 : (Lit.int .i64 a0).wf = true) (w1 : (Lit.int .i64 a1).wf = true) (w2 : (Lit.int .i64 a2).wf = true) (w3 : (Lit.int .i64 a3).wf = true) (w4 : (Lit.int .i64 a4).wf = true) :
    keyOf P K (.agg #[.int .i64 a0, .int .i64 a1, .int .i64 a2, .int .i64 a3, .int .i64 a4]) = some (.string (keyBytes [.int .i64 a0, .int .i64 a1, .int .i64 a2, .int .i64 a3, .int .i64 a4])) := by
  have hf : (Value.agg #[.int .i64 a0, .int .i64 a1, .int .i64 a2, .int .i64 a3, .int .i64 a4]).formed P K = true := by
    unfold Value.formed
    simp only [hK, e2]
    rfl
  have hl : P.keyLits (P.types.size + 1) K [.int .i64 a0, .int .i64 a1, .int .i64 a2, .int .i64 a3, .int .i64 a4] = some [.int .i64 a0, .int .i64 a1, .int .i64 a2, .int .i64 a3, .int .i64 a4] := by
    rw [e4]
    unfold Program.keyLits
    rw [hK]
    simp only [e2, nm, List.length_cons, List.length_nil, and_self, if_true]
    simp only [List.mapM_cons, List.mapM_nil, o0, o1, o2, o3, o4, t0, t1, t2, t3, t4, e3, List.drop_zero, List.drop_succ_cons, List.take_succ_cons, List.take_zero, lits_int hI w0, lits_int hI w1, lits_int hI w2, lits_int hI w3, lits_int hI w4]
    rfl
  unfold keyOf
  rw [hK]
  simp only [e1, hf, Bool.and_self, if_true, Value.cells]
  rw [hl]
  rfl
set_option maxRecDepth 100000 in
theorem keyOf_key {k : KeyV} (h : k.wf) : keyOf Try.prog 23 k.val = some (keyLit k) :=
  keyOf5 (I := 3) (n := Try.prog.types.size - 1) Try.underlying23 Try.underlying3 (by kernel_rfl) (by kernel_rfl) (by kernel_rfl) (by kernel_rfl) (by kernel_rfl) rfl rfl rfl rfl rfl rfl rfl rfl rfl rfl (i64_wf h.perm) (i64_wf h.base) (i64_wf h.len) (i64_wf h.at_) (i64_wf h.seal_)
theorem keyLit_inj {a b : KeyV} (ha : a.wf) (hb : b.wf) (h : keyLit a = keyLit b) : a = b := by
  have := keyedK.inj (keyOf_key ha) (h ▸ keyOf_key hb)
  unfold KeyV.val at this
  obtain ⟨a1, a2, a3, a4, a5⟩ := a
  obtain ⟨b1, b2, b3, b4, b5⟩ := b
  simpa using this
/-- The set as the map holds it. -/
def setD (S : List KeyV) : DataW Unit := Maps.setOf (.agg []) (S.map keyLit)
theorem isKeyLit_keyLit (k : KeyV) : WideAt.IsKeyLit (keyLit k) := trivial
theorem has_setD {S : List KeyV} {k : KeyV} (hS : ∀ x ∈ S, x.wf) (hk : k.wf) : Maps.has (setD S) (keyLit k) = decide (k ∈ S) := by
  unfold setD
  rw [Maps.has_setOf _ _ _ (by intro x hx; obtain ⟨y, _, rfl⟩ := List.mem_map.1 hx; exact isKeyLit_keyLit y), List.any_map]
  rw [Bool.eq_iff_iff, List.any_eq_true, decide_eq_true_eq]
  constructor
  · rintro ⟨x, hx, hs⟩
    have := WideAt.sameKey_eq (show (keyLit x).sameKey (keyLit k) = true from hs)
    rw [← keyLit_inj (hS x hx) hk this]; exact hx
  · exact fun h => ⟨k, h, WideAt.sameKey_self (isKeyLit_keyLit k)⟩
theorem setD_snoc (S : List KeyV) (k : KeyV) : setD (S ++ [k]) = (setD S).put (keyLit k) (.agg []) := by
  unfold setD
  rw [List.map_append]
  exact Maps.setOf_snoc _ _ _
/-- The seeker in memory, and its set. -/
structure SeekSt (gs b : Nat) (d : Bool) (mem : List ValV) (ma : Option Addr) (mc : Nat) (S : List KeyV) (W : World) : Prop where
  bk : Bk W gs 60 #[.map (some b), .slice ma mem.length mc, .bool d]
  own : W.ownsMap Try.prog 23 (unitElem (H := Unit)) b S.length (setD S)
  sl : Sl W ma mem.length mem
  wf : ∀ x ∈ S, x.Ok
section
variable {gs b : Nat} {d : Bool} {mem : List ValV} {ma : Option Addr} {mc : Nat} {S : List KeyV} {W W' : World}
theorem owns_heap {b n : Nat} {D : DataW Unit} (h : W.ownsMap Try.prog 23 (unitElem (H := Unit)) b n D) (e : W'.heap[b]? = W.heap[b]?) : W'.ownsMap Try.prog 23 (unitElem (H := Unit)) b n D := by
  obtain ⟨es, c, h1, h2⟩ := h
  exact ⟨es, c, e.trans h1, h2⟩
theorem SeekSt.below (h : SeekSt gs b d mem ma mc S W) (hb : Below W.heap.size W W') : SeekSt gs b d mem ma mc S W' :=
  ⟨bk_keep hb h.bk, owns_heap h.own (hb.block b h.own.lt), h.sl.below hb, h.wf⟩
theorem SeekSt.ne (h : SeekSt gs b d mem ma mc S W) : gs ≠ b := by
  rintro rfl
  obtain ⟨es, c, h1, _⟩ := h.own
  have := h.bk
  unfold Bk at this
  rw [this] at h1
  cases h1
/-- Is it in the set? -/
theorem SeekSt.look (h : SeekSt gs b d mem ma mc S W) {k : KeyV} (hk : k.wf) (hS : ∀ x ∈ S, x.wf) :
    (Instr.lookup 57 (.map (some b)) k.val true).run Try.prog W = .ok (.tuple #[.agg #[], .bool (decide (k ∈ S))]) W := by
  have hz : (zeroValue 58).run Try.prog W = .ok (.agg #[]) W := by kernel_rfl
  obtain ⟨v, ps, hrun, hv⟩ := h.own.look_ok keyedK Try.underlying57 hz unitElem_mk (keyOf_key hk)
  obtain ⟨rfl, _⟩ := unitElem_inv hv
  rw [hrun, has_setD hS hk]
end
end Go.Proofs.Ytcdcmbehnccicaa
