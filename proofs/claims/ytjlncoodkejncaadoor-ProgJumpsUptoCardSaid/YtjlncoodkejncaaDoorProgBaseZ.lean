import Derived.Test.YtjlncoodkejncaaDoorDigitsZ
import Derived.Test.YtjlncoodkejncaaDoorEqLabZ
import Derived.Test.YtjlncoodkejncaaDoorProgTextZ
/- What the laws of programs lean on. -/
namespace Go.Proofs.YtjlncoodkejncaaDoor
open Go Go.RowKit Go.Shelf
set_option linter.unusedVariables false
set_option linter.unusedSimpArgs false
theorem ba_size (l : List UInt8) : (ba l).size = l.length := ba_len l
theorem ba_add (x y : List UInt8) (h : x.length + y.length ≤ 9223372036854775807) : Op.stringOp .add (ba x) (ba y) = pure (.string (ba (x ++ y))) := by
  have e : ba x ++ ba y = ba (x ++ y) := ByteArray.ext (by simp [ba])
  rw [← e]
  exact str_add _ _ (by rw [ba_size, ba_size]; exact h)
theorem textP_len {code : List Int} (h : ∀ x ∈ code, I64 x) : (textP code).length ≤ 81 * code.length := by
  have := join_len (code.map cellL) (fun l hl => by
    obtain ⟨x, hx, rfl⟩ := List.mem_map.1 hl
    exact cellL_len x (h x hx))
  rwa [List.length_map] at this
theorem all32 {code : List Int} (h : code.all num32B = true) : ∀ n ∈ code, num32B n = true := List.all_eq_true.1 h
theorem textF_ok {code : List Int} (h : (textF code).2 = 0) : code.length ≤ 150 ∧ code.all num32B = true ∧ textF code = (textP code, 0) := by
  unfold textF at h ⊢
  split at h
  · cases h
  · next h1 =>
    split at h
    · cases h
    · next h2 =>
      rw [if_neg h1, if_neg h2]
      exact ⟨by omega, by simpa using h2, rfl⟩
theorem textF_bad {code : List Int} (h : (textF code).2 ≠ 0) : ∃ e, e ≠ 0 ∧ textF code = ([], e) := by
  unfold textF at h ⊢
  split
  · exact ⟨2, by decide, rfl⟩
  · split
    · exact ⟨1, by decide, rfl⟩
    · next h1 h2 => rw [if_neg h1, if_neg h2] at h; exact absurd rfl h
theorem sl_litI (w : World) (n : Int) : Sl (w.alloc (.cells #[.int .i64 n] 3)) (some ⟨w.heap.size, 0, none⟩) 1 [n] := lit_sl1 _ _ rfl
theorem pread_view (s : ByteArray) (w : World) (he : PEnv w) (hs : s.size ≤ 1048576) (x : ReadV) (hx : readF s.data.toList = x) : Calls Tryd.prog 14 #[.string s] w fun e w' => ∃ ca cc la lc, e = .returned (.tuple #[.slice ca x.code.length cc, .slice la x.labels.length lc, .int .i64 x.line, .int .i64 x.er]) ∧ Sl w' ca x.code.length x.code ∧ Sl w' la x.labels.length x.labels ∧ Below w.heap.size w w' := by
  subst hx
  refine (pread_any s w he hs).mono ?_
  rintro e w' ⟨vc, vl, rfl, hc, hl, hb⟩
  obtain ⟨ca, cc, rfl, h1, _⟩ := hc.sl
  obtain ⟨la, lc, rfl, h2, _⟩ := hl.sl
  exact ⟨ca, cc, la, lc, rfl, h1, h2, hb⟩
theorem lit_slE {α : Type} [El α] {w : World} {T : TypeId} (cs : Array Value) (xs : List α) (hm : xs.length ≤ 1000) (hc : cs.toList = cls xs) : Sl (w.alloc (.cells cs T)) (some ⟨w.heap.size, 0, none⟩) xs.length xs := by
  have h0 := own_lit (xs := xs) w T 0 (Nat.zero_le _) cs xs.length rfl (by unfold maxLen; omega) hc
  obtain ⟨ao, c, e, h, _⟩ := h0.sl
  injection e with e _ _
  subst e
  exact h
theorem wpList_append_slg {α : Type} [El α] {P : Program} {w : World} {ops : Array Oper} {rest : List Oper} {o : Oper} {a : Act} {Q : Exit → Act → World → Prop} (s x : Operand) (t : TypeId)
    (ho : o.op = .call { callee := .builtin .append, args := #[s, x], argTypes := #[t, t] }) (hw : Region.wanted o (yielded ops a.tmps) = true)
    (base : Nat) (e : TypeId) (i : TypeInfo) (z : Value) (bytes : Nat) (ht : P.underlying t = some (.slice e)) (hi : P.info? e = some i) (hz : i.zero = some z)
    (hsize : i.size = El.k α) (hby : i.bytes = bytes) (hzs : z.cells.size = El.k α)
    (v : Value) (xs : List α) (hs : a.eval s = v) (hown : Own w base e v xs)
    (ao : Option Addr) (m c : Nat) (ys : List α) (hx : a.eval x = .slice ao m c) (hr : Sl w ao m ys)
    (h63 : xs.length + m ≤ maxLen) (hbytes : (xs.length + m) * bytes ≤ 140737488355328) (hbase : base ≤ w.heap.size)
    (h : ∀ v' w', Own w' base e v' (xs ++ ys) → w.grownBy w' v.ownBlock → (v'.ownBlock = v.ownBlock ∨ v'.ownBlock = some w.heap.size) → wpList P ops Q rest (a.put o.dst v') w') : wpList P ops Q (o :: rest) a w :=
  wpList_step fun K hK => by rw [if_pos hw]; exact wp_append_sl s x t ho base e i z bytes ht hi hz hsize hby hzs v xs hs hown ao m c ys hx hr h63 hbytes hbase fun v' w' h2 h3 h4 => hK _ _ (h v' w' h2 h3 h4)
end Go.Proofs.YtjlncoodkejncaaDoor
