import Derived.Test.YtmffdgeebhpacaaDoorBuR
import Derived.Test.YtmffdgeebhpacaaDoorBuU
/- Is a number in a list? And: what reach.Cells says of a machine in a box. -/
namespace Go.Proofs.YtmffdgeebhpacaaDoor
open Go.RowKit
set_option linter.unusedVariables false
set_option linter.unusedSimpArgs false
theorem calls_flip2 {P : Program} {f : FuncId} {args : Array Value} {w : World} {r : Ending} (h : Calls P f args w fun e w' => e = r ∧ w = w') : Calls P f args w fun e w' => e = r ∧ w' = w := h.mono fun _ _ ⟨a, b⟩ => ⟨a, b.symm⟩
set_option maxHeartbeats 2000000 in
theorem has_int (ao : Option Addr) (n c : Nat) (xs : List Int) (y : Int) (w : World) (hx : Sl w ao n xs) :
    Calls Tryd.prog 27 #[.slice ao n c, .int .i64 y] w fun e w' => e = .returned (.bool (decide (y ∈ xs))) ∧ w = w' := by
  have hlx := hx.len
  have hm := hx.max
  unfold maxLen at hm
  have HLX := Lib.hid hlx
  have HX := Lib.hid hx
  clear hlx hx
  go_enter Tryd.func27, Tryd.ntmps27
  go_wp2
  go_loopw [9] (fun i wr => ∃ k : Nat, k ≤ n ∧ i = .int .i64 k ∧ (y ∉ xs.take k) ∧ wr = w) (fun i _ => n - (intOf i).toNat)
  case atStart => exact ⟨0, Nat.zero_le _, rfl, by simp, rfl⟩
  case round =>
    obtain ⟨k, hk, rfl, hf, rfl⟩ := hrel
    by_cases hlt : k < n
    · have q0 : (0 : Int) ≤ k := by omega
      have q1 : (k : Int) < n := by omega
      obtain ⟨x, hgx⟩ : ∃ x, xs[k]? = some x := ⟨_, List.getElem?_eq_getElem (by have := HLX.out; omega)⟩
      obtain ⟨ad, rfl, bx, e0⟩ := sl_int HX.out hlt hgx
      have htk : xs.take (k + 1) = xs.take k ++ [x] := by rw [List.take_add_one, hgx]; rfl
      by_cases hxy : y = x
      · subst hxy
        have hin : y ∈ xs := List.mem_of_getElem? hgx
        have HIN := Lib.hid hin
        clear hgx hin htk hf
        have g1 : (y == y) = true := by simp
        go_wp2
        go_ret
        exact ⟨ret_bool (by simp [HIN.out]), rfl⟩
      · have g1 : (y == x) = false := by simpa using hxy
        have hf2 : y ∉ xs.take (k + 1) := by rw [htk]; simp [hf, hxy]
        have HF := Lib.hid hf2
        clear hgx hxy hf hf2 htk
        go_wp2
        go_roundw
        case rel => exact ⟨k + 1, by omega, by go_num, HF.out, by first | rfl | trivial⟩
        case measure => simp [intOf]; omega
    · obtain rfl : k = n := by omega
      rw [List.take_of_length_le (by rw [HLX.out]; exact Nat.le_refl _)] at hf
      have HF := Lib.hid hf
      clear hf
      go_wp2
      go_ret
      exact ⟨ret_bool (by simp [HF.out]), rfl⟩
theorem MBox.mbr {g : Nat} {m : MV} {cs : Array Value} {W : World} (h : MBox g m cs W) : MBR g m.R m.c m.mem m.stk m.out cs W := ⟨h.h8, h.bk, h.row⟩
/-- The places that one comes to by p. -/
noncomputable def MV.hits (m : MV) (d : Bool) (p : Int) : List Int := hitsL d m.mem (rootsP d m.R m.c m.stk) p 0 m.mem.length
theorem mem_hit {m : MV} {d : Bool} {p x : Int} : x ∈ m.hits d p ↔ (0 ≤ x ∧ x < m.mem.length) ∧ hitP d m.mem (rootsP d m.R m.c m.stk) p x := by
  unfold MV.hits
  rw [mem_hits]
  simp
theorem hits_lenM (m : MV) (d : Bool) (p : Int) : (m.hits d p).length ≤ m.mem.length := hits_len _ _ _ _ _ _
theorem cells_box {g : Nat} {m : MV} {cs : Array Value} {W : World} (h : MBox g m cs W) (d : Bool) (p : Int) (hok : m.Ok) {l : List Int} (hl : m.hits d p = l) :
    Calls Tryd.prog 21 #[.agg cs, .int .i64 p, .bool d] W fun e w' => ∃ ao k, e = .returned (.tuple #[.slice ao l.length k, .int .i64 0]) ∧ Sl w' ao l.length l ∧ Below W.heap.size W w' := by
  refine (cells_any h.mbr.toRow d p hok.1).mono ?_
  rintro e w' ⟨v, rfl, ho, hb⟩
  obtain ⟨a, k, rfl, s, _⟩ := ho.sl
  refine ⟨a, k, ?_, ?_, hb⟩
  · rw [← hl]; rfl
  · rw [← hl]; exact s
theorem cells_boxb {g : Nat} {m : MV} {cs : Array Value} {W : World} (h : MBox g m cs W) (d : Bool) (p : Int) {ec : Int} (he : m.check = ec) (hne : ec ≠ 0) :
    Calls Tryd.prog 21 #[.agg cs, .int .i64 p, .bool d] W fun e w' => e = .returned (.tuple #[.slice none 0 0, .int .i64 ec]) ∧ Below W.heap.size W w' := by
  rw [← he]
  exact cells_bad h.mbr.toRow d p (by rw [← he] at hne; exact hne)
end Go.Proofs.YtmffdgeebhpacaaDoor
