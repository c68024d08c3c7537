import Derived.Test.YtmmmmeeepieemaaBuG
import Derived.Test.YtmmmmeeepieemaaBuH
import Derived.Test.YtmmmmeeepieemaaEnterCheckZ
/- What Enter comes to: plain data. -/
namespace Go.Proofs.Ytmmmmeeepieemaa
open Go Go.RowKit Go.Shelf
set_option linter.unusedVariables false
/-- The registers behind k arguments. -/
def argR (args : List Int) (k : Nat) : List ValV := (List.range 8).map fun i => if i < k then ⟨false, args.getD i 0, zeroK⟩ else zeroV
theorem argR_len (args : List Int) (k : Nat) : (argR args k).length = 8 := by unfold argR; simp
theorem argR_zero (args : List Int) : argR args 0 = List.replicate 8 zeroV := by unfold argR; simp; rfl
theorem argR_next {args : List Int} {k : Nat} {n : Int} (hn : args[k]? = some n) : argR args (k + 1) = (argR args k).set k ⟨false, n, zeroK⟩ := by
  refine List.ext_getElem? fun i => ?_
  unfold argR
  rw [List.getElem?_set]
  by_cases hi : i < 8
  · rw [List.getElem?_map, List.getElem?_map, List.getElem?_range hi]
    simp only [Option.map_some, List.length_map, List.length_range]
    by_cases hk : k = i
    · subst hk
      rw [if_pos rfl, if_pos hi, if_pos (Nat.lt_succ_self _), List.getD, hn]; rfl
    · rw [if_neg hk]
      by_cases h : i < k
      · rw [if_pos (by omega), if_pos h]
      · rw [if_neg (by omega), if_neg h]
  · rw [List.getElem?_eq_none (by simp; omega), List.getElem?_eq_none (by simp; omega)]
    by_cases hk : k = i
    · subst hk; rw [if_pos rfl, if_neg (by simp; omega)]
    · rw [if_neg hk]
theorem mcs_setN {R : List ValV} {c : KeyV} {ms ss os : Value} (h : R.length = 8) {k : Nat} (hk : k < 8) {x : ValV} (hx : R[k]? = some x) (n : Int) :
    (mcs R c ms ss os).setIfInBounds (k * 7 + 1) (.int .i64 n) = mcs (R.set k ⟨x.is, n, x.k⟩) c ms ss os := by
  unfold mcs
  rw [List.setIfInBounds_toArray, List.set_append_left _ _ (by rw [regs_cells h]; omega)]
  have := setL_part (xs := R) (i := k) (j := 1) (x := x) (y := ⟨x.is, n, x.k⟩) (us := [.int .i64 n]) hx (by show 1 + 1 ≤ 7; omega) rfl
  have e : El.k ValV = 7 := rfl
  rw [e] at this
  rw [← this]; rfl
/-- The two stores of one who enters. -/
theorem ent_block {w : World} {g : Nat} {T : TypeId} {R : List ValV} {c : KeyV} {ms ss os : Value} (h : Bk w g T (mcs R c ms ss os)) (hR : R.length = 8) {z : ValV} (h7 : R[7]? = some z) (p b l a q p2 b2 l2 a2 q2 : Int) :
    Bk ((w.setCells g 56 [.int .i64 p, .int .i64 b, .int .i64 l, .int .i64 a, .int .i64 q]).setCells g 49 [.bool true, .int .i64 0, .int .i64 p2, .int .i64 b2, .int .i64 l2, .int .i64 a2, .int .i64 q2]) g T (mcs (R.set 7 ⟨true, 0, ⟨p2, b2, l2, a2, q2⟩⟩) ⟨p, b, l, a, q⟩ ms ss os) := by
  have h0 := regs_cells hR
  unfold mcs at h ⊢
  have h1 := bk_setCells (w := w) [.int .i64 p, .int .i64 b, .int .i64 l, .int .i64 a, .int .i64 q] (cls R ++ [.int .i64 c.perm, .int .i64 c.base, .int .i64 c.len, .int .i64 c.at_, .int .i64 c.seal_, ms, ss, os]) 56 w h
  have e1 := setL_app_right [.int .i64 p, .int .i64 b, .int .i64 l, .int .i64 a, .int .i64 q] (cls R) [.int .i64 c.perm, .int .i64 c.base, .int .i64 c.len, .int .i64 c.at_, .int .i64 c.seal_, ms, ss, os] 0
  rw [h0, Nat.add_zero] at e1
  rw [e1] at h1
  have h2 := bk_setCells (w := w) [.bool true, .int .i64 0, .int .i64 p2, .int .i64 b2, .int .i64 l2, .int .i64 a2, .int .i64 q2] _ 49 _ h1
  rw [setL_app_left _ _ _ _ (by rw [h0]; show 49 + 7 ≤ 56; omega)] at h2
  have e2 := setL_part (xs := R) (i := 7) (j := 0) (x := z) (y := ⟨true, 0, ⟨p2, b2, l2, a2, q2⟩⟩) (us := [.bool true, .int .i64 0, .int .i64 p2, .int .i64 b2, .int .i64 l2, .int .i64 a2, .int .i64 q2]) h7 (by show 0 + 7 ≤ 7; decide) rfl
  rw [show 7 * El.k ValV + 0 = 49 from rfl] at e2
  rw [e2] at h2
  exact h2
/-- An error, or none. -/
def enterE (E : List EntryV) (s : ByteArray) (args : List Int) : Int := if 7 < args.length then 2 else if args.all num32B = false then 1 else if findE E s = none then 7 else 0
/-- The registers and the key of the one who has entered. -/
def entR (e : EntryV) (args : List Int) : List ValV := (argR args args.length).set 7 ⟨true, 0, ⟨e.data.perm, e.data.base, e.data.len, e.data.at_, 0⟩⟩
def entK (e : EntryV) : KeyV := ⟨e.code.perm, e.code.base, e.code.len, e.code.at_, 0⟩
/-- What the two stores leave. -/
theorem ent_all {w7 W8 : World} {g : Nat} {T : TypeId} {x : EntryV} {args : List Int} {k : Nat} {ms ss os : Value} (hW8 : W8 = ((w7.setCells g 56 [.int .i64 x.code.perm, .int .i64 x.code.base, .int .i64 x.code.len, .int .i64 x.code.at_, .int .i64 0]).setCells g 49 [.bool true, .int .i64 0, .int .i64 x.data.perm, .int .i64 x.data.base, .int .i64 x.data.len, .int .i64 x.data.at_, .int .i64 0]).drew) (hal : args.length = k) (h7 : (argR args k)[7]? = some zeroV) (h : Bk w7 g T (mcs (argR args k) zeroK ms ss os)) :
    Bk W8 g T (mcs (entR x args) (entK x) ms ss os) ∧ ∃ W', w7.grownBy W' (some g) ∧ W8 = W'.drew := by
  have hb := ent_block h (argR_len args k) h7 x.code.perm x.code.base x.code.len x.code.at_ 0 x.data.perm x.data.base x.data.len x.data.at_ 0
  have hg1 := grown_setCells g [.int .i64 x.code.perm, .int .i64 x.code.base, .int .i64 x.code.len, .int .i64 x.code.at_, .int .i64 0] 56 w7
  have hg2 := hg1.trans (grown_setCells g [.bool true, .int .i64 0, .int .i64 x.data.perm, .int .i64 x.data.base, .int .i64 x.data.len, .int .i64 x.data.at_, .int .i64 0] 49 _)
  generalize hX : (w7.setCells g 56 [.int .i64 x.code.perm, .int .i64 x.code.base, .int .i64 x.code.len, .int .i64 x.code.at_, .int .i64 0]).setCells g 49 [.bool true, .int .i64 0, .int .i64 x.data.perm, .int .i64 x.data.base, .int .i64 x.data.len, .int .i64 x.data.at_, .int .i64 0] = X at hb hg2 hW8
  subst hW8
  refine ⟨?_, X, hg2, rfl⟩
  unfold entR entK
  rw [hal]
  exact bk_drew hb
end Go.Proofs.Ytmmmmeeepieemaa
