/- What Check of package cell computes. -/
import Derived.Test.YtcdcmbehnccicaaKeys
import Derived.Test.YtcdcmbehnccicaaCellMath
namespace Go.Proofs.Ytcdcmbehnccicaa
open Go.RowKit
set_option linter.unusedVariables false

set_option maxHeartbeats 2000000 in
theorem ccheck_any (is : Bool) (n p b l a s : Int) (w : World) :
    Calls Try.prog 24 #[.agg #[.bool is, .int .i64 n, .int .i64 p, .int .i64 b, .int .i64 l, .int .i64 a, .int .i64 s]] w
      fun e w' => e = .returned (.int .i64 (valCheck ⟨is, n, ⟨p, b, l, a, s⟩⟩)) ∧ Below w.heap.size w w' := by
  cases is
  · by_cases h1 : n < -2147483648
    · have e : valCheck ⟨false, n, ⟨p, b, l, a, s⟩⟩ = 1 := by simp [valCheck, h1]
      rw [e]
      clear e
      go_enter Try.func24, Try.ntmps24
      go_wp2
      go_ret
      exact ⟨rfl, ext_alloc (Below.refl _ _) _⟩
    · by_cases h2 : 2147483647 < n
      · have e : valCheck ⟨false, n, ⟨p, b, l, a, s⟩⟩ = 1 := by simp [valCheck, h2]
        rw [e]
        clear e
        go_enter Try.func24, Try.ntmps24
        go_wp2
        go_ret
        exact ⟨rfl, ext_alloc (Below.refl _ _) _⟩
      · have e : valCheck ⟨false, n, ⟨p, b, l, a, s⟩⟩ = if p == 0 && b == 0 && l == 0 && a == 0 && s == 0 then 0 else 5 := by
          simp only [valCheck, Bool.false_eq_true, if_false]
          rw [if_neg (by omega)]
          simp only [zeroK_eq, Bool.and_eq_true, beq_iff_eq, and_assoc]
        rw [e]
        clear e
        cases gp : (p == 0)
        · go_enter Try.func24, Try.ntmps24
          go_wp2
          go_ret
          exact ⟨rfl, ext_alloc (Below.refl _ _) _⟩
        · cases gb : (b == 0)
          · go_enter Try.func24, Try.ntmps24
            go_wp2
            go_ret
            exact ⟨rfl, ext_alloc (Below.refl _ _) _⟩
          · cases gl : (l == 0)
            · go_enter Try.func24, Try.ntmps24
              go_wp2
              go_ret
              exact ⟨rfl, ext_alloc (Below.refl _ _) _⟩
            · cases ga : (a == 0)
              · go_enter Try.func24, Try.ntmps24
                go_wp2
                go_ret
                exact ⟨rfl, ext_alloc (Below.refl _ _) _⟩
              · cases gs : (s == 0)
                · go_enter Try.func24, Try.ntmps24
                  go_wp2
                  go_ret
                  exact ⟨rfl, ext_alloc (Below.refl _ _) _⟩
                · go_enter Try.func24, Try.ntmps24
                  go_wp2
                  go_ret
                  exact ⟨rfl, ext_alloc (Below.refl _ _) _⟩
  · have ck := fun W => check_any p b l a s W
    cases h : okB ⟨p, b, l, a, s⟩
    · have e : valCheck ⟨true, n, ⟨p, b, l, a, s⟩⟩ = 1 := by simp [valCheck, h]
      have e2 : keyCheck ⟨p, b, l, a, s⟩ = 1 := by simp [keyCheck, h]
      rw [e]
      rw [e2] at ck
      have CK := Lib.hid ck
      clear e e2 ck h
      go_enter Try.func24, Try.ntmps24
      go_wp2_with (first
          | (go_at_call 25; ((with_reducible refine (CK.out _).mono ?_); rintro e w1 ⟨rfl, hb1⟩; have vB : Bk w1 w.heap.size 25 #[.bool true, .int .i64 n, .int .i64 p, .int .i64 b, .int .i64 l, .int .i64 a, .int .i64 s] := bk_keep hb1 (by repeat (first | assumption | with_reducible exact bk_new _ _ _ | (with_reducible refine bk_new' _ _ ?_; simp; done) | with_reducible refine bk_drew ?_ | with_reducible refine bk_old _ ?_ | (with_reducible refine bk_far' _ (by omega) ?_) | with_reducible apply bk_set' | rfl)); obtain ⟨v0, v1, v2, v3, v4, v5, v6⟩ := cells7 vB)))
      go_ret
      refine ⟨rfl, ?_⟩
      repeat (first | with_reducible exact Below.refl _ _ | with_reducible refine ext_alloc ?_ _ | with_reducible refine ext_drew ?_ | with_reducible refine ext_set ?_ (by first | omega | (simp; done) | (simp; omega)) _ | with_reducible refine ext_trans ?_ ‹_›)
    · have e2 : keyCheck ⟨p, b, l, a, s⟩ = 0 := by simp [keyCheck, h]
      rw [e2] at ck
      by_cases hn : n = 0
      · have e : valCheck ⟨true, n, ⟨p, b, l, a, s⟩⟩ = 0 := by simp [valCheck, h, hn]
        have g : (n == 0) = true := by simp [hn]
        rw [e]
        have CK := Lib.hid ck
        have HN := Lib.hid hn
        clear e e2 ck h hn
        go_enter Try.func24, Try.ntmps24
        go_wp2_with (first
            | (go_at_call 25; ((with_reducible refine (CK.out _).mono ?_); rintro e w1 ⟨rfl, hb1⟩; have vB : Bk w1 w.heap.size 25 #[.bool true, .int .i64 n, .int .i64 p, .int .i64 b, .int .i64 l, .int .i64 a, .int .i64 s] := bk_keep hb1 (by repeat (first | assumption | with_reducible exact bk_new _ _ _ | (with_reducible refine bk_new' _ _ ?_; simp; done) | with_reducible refine bk_drew ?_ | with_reducible refine bk_old _ ?_ | (with_reducible refine bk_far' _ (by omega) ?_) | with_reducible apply bk_set' | rfl)); obtain ⟨v0, v1, v2, v3, v4, v5, v6⟩ := cells7 vB)))
        go_ret
        refine ⟨rfl, ?_⟩
        repeat (first | with_reducible exact Below.refl _ _ | with_reducible refine ext_alloc ?_ _ | with_reducible refine ext_drew ?_ | with_reducible refine ext_set ?_ (by first | omega | (simp; done) | (simp; omega)) _ | with_reducible refine ext_trans ?_ ‹_›)
      · have e : valCheck ⟨true, n, ⟨p, b, l, a, s⟩⟩ = 5 := by simp [valCheck, h, hn]
        have g : (n == 0) = false := by simp [hn]
        have g2 : (n != 0) = true := by simp [hn]
        rw [e]
        have CK := Lib.hid ck
        clear e e2 ck h hn
        go_enter Try.func24, Try.ntmps24
        go_wp2_with (first
            | (go_at_call 25; ((with_reducible refine (CK.out _).mono ?_); rintro e w1 ⟨rfl, hb1⟩; have vB : Bk w1 w.heap.size 25 #[.bool true, .int .i64 n, .int .i64 p, .int .i64 b, .int .i64 l, .int .i64 a, .int .i64 s] := bk_keep hb1 (by repeat (first | assumption | with_reducible exact bk_new _ _ _ | (with_reducible refine bk_new' _ _ ?_; simp; done) | with_reducible refine bk_drew ?_ | with_reducible refine bk_old _ ?_ | (with_reducible refine bk_far' _ (by omega) ?_) | with_reducible apply bk_set' | rfl)); obtain ⟨v0, v1, v2, v3, v4, v5, v6⟩ := cells7 vB)))
        go_ret
        refine ⟨rfl, ?_⟩
        repeat (first | with_reducible exact Below.refl _ _ | with_reducible refine ext_alloc ?_ _ | with_reducible refine ext_drew ?_ | with_reducible refine ext_set ?_ (by first | omega | (simp; done) | (simp; omega)) _ | with_reducible refine ext_trans ?_ ‹_›)
end Go.Proofs.Ytcdcmbehnccicaa
