/- KeysCells: a key that is no more than another one has no cell that the other one has not. For every two keys and every int, without any condition. -/
import Derived.Test.YthadehaoafkaeaaKeyed
import Derived.Test.YthadehaoafkaeaaNum
import Derived.Deep.DeepCutAuto
namespace Go.Proofs.Ythadehaoafkaeaa
open Go.RowKit
set_option linter.unusedVariables false
set_option linter.unusedSimpArgs false

set_option maxHeartbeats 8000000 in
set_option maxRecDepth 100000 in
theorem keysCells_walk (ka kb : KeyV) (t0 : Int) (wa : ka.wf) (wb : kb.wf) (wt : (Lit.int .i64 t0).wf = true) (w : World) :
    Calls Try.prog 3 #[ka.val, kb.val, .int .i64 t0] w fun e w' => e = .returned (.bool true) ∧ Below w.heap.size w w' := by
  clear wt
  obtain ⟨p, b, l, a, s⟩ := ka
  obtain ⟨p2, b2, l2, a2, s2⟩ := kb
  change Calls Try.prog 3 #[.agg #[.int .i64 p, .int .i64 b, .int .i64 l, .int .i64 a, .int .i64 s], .agg #[.int .i64 p2, .int .i64 b2, .int .i64 l2, .int .i64 a2, .int .i64 s2], .int .i64 t0] w _
  have t1 := Int.emod_nonneg t0 (by decide : (401 : Int) ≠ 0)
  have t2 := Int.emod_lt_of_pos t0 (by decide : (0 : Int) < 401)
  generalize hT : t0 % 401 = t at *
  have ca := fun W => check_any p b l a s W
  have cb := fun W => check_any p2 b2 l2 a2 s2 W
  have uab := fun W => under_any p b l a s p2 b2 l2 a2 s2 wa wb W
  have d1 := fun W => covers_any p b l a s t wa.base wa.len ⟨by omega, by omega⟩ W
  have d2 := fun W => covers_any p2 b2 l2 a2 s2 t wb.base wb.len ⟨by omega, by omega⟩ W
  have bad : ∀ c : Int, c ≠ 0 → (c != 0) = true := fun c h => by simp [h]
  have hu : KeyV.Ok ⟨p, b, l, a, s⟩ → KeyV.Ok ⟨p2, b2, l2, a2, s2⟩ → underB ⟨p, b, l, a, s⟩ ⟨p2, b2, l2, a2, s2⟩ = true → (b ≤ t ∧ t < b + l) → (b2 ≤ t ∧ t < b2 + l2) := fun ha hb h1 h2 => by
    obtain ⟨h3, _⟩ := (underB_iff ha hb).1 h1
    simp only at h3
    omega
  by_cases oa : KeyV.Ok ⟨p, b, l, a, s⟩
  · by_cases ob : KeyV.Ok ⟨p2, b2, l2, a2, s2⟩
    · rw [(keyCheck_zero _).2 oa] at ca
      rw [(keyCheck_zero _).2 ob] at cb
      have hu := hu oa ob
      obtain ⟨p0, p1, b0, b1, l0, l1, a0, a1, s0, s1⟩ := oa
      simp only at p0 p1 b0 b1 l0 l1 a0 a1 s0 s1
      generalize underB ⟨p, b, l, a, s⟩ ⟨p2, b2, l2, a2, s2⟩ = x at *
      have CA := Lib.hid ca
      have CB := Lib.hid cb
      clear ca cb wa wb bad ob s0 s1 a0 a1 p0 p1
      by_cases hin : b ≤ t ∧ t < b + l
      · rw [covB_iff.2 hin] at d1
        have g1 : decide (b ≤ t) = true := by simp; omega
        have g2 : decide (t < b + l) = true := by simp; omega
        cases x
        · have D1 := Lib.hid d1
          have UAB := Lib.hid uab
          obtain ⟨hin1, hin2⟩ := hin
          clear d1 d2 uab hu
          go_enter Try.func3, Try.ntmps3
          go_wp2_with (first
              | (go_at_call 15; refine (keyed_any _).mono ?_; rintro e w1 ⟨rfl, hb1⟩; have kaB : Bk w1 (w.heap.size) 23 #[.int .i64 p, .int .i64 b, .int .i64 l, .int .i64 a, .int .i64 s] := bk_keep hb1 (by repeat (first | assumption | with_reducible exact bk_new _ _ _ | exact bk_new' _ _ (by simp) | with_reducible refine bk_drew ?_ | refine bk_old _ ?_)); (try clear ka0 ka1 ka2 ka3 ka4); obtain ⟨ka0, ka1, ka2, ka3, ka4⟩ := cells5 kaB; have kaL := kaB.lt; have kbB : Bk w1 (w.heap.size + 1) 23 #[.int .i64 p2, .int .i64 b2, .int .i64 l2, .int .i64 a2, .int .i64 s2] := bk_keep hb1 (by repeat (first | assumption | with_reducible exact bk_new _ _ _ | exact bk_new' _ _ (by simp) | with_reducible refine bk_drew ?_ | refine bk_old _ ?_)); (try clear kb0 kb1 kb2 kb3 kb4); obtain ⟨kb0, kb1, kb2, kb3, kb4⟩ := cells5 kbB; have kbL := kbB.lt)
              | (go_at_call 16; ((with_reducible refine (CA.out _).mono ?_); rintro e w2 ⟨rfl, hb2⟩; have kaB : Bk w2 (w.heap.size) 23 #[.int .i64 p, .int .i64 b, .int .i64 l, .int .i64 a, .int .i64 s] := bk_keep hb2 (by repeat (first | assumption | with_reducible exact bk_new _ _ _ | exact bk_new' _ _ (by simp) | with_reducible refine bk_drew ?_ | refine bk_old _ ?_)); (try clear ka0 ka1 ka2 ka3 ka4); obtain ⟨ka0, ka1, ka2, ka3, ka4⟩ := cells5 kaB; have kaL := kaB.lt; have kbB : Bk w2 (w.heap.size + 1) 23 #[.int .i64 p2, .int .i64 b2, .int .i64 l2, .int .i64 a2, .int .i64 s2] := bk_keep hb2 (by repeat (first | assumption | with_reducible exact bk_new _ _ _ | exact bk_new' _ _ (by simp) | with_reducible refine bk_drew ?_ | refine bk_old _ ?_)); (try clear kb0 kb1 kb2 kb3 kb4); obtain ⟨kb0, kb1, kb2, kb3, kb4⟩ := cells5 kbB; have kbL := kbB.lt))
              | (go_at_call 16; ((with_reducible refine (CB.out _).mono ?_); rintro e w3 ⟨rfl, hb3⟩; have kaB : Bk w3 (w.heap.size) 23 #[.int .i64 p, .int .i64 b, .int .i64 l, .int .i64 a, .int .i64 s] := bk_keep hb3 (by repeat (first | assumption | with_reducible exact bk_new _ _ _ | exact bk_new' _ _ (by simp) | with_reducible refine bk_drew ?_ | refine bk_old _ ?_)); (try clear ka0 ka1 ka2 ka3 ka4); obtain ⟨ka0, ka1, ka2, ka3, ka4⟩ := cells5 kaB; have kaL := kaB.lt; have kbB : Bk w3 (w.heap.size + 1) 23 #[.int .i64 p2, .int .i64 b2, .int .i64 l2, .int .i64 a2, .int .i64 s2] := bk_keep hb3 (by repeat (first | assumption | with_reducible exact bk_new _ _ _ | exact bk_new' _ _ (by simp) | with_reducible refine bk_drew ?_ | refine bk_old _ ?_)); (try clear kb0 kb1 kb2 kb3 kb4); obtain ⟨kb0, kb1, kb2, kb3, kb4⟩ := cells5 kbB; have kbL := kbB.lt))
              | (go_at_call 17; refine (rest_any _ _ _ (by omega) (by omega)).mono ?_; rintro e w' ⟨rfl, rfl⟩)
              | (go_at_call 18; ((with_reducible refine (D1.out _).mono ?_); rintro e w4 ⟨rfl, hb4⟩; have kaB : Bk w4 (w.heap.size) 23 #[.int .i64 p, .int .i64 b, .int .i64 l, .int .i64 a, .int .i64 s] := bk_keep hb4 (by repeat (first | assumption | with_reducible exact bk_new _ _ _ | exact bk_new' _ _ (by simp) | with_reducible refine bk_drew ?_ | refine bk_old _ ?_)); (try clear ka0 ka1 ka2 ka3 ka4); obtain ⟨ka0, ka1, ka2, ka3, ka4⟩ := cells5 kaB; have kaL := kaB.lt; have kbB : Bk w4 (w.heap.size + 1) 23 #[.int .i64 p2, .int .i64 b2, .int .i64 l2, .int .i64 a2, .int .i64 s2] := bk_keep hb4 (by repeat (first | assumption | with_reducible exact bk_new _ _ _ | exact bk_new' _ _ (by simp) | with_reducible refine bk_drew ?_ | refine bk_old _ ?_)); (try clear kb0 kb1 kb2 kb3 kb4); obtain ⟨kb0, kb1, kb2, kb3, kb4⟩ := cells5 kbB; have kbL := kbB.lt))
              | (go_at_call 19; ((with_reducible refine (UAB.out _).mono ?_); rintro e w5 ⟨rfl, hb5⟩; have kaB : Bk w5 (w.heap.size) 23 #[.int .i64 p, .int .i64 b, .int .i64 l, .int .i64 a, .int .i64 s] := bk_keep hb5 (by repeat (first | assumption | with_reducible exact bk_new _ _ _ | exact bk_new' _ _ (by simp) | with_reducible refine bk_drew ?_ | refine bk_old _ ?_)); (try clear ka0 ka1 ka2 ka3 ka4); obtain ⟨ka0, ka1, ka2, ka3, ka4⟩ := cells5 kaB; have kaL := kaB.lt; have kbB : Bk w5 (w.heap.size + 1) 23 #[.int .i64 p2, .int .i64 b2, .int .i64 l2, .int .i64 a2, .int .i64 s2] := bk_keep hb5 (by repeat (first | assumption | with_reducible exact bk_new _ _ _ | exact bk_new' _ _ (by simp) | with_reducible refine bk_drew ?_ | refine bk_old _ ?_)); (try clear kb0 kb1 kb2 kb3 kb4); obtain ⟨kb0, kb1, kb2, kb3, kb4⟩ := cells5 kbB; have kbL := kbB.lt)))
          go_ret
          refine ⟨rfl, ?_⟩
          repeat (first | with_reducible exact Below.refl _ _ | with_reducible refine ext_alloc ?_ _ | with_reducible refine ext_drew ?_ | with_reducible refine ext_set ?_ (by first | omega | (simp; done) | (simp; omega)) _ | with_reducible refine ext_trans ?_ ‹_›)
        · rw [covB_iff.2 (hu rfl hin)] at d2
          have D1 := Lib.hid d1
          have D2 := Lib.hid d2
          have UAB := Lib.hid uab
          obtain ⟨hin1, hin2⟩ := hin
          clear d1 d2 uab hu
          go_enter Try.func3, Try.ntmps3
          go_wp2_with (first
              | (go_at_call 15; refine (keyed_any _).mono ?_; rintro e w1 ⟨rfl, hb1⟩; have kaB : Bk w1 (w.heap.size) 23 #[.int .i64 p, .int .i64 b, .int .i64 l, .int .i64 a, .int .i64 s] := bk_keep hb1 (by repeat (first | assumption | with_reducible exact bk_new _ _ _ | exact bk_new' _ _ (by simp) | with_reducible refine bk_drew ?_ | refine bk_old _ ?_)); (try clear ka0 ka1 ka2 ka3 ka4); obtain ⟨ka0, ka1, ka2, ka3, ka4⟩ := cells5 kaB; have kaL := kaB.lt; have kbB : Bk w1 (w.heap.size + 1) 23 #[.int .i64 p2, .int .i64 b2, .int .i64 l2, .int .i64 a2, .int .i64 s2] := bk_keep hb1 (by repeat (first | assumption | with_reducible exact bk_new _ _ _ | exact bk_new' _ _ (by simp) | with_reducible refine bk_drew ?_ | refine bk_old _ ?_)); (try clear kb0 kb1 kb2 kb3 kb4); obtain ⟨kb0, kb1, kb2, kb3, kb4⟩ := cells5 kbB; have kbL := kbB.lt)
              | (go_at_call 16; ((with_reducible refine (CA.out _).mono ?_); rintro e w2 ⟨rfl, hb2⟩; have kaB : Bk w2 (w.heap.size) 23 #[.int .i64 p, .int .i64 b, .int .i64 l, .int .i64 a, .int .i64 s] := bk_keep hb2 (by repeat (first | assumption | with_reducible exact bk_new _ _ _ | exact bk_new' _ _ (by simp) | with_reducible refine bk_drew ?_ | refine bk_old _ ?_)); (try clear ka0 ka1 ka2 ka3 ka4); obtain ⟨ka0, ka1, ka2, ka3, ka4⟩ := cells5 kaB; have kaL := kaB.lt; have kbB : Bk w2 (w.heap.size + 1) 23 #[.int .i64 p2, .int .i64 b2, .int .i64 l2, .int .i64 a2, .int .i64 s2] := bk_keep hb2 (by repeat (first | assumption | with_reducible exact bk_new _ _ _ | exact bk_new' _ _ (by simp) | with_reducible refine bk_drew ?_ | refine bk_old _ ?_)); (try clear kb0 kb1 kb2 kb3 kb4); obtain ⟨kb0, kb1, kb2, kb3, kb4⟩ := cells5 kbB; have kbL := kbB.lt))
              | (go_at_call 16; ((with_reducible refine (CB.out _).mono ?_); rintro e w3 ⟨rfl, hb3⟩; have kaB : Bk w3 (w.heap.size) 23 #[.int .i64 p, .int .i64 b, .int .i64 l, .int .i64 a, .int .i64 s] := bk_keep hb3 (by repeat (first | assumption | with_reducible exact bk_new _ _ _ | exact bk_new' _ _ (by simp) | with_reducible refine bk_drew ?_ | refine bk_old _ ?_)); (try clear ka0 ka1 ka2 ka3 ka4); obtain ⟨ka0, ka1, ka2, ka3, ka4⟩ := cells5 kaB; have kaL := kaB.lt; have kbB : Bk w3 (w.heap.size + 1) 23 #[.int .i64 p2, .int .i64 b2, .int .i64 l2, .int .i64 a2, .int .i64 s2] := bk_keep hb3 (by repeat (first | assumption | with_reducible exact bk_new _ _ _ | exact bk_new' _ _ (by simp) | with_reducible refine bk_drew ?_ | refine bk_old _ ?_)); (try clear kb0 kb1 kb2 kb3 kb4); obtain ⟨kb0, kb1, kb2, kb3, kb4⟩ := cells5 kbB; have kbL := kbB.lt))
              | (go_at_call 17; refine (rest_any _ _ _ (by omega) (by omega)).mono ?_; rintro e w' ⟨rfl, rfl⟩)
              | (go_at_call 18; ((with_reducible refine (D1.out _).mono ?_); rintro e w4 ⟨rfl, hb4⟩; have kaB : Bk w4 (w.heap.size) 23 #[.int .i64 p, .int .i64 b, .int .i64 l, .int .i64 a, .int .i64 s] := bk_keep hb4 (by repeat (first | assumption | with_reducible exact bk_new _ _ _ | exact bk_new' _ _ (by simp) | with_reducible refine bk_drew ?_ | refine bk_old _ ?_)); (try clear ka0 ka1 ka2 ka3 ka4); obtain ⟨ka0, ka1, ka2, ka3, ka4⟩ := cells5 kaB; have kaL := kaB.lt; have kbB : Bk w4 (w.heap.size + 1) 23 #[.int .i64 p2, .int .i64 b2, .int .i64 l2, .int .i64 a2, .int .i64 s2] := bk_keep hb4 (by repeat (first | assumption | with_reducible exact bk_new _ _ _ | exact bk_new' _ _ (by simp) | with_reducible refine bk_drew ?_ | refine bk_old _ ?_)); (try clear kb0 kb1 kb2 kb3 kb4); obtain ⟨kb0, kb1, kb2, kb3, kb4⟩ := cells5 kbB; have kbL := kbB.lt))
              | (go_at_call 19; ((with_reducible refine (UAB.out _).mono ?_); rintro e w5 ⟨rfl, hb5⟩; have kaB : Bk w5 (w.heap.size) 23 #[.int .i64 p, .int .i64 b, .int .i64 l, .int .i64 a, .int .i64 s] := bk_keep hb5 (by repeat (first | assumption | with_reducible exact bk_new _ _ _ | exact bk_new' _ _ (by simp) | with_reducible refine bk_drew ?_ | refine bk_old _ ?_)); (try clear ka0 ka1 ka2 ka3 ka4); obtain ⟨ka0, ka1, ka2, ka3, ka4⟩ := cells5 kaB; have kaL := kaB.lt; have kbB : Bk w5 (w.heap.size + 1) 23 #[.int .i64 p2, .int .i64 b2, .int .i64 l2, .int .i64 a2, .int .i64 s2] := bk_keep hb5 (by repeat (first | assumption | with_reducible exact bk_new _ _ _ | exact bk_new' _ _ (by simp) | with_reducible refine bk_drew ?_ | refine bk_old _ ?_)); (try clear kb0 kb1 kb2 kb3 kb4); obtain ⟨kb0, kb1, kb2, kb3, kb4⟩ := cells5 kbB; have kbL := kbB.lt))
              | (go_at_call 18; ((with_reducible refine (D2.out _).mono ?_); rintro e w6 ⟨rfl, hb6⟩; have kaB : Bk w6 (w.heap.size) 23 #[.int .i64 p, .int .i64 b, .int .i64 l, .int .i64 a, .int .i64 s] := bk_keep hb6 (by repeat (first | assumption | with_reducible exact bk_new _ _ _ | exact bk_new' _ _ (by simp) | with_reducible refine bk_drew ?_ | refine bk_old _ ?_)); (try clear ka0 ka1 ka2 ka3 ka4); obtain ⟨ka0, ka1, ka2, ka3, ka4⟩ := cells5 kaB; have kaL := kaB.lt; have kbB : Bk w6 (w.heap.size + 1) 23 #[.int .i64 p2, .int .i64 b2, .int .i64 l2, .int .i64 a2, .int .i64 s2] := bk_keep hb6 (by repeat (first | assumption | with_reducible exact bk_new _ _ _ | exact bk_new' _ _ (by simp) | with_reducible refine bk_drew ?_ | refine bk_old _ ?_)); (try clear kb0 kb1 kb2 kb3 kb4); obtain ⟨kb0, kb1, kb2, kb3, kb4⟩ := cells5 kbB; have kbL := kbB.lt)))
          go_ret
          refine ⟨rfl, ?_⟩
          repeat (first | with_reducible exact Below.refl _ _ | with_reducible refine ext_alloc ?_ _ | with_reducible refine ext_drew ?_ | with_reducible refine ext_set ?_ (by first | omega | (simp; done) | (simp; omega)) _ | with_reducible refine ext_trans ?_ ‹_›)
      · rw [covB_no.2 hin] at d1
        have D1 := Lib.hid d1
        have UAB := Lib.hid uab
        clear d1 d2 uab hu
        by_cases hx : b ≤ t
        · have hy : b + l ≤ t := by omega
          clear hin
          have g1 : decide (b ≤ t) = true := by simp; omega
          have g2 : decide (t < b + l) = false := by simp; omega
          cases x
          all_goals
            go_enter Try.func3, Try.ntmps3
            go_wp2_with (first
                | (go_at_call 15; refine (keyed_any _).mono ?_; rintro e w1 ⟨rfl, hb1⟩; have kaB : Bk w1 (w.heap.size) 23 #[.int .i64 p, .int .i64 b, .int .i64 l, .int .i64 a, .int .i64 s] := bk_keep hb1 (by repeat (first | assumption | with_reducible exact bk_new _ _ _ | exact bk_new' _ _ (by simp) | with_reducible refine bk_drew ?_ | refine bk_old _ ?_)); (try clear ka0 ka1 ka2 ka3 ka4); obtain ⟨ka0, ka1, ka2, ka3, ka4⟩ := cells5 kaB; have kaL := kaB.lt; have kbB : Bk w1 (w.heap.size + 1) 23 #[.int .i64 p2, .int .i64 b2, .int .i64 l2, .int .i64 a2, .int .i64 s2] := bk_keep hb1 (by repeat (first | assumption | with_reducible exact bk_new _ _ _ | exact bk_new' _ _ (by simp) | with_reducible refine bk_drew ?_ | refine bk_old _ ?_)); (try clear kb0 kb1 kb2 kb3 kb4); obtain ⟨kb0, kb1, kb2, kb3, kb4⟩ := cells5 kbB; have kbL := kbB.lt)
                | (go_at_call 16; ((with_reducible refine (CA.out _).mono ?_); rintro e w2 ⟨rfl, hb2⟩; have kaB : Bk w2 (w.heap.size) 23 #[.int .i64 p, .int .i64 b, .int .i64 l, .int .i64 a, .int .i64 s] := bk_keep hb2 (by repeat (first | assumption | with_reducible exact bk_new _ _ _ | exact bk_new' _ _ (by simp) | with_reducible refine bk_drew ?_ | refine bk_old _ ?_)); (try clear ka0 ka1 ka2 ka3 ka4); obtain ⟨ka0, ka1, ka2, ka3, ka4⟩ := cells5 kaB; have kaL := kaB.lt; have kbB : Bk w2 (w.heap.size + 1) 23 #[.int .i64 p2, .int .i64 b2, .int .i64 l2, .int .i64 a2, .int .i64 s2] := bk_keep hb2 (by repeat (first | assumption | with_reducible exact bk_new _ _ _ | exact bk_new' _ _ (by simp) | with_reducible refine bk_drew ?_ | refine bk_old _ ?_)); (try clear kb0 kb1 kb2 kb3 kb4); obtain ⟨kb0, kb1, kb2, kb3, kb4⟩ := cells5 kbB; have kbL := kbB.lt))
                | (go_at_call 16; ((with_reducible refine (CB.out _).mono ?_); rintro e w3 ⟨rfl, hb3⟩; have kaB : Bk w3 (w.heap.size) 23 #[.int .i64 p, .int .i64 b, .int .i64 l, .int .i64 a, .int .i64 s] := bk_keep hb3 (by repeat (first | assumption | with_reducible exact bk_new _ _ _ | exact bk_new' _ _ (by simp) | with_reducible refine bk_drew ?_ | refine bk_old _ ?_)); (try clear ka0 ka1 ka2 ka3 ka4); obtain ⟨ka0, ka1, ka2, ka3, ka4⟩ := cells5 kaB; have kaL := kaB.lt; have kbB : Bk w3 (w.heap.size + 1) 23 #[.int .i64 p2, .int .i64 b2, .int .i64 l2, .int .i64 a2, .int .i64 s2] := bk_keep hb3 (by repeat (first | assumption | with_reducible exact bk_new _ _ _ | exact bk_new' _ _ (by simp) | with_reducible refine bk_drew ?_ | refine bk_old _ ?_)); (try clear kb0 kb1 kb2 kb3 kb4); obtain ⟨kb0, kb1, kb2, kb3, kb4⟩ := cells5 kbB; have kbL := kbB.lt))
                | (go_at_call 17; refine (rest_any _ _ _ (by omega) (by omega)).mono ?_; rintro e w' ⟨rfl, rfl⟩)
                | (go_at_call 18; ((with_reducible refine (D1.out _).mono ?_); rintro e w4 ⟨rfl, hb4⟩; have kaB : Bk w4 (w.heap.size) 23 #[.int .i64 p, .int .i64 b, .int .i64 l, .int .i64 a, .int .i64 s] := bk_keep hb4 (by repeat (first | assumption | with_reducible exact bk_new _ _ _ | exact bk_new' _ _ (by simp) | with_reducible refine bk_drew ?_ | refine bk_old _ ?_)); (try clear ka0 ka1 ka2 ka3 ka4); obtain ⟨ka0, ka1, ka2, ka3, ka4⟩ := cells5 kaB; have kaL := kaB.lt; have kbB : Bk w4 (w.heap.size + 1) 23 #[.int .i64 p2, .int .i64 b2, .int .i64 l2, .int .i64 a2, .int .i64 s2] := bk_keep hb4 (by repeat (first | assumption | with_reducible exact bk_new _ _ _ | exact bk_new' _ _ (by simp) | with_reducible refine bk_drew ?_ | refine bk_old _ ?_)); (try clear kb0 kb1 kb2 kb3 kb4); obtain ⟨kb0, kb1, kb2, kb3, kb4⟩ := cells5 kbB; have kbL := kbB.lt))
                | (go_at_call 19; ((with_reducible refine (UAB.out _).mono ?_); rintro e w5 ⟨rfl, hb5⟩; have kaB : Bk w5 (w.heap.size) 23 #[.int .i64 p, .int .i64 b, .int .i64 l, .int .i64 a, .int .i64 s] := bk_keep hb5 (by repeat (first | assumption | with_reducible exact bk_new _ _ _ | exact bk_new' _ _ (by simp) | with_reducible refine bk_drew ?_ | refine bk_old _ ?_)); (try clear ka0 ka1 ka2 ka3 ka4); obtain ⟨ka0, ka1, ka2, ka3, ka4⟩ := cells5 kaB; have kaL := kaB.lt; have kbB : Bk w5 (w.heap.size + 1) 23 #[.int .i64 p2, .int .i64 b2, .int .i64 l2, .int .i64 a2, .int .i64 s2] := bk_keep hb5 (by repeat (first | assumption | with_reducible exact bk_new _ _ _ | exact bk_new' _ _ (by simp) | with_reducible refine bk_drew ?_ | refine bk_old _ ?_)); (try clear kb0 kb1 kb2 kb3 kb4); obtain ⟨kb0, kb1, kb2, kb3, kb4⟩ := cells5 kbB; have kbL := kbB.lt)))
            go_ret
            refine ⟨rfl, ?_⟩
            repeat (first | with_reducible exact Below.refl _ _ | with_reducible refine ext_alloc ?_ _ | with_reducible refine ext_drew ?_ | with_reducible refine ext_set ?_ (by first | omega | (simp; done) | (simp; omega)) _ | with_reducible refine ext_trans ?_ ‹_›)
        · clear hin
          have g1 : decide (b ≤ t) = false := by simp; omega
          cases x
          all_goals
            go_enter Try.func3, Try.ntmps3
            go_wp2_with (first
                | (go_at_call 15; refine (keyed_any _).mono ?_; rintro e w1 ⟨rfl, hb1⟩; have kaB : Bk w1 (w.heap.size) 23 #[.int .i64 p, .int .i64 b, .int .i64 l, .int .i64 a, .int .i64 s] := bk_keep hb1 (by repeat (first | assumption | with_reducible exact bk_new _ _ _ | exact bk_new' _ _ (by simp) | with_reducible refine bk_drew ?_ | refine bk_old _ ?_)); (try clear ka0 ka1 ka2 ka3 ka4); obtain ⟨ka0, ka1, ka2, ka3, ka4⟩ := cells5 kaB; have kaL := kaB.lt; have kbB : Bk w1 (w.heap.size + 1) 23 #[.int .i64 p2, .int .i64 b2, .int .i64 l2, .int .i64 a2, .int .i64 s2] := bk_keep hb1 (by repeat (first | assumption | with_reducible exact bk_new _ _ _ | exact bk_new' _ _ (by simp) | with_reducible refine bk_drew ?_ | refine bk_old _ ?_)); (try clear kb0 kb1 kb2 kb3 kb4); obtain ⟨kb0, kb1, kb2, kb3, kb4⟩ := cells5 kbB; have kbL := kbB.lt)
                | (go_at_call 16; ((with_reducible refine (CA.out _).mono ?_); rintro e w2 ⟨rfl, hb2⟩; have kaB : Bk w2 (w.heap.size) 23 #[.int .i64 p, .int .i64 b, .int .i64 l, .int .i64 a, .int .i64 s] := bk_keep hb2 (by repeat (first | assumption | with_reducible exact bk_new _ _ _ | exact bk_new' _ _ (by simp) | with_reducible refine bk_drew ?_ | refine bk_old _ ?_)); (try clear ka0 ka1 ka2 ka3 ka4); obtain ⟨ka0, ka1, ka2, ka3, ka4⟩ := cells5 kaB; have kaL := kaB.lt; have kbB : Bk w2 (w.heap.size + 1) 23 #[.int .i64 p2, .int .i64 b2, .int .i64 l2, .int .i64 a2, .int .i64 s2] := bk_keep hb2 (by repeat (first | assumption | with_reducible exact bk_new _ _ _ | exact bk_new' _ _ (by simp) | with_reducible refine bk_drew ?_ | refine bk_old _ ?_)); (try clear kb0 kb1 kb2 kb3 kb4); obtain ⟨kb0, kb1, kb2, kb3, kb4⟩ := cells5 kbB; have kbL := kbB.lt))
                | (go_at_call 16; ((with_reducible refine (CB.out _).mono ?_); rintro e w3 ⟨rfl, hb3⟩; have kaB : Bk w3 (w.heap.size) 23 #[.int .i64 p, .int .i64 b, .int .i64 l, .int .i64 a, .int .i64 s] := bk_keep hb3 (by repeat (first | assumption | with_reducible exact bk_new _ _ _ | exact bk_new' _ _ (by simp) | with_reducible refine bk_drew ?_ | refine bk_old _ ?_)); (try clear ka0 ka1 ka2 ka3 ka4); obtain ⟨ka0, ka1, ka2, ka3, ka4⟩ := cells5 kaB; have kaL := kaB.lt; have kbB : Bk w3 (w.heap.size + 1) 23 #[.int .i64 p2, .int .i64 b2, .int .i64 l2, .int .i64 a2, .int .i64 s2] := bk_keep hb3 (by repeat (first | assumption | with_reducible exact bk_new _ _ _ | exact bk_new' _ _ (by simp) | with_reducible refine bk_drew ?_ | refine bk_old _ ?_)); (try clear kb0 kb1 kb2 kb3 kb4); obtain ⟨kb0, kb1, kb2, kb3, kb4⟩ := cells5 kbB; have kbL := kbB.lt))
                | (go_at_call 17; refine (rest_any _ _ _ (by omega) (by omega)).mono ?_; rintro e w' ⟨rfl, rfl⟩)
                | (go_at_call 18; ((with_reducible refine (D1.out _).mono ?_); rintro e w4 ⟨rfl, hb4⟩; have kaB : Bk w4 (w.heap.size) 23 #[.int .i64 p, .int .i64 b, .int .i64 l, .int .i64 a, .int .i64 s] := bk_keep hb4 (by repeat (first | assumption | with_reducible exact bk_new _ _ _ | exact bk_new' _ _ (by simp) | with_reducible refine bk_drew ?_ | refine bk_old _ ?_)); (try clear ka0 ka1 ka2 ka3 ka4); obtain ⟨ka0, ka1, ka2, ka3, ka4⟩ := cells5 kaB; have kaL := kaB.lt; have kbB : Bk w4 (w.heap.size + 1) 23 #[.int .i64 p2, .int .i64 b2, .int .i64 l2, .int .i64 a2, .int .i64 s2] := bk_keep hb4 (by repeat (first | assumption | with_reducible exact bk_new _ _ _ | exact bk_new' _ _ (by simp) | with_reducible refine bk_drew ?_ | refine bk_old _ ?_)); (try clear kb0 kb1 kb2 kb3 kb4); obtain ⟨kb0, kb1, kb2, kb3, kb4⟩ := cells5 kbB; have kbL := kbB.lt))
                | (go_at_call 19; ((with_reducible refine (UAB.out _).mono ?_); rintro e w5 ⟨rfl, hb5⟩; have kaB : Bk w5 (w.heap.size) 23 #[.int .i64 p, .int .i64 b, .int .i64 l, .int .i64 a, .int .i64 s] := bk_keep hb5 (by repeat (first | assumption | with_reducible exact bk_new _ _ _ | exact bk_new' _ _ (by simp) | with_reducible refine bk_drew ?_ | refine bk_old _ ?_)); (try clear ka0 ka1 ka2 ka3 ka4); obtain ⟨ka0, ka1, ka2, ka3, ka4⟩ := cells5 kaB; have kaL := kaB.lt; have kbB : Bk w5 (w.heap.size + 1) 23 #[.int .i64 p2, .int .i64 b2, .int .i64 l2, .int .i64 a2, .int .i64 s2] := bk_keep hb5 (by repeat (first | assumption | with_reducible exact bk_new _ _ _ | exact bk_new' _ _ (by simp) | with_reducible refine bk_drew ?_ | refine bk_old _ ?_)); (try clear kb0 kb1 kb2 kb3 kb4); obtain ⟨kb0, kb1, kb2, kb3, kb4⟩ := cells5 kbB; have kbL := kbB.lt)))
            go_ret
            refine ⟨rfl, ?_⟩
            repeat (first | with_reducible exact Below.refl _ _ | with_reducible refine ext_alloc ?_ _ | with_reducible refine ext_drew ?_ | with_reducible refine ext_set ?_ (by first | omega | (simp; done) | (simp; omega)) _ | with_reducible refine ext_trans ?_ ‹_›)
    · have hcb := bad _ (fun h => ob ((keyCheck_zero _).1 h))
      generalize hg : keyCheck ⟨p2, b2, l2, a2, s2⟩ = ch at *
      rw [(keyCheck_zero _).2 oa] at ca
      have CA := Lib.hid ca
      have CB := Lib.hid cb
      have HG := Lib.hid hg
      clear ca cb wa wb bad hg hu d1 d2 uab oa ob
      go_enter Try.func3, Try.ntmps3
      go_wp2_with (first
          | (go_at_call 15; refine (keyed_any _).mono ?_; rintro e w1 ⟨rfl, hb1⟩; have kaB : Bk w1 (w.heap.size) 23 #[.int .i64 p, .int .i64 b, .int .i64 l, .int .i64 a, .int .i64 s] := bk_keep hb1 (by repeat (first | assumption | with_reducible exact bk_new _ _ _ | exact bk_new' _ _ (by simp) | with_reducible refine bk_drew ?_ | refine bk_old _ ?_)); (try clear ka0 ka1 ka2 ka3 ka4); obtain ⟨ka0, ka1, ka2, ka3, ka4⟩ := cells5 kaB; have kaL := kaB.lt; have kbB : Bk w1 (w.heap.size + 1) 23 #[.int .i64 p2, .int .i64 b2, .int .i64 l2, .int .i64 a2, .int .i64 s2] := bk_keep hb1 (by repeat (first | assumption | with_reducible exact bk_new _ _ _ | exact bk_new' _ _ (by simp) | with_reducible refine bk_drew ?_ | refine bk_old _ ?_)); (try clear kb0 kb1 kb2 kb3 kb4); obtain ⟨kb0, kb1, kb2, kb3, kb4⟩ := cells5 kbB; have kbL := kbB.lt)
          | (go_at_call 16; ((with_reducible refine (CA.out _).mono ?_); rintro e w2 ⟨rfl, hb2⟩; have kaB : Bk w2 (w.heap.size) 23 #[.int .i64 p, .int .i64 b, .int .i64 l, .int .i64 a, .int .i64 s] := bk_keep hb2 (by repeat (first | assumption | with_reducible exact bk_new _ _ _ | exact bk_new' _ _ (by simp) | with_reducible refine bk_drew ?_ | refine bk_old _ ?_)); (try clear ka0 ka1 ka2 ka3 ka4); obtain ⟨ka0, ka1, ka2, ka3, ka4⟩ := cells5 kaB; have kaL := kaB.lt; have kbB : Bk w2 (w.heap.size + 1) 23 #[.int .i64 p2, .int .i64 b2, .int .i64 l2, .int .i64 a2, .int .i64 s2] := bk_keep hb2 (by repeat (first | assumption | with_reducible exact bk_new _ _ _ | exact bk_new' _ _ (by simp) | with_reducible refine bk_drew ?_ | refine bk_old _ ?_)); (try clear kb0 kb1 kb2 kb3 kb4); obtain ⟨kb0, kb1, kb2, kb3, kb4⟩ := cells5 kbB; have kbL := kbB.lt))
          | (go_at_call 16; ((with_reducible refine (CB.out _).mono ?_); rintro e w3 ⟨rfl, hb3⟩; have kaB : Bk w3 (w.heap.size) 23 #[.int .i64 p, .int .i64 b, .int .i64 l, .int .i64 a, .int .i64 s] := bk_keep hb3 (by repeat (first | assumption | with_reducible exact bk_new _ _ _ | exact bk_new' _ _ (by simp) | with_reducible refine bk_drew ?_ | refine bk_old _ ?_)); (try clear ka0 ka1 ka2 ka3 ka4); obtain ⟨ka0, ka1, ka2, ka3, ka4⟩ := cells5 kaB; have kaL := kaB.lt; have kbB : Bk w3 (w.heap.size + 1) 23 #[.int .i64 p2, .int .i64 b2, .int .i64 l2, .int .i64 a2, .int .i64 s2] := bk_keep hb3 (by repeat (first | assumption | with_reducible exact bk_new _ _ _ | exact bk_new' _ _ (by simp) | with_reducible refine bk_drew ?_ | refine bk_old _ ?_)); (try clear kb0 kb1 kb2 kb3 kb4); obtain ⟨kb0, kb1, kb2, kb3, kb4⟩ := cells5 kbB; have kbL := kbB.lt)))
      go_ret
      refine ⟨rfl, ?_⟩
      repeat (first | with_reducible exact Below.refl _ _ | with_reducible refine ext_alloc ?_ _ | with_reducible refine ext_drew ?_ | with_reducible refine ext_set ?_ (by first | omega | (simp; done) | (simp; omega)) _ | with_reducible refine ext_trans ?_ ‹_›)
  · have hca := bad _ (fun h => oa ((keyCheck_zero _).1 h))
    generalize hg : keyCheck ⟨p, b, l, a, s⟩ = ch at *
    have CA := Lib.hid ca
    have CB := Lib.hid cb
    have HG := Lib.hid hg
    clear ca cb wa wb bad hg hu d1 d2 uab oa
    go_enter Try.func3, Try.ntmps3
    go_wp2_with (first
        | (go_at_call 15; refine (keyed_any _).mono ?_; rintro e w1 ⟨rfl, hb1⟩; have kaB : Bk w1 (w.heap.size) 23 #[.int .i64 p, .int .i64 b, .int .i64 l, .int .i64 a, .int .i64 s] := bk_keep hb1 (by repeat (first | assumption | with_reducible exact bk_new _ _ _ | exact bk_new' _ _ (by simp) | with_reducible refine bk_drew ?_ | refine bk_old _ ?_)); (try clear ka0 ka1 ka2 ka3 ka4); obtain ⟨ka0, ka1, ka2, ka3, ka4⟩ := cells5 kaB; have kaL := kaB.lt; have kbB : Bk w1 (w.heap.size + 1) 23 #[.int .i64 p2, .int .i64 b2, .int .i64 l2, .int .i64 a2, .int .i64 s2] := bk_keep hb1 (by repeat (first | assumption | with_reducible exact bk_new _ _ _ | exact bk_new' _ _ (by simp) | with_reducible refine bk_drew ?_ | refine bk_old _ ?_)); (try clear kb0 kb1 kb2 kb3 kb4); obtain ⟨kb0, kb1, kb2, kb3, kb4⟩ := cells5 kbB; have kbL := kbB.lt)
        | (go_at_call 16; ((with_reducible refine (CA.out _).mono ?_); rintro e w2 ⟨rfl, hb2⟩; have kaB : Bk w2 (w.heap.size) 23 #[.int .i64 p, .int .i64 b, .int .i64 l, .int .i64 a, .int .i64 s] := bk_keep hb2 (by repeat (first | assumption | with_reducible exact bk_new _ _ _ | exact bk_new' _ _ (by simp) | with_reducible refine bk_drew ?_ | refine bk_old _ ?_)); (try clear ka0 ka1 ka2 ka3 ka4); obtain ⟨ka0, ka1, ka2, ka3, ka4⟩ := cells5 kaB; have kaL := kaB.lt; have kbB : Bk w2 (w.heap.size + 1) 23 #[.int .i64 p2, .int .i64 b2, .int .i64 l2, .int .i64 a2, .int .i64 s2] := bk_keep hb2 (by repeat (first | assumption | with_reducible exact bk_new _ _ _ | exact bk_new' _ _ (by simp) | with_reducible refine bk_drew ?_ | refine bk_old _ ?_)); (try clear kb0 kb1 kb2 kb3 kb4); obtain ⟨kb0, kb1, kb2, kb3, kb4⟩ := cells5 kbB; have kbL := kbB.lt)))
    go_ret
    refine ⟨rfl, ?_⟩
    repeat (first | with_reducible exact Below.refl _ _ | with_reducible refine ext_alloc ?_ _ | with_reducible refine ext_drew ?_ | with_reducible refine ext_set ?_ (by first | omega | (simp; done) | (simp; omega)) _ | with_reducible refine ext_trans ?_ ‹_›)

end Go.Proofs.Ythadehaoafkaeaa
