import Derived.Test.YtpjhjefjbkjhkaaGreatDoorPk06
set_option maxHeartbeats 40000000
set_option maxRecDepth 100000
set_option linter.unusedVariables false
set_option linter.unusedSimpArgs false
namespace Go.Proofs.YtpjhjefjbkjhkaaGreatDoor
open Go.RowKit
theorem narrow_any (p b l a s n : Int) (hn : I64 n) (w : World) :
  Calls Tryz.prog 130 #[.agg #[.int .i64 p, .int .i64 b, .int .i64 l, .int .i64 a, .int .i64 s], .int .i64 n] w
   fun e w' => e = .returned (KeyV.res (narrowF ⟨p, b, l, a, s⟩ n)) ∧ Below w.heap.size w w' := by
 obtain ⟨n0, n1⟩ := hn
 by_cases hp : plainF ⟨p, b, l, a, s⟩ = 0
 ·obtain ⟨hok, hs⟩ := (plainF_zero _).1 hp
  obtain ⟨p0, p1, b0, b1, l0, l1, a0, a1, s0, s1⟩ := hok
  simp only at p0 p1 b0 b1 l0 l1 a0 a1 s0 s1 hs
  by_cases hc : b ≤ a ∧ inB n 0 (b + l - a) = true
  ·have hr : narrowF ⟨p, b, l, a, s⟩ n = (⟨p, a, n, a, s⟩, 0) := by simp only [narrowF, hp, if_true]; rw [if_pos hc]
   obtain ⟨hc1, hc2⟩ := hc
   rw [hr]
   clear hr hs
   go_enter Tryz.func130, Tryz.ntmps130
   go_wp2_with (first
    | (go_at_call 78; refine (plain_any _ _ _ _ _ _).mono ?_; rintro e w1 ⟨rfl, hb1⟩; obtain ⟨c1, f1, z1⟩ := bcell hb1; obtain ⟨k0, k1, k2, k3, k4⟩ := own5 hb1 (heap0 _ _ _); obtain ⟨j0, j1, j2, j3, j4⟩ := own5 hb1 (heap1 _ _ _); have y1 : w.heap.size < w1.heap.size ∧ w.heap.size + 1 < w1.heap.size := ⟨z1 _ (by simp; omega), z1 _ (by simp)⟩; obtain ⟨y2, y3⟩ := y1)
    | (go_at_call 80; refine (kwithin_any _ _ _ _).mono ?_; rintro e w' ⟨rfl, rfl⟩))
   refine bodyPost_ret (v := KeyV.res _) (by simp [results, Tryz.results130, go_sem, KeyV.res, zeroK, *]; try rfl) rfl ⟨rfl, ?_⟩
   repeat (first | with_reducible exact Below.refl _ _ | with_reducible refine ext_alloc ?_ _ | with_reducible refine ext_set ?_ (by first | omega | (simp; done) | (simp; omega)) _ | with_reducible refine ext_trans ?_ ‹_›)
  ·have hr : narrowF ⟨p, b, l, a, s⟩ n = (zeroK, 13) := by simp only [narrowF, hp, if_true]; rw [if_neg hc]
   rw [hr]
   clear hr hs
   by_cases hx : b ≤ a
   ·have hi : inB n 0 (b + l - a) = false := by
     cases h : inB n 0 (b + l - a)
     ·rfl
     ·exact absurd ⟨hx, h⟩ hc
    clear hc
    go_enter Tryz.func130, Tryz.ntmps130
    go_wp2_with (first
     | (go_at_call 78; refine (plain_any _ _ _ _ _ _).mono ?_; rintro e w1 ⟨rfl, hb1⟩; obtain ⟨c1, f1, z1⟩ := bcell hb1; obtain ⟨k0, k1, k2, k3, k4⟩ := own5 hb1 (heap0 _ _ _); obtain ⟨j0, j1, j2, j3, j4⟩ := own5 hb1 (heap1 _ _ _); have y1 : w.heap.size < w1.heap.size ∧ w.heap.size + 1 < w1.heap.size := ⟨z1 _ (by simp; omega), z1 _ (by simp)⟩; obtain ⟨y2, y3⟩ := y1)
     | (go_at_call 80; refine (kwithin_any _ _ _ _).mono ?_; rintro e w' ⟨rfl, rfl⟩))
    refine bodyPost_ret (v := KeyV.res _) (by simp [results, Tryz.results130, go_sem, KeyV.res, zeroK, *]; try rfl) rfl ⟨rfl, ?_⟩
    repeat (first | with_reducible exact Below.refl _ _ | with_reducible refine ext_alloc ?_ _ | with_reducible refine ext_set ?_ (by first | omega | (simp; done) | (simp; omega)) _ | with_reducible refine ext_trans ?_ ‹_›)
   ·clear hc
    go_enter Tryz.func130, Tryz.ntmps130
    go_wp2_with (first
     | (go_at_call 78; refine (plain_any _ _ _ _ _ _).mono ?_; rintro e w1 ⟨rfl, hb1⟩; obtain ⟨c1, f1, z1⟩ := bcell hb1; obtain ⟨k0, k1, k2, k3, k4⟩ := own5 hb1 (heap0 _ _ _); obtain ⟨j0, j1, j2, j3, j4⟩ := own5 hb1 (heap1 _ _ _); have y1 : w.heap.size < w1.heap.size ∧ w.heap.size + 1 < w1.heap.size := ⟨z1 _ (by simp; omega), z1 _ (by simp)⟩; obtain ⟨y2, y3⟩ := y1)
     | (go_at_call 80; refine (kwithin_any _ _ _ _).mono ?_; rintro e w' ⟨rfl, rfl⟩))
    refine bodyPost_ret (v := KeyV.res _) (by simp [results, Tryz.results130, go_sem, KeyV.res, zeroK, *]; try rfl) rfl ⟨rfl, ?_⟩
    repeat (first | with_reducible exact Below.refl _ _ | with_reducible refine ext_alloc ?_ _ | with_reducible refine ext_set ?_ (by first | omega | (simp; done) | (simp; omega)) _ | with_reducible refine ext_trans ?_ ‹_›)
 ·have hr : narrowF ⟨p, b, l, a, s⟩ n = (zeroK, plainF ⟨p, b, l, a, s⟩) := by simp only [narrowF]; rw [if_neg hp]
  have hq : (plainF ⟨p, b, l, a, s⟩ == 0) = false := by simp [hp]
  rw [hr]
  clear hr hp
  go_enter Tryz.func130, Tryz.ntmps130
  go_wp2_with (first
   | (go_at_call 78; refine (plain_any _ _ _ _ _ _).mono ?_; rintro e w1 ⟨rfl, hb1⟩; obtain ⟨c1, f1, z1⟩ := bcell hb1; obtain ⟨k0, k1, k2, k3, k4⟩ := own5 hb1 (heap0 _ _ _); obtain ⟨j0, j1, j2, j3, j4⟩ := own5 hb1 (heap1 _ _ _); have y1 : w.heap.size < w1.heap.size ∧ w.heap.size + 1 < w1.heap.size := ⟨z1 _ (by simp; omega), z1 _ (by simp)⟩; obtain ⟨y2, y3⟩ := y1)
   | (go_at_call 80; refine (kwithin_any _ _ _ _).mono ?_; rintro e w' ⟨rfl, rfl⟩))
  refine bodyPost_ret (v := KeyV.res _) (by simp [results, Tryz.results130, go_sem, KeyV.res, zeroK, *]; try rfl) rfl ⟨rfl, ?_⟩
  repeat (first | with_reducible exact Below.refl _ _ | with_reducible refine ext_alloc ?_ _ | with_reducible refine ext_set ?_ (by first | omega | (simp; done) | (simp; omega)) _ | with_reducible refine ext_trans ?_ ‹_›)
theorem move_any (p b l a s n : Int) (hn : I64 n) (w : World) :
  Calls Tryz.prog 129 #[.agg #[.int .i64 p, .int .i64 b, .int .i64 l, .int .i64 a, .int .i64 s], .int .i64 n] w
   fun e w' => e = .returned (KeyV.res (moveF ⟨p, b, l, a, s⟩ n)) ∧ Below w.heap.size w w' := by
 obtain ⟨n0, n1⟩ := hn
 by_cases hp : plainF ⟨p, b, l, a, s⟩ = 0
 ·obtain ⟨hok, hs⟩ := (plainF_zero _).1 hp
  obtain ⟨p0, p1, b0, b1, l0, l1, a0, a1, s0, s1⟩ := hok
  simp only at p0 p1 b0 b1 l0 l1 a0 a1 s0 s1 hs
  by_cases hc : inB n (-a) (400 - a) = true
  ·have hr : moveF ⟨p, b, l, a, s⟩ n = (⟨p, b, l, a + n, s⟩, 0) := by simp only [moveF, hp, if_true]; rw [if_pos hc]
   obtain ⟨m0, m1⟩ := inB_iff.1 hc
   rw [hr]
   clear hr hs
   go_enter Tryz.func129, Tryz.ntmps129
   go_wp2_with (first
    | (go_at_call 78; refine (plain_any _ _ _ _ _ _).mono ?_; rintro e w1 ⟨rfl, hb1⟩; obtain ⟨c1, f1, z1⟩ := bcell hb1; obtain ⟨k0, k1, k2, k3, k4⟩ := own5 hb1 (heap0 _ _ _); obtain ⟨j0, j1, j2, j3, j4⟩ := own5 hb1 (heap1 _ _ _); have y1 : w.heap.size < w1.heap.size ∧ w.heap.size + 1 < w1.heap.size := ⟨z1 _ (by simp; omega), z1 _ (by simp)⟩; obtain ⟨y2, y3⟩ := y1)
    | (go_at_call 80; refine (kwithin_any _ _ _ _).mono ?_; rintro e w' ⟨rfl, rfl⟩))
   refine bodyPost_ret (v := KeyV.res _) (by simp [results, Tryz.results129, go_sem, KeyV.res, zeroK, *]; try rfl) rfl ⟨rfl, ?_⟩
   repeat (first | with_reducible exact Below.refl _ _ | with_reducible refine ext_alloc ?_ _ | with_reducible refine ext_set ?_ (by first | omega | (simp; done) | (simp; omega)) _ | with_reducible refine ext_trans ?_ ‹_›)
  ·have hr : moveF ⟨p, b, l, a, s⟩ n = (zeroK, 13) := by simp only [moveF, hp, if_true]; rw [if_neg hc]
   have hc2 : inB n (-a) (400 - a) = false := by simpa using hc
   clear hc
   rw [hr]
   clear hr hs
   go_enter Tryz.func129, Tryz.ntmps129
   go_wp2_with (first
    | (go_at_call 78; refine (plain_any _ _ _ _ _ _).mono ?_; rintro e w1 ⟨rfl, hb1⟩; obtain ⟨c1, f1, z1⟩ := bcell hb1; obtain ⟨k0, k1, k2, k3, k4⟩ := own5 hb1 (heap0 _ _ _); obtain ⟨j0, j1, j2, j3, j4⟩ := own5 hb1 (heap1 _ _ _); have y1 : w.heap.size < w1.heap.size ∧ w.heap.size + 1 < w1.heap.size := ⟨z1 _ (by simp; omega), z1 _ (by simp)⟩; obtain ⟨y2, y3⟩ := y1)
    | (go_at_call 80; refine (kwithin_any _ _ _ _).mono ?_; rintro e w' ⟨rfl, rfl⟩))
   refine bodyPost_ret (v := KeyV.res _) (by simp [results, Tryz.results129, go_sem, KeyV.res, zeroK, *]; try rfl) rfl ⟨rfl, ?_⟩
   repeat (first | with_reducible exact Below.refl _ _ | with_reducible refine ext_alloc ?_ _ | with_reducible refine ext_set ?_ (by first | omega | (simp; done) | (simp; omega)) _ | with_reducible refine ext_trans ?_ ‹_›)
 ·have hr : moveF ⟨p, b, l, a, s⟩ n = (zeroK, plainF ⟨p, b, l, a, s⟩) := by simp only [moveF]; rw [if_neg hp]
  have hq : (plainF ⟨p, b, l, a, s⟩ == 0) = false := by simp [hp]
  rw [hr]
  clear hr hp
  go_enter Tryz.func129, Tryz.ntmps129
  go_wp2_with (first
   | (go_at_call 78; refine (plain_any _ _ _ _ _ _).mono ?_; rintro e w1 ⟨rfl, hb1⟩; obtain ⟨c1, f1, z1⟩ := bcell hb1; obtain ⟨k0, k1, k2, k3, k4⟩ := own5 hb1 (heap0 _ _ _); obtain ⟨j0, j1, j2, j3, j4⟩ := own5 hb1 (heap1 _ _ _); have y1 : w.heap.size < w1.heap.size ∧ w.heap.size + 1 < w1.heap.size := ⟨z1 _ (by simp; omega), z1 _ (by simp)⟩; obtain ⟨y2, y3⟩ := y1)
   | (go_at_call 80; refine (kwithin_any _ _ _ _).mono ?_; rintro e w' ⟨rfl, rfl⟩))
  refine bodyPost_ret (v := KeyV.res _) (by simp [results, Tryz.results129, go_sem, KeyV.res, zeroK, *]; try rfl) rfl ⟨rfl, ?_⟩
  repeat (first | with_reducible exact Below.refl _ _ | with_reducible refine ext_alloc ?_ _ | with_reducible refine ext_set ?_ (by first | omega | (simp; done) | (simp; omega)) _ | with_reducible refine ext_trans ?_ ‹_›)
theorem drop_any (p b l a s n : Int) (hn : I64 n) (w : World) :
  Calls Tryz.prog 142 #[.agg #[.int .i64 p, .int .i64 b, .int .i64 l, .int .i64 a, .int .i64 s], .int .i64 n] w
   fun e w' => e = .returned (KeyV.res (dropF ⟨p, b, l, a, s⟩ n)) ∧ Below w.heap.size w w' := by
 obtain ⟨n0, n1⟩ := hn
 by_cases hp : plainF ⟨p, b, l, a, s⟩ = 0
 ·obtain ⟨hok, hs⟩ := (plainF_zero _).1 hp
  obtain ⟨p0, p1, b0, b1, l0, l1, a0, a1, s0, s1⟩ := hok
  simp only at p0 p1 b0 b1 l0 l1 a0 a1 s0 s1 hs
  have hr : dropF ⟨p, b, l, a, s⟩ n = (⟨andI p n, b, l, a, s⟩, 0) := by simp only [dropF, hp, if_true]
  have hand : bits .and .i64 p n = andI p n := bits_and_bv p n
  rw [hr]
  clear hr hs
  go_enter Tryz.func142, Tryz.ntmps142
  go_wp2_with (first
   | (go_at_call 78; refine (plain_any _ _ _ _ _ _).mono ?_; rintro e w1 ⟨rfl, hb1⟩; obtain ⟨c1, f1, z1⟩ := bcell hb1; obtain ⟨k0, k1, k2, k3, k4⟩ := own5 hb1 (heap0 _ _ _); obtain ⟨j0, j1, j2, j3, j4⟩ := own5 hb1 (heap1 _ _ _); have y1 : w.heap.size < w1.heap.size ∧ w.heap.size + 1 < w1.heap.size := ⟨z1 _ (by simp; omega), z1 _ (by simp)⟩; obtain ⟨y2, y3⟩ := y1)
   | (go_at_call 80; refine (kwithin_any _ _ _ _).mono ?_; rintro e w' ⟨rfl, rfl⟩))
  refine bodyPost_ret (v := KeyV.res _) (by simp [results, Tryz.results142, go_sem, KeyV.res, zeroK, *]; try rfl) rfl ⟨rfl, ?_⟩
  repeat (first | with_reducible exact Below.refl _ _ | with_reducible refine ext_alloc ?_ _ | with_reducible refine ext_set ?_ (by first | omega | (simp; done) | (simp; omega)) _ | with_reducible refine ext_trans ?_ ‹_›)
 ·have hr : dropF ⟨p, b, l, a, s⟩ n = (zeroK, plainF ⟨p, b, l, a, s⟩) := by simp only [dropF]; rw [if_neg hp]
  have hq : (plainF ⟨p, b, l, a, s⟩ == 0) = false := by simp [hp]
  rw [hr]
  clear hr hp
  go_enter Tryz.func142, Tryz.ntmps142
  go_wp2_with (first
   | (go_at_call 78; refine (plain_any _ _ _ _ _ _).mono ?_; rintro e w1 ⟨rfl, hb1⟩; obtain ⟨c1, f1, z1⟩ := bcell hb1; obtain ⟨k0, k1, k2, k3, k4⟩ := own5 hb1 (heap0 _ _ _); obtain ⟨j0, j1, j2, j3, j4⟩ := own5 hb1 (heap1 _ _ _); have y1 : w.heap.size < w1.heap.size ∧ w.heap.size + 1 < w1.heap.size := ⟨z1 _ (by simp; omega), z1 _ (by simp)⟩; obtain ⟨y2, y3⟩ := y1)
   | (go_at_call 80; refine (kwithin_any _ _ _ _).mono ?_; rintro e w' ⟨rfl, rfl⟩))
  refine bodyPost_ret (v := KeyV.res _) (by simp [results, Tryz.results142, go_sem, KeyV.res, zeroK, *]; try rfl) rfl ⟨rfl, ?_⟩
  repeat (first | with_reducible exact Below.refl _ _ | with_reducible refine ext_alloc ?_ _ | with_reducible refine ext_set ?_ (by first | omega | (simp; done) | (simp; omega)) _ | with_reducible refine ext_trans ?_ ‹_›)
end Go.Proofs.YtpjhjefjbkjhkaaGreatDoor
