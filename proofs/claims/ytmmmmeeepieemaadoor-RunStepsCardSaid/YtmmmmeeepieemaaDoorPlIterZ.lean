import Derived.Test.YtmmmmeeepieemaaDoorBuR
/- The iterator of a run: where it was, whatever its reader keeps. -/
namespace Go.Proofs.YtmmmmeeepieemaaDoor
open El (cl)
open Go Go.RowKit Go.Shelf
set_option linter.unusedVariables false
set_option linter.unusedSimpArgs false
attribute [local go_sem] Oper.semAt_some
/-- Where a run is before each of its steps. -/
def MV.places (m : MV) : Nat → List Int
  | 0 => []
  | f + 1 => if m.err = 0 then m.c.at_ :: m.after.places f else []
theorem places_len (f : Nat) : ∀ m : MV, (m.places f).length = (m.run f).2.1 := by
  induction f with
  | zero => intro m; rfl
  | succ f ih =>
    intro m
    by_cases he : m.err = 0
    · rw [run_next he]
      show (if m.err = 0 then m.c.at_ :: m.after.places f else []).length = _
      rw [if_pos he, List.length_cons, ih]
    · rw [(run_stop he).1]
      show (if m.err = 0 then m.c.at_ :: m.after.places f else []).length = _
      rw [if_neg he]
      rfl
set_option maxHeartbeats 4000000 in
set_option maxRecDepth 100000 in
theorem iter_gen (gm ge gA gB gC : Nat) (J : List Int → MV → Int → World → Prop) (n l fu : Nat) (hn : 1 ≤ n)
    (on : ∀ (L : List Int) (mk : MV), mk.Ok → ∀ W, J L mk 0 W → Calls Tryd.prog 34 #[.pointer (some ⟨gm, 0, none⟩)] W fun r W' => r = .returned (.int .i64 mk.err) ∧ J L mk.after 0 W')
    (er : ∀ (L : List Int) (mk : MV) W (e : Int), J L mk e W → ∀ e' : Int, J L mk e' (W.setCell ⟨ge, 0, none⟩ (.int .i64 e')))
    (dr : ∀ (L : List Int) (mk : MV) W, J L mk 0 W → J L mk 0 W.drew)
    (cl : ∀ (L : List Int) (mk : MV) (e : Int) W, J L mk e W → W.cell? ⟨gA, 0, none⟩ = some (.int .i64 fu) ∧ W.cell? ⟨gB, 0, none⟩ = some (.pointer (some ⟨gm, 0, none⟩)) ∧ W.cell? ⟨gC, 0, none⟩ = some (.pointer (some ⟨ge, 0, none⟩)) ∧ W.cell? ⟨ge, 0, none⟩ = some (.int .i64 e) ∧ W.cell? ⟨gm, 59, none⟩ = some (.int .i64 mk.c.at_) ∧ W.frozen? ⟨ge, 0, none⟩ = false)
    (hY : ∀ (L : List Int) (mk : MV) (at_ : Int) (W : World), L.length < fu → J L mk 0 W → YieldAt Fence.wide (n - 1) Tryd.prog l #[.int .i64 at_] W fun e W' => e = .returned (.bool true) ∧ J (L ++ [at_]) mk 0 W')
    (hfu : fu ≤ 5000) (m : MV) (hok : m.Ok) (W : World) (h0 : J [] m 0 W) :
    CallsIn Fence.wide n Tryd.prog 56 #[.func (.yield l) #[] #[], .pointer (some ⟨gA, 0, none⟩), .pointer (some ⟨gB, 0, none⟩), .pointer (some ⟨gC, 0, none⟩)] W fun e W' =>
      (∃ v, e = .returned v) ∧ ∃ e', J (m.places fu) (m.run fu).1 e' W' := by
  obtain ⟨f0, _⟩ := cl [] m 0 W h0
  have HY := Lib.hid hY
  have ON := Lib.hid on
  have ER := Lib.hid er
  have DR := Lib.hid dr
  have CL := Lib.hid cl
  have H0 := Lib.hid h0
  clear hY on er dr cl h0
  refine callsIn_of_wp Tryd.func56 rfl trivial ?_ rfl
  simp only [Tryd.ntmps56, List.size_toArray, List.length_cons, List.length_nil, Nat.reduceAdd, Nat.reduceSub, Array.replicate_succ, Array.replicate_zero, List.push_toArray, List.append_toArray, List.nil_append, List.cons_append]
  gi_wp2
  gi_loopw [7] (fun p wr => ∃ (L : List Int) (mk : MV), p = .int .i64 L.length ∧ L.length ≤ fu ∧ mk.Ok ∧ J L mk 0 wr ∧ (m.run fu).1 = (mk.run (fu - L.length)).1 ∧ m.places fu = L ++ mk.places (fu - L.length)) (fun i _ => fu - (intOf i).toNat)
  case atStart => exact ⟨[], m, rfl, Nat.zero_le _, hok, H0.out, rfl, rfl⟩
  case round =>
    obtain ⟨L, mk, rfl, hk, hmk, hs, hrun, hpl⟩ := hrel
    obtain ⟨b1, b2, b3, b4, b5, b6⟩ := CL.out L mk 0 _ hs
    obtain ⟨k, hkl⟩ : ∃ k, L.length = k := ⟨_, rfl⟩
    rw [hkl] at hk hrun hpl ⊢
    have HKL := Lib.hid hkl
    clear hkl
    by_cases hlt : k < fu
    · have q1 : (k : Int) < fu := by omega
      have HS := Lib.hid hs
      have HRUN := Lib.hid hrun
      have HPL := Lib.hid hpl
      clear hs hrun hpl
      gi_wp2
      gi_region_with (refine ⟨trivial, ?_⟩; gi_at_call 34; refine (callsIn_wide.2 (ON.out L mk hmk _ (by first | exact HS.out | exact DR.out _ _ _ HS.out))).mono ?_; rintro e w' ⟨rfl, hr⟩; obtain ⟨d1, d2, d3, d4, d5, d6⟩ := CL.out L _ 0 _ hr; have HR := Lib.hid hr; clear hr)
      all_goals
        have h5 := ER.out L _ _ _ HR.out mk.err
        obtain ⟨e1, e2, e3, e4, e5, e6⟩ := CL.out L mk.after mk.err _ h5
        obtain ⟨w5, hw5⟩ : ∃ w5, w5 = w'.setCell ⟨ge, 0, none⟩ (.int .i64 mk.err) := ⟨_, rfl⟩
        rw [← hw5] at h5 e1 e2 e3 e4 e5 e6 ⊢
        clear hw5 d1 d2 d3 d4 d5 d6 b1 b2 b3 b4 b5 b6 HR f0
        by_cases he : mk.err = 0
        · rw [he] at h5 e4 ⊢
          obtain ⟨fn, tmps, assign, body, hy, hR⟩ := HY.out L mk.after mk.c.at_ w5 (by rw [HKL.out]; exact hlt) h5
          have hfin : (m.run fu).1 = (mk.after.run (fu - (k + 1))).1 := by
            rw [HRUN.out, show fu - k = (fu - (k + 1)) + 1 by omega, run_next he]
          have hpin : m.places fu = (L ++ [mk.c.at_]) ++ mk.after.places (fu - (k + 1)) := by
            rw [HPL.out, show fu - k = (fu - (k + 1)) + 1 by omega, List.append_assoc]
            show L ++ (if mk.err = 0 then mk.c.at_ :: mk.after.places (fu - (k + 1)) else []) = _
            rw [if_pos he]
            rfl
          have hok' := after_ok hmk
          have HFIN := Lib.hid hfin
          have HPIN := Lib.hid hpin
          have HR2 := Lib.hid hR
          clear h5 he hfin hpin hR
          gi_wp2
          refine HR2.out.mono ?_
          rintro e W6 ⟨rfl, h6⟩
          have H6 := Lib.hid h6
          clear h6
          gi_wp2
          go_roundw
          case rel => exact ⟨L ++ [mk.c.at_], mk.after, by rw [List.length_append, HKL.out]; go_num, by rw [List.length_append, HKL.out]; simp; omega, hok', H6.out, by rw [List.length_append, HKL.out]; exact HFIN.out, by rw [List.length_append, HKL.out]; exact HPIN.out⟩
          case measure => simp [intOf]; omega
        · have g1 : (mk.err != 0) = true := by simpa using he
          have H5 := Lib.hid h5
          have HE := Lib.hid he
          clear h5 he
          gi_wp2
          refine ⟨fun _ h => (by cases h), ?_⟩
          gi_wp2
          refine bodyPost_ret (results_none rfl _ _ _) rfl ?_
          have hst := run_stop (f := fu - k - 1) HE.out
          have hpin : m.places fu = L := by
            rw [HPL.out, show fu - k = (fu - k - 1) + 1 by omega]
            show L ++ (if mk.err = 0 then mk.c.at_ :: mk.after.places (fu - k - 1) else []) = _
            rw [if_neg HE.out, List.append_nil]
          rw [hpin, HRUN.out, show fu - k = (fu - k - 1) + 1 by omega, hst.1]
          have := H5.out
          rw [hst.2] at this
          exact ⟨⟨_, rfl⟩, _, this⟩
    · have q1 : ¬ ((k : Int) < fu) := by omega
      obtain rfl : k = fu := by omega
      have h5 := ER.out L _ _ _ hs 15
      rw [Nat.sub_self] at hrun hpl
      have H5 := Lib.hid h5
      have HRUN := Lib.hid hrun
      have HPL := Lib.hid hpl
      clear h5 hrun hs hpl
      gi_wp2
      go_end0
      rw [HRUN.out, HPL.out]
      refine ⟨⟨_, rfl⟩, 15, ?_⟩
      show J (L ++ []) mk 15 _
      rw [List.append_nil]
      exact H5.out
end Go.Proofs.YtmmmmeeepieemaaDoor
