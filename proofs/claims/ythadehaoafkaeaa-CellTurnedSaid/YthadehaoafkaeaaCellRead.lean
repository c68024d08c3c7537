/- What Read of package cell computes. -/
import Derived.Test.YthadehaoafkaeaaCellPack
import Derived.Deep.QuietTactic
import Derived.BigQuiet
import Derived.StillTailTactics
import Derived.WideShapes
import Derived.Laws.Strings
namespace Go.Proofs.Ythadehaoafkaeaa
open Go.RowKit
set_option linter.unusedVariables false

theorem read_short (s : ByteArray) (hs : s.size < 10) (w : World) :
    Calls Try.prog 28 #[.string s] w fun e w' => e = .returned (.tuple #[zeroV.val, .int .i64 4]) ∧ Below w.heap.size w w' := by
  go_enter Try.func28, Try.ntmps28
  go_wp2
  refine bodyPost_ret (v := .tuple #[zeroV.val, .int .i64 4]) (by simp [results, Try.results28, go_sem, zeroV, zeroK, ValV.val, *]; try rfl) rfl ⟨rfl, ?_⟩
  
  repeat (first | with_reducible exact Below.refl _ _ | with_reducible refine ext_alloc ?_ _ | with_reducible refine ext_drew ?_ | with_reducible refine ext_set ?_ (by first | omega | (simp; done) | (simp; omega)) _ | with_reducible refine ext_trans ?_ ‹_›)
theorem calls_flip {P : Program} {f : FuncId} {args : Array Value} {w : World} {r : Ending} (h : Calls P f args w fun e w' => e = r ∧ w = w') : Calls P f args w fun e w' => e = r ∧ w' = w := h.mono fun _ _ ⟨a, b⟩ => ⟨a, b.symm⟩
theorem read_long (s : ByteArray) (hs : 10 < s.size) (hm : s.size ≤ maxLen) (w : World) :
    Calls Try.prog 28 #[.string s] w fun e w' => e = .returned (.tuple #[zeroV.val, .int .i64 5]) ∧ Below w.heap.size w w' := by
  unfold maxLen at hm
  go_enter Try.func28, Try.ntmps28
  go_wp2
  refine bodyPost_ret (v := .tuple #[zeroV.val, .int .i64 5]) (by simp [results, Try.results28, go_sem, zeroV, zeroK, ValV.val, *]; try rfl) rfl ⟨rfl, ?_⟩
  repeat (first | with_reducible exact Below.refl _ _ | with_reducible exact below_drewN' _ _ | with_reducible refine ext_alloc ?_ _ | with_reducible refine ext_drew ?_ | with_reducible refine ext_drewN ?_ _ | with_reducible refine ext_set ?_ (by first | omega | (simp; done) | (simp; omega)) _ | with_reducible refine ext_trans ?_ ‹_›)
theorem read_sum (s : ByteArray) (hs : s.size = 10) (h : sumB (s.extract 0 9).data.toList ≠ (s[9]'(by omega)).toNat) (w : World) :
    Calls Try.prog 28 #[.string s] w fun e w' => e = .returned (.tuple #[zeroV.val, .int .i64 6]) ∧ Below w.heap.size w w' := by
  have e9 : (s.extract 0 9).size = 9 := by simp; omega
  have sm := fun W => sum_any (s.extract 0 9) W (by unfold maxLen; omega)
  generalize sumB (s.extract 0 9).data.toList = T at *
  have g1 : ((T : Int) == ((s[9]'(by omega)).toNat : Int)) = false := by simp; omega
  have g2 : ((T : Int) != ((s[9]'(by omega)).toNat : Int)) = true := by simp; omega
  have SM := Lib.hid sm
  clear sm h e9
  go_enter Try.func28, Try.ntmps28
  go_wp2
  go_quiet (first | (go_at_call 45; exact Calls.quiet_of_same (calls_flip (SM.out _))))
  go_wp2
  refine bodyPost_ret (v := .tuple #[zeroV.val, .int .i64 6]) (by simp [results, Try.results28, go_sem, zeroV, zeroK, ValV.val, *]; try rfl) rfl ⟨rfl, ?_⟩
  repeat (first | with_reducible exact Below.refl _ _ | with_reducible exact below_drewN' _ _ | with_reducible refine ext_alloc ?_ _ | with_reducible refine ext_drew ?_ | with_reducible refine ext_drewN ?_ _ | with_reducible refine ext_set ?_ (by first | omega | (simp; done) | (simp; omega)) _ | with_reducible refine ext_trans ?_ ‹_›)
theorem str_eq {a b : ByteArray} : a.toList = b.toList ↔ a = b := by
  rw [ByteArray.toList_eq, ByteArray.toList_eq]
  exact ⟨fun h => Go.WideShapes.bytes_inj h, fun h => by rw [h]⟩
theorem bk_drewN {w : World} {g : Nat} {T : TypeId} {cs : Array Value} (n : Nat) (h : Bk w g T cs) : Bk (w.drewN n) g T cs := h
/-- What is read, from the value that the bytes tell. -/
def readF (s : ByteArray) (v : ValV) : ValV × Int := if valCheck v = 0 ∧ packS v = s then (v, 0) else (zeroV, 5)
theorem pack_any (v : ValV) (w : World) : Calls Try.prog 26 #[v.val] w fun e w' => e = .returned (.tuple #[.string (if valCheck v = 0 then packS v else ⟨#[]⟩), .int .i64 (valCheck v)]) ∧ Below w.heap.size w w' := by
  by_cases h : valCheck v = 0
  · rw [if_pos h, h]
    have hv := (valCheck_zero v).1 h
    obtain ⟨is, n, p, b, l, a, s⟩ := v
    rcases hv with ⟨h1, h2, h3⟩ | ⟨h1, h2, h3, h4⟩
    · simp only at h1 h3
      subst h1 h3
      exact pack_key p b l a s h2 w
    · simp only [zeroK_eq] at h1 h4
      obtain ⟨rfl, rfl, rfl, rfl, rfl⟩ := h4
      subst h1
      exact pack_num n h2 h3 w
  · rw [if_neg h]
    obtain ⟨is, n, p, b, l, a, s⟩ := v
    exact pack_bad is n p b l a s h w
set_option maxHeartbeats 1000000
theorem read_num (s : ByteArray) (hs : s.size = 10) (h : sumB (s.extract 0 9).data.toList = (s[9]'(by omega)).toNat) (h0 : (((s[0]'(by omega)).toNat : Int) == 1) = false) (w : World) :
    Calls Try.prog 28 #[.string s] w fun e w' => e = .returned (.tuple #[(readF s ⟨false, (getN (s.extract 1 5).data.toList : Int) + -2147483648, zeroK⟩).1.val, .int .i64 (readF s ⟨false, (getN (s.extract 1 5).data.toList : Int) + -2147483648, zeroK⟩).2]) ∧ Below w.heap.size w w' := by
  have e9 : (s.extract 0 9).size = 9 := by simp; omega
  have sm := fun W => sum_any (s.extract 0 9) W (by unfold maxLen; omega)
  have t15 := fun W => get_any (s.extract 1 5) W (by simp; omega)
  have m15 : getN (s.extract 1 5).data.toList < 4294967296 := by
    have := getN_lt (s.extract 1 5).data.toList
    have e : (s.extract 1 5).data.toList.length = 4 := by show (s.extract 1 5).size = 4; simp; omega
    rw [e] at this
    exact this
  generalize sumB (s.extract 0 9).data.toList = T at *
  generalize getN (s.extract 1 5).data.toList = T15 at *
  obtain ⟨V, hV⟩ : ∃ V : ValV, V = ⟨false, (T15 : Int) + -2147483648, zeroK⟩ := ⟨_, rfl⟩
  rw [← hV]
  have hval : V.val = .agg #[.bool false, .int .i64 ((T15 : Int) + -2147483648), .int .i64 0, .int .i64 0, .int .i64 0, .int .i64 0, .int .i64 0] := by rw [hV]; rfl
  have pk : ∀ W, Calls Try.prog 26 #[.agg #[.bool false, .int .i64 ((T15 : Int) + -2147483648), .int .i64 0, .int .i64 0, .int .i64 0, .int .i64 0, .int .i64 0]] W fun e w' => e = .returned (.tuple #[.string (if valCheck V = 0 then packS V else ⟨#[]⟩), .int .i64 (valCheck V)]) ∧ Below W.heap.size W w' := fun W => hval ▸ pack_any V W
  clear hV
  have g1 : ((T : Int) == ((s[9]'(by omega)).toNat : Int)) = true := by simp; omega
  have g2 : ((T : Int) != ((s[9]'(by omega)).toNat : Int)) = false := by simp; omega
  have SM := Lib.hid sm
  have T15h := Lib.hid t15
  clear sm h e9 t15
  by_cases hc : valCheck V = 0
  · by_cases hp : packS V = s
    · have e : readF s V = (V, 0) := by unfold readF; rw [if_pos ⟨hc, hp⟩]
      simp only [hc, if_pos, hp] at pk
      simp only [e, hval]
      have PK := Lib.hid pk
      clear pk hc hp e hval
      go_enter Try.func28, Try.ntmps28
      go_wp2
      go_quiet (first | (go_at_call 45; exact Calls.quiet_of_same (calls_flip (SM.out _))))
      go_wp2_with (first
        | (go_at_call 46; (with_reducible refine (T15h.out _).mono ?_); rintro e w' ⟨rfl, rfl⟩)
        | (go_at_call 26; ((with_reducible refine (PK.out _).mono ?_); rintro e w2 ⟨rfl, hb2⟩; have rB : Bk w2 w.heap.size 41 #[.bool false, .int .i64 0, .int .i64 0, .int .i64 0, .int .i64 0, .int .i64 0, .int .i64 0] := bk_keep hb2 (by repeat (first | assumption | with_reducible exact bk_new _ _ _ | (with_reducible refine bk_new' _ _ ?_; simp; done) | with_reducible refine bk_drew ?_ | with_reducible refine bk_drewN _ ?_ | with_reducible refine bk_old _ ?_ | (with_reducible refine bk_far' _ (by omega) ?_) | with_reducible apply bk_set' | rfl)); have vB : Bk w2 (w.heap.size + 1) 41 #[.bool false, .int .i64 ((T15 : Int) + -2147483648), .int .i64 0, .int .i64 0, .int .i64 0, .int .i64 0, .int .i64 0] := bk_keep hb2 (by repeat (first | assumption | with_reducible exact bk_new _ _ _ | (with_reducible refine bk_new' _ _ ?_; simp; done) | with_reducible refine bk_drew ?_ | with_reducible refine bk_drewN _ ?_ | with_reducible refine bk_old _ ?_ | (with_reducible refine bk_far' _ (by omega) ?_) | with_reducible apply bk_set' | rfl)); obtain ⟨r0, r1, r2, r3, r4, r5, r6⟩ := cells7 rB; obtain ⟨v0, v1, v2, v3, v4, v5, v6⟩ := cells7 vB; have rL := rB.lt; have vL := vB.lt; have rF := fun i => Bk.frozen rB i)))
      refine bodyPost_ret (v := .tuple #[.agg #[.bool false, .int .i64 ((T15 : Int) + -2147483648), .int .i64 0, .int .i64 0, .int .i64 0, .int .i64 0, .int .i64 0], .int .i64 0]) (by simp [results, Try.results28, go_sem, *]; try rfl) rfl ⟨rfl, ?_⟩
      repeat (first | with_reducible exact Below.refl _ _ | with_reducible refine ext_alloc ?_ _ | with_reducible refine ext_drew ?_ | with_reducible refine ext_drewN ?_ _ | with_reducible refine ext_set ?_ (by first | omega | (simp; done) | (simp; omega)) _ | with_reducible refine ext_trans ?_ ‹_›)
    · have e : readF s V = (zeroV, 5) := by unfold readF; rw [if_neg (by rintro ⟨_, h⟩; exact hp h)]
      simp only [hc, if_pos] at pk
      simp only [e, ValV.val, zeroV, zeroK]
      generalize packS V = PS at *
      have p1 : (PS.toList == s.toList) = false := by simp [str_eq, hp]
      have p2 : (!(PS.toList == s.toList)) = true := by simp [str_eq, hp]
      have PK := Lib.hid pk
      clear pk hc hp e hval
      go_enter Try.func28, Try.ntmps28
      go_wp2
      go_quiet (first | (go_at_call 45; exact Calls.quiet_of_same (calls_flip (SM.out _))))
      go_wp2_with (first
        | (go_at_call 46; (with_reducible refine (T15h.out _).mono ?_); rintro e w' ⟨rfl, rfl⟩)
        | (go_at_call 26; ((with_reducible refine (PK.out _).mono ?_); rintro e w2 ⟨rfl, hb2⟩; have rB : Bk w2 w.heap.size 41 #[.bool false, .int .i64 0, .int .i64 0, .int .i64 0, .int .i64 0, .int .i64 0, .int .i64 0] := bk_keep hb2 (by repeat (first | assumption | with_reducible exact bk_new _ _ _ | (with_reducible refine bk_new' _ _ ?_; simp; done) | with_reducible refine bk_drew ?_ | with_reducible refine bk_drewN _ ?_ | with_reducible refine bk_old _ ?_ | (with_reducible refine bk_far' _ (by omega) ?_) | with_reducible apply bk_set' | rfl)); have vB : Bk w2 (w.heap.size + 1) 41 #[.bool false, .int .i64 ((T15 : Int) + -2147483648), .int .i64 0, .int .i64 0, .int .i64 0, .int .i64 0, .int .i64 0] := bk_keep hb2 (by repeat (first | assumption | with_reducible exact bk_new _ _ _ | (with_reducible refine bk_new' _ _ ?_; simp; done) | with_reducible refine bk_drew ?_ | with_reducible refine bk_drewN _ ?_ | with_reducible refine bk_old _ ?_ | (with_reducible refine bk_far' _ (by omega) ?_) | with_reducible apply bk_set' | rfl)); obtain ⟨r0, r1, r2, r3, r4, r5, r6⟩ := cells7 rB; obtain ⟨v0, v1, v2, v3, v4, v5, v6⟩ := cells7 vB; have rL := rB.lt; have vL := vB.lt; have rF := fun i => Bk.frozen rB i)))
      refine bodyPost_ret (v := .tuple #[.agg #[.bool false, .int .i64 0, .int .i64 0, .int .i64 0, .int .i64 0, .int .i64 0, .int .i64 0], .int .i64 5]) (by simp [results, Try.results28, go_sem, *]; try rfl) rfl ⟨rfl, ?_⟩
      repeat (first | with_reducible exact Below.refl _ _ | with_reducible refine ext_alloc ?_ _ | with_reducible refine ext_drew ?_ | with_reducible refine ext_drewN ?_ _ | with_reducible refine ext_set ?_ (by first | omega | (simp; done) | (simp; omega)) _ | with_reducible refine ext_trans ?_ ‹_›)
  · have e : readF s V = (zeroV, 5) := by unfold readF; rw [if_neg (by rintro ⟨h, _⟩; exact hc h)]
    simp only [hc, if_false] at pk
    simp only [e, ValV.val, zeroV, zeroK]
    generalize valCheck V = c at *
    have p1 : (c == 0) = false := by simpa using hc
    have p2 : (c != 0) = true := by simpa using hc
    have PK := Lib.hid pk
    clear pk hc e hval
    go_enter Try.func28, Try.ntmps28
    go_wp2
    go_quiet (first | (go_at_call 45; exact Calls.quiet_of_same (calls_flip (SM.out _))))
    go_wp2_with (first
      | (go_at_call 46; (with_reducible refine (T15h.out _).mono ?_); rintro e w' ⟨rfl, rfl⟩)
      | (go_at_call 26; ((with_reducible refine (PK.out _).mono ?_); rintro e w2 ⟨rfl, hb2⟩; have rB : Bk w2 w.heap.size 41 #[.bool false, .int .i64 0, .int .i64 0, .int .i64 0, .int .i64 0, .int .i64 0, .int .i64 0] := bk_keep hb2 (by repeat (first | assumption | with_reducible exact bk_new _ _ _ | (with_reducible refine bk_new' _ _ ?_; simp; done) | with_reducible refine bk_drew ?_ | with_reducible refine bk_drewN _ ?_ | with_reducible refine bk_old _ ?_ | (with_reducible refine bk_far' _ (by omega) ?_) | with_reducible apply bk_set' | rfl)); have vB : Bk w2 (w.heap.size + 1) 41 #[.bool false, .int .i64 ((T15 : Int) + -2147483648), .int .i64 0, .int .i64 0, .int .i64 0, .int .i64 0, .int .i64 0] := bk_keep hb2 (by repeat (first | assumption | with_reducible exact bk_new _ _ _ | (with_reducible refine bk_new' _ _ ?_; simp; done) | with_reducible refine bk_drew ?_ | with_reducible refine bk_drewN _ ?_ | with_reducible refine bk_old _ ?_ | (with_reducible refine bk_far' _ (by omega) ?_) | with_reducible apply bk_set' | rfl)); obtain ⟨r0, r1, r2, r3, r4, r5, r6⟩ := cells7 rB; obtain ⟨v0, v1, v2, v3, v4, v5, v6⟩ := cells7 vB; have rL := rB.lt; have vL := vB.lt; have rF := fun i => Bk.frozen rB i)))
    refine bodyPost_ret (v := .tuple #[.agg #[.bool false, .int .i64 0, .int .i64 0, .int .i64 0, .int .i64 0, .int .i64 0, .int .i64 0], .int .i64 5]) (by simp [results, Try.results28, go_sem, *]; try rfl) rfl ⟨rfl, ?_⟩
    repeat (first | with_reducible exact Below.refl _ _ | with_reducible refine ext_alloc ?_ _ | with_reducible refine ext_drew ?_ | with_reducible refine ext_drewN ?_ _ | with_reducible refine ext_set ?_ (by first | omega | (simp; done) | (simp; omega)) _ | with_reducible refine ext_trans ?_ ‹_›)
theorem read_key (s : ByteArray) (hs : s.size = 10) (h : sumB (s.extract 0 9).data.toList = (s[9]'(by omega)).toNat) (h0 : (((s[0]'(by omega)).toNat : Int) == 1) = true) (w : World) :
    Calls Try.prog 28 #[.string s] w fun e w' => e = .returned (.tuple #[(readF s ⟨true, 0, ⟨(s[1]'(by omega)).toNat, getN (s.extract 3 5).data.toList, getN (s.extract 5 7).data.toList, getN (s.extract 7 9).data.toList, (s[2]'(by omega)).toNat⟩⟩).1.val, .int .i64 (readF s ⟨true, 0, ⟨(s[1]'(by omega)).toNat, getN (s.extract 3 5).data.toList, getN (s.extract 5 7).data.toList, getN (s.extract 7 9).data.toList, (s[2]'(by omega)).toNat⟩⟩).2]) ∧ Below w.heap.size w w' := by
  have e9 : (s.extract 0 9).size = 9 := by simp; omega
  have sm := fun W => sum_any (s.extract 0 9) W (by unfold maxLen; omega)
  have t15 := fun W => get_any (s.extract 1 5) W (by simp; omega)
  have t35 := fun W => get_any (s.extract 3 5) W (by simp; omega)
  have t57 := fun W => get_any (s.extract 5 7) W (by simp; omega)
  have t79 := fun W => get_any (s.extract 7 9) W (by simp; omega)
  have m15 : getN (s.extract 1 5).data.toList < 4294967296 := by
    have := getN_lt (s.extract 1 5).data.toList
    have e : (s.extract 1 5).data.toList.length = 4 := by show (s.extract 1 5).size = 4; simp; omega
    rw [e] at this
    exact this
  have b1 : (s[1]'(by omega)).toNat < 256 := (s[1]'(by omega)).toNat_lt
  have b2 : (s[2]'(by omega)).toNat < 256 := (s[2]'(by omega)).toNat_lt
  generalize sumB (s.extract 0 9).data.toList = T at *
  generalize getN (s.extract 1 5).data.toList = T15 at *
  generalize getN (s.extract 3 5).data.toList = T35 at *
  generalize getN (s.extract 5 7).data.toList = T57 at *
  generalize getN (s.extract 7 9).data.toList = T79 at *
  obtain ⟨V, hV⟩ : ∃ V : ValV, V = ⟨true, 0, ⟨(s[1]'(by omega)).toNat, T35, T57, T79, (s[2]'(by omega)).toNat⟩⟩ := ⟨_, rfl⟩
  rw [← hV]
  have hval : V.val = .agg #[.bool true, .int .i64 0, .int .i64 (s[1]'(by omega)).toNat, .int .i64 T35, .int .i64 T57, .int .i64 T79, .int .i64 (s[2]'(by omega)).toNat] := by rw [hV]; rfl
  have pk : ∀ W, Calls Try.prog 26 #[.agg #[.bool true, .int .i64 0, .int .i64 (s[1]'(by omega)).toNat, .int .i64 T35, .int .i64 T57, .int .i64 T79, .int .i64 (s[2]'(by omega)).toNat]] W fun e w' => e = .returned (.tuple #[.string (if valCheck V = 0 then packS V else ⟨#[]⟩), .int .i64 (valCheck V)]) ∧ Below W.heap.size W w' := fun W => hval ▸ pack_any V W
  clear hV
  have g1 : ((T : Int) == ((s[9]'(by omega)).toNat : Int)) = true := by simp; omega
  have g2 : ((T : Int) != ((s[9]'(by omega)).toNat : Int)) = false := by simp; omega
  have SM := Lib.hid sm
  have T15h := Lib.hid t15
  have T35h := Lib.hid t35
  have T57h := Lib.hid t57
  have T79h := Lib.hid t79
  clear sm h e9 t15 t35 t57 t79
  by_cases hc : valCheck V = 0
  · by_cases hp : packS V = s
    · have e : readF s V = (V, 0) := by unfold readF; rw [if_pos ⟨hc, hp⟩]
      simp only [hc, if_pos, hp] at pk
      simp only [e, hval]
      have PK := Lib.hid pk
      clear pk hc hp e hval
      go_enter Try.func28, Try.ntmps28
      go_wp2
      go_quiet (first | (go_at_call 45; exact Calls.quiet_of_same (calls_flip (SM.out _))))
      go_wp2_with (first
        | (go_at_call 46; (with_reducible refine (T15h.out _).mono ?_); rintro e w' ⟨rfl, rfl⟩))
      have wb1 : IntKind.i64.wrap (s[1]'(by omega)).toNat = (s[1]'(by omega)).toNat := IntWalk.i64_in _ ⟨by omega, by omega⟩
      have wb2 : IntKind.i64.wrap (s[2]'(by omega)).toNat = (s[2]'(by omega)).toNat := IntWalk.i64_in _ ⟨by omega, by omega⟩
      go_still_tail 17, (by kernel_rfl)
      still_call (calls_flip (T35h.out _))
      repeat still_step
      still_call (calls_flip (T57h.out _))
      repeat still_step
      still_call (calls_flip (T79h.out _))
      repeat still_step
      refine wpStill_nil ?_
      change wpList _ _ _ _ _ (World.drew (((w.alloc (.cells #[.bool false, .int .i64 0, .int .i64 0, .int .i64 0, .int .i64 0, .int .i64 0, .int .i64 0] 41)).drewN nq).alloc (.cells #[.bool false, .int .i64 ((T15 : Int) + -2147483648), .int .i64 0, .int .i64 0, .int .i64 0, .int .i64 0, .int .i64 0] 41)))
      clear wb1 wb2
      go_wp2_with (first
        | (go_at_call 26; ((with_reducible refine (PK.out _).mono ?_); rintro e w2 ⟨rfl, hb2⟩; have rB : Bk w2 w.heap.size 41 #[.bool false, .int .i64 0, .int .i64 0, .int .i64 0, .int .i64 0, .int .i64 0, .int .i64 0] := bk_keep hb2 (by repeat (first | assumption | with_reducible exact bk_new _ _ _ | (with_reducible refine bk_new' _ _ ?_; simp; done) | with_reducible refine bk_drew ?_ | with_reducible refine bk_drewN _ ?_ | with_reducible refine bk_old _ ?_ | (with_reducible refine bk_far' _ (by omega) ?_) | with_reducible apply bk_set' | rfl)); have vB : Bk w2 (w.heap.size + 1) 41 #[.bool true, .int .i64 0, .int .i64 (s[1]'(by omega)).toNat, .int .i64 T35, .int .i64 T57, .int .i64 T79, .int .i64 (s[2]'(by omega)).toNat] := bk_keep hb2 (by repeat (first | assumption | with_reducible exact bk_new _ _ _ | (with_reducible refine bk_new' _ _ ?_; simp; done) | with_reducible refine bk_drew ?_ | with_reducible refine bk_drewN _ ?_ | with_reducible refine bk_old _ ?_ | (with_reducible refine bk_far' _ (by omega) ?_) | with_reducible apply bk_set' | rfl)); obtain ⟨r0, r1, r2, r3, r4, r5, r6⟩ := cells7 rB; obtain ⟨v0, v1, v2, v3, v4, v5, v6⟩ := cells7 vB; have rL := rB.lt; have vL := vB.lt; have rF := fun i => Bk.frozen rB i)))
      refine bodyPost_ret (v := .tuple #[.agg #[.bool true, .int .i64 0, .int .i64 (s[1]'(by omega)).toNat, .int .i64 T35, .int .i64 T57, .int .i64 T79, .int .i64 (s[2]'(by omega)).toNat], .int .i64 0]) (by simp [results, Try.results28, go_sem, *]; try rfl) rfl ⟨rfl, ?_⟩
      repeat (first | with_reducible exact Below.refl _ _ | with_reducible refine ext_alloc ?_ _ | with_reducible refine ext_drew ?_ | with_reducible refine ext_drewN ?_ _ | with_reducible refine ext_set ?_ (by first | omega | (simp; done) | (simp; omega)) _ | with_reducible refine ext_trans ?_ ‹_›)
    · have e : readF s V = (zeroV, 5) := by unfold readF; rw [if_neg (by rintro ⟨_, h⟩; exact hp h)]
      simp only [hc, if_pos] at pk
      simp only [e, ValV.val, zeroV, zeroK]
      generalize packS V = PS at *
      have p1 : (PS.toList == s.toList) = false := by simp [str_eq, hp]
      have p2 : (!(PS.toList == s.toList)) = true := by simp [str_eq, hp]
      have PK := Lib.hid pk
      clear pk hc hp e hval
      go_enter Try.func28, Try.ntmps28
      go_wp2
      go_quiet (first | (go_at_call 45; exact Calls.quiet_of_same (calls_flip (SM.out _))))
      go_wp2_with (first
        | (go_at_call 46; (with_reducible refine (T15h.out _).mono ?_); rintro e w' ⟨rfl, rfl⟩))
      have wb1 : IntKind.i64.wrap (s[1]'(by omega)).toNat = (s[1]'(by omega)).toNat := IntWalk.i64_in _ ⟨by omega, by omega⟩
      have wb2 : IntKind.i64.wrap (s[2]'(by omega)).toNat = (s[2]'(by omega)).toNat := IntWalk.i64_in _ ⟨by omega, by omega⟩
      go_still_tail 17, (by kernel_rfl)
      still_call (calls_flip (T35h.out _))
      repeat still_step
      still_call (calls_flip (T57h.out _))
      repeat still_step
      still_call (calls_flip (T79h.out _))
      repeat still_step
      refine wpStill_nil ?_
      change wpList _ _ _ _ _ (World.drew (((w.alloc (.cells #[.bool false, .int .i64 0, .int .i64 0, .int .i64 0, .int .i64 0, .int .i64 0, .int .i64 0] 41)).drewN nq).alloc (.cells #[.bool false, .int .i64 ((T15 : Int) + -2147483648), .int .i64 0, .int .i64 0, .int .i64 0, .int .i64 0, .int .i64 0] 41)))
      clear wb1 wb2
      go_wp2_with (first
        | (go_at_call 26; ((with_reducible refine (PK.out _).mono ?_); rintro e w2 ⟨rfl, hb2⟩; have rB : Bk w2 w.heap.size 41 #[.bool false, .int .i64 0, .int .i64 0, .int .i64 0, .int .i64 0, .int .i64 0, .int .i64 0] := bk_keep hb2 (by repeat (first | assumption | with_reducible exact bk_new _ _ _ | (with_reducible refine bk_new' _ _ ?_; simp; done) | with_reducible refine bk_drew ?_ | with_reducible refine bk_drewN _ ?_ | with_reducible refine bk_old _ ?_ | (with_reducible refine bk_far' _ (by omega) ?_) | with_reducible apply bk_set' | rfl)); have vB : Bk w2 (w.heap.size + 1) 41 #[.bool true, .int .i64 0, .int .i64 (s[1]'(by omega)).toNat, .int .i64 T35, .int .i64 T57, .int .i64 T79, .int .i64 (s[2]'(by omega)).toNat] := bk_keep hb2 (by repeat (first | assumption | with_reducible exact bk_new _ _ _ | (with_reducible refine bk_new' _ _ ?_; simp; done) | with_reducible refine bk_drew ?_ | with_reducible refine bk_drewN _ ?_ | with_reducible refine bk_old _ ?_ | (with_reducible refine bk_far' _ (by omega) ?_) | with_reducible apply bk_set' | rfl)); obtain ⟨r0, r1, r2, r3, r4, r5, r6⟩ := cells7 rB; obtain ⟨v0, v1, v2, v3, v4, v5, v6⟩ := cells7 vB; have rL := rB.lt; have vL := vB.lt; have rF := fun i => Bk.frozen rB i)))
      refine bodyPost_ret (v := .tuple #[.agg #[.bool false, .int .i64 0, .int .i64 0, .int .i64 0, .int .i64 0, .int .i64 0, .int .i64 0], .int .i64 5]) (by simp [results, Try.results28, go_sem, *]; try rfl) rfl ⟨rfl, ?_⟩
      repeat (first | with_reducible exact Below.refl _ _ | with_reducible refine ext_alloc ?_ _ | with_reducible refine ext_drew ?_ | with_reducible refine ext_drewN ?_ _ | with_reducible refine ext_set ?_ (by first | omega | (simp; done) | (simp; omega)) _ | with_reducible refine ext_trans ?_ ‹_›)
  · have e : readF s V = (zeroV, 5) := by unfold readF; rw [if_neg (by rintro ⟨h, _⟩; exact hc h)]
    simp only [hc, if_false] at pk
    simp only [e, ValV.val, zeroV, zeroK]
    generalize valCheck V = c at *
    have p1 : (c == 0) = false := by simpa using hc
    have p2 : (c != 0) = true := by simpa using hc
    have PK := Lib.hid pk
    clear pk hc e hval
    go_enter Try.func28, Try.ntmps28
    go_wp2
    go_quiet (first | (go_at_call 45; exact Calls.quiet_of_same (calls_flip (SM.out _))))
    go_wp2_with (first
      | (go_at_call 46; (with_reducible refine (T15h.out _).mono ?_); rintro e w' ⟨rfl, rfl⟩))
    have wb1 : IntKind.i64.wrap (s[1]'(by omega)).toNat = (s[1]'(by omega)).toNat := IntWalk.i64_in _ ⟨by omega, by omega⟩
    have wb2 : IntKind.i64.wrap (s[2]'(by omega)).toNat = (s[2]'(by omega)).toNat := IntWalk.i64_in _ ⟨by omega, by omega⟩
    go_still_tail 17, (by kernel_rfl)
    still_call (calls_flip (T35h.out _))
    repeat still_step
    still_call (calls_flip (T57h.out _))
    repeat still_step
    still_call (calls_flip (T79h.out _))
    repeat still_step
    refine wpStill_nil ?_
    change wpList _ _ _ _ _ (World.drew (((w.alloc (.cells #[.bool false, .int .i64 0, .int .i64 0, .int .i64 0, .int .i64 0, .int .i64 0, .int .i64 0] 41)).drewN nq).alloc (.cells #[.bool false, .int .i64 ((T15 : Int) + -2147483648), .int .i64 0, .int .i64 0, .int .i64 0, .int .i64 0, .int .i64 0] 41)))
    clear wb1 wb2
    go_wp2_with (first
      | (go_at_call 26; ((with_reducible refine (PK.out _).mono ?_); rintro e w2 ⟨rfl, hb2⟩; have rB : Bk w2 w.heap.size 41 #[.bool false, .int .i64 0, .int .i64 0, .int .i64 0, .int .i64 0, .int .i64 0, .int .i64 0] := bk_keep hb2 (by repeat (first | assumption | with_reducible exact bk_new _ _ _ | (with_reducible refine bk_new' _ _ ?_; simp; done) | with_reducible refine bk_drew ?_ | with_reducible refine bk_drewN _ ?_ | with_reducible refine bk_old _ ?_ | (with_reducible refine bk_far' _ (by omega) ?_) | with_reducible apply bk_set' | rfl)); have vB : Bk w2 (w.heap.size + 1) 41 #[.bool true, .int .i64 0, .int .i64 (s[1]'(by omega)).toNat, .int .i64 T35, .int .i64 T57, .int .i64 T79, .int .i64 (s[2]'(by omega)).toNat] := bk_keep hb2 (by repeat (first | assumption | with_reducible exact bk_new _ _ _ | (with_reducible refine bk_new' _ _ ?_; simp; done) | with_reducible refine bk_drew ?_ | with_reducible refine bk_drewN _ ?_ | with_reducible refine bk_old _ ?_ | (with_reducible refine bk_far' _ (by omega) ?_) | with_reducible apply bk_set' | rfl)); obtain ⟨r0, r1, r2, r3, r4, r5, r6⟩ := cells7 rB; obtain ⟨v0, v1, v2, v3, v4, v5, v6⟩ := cells7 vB; have rL := rB.lt; have vL := vB.lt; have rF := fun i => Bk.frozen rB i)))
    refine bodyPost_ret (v := .tuple #[.agg #[.bool false, .int .i64 0, .int .i64 0, .int .i64 0, .int .i64 0, .int .i64 0, .int .i64 0], .int .i64 5]) (by simp [results, Try.results28, go_sem, *]; try rfl) rfl ⟨rfl, ?_⟩
    repeat (first | with_reducible exact Below.refl _ _ | with_reducible refine ext_alloc ?_ _ | with_reducible refine ext_drew ?_ | with_reducible refine ext_drewN ?_ _ | with_reducible refine ext_set ?_ (by first | omega | (simp; done) | (simp; omega)) _ | with_reducible refine ext_trans ?_ ‹_›)
end Go.Proofs.Ythadehaoafkaeaa
