import Derived.Deep.DeepCutAuto
import Derived.Deep.RegionLaw
import Derived.Test.YtpjhjefjbkjhkaaGreatDoorDeskBZ
import Derived.Test.YtpjhjefjbkjhkaaGreatDoorMapLit
/- round.Out at whatever range; what several computes. -/
namespace Go.Proofs.YtpjhjefjbkjhkaaGreatDoor
open Go Go.RowKit Go.Shelf
set_option linter.unusedVariables false
set_option linter.unusedSimpArgs false
theorem leastN_is {b n : Int} {L : Nat} (h : Least b n L) : leastN b n = L := by
  unfold leastN
  have : (List.range 14).find? (fun e => decide (szI e b n ≤ 15 * 2 ^ e)) = some L := by
    rw [List.find?_range_eq_some]
    refine ⟨decide_eq_true h.fit, List.mem_range.2 (by have := h.le; omega), fun j hj => ?_⟩
    have := h.no j hj
    simp; omega
  rw [this]; rfl
theorem isRange_no (b n : Int) (h : isRangeB b n = false) (w : World) : Calls Tryz.prog 219 #[.int .i64 b, .int .i64 n] w fun r w' => r = .returned (.bool false) ∧ w = w' := by
  have hn : ¬ (0 ≤ b ∧ b < 65536 ∧ 0 ≤ n ∧ n ≤ 65536 - b) := of_decide_eq_false h
  clear h
  by_cases h1 : 0 ≤ b
  · by_cases h2 : b < 65536
    · by_cases h3 : 0 ≤ n
      · have h4 : ¬ (n ≤ 65536 - b) := fun h => hn ⟨h1, h2, h3, h⟩
        have e1 : IntKind.i64.wrap (65536 - b) = 65536 - b := by rw [IntKind.wrap_i64]; omega
        go_enter Tryz.func219, Tryz.ntmps219
        go_wp2
        go_ret
        exact ⟨rfl, rfl⟩
      · go_enter Tryz.func219, Tryz.ntmps219
        go_wp2
        go_ret
        exact ⟨rfl, rfl⟩
    · go_enter Tryz.func219, Tryz.ntmps219
      go_wp2
      go_ret
      exact ⟨rfl, rfl⟩
  · go_enter Tryz.func219, Tryz.ntmps219
    go_wp2
    go_ret
    exact ⟨rfl, rfl⟩
theorem rout_any (b n : Int) (w : World) : Calls Tryz.prog 182 #[.int .i64 b, .int .i64 n] w fun r w' => r = .returned (.tuple #[.int .i64 (if isRangeB b n = true then dnI (2 ^ leastN b n) b else 0), .int .i64 (if isRangeB b n = true then szI (leastN b n) b n else 0), .int .i64 (if isRangeB b n = true then 0 else 1)]) ∧ w = w' := by
  cases h : isRangeB b n with
  | true =>
    have h1 : 0 ≤ b ∧ b < 65536 ∧ 0 ≤ n ∧ n ≤ 65536 - b := of_decide_eq_true h
    obtain ⟨L, hL⟩ := least_ex (b := b) (n := n) h1.1 (by omega)
    rw [leastN_is hL]
    simp only [if_true]
    exact out_any b n L hL h1.1 h1.2.1 h1.2.2.1 (by omega) w
  | false =>
    simp only [Bool.false_eq_true, if_false]
    go_enter Tryz.func182, Tryz.ntmps182
    go_wp2_with (go_at_call 219; refine (isRange_no b n h _).mono ?_; rintro e w' ⟨rfl, rfl⟩)
    go_ret3
    exact ⟨rfl, rfl⟩
theorem ba_beqM (a b : ByteArray) : (a == b) = decide (a = b) := by
  show (a.data == b.data) = _
  by_cases h : a = b
  · subst h; simp
  · have : a.data ≠ b.data := fun e => h (ByteArray.ext e)
    rw [decide_eq_false h]
    exact beq_false_of_ne this
theorem ba_beqL (a : ByteArray) (l : List UInt8) : (a == (⟨l.toArray⟩ : ByteArray)) = decide (a.data.toList = l) := by
  rw [ba_beqM]
  by_cases h : a.data.toList = l
  · subst h; simp
  · rw [decide_eq_false h]
    exact decide_eq_false fun e => h (by rw [e])
theorem toL_eq (a : ByteArray) (l : List UInt8) : (a.toList == l) = decide (a.data.toList = l) := by
  rw [ByteArray.toList_eq]
  by_cases h : a.data.toList = l
  · rw [decide_eq_true h, h]; simp
  · rw [decide_eq_false h]; exact beq_false_of_ne h
theorem toL_empty (a : ByteArray) : a.toList.isEmpty = decide (a.data.toList = []) := by
  rw [ByteArray.toList_eq]
  cases a.data.toList <;> simp
def SevPost (w : World) (r : Bys × Int) (e : Ending) (w' : World) : Prop := ∃ o, e = .returned (.tuple #[.string o, .int .i64 r.2]) ∧ (r.2 = 0 → o = ba r.1) ∧ Below w.heap.size w w'
def sumEs : Array MapEntry := #[⟨.string ⟨#[97, 100, 100]⟩, .func (.func 178) #[] #[], 0⟩, ⟨.string ⟨#[115, 117, 98]⟩, .func (.func 179) #[] #[], 1⟩, ⟨.string ⟨#[109, 117, 108]⟩, .func (.func 180) #[] #[], 2⟩, ⟨.string ⟨#[108, 101, 115, 115]⟩, .func (.func 181) #[] #[], 3⟩]
theorem sumU : Tryz.prog.underlying 268 = some (.map 9 170) := Tryz.underlying268
theorem sum_zero (W : World) : (zeroValue 170).run Tryz.prog W = .ok .nilFunc W := by kernel_rfl
theorem sum_add {W : World} {b : Nat} (hb : W.heap[b]? = some (.map sumEs 4)) {x : ByteArray} (hx : x.data.toList = wAdd) : (Instr.lookup 268 (.map (some b)) (.string x) true).run Tryz.prog W = .ok (.tuple #[.func (.func 178) #[] #[], .bool true]) W := by
  have e : x = ⟨wAdd.toArray⟩ := by rw [← hx]
  subst e
  exact look_yes sumU Tryz.underlying9 (i := 0) hb rfl
theorem sum_sub {W : World} {b : Nat} (hb : W.heap[b]? = some (.map sumEs 4)) {x : ByteArray} (hx : x.data.toList = wSub) : (Instr.lookup 268 (.map (some b)) (.string x) true).run Tryz.prog W = .ok (.tuple #[.func (.func 179) #[] #[], .bool true]) W := by
  have e : x = ⟨wSub.toArray⟩ := by rw [← hx]
  subst e
  exact look_yes sumU Tryz.underlying9 (i := 1) hb rfl
theorem sum_mul {W : World} {b : Nat} (hb : W.heap[b]? = some (.map sumEs 4)) {x : ByteArray} (hx : x.data.toList = wMul) : (Instr.lookup 268 (.map (some b)) (.string x) true).run Tryz.prog W = .ok (.tuple #[.func (.func 180) #[] #[], .bool true]) W := by
  have e : x = ⟨wMul.toArray⟩ := by rw [← hx]
  subst e
  exact look_yes sumU Tryz.underlying9 (i := 2) hb rfl
theorem sum_less {W : World} {b : Nat} (hb : W.heap[b]? = some (.map sumEs 4)) {x : ByteArray} (hx : x.data.toList = wLess) : (Instr.lookup 268 (.map (some b)) (.string x) true).run Tryz.prog W = .ok (.tuple #[.func (.func 181) #[] #[], .bool true]) W := by
  have e : x = ⟨wLess.toArray⟩ := by rw [← hx]
  subst e
  exact look_yes sumU Tryz.underlying9 (i := 3) hb rfl
theorem sum_none {W : World} {b : Nat} (hb : W.heap[b]? = some (.map sumEs 4)) {x : ByteArray} (h1 : x.data.toList ≠ wAdd) (h2 : x.data.toList ≠ wSub) (h3 : x.data.toList ≠ wMul) (h4 : x.data.toList ≠ wLess) : (Instr.lookup 268 (.map (some b)) (.string x) true).run Tryz.prog W = .ok (.tuple #[.nilFunc, .bool false]) W := by
  refine look_no sumU Tryz.underlying9 (sum_zero W) hb ?_
  have e1 : (x == (⟨#[97, 100, 100]⟩ : ByteArray)) = false := by rw [ba_beqL x [97, 100, 100]]; exact decide_eq_false h1
  have e2 : (x == (⟨#[115, 117, 98]⟩ : ByteArray)) = false := by rw [ba_beqL x [115, 117, 98]]; exact decide_eq_false h2
  have e3 : (x == (⟨#[109, 117, 108]⟩ : ByteArray)) = false := by rw [ba_beqL x [109, 117, 108]]; exact decide_eq_false h3
  have e4 : (x == (⟨#[108, 101, 115, 115]⟩ : ByteArray)) = false := by rw [ba_beqL x [108, 101, 115, 115]]; exact decide_eq_false h4
  unfold sumEs
  simp [Instr.findNow, Instr.sameNow, e1, e2, e3, e4]
theorem putObj_same {W : World} {b : Nat} {o o' : Obj} (h : W.heap[b]? = some o) : (W.putObj b o').heap[b]? = some o' := World.putObj_heap_same (Array.getElem?_eq_some_iff.1 h).1
theorem below_putObj {B b : Nat} {w W : World} {o : Obj} (h : Below B w W) (hb : B ≤ b) : Below B w (W.putObj b o) :=
  h.trans ⟨rfl, rfl, rfl, by simp [World.putObj], fun k hk => World.putObj_heap_other (by omega)⟩
end Go.Proofs.YtpjhjefjbkjhkaaGreatDoor
