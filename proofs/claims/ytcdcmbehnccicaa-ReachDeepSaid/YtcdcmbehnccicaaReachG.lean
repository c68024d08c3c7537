/- Seeking: reach.Cells; is one list of numbers in another one? -/
import Derived.Test.YtcdcmbehnccicaaReachF
import Derived.Test.YtcdcmbehnccicaaListOps
namespace Go.Proofs.Ytcdcmbehnccicaa
open El (cl)
open Go.RowKit
open Go.Maps (Keyed)
set_option linter.unusedVariables false
set_option linter.unusedSimpArgs false
set_option maxHeartbeats 4000000 in
set_option maxRecDepth 100000 in
theorem cells_bad {R : List ValV} {c : KeyV} {mem : List ValV} {stk : List FrameV} {out : List Int} {cs : Array Value} {W : World} (h : MRow R c mem stk out cs W) (d : Bool) (p : Int) (hc : stepCheck R c mem stk out ≠ 0) :
    Calls Try.prog 7 #[.agg cs, .int .i64 p, .bool d] W fun e w' => e = .returned (.tuple #[.slice none 0 0, .int .i64 (stepCheck R c mem stk out)]) ∧ Below W.heap.size W w' := by
  have hb := h.arg
  obtain ⟨w1, hw1⟩ : ∃ w1, w1 = W.alloc (.cells cs 31) := ⟨_, rfl⟩
  have h1w : Below W.heap.size W w1 := by rw [hw1]; exact ext_alloc (Below.refl _ _) _
  rw [← hw1] at hb
  have hck := places_bad hb.toRow d p 0 mem.length hc
  obtain ⟨ma, mc, m61, _⟩ := hb.memC
  have zL := hb.bk.lt
  generalize stepCheck R c mem stk out = ec at *
  have CK := Lib.hid hck
  have MX := Lib.hid hb
  have HW1 := Lib.hid hw1
  have H1W := Lib.hid h1w
  clear h hck hb hw1 h1w hc
  go_enter Try.func7, Try.ntmps7
  go_upto_region 1 with (fail)
  rw [← HW1.out]
  go_wp2_with (first
    | (refine wpList_load_sub rfl 31 (.tmp 3) rfl W.heap.size 0 64 rfl 31 _ _ MX.out.bk Try.underlying31 rfl (by kernel_rfl) MX.out.size _ MX.out.all ?_)
    | (go_at_call 17; ((with_reducible refine CK.out.mono ?_); rintro e u1 ⟨rfl, hb⟩; have HB1 := Lib.hid hb; clear hb)))
  go_ret2
  exact ⟨rfl, ext_trans H1W.out HB1.out⟩
set_option maxHeartbeats 4000000 in
set_option maxRecDepth 100000 in
theorem cells_any {R : List ValV} {c : KeyV} {mem : List ValV} {stk : List FrameV} {out : List Int} {cs : Array Value} {W : World} (h : MRow R c mem stk out cs W) (d : Bool) (p : Int) (hok : MOk R c mem stk out) :
    Calls Try.prog 7 #[.agg cs, .int .i64 p, .bool d] W (PlacesPost W (hitsL d mem (rootsP d R c stk) p 0 mem.length)) := by
  have hb := h.arg
  obtain ⟨w1, hw1⟩ : ∃ w1, w1 = W.alloc (.cells cs 31) := ⟨_, rfl⟩
  have h1w : Below W.heap.size W w1 := by rw [hw1]; exact ext_alloc (Below.refl _ _) _
  rw [← hw1] at hb
  have hck := places_any hb.toRow d p 0 mem.length (by omega) (by have := hok.len; omega) hok
  rw [Int.zero_add] at hck
  obtain ⟨ma, mc, m61, _⟩ := hb.memC
  have zL := hb.bk.lt
  have CK := Lib.hid hck
  have MX := Lib.hid hb
  have HW1 := Lib.hid hw1
  have H1W := Lib.hid h1w
  clear h hck hb hw1 h1w hok
  go_enter Try.func7, Try.ntmps7
  go_upto_region 1 with (fail)
  rw [← HW1.out]
  go_wp2_with (first
    | (refine wpList_load_sub rfl 31 (.tmp 3) rfl W.heap.size 0 64 rfl 31 _ _ MX.out.bk Try.underlying31 rfl (by kernel_rfl) MX.out.size _ MX.out.all ?_)
    | (go_at_call 17; ((with_reducible refine CK.out.mono ?_); rintro e u1 ⟨v, rfl, ho, hb⟩; have HO := Lib.hid ho; have HB1 := Lib.hid hb; clear hb ho)))
  go_ret2
  exact ⟨v, rfl, HO.out.mono H1W.out.size, ext_trans H1W.out HB1.out⟩
theorem keyedI : Keyed Try.prog 3 := Go.Maps.int_keyed Try.underlying3
def intD (l : List Int) : DataW Unit := Maps.setOf (.lit (.bool true)) (l.map fun x => .int .i64 x)
theorem intD_snoc (l : List Int) (x : Int) : intD (l ++ [x]) = (intD l).put (.int .i64 x) (.lit (.bool true)) := by
  unfold intD
  rw [List.map_append]
  exact Maps.setOf_snoc _ _ _
theorem isMap_intD : ∀ l : List Int, Maps.IsMap (intD l) := by
  intro l
  unfold intD Maps.setOf
  generalize l.map _ = acc
  have : ∀ (acc : List Lit) (m : DataW Unit), Maps.IsMap m → Maps.IsMap (acc.foldl (fun m x => m.put x (.lit (.bool true))) m) := by
    intro acc
    induction acc with
    | nil => exact fun m h => h
    | cons a acc ih => exact fun m h => ih _ (h.put _ _)
  exact this acc _ Maps.isMap_empty
theorem intD_at {l : List Int} {x : Int} (h : x ∈ l) (z : DataW Unit) : (intD l).atKey (.int .i64 x) z = .lit (.bool true) := by
  have : ∀ l : List Int, x ∈ l.reverse → (intD l.reverse).atKey (.int .i64 x) z = .lit (.bool true) := by
    intro l
    induction l with
    | nil => intro h; cases h
    | cons a l ih =>
      intro h
      rw [List.reverse_cons, intD_snoc]
      by_cases e : x = a
      · subst e; exact Maps.atKey_put_same (isMap_intD _) (show WideAt.IsKeyLit (.int .i64 x) from trivial) _ _
      · rw [Maps.atKey_put_other (fun he => e (by injection he))]
        refine ih ?_
        rw [List.reverse_cons] at h
        rcases List.mem_append.1 h with h | h
        · exact h
        · exact absurd (List.mem_singleton.1 h) e
  have h2 := this l.reverse (by rw [List.reverse_reverse]; exact h)
  rwa [List.reverse_reverse] at h2
theorem keyOf_i {x : Int} (h : I64 x) : keyOf Try.prog 3 (.int .i64 x) = some (.int .i64 x) := Go.Maps.keyOf_int_mk Try.underlying3 (i64_wf h)
theorem zeroBool (w : World) : (zeroValue 4).run Try.prog w = .ok (.bool false) w := by kernel_rfl
theorem plainElem_bool_inv {H : Type} {P : Program} {e : TypeId} (he : P.underlying e = some .bool) {v : Value} {z : DataW H × List MemPlace} (h : plainElem P e v = some z) : ∃ x, v = .bool x ∧ z = (.lit (.bool x), []) := by
  unfold plainElem at h
  rw [he] at h
  cases v <;> simp at h
  exact ⟨_, rfl, h.symm⟩
/-- Is it there? -/
theorem look_intD {b n : Nat} {l : List Int} {W : World} (h : W.ownsMap Try.prog 3 (plainElem (H := Unit) Try.prog 4) b n (intD l)) {x : Int} (hx : I64 x) (hi : x ∈ l) :
    (Instr.lookup 48 (.map (some b)) (.int .i64 x) false).run Try.prog W = .ok (.bool true) W := by
  obtain ⟨v, ps, hrun, hv⟩ := h.lookup keyedI Try.underlying48 (zeroBool W) (plainElem_bool Try.underlying4 false) (keyOf_i hx)
  rw [intD_at hi] at hv
  obtain ⟨y, rfl, hz⟩ := plainElem_bool_inv Try.underlying4 hv
  simp only [Prod.mk.injEq, DataW.lit.injEq, Lit.bool.injEq] at hz
  rw [hrun, ← hz.1]
set_option maxHeartbeats 4000000 in
set_option maxRecDepth 100000 in
theorem cellsin_any (ao bo : Option Addr) (n m c d : Nat) (xs ys : List Int) (w : World) (hx : Sl w ao n xs) (hy : Sl w bo m ys) (hn : n ≤ 100000) (hm : m ≤ 100000) (hi : ∀ x ∈ ys, I64 x) (hs : ∀ x ∈ xs, x ∈ ys) :
    Calls Try.prog 9 #[.slice ao n c, .slice bo m d] w fun e w' => e = .returned (.bool true) ∧ Below w.heap.size w w' := by
  have hlx := hx.len
  have hly := hy.len
  have hmk := @run_makeMap Try.prog
  have HX := Lib.hid hx
  have HY := Lib.hid hy
  have HI := Lib.hid hi
  have HS := Lib.hid hs
  clear hx hy hi hs
  go_enter Try.func9, Try.ntmps9
  go_wp2
  go_loopw [13] (fun i wr => ∃ k : Nat, k ≤ m ∧ i = .int .i64 k ∧ wr.ownsMap Try.prog 3 (plainElem (H := Unit) Try.prog 4) w.heap.size k (intD (ys.take k)) ∧ Below w.heap.size w wr) (fun i _ => m - (intOf i).toNat)
  case atStart => exact ⟨0, Nat.zero_le _, rfl, World.ownsMap_made _ _ _ _, (Below.refl _ _).alloc (Nat.le_refl _) _⟩
  case round =>
    obtain ⟨k, hk, rfl, hown, hb⟩ := hrel
    by_cases hlt : k < m
    · have q1 : (k : Int) < m := by omega
      obtain ⟨y, hgy⟩ : ∃ y, ys[k]? = some y := ⟨_, List.getElem?_eq_getElem (by omega)⟩
      obtain ⟨ad, rfl, hab, e0⟩ := sl_int (HY.out.below hb) hlt hgy
      have hyi := HI.out y (List.mem_of_getElem? hgy)
      have htk : ys.take (k + 1) = ys.take k ++ [y] := by rw [List.take_add_one, hgy]; rfl
      have HTK := Lib.hid htk
      have HB := Lib.hid hb
      have HYI := Lib.hid hyi
      have HOW := Lib.hid hown
      clear htk hb hyi hgy hown
      go_wp2_with (at_mapUpdate; refine wpList_mapUpdate_own _ rfl _ _ _ 48 rfl 3 4 keyedI Try.underlying48 _ w.heap.size k _ rfl HOW.out (by unfold maxLen; omega) _ _ _ rfl rfl (keyOf_i HYI.out) _ [] (plainElem_bool Try.underlying4 true) ?_; intro w1 hown1 hgrow1)
      go_roundw
      case rel => exact ⟨k + 1, by omega, by go_num, by rw [HTK.out, intD_snoc]; exact hown1, HB.out.grown hgrow1 HB.out.size (fun j hj => by cases hj; exact Nat.le_refl _)⟩
      case measure => simp [intOf]; omega
    · have q1 : ¬ ((k : Int) < m) := by omega
      obtain rfl : k = m := by omega
      rw [List.take_of_length_le (by omega)] at hown
      obtain ⟨wo, hwo⟩ : ∃ wo : World, wo = wr := ⟨_, rfl⟩
      subst hwo
      have HOW := Lib.hid hown
      have HBW := Lib.hid hb
      clear hown hb
      go_wp2
      go_loopw [22] (fun i wr => ∃ j : Nat, j ≤ n ∧ i = .int .i64 j ∧ Below wo.heap.size wo wr) (fun i _ => n - (intOf i).toNat)
      case atStart => exact ⟨0, Nat.zero_le _, rfl, Below.refl _ _⟩
      case round =>
        obtain ⟨j, hj, rfl, hb⟩ := hrel
        by_cases hlt2 : j < n
        · have q2 : (j : Int) < n := by omega
          obtain ⟨x, hgx⟩ : ∃ x, xs[j]? = some x := ⟨_, List.getElem?_eq_getElem (by omega)⟩
          obtain ⟨ad, rfl, hab, e0⟩ := sl_int (HX.out.below (ext_trans HBW.out hb)) hlt2 hgx
          have hin := HS.out x (List.mem_of_getElem? hgx)
          have hown' : wr.ownsMap Try.prog 3 (plainElem (H := Unit) Try.prog 4) w.heap.size k (intD ys) := by
            obtain ⟨es, cl, h1, h2⟩ := HOW.out
            exact ⟨es, cl, (hb.block _ HOW.out.lt).trans h1, h2⟩
          have hlk := look_intD hown' (HI.out x hin) hin
          have HB := Lib.hid hb
          clear hb hgx hin hown'
          go_wp2
          go_roundw
          case rel => exact ⟨j + 1, by omega, by go_num, HB.out⟩
          case measure => simp [intOf]; omega
        · have q2 : ¬ ((j : Int) < n) := by omega
          have HB := Lib.hid hb
          clear hb
          go_wp2
          go_ret
          exact ⟨rfl, ext_trans HBW.out HB.out⟩
end Go.Proofs.Ytcdcmbehnccicaa
