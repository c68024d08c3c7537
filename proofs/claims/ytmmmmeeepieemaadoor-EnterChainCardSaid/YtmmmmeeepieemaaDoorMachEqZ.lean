import Derived.Test.YtmmmmeeepieemaaDoorBuG
import Derived.Test.YtmmmmeeepieemaaDoorMachCheckZ
/- What the reference's MachineEq computes. -/
namespace Go.Proofs.YtmmmmeeepieemaaDoor
open Go.RowKit
set_option linter.unusedVariables false
set_option linter.unusedSimpArgs false
set_option maxHeartbeats 4000000 in
set_option maxRecDepth 100000 in
theorem meq_any (R Q : List ValV) (c k : KeyV) (mem mem' : List ValV) (stk stk' : List FrameV) (out out' : List Int) (ma sa oa ma' sa' oa' : Option Addr) (mc sc oc mc' sc' oc' : Nat) (w : World) (h8 : R.length = 8) (h8' : Q.length = 8)
    (hm : Sl w ma mem.length mem) (hs : Sl w sa stk.length stk) (ho : Sl w oa out.length out) (hm' : Sl w ma' mem'.length mem') (hs' : Sl w sa' stk'.length stk') (ho' : Sl w oa' out'.length out') :
    Calls Tryd.prog 15 #[.agg (mcs R c (.slice ma mem.length mc) (.slice sa stk.length sc) (.slice oa out.length oc)), .agg (mcs Q k (.slice ma' mem'.length mc') (.slice sa' stk'.length sc') (.slice oa' out'.length oc'))] w
      fun e w' => e = .returned (.bool (decide (R = Q ∧ c = k ∧ mem = mem' ∧ stk = stk' ∧ out = out'))) ∧ Below w.heap.size w w' := by
  have hsz := mcs_size (c := c) (ms := .slice ma mem.length mc) (ss := .slice sa stk.length sc) (os := .slice oa out.length oc) h8
  have hrg := mcs_regs (c := c) (ms := .slice ma mem.length mc) (ss := .slice sa stk.length sc) (os := .slice oa out.length oc) h8
  have hhi := mcs_hi (c := c) (ms := .slice ma mem.length mc) (ss := .slice sa stk.length sc) (os := .slice oa out.length oc) h8
  generalize mcs R c (.slice ma mem.length mc) (.slice sa stk.length sc) (.slice oa out.length oc) = cs at *
  have hsz' := mcs_size (c := k) (ms := .slice ma' mem'.length mc') (ss := .slice sa' stk'.length sc') (os := .slice oa' out'.length oc') h8'
  have hrg' := mcs_regs (c := k) (ms := .slice ma' mem'.length mc') (ss := .slice sa' stk'.length sc') (os := .slice oa' out'.length oc') h8'
  have hhi' := mcs_hi (c := k) (ms := .slice ma' mem'.length mc') (ss := .slice sa' stk'.length sc') (os := .slice oa' out'.length oc') h8'
  generalize mcs Q k (.slice ma' mem'.length mc') (.slice sa' stk'.length sc') (.slice oa' out'.length oc') = cs' at *
  obtain ⟨w1, hw1⟩ : ∃ w1, w1 = (w.alloc (.cells cs 38)).alloc (.cells cs' 38) := ⟨_, rfl⟩
  have hB : Bk w1 w.heap.size 38 cs := by rw [hw1]; exact bk_old _ (bk_new _ _ _)
  have hB' : Bk w1 (w.heap.size + 1) 38 cs' := by rw [hw1]; exact bk_new' _ _ (by simp)
  have h1w : Below w.heap.size w w1 := by rw [hw1]; exact ext_alloc (ext_alloc (Below.refl _ _) _) _
  have q56 : ∀ x : Later w1, x.val.cell? ⟨w.heap.size, 56, none⟩ = some (.int .i64 c.perm) := fun x => ((x.bk hB).cell _).trans (hhi 0)
  have p56 : w1.cell? ⟨w.heap.size, 56, none⟩ = some (.int .i64 c.perm) := (hB.cell _).trans (hhi 0)
  have q57 : ∀ x : Later w1, x.val.cell? ⟨w.heap.size, 57, none⟩ = some (.int .i64 c.base) := fun x => ((x.bk hB).cell _).trans (hhi 1)
  have p57 : w1.cell? ⟨w.heap.size, 57, none⟩ = some (.int .i64 c.base) := (hB.cell _).trans (hhi 1)
  have q58 : ∀ x : Later w1, x.val.cell? ⟨w.heap.size, 58, none⟩ = some (.int .i64 c.len) := fun x => ((x.bk hB).cell _).trans (hhi 2)
  have p58 : w1.cell? ⟨w.heap.size, 58, none⟩ = some (.int .i64 c.len) := (hB.cell _).trans (hhi 2)
  have q59 : ∀ x : Later w1, x.val.cell? ⟨w.heap.size, 59, none⟩ = some (.int .i64 c.at_) := fun x => ((x.bk hB).cell _).trans (hhi 3)
  have p59 : w1.cell? ⟨w.heap.size, 59, none⟩ = some (.int .i64 c.at_) := (hB.cell _).trans (hhi 3)
  have q60 : ∀ x : Later w1, x.val.cell? ⟨w.heap.size, 60, none⟩ = some (.int .i64 c.seal_) := fun x => ((x.bk hB).cell _).trans (hhi 4)
  have p60 : w1.cell? ⟨w.heap.size, 60, none⟩ = some (.int .i64 c.seal_) := (hB.cell _).trans (hhi 4)
  have q61 : ∀ x : Later w1, x.val.cell? ⟨w.heap.size, 61, none⟩ = some (.slice ma mem.length mc) := fun x => ((x.bk hB).cell _).trans (hhi 5)
  have p61 : w1.cell? ⟨w.heap.size, 61, none⟩ = some (.slice ma mem.length mc) := (hB.cell _).trans (hhi 5)
  have q62 : ∀ x : Later w1, x.val.cell? ⟨w.heap.size, 62, none⟩ = some (.slice sa stk.length sc) := fun x => ((x.bk hB).cell _).trans (hhi 6)
  have p62 : w1.cell? ⟨w.heap.size, 62, none⟩ = some (.slice sa stk.length sc) := (hB.cell _).trans (hhi 6)
  have q63 : ∀ x : Later w1, x.val.cell? ⟨w.heap.size, 63, none⟩ = some (.slice oa out.length oc) := fun x => ((x.bk hB).cell _).trans (hhi 7)
  have p63 : w1.cell? ⟨w.heap.size, 63, none⟩ = some (.slice oa out.length oc) := (hB.cell _).trans (hhi 7)
  have qL : ∀ x : Later w1, w.heap.size < x.val.heap.size := fun x => x.lt hB.lt
  have q56' : ∀ x : Later w1, x.val.cell? ⟨w.heap.size + 1, 56, none⟩ = some (.int .i64 k.perm) := fun x => ((x.bk hB').cell _).trans (hhi' 0)
  have p56' : w1.cell? ⟨w.heap.size + 1, 56, none⟩ = some (.int .i64 k.perm) := (hB'.cell _).trans (hhi' 0)
  have q57' : ∀ x : Later w1, x.val.cell? ⟨w.heap.size + 1, 57, none⟩ = some (.int .i64 k.base) := fun x => ((x.bk hB').cell _).trans (hhi' 1)
  have p57' : w1.cell? ⟨w.heap.size + 1, 57, none⟩ = some (.int .i64 k.base) := (hB'.cell _).trans (hhi' 1)
  have q58' : ∀ x : Later w1, x.val.cell? ⟨w.heap.size + 1, 58, none⟩ = some (.int .i64 k.len) := fun x => ((x.bk hB').cell _).trans (hhi' 2)
  have p58' : w1.cell? ⟨w.heap.size + 1, 58, none⟩ = some (.int .i64 k.len) := (hB'.cell _).trans (hhi' 2)
  have q59' : ∀ x : Later w1, x.val.cell? ⟨w.heap.size + 1, 59, none⟩ = some (.int .i64 k.at_) := fun x => ((x.bk hB').cell _).trans (hhi' 3)
  have p59' : w1.cell? ⟨w.heap.size + 1, 59, none⟩ = some (.int .i64 k.at_) := (hB'.cell _).trans (hhi' 3)
  have q60' : ∀ x : Later w1, x.val.cell? ⟨w.heap.size + 1, 60, none⟩ = some (.int .i64 k.seal_) := fun x => ((x.bk hB').cell _).trans (hhi' 4)
  have p60' : w1.cell? ⟨w.heap.size + 1, 60, none⟩ = some (.int .i64 k.seal_) := (hB'.cell _).trans (hhi' 4)
  have q61' : ∀ x : Later w1, x.val.cell? ⟨w.heap.size + 1, 61, none⟩ = some (.slice ma' mem'.length mc') := fun x => ((x.bk hB').cell _).trans (hhi' 5)
  have p61' : w1.cell? ⟨w.heap.size + 1, 61, none⟩ = some (.slice ma' mem'.length mc') := (hB'.cell _).trans (hhi' 5)
  have q62' : ∀ x : Later w1, x.val.cell? ⟨w.heap.size + 1, 62, none⟩ = some (.slice sa' stk'.length sc') := fun x => ((x.bk hB').cell _).trans (hhi' 6)
  have p62' : w1.cell? ⟨w.heap.size + 1, 62, none⟩ = some (.slice sa' stk'.length sc') := (hB'.cell _).trans (hhi' 6)
  have q63' : ∀ x : Later w1, x.val.cell? ⟨w.heap.size + 1, 63, none⟩ = some (.slice oa' out'.length oc') := fun x => ((x.bk hB').cell _).trans (hhi' 7)
  have p63' : w1.cell? ⟨w.heap.size + 1, 63, none⟩ = some (.slice oa' out'.length oc') := (hB'.cell _).trans (hhi' 7)
  have qL' : ∀ x : Later w1, w.heap.size + 1 < x.val.heap.size := fun x => x.lt hB'.lt
  have ev := fun W (hb : Below w1.heap.size w1 W) => eq_val ma ma' _ _ mc mc' mem mem' W ((hm.below h1w).below hb) ((hm'.below h1w).below hb)
  have ef := fun W (hb : Below w1.heap.size w1 W) => eq_frame sa sa' _ _ sc sc' stk stk' W ((hs.below h1w).below hb) ((hs'.below h1w).below hb)
  have ei := fun W (hb : Below w1.heap.size w1 W) => eq_int oa oa' _ _ oc oc' out out' W ((ho.below h1w).below hb) ((ho'.below h1w).below hb)
  have qr := fun W => run_eql_regs R Q h8 h8' W
  have qk := fun W => run_eql_key c k W
  simp only [KeyV.val] at qk
  have fin : ∀ x : Later w1, Below w.heap.size w x.val := fun x => ext_trans h1w x.ok
  have HW1 := Lib.hid hw1
  have HSZ := Lib.hid hsz
  have HSZ' := Lib.hid hsz'
  have HRG := Lib.hid hrg
  have HRG' := Lib.hid hrg'
  have HB := Lib.hid hB
  have HB' := Lib.hid hB'
  have H1W := Lib.hid h1w
  have EV := Lib.hid ev
  have EF := Lib.hid ef
  have EI := Lib.hid ei
  have FIN := Lib.hid fin
  clear hsz hrg hhi hB h1w hw1 hm hs ho h8 hsz' hrg' hhi' hB' hm' hs' ho' h8' ev ef ei fin
  by_cases h : R = Q
  · simp only [decide_eq_true h] at qr
    have hR := Lib.hid h
    clear h
    by_cases h : c = k
    · simp only [decide_eq_true h] at qk
      have hc := Lib.hid h
      clear h
      by_cases h : mem = mem'
      · have e2 := EV.out
        simp only [decide_eq_true h] at e2
        have EV := Lib.hid e2
        clear e2
        have hmm := Lib.hid h
        clear h
        by_cases h : stk = stk'
        · have e2 := EF.out
          simp only [decide_eq_true h] at e2
          have EF := Lib.hid e2
          clear e2
          have hss := Lib.hid h
          clear h
          by_cases hoo : out = out'
          · have hfin : decide (R = Q ∧ c = k ∧ mem = mem' ∧ stk = stk' ∧ out = out') = true := decide_eq_true ⟨hR.out, hc.out, hmm.out, hss.out, hoo⟩
            rw [hfin]
            have ei2 := EI.out
            simp only [decide_eq_true hoo] at ei2
            have EI := Lib.hid ei2
            clear ei2 hoo hfin
            go_enter Tryd.func15, Tryd.ntmps15
            go_upto_region 1 with (fail)
            rw [← HW1.out]
            go_wp2_with (first
              | (refine wpList_load_sub rfl 33 (.tmp 5) rfl w.heap.size 0 56 rfl 38 cs _ HB.out Tryd.underlying33 rfl (by kernel_rfl) (by have := HSZ.out; omega) _ HRG.out ?_)
              | (refine wpList_load_sub rfl 33 (.tmp 7) rfl (w.heap.size + 1) 0 56 rfl 38 cs' _ HB'.out Tryd.underlying33 rfl (by kernel_rfl) (by have := HSZ'.out; omega) _ HRG'.out ?_)
              | (go_at_call 20; ((with_reducible refine (EV.out _ (Below.refl _ _)).mono ?_); rintro e w' ⟨rfl, hb⟩; obtain ⟨y1, rfl⟩ := later_call (Below.refl _ _) hb; clear hb))
              | (go_at_call 35; ((with_reducible refine (EF.out _ y1.ok).mono ?_); rintro e w' ⟨rfl, hb⟩; obtain ⟨y2, rfl⟩ := later_call y1.ok hb; clear hb))
              | (go_at_call 36; ((with_reducible refine (EI.out _ y2.ok).mono ?_); rintro e w' ⟨rfl, hb⟩; obtain ⟨y3, rfl⟩ := later_call y2.ok hb; clear hb)))
            go_ret
            exact ⟨rfl, FIN.out y3⟩
          · have hfin : decide (R = Q ∧ c = k ∧ mem = mem' ∧ stk = stk' ∧ out = out') = false := decide_eq_false (fun h => hoo h.2.2.2.2)
            rw [hfin]
            have ei2 := EI.out
            simp only [decide_eq_false hoo] at ei2
            have EI := Lib.hid ei2
            clear ei2 hoo hfin
            go_enter Tryd.func15, Tryd.ntmps15
            go_upto_region 1 with (fail)
            rw [← HW1.out]
            go_wp2_with (first
              | (refine wpList_load_sub rfl 33 (.tmp 5) rfl w.heap.size 0 56 rfl 38 cs _ HB.out Tryd.underlying33 rfl (by kernel_rfl) (by have := HSZ.out; omega) _ HRG.out ?_)
              | (refine wpList_load_sub rfl 33 (.tmp 7) rfl (w.heap.size + 1) 0 56 rfl 38 cs' _ HB'.out Tryd.underlying33 rfl (by kernel_rfl) (by have := HSZ'.out; omega) _ HRG'.out ?_)
              | (go_at_call 20; ((with_reducible refine (EV.out _ (Below.refl _ _)).mono ?_); rintro e w' ⟨rfl, hb⟩; obtain ⟨y1, rfl⟩ := later_call (Below.refl _ _) hb; clear hb))
              | (go_at_call 35; ((with_reducible refine (EF.out _ y1.ok).mono ?_); rintro e w' ⟨rfl, hb⟩; obtain ⟨y2, rfl⟩ := later_call y1.ok hb; clear hb))
              | (go_at_call 36; ((with_reducible refine (EI.out _ y2.ok).mono ?_); rintro e w' ⟨rfl, hb⟩; obtain ⟨y3, rfl⟩ := later_call y2.ok hb; clear hb)))
            go_ret
            exact ⟨rfl, FIN.out y3⟩
        · have e2 := EF.out
          simp only [decide_eq_false h] at e2
          have EF := Lib.hid e2
          clear e2
          have hfin : decide (R = Q ∧ c = k ∧ mem = mem' ∧ stk = stk' ∧ out = out') = false := decide_eq_false (fun e => h e.2.2.2.1)
          rw [hfin]
          clear h hfin
          go_enter Tryd.func15, Tryd.ntmps15
          go_upto_region 1 with (fail)
          rw [← HW1.out]
          go_wp2_with (first
            | (refine wpList_load_sub rfl 33 (.tmp 5) rfl w.heap.size 0 56 rfl 38 cs _ HB.out Tryd.underlying33 rfl (by kernel_rfl) (by have := HSZ.out; omega) _ HRG.out ?_)
            | (refine wpList_load_sub rfl 33 (.tmp 7) rfl (w.heap.size + 1) 0 56 rfl 38 cs' _ HB'.out Tryd.underlying33 rfl (by kernel_rfl) (by have := HSZ'.out; omega) _ HRG'.out ?_)
            | (go_at_call 20; ((with_reducible refine (EV.out _ (Below.refl _ _)).mono ?_); rintro e w' ⟨rfl, hb⟩; obtain ⟨y1, rfl⟩ := later_call (Below.refl _ _) hb; clear hb))
            | (go_at_call 35; ((with_reducible refine (EF.out _ y1.ok).mono ?_); rintro e w' ⟨rfl, hb⟩; obtain ⟨y2, rfl⟩ := later_call y1.ok hb; clear hb)))
          go_ret
          exact ⟨rfl, FIN.out y2⟩
      · have e2 := EV.out
        simp only [decide_eq_false h] at e2
        have EV := Lib.hid e2
        clear e2
        have hfin : decide (R = Q ∧ c = k ∧ mem = mem' ∧ stk = stk' ∧ out = out') = false := decide_eq_false (fun e => h e.2.2.1)
        rw [hfin]
        clear h hfin
        go_enter Tryd.func15, Tryd.ntmps15
        go_upto_region 1 with (fail)
        rw [← HW1.out]
        go_wp2_with (first
          | (refine wpList_load_sub rfl 33 (.tmp 5) rfl w.heap.size 0 56 rfl 38 cs _ HB.out Tryd.underlying33 rfl (by kernel_rfl) (by have := HSZ.out; omega) _ HRG.out ?_)
          | (refine wpList_load_sub rfl 33 (.tmp 7) rfl (w.heap.size + 1) 0 56 rfl 38 cs' _ HB'.out Tryd.underlying33 rfl (by kernel_rfl) (by have := HSZ'.out; omega) _ HRG'.out ?_)
          | (go_at_call 20; ((with_reducible refine (EV.out _ (Below.refl _ _)).mono ?_); rintro e w' ⟨rfl, hb⟩; obtain ⟨y1, rfl⟩ := later_call (Below.refl _ _) hb; clear hb)))
        go_ret
        exact ⟨rfl, FIN.out y1⟩
    · simp only [decide_eq_false h] at qk
      have hfin : decide (R = Q ∧ c = k ∧ mem = mem' ∧ stk = stk' ∧ out = out') = false := decide_eq_false (fun e => h e.2.1)
      rw [hfin]
      clear h hfin
      go_enter Tryd.func15, Tryd.ntmps15
      go_upto_region 1 with (fail)
      rw [← HW1.out]
      go_wp2_with (first
        | (refine wpList_load_sub rfl 33 (.tmp 5) rfl w.heap.size 0 56 rfl 38 cs _ HB.out Tryd.underlying33 rfl (by kernel_rfl) (by have := HSZ.out; omega) _ HRG.out ?_)
        | (refine wpList_load_sub rfl 33 (.tmp 7) rfl (w.heap.size + 1) 0 56 rfl 38 cs' _ HB'.out Tryd.underlying33 rfl (by kernel_rfl) (by have := HSZ'.out; omega) _ HRG'.out ?_))
      go_ret
      exact ⟨rfl, H1W.out⟩
  · simp only [decide_eq_false h] at qr
    have hfin : decide (R = Q ∧ c = k ∧ mem = mem' ∧ stk = stk' ∧ out = out') = false := decide_eq_false (fun e => h e.1)
    rw [hfin]
    clear h hfin
    go_enter Tryd.func15, Tryd.ntmps15
    go_upto_region 1 with (fail)
    rw [← HW1.out]
    go_wp2_with (first
      | (refine wpList_load_sub rfl 33 (.tmp 5) rfl w.heap.size 0 56 rfl 38 cs _ HB.out Tryd.underlying33 rfl (by kernel_rfl) (by have := HSZ.out; omega) _ HRG.out ?_)
      | (refine wpList_load_sub rfl 33 (.tmp 7) rfl (w.heap.size + 1) 0 56 rfl 38 cs' _ HB'.out Tryd.underlying33 rfl (by kernel_rfl) (by have := HSZ'.out; omega) _ HRG'.out ?_))
    go_ret
    exact ⟨rfl, H1W.out⟩
end Go.Proofs.YtmmmmeeepieemaaDoor
