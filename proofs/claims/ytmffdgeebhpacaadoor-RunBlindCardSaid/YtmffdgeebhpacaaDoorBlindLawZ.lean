import Derived.Test.YtmffdgeebhpacaaDoorBuV
import Derived.Test.YtmffdgeebhpacaaDoorOther2Z
/- What RunBlind rests on: the law, a run of a machine that was made, who may look at a bad machine. -/
namespace Go.Proofs.YtmffdgeebhpacaaDoor
open Go.RowKit
set_option linter.unusedVariables false
set_option linter.unusedSimpArgs false
def rngB (n : Int) : Bool := decide (-2147483648 ≤ n) && decide (n ≤ 2147483647)
def rngs (l : List Int) : Bool := l.all rngB
theorem rngs_iff {l : List Int} : rngs l = true ↔ ∀ n ∈ l, -2147483648 ≤ n ∧ n ≤ 2147483647 := by
  unfold rngs rngB
  simp [List.all_eq_true]
theorem rngs_take {l : List Int} {j : Nat} {x : Int} (hx : l[j]? = some x) : rngs (l.take (j + 1)) = (rngs (l.take j) && rngB x) := by
  unfold rngs
  rw [List.take_add_one, hx, List.all_append]
  simp
theorem rngs_prefix {l : List Int} (h : rngs l = true) (j : Nat) : rngs (l.take j) = true := rngs_iff.2 fun n hn => rngs_iff.1 h n (List.mem_of_mem_take hn)
theorem blind_ok {m : MV} (h : m.Ok) {l vals : List Int} (hv : rngs vals = true) : (m.mm (blindM l vals m.mem)).Ok := by
  obtain ⟨h1, h8⟩ := h
  refine ⟨⟨h1.regs, h1.code, ?_, ?_, h1.deep, h1.stk, h1.told, h1.out⟩, h8⟩
  · show (blindM l vals m.mem).length ≤ 400
    rw [blind_len]; exact h1.len
  · intro v hv'
    obtain ⟨j, hj⟩ := List.getElem?_of_mem (show v ∈ blindM l vals m.mem from hv')
    have hlt : j < m.mem.length := by rw [← blind_len l vals m.mem]; exact (List.getElem?_eq_some_iff.1 hj).1
    have hx : m.mem[j]? = some m.mem[j] := List.getElem?_eq_getElem hlt
    rw [blind_at hx] at hj
    obtain rfl := Option.some.inj hj
    by_cases hc : (j : Int) ∈ l ∨ vals = []
    · rw [if_pos hc]; exact h1.mem _ (List.getElem_mem hlt)
    · rw [if_neg hc]
      have hne : vals ≠ [] := fun e => hc (.inr e)
      have hlen : j % vals.length < vals.length := Nat.mod_lt _ (List.length_pos_iff.2 hne)
      have hm : vals.getD (j % vals.length) 0 ∈ vals := by
        rw [List.getD_eq_getElem?_getD, List.getElem?_eq_getElem hlen]
        exact List.getElem_mem hlen
      have := rngs_iff.1 hv _ hm
      exact .inr ⟨rfl, this.1, this.2, rfl⟩
theorem blind_law {m : MV} (vals : List Int) (f : Nat) {l : List Int} (hl : m.hits true 1 ++ m.hits true 4 = l) :
    ∃ y, (m.mm (blindM l vals m.mem)).run f = ((m.run f).1.mm y, (m.run f).2.1, (m.run f).2.2) ∧ y.length = m.mem.length ∧ (m.run f).1.mem.length = m.mem.length ∧ ∀ a ∈ l, 0 ≤ a ∧ a < m.mem.length ∧ y[a.toNat]? = (m.run f).1.mem[a.toNat]? := by
  have hin : ∀ j : Nat, j < m.mem.length → vis (allK m) j → (j : Int) ∈ l := fun j hj hv => by
    rw [← hl, List.mem_append]
    rcases hv with ⟨g, g1, g2, g3⟩ | ⟨g, g1, g2, g3⟩
    · exact .inl (mem_hit.2 ⟨by omega, g, g1, rfl, g2, g3⟩)
    · exact .inr (mem_hit.2 ⟨by omega, g, g1, rfl, g2, g3⟩)
  have hout : ∀ a ∈ l, 0 ≤ a ∧ a < m.mem.length ∧ vis (allK m) a.toNat := fun a ha => by
    rw [← hl, List.mem_append] at ha
    rcases ha with h | h
    · obtain ⟨h1, g, g1, _, g2, g3⟩ := mem_hit.1 h
      refine ⟨h1.1, h1.2, .inl ⟨g, g1, g2, ?_⟩⟩
      rw [show ((a.toNat : Nat) : Int) = a by omega]; exact g3
    · obtain ⟨h1, g, g1, _, g2, g3⟩ := mem_hit.1 h
      refine ⟨h1.1, h1.2, .inr ⟨g, g1, g2, ?_⟩⟩
      rw [show ((a.toNat : Nat) : Int) = a by omega]; exact g3
  obtain ⟨y, y1, y2, _⟩ := run_alike (G := allK m) (V := vis (allK m)) (fun _ h => h) (allK_whole m) f m (blindM l vals m.mem) (allK_safe m) ⟨blind_len _ _ _, fun j hj => by
    by_cases hlt : j < m.mem.length
    · have hx : m.mem[j]? = some m.mem[j] := List.getElem?_eq_getElem hlt
      rw [List.getD_eq_getElem?_getD, List.getD_eq_getElem?_getD, blind_at hx, if_pos (.inl (hin j hlt hj)), hx]
    · rw [List.getD_eq_getElem?_getD, List.getD_eq_getElem?_getD, List.getElem?_eq_none (by rw [blind_len]; omega), List.getElem?_eq_none (by omega)]⟩
  obtain ⟨g1, _⟩ := guards_law m f
  refine ⟨y, y1, by rw [y2.len, g1], g1, fun a ha => ?_⟩
  obtain ⟨a0, a1, hv⟩ := hout a ha
  refine ⟨a0, a1, ?_⟩
  have e := y2.eq _ hv
  have p1 : a.toNat < y.length := by rw [y2.len, g1]; omega
  have p2 : a.toNat < (m.run f).1.mem.length := by rw [g1]; omega
  rw [List.getD_eq_getElem?_getD, List.getD_eq_getElem?_getD, List.getElem?_eq_getElem p1, List.getElem?_eq_getElem p2] at e
  rw [List.getElem?_eq_getElem p1, List.getElem?_eq_getElem p2]
  exact congrArg some e
theorem run_mo {base : Nat} {m : MV} {cs : Array Value} {W : World} (h : MOwn base m cs W) (ht : Tab W) (f : Int) {X : MV} {n er : Int} (hr : runF m f = (X, n, er)) :
    Calls Tryd.prog 15 #[.agg cs, .int .i64 f] W fun e w' => ∃ cs', e = .returned (.tuple #[.agg cs', .int .i64 n, .int .i64 er]) ∧ MBox w'.heap.size X cs' (w'.alloc (.cells cs' 31)) ∧ Below W.heap.size W w' := by
  obtain ⟨vm, vs, vo, rfl, h1, h2, h3⟩ := h.own
  obtain ⟨ma, mc, rfl, k1, _⟩ := h1.sl
  obtain ⟨sa, sc, rfl, k2, _⟩ := h2.sl
  obtain ⟨oa, oc, rfl, k3, _⟩ := h3.sl
  have hX : X.R.length = 8 := by have := runF_h8 h.h8 f; rw [hr] at this; exact this
  have := run_any m ma sa oa mc sc oc f W h.h8 k1 k2 k3 ht
  rw [hr] at this
  refine this.mono ?_
  rintro e w' ⟨vm, vs, vo, rfl, om, os, oo, hb⟩
  exact ⟨_, rfl, mbox_new hX om os oo, hb⟩
set_option maxHeartbeats 4000000 in
set_option maxRecDepth 100000 in
theorem seen_bad {g : Nat} {m : MV} {cs : Array Value} {W : World} (h : MBox g m cs W) {ec : Int} (hec : m.check = ec) (hne : ec ≠ 0) :
    Calls Tryd.prog 28 #[.agg cs] W fun e w' => ∃ ao n k, e = .returned (.tuple #[.slice ao n k, .bool false]) ∧ Below W.heap.size W w' := by
  have hb := h.arg
  obtain ⟨w1, hw1⟩ : ∃ w1, w1 = W.alloc (.cells cs 31) := ⟨_, rfl⟩
  have h1w : Below W.heap.size W w1 := by rw [hw1]; exact ext_alloc (Below.refl _ _) _
  rw [← hw1] at hb
  have hc := fun p W' (hb' : Below w1.heap.size w1 W') => cells_boxb (hb.below hb') true p hec hne
  have b1 : (ec == 0) = false := by simpa using hne
  obtain ⟨i0, hi, hz0, hz1, hz2⟩ := info_parts info_intR
  have HC := Lib.hid hc
  have MX := Lib.hid hb
  have HW1 := Lib.hid hw1
  have H1W := Lib.hid h1w
  clear h hc hb hw1 h1w hec hne
  go_enter Tryd.func28, Tryd.ntmps28
  go_upto_region 1 with (fail)
  rw [← HW1.out]
  go_upto_region 2 with (first
    | (refine wpList_load_sub rfl 31 (.tmp 1) rfl W.heap.size 0 64 rfl 31 _ _ MX.out.bk Tryd.underlying31 rfl (by kernel_rfl) MX.out.size _ MX.out.all ?_)
    | (go_at_call 21; ((with_reducible refine (HC.out _ _ (Below.refl _ _)).mono ?_); rintro e u1 ⟨rfl, hb⟩; have HB1 := Lib.hid hb; clear hb)))
  go_upto_region 3 with (first
    | (refine wpList_load_sub rfl 31 (.tmp 1) rfl W.heap.size 0 64 rfl 31 _ _ (MX.out.below HB1.out).bk Tryd.underlying31 rfl (by kernel_rfl) MX.out.size _ MX.out.all ?_)
    | (go_at_call 21; ((with_reducible refine (HC.out _ _ HB1.out).mono ?_); rintro e u2 ⟨rfl, hb⟩; have HB2 := Lib.hid hb; clear hb)))
  have hbs : w1.heap.size ≤ u2.heap.size := (ext_trans HB1.out HB2.out).size
  have HBS := Lib.hid hbs
  clear hbs
  have O1 := Lib.hid (Own.nil (α := Int) u2 w1.heap.size 3)
  have S2 := Lib.hid (Sl.nil (α := Int) u2 none)
  have HM1 : ([] : List Int).length + ([] : List Int).length ≤ maxLen := by decide
  have HM2 : (([] : List Int).length + ([] : List Int).length) * 8 ≤ 140737488355328 := by decide
  go_wp2_with (at_builtin; go_loud (refine wpList_append_sl rfl (.tmp 18) (.tmp 19) 29 rfl w1.heap.size 3 i0 _ 8 Tryd.underlying29 hi hz0 hz1 hz2 rfl _ [] rfl O1.out none 0 0 [] rfl S2.out HM1 HM2 HBS.out ?_); intro v3 w3 ho3 hg3 hsm; have HO3 := Lib.hid ho3; have HG3 := Lib.hid hg3; have HSM := Lib.hid hsm; clear ho3 hg3 hsm; go_frame)
  go_ret2
  obtain ⟨a3, k3, rfl, _, _⟩ := HO3.out.sl
  have hb12 := ext_trans H1W.out (ext_trans HB1.out HB2.out)
  refine ⟨a3, _, k3, rfl, hb12.grown HG3.out hb12.size (fun k e => by cases e)⟩
end Go.Proofs.YtmffdgeebhpacaaDoor
