import Derived.Deep.RegionHeld3
import Derived.Lib.ItoaLen
import Derived.Test.YtpjhjefjbkjhkaaGreatDoorPk03
import Derived.Laws.IdiomStrings
set_option maxHeartbeats 40000000
set_option maxRecDepth 100000
set_option linter.unusedVariables false
set_option linter.unusedSimpArgs false
namespace Go.Proofs.YtpjhjefjbkjhkaaGreatDoor
open Go.RowKit
def Tab10 (w : World) : Prop := Lib.TabIs Tryz.prog w "internal/strconv.uint64pow10" .u64 Lib.pow10Tab
theorem tabIs_below {n : String} {k : IntKind} {zs : List Int} {w w' : World} (h : Lib.TabIs Tryz.prog w n k zs) (hb : Below w.heap.size w w') : Lib.TabIs Tryz.prog w' n k zs := by
 unfold Lib.TabIs at h ⊢
 unfold World.var? at h ⊢
 cases hg : Tryz.prog.globalNamed n with
 | none => rw [hg] at h; cases h
 | some g =>
  rw [hg] at h
  simp only [Option.bind_some] at h ⊢
  have hlt : g < w.heap.size := by
   rcases Nat.lt_or_ge g w.heap.size with hlt | hge
   ·exact hlt
   ·rw [Array.getElem?_eq_none hge] at h; cases h
  rw [hb.block g hlt]
  exact h
theorem Tab10.below {w w' : World} (h : Tab10 w) (hb : Below w.heap.size w w') : Tab10 w' := tabIs_below h hb
theorem below_grow (w : World) (k : Nat) (os : Array Obj) : Below w.heap.size w (Go.Sort.grow (w.drewN k) os) :=
 ⟨rfl, rfl, rfl, by simp [Go.Sort.grow, World.drewN], fun i hi => by simp [Go.Sort.grow, World.drewN, Array.getElem?_append_left hi]⟩
theorem itoa_any (n : Int) (hn : I64 n) (w : World) (ht : Tab10 w) : Calls Tryz.prog 108 #[.int .i64 n] w fun e w' => e = .returned (.string ⟨(Lib.itoa n).toArray⟩) ∧ Below w.heap.size w w' :=
 (Tryz.strconv_Itoa n hn.1 hn.2 w ht).mono fun e w' ⟨he, k, os, hw⟩ => ⟨he, by rw [hw]; exact below_grow w k os⟩
def sufL (n : Int) (has ir : Bool) : List UInt8 := if has then (if ir then 32 :: 114 :: Lib.itoa n else 32 :: Lib.itoa n) else []
theorem str_add (x y : ByteArray) (h : x.size + y.size ≤ 9223372036854775807) : Op.stringOp .add x y = pure (.string (x ++ y)) := by
 have e : IntKind.i64.max = 9223372036854775807 := by decide
 unfold Op.stringOp
 simp only [e]
 rw [if_neg (by omega)]
theorem tadd_any (n : Int) (hn : I64 n) (has ir : Bool) (g : Nat) (s : ByteArray) (w : World) (hs : s.size ≤ 1000) (hB : Bk w g 9 #[.string s]) (ht : Tab10 w) : Calls Tryz.prog 185 #[.int .i64 n, .bool has, .bool ir, .pointer (some ⟨g, 0, none⟩)] w fun e w' => e = .returned (.tuple #[]) ∧ Below g w w' ∧ Bk w' g 9 #[.string (s ++ ⟨(sufL n has ir).toArray⟩)] := by
 have q0 : ∀ x : Later w, x.val.cell? ⟨g, 0, none⟩ = some (.string s) := fun x => (x.bk hB).cell 0
 have qL : ∀ x : Later w, g < x.val.heap.size := fun x => x.lt hB.lt
 have qF : ∀ (x : Later w) i, x.val.frozen? ⟨g, i, none⟩ = false := fun x i => (x.bk hB).frozen i
 have r0 : w.cell? ⟨g, 0, none⟩ = some (.string s) := hB.cell 0
 have rL := hB.lt
 have rF := fun i => Bk.frozen hB i
 have IT := Lib.hid (fun x : Later w => itoa_any n hn x.val (ht.below x.ok))
 obtain ⟨xd, hxd⟩ : ∃ xd : Later w, w.drew = xd.val := ⟨⟨_, ext_drew (Below.refl _ _)⟩, rfl⟩
 have HXD := Lib.hid hxd
 have HB := Lib.hid hB
 have li := Lib.itoa_length_le n hn.1 hn.2
 have e1 : (⟨#[32]⟩ : ByteArray) ++ ⟨(Lib.itoa n).toArray⟩ = ⟨(32 :: Lib.itoa n).toArray⟩ := ByteArray.ext (by simp)
 have e2 : (⟨#[32, 114]⟩ : ByteArray) ++ ⟨(Lib.itoa n).toArray⟩ = ⟨(32 :: 114 :: Lib.itoa n).toArray⟩ := ByteArray.ext (by simp)
 have z1 : (⟨(32 :: Lib.itoa n).toArray⟩ : ByteArray).size = (Lib.itoa n).length + 1 := by simp [ByteArray.size]
 have z2 : (⟨(32 :: 114 :: Lib.itoa n).toArray⟩ : ByteArray).size = (Lib.itoa n).length + 2 := by simp [ByteArray.size]
 have z0 : (⟨(Lib.itoa n).toArray⟩ : ByteArray).size = (Lib.itoa n).length := by simp [ByteArray.size]
 have y1 : (⟨#[32]⟩ : ByteArray).size = 1 := rfl
 have y2 : (⟨#[32, 114]⟩ : ByteArray).size = 2 := rfl
 have u1 : Op.stringOp .add ⟨#[32]⟩ ⟨(Lib.itoa n).toArray⟩ = pure (.string ⟨(32 :: Lib.itoa n).toArray⟩) := by rw [← e1]; exact str_add _ _ (by omega)
 have u2 : Op.stringOp .add ⟨#[32, 114]⟩ ⟨(Lib.itoa n).toArray⟩ = pure (.string ⟨(32 :: 114 :: Lib.itoa n).toArray⟩) := by rw [← e2]; exact str_add _ _ (by omega)
 have v1 : Op.stringOp .add s ⟨(32 :: Lib.itoa n).toArray⟩ = pure (.string (s ++ ⟨(32 :: Lib.itoa n).toArray⟩)) := str_add _ _ (by omega)
 have v2 : Op.stringOp .add s ⟨(32 :: 114 :: Lib.itoa n).toArray⟩ = pure (.string (s ++ ⟨(32 :: 114 :: Lib.itoa n).toArray⟩)) := str_add _ _ (by omega)
 clear e1 e2 z1 z2 z0 y1 y2 li
 clear hB ht hxd
 cases has
 ·go_enter Tryz.func185, Tryz.ntmps185
  go_wp2
  refine bodyPost_end (results_none rfl _ _ _) rfl ?_
  refine ⟨rfl, Below.refl _ _, ?_⟩
  have e : s ++ (⟨(sufL n false ir).toArray⟩ : ByteArray) = s := by unfold sufL; exact ByteArray.ext (by simp)
  rw [e]
  exact HB.out
 ·cases ir
  ·go_enter Tryz.func185, Tryz.ntmps185
   go_upto_region 3 with (fail)
   go_region_with (go_at_call 108; (rw [HXD.out]; (with_reducible refine (IT.out xd).mono ?_); rintro e w' ⟨rfl, hb⟩; obtain ⟨y, rfl⟩ := later_call xd.ok hb; clear hb))
   all_goals go_wp2_with fail
   all_goals
    refine bodyPost_end (results_none rfl _ _ _) rfl ?_
    exact ⟨rfl, (y.ok.mono (Nat.le_of_lt HB.out.lt)).setCell (Nat.le_refl _) _, bk_set 0 _ (y.bk HB.out)⟩
  ·go_enter Tryz.func185, Tryz.ntmps185
   go_upto_region 1 with (fail)
   go_region_with (go_at_call 108; (rw [HXD.out]; (with_reducible refine (IT.out xd).mono ?_); rintro e w' ⟨rfl, hb⟩; obtain ⟨y, rfl⟩ := later_call xd.ok hb; clear hb))
   all_goals go_wp2_with fail
   all_goals
    refine bodyPost_end (results_none rfl _ _ _) rfl ?_
    exact ⟨rfl, (y.ok.mono (Nat.le_of_lt HB.out.lt)).setCell (Nat.le_refl _) _, bk_set 0 _ (y.bk HB.out)⟩
end Go.Proofs.YtpjhjefjbkjhkaaGreatDoor
namespace Go.Proofs.YtpjhjefjbkjhkaaGreatDoor
open Go Go.RowKit
def digC (n : Nat) : List UInt8 := [UInt8.ofNat (48 + n % 10)]
theorem dec_step {u : Nat} (h : 10 ≤ u) : Lib.decDigits u = Lib.decDigits (u / 10) ++ digC u := by
 rw [Lib.decDigits, dif_neg (by omega)]
 rfl
theorem dec_small {u : Nat} (h : u < 10) : Lib.decDigits u = digC u := by
 rw [Lib.decDigits_one h]
 unfold digC
 rw [Nat.mod_eq_of_lt h]
def digs (m : Nat) : List UInt8 := if m = 0 then [] else Lib.decDigits m
theorem digs_step {m : Nat} (h : m ≠ 0) : digs m = digs (m / 10) ++ digC m := by
 unfold digs
 rw [if_neg h]
 by_cases h1 : m < 10
 ·rw [dec_small h1, if_pos (by omega)]; rfl
 ·rw [dec_step (by omega), if_neg (by omega)]
theorem dec_len : ∀ u : Nat, (Lib.decDigits u).length ≤ u + 1 := by
 intro u
 induction u using Nat.strongRecOn with
 | _ u ih =>
  by_cases h : u < 10
  ·rw [dec_small h]; simp [digC]
  ·rw [dec_step (by omega), List.length_append]
   have := ih (u / 10) (by omega)
   simp [digC]; omega
theorem ba_lenD (l : List UInt8) : (⟨l.toArray⟩ : ByteArray).size = l.length := by simp [ByteArray.size]
theorem ba_lenD2 (c : UInt8) : (⟨#[c]⟩ : ByteArray).size = 1 := rfl
theorem chr_any (c : UInt8) (w : World) : Calls Tryz.prog 47 #[.int .i64 (c.toNat : Int)] w fun e w' => e = .returned (.string ⟨#[c]⟩) ∧ Below w.heap.size w w' := by
 obtain ⟨w1, hw1⟩ : ∃ w1, w1 = w.alloc (.cells #[.int .u8 (c.toNat : Int)] 5) := ⟨_, rfl⟩
 have hb : Below w.heap.size w w1 := by rw [hw1]; exact ext_alloc (Below.refl _ _) _
 have b1 : Bk w1 w.heap.size 5 #[.int .u8 (c.toNat : Int)] := by rw [hw1]; exact bk_new _ _ _
 have hc := run_convert_bytes_back (P := Tryz.prog) w1 91 9 5 ⟨w.heap.size, 0, none⟩ 1 [c] Tryz.underlying91 Tryz.underlying5 Tryz.underlying9 (fun j hj => by
  have hj0 : j = 0 := by simpa using hj
  subst hj0
  exact b1.cell 0)
 have hlt := c.toNat_lt
 obtain ⟨n, hn⟩ : ∃ n, c.toNat = n := ⟨_, rfl⟩
 rw [hn] at hw1 hlt ⊢
 have q : (n : Int) % 256 = n := by omega
 rw [hw1] at hc
 simp only [List.length_singleton] at hc
 rw [hw1] at hb
 have HB := Lib.hid hb
 clear hb b1 hw1 hn
 go_enter Tryz.func47, Tryz.ntmps47
 go_wp2
 go_ret
 exact ⟨rfl, HB.out⟩
theorem digits_pos : ∀ (u : Nat), u ≤ 9223372036854775807 → ∀ w : World, Calls Tryz.prog 13 #[.int .i64 (u : Int)] w fun e w' => e = .returned (.string ⟨(Lib.decDigits u).toArray⟩) ∧ Below w.heap.size w w' := by
 intro u
 induction u using Nat.strongRecOn with
 | _ u ih =>
  intro hu w
  have q0 : ¬ ((u : Int) < 0) := by omega
  by_cases h : u < 10
  ·have q1 : (u : Int) < 10 := by omega
   obtain ⟨c, hc⟩ : ∃ c : UInt8, UInt8.ofNat (48 + u) = c := ⟨_, rfl⟩
   have e0 : (c.toNat : Int) = 48 + (u : Int) := by rw [← hc]; simp; omega
   have ch := chr_any c w
   rw [e0] at ch
   have e1 : (⟨(Lib.decDigits u).toArray⟩ : ByteArray) = ⟨#[c]⟩ := by rw [Lib.decDigits_one h, hc]
   rw [e1]
   have CH := Lib.hid ch
   clear ch e0 e1 hc ih
   go_enter Tryz.func13, Tryz.ntmps13
   go_wp2_with (go_at_call 47; ((with_reducible refine CH.out.mono ?_); rintro e w1 ⟨rfl, hb1⟩; have HB1 := Lib.hid hb1; clear hb1))
   go_ret
   exact ⟨rfl, HB1.out⟩
  ·have q1 : ¬ ((u : Int) < 10) := by omega
   have dg := fun W => ih (u / 10) (by omega) (by omega) W
   obtain ⟨c, hc⟩ : ∃ c : UInt8, UInt8.ofNat (48 + u % 10) = c := ⟨_, rfl⟩
   have e0 : (c.toNat : Int) = 48 + (u : Int) % 10 := by rw [← hc]; simp; omega
   have ch := fun W => chr_any c W
   have e2 : ((u / 10 : Nat) : Int) = (u : Int) / 10 := by omega
   simp only [e0, e2] at ch dg
   have hl := dec_len (u / 10)
   have t0 : u / 10 + 2 ≤ 9223372036854775807 := by omega
   have t1 : Int.tdiv (u : Int) 10 = (u : Int) / 10 := Int.tdiv_eq_ediv_of_nonneg (by omega)
   have t2 : Int.tmod (u : Int) 10 = (u : Int) % 10 := Int.tmod_eq_emod_of_nonneg (by omega)
   have hsz : (⟨(Lib.decDigits (u / 10)).toArray⟩ : ByteArray).size + (⟨#[c]⟩ : ByteArray).size ≤ 9223372036854775807 := by
    rw [ba_lenD, ba_lenD2]; clear t1 t2 dg ch e0; omega
   have e1 : (⟨(Lib.decDigits u).toArray⟩ : ByteArray) = ⟨(Lib.decDigits (u / 10)).toArray⟩ ++ ⟨#[c]⟩ := by
    rw [dec_step (by omega), digC, hc]
    exact ByteArray.ext (by simp)
   have hadd : Op.stringOp .add ⟨(Lib.decDigits (u / 10)).toArray⟩ ⟨#[c]⟩ = pure (.string ⟨(Lib.decDigits u).toArray⟩) := by
    rw [e1]
    exact str_add _ _ hsz
   clear hsz
   have DG := Lib.hid dg
   have CH := Lib.hid ch
   clear dg ch e0 e1 e2 ih hl hc t0
   go_enter Tryz.func13, Tryz.ntmps13
   go_wp2_with (first
    | (go_at_call 13; ((with_reducible refine (DG.out _).mono ?_); rintro e w1 ⟨rfl, hb1⟩; have HB1 := Lib.hid hb1; clear hb1))
    | (go_at_call 47; ((with_reducible refine (CH.out _).mono ?_); rintro e w2 ⟨rfl, hb2⟩; have HB2 := Lib.hid (ext_trans HB1.out hb2); clear hb2)))
   go_ret
   exact ⟨rfl, HB2.out⟩
theorem digits_neg (u : Nat) (h0 : u ≠ 0) (hu : u ≤ 9223372036854775808) (w : World) : Calls Tryz.prog 13 #[.int .i64 (-(u : Int))] w fun e w' => e = .returned (.string ⟨(45 :: Lib.decDigits u).toArray⟩) ∧ Below w.heap.size w w' := by
 have q0 : -(u : Int) < 0 := by omega
 have qu : 0 < u := by omega
 have hlu : (Lib.decDigits u).length ≤ 20 := by
  have h := Lib.itoa_length_le (-(u : Int)) (by omega) (by omega)
  unfold Lib.itoa at h
  rw [if_pos q0, Int.natAbs_neg, Int.natAbs_natCast, List.length_cons] at h
  omega
 have HLU := Lib.hid hlu
 clear hlu
 go_enter Tryz.func13, Tryz.ntmps13
 go_wp2
 go_loopw [0, 3] (fun n s wr => ∃ (m : Nat) (l : List UInt8), m ≤ u ∧ n = .int .i64 (-(m : Int)) ∧ s = .string ⟨l.toArray⟩ ∧ digs m ++ l = Lib.decDigits u ∧ Below w.heap.size w wr) (fun n _ _ => (-(intOf n)).toNat)
 case atStart => exact ⟨u, [], Nat.le_refl _, rfl, rfl, by unfold digs; rw [if_neg h0]; simp, Below.refl _ _⟩
 case round =>
  obtain ⟨m, l, hm, rfl, rfl, hd, hb⟩ := hrel
  have HB := Lib.hid hb
  have HD := Lib.hid hd
  have hll : l.length ≤ 20 := by have := congrArg List.length hd; rw [List.length_append] at this; have := HLU.out; omega
  clear hb hd
  by_cases hz : m = 0
  ·subst hz
   have hd := HD.out
   have e : l = Lib.decDigits u := by rw [← hd]; rfl
   have q1 : ¬ (-((0 : Nat) : Int) < 0) := by omega
   have hadd : Op.stringOp .add ⟨#[45]⟩ ⟨l.toArray⟩ = pure (.string ⟨(45 :: l).toArray⟩) := by
    rw [show (⟨(45 :: l).toArray⟩ : ByteArray) = ⟨#[45]⟩ ++ ⟨l.toArray⟩ from ByteArray.ext (by simp)]
    refine str_add _ _ ?_
    simp only [ba_lenD, ba_lenD2, List.length_singleton]; omega
   have EE := Lib.hid e
   clear e hd
   go_wp2
   go_ret
   exact ⟨by rw [EE.out]; rfl, HB.out⟩
  ·have q1 : -(m : Int) < 0 := by omega
   have q2 : 0 < m := by omega
   have t1 : Int.tdiv (-(m : Int)) 10 = -((m / 10 : Nat) : Int) := by
    rw [Int.neg_tdiv, Int.tdiv_eq_ediv_of_nonneg (by omega)]; omega
   have t2 : Int.tmod (-(m : Int)) 10 = -((m % 10 : Nat) : Int) := by
    rw [Int.neg_tmod, Int.tmod_eq_emod_of_nonneg (by omega)]; omega
   obtain ⟨c, hp⟩ : ∃ c : UInt8, UInt8.ofNat (48 + m % 10) = c := ⟨_, rfl⟩
   have e0 : (c.toNat : Int) = 48 + (m : Int) % 10 := by rw [← hp]; simp; omega
   have ch := fun W => chr_any c W
   rw [e0] at ch
   have hadd : Op.stringOp .add ⟨#[c]⟩ ⟨l.toArray⟩ = pure (.string ⟨(c :: l).toArray⟩) := by
    rw [show (⟨(c :: l).toArray⟩ : ByteArray) = ⟨#[c]⟩ ++ ⟨l.toArray⟩ from ByteArray.ext (by simp)]
    refine str_add _ _ ?_
    simp only [ba_lenD, ba_lenD2, List.length_singleton]; omega
   have hn : digs (m / 10) ++ (c :: l) = Lib.decDigits u := by
    have := HD.out
    rw [digs_step hz, List.append_assoc] at this
    rw [← this, digC, hp]; rfl
   have HN := Lib.hid hn
   have CH := Lib.hid ch
   clear hn ch hp
   go_wp2_with (go_at_call 47; ((with_reducible refine (CH.out _).mono ?_); rintro e w1 ⟨rfl, hb1⟩; have HB1 := Lib.hid (ext_trans HB.out hb1); clear hb1))
   go_roundw
   case rel => exact ⟨m / 10, c :: l, by omega, by first | rfl | go_num, rfl, HN.out, HB1.out⟩
   case measure => simp [intOf]; omega
theorem digits_any (n : Int) (h : I64 n) (w : World) : Calls Tryz.prog 13 #[.int .i64 n] w fun e w' => e = .returned (.string ⟨(Lib.itoa n).toArray⟩) ∧ Below w.heap.size w w' := by
 unfold Lib.itoa
 by_cases hn : n < 0
 ·rw [if_pos hn]
  have := digits_neg n.natAbs (by omega) (by have := h.1; omega) w
  rwa [show -((n.natAbs : Nat) : Int) = n by omega] at this
 ·rw [if_neg hn]
  have := digits_pos n.toNat (by have := h.2; omega) w
  rwa [show ((n.toNat : Nat) : Int) = n by omega] at this
end Go.Proofs.YtpjhjefjbkjhkaaGreatDoor
