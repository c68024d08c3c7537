import Derived.Deep.RegionHeld3
import Derived.Lib.ItoaLen
import Derived.Test.YtpjhjefjbkjhkaaGreatDoorBuD
/- What Text of package inst computes. -/
namespace Go.Proofs.YtpjhjefjbkjhkaaGreatDoor
open Go.RowKit
set_option linter.unusedVariables false
set_option linter.unusedSimpArgs false
def Tab10 (w : World) : Prop := Lib.TabIs Tryz.prog w "internal/strconv.uint64pow10" .u64 Lib.pow10Tab
theorem tabIs_below {n : String} {k : IntKind} {zs : List Int} {w w' : World} (h : Lib.TabIs Tryz.prog w n k zs) (hb : Below w.heap.size w w') : Lib.TabIs Tryz.prog w' n k zs := by
  unfold Lib.TabIs at h ⊢
  unfold World.var? at h ⊢
  cases hg : Tryz.prog.globalNamed n with
  | none => rw [hg] at h; cases h
  | some g =>
    rw [hg] at h
    simp only [Option.bind_some] at h ⊢
    have hlt : g < w.heap.size := by
      rcases Nat.lt_or_ge g w.heap.size with hlt | hge
      · exact hlt
      · rw [Array.getElem?_eq_none hge] at h; cases h
    rw [hb.block g hlt]
    exact h
theorem Tab10.below {w w' : World} (h : Tab10 w) (hb : Below w.heap.size w w') : Tab10 w' := tabIs_below h hb
theorem below_grow (w : World) (k : Nat) (os : Array Obj) : Below w.heap.size w (Go.Sort.grow (w.drewN k) os) :=
  ⟨rfl, rfl, rfl, by simp [Go.Sort.grow, World.drewN], fun i hi => by simp [Go.Sort.grow, World.drewN, Array.getElem?_append_left hi]⟩
theorem itoa_any (n : Int) (hn : I64 n) (w : World) (ht : Tab10 w) : Calls Tryz.prog 108 #[.int .i64 n] w fun e w' => e = .returned (.string ⟨(Lib.itoa n).toArray⟩) ∧ Below w.heap.size w w' :=
  (Tryz.strconv_Itoa n hn.1 hn.2 w ht).mono fun e w' ⟨he, k, os, hw⟩ => ⟨he, by rw [hw]; exact below_grow w k os⟩
/-- What 'add' adds. -/
def sufL (n : Int) (has ir : Bool) : List UInt8 := if has then (if ir then 32 :: 114 :: Lib.itoa n else 32 :: Lib.itoa n) else []
theorem str_add (x y : ByteArray) (h : x.size + y.size ≤ 9223372036854775807) : Op.stringOp .add x y = pure (.string (x ++ y)) := by
  have e : IntKind.i64.max = 9223372036854775807 := by decide
  unfold Op.stringOp
  simp only [e]
  rw [if_neg (by omega)]
set_option maxHeartbeats 1000000 in
theorem tadd_any (n : Int) (hn : I64 n) (has ir : Bool) (g : Nat) (s : ByteArray) (w : World) (hs : s.size ≤ 1000) (hB : Bk w g 9 #[.string s]) (ht : Tab10 w) : Calls Tryz.prog 185 #[.int .i64 n, .bool has, .bool ir, .pointer (some ⟨g, 0, none⟩)] w fun e w' => e = .returned (.tuple #[]) ∧ Below g w w' ∧ Bk w' g 9 #[.string (s ++ ⟨(sufL n has ir).toArray⟩)] := by
  have q0 : ∀ x : Later w, x.val.cell? ⟨g, 0, none⟩ = some (.string s) := fun x => (x.bk hB).cell 0
  have qL : ∀ x : Later w, g < x.val.heap.size := fun x => x.lt hB.lt
  have qF : ∀ (x : Later w) i, x.val.frozen? ⟨g, i, none⟩ = false := fun x i => (x.bk hB).frozen i
  have r0 : w.cell? ⟨g, 0, none⟩ = some (.string s) := hB.cell 0
  have rL := hB.lt
  have rF := fun i => Bk.frozen hB i
  have IT := Lib.hid (fun x : Later w => itoa_any n hn x.val (ht.below x.ok))
  obtain ⟨xd, hxd⟩ : ∃ xd : Later w, w.drew = xd.val := ⟨⟨_, ext_drew (Below.refl _ _)⟩, rfl⟩
  have HXD := Lib.hid hxd
  have HB := Lib.hid hB
  have li := Lib.itoa_length_le n hn.1 hn.2
  have e1 : (⟨#[32]⟩ : ByteArray) ++ ⟨(Lib.itoa n).toArray⟩ = ⟨(32 :: Lib.itoa n).toArray⟩ := ByteArray.ext (by simp)
  have e2 : (⟨#[32, 114]⟩ : ByteArray) ++ ⟨(Lib.itoa n).toArray⟩ = ⟨(32 :: 114 :: Lib.itoa n).toArray⟩ := ByteArray.ext (by simp)
  have z1 : (⟨(32 :: Lib.itoa n).toArray⟩ : ByteArray).size = (Lib.itoa n).length + 1 := by simp [ByteArray.size]
  have z2 : (⟨(32 :: 114 :: Lib.itoa n).toArray⟩ : ByteArray).size = (Lib.itoa n).length + 2 := by simp [ByteArray.size]
  have z0 : (⟨(Lib.itoa n).toArray⟩ : ByteArray).size = (Lib.itoa n).length := by simp [ByteArray.size]
  have y1 : (⟨#[32]⟩ : ByteArray).size = 1 := rfl
  have y2 : (⟨#[32, 114]⟩ : ByteArray).size = 2 := rfl
  have u1 : Op.stringOp .add ⟨#[32]⟩ ⟨(Lib.itoa n).toArray⟩ = pure (.string ⟨(32 :: Lib.itoa n).toArray⟩) := by rw [← e1]; exact str_add _ _ (by omega)
  have u2 : Op.stringOp .add ⟨#[32, 114]⟩ ⟨(Lib.itoa n).toArray⟩ = pure (.string ⟨(32 :: 114 :: Lib.itoa n).toArray⟩) := by rw [← e2]; exact str_add _ _ (by omega)
  have v1 : Op.stringOp .add s ⟨(32 :: Lib.itoa n).toArray⟩ = pure (.string (s ++ ⟨(32 :: Lib.itoa n).toArray⟩)) := str_add _ _ (by omega)
  have v2 : Op.stringOp .add s ⟨(32 :: 114 :: Lib.itoa n).toArray⟩ = pure (.string (s ++ ⟨(32 :: 114 :: Lib.itoa n).toArray⟩)) := str_add _ _ (by omega)
  clear e1 e2 z1 z2 z0 y1 y2 li
  clear hB ht hxd
  cases has
  · go_enter Tryz.func185, Tryz.ntmps185
    go_wp2
    refine bodyPost_end (results_none rfl _ _ _) rfl ?_
    refine ⟨rfl, Below.refl _ _, ?_⟩
    have e : s ++ (⟨(sufL n false ir).toArray⟩ : ByteArray) = s := by unfold sufL; exact ByteArray.ext (by simp)
    rw [e]
    exact HB.out
  · cases ir
    · go_enter Tryz.func185, Tryz.ntmps185
      go_upto_region 3 with (fail)
      go_region_with (go_at_call 108; (rw [HXD.out]; (with_reducible refine (IT.out xd).mono ?_); rintro e w' ⟨rfl, hb⟩; obtain ⟨y, rfl⟩ := later_call xd.ok hb; clear hb))
      all_goals go_wp2_with fail
      all_goals
        refine bodyPost_end (results_none rfl _ _ _) rfl ?_
        exact ⟨rfl, (y.ok.mono (Nat.le_of_lt HB.out.lt)).setCell (Nat.le_refl _) _, bk_set 0 _ (y.bk HB.out)⟩
    · go_enter Tryz.func185, Tryz.ntmps185
      go_upto_region 1 with (fail)
      go_region_with (go_at_call 108; (rw [HXD.out]; (with_reducible refine (IT.out xd).mono ?_); rintro e w' ⟨rfl, hb⟩; obtain ⟨y, rfl⟩ := later_call xd.ok hb; clear hb))
      all_goals go_wp2_with fail
      all_goals
        refine bodyPost_end (results_none rfl _ _ _) rfl ?_
        exact ⟨rfl, (y.ok.mono (Nat.le_of_lt HB.out.lt)).setCell (Nat.le_refl _) _, bk_set 0 _ (y.bk HB.out)⟩
end Go.Proofs.YtpjhjefjbkjhkaaGreatDoor
