import Derived.Great.BuildSlice
import Derived.Laws.CopyOwn
import Derived.Laws.Tables
import Derived.Maps.Own
import Derived.Maps.OwnIn
import Derived.Maps.OwnOps
import Derived.Maps.Views
import Derived.Test.YtpjhjefjbkjhkaaGreatDoorPk01
import Derived.Test.YtpjhjefjbkjhkaaGreatDoorPk02
import Derived.Test.YtpjhjefjbkjhkaaGreatDoorPk35
set_option maxHeartbeats 40000000
set_option maxRecDepth 100000
set_option linter.unusedVariables false
set_option linter.unusedSimpArgs false
namespace Go.Proofs.YtpjhjefjbkjhkaaGreatDoor
open El (cl)
open Go Go.RowKit Go.Shelf
open Go.Maps (Keyed)
theorem keyedS : Keyed Tryz.prog 9 := Go.Maps.string_keyed Tryz.underlying9
def strD (l : List ByteArray) : DataW Unit := Maps.setOf (.lit (.bool true)) (l.map fun x => .string x.data.toList)
theorem strD_snoc (l : List ByteArray) (x : ByteArray) : strD (l ++ [x]) = (strD l).put (.string x.data.toList) (.lit (.bool true)) := by
 unfold strD
 rw [List.map_append]
 exact Maps.setOf_snoc _ _ _
theorem isMap_strD : ∀ l : List ByteArray, Maps.IsMap (strD l) := by
 intro l
 unfold strD Maps.setOf
 generalize l.map _ = acc
 have : ∀ (acc : List Lit) (m : DataW Unit), Maps.IsMap m → Maps.IsMap (acc.foldl (fun m x => m.put x (.lit (.bool true))) m) := by
  intro acc
  induction acc with
  | nil => exact fun m h => h
  | cons a acc ih => exact fun m h => ih _ (h.put _ _)
 exact this acc _ Maps.isMap_empty
def hasN (l : List ByteArray) (x : ByteArray) : Bool := l.any fun y => decide (y = x)
theorem hasN_iff {l : List ByteArray} {x : ByteArray} : hasN l x = true ↔ x ∈ l := by unfold hasN; simp
theorem strD_at (l : List ByteArray) (x : ByteArray) (z : DataW Unit) : (strD l).atKey (.string x.data.toList) z = if hasN l x = true then .lit (.bool true) else z := by
 have : ∀ l : List ByteArray, (strD l.reverse).atKey (.string x.data.toList) z = if hasN l.reverse x = true then .lit (.bool true) else z := by
  intro l
  induction l with
  | nil => rfl
  | cons a l ih =>
   rw [List.reverse_cons, strD_snoc]
   by_cases e : x = a
   ·subst e
    rw [if_pos (hasN_iff.2 (by simp))]
    exact Maps.atKey_put_same (isMap_strD _) (show WideAt.IsKeyLit (.string x.data.toList) from trivial) _ _
   ·rw [Maps.atKey_put_other (fun he => e (Go.WideShapes.bytes_inj (by injection he))), ih]
    have hh : hasN (l.reverse ++ [a]) x = hasN l.reverse x := by
     unfold hasN
     rw [List.any_append]
     have : decide (a = x) = false := decide_eq_false fun h => e h.symm
     simp [this]
    rw [hh]
 have h2 := this l.reverse
 rwa [List.reverse_reverse] at h2
theorem keyOf_s {x : ByteArray} (h : x.size ≤ 9223372036854775807) : keyOf Tryz.prog 9 (.string x) = some (.string x.data.toList) := WideMaps.keyOf_string_mk Tryz.underlying9 (by unfold maxLen; exact h)
theorem zeroBoolS (w : World) : (zeroValue 4).run Tryz.prog w = .ok (.bool false) w := by kernel_rfl
theorem plainElem_bool_invS {H : Type} {P : Program} {e : TypeId} (he : P.underlying e = some .bool) {v : Value} {z : DataW H × List MemPlace} (h : plainElem P e v = some z) : ∃ x, v = .bool x ∧ z = (.lit (.bool x), []) := by
 unfold plainElem at h
 rw [he] at h
 cases v <;> simp at h
 exact ⟨_, rfl, h.symm⟩
abbrev NameSet (W : World) (b n : Nat) (l : List ByteArray) : Prop := W.ownsMap Tryz.prog 9 (plainElem (H := Unit) Tryz.prog 4) b n (strD l)
theorem look_strD {b n : Nat} {l : List ByteArray} {W : World} (h : NameSet W b n l) {x : ByteArray} (hx : x.size ≤ 9223372036854775807) :
  (Instr.lookup 181 (.map (some b)) (.string x) false).run Tryz.prog W = .ok (.bool (hasN l x)) W := by
 obtain ⟨v, ps, hrun, hv⟩ := World.ownsMap.lookup h keyedS Tryz.underlying181 (zeroBoolS W) (plainElem_bool Tryz.underlying4 false) (keyOf_s hx)
 rw [strD_at] at hv
 obtain ⟨y, rfl, hz⟩ := plainElem_bool_invS Tryz.underlying4 hv
 rw [hrun]
 cases hm : hasN l x
 ·rw [if_neg (by simp [hm])] at hz
  simp only [Prod.mk.injEq, DataW.lit.injEq, Lit.bool.injEq] at hz
  rw [← hz.1]
 ·rw [if_pos hm] at hz
  simp only [Prod.mk.injEq, DataW.lit.injEq, Lit.bool.injEq] at hz
  rw [← hz.1]
theorem NameSet.below {W W' : World} {b n : Nat} {l : List ByteArray} (h : NameSet W b n l) (hb : W'.heap[b]? = W.heap[b]?) : NameSet W' b n l := by
 obtain ⟨es, cl, h1, h2⟩ := h
 exact ⟨es, cl, hb.trans h1, h2⟩
theorem NameSet.lt {W : World} {b n : Nat} {l : List ByteArray} (h : NameSet W b n l) : b < W.heap.size := by
 obtain ⟨es, cl, h1, h2⟩ := h
 exact (Array.getElem?_eq_some_iff.1 h1).1
theorem exNames_cons (m : ModV) (ms : List ModV) : exNames (m :: ms) = m.ex.map (·.name) ++ exNames ms := by unfold exNames; simp
theorem exNames_split {ms : List ModV} {k : Nat} {m : ModV} (h : ms[k]? = some m) : exNames ms = exNames (ms.take k) ++ (m.ex.map (·.name) ++ exNames (ms.drop (k + 1))) := by
 have e : ms = ms.take k ++ (m :: ms.drop (k + 1)) := by
  obtain ⟨hk, e⟩ := List.getElem?_eq_some_iff.1 h
  rw [← e, ← List.drop_eq_getElem_cons hk, List.take_append_drop]
 rw [← exNames_cons, ← exNames_append, ← e]
theorem exNames_next {ms : List ModV} {k : Nat} {m : ModV} (h : ms[k]? = some m) : exNames (ms.take (k + 1)) = exNames (ms.take k) ++ m.ex.map (·.name) := by
 rw [List.take_add_one, h]
 exact exNames_snoc _ _
theorem map_next {l : List NamV} {j : Nat} {x : NamV} (h : l[j]? = some x) : (l.take (j + 1)).map (·.name) = (l.take j).map (·.name) ++ [x.name] := by
 rw [List.take_add_one, h, List.map_append]; rfl
theorem exNames_dup {ms : List ModV} {k j : Nat} {m : ModV} {x : NamV} (h : ms[k]? = some m) (hx : m.ex[j]? = some x) (hm : x.name ∈ exNames (ms.take k) ++ (m.ex.take j).map (·.name)) : ¬ (exNames ms).Nodup := by
 intro hn
 rw [exNames_split h] at hn
 have e0 : m.ex = m.ex.take j ++ x :: m.ex.drop (j + 1) := by
  obtain ⟨hk, e⟩ := List.getElem?_eq_some_iff.1 hx
  rw [← e, ← List.drop_eq_getElem_cons hk, List.take_append_drop]
 have e : m.ex.map (·.name) = (m.ex.take j).map (·.name) ++ (x.name :: (m.ex.drop (j + 1)).map (·.name)) := by
  have := congrArg (List.map (·.name)) e0
  rwa [List.map_append, List.map_cons] at this
 rw [e, List.append_assoc, ← List.append_assoc] at hn
 exact (List.nodup_append.1 hn).2.2 _ hm _ (by simp) rfl
theorem imNames_mem {ms : List ModV} {k : Nat} {m : ModV} {x : NamV} (h : ms[k]? = some m) (hx : x ∈ m.im) : x.name ∈ imNames ms := by
 unfold imNames
 exact List.mem_flatMap.2 ⟨m, List.mem_of_getElem? h, List.mem_map.2 ⟨x, hx, rfl⟩⟩
theorem NameSet.keep {W W' : World} {b n : Nat} {l : List ByteArray} (h : NameSet W b n l) (hb : Below W.heap.size W W') : NameSet W' b n l := h.below (hb.block _ h.lt)
theorem linkcheck_any (ao : Option Addr) (n c : Nat) (rs : List ModR) (ms : List ModV) (w : World) (h : Mods w ao n rs ms) :
  Calls Tryz.prog 51 #[.slice ao n c] w fun e w' => ∃ er, e = .returned (.int .i64 er) ∧ (er = 0 ↔ LinkOk isNameB ms) ∧ Below w.heap.size w w' := by
 have hmx := h.sl.max
 have hn := h.n
 unfold maxLen at hmx
 have hmk := @run_makeMap Tryz.prog
 have HM := Lib.hid h
 clear h
 by_cases h8 : 8 < n
 ·have q8 : (8 : Int) < n := by omega
  clear hmk
  go_enter Tryz.func51, Tryz.ntmps51
  go_wp2
  go_ret
  exact ⟨2, rfl, ⟨fun h => absurd h (by decide), fun h => absurd h.l (by omega)⟩, Below.refl _ _⟩
 have q8 : ¬ ((8 : Int) < n) := by omega
 go_enter Tryz.func51, Tryz.ntmps51
 go_wp2
 go_loopw [3, 21] (fun v i wr => ∃ k : Nat, k ≤ n ∧ i = .int .i64 k ∧ v = .int .i64 (total (ms.take k) : Nat) ∧ (∀ m ∈ ms.take k, ModOk isNameB m) ∧ Below w.heap.size w wr) (fun _ i _ => n - (intOf i).toNat)
 case atStart => exact ⟨0, Nat.zero_le _, rfl, rfl, fun m hm => by simp at hm, Below.refl _ _⟩
 case round =>
  obtain ⟨k, hk, rfl, rfl, hok, hb⟩ := hrel
  by_cases hlt : k < n
  ·have q0 : (0 : Int) ≤ k := by omega
   have q1 : (k : Int) < n := by omega
   obtain ⟨r, m, hr, hm, hhas⟩ := (HM.out.below hb).get hlt
   obtain ⟨ad, hao, hab, e0, e1, e2, e3⟩ := sl_ModR (HM.out.sl.below hb) hlt hr
   subst hao
   obtain ⟨⟨ca, cn, cc⟩, ⟨da, dn, dc⟩, ⟨ea, en, ec⟩, ⟨ia, jn, ic⟩⟩ := r
   simp only at e0 e1 e2 e3
   have hck := fun W (hW : Below wr.heap.size wr W) => mod_check _ m W (hhas.below hW)
   simp only at hck
   have hcn := hhas.code.len
   have hdn := hhas.data.len
   simp only at hcn hdn
   have htk := total_take_succ hm
   have htt := total_take_le ms k
   have hbig : total (ms.take k) ≤ 8 * 180 := by
    have : ∀ l : List ModV, (∀ m ∈ l, ModOk isNameB m) → total l ≤ l.length * 180 := by
     intro l
     induction l with
     | nil => intro _; exact Nat.le_refl _
     | cons x l ih =>
      intro h
      have h1 := ih fun m hm => h m (List.mem_cons_of_mem _ hm)
      have h2 := h x (by simp)
      have h3 := h2.l1
      have h4 := h2.l2
      rw [total_cons, List.length_cons]
      omega
    have h1 := this _ hok
    have h2 : (ms.take k).length ≤ 8 := by rw [List.length_take]; omega
    omega
   have hmx1 := hhas.code.max
   have hmx2 := hhas.data.max
   unfold maxLen at hmx1 hmx2
   simp only at hmx1 hmx2
   obtain ⟨w2, hw2⟩ : ∃ w2, w2 = wr.alloc (.cells #[.slice ca cn cc, .slice da dn dc, .slice ea en ec, .slice ia jn ic] 28) := ⟨_, rfl⟩
   have b2 : Below w.heap.size w w2 := by rw [hw2]; exact ext_alloc hb _
   have r2 : Below wr.heap.size wr w2 := by rw [hw2]; exact ext_alloc (Below.refl _ _) _
   have x2 : Bk w2 wr.heap.size 28 #[.slice ca cn cc, .slice da dn dc, .slice ea en ec, .slice ia jn ic] := by rw [hw2]; exact bk_new _ _ _
   obtain ⟨gx, hgx⟩ : ∃ gx, gx = wr.heap.size := ⟨_, rfl⟩
   rw [← hgx] at x2
   have ck := hck w2 r2
   have HW2 := Lib.hid hw2
   have HGX := Lib.hid hgx
   have B2 := Lib.hid b2
   have X2 := Lib.hid x2
   have CK := Lib.hid ck
   have HMM := Lib.hid hm
   have HOK := Lib.hid hok
   clear hw2 hgx b2 x2 hck ck r2 hm hr hhas hb hok
   go_upto_region 7 with (fail)
   rw [← HW2.out, ← HGX.out]
   clear e0 e1 e2 e3 HW2 HGX hab
   obtain ⟨t0, t1, t2, t3⟩ := cellsM4 X2.out
   have tL := X2.out.lt
   go_upto_region 8 with (go_at_call 34; ((with_reducible refine (CK.out).mono ?_); rintro e w3 ⟨er, rfl, her, hb3⟩; have HER := Lib.hid her; have X3 := Lib.hid (bk_keep hb3 X2.out); have HB3 := Lib.hid (show Below w.heap.size w w3 from ext_trans B2.out hb3); clear hb3 her))
   clear t0 t1 t2 t3 tL
   by_cases he0 : er = 0
   ·subst he0
    have hmo := HER.out.1 rfl
    have hc1 := hmo.l1
    have hc2 := hmo.l2
    obtain ⟨t0, t1, t2, t3⟩ := cellsM4 X3.out
    have tL := X3.out.lt
    have HMO := Lib.hid hmo
    clear hmo
    go_wp2
    go_roundw
    case rel =>
     refine ⟨k + 1, by omega, by go_num, ?_, fun m' hm' => ?_, HB3.out⟩
     ·rw [htk, hcn, hdn]; go_num
     ·rw [List.take_add_one, HMM.out] at hm'
      rcases List.mem_append.1 hm' with h | h
      ·exact HOK.out m' h
      ·simp at h; subst h; exact HMO.out
    case measure => simp [intOf]; omega
   ·have b1 : (er != 0) = true := by simpa using he0
    have hno : ¬ LinkOk isNameB ms := fun h => he0 (HER.out.2 (h.m m (List.mem_of_getElem? HMM.out)))
    go_wp2
    go_ret
    exact ⟨er, rfl, ⟨fun h => absurd h he0, fun h => absurd h hno⟩, HB3.out⟩
  ·have q1 : ¬ ((k : Int) < n) := by omega
   obtain rfl : k = n := by omega
   rw [List.take_of_length_le (by omega)] at hok
   have htot : total (ms.take k) = total ms := by rw [List.take_of_length_le (by omega)]
   rw [htot]
   have HOK := Lib.hid hok
   obtain ⟨wo, hwo⟩ : ∃ wo : World, wo = wr := ⟨_, rfl⟩
   subst hwo
   have HB := Lib.hid hb
   clear hok hb htot
   obtain ⟨bm, hbm⟩ : ∃ bm, wo.heap.size = bm := ⟨_, rfl⟩
   have hbmw : w.heap.size ≤ bm := by rw [← hbm]; exact HB.out.size
   have hexl : ∀ l : List ModV, (∀ m ∈ l, ModOk isNameB m) → (exNames l).length ≤ l.length * 20 := by
    intro l
    induction l with
    | nil => intro _; exact Nat.le_refl _
    | cons x l ih =>
     intro h
     have h1 := ih fun m hm => h m (List.mem_cons_of_mem _ hm)
     have h3 := (h x (by simp)).l3
     rw [exNames_cons, List.length_append, List.length_map, List.length_cons]
     omega
   have HEXL := Lib.hid hexl
   clear hexl
   go_wp2
   try rw [hbm]
   go_loopw [43] (fun i wr => ∃ q : Nat, q ≤ k ∧ i = .int .i64 q ∧ NameSet wr bm (exNames (ms.take q)).length (exNames (ms.take q)) ∧ (exNames (ms.take q)).Nodup ∧ Below w.heap.size w wr) (fun i _ => k - (intOf i).toNat)
   case atStart => exact ⟨0, Nat.zero_le _, rfl, by rw [← hbm]; exact World.ownsMap_made _ _ _ _, List.nodup_nil, ext_alloc HB.out _⟩
   case round =>
    obtain ⟨q, hq, rfl, hns, hnd, hb⟩ := hrel
    by_cases hlt : q < k
    ·have p0 : (0 : Int) ≤ q := by omega
     have p1 : (q : Int) < k := by omega
     obtain ⟨r, m, hr, hm, hhas⟩ := HM.out.get hlt
     obtain ⟨ad, hao, hab, e0, e1, e2, e3⟩ := sl_ModR (HM.out.sl.below hb) hlt hr
     subst hao
     obtain ⟨⟨ca, cn, cc⟩, ⟨da, dn, dc⟩, ⟨ea, en, ec⟩, ⟨ia, jn, ic⟩⟩ := r
     simp only at e0 e1 e2 e3
     obtain ⟨w2, hw2⟩ : ∃ w2, w2 = wr.alloc (.cells #[.slice ca cn cc, .slice da dn dc, .slice ea en ec, .slice ia jn ic] 28) := ⟨_, rfl⟩
     have r2 : Below wr.heap.size wr w2 := by rw [hw2]; exact ext_alloc (Below.refl _ _) _
     have x2 : Bk w2 wr.heap.size 28 #[.slice ca cn cc, .slice da dn dc, .slice ea en ec, .slice ia jn ic] := by rw [hw2]; exact bk_new _ _ _
     obtain ⟨gx, hgx⟩ : ∃ gx, gx = wr.heap.size := ⟨_, rfl⟩
     rw [← hgx] at x2
     have hen := hhas.ex.len
     have hwe := hhas.we
     have hle := HEXL.out (ms.take q) (fun m hm => HOK.out m (List.mem_of_mem_take hm))
     have hlen : (ms.take q).length ≤ 8 := by rw [List.length_take]; omega
     have h20 := (HOK.out m (List.mem_of_getElem? hm)).l3
     have hme := hhas.ex.max
     unfold maxLen at hme
     simp only at hen hme
     have hns2 := NameSet.keep hns r2
     have b2 := ext_trans hb r2
     have HSE := Lib.hid hhas.ex
     have HW2 := Lib.hid hw2
     have HGX := Lib.hid hgx
     have HX2 := Lib.hid x2
     have HNS2 := Lib.hid hns2
     have HND := Lib.hid hnd
     have HB2 := Lib.hid b2
     have HMM := Lib.hid hm
     have HWE := Lib.hid hwe
     clear hw2 hgx x2 hns2 hnd b2 hm hwe hns hb r2 hr hhas
     go_upto_region 16 with (fail)
     rw [← HW2.out, ← HGX.out]
     clear e0 e1 e2 e3 HW2 HGX hab
     obtain ⟨t0, t1, t2, t3⟩ := cellsM4 HX2.out
     have tL := HX2.out.lt
     go_wp2
     clear t0 t1 t2 t3 tL
     go_loopw [50] (fun i wr => ∃ j : Nat, j ≤ en ∧ i = .int .i64 j ∧ NameSet wr bm (exNames (ms.take q) ++ (m.ex.take j).map (·.name)).length (exNames (ms.take q) ++ (m.ex.take j).map (·.name)) ∧ (exNames (ms.take q) ++ (m.ex.take j).map (·.name)).Nodup ∧ Below w.heap.size w wr) (fun i _ => en - (intOf i).toNat)
     case atStart => exact ⟨0, Nat.zero_le _, rfl, by simpa using HNS2.out, by simpa using HND.out, HB2.out⟩
     case round =>
      obtain ⟨j, hj, rfl, hns, hnd, hb⟩ := hrel
      by_cases hlj : j < en
      ·have o0 : (0 : Int) ≤ j := by omega
       have o1 : (j : Int) < en := by omega
       obtain ⟨x, hx⟩ : ∃ x, m.ex[j]? = some x := ⟨_, List.getElem?_eq_getElem (by omega)⟩
       obtain ⟨ad, hao, hab, e0, e1⟩ := sl_NamV (HSE.out.below hb) hlj hx
       subst hao
       obtain ⟨xw1, xw2⟩ := HWE.out x (List.mem_of_getElem? hx)
       obtain ⟨w3, hw3⟩ : ∃ w3, w3 = wr.alloc (.cells #[.string x.name, .int .i64 x.at_] 83) := ⟨_, rfl⟩
       have r3 : Below wr.heap.size wr w3 := by rw [hw3]; exact ext_alloc (Below.refl _ _) _
       have x3 : Bk w3 wr.heap.size 83 #[.string x.name, .int .i64 x.at_] := by rw [hw3]; exact bk_new _ _ _
       obtain ⟨gy, hgy⟩ : ∃ gy, gy = wr.heap.size := ⟨_, rfl⟩
       rw [← hgy] at x3
       have hns3 := NameSet.keep hns r3
       have hlk := look_strD hns3 xw1
       have hl3 : (exNames (ms.take q) ++ (m.ex.take j).map (·.name)).length ≤ 200 := by rw [List.length_append, List.length_map, List.length_take]; omega
       have hmn := map_next hx
       have HW3 := Lib.hid hw3
       have HGY := Lib.hid hgy
       have HX3 := Lib.hid x3
       have HS3 := Lib.hid hns3
       have HND3 := Lib.hid hnd
       have HB3 := Lib.hid (ext_trans hb r3)
       have HX := Lib.hid hx
       have XW1 := Lib.hid xw1
       have HMN := Lib.hid hmn
       clear hw3 hgy x3 hns3 hnd hns hb r3 hx xw1 hmn
       go_upto_region 19 with (fail)
       rw [← HW3.out, ← HGY.out]
       clear e0 e1 HW3 HGY hab
       obtain ⟨t0, t1⟩ := cellsM2 HX3.out
       have tL := HX3.out.lt
       have hno : hasN (exNames (ms.take q) ++ (m.ex.take j).map (·.name)) x.name = true → ¬ LinkOk isNameB ms := fun h hl => exNames_dup HMM.out HX.out (hasN_iff.1 h) hl.nd
       cases hhn : hasN (exNames (ms.take q) ++ (m.ex.take j).map (·.name)) x.name
       ·rw [hhn] at hlk
        have hnin : x.name ∉ exNames (ms.take q) ++ (m.ex.take j).map (·.name) := fun h => by rw [hasN_iff.2 h] at hhn; cases hhn
        have HNIN := Lib.hid hnin
        clear hno hnin hhn
        generalize hL : exNames (ms.take q) ++ (m.ex.take j).map (·.name) = L at *
        go_wp2_with (at_mapUpdate; refine wpList_mapUpdate_own _ rfl _ _ _ 181 rfl 9 4 keyedS Tryz.underlying181 _ bm _ _ rfl HS3.out (by unfold maxLen; omega) _ _ _ rfl rfl (keyOf_s XW1.out) _ [] (plainElem_bool Tryz.underlying4 true) ?_; intro w4 hown4 hgrow4)
        go_roundw
        case rel =>
         refine ⟨j + 1, by omega, by go_num, ?_, ?_, HB3.out.grown hgrow4 HB3.out.size (fun i hi => by cases hi; exact hbmw)⟩
         ·rw [HMN.out, ← List.append_assoc, hL]; unfold NameSet; rw [strD_snoc, List.length_append]; exact hown4
         ·rw [HMN.out, ← List.append_assoc, hL]
          exact List.nodup_append.2 ⟨HND3.out, by simp, fun a ha b hb e => HNIN.out (by simp at hb; subst hb; exact e ▸ ha)⟩
        case measure => simp [intOf]; omega
       ·rw [hhn] at hlk
        have HNO := Lib.hid (hno hhn)
        clear hno
        go_wp2
        go_ret
        exact ⟨8, rfl, ⟨fun h => absurd h (by decide), fun h => absurd h HNO.out⟩, HB3.out⟩
      ·have o1 : ¬ ((j : Int) < en) := by omega
       obtain rfl : j = en := by omega
       rw [List.take_of_length_le (l := m.ex) (i := j) (by omega), ← exNames_next HMM.out] at hns hnd
       have HNS3 := Lib.hid hns
       have HND3 := Lib.hid hnd
       have HB3 := Lib.hid hb
       clear hns hnd hb
       go_wp2
       go_roundw
       case rel => exact ⟨q + 1, by omega, by go_num, HNS3.out, HND3.out, HB3.out⟩
       case measure => simp [intOf]; omega
    ·have p1 : ¬ ((q : Int) < k) := by omega
     obtain rfl : q = k := by omega
     rw [List.take_of_length_le (by omega)] at hns hnd
     obtain ⟨wq, hwq⟩ : ∃ wq : World, wq = wr := ⟨_, rfl⟩
     subst hwq
     have HNS := Lib.hid hns
     have HND := Lib.hid hnd
     have HBQ := Lib.hid hb
     clear hns hnd hb
     by_cases h400 : 400 < total ms
     ·have p4 : (400 : Int) < total ms := by omega
      go_wp2
      go_ret
      exact ⟨9, rfl, ⟨fun h => absurd h (by decide), fun h => absurd h.t (by omega)⟩, HBQ.out⟩
     have p4 : ¬ ((400 : Int) < total ms) := by omega
     go_wp2
     go_loopw [67] (fun i wr => ∃ t : Nat, t ≤ q ∧ i = .int .i64 t ∧ (∀ m ∈ ms.take t, ∀ x ∈ m.im, x.name ∈ exNames ms) ∧ Below wq.heap.size wq wr) (fun i _ => q - (intOf i).toNat)
     case atStart => exact ⟨0, Nat.zero_le _, rfl, fun m hm => by simp at hm, Below.refl _ _⟩
     case round =>
      obtain ⟨t, ht, rfl, him, hb⟩ := hrel
      by_cases hlt2 : t < q
      ·have s0 : (0 : Int) ≤ t := by omega
       have s1 : (t : Int) < q := by omega
       obtain ⟨r, m, hr, hm, hhas⟩ := (HM.out.below (ext_trans HBQ.out hb)).get hlt2
       obtain ⟨ad, hao, hab, e0, e1, e2, e3⟩ := sl_ModR (HM.out.sl.below (ext_trans HBQ.out hb)) hlt2 hr
       subst hao
       obtain ⟨⟨ca, cn, cc⟩, ⟨da, dn, dc⟩, ⟨ea, en, ec⟩, ⟨ia, jn, ic⟩⟩ := r
       simp only at e0 e1 e2 e3
       obtain ⟨w2, hw2⟩ : ∃ w2, w2 = wr.alloc (.cells #[.slice ca cn cc, .slice da dn dc, .slice ea en ec, .slice ia jn ic] 28) := ⟨_, rfl⟩
       have r2 : Below wr.heap.size wr w2 := by rw [hw2]; exact ext_alloc (Below.refl _ _) _
       have x2 : Bk w2 wr.heap.size 28 #[.slice ca cn cc, .slice da dn dc, .slice ea en ec, .slice ia jn ic] := by rw [hw2]; exact bk_new _ _ _
       obtain ⟨gx, hgx⟩ : ∃ gx, gx = wr.heap.size := ⟨_, rfl⟩
       rw [← hgx] at x2
       have hjn := hhas.im.len
       have hwi := hhas.wi
       have hmi := hhas.im.max
       unfold maxLen at hmi
       simp only at hjn hmi
       have b2 := ext_trans hb r2
       have HSI := Lib.hid (hhas.im.below r2)
       have HW2 := Lib.hid hw2
       have HGX := Lib.hid hgx
       have HX2 := Lib.hid x2
       have HB2 := Lib.hid b2
       have HMM := Lib.hid hm
       have HWI := Lib.hid hwi
       have HIM := Lib.hid him
       clear hw2 hgx x2 b2 hm hwi hb r2 hr hhas him
       go_upto_region 29 with (fail)
       rw [← HW2.out, ← HGX.out]
       clear e0 e1 e2 e3 HW2 HGX hab
       obtain ⟨t0, t1, t2, t3⟩ := cellsM4 HX2.out
       have tL := HX2.out.lt
       go_wp2
       clear t0 t1 t2 t3 tL
       go_loopw [74] (fun i wr => ∃ j : Nat, j ≤ jn ∧ i = .int .i64 j ∧ (∀ x ∈ m.im.take j, x.name ∈ exNames ms) ∧ Below w2.heap.size w2 wr) (fun i _ => jn - (intOf i).toNat)
       case atStart => exact ⟨0, Nat.zero_le _, rfl, fun x hx => by simp at hx, Below.refl _ _⟩
       case round =>
        obtain ⟨j, hj, rfl, hin, hb⟩ := hrel
        by_cases hlj : j < jn
        ·have o0 : (0 : Int) ≤ j := by omega
         have o1 : (j : Int) < jn := by omega
         obtain ⟨x, hx⟩ : ∃ x, m.im[j]? = some x := ⟨_, List.getElem?_eq_getElem (by omega)⟩
         obtain ⟨ad, hao, hab, e0, e1⟩ := sl_NamV (HSI.out.below hb) hlj hx
         subst hao
         obtain ⟨xw1, xw2⟩ := HWI.out x (List.mem_of_getElem? hx)
         obtain ⟨w3, hw3⟩ : ∃ w3, w3 = wr.alloc (.cells #[.string x.name, .int .i64 x.at_] 118) := ⟨_, rfl⟩
         have r3 : Below wr.heap.size wr w3 := by rw [hw3]; exact ext_alloc (Below.refl _ _) _
         have x3 : Bk w3 wr.heap.size 118 #[.string x.name, .int .i64 x.at_] := by rw [hw3]; exact bk_new _ _ _
         obtain ⟨gy, hgy⟩ : ∃ gy, gy = wr.heap.size := ⟨_, rfl⟩
         rw [← hgy] at x3
         have b3 := ext_trans hb r3
         have hns3 := NameSet.keep HNS.out (ext_trans HB2.out b3)
         have hlk := look_strD hns3 xw1
         have HW3 := Lib.hid hw3
         have HGY := Lib.hid hgy
         have HX3 := Lib.hid x3
         have HB3 := Lib.hid b3
         have HX := Lib.hid hx
         have HIN := Lib.hid hin
         clear hw3 hgy x3 hns3 hb r3 hx b3 hin
         go_upto_region 32 with (fail)
         rw [← HW3.out, ← HGY.out]
         clear e0 e1 HW3 HGY hab
         obtain ⟨t0, t1⟩ := cellsM2 HX3.out
         have tL := HX3.out.lt
         cases hhn : hasN (exNames ms) x.name
         ·rw [hhn] at hlk
          have hno : ¬ LinkOk isNameB ms := fun h => by
           rw [hasN_iff.2 (h.im _ (imNames_mem HMM.out (List.mem_of_getElem? HX.out)))] at hhn
           cases hhn
          have HNO := Lib.hid hno
          clear hno
          go_wp2
          go_ret
          exact ⟨7, rfl, ⟨fun h => absurd h (by decide), fun h => absurd h HNO.out⟩, ext_trans HBQ.out (ext_trans HB2.out HB3.out)⟩
         ·rw [hhn] at hlk
          have HHN := Lib.hid (hasN_iff.1 hhn)
          clear hhn
          go_wp2
          go_roundw
          case rel =>
           refine ⟨j + 1, by omega, by go_num, fun y hy => ?_, HB3.out⟩
           rw [List.take_add_one, HX.out] at hy
           rcases List.mem_append.1 hy with h | h
           ·exact HIN.out y h
           ·simp at h; subst h; exact HHN.out
          case measure => simp [intOf]; omega
        ·have o1 : ¬ ((j : Int) < jn) := by omega
         obtain rfl : j = jn := by omega
         rw [List.take_of_length_le (l := m.im) (i := j) (by omega)] at hin
         have HIN := Lib.hid hin
         have HB3 := Lib.hid hb
         clear hin hb
         go_wp2
         go_roundw
         case rel =>
          refine ⟨t + 1, by omega, by go_num, fun m' hm' => ?_, ext_trans HB2.out HB3.out⟩
          rw [List.take_add_one, HMM.out] at hm'
          rcases List.mem_append.1 hm' with h | h
          ·exact HIM.out m' h
          ·simp at h; subst h; exact HIN.out
         case measure => simp [intOf]; omega
      ·have s1 : ¬ ((t : Int) < q) := by omega
       obtain rfl : t = q := by omega
       rw [List.take_of_length_le (by omega)] at him
       have HI := Lib.hid him
       have HBX := Lib.hid hb
       clear him hb
       go_wp2
       go_ret
       refine ⟨0, rfl, ⟨fun _ => ⟨by omega, HOK.out, HND.out, by omega, fun x hx => ?_⟩, fun _ => rfl⟩, ext_trans HBQ.out HBX.out⟩
       obtain ⟨m, hm, hx⟩ := List.mem_flatMap.1 hx
       obtain ⟨y, hy, rfl⟩ := List.mem_map.1 hx
       exact HI.out m hm y hy
end Go.Proofs.YtpjhjefjbkjhkaaGreatDoor
namespace Go.Proofs.YtpjhjefjbkjhkaaGreatDoor
open Go Go.RowKit Go.Shelf
def EntryV.cs (x : EntryV) : Array Value := #[.string x.name, .int .i64 x.code.perm, .int .i64 x.code.base, .int .i64 x.code.len, .int .i64 x.code.at_, .int .i64 x.code.seal_, .int .i64 x.data.perm, .int .i64 x.data.base, .int .i64 x.data.len, .int .i64 x.data.at_, .int .i64 x.data.seal_]
def EntryV.val (x : EntryV) : Value := .agg x.cs
theorem EntryV.one (x : EntryV) : x.cs.all (·.oneCell') = true := by kernel_rfl
theorem findE_snoc (es : List EntryV) (x : EntryV) (s : ByteArray) (h : findE es s = none) : findE (es ++ [x]) s = if x.name = s then some x else none := by
 unfold findE at h ⊢
 rw [List.find?_append, h, List.find?_singleton]
 simp
theorem findE_front {es : List EntryV} {j : Nat} {x : EntryV} {s : ByteArray} (h : findE (es.take j) s = none) (hx : es[j]? = some x) (hs : x.name = s) : findE es s = some x := by
 obtain ⟨hk, e⟩ := List.getElem?_eq_some_iff.1 hx
 have e0 : es = es.take j ++ x :: es.drop (j + 1) := by rw [← e, ← List.drop_eq_getElem_cons hk, List.take_append_drop]
 unfold findE at h ⊢
 rw [e0, List.find?_append, h]
 simp [hs]
theorem results_rowE {P : Program} {fn : Func} {p q : Tmp} {ty : TypeId} (h : fn.results = #[.cell p ty, .tmp q]) (tmps : Array Value) (w : World) (g : Nat) (t : TypeId) (cs : Array Value) (fr : Nat × Nat) (d : TypeDesc)
  (hp : tmps.getD p undef = .pointer (some ⟨g, 0, none⟩)) (hg : w.heap[g]? = some (.cells cs t fr))
  (hu : P.underlying ty = some d) (hd : (match d with | .struct _ | .array _ _ => true | _ => false) = true) (hi : (P.info? ty).map (·.size) = some cs.size) :
  (results fn tmps).run P w = .ok (.tuple #[.agg cs, tmps.getD q undef]) w := by
 have hp' : tmps[p]?.getD undef = .pointer (some ⟨g, 0, none⟩) := by simpa using hp
 simp [results, h, hp', asAddr, run_loadVar_row w g t ty cs fr d hg hu hd hi]
theorem bk_setRowE {w : World} {g : Nat} {T : TypeId} {cs : Array Value} (h : Bk w g T cs) (ds : Array Value) : Bk (w.setRow g ds) g T ds := setRow_heap w g cs ds T (0, 0) h
theorem cells11 {w : World} {g : Nat} {T : TypeId} {v0 v1 v2 v3 v4 v5 v6 v7 v8 v9 v10 : Value} (h : Bk w g T #[v0, v1, v2, v3, v4, v5, v6, v7, v8, v9, v10]) : w.cell? ⟨g, 0, none⟩ = some v0 ∧ w.cell? ⟨g, 1, none⟩ = some v1 ∧ w.cell? ⟨g, 2, none⟩ = some v2 ∧ w.cell? ⟨g, 3, none⟩ = some v3 ∧ w.cell? ⟨g, 4, none⟩ = some v4 ∧ w.cell? ⟨g, 5, none⟩ = some v5 ∧ w.cell? ⟨g, 6, none⟩ = some v6 ∧ w.cell? ⟨g, 7, none⟩ = some v7 ∧ w.cell? ⟨g, 8, none⟩ = some v8 ∧ w.cell? ⟨g, 9, none⟩ = some v9 ∧ w.cell? ⟨g, 10, none⟩ = some v10 :=
 ⟨h.cell 0, h.cell 1, h.cell 2, h.cell 3, h.cell 4, h.cell 5, h.cell 6, h.cell 7, h.cell 8, h.cell 9, h.cell 10⟩
theorem find_any (ma pa ea : Option Addr) (mn mc pn pc en ec : Nat) (es : List EntryV) (s : ByteArray) (w : World) (h : Sl w ea en es) :
  Calls Tryz.prog 52 #[.agg #[.slice ma mn mc, .slice pa pn pc, .slice ea en ec], .string s] w fun e w' => e = .returned (.tuple #[((findE es s).getD zeroE).val, .bool (findE es s).isSome]) ∧ Below w.heap.size w w' := by
 have hm := h.max
 have hl := h.len
 unfold maxLen at hm
 obtain ⟨w1, hw1⟩ : ∃ w1, w1 = (w.alloc (.cells #[.slice ma mn mc, .slice pa pn pc, .slice ea en ec] 36)).alloc (.cells #[.string ⟨#[]⟩, .int .i64 0, .int .i64 0, .int .i64 0, .int .i64 0, .int .i64 0, .int .i64 0, .int .i64 0, .int .i64 0, .int .i64 0, .int .i64 0] 103) := ⟨_, rfl⟩
 have h1w : Below w.heap.size w w1 := by rw [hw1]; exact ext_alloc (ext_alloc (Below.refl _ _) _) _
 have b1 : Bk w1 w.heap.size 36 #[.slice ma mn mc, .slice pa pn pc, .slice ea en ec] := by rw [hw1]; exact bk_old _ (bk_new _ _ _)
 have r1 : Bk w1 (w.heap.size + 1) 103 #[.string ⟨#[]⟩, .int .i64 0, .int .i64 0, .int .i64 0, .int .i64 0, .int .i64 0, .int .i64 0, .int .i64 0, .int .i64 0, .int .i64 0, .int .i64 0] := by rw [hw1]; exact bk_new' _ _ (by simp)
 obtain ⟨c0, c1, c2⟩ := cells3 b1
 have bL := b1.lt
 have HW1 := Lib.hid hw1
 have H1W := Lib.hid h1w
 have R1 := Lib.hid r1
 have HS := Lib.hid (h.below h1w)
 clear hw1 h1w b1 r1 h
 go_enter Tryz.func52, Tryz.ntmps52
 go_upto_region 1 with (fail)
 rw [← HW1.out]
 go_wp2
 clear c0 c1 c2 bL
 go_loopw [11] (fun i wr => ∃ j : Nat, j ≤ en ∧ i = .int .i64 j ∧ findE (es.take j) s = none ∧ Below w1.heap.size w1 wr) (fun i _ => en - (intOf i).toNat)
 case atStart => exact ⟨0, Nat.zero_le _, rfl, rfl, Below.refl _ _⟩
 case round =>
  obtain ⟨j, hj, rfl, hf, hb⟩ := hrel
  have rk := bk_keep hb R1.out
  have HF := Lib.hid hf
  clear hf
  by_cases hlt : j < en
  ·have q0 : (0 : Int) ≤ j := by omega
   have q1 : (j : Int) < en := by omega
   obtain ⟨x, hx⟩ : ∃ x, es[j]? = some x := ⟨_, List.getElem?_eq_getElem (by omega)⟩
   obtain ⟨ad, hao, hab, e0, e1, e2, e3, e4, e5, e6, e7, e8, e9, e10⟩ := sl_EntryV (HS.out.below hb) hlt hx
   subst hao
   obtain ⟨w2, hw2⟩ : ∃ w2, w2 = wr.alloc (.cells #[.string x.name, .int .i64 x.code.perm, .int .i64 x.code.base, .int .i64 x.code.len, .int .i64 x.code.at_, .int .i64 x.code.seal_, .int .i64 x.data.perm, .int .i64 x.data.base, .int .i64 x.data.len, .int .i64 x.data.at_, .int .i64 x.data.seal_] 103) := ⟨_, rfl⟩
   have b2 : Below w1.heap.size w1 w2 := by rw [hw2]; exact ext_alloc hb _
   have x2 : Bk w2 wr.heap.size 103 #[.string x.name, .int .i64 x.code.perm, .int .i64 x.code.base, .int .i64 x.code.len, .int .i64 x.code.at_, .int .i64 x.code.seal_, .int .i64 x.data.perm, .int .i64 x.data.base, .int .i64 x.data.len, .int .i64 x.data.at_, .int .i64 x.data.seal_] := by rw [hw2]; exact bk_new _ _ _
   have r2 : Bk w2 (w.heap.size + 1) 103 #[.string ⟨#[]⟩, .int .i64 0, .int .i64 0, .int .i64 0, .int .i64 0, .int .i64 0, .int .i64 0, .int .i64 0, .int .i64 0, .int .i64 0, .int .i64 0] := bk_keep b2 R1.out
   obtain ⟨gx, hgx⟩ : ∃ gx, gx = wr.heap.size := ⟨_, rfl⟩
   rw [← hgx] at x2
   have HX := Lib.hid hx
   have HW2 := Lib.hid hw2
   have HGX := Lib.hid hgx
   have B2 := Lib.hid b2
   have X2 := Lib.hid x2
   have R2 := Lib.hid r2
   clear hw2 hgx b2 x2 hx hb r2 rk
   go_upto_region 4 with (fail)
   rw [← HW2.out, ← HGX.out]
   clear e0 e1 e2 e3 e4 e5 e6 e7 e8 e9 e10 HW2 HGX hab
   obtain ⟨t0, t1, t2, t3, t4, t5, t6, t7, t8, t9, t10⟩ := cells11 X2.out
   have tL := X2.out.lt
   by_cases hs : x.name = s
   ·have f : (x.name.toList == s.toList) = true := by simp [hs]
    have rL := R2.out.lt
    have hfe := findE_front HF.out HX.out hs
    have HFE := Lib.hid hfe
    clear hs hfe
    go_wp2_with (refine wpList_store_rowTo rfl 103 (.tmp 4) (.tmp 19) rfl rfl (w.heap.size + 1) x.cs rfl rfl 103 _ R2.out (by kernel_rfl) rfl (EntryV.one _) ?_)
    refine bodyPost_ret (results_rowE (g := w.heap.size + 1) (t := 103) (cs := x.cs) (fr := (0, 0)) rfl _ _ _ rfl (bk_setRowE R2.out _) Tryz.underlying103 rfl (by kernel_rfl)) rfl ?_
    exact ⟨by rw [HFE.out]; rfl, below_setRow (ext_trans H1W.out B2.out) (by omega) _⟩
   ·have f : (x.name.toList == s.toList) = false := beq_eq_false_iff_ne.2 fun e => hs (name_eq.1 e)
    have hfn : findE (es.take (j + 1)) s = none := by
     rw [List.take_add_one, HX.out]
     exact (findE_snoc _ _ _ HF.out).trans (if_neg hs)
    have HFN := Lib.hid hfn
    clear hs hfn
    go_wp2
    go_roundw
    case rel => exact ⟨j + 1, by omega, by go_num, HFN.out, B2.out⟩
    case measure => simp [intOf]; omega
  ·have q1 : ¬ ((j : Int) < en) := by omega
   have hfn : findE es s = none := by have := HF.out; rwa [List.take_of_length_le (by omega)] at this
   have rL := rk.lt
   have R2 := Lib.hid rk
   have HB := Lib.hid hb
   have HFN := Lib.hid hfn
   clear hb rk
   go_wp2_with (refine wpList_store_rowTo rfl 103 (.tmp 4) (.tmp 21) rfl rfl (w.heap.size + 1) zeroE.cs rfl rfl 103 _ R2.out (by kernel_rfl) rfl (EntryV.one _) ?_)
   refine bodyPost_ret (results_rowE (g := w.heap.size + 1) (t := 103) (cs := zeroE.cs) (fr := (0, 0)) rfl _ _ _ rfl (bk_setRowE R2.out _) Tryz.underlying103 rfl (by kernel_rfl)) rfl ?_
   exact ⟨rfl, below_setRow (ext_trans H1W.out HB.out) (by omega) _⟩
end Go.Proofs.YtpjhjefjbkjhkaaGreatDoor
namespace Go.Proofs.YtpjhjefjbkjhkaaGreatDoor
open El (cl)
open Go.RowKit
structure ImSt (base gI : Nat) (M : List ValV) (P : List PlaceV) (E : List EntryV) (vm vp ve : Value) (W : World) : Prop where
 b : Bk W gI 36 #[vm, vp, ve]
 m : Own W base 68 vm M
 p : Own W base 100 vp P
 e : Own W base 103 ve E
section
variable {base gI : Nat} {M M' : List ValV} {P P' : List PlaceV} {E E' : List EntryV} {vm vp ve u : Value} {W W' : World}
theorem ImSt.below (h : ImSt base gI M P E vm vp ve W) (hb : Below W.heap.size W W') : ImSt base gI M P E vm vp ve W' := ⟨bk_keep hb h.b, h.m.below hb, h.p.below hb, h.e.below hb⟩
theorem ImSt.mem (h : ImSt base gI M P E vm vp ve W) (hg : W.grownBy W' vm.ownBlock) (ho : Own W' base 68 u M') : ImSt base gI M' P E u vp ve (W'.setCell ⟨gI, 0, none⟩ u) := by
 have hb := bk_other h.b h.m (by decide) hg
 exact ⟨bk_set' hb rfl, own_cell ho hb (by decide) _ _, own_cell (own_other h.p h.m (by decide) hg) hb (by decide) _ _, own_cell (own_other h.e h.m (by decide) hg) hb (by decide) _ _⟩
theorem ImSt.places (h : ImSt base gI M P E vm vp ve W) (hg : W.grownBy W' vp.ownBlock) (ho : Own W' base 100 u P') : ImSt base gI M P' E vm u ve (W'.setCell ⟨gI, 1, none⟩ u) := by
 have hb := bk_other h.b h.p (by decide) hg
 exact ⟨bk_set' hb rfl, own_cell (own_other h.m h.p (by decide) hg) hb (by decide) _ _, own_cell ho hb (by decide) _ _, own_cell (own_other h.e h.p (by decide) hg) hb (by decide) _ _⟩
theorem ImSt.entries (h : ImSt base gI M P E vm vp ve W) (hg : W.grownBy W' ve.ownBlock) (ho : Own W' base 103 u E') : ImSt base gI M P E' vm vp u (W'.setCell ⟨gI, 2, none⟩ u) := by
 have hb := bk_other h.b h.e (by decide) hg
 exact ⟨bk_set' hb rfl, own_cell (own_other h.m h.e (by decide) hg) hb (by decide) _ _, own_cell (own_other h.p h.e (by decide) hg) hb (by decide) _ _, own_cell ho hb (by decide) _ _⟩
theorem ImSt.set {g c N i : Nat} (h : ImSt base gI M P E (.slice (some ⟨g, 0, none⟩) N c) vp ve W) (hN : M.length = N) (hi : i < N) (y : ValV) : ImSt base gI (M.set i y) P E (.slice (some ⟨g, 0, none⟩) N c) vp ve (W.setCells g (i * 7) (cl y)) := by
 subst hN
 obtain ⟨h1, h2⟩ := own_set h.m hi y
 exact ⟨bk_other (v := .slice (some ⟨g, 0, none⟩) M.length c) h.b h.m (by decide) h2, h1, own_other (v' := .slice (some ⟨g, 0, none⟩) M.length c) h.p h.m (by decide) h2, own_other (v' := .slice (some ⟨g, 0, none⟩) M.length c) h.e h.m (by decide) h2⟩
theorem ImSt.setBk {g c N i k : Nat} {T : TypeId} {cs : Array Value} (h : ImSt base gI M P E (.slice (some ⟨g, 0, none⟩) N c) vp ve W) (hN : M.length = N) (hi : i < N) (y : ValV) (hb : Bk W k T cs) (hT : T ≠ 68) : Bk (W.setCells g (i * 7) (cl y)) k T cs := by
 subst hN
 exact bk_other (v := .slice (some ⟨g, 0, none⟩) M.length c) hb h.m hT (own_set h.m hi y).2
theorem ImSt.setUnder {w : World} {g c N i : Nat} (h : ImSt w.heap.size gI M P E (.slice (some ⟨g, 0, none⟩) N c) vp ve W) (hN : M.length = N) (hi : i < N) (y : ValV) (hb : Below w.heap.size w W) : Below w.heap.size w (W.setCells g (i * 7) (cl y)) := by
 subst hN
 exact hb.grown (own_set h.m hi y).2 hb.size (fun k e => by injection e with e; subst e; exact (own_span h.m rfl).1)
theorem ImSt.cells {g c N i : Nat} (h : ImSt base gI M P E (.slice (some ⟨g, 0, none⟩) N c) vp ve W) (hN : M.length = N) (hi : i < N) : g < W.heap.size ∧ (∀ j, W.frozen? ⟨g, j, none⟩ = false) ∧ ∃ v0 v1 v2 v3 v4 v5 v6, W.cell? ⟨g, i * 7, none⟩ = some v0 ∧ W.cell? ⟨g, i * 7 + 1, none⟩ = some v1 ∧ W.cell? ⟨g, i * 7 + 2, none⟩ = some v2 ∧ W.cell? ⟨g, i * 7 + 3, none⟩ = some v3 ∧ W.cell? ⟨g, i * 7 + 4, none⟩ = some v4 ∧ W.cell? ⟨g, i * 7 + 5, none⟩ = some v5 ∧ W.cell? ⟨g, i * 7 + 6, none⟩ = some v6 := by
 subst hN
 obtain ⟨ao, c', e, hsl, _⟩ := h.m.sl
 injection e with e _ _
 subst e
 obtain ⟨a, x, e, hb, hx, hc⟩ := hsl.at hi
 injection e with e
 subst e
 refine ⟨hb, fun j => h.m.frozen rfl j, .bool x.is, .int .i64 x.n, .int .i64 x.k.perm, .int .i64 x.k.base, .int .i64 x.k.len, .int .i64 x.k.at_, .int .i64 x.k.seal_, ?_, ?_, ?_, ?_, ?_, ?_, ?_⟩
 ·have := hc 0 _ rfl; simpa only [show El.k ValV = 7 from rfl, Addr.add_lit, Nat.zero_add, Nat.add_zero] using this
 ·have := hc 1 _ rfl; simpa only [show El.k ValV = 7 from rfl, Addr.add_lit, Nat.zero_add] using this
 ·have := hc 2 _ rfl; simpa only [show El.k ValV = 7 from rfl, Addr.add_lit, Nat.zero_add] using this
 ·have := hc 3 _ rfl; simpa only [show El.k ValV = 7 from rfl, Addr.add_lit, Nat.zero_add] using this
 ·have := hc 4 _ rfl; simpa only [show El.k ValV = 7 from rfl, Addr.add_lit, Nat.zero_add] using this
 ·have := hc 5 _ rfl; simpa only [show El.k ValV = 7 from rfl, Addr.add_lit, Nat.zero_add] using this
 ·have := hc 6 _ rfl; simpa only [show El.k ValV = 7 from rfl, Addr.add_lit, Nat.zero_add] using this
theorem ImSt.under {w : World} {α : Type} [El α] {T : TypeId} {v : Value} {xs : List α} (ho : Own W w.heap.size T v xs) (hb : Below w.heap.size w W) (hg : W.grownBy W' v.ownBlock) (hI : w.heap.size ≤ gI) (i : Nat) (x : Value) : Below w.heap.size w (W'.setCell ⟨gI, i, none⟩ x) := by
 have h1 : Below w.heap.size w W' := hb.grown hg hb.size (fun k e => (own_span ho e).1)
 exact h1.grown (grown_setCell W' gI i x) h1.size (fun k e => by injection e with e; omega)
end
structure Kept (gI : Nat) (W W' : World) : Prop where
 size : W.heap.size ≤ W'.heap.size
 bk : ∀ g T cs, Bk W g T cs → T ≠ 68 → T ≠ 103 → g ≠ gI → Bk W' g T cs
section
variable {gI base : Nat} {W W' W'' : World}
theorem Kept.refl (gI : Nat) (W : World) : Kept gI W W := ⟨Nat.le_refl _, fun _ _ _ h _ _ _ => h⟩
theorem Kept.below (h : Kept gI W W') (hb : Below W'.heap.size W' W'') : Kept gI W W'' := ⟨Nat.le_trans h.size hb.size, fun g T cs a b c d => bk_keep hb (h.bk g T cs a b c d)⟩
theorem Kept.own {α : Type} [El α] {T : TypeId} {v : Value} {xs : List α} (h : Kept gI W W') (ho : Own W' base T v xs) (hT : T = 68 ∨ T = 103) (hg : W'.grownBy W'' v.ownBlock) (i : Nat) (x : Value) : Kept gI W (W''.setCell ⟨gI, i, none⟩ x) := by
 refine ⟨Nat.le_trans h.size (Nat.le_trans hg.size (by simp [World.setCell])), fun g T' cs a b c d => bk_cell (bk_other (h.bk g T' cs a b c d) ho ?_ hg) d _ _⟩
 rcases hT with rfl | rfl
 ·exact b
 ·exact c
theorem Kept.trans (h : Kept gI W W') (k : Kept gI W' W'') : Kept gI W W'' := ⟨Nat.le_trans h.size k.size, fun g T cs a b c d => k.bk g T cs (h.bk g T cs a b c d) b c d⟩
end
theorem info_valL : (Tryz.prog.info? 68).map (fun i => (i.zero, i.size, i.bytes)) = some (some (.agg #[.bool false, .int .i64 0, .int .i64 0, .int .i64 0, .int .i64 0, .int .i64 0, .int .i64 0]), 7, 56) := by kernel_rfl
theorem info_placeL : (Tryz.prog.info? 100).map (fun i => (i.zero, i.size, i.bytes)) = some (some (.agg #[.int .i64 0, .int .i64 0, .int .i64 0, .int .i64 0]), 4, 32) := by kernel_rfl
theorem info_entryL : (Tryz.prog.info? 103).map (fun i => (i.zero, i.size, i.bytes)) = some (some (.agg #[.string ⟨#[]⟩, .int .i64 0, .int .i64 0, .int .i64 0, .int .i64 0, .int .i64 0, .int .i64 0, .int .i64 0, .int .i64 0, .int .i64 0, .int .i64 0]), 11, 96) := by kernel_rfl
end Go.Proofs.YtpjhjefjbkjhkaaGreatDoor
