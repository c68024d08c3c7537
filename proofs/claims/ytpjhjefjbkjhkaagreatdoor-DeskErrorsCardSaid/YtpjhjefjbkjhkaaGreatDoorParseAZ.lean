import Derived.Test.YtpjhjefjbkjhkaaGreatDoorParseMathZ
/- What inst.Parse leans on: tables, Split at a byte, Atoi, opOf. -/
namespace Go.Proofs.YtpjhjefjbkjhkaaGreatDoor
open Go Go.RowKit Go.Shelf
set_option linter.unusedVariables false
set_option linter.unusedSimpArgs false
theorem var_below {n : String} {vs : Array Value} {w w' : World} (h : w.var? Tryz.prog n = some vs) (hb : Below w.heap.size w w') : w'.var? Tryz.prog n = some vs := by
  unfold World.var? at h ⊢
  cases hg : Tryz.prog.globalNamed n with
  | none => rw [hg] at h; cases h
  | some g =>
    rw [hg] at h
    simp only [Option.bind_some] at h ⊢
    have hlt : g < w.heap.size := by
      rcases Nat.lt_or_ge g w.heap.size with hlt | hge
      · exact hlt
      · rw [Array.getElem?_eq_none hge] at h; cases h
    rw [hb.block g hlt]
    exact h
/-- What the library's variables hold. -/
structure PEnv (w : World) : Prop where
  asc : Tab w
  ten : Tab10 w
  mx : ∃ m : Int, w.cell? ⟨1, 0, none⟩ = some (.int .i64 m)
  syn : ∃ tp p, w.var? Tryz.prog "strconv.ErrSyntax" = some #[.iface tp p]
  rng : ∃ tp p, w.var? Tryz.prog "strconv.ErrRange" = some #[.iface tp p]
theorem PEnv.below {w w' : World} (h : PEnv w) (hb : Below w.heap.size w w') : PEnv w' := by
  obtain ⟨m, hm⟩ := h.mx
  obtain ⟨t1, p1, h1⟩ := h.syn
  obtain ⟨t2, p2, h2⟩ := h.rng
  exact ⟨h.asc.below hb, h.ten.below hb, ⟨m, (hb.cell (World.block_lt_of_cell? w _ hm)).trans hm⟩, ⟨t1, p1, var_below h1 hb⟩, ⟨t2, p2, var_below h2 hb⟩⟩
/-- Atoi: the number, whatever error. -/
theorem atoi_any (s : ByteArray) (w : World) (h : PEnv w) (hs : s.size ≤ 67108864) : Calls Tryz.prog 153 #[.string s] w fun e w' => ∃ ev, e = .returned (.tuple #[.int .i64 (atoiV s.data.toList), ev]) ∧ Below w.heap.size w w' := by
  unfold atoiV
  cases ha : Lib.atoiAll s.data.toList with
  | ok v =>
    refine (Tryz.strconv_Atoi_ok s (by omega) v ha w).mono ?_
    rintro e w' ⟨rfl, rfl | ⟨t, rfl⟩⟩
    · exact ⟨_, rfl, Below.refl _ _⟩
    · exact ⟨_, rfl, Lib.bytesWorld_below w _ _⟩
  | range =>
    obtain ⟨tp, p, hv⟩ := h.rng
    refine (Tryz.strconv_Atoi_range_var s (by omega) ha tp p w hv).mono ?_
    rintro e w' ⟨N, rfl, _, _, hb⟩
    exact ⟨_, rfl, hb⟩
  | _ =>
    obtain ⟨tp, p, hv⟩ := h.syn
    refine (Tryz.strconv_Atoi_syntax_var s (by omega) ha tp p w hv).mono ?_
    rintro e w' ⟨N, rfl, _, _, hb⟩
    exact ⟨_, rfl, hb⟩
theorem info_str : (Tryz.prog.info? 9).map (fun i => (i.zero, i.size, i.bytes)) = some (some (.string ByteArray.empty), 1, 16) := by kernel_rfl
theorem ba_of (x : ByteArray) : (⟨x.data.toList.toArray⟩ : ByteArray) = x := ByteArray.ext (by simp)
/-- Split at one byte. -/
theorem split_any (s : ByteArray) (c : UInt8) (w : World) (h : PEnv w) (hs : s.size ≤ 67108864) : Calls Tryz.prog 87 #[.string s, .string ⟨#[c]⟩] w fun e w' =>
    e = .returned (.slice (some ⟨w.heap.size, 0, none⟩) (splitC c s.data.toList).length (splitC c s.data.toList).length) ∧ (∀ k x, (splitC c s.data.toList)[k]? = some x → w'.cell? ⟨w.heap.size, k, none⟩ = some (.string ⟨x.toArray⟩)) ∧ Below w.heap.size w w' := by
  obtain ⟨m, hm⟩ := h.mx
  have h1 : 1 ≤ (⟨#[c]⟩ : ByteArray).size := Nat.le_refl _
  have hl : Lib.countB s ⟨#[c]⟩ + 1 = (splitC c s.data.toList).length := by
    rw [← splitB_one, List.length_map, Lib.splitB_all ⟨#[c]⟩ h1 0 _ s rfl]
  refine (Any.strings_Split Tryz.laysM146.ton146 info_str s ⟨#[c]⟩ m w (by omega) hm h1).mono ?_
  rintro e w' ⟨rfl, rfl⟩
  refine ⟨by rw [hl], fun k x hx => ?_, ext_alloc (Below.refl _ _) _⟩
  rw [← splitB_one, List.getElem?_map] at hx
  obtain ⟨y, hy, rfl⟩ := Option.map_eq_some_iff.1 hx
  refine (Bk.cell (bk_new w _ _) k).trans ?_
  rw [List.getElem?_toArray, List.getElem?_map, hy]
  simp only [Option.map_some]
theorem name_eq' {x y : ByteArray} : x.toList = y.toList ↔ x = y := by
  rw [ByteArray.toList_eq, ByteArray.toList_eq]; exact ⟨fun h => Go.WideShapes.bytes_inj h, fun h => by rw [h]⟩
theorem str_eqB (x y : ByteArray) : (x.toList == y.toList) = decide (x.data.toList = y.data.toList) := by
  by_cases h : x = y
  · subst h; simp
  · have h1 : (x.toList == y.toList) = false := beq_eq_false_iff_ne.2 fun e => h (name_eq'.1 e)
    rw [h1]
    symm
    rw [decide_eq_false_iff_not]
    exact fun e => h (ByteArray.ext (Array.toList_inj.1 e))
/-- opOf a word. -/
theorem look_front {wd : List UInt8} {k : Nat} (hk : k < 23) (h : ∀ j, j < k → wordL j ≠ wd) (e : wordL k = wd) : opLook wd = k := by
  have := look_word k hk
  rw [e] at this
  exact this
theorem look_none {wd : List UInt8} (h : ∀ j, j < 23 → wordL j ≠ wd) : opLook wd = -1 := by
  unfold opLook
  have : (List.range 23).find? (fun k => decide (wordL k = wd)) = none := by
    rw [List.find?_eq_none]
    intro k hk
    simpa using h k (List.mem_range.1 hk)
  rw [this]
set_option maxHeartbeats 4000000 in
theorem opofw_any (s : ByteArray) (w : World) (ht : Tab w) : Calls Tryz.prog 173 #[.string s] w fun e w' => e = .returned (.int .i64 (opLook s.data.toList)) ∧ Below w.heap.size w w' := by
  have FW := Lib.hid fields_any
  have HT := Lib.hid ht
  clear ht
  go_enter Tryz.func173, Tryz.ntmps173
  go_upto_region 2 with (go_at_call 120; ((with_reducible refine (FW.out _ (by decide +kernel) _ HT.out).mono ?_); rintro e w1 ⟨rfl, hb1, hc1⟩; have HB1 := Lib.hid hb1; have HC1 := Lib.hid hc1; clear hb1 hc1))
  have hbL : w.heap.size < w1.heap.size := World.block_lt_of_cell? w1 _ (HC1.out 0 (by decide))
  go_wp2
  go_loopw [7] (fun i wr => ∃ k : Nat, k ≤ 23 ∧ i = .int .i64 k ∧ (∀ j, j < k → wordL j ≠ s.data.toList) ∧ wr = w1) (fun i _ => 23 - (intOf i).toNat)
  case atStart => exact ⟨0, by omega, rfl, fun j hj => by omega, rfl⟩
  case round =>
    obtain ⟨k, hk, rfl, hno, rfl⟩ := hrel
    have HNO := Lib.hid hno
    clear hno
    by_cases hlt : k < 23
    · have q0 : (0 : Int) ≤ k := by omega
      have q1 : (k : Int) < 23 := by omega
      have e0 := HC1.out k hlt
      generalize hx : (⟨(wordL k).toArray⟩ : ByteArray) = x at e0
      have hxl : x.data.toList = wordL k := by rw [← hx]
      by_cases he : wordL k = s.data.toList
      · have f : (x.toList == s.toList) = true := by rw [str_eqB, hxl]; simp [he]
        have hlk := look_front hlt HNO.out he
        have HLK := Lib.hid hlk
        clear he hlk hxl hx
        go_wp2
        go_ret
        exact ⟨ret_int HLK.out.symm, HB1.out⟩
      · have f : (x.toList == s.toList) = false := by rw [str_eqB, hxl]; simp [he]
        have hn : ∀ j, j < k + 1 → wordL j ≠ s.data.toList := fun j hj => by
          rcases Nat.lt_or_ge j k with h | h
          · exact HNO.out j h
          · obtain rfl : j = k := by omega
            exact he
        have HN := Lib.hid hn
        clear he hn hxl hx
        go_wp2
        go_roundw
        case rel => exact ⟨k + 1, by omega, by go_num, HN.out, by first | rfl | trivial⟩
        case measure => simp [intOf]; omega
    · have q1 : ¬ ((k : Int) < 23) := by omega
      obtain rfl : k = 23 := by omega
      have hlk := look_none HNO.out
      have HLK := Lib.hid hlk
      clear hlk
      go_wp2
      go_ret
      exact ⟨ret_int HLK.out.symm, HB1.out⟩
end Go.Proofs.YtpjhjefjbkjhkaaGreatDoor
