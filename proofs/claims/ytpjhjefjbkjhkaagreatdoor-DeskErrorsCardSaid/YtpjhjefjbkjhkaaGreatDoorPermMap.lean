/- strings.Map at an ASCII text, at a mapping that keeps or drops; the mapping is asked at the text's own bytes alone. -/
import Derived.Shelf.Strings.MapGrows
namespace Go.Proofs.YtpjhjefjbkjhkaaGreatDoor
open Go Go.Shelf Go.RowKit Go.Lib Go.Proofs
set_option linter.unusedVariables false
set_option linter.unusedSimpArgs false
variable {P : Program} {ρ : Ren}
theorem decode_lo (s : ByteArray) (pos : Nat) (h : (s.get! pos).toNat < 128) : Utf8.decode s pos = ((s.get! pos).toNat, 1) := by
  unfold Utf8.decode
  simp only [Nat.add_zero]
  rw [if_pos h]
theorem get_lo (s : ByteArray) {k : Nat} (h : k < s.size) : s.get! k = s.data.toList[k]'(by rw [Array.length_toList]; exact h) := by
  rw [Array.getElem_toList]
  show s.data[k]! = _
  rw [getElem!_pos s.data k h]
theorem runeLen_lo {x : Int} (h0 : 0 ≤ x) (h1 : x < 128) : Lib.runeLen x = 1 := by
  unfold Lib.runeLen
  rw [if_neg (by omega), if_pos (by omega)]
def keptL (keep : Nat → Bool) (l : List UInt8) : List UInt8 := l.filter fun c => keep c.toNat
theorem keptL_app (keep : Nat → Bool) (a b : List UInt8) : keptL keep (a ++ b) = keptL keep a ++ keptL keep b := List.filter_append _ _
theorem keptL_all {keep : Nat → Bool} {l : List UInt8} (h : ∀ c ∈ l, keep c.toNat = true) : keptL keep l = l := List.filter_eq_self.2 h
theorem keptL_one (keep : Nat → Bool) (c : UInt8) : keptL keep [c] = if keep c.toNat = true then [c] else [] := by
  unfold keptL
  rw [List.filter_cons, List.filter_nil]
theorem drop_step {l : List UInt8} {p : Nat} (h : p < l.length) : l.drop p = l[p] :: l.drop (p + 1) := List.drop_eq_getElem_cons h
theorem take_step {l : List UInt8} {p : Nat} (h : p < l.length) : l.take (p + 1) = l.take p ++ [l[p]] := by rw [List.take_add_one, List.getElem?_eq_getElem h]; rfl
set_option maxHeartbeats 4000000 in
set_option maxRecDepth 1000000 in
theorem map_keeps (L : Lays.n230 P ρ) (X : Builder.Extra P ρ) (g : Nat) (lb : Array Value) (eg : ∀ args w, (callFunc g args).run P w = .ok (.enter g args) w) (keep : Nat → Bool) (s : ByteArray) (w : World) (hs : s.size ≤ 1000) (hA : ∀ c ∈ s.data.toList, c.toNat < 128)
    (hf : ∀ (W : World) (x : Nat), (∃ c ∈ s.data.toList, c.toNat = x) → Below w.heap.size w W → Calls P g (#[encR x] ++ lb) W fun e w' => e = .returned (.int .i32 (if keep x = true then (x : Int) else -1)) ∧ Below W.heap.size W w') :
    Calls P (ρ.f 230) #[.func (.func g) #[] lb, .string s] w fun e w' => e = .returned (.string ⟨(keptL keep s.data.toList).toArray⟩) ∧ Below w.heap.size w w' := by
  have t0 := L.t0; have a0 := L.a0; have z0 := L.z0; have v0 := L.v0
  have t3 := L.t3; have a3 := L.a3; have z3 := L.z3; have v3 := L.v3
  have t4 := L.t4; have a4 := L.a4; have z4 := L.z4; have v4 := L.v4
  have t5 := L.t5; have a5 := L.a5; have z5 := L.z5; have v5 := L.v5
  have t9 := L.t9; have a9 := L.a9; have z9 := L.z9; have v9 := L.v9
  have t20 := L.t20; have a20 := L.a20; have z20 := L.z20; have v20 := L.v20
  have t21 := L.t21; have a21 := L.a21; have z21 := L.z21; have v21 := L.v21
  have t37 := L.t37; have a37 := L.a37; have z37 := L.z37; have v37 := L.v37
  have t46 := L.t46; have a46 := L.a46; have z46 := L.z46; have v46 := L.v46
  have t51 := L.t51; have a51 := L.a51; have z51 := L.z51; have v51 := L.v51
  have t70 := L.t70; have a70 := L.a70; have z70 := L.z70; have v70 := L.v70
  have t72 := L.t72; have a72 := L.a72; have z72 := L.z72; have v72 := L.v72
  have t75 := L.t75; have a75 := L.a75; have z75 := L.z75; have v75 := L.v75
  have t76 := L.t76; have a76 := L.a76; have z76 := L.z76; have v76 := L.v76
  have t105 := L.t105; have a105 := L.a105; have z105 := L.z105; have v105 := L.v105
  have t107 := L.t107; have a107 := L.a107; have z107 := L.z107; have v107 := L.v107
  have t119 := L.t119; have a119 := L.a119; have z119 := L.z119
  have t127 := L.t127; have a127 := L.a127; have z127 := L.z127; have v127 := L.v127
  have t138 := L.t138; have a138 := L.a138; have z138 := L.z138; have v138 := L.v138
  have t139 := L.t139; have a139 := L.a139; have z139 := L.z139; have v139 := L.v139
  have t164 := L.t164; have a164 := L.a164; have z164 := L.z164; have v164 := L.v164
  have mixed := L.mixed
  have e118 : ∀ args w, (callFunc (ρ.f 118) args).run P w = .ok (.enter (ρ.f 118) args) w := enters_of L.f118 (by kernel_rfl) rfl
  have e165 : ∀ args w, (callFunc (ρ.f 165) args).run P w = .ok (.enter (ρ.f 165) args) w := enters_of L.f165 (by kernel_rfl) rfl
  have e166 : ∀ args w, (callFunc (ρ.f 166) args).run P w = .ok (.enter (ρ.f 166) args) w := enters_of L.f166 (by kernel_rfl) rfl
  have e167 : ∀ args w, (callFunc (ρ.f 167) args).run P w = .ok (.enter (ρ.f 167) args) w := enters_of L.f167 (by kernel_rfl) rfl
  have e169 : ∀ args w, (callFunc (ρ.f 169) args).run P w = .ok (.enter (ρ.f 169) args) w := enters_of L.f169 (by kernel_rfl) rfl
  have e270 : ∀ args w, (callFunc (ρ.f 270) args).run P w = .ok (.enter (ρ.f 270) args) w := enters_of L.f270 (by kernel_rfl) rfl
  have hlen : s.data.toList.length = s.size := (Lib.size_eq s).symm
  obtain ⟨l, hl⟩ : ∃ l, s.data.toList = l := ⟨_, rfl⟩
  rw [hl] at hlen hA hf ⊢
  have hget : ∀ k (h : k < l.length), (s.get! k).toNat = (l[k]).toNat := fun k h => by
    subst hl
    rw [get_lo s (by omega)]
  obtain ⟨ANS, hANS⟩ : ∃ ANS, keptL keep l = ANS := ⟨_, rfl⟩
  rw [hANS]
  have HANS : Aside (keptL keep l = ANS) := hANS
  clear hANS
  go_enter L.f230, Body.n230_ntmps ρ
  go_wp2
  go_loopg [1] s.size (fun gk s1 wx => s1 = .string s ∧ ∃ pos : Nat, wx.heap[w.heap.size]? = some (.cells #[.pointer none, .slice none 0 0] (ρ.t 72) (0, 0)) ∧ wx.heap[w.heap.size + 1]? = some (.stringIter s pos) ∧ Below w.heap.size w wx ∧
    (∀ c ∈ l.take pos, keep c.toNat = true) ∧ s.size ≤ pos + gk ∧ pos ≤ s.size)
  case atStart =>
    refine ⟨rfl, 0, ?_, ?_, ((Below.refl _ w).alloc (Nat.le_refl _) _).alloc (by simp) _, by simp, by omega, by omega⟩
    · have h1 := heap_alloc_new w (.cells #[.pointer none, .slice none 0 0] (ρ.t 72))
      exact (Below.heap_alloc _ _ _ (by simp)).trans h1
    · have := World.iter_heap (w.alloc (.cells #[.pointer none, .slice none 0 0] (ρ.t 72))) s 0
      simpa using this
  case round =>
    obtain ⟨rfl, pos, hfr, hit, hbw, hsp, hfu, hps⟩ := hrel
    by_cases hlt : pos < s.size
    · obtain ⟨g', rfl⟩ : ∃ g', gk = g' + 1 := ⟨gk - 1, by omega⟩
      have hnx : ∀ ty, (Instr.next (.pointer (some ⟨w.heap.size + 1, 0, none⟩)) true ty).run P wr = _ := fun ty => Lib.run_next_any_at wr (w.heap.size + 1) s pos ty hit hlt
      have hll : pos < l.length := by omega
      have hmem : l[pos] ∈ l := List.getElem_mem hll
      have hx := hA _ hmem
      have hdec : Utf8.decode s pos = ((l[pos]).toNat, 1) := by
        rw [← hget pos hll]
        exact decode_lo s pos (by rw [hget pos hll]; exact hx)
      have htk := take_step hll
      have hdk := drop_step hll
      obtain ⟨c, hc⟩ : ∃ c, l[pos] = c := ⟨_, rfl⟩
      rw [hc] at hmem hx hdec htk hdk
      rw [hdec] at hnx
      have hit2 := Lib.iterAt_heap wr (w.heap.size + 1) s pos (pos + 1) hit
      have hbw2 := Lib.below_iterAt hbw (k := w.heap.size + 1) (by omega) s (pos + 1)
      have hfr2 : (wr.iterAt (w.heap.size + 1) s (pos + 1)).heap[w.heap.size]? = _ := (Lib.iterAt_other wr (w.heap.size + 1) w.heap.size s (pos + 1) (by omega)).trans hfr
      obtain ⟨W, hWd⟩ : ∃ W, wr.iterAt (w.heap.size + 1) s (pos + 1) = W := ⟨_, rfl⟩
      simp only at hnx
      rw [hWd] at hnx hit2 hbw2 hfr2
      have cS : Calls P g (#[.int .i32 (c.toNat : Int)] ++ lb) W _ := hf W c.toNat ⟨c, hmem, rfl⟩ hbw2
      have hszW : w.heap.size + 1 < W.heap.size := (Array.getElem?_eq_some_iff.1 hit2).1
      obtain ⟨x, hxd⟩ : ∃ x, c.toNat = x := ⟨_, rfl⟩
      rw [hxd] at cS hx hnx
      clear hit hbw hfr hWd hdec
      have x5 : ¬ ((x : Int) = 65533) := by omega
      have x6 : ((x : Int) == 65533) = false := by simp; omega
      have x7 : ((x : Int) != 65533) = true := by simp; omega
      cases hk : keep x with
      | true =>
        rw [hk, if_pos rfl] at cS
        have q1 : ((x : Int) == (x : Int)) = true := by simp
        go_wp2_with (go_at_fn g; go_must (refine cS.mono ?_; rintro e W' ⟨rfl, hbc⟩))
        go_roundg g'
        case measure => omega
        case rel =>
          refine ⟨rfl, pos + 1, (hbc.block _ (by omega)).trans hfr2, (hbc.block _ (by omega)).trans hit2, hbw2.trans (hbc.mono hbw2.size), ?_, by omega, by omega⟩
          rw [htk]
          intro y hy
          rcases List.mem_append.1 hy with h | h
          · exact hsp y h
          · rw [List.mem_singleton.1 h, hxd]; exact hk
      | false =>
        rw [hk, if_neg (by decide)] at cS
        have q1 : ((-1 : Int) == (x : Int)) = false := beq_false_of_ne (by omega)
        have q2 : ¬ ((-1 : Int) = (x : Int)) := by omega
        have cR := fun W => Any.utf8_RuneLen { L with } (x : Int) W
        rw [runeLen_lo (by omega) (by omega)] at cR
        have hxs : (s.extract 0 pos).size = pos := by rw [Lib.size_eq, Lib.extract_data, List.length_take, List.length_drop, hl]; omega
        have hxd2 : (s.extract 0 pos).data.toList = l.take pos := by rw [Lib.extract_data, hl]; simp
        go_wp2_with (first
          | (go_at_fn g; go_must (refine cS.mono ?_; rintro e W' ⟨rfl, hbc⟩))
          | (go_at_fn (ρ.f 118); go_must (refine (cR _).mono ?_; rintro e W3 ⟨rfl, hW3⟩; subst W3))
          | (go_at_fn (ρ.f 165); go_must (go_fit (Any.Builder_Grow_fresh_cap { L with } X w.heap.size w.heap.size (s.size + 4) W' (Nat.le_refl _) ((hbc.block _ (by omega)).trans hfr2) (hbw2.trans (hbc.mono hbw2.size)).size (by omega)); rintro e W4 ⟨rfl, ⟨h4, b4⟩, p4, cap4, hc4, hcap4⟩)))
        have hbC : Below w.heap.size w W' := hbw2.trans (hbc.mono hbw2.size)
        refine (Any.Builder_WriteString_kc { L with } X w.heap.size w.heap.size [] (s.extract 0 pos) W4 (Lib.IsBuilderF.of (Or.inr h4)) (by rw [hxs, List.length_nil]; omega) (Nat.le_trans hbC.size b4.size)).mono ?_
        rintro e W5 ⟨rfl, ⟨h5w, b5, -⟩, hk5⟩
        obtain ⟨v5, hv5, hcap5⟩ := hk5 _ hc4
        have hcap5' : 4 ≤ v5.capOf := by
          have : cap4 ≤ v5.capOf := hcap5
          omega
        have HV5 : Aside (W5.cell? ⟨w.heap.size, 1, none⟩ = some v5) := hv5
        clear hc4 hk5 hv5 hcap5
        have hb6 : Below w.heap.size w W5 := (hbC.trans b4).trans b5
        have hcells : [] ++ Lib.strCells (s.extract 0 pos) = Lib.byteCells (l.take pos) := by rw [List.nil_append, Lib.strCells_eq, hxd2]
        have h6w := h5w
        rw [hcells] at h6w
        obtain ⟨g6, cap6, hc6, hcap6⟩ : ∃ g6 cap6, W5.cell? ⟨w.heap.size, 1, none⟩ = some (.slice (some ⟨g6, 0, none⟩) (Lib.byteCells (l.take pos)).length cap6) ∧ 1 ≤ cap6 := by
          obtain ⟨_, v6, hv6, hown6, _⟩ := h6w
          have e6 : v6 = v5 := by
            have h1 : W5.cell? ⟨w.heap.size, 1, none⟩ = some v6 := by rw [Lib.cell_of_heap hv6]; rfl
            exact Option.some.inj (h1.symm.trans HV5.out)
          rcases hown6.2 with ⟨h0, _⟩ | ⟨g6, cap6, _, _, rfl, _, _, _, hnc, _⟩
          · rw [← e6, h0] at hcap5'
            simp [Value.capOf] at hcap5'
          · refine ⟨g6, cap6, by rw [Lib.cell_of_heap hv6]; rfl, ?_⟩
            rw [← e6] at hcap5'
            have : 4 ≤ cap6 := hcap5'
            omega
        clear HV5 hcap5' h5w
        have hcapz : ¬ ((cap6 : Int) = 0) := by omega
        have hcapb : ((cap6 : Int) == 0) = false := by simp; omega
        go_wp2
        refine (Any.Builder_Cap_cell { L with } w.heap.size _ _ cap6 W5 hc6).mono ?_
        rintro e W6' ⟨rfl, rfl⟩
        obtain ⟨s2, hs2⟩ : ∃ s2, s.extract (pos + 1) s.size = s2 := ⟨_, rfl⟩
        have hl2 : s2.data.toList = l.drop (pos + 1) := by
          rw [← hs2, Lib.extract_data, hl, List.take_of_length_le (by rw [List.length_drop]; omega)]
        have hz2 : s2.size = s.size - (pos + 1) := by rw [Lib.size_eq, hl2, List.length_drop, hlen]
        have hpk : ((pos : Int) + 1).toNat = pos + 1 := by omega
        obtain ⟨l2, hl2'⟩ : ∃ l2, l.drop (pos + 1) = l2 := ⟨_, rfl⟩
        rw [hl2'] at hl2
        have hlen2 : l2.length = s2.size := by rw [← hl2]; exact (Lib.size_eq s2).symm
        have hA2 : ∀ c ∈ l2, c ∈ l := fun c h => List.mem_of_mem_drop (hl2' ▸ h)
        have hget2 : ∀ k (h : k < l2.length), (s2.get! k).toNat = (l2[k]).toNat := fun k h => by
          subst hl2
          rw [get_lo s2 (by omega)]
        have hans : keptL keep l = l.take pos ++ keptL keep l2 := by
          conv => lhs; rw [← List.take_append_drop pos l]
          rw [keptL_app, keptL_all hsp, hdk, hl2', show c :: l2 = [c] ++ l2 from rfl, keptL_app, keptL_one, hxd, hk]
          rfl
        rw [HANS.out] at hans
        go_wp2
        go_loopg [] s2.size (fun gk wx => ∃ (p2 : Nat) (acc : List UInt8), Lib.IsBuilderF (ρ.t 72) (ρ.t 5) w.heap.size w.heap.size (Lib.byteCells acc) wx ∧ wx.heap[W6'.heap.size]? = some (.stringIter s2 p2) ∧ Below w.heap.size w wx ∧
          acc ++ keptL keep (l2.drop p2) = ANS ∧ s2.size ≤ p2 + gk ∧ p2 ≤ s2.size ∧ acc.length ≤ 1000 + p2)
        case atStart =>
          refine ⟨0, l.take pos, Lib.IsBuilderF.alloc (Or.inr h6w) _, World.iter_heap W6' s2 0, hb6.alloc hb6.size _, ?_, by omega, by omega, ?_⟩
          · rw [List.drop_zero]; exact hans.symm
          · rw [List.length_take]; omega
        case round =>
          obtain ⟨p2, acc, hI, hit, hbw, hacc, hfu2, hp2, hal⟩ := hrel
          have hszI : W6'.heap.size < wr.heap.size := (Array.getElem?_eq_some_iff.1 hit).1
          have hBI : w.heap.size ≤ W6'.heap.size := hb6.size
          have hBlt : w.heap.size < W6'.heap.size := h6w.lt
          by_cases hlt2 : p2 < s2.size
          · obtain ⟨g2, rfl⟩ : ∃ g2, gk = g2 + 1 := ⟨gk - 1, by omega⟩
            have hnx : ∀ ty, (Instr.next (.pointer (some ⟨W6'.heap.size, 0, none⟩)) true ty).run P wr = _ := fun ty => Lib.run_next_any_at wr W6'.heap.size s2 p2 ty hit hlt2
            have hll2 : p2 < l2.length := by omega
            have hmem2 : l2[p2] ∈ l := hA2 _ (List.getElem_mem hll2)
            have hx2 := hA _ hmem2
            have hdec2 : Utf8.decode s2 p2 = ((l2[p2]).toNat, 1) := by
              rw [← hget2 p2 hll2]
              exact decode_lo s2 p2 (by rw [hget2 p2 hll2]; exact hx2)
            have hdk2 := drop_step hll2
            obtain ⟨c2, hc2⟩ : ∃ c, l2[p2] = c := ⟨_, rfl⟩
            rw [hc2] at hmem2 hx2 hdec2 hdk2
            rw [hdec2] at hnx
            have hI2 := hI.iterAt hit (p2 + 1)
            have hit2 := Lib.iterAt_heap wr W6'.heap.size s2 p2 (p2 + 1) hit
            have hbw2 := Lib.below_iterAt hbw (k := W6'.heap.size) hBI s2 (p2 + 1)
            have hsz2 : w.heap.size ≤ (wr.iterAt W6'.heap.size s2 (p2 + 1)).heap.size := by rw [Lib.iterAt_size]; omega
            obtain ⟨Wa, hWa⟩ : ∃ Wa, wr.iterAt W6'.heap.size s2 (p2 + 1) = Wa := ⟨_, rfl⟩
            simp only at hnx
            rw [hWa] at hnx hI2 hit2 hbw2 hsz2
            have cS2 : Calls P g (#[.int .i32 (c2.toNat : Int)] ++ lb) Wa _ := hf Wa c2.toNat ⟨c2, hmem2, rfl⟩ hbw2
            have hszA : W6'.heap.size < Wa.heap.size := (Array.getElem?_eq_some_iff.1 hit2).1
            have hacc2 : acc ++ (keptL keep [c2] ++ keptL keep (l2.drop (p2 + 1))) = ANS := by
              rw [← hacc, hdk2, ← keptL_app]; rfl
            rw [keptL_one] at hacc2
            obtain ⟨x2, hxd2'⟩ : ∃ x, c2.toNat = x := ⟨_, rfl⟩
            rw [hxd2'] at cS2 hx2 hnx hacc2
            clear hit hbw hI hWa hdec2 hacc hans
            cases hk2 : keep x2 with
            | false =>
              rw [hk2, if_neg (by decide)] at cS2 hacc2
              go_wp2_with (go_at_fn g; go_must (refine cS2.mono ?_; rintro e W' ⟨rfl, hbc2⟩))
              go_roundg g2
              case measure => omega
              case rel => exact ⟨p2 + 1, acc, hI2.below hbc2, (hbc2.block _ hszA).trans hit2, hbw2.trans (hbc2.mono hbw2.size), hacc2, by omega, by omega, by omega⟩
            | true =>
              rw [hk2, if_pos rfl] at cS2 hacc2
              have m0 : ¬ ((x2 : Int) < 0) := by omega
              have m1 : (x2 : Int) < 128 := by omega
              have m2 : IntKind.u8.wrap (x2 : Int) = x2 := by unfold IntKind.wrap; simp [IntKind.bits, IntKind.signed]; omega
              go_wp2_with (go_at_fn g; go_must (refine cS2.mono ?_; rintro e W' ⟨rfl, hbc2⟩))
              refine (Any.Builder_WriteByte_k { L with } X w.heap.size w.heap.size _ (x2 : Int) W' (hI2.below hbc2) (by rw [Lib.byteCells_length]; omega) (Nat.le_trans hsz2 hbc2.size)).mono ?_
              rintro e W7 ⟨rfl, h7, b7, k7⟩
              go_wp2
              go_roundg g2
              case measure => omega
              case rel =>
                refine ⟨p2 + 1, acc ++ [c2], Or.inr ?_, k7.iter ((hbc2.block _ hszA).trans hit2) (by omega), (hbw2.trans (hbc2.mono hbw2.size)).trans b7, by rw [List.append_assoc]; exact hacc2, by omega, by omega, by rw [List.length_append, List.length_singleton]; omega⟩
                rw [Lib.byteCells_append]
                rw [← hxd2'] at h7
                exact h7
          · obtain rfl : p2 = s2.size := by omega
            have hnx : ∀ ty, (Instr.next (.pointer (some ⟨W6'.heap.size, 0, none⟩)) true ty).run P wr = _ := fun ty => Lib.run_next_end_at wr W6'.heap.size s2 s2.size ty hit hlt2
            go_wp2
            refine (Any.Builder_String_any_f { L with } X w.heap.size w.heap.size acc wr hI (by omega)).mono ?_
            rintro e W8 ⟨rfl, _, b8⟩
            go_wp2
            go_ret
            refine ⟨?_, hbw.trans b8⟩
            rw [← hlen2, List.drop_length] at hacc
            have e0 : keptL keep [] = [] := rfl
            rw [e0, List.append_nil] at hacc
            rw [hacc]
            rfl
    · obtain rfl : pos = s.size := by omega
      have hnx : ∀ ty, (Instr.next (.pointer (some ⟨w.heap.size + 1, 0, none⟩)) true ty).run P wr = _ := fun ty => Lib.run_next_end_at wr (w.heap.size + 1) s s.size ty hit hlt
      have cC := Any.Builder_Cap_cell { L with } w.heap.size none 0 0 wr (by rw [Lib.cell_of_heap hfr]; rfl)
      go_wp2_with (go_at_fn (ρ.f 270); go_must (refine cC.mono ?_; rintro e W' ⟨rfl, rfl⟩))
      go_ret
      refine ⟨?_, hbw⟩
      rw [← hlen, List.take_length] at hsp
      have e := HANS.out
      rw [keptL_all hsp, ← hl] at e
      rw [← e]
      rfl
end Go.Proofs.YtpjhjefjbkjhkaaGreatDoor
