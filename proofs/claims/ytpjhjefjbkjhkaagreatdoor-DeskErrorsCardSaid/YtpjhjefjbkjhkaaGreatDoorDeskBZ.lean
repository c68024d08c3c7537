import Derived.Test.YtpjhjefjbkjhkaaGreatDoorDeskAZ
import Derived.Test.YtpjhjefjbkjhkaaGreatDoorElStrZ
import Derived.Test.YtpjhjefjbkjhkaaGreatDoorKeysOpsZ
import Derived.Test.YtpjhjefjbkjhkaaGreatDoorKeysSealZ
/- What by, sealer and its closure compute. -/
namespace Go.Proofs.YtpjhjefjbkjhkaaGreatDoor
open Go Go.RowKit Go.Shelf
set_option linter.unusedVariables false
set_option linter.unusedSimpArgs false
abbrev bysL (l : List ByteArray) : List Bys := l.map fun s => s.data.toList
theorem DeskPost.from {g : Nat} {w W w' : World} {r : DeskR} {e : Ending} (hf : FrD g w W) (h : DeskPost g W r e w') : DeskPost g w r e w' := by
  obtain ⟨o, h1, h2, h3, h4⟩ := h
  exact ⟨o, h1, h2, h3, hf.trans h4⟩
theorem numB_i64 {l : List UInt8} (h : numB l = true) : I64 (atoiV l) := by
  have h2 : -2147483648 ≤ atoiV l ∧ atoiV l ≤ 2147483647 := by
    unfold numB at h
    simp [num32B] at h
    exact h.2
  constructor <;> omega
set_option maxHeartbeats 4000000 in
theorem deskby_any (g : Nat) (k0 : KeyV) (ao : Option Addr) (n c : Nat) (l : List ByteArray) (w : World) (he : PEnv w) (hg : Bk w g 153 (deskC k0)) (henv : ∀ W, FrD g w W → PEnv W) (hl : Sl w ao n l) (hs : ∀ s ∈ l, s.size ≤ 1000)
    (f : Nat) (lb : Array Value) (eg : ∀ args w, (callFunc f args).run Tryz.prog w = .ok (.enter f args) w) (Fn : KeyV → Int → KeyV × Int) (hwf : ∀ v, I64 v → (Fn k0 v).1.wf)
    (hF : ∀ v W, I64 v → FrD g w W → Calls Tryz.prog f (#[k0.val, .int .i64 v] ++ lb) W fun e w' => e = .returned (KeyV.res (Fn k0 v)) ∧ Below W.heap.size W w') :
    Calls Tryz.prog 132 #[.pointer (some ⟨g, 0, none⟩), .slice ao n c, .func (.func f) #[] lb] w (DeskPost g w (byF k0 (bysL l) Fn)) := by
  have hln := hl.len
  by_cases h1 : n = 1
  · subst h1
    obtain ⟨s, rfl⟩ : ∃ s, l = [s] := by
      match l, hln with
      | [s], _ => exact ⟨s, rfl⟩
    obtain ⟨ad, rfl, hbk, hel⟩ := sl_str (i := 0) (x := s) hl (by decide) rfl
    rw [show ad.add 0 = ad by unfold Addr.add; rfl] at hbk hel
    have nm := number_any s w he (by have := hs s (by simp); omega)
    have eB : byF k0 (bysL [s]) Fn = if numB s.data.toList = true then keepF k0 (Fn k0 (atoiV s.data.toList)) else ⟨k0, [], 3⟩ := by
      unfold byF bysL
      simp
    rw [eB]
    have NM := Lib.hid nm
    have HG := Lib.hid hg
    have HEN := Lib.hid henv
    have HWF := Lib.hid hwf
    have HFF := Lib.hid hF
    clear nm hg henv hwf hF eB hs hl hln
    cases hb : numB s.data.toList with
    | false =>
      rw [hb] at NM
      simp only [Bool.false_eq_true, if_false]
      go_enter Tryz.func132, Tryz.ntmps132
      go_wp2_with (go_at_call 138; ((with_reducible refine NM.out.mono ?_); rintro e w1 ⟨v, rfl, hv, hb1⟩; have HB1 := Lib.hid hb1; clear hb1))
      go_ret2
      exact ⟨_, rfl, fun h => (by cases h), bk_keep HB1.out HG.out, FrD.of HB1.out⟩
    | true =>
      have hi := numB_i64 hb
      rw [hb] at NM
      simp only [if_true]
      obtain ⟨v0, hv0⟩ : ∃ v0, atoiV s.data.toList = v0 := ⟨_, rfl⟩
      rw [hv0] at NM hi ⊢
      have hw1 := HWF.out v0 hi
      have ff := fun W (hW : FrD g w W) => HFF.out v0 W hi hW
      obtain ⟨⟨⟨p, b, len, a, s5⟩, er⟩, hr⟩ : ∃ r, Fn k0 v0 = r := ⟨_, rfl⟩
      rw [hr] at hw1 ff ⊢
      unfold KeyV.res at ff
      simp only at hw1 ff
      obtain ⟨p0, b0, l0, a0, s0⟩ := k0
      unfold KeyV.val at ff
      simp only at ff
      have FF := Lib.hid ff
      have HI := Lib.hid hi
      clear ff hr HFF HWF hv0 hb hi
      obtain ⟨R, hR⟩ : ∃ R, keepF ⟨p0, b0, l0, a0, s0⟩ (⟨p, b, len, a, s5⟩, er) = R := ⟨_, rfl⟩
      have kp : ∀ W, FrD g w W → Bk W g 153 (deskC ⟨p0, b0, l0, a0, s0⟩) → Calls Tryz.prog 137 #[.pointer (some ⟨g, 0, none⟩), .agg #[.int .i64 p, .int .i64 b, .int .i64 len, .int .i64 a, .int .i64 s5], .int .i64 er] W (DeskPost g W R) := fun W hW hb => by
        rw [← hR]
        exact keep_any g ⟨p0, b0, l0, a0, s0⟩ ⟨p, b, len, a, s5⟩ er hw1 W (HEN.out _ hW) hb fun W2 h2 => HEN.out _ (hW.trans h2)
      have KP := Lib.hid kp
      rw [hR]
      clear kp hR hw1
      have G0 := HG.out
      unfold deskC at G0
      obtain ⟨z0, z1, z2, z3, z4⟩ := cells5D G0
      have zL := G0.lt
      go_enter Tryz.func132, Tryz.ntmps132
      go_upto_region 4 with (go_at_call 138; ((with_reducible refine NM.out.mono ?_); rintro e w1 ⟨v, rfl, hv, hb1⟩; obtain rfl := hv rfl; have HB1 := Lib.hid hb1; have G1 := Lib.hid (bk_keep hb1 HG.out); clear hb1 hv))
      clear z0 z1 z2 z3 z4 zL G0
      have G0 := G1.out
      unfold deskC at G0
      obtain ⟨z0, z1, z2, z3, z4⟩ := cells5D G0
      have zL := G0.lt
      go_wp2_with (first
        | (go_at_fn f; ((with_reducible refine (FF.out _ (FrD.of HB1.out)).mono ?_); rintro e w2 ⟨rfl, hb2⟩; have F2 := Lib.hid ((FrD.of HB1.out (g := g)).trans (FrD.of hb2)); have G2 := Lib.hid (bk_keep hb2 G1.out); clear hb2))
        | (go_at_call 137; ((with_reducible refine (KP.out _ F2.out G2.out).mono ?_); rintro e w3 ⟨o, rfl, ho, hb3, hf3⟩)))
      go_ret2
      exact ⟨o, rfl, ho, hb3, F2.out.trans hf3⟩
  · have q1 : ((n : Int) != 1) = true := by simp; omega
    have eB : byF k0 (bysL l) Fn = ⟨k0, [], 3⟩ := by
      unfold byF bysL
      rw [if_neg (by rw [List.length_map]; omega)]
    rw [eB]
    go_enter Tryz.func132, Tryz.ntmps132
    go_wp2
    go_ret2
    exact ⟨_, rfl, fun h => (by cases h), hg, FrD.of (Below.refl _ _)⟩
theorem sealer_seal (w : World) : Calls Tryz.prog 131 #[.func (.func 43) #[] #[]] w fun e w' => e = .returned (.func (.func 172) #[] #[.pointer (some ⟨w.heap.size, 0, none⟩)]) ∧ w'.cell? ⟨w.heap.size, 0, none⟩ = some (.func (.func 43) #[] #[]) ∧ Below w.heap.size w w' := by
  have hmf : ∀ (fn : Fn) (first cap : Array Value) (w : World), (Instr.makeFunc fn first cap).run Tryz.prog w = .ok (.func fn first cap) w := fun _ _ _ _ => rfl
  go_enter Tryz.func131, Tryz.ntmps131
  go_wp2
  go_ret
  exact ⟨rfl, by simp, ext_alloc (Below.refl _ _) _⟩
theorem sealer_open (w : World) : Calls Tryz.prog 131 #[.func (.func 46) #[] #[]] w fun e w' => e = .returned (.func (.func 172) #[] #[.pointer (some ⟨w.heap.size, 0, none⟩)]) ∧ w'.cell? ⟨w.heap.size, 0, none⟩ = some (.func (.func 46) #[] #[]) ∧ Below w.heap.size w w' := by
  have hmf : ∀ (fn : Fn) (first cap : Array Value) (w : World), (Instr.makeFunc fn first cap).run Tryz.prog w = .ok (.func fn first cap) w := fun _ _ _ _ => rfl
  go_enter Tryz.func131, Tryz.ntmps131
  go_wp2
  go_ret
  exact ⟨rfl, by simp, ext_alloc (Below.refl _ _) _⟩
theorem byK_wf (v : Int) (h : I64 v) : KeyV.wf ⟨127, 0, 64, v, 0⟩ := by
  obtain ⟨h1, h2⟩ := h
  refine ⟨⟨?_, ?_⟩, ⟨?_, ?_⟩, ⟨?_, ?_⟩, ⟨?_, ?_⟩, ⟨?_, ?_⟩⟩ <;> (simp only; omega)
theorem zero_wf : zeroK.wf := ⟨⟨by decide, by decide⟩, ⟨by decide, by decide⟩, ⟨by decide, by decide⟩, ⟨by decide, by decide⟩, ⟨by decide, by decide⟩⟩
theorem results_row2D {P : Program} {fn : Func} {p q : Tmp} {ty : TypeId} (h : fn.results = #[.cell p ty, .tmp q]) (tmps : Array Value) (w : World) (g : Nat) (t : TypeId) (cs : Array Value) (fr : Nat × Nat) (d : TypeDesc)
    (hp : tmps.getD p undef = .pointer (some ⟨g, 0, none⟩)) (hg : w.heap[g]? = some (.cells cs t fr))
    (hu : P.underlying ty = some d) (hd : (match d with | .struct _ | .array _ _ => true | _ => false) = true) (hi : (P.info? ty).map (·.size) = some cs.size) :
    (results fn tmps).run P w = .ok (.tuple #[.agg cs, tmps.getD q undef]) w := by
  have hp' : tmps[p]?.getD undef = .pointer (some ⟨g, 0, none⟩) := by simpa using hp
  simp [results, h, hp', asAddr, run_loadVar_row w g t ty cs fr d hg hu hd hi]
set_option maxHeartbeats 4000000 in
theorem sealed_seal (k : KeyV) (hk : k.wf) (v : Int) (hv : I64 v) (g : Nat) (w : World) (hg : w.cell? ⟨g, 0, none⟩ = some (.func (.func 43) #[] #[])) :
    Calls Tryz.prog 172 #[k.val, .int .i64 v, .pointer (some ⟨g, 0, none⟩)] w fun e w' => e = .returned (KeyV.res (sealerF sealF k v)) ∧ Below w.heap.size w w' := by
  obtain ⟨p, b, l, a, s⟩ := k
  obtain ⟨⟨⟨p2, b2, l2, a2, s2⟩, er⟩, hr⟩ : ∃ r, sealF ⟨p, b, l, a, s⟩ ⟨127, 0, 64, v, 0⟩ = r := ⟨_, rfl⟩
  have sk := fun W => seal_any p b l a s 127 0 64 v 0 hk (byK_wf v hv) W
  rw [hr] at sk
  unfold KeyV.res at sk
  simp only at sk
  have eS : sealerF sealF ⟨p, b, l, a, s⟩ v = (⟨p2, b2, l2, a2, s2⟩, er) := by unfold sealerF; exact hr
  rw [eS]
  have hgl := World.block_lt_of_cell? w _ hg
  obtain ⟨w1, hw1⟩ : ∃ w1, w1 = (w.alloc (.cells #[.int .i64 p, .int .i64 b, .int .i64 l, .int .i64 a, .int .i64 s] 66)).alloc (.cells #[.int .i64 0, .int .i64 0, .int .i64 0, .int .i64 0, .int .i64 0] 66) := ⟨_, rfl⟩
  have b1 : Below w.heap.size w w1 := by rw [hw1]; exact ext_alloc (ext_alloc (Below.refl _ _) _) _
  have k1 : Bk w1 w.heap.size 66 #[.int .i64 p, .int .i64 b, .int .i64 l, .int .i64 a, .int .i64 s] := by rw [hw1]; exact bk_old _ (bk_new _ _ _)
  have r1 : Bk w1 (w.heap.size + 1) 66 #[.int .i64 0, .int .i64 0, .int .i64 0, .int .i64 0, .int .i64 0] := by
    rw [hw1]
    have h := bk_new (w.alloc (.cells #[.int .i64 p, .int .i64 b, .int .i64 l, .int .i64 a, .int .i64 s] 66)) 66 #[.int .i64 0, .int .i64 0, .int .i64 0, .int .i64 0, .int .i64 0]
    rw [World.size_alloc] at h
    exact h
  have c1 := (b1.cell hgl).trans hg
  have HW1 := Lib.hid hw1
  have HB1 := Lib.hid b1
  have K1 := Lib.hid k1
  have R1 := Lib.hid r1
  have SK := Lib.hid sk
  obtain ⟨z0, z1, z2, z3, z4⟩ := cells5D k1
  have zL := k1.lt
  clear hw1 b1 k1 r1 sk hr eS hg hk
  show Calls Tryz.prog 172 #[.agg #[.int .i64 p, .int .i64 b, .int .i64 l, .int .i64 a, .int .i64 s], .int .i64 v, .pointer (some ⟨g, 0, none⟩)] w _
  go_enter Tryz.func172, Tryz.ntmps172
  go_upto_region 1 with (fail)
  rw [← HW1.out]
  go_wp2_with (first
    | (go_at_call 43; ((with_reducible refine (SK.out _).mono ?_); rintro e w2 ⟨rfl, hb2⟩; have HB2 := Lib.hid hb2; have R2 := Lib.hid (bk_keep hb2 R1.out); clear hb2))
    | (refine wpList_store_rowTo rfl 66 (.tmp 5) (.tmp 12) rfl rfl (w.heap.size + 1) #[.int .i64 p2, .int .i64 b2, .int .i64 l2, .int .i64 a2, .int .i64 s2] rfl rfl 66 _ R2.out (by kernel_rfl) rfl (by kernel_rfl) ?_))
  refine bodyPost_ret (results_row2D (g := w.heap.size + 1) (t := 66) (cs := #[.int .i64 p2, .int .i64 b2, .int .i64 l2, .int .i64 a2, .int .i64 s2]) (fr := (0, 0)) rfl _ _ _ rfl (bk_setRowD R2.out _) Tryz.underlying66 rfl (by kernel_rfl)) rfl ?_
  exact ⟨rfl, ((FrD.of (ext_trans HB1.out HB2.out)).trans (FrD.setRow (g := w.heap.size + 1) _ _)).below (Nat.le_succ _) (Nat.le_refl _)⟩
set_option maxHeartbeats 4000000 in
theorem sealed_open (k : KeyV) (hk : k.wf) (v : Int) (hv : I64 v) (g : Nat) (w : World) (hg : w.cell? ⟨g, 0, none⟩ = some (.func (.func 46) #[] #[])) :
    Calls Tryz.prog 172 #[k.val, .int .i64 v, .pointer (some ⟨g, 0, none⟩)] w fun e w' => e = .returned (KeyV.res (sealerF openF k v)) ∧ Below w.heap.size w w' := by
  obtain ⟨p, b, l, a, s⟩ := k
  obtain ⟨⟨⟨p2, b2, l2, a2, s2⟩, er⟩, hr⟩ : ∃ r, openF ⟨p, b, l, a, s⟩ ⟨127, 0, 64, v, 0⟩ = r := ⟨_, rfl⟩
  have sk := fun W => open_any p b l a s 127 0 64 v 0 hk (byK_wf v hv) W
  rw [hr] at sk
  unfold KeyV.res at sk
  simp only at sk
  have eS : sealerF openF ⟨p, b, l, a, s⟩ v = (⟨p2, b2, l2, a2, s2⟩, er) := by unfold sealerF; exact hr
  rw [eS]
  have hgl := World.block_lt_of_cell? w _ hg
  obtain ⟨w1, hw1⟩ : ∃ w1, w1 = (w.alloc (.cells #[.int .i64 p, .int .i64 b, .int .i64 l, .int .i64 a, .int .i64 s] 66)).alloc (.cells #[.int .i64 0, .int .i64 0, .int .i64 0, .int .i64 0, .int .i64 0] 66) := ⟨_, rfl⟩
  have b1 : Below w.heap.size w w1 := by rw [hw1]; exact ext_alloc (ext_alloc (Below.refl _ _) _) _
  have k1 : Bk w1 w.heap.size 66 #[.int .i64 p, .int .i64 b, .int .i64 l, .int .i64 a, .int .i64 s] := by rw [hw1]; exact bk_old _ (bk_new _ _ _)
  have r1 : Bk w1 (w.heap.size + 1) 66 #[.int .i64 0, .int .i64 0, .int .i64 0, .int .i64 0, .int .i64 0] := by
    rw [hw1]
    have h := bk_new (w.alloc (.cells #[.int .i64 p, .int .i64 b, .int .i64 l, .int .i64 a, .int .i64 s] 66)) 66 #[.int .i64 0, .int .i64 0, .int .i64 0, .int .i64 0, .int .i64 0]
    rw [World.size_alloc] at h
    exact h
  have c1 := (b1.cell hgl).trans hg
  have HW1 := Lib.hid hw1
  have HB1 := Lib.hid b1
  have K1 := Lib.hid k1
  have R1 := Lib.hid r1
  have SK := Lib.hid sk
  obtain ⟨z0, z1, z2, z3, z4⟩ := cells5D k1
  have zL := k1.lt
  clear hw1 b1 k1 r1 sk hr eS hg hk
  show Calls Tryz.prog 172 #[.agg #[.int .i64 p, .int .i64 b, .int .i64 l, .int .i64 a, .int .i64 s], .int .i64 v, .pointer (some ⟨g, 0, none⟩)] w _
  go_enter Tryz.func172, Tryz.ntmps172
  go_upto_region 1 with (fail)
  rw [← HW1.out]
  go_wp2_with (first
    | (go_at_call 46; ((with_reducible refine (SK.out _).mono ?_); rintro e w2 ⟨rfl, hb2⟩; have HB2 := Lib.hid hb2; have R2 := Lib.hid (bk_keep hb2 R1.out); clear hb2))
    | (refine wpList_store_rowTo rfl 66 (.tmp 5) (.tmp 12) rfl rfl (w.heap.size + 1) #[.int .i64 p2, .int .i64 b2, .int .i64 l2, .int .i64 a2, .int .i64 s2] rfl rfl 66 _ R2.out (by kernel_rfl) rfl (by kernel_rfl) ?_))
  refine bodyPost_ret (results_row2D (g := w.heap.size + 1) (t := 66) (cs := #[.int .i64 p2, .int .i64 b2, .int .i64 l2, .int .i64 a2, .int .i64 s2]) (fr := (0, 0)) rfl _ _ _ rfl (bk_setRowD R2.out _) Tryz.underlying66 rfl (by kernel_rfl)) rfl ?_
  exact ⟨rfl, ((FrD.of (ext_trans HB1.out HB2.out)).trans (FrD.setRow (g := w.heap.size + 1) _ _)).below (Nat.le_succ _) (Nat.le_refl _)⟩
end Go.Proofs.YtpjhjefjbkjhkaaGreatDoor
