import Derived.Maps.RangeWalk
import Derived.Test.YtmffdgeebhpacaaDoorBuC
import Derived.Test.YtmffdgeebhpacaaDoorBuG
import Derived.Test.YtmffdgeebhpacaaDoorBuS
import Derived.Test.YtmffdgeebhpacaaDoorBuT
import Derived.Test.YtmffdgeebhpacaaDoorKeysOpsZ
/- Seeking: a range over the keys of a set. -/
namespace Go.Proofs.YtmffdgeebhpacaaDoor
open Go.RowKit
open Go.Maps (Keyed)
set_option linter.unusedVariables false
set_option linter.unusedSimpArgs false
/-- A range over the keys of a set is under way. -/
def KeyRange (b r : Nat) (S : List KeyV) (left : Lit → Bool) (cnt : Nat) (W : World) : Prop :=
  W.ranges Tryd.prog 23 (unitElem (H := Unit)) b r S.length (setD S) left cnt ∧ ∀ kl, left kl = true → Maps.has (setD S) kl = true
section
variable {b r : Nat} {S : List KeyV} {left : Lit → Bool} {cnt : Nat} {W W' : World}
theorem KeyRange.below (h : KeyRange b r S left cnt W) (hb : Below W.heap.size W W') : KeyRange b r S left cnt W' :=
  ⟨h.1.kept (row := none) ⟨hb.os, hb.tape, hb.output, hb.size, fun i hi _ => hb.block i hi⟩ (by simp) (by simp), h.2⟩
theorem has_setD_mem {kl : Lit} (h : Maps.has (setD S) kl = true) : ∃ y ∈ S, kl = keyLit y := by
  unfold setD at h
  rw [Maps.has_setOf _ _ _ (by intro x hx; obtain ⟨y, _, rfl⟩ := List.mem_map.1 hx; exact isKeyLit_keyLit y), List.any_map, List.any_eq_true] at h
  obtain ⟨y, hy, hs⟩ := h
  exact ⟨y, hy, (WideAt.sameKey_eq (show (keyLit y).sameKey kl = true from hs)).symm⟩
theorem wpList_range_keys {ops : Array Oper} {rest : List Oper} {o : Oper} {a : Act} {Q : Exit → Act → World → Prop} (hg : o.guard = none) (m : Operand) (hop : o.op = Op.range 138 m)
    (hm : a.eval m = .map (some b)) (hown : W.ownsMap Tryd.prog 23 (unitElem (H := Unit)) b S.length (setD S)) (hS : ∀ x ∈ S, x.wf)
    (hK : ∀ w' cnt, KeyRange b W.heap.size S (Maps.has (setD S)) cnt w' → Below W.heap.size W w' → wpList Tryd.prog ops Q rest (a.put o.dst (.pointer (some ⟨W.heap.size, 0, none⟩))) w') :
    wpList Tryd.prog ops Q (o :: rest) a W :=
  wpList_range_own W hg m 138 hop 23 139 keyedK Tryd.underlying138 (unitElem (H := Unit)) b S.length (setD S) hm hown fun w' h1 h2 h3 => hK w' _ ⟨h1, fun _ h => h⟩ ⟨h2.os, h2.tape, h2.output, h2.size, fun i hi => h2.block i hi (by simp)⟩
theorem wpList_next_keys {ops : Array Oper} {rest : List Oper} {o : Oper} {a : Act} {Q : Exit → Act → World → Prop} (hg : o.guard = none) (it : Operand) (hop : o.op = Op.next it false)
    (hit : a.eval it = .pointer (some ⟨r, 0, none⟩)) (h : KeyRange b r S left cnt W) (hS : ∀ x ∈ S, x.wf)
    (hDone : (∀ kl, left kl = false) → wpList Tryd.prog ops Q rest (a.put o.dst (.tuple #[.bool false])) W)
    (hMore : ∀ (x : KeyV) (w' : World) (left' : Lit → Bool) (cnt' : Nat), x ∈ S → (∀ y ∈ S, y ≠ x → left' (keyLit y) = left (keyLit y)) → KeyRange b r S left' cnt' w' → cnt' < cnt → W.grownBy w' (some r) → w'.heap.size = W.heap.size →
      (Instr.entry (.pointer (some ⟨r, 0, none⟩))).run Tryd.prog w' = .ok (.tuple #[x.val, .agg #[]]) w' → wpList Tryd.prog ops Q rest (a.put o.dst (.tuple #[.bool true, x.val, .agg #[]])) w') :
    wpList Tryd.prog ops Q (o :: rest) a W := by
  refine wpList_plain hg fun K' hK' => ?_
  unfold Oper.wp
  rcases h.1.next keyedK o.type with ⟨h0, hl, hrun⟩ | ⟨key, v, kl, y, w', cnt', hkey, hlk, hv, hat, hrun, hrg, hlt, hgr, hsz, hen⟩
  · simp [execOp, hop, hit, hrun, Result.andThen]
    exact hK' _ _ (hDone hl)
  · obtain ⟨x, hx, rfl⟩ := has_setD_mem (h.2 kl hlk)
    have hxw := hS x hx
    obtain rfl : key = x.val := keyedK.inj hkey (keyOf_key hxw)
    obtain ⟨rfl, _⟩ := unitElem_inv hv
    simp [execOp, hop, hit, hrun, Result.andThen]
    refine hK' _ _ (hMore x w' _ cnt' hx (fun z hz hne => ?_) ⟨hrg, fun kl hk => h.2 kl ?_⟩ hlt hgr hsz hen)
    · have : (keyLit z).sameKey (keyLit x) = false := Maps.sameKey_ne fun e => hne (keyLit_inj (hS z hz) hxw e)
      simp [this]
    · simp only [Bool.and_eq_true] at hk
      exact hk.1
end
end Go.Proofs.YtmffdgeebhpacaaDoor
/- Seeking: the places that some key is for. -/
namespace Go.Proofs.YtmffdgeebhpacaaDoor
open Go.RowKit
open Go.Maps (Keyed)
set_option linter.unusedVariables false
set_option linter.unusedSimpArgs false
set_option maxRecDepth 100000 in
theorem info_intR : (Tryd.prog.info? 3).map (fun i => (i.zero, i.size, i.bytes)) = some (some (.int .i64 0), 1, 8) := by kernel_rfl
/-- What is handed back: some places, in a row of its own. -/
def PlacesPost (W : World) (l : List Int) (e : Ending) (w' : World) : Prop := ∃ v, e = .returned (.tuple #[v, .int .i64 0]) ∧ Own w' W.heap.size 3 v l ∧ Below W.heap.size W w'
set_option maxHeartbeats 4000000 in
set_option maxRecDepth 100000 in
theorem places_bad {R : List ValV} {c : KeyV} {mem : List ValV} {stk : List FrameV} {out : List Int} {cs : Array Value} {W : World} (h : MRow R c mem stk out cs W) (d : Bool) (p from_ to_ : Int) (hc : stepCheck R c mem stk out ≠ 0) :
    Calls Tryd.prog 50 #[.agg cs, .int .i64 p, .bool d, .int .i64 from_, .int .i64 to_] W fun e w' => e = .returned (.tuple #[.slice none 0 0, .int .i64 (stepCheck R c mem stk out)]) ∧ Below W.heap.size W w' := by
  have hb := h.arg
  obtain ⟨w1, hw1⟩ : ∃ w1, w1 = W.alloc (.cells cs 31) := ⟨_, rfl⟩
  have h1w : Below W.heap.size W w1 := by rw [hw1]; exact ext_alloc (Below.refl _ _) _
  rw [← hw1] at hb
  have hck := sought_bad hb.toRow d hc
  generalize stepCheck R c mem stk out = ec at *
  have g1 : (ec == 0) = false := by simpa using hc
  have g2 : (ec != 0) = true := by simpa using hc
  have CK := Lib.hid hck
  have MX := Lib.hid hb
  have HW1 := Lib.hid hw1
  have H1W := Lib.hid h1w
  clear h hck hb hw1 h1w hc
  go_enter Tryd.func50, Tryd.ntmps50
  go_upto_region 1 with (fail)
  rw [← HW1.out]
  go_wp2_with (first
    | (refine wpList_load_sub rfl 31 (.tmp 5) rfl W.heap.size 0 64 rfl 31 _ _ MX.out.bk Tryd.underlying31 rfl (by kernel_rfl) MX.out.size _ MX.out.all ?_)
    | (go_at_call 59; ((with_reducible refine CK.out.mono ?_); rintro e u1 ⟨rfl, hb⟩; have HB1 := Lib.hid hb; clear hb)))
  go_ret2
  exact ⟨rfl, ext_trans H1W.out HB1.out⟩
theorem hits_len (d : Bool) (mem : List ValV) (P : KeyV → Prop) (p a : Int) (n : Nat) : (hitsL d mem P p a n).length ≤ n := by
  unfold hitsL
  refine Nat.le_trans (List.length_filter_le _ _) ?_
  simp
theorem sl_one (W : World) (x : Int) (T : TypeId) : Sl (W.alloc (.cells #[.int .i64 x] T)) (some ⟨W.heap.size, 0, none⟩) 1 [x] := by
  have h0 := own_lit (xs := [x]) W T 0 (Nat.zero_le _) #[.int .i64 x] 1 rfl (by decide) rfl
  obtain ⟨ao, c, e, h, _⟩ := h0.sl
  injection e with e _ _
  subst e
  simpa using h
set_option maxHeartbeats 16000000 in
set_option maxRecDepth 100000 in
theorem places_any {R : List ValV} {c : KeyV} {mem : List ValV} {stk : List FrameV} {out : List Int} {cs : Array Value} {W : World} (h : MRow R c mem stk out cs W) (d : Bool) (p from_ : Int) (n : Nat) (h0 : 0 ≤ from_) (h1 : from_ + n ≤ 1000) (hok : MOk R c mem stk out) :
    Calls Tryd.prog 50 #[.agg cs, .int .i64 p, .bool d, .int .i64 from_, .int .i64 (from_ + n)] W (PlacesPost W (hitsL d mem (rootsP d R c stk) p from_ n)) := by
  have hb := h.arg
  obtain ⟨w1, hw1⟩ : ∃ w1, w1 = W.alloc (.cells cs 31) := ⟨_, rfl⟩
  have h1w : Below W.heap.size W w1 := by rw [hw1]; exact ext_alloc (Below.refl _ _) _
  rw [← hw1] at hb
  have hso := sought_any hb.toRow d hok
  obtain ⟨i0, hi, hz0, hz1, hz2⟩ := info_parts info_intR
  have SO := Lib.hid hso
  have MX := Lib.hid hb
  have HW1 := Lib.hid hw1
  have H1W := Lib.hid h1w
  obtain ⟨to_, hto⟩ : ∃ to_, from_ + (n : Int) = to_ := ⟨_, rfl⟩
  rw [hto]
  clear h hso hb hw1 h1w hok
  go_enter Tryd.func50, Tryd.ntmps50
  go_upto_region 1 with (fail)
  rw [← HW1.out]
  go_wp2_with (first
    | (refine wpList_load_sub rfl 31 (.tmp 5) rfl W.heap.size 0 64 rfl 31 _ _ MX.out.bk Tryd.underlying31 rfl (by kernel_rfl) MX.out.size _ MX.out.all ?_)
    | (go_at_call 59; ((with_reducible refine SO.out.mono ?_); rintro e u2 ⟨gs, b, ma, mc, m, S, rfl, q1, q2, _, q3⟩; have ST := Lib.hid q1; have SG := Lib.hid q2; have HB2 := Lib.hid q3; clear q1 q2 q3)))
  have hSw : ∀ x ∈ S, x.wf := fun x hx => (ST.out.wf x hx).wf
  have HSW := Lib.hid hSw
  have HTO := Lib.hid hto
  clear hSw hto
  go_loopw [14, 15] (fun v x wr => ∃ (i : Nat) (vo : Value), vo = v ∧ i ≤ n ∧ x = .int .i64 (from_ + i) ∧ Own wr u2.heap.size 3 v (hitsL d mem (rootsP d R c stk) p from_ i) ∧ Below u2.heap.size u2 wr) (fun _ x _ => (to_ - intOf x).toNat)
  case atStart => exact ⟨0, _, rfl, Nat.zero_le _, by simp, Own.nil _ _ _, Below.refl _ _⟩
  case round =>
    obtain ⟨i, vo, rfl, hi_, rfl, hown, hbu⟩ := hrel
    have HOWN := Lib.hid hown
    have HBU := Lib.hid hbu
    clear hown hbu
    have hto := HTO.out
    by_cases hlt : i < n
    · have q1 : from_ + (i : Int) < to_ := by omega
      obtain ⟨wo, hwo⟩ : ∃ wo : World, wo = wr := ⟨_, rfl⟩
      subst hwo
      have st0 := ST.out.below HBU.out
      have s0 : wo.cell? ⟨gs, 0, none⟩ = some (.map (some b)) := st0.bk.cell 0
      have sL := st0.bk.lt
      have S0 := Lib.hid st0
      clear st0
      go_wp2_with (at_range; refine wpList_range_keys rfl (.tmp 35) rfl rfl S0.out.own HSW.out ?_; intro w0 cnt0 hkr0 hb0)
      go_frame
      have HKR0 := Lib.hid hkr0
      have HB0 := Lib.hid hb0
      clear hkr0 hb0 s0 sL
      obtain ⟨a_, ha_⟩ : ∃ a_, a_ = from_ + (i : Int) := ⟨_, rfl⟩
      rw [← ha_] at q1 ⊢
      have HA := Lib.hid ha_
      have habd : 0 ≤ a_ ∧ a_ ≤ 1000 := by omega
      have HABD := Lib.hid habd
      clear ha_ hto
      go_loopw [14, 38] (fun v' _ wr => vo = v' ∧ ∃ left cnt, KeyRange b wo.heap.size S left cnt wr ∧ Below wo.heap.size wo wr ∧ ∀ y ∈ S, left (keyLit y) = false → ¬ (countsB d y = true ∧ withinB p y.perm = true ∧ covB y.base y.len a_ = true)) (fun _ _ wr => wr.rangeLeft b wo.heap.size)
      case atStart => exact ⟨rfl, _, _, HKR0.out, HB0.out, fun y hy hl => by rw [has_setD HSW.out (HSW.out y hy)] at hl; simp [hy] at hl⟩
      case round =>
        obtain ⟨rfl, left, cnt, hkr, hbo, hno⟩ := hrel
        have HKR := Lib.hid hkr
        have HBO := Lib.hid hbo
        have HNO := Lib.hid hno
        clear hkr hbo hno
        go_wp2_with (at_next; refine wpList_next_keys rfl (.tmp 36) rfl rfl HKR.out HSW.out ?_ ?_)
        · intro hl0
          have hskip : hitsL d mem (rootsP d R c stk) p from_ (i + 1) = hitsL d mem (rootsP d R c stk) p from_ i := hits_skip fun ⟨y, y1, y2⟩ => HNO.out y ((SG.out.mem_iff y).2 y1) (hl0 _) (by rw [HA.out]; exact y2)
          have HSKIP := Lib.hid hskip
          have hw1 : IntKind.i64.wrap (a_ + 1) = a_ + 1 ∧ wrap64 (a_ + 1) = a_ + 1 := ⟨IntWalk.i64_in _ ⟨by omega, by omega⟩, IntWalk.wrap64_in _ ⟨by omega, by omega⟩⟩
          have HW := Lib.hid hw1
          clear hskip hl0 hw1
          go_wp2
          go_roundw
          case rel => exact ⟨i + 1, _, rfl, by omega, by rw [HA.out]; go_num, by rw [HSKIP.out]; exact (HOWN.out.below HBO.out), ext_trans HBU.out HBO.out⟩
          case measure => have := HA.out; simp [intOf]; omega
        · intro x w1 left' cnt' hx hle hkr1 hlt1 hg1 hs1 hen
          have hb1 : Below wo.heap.size wo w1 := ⟨hg1.os.trans HBO.out.os, hg1.tape.trans HBO.out.tape, hg1.output.trans HBO.out.output, Nat.le_trans HBO.out.size hg1.size, fun j hj => (hg1.block j (Nat.lt_of_lt_of_le hj HBO.out.size) (fun e => by have := Option.some.inj e; omega)).trans (HBO.out.block j hj)⟩
          have hw1 : IntKind.i64.wrap (a_ + 1) = a_ + 1 ∧ wrap64 (a_ + 1) = a_ + 1 := ⟨IntWalk.i64_in _ ⟨by omega, by omega⟩, IntWalk.wrap64_in _ ⟨by omega, by omega⟩⟩
          have HW := Lib.hid hw1
          have hxo := ST.out.wf x hx
          have HX := Lib.hid hx
          have HLE := Lib.hid hle
          have HKR1 := Lib.hid hkr1
          have HLT1 := Lib.hid hlt1
          have HB1 := Lib.hid hb1
          clear hx hle hkr1 hlt1 hg1 hs1 hb1 hw1
          obtain ⟨xp, xb, xl, xa, xs⟩ := x
          simp only [KeyV.val] at hen
          have hct := fun (W1 : World) (h1 : Below w1.heap.size w1 W1) => counts_any (ST.out.below (ext_trans HBU.out (ext_trans HB1.out h1))) xp xb xl xa xs
          have hwi := fun W1 => within_any p xp W1
          have hcv := fun W1 => covers_any xp xb xl xa xs a_ hxo.wf.base hxo.wf.len ⟨by omega, by omega⟩ W1
          have hkx : ∀ W1, Below (w1.alloc (.cells #[.int .i64 xp, .int .i64 xb, .int .i64 xl, .int .i64 xa, .int .i64 xs] 23)).heap.size (w1.alloc (.cells #[.int .i64 xp, .int .i64 xb, .int .i64 xl, .int .i64 xa, .int .i64 xs] 23)) W1 → Bk W1 w1.heap.size 23 #[.int .i64 xp, .int .i64 xb, .int .i64 xl, .int .i64 xa, .int .i64 xs] := fun W1 h1 => bk_keep h1 (bk_new _ _ _)
          obtain ⟨c1, hc1⟩ : ∃ c1, countsB d ⟨xp, xb, xl, xa, xs⟩ = c1 := ⟨_, rfl⟩
          obtain ⟨c2, hc2⟩ : ∃ c2, withinB p xp = c2 := ⟨_, rfl⟩
          obtain ⟨c3, hc3⟩ : ∃ c3, covB xb xl a_ = c3 := ⟨_, rfl⟩
          rw [hc2] at hwi
          simp only [hc1] at hct
          simp only [hc3] at hcv
          have hstay : ¬ (c1 = true ∧ c2 = true ∧ c3 = true) → ∀ y ∈ S, left' (keyLit y) = false → ¬ (countsB d y = true ∧ withinB p y.perm = true ∧ covB y.base y.len a_ = true) := fun hn y hy hl => by
            by_cases hyx : y = ⟨xp, xb, xl, xa, xs⟩
            · rw [hyx, hc1, hc2, hc3]; exact hn
            · exact HNO.out y hy (by rw [← HLE.out y hy hyx]; exact hl)
          have hhit : c1 = true → c2 = true → c3 = true → hitP d mem (rootsP d R c stk) p a_ := fun h1 h2 h3 => ⟨_, (SG.out.mem_iff _).1 HX.out, hc1.trans h1, hc2.trans h2, hc3.trans h3⟩
          have HCT := Lib.hid hct
          have HWI := Lib.hid hwi
          have HCV := Lib.hid hcv
          have HKX := Lib.hid hkx
          have HSTAY := Lib.hid hstay
          have HHIT := Lib.hid hhit
          clear hct hwi hcv hkx hstay hhit hc1 hc2 hc3 hxo
          cases c1
          · go_wp2_with (first
              | (go_at_call 74; ((with_reducible refine (HCT.out _ (ext_alloc (Below.refl _ _) _)).mono ?_); rintro e u3 ⟨rfl, hb⟩; have kx := cells5 (HKX.out _ hb); obtain ⟨y1, y2, y3, y4, y5⟩ := kx; have yL := (HKX.out _ hb).lt; have HBC := Lib.hid hb; clear hb))
              | (go_at_call 75; ((with_reducible refine (HWI.out _).mono ?_); rintro e u4 ⟨rfl, rfl⟩))
              | (go_at_call 76; ((with_reducible refine (HCV.out _).mono ?_); rintro e u5 ⟨rfl, hb⟩; have HBV := Lib.hid hb; clear hb)))
            go_roundw
            case rel => exact ⟨rfl, left', cnt', HKR1.out.below (ext_trans (ext_alloc (Below.refl _ _) _) HBC.out), ext_trans HB1.out (ext_trans (ext_alloc (Below.refl _ _) _) HBC.out), HSTAY.out (by simp)⟩
            case measure => rw [(HKR1.out.below (ext_trans (ext_alloc (Below.refl _ _) _) HBC.out)).1.left_eq, HKR.out.1.left_eq]; exact HLT1.out
          · cases c2
            · go_wp2_with (first
              | (go_at_call 74; ((with_reducible refine (HCT.out _ (ext_alloc (Below.refl _ _) _)).mono ?_); rintro e u3 ⟨rfl, hb⟩; have kx := cells5 (HKX.out _ hb); obtain ⟨y1, y2, y3, y4, y5⟩ := kx; have yL := (HKX.out _ hb).lt; have HBC := Lib.hid hb; clear hb))
              | (go_at_call 75; ((with_reducible refine (HWI.out _).mono ?_); rintro e u4 ⟨rfl, rfl⟩))
              | (go_at_call 76; ((with_reducible refine (HCV.out _).mono ?_); rintro e u5 ⟨rfl, hb⟩; have HBV := Lib.hid hb; clear hb)))
              go_roundw
              case rel => exact ⟨rfl, left', cnt', HKR1.out.below (ext_trans (ext_alloc (Below.refl _ _) _) HBC.out), ext_trans HB1.out (ext_trans (ext_alloc (Below.refl _ _) _) HBC.out), HSTAY.out (by simp)⟩
              case measure => rw [(HKR1.out.below (ext_trans (ext_alloc (Below.refl _ _) _) HBC.out)).1.left_eq, HKR.out.1.left_eq]; exact HLT1.out
            · cases c3
              · go_wp2_with (first
              | (go_at_call 74; ((with_reducible refine (HCT.out _ (ext_alloc (Below.refl _ _) _)).mono ?_); rintro e u3 ⟨rfl, hb⟩; have kx := cells5 (HKX.out _ hb); obtain ⟨y1, y2, y3, y4, y5⟩ := kx; have yL := (HKX.out _ hb).lt; have HBC := Lib.hid hb; clear hb))
              | (go_at_call 75; ((with_reducible refine (HWI.out _).mono ?_); rintro e u4 ⟨rfl, rfl⟩))
              | (go_at_call 76; ((with_reducible refine (HCV.out _).mono ?_); rintro e u5 ⟨rfl, hb⟩; have HBV := Lib.hid hb; clear hb)))
                go_roundw
                case rel => exact ⟨rfl, left', cnt', HKR1.out.below (ext_trans (ext_trans (ext_alloc (Below.refl _ _) _) HBC.out) HBV.out), ext_trans HB1.out (ext_trans (ext_trans (ext_alloc (Below.refl _ _) _) HBC.out) HBV.out), HSTAY.out (by simp)⟩
                case measure => rw [(HKR1.out.below (ext_trans (ext_trans (ext_alloc (Below.refl _ _) _) HBC.out) HBV.out)).1.left_eq, HKR.out.1.left_eq]; exact HLT1.out
              · have hsn : hitsL d mem (rootsP d R c stk) p from_ (i + 1) = hitsL d mem (rootsP d R c stk) p from_ i ++ [a_] := by
                  rw [hits_snoc (by rw [← HA.out]; exact HHIT.out rfl rfl rfl), HA.out]
                have hln := hits_len d mem (rootsP d R c stk) p from_ i
                have c63 : (hitsL d mem (rootsP d R c stk) p from_ i).length + 1 ≤ maxLen := by unfold maxLen; omega
                have c47 : ((hitsL d mem (rootsP d R c stk) p from_ i).length + 1) * 8 ≤ 140737488355328 := by omega
                have HSN := Lib.hid hsn
                have C63 := Lib.hid c63
                have C47 := Lib.hid c47
                clear hsn hln c63 c47
                go_wp2_with (first
              | (go_at_call 74; ((with_reducible refine (HCT.out _ (ext_alloc (Below.refl _ _) _)).mono ?_); rintro e u3 ⟨rfl, hb⟩; have kx := cells5 (HKX.out _ hb); obtain ⟨y1, y2, y3, y4, y5⟩ := kx; have yL := (HKX.out _ hb).lt; have HBC := Lib.hid hb; clear hb))
              | (go_at_call 75; ((with_reducible refine (HWI.out _).mono ?_); rintro e u4 ⟨rfl, rfl⟩))
              | (go_at_call 76; ((with_reducible refine (HCV.out _).mono ?_); rintro e u5 ⟨rfl, hb⟩; have HBV := Lib.hid hb; clear hb))
              | (at_builtin; go_loud (refine wpList_append_sl rfl (.tmp 55) (.tmp 57) 29 rfl u2.heap.size 3 i0 _ 8 Tryd.underlying29 hi hz0 hz1 hz2 rfl vo (hitsL d mem (rootsP d R c stk) p from_ i) rfl (HOWN.out.below (ext_alloc (ext_trans (ext_trans HB1.out (ext_trans (ext_alloc (Below.refl _ _) _) HBC.out)) HBV.out) _)) (some ⟨u5.heap.size, 0, none⟩) 1 1 [a_] rfl (sl_one _ _ _) C63.out C47.out (by have := (ext_alloc (ext_trans HBU.out (ext_trans (ext_trans HB1.out (ext_trans (ext_alloc (Below.refl _ _) _) HBC.out)) HBV.out)) (.cells #[.int .i64 a_] 3)).size; exact this) ?_; intro v1 w9 hown1 hgr1 hat1; have HO1 := Lib.hid hown1; have HG1 := Lib.hid hgr1; clear hown1 hgr1 hat1)))
                go_roundw
                case rel => exact ⟨i + 1, _, rfl, by omega, by rw [HA.out]; go_num, by rw [HSN.out]; exact HO1.out, (ext_alloc (ext_trans HBU.out (ext_trans (ext_trans HB1.out (ext_trans (ext_alloc (Below.refl _ _) _) HBC.out)) HBV.out)) (.cells #[.int .i64 a_] 3)).grown HG1.out (ext_alloc (ext_trans HBU.out (ext_trans (ext_trans HB1.out (ext_trans (ext_alloc (Below.refl _ _) _) HBC.out)) HBV.out)) (.cells #[.int .i64 a_] 3)).size (fun k hk => (World.ownsRow.lt HOWN.out k hk).1)⟩
                case measure => have := HA.out; simp [intOf]; omega
    · have q1 : ¬ (from_ + (i : Int) < to_) := by omega
      obtain rfl : i = n := by omega
      go_wp2
      go_ret2
      exact ⟨vo, rfl, HOWN.out.mono (by have := ext_trans H1W.out HB2.out; exact this.size), ext_trans (ext_trans H1W.out HB2.out) HBU.out⟩
end Go.Proofs.YtmffdgeebhpacaaDoor
/- Seeking: reach.Cells; is one list of numbers in another one? -/
namespace Go.Proofs.YtmffdgeebhpacaaDoor
open El (cl)
open Go.RowKit
open Go.Maps (Keyed)
set_option linter.unusedVariables false
set_option linter.unusedSimpArgs false
set_option maxHeartbeats 4000000 in
set_option maxRecDepth 100000 in
theorem cells_bad {R : List ValV} {c : KeyV} {mem : List ValV} {stk : List FrameV} {out : List Int} {cs : Array Value} {W : World} (h : MRow R c mem stk out cs W) (d : Bool) (p : Int) (hc : stepCheck R c mem stk out ≠ 0) :
    Calls Tryd.prog 21 #[.agg cs, .int .i64 p, .bool d] W fun e w' => e = .returned (.tuple #[.slice none 0 0, .int .i64 (stepCheck R c mem stk out)]) ∧ Below W.heap.size W w' := by
  have hb := h.arg
  obtain ⟨w1, hw1⟩ : ∃ w1, w1 = W.alloc (.cells cs 31) := ⟨_, rfl⟩
  have h1w : Below W.heap.size W w1 := by rw [hw1]; exact ext_alloc (Below.refl _ _) _
  rw [← hw1] at hb
  have hck := places_bad hb.toRow d p 0 mem.length hc
  obtain ⟨ma, mc, m61, _⟩ := hb.memC
  have zL := hb.bk.lt
  generalize stepCheck R c mem stk out = ec at *
  have CK := Lib.hid hck
  have MX := Lib.hid hb
  have HW1 := Lib.hid hw1
  have H1W := Lib.hid h1w
  clear h hck hb hw1 h1w hc
  go_enter Tryd.func21, Tryd.ntmps21
  go_upto_region 1 with (fail)
  rw [← HW1.out]
  go_wp2_with (first
    | (refine wpList_load_sub rfl 31 (.tmp 3) rfl W.heap.size 0 64 rfl 31 _ _ MX.out.bk Tryd.underlying31 rfl (by kernel_rfl) MX.out.size _ MX.out.all ?_)
    | (go_at_call 50; ((with_reducible refine CK.out.mono ?_); rintro e u1 ⟨rfl, hb⟩; have HB1 := Lib.hid hb; clear hb)))
  go_ret2
  exact ⟨rfl, ext_trans H1W.out HB1.out⟩
set_option maxHeartbeats 4000000 in
set_option maxRecDepth 100000 in
theorem cells_any {R : List ValV} {c : KeyV} {mem : List ValV} {stk : List FrameV} {out : List Int} {cs : Array Value} {W : World} (h : MRow R c mem stk out cs W) (d : Bool) (p : Int) (hok : MOk R c mem stk out) :
    Calls Tryd.prog 21 #[.agg cs, .int .i64 p, .bool d] W (PlacesPost W (hitsL d mem (rootsP d R c stk) p 0 mem.length)) := by
  have hb := h.arg
  obtain ⟨w1, hw1⟩ : ∃ w1, w1 = W.alloc (.cells cs 31) := ⟨_, rfl⟩
  have h1w : Below W.heap.size W w1 := by rw [hw1]; exact ext_alloc (Below.refl _ _) _
  rw [← hw1] at hb
  have hck := places_any hb.toRow d p 0 mem.length (by omega) (by have := hok.len; omega) hok
  rw [Int.zero_add] at hck
  obtain ⟨ma, mc, m61, _⟩ := hb.memC
  have zL := hb.bk.lt
  have CK := Lib.hid hck
  have MX := Lib.hid hb
  have HW1 := Lib.hid hw1
  have H1W := Lib.hid h1w
  clear h hck hb hw1 h1w hok
  go_enter Tryd.func21, Tryd.ntmps21
  go_upto_region 1 with (fail)
  rw [← HW1.out]
  go_wp2_with (first
    | (refine wpList_load_sub rfl 31 (.tmp 3) rfl W.heap.size 0 64 rfl 31 _ _ MX.out.bk Tryd.underlying31 rfl (by kernel_rfl) MX.out.size _ MX.out.all ?_)
    | (go_at_call 50; ((with_reducible refine CK.out.mono ?_); rintro e u1 ⟨v, rfl, ho, hb⟩; have HO := Lib.hid ho; have HB1 := Lib.hid hb; clear hb ho)))
  go_ret2
  exact ⟨v, rfl, HO.out.mono H1W.out.size, ext_trans H1W.out HB1.out⟩
theorem keyedI : Keyed Tryd.prog 3 := Go.Maps.int_keyed Tryd.underlying3
def intD (l : List Int) : DataW Unit := Maps.setOf (.lit (.bool true)) (l.map fun x => .int .i64 x)
theorem intD_snoc (l : List Int) (x : Int) : intD (l ++ [x]) = (intD l).put (.int .i64 x) (.lit (.bool true)) := by
  unfold intD
  rw [List.map_append]
  exact Maps.setOf_snoc _ _ _
theorem isMap_intD : ∀ l : List Int, Maps.IsMap (intD l) := by
  intro l
  unfold intD Maps.setOf
  generalize l.map _ = acc
  have : ∀ (acc : List Lit) (m : DataW Unit), Maps.IsMap m → Maps.IsMap (acc.foldl (fun m x => m.put x (.lit (.bool true))) m) := by
    intro acc
    induction acc with
    | nil => exact fun m h => h
    | cons a acc ih => exact fun m h => ih _ (h.put _ _)
  exact this acc _ Maps.isMap_empty
theorem intD_at {l : List Int} {x : Int} (h : x ∈ l) (z : DataW Unit) : (intD l).atKey (.int .i64 x) z = .lit (.bool true) := by
  have : ∀ l : List Int, x ∈ l.reverse → (intD l.reverse).atKey (.int .i64 x) z = .lit (.bool true) := by
    intro l
    induction l with
    | nil => intro h; cases h
    | cons a l ih =>
      intro h
      rw [List.reverse_cons, intD_snoc]
      by_cases e : x = a
      · subst e; exact Maps.atKey_put_same (isMap_intD _) (show WideAt.IsKeyLit (.int .i64 x) from trivial) _ _
      · rw [Maps.atKey_put_other (fun he => e (by injection he))]
        refine ih ?_
        rw [List.reverse_cons] at h
        rcases List.mem_append.1 h with h | h
        · exact h
        · exact absurd (List.mem_singleton.1 h) e
  have h2 := this l.reverse (by rw [List.reverse_reverse]; exact h)
  rwa [List.reverse_reverse] at h2
theorem keyOf_i {x : Int} (h : I64 x) : keyOf Tryd.prog 3 (.int .i64 x) = some (.int .i64 x) := Go.Maps.keyOf_int_mk Tryd.underlying3 (i64_wf h)
theorem zeroBool (w : World) : (zeroValue 4).run Tryd.prog w = .ok (.bool false) w := by kernel_rfl
theorem plainElem_bool_inv {H : Type} {P : Program} {e : TypeId} (he : P.underlying e = some .bool) {v : Value} {z : DataW H × List MemPlace} (h : plainElem P e v = some z) : ∃ x, v = .bool x ∧ z = (.lit (.bool x), []) := by
  unfold plainElem at h
  rw [he] at h
  cases v <;> simp at h
  exact ⟨_, rfl, h.symm⟩
/-- Is it there? -/
theorem look_intD {b n : Nat} {l : List Int} {W : World} (h : W.ownsMap Tryd.prog 3 (plainElem (H := Unit) Tryd.prog 4) b n (intD l)) {x : Int} (hx : I64 x) (hi : x ∈ l) :
    (Instr.lookup 103 (.map (some b)) (.int .i64 x) false).run Tryd.prog W = .ok (.bool true) W := by
  obtain ⟨v, ps, hrun, hv⟩ := h.lookup keyedI Tryd.underlying103 (zeroBool W) (plainElem_bool Tryd.underlying4 false) (keyOf_i hx)
  rw [intD_at hi] at hv
  obtain ⟨y, rfl, hz⟩ := plainElem_bool_inv Tryd.underlying4 hv
  simp only [Prod.mk.injEq, DataW.lit.injEq, Lit.bool.injEq] at hz
  rw [hrun, ← hz.1]
set_option maxHeartbeats 4000000 in
set_option maxRecDepth 100000 in
theorem cellsin_any (ao bo : Option Addr) (n m c d : Nat) (xs ys : List Int) (w : World) (hx : Sl w ao n xs) (hy : Sl w bo m ys) (hn : n ≤ 100000) (hm : m ≤ 100000) (hi : ∀ x ∈ ys, I64 x) (hs : ∀ x ∈ xs, x ∈ ys) :
    Calls Tryd.prog 22 #[.slice ao n c, .slice bo m d] w fun e w' => e = .returned (.bool true) ∧ Below w.heap.size w w' := by
  have hlx := hx.len
  have hly := hy.len
  have hmk := @run_makeMap Tryd.prog
  have HX := Lib.hid hx
  have HY := Lib.hid hy
  have HI := Lib.hid hi
  have HS := Lib.hid hs
  clear hx hy hi hs
  go_enter Tryd.func22, Tryd.ntmps22
  go_wp2
  go_loopw [13] (fun i wr => ∃ k : Nat, k ≤ m ∧ i = .int .i64 k ∧ wr.ownsMap Tryd.prog 3 (plainElem (H := Unit) Tryd.prog 4) w.heap.size k (intD (ys.take k)) ∧ Below w.heap.size w wr) (fun i _ => m - (intOf i).toNat)
  case atStart => exact ⟨0, Nat.zero_le _, rfl, World.ownsMap_made _ _ _ _, (Below.refl _ _).alloc (Nat.le_refl _) _⟩
  case round =>
    obtain ⟨k, hk, rfl, hown, hb⟩ := hrel
    by_cases hlt : k < m
    · have q1 : (k : Int) < m := by omega
      obtain ⟨y, hgy⟩ : ∃ y, ys[k]? = some y := ⟨_, List.getElem?_eq_getElem (by omega)⟩
      obtain ⟨ad, rfl, hab, e0⟩ := sl_int (HY.out.below hb) hlt hgy
      have hyi := HI.out y (List.mem_of_getElem? hgy)
      have htk : ys.take (k + 1) = ys.take k ++ [y] := by rw [List.take_add_one, hgy]; rfl
      have HTK := Lib.hid htk
      have HB := Lib.hid hb
      have HYI := Lib.hid hyi
      have HOW := Lib.hid hown
      clear htk hb hyi hgy hown
      go_wp2_with (at_mapUpdate; refine wpList_mapUpdate_own _ rfl _ _ _ 103 rfl 3 4 keyedI Tryd.underlying103 _ w.heap.size k _ rfl HOW.out (by unfold maxLen; omega) _ _ _ rfl rfl (keyOf_i HYI.out) _ [] (plainElem_bool Tryd.underlying4 true) ?_; intro w1 hown1 hgrow1)
      go_roundw
      case rel => exact ⟨k + 1, by omega, by go_num, by rw [HTK.out, intD_snoc]; exact hown1, HB.out.grown hgrow1 HB.out.size (fun j hj => by cases hj; exact Nat.le_refl _)⟩
      case measure => simp [intOf]; omega
    · have q1 : ¬ ((k : Int) < m) := by omega
      obtain rfl : k = m := by omega
      rw [List.take_of_length_le (by omega)] at hown
      obtain ⟨wo, hwo⟩ : ∃ wo : World, wo = wr := ⟨_, rfl⟩
      subst hwo
      have HOW := Lib.hid hown
      have HBW := Lib.hid hb
      clear hown hb
      go_wp2
      go_loopw [22] (fun i wr => ∃ j : Nat, j ≤ n ∧ i = .int .i64 j ∧ Below wo.heap.size wo wr) (fun i _ => n - (intOf i).toNat)
      case atStart => exact ⟨0, Nat.zero_le _, rfl, Below.refl _ _⟩
      case round =>
        obtain ⟨j, hj, rfl, hb⟩ := hrel
        by_cases hlt2 : j < n
        · have q2 : (j : Int) < n := by omega
          obtain ⟨x, hgx⟩ : ∃ x, xs[j]? = some x := ⟨_, List.getElem?_eq_getElem (by omega)⟩
          obtain ⟨ad, rfl, hab, e0⟩ := sl_int (HX.out.below (ext_trans HBW.out hb)) hlt2 hgx
          have hin := HS.out x (List.mem_of_getElem? hgx)
          have hown' : wr.ownsMap Tryd.prog 3 (plainElem (H := Unit) Tryd.prog 4) w.heap.size k (intD ys) := by
            obtain ⟨es, cl, h1, h2⟩ := HOW.out
            exact ⟨es, cl, (hb.block _ HOW.out.lt).trans h1, h2⟩
          have hlk := look_intD hown' (HI.out x hin) hin
          have HB := Lib.hid hb
          clear hb hgx hin hown'
          go_wp2
          go_roundw
          case rel => exact ⟨j + 1, by omega, by go_num, HB.out⟩
          case measure => simp [intOf]; omega
        · have q2 : ¬ ((j : Int) < n) := by omega
          have HB := Lib.hid hb
          clear hb
          go_wp2
          go_ret
          exact ⟨rfl, ext_trans HBW.out HB.out⟩
end Go.Proofs.YtmffdgeebhpacaaDoor
