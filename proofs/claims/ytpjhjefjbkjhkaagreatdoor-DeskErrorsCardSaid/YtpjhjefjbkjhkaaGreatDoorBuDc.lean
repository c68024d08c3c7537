import Derived.Test.YtpjhjefjbkjhkaaGreatDoorBuD
import Derived.Test.YtpjhjefjbkjhkaaGreatDoorDeskEZ
import Derived.Test.YtpjhjefjbkjhkaaGreatDoorInstTextBZ
import Derived.Test.YtpjhjefjbkjhkaaGreatDoorKeysLawZ
import Derived.Test.YtpjhjefjbkjhkaaGreatDoorParseZ
import Derived.Test.YtpjhjefjbkjhkaaGreatDoorPermRead
/- What a desk's words do. -/
namespace Go.Proofs.YtpjhjefjbkjhkaaGreatDoor
open Go Go.RowKit Go.Shelf
set_option linter.unusedVariables false
set_option linter.unusedSimpArgs false
theorem move_ok (k : KeyV) (n : Int) : (moveF k n).1.Ok := by
  rcases moveF_cases k n with ⟨c, he, _⟩ | ⟨he, _⟩
  · rw [he]; exact zeroK_ok
  · exact (move_less (by rw [he])).1
theorem narrow_ok (k : KeyV) (n : Int) : (narrowF k n).1.Ok := by
  rcases narrowF_cases k n with ⟨c, he, _⟩ | ⟨he, _⟩
  · rw [he]; exact zeroK_ok
  · exact (narrow_less (by rw [he])).1
theorem drop_ok (k : KeyV) (n : Int) : (dropF k n).1.Ok := by
  rcases dropF_cases k n with ⟨c, he, _⟩ | ⟨he, _⟩
  · rw [he]; exact zeroK_ok
  · exact (drop_less (by rw [he])).1
theorem seal_ok (k c : KeyV) : (sealF k c).1.Ok := by
  rcases sealF_cases k c with ⟨c', he, _⟩ | ⟨he, _⟩
  · rw [he]; exact zeroK_ok
  · exact (seal_less (by rw [he])).1
theorem open_ok (k c : KeyV) : (openF k c).1.Ok := by
  rcases openF_cases k c with ⟨c', he, _⟩ | ⟨he, _⟩
  · rw [he]; exact zeroK_ok
  · exact (open_less (by rw [he])).1
theorem firstK_ok : firstK.Ok := by constructor <;> simp [firstK]
theorem keepF_ok {k : KeyV} {r : KeyV × Int} (hk : k.Ok) (hr : r.1.Ok) : (keepF k r).k.Ok := by
  unfold keepF
  split
  · exact hr
  · exact hk
theorem byF_ok {k : KeyV} {l : List Bys} {f : KeyV → Int → KeyV × Int} (hk : k.Ok) (hf : ∀ n, (f k n).1.Ok) : (byF k l f).k.Ok := by
  unfold byF
  split
  · split
    · exact keepF_ok hk (hf _)
    · exact hk
  · exact hk
theorem ok_ite {c : Prop} [Decidable c] {a b : DeskR} (ha : a.k.Ok) (hb : b.k.Ok) : (if c then a else b).k.Ok := by
  split
  · exact ha
  · exact hb
theorem wordsF_ok {k : KeyV} (hk : k.Ok) (w : Bys) (l : List Bys) : (wordsF k w l).k.Ok := by
  unfold wordsF
  repeat' (first | exact byF_ok hk (move_ok k) | exact byF_ok hk (narrow_ok k) | exact byF_ok hk (fun n => seal_ok k _) | exact byF_ok hk (fun n => open_ok k _) | exact keepF_ok hk firstK_ok | exact keepF_ok hk (drop_ok k _) | apply ok_ite | exact hk)
theorem cell_putObjD {w : World} {b : Nat} {o : Obj} {a : Addr} (h : a.block ≠ b) : (w.putObj b o).cell? a = w.cell? a := World.cell?_of_block (World.putObj_heap_other h)
theorem cell_ltD {w : World} {a : Addr} {v : Value} (h : w.cell? a = some v) : a.block < w.heap.size := by
  by_cases h0 : a.block < w.heap.size
  · exact h0
  · have : w.heap[a.block]? = none := Array.getElem?_eq_none (by omega)
    simp [World.cell?, this] at h
theorem below_cellD {B : Nat} {w w' : World} (h : Below B w w') {a : Addr} {v : Value} (hc : w.cell? a = some v) (hB : w.heap.size ≤ B) : w'.cell? a = some v := (h.cell (Nat.lt_of_lt_of_le (cell_ltD hc) hB)).trans hc
theorem mvU : Tryz.prog.underlying 228 = some (.map 9 226) := Tryz.underlying228
theorem mv_zero (W : World) : (zeroValue 226).run Tryz.prog W = .ok .nilFunc W := by kernel_rfl
abbrev mv2 : Array MapEntry := #[⟨.string ⟨#[109, 111, 118, 101]⟩, .func (.func 129) #[] #[], 0⟩, ⟨.string ⟨#[110, 97, 114, 114, 111, 119]⟩, .func (.func 130) #[] #[], 1⟩]
abbrev mv3 (g1 : Nat) : Array MapEntry := #[⟨.string ⟨#[109, 111, 118, 101]⟩, .func (.func 129) #[] #[], 0⟩, ⟨.string ⟨#[110, 97, 114, 114, 111, 119]⟩, .func (.func 130) #[] #[], 1⟩, ⟨.string ⟨#[115, 101, 97, 108]⟩, .func (.func 172) #[] #[.pointer (some ⟨g1, 0, none⟩)], 2⟩]
abbrev mvEs (g1 g2 : Nat) : Array MapEntry := #[⟨.string ⟨#[109, 111, 118, 101]⟩, .func (.func 129) #[] #[], 0⟩, ⟨.string ⟨#[110, 97, 114, 114, 111, 119]⟩, .func (.func 130) #[] #[], 1⟩, ⟨.string ⟨#[115, 101, 97, 108]⟩, .func (.func 172) #[] #[.pointer (some ⟨g1, 0, none⟩)], 2⟩, ⟨.string ⟨#[111, 112, 101, 110]⟩, .func (.func 172) #[] #[.pointer (some ⟨g2, 0, none⟩)], 3⟩]
theorem mv_move {W : World} {b g1 g2 : Nat} (hb : W.heap[b]? = some (.map (mvEs g1 g2) 4)) {x : ByteArray} (hx : x.data.toList = wMove) : (Instr.lookup 228 (.map (some b)) (.string x) true).run Tryz.prog W = .ok (.tuple #[.func (.func 129) #[] #[], .bool true]) W := by
  have e : x = ⟨wMove.toArray⟩ := by rw [← hx]
  subst e
  exact look_yes mvU Tryz.underlying9 (i := 0) hb rfl
theorem mv_narrow {W : World} {b g1 g2 : Nat} (hb : W.heap[b]? = some (.map (mvEs g1 g2) 4)) {x : ByteArray} (hx : x.data.toList = wNarrow) : (Instr.lookup 228 (.map (some b)) (.string x) true).run Tryz.prog W = .ok (.tuple #[.func (.func 130) #[] #[], .bool true]) W := by
  have e : x = ⟨wNarrow.toArray⟩ := by rw [← hx]
  subst e
  exact look_yes mvU Tryz.underlying9 (i := 1) hb rfl
theorem mv_seal {W : World} {b g1 g2 : Nat} (hb : W.heap[b]? = some (.map (mvEs g1 g2) 4)) {x : ByteArray} (hx : x.data.toList = wSeal) : (Instr.lookup 228 (.map (some b)) (.string x) true).run Tryz.prog W = .ok (.tuple #[.func (.func 172) #[] #[.pointer (some ⟨g1, 0, none⟩)], .bool true]) W := by
  have e : x = ⟨wSeal.toArray⟩ := by rw [← hx]
  subst e
  exact look_yes mvU Tryz.underlying9 (i := 2) hb rfl
theorem mv_open {W : World} {b g1 g2 : Nat} (hb : W.heap[b]? = some (.map (mvEs g1 g2) 4)) {x : ByteArray} (hx : x.data.toList = wOpen) : (Instr.lookup 228 (.map (some b)) (.string x) true).run Tryz.prog W = .ok (.tuple #[.func (.func 172) #[] #[.pointer (some ⟨g2, 0, none⟩)], .bool true]) W := by
  have e : x = ⟨wOpen.toArray⟩ := by rw [← hx]
  subst e
  exact look_yes mvU Tryz.underlying9 (i := 3) hb rfl
theorem mv_none {W : World} {b g1 g2 : Nat} (hb : W.heap[b]? = some (.map (mvEs g1 g2) 4)) {x : ByteArray} (h1 : x.data.toList ≠ wMove) (h2 : x.data.toList ≠ wNarrow) (h3 : x.data.toList ≠ wSeal) (h4 : x.data.toList ≠ wOpen) : (Instr.lookup 228 (.map (some b)) (.string x) true).run Tryz.prog W = .ok (.tuple #[.nilFunc, .bool false]) W := by
  refine look_no mvU Tryz.underlying9 (mv_zero W) hb ?_
  have e1 : (x == (⟨#[109, 111, 118, 101]⟩ : ByteArray)) = false := by rw [ba_beqL x [109, 111, 118, 101]]; exact decide_eq_false h1
  have e2 : (x == (⟨#[110, 97, 114, 114, 111, 119]⟩ : ByteArray)) = false := by rw [ba_beqL x [110, 97, 114, 114, 111, 119]]; exact decide_eq_false h2
  have e3 : (x == (⟨#[115, 101, 97, 108]⟩ : ByteArray)) = false := by rw [ba_beqL x [115, 101, 97, 108]]; exact decide_eq_false h3
  have e4 : (x == (⟨#[111, 112, 101, 110]⟩ : ByteArray)) = false := by rw [ba_beqL x [111, 112, 101, 110]]; exact decide_eq_false h4
  simp [Instr.findNow, Instr.sameNow, e1, e2, e3, e4]
theorem sealer_sealE (w : World) : Calls Tryz.prog 131 #[.func (.func 43) #[] #[]] w fun e w' => ∃ g, e = .returned (.func (.func 172) #[] #[.pointer (some ⟨g, 0, none⟩)]) ∧ w'.cell? ⟨g, 0, none⟩ = some (.func (.func 43) #[] #[]) ∧ w.heap.size ≤ g ∧ Below w.heap.size w w' :=
  (sealer_seal w).mono fun e w' ⟨h1, h2, h3⟩ => ⟨_, h1, h2, Nat.le_refl _, h3⟩
theorem sealer_openE (w : World) : Calls Tryz.prog 131 #[.func (.func 46) #[] #[]] w fun e w' => ∃ g, e = .returned (.func (.func 172) #[] #[.pointer (some ⟨g, 0, none⟩)]) ∧ w'.cell? ⟨g, 0, none⟩ = some (.func (.func 46) #[] #[]) ∧ w.heap.size ≤ g ∧ Below w.heap.size w w' :=
  (sealer_open w).mono fun e w' ⟨h1, h2, h3⟩ => ⟨_, h1, h2, Nat.le_refl _, h3⟩
set_option maxHeartbeats 4000000 in
set_option maxRecDepth 100000 in
theorem words_move (g : Nat) (k0 : KeyV) (hk : k0.wf) (wd : ByteArray) (ao : Option Addr) (n c : Nat) (l : List ByteArray) (w : World) (hg : Bk w g 153 (deskC k0)) (henv : ∀ W, FrD g w W → PEnv W) (hl : Sl w ao n l) (hs : ∀ s ∈ l, s.size ≤ 1000) (hx : wd.data.toList = wMove) :
    Calls Tryz.prog 107 #[.pointer (some ⟨g, 0, none⟩), .string wd, .slice ao n c] w (DeskPost g w (wordsF k0 wd.data.toList (bysL l))) := by
  have hE : wordsF k0 wd.data.toList (bysL l) = byF k0 (bysL l) moveF := by unfold wordsF; rw [hx]; rfl
  rw [hE]
  clear hE
  have hln := hl.len
  have HG := Lib.hid hg
  have HEN := Lib.hid henv
  have HL := Lib.hid hl
  have HLs := Lib.hid hs
  clear hg henv hl hs
  go_enter Tryz.func107, Tryz.ntmps107
  go_upto_region 1 with (fail)
  go_cut [8] (fun s8 wx => ∃ g1 g2, s8 = .map (some w.heap.size) ∧ (w.heap.size < g1 ∧ w.heap.size < g2) ∧ wx.heap[w.heap.size]? = some (.map (mvEs g1 g2) 4) ∧ wx.cell? ⟨g1, 0, none⟩ = some (.func (.func 43) #[] #[]) ∧ wx.cell? ⟨g2, 0, none⟩ = some (.func (.func 46) #[] #[]) ∧ Below w.heap.size w wx)
  case first =>
    go_wp2_with (first
      | (refine wpList_mkm rfl 228 rfl ?_)
      | (refine wpList_ins rfl 228 9 226 (.tmp 20) (.const (.string ⟨#[109, 111, 118, 101]⟩)) (.func 129) rfl rfl mvU Tryz.underlying9 w.heap.size 0 #[] ⟨#[109, 111, 118, 101]⟩ (.func (.func 129) #[] #[]) rfl rfl rfl (World.alloc_heap_new w (.map #[] 0)) rfl ?_)
      | (refine wpList_ins rfl 228 9 226 (.tmp 20) (.const (.string ⟨#[110, 97, 114, 114, 111, 119]⟩)) (.func 130) rfl rfl mvU Tryz.underlying9 w.heap.size 1 #[⟨.string ⟨#[109, 111, 118, 101]⟩, .func (.func 129) #[] #[], 0⟩] ⟨#[110, 97, 114, 114, 111, 119]⟩ (.func (.func 130) #[] #[]) rfl rfl rfl (World.putObj_heap_same (by simp [World.putObj])) rfl ?_)
      | (go_at_call 131; ((with_reducible refine (sealer_sealE _).mono ?_); rintro e w5 ⟨g1, rfl, hc5, hl5, hb5⟩; have HM5 := Lib.hid (show w5.heap[w.heap.size]? = some (.map (mv2) 2) from (hb5.block w.heap.size (by simp [World.putObj])).trans (World.putObj_heap_same (by simp [World.putObj]))); have HB5 := Lib.hid (show Below w.heap.size w w5 from (below_putObj (below_putObj (ext_alloc (Below.refl _ _) _) (Nat.le_refl _)) (Nat.le_refl _)).trans (hb5.mono (by simp [World.putObj]))); have HG1 := Lib.hid (show w.heap.size < g1 from Nat.lt_of_lt_of_le (by simp [World.putObj]) hl5); have HC5 := Lib.hid hc5; clear hc5 hl5 hb5))
      | (refine wpList_ins rfl 228 9 226 (.tmp 20) (.const (.string ⟨#[115, 101, 97, 108]⟩)) (.tmp 21) rfl rfl mvU Tryz.underlying9 w.heap.size 2 #[⟨.string ⟨#[109, 111, 118, 101]⟩, .func (.func 129) #[] #[], 0⟩, ⟨.string ⟨#[110, 97, 114, 114, 111, 119]⟩, .func (.func 130) #[] #[], 1⟩] ⟨#[115, 101, 97, 108]⟩ (.func (.func 172) #[] #[.pointer (some ⟨g1, 0, none⟩)]) rfl rfl rfl HM5.out rfl ?_)
      | (go_at_call 131; ((with_reducible refine (sealer_openE _).mono ?_); rintro e w7 ⟨g2, rfl, hc7, hl7, hb7⟩; have HM7 := Lib.hid (show w7.heap[w.heap.size]? = some (.map (mv3 g1) 3) from (hb7.block w.heap.size (by have := (Array.getElem?_eq_some_iff.1 HM5.out).1; simp [World.putObj]; omega)).trans (World.putObj_heap_same (Array.getElem?_eq_some_iff.1 HM5.out).1)); have HB7 := Lib.hid (show Below w.heap.size w w7 from (below_putObj HB5.out (Nat.le_refl _)).trans (hb7.mono (by have := HB5.out.size; simp [World.putObj]; omega))); have HG2 := Lib.hid (show w.heap.size < g2 from Nat.lt_of_lt_of_le (by have := (Array.getElem?_eq_some_iff.1 HM5.out).1; simp [World.putObj]; omega) hl7); have HC7 := Lib.hid hc7; have HC57 := Lib.hid (below_cellD hb7 (a := ⟨g1, 0, none⟩) ((cell_putObjD (a := ⟨g1, 0, none⟩) (Nat.ne_of_gt HG1.out)).trans HC5.out) (Nat.le_refl _)); clear hc7 hl7 hb7))
      | (refine wpList_ins rfl 228 9 226 (.tmp 20) (.const (.string ⟨#[111, 112, 101, 110]⟩)) (.tmp 22) rfl rfl mvU Tryz.underlying9 w.heap.size 3 #[⟨.string ⟨#[109, 111, 118, 101]⟩, .func (.func 129) #[] #[], 0⟩, ⟨.string ⟨#[110, 97, 114, 114, 111, 119]⟩, .func (.func 130) #[] #[], 1⟩, ⟨.string ⟨#[115, 101, 97, 108]⟩, .func (.func 172) #[] #[.pointer (some ⟨g1, 0, none⟩)], 2⟩] ⟨#[111, 112, 101, 110]⟩ (.func (.func 172) #[] #[.pointer (some ⟨g2, 0, none⟩)]) rfl rfl rfl HM7.out rfl ?_))
    go_meet
    exact ⟨g1, g2, rfl, ⟨HG1.out, HG2.out⟩, World.putObj_heap_same (Array.getElem?_eq_some_iff.1 HM7.out).1, (cell_putObjD (a := ⟨g1, 0, none⟩) (Nat.ne_of_gt HG1.out)).trans HC57.out, (cell_putObjD (a := ⟨g2, 0, none⟩) (Nat.ne_of_gt HG2.out)).trans HC7.out, below_putObj HB7.out (Nat.le_refl _)⟩
  case rest =>
    obtain ⟨g1, g2, rfl, hgg, hm, hc1, hc2, hb⟩ := hcut
    obtain ⟨w4, hw4⟩ : ∃ w4, w4 = wc := ⟨_, rfl⟩
    rw [← hw4] at hm hb hc1 hc2 ⊢
    have HM4 := Lib.hid hm
    have HGG := Lib.hid hgg
    have HBW := Lib.hid hb
    have HC1 := Lib.hid hc1
    have HC2 := Lib.hid hc2
    clear hgg hm hb hc1 hc2 hw4
    have lk := mv_move HM4.out hx
    have HB4g := Lib.hid (show g < w.heap.size ∧ w.heap.size < g1 ∧ w.heap.size < g2 from ⟨HG.out.lt, HGG.out⟩)
    have by_ := deskby_any g k0 ao n c l w4 (HEN.out _ (FrD.of HBW.out)) (bk_keep HBW.out HG.out) (fun W hW => HEN.out _ ((FrD.of HBW.out).trans hW)) (HL.out.below HBW.out) HLs.out 129 #[] (fun _ _ => rfl) moveF (fun v hv => (move_ok k0 _).wf) (fun v W hv _ => move_any k0.perm k0.base k0.len k0.at_ k0.seal_ v hv W)
    have BY := Lib.hid by_
    clear by_
    go_wp2_with (go_at_call 132; ((with_reducible refine BY.out.mono ?_); rintro e w5 ⟨o, rfl, ho, hb5, hf5⟩))
    go_ret2
    exact ⟨o, rfl, ho, hb5, (FrD.of HBW.out).trans hf5⟩
set_option maxHeartbeats 4000000 in
set_option maxRecDepth 100000 in
theorem words_narrow (g : Nat) (k0 : KeyV) (hk : k0.wf) (wd : ByteArray) (ao : Option Addr) (n c : Nat) (l : List ByteArray) (w : World) (hg : Bk w g 153 (deskC k0)) (henv : ∀ W, FrD g w W → PEnv W) (hl : Sl w ao n l) (hs : ∀ s ∈ l, s.size ≤ 1000) (hx : wd.data.toList = wNarrow) :
    Calls Tryz.prog 107 #[.pointer (some ⟨g, 0, none⟩), .string wd, .slice ao n c] w (DeskPost g w (wordsF k0 wd.data.toList (bysL l))) := by
  have hE : wordsF k0 wd.data.toList (bysL l) = byF k0 (bysL l) narrowF := by unfold wordsF; rw [hx]; rfl
  rw [hE]
  clear hE
  have hln := hl.len
  have HG := Lib.hid hg
  have HEN := Lib.hid henv
  have HL := Lib.hid hl
  have HLs := Lib.hid hs
  clear hg henv hl hs
  go_enter Tryz.func107, Tryz.ntmps107
  go_upto_region 1 with (fail)
  go_cut [8] (fun s8 wx => ∃ g1 g2, s8 = .map (some w.heap.size) ∧ (w.heap.size < g1 ∧ w.heap.size < g2) ∧ wx.heap[w.heap.size]? = some (.map (mvEs g1 g2) 4) ∧ wx.cell? ⟨g1, 0, none⟩ = some (.func (.func 43) #[] #[]) ∧ wx.cell? ⟨g2, 0, none⟩ = some (.func (.func 46) #[] #[]) ∧ Below w.heap.size w wx)
  case first =>
    go_wp2_with (first
      | (refine wpList_mkm rfl 228 rfl ?_)
      | (refine wpList_ins rfl 228 9 226 (.tmp 20) (.const (.string ⟨#[109, 111, 118, 101]⟩)) (.func 129) rfl rfl mvU Tryz.underlying9 w.heap.size 0 #[] ⟨#[109, 111, 118, 101]⟩ (.func (.func 129) #[] #[]) rfl rfl rfl (World.alloc_heap_new w (.map #[] 0)) rfl ?_)
      | (refine wpList_ins rfl 228 9 226 (.tmp 20) (.const (.string ⟨#[110, 97, 114, 114, 111, 119]⟩)) (.func 130) rfl rfl mvU Tryz.underlying9 w.heap.size 1 #[⟨.string ⟨#[109, 111, 118, 101]⟩, .func (.func 129) #[] #[], 0⟩] ⟨#[110, 97, 114, 114, 111, 119]⟩ (.func (.func 130) #[] #[]) rfl rfl rfl (World.putObj_heap_same (by simp [World.putObj])) rfl ?_)
      | (go_at_call 131; ((with_reducible refine (sealer_sealE _).mono ?_); rintro e w5 ⟨g1, rfl, hc5, hl5, hb5⟩; have HM5 := Lib.hid (show w5.heap[w.heap.size]? = some (.map (mv2) 2) from (hb5.block w.heap.size (by simp [World.putObj])).trans (World.putObj_heap_same (by simp [World.putObj]))); have HB5 := Lib.hid (show Below w.heap.size w w5 from (below_putObj (below_putObj (ext_alloc (Below.refl _ _) _) (Nat.le_refl _)) (Nat.le_refl _)).trans (hb5.mono (by simp [World.putObj]))); have HG1 := Lib.hid (show w.heap.size < g1 from Nat.lt_of_lt_of_le (by simp [World.putObj]) hl5); have HC5 := Lib.hid hc5; clear hc5 hl5 hb5))
      | (refine wpList_ins rfl 228 9 226 (.tmp 20) (.const (.string ⟨#[115, 101, 97, 108]⟩)) (.tmp 21) rfl rfl mvU Tryz.underlying9 w.heap.size 2 #[⟨.string ⟨#[109, 111, 118, 101]⟩, .func (.func 129) #[] #[], 0⟩, ⟨.string ⟨#[110, 97, 114, 114, 111, 119]⟩, .func (.func 130) #[] #[], 1⟩] ⟨#[115, 101, 97, 108]⟩ (.func (.func 172) #[] #[.pointer (some ⟨g1, 0, none⟩)]) rfl rfl rfl HM5.out rfl ?_)
      | (go_at_call 131; ((with_reducible refine (sealer_openE _).mono ?_); rintro e w7 ⟨g2, rfl, hc7, hl7, hb7⟩; have HM7 := Lib.hid (show w7.heap[w.heap.size]? = some (.map (mv3 g1) 3) from (hb7.block w.heap.size (by have := (Array.getElem?_eq_some_iff.1 HM5.out).1; simp [World.putObj]; omega)).trans (World.putObj_heap_same (Array.getElem?_eq_some_iff.1 HM5.out).1)); have HB7 := Lib.hid (show Below w.heap.size w w7 from (below_putObj HB5.out (Nat.le_refl _)).trans (hb7.mono (by have := HB5.out.size; simp [World.putObj]; omega))); have HG2 := Lib.hid (show w.heap.size < g2 from Nat.lt_of_lt_of_le (by have := (Array.getElem?_eq_some_iff.1 HM5.out).1; simp [World.putObj]; omega) hl7); have HC7 := Lib.hid hc7; have HC57 := Lib.hid (below_cellD hb7 (a := ⟨g1, 0, none⟩) ((cell_putObjD (a := ⟨g1, 0, none⟩) (Nat.ne_of_gt HG1.out)).trans HC5.out) (Nat.le_refl _)); clear hc7 hl7 hb7))
      | (refine wpList_ins rfl 228 9 226 (.tmp 20) (.const (.string ⟨#[111, 112, 101, 110]⟩)) (.tmp 22) rfl rfl mvU Tryz.underlying9 w.heap.size 3 #[⟨.string ⟨#[109, 111, 118, 101]⟩, .func (.func 129) #[] #[], 0⟩, ⟨.string ⟨#[110, 97, 114, 114, 111, 119]⟩, .func (.func 130) #[] #[], 1⟩, ⟨.string ⟨#[115, 101, 97, 108]⟩, .func (.func 172) #[] #[.pointer (some ⟨g1, 0, none⟩)], 2⟩] ⟨#[111, 112, 101, 110]⟩ (.func (.func 172) #[] #[.pointer (some ⟨g2, 0, none⟩)]) rfl rfl rfl HM7.out rfl ?_))
    go_meet
    exact ⟨g1, g2, rfl, ⟨HG1.out, HG2.out⟩, World.putObj_heap_same (Array.getElem?_eq_some_iff.1 HM7.out).1, (cell_putObjD (a := ⟨g1, 0, none⟩) (Nat.ne_of_gt HG1.out)).trans HC57.out, (cell_putObjD (a := ⟨g2, 0, none⟩) (Nat.ne_of_gt HG2.out)).trans HC7.out, below_putObj HB7.out (Nat.le_refl _)⟩
  case rest =>
    obtain ⟨g1, g2, rfl, hgg, hm, hc1, hc2, hb⟩ := hcut
    obtain ⟨w4, hw4⟩ : ∃ w4, w4 = wc := ⟨_, rfl⟩
    rw [← hw4] at hm hb hc1 hc2 ⊢
    have HM4 := Lib.hid hm
    have HGG := Lib.hid hgg
    have HBW := Lib.hid hb
    have HC1 := Lib.hid hc1
    have HC2 := Lib.hid hc2
    clear hgg hm hb hc1 hc2 hw4
    have lk := mv_narrow HM4.out hx
    have HB4g := Lib.hid (show g < w.heap.size ∧ w.heap.size < g1 ∧ w.heap.size < g2 from ⟨HG.out.lt, HGG.out⟩)
    have by_ := deskby_any g k0 ao n c l w4 (HEN.out _ (FrD.of HBW.out)) (bk_keep HBW.out HG.out) (fun W hW => HEN.out _ ((FrD.of HBW.out).trans hW)) (HL.out.below HBW.out) HLs.out 130 #[] (fun _ _ => rfl) narrowF (fun v hv => (narrow_ok k0 _).wf) (fun v W hv _ => narrow_any k0.perm k0.base k0.len k0.at_ k0.seal_ v hv W)
    have BY := Lib.hid by_
    clear by_
    go_wp2_with (go_at_call 132; ((with_reducible refine BY.out.mono ?_); rintro e w5 ⟨o, rfl, ho, hb5, hf5⟩))
    go_ret2
    exact ⟨o, rfl, ho, hb5, (FrD.of HBW.out).trans hf5⟩
set_option maxHeartbeats 4000000 in
set_option maxRecDepth 100000 in
theorem words_seal (g : Nat) (k0 : KeyV) (hk : k0.wf) (wd : ByteArray) (ao : Option Addr) (n c : Nat) (l : List ByteArray) (w : World) (hg : Bk w g 153 (deskC k0)) (henv : ∀ W, FrD g w W → PEnv W) (hl : Sl w ao n l) (hs : ∀ s ∈ l, s.size ≤ 1000) (hx : wd.data.toList = wSeal) :
    Calls Tryz.prog 107 #[.pointer (some ⟨g, 0, none⟩), .string wd, .slice ao n c] w (DeskPost g w (wordsF k0 wd.data.toList (bysL l))) := by
  have hE : wordsF k0 wd.data.toList (bysL l) = byF k0 (bysL l) (sealerF sealF) := by unfold wordsF; rw [hx]; rfl
  rw [hE]
  clear hE
  have hln := hl.len
  have HG := Lib.hid hg
  have HEN := Lib.hid henv
  have HL := Lib.hid hl
  have HLs := Lib.hid hs
  clear hg henv hl hs
  go_enter Tryz.func107, Tryz.ntmps107
  go_upto_region 1 with (fail)
  go_cut [8] (fun s8 wx => ∃ g1 g2, s8 = .map (some w.heap.size) ∧ (w.heap.size < g1 ∧ w.heap.size < g2) ∧ wx.heap[w.heap.size]? = some (.map (mvEs g1 g2) 4) ∧ wx.cell? ⟨g1, 0, none⟩ = some (.func (.func 43) #[] #[]) ∧ wx.cell? ⟨g2, 0, none⟩ = some (.func (.func 46) #[] #[]) ∧ Below w.heap.size w wx)
  case first =>
    go_wp2_with (first
      | (refine wpList_mkm rfl 228 rfl ?_)
      | (refine wpList_ins rfl 228 9 226 (.tmp 20) (.const (.string ⟨#[109, 111, 118, 101]⟩)) (.func 129) rfl rfl mvU Tryz.underlying9 w.heap.size 0 #[] ⟨#[109, 111, 118, 101]⟩ (.func (.func 129) #[] #[]) rfl rfl rfl (World.alloc_heap_new w (.map #[] 0)) rfl ?_)
      | (refine wpList_ins rfl 228 9 226 (.tmp 20) (.const (.string ⟨#[110, 97, 114, 114, 111, 119]⟩)) (.func 130) rfl rfl mvU Tryz.underlying9 w.heap.size 1 #[⟨.string ⟨#[109, 111, 118, 101]⟩, .func (.func 129) #[] #[], 0⟩] ⟨#[110, 97, 114, 114, 111, 119]⟩ (.func (.func 130) #[] #[]) rfl rfl rfl (World.putObj_heap_same (by simp [World.putObj])) rfl ?_)
      | (go_at_call 131; ((with_reducible refine (sealer_sealE _).mono ?_); rintro e w5 ⟨g1, rfl, hc5, hl5, hb5⟩; have HM5 := Lib.hid (show w5.heap[w.heap.size]? = some (.map (mv2) 2) from (hb5.block w.heap.size (by simp [World.putObj])).trans (World.putObj_heap_same (by simp [World.putObj]))); have HB5 := Lib.hid (show Below w.heap.size w w5 from (below_putObj (below_putObj (ext_alloc (Below.refl _ _) _) (Nat.le_refl _)) (Nat.le_refl _)).trans (hb5.mono (by simp [World.putObj]))); have HG1 := Lib.hid (show w.heap.size < g1 from Nat.lt_of_lt_of_le (by simp [World.putObj]) hl5); have HC5 := Lib.hid hc5; clear hc5 hl5 hb5))
      | (refine wpList_ins rfl 228 9 226 (.tmp 20) (.const (.string ⟨#[115, 101, 97, 108]⟩)) (.tmp 21) rfl rfl mvU Tryz.underlying9 w.heap.size 2 #[⟨.string ⟨#[109, 111, 118, 101]⟩, .func (.func 129) #[] #[], 0⟩, ⟨.string ⟨#[110, 97, 114, 114, 111, 119]⟩, .func (.func 130) #[] #[], 1⟩] ⟨#[115, 101, 97, 108]⟩ (.func (.func 172) #[] #[.pointer (some ⟨g1, 0, none⟩)]) rfl rfl rfl HM5.out rfl ?_)
      | (go_at_call 131; ((with_reducible refine (sealer_openE _).mono ?_); rintro e w7 ⟨g2, rfl, hc7, hl7, hb7⟩; have HM7 := Lib.hid (show w7.heap[w.heap.size]? = some (.map (mv3 g1) 3) from (hb7.block w.heap.size (by have := (Array.getElem?_eq_some_iff.1 HM5.out).1; simp [World.putObj]; omega)).trans (World.putObj_heap_same (Array.getElem?_eq_some_iff.1 HM5.out).1)); have HB7 := Lib.hid (show Below w.heap.size w w7 from (below_putObj HB5.out (Nat.le_refl _)).trans (hb7.mono (by have := HB5.out.size; simp [World.putObj]; omega))); have HG2 := Lib.hid (show w.heap.size < g2 from Nat.lt_of_lt_of_le (by have := (Array.getElem?_eq_some_iff.1 HM5.out).1; simp [World.putObj]; omega) hl7); have HC7 := Lib.hid hc7; have HC57 := Lib.hid (below_cellD hb7 (a := ⟨g1, 0, none⟩) ((cell_putObjD (a := ⟨g1, 0, none⟩) (Nat.ne_of_gt HG1.out)).trans HC5.out) (Nat.le_refl _)); clear hc7 hl7 hb7))
      | (refine wpList_ins rfl 228 9 226 (.tmp 20) (.const (.string ⟨#[111, 112, 101, 110]⟩)) (.tmp 22) rfl rfl mvU Tryz.underlying9 w.heap.size 3 #[⟨.string ⟨#[109, 111, 118, 101]⟩, .func (.func 129) #[] #[], 0⟩, ⟨.string ⟨#[110, 97, 114, 114, 111, 119]⟩, .func (.func 130) #[] #[], 1⟩, ⟨.string ⟨#[115, 101, 97, 108]⟩, .func (.func 172) #[] #[.pointer (some ⟨g1, 0, none⟩)], 2⟩] ⟨#[111, 112, 101, 110]⟩ (.func (.func 172) #[] #[.pointer (some ⟨g2, 0, none⟩)]) rfl rfl rfl HM7.out rfl ?_))
    go_meet
    exact ⟨g1, g2, rfl, ⟨HG1.out, HG2.out⟩, World.putObj_heap_same (Array.getElem?_eq_some_iff.1 HM7.out).1, (cell_putObjD (a := ⟨g1, 0, none⟩) (Nat.ne_of_gt HG1.out)).trans HC57.out, (cell_putObjD (a := ⟨g2, 0, none⟩) (Nat.ne_of_gt HG2.out)).trans HC7.out, below_putObj HB7.out (Nat.le_refl _)⟩
  case rest =>
    obtain ⟨g1, g2, rfl, hgg, hm, hc1, hc2, hb⟩ := hcut
    obtain ⟨w4, hw4⟩ : ∃ w4, w4 = wc := ⟨_, rfl⟩
    rw [← hw4] at hm hb hc1 hc2 ⊢
    have HM4 := Lib.hid hm
    have HGG := Lib.hid hgg
    have HBW := Lib.hid hb
    have HC1 := Lib.hid hc1
    have HC2 := Lib.hid hc2
    clear hgg hm hb hc1 hc2 hw4
    have lk := mv_seal HM4.out hx
    have HB4g := Lib.hid (show g < w.heap.size ∧ w.heap.size < g1 ∧ w.heap.size < g2 from ⟨HG.out.lt, HGG.out⟩)
    have hne : g1 ≠ g := fun e => by
      have := HB4g.out
      omega
    have hcl : ∀ W, FrD g w4 W → W.cell? ⟨g1, 0, none⟩ = some (.func (.func 43) #[] #[]) := fun W hW => by
      have := HC1.out
      exact (World.cell?_of_block (hW.block g1 (cell_ltD this) hne)).trans this
    have by_ := deskby_any g k0 ao n c l w4 (HEN.out _ (FrD.of HBW.out)) (bk_keep HBW.out HG.out) (fun W hW => HEN.out _ ((FrD.of HBW.out).trans hW)) (HL.out.below HBW.out) HLs.out 172 #[.pointer (some ⟨g1, 0, none⟩)] (fun _ _ => rfl) (sealerF sealF) (fun v hv => (seal_ok k0 _).wf) (fun v W hv hW => sealed_seal k0 hk v hv g1 W (hcl W hW))
    have BY := Lib.hid by_
    clear by_
    go_wp2_with (go_at_call 132; ((with_reducible refine BY.out.mono ?_); rintro e w5 ⟨o, rfl, ho, hb5, hf5⟩))
    go_ret2
    exact ⟨o, rfl, ho, hb5, (FrD.of HBW.out).trans hf5⟩
set_option maxHeartbeats 4000000 in
set_option maxRecDepth 100000 in
theorem words_open (g : Nat) (k0 : KeyV) (hk : k0.wf) (wd : ByteArray) (ao : Option Addr) (n c : Nat) (l : List ByteArray) (w : World) (hg : Bk w g 153 (deskC k0)) (henv : ∀ W, FrD g w W → PEnv W) (hl : Sl w ao n l) (hs : ∀ s ∈ l, s.size ≤ 1000) (hx : wd.data.toList = wOpen) :
    Calls Tryz.prog 107 #[.pointer (some ⟨g, 0, none⟩), .string wd, .slice ao n c] w (DeskPost g w (wordsF k0 wd.data.toList (bysL l))) := by
  have hE : wordsF k0 wd.data.toList (bysL l) = byF k0 (bysL l) (sealerF openF) := by unfold wordsF; rw [hx]; rfl
  rw [hE]
  clear hE
  have hln := hl.len
  have HG := Lib.hid hg
  have HEN := Lib.hid henv
  have HL := Lib.hid hl
  have HLs := Lib.hid hs
  clear hg henv hl hs
  go_enter Tryz.func107, Tryz.ntmps107
  go_upto_region 1 with (fail)
  go_cut [8] (fun s8 wx => ∃ g1 g2, s8 = .map (some w.heap.size) ∧ (w.heap.size < g1 ∧ w.heap.size < g2) ∧ wx.heap[w.heap.size]? = some (.map (mvEs g1 g2) 4) ∧ wx.cell? ⟨g1, 0, none⟩ = some (.func (.func 43) #[] #[]) ∧ wx.cell? ⟨g2, 0, none⟩ = some (.func (.func 46) #[] #[]) ∧ Below w.heap.size w wx)
  case first =>
    go_wp2_with (first
      | (refine wpList_mkm rfl 228 rfl ?_)
      | (refine wpList_ins rfl 228 9 226 (.tmp 20) (.const (.string ⟨#[109, 111, 118, 101]⟩)) (.func 129) rfl rfl mvU Tryz.underlying9 w.heap.size 0 #[] ⟨#[109, 111, 118, 101]⟩ (.func (.func 129) #[] #[]) rfl rfl rfl (World.alloc_heap_new w (.map #[] 0)) rfl ?_)
      | (refine wpList_ins rfl 228 9 226 (.tmp 20) (.const (.string ⟨#[110, 97, 114, 114, 111, 119]⟩)) (.func 130) rfl rfl mvU Tryz.underlying9 w.heap.size 1 #[⟨.string ⟨#[109, 111, 118, 101]⟩, .func (.func 129) #[] #[], 0⟩] ⟨#[110, 97, 114, 114, 111, 119]⟩ (.func (.func 130) #[] #[]) rfl rfl rfl (World.putObj_heap_same (by simp [World.putObj])) rfl ?_)
      | (go_at_call 131; ((with_reducible refine (sealer_sealE _).mono ?_); rintro e w5 ⟨g1, rfl, hc5, hl5, hb5⟩; have HM5 := Lib.hid (show w5.heap[w.heap.size]? = some (.map (mv2) 2) from (hb5.block w.heap.size (by simp [World.putObj])).trans (World.putObj_heap_same (by simp [World.putObj]))); have HB5 := Lib.hid (show Below w.heap.size w w5 from (below_putObj (below_putObj (ext_alloc (Below.refl _ _) _) (Nat.le_refl _)) (Nat.le_refl _)).trans (hb5.mono (by simp [World.putObj]))); have HG1 := Lib.hid (show w.heap.size < g1 from Nat.lt_of_lt_of_le (by simp [World.putObj]) hl5); have HC5 := Lib.hid hc5; clear hc5 hl5 hb5))
      | (refine wpList_ins rfl 228 9 226 (.tmp 20) (.const (.string ⟨#[115, 101, 97, 108]⟩)) (.tmp 21) rfl rfl mvU Tryz.underlying9 w.heap.size 2 #[⟨.string ⟨#[109, 111, 118, 101]⟩, .func (.func 129) #[] #[], 0⟩, ⟨.string ⟨#[110, 97, 114, 114, 111, 119]⟩, .func (.func 130) #[] #[], 1⟩] ⟨#[115, 101, 97, 108]⟩ (.func (.func 172) #[] #[.pointer (some ⟨g1, 0, none⟩)]) rfl rfl rfl HM5.out rfl ?_)
      | (go_at_call 131; ((with_reducible refine (sealer_openE _).mono ?_); rintro e w7 ⟨g2, rfl, hc7, hl7, hb7⟩; have HM7 := Lib.hid (show w7.heap[w.heap.size]? = some (.map (mv3 g1) 3) from (hb7.block w.heap.size (by have := (Array.getElem?_eq_some_iff.1 HM5.out).1; simp [World.putObj]; omega)).trans (World.putObj_heap_same (Array.getElem?_eq_some_iff.1 HM5.out).1)); have HB7 := Lib.hid (show Below w.heap.size w w7 from (below_putObj HB5.out (Nat.le_refl _)).trans (hb7.mono (by have := HB5.out.size; simp [World.putObj]; omega))); have HG2 := Lib.hid (show w.heap.size < g2 from Nat.lt_of_lt_of_le (by have := (Array.getElem?_eq_some_iff.1 HM5.out).1; simp [World.putObj]; omega) hl7); have HC7 := Lib.hid hc7; have HC57 := Lib.hid (below_cellD hb7 (a := ⟨g1, 0, none⟩) ((cell_putObjD (a := ⟨g1, 0, none⟩) (Nat.ne_of_gt HG1.out)).trans HC5.out) (Nat.le_refl _)); clear hc7 hl7 hb7))
      | (refine wpList_ins rfl 228 9 226 (.tmp 20) (.const (.string ⟨#[111, 112, 101, 110]⟩)) (.tmp 22) rfl rfl mvU Tryz.underlying9 w.heap.size 3 #[⟨.string ⟨#[109, 111, 118, 101]⟩, .func (.func 129) #[] #[], 0⟩, ⟨.string ⟨#[110, 97, 114, 114, 111, 119]⟩, .func (.func 130) #[] #[], 1⟩, ⟨.string ⟨#[115, 101, 97, 108]⟩, .func (.func 172) #[] #[.pointer (some ⟨g1, 0, none⟩)], 2⟩] ⟨#[111, 112, 101, 110]⟩ (.func (.func 172) #[] #[.pointer (some ⟨g2, 0, none⟩)]) rfl rfl rfl HM7.out rfl ?_))
    go_meet
    exact ⟨g1, g2, rfl, ⟨HG1.out, HG2.out⟩, World.putObj_heap_same (Array.getElem?_eq_some_iff.1 HM7.out).1, (cell_putObjD (a := ⟨g1, 0, none⟩) (Nat.ne_of_gt HG1.out)).trans HC57.out, (cell_putObjD (a := ⟨g2, 0, none⟩) (Nat.ne_of_gt HG2.out)).trans HC7.out, below_putObj HB7.out (Nat.le_refl _)⟩
  case rest =>
    obtain ⟨g1, g2, rfl, hgg, hm, hc1, hc2, hb⟩ := hcut
    obtain ⟨w4, hw4⟩ : ∃ w4, w4 = wc := ⟨_, rfl⟩
    rw [← hw4] at hm hb hc1 hc2 ⊢
    have HM4 := Lib.hid hm
    have HGG := Lib.hid hgg
    have HBW := Lib.hid hb
    have HC1 := Lib.hid hc1
    have HC2 := Lib.hid hc2
    clear hgg hm hb hc1 hc2 hw4
    have lk := mv_open HM4.out hx
    have HB4g := Lib.hid (show g < w.heap.size ∧ w.heap.size < g1 ∧ w.heap.size < g2 from ⟨HG.out.lt, HGG.out⟩)
    have hne : g2 ≠ g := fun e => by
      have := HB4g.out
      omega
    have hcl : ∀ W, FrD g w4 W → W.cell? ⟨g2, 0, none⟩ = some (.func (.func 46) #[] #[]) := fun W hW => by
      have := HC2.out
      exact (World.cell?_of_block (hW.block g2 (cell_ltD this) hne)).trans this
    have by_ := deskby_any g k0 ao n c l w4 (HEN.out _ (FrD.of HBW.out)) (bk_keep HBW.out HG.out) (fun W hW => HEN.out _ ((FrD.of HBW.out).trans hW)) (HL.out.below HBW.out) HLs.out 172 #[.pointer (some ⟨g2, 0, none⟩)] (fun _ _ => rfl) (sealerF openF) (fun v hv => (open_ok k0 _).wf) (fun v W hv hW => sealed_open k0 hk v hv g2 W (hcl W hW))
    have BY := Lib.hid by_
    clear by_
    go_wp2_with (go_at_call 132; ((with_reducible refine BY.out.mono ?_); rintro e w5 ⟨o, rfl, ho, hb5, hf5⟩))
    go_ret2
    exact ⟨o, rfl, ho, hb5, (FrD.of HBW.out).trans hf5⟩
end Go.Proofs.YtpjhjefjbkjhkaaGreatDoor
/- What a desk's words do: the others. -/
namespace Go.Proofs.YtpjhjefjbkjhkaaGreatDoor
open Go Go.RowKit Go.Shelf
set_option linter.unusedVariables false
set_option linter.unusedSimpArgs false
theorem setRow_allocD (w : World) (T : TypeId) (old cells : Array Value) : (w.alloc (.cells old T)).setRow w.heap.size cells = w.alloc (.cells cells T) := by
  unfold World.setRow
  show World.mk .. = World.mk ..
  congr 1
  apply Array.ext_getElem?
  intro i
  show ((w.heap.push (.cells old T)).modify w.heap.size _)[i]? = (w.heap.push (.cells cells T))[i]?
  rw [Array.getElem?_modify, Array.getElem?_push, Array.getElem?_push]
  by_cases h : i = w.heap.size
  · subst h; simp
  · rw [if_neg h, if_neg h, if_neg (fun e => h e.symm)]
theorem wpList_store_freshD {P : Program} {ops : Array Oper} {rest : List Oper} {o : Oper} {a : Act} {w0 : World} {Q : Exit → Act → World → Prop} (hgd : o.guard = none) (ty : TypeId) (x y : Operand) (ho : o.op = .store ty x y)
    (hd : o.dst = none) (cells : Array Value) (t : TypeId) (old : Array Value) (hx : a.eval x = .pointer (some ⟨w0.heap.size, 0, none⟩)) (hy : a.eval y = .agg cells)
    (hi : (P.info? ty).map (·.size) = some cells.size) (hold : old.size = cells.size) (h1 : cells.all (·.oneCell') = true)
    (h : wpList P ops Q rest a (w0.alloc (.cells cells t))) : wpList P ops Q (o :: rest) a (w0.alloc (.cells old t)) :=
  wpList_store_rowTo hgd ty x y ho hd w0.heap.size cells hx hy t old (bk_new _ _ _) hi hold h1 (by rw [setRow_allocD]; exact h)
theorem join_slD {w : World} {ao : Option Addr} {n c : Nat} {l : List ByteArray} (h : Sl w ao n l) (hnc : n ≤ c) (haf : ∀ a, ao = some a → a = ⟨a.block, a.off, none⟩) (hn : n ≤ 1000000) (hJ : (Lib.join (bysL l) [32]).length ≤ 1000000) :
    Calls Tryz.prog 134 #[.slice ao n c, .string ⟨#[32]⟩] w fun e w' => e = .returned (.string (ba (Lib.join (bysL l) [32]))) ∧ Below w.heap.size w w' := by
  have hln := h.len
  match n, l, hln with
  | 0, [], _ =>
    refine (Any.strings_Join_none Tryz.lays156 Tryz.Builder_Extra_156 ao c ⟨#[32]⟩ w).mono ?_
    rintro e w' ⟨rfl, hw⟩
    subst w'
    exact ⟨rfl, Below.refl _ _⟩
  | m + 1, x :: xs, hln =>
    obtain ⟨a, rfl, hb, hc⟩ := sl_str (i := 0) (x := x) h (by omega) rfl
    have ea := haf a rfl
    rw [ea]
    have e1 : m + 1 = (x :: xs).length := by omega
    rw [e1]
    have hlt : a.block < w.heap.size := by
      rw [show a.add 0 = a by unfold Addr.add; rfl] at hb
      exact hb
    refine (Tryz.strings_Join a.block a.off c (x :: xs) ⟨#[32]⟩ w ?_ hlt (by omega) (by omega) (by show (Lib.join (bysL (x :: xs)) [32]).length ≤ _; omega)).mono ?_
    · intro j y hy
      obtain ⟨a', ha, _, hc⟩ := sl_str h (by have := (List.getElem?_eq_some_iff.1 hy).1; omega) hy
      injection ha with ha
      subst ha
      rw [ea, Addr.add_lit] at hc
      exact hc
    · rintro e w' ⟨rfl, hb⟩
      exact ⟨rfl, hb⟩
theorem packF_i64 {i : InstV} (h : instOk i = true) : I64 (packF i) := by have := packF_bd h; constructor <;> omega
set_option maxHeartbeats 4000000 in
set_option maxRecDepth 100000 in
theorem words_pack_ok (g : Nat) (k0 : KeyV) (hk : k0.wf) (wd : ByteArray) (ao : Option Addr) (n c : Nat) (l : List ByteArray) (w : World) (hg : Bk w g 153 (deskC k0)) (henv : ∀ W, FrD g w W → PEnv W) (hl : Sl w ao n l) (hs : ∀ s ∈ l, s.size ≤ 1000) (hn6 : n ≤ 1000000) (hnc : n ≤ c) (haf : ∀ a, ao = some a → a = ⟨a.block, a.off, none⟩) (hJ : (Lib.join (bysL l) [32]).length ≤ 1000000) (hx : wd.data.toList = wPack) (S : Bys) (hS : Lib.join (bysL l) [32] = S) (o a b cc : Int) (hP : parseF S = (⟨o, a, b, cc⟩, 0)) :
    Calls Tryz.prog 107 #[.pointer (some ⟨g, 0, none⟩), .string wd, .slice ao n c] w (DeskPost g w (wordsF k0 wd.data.toList (bysL l))) := by
  have hE : wordsF k0 wd.data.toList (bysL l) = ⟨k0, Lib.itoa (packF ⟨o, a, b, cc⟩), 0⟩ := by unfold wordsF; rw [hx]; show DeskR.mk _ _ _ = _; unfold packS; rw [hS, hP]; rfl
  rw [hE]
  clear hE
  have q_pack : (wd.toList == [112, 97, 99, 107]) = true := by rw [toL_eq, hx]; decide
  have q_round : (wd.toList == [114, 111, 117, 110, 100]) = false := by rw [toL_eq, hx]; decide
  have q_calc : (wd.toList == [99, 97, 108, 99]) = false := by rw [toL_eq, hx]; decide
  have q_key : (wd.toList == [107, 101, 121]) = false := by rw [toL_eq, hx]; decide
  have q_new : (wd.toList == [110, 101, 119]) = false := by rw [toL_eq, hx]; decide
  have q_read : (wd.toList == [114, 101, 97, 100]) = false := by rw [toL_eq, hx]; decide
  have q_perm : (wd.toList == [112, 101, 114, 109]) = false := by rw [toL_eq, hx]; decide
  have q_drop : (wd.toList == [100, 114, 111, 112]) = false := by rw [toL_eq, hx]; decide
  have hln := hl.len
  have HG := Lib.hid hg
  have HEN := Lib.hid henv
  have HL := Lib.hid hl
  have HLs := Lib.hid hs
  have HNC := Lib.hid hnc
  have HAF := Lib.hid haf
  have HJJ := Lib.hid hJ
  clear hnc haf hJ
  have HS := Lib.hid hS
  have hSl : S.length ≤ 1000000 := by rw [← hS]; exact HJJ.out
  have pa := fun W (hW : PEnv W) => parse_any (ba S) W hW (by have h1 : (ba S).size = S.length := ba_len S; omega)
  rw [show (ba S).data.toList = S from rfl, hP] at pa
  unfold InstV.val at pa
  simp only at pa
  have PA := Lib.hid pa
  clear pa hS hSl
  obtain ⟨pn, hpn⟩ : ∃ pn, packF ⟨o, a, b, cc⟩ = pn := ⟨_, rfl⟩
  have hok := (parse_ok hP).1
  have ip := fun W (hW : Tab W) => ipack_any o a b cc W hW
  rw [hok] at ip
  simp only [if_true] at ip
  rw [hpn] at ip ⊢
  have hpi : I64 pn := hpn ▸ packF_i64 hok
  have it := fun W (hW : Tab10 W) => itoa_any pn hpi W hW
  have IP := Lib.hid ip
  have IT := Lib.hid it
  clear ip it hpn hpi hok hP
  clear hg henv hl hs
  go_enter Tryz.func107, Tryz.ntmps107
  go_upto_region 1 with (fail)
  go_cut [8] (fun s8 wx => ∃ g1 g2, s8 = .map (some w.heap.size) ∧ wx.heap[w.heap.size]? = some (.map (mvEs g1 g2) 4) ∧ wx.cell? ⟨g1, 0, none⟩ = some (.func (.func 43) #[] #[]) ∧ wx.cell? ⟨g2, 0, none⟩ = some (.func (.func 46) #[] #[]) ∧ Below w.heap.size w wx)
  case first =>
    go_wp2_with (first
      | (refine wpList_mkm rfl 228 rfl ?_)
      | (refine wpList_ins rfl 228 9 226 (.tmp 20) (.const (.string ⟨#[109, 111, 118, 101]⟩)) (.func 129) rfl rfl mvU Tryz.underlying9 w.heap.size 0 #[] ⟨#[109, 111, 118, 101]⟩ (.func (.func 129) #[] #[]) rfl rfl rfl (World.alloc_heap_new w (.map #[] 0)) rfl ?_)
      | (refine wpList_ins rfl 228 9 226 (.tmp 20) (.const (.string ⟨#[110, 97, 114, 114, 111, 119]⟩)) (.func 130) rfl rfl mvU Tryz.underlying9 w.heap.size 1 #[⟨.string ⟨#[109, 111, 118, 101]⟩, .func (.func 129) #[] #[], 0⟩] ⟨#[110, 97, 114, 114, 111, 119]⟩ (.func (.func 130) #[] #[]) rfl rfl rfl (World.putObj_heap_same (by simp [World.putObj])) rfl ?_)
      | (go_at_call 131; ((with_reducible refine (sealer_sealE _).mono ?_); rintro e w5 ⟨g1, rfl, hc5, hl5, hb5⟩; have HM5 := Lib.hid (show w5.heap[w.heap.size]? = some (.map (mv2) 2) from (hb5.block w.heap.size (by simp [World.putObj])).trans (World.putObj_heap_same (by simp [World.putObj]))); have HB5 := Lib.hid (show Below w.heap.size w w5 from (below_putObj (below_putObj (ext_alloc (Below.refl _ _) _) (Nat.le_refl _)) (Nat.le_refl _)).trans (hb5.mono (by simp [World.putObj]))); have HG1 := Lib.hid (show w.heap.size < g1 from Nat.lt_of_lt_of_le (by simp [World.putObj]) hl5); have HC5 := Lib.hid hc5; clear hc5 hl5 hb5))
      | (refine wpList_ins rfl 228 9 226 (.tmp 20) (.const (.string ⟨#[115, 101, 97, 108]⟩)) (.tmp 21) rfl rfl mvU Tryz.underlying9 w.heap.size 2 #[⟨.string ⟨#[109, 111, 118, 101]⟩, .func (.func 129) #[] #[], 0⟩, ⟨.string ⟨#[110, 97, 114, 114, 111, 119]⟩, .func (.func 130) #[] #[], 1⟩] ⟨#[115, 101, 97, 108]⟩ (.func (.func 172) #[] #[.pointer (some ⟨g1, 0, none⟩)]) rfl rfl rfl HM5.out rfl ?_)
      | (go_at_call 131; ((with_reducible refine (sealer_openE _).mono ?_); rintro e w7 ⟨g2, rfl, hc7, hl7, hb7⟩; have HM7 := Lib.hid (show w7.heap[w.heap.size]? = some (.map (mv3 g1) 3) from (hb7.block w.heap.size (by have := (Array.getElem?_eq_some_iff.1 HM5.out).1; simp [World.putObj]; omega)).trans (World.putObj_heap_same (Array.getElem?_eq_some_iff.1 HM5.out).1)); have HB7 := Lib.hid (show Below w.heap.size w w7 from (below_putObj HB5.out (Nat.le_refl _)).trans (hb7.mono (by have := HB5.out.size; simp [World.putObj]; omega))); have HG2 := Lib.hid (show w.heap.size < g2 from Nat.lt_of_lt_of_le (by have := (Array.getElem?_eq_some_iff.1 HM5.out).1; simp [World.putObj]; omega) hl7); have HC7 := Lib.hid hc7; have HC57 := Lib.hid (below_cellD hb7 (a := ⟨g1, 0, none⟩) ((cell_putObjD (a := ⟨g1, 0, none⟩) (Nat.ne_of_gt HG1.out)).trans HC5.out) (Nat.le_refl _)); clear hc7 hl7 hb7))
      | (refine wpList_ins rfl 228 9 226 (.tmp 20) (.const (.string ⟨#[111, 112, 101, 110]⟩)) (.tmp 22) rfl rfl mvU Tryz.underlying9 w.heap.size 3 #[⟨.string ⟨#[109, 111, 118, 101]⟩, .func (.func 129) #[] #[], 0⟩, ⟨.string ⟨#[110, 97, 114, 114, 111, 119]⟩, .func (.func 130) #[] #[], 1⟩, ⟨.string ⟨#[115, 101, 97, 108]⟩, .func (.func 172) #[] #[.pointer (some ⟨g1, 0, none⟩)], 2⟩] ⟨#[111, 112, 101, 110]⟩ (.func (.func 172) #[] #[.pointer (some ⟨g2, 0, none⟩)]) rfl rfl rfl HM7.out rfl ?_))
    go_meet
    exact ⟨g1, g2, rfl, World.putObj_heap_same (Array.getElem?_eq_some_iff.1 HM7.out).1, (cell_putObjD (a := ⟨g1, 0, none⟩) (Nat.ne_of_gt HG1.out)).trans HC57.out, (cell_putObjD (a := ⟨g2, 0, none⟩) (Nat.ne_of_gt HG2.out)).trans HC7.out, below_putObj HB7.out (Nat.le_refl _)⟩
  case rest =>
    obtain ⟨g1, g2, rfl, hm, hc1, hc2, hb⟩ := hcut
    obtain ⟨w4, hw4⟩ : ∃ w4, w4 = wc := ⟨_, rfl⟩
    rw [← hw4] at hm hb hc1 hc2 ⊢
    have HM4 := Lib.hid hm
    have HBW := Lib.hid hb
    have HC1 := Lib.hid hc1
    have HC2 := Lib.hid hc2
    clear hm hb hc1 hc2 hw4
    have HE4 := Lib.hid (HEN.out _ (FrD.of HBW.out))
    have lk := mv_none HM4.out (by rw [hx]; decide) (by rw [hx]; decide) (by rw [hx]; decide) (by rw [hx]; decide)
    have jn := join_slD (HL.out.below HBW.out) HNC.out HAF.out hn6 HJJ.out
    rw [HS.out] at jn
    have JN := Lib.hid jn
    clear jn HS HJJ
    go_wp2_with (first
      | (go_at_call 134; ((with_reducible refine JN.out.mono ?_); rintro e w5 ⟨rfl, hb5⟩; have HB5 := Lib.hid (ext_trans HBW.out hb5); clear hb5))
      | (go_at_call 133; ((with_reducible refine (PA.out _ (HEN.out _ (FrD.of HB5.out))).mono ?_); rintro e w6 ⟨rfl, hb6⟩; have HB6 := Lib.hid (ext_trans HB5.out hb6); clear hb6))
      | (refine wpList_store_freshD rfl 49 (.tmp 11) (.tmp 45) rfl rfl #[.int .i64 o, .int .i64 a, .int .i64 b, .int .i64 cc] 49 _ rfl (by first | rfl | kernel_rfl) (by kernel_rfl) (by kernel_rfl) (by kernel_rfl) ?_)
      | (go_at_call 18; ((with_reducible refine (IP.out _ (HEN.out _ (FrD.of (ext_alloc HB6.out _))).asc).mono ?_); rintro e w7 ⟨rfl, hb7⟩; have HB7 := Lib.hid (ext_trans (ext_alloc HB6.out _) hb7); clear hb7))
      | (go_at_call 108; ((with_reducible refine (IT.out _ (HEN.out _ (FrD.of HB7.out)).ten).mono ?_); rintro e w8 ⟨rfl, hb8⟩; have HB8 := Lib.hid (ext_trans HB7.out hb8); clear hb8)))
    go_ret2
    exact ⟨_, rfl, fun _ => rfl, bk_keep HB8.out HG.out, FrD.of HB8.out⟩
set_option maxHeartbeats 4000000 in
set_option maxRecDepth 100000 in
theorem words_pack_bad (g : Nat) (k0 : KeyV) (hk : k0.wf) (wd : ByteArray) (ao : Option Addr) (n c : Nat) (l : List ByteArray) (w : World) (hg : Bk w g 153 (deskC k0)) (henv : ∀ W, FrD g w W → PEnv W) (hl : Sl w ao n l) (hs : ∀ s ∈ l, s.size ≤ 1000) (hn6 : n ≤ 1000000) (hnc : n ≤ c) (haf : ∀ a, ao = some a → a = ⟨a.block, a.off, none⟩) (hJ : (Lib.join (bysL l) [32]).length ≤ 1000000) (hx : wd.data.toList = wPack) (S : Bys) (hS : Lib.join (bysL l) [32] = S) (o a b cc : Int) (er : Int) (h0 : er ≠ 0) (hP : parseF S = (⟨o, a, b, cc⟩, er)) :
    Calls Tryz.prog 107 #[.pointer (some ⟨g, 0, none⟩), .string wd, .slice ao n c] w (DeskPost g w (wordsF k0 wd.data.toList (bysL l))) := by
  have hE : wordsF k0 wd.data.toList (bysL l) = ⟨k0, [], er⟩ := by unfold wordsF; rw [hx]; show DeskR.mk _ _ _ = _; unfold packS; rw [hS, hP]; simp only; rw [if_neg h0]
  rw [hE]
  clear hE
  have q_pack : (wd.toList == [112, 97, 99, 107]) = true := by rw [toL_eq, hx]; decide
  have q_round : (wd.toList == [114, 111, 117, 110, 100]) = false := by rw [toL_eq, hx]; decide
  have q_calc : (wd.toList == [99, 97, 108, 99]) = false := by rw [toL_eq, hx]; decide
  have q_key : (wd.toList == [107, 101, 121]) = false := by rw [toL_eq, hx]; decide
  have q_new : (wd.toList == [110, 101, 119]) = false := by rw [toL_eq, hx]; decide
  have q_read : (wd.toList == [114, 101, 97, 100]) = false := by rw [toL_eq, hx]; decide
  have q_perm : (wd.toList == [112, 101, 114, 109]) = false := by rw [toL_eq, hx]; decide
  have q_drop : (wd.toList == [100, 114, 111, 112]) = false := by rw [toL_eq, hx]; decide
  have hln := hl.len
  have HG := Lib.hid hg
  have HEN := Lib.hid henv
  have HL := Lib.hid hl
  have HLs := Lib.hid hs
  have HNC := Lib.hid hnc
  have HAF := Lib.hid haf
  have HJJ := Lib.hid hJ
  clear hnc haf hJ
  have HS := Lib.hid hS
  have hSl : S.length ≤ 1000000 := by rw [← hS]; exact HJJ.out
  have pa := fun W (hW : PEnv W) => parse_any (ba S) W hW (by have h1 : (ba S).size = S.length := ba_len S; omega)
  rw [show (ba S).data.toList = S from rfl, hP] at pa
  unfold InstV.val at pa
  simp only at pa
  have PA := Lib.hid pa
  clear pa hS hSl
  have H0 := Lib.hid h0
  clear hP h0
  clear hg henv hl hs
  go_enter Tryz.func107, Tryz.ntmps107
  go_upto_region 1 with (fail)
  go_cut [8] (fun s8 wx => ∃ g1 g2, s8 = .map (some w.heap.size) ∧ wx.heap[w.heap.size]? = some (.map (mvEs g1 g2) 4) ∧ wx.cell? ⟨g1, 0, none⟩ = some (.func (.func 43) #[] #[]) ∧ wx.cell? ⟨g2, 0, none⟩ = some (.func (.func 46) #[] #[]) ∧ Below w.heap.size w wx)
  case first =>
    go_wp2_with (first
      | (refine wpList_mkm rfl 228 rfl ?_)
      | (refine wpList_ins rfl 228 9 226 (.tmp 20) (.const (.string ⟨#[109, 111, 118, 101]⟩)) (.func 129) rfl rfl mvU Tryz.underlying9 w.heap.size 0 #[] ⟨#[109, 111, 118, 101]⟩ (.func (.func 129) #[] #[]) rfl rfl rfl (World.alloc_heap_new w (.map #[] 0)) rfl ?_)
      | (refine wpList_ins rfl 228 9 226 (.tmp 20) (.const (.string ⟨#[110, 97, 114, 114, 111, 119]⟩)) (.func 130) rfl rfl mvU Tryz.underlying9 w.heap.size 1 #[⟨.string ⟨#[109, 111, 118, 101]⟩, .func (.func 129) #[] #[], 0⟩] ⟨#[110, 97, 114, 114, 111, 119]⟩ (.func (.func 130) #[] #[]) rfl rfl rfl (World.putObj_heap_same (by simp [World.putObj])) rfl ?_)
      | (go_at_call 131; ((with_reducible refine (sealer_sealE _).mono ?_); rintro e w5 ⟨g1, rfl, hc5, hl5, hb5⟩; have HM5 := Lib.hid (show w5.heap[w.heap.size]? = some (.map (mv2) 2) from (hb5.block w.heap.size (by simp [World.putObj])).trans (World.putObj_heap_same (by simp [World.putObj]))); have HB5 := Lib.hid (show Below w.heap.size w w5 from (below_putObj (below_putObj (ext_alloc (Below.refl _ _) _) (Nat.le_refl _)) (Nat.le_refl _)).trans (hb5.mono (by simp [World.putObj]))); have HG1 := Lib.hid (show w.heap.size < g1 from Nat.lt_of_lt_of_le (by simp [World.putObj]) hl5); have HC5 := Lib.hid hc5; clear hc5 hl5 hb5))
      | (refine wpList_ins rfl 228 9 226 (.tmp 20) (.const (.string ⟨#[115, 101, 97, 108]⟩)) (.tmp 21) rfl rfl mvU Tryz.underlying9 w.heap.size 2 #[⟨.string ⟨#[109, 111, 118, 101]⟩, .func (.func 129) #[] #[], 0⟩, ⟨.string ⟨#[110, 97, 114, 114, 111, 119]⟩, .func (.func 130) #[] #[], 1⟩] ⟨#[115, 101, 97, 108]⟩ (.func (.func 172) #[] #[.pointer (some ⟨g1, 0, none⟩)]) rfl rfl rfl HM5.out rfl ?_)
      | (go_at_call 131; ((with_reducible refine (sealer_openE _).mono ?_); rintro e w7 ⟨g2, rfl, hc7, hl7, hb7⟩; have HM7 := Lib.hid (show w7.heap[w.heap.size]? = some (.map (mv3 g1) 3) from (hb7.block w.heap.size (by have := (Array.getElem?_eq_some_iff.1 HM5.out).1; simp [World.putObj]; omega)).trans (World.putObj_heap_same (Array.getElem?_eq_some_iff.1 HM5.out).1)); have HB7 := Lib.hid (show Below w.heap.size w w7 from (below_putObj HB5.out (Nat.le_refl _)).trans (hb7.mono (by have := HB5.out.size; simp [World.putObj]; omega))); have HG2 := Lib.hid (show w.heap.size < g2 from Nat.lt_of_lt_of_le (by have := (Array.getElem?_eq_some_iff.1 HM5.out).1; simp [World.putObj]; omega) hl7); have HC7 := Lib.hid hc7; have HC57 := Lib.hid (below_cellD hb7 (a := ⟨g1, 0, none⟩) ((cell_putObjD (a := ⟨g1, 0, none⟩) (Nat.ne_of_gt HG1.out)).trans HC5.out) (Nat.le_refl _)); clear hc7 hl7 hb7))
      | (refine wpList_ins rfl 228 9 226 (.tmp 20) (.const (.string ⟨#[111, 112, 101, 110]⟩)) (.tmp 22) rfl rfl mvU Tryz.underlying9 w.heap.size 3 #[⟨.string ⟨#[109, 111, 118, 101]⟩, .func (.func 129) #[] #[], 0⟩, ⟨.string ⟨#[110, 97, 114, 114, 111, 119]⟩, .func (.func 130) #[] #[], 1⟩, ⟨.string ⟨#[115, 101, 97, 108]⟩, .func (.func 172) #[] #[.pointer (some ⟨g1, 0, none⟩)], 2⟩] ⟨#[111, 112, 101, 110]⟩ (.func (.func 172) #[] #[.pointer (some ⟨g2, 0, none⟩)]) rfl rfl rfl HM7.out rfl ?_))
    go_meet
    exact ⟨g1, g2, rfl, World.putObj_heap_same (Array.getElem?_eq_some_iff.1 HM7.out).1, (cell_putObjD (a := ⟨g1, 0, none⟩) (Nat.ne_of_gt HG1.out)).trans HC57.out, (cell_putObjD (a := ⟨g2, 0, none⟩) (Nat.ne_of_gt HG2.out)).trans HC7.out, below_putObj HB7.out (Nat.le_refl _)⟩
  case rest =>
    obtain ⟨g1, g2, rfl, hm, hc1, hc2, hb⟩ := hcut
    obtain ⟨w4, hw4⟩ : ∃ w4, w4 = wc := ⟨_, rfl⟩
    rw [← hw4] at hm hb hc1 hc2 ⊢
    have HM4 := Lib.hid hm
    have HBW := Lib.hid hb
    have HC1 := Lib.hid hc1
    have HC2 := Lib.hid hc2
    clear hm hb hc1 hc2 hw4
    have HE4 := Lib.hid (HEN.out _ (FrD.of HBW.out))
    have lk := mv_none HM4.out (by rw [hx]; decide) (by rw [hx]; decide) (by rw [hx]; decide) (by rw [hx]; decide)
    have jn := join_slD (HL.out.below HBW.out) HNC.out HAF.out hn6 HJJ.out
    rw [HS.out] at jn
    have JN := Lib.hid jn
    clear jn HS HJJ
    have q0 : (er != 0) = true := by simpa using H0.out
    go_wp2_with (first
      | (go_at_call 134; ((with_reducible refine JN.out.mono ?_); rintro e w5 ⟨rfl, hb5⟩; have HB5 := Lib.hid (ext_trans HBW.out hb5); clear hb5))
      | (go_at_call 133; ((with_reducible refine (PA.out _ (HEN.out _ (FrD.of HB5.out))).mono ?_); rintro e w6 ⟨rfl, hb6⟩; have HB6 := Lib.hid (ext_trans HB5.out hb6); clear hb6))
      | (refine wpList_store_freshD rfl 49 (.tmp 11) (.tmp 45) rfl rfl #[.int .i64 o, .int .i64 a, .int .i64 b, .int .i64 cc] 49 _ rfl (by first | rfl | kernel_rfl) (by kernel_rfl) (by kernel_rfl) (by kernel_rfl) ?_))
    go_ret2
    exact ⟨_, rfl, fun h => absurd h H0.out, bk_keep (ext_alloc HB6.out _) HG.out, FrD.of (ext_alloc HB6.out _)⟩
theorem words_pack (g : Nat) (k0 : KeyV) (hk : k0.wf) (wd : ByteArray) (ao : Option Addr) (n c : Nat) (l : List ByteArray) (w : World) (hg : Bk w g 153 (deskC k0)) (henv : ∀ W, FrD g w W → PEnv W) (hl : Sl w ao n l) (hs : ∀ s ∈ l, s.size ≤ 1000) (hn6 : n ≤ 1000000) (hnc : n ≤ c) (haf : ∀ a, ao = some a → a = ⟨a.block, a.off, none⟩) (hJ : (Lib.join (bysL l) [32]).length ≤ 1000000) (hx : wd.data.toList = wPack) : Calls Tryz.prog 107 #[.pointer (some ⟨g, 0, none⟩), .string wd, .slice ao n c] w (DeskPost g w (wordsF k0 wd.data.toList (bysL l))) := by
  rcases hP : parseF (Lib.join (bysL l) [32]) with ⟨⟨o, a, b, cc⟩, er⟩
  by_cases h0 : er = 0
  · subst h0
    exact words_pack_ok g k0 hk wd ao n c l w hg henv hl hs hn6 hnc haf hJ hx _ rfl o a b cc hP
  · exact words_pack_bad g k0 hk wd ao n c l w hg henv hl hs hn6 hnc haf hJ hx _ rfl o a b cc er h0 hP
set_option maxHeartbeats 4000000 in
set_option maxRecDepth 100000 in
theorem words_round (g : Nat) (k0 : KeyV) (hk : k0.wf) (wd : ByteArray) (ao : Option Addr) (n c : Nat) (l : List ByteArray) (w : World) (hg : Bk w g 153 (deskC k0)) (henv : ∀ W, FrD g w W → PEnv W) (hl : Sl w ao n l) (hs : ∀ s ∈ l, s.size ≤ 1000) (hx : wd.data.toList = wRound) :
    Calls Tryz.prog 107 #[.pointer (some ⟨g, 0, none⟩), .string wd, .slice ao n c] w (DeskPost g w (wordsF k0 wd.data.toList (bysL l))) := by
  have hE : wordsF k0 wd.data.toList (bysL l) = ⟨k0, (severalF wRound (bysL l)).1, (severalF wRound (bysL l)).2⟩ := by unfold wordsF; rw [hx]; rfl
  rw [hE]
  clear hE
  have q_pack : (wd.toList == [112, 97, 99, 107]) = false := by rw [toL_eq, hx]; decide
  have q_round : (wd.toList == [114, 111, 117, 110, 100]) = true := by rw [toL_eq, hx]; decide
  have q_calc : (wd.toList == [99, 97, 108, 99]) = false := by rw [toL_eq, hx]; decide
  have q_key : (wd.toList == [107, 101, 121]) = false := by rw [toL_eq, hx]; decide
  have q_new : (wd.toList == [110, 101, 119]) = false := by rw [toL_eq, hx]; decide
  have q_read : (wd.toList == [114, 101, 97, 100]) = false := by rw [toL_eq, hx]; decide
  have q_perm : (wd.toList == [112, 101, 114, 109]) = false := by rw [toL_eq, hx]; decide
  have q_drop : (wd.toList == [100, 114, 111, 112]) = false := by rw [toL_eq, hx]; decide
  have hln := hl.len
  have HG := Lib.hid hg
  have HEN := Lib.hid henv
  have HL := Lib.hid hl
  have HLs := Lib.hid hs
  clear hg henv hl hs
  go_enter Tryz.func107, Tryz.ntmps107
  go_upto_region 1 with (fail)
  go_cut [8] (fun s8 wx => ∃ g1 g2, s8 = .map (some w.heap.size) ∧ wx.heap[w.heap.size]? = some (.map (mvEs g1 g2) 4) ∧ wx.cell? ⟨g1, 0, none⟩ = some (.func (.func 43) #[] #[]) ∧ wx.cell? ⟨g2, 0, none⟩ = some (.func (.func 46) #[] #[]) ∧ Below w.heap.size w wx)
  case first =>
    go_wp2_with (first
      | (refine wpList_mkm rfl 228 rfl ?_)
      | (refine wpList_ins rfl 228 9 226 (.tmp 20) (.const (.string ⟨#[109, 111, 118, 101]⟩)) (.func 129) rfl rfl mvU Tryz.underlying9 w.heap.size 0 #[] ⟨#[109, 111, 118, 101]⟩ (.func (.func 129) #[] #[]) rfl rfl rfl (World.alloc_heap_new w (.map #[] 0)) rfl ?_)
      | (refine wpList_ins rfl 228 9 226 (.tmp 20) (.const (.string ⟨#[110, 97, 114, 114, 111, 119]⟩)) (.func 130) rfl rfl mvU Tryz.underlying9 w.heap.size 1 #[⟨.string ⟨#[109, 111, 118, 101]⟩, .func (.func 129) #[] #[], 0⟩] ⟨#[110, 97, 114, 114, 111, 119]⟩ (.func (.func 130) #[] #[]) rfl rfl rfl (World.putObj_heap_same (by simp [World.putObj])) rfl ?_)
      | (go_at_call 131; ((with_reducible refine (sealer_sealE _).mono ?_); rintro e w5 ⟨g1, rfl, hc5, hl5, hb5⟩; have HM5 := Lib.hid (show w5.heap[w.heap.size]? = some (.map (mv2) 2) from (hb5.block w.heap.size (by simp [World.putObj])).trans (World.putObj_heap_same (by simp [World.putObj]))); have HB5 := Lib.hid (show Below w.heap.size w w5 from (below_putObj (below_putObj (ext_alloc (Below.refl _ _) _) (Nat.le_refl _)) (Nat.le_refl _)).trans (hb5.mono (by simp [World.putObj]))); have HG1 := Lib.hid (show w.heap.size < g1 from Nat.lt_of_lt_of_le (by simp [World.putObj]) hl5); have HC5 := Lib.hid hc5; clear hc5 hl5 hb5))
      | (refine wpList_ins rfl 228 9 226 (.tmp 20) (.const (.string ⟨#[115, 101, 97, 108]⟩)) (.tmp 21) rfl rfl mvU Tryz.underlying9 w.heap.size 2 #[⟨.string ⟨#[109, 111, 118, 101]⟩, .func (.func 129) #[] #[], 0⟩, ⟨.string ⟨#[110, 97, 114, 114, 111, 119]⟩, .func (.func 130) #[] #[], 1⟩] ⟨#[115, 101, 97, 108]⟩ (.func (.func 172) #[] #[.pointer (some ⟨g1, 0, none⟩)]) rfl rfl rfl HM5.out rfl ?_)
      | (go_at_call 131; ((with_reducible refine (sealer_openE _).mono ?_); rintro e w7 ⟨g2, rfl, hc7, hl7, hb7⟩; have HM7 := Lib.hid (show w7.heap[w.heap.size]? = some (.map (mv3 g1) 3) from (hb7.block w.heap.size (by have := (Array.getElem?_eq_some_iff.1 HM5.out).1; simp [World.putObj]; omega)).trans (World.putObj_heap_same (Array.getElem?_eq_some_iff.1 HM5.out).1)); have HB7 := Lib.hid (show Below w.heap.size w w7 from (below_putObj HB5.out (Nat.le_refl _)).trans (hb7.mono (by have := HB5.out.size; simp [World.putObj]; omega))); have HG2 := Lib.hid (show w.heap.size < g2 from Nat.lt_of_lt_of_le (by have := (Array.getElem?_eq_some_iff.1 HM5.out).1; simp [World.putObj]; omega) hl7); have HC7 := Lib.hid hc7; have HC57 := Lib.hid (below_cellD hb7 (a := ⟨g1, 0, none⟩) ((cell_putObjD (a := ⟨g1, 0, none⟩) (Nat.ne_of_gt HG1.out)).trans HC5.out) (Nat.le_refl _)); clear hc7 hl7 hb7))
      | (refine wpList_ins rfl 228 9 226 (.tmp 20) (.const (.string ⟨#[111, 112, 101, 110]⟩)) (.tmp 22) rfl rfl mvU Tryz.underlying9 w.heap.size 3 #[⟨.string ⟨#[109, 111, 118, 101]⟩, .func (.func 129) #[] #[], 0⟩, ⟨.string ⟨#[110, 97, 114, 114, 111, 119]⟩, .func (.func 130) #[] #[], 1⟩, ⟨.string ⟨#[115, 101, 97, 108]⟩, .func (.func 172) #[] #[.pointer (some ⟨g1, 0, none⟩)], 2⟩] ⟨#[111, 112, 101, 110]⟩ (.func (.func 172) #[] #[.pointer (some ⟨g2, 0, none⟩)]) rfl rfl rfl HM7.out rfl ?_))
    go_meet
    exact ⟨g1, g2, rfl, World.putObj_heap_same (Array.getElem?_eq_some_iff.1 HM7.out).1, (cell_putObjD (a := ⟨g1, 0, none⟩) (Nat.ne_of_gt HG1.out)).trans HC57.out, (cell_putObjD (a := ⟨g2, 0, none⟩) (Nat.ne_of_gt HG2.out)).trans HC7.out, below_putObj HB7.out (Nat.le_refl _)⟩
  case rest =>
    obtain ⟨g1, g2, rfl, hm, hc1, hc2, hb⟩ := hcut
    obtain ⟨w4, hw4⟩ : ∃ w4, w4 = wc := ⟨_, rfl⟩
    rw [← hw4] at hm hb hc1 hc2 ⊢
    have HM4 := Lib.hid hm
    have HBW := Lib.hid hb
    have HC1 := Lib.hid hc1
    have HC2 := Lib.hid hc2
    clear hm hb hc1 hc2 hw4
    have HE4 := Lib.hid (HEN.out _ (FrD.of HBW.out))
    have lk := mv_none HM4.out (by rw [hx]; decide) (by rw [hx]; decide) (by rw [hx]; decide) (by rw [hx]; decide)
    have sv := several_any wd ao n c l w4 HE4.out (HL.out.below HBW.out) HLs.out (.inl hx)
    rw [hx] at sv
    have SV := Lib.hid sv
    clear sv hx
    go_wp2_with (go_at_call 135; ((with_reducible refine SV.out.mono ?_); rintro e w5 ⟨o, rfl, ho, hb5⟩; have HB5 := Lib.hid (ext_trans HBW.out hb5); clear hb5))
    go_ret2
    exact ⟨o, rfl, ho, bk_keep HB5.out HG.out, FrD.of HB5.out⟩
set_option maxHeartbeats 4000000 in
set_option maxRecDepth 100000 in
theorem words_calc (g : Nat) (k0 : KeyV) (hk : k0.wf) (wd : ByteArray) (ao : Option Addr) (n c : Nat) (l : List ByteArray) (w : World) (hg : Bk w g 153 (deskC k0)) (henv : ∀ W, FrD g w W → PEnv W) (hl : Sl w ao n l) (hs : ∀ s ∈ l, s.size ≤ 1000) (hx : wd.data.toList = wCalc) :
    Calls Tryz.prog 107 #[.pointer (some ⟨g, 0, none⟩), .string wd, .slice ao n c] w (DeskPost g w (wordsF k0 wd.data.toList (bysL l))) := by
  have hE : wordsF k0 wd.data.toList (bysL l) = ⟨k0, (severalF wCalc (bysL l)).1, (severalF wCalc (bysL l)).2⟩ := by unfold wordsF; rw [hx]; rfl
  rw [hE]
  clear hE
  have q_pack : (wd.toList == [112, 97, 99, 107]) = false := by rw [toL_eq, hx]; decide
  have q_round : (wd.toList == [114, 111, 117, 110, 100]) = false := by rw [toL_eq, hx]; decide
  have q_calc : (wd.toList == [99, 97, 108, 99]) = true := by rw [toL_eq, hx]; decide
  have q_key : (wd.toList == [107, 101, 121]) = false := by rw [toL_eq, hx]; decide
  have q_new : (wd.toList == [110, 101, 119]) = false := by rw [toL_eq, hx]; decide
  have q_read : (wd.toList == [114, 101, 97, 100]) = false := by rw [toL_eq, hx]; decide
  have q_perm : (wd.toList == [112, 101, 114, 109]) = false := by rw [toL_eq, hx]; decide
  have q_drop : (wd.toList == [100, 114, 111, 112]) = false := by rw [toL_eq, hx]; decide
  have hln := hl.len
  have HG := Lib.hid hg
  have HEN := Lib.hid henv
  have HL := Lib.hid hl
  have HLs := Lib.hid hs
  clear hg henv hl hs
  go_enter Tryz.func107, Tryz.ntmps107
  go_upto_region 1 with (fail)
  go_cut [8] (fun s8 wx => ∃ g1 g2, s8 = .map (some w.heap.size) ∧ wx.heap[w.heap.size]? = some (.map (mvEs g1 g2) 4) ∧ wx.cell? ⟨g1, 0, none⟩ = some (.func (.func 43) #[] #[]) ∧ wx.cell? ⟨g2, 0, none⟩ = some (.func (.func 46) #[] #[]) ∧ Below w.heap.size w wx)
  case first =>
    go_wp2_with (first
      | (refine wpList_mkm rfl 228 rfl ?_)
      | (refine wpList_ins rfl 228 9 226 (.tmp 20) (.const (.string ⟨#[109, 111, 118, 101]⟩)) (.func 129) rfl rfl mvU Tryz.underlying9 w.heap.size 0 #[] ⟨#[109, 111, 118, 101]⟩ (.func (.func 129) #[] #[]) rfl rfl rfl (World.alloc_heap_new w (.map #[] 0)) rfl ?_)
      | (refine wpList_ins rfl 228 9 226 (.tmp 20) (.const (.string ⟨#[110, 97, 114, 114, 111, 119]⟩)) (.func 130) rfl rfl mvU Tryz.underlying9 w.heap.size 1 #[⟨.string ⟨#[109, 111, 118, 101]⟩, .func (.func 129) #[] #[], 0⟩] ⟨#[110, 97, 114, 114, 111, 119]⟩ (.func (.func 130) #[] #[]) rfl rfl rfl (World.putObj_heap_same (by simp [World.putObj])) rfl ?_)
      | (go_at_call 131; ((with_reducible refine (sealer_sealE _).mono ?_); rintro e w5 ⟨g1, rfl, hc5, hl5, hb5⟩; have HM5 := Lib.hid (show w5.heap[w.heap.size]? = some (.map (mv2) 2) from (hb5.block w.heap.size (by simp [World.putObj])).trans (World.putObj_heap_same (by simp [World.putObj]))); have HB5 := Lib.hid (show Below w.heap.size w w5 from (below_putObj (below_putObj (ext_alloc (Below.refl _ _) _) (Nat.le_refl _)) (Nat.le_refl _)).trans (hb5.mono (by simp [World.putObj]))); have HG1 := Lib.hid (show w.heap.size < g1 from Nat.lt_of_lt_of_le (by simp [World.putObj]) hl5); have HC5 := Lib.hid hc5; clear hc5 hl5 hb5))
      | (refine wpList_ins rfl 228 9 226 (.tmp 20) (.const (.string ⟨#[115, 101, 97, 108]⟩)) (.tmp 21) rfl rfl mvU Tryz.underlying9 w.heap.size 2 #[⟨.string ⟨#[109, 111, 118, 101]⟩, .func (.func 129) #[] #[], 0⟩, ⟨.string ⟨#[110, 97, 114, 114, 111, 119]⟩, .func (.func 130) #[] #[], 1⟩] ⟨#[115, 101, 97, 108]⟩ (.func (.func 172) #[] #[.pointer (some ⟨g1, 0, none⟩)]) rfl rfl rfl HM5.out rfl ?_)
      | (go_at_call 131; ((with_reducible refine (sealer_openE _).mono ?_); rintro e w7 ⟨g2, rfl, hc7, hl7, hb7⟩; have HM7 := Lib.hid (show w7.heap[w.heap.size]? = some (.map (mv3 g1) 3) from (hb7.block w.heap.size (by have := (Array.getElem?_eq_some_iff.1 HM5.out).1; simp [World.putObj]; omega)).trans (World.putObj_heap_same (Array.getElem?_eq_some_iff.1 HM5.out).1)); have HB7 := Lib.hid (show Below w.heap.size w w7 from (below_putObj HB5.out (Nat.le_refl _)).trans (hb7.mono (by have := HB5.out.size; simp [World.putObj]; omega))); have HG2 := Lib.hid (show w.heap.size < g2 from Nat.lt_of_lt_of_le (by have := (Array.getElem?_eq_some_iff.1 HM5.out).1; simp [World.putObj]; omega) hl7); have HC7 := Lib.hid hc7; have HC57 := Lib.hid (below_cellD hb7 (a := ⟨g1, 0, none⟩) ((cell_putObjD (a := ⟨g1, 0, none⟩) (Nat.ne_of_gt HG1.out)).trans HC5.out) (Nat.le_refl _)); clear hc7 hl7 hb7))
      | (refine wpList_ins rfl 228 9 226 (.tmp 20) (.const (.string ⟨#[111, 112, 101, 110]⟩)) (.tmp 22) rfl rfl mvU Tryz.underlying9 w.heap.size 3 #[⟨.string ⟨#[109, 111, 118, 101]⟩, .func (.func 129) #[] #[], 0⟩, ⟨.string ⟨#[110, 97, 114, 114, 111, 119]⟩, .func (.func 130) #[] #[], 1⟩, ⟨.string ⟨#[115, 101, 97, 108]⟩, .func (.func 172) #[] #[.pointer (some ⟨g1, 0, none⟩)], 2⟩] ⟨#[111, 112, 101, 110]⟩ (.func (.func 172) #[] #[.pointer (some ⟨g2, 0, none⟩)]) rfl rfl rfl HM7.out rfl ?_))
    go_meet
    exact ⟨g1, g2, rfl, World.putObj_heap_same (Array.getElem?_eq_some_iff.1 HM7.out).1, (cell_putObjD (a := ⟨g1, 0, none⟩) (Nat.ne_of_gt HG1.out)).trans HC57.out, (cell_putObjD (a := ⟨g2, 0, none⟩) (Nat.ne_of_gt HG2.out)).trans HC7.out, below_putObj HB7.out (Nat.le_refl _)⟩
  case rest =>
    obtain ⟨g1, g2, rfl, hm, hc1, hc2, hb⟩ := hcut
    obtain ⟨w4, hw4⟩ : ∃ w4, w4 = wc := ⟨_, rfl⟩
    rw [← hw4] at hm hb hc1 hc2 ⊢
    have HM4 := Lib.hid hm
    have HBW := Lib.hid hb
    have HC1 := Lib.hid hc1
    have HC2 := Lib.hid hc2
    clear hm hb hc1 hc2 hw4
    have HE4 := Lib.hid (HEN.out _ (FrD.of HBW.out))
    have lk := mv_none HM4.out (by rw [hx]; decide) (by rw [hx]; decide) (by rw [hx]; decide) (by rw [hx]; decide)
    have sv := several_any wd ao n c l w4 HE4.out (HL.out.below HBW.out) HLs.out (.inr hx)
    rw [hx] at sv
    have SV := Lib.hid sv
    clear sv hx
    go_wp2_with (go_at_call 135; ((with_reducible refine SV.out.mono ?_); rintro e w5 ⟨o, rfl, ho, hb5⟩; have HB5 := Lib.hid (ext_trans HBW.out hb5); clear hb5))
    go_ret2
    exact ⟨o, rfl, ho, bk_keep HB5.out HG.out, FrD.of HB5.out⟩
end Go.Proofs.YtpjhjefjbkjhkaaGreatDoor
