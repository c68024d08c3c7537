import Derived.BigRegion
import Derived.Deep.DeepCutAuto
import Derived.Deep.RegionLaw
import Derived.LoopIn
import Derived.LoopNIn
import Derived.Maps.OwnIn
import Derived.OwnWalkIn
import Derived.RangeFuncBound
import Derived.RangeFuncCalls
import Derived.RangeFuncLeaves
import Derived.RangeFuncNested
import Derived.Shelf.Abstract
import Derived.Shelf.RegionOpen
import Derived.TacticsInMore
import Derived.Test.YtpjhjefjbkjhkaaGreatDoorDeskHZ
import Derived.Test.YtpjhjefjbkjhkaaGreatDoorSplitMath
import Derived.WalkKit
/- A world in which all but some blocks are as they were; a loop over a function whose body always goes on. -/
namespace Go.Proofs.YtpjhjefjbkjhkaaGreatDoor
open Go Go.RowKit
set_option linter.unusedVariables false
/-- All blocks but those of S are as they were. -/
structure FrE (S : Nat → Prop) (w w' : World) : Prop where
  os : w'.os = w.os
  tape : w'.tape = w.tape
  output : w'.output = w.output
  size : w.heap.size ≤ w'.heap.size
  block : ∀ k, k < w.heap.size → ¬ S k → w'.heap[k]? = w.heap[k]?
theorem FrE.refl (S : Nat → Prop) (w : World) : FrE S w w := ⟨rfl, rfl, rfl, Nat.le_refl _, fun _ _ _ => rfl⟩
theorem FrE.trans {S S' : Nat → Prop} {a b c : World} (h : FrE S a b) (k : FrE S' b c) (hs : ∀ i, i < a.heap.size → S' i → S i) : FrE S a c :=
  ⟨k.os.trans h.os, k.tape.trans h.tape, k.output.trans h.output, Nat.le_trans h.size k.size, fun i hi hn => (k.block i (Nat.lt_of_lt_of_le hi h.size) (fun h' => hn (hs i hi h'))).trans (h.block i hi hn)⟩
theorem FrE.of {S : Nat → Prop} {w w' : World} (h : Below w.heap.size w w') : FrE S w w' := ⟨h.os, h.tape, h.output, h.size, fun k hk _ => h.block k hk⟩
theorem FrE.grown {S : Nat → Prop} {w w' : World} {row : Option Nat} (h : w.grownBy w' row) (hr : ∀ k, row = some k → S k ∨ w.heap.size ≤ k) : FrE S w w' :=
  ⟨h.os, h.tape, h.output, h.size, fun k hk hn => h.block k hk (fun e => by rcases hr k e.symm with h | h; exact hn h; omega)⟩
theorem FrE.drew (S : Nat → Prop) (w : World) : FrE S w w.drew := ⟨rfl, rfl, rfl, Nat.le_refl _, fun _ _ _ => rfl⟩
theorem FrE.alloc (S : Nat → Prop) (w : World) (o : Obj) : FrE S w (w.alloc o) := FrE.of ((Below.refl _ _).alloc (Nat.le_refl _) o)
theorem FrE.setCell {S : Nat → Prop} (w : World) {p : Addr} (hp : S p.block) (v : Value) : FrE S w (w.setCell p v) :=
  ⟨rfl, rfl, rfl, by simp [World.setCell], fun k hk hn => Below.heap_setCell w p v k (fun e => hn (e ▸ hp))⟩
theorem FrE.mono {S S' : Nat → Prop} {a b : World} (h : FrE S a b) (hs : ∀ i, i < a.heap.size → S i → S' i) : FrE S' a b :=
  ⟨h.os, h.tape, h.output, h.size, fun i hi hn => h.block i hi (fun h' => hn (hs i hi h'))⟩
/-- What lies before all of S stays. -/
theorem FrE.below {S : Nat → Prop} {w0 a b : World} (h : FrE S a b) (hb : Below w0.heap.size w0 a) (hs : ∀ i, S i → w0.heap.size ≤ i) : Below w0.heap.size w0 b :=
  hb.trans ⟨h.os, h.tape, h.output, h.size, fun i hi => h.block i (Nat.lt_of_lt_of_le hi hb.size) (fun h' => by have := hs i h'; omega)⟩
theorem FrE.bk {S : Nat → Prop} {w w' : World} (h : FrE S w w') {g : Nat} {T : TypeId} {cs : Array Value} (hb : Bk w g T cs) (hn : ¬ S g) : Bk w' g T cs := (h.block g hb.lt hn).trans hb
/-- An owned row in a world that has its block. -/
theorem own_heapD {α : Type} [El α] {w w' : World} {base : Nat} {T : TypeId} {v : Value} {xs : List α} (h : Own w base T v xs) (hk : ∀ g, v.ownBlock = some g → w'.heap[g]? = w.heap[g]?) : Own w' base T v xs := by
  refine ⟨h.1, ?_⟩
  rcases h.2 with hn | ⟨g, cap, cur, h1, h2, h3, h4⟩
  · exact .inl hn
  · exact .inr ⟨g, cap, cur, h1, h2, (hk g (by rw [h1]; rfl)).trans h3, h4⟩
theorem own_ltD {α : Type} [El α] {w : World} {base : Nat} {T : TypeId} {v : Value} {xs : List α} (h : Own w base T v xs) {g : Nat} (hg : v.ownBlock = some g) : base ≤ g ∧ g < w.heap.size := by
  rcases h.form with ⟨rfl, _⟩ | ⟨g', cap, rfl, h1, h2, _⟩
  · cases hg
  · injection hg with hg; subst hg; exact ⟨h1, h2⟩
theorem FrE.own {S : Nat → Prop} {w w' : World} (h : FrE S w w') {α : Type} [El α] {base : Nat} {T : TypeId} {v : Value} {xs : List α} (ho : Own w base T v xs) (hn : ∀ g, v.ownBlock = some g → ¬ S g) : Own w' base T v xs :=
  own_heapD ho fun g hg => h.block g (own_ltD ho hg).2 (hn g hg)
theorem own_bk_neD {α : Type} [El α] {w : World} {base : Nat} {T : TypeId} {xs : List α} {g n cap : Nat} (h : Own w base T (.slice (some ⟨g, 0, none⟩) n cap) xs) {k : Nat} {T' : TypeId} {cs : Array Value} (hk : Bk w k T' cs) (hT : T' ≠ T) : g ≠ k := by
  rintro rfl
  rcases h.2 with ⟨e, _⟩ | ⟨g', c, cur, e, _, hg', _⟩
  · cases e
  · injection e with e _ _
    injection e with e
    injection e with e _ _
    subst e
    unfold Bk at hk
    rw [hk] at hg'
    injection hg' with hg'
    injection hg' with _ ht _
    exact hT ht
theorem own_tyD {α : Type} [El α] {w : World} {base : Nat} {T : TypeId} {v : Value} {xs : List α} (h : Own w base T v xs) {k : Nat} {T' : TypeId} {cs : Array Value} (hk : Bk w k T' cs) (hT : T' ≠ T) : v.ownBlock ≠ some k := by
  intro e
  rcases h.form with ⟨rfl, _⟩ | ⟨g', cap, rfl, _⟩
  · cases e
  · injection e with e; exact own_bk_neD h hk hT e
theorem bk_noncellD {W : World} {g l : Nat} {T : TypeId} {cs : Array Value} {o : Obj} (h : Bk W g T cs) (hl : W.heap[l]? = some o) (ho : o.isCells = false) : g ≠ l := by
  rintro rfl
  unfold Bk at h
  rw [h] at hl
  injection hl with hl
  rw [← hl] at ho
  cases ho
theorem FrE.putObj {W : World} {l : Nat} {o o' : Obj} (hl : W.heap[l]? = some o) : FrE (fun j => j = l) W (W.putObj l o') :=
  FrE.grown (grownBy_putObj' W l o') (fun k e => by cases e; exact .inl rfl)
theorem bk_putObjD {W : World} {g l : Nat} {T : TypeId} {cs : Array Value} {o o' : Obj} (h : Bk W g T cs) (hl : W.heap[l]? = some o) (ho : o.isCells = false) : Bk (W.putObj l o') g T cs :=
  (FrE.putObj hl).bk h (bk_noncellD h hl ho)
theorem own_cellsD {α : Type} [El α] {W : World} {base : Nat} {T : TypeId} {v : Value} {xs : List α} (ho : Own W base T v xs) {k : Nat} (hv : v.ownBlock = some k) : ∃ T cs, Bk W k T cs := by
  rcases ho.2 with ⟨rfl, _⟩ | ⟨g', c, cur, rfl, _, hg', _⟩
  · cases hv
  · injection hv with hv; subst hv; exact ⟨_, _, hg'⟩
theorem ne_tyD {W : World} {g g' : Nat} {T T' : TypeId} {cs cs' : Array Value} (h : Bk W g T cs) (k : Bk W g' T' cs') (hT : T ≠ T') : g ≠ g' := by
  rintro rfl
  unfold Bk at h k
  rw [h] at k
  injection k with k
  injection k with _ k _
  exact hT k
theorem bk_cell1D {W : World} {g : Nat} {T : TypeId} {x : Value} (h : Bk W g T #[x]) (y : Value) : Bk (W.setCell ⟨g, 0, none⟩ y) g T #[y] := bk_set' h rfl
/-- A loop over a function whose body always goes on: what a round does is said of a ghost b; the iterator is shown to do it all, its own cells written too. -/
theorem wpIn_rangeFunc_goD {β : Type} {F : Fence} {n : Nat} {P : Program} {g : Operand} {ps : Array Tmp} {assign body : Code} {Q : Exit → Act → World → Prop} {a : Act} {w : World}
    (hro : F.round = none) (h1 : 1 ≤ n) {gf : Nat} {lb : Array Value} (hg : a.eval g = .func (.func gf) #[] lb) (hFg : F.fn gf) (eg : ∀ args w, (callFunc gf args).run P w = .ok (.enter gf args) w)
    (encs : β → Array Value) (hps : ∀ b, (encs b).size = ps.size) (J J' : β → World → Prop) (T : World → Prop)
    (hJ : ∀ b W (l : Nat) (o o' : Obj), J b W → w.heap.size ≤ l → W.heap[l]? = some o → o.isCells = false → J b (W.putObj l o'))
    (hJ' : ∀ b W (l : Nat) (o o' : Obj), J' b W → w.heap.size ≤ l → W.heap[l]? = some o → o.isCells = false → J' b (W.putObj l o'))
    (hT : ∀ W (l : Nat) (o o' : Obj), T W → w.heap.size ≤ l → W.heap[l]? = some o → o.isCells = false → T (W.putObj l o'))
    (a₁ : β → Act)
    (hassign : ∀ (l : Nat) (b : β) (W : World) (K : Act → World → Prop), K (a₁ b) W →
      assign.wpIn (F.inRound l) (n - 1 - 1) P (Exit.then K (fun _ _ _ => False)) { tmps := (ps.zip (encs b)).foldl (fun t (p, v) => t.setIfInBounds p v) a.tmps, defers := [] } W)
    (hbody : ∀ (l : Nat) (b : β) (W : World), J b W → body.wpIn (F.inRound l) (n - 1 - 1) P (fun e _ W' => e = .normal ∧ KeepsFrom w.heap.size W W' ∧ J' b W') (a₁ b) W)
    (hiter : ∀ (o1 o2 : Obj), o1.isCells = false → o2.isCells = false →
      (∀ b W, J b W → W.heap[w.heap.size + 1]? = some o1 → W.heap[w.heap.size]? = some o2 →
        YieldAt F (n - 1 - 1) P (w.heap.size + 1) (encs b) W fun e W' => e = .returned (.bool true) ∧ J' b W' ∧ W'.heap[w.heap.size + 1]? = some o1 ∧ W'.heap[w.heap.size]? = some o2) →
      CallsIn F (n - 1) P gf (#[.func (.yield (w.heap.size + 1)) #[] #[]] ++ lb) ((w.alloc o2).alloc o1) fun e W' =>
        (∃ v, e = .returned v) ∧ T W' ∧ W'.heap[w.heap.size + 1]? = some o1 ∧ W'.heap[w.heap.size]? = some o2)
    (hdone : ∀ (W : World), T W → W.heap[w.heap.size]? = some (.deferred (some [])) → Q .normal { a with defers := { target := .collected w.heap.size, args := #[] } :: a.defers } W) :
    (Code.rangeFunc g ps assign body).wpIn F n P Q a w := by
  refine wpIn_rangeFunc ?_
  intro fn hfn
  rw [hro]
  obtain ⟨rec, hrec⟩ : ∃ rec : LoopState → Option Code → Loop, rec = fun st pe => { state := st, pending := pe, fn, tmps := a.tmps, params := ps, assign, body, defers := w.heap.size } := ⟨_, rfl⟩
  refine ⟨w.heap.size + 1, [{ target := .collected w.heap.size, args := #[] }], (w.alloc (.deferred (some []))).alloc (.loop (rec .ready none)), { target := .fn (.func gf) lb, args := #[.func (.yield (w.heap.size + 1)) #[] #[]] }, (w.alloc (.deferred (some []))).alloc (.loop (rec .ready none)), gf,
    #[.func (.yield (w.heap.size + 1)) #[] #[]] ++ lb, (w.alloc (.deferred (some []))).alloc (.loop (rec .ready none)), ?_, ?_, ?_, ?_, fun _ => h1, ?_⟩
  · rw [hrec]; exact run_enterLoop_outer _ _ _ _ _
  · simp only [resolve, hg]
    simp [go_sem]
  · intro f' hf'; simp [Target.leads] at hf'; subst hf'; exact hFg
  · simp [invoke, go_sem, eg]
  · refine (hiter (.loop (rec .ready none)) (.deferred (some [])) rfl rfl ?_).mono ?_
    · intro b W hi hl hk
      have hlt : w.heap.size + 1 < W.heap.size := (Array.getElem?_eq_some_iff.1 hl).1
      have hy := run_yield (P := P) (args := encs b) hl (by rw [hrec]; exact hps b)
      rw [hrec] at hy
      refine ⟨fn, _, assign, body, hy, roundIn_of_wpIn hfn (hassign _ b W _ ⟨_, run_beginRound hl (by rw [hrec]), ?_⟩)⟩
      have hl2 : (W.putObj (w.heap.size + 1) (.loop { rec .ready none with state := .busy })).heap[w.heap.size + 1]? = some (.loop { rec .ready none with state := .busy }) := World.putObj_heap_same hlt
      have hk2 : (W.putObj (w.heap.size + 1) (.loop { rec .ready none with state := .busy })).heap[w.heap.size]? = some (.deferred (some [])) := (World.putObj_heap_other (by omega)).trans hk
      refine wpIn_mono (hbody _ b _ (hJ _ _ _ _ _ hi (by omega) hl rfl)) ?_
      rintro e a3 W3 ⟨rfl, hk3, hj3⟩
      have hl3 := hk3.same _ _ (by omega) hl2 rfl
      have hr := run_endRound (P := P) none hl3
      refine ⟨_, _, hr, rfl, hJ' _ _ _ _ _ hj3 (by omega) hl3 rfl, ?_, (World.putObj_heap_other (by omega)).trans (hk3.same _ _ (Nat.le_refl _) hk2 rfl)⟩
      have := World.putObj_heap_same (w := W3) (o := (.loop (rec .ready none))) (Array.getElem?_eq_some_iff.1 hl3).1
      rw [hrec] at this ⊢
      exact this
    · rintro e W2 ⟨⟨v, rfl⟩, hi, hl, hk⟩
      exact ⟨none, _, by have := run_endLoop (P := P) hl (by rw [hrec]; simp); rw [hrec] at this; exact this, hdone _ (hT _ _ _ _ hi (by omega) hl rfl) ((World.putObj_heap_other (by omega)).trans hk)⟩
end Go.Proofs.YtpjhjefjbkjhkaaGreatDoor
/- The iterator of strings.SplitSeq, whatever its reader keeps. -/
namespace Go.Proofs.YtpjhjefjbkjhkaaGreatDoor
open El (cl)
open Go Go.RowKit Go.Shelf
set_option linter.unusedVariables false
set_option linter.unusedSimpArgs false
attribute [local go_sem] Oper.semAt_some
def lenAt (W : World) (g : Nat) : Nat := match W.cell? ⟨g, 0, none⟩ with
  | some (.string r) => r.size
  | _ => 0
theorem lenAt_of {W : World} {g : Nat} {r : ByteArray} (h : W.cell? ⟨g, 0, none⟩ = some (.string r)) : lenAt W g = r.size := by unfold lenAt; rw [h]
theorem ext_toL (r : ByteArray) (a b : Nat) : (r.extract a b).data.toList = (r.data.toList.take b).drop a := by
  rw [ByteArray.data_extract, Array.toList_extract]
  simp [List.extract]
  rw [List.drop_take]
set_option maxHeartbeats 4000000 in
set_option maxRecDepth 100000 in
theorem split_iter (gp gs gv : Nat) (J : List ByteArray → ByteArray → World → Prop) (n l : Nat) (hn : 1 ≤ n)
    (mx : ∀ L r W, J L r W → ∃ m, W.cell? ⟨1, 0, none⟩ = some (.int .i64 m))
    (st : ∀ L r W r', J L r W → J L r' (W.setCell ⟨gs, 0, none⟩ (.string r')))
    (cl : ∀ L r W, J L r W → W.cell? ⟨gp, 0, none⟩ = some (.string ⟨#[32]⟩) ∧ W.cell? ⟨gs, 0, none⟩ = some (.string r) ∧ W.cell? ⟨gv, 0, none⟩ = some (.int .i64 0) ∧ W.frozen? ⟨gs, 0, none⟩ = false)
    (s : ByteArray) (hs : s.size ≤ 1000000)
    (hY : ∀ (L : List ByteArray) (r x : ByteArray) (W : World), L.length ≤ s.size → J L r W → YieldAt Fence.wide (n - 1) Tryz.prog l #[.string x] W fun e W' => e = .returned (.bool true) ∧ J (L ++ [x]) r W')
    (W : World) (h0 : J [] s W) :
    CallsIn Fence.wide n Tryz.prog 170 #[.func (.yield l) #[] #[], .pointer (some ⟨gp, 0, none⟩), .pointer (some ⟨gs, 0, none⟩), .pointer (some ⟨gv, 0, none⟩)] W fun e W' =>
      (∃ v, e = .returned v) ∧ ∃ L r, L.map (fun x => x.data.toList) = splitC 32 s.data.toList ∧ J L r W' := by
  obtain ⟨b1, b2, b3, b4⟩ := cl [] s W h0
  have HY := Lib.hid hY
  have MX := Lib.hid mx
  have ST := Lib.hid st
  have CL := Lib.hid cl
  have H0 := Lib.hid h0
  have HS := Lib.hid hs
  clear hY mx st cl h0 hs
  refine callsIn_of_wp Tryz.func170 rfl trivial ?_ rfl
  simp only [Tryz.ntmps170, List.size_toArray, List.length_cons, List.length_nil, Nat.reduceAdd, Nat.reduceSub, Array.replicate_succ, Array.replicate_zero, List.push_toArray, List.append_toArray, List.nil_append, List.cons_append]
  gi_wp2
  gi_loopw [7] (fun p wr => ∃ (L : List ByteArray) (r : ByteArray), J L r wr ∧ r.size ≤ s.size ∧ splitC 32 s.data.toList = L.map (fun x => x.data.toList) ++ splitC 32 r.data.toList) (fun _ W => lenAt W gs)
  case atStart => exact ⟨[], s, H0.out, Nat.le_refl _, rfl⟩
  case round =>
    obtain ⟨L, r, hJ, hrs, hsp⟩ := hrel
    clear b1 b2 b3 b4
    obtain ⟨b1, b2, b3, b4⟩ := CL.out L r _ hJ
    have hr6 : r.size ≤ 1000000 := Nat.le_trans hrs HS.out
    have hLs : L.length ≤ s.size := by
      have h1 := congrArg List.length hsp
      have h2 := splitC_length 32 s.data.toList
      have h3 : s.data.toList.length = s.size := rfl
      have h4 := List.length_pos_iff.2 (splitC_ne 32 r.data.toList)
      rw [List.length_append, List.length_map] at h1
      omega
    obtain ⟨mv, hmv⟩ := MX.out L r _ hJ
    have HJ := Lib.hid hJ
    have HSP := Lib.hid hsp
    have HRS := Lib.hid hrs
    have HLS := Lib.hid hLs
    have ix := fun W (h : W.cell? ⟨1, 0, none⟩ = some (.int .i64 mv)) => Tryz.strings_Index r ⟨#[32]⟩ mv W (by omega) h
    rw [show (⟨#[32]⟩ : ByteArray).data.toList = [32] from rfl] at ix
    have HMV := Lib.hid hmv
    clear hJ hsp hrs hLs hmv
    rcases cut_at 32 r.data.toList with h32 | ⟨a, r', hr, ha⟩
    · rw [index_none h32] at ix
      have IX := Lib.hid ix
      have H32 := Lib.hid h32
      clear ix h32
      gi_wp2
      refine ⟨trivial, ?_⟩
      refine (callsIn_wide.2 (IX.out _ HMV.out)).mono ?_
      rintro e w' ⟨rfl, hw'⟩
      subst hw'
      obtain ⟨fn, tmps, assign, body, hy, hR⟩ := HY.out L r r w' HLS.out HJ.out
      have HR2 := Lib.hid hR
      clear hR
      gi_wp2
      refine HR2.out.mono ?_
      rintro e W6 ⟨rfl, h6⟩
      have H6 := Lib.hid h6
      clear h6
      gi_wp2
      go_end0
      refine ⟨⟨_, rfl⟩, L ++ [r], r, ?_, H6.out⟩
      rw [HSP.out, splitC_none H32.out, List.map_append]
      rfl
    · rw [hr, index_app ha] at ix
      have hsz : r.size = a.length + (r'.length + 1) := by
        have h : r.data.toList.length = r.size := rfl
        rw [hr] at h
        rw [← h, List.length_append, List.length_cons]
      obtain ⟨k, hk⟩ : ∃ k, a.length = k := ⟨_, rfl⟩
      rw [hk] at ix
      have IX := Lib.hid ix
      have HR := Lib.hid hr
      have HA := Lib.hid ha
      have HK := Lib.hid hk
      have e1 : IntKind.i64.wrap ((k : Int) + 0) = (k : Int) := by rw [IntKind.wrap_i64]; omega
      have e2 : IntKind.i64.wrap ((k : Int) + 1) = (k : Int) + 1 := by rw [IntKind.wrap_i64]; omega
      have e3 : IntKind.i64.wrap (k : Int) = (k : Int) := by rw [IntKind.wrap_i64]; omega
      have e4 : ((k : Int) < 0) = False := by simp
      have e5 : (0 : Int) ≤ (k : Int) := by omega
      have e6 : (0 : Int) ≤ (k : Int) + 1 := by omega
      have e7 : k ≤ r.size := by omega
      have e8 : k + 1 ≤ r.size := by omega
      have e9 : (k : Int) ≤ (r.size : Int) := by omega
      have e10 : (k : Int) + 1 ≤ (r.size : Int) := by omega
      have HSZ := Lib.hid hsz
      clear ix hr ha hk hsz
      gi_wp2
      refine ⟨trivial, ?_⟩
      refine (callsIn_wide.2 (IX.out _ HMV.out)).mono ?_
      rintro e w' ⟨rfl, hw'⟩
      subst hw'
      obtain ⟨fn, tmps, assign, body, hy, hR⟩ := HY.out L r (r.extract 0 k) w' HLS.out HJ.out
      have HR2 := Lib.hid hR
      clear hR
      gi_wp2
      refine HR2.out.mono ?_
      rintro e W6 ⟨rfl, h6⟩
      clear b1 b2 b3 b4
      obtain ⟨b1, b2, b3, b4⟩ := CL.out _ r _ h6
      have HJ2 := Lib.hid (ST.out _ _ _ (r.extract (k + 1) r.size) h6)
      clear h6
      gi_wp2
      go_roundw
      case rel =>
        refine ⟨L ++ [r.extract 0 k], r.extract (k + 1) r.size, HJ2.out, ?_, ?_⟩
        · rw [ByteArray.size_extract]; have := HRS.out; omega
        · rw [HSP.out, List.map_append, List.append_assoc, HR.out, splitC_app HA.out]
          congr 1
          show _ = (r.extract 0 k).data.toList :: splitC 32 (r.extract (k + 1) r.size).data.toList
          have x1 : (r.extract 0 k).data.toList = a := by
            rw [ext_toL, HR.out, ← HK.out]
            simp
          have x2 : (r.extract (k + 1) r.size).data.toList = r' := by
            have h : r.data.toList.length = r.size := rfl
            rw [ext_toL, ← h, List.take_length, HR.out, ← HK.out]
            simp
          rw [x1, x2]
      case measure =>
        obtain ⟨_, m2, _⟩ := CL.out _ _ _ HJ2.out
        rw [lenAt_of m2, lenAt_of (CL.out _ _ _ HJ.out).2.1, ByteArray.size_extract]
        have := HSZ.out
        omega
theorem splitseq_any (s sep : ByteArray) (w : World) : Calls Tryz.prog 106 #[.string s, .string sep] w fun e w' =>
    e = .returned (.func (.func 170) #[] #[.pointer (some ⟨w.heap.size + 1, 0, none⟩), .pointer (some ⟨w.heap.size, 0, none⟩), .pointer (some ⟨w.heap.size + 2, 0, none⟩)]) ∧ Bk w' w.heap.size 9 #[.string s] ∧ Bk w' (w.heap.size + 1) 9 #[.string sep] ∧ Bk w' (w.heap.size + 2) 3 #[.int .i64 0] ∧ Below w.heap.size w w' := by
  have hmf : ∀ (fn : Fn) (first cap : Array Value) (w : World), (Instr.makeFunc fn first cap).run Tryz.prog w = .ok (.func fn first cap) w := fun _ _ _ _ => rfl
  have inner : Calls Tryz.prog 128 #[.string s, .string sep, .int .i64 0] w fun e w' => e = .returned (.func (.func 170) #[] #[.pointer (some ⟨w.heap.size + 1, 0, none⟩), .pointer (some ⟨w.heap.size, 0, none⟩), .pointer (some ⟨w.heap.size + 2, 0, none⟩)]) ∧ w' = ((w.alloc (.cells #[.string s] 9)).alloc (.cells #[.string sep] 9)).alloc (.cells #[.int .i64 0] 3) := by
    go_enter Tryz.func128, Tryz.ntmps128
    go_wp2
    go_ret
    exact ⟨rfl, rfl⟩
  go_enter Tryz.func106, Tryz.ntmps106
  go_wp2_with (go_at_call 128; refine inner.mono ?_; rintro e w' ⟨rfl, hw'⟩; subst hw')
  go_ret
  refine ⟨rfl, ?_, ?_, ?_, ?_⟩
  · exact bk_old _ (bk_old _ (bk_new _ _ _))
  · have h := bk_old (.cells #[.int .i64 0] 3) (bk_new (w.alloc (.cells #[.string s] 9)) 9 #[.string sep])
    rw [World.size_alloc] at h
    exact h
  · have h := bk_new ((w.alloc (.cells #[.string s] 9)).alloc (.cells #[.string sep] 9)) 3 #[.int .i64 0]
    rw [World.size_alloc, World.size_alloc] at h
    exact h
  · exact ext_alloc (ext_alloc (ext_alloc (Below.refl _ _) _) _) _
end Go.Proofs.YtpjhjefjbkjhkaaGreatDoor
/- What a desk answers to a line. -/
namespace Go.Proofs.YtpjhjefjbkjhkaaGreatDoor
open Go Go.RowKit Go.Shelf
set_option linter.unusedVariables false
set_option linter.unusedSimpArgs false
attribute [local go_sem] Oper.semAt_some
/-- The words: pieces that are not empty. -/
def keepN (L : List ByteArray) : List ByteArray := L.filter fun x => !x.data.toList.isEmpty
theorem keepN_snoc (L : List ByteArray) (x : ByteArray) : keepN (L ++ [x]) = if x.data.toList.isEmpty = true then keepN L else keepN L ++ [x] := by
  unfold keepN
  rw [List.filter_append]
  show L.filter _ ++ List.filter (fun x => !x.data.toList.isEmpty) [x] = _
  rw [List.filter_cons, List.filter_nil]
  cases h : x.data.toList.isEmpty
  · simp
  · simp
theorem keepN_len (L : List ByteArray) : (keepN L).length ≤ L.length := List.length_filter_le _ _
theorem keepN_parts {L : List ByteArray} {s : ByteArray} (h : L.map (fun x => x.data.toList) = splitC 32 s.data.toList) : bysL (keepN L) = partsF s.data.toList := by
  unfold partsF bysL keepN
  rw [← h, List.filter_map]
  rfl
theorem keepN_size {L : List ByteArray} {s : ByteArray} (h : L.map (fun x => x.data.toList) = splitC 32 s.data.toList) : ∀ x ∈ keepN L, x.size ≤ s.size := by
  intro x hx
  have hx2 : x ∈ L := (List.mem_filter.1 hx).1
  have : x.data.toList ∈ splitC 32 s.data.toList := by rw [← h]; exact List.mem_map.2 ⟨x, hx2, rfl⟩
  exact splitC_len 32 s.data.toList _ this
theorem sl_dropD {α : Type} [El α] {w : World} {a : Addr} {n : Nat} {xs : List α} (h : Sl w (some a) n xs) {j : Nat} (hj : j ≤ n) : Sl w (some (a.add (j * El.k α))) (n - j) (xs.drop j) := by
  refine ⟨by rw [List.length_drop, h.len], by have := h.max; omega, fun hp => ?_⟩
  obtain ⟨b, e, hb, hc⟩ := h.row (by omega)
  injection e with e
  subst e
  refine ⟨_, rfl, by rw [el_block]; exact hb, fun i u hu => ?_⟩
  rw [el_add]
  rw [cls_drop, List.getElem?_drop] at hu
  exact hc _ u hu
theorem join_lenD (B : Nat) (sep : List UInt8) : ∀ (ls : List (List UInt8)), (∀ l ∈ ls, l.length ≤ B) → (Lib.join ls sep).length ≤ ls.length * (B + sep.length)
  | [], _ => by simp [Lib.join]
  | [x], h => by have := h x (by simp); simp [Lib.join]; omega
  | x :: y :: l, h => by
    have h1 := h x (by simp)
    have h2 := join_lenD B sep (y :: l) fun z hz => h z (List.mem_cons_of_mem _ hz)
    have e : Lib.join (x :: y :: l) sep = x ++ (sep ++ Lib.join (y :: l) sep) := by simp [Lib.join]
    rw [e, List.length_append, List.length_append]
    have e2 : (x :: y :: l).length * (B + sep.length) = (y :: l).length * (B + sep.length) + (B + sep.length) := by
      rw [List.length_cons, Nat.succ_mul]
    omega
/-- An error's number is small. -/
def Sm (n : Int) : Prop := 0 ≤ n ∧ n ≤ 100
theorem sm_ite {c : Prop} [Decidable c] {a b : Int} (ha : Sm a) (hb : Sm b) : Sm (if c then a else b) := by split <;> assumption
theorem sm_iteP {α : Type} {c : Prop} [Decidable c] {a b : α × Int} (ha : Sm a.2) (hb : Sm b.2) : Sm (if c then a else b).2 := by split <;> assumption
theorem sm_iteD {c : Prop} [Decidable c] {a b : DeskR} (ha : Sm a.er) (hb : Sm b.er) : Sm (if c then a else b).er := by split <;> assumption
theorem plain_sm (k : KeyV) : Sm (plainF k) := by unfold plainF; split; split <;> exact ⟨by decide, by decide⟩; exact ⟨by decide, by decide⟩
theorem may_sm (k : KeyV) (p : Int) : Sm (mayF k p) := by unfold mayF; split; split; exact ⟨by decide, by decide⟩; split <;> exact ⟨by decide, by decide⟩; exact ⟨by decide, by decide⟩
theorem both_sm (k c : KeyV) : Sm (bothF k c) := by unfold bothF keyCheck; split; split <;> exact ⟨by decide, by decide⟩; exact ⟨by decide, by decide⟩
theorem sm_n {n : Int} (h : 0 ≤ n) (k : n ≤ 100) : Sm n := ⟨h, k⟩
theorem move_sm (k : KeyV) (n : Int) : Sm (moveF k n).2 := by
  unfold moveF
  exact sm_iteP (sm_iteP (sm_n (by simp) (by simp)) (sm_n (by simp) (by simp))) (plain_sm k)
theorem narrow_sm (k : KeyV) (n : Int) : Sm (narrowF k n).2 := by
  unfold narrowF
  exact sm_iteP (sm_iteP (sm_n (by simp) (by simp)) (sm_n (by simp) (by simp))) (plain_sm k)
theorem drop_sm (k : KeyV) (n : Int) : Sm (dropF k n).2 := by
  unfold dropF
  exact sm_iteP (sm_n (by simp) (by simp)) (plain_sm k)
theorem seal_sm (k c : KeyV) : Sm (sealF k c).2 := by
  unfold sealF
  exact sm_iteP (sm_iteP (sm_iteP (sm_iteP (sm_n (by simp) (by simp)) (sm_n (by simp) (by simp))) (may_sm _ _)) (plain_sm _)) (both_sm _ _)
theorem open_sm (k c : KeyV) : Sm (openF k c).2 := by
  unfold openF
  exact sm_iteP (sm_iteP (sm_n (by simp) (by simp)) (sm_iteP (sm_iteP (sm_n (by simp) (by simp)) (sm_n (by simp) (by simp))) (may_sm _ _))) (both_sm _ _)
theorem keep_sm {k : KeyV} {r : KeyV × Int} (h : Sm r.2) : Sm (keepF k r).er := by
  unfold keepF
  exact sm_iteD (sm_n (by simp) (by simp)) h
theorem by_sm {k : KeyV} {l : List Bys} {f : KeyV → Int → KeyV × Int} (h : ∀ n, Sm (f k n).2) : Sm (byF k l f).er := by
  unfold byF
  exact sm_iteD (sm_iteD (keep_sm (h _)) (sm_n (by simp) (by simp))) (sm_n (by simp) (by simp))
theorem parse_sm (s : Bys) : Sm (parseF s).2 := by
  unfold parseF
  exact sm_iteP (sm_n (by simp) (by simp)) (sm_n (by simp) (by simp))
theorem pack_sm (l : List Bys) : Sm (packS l).2 := by
  unfold packS
  exact sm_iteP (sm_n (by simp) (by simp)) (parse_sm _)
theorem round_sm (a b : Int) : Sm (roundS a b).2 := by
  unfold roundS
  exact sm_iteP (sm_n (by simp) (by simp)) (sm_n (by simp) (by simp))
theorem calc_sm (a b : Int) (w : Bys) : Sm (calcF a b w).2 := by
  unfold calcF
  repeat' (first | apply sm_iteP | exact sm_n (by simp) (by simp))
theorem three_sm (w : Bys) (l : List Bys) : Sm (threeF w l).2 := by
  unfold threeF
  exact sm_iteP (sm_iteP (sm_iteP (sm_iteP (round_sm _ _) (sm_n (by simp) (by simp))) (calc_sm _ _ _)) (sm_n (by simp) (by simp))) (sm_n (by simp) (by simp))
theorem several_sm (w : Bys) (l : List Bys) : Sm (severalF w l).2 := by
  unfold severalF
  exact sm_iteP (three_sm _ _) (three_sm _ _)
theorem read_sm (a : Bys) : Sm (readS a).2 := by
  unfold readS
  repeat' (first | apply sm_iteP | exact sm_n (by simp) (by simp))
theorem permR_sm (s : List UInt8) : Sm (permR s).2 := by
  unfold permR
  exact sm_iteP (sm_n (by simp) (by simp)) (sm_n (by simp) (by simp))
theorem words_sm (k : KeyV) (w : Bys) (l : List Bys) : Sm (wordsF k w l).er := by
  unfold wordsF
  have c0 : ∀ b : Bys, Sm (DeskR.mk k b 0).er := fun b => sm_n (by simp) (by simp)
  have c3 : Sm (DeskR.mk k [] 3).er := sm_n (by simp) (by simp)
  exact sm_iteD (by_sm (move_sm k)) (sm_iteD (by_sm (narrow_sm k)) (sm_iteD (by_sm (f := sealerF sealF) fun n => seal_sm k _) (sm_iteD (by_sm (f := sealerF openF) fun n => open_sm k _) (sm_iteD (pack_sm l) (sm_iteD (several_sm w l) (sm_iteD (c0 _) (sm_iteD (keep_sm (r := (firstK, 0)) (sm_n (by simp) (by simp))) (sm_iteD c3 (sm_iteD (read_sm _) (sm_iteD (permR_sm _) (sm_iteD (sm_iteD (keep_sm (drop_sm k _)) (permR_sm _)) c3)))))))))))
theorem Sm.i64 {n : Int} (h : Sm n) : I64 n := ⟨by have := h.1; omega, by have := h.2; omega⟩
structure LnSt (w0 : World) (gw gs gp gv : Nat) (L : List ByteArray) (r : ByteArray) (W : World) : Prop where
  ls : ∃ vl, Bk W gw 80 #[vl] ∧ Own W w0.heap.size 9 vl (keepN L) ∧ ∀ g, vl.ownBlock = some g → g ≠ gs ∧ g ≠ gp
  s : Bk W gs 9 #[.string r]
  p : Bk W gp 9 #[.string ⟨#[32]⟩]
  v : Bk W gv 3 #[.int .i64 0]
  below : Below w0.heap.size w0 W
  ne : w0.heap.size ≤ gw ∧ w0.heap.size ≤ gs ∧ w0.heap.size ≤ gp ∧ w0.heap.size ≤ gv ∧ gs ≠ gp
section
variable {w0 : World} {gw gs gp gv : Nat} {L : List ByteArray} {r : ByteArray} {W : World}
theorem LnSt.putObj (h : LnSt w0 gw gs gp gv L r W) {l : Nat} {o o' : Obj} (hl : W.heap[l]? = some o) (ho : o.isCells = false) (hb : w0.heap.size ≤ l) : LnSt w0 gw gs gp gv L r (W.putObj l o') := by
  obtain ⟨vl, h3, h4, h5⟩ := h.ls
  refine ⟨⟨vl, bk_putObjD h3 hl ho, (FrE.putObj hl).own h4 (fun g hg eq => ?_), h5⟩, bk_putObjD h.s hl ho, bk_putObjD h.p hl ho, bk_putObjD h.v hl ho, (FrE.putObj hl).below h.below (fun i hi => by omega), h.ne⟩
  obtain ⟨_, _, hbk⟩ := own_cellsD h4 hg
  exact bk_noncellD hbk hl ho eq
theorem LnSt.set (h : LnSt w0 gw gs gp gv L r W) (r' : ByteArray) : LnSt w0 gw gs gp gv L r' (W.setCell ⟨gs, 0, none⟩ (.string r')) := by
  obtain ⟨vl, h3, h4, h5⟩ := h.ls
  have hf : FrE (fun j => j = gs) W (W.setCell ⟨gs, 0, none⟩ (.string r')) := FrE.setCell W (p := ⟨gs, 0, none⟩) (S := fun j => j = gs) rfl _
  exact ⟨⟨vl, hf.bk h3 (ne_tyD h3 h.s (by decide)), hf.own h4 (fun g hg eq => (h5 g hg).1 eq), h5⟩, bk_cell1D h.s _, hf.bk h.p (fun e => h.ne.2.2.2.2 e.symm), hf.bk h.v (ne_tyD h.v h.s (by decide)), hf.below h.below (fun i hi => by have := h.ne.2.1; omega), h.ne⟩
/-- A word told: the list's row may be a new one. -/
theorem LnSt.told (h : LnSt w0 gw gs gp gv L r W) {vl : Value} (h3 : Bk W gw 80 #[vl]) (h4 : Own W w0.heap.size 9 vl (keepN L)) (h5 : ∀ g, vl.ownBlock = some g → g ≠ gs ∧ g ≠ gp)
    {w2 w3 : World} (hb : Below W.heap.size W w2) (hg : w2.grownBy w3 vl.ownBlock) {v3 : Value} {L' : List ByteArray} (ho : Own w3 w0.heap.size 9 v3 (keepN L')) (hat : v3.ownBlock = vl.ownBlock ∨ v3.ownBlock = some w2.heap.size) : LnSt w0 gw gs gp gv L' r (w3.setCell ⟨gw, 0, none⟩ v3) := by
  have hf3 : FrE (fun j => vl.ownBlock = some j) W w3 := (FrE.of (S := fun j => vl.ownBlock = some j) hb).trans (FrE.grown (S := fun j => vl.ownBlock = some j) hg (fun k e => .inl e)) (fun _ _ h => h)
  have hs3 : FrE (fun j => j = gw) w3 (w3.setCell ⟨gw, 0, none⟩ v3) := FrE.setCell w3 (p := ⟨gw, 0, none⟩) (S := fun j => j = gw) rfl _
  have hf : FrE (fun j => vl.ownBlock = some j ∨ j = gw) W (w3.setCell ⟨gw, 0, none⟩ v3) := (hf3.mono (fun _ _ h => .inl h)).trans hs3 (fun _ _ h => .inr h)
  have k3 : Bk w3 gw 80 #[vl] := hf3.bk h3 (fun eq => own_tyD h4 h3 (by decide) eq)
  refine ⟨⟨v3, bk_set' k3 rfl, hs3.own ho (fun g hg eq => own_tyD ho k3 (by decide) (by rw [hg, eq])), fun g hg => ?_⟩, hf.bk h.s (fun hS => ?_), hf.bk h.p (fun hS => ?_), hf.bk h.v (fun hS => ?_), hf.below h.below (fun i hi => ?_), h.ne⟩
  · rcases hat with e' | e'
    · exact h5 g (by rw [← e']; exact hg)
    · rw [hg] at e'
      injection e' with e'
      have hz := hb.size
      have h1 := h.s.lt
      have h2 := h.p.lt
      exact ⟨by omega, by omega⟩
  · rcases hS with hS | hS
    · exact (h5 _ hS).1 rfl
    · exact ne_tyD h.s h3 (by decide) hS
  · rcases hS with hS | hS
    · exact (h5 _ hS).2 rfl
    · exact ne_tyD h.p h3 (by decide) hS
  · rcases hS with hS | hS
    · exact own_tyD h4 h.v (by decide) hS
    · exact ne_tyD h.v h3 (by decide) hS
  · rcases hi with hi | rfl
    · exact (own_ltD h4 hi).1
    · exact h.ne.1
end
def LnL (w0 : World) (gw gs gp gv l D : Nat) (o1 o2 : Obj) (L : List ByteArray) (r : ByteArray) (W : World) : Prop := LnSt w0 gw gs gp gv L r W ∧ W.heap[l]? = some o1 ∧ W.heap[D]? = some o2
theorem LnL.set {w0 : World} {gw gs gp gv l D : Nat} {o1 o2 : Obj} {L : List ByteArray} {r : ByteArray} {W : World} (h : LnL w0 gw gs gp gv l D o1 o2 L r W) (h1 : o1.isCells = false) (h2 : o2.isCells = false) (r' : ByteArray) : LnL w0 gw gs gp gv l D o1 o2 L r' (W.setCell ⟨gs, 0, none⟩ (.string r')) := by
  have hf : FrE (fun j => j = gs) W (W.setCell ⟨gs, 0, none⟩ (.string r')) := FrE.setCell W (p := ⟨gs, 0, none⟩) (S := fun j => j = gs) rfl _
  exact ⟨h.1.set r', (hf.block l (Array.getElem?_eq_some_iff.1 h.2.1).1 (fun q => bk_noncellD h.1.s h.2.1 h1 q.symm)).trans h.2.1, (hf.block D (Array.getElem?_eq_some_iff.1 h.2.2).1 (fun q => bk_noncellD h.1.s h.2.2 h2 q.symm)).trans h.2.2⟩
theorem FrD.putFar {g D : Nat} {w W W' : World} (h : FrD g w W) (hp : FrE (fun j => j = D) W W') (hD : w.heap.size ≤ D) : FrD g w W' :=
  ⟨hp.os.trans h.os, hp.tape.trans h.tape, hp.output.trans h.output, Nat.le_trans h.size hp.size, fun k hk hn => (hp.block k (Nat.lt_of_lt_of_le hk h.size) (fun e => by omega)).trans (h.block k hk hn)⟩
theorem wp_nopanicD {P : Program} {c : Code} {K : Act → World → Prop} {Q : Exit → Act → World → Prop} {a : Act} {w : World} (h : c.wp P (Exit.then K (fun _ _ _ => False)) a w) : c.wp P (Exit.then K Q) a w :=
  Code.wp_mono (fun e a w h => by cases e <;> first | exact h | exact h.elim) h
theorem results_tmp1D {P : Program} {fn : Func} {p : Tmp} (h : fn.results = #[.tmp p]) (tmps : Array Value) (w : World) : (results fn tmps).run P w = .ok (tmps.getD p undef) w := by
  simp [results, h]
theorem info_strJ : (Tryz.prog.info? 9).map (fun i => (i.zero, i.size, i.bytes)) = some (some (.string ⟨#[]⟩), 1, 16) := by kernel_rfl
set_option maxHeartbeats 4000000 in
set_option maxRecDepth 100000 in
theorem line_any (g : Nat) (k0 : KeyV) (hk : k0.wf) (s : ByteArray) (w : World) (hg : Bk w g 153 (deskC k0)) (henv : ∀ W, FrD g w W → PEnv W) (hs : s.size ≤ 300) :
    Calls Tryz.prog 76 #[.pointer (some ⟨g, 0, none⟩), .string s] w fun e w' => e = .returned (.string (ba (lineF k0 s.data.toList).2)) ∧ Bk w' g 153 (deskC (lineF k0 s.data.toList).1) ∧ FrD g w w' := by
  obtain ⟨⟨KR, OR⟩, hR⟩ : ∃ R, lineF k0 s.data.toList = R := ⟨_, rfl⟩
  rw [hR]
  simp only
  have HR := Lib.hid hR
  clear hR
  have sp := fun W => splitseq_any s ⟨#[32]⟩ W
  have SP := Lib.hid sp
  have HG := Lib.hid hg
  have HEN := Lib.hid henv
  clear sp hg henv
  refine (callsIn_wide (n := 3)).1 ?_
  refine callsIn_of_wp_marks Tryz.func76 rfl trivial ?_ rfl
  refine wpIn_wide.2 ?_
  simp only [Tryz.ntmps76, List.size_toArray, List.length_cons, List.length_nil, Nat.reduceAdd, Nat.reduceSub, Array.replicate_succ, Array.replicate_zero, List.push_toArray, List.append_toArray, List.nil_append, List.cons_append]
  go_wp2_with (go_at_call 106; ((with_reducible refine (SP.out _).mono ?_); rintro e W4 ⟨rfl, h1, h2, h3, h4⟩))
  rw [World.size_alloc] at h1 h2 h3
  have hst : LnSt w w.heap.size (w.heap.size + 1) (w.heap.size + 1 + 1) (w.heap.size + 1 + 2) [] s W4 := by
    refine ⟨⟨.slice none 0 0, bk_keep h4 (bk_new _ _ _), Own.nil _ _ _, fun g hg => by cases hg⟩, h1, h2, h3, ext_trans (ext_alloc (Below.refl _ _) _) h4, by omega, by omega, by omega, by omega, by omega⟩
  have HST := Lib.hid hst
  have hsz4 := h4.size
  rw [World.size_alloc] at hsz4
  have HSZ4 := Lib.hid hsz4
  have HS := Lib.hid hs
  clear h1 h2 h3 h4 hst hsz4 hs SP
  refine (wpIn_wide (n := 3)).1 ?_
  refine wpIn_rangeFunc_goD (β := List ByteArray × ByteArray × ByteArray) rfl (by decide) (gf := 170) (lb := #[.pointer (some ⟨w.heap.size + 1 + 1, 0, none⟩), .pointer (some ⟨w.heap.size + 1, 0, none⟩), .pointer (some ⟨w.heap.size + 1 + 2, 0, none⟩)]) rfl trivial (enters_of Tryz.func170 (by kernel_rfl) rfl)
    (fun x => #[.string x.2.2]) (fun _ => rfl) (fun x W => x.1.length ≤ s.size ∧ LnSt w w.heap.size (w.heap.size + 1) (w.heap.size + 1 + 1) (w.heap.size + 1 + 2) x.1 x.2.1 W) (fun x W => LnSt w w.heap.size (w.heap.size + 1) (w.heap.size + 1 + 1) (w.heap.size + 1 + 2) (x.1 ++ [x.2.2]) x.2.1 W) (fun W => ∃ L r, L.map (fun x => x.data.toList) = splitC 32 s.data.toList ∧ LnSt w w.heap.size (w.heap.size + 1) (w.heap.size + 1 + 1) (w.heap.size + 1 + 2) L r W)
    (fun x W l o o' h hl hk hc => ⟨h.1, h.2.putObj hk hc (by have := HSZ4.out; omega)⟩) (fun x W l o o' h hl hk hc => h.putObj hk hc (by have := HSZ4.out; omega)) (fun W l o o' h hl hk hc => by
      obtain ⟨L, r, e, h⟩ := h
      exact ⟨L, r, e, h.putObj hk hc (by have := HSZ4.out; omega)⟩)
    (fun x => { tmps := #[.pointer (some ⟨g, 0, none⟩), .string s, undef, undef, .string ⟨#[]⟩, .pointer (some ⟨w.heap.size, 0, none⟩), .string x.2.2, undef, undef, .string s, .func (.func 170) #[] #[.pointer (some ⟨w.heap.size + 1 + 1, 0, none⟩), .pointer (some ⟨w.heap.size + 1, 0, none⟩), .pointer (some ⟨w.heap.size + 1 + 2, 0, none⟩)], .string x.2.2, undef, undef, undef, undef, undef, undef, undef, undef, undef, undef, undef, undef, undef, undef, undef, undef, undef, undef, undef, undef, undef, undef, undef, undef, undef], defers := [] })
    ?assign ?body ?iter ?done
  case assign =>
    intro l x W K hK
    gi_wp2
    simpa using hK
  case body =>
    intro l ⟨L, r, x⟩ W ⟨hk, hW⟩
    simp only at hk hW
    obtain ⟨vl, g3, g4, g5⟩ := hW.ls
    by_cases hx : x.data.toList.isEmpty = true
    · have q1 : x.toList.isEmpty = true := by rw [ByteArray.toList_eq]; exact hx
      have h2 : LnSt w w.heap.size (w.heap.size + 1) (w.heap.size + 1 + 1) (w.heap.size + 1 + 2) (L ++ [x]) r W := ⟨⟨vl, g3, by rw [keepN_snoc, if_pos hx]; exact g4, g5⟩, hW.s, hW.p, hW.v, hW.below, hW.ne⟩
      have H2 := Lib.hid h2
      clear g3 g4 g5 hW h2 hx HST
      gi_wp2
      exact ⟨KeepsFrom.refl _ _, H2.out⟩
    · have q1 : x.toList.isEmpty = false := by rw [ByteArray.toList_eq]; simpa using hx
      have hkn : keepN (L ++ [x]) = keepN L ++ [x] := by rw [keepN_snoc, if_neg hx]
      have hl3 := keepN_len L
      obtain ⟨K, hK⟩ : ∃ K, keepN L = K := ⟨_, rfl⟩
      rw [hK] at g4 hkn hl3
      have c0 := g3.cell 0
      have f0 := g3.frozen 0
      simp only [List.getElem?_toArray, List.getElem?_cons_zero] at c0
      have hbl := g3.lt
      have hbw := hW.below.size
      have hnew : ∀ (j : Nat) (u : Value), [Value.string x][j]? = some u → (W.alloc (.cells #[.string x] 9)).cell? ((⟨W.heap.size, 0, none⟩ : Addr).add j) = some u := fun j u hu => by
        have h1 := (bk_new W 9 #[.string x]).cell j
        have e : ((⟨W.heap.size, 0, none⟩ : Addr).add j) = ⟨W.heap.size, j, none⟩ := by unfold Addr.add; simp; try (intro h; exact h.symm)
        rw [e, h1]
        simpa using hu
      have hb1 : K.length + 1 ≤ maxLen := by have := HS.out; unfold maxLen; omega
      have hb2 : (K.length + 1) * 16 ≤ 140737488355328 := by have := HS.out; omega
      have hb3 : w.heap.size ≤ (W.alloc (.cells #[.string x] 9)).heap.size := by rw [World.size_alloc]; omega
      have HNEW := Lib.hid hnew
      have HB1 := Lib.hid hb1
      have HB2 := Lib.hid hb2
      have HB3 := Lib.hid hb3
      have HW := Lib.hid hW
      have HKK := Lib.hid hK
      have HKN := Lib.hid hkn
      have G3 := Lib.hid g3
      have G4 := Lib.hid g4
      have G5 := Lib.hid g5
      obtain ⟨i0, i1, z0, z1, z2⟩ := info_parts info_strJ
      clear hnew hb1 hb2 hb3 hW g3 g4 g5 hK hkn hk hl3 hx HST
      gi_wp2_with (first
        | (gi_at_builtin; go_loud (refine wpListIn_append_own_at _ rfl _ _ 80 rfl w.heap.size 9 i0 (.string ⟨#[]⟩) 1 16 Tryz.underlying80 i1 z0 z1 z2 rfl (by decide) vl K.length (cls K) rfl (G4.out.alloc _) ⟨W.heap.size, 0, none⟩ 1 1 [.string x] rfl rfl HNEW.out (El.one (x : ByteArray)) HB1.out HB2.out HB3.out ?_)
           intro v3 w3 hown3 hg3 _ hat3
           have hown3' : Own w3 w.heap.size 9 v3 (K ++ [x]) := by
             unfold Own
             rw [List.length_append, cls_append, cls_one]
             exact hown3
           have hst3 := HW.out.told (L' := L ++ [x]) G3.out (by rw [HKK.out]; exact G4.out) G5.out (w2 := W.alloc (.cells #[.string x] 9)) (ext_alloc (Below.refl _ _) _) hg3 (by rw [HKN.out]; exact hown3') hat3
           obtain ⟨g3, cap3, rfl, hbase3, hlt3, hcap3, hmax3⟩ : ∃ g3 cap3, v3 = .slice (some ⟨g3, 0, none⟩) (K.length + 1) cap3 ∧ w.heap.size ≤ g3 ∧ g3 < w3.heap.size ∧ K.length + 1 ≤ cap3 ∧ cap3 ≤ maxLen := by
             rcases hown3'.form with ⟨_, h⟩ | ⟨g, c, h1, h2, h3, h4, h5⟩
             · simp at h
             · exact ⟨g, c, by rw [h1]; simp, h2, h3, by simpa using h4, h5⟩
           have hkb : Bk w3 w.heap.size 80 #[vl] := (hg3.block _ (by rw [World.size_alloc]; have := G3.out.lt; omega) (fun e => own_tyD G4.out G3.out (by decide) e.symm)).trans (bk_old _ G3.out)
           have c3 := hkb.cell 0
           have f3 := hkb.frozen 0
           simp only [List.getElem?_toArray, List.getElem?_cons_zero] at c3
           have HG3 := Lib.hid hg3
           have HST3 := Lib.hid hst3
           clear hown3 hown3' hg3 hst3 hat3 hkb
           go_frame))
      refine ⟨((KeepsOthers.alloc W _).trans (KeepsOthers.of_grownBy HG3.out ?_)).trans (KeepsOthers.setCell _ _ _) |>.from _, HST3.out⟩
      intro j o hj ho
      rcases (G4.out.alloc _).2 with ⟨rfl, _⟩ | ⟨g, c, cur, rfl, _, hg', _⟩
      · cases hj
      · obtain rfl : g = j := Option.some.inj hj
        rw [hg'] at ho
        cases ho
        rfl
  case iter =>
    intro o1 o2 h1 h2 hY
    have b5 : Below W4.heap.size W4 ((W4.alloc o2).alloc o1) := ext_alloc (ext_alloc (Below.refl _ _) _) _
    have hst := HST.out
    have hst2 : LnSt w w.heap.size (w.heap.size + 1) (w.heap.size + 1 + 1) (w.heap.size + 1 + 2) [] s ((W4.alloc o2).alloc o1) := by
      obtain ⟨vl, g3, g4, g5⟩ := hst.ls
      exact ⟨⟨vl, bk_keep b5 g3, g4.below b5, g5⟩, bk_keep b5 hst.s, bk_keep b5 hst.p, bk_keep b5 hst.v, ext_trans hst.below b5, hst.ne⟩
    have hl1 : ((W4.alloc o2).alloc o1).heap[W4.heap.size + 1]? = some o1 := by
      have := World.alloc_heap_new (W4.alloc o2) o1; rwa [World.size_alloc] at this
    have hl2 : ((W4.alloc o2).alloc o1).heap[W4.heap.size]? = some o2 := (Below.heap_alloc _ _ _ (by simp)).trans (World.alloc_heap_new W4 o2)
    have it := split_iter (w.heap.size + 1 + 1) (w.heap.size + 1) (w.heap.size + 1 + 2) (LnL w w.heap.size (w.heap.size + 1) (w.heap.size + 1 + 1) (w.heap.size + 1 + 2) (W4.heap.size + 1) W4.heap.size o1 o2) 2 (W4.heap.size + 1) (by decide)
      (fun L r W h => (HEN.out _ (FrD.of h.1.below)).mx)
      (fun L r W r' h => h.set h1 h2 r')
      (fun L r W h => ⟨h.1.p.cell 0, h.1.s.cell 0, h.1.v.cell 0, h.1.s.frozen 0⟩)
      s (by have := HS.out; omega)
      (fun L r x W hk hL => (hY (L, r, x) W ⟨hk, hL.1⟩ hL.2.1 hL.2.2)) ((W4.alloc o2).alloc o1) ⟨hst2, hl1, hl2⟩
    refine it.mono ?_
    rintro e W' ⟨hv, L, r, hL, hP⟩
    exact ⟨hv, ⟨L, r, hL, hP.1⟩, hP.2.1, hP.2.2⟩
  case done =>
    intro W hT hD
    obtain ⟨L, r, hL, hT⟩ := hT
    obtain ⟨vl, g3, g4, g5⟩ := hT.ls
    have hbys := keepN_parts hL
    have hsz := keepN_size hL
    have hlen : (keepN L).length ≤ 301 := by
      have h1 := keepN_len L
      have h2 := congrArg List.length hL
      have h3 := splitC_length 32 s.data.toList
      have h4 : s.data.toList.length = s.size := rfl
      have h5 := HS.out
      rw [List.length_map] at h2
      omega
    obtain ⟨M, hM⟩ : ∃ M, keepN L = M := ⟨_, rfl⟩
    rw [hM] at g4 hbys hsz hlen
    have hwl : w.heap.size < W.heap.size := g3.lt
    have HBEL := Lib.hid hT.below
    have HD := Lib.hid hD
    have HDl := Lib.hid (show W4.heap.size < W.heap.size from (Array.getElem?_eq_some_iff.1 hD).1)
    have HDg := Lib.hid (show g < w.heap.size from HG.out.lt)
    have G3 := Lib.hid g3
    have G4 := Lib.hid g4
    clear hT hD g5 hM HST hL r L
    have c0 := g3.cell 0
    simp only [List.getElem?_toArray, List.getElem?_cons_zero] at c0
    clear g3 g4
    match M, hbys, hsz, hlen with
    | [], hbys, _, _ =>
      have hR2 : (KR, OR) = (k0, errP ++ Lib.itoa 3) := by
        rw [← HR.out]
        unfold lineF
        rw [← hbys]
        rfl
      have hKR : KR = k0 := congrArg Prod.fst hR2
      have hOR : OR = errP ++ Lib.itoa 3 := congrArg Prod.snd hR2
      clear hR2 hbys HR
      obtain ⟨va, vc, rfl, _, _⟩ := G4.out.sl
      have it := itoa_any 3 ⟨by decide, by decide⟩ W (HEN.out _ (FrD.of HBEL.out)).ten
      have g1 := itoa_lenD (n := 3) ⟨by decide, by decide⟩
      obtain ⟨Z, hZ⟩ : ∃ Z : ByteArray, (⟨(Lib.itoa 3).toArray⟩ : ByteArray) = Z := ⟨_, rfl⟩
      rw [hZ] at it
      have a1 : Op.stringOp .add ⟨#[101, 114, 114, 111, 114, 32]⟩ Z = pure (.string (ba OR)) := by
        rw [← hZ, hOR]
        exact baD_add errP (Lib.itoa 3) (by have : errP.length = 6 := rfl; omega)
      have IT := Lib.hid it
      have HKR := Lib.hid hKR
      clear it hZ g1 hOR hKR
      go_wp2_with (go_at_call 108; ((with_reducible refine IT.out.mono ?_); rintro e w8 ⟨rfl, hb8⟩; have HB8 := Lib.hid hb8; have HD8 := Lib.hid ((hb8.block _ HDl.out).trans HD.out); clear hb8))
      have hp := FrE.putObj (o' := .deferred none) HD8.out
      refine ⟨by simp, .inl ⟨_, _, rfl, run_takeDeferred HD8.out, ?_⟩⟩
      have hb9 := hp.below (ext_trans HBEL.out HB8.out) (fun i hi => by have := HSZ4.out; omega)
      rw [HKR.out]
      exact ⟨_, results_tmp1D rfl _ _, rfl, bk_keep hb9 HG.out, FrD.of hb9⟩
    | wd :: ms, hbys, hsz, hlen =>
      obtain ⟨Rk, hRk⟩ : ∃ Rk, wordsF k0 wd.data.toList (bysL ms) = Rk := ⟨_, rfl⟩
      have hR2 : (KR, OR) = answered Rk := by
        rw [← HR.out, ← hRk]
        unfold lineF
        rw [← hbys]
        rfl
      have hKR : KR = Rk.k := congrArg Prod.fst hR2
      have hOR : OR = if Rk.er = 0 then Rk.out else errP ++ Lib.itoa Rk.er := congrArg Prod.snd hR2
      have hsm : I64 Rk.er := by rw [← hRk]; exact (words_sm _ _ _).i64
      clear hR2 hbys HR
      rcases G4.out.form with ⟨_, h⟩ | ⟨gb, cap, rfl, hgb1, hgb2, hcap, hmx⟩
      · cases h
      obtain ⟨ao, cc, e1, hsl, _⟩ := G4.out.sl
      injection e1 with e1 _ e3
      subst e1
      subst e3
      have hd := sl_dropD hsl (j := 1) (by simp)
      obtain ⟨a0, ea0, hb0, he0⟩ := sl_str (i := 0) (x := wd) hsl (by simp) rfl
      injection ea0 with ea0
      subst ea0
      rw [show (⟨gb, 0, none⟩ : Addr).add 0 = ⟨gb, 0, none⟩ by unfold Addr.add; rfl] at he0 hb0
      rw [show (⟨gb, 0, none⟩ : Addr).add (1 * El.k ByteArray) = ⟨gb, 1, none⟩ by unfold Addr.add; rfl] at hd
      obtain ⟨N, hN⟩ : ∃ N, (wd :: ms).length = N := ⟨_, rfl⟩
      rw [hN] at hd hcap hlen c0
      simp only [List.drop_succ_cons, List.drop_zero] at hd
      have hN1 : 1 ≤ N := by rw [← hN]; simp
      have hms : ms.length = N - 1 := by rw [← hN]; simp
      have hd9 : Sl W (if cap = 1 then some ⟨gb, 0, none⟩ else some ⟨gb, 1, none⟩) (N - 1) ms := by
        by_cases hc1 : cap = 1
        · have e0 : N - 1 = 0 := by omega
          rw [e0] at hms ⊢
          rw [List.eq_nil_of_length_eq_zero hms]
          exact Sl.nil _ _
        · rw [if_neg hc1]
          exact hd
      have ha9 : ∀ a, (if cap = 1 then some (⟨gb, 0, none⟩ : Addr) else some ⟨gb, 1, none⟩) = some a → a = ⟨a.block, a.off, none⟩ := by
        intro a
        split
        · intro ha; injection ha with ha; subst ha; rfl
        · intro ha; injection ha with ha; subst ha; rfl
      have hjl : (Lib.join (bysL ms) [32]).length ≤ 1000000 := by
        have h1 := join_lenD 300 [32] (bysL ms) (fun y hy => by
          obtain ⟨z, hz, rfl⟩ := List.mem_map.1 hy
          have h2 := hsz z (List.mem_cons_of_mem _ hz)
          have h3 := HS.out
          have h4 : z.data.toList.length = z.size := rfl
          omega)
        have h2 : (bysL ms).length + 1 = N := by rw [← hN]; simp
        have h3 : ([32] : Bys).length = 1 := rfl
        rw [h3] at h1
        have h4 : (bysL ms).length * (300 + 1) ≤ 301 * 301 := Nat.mul_le_mul (by omega) (by omega)
        omega
      have wb := fun W2 (h2 : Below W.heap.size W W2) => words_any g k0 hk wd (if cap = 1 then some ⟨gb, 0, none⟩ else some ⟨gb, 1, none⟩) (N - 1) (cap - 1) ms W2 (bk_keep (ext_trans HBEL.out h2) HG.out) (fun W3 h3 => HEN.out _ ((FrD.of (ext_trans HBEL.out h2)).trans h3)) (hd9.below h2) (fun z hz => by have := hsz z (List.mem_cons_of_mem _ hz); have := HS.out; omega) (by omega) (by omega) ha9 hjl
      rw [hRk] at wb
      have WB := Lib.hid wb
      have HKR := Lib.hid hKR
      have HOR := Lib.hid hOR
      have HSM := Lib.hid hsm
      clear wb hKR hOR hsm hd hd9 ha9 hms hjl hsl hsz hN hRk
      have q0 : (0 : Int) < (N : Int) := by omega
      have q1 : (1 : Int) ≤ (N : Int) := by omega
      have q2 : (N : Int) ≤ (cap : Int) := by omega
      have q3 : N ≤ cap := hcap
      have q4 : (1 : Int) ≤ (cap : Int) := by omega
      have q5 : 1 ≤ cap := by omega
      go_upto_region 8 with (fail)
      go_cut [7, 8] from 20 to 30 (fun s7 s8 wx => ∃ o, s7 = .string o ∧ s8 = .int .i64 Rk.er ∧ (Rk.er = 0 → o = ba Rk.out) ∧ Bk wx g 153 (deskC Rk.k) ∧ FrD g W wx)
      case first =>
        refine wp_nopanicD ?_
        have wb := WB.out
        clear WB
        by_cases hc1 : cap = 1
        · subst hc1
          obtain rfl : N = 1 := by omega
          simp only [↓reduceIte, Nat.sub_self] at wb
          have WB2 := Lib.hid wb
          clear wb
          go_region_law (go_simp; go_at_call 107; ((with_reducible refine (WB2.out _ (ext_drew (Below.refl _ _))).mono ?_); rintro e w5 ⟨o, rfl, ho, hb5, hf5⟩))
          all_goals go_wp2
          all_goals (
            go_meet
            first | exact ⟨o, rfl, rfl, ho, hb5, (FrD.of (ext_drew (Below.refl _ _))).trans hf5⟩ | exact ⟨⟨o, rfl, rfl, ho, hb5, (FrD.of (ext_drew (Below.refl _ _))).trans hf5⟩, rfl⟩)
        · simp only [if_neg hc1] at wb
          have WB2 := Lib.hid wb
          clear wb
          go_region_law (go_simp; go_at_call 107; ((with_reducible refine (WB2.out _ (ext_drew (Below.refl _ _))).mono ?_); rintro e w5 ⟨o, rfl, ho, hb5, hf5⟩))
          all_goals go_wp2
          all_goals (
            go_meet
            first | exact ⟨o, rfl, rfl, ho, hb5, (FrD.of (ext_drew (Below.refl _ _))).trans hf5⟩ | exact ⟨⟨o, rfl, rfl, ho, hb5, (FrD.of (ext_drew (Below.refl _ _))).trans hf5⟩, rfl⟩)
      case rest =>
        obtain ⟨o, rfl, rfl, ho, hb5, hf5⟩ := hcut
        have hgD : W4.heap.size ≠ g := by have := HDg.out; have := HSZ4.out; omega
        have HDc := Lib.hid ((hf5.block _ HDl.out hgD).trans HD.out)
        have HB5 := Lib.hid hb5
        have HF5 := Lib.hid ((FrD.of HBEL.out).trans hf5)
        have HO := Lib.hid ho
        have HGD := Lib.hid hgD
        clear hb5 hf5 ho hgD c0
        by_cases h0 : Rk.er = 0
        · have q6 : (Rk.er != 0) = false := by simpa using h0
          have e1 := HO.out h0
          have e2 : OR = Rk.out := by rw [HOR.out, if_pos h0]
          have E12 := Lib.hid (show o = ba OR from by rw [e1, e2])
          clear h0 e1 e2
          go_wp2
          have hp := FrE.putObj (o' := .deferred none) HDc.out
          refine ⟨by simp, .inl ⟨_, _, rfl, run_takeDeferred HDc.out, ?_⟩⟩
          refine ⟨_, results_tmp1D rfl _ _, ?_, ?_, ?_⟩
          · rw [← E12.out]; rfl
          · rw [HKR.out]; exact (hp.block g HB5.out.lt (fun e => HGD.out e.symm)).trans HB5.out
          · exact HF5.out.putFar hp (by have := HSZ4.out; omega)
        · have q6 : (Rk.er != 0) = true := by simpa using h0
          have e2 : OR = errP ++ Lib.itoa Rk.er := by rw [HOR.out, if_neg h0]
          have it := itoa_any Rk.er HSM.out wc (HEN.out _ HF5.out).ten
          have g1 := itoa_lenD HSM.out
          obtain ⟨Z, hZ⟩ : ∃ Z : ByteArray, (⟨(Lib.itoa Rk.er).toArray⟩ : ByteArray) = Z := ⟨_, rfl⟩
          rw [hZ] at it
          have a1 : Op.stringOp .add ⟨#[101, 114, 114, 111, 114, 32]⟩ Z = pure (.string (ba OR)) := by
            rw [← hZ, e2]
            exact baD_add errP (Lib.itoa Rk.er) (by have : errP.length = 6 := rfl; omega)
          have IT := Lib.hid it
          clear it hZ g1 e2 h0
          go_wp2_with (go_at_call 108; ((with_reducible refine IT.out.mono ?_); rintro e w8 ⟨rfl, hb8⟩; have HB8 := Lib.hid hb8; have HD8 := Lib.hid ((hb8.block _ (Array.getElem?_eq_some_iff.1 HDc.out).1).trans HDc.out); clear hb8))
          have hp := FrE.putObj (o' := .deferred none) HD8.out
          refine ⟨by simp, .inl ⟨_, _, rfl, run_takeDeferred HD8.out, ?_⟩⟩
          refine ⟨_, results_tmp1D rfl _ _, rfl, ?_, ?_⟩
          · rw [HKR.out]
            have hk8 := bk_keep HB8.out HB5.out
            exact (hp.block g hk8.lt (fun e => HGD.out e.symm)).trans hk8
          · exact (HF5.out.trans (FrD.of HB8.out)).putFar hp (by have := HSZ4.out; omega)
end Go.Proofs.YtpjhjefjbkjhkaaGreatDoor
