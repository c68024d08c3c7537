/- The walk of OwnMemory. -/
import Derived.Test.YtkcnhagpjnhiiaaHeapE
import Derived.Test.YtkcnhagpjnhiiaaMemLoaded
import Derived.Test.YtkcnhagpjnhiiaaMemEq
import Derived.Test.YtkcnhagpjnhiiaaPieceEq
import Derived.Test.YtkcnhagpjnhiiaaPieceCopy
import Derived.Test.YtkcnhagpjnhiiaaLiftVals
import Derived.Test.YtkcnhagpjnhiiaaLiftPieces
namespace Go.Proofs.Ytkcnhagpjnhiiaa
open El (cl)
open Go.RowKit
set_option linter.unusedVariables false
set_option linter.unusedSimpArgs false
/-- A world in which all that was there in w0 is as it was. -/
abbrev Later (w0 : World) := Wd (fun W => Below w0.heap.size w0 W)
theorem later_call {w0 : World} {W w' : World} (h : Below w0.heap.size w0 W) (hb : Below W.heap.size W w') : ∃ y : Later w0, w' = y.val := ⟨⟨w', ext_trans h hb⟩, rfl⟩
theorem Later.bk {w0 : World} (x : Later w0) {g : Nat} {T : TypeId} {cs : Array Value} (h : Bk w0 g T cs) : Bk x.val g T cs := bk_keep x.ok h
theorem Later.lt {w0 : World} (x : Later w0) {g : Nat} (h : g < w0.heap.size) : g < x.val.heap.size := Nat.lt_of_lt_of_le h x.ok.size
theorem grown_setCellsO (g : Nat) : ∀ (us : List Value) (i : Nat) (w : World), w.grownBy (w.setCells g i us) (some g)
  | [], i, w => World.grownBy.refl w _
  | u :: us, i, w => by
    have h1 : w.grownBy (w.setCell ⟨g, i, none⟩ u) (some g) := ⟨rfl, rfl, rfl, by simp [World.setCell], fun k _ hk => Below.heap_setCell w _ u k (fun e => hk (by rw [e]))⟩
    exact h1.trans (grown_setCellsO g us (i + 1) _)
theorem own_setCells_far {α : Type} [El α] {w : World} {base : Nat} {T : TypeId} {v : Value} {xs : List α} (h : Own w base T v xs) {g : Nat} (hg : g < base) (i : Nat) (us : List Value) : Own (w.setCells g i us) base T v xs := by
  refine h.kept (grown_setCellsO g us i w) ?_
  rcases h.form with ⟨rfl, _⟩ | ⟨k, c, rfl, h1, _⟩
  · exact .inl rfl
  · right
    simp [Value.ownBlock]
    omega
theorem below_setCellsO {a b : World} (h : Below a.heap.size a b) {g : Nat} (hg : a.heap.size ≤ g) (i : Nat) (us : List Value) : Below a.heap.size a (b.setCells g i us) :=
  h.grown (grown_setCellsO g us i b) h.size (fun k e => by injection e with e; omega)
theorem own_atO {α : Type} [El α] {w : World} {base : Nat} {T : TypeId} {ao : Option Addr} {n cap : Nat} {xs : List α} (h : Own w base T (.slice ao n cap) xs) {k : Nat} {x : α} (hx : xs[k]? = some x) :
    ∃ g, ao = some ⟨g, 0, none⟩ ∧ n = xs.length ∧ base ≤ g ∧ g < w.heap.size ∧ (∀ j, w.frozen? ⟨g, j, none⟩ = false) ∧ ∀ j u, (cl x)[j]? = some u → w.cell? ⟨g, k * El.k α + j, none⟩ = some u := by
  have hk : k < xs.length := (List.getElem?_eq_some_iff.1 hx).1
  obtain ⟨g, c, e, h1, h2, hs, hf⟩ := Own.some h (by omega)
  injection e with e1 e2 e3
  refine ⟨g, e1, e2, h1, h2, hf, fun j u hu => ?_⟩
  obtain ⟨a, y, ea, _, hy, hc⟩ := hs.at hk
  injection ea with ea
  subst ea
  obtain rfl : y = x := by rw [hx] at hy; injection hy with hy; exact hy.symm
  have := hc j u hu
  rw [Addr.add_lit, Nat.zero_add] at this
  exact this
theorem own_setO {α : Type} [El α] {w : World} {base : Nat} {T : TypeId} {g n cap i : Nat} {xs : List α} (h : Own w base T (.slice (some ⟨g, 0, none⟩) n cap) xs) (hn : n = xs.length) (hi : i < xs.length) (x : α) : Own (w.setCells g (i * El.k α) (cl x)) base T (.slice (some ⟨g, 0, none⟩) n cap) (xs.set i x) := by
  subst hn
  exact (own_set h hi x).1
theorem own_fit {α : Type} [El α] {w : World} {base : Nat} {T : TypeId} {ao : Option Addr} {n cap : Nat} {xs : List α} (h : Own w base T (.slice ao n cap) xs) : n = xs.length := by
  rcases h.form with ⟨e, rfl⟩ | ⟨g, c, e, _⟩
  · injection e with _ e _
  · injection e with _ e _
theorem own_top {α : Type} [El α] {w : World} {base : Nat} {T : TypeId} {g n cap : Nat} {xs : List α} (h : Own w base T (.slice (some ⟨g, 0, none⟩) n cap) xs) : g < w.heap.size := by
  rcases h.form with ⟨e, rfl⟩ | ⟨k, c, e, _, h2, _⟩
  · cases e
  · injection e with e _ _
    injection e with e
    injection e with e _ _
    omega
theorem own_maxO {α : Type} [El α] {w : World} {base : Nat} {T : TypeId} {v : Value} {xs : List α} (h : Own w base T v xs) : xs.length ≤ 9223372036854775807 := by
  rcases h.form with ⟨_, rfl⟩ | ⟨k, c, _, _, _, h1, h2⟩
  · simp
  · unfold maxLen at h2; omega
set_option maxHeartbeats 8000000 in
set_option maxRecDepth 100000 in
theorem ownMemory_walk {w : World} (m : SlV ValV) (k : KeyV) (off : Int) (v : ValV) (l : SlV PieceV) (n : Int) (hm : m.ok ValV.wf w) (hz : m.n * 56 ≤ 140737488351232) (hk : k.wf) (ho : (Lit.int .i64 off).wf = true) (hv : v.wf) (hl : l.ok PieceV.wf w) (hzl : l.n * 24 ≤ 140737488351232) (hn : (Lit.int .i64 n).wf = true) :
    Calls Try.prog 10 #[m.val, k.val, .int .i64 off, v.val, l.val, .int .i64 n] w fun e w' => e = .returned (.bool true) ∧ Below w.heap.size w w' := by
  obtain ⟨ao, N, cap, vs⟩ := m
  obtain ⟨lo, L, lcap, ps⟩ := l
  obtain ⟨hsl, _, _⟩ := hm
  obtain ⟨hpl, _, _⟩ := hl
  obtain ⟨p, b, l, a, s⟩ := k
  obtain ⟨vi, vn, vp, vb, vl, va, vs_⟩ := v
  simp only [SlV.val, KeyV.val, ValV.val] at hsl hpl hz hzl ⊢
  have hN := hsl.len
  subst hN
  have hL := hpl.len
  subst hL
  obtain ⟨w1, hw1⟩ : ∃ w1, w1 = (w.alloc (.cells #[.int .i64 p, .int .i64 b, .int .i64 l, .int .i64 a, .int .i64 s] 23)).alloc (.cells #[.bool vi, .int .i64 vn, .int .i64 vp, .int .i64 vb, .int .i64 vl, .int .i64 va, .int .i64 vs_] 25) := ⟨_, rfl⟩
  have h1w : Below w.heap.size w w1 := by rw [hw1]; exact ext_alloc (ext_alloc (Below.refl _ _) _) _
  have hBk : Bk w1 w.heap.size 23 #[.int .i64 p, .int .i64 b, .int .i64 l, .int .i64 a, .int .i64 s] := by rw [hw1]; exact bk_old _ (bk_new _ _ _)
  have hBv : Bk w1 (w.heap.size + 1) 25 #[.bool vi, .int .i64 vn, .int .i64 vp, .int .i64 vb, .int .i64 vl, .int .i64 va, .int .i64 vs_] := by rw [hw1]; exact bk_new' _ _ (by simp)
  have k0_ : ∀ x : Later w1, x.val.cell? ⟨w.heap.size, 0, none⟩ = some (.int .i64 p) := fun x => (x.bk hBk).cell 0
  have k1_ : ∀ x : Later w1, x.val.cell? ⟨w.heap.size, 1, none⟩ = some (.int .i64 b) := fun x => (x.bk hBk).cell 1
  have k2_ : ∀ x : Later w1, x.val.cell? ⟨w.heap.size, 2, none⟩ = some (.int .i64 l) := fun x => (x.bk hBk).cell 2
  have k3_ : ∀ x : Later w1, x.val.cell? ⟨w.heap.size, 3, none⟩ = some (.int .i64 a) := fun x => (x.bk hBk).cell 3
  have k4_ : ∀ x : Later w1, x.val.cell? ⟨w.heap.size, 4, none⟩ = some (.int .i64 s) := fun x => (x.bk hBk).cell 4
  have v0_ : ∀ x : Later w1, x.val.cell? ⟨w.heap.size + 1, 0, none⟩ = some (.bool vi) := fun x => (x.bk hBv).cell 0
  have v1_ : ∀ x : Later w1, x.val.cell? ⟨w.heap.size + 1, 1, none⟩ = some (.int .i64 vn) := fun x => (x.bk hBv).cell 1
  have v2_ : ∀ x : Later w1, x.val.cell? ⟨w.heap.size + 1, 2, none⟩ = some (.int .i64 vp) := fun x => (x.bk hBv).cell 2
  have v3_ : ∀ x : Later w1, x.val.cell? ⟨w.heap.size + 1, 3, none⟩ = some (.int .i64 vb) := fun x => (x.bk hBv).cell 3
  have v4_ : ∀ x : Later w1, x.val.cell? ⟨w.heap.size + 1, 4, none⟩ = some (.int .i64 vl) := fun x => (x.bk hBv).cell 4
  have v5_ : ∀ x : Later w1, x.val.cell? ⟨w.heap.size + 1, 5, none⟩ = some (.int .i64 va) := fun x => (x.bk hBv).cell 5
  have v6_ : ∀ x : Later w1, x.val.cell? ⟨w.heap.size + 1, 6, none⟩ = some (.int .i64 vs_) := fun x => (x.bk hBv).cell 6
  have kL : ∀ x : Later w1, w.heap.size < x.val.heap.size := fun x => x.lt hBk.lt
  have vL : ∀ x : Later w1, w.heap.size + 1 < x.val.heap.size := fun x => x.lt hBv.lt
  have st := fun x : Later w1 => mstore_any ao vs.length cap vs p b l a s off vi vn vp vb vl va vs_ hk (wf_bd ho) x.val (hsl.below (ext_trans h1w x.ok))
  unfold StoresPost at st
  generalize (if storeE vs ⟨p, b, l, a, s⟩ off ⟨vi, vn, ⟨vp, vb, vl, va, vs_⟩⟩ = 0 then storeM vs ⟨p, b, l, a, s⟩ off ⟨vi, vn, ⟨vp, vb, vl, va, vs_⟩⟩ else []) = A at *
  generalize storeE vs ⟨p, b, l, a, s⟩ off ⟨vi, vn, ⟨vp, vb, vl, va, vs_⟩⟩ = ec at *
  have cp := fun x : Later w1 => copy_piece lo ps.length lcap ps x.val (hpl.below (ext_trans h1w x.ok)) (by omega)
  unfold OwnPost at cp
  have gv := fun W (h : Below w1.heap.size w1 W) => hgive_any lo ps.length lcap ps n W (hpl.below (ext_trans h1w h)) (wf_bd hn)
  unfold GivePost at gv
  generalize (giveF ps n).1 = G at *
  generalize (giveF ps n).2.1 = gk at *
  generalize (giveF ps n).2.2 = gc at *
  simp only [KeyV.val] at gv
  have fin : ∀ x : Later w1, Below w.heap.size w x.val := fun x => ext_trans h1w x.ok
  have hpx := fun x : Later w1 => hpl.below (ext_trans h1w x.ok)
  have ST := Lib.hid st
  have CP := Lib.hid cp
  have GV := Lib.hid gv
  have FIN := Lib.hid fin
  have HPX := Lib.hid hpx
  have HW1 := Lib.hid hw1
  clear st cp gv fin hpx hw1 hBk hBv h1w hsl hpl hk ho hv hn hz hzl
  go_enter Try.func10, Try.ntmps10
  go_upto_region 1 with (fail)
  rw [← HW1.out]
  go_wp2_with (first
    | (go_at_call 25; ((with_reducible refine (loaded_any _).mono ?_); rintro e w' ⟨rfl, hb⟩; obtain ⟨y1, rfl⟩ := later_call (Below.refl _ _) hb; clear hb))
    | (go_at_call 26; ((with_reducible refine (ST.out y1).mono ?_); rintro e w' ⟨v2, rfl, ho, hb⟩; obtain ⟨y2, rfl⟩ := later_call y1.ok hb; obtain ⟨a2, c2, rfl, _, _⟩ := ho.sl; have O2 := Lib.hid ho; have B2 := Lib.hid hb; clear ho hb))
    | (go_at_call 26; ((with_reducible refine (ST.out y2).mono ?_); rintro e w' ⟨v3, rfl, ho, hb⟩; obtain ⟨y3, rfl⟩ := later_call y2.ok hb; obtain ⟨a3, c3, rfl, _, _⟩ := ho.sl; have O3 := Lib.hid ho; have B3 := Lib.hid hb; clear ho hb)))
  have na := own_fit O2.out
  have nb := own_fit O3.out
  have nmx := own_maxO O2.out
  go_loopw [51] (fun i wr => ∃ (k : Nat) (L : List ValV) (x : Later w1), k ≤ A.length ∧ i = .int .i64 k ∧ L.length = A.length ∧ wr = x.val ∧ Own x.val y1.val.heap.size 25 (.slice a2 A.length c2) L ∧ Own x.val y2.val.heap.size 25 (.slice a3 A.length c3) A) (fun i _ => A.length - (intOf i).toNat)
  case atStart => exact ⟨0, A, y3, Nat.zero_le _, rfl, rfl, rfl, O2.out.below B3.out, O3.out⟩
  case round =>
    obtain ⟨k, L, x, hk, rfl, hLn, rfl, oa, ob⟩ := hrel
    by_cases hlt : k < A.length
    · have q1 : (k : Int) < A.length := by omega
      obtain ⟨u, hu⟩ : ∃ u, L[k]? = some u := ⟨_, List.getElem?_eq_getElem (by omega)⟩
      obtain ⟨g, rfl, hgn, hg1, hg2, hgf, cell⟩ := own_atO oa hu
      have hgt : g < y2.val.heap.size := own_top O2.out
      have e0 := cell 0 _ rfl; have e1 := cell 1 _ rfl; have e2 := cell 2 _ rfl; have e3 := cell 3 _ rfl; have e4 := cell 4 _ rfl; have e5 := cell 5 _ rfl; have e6 := cell 6 _ rfl
      have e7 : El.k ValV = 7 := rfl
      simp only [e7, Nat.add_zero] at e0 e1 e2 e3 e4 e5 e6
      have no := own_setO oa hgn (by omega : k < L.length) ⟨false, 77, zeroK⟩
      have nob := own_setCells_far ob hgt (k * 7) (cl (⟨false, 77, zeroK⟩ : ValV))
      have hy1 := y1.ok.size
      have nok := below_setCellsO x.ok (g := g) (by omega) (k * 7) (cl (⟨false, 77, zeroK⟩ : ValV))
      have NO := Lib.hid no
      have NOB := Lib.hid nob
      have NOK := Lib.hid nok
      have HLN := Lib.hid hLn
      clear no nob nok oa ob cell hgn hu hLn e7
      go_wp2
      go_roundw
      case rel => exact ⟨k + 1, L.set k ⟨false, 77, zeroK⟩, ⟨_, NOK.out⟩, by omega, by go_num, by rw [List.length_set]; exact HLN.out, rfl, NO.out, NOB.out⟩
      case measure => simp [intOf]; omega
    · have q1 : ¬ ((k : Int) < A.length) := by omega
      have OB4 := Lib.hid ob
      clear oa ob hLn
      obtain ⟨x4, hx4⟩ : ∃ x4 : Later w1, x4 = x := ⟨_, rfl⟩
      subst hx4
      go_upto_region 13 with (first
        | (go_at_call 26; ((with_reducible refine (ST.out x4).mono ?_); rintro e w' ⟨v5, rfl, ho, hb⟩; obtain ⟨y5, rfl⟩ := later_call x4.ok hb; obtain ⟨a5, c5, rfl, _, _⟩ := ho.sl; have O5 := Lib.hid ho; have B5 := Lib.hid hb; clear ho hb))
        | (go_at_call 27; ((with_reducible refine (CP.out y5).mono ?_); rintro e w' ⟨v6, rfl, ho, hb⟩; obtain ⟨y6, rfl⟩ := later_call y5.ok hb; obtain ⟨a6, c6, rfl, _, _⟩ := ho.sl; have O6 := Lib.hid ho; have B6 := Lib.hid hb; clear ho hb))
        | (go_at_call 28; ((with_reducible refine (GV.out _ y6.ok).mono ?_); rintro e w' ⟨v7, rfl, ho, hb⟩; obtain ⟨y7, rfl⟩ := later_call y6.ok hb; obtain ⟨a7, c7, rfl, _, _⟩ := ho.sl; have O7 := Lib.hid ho; have B7 := Lib.hid hb; clear ho hb)))
      go_wp2_with (go_at_call 28; ((with_reducible refine (GV.out _ (ext_alloc y7.ok _)).mono ?_); rintro e w' ⟨v8, rfl, ho, hb⟩; obtain ⟨y8, rfl⟩ := later_call (ext_alloc y7.ok _) hb; obtain ⟨a8, c8, rfl, _, _⟩ := ho.sl; have O8 := Lib.hid ho; have B8 := Lib.hid hb; clear ho hb))
      have nh := own_fit O8.out
      have nmg := own_maxO O7.out
      obtain ⟨y9, hy9⟩ : ∃ y9 : Later w1, y8.val.alloc (.cells #[.int .i64 gk.perm, .int .i64 gk.base, .int .i64 gk.len, .int .i64 gk.at_, .int .i64 gk.seal_] 23) = y9.val := ⟨⟨_, ext_alloc y8.ok _⟩, rfl⟩
      have b89 : Below y8.val.heap.size y8.val y9.val := by rw [← hy9]; exact ext_alloc (Below.refl _ _) _
      have o7 : Own y9.val y6.val.heap.size 76 (.slice a7 G.length c7) G := ((O7.out.alloc _).below B8.out).below b89
      have o8 : Own y9.val (y7.val.alloc (.cells #[.int .i64 gk.perm, .int .i64 gk.base, .int .i64 gk.len, .int .i64 gk.at_, .int .i64 gk.seal_] 23)).heap.size 76 (.slice a8 G.length c8) G := O8.out.below b89
      have b49 : Below x4.val.heap.size x4.val y9.val := ext_trans (ext_trans (ext_alloc (ext_trans (ext_trans B5.out B6.out) B7.out) _) B8.out) b89
      have b59 : Below y5.val.heap.size y5.val y9.val := ext_trans (ext_trans (ext_alloc (ext_trans B6.out B7.out) _) B8.out) b89
      have b69 : Below y6.val.heap.size y6.val y9.val := ext_trans (ext_trans (ext_alloc B7.out _) B8.out) b89
      have O79 := Lib.hid o7
      have O89 := Lib.hid o8
      have B49 := Lib.hid b49
      have B59 := Lib.hid b59
      have B69 := Lib.hid b69
      have HY9 := Lib.hid hy9
      rw [hy9]
      clear o7 o8 b49 b59 b69 b89 hy9
      go_loopw [85] (fun i wr => ∃ (k : Nat) (L : List PieceV) (x : Later w1), k ≤ G.length ∧ i = .int .i64 k ∧ L.length = G.length ∧ wr = x.val ∧ Own x.val y6.val.heap.size 76 (.slice a7 G.length c7) L ∧ Own x.val (y7.val.alloc (.cells #[.int .i64 gk.perm, .int .i64 gk.base, .int .i64 gk.len, .int .i64 gk.at_, .int .i64 gk.seal_] 23)).heap.size 76 (.slice a8 G.length c8) G ∧ Below y6.val.heap.size y6.val x.val) (fun i _ => G.length - (intOf i).toNat)
      case atStart => exact ⟨0, G, y9, Nat.zero_le _, rfl, rfl, rfl, O79.out, O89.out, B69.out⟩
      case round =>
        obtain ⟨k, L, x, hk, rfl, hLn, rfl, oa, ob, hbx⟩ := hrel
        by_cases hlt : k < G.length
        · have q1 : (k : Int) < G.length := by omega
          obtain ⟨u, hu⟩ : ∃ u, L[k]? = some u := ⟨_, List.getElem?_eq_getElem (by omega)⟩
          obtain ⟨g, rfl, hgn, hg1, hg2, hgf, cell⟩ := own_atO oa hu
          have hgt : g < (y7.val.alloc (.cells #[.int .i64 gk.perm, .int .i64 gk.base, .int .i64 gk.len, .int .i64 gk.at_, .int .i64 gk.seal_] 23)).heap.size := by have := own_top O7.out; simp; omega
          have e0 := cell 0 _ rfl; have e1 := cell 1 _ rfl; have e2 := cell 2 _ rfl
          have e7 : El.k PieceV = 3 := rfl
          simp only [e7, Nat.add_zero] at e0 e1 e2
          have no := own_setO oa hgn (by omega : k < L.length) ⟨9, 0, 0⟩
          have nob := own_setCells_far ob hgt (k * 3) (cl (⟨9, 0, 0⟩ : PieceV))
          have hy1 := y6.ok.size
          have nok := below_setCellsO x.ok (g := g) (by omega) (k * 3) (cl (⟨9, 0, 0⟩ : PieceV))
          have nbx := below_setCellsO hbx (g := g) (by omega) (k * 3) (cl (⟨9, 0, 0⟩ : PieceV))
          have NO := Lib.hid no
          have NOB := Lib.hid nob
          have NOK := Lib.hid nok
          have NBX := Lib.hid nbx
          have HLN := Lib.hid hLn
          clear no nob nok nbx oa ob cell hgn hu hLn e7 hbx
          go_wp2
          go_roundw
          case rel => exact ⟨k + 1, L.set k ⟨9, 0, 0⟩, ⟨_, NOK.out⟩, by omega, by go_num, by rw [List.length_set]; exact HLN.out, rfl, NO.out, NOB.out, NBX.out⟩
          case measure => simp [intOf]; omega
        · have q1 : ¬ ((k : Int) < G.length) := by omega
          have OH := Lib.hid ob
          have HBX := Lib.hid hbx
          clear oa ob hLn hbx
          obtain ⟨x9, hx9⟩ : ∃ x9 : Later w1, x9 = x := ⟨_, rfl⟩
          subst hx9
          have sb : Sl x9.val a3 A.length A := by
            obtain ⟨ao', c', e, h, _⟩ := (((OB4.out.below B5.out).below B6.out).below HBX.out).sl
            injection e with e _ _
            subst e
            exact h
          have sc : Sl x9.val a5 A.length A := by
            obtain ⟨ao', c', e, h, _⟩ := ((O5.out.below B6.out).below HBX.out).sl
            injection e with e _ _
            subst e
            exact h
          have sw : Sl x9.val a6 ps.length ps := by
            obtain ⟨ao', c', e, h, _⟩ := (O6.out.below HBX.out).sl
            injection e with e _ _
            subst e
            exact h
          have sh : Sl x9.val a8 G.length G := by
            obtain ⟨ao', c', e, h, _⟩ := OH.out.sl
            injection e with e _ _
            subst e
            exact h
          have e1 := fun W (h : Below x9.val.heap.size x9.val W) => eq_val a3 a5 _ _ c3 c5 A A W (sb.below h) (sc.below h)
          have e3 := fun W (h : Below x9.val.heap.size x9.val W) => eq_piece lo a6 _ _ lcap c6 ps ps W ((HPX.out x9).below h) (sw.below h)
          simp only [decide_true] at e1 e3
          have EQ1 := Lib.hid e1
          have EQ3 := Lib.hid e3
          have SH := Lib.hid sh
          clear sb sc sw sh e1 e3
          go_wp2_with (first
            | (go_at_call 28; ((with_reducible refine (GV.out _ x9.ok).mono ?_); rintro e w' ⟨v10, rfl, ho, hb⟩; obtain ⟨y10, rfl⟩ := later_call x9.ok hb; obtain ⟨a10, c10, rfl, hs10, _⟩ := ho.sl; have S10 := Lib.hid (hs10.alloc (.cells #[.int .i64 gk.perm, .int .i64 gk.base, .int .i64 gk.len, .int .i64 gk.at_, .int .i64 gk.seal_] 23)); have B10 := Lib.hid hb; clear ho hb hs10))
            | (go_at_call 18; ((with_reducible refine (EQ1.out _ (ext_alloc B10.out _)).mono ?_); rintro e w' ⟨rfl, hb⟩; obtain ⟨y11, rfl⟩ := later_call (ext_alloc y10.ok _) hb; have SJ := Lib.hid (S10.out.below hb); have B11 := Lib.hid hb; clear hb))
            | (go_at_call 29; ((with_reducible refine (eq_piece a8 a10 _ _ c8 c10 G G _ (SH.out.below (ext_trans (ext_alloc B10.out _) B11.out)) SJ.out).mono ?_); rintro e w' ⟨rfl, hb⟩; obtain ⟨y12, rfl⟩ := later_call y11.ok hb; have B12 := Lib.hid hb; clear hb; have gE : decide (G = G) = true := decide_eq_true rfl))
            | (go_at_call 29; ((with_reducible refine (EQ3.out _ (ext_trans (ext_trans (ext_alloc B10.out _) B11.out) B12.out)).mono ?_); rintro e w' ⟨rfl, hb⟩; obtain ⟨y13, rfl⟩ := later_call y12.ok hb; clear hb)))
          go_ret
          exact ⟨rfl, FIN.out y13⟩
end Go.Proofs.Ytkcnhagpjnhiiaa
