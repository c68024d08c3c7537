import Derived.Great.BuildSlice
import Derived.Test.YtpjhjefjbkjhkaaGreatDoorBuB
import Derived.Test.YtpjhjefjbkjhkaaGreatDoorBuF
import Derived.Test.YtpjhjefjbkjhkaaGreatDoorDeskMathZ
import Derived.Test.YtpjhjefjbkjhkaaGreatDoorPermRead
import Derived.Test.YtpjhjefjbkjhkaaGreatDoorProgCellZ
import Derived.Test.YtpjhjefjbkjhkaaGreatDoorRoundZ
/- What the smaller functions of package desk compute: number, told, first, keep; round.Out at whatever range. -/
namespace Go.Proofs.YtpjhjefjbkjhkaaGreatDoor
open Go Go.RowKit Go.Shelf
set_option linter.unusedVariables false
set_option linter.unusedSimpArgs false
theorem itoa_lenD {n : Int} (h : I64 n) : (Lib.itoa n).length ≤ 21 := Lib.itoa_length_le n h.1 h.2
theorem baD_add (x y : List UInt8) (h : x.length + y.length ≤ 1000000000) : Op.stringOp .add (ba x) (ba y) = pure (.string (ba (x ++ y))) := by
  have e : ba x ++ ba y = ba (x ++ y) := ByteArray.ext (by simp [ba])
  rw [← e]
  exact str_add _ _ (by have h1 : (ba x).size = x.length := ba_len x; have h2 : (ba y).size = y.length := ba_len y; omega)
theorem str_eqD (a b : ByteArray) : (a.toList == b.toList) = decide (a = b) := by
  by_cases h : a = b
  · subst h; simp
  · have : a.toList ≠ b.toList := fun e => h (by
      rw [ByteArray.toList_eq, ByteArray.toList_eq] at e
      exact ByteArray.ext (Array.toList_inj.1 e))
    simp [h, this]
theorem cells5D {w : World} {g : Nat} {T : TypeId} {v0 v1 v2 v3 v4 : Value} (h : Bk w g T #[v0, v1, v2, v3, v4]) : w.cell? ⟨g, 0, none⟩ = some v0 ∧ w.cell? ⟨g, 1, none⟩ = some v1 ∧ w.cell? ⟨g, 2, none⟩ = some v2 ∧ w.cell? ⟨g, 3, none⟩ = some v3 ∧ w.cell? ⟨g, 4, none⟩ = some v4 :=
  ⟨h.cell 0, h.cell 1, h.cell 2, h.cell 3, h.cell 4⟩
theorem lit_slD {α : Type} [El α] {w : World} {T : TypeId} (cs : Array Value) (xs : List α) (hm : xs.length ≤ 1000) (hc : cs.toList = cls xs) : Sl (w.alloc (.cells cs T)) (some ⟨w.heap.size, 0, none⟩) xs.length xs := by
  have h0 := own_lit (xs := xs) w T 0 (Nat.zero_le _) cs xs.length rfl (by unfold maxLen; omega) hc
  obtain ⟨ao, c, e, h, _⟩ := h0.sl
  injection e with e _ _
  subst e
  exact h
/-- Do two texts agree, as the walk asks it? -/
theorem ba_eqD (x y : List UInt8) : ((ba x).toList == (ba y).toList) = decide (x = y) := by
  rw [str_eqD]
  by_cases h : x = y
  · subst h; simp
  · have : ¬ ba x = ba y := fun e => h (ba_inj e)
    rw [decide_eq_false h, decide_eq_false this]
theorem number_any (s : ByteArray) (w : World) (he : PEnv w) (hs : s.size ≤ 1000000) : Calls Tryz.prog 138 #[.string s] w fun e w' => ∃ n, e = .returned (.tuple #[.int .i64 n, .bool (numB s.data.toList)]) ∧ (numB s.data.toList = true → n = atoiV s.data.toList) ∧ Below w.heap.size w w' := by
  cases ha : Lib.atoiAll s.data.toList with
  | ok v =>
    have hv : atoiV s.data.toList = v := by unfold atoiV; rw [ha]
    have hi := atoi_i64 ha
    have at_ := fun W => atoi_ok s v ha W (by omega)
    have it := fun W (hW : Tab10 W) => itoa_any v hi W hW
    have hb : numB s.data.toList = (decide (Lib.itoa v = s.data.toList) && num32B v) := by
      unfold numB
      rw [hv, ha]
      simp
    obtain ⟨S, hS⟩ : ∃ S : ByteArray, (⟨(Lib.itoa v).toArray⟩ : ByteArray) = S := ⟨_, rfl⟩
    rw [hS] at it
    have hq := str_eqD S s
    have hiff : S = s ↔ Lib.itoa v = s.data.toList := by
      rw [← hS]
      constructor
      · rintro rfl; rfl
      · intro h; exact ByteArray.ext (by simp [h])
    have hd : decide (S = s) = decide (Lib.itoa v = s.data.toList) := decide_eq_decide.2 hiff
    rw [hd] at hq
    rw [hb]
    have HE := Lib.hid he
    have AT := Lib.hid at_
    have IT := Lib.hid it
    clear he at_ it hS hiff hd hb ha
    by_cases h1 : Lib.itoa v = s.data.toList
    · rw [decide_eq_true h1] at hq ⊢
      have hw : (v == wrap32 v) = num32B v := by
        unfold num32B
        by_cases hr : -2147483648 ≤ v ∧ v ≤ 2147483647
        · rw [decide_eq_true hr]
          have : wrap32 v = v := by unfold wrap32; omega
          rw [this]; exact beq_self_eq_true _
        · rw [decide_eq_false hr]
          refine beq_false_of_ne fun e => hr ?_
          have : -2147483648 ≤ wrap32 v ∧ wrap32 v ≤ 2147483647 := by unfold wrap32; omega
          omega
      cases hn : num32B v
      all_goals (
        rw [hn] at hw
        go_enter Tryz.func138, Tryz.ntmps138
        go_wp2_with (first
          | (go_at_call 153; ((with_reducible refine (AT.out _).mono ?_); rintro e w1 ⟨rfl, hb1⟩; have HB1 := Lib.hid hb1; clear hb1))
          | (go_at_call 108; ((with_reducible refine (IT.out _ (HE.out.below HB1.out).ten).mono ?_); rintro e w2 ⟨rfl, hb2⟩; have HB2 := Lib.hid (ext_trans HB1.out hb2); clear hb2))
          | (go_at_call 58; ((with_reducible refine (wrap_any v _).mono ?_); rintro e w3 ⟨rfl, hw3⟩; subst hw3)))
        go_ret2
        exact ⟨v, rfl, fun _ => hv.symm, HB2.out⟩)
    · rw [decide_eq_false h1] at hq ⊢
      go_enter Tryz.func138, Tryz.ntmps138
      go_wp2_with (first
        | (go_at_call 153; ((with_reducible refine (AT.out _).mono ?_); rintro e w1 ⟨rfl, hb1⟩; have HB1 := Lib.hid hb1; clear hb1))
        | (go_at_call 108; ((with_reducible refine (IT.out _ (HE.out.below HB1.out).ten).mono ?_); rintro e w2 ⟨rfl, hb2⟩; have HB2 := Lib.hid (ext_trans HB1.out hb2); clear hb2)))
      go_ret2
      exact ⟨v, rfl, fun h => by simp at h, HB2.out⟩
  | _ =>
    have hno : ∀ v, Lib.atoiAll s.data.toList ≠ .ok v := fun v h => by rw [ha] at h; cases h
    have at_ := atoi_bad s hno w he (by omega)
    have hb : numB s.data.toList = false := by
      unfold numB
      rw [ha]
      simp
    rw [hb]
    have AT := Lib.hid at_
    clear at_ hb ha hno he
    go_enter Tryz.func138, Tryz.ntmps138
    go_wp2_with (go_at_call 153; ((with_reducible refine AT.out.mono ?_); rintro e w1 ⟨n, N, rfl, hb1⟩; have HB1 := Lib.hid hb1; clear hb1))
    go_ret2
    exact ⟨n, rfl, fun h => (by cases h), HB1.out⟩
def toldN (p : Int) (ns : List Int) : Bys := permX p ++ ns.flatMap fun n => 32 :: Lib.itoa n
theorem told_eq (k : KeyV) : told k = toldN k.perm [k.base, k.len, k.at_, k.seal_] := by
  unfold told toldN
  simp
theorem permX_len (p : Int) : (permX p).length ≤ 7 := by
  unfold permX
  split
  · next h => exact (permT_len p.toNat (by omega)).1
  · simp
theorem ptext_x (p : Int) (w : World) : Calls Tryz.prog 184 #[.int .i64 p] w fun e w' => ∃ er, e = .returned (.tuple #[.string (ba (permX p)), .int .i64 er]) ∧ Below w.heap.size w w' := by
  by_cases h : 0 ≤ p ∧ p ≤ 127
  · have e : p = ((p.toNat : Nat) : Int) := by omega
    rw [e]
    refine (ptext_some p.toNat (by omega) w).mono ?_
    rintro e w' ⟨rfl, hb⟩
    refine ⟨0, ?_, hb⟩
    have : permX ((p.toNat : Nat) : Int) = permT p.toNat := by unfold permX; rw [if_pos (by omega), Int.toNat_natCast]
    rw [this]
    rfl
  · refine (ptext_none p (by omega) w).mono ?_
    rintro e w' ⟨rfl, hb⟩
    refine ⟨1, ?_, hb⟩
    have : permX p = [] := by unfold permX; rw [if_neg h]
    rw [this]
    rfl
theorem toldN_snoc (p : Int) (ns : List Int) (n : Int) : toldN p (ns ++ [n]) = toldN p ns ++ (32 :: Lib.itoa n) := by
  unfold toldN
  rw [List.flatMap_append]
  simp
theorem toldN_len (p : Int) (ns : List Int) (h : ∀ n ∈ ns, I64 n) : (toldN p ns).length ≤ 7 + 22 * ns.length := by
  have h0 := permX_len p
  unfold toldN
  rw [List.length_append]
  have : ∀ ns : List Int, (∀ n ∈ ns, I64 n) → (ns.flatMap fun n => 32 :: Lib.itoa n).length ≤ 22 * ns.length := by
    intro ns
    induction ns with
    | nil => intro _; simp
    | cons n ns ih =>
      intro h
      have h1 := ih fun m hm => h m (List.mem_cons_of_mem _ hm)
      have h2 := itoa_lenD (h n List.mem_cons_self)
      rw [List.flatMap_cons, List.length_append, List.length_cons, List.length_cons]
      omega
  have := this ns h
  omega
theorem take_nextD {α : Type} {l : List α} {k : Nat} {x : α} (h : l[k]? = some x) : l.take (k + 1) = l.take k ++ [x] := by
  rw [List.take_add_one, h]; rfl
set_option maxHeartbeats 4000000 in
theorem told_any (k : KeyV) (hk : k.wf) (w : World) (he : PEnv w) : Calls Tryz.prog 136 #[k.val] w fun e w' => e = .returned (.string (ba (told k))) ∧ Below w.heap.size w w' := by
  rw [told_eq]
  obtain ⟨p, b, l, a, s⟩ := k
  obtain ⟨ns, hns⟩ : ∃ ns : List Int, [b, l, a, s] = ns := ⟨_, rfl⟩
  have hnl : ns.length = 4 := by rw [← hns]; rfl
  have hni : ∀ n ∈ ns, I64 n := by
    intro n hn
    rw [← hns] at hn
    simp at hn
    rcases hn with rfl | rfl | rfl | rfl
    · exact hk.base
    · exact hk.len
    · exact hk.at_
    · exact hk.seal_
  simp only
  rw [hns]
  have tx := fun W => ptext_x p W
  have HE := Lib.hid he
  have HNI := Lib.hid hni
  have HNS := Lib.hid hns
  have HNL := Lib.hid hnl
  clear he hni hns hnl hk
  show Calls Tryz.prog 136 #[.agg #[.int .i64 p, .int .i64 b, .int .i64 l, .int .i64 a, .int .i64 s]] w _
  go_enter Tryz.func136, Tryz.ntmps136
  go_upto_region 1 with (fail)
  obtain ⟨w1, hw1⟩ : ∃ w1, w1 = w.alloc (.cells #[.int .i64 p, .int .i64 b, .int .i64 l, .int .i64 a, .int .i64 s] 66) := ⟨_, rfl⟩
  rw [← hw1]
  have b1 : Below w.heap.size w w1 := by rw [hw1]; exact ext_alloc (Below.refl _ _) _
  have k1 : Bk w1 w.heap.size 66 #[.int .i64 p, .int .i64 b, .int .i64 l, .int .i64 a, .int .i64 s] := by rw [hw1]; exact bk_new _ _ _
  have HB1 := Lib.hid b1
  have K1 := Lib.hid k1
  clear hw1 b1 k1
  obtain ⟨z0, z1, z2, z3, z4⟩ := cells5D K1.out
  have zL := K1.out.lt
  go_upto_region 2 with (go_at_call 184; ((with_reducible refine (tx _).mono ?_); rintro e w2 ⟨er, rfl, hb2⟩; have HB2 := Lib.hid (ext_trans HB1.out hb2); have K2 := Lib.hid (bk_keep hb2 K1.out); clear hb2))
  clear z0 z1 z2 z3 z4 zL
  obtain ⟨z0, z1, z2, z3, z4⟩ := cells5D K2.out
  have zL := K2.out.lt
  go_upto_region 3 with (fail)
  obtain ⟨g, hg⟩ : ∃ g, w2.heap.size = g := ⟨_, rfl⟩
  obtain ⟨w3, hw3⟩ : ∃ w3, w3 = w2.alloc (.cells #[.int .i64 b, .int .i64 l, .int .i64 a, .int .i64 s] 3) := ⟨_, rfl⟩
  have b3 : Below w2.heap.size w2 w3 := by rw [hw3]; exact ext_alloc (Below.refl _ _) _
  have s3 : Sl w3 (some ⟨g, 0, none⟩) 4 ns := by
    rw [hw3, ← hg, ← HNS.out]
    exact lit_slD _ [b, l, a, s] (by decide : (4 : Nat) ≤ 1000) rfl
  rw [← hw3]
  try rw [hg]
  have HB3 := Lib.hid (ext_trans HB2.out b3)
  have S3 := Lib.hid s3
  clear hw3 b3 s3 hg z0 z1 z2 z3 z4 zL K1 K2 tx
  have h00 : toldN p (ns.take 0) = permX p := by unfold toldN; simp
  go_loopw [3, 23] (fun s3 s23 wr => ∃ k : Nat, k ≤ 4 ∧ s23 = .int .i64 (k : Int) ∧ s3 = .string (ba (toldN p (ns.take k))) ∧ Below w3.heap.size w3 wr) (fun _ i _ => 4 - (intOf i).toNat)
  case atStart => exact ⟨0, by omega, rfl, by rw [h00], Below.refl _ _⟩
  case round =>
    obtain ⟨k, hk, rfl, rfl, hb⟩ := hrel
    have HB := Lib.hid hb
    clear hb h00
    by_cases hlt : k < 4
    · have q1 : (k : Int) < 4 := by omega
      have q0 : (0 : Int) ≤ (k : Int) := by omega
      obtain ⟨n, hgn⟩ : ∃ n, ns[k]? = some n := ⟨_, List.getElem?_eq_getElem (by rw [HNL.out]; exact hlt)⟩
      have hni : I64 n := HNI.out n (List.mem_of_getElem? hgn)
      obtain ⟨ad, had, hbk, hel⟩ := sl_int (S3.out.below HB.out) hlt hgn
      injection had with had
      subst had
      have eA : (⟨g, 0, none⟩ : Addr).add k = ⟨g, k, none⟩ := by unfold Addr.add; simp; try (intro h; exact h.symm)
      rw [eA] at hel hbk
      have hbk2 : g < wr.heap.size := hbk
      have hln := itoa_lenD hni
      have htl := toldN_len p (ns.take k) fun m hm => HNI.out m (List.mem_of_mem_take hm)
      rw [List.length_take] at htl
      have it := fun W (hW : Tab10 W) => itoa_any n hni W hW
      obtain ⟨D, hD⟩ : ∃ D : ByteArray, (⟨(Lib.itoa n).toArray⟩ : ByteArray) = D := ⟨_, rfl⟩
      rw [hD] at it
      obtain ⟨X, hX⟩ : ∃ X, ba (32 :: Lib.itoa n) = X := ⟨_, rfl⟩
      have a1 : Op.stringOp .add ⟨#[32]⟩ D = pure (.string X) := by rw [← hD, ← hX]; exact baD_add [32] (Lib.itoa n) (by simp only [List.length_cons, List.length_nil]; omega)
      have hnx : toldN p (ns.take (k + 1)) = toldN p (ns.take k) ++ (32 :: Lib.itoa n) := by rw [take_nextD hgn, toldN_snoc]
      obtain ⟨U, hU⟩ : ∃ U, ba (toldN p (ns.take k)) = U := ⟨_, rfl⟩
      obtain ⟨V, hV⟩ : ∃ V, ba (toldN p (ns.take (k + 1))) = V := ⟨_, rfl⟩
      have a2 : Op.stringOp .add U X = pure (.string V) := by rw [← hU, ← hV, ← hX, hnx]; exact baD_add _ _ (by simp only [List.length_cons]; omega)
      rw [hU]
      have IT := Lib.hid it
      have HV := Lib.hid hV
      clear it hU hV hnx hX hD htl hln hgn
      go_wp2_with (go_at_call 108; ((with_reducible refine (IT.out _ (HE.out.below (ext_trans HB3.out HB.out)).ten).mono ?_); rintro e w5 ⟨rfl, hb5⟩; have HB5 := Lib.hid (ext_trans HB.out hb5); clear hb5))
      go_roundw
      case rel => exact ⟨k + 1, by omega, by go_num, by rw [HV.out], HB5.out⟩
      case measure => simp [intOf]; omega
    · have q1 : ¬ ((k : Int) < 4) := by omega
      obtain rfl : k = 4 := by omega
      have e4 : ns.take 4 = ns := by rw [← HNL.out, List.take_length]
      rw [e4]
      go_wp2
      go_ret
      exact ⟨rfl, ext_trans HB3.out HB.out⟩
theorem results_row1D {P : Program} {fn : Func} {p : Tmp} {ty : TypeId} (h : fn.results = #[.cell p ty]) (tmps : Array Value) (w : World) (g : Nat) (t : TypeId) (cs : Array Value) (fr : Nat × Nat) (d : TypeDesc)
    (hp : tmps.getD p undef = .pointer (some ⟨g, 0, none⟩)) (hg : w.heap[g]? = some (.cells cs t fr))
    (hu : P.underlying ty = some d) (hd : (match d with | .struct _ | .array _ _ => true | _ => false) = true) (hi : (P.info? ty).map (·.size) = some cs.size) :
    (results fn tmps).run P w = .ok (.agg cs) w := by
  have hp' : tmps[p]?.getD undef = .pointer (some ⟨g, 0, none⟩) := by simpa using hp
  simp [results, h, hp', asAddr, run_loadVar_row w g t ty cs fr d hg hu hd hi]
theorem first_any (w : World) : Calls Tryz.prog 75 #[] w fun e w' => e = .returned firstK.val ∧ Below w.heap.size w w' := by
  go_enter Tryz.func75, Tryz.ntmps75
  go_wp2
  refine bodyPost_ret (results_row1D (g := w.heap.size) (t := 66) (cs := #[.int .i64 127, .int .i64 0, .int .i64 400, .int .i64 0, .int .i64 0]) (fr := (0, 0)) rfl _ _ _ rfl (bk_new _ _ _) Tryz.underlying66 rfl (by kernel_rfl)) rfl ?_
  exact ⟨rfl, ext_alloc (Below.refl _ _) _⟩
/-- All blocks but the desk's are as they were. -/
structure FrD (g : Nat) (w w' : World) : Prop where
  os : w'.os = w.os
  tape : w'.tape = w.tape
  output : w'.output = w.output
  size : w.heap.size ≤ w'.heap.size
  block : ∀ k, k < w.heap.size → k ≠ g → w'.heap[k]? = w.heap[k]?
theorem FrD.of {g : Nat} {w w' : World} (h : Below w.heap.size w w') : FrD g w w' := ⟨h.os, h.tape, h.output, h.size, fun k hk _ => h.block k hk⟩
theorem FrD.trans {g : Nat} {a b c : World} (h : FrD g a b) (k : FrD g b c) : FrD g a c :=
  ⟨k.os.trans h.os, k.tape.trans h.tape, k.output.trans h.output, Nat.le_trans h.size k.size, fun i hi hn => (k.block i (Nat.lt_of_lt_of_le hi h.size) hn).trans (h.block i hi hn)⟩
theorem FrD.below {g B : Nat} {w w' : World} (h : FrD g w w') (hB : B ≤ g) (hs : B ≤ w.heap.size) : Below B w w' := ⟨h.os, h.tape, h.output, h.size, fun k hk => h.block k (by omega) (by omega)⟩
theorem FrD.bk {g : Nat} {w w' : World} (h : FrD g w w') {b : Nat} {T : TypeId} {cs : Array Value} (hb : Bk w b T cs) (hn : b ≠ g) : Bk w' b T cs := (h.block b hb.lt hn).trans hb
theorem FrD.sl {α : Type} [El α] {g : Nat} {w w' : World} {ao : Option Addr} {n : Nat} {xs : List α} (h : FrD g w w') (hs : Sl w ao n xs) (hn : ∀ a, ao = some a → a.block ≠ g) (hl : ∀ a, ao = some a → a.block < w.heap.size) : Sl w' ao n xs :=
  hs.keep h.size fun a ha => h.block _ (hl a ha) (hn a ha)
theorem setRow_otherD (w : World) (g : Nat) (ds : Array Value) {k : Nat} (h : k ≠ g) : (w.setRow g ds).heap[k]? = w.heap[k]? := by
  unfold World.setRow
  simp only [Array.getElem?_modify]
  rw [if_neg (by omega)]
theorem bk_setRowD {w : World} {g : Nat} {T : TypeId} {cs : Array Value} (h : Bk w g T cs) (ds : Array Value) : Bk (w.setRow g ds) g T ds := setRow_heap w g cs ds T (0, 0) h
theorem FrD.setRow {g : Nat} (w : World) (cs : Array Value) : FrD g w (w.setRow g cs) :=
  ⟨rfl, rfl, rfl, by simp [World.setRow], fun k hk hn => setRow_otherD w g cs hn⟩
def deskC (k : KeyV) : Array Value := #[.int .i64 k.perm, .int .i64 k.base, .int .i64 k.len, .int .i64 k.at_, .int .i64 k.seal_]
/-- What a function of a desk leaves: its answer, its key. -/
def DeskPost (g : Nat) (w : World) (r : DeskR) (e : Ending) (w' : World) : Prop :=
  ∃ o, e = .returned (.tuple #[.string o, .int .i64 r.er]) ∧ (r.er = 0 → o = ba r.out) ∧ Bk w' g 153 (deskC r.k) ∧ FrD g w w'
theorem keep_any (g : Nat) (k0 k : KeyV) (er : Int) (hk : k.wf) (w : World) (he : PEnv w) (hg : Bk w g 153 (deskC k0)) (henv : ∀ W, FrD g w W → PEnv W) :
    Calls Tryz.prog 137 #[.pointer (some ⟨g, 0, none⟩), k.val, .int .i64 er] w (DeskPost g w (keepF k0 (k, er))) := by
  obtain ⟨p, b, l, a, s⟩ := k
  obtain ⟨w1, hw1⟩ : ∃ w1, w1 = w.alloc (.cells #[.int .i64 p, .int .i64 b, .int .i64 l, .int .i64 a, .int .i64 s] 66) := ⟨_, rfl⟩
  have b1 : Below w.heap.size w w1 := by rw [hw1]; exact ext_alloc (Below.refl _ _) _
  have k1 : Bk w1 w.heap.size 66 #[.int .i64 p, .int .i64 b, .int .i64 l, .int .i64 a, .int .i64 s] := by rw [hw1]; exact bk_new _ _ _
  have g1 := bk_keep b1 hg
  have HW1 := Lib.hid hw1
  have HB1 := Lib.hid b1
  have K1 := Lib.hid k1
  have G1 := Lib.hid g1
  have HEN := Lib.hid henv
  have HNE := Lib.hid (show w.heap.size ≠ g by have := hg.lt; omega)
  clear hw1 b1 k1 g1 hg henv
  show Calls Tryz.prog 137 #[.pointer (some ⟨g, 0, none⟩), .agg #[.int .i64 p, .int .i64 b, .int .i64 l, .int .i64 a, .int .i64 s], .int .i64 er] w _
  unfold keepF
  by_cases h0 : er = 0
  · subst h0
    simp only [if_true]
    go_enter Tryz.func137, Tryz.ntmps137
    go_upto_region 1 with (fail)
    rw [← HW1.out]
    obtain ⟨z0, z1, z2, z3, z4⟩ := cells5D K1.out
    have zL := K1.out.lt
    have hgl := G1.out.lt
    have hne : w.heap.size ≠ g := HNE.out
    obtain ⟨w2, hw2⟩ : ∃ w2, w2 = w1.setRow g #[.int .i64 p, .int .i64 b, .int .i64 l, .int .i64 a, .int .i64 s] := ⟨_, rfl⟩
    have g2 : Bk w2 g 153 (deskC ⟨p, b, l, a, s⟩) := by rw [hw2]; exact bk_setRowD G1.out _
    have f2 : FrD g w1 w2 := by rw [hw2]; exact FrD.setRow _ _
    have k2 := f2.bk K1.out hne
    have f3 : FrD g w w2 := (FrD.of HB1.out).trans f2
    have td : Calls Tryz.prog 136 #[.agg #[.int .i64 p, .int .i64 b, .int .i64 l, .int .i64 a, .int .i64 s]] w2 _ := told_any ⟨p, b, l, a, s⟩ hk w2 (HEN.out _ f3)
    have G2 := Lib.hid g2
    have F3 := Lib.hid f3
    have K2 := Lib.hid k2
    have TD := Lib.hid td
    have HW2 := Lib.hid hw2
    clear hw2 g2 f2 k2 f3 td
    go_wp2_with (first
      | (refine wpList_store_rowTo rfl 66 (.tmp 14) (.tmp 12) rfl rfl g #[.int .i64 p, .int .i64 b, .int .i64 l, .int .i64 a, .int .i64 s] rfl rfl 153 (deskC k0) G1.out (by kernel_rfl) rfl (by kernel_rfl) ?_; rw [← HW2.out]; clear z0 z1 z2 z3 z4 zL; obtain ⟨z0, z1, z2, z3, z4⟩ := cells5D K2.out; have zL := K2.out.lt)
      | (go_at_call 136; ((with_reducible refine TD.out.mono ?_); rintro e w4 ⟨rfl, hb4⟩; have HB4 := Lib.hid hb4; clear hb4)))
    go_ret2
    exact ⟨_, rfl, fun _ => rfl, bk_keep HB4.out G2.out, F3.out.trans (FrD.of HB4.out)⟩
  · have q1 : (er != 0) = true := by simpa using h0
    have q2 : (er == 0) = false := by simpa using h0
    simp only [if_neg h0]
    go_enter Tryz.func137, Tryz.ntmps137
    go_upto_region 1 with (fail)
    rw [← HW1.out]
    go_wp2
    go_ret2
    exact ⟨_, rfl, fun h => absurd h h0, G1.out, FrD.of HB1.out⟩
end Go.Proofs.YtpjhjefjbkjhkaaGreatDoor
