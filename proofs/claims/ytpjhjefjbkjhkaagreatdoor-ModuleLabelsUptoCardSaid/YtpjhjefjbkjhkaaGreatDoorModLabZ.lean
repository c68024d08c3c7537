import Derived.Test.YtpjhjefjbkjhkaaGreatDoorDigitsZ
import Derived.Test.YtpjhjefjbkjhkaaGreatDoorEqLabZ
import Derived.Test.YtpjhjefjbkjhkaaGreatDoorJumpWordsZ
import Derived.Test.YtpjhjefjbkjhkaaGreatDoorLiftBulkZ
import Derived.Test.YtpjhjefjbkjhkaaGreatDoorMadeZ
import Derived.Test.YtpjhjefjbkjhkaaGreatDoorModLabMathZ
import Derived.Test.YtpjhjefjbkjhkaaGreatDoorRefNameZ
/- A module made from a program has its cells and exports its labels. -/
namespace Go.Proofs.YtpjhjefjbkjhkaaGreatDoor
open Go Go.RowKit Go.Shelf
set_option linter.unusedVariables false
set_option linter.unusedSimpArgs false
theorem nm_len {names : List ByteArray} {i : Nat} {s : ByteArray} (h : s ∈ nmAt names i) : s.data.toList.length ≤ 12 := by
  have := ((isName_iff s).1 (nmAt_name h)).2.1
  rwa [Array.length_toList]
theorem block_len (names : List ByteArray) (i : Nat) {n : Int} (hn : I64 n) : (flatM (blockM names i n)).length ≤ 41 := by
  have h1 : (flatM [wordN n]).length ≤ 27 := by
    have := itoa32_len hn
    unfold flatM wordN
    simp
    have : wordP.length = 5 := rfl
    omega
  unfold blockM
  rw [flatM_app, List.length_append]
  cases hm : nmAt names i with
  | nil => simp [flatM] at h1 ⊢; omega
  | cons s t =>
    have ht : t = [] := by
      unfold nmAt at hm
      split at hm
      · split at hm
        · injection hm with _ e; exact e.symm
        · cases hm
      · cases hm
    have := nm_len (names := names) (i := i) (s := s) (by rw [hm]; exact List.mem_cons_self)
    subst ht
    have h2 : (flatM ([s].map fun s => s.data.toList ++ [58])).length ≤ 14 := by
      unfold flatM
      simp
      rw [Array.length_toList] at this
      first | exact this | omega
    omega
theorem linesM_len (names : List ByteArray) : ∀ (l : List Int) (i : Nat), (∀ n ∈ l, I64 n) → (flatM (linesM names i l)).length ≤ 41 * l.length
  | [], _, _ => by simp [linesM, flatM]
  | n :: l, i, h => by
    rw [linesM, flatM_app, List.length_append, List.length_cons]
    have h1 := block_len names i (h n List.mem_cons_self)
    have h2 := linesM_len names l (i + 1) fun m hm => h m (List.mem_cons_of_mem _ hm)
    omega
theorem labels_wf (names : List ByteArray) : ∀ (l : List Int) (i : Nat), i + l.length ≤ 4000000 → ∀ x ∈ labelsM names i l, x.wf
  | [], _, _, x, hx => by cases hx
  | n :: l, i, h, x, hx => by
    rw [labelsM] at hx
    rcases List.mem_append.1 hx with h1 | h1
    · obtain ⟨s, hs, rfl⟩ := List.mem_map.1 h1
      have := nm_len hs
      rw [Array.length_toList] at this
      rw [List.length_cons] at h
      exact ⟨by show s.size ≤ _; have : s.size = s.data.size := rfl; omega, by constructor <;> (simp only; omega)⟩
    · exact labels_wf names l (i + 1) (by rw [List.length_cons] at h; omega) x h1
theorem labels_len (names : List ByteArray) : ∀ (l : List Int) (i : Nat), (labelsM names i l).length ≤ l.length
  | [], _ => Nat.le_refl _
  | n :: l, i => by
    rw [labelsM, List.length_append, List.length_map, List.length_cons]
    have h1 := labels_len names l (i + 1)
    have h2 : (nmAt names i).length ≤ 1 := by
      unfold nmAt
      split
      · split <;> simp
      · simp
    omega
theorem baM_add (x y : List UInt8) (h : x.length + y.length ≤ 1000000000) : Op.stringOp .add (ba x) (ba y) = pure (.string (ba (x ++ y))) := by
  have e : ba x ++ ba y = ba (x ++ y) := ByteArray.ext (by simp [ba])
  rw [← e]
  exact str_add _ _ (by have h1 : (ba x).size = x.length := ba_len x; have h2 : (ba y).size = y.length := ba_len y; omega)
theorem take_next {α : Type} {l : List α} {k : Nat} {x : α} (h : l[k]? = some x) : l.take (k + 1) = l.take k ++ [x] := by
  rw [List.take_add_one, h]; rfl
def TextAt (names : List ByteArray) (code : List Int) (k : Nat) : List UInt8 := flatM (linesM names 0 (code.take k))
theorem textAt_next {names : List ByteArray} {code : List Int} {k : Nat} {n : Int} (h : code[k]? = some n) : TextAt names code (k + 1) = (TextAt names code k ++ flatM ((nmAt names k).map fun s => s.data.toList ++ [58])) ++ (wordN n ++ [10]) := by
  have hk : k < code.length := (List.getElem?_eq_some_iff.1 h).1
  unfold TextAt
  rw [take_next h, linesM_snoc, flatM_app, List.length_take, Nat.min_eq_left (Nat.le_of_lt hk), Nat.zero_add]
  unfold blockM
  rw [flatM_app, ← List.append_assoc]
  congr 1
  unfold flatM
  simp
theorem labelsAt_next {names : List ByteArray} {code : List Int} {k : Nat} {n : Int} (h : code[k]? = some n) : labelsM names 0 (code.take (k + 1)) = labelsM names 0 (code.take k) ++ (nmAt names k).map (fun s => (⟨s, (k : Int)⟩ : NamV)) := by
  have hk : k < code.length := (List.getElem?_eq_some_iff.1 h).1
  rw [take_next h, labelsM_snoc, List.length_take, Nat.min_eq_left (Nat.le_of_lt hk), Nat.zero_add]
set_option maxHeartbeats 8000000 in
set_option maxRecDepth 100000 in
theorem moduleLabels_walk (xc xd : SlV Int) (xn : SlV ByteArray) (w : World) (hc : xc.ok I64 w) (zc : xc.n ≤ 1048576) (hd : xd.ok I64 w) (zd : xd.n ≤ 1048576) (hn : xn.ok (fun s => s.size ≤ maxLen) w) (zn : xn.n ≤ 1048576) (he : PEnv w) :
    Calls Tryz.prog 6 #[xc.val, xd.val, xn.val] w fun e w' => e = .returned (.bool true) ∧ Below w.heap.size w w' := by
  obtain ⟨ca, cn, cc, code⟩ := xc
  obtain ⟨da, dn, dc, data⟩ := xd
  obtain ⟨na, nn, nc, names⟩ := xn
  obtain ⟨c1, c2, c3⟩ := hc
  obtain ⟨d1, d2, d3⟩ := hd
  obtain ⟨n1, n2, n3⟩ := hn
  simp only at c1 c2 c3 d1 d2 d3 n1 n2 n3 zc zd zn
  have lc : code.length = cn := c1.len
  have ln : names.length = nn := n1.len
  have HC := Lib.hid c1
  have HCI := Lib.hid c2
  have HD := Lib.hid d1
  have HDI := Lib.hid d2
  have HN := Lib.hid n1
  have HE := Lib.hid he
  have HLC := Lib.hid lc
  have HLN := Lib.hid ln
  obtain ⟨i0, i1, iz0, iz1, iz2⟩ := info_parts info_labelL
  clear c1 c2 d1 d2 n1 n2 he lc ln c3 d3 n3
  show Calls Tryz.prog 6 #[.slice ca cn cc, .slice da dn dc, .slice na nn nc] w _
  go_enter Tryz.func6, Tryz.ntmps6
  go_wp2_with (go_at_call 31; ((with_reducible refine (made_any _ HE.out).mono ?_); rintro e w1 ⟨rfl, hb1⟩; have HB1 := Lib.hid hb1; clear hb1))
  go_loopw [7, 8, 18] (fun s7 s8 s18 wr => ∃ k : Nat, k ≤ cn ∧ s18 = .int .i64 (k : Int) ∧ s7 = .string (ba (TextAt names code k)) ∧ Own wr w.heap.size 83 s8 (labelsM names 0 (code.take k)) ∧ Below w.heap.size w wr) (fun _ _ i _ => cn - (intOf i).toNat)
  case atStart => exact ⟨0, Nat.zero_le _, rfl, rfl, by rw [List.take_zero]; exact Own.nil _ _ _, HB1.out⟩
  case round =>
    obtain ⟨k, hk, rfl, rfl, ho, hb⟩ := hrel
    have HB := Lib.hid hb
    have HO := Lib.hid ho
    clear hb ho
    by_cases hlt : k < cn
    · have q1 : (k : Int) < (cn : Int) := by omega
      have q0 : (0 : Int) ≤ (k : Int) := by omega
      obtain ⟨n, hgn⟩ : ∃ n, code[k]? = some n := ⟨_, List.getElem?_eq_getElem (by rw [HLC.out]; exact hlt)⟩
      have hni : I64 n := HCI.out n (List.mem_of_getElem? hgn)
      obtain ⟨cad, rfl, cbk, cel⟩ := sl_int (HC.out.below HB.out) hlt hgn
      have hil := itoa32_len hni
      have htl : (TextAt names code k).length ≤ 41 * 1048576 := by
        have h1 := linesM_len names (code.take k) 0 fun m hm => HCI.out m (List.mem_of_mem_take hm)
        rw [List.length_take] at h1
        unfold TextAt
        have := HLC.out
        omega
      have hll := labels_len names (code.take k) 0
      rw [List.length_take] at hll
      have dg := fun W => digits_any n hni W
      have hnx := textAt_next (names := names) hgn
      have hlx := labelsAt_next (names := names) hgn
      obtain ⟨D, hD⟩ : ∃ D : ByteArray, (⟨(Lib.itoa n).toArray⟩ : ByteArray) = D := ⟨_, rfl⟩
      have hDb : D = ba (Lib.itoa n) := hD.symm
      rw [hD] at dg
      obtain ⟨X1, hX1⟩ : ∃ X, ba (wordP ++ Lib.itoa n) = X := ⟨_, rfl⟩
      obtain ⟨X2, hX2⟩ : ∃ X, ba (wordP ++ Lib.itoa n ++ [10]) = X := ⟨_, rfl⟩
      have a1 : Op.stringOp .add ⟨#[119, 111, 114, 100, 32]⟩ D = pure (.string X1) := by rw [hDb, ← hX1]; exact baM_add wordP (Lib.itoa n) (by simp [wordP]; omega)
      have a2 : Op.stringOp .add X1 ⟨#[10]⟩ = pure (.string X2) := by rw [← hX1, ← hX2]; exact baM_add (wordP ++ Lib.itoa n) [10] (by simp [wordP]; omega)
      have hwn : (wordP ++ Lib.itoa n ++ [10]).length ≤ 27 := by simp [wordP]; omega
      have hjoin : ∀ x : List UInt8, x.length ≤ 100000000 → Op.stringOp .add (ba x) X2 = pure (.string (ba (x ++ (wordN n ++ [10])))) := fun x hx => by
        rw [← hX2]
        exact baM_add x (wordP ++ Lib.itoa n ++ [10]) (by omega)
      have DG := Lib.hid dg
      have HJ := Lib.hid hjoin
      have HNX := Lib.hid hnx
      have HLX := Lib.hid hlx
      have HLL := Lib.hid hll
      have HTL := Lib.hid htl
      clear dg hjoin hnx hlx hll htl hD hDb hX1 hX2 hwn hil hgn
      by_cases hkn : k < nn
      · have r1 : (k : Int) < (nn : Int) := by omega
        obtain ⟨s, hgs⟩ : ∃ s, names[k]? = some s := ⟨_, List.getElem?_eq_getElem (by rw [HLN.out]; exact hkn)⟩
        obtain ⟨nad, rfl, nbk, nel⟩ := sl_str (HN.out.below HB.out) hkn hgs
        have rn := fun W (hW : PEnv W) => rname_any s W hW
        cases hb : isNameB s with
        | true =>
          rw [hb] at rn
          have hnm : nmAt names k = [s] := by unfold nmAt; rw [hgs]; simp only; rw [if_pos hb]
          have hsl := nm_len (names := names) (i := k) (s := s) (by rw [hnm]; exact List.mem_cons_self)
          obtain ⟨T1, hT1⟩ : ∃ T, ba (s.data.toList ++ [58, 10]) = T := ⟨_, rfl⟩
          have b1 : Op.stringOp .add s ⟨#[58, 10]⟩ = pure (.string T1) := by
            rw [← hT1]
            conv => lhs; rw [← ba_back s]
            exact baM_add s.data.toList [58, 10] (by simp only [List.length_cons, List.length_nil]; omega)
          obtain ⟨T2, hT2⟩ : ∃ T, ba (TextAt names code k ++ (s.data.toList ++ [58, 10])) = T := ⟨_, rfl⟩
          have b2 : Op.stringOp .add (ba (TextAt names code k)) T1 = pure (.string T2) := by
            rw [← hT1, ← hT2]
            exact baM_add _ _ (by have := HTL.out; simp only [List.length_append, List.length_cons, List.length_nil]; omega)
          have hfl : flatM ((nmAt names k).map fun s => s.data.toList ++ [58]) = s.data.toList ++ [58, 10] := by rw [hnm]; unfold flatM; simp
          have b3 : Op.stringOp .add T2 X2 = pure (.string (ba (TextAt names code (k + 1)))) := by
            rw [← hT2, HNX.out, hfl]
            exact HJ.out _ (by have := HTL.out; simp only [List.length_append, List.length_cons, List.length_nil]; omega)
          obtain ⟨U, hU⟩ : ∃ U, ba (TextAt names code k) = U := ⟨_, rfl⟩
          obtain ⟨V, hV⟩ : ∃ V, ba (TextAt names code (k + 1)) = V := ⟨_, rfl⟩
          rw [hU] at b2 ⊢
          rw [hV] at b3
          have HV := Lib.hid hV
          obtain ⟨N, hN2⟩ : ∃ N, (labelsM names 0 (code.take k)).length = N := ⟨_, rfl⟩
          have hNl : N ≤ 1048576 := by have := HLL.out; omega
          obtain ⟨la, lN, lcap, rfl⟩ := own_shape HO.out
          have RN := Lib.hid rn
          have HNM := Lib.hid hnm
          clear hT1 hT2 hfl hU hV rn hnm hsl hgs
          have g1 : (labelsM names 0 (code.take k)).length + 1 ≤ maxLen := by rw [hN2]; unfold maxLen; omega
          have g2 : ((labelsM names 0 (code.take k)).length + 1) * 24 ≤ 140737488355328 := by rw [hN2]; omega
          have g3 : w.heap.size ≤ (wr.alloc (.cells #[.string s, .int .i64 (k : Int)] 83)).heap.size := by rw [World.size_alloc]; have := HB.out.size; omega
          go_wp2_with (first
            | (go_at_call 32; ((with_reducible refine (RN.out _ (HE.out.below HB.out)).mono ?_); rintro e w' ⟨rfl, hw'⟩; subst w'))
            | (at_builtin; (refine wpList_append_sl rfl (.tmp 41) (.tmp 48) 25 rfl w.heap.size 83 i0 _ 24 Tryz.underlying25 i1 iz0 iz1 iz2 rfl _ (labelsM names 0 (code.take k)) rfl (HO.out.alloc _) _ _ _ [(⟨s, (k : Int)⟩ : NamV)] rfl (lit_sl1 _ _ rfl) g1 g2 g3 ?_); intro v1 w4 hown1 hgr1 hat1; have HO4 := Lib.hid hown1; have HB4 := Lib.hid (show Below w.heap.size w w4 from (ext_alloc HB.out _).grown hgr1 (by rw [World.size_alloc]; have := HB.out.size; omega) (fun j e => (own_span HO.out e).1)); clear hown1 hgr1 hat1)
            | (go_at_call 13; ((with_reducible refine (DG.out _).mono ?_); rintro e w5 ⟨rfl, hb5⟩; have HO5 := Lib.hid (HO4.out.below hb5); have HB5 := Lib.hid (ext_trans HB4.out hb5); clear hb5)))
          go_roundw
          case rel => exact ⟨k + 1, by omega, by go_num, by rw [HV.out], by rw [HLX.out, HNM.out]; exact HO5.out, HB5.out⟩
          case measure => simp [intOf]; omega
        | false =>
          rw [hb] at rn
          have hnm : nmAt names k = [] := by unfold nmAt; rw [hgs]; simp only; rw [if_neg (by rw [hb]; decide)]
          have hfl : flatM ((nmAt names k).map fun s => s.data.toList ++ [58]) = [] := by rw [hnm]; rfl
          have b3 : Op.stringOp .add (ba (TextAt names code k)) X2 = pure (.string (ba (TextAt names code (k + 1)))) := by
            rw [HNX.out, hfl, List.append_nil]
            exact HJ.out _ (by have := HTL.out; omega)
          obtain ⟨U, hU⟩ : ∃ U, ba (TextAt names code k) = U := ⟨_, rfl⟩
          obtain ⟨V, hV⟩ : ∃ V, ba (TextAt names code (k + 1)) = V := ⟨_, rfl⟩
          rw [hU] at b3 ⊢
          rw [hV] at b3
          have HV := Lib.hid hV
          have RN := Lib.hid rn
          have HNM := Lib.hid hnm
          clear hfl hU hV rn hnm hgs
          go_wp2_with (first
            | (go_at_call 32; ((with_reducible refine (RN.out _ (HE.out.below HB.out)).mono ?_); rintro e w' ⟨rfl, hw'⟩; subst w'))
            | (go_at_call 13; ((with_reducible refine (DG.out _).mono ?_); rintro e w5 ⟨rfl, hb5⟩; have HO5 := Lib.hid (HO.out.below hb5); have HB5 := Lib.hid (ext_trans HB.out hb5); clear hb5)))
          go_roundw
          case rel => exact ⟨k + 1, by omega, by go_num, by rw [HV.out], by rw [HLX.out, HNM.out, List.map_nil, List.append_nil]; exact HO5.out, HB5.out⟩
          case measure => simp [intOf]; omega
      · have r1 : ¬ ((k : Int) < (nn : Int)) := by omega
        have hnm : nmAt names k = [] := by
          unfold nmAt
          rw [List.getElem?_eq_none (by rw [HLN.out]; omega)]
        have hfl : flatM ((nmAt names k).map fun s => s.data.toList ++ [58]) = [] := by rw [hnm]; rfl
        have b3 : Op.stringOp .add (ba (TextAt names code k)) X2 = pure (.string (ba (TextAt names code (k + 1)))) := by
          rw [HNX.out, hfl, List.append_nil]
          exact HJ.out _ (by have := HTL.out; omega)
        obtain ⟨U, hU⟩ : ∃ U, ba (TextAt names code k) = U := ⟨_, rfl⟩
        obtain ⟨V, hV⟩ : ∃ V, ba (TextAt names code (k + 1)) = V := ⟨_, rfl⟩
        rw [hU] at b3 ⊢
        rw [hV] at b3
        have HV := Lib.hid hV
        have HNM := Lib.hid hnm
        clear hfl hU hV hnm
        go_wp2_with (go_at_call 13; ((with_reducible refine (DG.out _).mono ?_); rintro e w5 ⟨rfl, hb5⟩; have HO5 := Lib.hid (HO.out.below hb5); have HB5 := Lib.hid (ext_trans HB.out hb5); clear hb5))
        go_roundw
        case rel => exact ⟨k + 1, by omega, by go_num, by rw [HV.out], by rw [HLX.out, HNM.out, List.map_nil, List.append_nil]; exact HO5.out, HB5.out⟩
        case measure => simp [intOf]; omega
    · have q1 : ¬ ((k : Int) < (cn : Int)) := by omega
      obtain rfl : k = cn := by omega
      have htk : code.take k = code := by rw [← HLC.out, List.take_length]
      have hT : TextAt names code k = flatM (linesM names 0 code) := by unfold TextAt; rw [htk]
      rw [htk] at HO
      rw [hT]
      obtain ⟨S, hS⟩ : ∃ S, ba (flatM (linesM names 0 code)) = S := ⟨_, rfl⟩
      have hSd : S.data.toList = flatM (linesM names 0 code) := by rw [← hS]; rfl
      have hsz : S.size ≤ 67108864 := by
        have h1 := linesM_len names code 0 HCI.out
        have h2 : S.size = S.data.toList.length := by rw [Array.length_toList]; rfl
        rw [h2, hSd]
        have := HLC.out
        omega
      obtain ⟨X, hX⟩ : ∃ X, readF S.data.toList = X := ⟨_, rfl⟩
      have hrd : X.er = 0 → X.code = code ∧ X.labels = labelsM names 0 code := by
        rw [← hX, hSd]
        exact readM HCI.out
      have hxi : ∀ y ∈ X.code, I64 y := by rw [← hX]; exact read_i64 _
      have hxl : ∀ y ∈ X.labels, y.wf := by
        by_cases h0 : X.er = 0
        · rw [(hrd h0).2]
          exact labels_wf names code 0 (by have := HLC.out; omega)
        · have := (read_bad (text := S.data.toList) (by rw [hX]; exact h0)).2.1
          rw [hX] at this
          rw [this]
          intro y hy; cases hy
      have mk := make_any S da dn dc data wr (HE.out.below HB.out) hsz (HD.out.below HB.out) (by omega) HDI.out X hX hxi hxl
      have mk2 : Calls Tryz.prog 15 #[.string S, .slice da dn dc, .slice none 0 0] wr fun e w' => ∃ (r : ModR) (lnE er : Int), e = .returned (.tuple #[.agg #[.slice r.code.a r.code.n r.code.c, .slice r.data.a r.data.n r.data.c, .slice r.ex.a r.ex.n r.ex.c, .slice r.im.a r.im.n r.im.c], .int .i64 lnE, .int .i64 er]) ∧ ((er ≠ 0 ∧ r.code.n = 0) ∨ (er = 0 ∧ r.has w' ⟨X.code, data, X.labels, []⟩ ∧ r.im = ⟨none, 0, 0⟩ ∧ X.er = 0 ∧ ModOk isNameB ⟨X.code, data, X.labels, []⟩)) ∧ Below wr.heap.size wr w' := by
        refine mk.mono ?_
        rintro e w' ⟨h, hb⟩
        rcases h with ⟨⟨lnE, er, hne, rfl⟩, _⟩ | ⟨r, rfl, hr, him, he0, hok⟩
        · exact ⟨⟨⟨none, 0, 0⟩, ⟨none, 0, 0⟩, ⟨none, 0, 0⟩, ⟨none, 0, 0⟩⟩, lnE, er, rfl, .inl ⟨hne, rfl⟩, hb⟩
        · exact ⟨r, 0, 0, rfl, .inr ⟨rfl, hr, him, he0, hok⟩, hb⟩
      have MK := Lib.hid mk2
      have HRD := Lib.hid hrd
      rw [hS]
      clear mk mk2 hrd hxi hxl hX hsz hSd hS hT htk
      obtain ⟨la, lcap, hle, hls, hlb⟩ := HO.out.sl
      obtain ⟨N, hN2⟩ : ∃ N, (labelsM names 0 code).length = N := ⟨_, rfl⟩
      rw [hN2] at hle hls
      subst hle
      have LS := Lib.hid hls
      have HNL := Lib.hid hN2
      clear hls hlb hN2 HO
      have HLCC := HLC.out
      have HLDC := HD.out.len
      go_upto_region 14 with (go_at_call 15; ((with_reducible refine MK.out.mono ?_); rintro e w5 ⟨r, lnE, er, rfl, hq, hb5⟩; have HQ := Lib.hid hq; have HB5 := Lib.hid hb5; clear hb5 hq))
      obtain ⟨⟨ra, rn, rc⟩, ⟨sa, sn, sc⟩, ⟨ta, tn, tc⟩, ⟨ia, in_, ic⟩⟩ := r
      obtain ⟨g, hg⟩ : ∃ g, w5.heap.size = g := ⟨_, rfl⟩
      obtain ⟨w6, hw6⟩ : ∃ w6, w6 = w5.alloc (.cells #[.slice ra rn rc, .slice sa sn sc, .slice ta tn tc, .slice ia in_ ic] 28) := ⟨_, rfl⟩
      simp only
      rw [← hw6]
      try rw [hg]
      have m6 : Bk w6 g 28 #[.slice ra rn rc, .slice sa sn sc, .slice ta tn tc, .slice ia in_ ic] := by rw [hw6, ← hg]; exact bk_new _ _ _
      have b6 : Below w5.heap.size w5 w6 := by rw [hw6]; exact ext_alloc (Below.refl _ _) _
      have HB6 := Lib.hid (ext_trans (ext_trans HB.out HB5.out) b6)
      have hq := HQ.out
      simp only at hq
      clear hw6 hg HQ
      rcases hq with ⟨hne, hr0⟩ | ⟨rfl, hr, him, he0, hok⟩
      · have p1 : (er != 0) = true := by simpa using hne
        have p2 : (er == 0) = false := by simpa using hne
        subst hr0
        obtain ⟨z0, z1, z2, z3⟩ := cellsM4 m6
        have zL := m6.lt
        clear HRD MK m6
        go_wp2
        go_ret
        exact ⟨rfl, HB6.out⟩
      · obtain ⟨hx1, hx2⟩ := HRD.out he0
        obtain ⟨xc, xl, xln, xer⟩ := X
        simp only at hx1 hx2 he0 hr hok
        subst hx1 hx2 he0
        have e1 : ia = none ∧ in_ = 0 ∧ ic = 0 := by injection him with a b c; exact ⟨a, b, c⟩
        obtain ⟨rfl, rfl, rfl⟩ := e1
        have l1 : rn = k := by have h1 := hr.code.len; simp only at h1; omega
        have l2 : sn = dn := by have h1 := hr.data.len; simp only at h1; omega
        have l3 : tn = N := by have h1 := hr.ex.len; have h2 := HNL.out; simp only at h1; omega
        have LS5 := LS.out.below HB5.out
        subst l1 l2 l3
        have HC6 := Lib.hid ((HC.out.below (ext_trans HB.out HB5.out)).below b6)
        have HD6 := Lib.hid ((HD.out.below (ext_trans HB.out HB5.out)).below b6)
        have LS6 := Lib.hid (LS5.below b6)
        have HR6 := Lib.hid (hr.below b6)
        have M6 := Lib.hid m6
        have HOK := Lib.hid hok
        clear m6 b6 hok hr LS5 HRD MK LS him
        obtain ⟨z0, z1, z2, z3⟩ := cellsM4 M6.out
        have zL := M6.out.lt
        have FW := Lib.hid (fun W (h : Below w6.heap.size w6 W) => cellsM4 (bk_keep h M6.out))
        go_wp2_with (first
          | (go_at_call 19; ((with_reducible refine (eqs_Int ra _ rn rc cc xc _ HR6.out.code HC6.out).mono ?_); rintro e w7 ⟨rfl, hb7⟩; obtain ⟨y0, y1, y2, y3⟩ := FW.out _ hb7; have yL := Nat.lt_of_lt_of_le zL hb7.size; have HB7 := Lib.hid hb7; clear hb7))
          | (go_at_call 19; ((with_reducible refine (eqs_Int sa da sn sc dc data _ (HR6.out.data.below HB7.out) (HD6.out.below HB7.out)).mono ?_); rintro e w8 ⟨rfl, hb8⟩; obtain ⟨x0, x1, x2, x3⟩ := FW.out _ (ext_trans HB7.out hb8); have xL := Nat.lt_of_lt_of_le yL hb8.size; have HB8 := Lib.hid (ext_trans HB7.out hb8); clear hb8))
          | (go_at_call 33; ((with_reducible refine (eqs_Label ta _ tn tc lcap _ _ (HR6.out.ex.below HB8.out) (LS6.out.below HB8.out)).mono ?_); rintro e w9 ⟨rfl, hb9⟩; obtain ⟨v0, v1, v2, v3⟩ := FW.out _ (ext_trans HB8.out hb9); have vL := Nat.lt_of_lt_of_le xL hb9.size; have HB9 := Lib.hid (ext_trans HB8.out hb9); clear hb9))
          | (go_at_call 34; ((with_reducible refine (mod_check _ _ _ (HR6.out.below HB9.out)).mono ?_); rintro e w10 ⟨er, rfl, her, hb10⟩; have hz := her.2 HOK.out; subst hz; have HB10 := Lib.hid (ext_trans HB9.out hb10); clear hb10 her)))
        go_ret
        exact ⟨rfl, ext_trans HB6.out HB10.out⟩
end Go.Proofs.YtpjhjefjbkjhkaaGreatDoor
