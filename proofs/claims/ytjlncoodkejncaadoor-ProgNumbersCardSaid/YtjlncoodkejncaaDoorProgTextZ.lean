import Derived.Test.YtjlncoodkejncaaDoorInstOneWalkZ
import Derived.Test.YtjlncoodkejncaaDoorProgReadZ
/- prog.Text. -/
namespace Go.Proofs.YtjlncoodkejncaaDoor
open El (cl)
open Go Go.RowKit Go.Shelf
set_option linter.unusedVariables false
set_option linter.unusedSimpArgs false
instance elStr : El ByteArray where
  k := 1
  cl x := [.string x]
  z := ByteArray.empty
  len _ := rfl
  one _ := by intro u hu; simp at hu; subst hu; rfl
  pos := by decide
theorem sl_str {w : World} {ao : Option Addr} {n : Nat} {ks : List ByteArray} (h : Sl w ao n ks) {i : Nat} (hi : i < n) {x : ByteArray} (hx : ks[i]? = some x) : ∃ a, ao = some a ∧ (a.add i).block < w.heap.size ∧ w.cell? (a.add i) = some (.string x) := by
  obtain ⟨a, y, e, hb, hy, hc⟩ := h.at hi
  obtain rfl : y = x := by rw [hx] at hy; injection hy with hy; exact hy.symm
  refine ⟨a, e, by rw [el_block]; exact hb, ?_⟩
  have := hc 0 _ rfl
  have e1 : i * El.k ByteArray + 0 = i := by show i * 1 + 0 = i; omega
  rwa [e1] at this
theorem grow_lit {α : Type} [El α] {w W W' : World} {o : Obj} {T : TypeId} {v : Value} {xs : List α} (hb : Below w.heap.size w W) (ho : Own (W.alloc o) w.heap.size T v xs) (hg : (W.alloc o).grownBy W' v.ownBlock) : Below w.heap.size w W' :=
  (ext_alloc hb o).grown hg (by rw [World.size_alloc]; have := hb.size; omega) (fun k e => (own_span ho e).1)
/-- The text of numbers. -/
def textF (code : List Int) : List UInt8 × Int := if 150 < code.length then ([], 2) else if code.all num32B = false then ([], 1) else (textP code, 0)
theorem cellL_len (n : Int) (h : I64 n) : (cellL n).length ≤ 80 := by
  unfold cellL
  split
  · next hk => exact text_len hk
  · have := itoa32_len h
    rw [List.length_append]; simp [wordP]; omega
theorem join_len : ∀ (ls : List (List UInt8)), (∀ l ∈ ls, l.length ≤ 80) → (Lib.join ls [10]).length ≤ 81 * ls.length
  | [], _ => by simp [Lib.join_nil]
  | [x], h => by rw [Lib.join_one]; have := h x (by simp); simp; omega
  | x :: y :: r, h => by
    have e : Lib.join (x :: y :: r) [10] = x ++ 10 :: Lib.join (y :: r) [10] := by
      rw [Lib.join_cons, Lib.join_cons, Lib.joinTail, Lib.joinTail]
      simp
    have h1 := h x (by simp)
    have h2 := join_len (y :: r) fun l hl => h l (List.mem_cons_of_mem _ hl)
    rw [e, List.length_append, List.length_cons]
    rw [List.length_cons] at h2 ⊢
    rw [List.length_cons]
    omega
theorem join_any (v : Value) (base : Nat) (xs : List ByteArray) (w : World) (h : Own w base 9 v xs) (hx : xs.length ≤ 1000) (hl : (Lib.join (xs.map (·.data.toList)) [10]).length ≤ 140737488355328) :
    Calls Tryd.prog 18 #[v, .string ⟨#[10]⟩] w fun e w' => e = .returned (.string (ba (Lib.join (xs.map (·.data.toList)) [10]))) ∧ Below w.heap.size w w' := by
  rcases h.form with ⟨rfl, rfl⟩ | ⟨g, cap, rfl, h1, h2, h3, h4⟩
  · refine (Any.strings_Join_none Tryd.lays156 Tryd.Builder_Extra_156 none 0 ⟨#[10]⟩ w).mono ?_
    rintro e w' ⟨rfl, hw⟩
    subst w'
    exact ⟨rfl, Below.refl _ _⟩
  · refine (Tryd.strings_Join g 0 cap xs ⟨#[10]⟩ w ?_ h2 (by omega) h3 hl).mono ?_
    · intro j x hx
      obtain ⟨ao, c', e', hs, _⟩ := h.sl
      injection e' with e1 _ _
      subst e1
      obtain ⟨a, ha, _, hc⟩ := sl_str hs (List.getElem?_eq_some_iff.1 hx).1 hx
      injection ha with ha
      subst ha
      rwa [Addr.add_lit] at hc
    · rintro e w' ⟨rfl, hb⟩
      exact ⟨rfl, hb⟩
theorem info_strT : (Tryd.prog.info? 9).map (fun i => (i.zero, i.size, i.bytes)) = some (some (.string ByteArray.empty), 1, 16) := by kernel_rfl
set_option maxHeartbeats 8000000 in
set_option maxRecDepth 100000 in
theorem ptext_any (ao : Option Addr) (n c : Nat) (code : List Int) (w : World) (he : PEnv w) (hc : Sl w ao n code) (hi : ∀ x ∈ code, I64 x) :
    Calls Tryd.prog 20 #[.slice ao n c] w fun e w' => e = .returned (.tuple #[.string (ba (textF code).1), .int .i64 (textF code).2]) ∧ Below w.heap.size w w' := by
  have hn := hc.len
  by_cases h150 : 150 < n
  · have e : textF code = ([], 2) := by unfold textF; rw [if_pos (by omega)]
    have q1 : (150 : Int) < n := by omega
    rw [e]
    clear e hc hn he hi
    go_enter Tryd.func20, Tryd.ntmps20
    go_wp2
    refine bodyPost_ret (v := .tuple #[.string ⟨#[]⟩, .int .i64 2]) (by simp [results, Tryd.results20, go_sem]; try rfl) rfl ?_
    exact ⟨rfl, Below.refl _ _⟩
  have q1 : ¬ ((150 : Int) < n) := by omega
  have HC := Lib.hid hc
  have HN := Lib.hid hn
  have HE := Lib.hid he
  have HI := Lib.hid hi
  clear hc hn he hi
  obtain ⟨i0_, i1_, iz0, iz1, iz2⟩ := info_parts info_strT
  go_enter Tryd.func20, Tryd.ntmps20
  go_wp2
  go_loopw [4, 15] (fun v i wr => ∃ k : Nat, k ≤ n ∧ i = .int .i64 k ∧ (code.take k).all num32B = true ∧ Own wr w.heap.size 9 v ((code.take k).map fun x => ba (cellL x)) ∧ Below w.heap.size w wr) (fun _ i _ => n - (intOf i).toNat)
  case atStart => exact ⟨0, Nat.zero_le _, rfl, rfl, Own.nil _ _ _, Below.refl _ _⟩
  case round =>
    obtain ⟨k, hk, rfl, hall, how, hb⟩ := hrel
    have HB := Lib.hid hb
    have HALL := Lib.hid hall
    clear hall
    by_cases hlt : k < n
    · have q2 : (0 : Int) ≤ k := by omega
      have q3 : (k : Int) < n := by omega
      obtain ⟨x, hx⟩ : ∃ x, code[k]? = some x := ⟨_, List.getElem?_eq_getElem (by have := HN.out; omega)⟩
      obtain ⟨ad, hao, hab, e0⟩ := sl_int (HC.out.below hb) hlt hx
      subst hao
      have hmem := List.mem_of_getElem? hx
      have ix := HI.out x hmem
      cases h32 : num32B x
      · have e : textF code = ([], 1) := by
          unfold textF
          rw [if_neg (by have := HN.out; omega), if_pos]
          cases ha : code.all num32B with
          | false => rfl
          | true => rw [List.all_eq_true] at ha; rw [ha x hmem] at h32; cases h32
        have EE := Lib.hid e
        clear e hb hx hmem how
        go_wp2_with (go_at_call 37; ((with_reducible refine (isnum_any x _).mono ?_); rintro e w' ⟨rfl, hw'⟩; subst w'; rw [h32]))
        refine bodyPost_ret (v := .tuple #[.string ⟨#[]⟩, .int .i64 1]) (by simp [results, Tryd.results20, go_sem]; try rfl) rfl ?_
        exact ⟨by rw [EE.out]; rfl, HB.out⟩
      · have htk : code.take (k + 1) = code.take k ++ [x] := by rw [List.take_add_one, hx]; rfl
        have it := itoa_any x ix wr (HE.out.below hb).ten
        have rdc := fun W (hW : Tab W) => iread_any x ix W hW
        obtain ⟨LS, hLS⟩ : ∃ LS, (code.take k).map (fun x => ba (cellL x)) = LS := ⟨_, rfl⟩
        have hls : LS.length = k := by rw [← hLS, List.length_map, List.length_take]; have := HN.out; omega
        rw [hLS] at how
        have hc9 : (code.take (k + 1)).all num32B = true := by rw [htk, List.all_append, HALL.out]; simp [h32]
        have hm9 : (code.take (k + 1)).map (fun x => ba (cellL x)) = LS ++ [ba (cellL x)] := by rw [htk, List.map_append, hLS]; rfl
        have HC9 := Lib.hid hc9
        have HM9 := Lib.hid hm9
        have HLS := Lib.hid hls
        have OW := Lib.hid how
        obtain ⟨va, vn, vc, rfl⟩ := own_shape how
        have IT := Lib.hid it
        have hsz : (⟨#[119, 111, 114, 100, 32]⟩ : ByteArray).size = 5 := rfl
        have hil := itoa32_len ix
        have hbl : (⟨(Lib.itoa x).toArray⟩ : ByteArray).size = (Lib.itoa x).length := ba_len _
        have hadd : Op.stringOp .add ⟨#[119, 111, 114, 100, 32]⟩ ⟨(Lib.itoa x).toArray⟩ = pure (.string (ba (wordP ++ Lib.itoa x))) := by
          rw [show ba (wordP ++ Lib.itoa x) = (⟨#[119, 111, 114, 100, 32]⟩ : ByteArray) ++ ⟨(Lib.itoa x).toArray⟩ from ByteArray.ext (by simp [ba, wordP])]
          exact str_add _ _ (by omega)
        clear hb hx hmem how it hc9 hm9 hls hLS htk hsz hil hbl
        cases hk : instOk (unpack x)
        · obtain ⟨SS, hSS⟩ : ∃ SS, ba (wordP ++ Lib.itoa x) = SS := ⟨_, rfl⟩
          have hcl : ba (cellL x) = SS := by unfold cellL; rw [if_neg (by rw [hk]; simp), hSS]
          have HCL := Lib.hid hcl
          rw [hSS] at hadd
          simp only [hk, Bool.false_eq_true, if_false] at rdc
          have RDC := Lib.hid rdc
          clear rdc hcl hSS hk
          have H32 := Lib.hid h32
          clear h32
          go_upto_region 11 with (first
            | (go_at_call 37; ((with_reducible refine (isnum_any x _).mono ?_); rintro e w' ⟨rfl, hw'⟩; subst w'; rw [H32.out]))
            | (go_at_call 24; ((with_reducible refine (IT.out).mono ?_); rintro e w1 ⟨rfl, hb1⟩; have O1 := Lib.hid (OW.out.below hb1); have HB1 := Lib.hid (ext_trans HB.out hb1); clear hb1))
            | (go_at_call 12; ((with_reducible refine (RDC.out _ (HE.out.below HB1.out).asc).mono ?_); rintro e w2 ⟨rfl, hb2⟩; have O2 := Lib.hid (O1.out.below hb2); have HB2 := Lib.hid (ext_trans HB1.out hb2); clear hb2)))
          obtain ⟨gi, hgi⟩ : ∃ gi, w2.heap.size = gi := ⟨_, rfl⟩
          obtain ⟨w3, hw3⟩ : ∃ w3, w3 = w2.alloc (.cells #[.int .i64 0, .int .i64 0, .int .i64 0, .int .i64 0] 23) := ⟨_, rfl⟩
          rw [← hw3]
          try rw [hgi]
          have hI3 : Bk w3 gi 23 #[.int .i64 0, .int .i64 0, .int .i64 0, .int .i64 0] := by rw [hw3, ← hgi]; exact bk_new _ _ _
          have hb3 : Below w2.heap.size w2 w3 := by rw [hw3]; exact ext_alloc (Below.refl _ _) _
          have O3 := Lib.hid (O2.out.below hb3)
          have HB3 := Lib.hid (ext_trans HB2.out hb3)
          obtain ⟨y0, y1, y2, y3⟩ := cells4 hI3
          have yL := hI3.lt
          clear hw3 hgi hI3 hb3
          go_wp2_with (at_builtin; refine wpList_append_sl (α := ByteArray) rfl (.tmp 37) (.tmp 39) 40 rfl w.heap.size 9 i0_ _ 16 Tryd.underlying40 i1_ iz0 iz1 iz2 rfl (.slice va vn vc) LS rfl (O3.out.alloc _) (some ⟨w3.heap.size, 0, none⟩) 1 1 [SS] rfl (lit_sl1 _ _ rfl) (by rw [HLS.out]; unfold maxLen; omega) (by rw [HLS.out]; omega) (by rw [World.size_alloc]; have := HB3.out.size; omega) ?_; intro v9 w9 hown9 hgr9 _; have HO9 := Lib.hid hown9; have HB9 := Lib.hid (grow_lit HB3.out (O3.out.alloc _) hgr9); clear hown9 hgr9)
          go_roundw
          case rel => exact ⟨k + 1, by omega, by go_num, HC9.out, by rw [HM9.out, HCL.out]; exact HO9.out, HB9.out⟩
          case measure => simp [intOf]; omega
        · skip
          have H32 := Lib.hid h32
          clear h32
          obtain ⟨SS, hSS⟩ : ∃ SS, ba (textL (unpack x)) = SS := ⟨_, rfl⟩
          have hcl : ba (cellL x) = SS := by unfold cellL; rw [if_pos hk, hSS]
          have HCL := Lib.hid hcl
          obtain ⟨S0, hS0⟩ : ∃ S0, ba (wordP ++ Lib.itoa x) = S0 := ⟨_, rfl⟩
          rw [hS0] at hadd
          obtain ⟨u, hu⟩ : ∃ u, unpack x = u := ⟨_, rfl⟩
          rw [hu] at hk hSS
          obtain ⟨i0, i1, i2, i3⟩ := u
          simp only [hu, hk, if_true] at rdc
          have tx := fun W (hW : PEnv W) => itext_any i0 i1 i2 i3 W hW.asc hW.ten
          simp only [hk, if_true] at tx
          have hSS2 : (⟨(textL ⟨i0, i1, i2, i3⟩).toArray⟩ : ByteArray) = SS := hSS
          simp only [hSS2] at tx
          have RDC := Lib.hid rdc
          have TXC := Lib.hid tx
          clear rdc tx hcl hSS hSS2 hS0 hu hk
          go_upto_region 11 with (first
            | (go_at_call 37; ((with_reducible refine (isnum_any x _).mono ?_); rintro e w' ⟨rfl, hw'⟩; subst w'; rw [H32.out]))
            | (go_at_call 24; ((with_reducible refine (IT.out).mono ?_); rintro e w1 ⟨rfl, hb1⟩; have O1 := Lib.hid (OW.out.below hb1); have HB1 := Lib.hid (ext_trans HB.out hb1); clear hb1))
            | (go_at_call 12; ((with_reducible refine (RDC.out _ (HE.out.below HB1.out).asc).mono ?_); rintro e w2 ⟨rfl, hb2⟩; have O2 := Lib.hid (O1.out.below hb2); have HB2 := Lib.hid (ext_trans HB1.out hb2); clear hb2)))
          obtain ⟨gi, hgi⟩ : ∃ gi, w2.heap.size = gi := ⟨_, rfl⟩
          obtain ⟨w3, hw3⟩ : ∃ w3, w3 = w2.alloc (.cells #[.int .i64 i0, .int .i64 i1, .int .i64 i2, .int .i64 i3] 23) := ⟨_, rfl⟩
          rw [← hw3]
          try rw [hgi]
          have hI3 : Bk w3 gi 23 #[.int .i64 i0, .int .i64 i1, .int .i64 i2, .int .i64 i3] := by rw [hw3, ← hgi]; exact bk_new _ _ _
          have hb3 : Below w2.heap.size w2 w3 := by rw [hw3]; exact ext_alloc (Below.refl _ _) _
          have O3 := Lib.hid (O2.out.below hb3)
          have HB3 := Lib.hid (ext_trans HB2.out hb3)
          obtain ⟨y0, y1, y2, y3⟩ := cells4 hI3
          have yL := hI3.lt
          clear hw3 hgi hI3 hb3
          go_upto_region 13 with (go_at_call 10; ((with_reducible refine (TXC.out _ (HE.out.below HB3.out)).mono ?_); rintro e w4 ⟨rfl, hb4⟩; have O4 := Lib.hid (O3.out.below hb4); have HB4 := Lib.hid (ext_trans HB3.out hb4); clear hb4))
          clear y0 y1 y2 y3 yL
          go_wp2_with (at_builtin; refine wpList_append_sl (α := ByteArray) rfl (.tmp 37) (.tmp 39) 40 rfl w.heap.size 9 i0_ _ 16 Tryd.underlying40 i1_ iz0 iz1 iz2 rfl (.slice va vn vc) LS rfl (O4.out.alloc _) (some ⟨w4.heap.size, 0, none⟩) 1 1 [SS] rfl (lit_sl1 _ _ rfl) (by rw [HLS.out]; unfold maxLen; omega) (by rw [HLS.out]; omega) (by rw [World.size_alloc]; have := HB4.out.size; omega) ?_; intro v9 w9 hown9 hgr9 _; have HO9 := Lib.hid hown9; have HB9 := Lib.hid (grow_lit HB4.out (O4.out.alloc _) hgr9); clear hown9 hgr9)
          go_roundw
          case rel => exact ⟨k + 1, by omega, by go_num, HC9.out, by rw [HM9.out, HCL.out]; exact HO9.out, HB9.out⟩
          case measure => simp [intOf]; omega
    · have q3 : ¬ ((k : Int) < n) := by omega
      have hfull : code.take k = code := List.take_of_length_le (by have := HN.out; omega)
      rw [hfull] at how
      have hall := HALL.out
      rw [hfull] at hall
      have e : textF code = (textP code, 0) := by unfold textF; rw [if_neg (by have := HN.out; omega), if_neg (by rw [hall]; simp)]
      have hmm : (code.map fun x => ba (cellL x)).map (·.data.toList) = code.map cellL := by rw [List.map_map]; rfl
      have hjl : (Lib.join ((code.map fun x => ba (cellL x)).map (·.data.toList)) [10]).length ≤ 140737488355328 := by
        have h1 := join_len (code.map cellL) (fun l hl => by
          obtain ⟨x, hx, rfl⟩ := List.mem_map.1 hl
          exact cellL_len x (HI.out x hx))
        rw [hmm]
        rw [List.length_map] at h1
        have := HN.out
        omega
      have jn := join_any _ _ _ wr how (by rw [List.length_map]; have := HN.out; omega) hjl
      rw [hmm] at jn
      obtain ⟨z, hz⟩ : ∃ z, ba (Lib.join (code.map cellL) [10]) = z := ⟨_, rfl⟩
      rw [hz] at jn
      have EE := Lib.hid e
      have HZ := Lib.hid hz
      have JN := Lib.hid jn
      obtain ⟨va, vn, vc, rfl⟩ := own_shape how
      clear e hz jn how hb hall hmm hjl hfull HALL
      go_wp2_with (go_at_call 18; ((with_reducible refine JN.out.mono ?_); rintro e w1 ⟨rfl, hb1⟩; have HB1 := Lib.hid (ext_trans HB.out hb1); clear hb1))
      refine bodyPost_ret (v := .tuple #[.string z, .int .i64 0]) (by simp [results, Tryd.results20, go_sem]; try rfl) rfl ?_
      exact ⟨by rw [EE.out, ← HZ.out]; rfl, HB1.out⟩
end Go.Proofs.YtjlncoodkejncaaDoor
