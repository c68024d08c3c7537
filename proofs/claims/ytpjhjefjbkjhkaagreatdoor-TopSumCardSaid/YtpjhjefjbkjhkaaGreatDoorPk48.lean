import Derived.Great.BuildSlice
import Derived.Test.YtpjhjefjbkjhkaaGreatDoorPk01
import Derived.Test.YtpjhjefjbkjhkaaGreatDoorPk03
import Derived.Test.YtpjhjefjbkjhkaaGreatDoorPk32
import Derived.Test.YtpjhjefjbkjhkaaGreatDoorPk38
import Derived.Test.YtpjhjefjbkjhkaaGreatDoorPk24
import Derived.Test.YtpjhjefjbkjhkaaGreatDoorPk45
import Derived.Test.YtpjhjefjbkjhkaaGreatDoorPk26
import Derived.Test.YtpjhjefjbkjhkaaGreatDoorPk37
import Derived.Test.YtpjhjefjbkjhkaaGreatDoorPk47
import Derived.Test.YtpjhjefjbkjhkaaGreatDoorPk44
set_option maxHeartbeats 40000000
set_option maxRecDepth 100000
set_option linter.unusedVariables false
set_option linter.unusedSimpArgs false
namespace Go.Proofs.YtpjhjefjbkjhkaaGreatDoor
open Go Go.RowKit Go.Shelf
theorem itoa_lenS (n : Int) (h : I64 n) : (Lib.itoa n).length ≤ 21 := Lib.itoa_length_le n h.1 h.2
theorem baS_add (x y : List UInt8) (h : x.length + y.length ≤ 1000000000) : Op.stringOp .add (ba x) (ba y) = pure (.string (ba (x ++ y))) := by
 have e : ba x ++ ba y = ba (x ++ y) := ByteArray.ext (by simp [ba])
 rw [← e]
 exact str_add _ _ (by have h1 : (ba x).size = x.length := ba_len x; have h2 : (ba y).size = y.length := ba_len y; omega)
theorem all_I64 {l : List Int} (h : l.all num32B = true) : ∀ n ∈ l, I64 n := fun n hn => by
 have := of_decide_eq_true (List.all_eq_true.1 h n hn)
 constructor <;> omega
theorem refwrap_any (n : Int) (h : I64 n) (w : World) : Calls Tryz.prog 14 #[.int .i64 n] w fun e w' => e = .returned (.int .i64 (wrap32 n)) ∧ w' = w := by
 have rs := rest_any n 4294967296 w (by decide) (by decide)
 obtain ⟨r, hr⟩ : ∃ r, n % 4294967296 = r := ⟨_, rfl⟩
 have hb : 0 ≤ r ∧ r < 4294967296 := by rw [← hr]; constructor <;> omega
 rw [hr] at rs
 have RS := Lib.hid rs
 clear rs
 by_cases h2 : (2147483648 : Int) ≤ r
 ·have e1 : IntKind.i64.wrap (r - 4294967296) = r - 4294967296 := by rw [IntKind.wrap_i64]; omega
  have e2 : wrap32 n = r - 4294967296 := by unfold wrap32; omega
  rw [e2]
  clear e2 hr
  go_enter Tryz.func14, Tryz.ntmps14
  go_wp2_with (go_at_call 27; ((with_reducible refine RS.out.mono ?_); rintro e w' ⟨rfl, hw'⟩; subst hw'))
  go_ret
  exact ⟨rfl, rfl⟩
 ·have e2 : wrap32 n = r := by unfold wrap32; omega
  rw [e2]
  clear e2 hr
  go_enter Tryz.func14, Tryz.ntmps14
  go_wp2_with (go_at_call 27; ((with_reducible refine RS.out.mono ?_); rintro e w' ⟨rfl, hw'⟩; subst hw'))
  go_ret
  exact ⟨rfl, rfl⟩
theorem make_S {L : Nat} (h1 : 1 ≤ L) (h7 : L ≤ 7) (W : World) (he : PEnv W) : Calls Tryz.prog 15 #[.string (ba (txtS L ++ tailS)), .slice none 0 0, .slice none 0 0] W fun e w' => ∃ r : ModR, e = .returned (.tuple #[.agg #[.slice r.code.a r.code.n r.code.c, .slice r.data.a r.data.n r.data.c, .slice r.ex.a r.ex.n r.ex.c, .slice r.im.a r.im.n r.im.c], .int .i64 0, .int .i64 0]) ∧ r.has w' (modS L) ∧ Below W.heap.size W w' := by
 have g2 := txt_len h1 h7
 obtain ⟨c1, c2, c3⟩ := codeS_ok h1 h7
 refine (make_any (ba (txtS L ++ tailS)) none 0 0 [] W he ?_ (Sl.nil _ _) (by decide) (fun x hx => by cases hx) ⟨codeS L, [⟨sumB, 0⟩], 0, 0⟩ (read_S h1 h7) ?_ ?_).mono ?_
 ·have h : (ba (txtS L ++ tailS)).size = (txtS L ++ tailS).length := ba_len _
  rw [h, List.length_append]
  have : tailS.length = 13 := rfl
  omega
 ·intro y hy
  have := c2 y hy
  constructor <;> omega
 ·intro y hy
  simp at hy
  subst hy
  exact ⟨by decide, ⟨by decide, by decide⟩⟩
 ·rintro e w' ⟨⟨⟨ln, er, hne, rfl⟩, hbad⟩ | ⟨r, rfl, hr, him, her, hmok⟩, hb⟩
  ·rcases hbad with h | h
   ·exact absurd rfl h
   ·exact absurd (modS_ok h1 h7) h
  ·exact ⟨r, rfl, hr, hb⟩
theorem link_S {L : Nat} (h1 : 1 ≤ L) (h7 : L ≤ 7) (W : World) (ga : Option Addr) (r : ModR) (h : Mods W ga 1 [r] [modS L]) : Calls Tryz.prog 16 #[.slice ga 1 1] W fun e w' => ∃ ma mn mc pa pn pc ea en ec, e = .returned (.tuple #[.agg #[.slice ma mn mc, .slice pa pn pc, .slice ea en ec], .int .i64 0]) ∧ Sl w' ma mn (linkMem [modS L]) ∧ Sl w' ea en (entriesF 0 0 [modS L]) ∧ Below W.heap.size W w' := by
 refine (link_good ga 1 1 [r] [modS L] W h (linkS_ok h1 h7)).mono ?_
 rintro e w' ⟨vm, vp, ve, rfl, hm, hp, he, hb⟩
 obtain ⟨ma, mc, rfl, h1, _⟩ := hm.sl
 obtain ⟨pa, pc, rfl, h2, _⟩ := hp.sl
 obtain ⟨ea, ec, rfl, h3, _⟩ := he.sl
 exact ⟨_, _, _, _, _, _, _, _, _, rfl, h1, h3, hb⟩
theorem mods_one {w : World} {r : ModR} {m : ModV} (h : r.has w m) : Mods (w.alloc (.cells #[.slice r.code.a r.code.n r.code.c, .slice r.data.a r.data.n r.data.c, .slice r.ex.a r.ex.n r.ex.c, .slice r.im.a r.im.n r.im.c] 28)) (some ⟨w.heap.size, 0, none⟩) 1 [r] [m] := by
 refine ⟨lit_sl1 _ r rfl, rfl, fun i r' m' h1 h2 => ?_⟩
 have hi : i = 0 := by
  have := (List.getElem?_eq_some_iff.1 h1).1
  simp at this
  exact this
 subst hi
 simp at h1 h2
 subst h1 h2
 exact h.below (ext_alloc (Below.refl _ _) _)
theorem do_S {L : Nat} (h1 : 1 ≤ L) (h7 : L ≤ 7) (ao : Option Addr) (n c : Nat) (args : List Int) (u : Int) (law : (doF (linkMem [modS L]) (entriesF 0 0 [modS L]) sumB args 20).1 = ⟨0, u, [u], L⟩) {w : World} {ma pa ea : Option Addr} {mn mc pn pc en ec : Nat} (he : PEnv w)
  (hm : Sl w ma mn (linkMem [modS L])) (hE : Sl w ea en (entriesF 0 0 [modS L])) (ha : Sl w ao n args) (hai : ∀ n ∈ args, I64 n) :
  Calls Tryz.prog 17 #[.agg #[.slice ma mn mc, .slice pa pn pc, .slice ea en ec], .agg #[.string sumB, .slice ao n c, .int .i64 20]] w fun e w' => ∃ va vc vm, e = .returned (.tuple #[.agg #[.int .i64 0, .int .i64 u, .slice va 1 vc, .int .i64 L], vm]) ∧ Sl w' va 1 [u] ∧ Below w.heap.size w w' := by
 refine (do_any ma pa ea ao mn mc pn pc en ec n c (linkMem [modS L]) (entriesF 0 0 [modS L]) sumB args 20 w hm hE ha (linkS_ok h1 h7).im_ok hai he.asc).mono ?_
 rintro e w' ⟨vo, vm, rfl, ho, _, hb⟩
 rw [law] at ho ⊢
 obtain ⟨va, vc, rfl, hs, _⟩ := ho.sl
 exact ⟨va, vc, vm, rfl, hs, hb⟩
theorem pack_halt (W : World) (hW : Tab W) : Calls Tryz.prog 18 #[.agg #[.int .i64 0, .int .i64 0, .int .i64 0, .int .i64 0]] W fun e w' => e = .returned (.tuple #[.int .i64 4194304, .int .i64 0]) ∧ Below W.heap.size W w' := by
 have h := ipack_any 0 0 0 0 W hW
 rw [show instOk ⟨0, 0, 0, 0⟩ = true from by decide, show packF ⟨0, 0, 0, 0⟩ = 4194304 from by decide] at h
 simpa using h
theorem topSum_walk (x : SlV Int) (w : World) (hx : x.ok I64 w) (he : PEnv w) : Calls Tryz.prog 3 #[x.val] w fun e w' => e = .returned (.bool true) ∧ Below w.heap.size w w' := by
 obtain ⟨ao, n, c, xs⟩ := x
 obtain ⟨hxs, _, hle⟩ := hx
 simp only [SlV.val] at hxs hle ⊢
 have HE := Lib.hid he
 by_cases h7 : n ≤ 7
 ·have q7 : ¬ ((7 : Int) < (n : Int)) := by omega
  have hsl := hxs
  obtain ⟨n7, hn7⟩ : ∃ n7, n = n7 := ⟨_, rfl⟩
  obtain ⟨args, hargs⟩ : ∃ args, xs = args := ⟨_, rfl⟩
  rw [hn7, hargs] at hsl
  rw [hn7] at h7 q7 ⊢
  clear hxs he hle hargs hn7
  go_enter Tryz.func3, Tryz.ntmps3
  have hnl : args.length = n7 := hsl.len
  have SL := Lib.hid hsl
  clear hsl
  obtain ⟨L, hL⟩ : ∃ L, max n7 1 = L := ⟨_, rfl⟩
  have hL1 : 1 ≤ L := by omega
  have hL7 : L ≤ 7 := by omega
  have HL1 := Lib.hid hL1
  have HL7 := Lib.hid hL7
  have HLL := Lib.hid hL
  have HNL := Lib.hid hnl
  clear hL1 hL7 hnl hL
  go_upto_region 6 with (fail)
  go_loopw [3, 5] (fun t i wr => ∃ r : Nat, 1 ≤ r ∧ r ≤ L ∧ i = .int .i64 r ∧ t = .string (ba (txtS r)) ∧ Below w.heap.size w wr) (fun _ i _ => n7 - (intOf i).toNat)
  case atStart => exact ⟨1, Nat.le_refl _, HL1.out, rfl, rfl, Below.refl _ _⟩
  case round =>
   obtain ⟨r, hr1, hrL, rfl, rfl, hb⟩ := hrel
   have HB := Lib.hid hb
   clear hb
   by_cases hlt : r < n7
   ·have q0 : (r : Int) < (n7 : Int) := by omega
    have hr7 : r ≤ 7 := by have := HL7.out; omega
    have dg := fun W => digits_any (r : Int) ⟨by omega, by omega⟩ W
    have g1 := itoa_lenS (r : Int) ⟨by omega, by omega⟩
    have g2 := txt_len hr1 hr7
    obtain ⟨Z, hZ⟩ : ∃ Z : ByteArray, (⟨(Lib.itoa (r : Int)).toArray⟩ : ByteArray) = Z := ⟨_, rfl⟩
    rw [hZ] at dg
    obtain ⟨Y, hY⟩ : ∃ Y, ba (addS ++ Lib.itoa (r : Int)) = Y := ⟨_, rfl⟩
    obtain ⟨T, hT⟩ : ∃ T, ba (txtS r) = T := ⟨_, rfl⟩
    obtain ⟨T2, hT2⟩ : ∃ T2, ba (txtS (r + 1)) = T2 := ⟨_, rfl⟩
    have a1 : Op.stringOp .add ⟨#[10, 97, 100, 100, 32, 114, 48, 32, 114, 48, 32, 114]⟩ Z = pure (.string Y) := by
     rw [← hZ, ← hY]
     exact baS_add addS (Lib.itoa (r : Int)) (by have : addS.length = 12 := rfl; omega)
    have a2 : Op.stringOp .add T Y = pure (.string T2) := by
     rw [← hT, ← hY, ← hT2, txt_next r hr1]
     exact baS_add (txtS r) (addS ++ Lib.itoa (r : Int)) (by have : addS.length = 12 := rfl; rw [List.length_append]; omega)
    have e1 : IntKind.i64.wrap ((r : Int) + 1) = (r : Int) + 1 := by rw [IntKind.wrap_i64]; omega
    rw [hT]
    have HT2 := Lib.hid hT2
    have DG := Lib.hid dg
    clear dg g1 g2 hZ hY hT hT2
    go_wp2_with (go_at_call 13; ((with_reducible refine (DG.out _).mono ?_); rintro e w5 ⟨rfl, hb5⟩; have HB5 := Lib.hid (ext_trans HB.out hb5); clear hb5))
    go_roundw
    case rel => exact ⟨r + 1, by omega, by have := HLL.out; omega, by go_num, by rw [HT2.out], HB5.out⟩
    case measure =>
     have e9 : IntKind.i64.wrap ((r : Int) + 1) = (r : Int) + 1 := by rw [IntKind.wrap_i64]; omega
     simp only [intOf, e9]
     omega
   ·have q0 : ¬ ((r : Int) < (n7 : Int)) := by omega
    obtain rfl : L = r := by have := HLL.out; omega
    clear hr1 hrL hlt
    go_upto_region 10 with (fail)
    obtain ⟨w2, hw2⟩ : ∃ w2, w2 = wr := ⟨_, rfl⟩
    rw [← hw2] at HB ⊢
    clear hw2 wr
    go_loopw [4, 35] (fun t i wr => ∃ k : Nat, k ≤ n7 ∧ i = .int .i64 k ∧ t = .int .i64 (wantS (args.take k)) ∧ (args.take k).all num32B = true ∧ Below w.heap.size w wr) (fun _ i _ => n7 - (intOf i).toNat)
    case atStart => exact ⟨0, Nat.zero_le _, rfl, rfl, rfl, HB.out⟩
    case round =>
     obtain ⟨k, hk, rfl, rfl, hall, hb⟩ := hrel
     have HB2 := Lib.hid hb
     clear hb
     by_cases hlt : k < n7
     ·have q1 : (0 : Int) ≤ k := by omega
      have q2 : (k : Int) < n7 := by omega
      obtain ⟨x, hgx⟩ : ∃ x, args[k]? = some x := ⟨_, List.getElem?_eq_getElem (by rw [HNL.out]; exact hlt)⟩
      obtain ⟨ad, rfl, bx, e0⟩ := sl_int (SL.out.below HB2.out) hlt hgx
      have htk : args.take (k + 1) = args.take k ++ [x] := by rw [List.take_add_one, hgx]; rfl
      by_cases hlo : x < -2147483648
      ·clear htk hgx hall
       go_wp2
       go_ret
       exact ⟨rfl, HB2.out⟩
      ·by_cases hhi : (2147483647 : Int) < x
       ·clear htk hgx hall
        go_wp2
        go_ret
        exact ⟨rfl, HB2.out⟩
       ·have wb := wantS_bd (args.take k)
        have hw : wantS (args.take (k + 1)) = wrap32 (wantS (args.take k) + x) := by rw [htk, wantS_snoc]
        have ha2 : (args.take (k + 1)).all num32B = true := by
         rw [htk, List.all_append, hall]
         simp [num32B]
         omega
        obtain ⟨u, hu⟩ : ∃ u, wantS (args.take k) = u := ⟨_, rfl⟩
        rw [hu] at wb hw ⊢
        have e2 : IntKind.i64.wrap (u + x) = u + x := by rw [IntKind.wrap_i64]; omega
        have rw_ := fun W => refwrap_any (u + x) ⟨by omega, by omega⟩ W
        have RW := Lib.hid rw_
        have HW := Lib.hid hw
        have HA2 := Lib.hid ha2
        clear rw_ hw ha2 htk hgx hall hu wb
        go_wp2_with (go_at_call 14; ((with_reducible refine (RW.out _).mono ?_); rintro e w5 ⟨rfl, hw5⟩; subst hw5))
        go_roundw
        case rel => exact ⟨k + 1, by omega, by go_num, by rw [HW.out], HA2.out, HB2.out⟩
        case measure => simp [intOf]; omega
     ·have q1 : ¬ ((k : Int) < n7) := by omega
      obtain rfl : n7 = k := by omega
      rw [show args.take n7 = args by rw [← HNL.out, List.take_length]] at hall ⊢
      obtain ⟨w3, hw3⟩ : ∃ w3, w3 = wr := ⟨_, rfl⟩
      rw [← hw3] at HB2 ⊢
      have hLa : L = max args.length 1 := by rw [HNL.out, HLL.out]
      have law := sum_law args (by rw [HNL.out]; have := HL7.out; have := HLL.out; omega) hall L hLa
      obtain ⟨u, hu⟩ : ∃ u, wantS args = u := ⟨_, rfl⟩
      rw [hu] at law ⊢
      have g2 := txt_len HL1.out HL7.out
      obtain ⟨T, hT⟩ : ∃ T, ba (txtS L) = T := ⟨_, rfl⟩
      obtain ⟨S, hS⟩ : ∃ S, ba (txtS L ++ tailS) = S := ⟨_, rfl⟩
      have a3 : Op.stringOp .add T ⟨#[10, 116, 101, 108, 108, 32, 114, 48, 10, 104, 97, 108, 116]⟩ = pure (.string S) := by
       rw [← hT, ← hS]
       exact baS_add (txtS L) tailS (by have : tailS.length = 13 := rfl; omega)
      have mk := fun W (hW : Below w.heap.size w W) => make_S HL1.out HL7.out W (HE.out.below hW)
      rw [hS] at mk
      have lk := fun W ga (r : ModR) (h : Mods W ga 1 [r] [modS L]) => link_S HL1.out HL7.out W ga r h
      have dos := fun W ma mn mc pa pn pc ea en ec hb' h1 h2 => do_S (w := W) (ma := ma) (mn := mn) (mc := mc) (pa := pa) (pn := pn) (pc := pc) (ea := ea) (en := en) (ec := ec) HL1.out HL7.out ao n7 c args u law (HE.out.below hb') h1 h2 (SL.out.below hb') (all_I64 hall)
      have pk := fun W (hW : Tab W) => pack_halt W hW
      have MK := Lib.hid mk
      have LK := Lib.hid lk
      have DOS := Lib.hid dos
      have PK := Lib.hid pk
      rw [hT]
      clear mk lk dos pk hT hS g2 hu hall law hLa hw3
      go_upto_region 17 with (first
       | (go_at_call 15; ((with_reducible refine (MK.out _ HB2.out).mono ?_); rintro e w5 ⟨⟨⟨ra, rn, rc⟩, ⟨sa, sn, sc⟩, ⟨ta, tn, tc⟩, ⟨ia, in_, ic⟩⟩, rfl, hr5, hb5⟩; have HR5 := Lib.hid hr5; have HB5 := Lib.hid (ext_trans HB2.out hb5); clear hr5 hb5))
       | (refine wpList_store_fresh rfl 28 (.tmp 8) (.tmp 54) rfl rfl #[.slice ra rn rc, .slice sa sn sc, .slice ta tn tc, .slice ia in_ ic] 28 _ rfl (by first | rfl | kernel_rfl) (by kernel_rfl) (by kernel_rfl) (by kernel_rfl) ?_))
      obtain ⟨g8, hg8⟩ : ∃ g, w5.heap.size = g := ⟨_, rfl⟩
      obtain ⟨w6, hw6⟩ : ∃ w6, w6 = w5.alloc (.cells #[.slice ra rn rc, .slice sa sn sc, .slice ta tn tc, .slice ia in_ ic] 28) := ⟨_, rfl⟩
      have m6 : Bk w6 g8 28 #[.slice ra rn rc, .slice sa sn sc, .slice ta tn tc, .slice ia in_ ic] := by rw [hw6, ← hg8]; exact bk_new _ _ _
      have b56 : Below w5.heap.size w5 w6 := by rw [hw6]; exact ext_alloc (Below.refl _ _) _
      rw [← hw6]
      try rw [hg8]
      have HB6 := Lib.hid (ext_trans HB5.out b56)
      have MO := Lib.hid (mods_one (HR5.out.below b56))
      obtain ⟨z0, z1, z2, z3⟩ := cellsM4 m6
      have zL := m6.lt
      clear hw6 hg8 m6 b56 HR5
      go_upto_region 18 with (first
       | (go_at_call 16; ((with_reducible refine (LK.out _ _ _ MO.out).mono ?_); rintro e w7 ⟨ma, mn, mc, pa, pn, pc, ea, en, ec, rfl, hm7, he7, hb7⟩; have HM7 := Lib.hid hm7; have HE7 := Lib.hid he7; have HB7 := Lib.hid (ext_trans (ext_alloc HB6.out _) hb7); clear hm7 he7 hb7))
       | (refine wpList_store_fresh rfl 36 (.tmp 11) (.tmp 61) rfl rfl #[.slice ma mn mc, .slice pa pn pc, .slice ea en ec] 36 _ rfl (by first | rfl | kernel_rfl) (by kernel_rfl) (by kernel_rfl) (by kernel_rfl) ?_))
      clear z0 z1 z2 z3 zL
      obtain ⟨g11, hg11⟩ : ∃ g, w7.heap.size = g := ⟨_, rfl⟩
      obtain ⟨w8, hw8⟩ : ∃ w8, w8 = w7.alloc (.cells #[.slice ma mn mc, .slice pa pn pc, .slice ea en ec] 36) := ⟨_, rfl⟩
      have m8 : Bk w8 g11 36 #[.slice ma mn mc, .slice pa pn pc, .slice ea en ec] := by rw [hw8, ← hg11]; exact bk_new _ _ _
      have b78 : Below w7.heap.size w7 w8 := by rw [hw8]; exact ext_alloc (Below.refl _ _) _
      rw [← hw8]
      try rw [hg11]
      have HB8 := Lib.hid (ext_trans HB7.out b78)
      have HM8 := Lib.hid (HM7.out.below b78)
      have HE8 := Lib.hid (HE7.out.below b78)
      have y0 := m8.cell 0
      have y1 := m8.cell 1
      have y2 := m8.cell 2
      have yL := m8.lt
      simp only [List.getElem?_toArray, List.getElem?_cons_zero, List.getElem?_cons_succ] at y0 y1 y2
      clear hw8 hg11 m8 b78 HM7 HE7
      go_upto_region 21 with (first
       | (go_at_call 17; ((with_reducible refine (DOS.out _ ma mn mc pa pn pc ea en ec HB8.out HM8.out HE8.out).mono ?_); rintro e w9 ⟨va, vc, vm, rfl, hs9, hb9⟩; have HS9 := Lib.hid hs9; have HB9 := Lib.hid (ext_trans HB8.out hb9); clear hs9 hb9))
       | (refine wpList_store_fresh rfl 41 (.tmp 13) (.tmp 74) rfl rfl #[.int .i64 0, .int .i64 u, .slice va 1 vc, .int .i64 L] 41 _ rfl (by first | rfl | kernel_rfl) (by kernel_rfl) (by kernel_rfl) (by kernel_rfl) ?_))
      clear y0 y1 y2 yL
      obtain ⟨g13, hg13⟩ : ∃ g, w9.heap.size = g := ⟨_, rfl⟩
      obtain ⟨wa, hwa⟩ : ∃ wa, wa = w9.alloc (.cells #[.int .i64 0, .int .i64 u, .slice va 1 vc, .int .i64 L] 41) := ⟨_, rfl⟩
      have ma_ : Bk wa g13 41 #[.int .i64 0, .int .i64 u, .slice va 1 vc, .int .i64 L] := by rw [hwa, ← hg13]; exact bk_new _ _ _
      have b9a : Below w9.heap.size w9 wa := by rw [hwa]; exact ext_alloc (Below.refl _ _) _
      rw [← hwa]
      try rw [hg13]
      have HBA := Lib.hid (ext_trans HB9.out b9a)
      have HSA := Lib.hid (HS9.out.below b9a)
      have MA := Lib.hid ma_
      clear hwa hg13 ma_ b9a HS9
      go_upto_region 22 with (go_at_call 18; ((with_reducible refine (PK.out _ (HE.out.below HBA.out).asc).mono ?_); rintro e wb ⟨rfl, hbb⟩; have HBB := Lib.hid (ext_trans HBA.out hbb); have HSB := Lib.hid (HSA.out.below hbb); have MB := Lib.hid (bk_keep hbb MA.out); clear hbb))
      obtain ⟨x0, x1, x2, x3⟩ := cellsM4 MB.out
      have xL := MB.out.lt
      have FW := Lib.hid (fun W (h : Below wb.heap.size wb W) => cellsM4 (bk_keep h MB.out))
      have qL : max (n7 : Int) 1 = (L : Int) := by have := HLL.out; omega
      go_wp2_with (go_at_call 19; ((with_reducible refine (eqs_Int va (some ⟨wb.heap.size, 0, none⟩) 1 vc 1 [u] _ (HSB.out.below (ext_alloc (Below.refl _ _) _)) (lit_sl1 #[.int .i64 u] u rfl)).mono ?_); rintro e wd ⟨rfl, hbd⟩; have hbw := ext_trans (ext_alloc (Below.refl wb.heap.size wb) _) hbd; obtain ⟨t0, t1, t2, t3⟩ := FW.out _ hbw; have tL := Nat.lt_of_lt_of_le xL hbw.size; have HBD := Lib.hid (ext_trans HBB.out hbw); clear hbd hbw))
      go_ret
      exact ⟨rfl, HBD.out⟩
 ·have q7 : (7 : Int) < (n : Int) := by omega
  have p1 : (7 : Int) ≤ (c : Int) := by omega
  have p2 : 7 ≤ c := by omega
  have hsl := sl_front hxs (k := 7) (by omega)
  obtain ⟨args, hargs⟩ : ∃ args, xs.take 7 = args := ⟨_, rfl⟩
  rw [hargs] at hsl
  clear hxs he hle hargs
  go_enter Tryz.func3, Tryz.ntmps3
  go_upto_region 3 with (fail)
  have hnl : args.length = 7 := hsl.len
  have SL := Lib.hid hsl
  clear hsl
  obtain ⟨L, hL⟩ : ∃ L, max 7 1 = L := ⟨_, rfl⟩
  have hL1 : 1 ≤ L := by omega
  have hL7 : L ≤ 7 := by omega
  have HL1 := Lib.hid hL1
  have HL7 := Lib.hid hL7
  have HLL := Lib.hid hL
  have HNL := Lib.hid hnl
  clear hL1 hL7 hnl hL
  go_upto_region 6 with (fail)
  go_loopw [3, 5] (fun t i wr => ∃ r : Nat, 1 ≤ r ∧ r ≤ L ∧ i = .int .i64 r ∧ t = .string (ba (txtS r)) ∧ Below w.heap.size w wr) (fun _ i _ => 7 - (intOf i).toNat)
  case atStart => exact ⟨1, Nat.le_refl _, HL1.out, rfl, rfl, Below.refl _ _⟩
  case round =>
   obtain ⟨r, hr1, hrL, rfl, rfl, hb⟩ := hrel
   have HB := Lib.hid hb
   clear hb
   by_cases hlt : r < 7
   ·have q0 : (r : Int) < (7 : Int) := by omega
    have hr7 : r ≤ 7 := by have := HL7.out; omega
    have dg := fun W => digits_any (r : Int) ⟨by omega, by omega⟩ W
    have g1 := itoa_lenS (r : Int) ⟨by omega, by omega⟩
    have g2 := txt_len hr1 hr7
    obtain ⟨Z, hZ⟩ : ∃ Z : ByteArray, (⟨(Lib.itoa (r : Int)).toArray⟩ : ByteArray) = Z := ⟨_, rfl⟩
    rw [hZ] at dg
    obtain ⟨Y, hY⟩ : ∃ Y, ba (addS ++ Lib.itoa (r : Int)) = Y := ⟨_, rfl⟩
    obtain ⟨T, hT⟩ : ∃ T, ba (txtS r) = T := ⟨_, rfl⟩
    obtain ⟨T2, hT2⟩ : ∃ T2, ba (txtS (r + 1)) = T2 := ⟨_, rfl⟩
    have a1 : Op.stringOp .add ⟨#[10, 97, 100, 100, 32, 114, 48, 32, 114, 48, 32, 114]⟩ Z = pure (.string Y) := by
     rw [← hZ, ← hY]
     exact baS_add addS (Lib.itoa (r : Int)) (by have : addS.length = 12 := rfl; omega)
    have a2 : Op.stringOp .add T Y = pure (.string T2) := by
     rw [← hT, ← hY, ← hT2, txt_next r hr1]
     exact baS_add (txtS r) (addS ++ Lib.itoa (r : Int)) (by have : addS.length = 12 := rfl; rw [List.length_append]; omega)
    have e1 : IntKind.i64.wrap ((r : Int) + 1) = (r : Int) + 1 := by rw [IntKind.wrap_i64]; omega
    rw [hT]
    have HT2 := Lib.hid hT2
    have DG := Lib.hid dg
    clear dg g1 g2 hZ hY hT hT2
    go_wp2_with (go_at_call 13; ((with_reducible refine (DG.out _).mono ?_); rintro e w5 ⟨rfl, hb5⟩; have HB5 := Lib.hid (ext_trans HB.out hb5); clear hb5))
    go_roundw
    case rel => exact ⟨r + 1, by omega, by have := HLL.out; omega, by go_num, by rw [HT2.out], HB5.out⟩
    case measure =>
     have e9 : IntKind.i64.wrap ((r : Int) + 1) = (r : Int) + 1 := by rw [IntKind.wrap_i64]; omega
     simp only [intOf, e9]
     omega
   ·have q0 : ¬ ((r : Int) < (7 : Int)) := by omega
    obtain rfl : L = r := by have := HLL.out; omega
    clear hr1 hrL hlt
    go_upto_region 10 with (fail)
    obtain ⟨w2, hw2⟩ : ∃ w2, w2 = wr := ⟨_, rfl⟩
    rw [← hw2] at HB ⊢
    clear hw2 wr
    go_loopw [4, 35] (fun t i wr => ∃ k : Nat, k ≤ 7 ∧ i = .int .i64 k ∧ t = .int .i64 (wantS (args.take k)) ∧ (args.take k).all num32B = true ∧ Below w.heap.size w wr) (fun _ i _ => 7 - (intOf i).toNat)
    case atStart => exact ⟨0, Nat.zero_le _, rfl, rfl, rfl, HB.out⟩
    case round =>
     obtain ⟨k, hk, rfl, rfl, hall, hb⟩ := hrel
     have HB2 := Lib.hid hb
     clear hb
     by_cases hlt : k < 7
     ·have q1 : (0 : Int) ≤ k := by omega
      have q2 : (k : Int) < 7 := by omega
      obtain ⟨x, hgx⟩ : ∃ x, args[k]? = some x := ⟨_, List.getElem?_eq_getElem (by rw [HNL.out]; exact hlt)⟩
      obtain ⟨ad, rfl, bx, e0⟩ := sl_int (SL.out.below HB2.out) hlt hgx
      have htk : args.take (k + 1) = args.take k ++ [x] := by rw [List.take_add_one, hgx]; rfl
      by_cases hlo : x < -2147483648
      ·clear htk hgx hall
       go_wp2
       go_ret
       exact ⟨rfl, HB2.out⟩
      ·by_cases hhi : (2147483647 : Int) < x
       ·clear htk hgx hall
        go_wp2
        go_ret
        exact ⟨rfl, HB2.out⟩
       ·have wb := wantS_bd (args.take k)
        have hw : wantS (args.take (k + 1)) = wrap32 (wantS (args.take k) + x) := by rw [htk, wantS_snoc]
        have ha2 : (args.take (k + 1)).all num32B = true := by
         rw [htk, List.all_append, hall]
         simp [num32B]
         omega
        obtain ⟨u, hu⟩ : ∃ u, wantS (args.take k) = u := ⟨_, rfl⟩
        rw [hu] at wb hw ⊢
        have e2 : IntKind.i64.wrap (u + x) = u + x := by rw [IntKind.wrap_i64]; omega
        have rw_ := fun W => refwrap_any (u + x) ⟨by omega, by omega⟩ W
        have RW := Lib.hid rw_
        have HW := Lib.hid hw
        have HA2 := Lib.hid ha2
        clear rw_ hw ha2 htk hgx hall hu wb
        go_wp2_with (go_at_call 14; ((with_reducible refine (RW.out _).mono ?_); rintro e w5 ⟨rfl, hw5⟩; subst hw5))
        go_roundw
        case rel => exact ⟨k + 1, by omega, by go_num, by rw [HW.out], HA2.out, HB2.out⟩
        case measure => simp [intOf]; omega
     ·have q1 : ¬ ((k : Int) < 7) := by omega
      obtain rfl : 7 = k := by omega
      rw [show args.take 7 = args by rw [← HNL.out, List.take_length]] at hall ⊢
      obtain ⟨w3, hw3⟩ : ∃ w3, w3 = wr := ⟨_, rfl⟩
      rw [← hw3] at HB2 ⊢
      have hLa : L = max args.length 1 := by rw [HNL.out, HLL.out]
      have law := sum_law args (by rw [HNL.out]; have := HL7.out; have := HLL.out; omega) hall L hLa
      obtain ⟨u, hu⟩ : ∃ u, wantS args = u := ⟨_, rfl⟩
      rw [hu] at law ⊢
      have g2 := txt_len HL1.out HL7.out
      obtain ⟨T, hT⟩ : ∃ T, ba (txtS L) = T := ⟨_, rfl⟩
      obtain ⟨S, hS⟩ : ∃ S, ba (txtS L ++ tailS) = S := ⟨_, rfl⟩
      have a3 : Op.stringOp .add T ⟨#[10, 116, 101, 108, 108, 32, 114, 48, 10, 104, 97, 108, 116]⟩ = pure (.string S) := by
       rw [← hT, ← hS]
       exact baS_add (txtS L) tailS (by have : tailS.length = 13 := rfl; omega)
      have mk := fun W (hW : Below w.heap.size w W) => make_S HL1.out HL7.out W (HE.out.below hW)
      rw [hS] at mk
      have lk := fun W ga (r : ModR) (h : Mods W ga 1 [r] [modS L]) => link_S HL1.out HL7.out W ga r h
      have dos := fun W ma mn mc pa pn pc ea en ec hb' h1 h2 => do_S (w := W) (ma := ma) (mn := mn) (mc := mc) (pa := pa) (pn := pn) (pc := pc) (ea := ea) (en := en) (ec := ec) HL1.out HL7.out ao 7 c args u law (HE.out.below hb') h1 h2 (SL.out.below hb') (all_I64 hall)
      have pk := fun W (hW : Tab W) => pack_halt W hW
      have MK := Lib.hid mk
      have LK := Lib.hid lk
      have DOS := Lib.hid dos
      have PK := Lib.hid pk
      rw [hT]
      clear mk lk dos pk hT hS g2 hu hall law hLa hw3
      go_upto_region 17 with (first
       | (go_at_call 15; ((with_reducible refine (MK.out _ HB2.out).mono ?_); rintro e w5 ⟨⟨⟨ra, rn, rc⟩, ⟨sa, sn, sc⟩, ⟨ta, tn, tc⟩, ⟨ia, in_, ic⟩⟩, rfl, hr5, hb5⟩; have HR5 := Lib.hid hr5; have HB5 := Lib.hid (ext_trans HB2.out hb5); clear hr5 hb5))
       | (refine wpList_store_fresh rfl 28 (.tmp 8) (.tmp 54) rfl rfl #[.slice ra rn rc, .slice sa sn sc, .slice ta tn tc, .slice ia in_ ic] 28 _ rfl (by first | rfl | kernel_rfl) (by kernel_rfl) (by kernel_rfl) (by kernel_rfl) ?_))
      obtain ⟨g8, hg8⟩ : ∃ g, w5.heap.size = g := ⟨_, rfl⟩
      obtain ⟨w6, hw6⟩ : ∃ w6, w6 = w5.alloc (.cells #[.slice ra rn rc, .slice sa sn sc, .slice ta tn tc, .slice ia in_ ic] 28) := ⟨_, rfl⟩
      have m6 : Bk w6 g8 28 #[.slice ra rn rc, .slice sa sn sc, .slice ta tn tc, .slice ia in_ ic] := by rw [hw6, ← hg8]; exact bk_new _ _ _
      have b56 : Below w5.heap.size w5 w6 := by rw [hw6]; exact ext_alloc (Below.refl _ _) _
      rw [← hw6]
      try rw [hg8]
      have HB6 := Lib.hid (ext_trans HB5.out b56)
      have MO := Lib.hid (mods_one (HR5.out.below b56))
      obtain ⟨z0, z1, z2, z3⟩ := cellsM4 m6
      have zL := m6.lt
      clear hw6 hg8 m6 b56 HR5
      go_upto_region 18 with (first
       | (go_at_call 16; ((with_reducible refine (LK.out _ _ _ MO.out).mono ?_); rintro e w7 ⟨ma, mn, mc, pa, pn, pc, ea, en, ec, rfl, hm7, he7, hb7⟩; have HM7 := Lib.hid hm7; have HE7 := Lib.hid he7; have HB7 := Lib.hid (ext_trans (ext_alloc HB6.out _) hb7); clear hm7 he7 hb7))
       | (refine wpList_store_fresh rfl 36 (.tmp 11) (.tmp 61) rfl rfl #[.slice ma mn mc, .slice pa pn pc, .slice ea en ec] 36 _ rfl (by first | rfl | kernel_rfl) (by kernel_rfl) (by kernel_rfl) (by kernel_rfl) ?_))
      clear z0 z1 z2 z3 zL
      obtain ⟨g11, hg11⟩ : ∃ g, w7.heap.size = g := ⟨_, rfl⟩
      obtain ⟨w8, hw8⟩ : ∃ w8, w8 = w7.alloc (.cells #[.slice ma mn mc, .slice pa pn pc, .slice ea en ec] 36) := ⟨_, rfl⟩
      have m8 : Bk w8 g11 36 #[.slice ma mn mc, .slice pa pn pc, .slice ea en ec] := by rw [hw8, ← hg11]; exact bk_new _ _ _
      have b78 : Below w7.heap.size w7 w8 := by rw [hw8]; exact ext_alloc (Below.refl _ _) _
      rw [← hw8]
      try rw [hg11]
      have HB8 := Lib.hid (ext_trans HB7.out b78)
      have HM8 := Lib.hid (HM7.out.below b78)
      have HE8 := Lib.hid (HE7.out.below b78)
      have y0 := m8.cell 0
      have y1 := m8.cell 1
      have y2 := m8.cell 2
      have yL := m8.lt
      simp only [List.getElem?_toArray, List.getElem?_cons_zero, List.getElem?_cons_succ] at y0 y1 y2
      clear hw8 hg11 m8 b78 HM7 HE7
      go_upto_region 21 with (first
       | (go_at_call 17; ((with_reducible refine (DOS.out _ ma mn mc pa pn pc ea en ec HB8.out HM8.out HE8.out).mono ?_); rintro e w9 ⟨va, vc, vm, rfl, hs9, hb9⟩; have HS9 := Lib.hid hs9; have HB9 := Lib.hid (ext_trans HB8.out hb9); clear hs9 hb9))
       | (refine wpList_store_fresh rfl 41 (.tmp 13) (.tmp 74) rfl rfl #[.int .i64 0, .int .i64 u, .slice va 1 vc, .int .i64 L] 41 _ rfl (by first | rfl | kernel_rfl) (by kernel_rfl) (by kernel_rfl) (by kernel_rfl) ?_))
      clear y0 y1 y2 yL
      obtain ⟨g13, hg13⟩ : ∃ g, w9.heap.size = g := ⟨_, rfl⟩
      obtain ⟨wa, hwa⟩ : ∃ wa, wa = w9.alloc (.cells #[.int .i64 0, .int .i64 u, .slice va 1 vc, .int .i64 L] 41) := ⟨_, rfl⟩
      have ma_ : Bk wa g13 41 #[.int .i64 0, .int .i64 u, .slice va 1 vc, .int .i64 L] := by rw [hwa, ← hg13]; exact bk_new _ _ _
      have b9a : Below w9.heap.size w9 wa := by rw [hwa]; exact ext_alloc (Below.refl _ _) _
      rw [← hwa]
      try rw [hg13]
      have HBA := Lib.hid (ext_trans HB9.out b9a)
      have HSA := Lib.hid (HS9.out.below b9a)
      have MA := Lib.hid ma_
      clear hwa hg13 ma_ b9a HS9
      go_upto_region 22 with (go_at_call 18; ((with_reducible refine (PK.out _ (HE.out.below HBA.out).asc).mono ?_); rintro e wb ⟨rfl, hbb⟩; have HBB := Lib.hid (ext_trans HBA.out hbb); have HSB := Lib.hid (HSA.out.below hbb); have MB := Lib.hid (bk_keep hbb MA.out); clear hbb))
      obtain ⟨x0, x1, x2, x3⟩ := cellsM4 MB.out
      have xL := MB.out.lt
      have FW := Lib.hid (fun W (h : Below wb.heap.size wb W) => cellsM4 (bk_keep h MB.out))
      have qL : max (7 : Int) 1 = (L : Int) := by have := HLL.out; omega
      go_wp2_with (go_at_call 19; ((with_reducible refine (eqs_Int va (some ⟨wb.heap.size, 0, none⟩) 1 vc 1 [u] _ (HSB.out.below (ext_alloc (Below.refl _ _) _)) (lit_sl1 #[.int .i64 u] u rfl)).mono ?_); rintro e wd ⟨rfl, hbd⟩; have hbw := ext_trans (ext_alloc (Below.refl wb.heap.size wb) _) hbd; obtain ⟨t0, t1, t2, t3⟩ := FW.out _ hbw; have tL := Nat.lt_of_lt_of_le xL hbw.size; have HBD := Lib.hid (ext_trans HBB.out hbw); clear hbd hbw))
      go_ret
      exact ⟨rfl, HBD.out⟩
end Go.Proofs.YtpjhjefjbkjhkaaGreatDoor
