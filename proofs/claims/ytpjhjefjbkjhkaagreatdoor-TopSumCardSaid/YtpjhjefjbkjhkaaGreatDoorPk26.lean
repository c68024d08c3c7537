import Derived.Test.YtpjhjefjbkjhkaaGreatDoorPk05
import Derived.Test.YtpjhjefjbkjhkaaGreatDoorPk07
import Derived.BigQuiet
import Derived.Deep.QuietTactic
import Derived.Test.YtpjhjefjbkjhkaaGreatDoorPk23
import Derived.Test.YtpjhjefjbkjhkaaGreatDoorShelf
import Derived.WalkKit
import Derived.WalkSpells
import Derived.Test.YtpjhjefjbkjhkaaGreatDoorPk25
import Derived.Test.YtpjhjefjbkjhkaaGreatDoorSplitMath
import Derived.Test.YtpjhjefjbkjhkaaGreatDoorPk03
import Derived.Test.YtpjhjefjbkjhkaaGreatDoorPk02
set_option maxHeartbeats 40000000
set_option maxRecDepth 100000
set_option linter.unusedVariables false
set_option linter.unusedSimpArgs false
namespace Go.Proofs.YtpjhjefjbkjhkaaGreatDoor
open Go.RowKit
end Go.Proofs.YtpjhjefjbkjhkaaGreatDoor
namespace Go.Proofs.YtpjhjefjbkjhkaaGreatDoor
open Go Go.RowKit Go.Shelf
def badRune (c : Nat) : Bool := (decide (c < 97) || decide (122 < c)) && (decide (c < 48) || decide (57 < c))
def byte0 (s : ByteArray) : Nat := if h : 0 < s.size then (s[0]'h).toNat else 0
def isNameB (s : ByteArray) : Bool := decide (s.size ≠ 0) && decide (s.size ≤ 12) && decide (97 ≤ byte0 s) && !decide (0 ≤ Lib.idxFunc badRune true s)
theorem name_pred (w : World) : PredAt Tryz.prog 102 #[] encR badRune w := by
 intro W x hb
 unfold FnGives
 show Calls Tryz.prog 102 #[.int .i32 (x : Int)] W _
 by_cases h1 : x < 97
 ·have q1 : (x : Int) < 97 := by omega
  by_cases h3 : x < 48
  ·have q3 : (x : Int) < 48 := by omega
   have e : badRune x = true := by unfold badRune; simp; omega
   rw [e]
   go_enter Tryz.func102, Tryz.ntmps102
   go_wp2
   go_ret
   exact ⟨rfl, 0, rfl⟩
  ·have q3 : ¬ ((x : Int) < 48) := by omega
   by_cases h4 : 57 < x
   ·have q4 : (57 : Int) < x := by omega
    have e : badRune x = true := by unfold badRune; simp; omega
    rw [e]
    go_enter Tryz.func102, Tryz.ntmps102
    go_wp2
    go_ret
    exact ⟨rfl, 0, rfl⟩
   ·have q4 : ¬ ((57 : Int) < x) := by omega
    have e : badRune x = false := by unfold badRune; simp; omega
    rw [e]
    go_enter Tryz.func102, Tryz.ntmps102
    go_wp2
    go_ret
    exact ⟨rfl, 0, rfl⟩
 ·have q1 : ¬ ((x : Int) < 97) := by omega
  by_cases h2 : 122 < x
  ·have q2 : (122 : Int) < x := by omega
   have q3 : ¬ ((x : Int) < 48) := by omega
   have q4 : (57 : Int) < x := by omega
   have e : badRune x = true := by unfold badRune; simp; omega
   rw [e]
   go_enter Tryz.func102, Tryz.ntmps102
   go_wp2
   go_ret
   exact ⟨rfl, 0, rfl⟩
  ·have q2 : ¬ ((122 : Int) < x) := by omega
   have e : badRune x = false := by unfold badRune; simp; omega
   rw [e]
   go_enter Tryz.func102, Tryz.ntmps102
   go_wp2
   go_ret
   exact ⟨rfl, 0, rfl⟩
theorem isName_any (s : ByteArray) (hs : s.size ≤ 9223372036854775807) (w : World) : Calls Tryz.prog 65 #[.string s] w fun e w' => e = .returned (.bool (isNameB s)) ∧ Below w.heap.size w w' := by
 have cf := fun W => Tryz.strings_ContainsFunc 102 #[] (fun args w => enters_of Tryz.func102 (by kernel_rfl) rfl args w) badRune s W (name_pred W)
 by_cases h0 : s.size = 0
 ·have e0 : s = ByteArray.empty := by
   obtain ⟨⟨l⟩⟩ := s
   have : l.length = 0 := h0
   rw [List.eq_nil_of_length_eq_zero this]; rfl
  subst e0
  have e : isNameB ByteArray.empty = false := by unfold isNameB; simp
  rw [e]
  clear cf
  go_enter Tryz.func65, Tryz.ntmps65
  go_wp2
  go_ret
  exact ⟨rfl, Below.refl _ _⟩
 ·have g0 : s.toList.isEmpty = false := by
   rw [ByteArray.toList_eq]
   cases h : s.data.toList with
   | nil => exact absurd (by rw [← ByteArray.size_data, ← Array.length_toList, h]; rfl) h0
   | cons a l => rfl
  have CF := Lib.hid cf
  by_cases h1 : 12 < s.size
  ·have q1 : (12 : Int) < s.size := by omega
   have e : isNameB s = false := by unfold isNameB; simp; omega
   rw [e]
   clear cf
   go_enter Tryz.func65, Tryz.ntmps65
   go_wp2
   go_ret
   exact ⟨rfl, Below.refl _ _⟩
  ·have q1 : ¬ ((12 : Int) < s.size) := by omega
   have q0 : (0 : Int) < s.size := by omega
   have hp : 0 < s.size := by omega
   have hb0 : byte0 s = (s[0]'hp).toNat := by unfold byte0; rw [dif_pos hp]
   obtain ⟨C, hC⟩ : ∃ C, decide (0 ≤ Lib.idxFunc badRune true s) = C := ⟨_, rfl⟩
   rw [hC] at CF
   by_cases h2 : byte0 s < 97
   ·have q2 : (((s[0]'hp).toNat : Nat) : Int) < 97 := by omega
    have e : isNameB s = false := by unfold isNameB; simp; omega
    rw [e]
    clear cf CF hC
    go_enter Tryz.func65, Tryz.ntmps65
    go_wp2
    go_ret
    exact ⟨rfl, Below.refl _ _⟩
   ·have q2 : ¬ ((((s[0]'hp).toNat : Nat) : Int) < 97) := by omega
    have e : isNameB s = !C := by
     unfold isNameB
     rw [hC, decide_eq_true h0, decide_eq_true (show s.size ≤ 12 by omega), decide_eq_true (show 97 ≤ byte0 s by omega)]
     simp
    rw [e]
    clear cf hC
    go_enter Tryz.func65, Tryz.ntmps65
    go_wp2_with (go_at_call 101; ((with_reducible refine (CF.out _).mono ?_); rintro e w' ⟨rfl, hb⟩))
    go_ret
    exact ⟨rfl, hb⟩
end Go.Proofs.YtpjhjefjbkjhkaaGreatDoor
namespace Go.Proofs.YtpjhjefjbkjhkaaGreatDoor
open Go.RowKit
def opLook (wd : List UInt8) : Int :=
 match (List.range 23).find? (fun k => decide (wordL k = wd)) with
 | some k => (k : Int)
 | none => -1
def stepP (has : Bool) (l : List (List UInt8)) : List (List UInt8) × Int := if has = true ∧ 1 < l.length then (l.tail, atoiV (Lib.trimPrefix (l.tail.headD []) [114])) else (l, 0)
def hasA (op : Int) : Bool := opB op && shA op
def hasB (op : Int) : Bool := opB op && shB op
def hasC (op : Int) : Bool := opB op && (shC op != 0)
def parseR (s : List UInt8) : InstV :=
 let l := splitC 32 s
 let op := opLook (l.headD [])
 let p := stepP (hasA op) l
 let q := stepP (hasB op) p.1
 let r := stepP (hasC op) q.1
 ⟨op, p.2, q.2, r.2⟩
def parseF (s : List UInt8) : InstV × Int := if instOk (parseR s) = true ∧ textL (parseR s) = s then (parseR s, 0) else (zeroI, 3)
theorem look_word : ∀ k, k < 23 → opLook (wordL k) = k := by decide
theorem parse_ok {s : List UInt8} {i : InstV} (h : parseF s = (i, 0)) : instOk i = true ∧ textL i = s := by
 unfold parseF at h
 split at h
 ·next h1 =>
  injection h with h _
  rw [← h]; exact h1
 ·injection h with _ h; cases h
end Go.Proofs.YtpjhjefjbkjhkaaGreatDoor
namespace Go.Proofs.YtpjhjefjbkjhkaaGreatDoor
open Go.RowKit
end Go.Proofs.YtpjhjefjbkjhkaaGreatDoor
namespace Go.Proofs.YtpjhjefjbkjhkaaGreatDoor
open Go Go.RowKit Go.Shelf
theorem var_below {n : String} {vs : Array Value} {w w' : World} (h : w.var? Tryz.prog n = some vs) (hb : Below w.heap.size w w') : w'.var? Tryz.prog n = some vs := by
 unfold World.var? at h ⊢
 cases hg : Tryz.prog.globalNamed n with
 | none => rw [hg] at h; cases h
 | some g =>
  rw [hg] at h
  simp only [Option.bind_some] at h ⊢
  have hlt : g < w.heap.size := by
   rcases Nat.lt_or_ge g w.heap.size with hlt | hge
   ·exact hlt
   ·rw [Array.getElem?_eq_none hge] at h; cases h
  rw [hb.block g hlt]
  exact h
structure PEnv (w : World) : Prop where
 asc : Tab w
 ten : Tab10 w
 mx : ∃ m : Int, w.cell? ⟨1, 0, none⟩ = some (.int .i64 m)
 syn : ∃ tp p, w.var? Tryz.prog "strconv.ErrSyntax" = some #[.iface tp p]
 rng : ∃ tp p, w.var? Tryz.prog "strconv.ErrRange" = some #[.iface tp p]
theorem PEnv.below {w w' : World} (h : PEnv w) (hb : Below w.heap.size w w') : PEnv w' := by
 obtain ⟨m, hm⟩ := h.mx
 obtain ⟨t1, p1, h1⟩ := h.syn
 obtain ⟨t2, p2, h2⟩ := h.rng
 exact ⟨h.asc.below hb, h.ten.below hb, ⟨m, (hb.cell (World.block_lt_of_cell? w _ hm)).trans hm⟩, ⟨t1, p1, var_below h1 hb⟩, ⟨t2, p2, var_below h2 hb⟩⟩
theorem atoi_any (s : ByteArray) (w : World) (h : PEnv w) (hs : s.size ≤ 67108864) : Calls Tryz.prog 153 #[.string s] w fun e w' => ∃ ev, e = .returned (.tuple #[.int .i64 (atoiV s.data.toList), ev]) ∧ Below w.heap.size w w' := by
 unfold atoiV
 cases ha : Lib.atoiAll s.data.toList with
 | ok v =>
  refine (Tryz.strconv_Atoi_ok s (by omega) v ha w).mono ?_
  rintro e w' ⟨rfl, rfl | ⟨t, rfl⟩⟩
  ·exact ⟨_, rfl, Below.refl _ _⟩
  ·exact ⟨_, rfl, Lib.bytesWorld_below w _ _⟩
 | range =>
  obtain ⟨tp, p, hv⟩ := h.rng
  refine (Tryz.strconv_Atoi_range_var s (by omega) ha tp p w hv).mono ?_
  rintro e w' ⟨N, rfl, _, _, hb⟩
  exact ⟨_, rfl, hb⟩
 | _ =>
  obtain ⟨tp, p, hv⟩ := h.syn
  refine (Tryz.strconv_Atoi_syntax_var s (by omega) ha tp p w hv).mono ?_
  rintro e w' ⟨N, rfl, _, _, hb⟩
  exact ⟨_, rfl, hb⟩
theorem info_str : (Tryz.prog.info? 9).map (fun i => (i.zero, i.size, i.bytes)) = some (some (.string ByteArray.empty), 1, 16) := by kernel_rfl
theorem ba_of (x : ByteArray) : (⟨x.data.toList.toArray⟩ : ByteArray) = x := ByteArray.ext (by simp)
theorem split_any (s : ByteArray) (c : UInt8) (w : World) (h : PEnv w) (hs : s.size ≤ 67108864) : Calls Tryz.prog 87 #[.string s, .string ⟨#[c]⟩] w fun e w' =>
  e = .returned (.slice (some ⟨w.heap.size, 0, none⟩) (splitC c s.data.toList).length (splitC c s.data.toList).length) ∧ (∀ k x, (splitC c s.data.toList)[k]? = some x → w'.cell? ⟨w.heap.size, k, none⟩ = some (.string ⟨x.toArray⟩)) ∧ Below w.heap.size w w' := by
 obtain ⟨m, hm⟩ := h.mx
 have h1 : 1 ≤ (⟨#[c]⟩ : ByteArray).size := Nat.le_refl _
 have hl : Lib.countB s ⟨#[c]⟩ + 1 = (splitC c s.data.toList).length := by
  rw [← splitB_one, List.length_map, Lib.splitB_all ⟨#[c]⟩ h1 0 _ s rfl]
 refine (Any.strings_Split Tryz.laysM146.ton146 info_str s ⟨#[c]⟩ m w (by omega) hm h1).mono ?_
 rintro e w' ⟨rfl, rfl⟩
 refine ⟨by rw [hl], fun k x hx => ?_, ext_alloc (Below.refl _ _) _⟩
 rw [← splitB_one, List.getElem?_map] at hx
 obtain ⟨y, hy, rfl⟩ := Option.map_eq_some_iff.1 hx
 refine (Bk.cell (bk_new w _ _) k).trans ?_
 rw [List.getElem?_toArray, List.getElem?_map, hy]
 simp only [Option.map_some]
theorem name_eq' {x y : ByteArray} : x.toList = y.toList ↔ x = y := by
 rw [ByteArray.toList_eq, ByteArray.toList_eq]; exact ⟨fun h => Go.WideShapes.bytes_inj h, fun h => by rw [h]⟩
theorem str_eqB (x y : ByteArray) : (x.toList == y.toList) = decide (x.data.toList = y.data.toList) := by
 by_cases h : x = y
 ·subst h; simp
 ·have h1 : (x.toList == y.toList) = false := beq_eq_false_iff_ne.2 fun e => h (name_eq'.1 e)
  rw [h1]
  symm
  rw [decide_eq_false_iff_not]
  exact fun e => h (ByteArray.ext (Array.toList_inj.1 e))
theorem look_front {wd : List UInt8} {k : Nat} (hk : k < 23) (h : ∀ j, j < k → wordL j ≠ wd) (e : wordL k = wd) : opLook wd = k := by
 have := look_word k hk
 rw [e] at this
 exact this
theorem look_none {wd : List UInt8} (h : ∀ j, j < 23 → wordL j ≠ wd) : opLook wd = -1 := by
 unfold opLook
 have : (List.range 23).find? (fun k => decide (wordL k = wd)) = none := by
  rw [List.find?_eq_none]
  intro k hk
  simpa using h k (List.mem_range.1 hk)
 rw [this]
theorem opofw_any (s : ByteArray) (w : World) (ht : Tab w) : Calls Tryz.prog 173 #[.string s] w fun e w' => e = .returned (.int .i64 (opLook s.data.toList)) ∧ Below w.heap.size w w' := by
 have FW := Lib.hid fields_any
 have HT := Lib.hid ht
 clear ht
 go_enter Tryz.func173, Tryz.ntmps173
 go_upto_region 2 with (go_at_call 120; ((with_reducible refine (FW.out _ (by decide +kernel) _ HT.out).mono ?_); rintro e w1 ⟨rfl, hb1, hc1⟩; have HB1 := Lib.hid hb1; have HC1 := Lib.hid hc1; clear hb1 hc1))
 have hbL : w.heap.size < w1.heap.size := World.block_lt_of_cell? w1 _ (HC1.out 0 (by decide))
 go_wp2
 go_loopw [7] (fun i wr => ∃ k : Nat, k ≤ 23 ∧ i = .int .i64 k ∧ (∀ j, j < k → wordL j ≠ s.data.toList) ∧ wr = w1) (fun i _ => 23 - (intOf i).toNat)
 case atStart => exact ⟨0, by omega, rfl, fun j hj => by omega, rfl⟩
 case round =>
  obtain ⟨k, hk, rfl, hno, rfl⟩ := hrel
  have HNO := Lib.hid hno
  clear hno
  by_cases hlt : k < 23
  ·have q0 : (0 : Int) ≤ k := by omega
   have q1 : (k : Int) < 23 := by omega
   have e0 := HC1.out k hlt
   generalize hx : (⟨(wordL k).toArray⟩ : ByteArray) = x at e0
   have hxl : x.data.toList = wordL k := by rw [← hx]
   by_cases he : wordL k = s.data.toList
   ·have f : (x.toList == s.toList) = true := by rw [str_eqB, hxl]; simp [he]
    have hlk := look_front hlt HNO.out he
    have HLK := Lib.hid hlk
    clear he hlk hxl hx
    go_wp2
    go_ret
    exact ⟨ret_int HLK.out.symm, HB1.out⟩
   ·have f : (x.toList == s.toList) = false := by rw [str_eqB, hxl]; simp [he]
    have hn : ∀ j, j < k + 1 → wordL j ≠ s.data.toList := fun j hj => by
     rcases Nat.lt_or_ge j k with h | h
     ·exact HNO.out j h
     ·obtain rfl : j = k := by omega
      exact he
    have HN := Lib.hid hn
    clear he hn hxl hx
    go_wp2
    go_roundw
    case rel => exact ⟨k + 1, by omega, by go_num, HN.out, by first | rfl | trivial⟩
    case measure => simp [intOf]; omega
  ·have q1 : ¬ ((k : Int) < 23) := by omega
   obtain rfl : k = 23 := by omega
   have hlk := look_none HNO.out
   have HLK := Lib.hid hlk
   clear hlk
   go_wp2
   go_ret
   exact ⟨ret_int HLK.out.symm, HB1.out⟩
end Go.Proofs.YtpjhjefjbkjhkaaGreatDoor
namespace Go.Proofs.YtpjhjefjbkjhkaaGreatDoor
open Go.RowKit
end Go.Proofs.YtpjhjefjbkjhkaaGreatDoor
namespace Go.Proofs.YtpjhjefjbkjhkaaGreatDoor
open El (cl)
open Go.Joins Go.ChangeShapes Go.WideShapes Go.ChangeAt Go.RowKit Go.Deep
section
variable {H : Type} {enc : TypeId × Value → H} {w : World} {spare : Nat → Bool} {held : Bool}
theorem int_cellsP {fuel : Nat} {cs : List Value} {x : DataW H × List MemPlace} (h : DataW.trod enc Tryz.prog w 0 spare held fuel 3 cs = some x) (hl : cs.length = 1) : ∃ n : Int, cs = cl n ∧ I64 n := by
 match cs, hl with
 | [c0], _ =>
  obtain ⟨a, f0, _, w0⟩ := DataW.trod_int Tryz.underlying3 h
  simp at f0
  subst f0
  exact ⟨a, rfl, wf_bd w0⟩
theorem open_ints {r : Reach} {b0 : Nat} {v : Value} {d : DataW H} {p : List MemPlace} (hv : Value.okWide Tryz.prog w r b0 22 v) (h : DataW.Trod enc Tryz.prog w 0 spare held 22 v d p) :
  ∃ x : SlV Int, v = x.val ∧ x.ok I64 w ∧ (x.n = 0 ∨ ∃ es sp, d = .slice es sp ∧ es.length = x.n) :=
 open_els Tryz.underlying22 (by kernel_rfl) (fun fuel cs x hx hl => int_cellsP hx hl) hv h
end
end Go.Proofs.YtpjhjefjbkjhkaaGreatDoor
