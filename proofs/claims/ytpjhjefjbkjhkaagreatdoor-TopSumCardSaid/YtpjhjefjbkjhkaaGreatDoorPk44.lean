import Derived.Test.YtpjhjefjbkjhkaaGreatDoorPk23
import Derived.Test.YtpjhjefjbkjhkaaGreatDoorPk38
import Derived.Test.YtpjhjefjbkjhkaaGreatDoorPk43
import Derived.Test.YtpjhjefjbkjhkaaGreatDoorPk26
import Derived.Test.YtpjhjefjbkjhkaaGreatDoorPk27
set_option maxHeartbeats 40000000
set_option maxRecDepth 100000
set_option linter.unusedVariables false
set_option linter.unusedSimpArgs false
namespace Go.Proofs.YtpjhjefjbkjhkaaGreatDoor
open Go Go.RowKit
def codeS (L : Nat) : List Int := ((List.range (L - 1)).map fun j => packF ⟨3, 0, 0, ((j + 1 : Nat) : Int)⟩) ++ [packF ⟨22, 0, 0, 0⟩, packF ⟨0, 0, 0, 0⟩]
abbrev sumB : ByteArray := ⟨#[115, 117, 109]⟩
abbrev addS : List UInt8 := [10, 97, 100, 100, 32, 114, 48, 32, 114, 48, 32, 114]
abbrev tailS : List UInt8 := [10, 116, 101, 108, 108, 32, 114, 48, 10, 104, 97, 108, 116]
def txtS (r : Nat) : List UInt8 := [115, 117, 109, 58] ++ (List.range (r - 1)).flatMap fun j => addS ++ Lib.itoa ((j + 1 : Nat) : Int)
theorem txt_next (r : Nat) (h : 1 ≤ r) : txtS (r + 1) = txtS r ++ (addS ++ Lib.itoa (r : Int)) := by
 unfold txtS
 rw [show r + 1 - 1 = (r - 1) + 1 by omega, List.range_succ, List.flatMap_append, List.append_assoc]
 congr 2
 rw [List.flatMap_cons, List.flatMap_nil, List.append_nil, show r - 1 + 1 = r by omega]
theorem seven {L : Nat} (h1 : 1 ≤ L) (h7 : L ≤ 7) : L = 1 ∨ L = 2 ∨ L = 3 ∨ L = 4 ∨ L = 5 ∨ L = 6 ∨ L = 7 := by omega
theorem read_S {L : Nat} (h1 : 1 ≤ L) (h7 : L ≤ 7) : readF (txtS L ++ tailS) = ⟨codeS L, [⟨sumB, 0⟩], 0, 0⟩ := by
 rcases seven h1 h7 with rfl | rfl | rfl | rfl | rfl | rfl | rfl <;> kernel_rfl
theorem txt_len {L : Nat} (h1 : 1 ≤ L) (h7 : L ≤ 7) : (txtS L).length ≤ 100 := by
 rcases seven h1 h7 with rfl | rfl | rfl | rfl | rfl | rfl | rfl <;> exact of_decide_eq_true (by kernel_rfl)
def modS (L : Nat) : ModV := ⟨codeS L, [], [⟨sumB, 0⟩], []⟩
theorem sumB_ok : isNameB sumB = true := by kernel_rfl
theorem codeS_ok {L : Nat} (h1 : 1 ≤ L) (h7 : L ≤ 7) : (codeS L).length ≤ 120 ∧ nums32 (codeS L) ∧ 0 < (codeS L).length := by
 have h : ∀ l : List Int, (decide (l.length ≤ 120) && (l.all fun n => decide (-2147483648 ≤ n ∧ n ≤ 2147483647)) && decide (0 < l.length)) = true → l.length ≤ 120 ∧ nums32 l ∧ 0 < l.length := by
  intro l h
  simp only [Bool.and_eq_true, decide_eq_true_eq, List.all_eq_true] at h
  exact ⟨h.1.1, fun n hn => h.1.2 n hn, h.2⟩
 rcases seven h1 h7 with rfl | rfl | rfl | rfl | rfl | rfl | rfl <;> exact h _ (by kernel_rfl)
theorem modS_ok {L : Nat} (h1 : 1 ≤ L) (h7 : L ≤ 7) : ModOk isNameB (modS L) := by
 obtain ⟨c1, c2, c3⟩ := codeS_ok h1 h7
 refine ⟨c1, by simp [modS], by simp [modS], by simp [modS], c2, (fun n hn => by simp [modS] at hn), (fun x hx => ?_), by simp [modS], (fun x hx => by simp [modS] at hx), by simp [modS]⟩
 simp [modS] at hx
 subst hx
 exact ⟨sumB_ok, by decide, by show (0 : Int) < ((codeS L).length : Int); omega⟩
theorem linkS_ok {L : Nat} (h1 : 1 ≤ L) (h7 : L ≤ 7) : LinkOk isNameB [modS L] := by
 obtain ⟨c1, c2, c3⟩ := codeS_ok h1 h7
 refine ⟨by simp, fun m hm => by simp at hm; subst hm; exact modS_ok h1 h7, by simp [exNames, modS], ?_, by simp [imNames, modS]⟩
 rw [total_cons, total_nil]
 show (codeS L).length + 0 + 0 ≤ 400
 omega
def wantS (l : List Int) : Int := l.foldl (fun w n => wrap32 (w + n)) 0
theorem wantS_snoc (l : List Int) (n : Int) : wantS (l ++ [n]) = wrap32 (wantS l + n) := by unfold wantS; rw [List.foldl_append]; rfl
theorem wantS_bd (l : List Int) : -2147483648 ≤ wantS l ∧ wantS l ≤ 2147483647 := by
 rcases List.eq_nil_or_concat l with rfl | ⟨l', n, rfl⟩
 ·exact ⟨by decide, by decide⟩
 ·rw [List.concat_eq_append, wantS_snoc]; exact w32_bd _
def SumRun (L : Nat) (args : List Int) (w : Int) : Prop :=
 let r := (entM (linkMem [modS L]) ((findE (entriesF 0 0 [modS L]) sumB).getD zeroE) args).run 20
 r.1.R.getD 0 zeroV = nV w ∧ r.1.out = [w] ∧ r.2.1 = L ∧ r.2.2 = 16
theorem run0 : SumRun 1 [] 0 := ⟨by kernel_rfl, by kernel_rfl, by kernel_rfl, by kernel_rfl⟩
theorem run1 (a : Int) : SumRun 1 [a] a := ⟨by kernel_rfl, by kernel_rfl, by kernel_rfl, by kernel_rfl⟩
theorem run2 (a b : Int) : SumRun 2 [a, b] (addF a b) := ⟨by kernel_rfl, by kernel_rfl, by kernel_rfl, by kernel_rfl⟩
theorem run3 (a b c : Int) : SumRun 3 [a, b, c] (addF (addF a b) c) := ⟨by kernel_rfl, by kernel_rfl, by kernel_rfl, by kernel_rfl⟩
theorem run4 (a b c d : Int) : SumRun 4 [a, b, c, d] (addF (addF (addF a b) c) d) := ⟨by kernel_rfl, by kernel_rfl, by kernel_rfl, by kernel_rfl⟩
theorem run5 (a b c d e : Int) : SumRun 5 [a, b, c, d, e] (addF (addF (addF (addF a b) c) d) e) := ⟨by kernel_rfl, by kernel_rfl, by kernel_rfl, by kernel_rfl⟩
theorem run6 (a b c d e f : Int) : SumRun 6 [a, b, c, d, e, f] (addF (addF (addF (addF (addF a b) c) d) e) f) := ⟨by kernel_rfl, by kernel_rfl, by kernel_rfl, by kernel_rfl⟩
theorem run7 (a b c d e f g : Int) : SumRun 7 [a, b, c, d, e, f, g] (addF (addF (addF (addF (addF (addF a b) c) d) e) f) g) := ⟨by kernel_rfl, by kernel_rfl, by kernel_rfl, by kernel_rfl⟩
theorem find_S {L : Nat} (h1 : 1 ≤ L) (h7 : L ≤ 7) : ∃ x, findE (entriesF 0 0 [modS L]) sumB = some x ∧ x ∈ entriesF 0 0 [modS L] := by
 have h : (findE (entriesF 0 0 [modS L]) sumB).isSome = true := by
  rcases seven h1 h7 with rfl | rfl | rfl | rfl | rfl | rfl | rfl <;> kernel_rfl
 obtain ⟨x, hx⟩ := Option.isSome_iff_exists.1 h
 exact ⟨x, hx, List.mem_of_find?_eq_some hx⟩
theorem bare_okS {k : KeyV} (h : k.Ok) : (⟨k.perm, k.base, k.len, k.at_, 0⟩ : KeyV).Ok := ⟨h.p0, h.p1, h.b0, h.b1, h.l0, h.l1, h.a0, h.a1, Int.le_refl 0, show (0 : Int) ≤ 63 by decide⟩
theorem ent_okS {M : List ValV} {E : List EntryV} {x : EntryV} {args : List Int} (h : ImOk M E) (hx : x ∈ E) (ha : args.all num32B = true) : MOk (entR x args) (entK x) M [] [] := by
 obtain ⟨k1, k2⟩ := h.k x hx
 obtain ⟨m1, m2⟩ := (memCheck_zero M).1 h.m
 refine ⟨fun v hv => ?_, ?_, m1, m2, by simp, fun f hf => by simp at hf, by simp, fun n hn => by simp at hn⟩
 ·unfold entR at hv
  rcases List.mem_or_eq_of_mem_set hv with hv | rfl
  ·unfold argR at hv
   obtain ⟨i, _, rfl⟩ := List.mem_map.1 hv
   split
   ·next hi =>
    have := List.all_eq_true.1 ha _ (List.getElem_mem hi)
    have e : args.getD i 0 = args[i] := by rw [List.getD, List.getElem?_eq_getElem hi]; rfl
    rw [e]
    unfold num32B at this
    simp at this
    exact .inr ⟨rfl, by simp only; omega, by simp only; omega, rfl⟩
   ·exact .inr ⟨rfl, by decide, by decide, rfl⟩
  ·exact .inl ⟨rfl, bare_okS k2, rfl⟩
 ·exact bare_okS k1
theorem sum_law (args : List Int) (h7 : args.length ≤ 7) (ha : args.all num32B = true) (L : Nat) (hL : L = max args.length 1) :
  (doF (linkMem [modS L]) (entriesF 0 0 [modS L]) sumB args 20).1 = ⟨0, wantS args, [wantS args], (L : Int)⟩ := by
 have h1 : 1 ≤ L := by omega
 have h7' : L ≤ 7 := by omega
 obtain ⟨x, hx, hm⟩ := find_S h1 h7'
 have hok := (linkS_ok h1 h7').im_ok
 have hen : enterE (entriesF 0 0 [modS L]) sumB args = 0 := by
  unfold enterE
  rw [if_neg (by omega), if_neg (by rw [ha]; decide), if_neg (by rw [hx]; exact fun h => by cases h)]
 have hmk : (entM (linkMem [modS L]) x args).Ok := ⟨ent_okS hok hm ha, entM_8 _ _ _⟩
 have hrun : SumRun L args (wantS args) := by
  have q : ∀ n ∈ args, -2147483648 ≤ n ∧ n ≤ 2147483647 := fun n hn => of_decide_eq_true (List.all_eq_true.1 ha n hn)
  match args, hL, q, h7 with
  | [], hL, _, _ => subst hL; exact run0
  | [a], hL, q, _ =>
   subst hL
   have eq_ : wantS [a] = a := by
    show wrap32 (0 + a) = a
    rw [Int.zero_add, w32_of (q a (by simp)).1 (q a (by simp)).2]
   rw [eq_]; exact run1 a
  | [a, b], hL, q, _ =>
   subst hL
   have e0 : wrap32 (0 + a) = a := by rw [Int.zero_add, w32_of (q a (by simp)).1 (q a (by simp)).2]
   have eq_ : wantS [a, b] = addF a b := by
    show wrap32 (wrap32 (0 + a) + b) = _
    rw [e0]
    simp only [addF_eq]
   rw [eq_]; exact run2 a b
  | [a, b, c], hL, q, _ =>
   subst hL
   have e0 : wrap32 (0 + a) = a := by rw [Int.zero_add, w32_of (q a (by simp)).1 (q a (by simp)).2]
   have eq_ : wantS [a, b, c] = addF (addF a b) c := by
    show wrap32 (wrap32 (wrap32 (0 + a) + b) + c) = _
    rw [e0]
    simp only [addF_eq]
   rw [eq_]; exact run3 a b c
  | [a, b, c, d], hL, q, _ =>
   subst hL
   have e0 : wrap32 (0 + a) = a := by rw [Int.zero_add, w32_of (q a (by simp)).1 (q a (by simp)).2]
   have eq_ : wantS [a, b, c, d] = addF (addF (addF a b) c) d := by
    show wrap32 (wrap32 (wrap32 (wrap32 (0 + a) + b) + c) + d) = _
    rw [e0]
    simp only [addF_eq]
   rw [eq_]; exact run4 a b c d
  | [a, b, c, d, e], hL, q, _ =>
   subst hL
   have e0 : wrap32 (0 + a) = a := by rw [Int.zero_add, w32_of (q a (by simp)).1 (q a (by simp)).2]
   have eq_ : wantS [a, b, c, d, e] = addF (addF (addF (addF a b) c) d) e := by
    show wrap32 (wrap32 (wrap32 (wrap32 (wrap32 (0 + a) + b) + c) + d) + e) = _
    rw [e0]
    simp only [addF_eq]
   rw [eq_]; exact run5 a b c d e
  | [a, b, c, d, e, f], hL, q, _ =>
   subst hL
   have e0 : wrap32 (0 + a) = a := by rw [Int.zero_add, w32_of (q a (by simp)).1 (q a (by simp)).2]
   have eq_ : wantS [a, b, c, d, e, f] = addF (addF (addF (addF (addF a b) c) d) e) f := by
    show wrap32 (wrap32 (wrap32 (wrap32 (wrap32 (wrap32 (0 + a) + b) + c) + d) + e) + f) = _
    rw [e0]
    simp only [addF_eq]
   rw [eq_]; exact run6 a b c d e f
  | [a, b, c, d, e, f, g], hL, q, _ =>
   subst hL
   have e0 : wrap32 (0 + a) = a := by rw [Int.zero_add, w32_of (q a (by simp)).1 (q a (by simp)).2]
   have eq_ : wantS [a, b, c, d, e, f, g] = addF (addF (addF (addF (addF (addF a b) c) d) e) f) g := by
    show wrap32 (wrap32 (wrap32 (wrap32 (wrap32 (wrap32 (wrap32 (0 + a) + b) + c) + d) + e) + f) + g) = _
    rw [e0]
    simp only [addF_eq]
   rw [eq_]; exact run7 a b c d e f g
  | a :: b :: c :: d :: e :: f :: g :: h :: t, _, _, h7 => simp at h7
 unfold SumRun at hrun
 rw [hx] at hrun
 obtain ⟨r1, r2, r3, r4⟩ := hrun
 simp only [Option.getD_some] at r1 r2 r3 r4
 unfold doF
 rw [if_neg (by rw [hen]; decide), hx]
 simp only [Option.getD_some]
 have hg := runF_good (m := entM (linkMem [modS L]) x args) (f := 20) (by decide) (check_of_ok hmk)
 rw [show ((20 : Nat) : Int) = 20 from rfl] at hg
 rw [hg]
 unfold doX
 rw [if_neg (by rw [r4]; decide)]
 show runD _ = _
 unfold runD
 rw [r1, r2, r3, r4]
 rfl
end Go.Proofs.YtpjhjefjbkjhkaaGreatDoor
