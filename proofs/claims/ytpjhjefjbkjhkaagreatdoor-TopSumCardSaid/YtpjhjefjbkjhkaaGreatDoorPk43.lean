import Derived.Test.YtpjhjefjbkjhkaaGreatDoorPk33
import Derived.Test.YtpjhjefjbkjhkaaGreatDoorPk38
import Derived.Test.YtpjhjefjbkjhkaaGreatDoorPk42
import Derived.Test.YtpjhjefjbkjhkaaGreatDoorPk27
import Derived.KernelRfl
import Derived.JoinedCond
import Derived.Test.YtpjhjefjbkjhkaaGreatDoorPk40
import Derived.Test.YtpjhjefjbkjhkaaGreatDoorRows
set_option maxHeartbeats 40000000
set_option maxRecDepth 100000
set_option linter.unusedVariables false
set_option linter.unusedSimpArgs false
namespace Go.Proofs.YtpjhjefjbkjhkaaGreatDoor
open Go.RowKit
def N1 {α : Type} (x : Ex α) : Prop := ∀ e : Int, x = .error e → e ≠ 1
end Go.Proofs.YtpjhjefjbkjhkaaGreatDoor
namespace Go.Proofs.YtpjhjefjbkjhkaaGreatDoor
open Go.RowKit
structure DoneV where
 e : Int
 n : Int
 out : List Int
 fuel : Int
def entM (M : List ValV) (x : EntryV) (args : List Int) : MV := ⟨entR x args, entK x, M, [], []⟩
def runD (r : MV × Int × Int) : DoneV := ⟨if r.2.2 = 16 then 0 else r.2.2, if (r.1.R.getD 0 zeroV).is then 0 else (r.1.R.getD 0 zeroV).n, r.1.out, r.2.1⟩
def doX (M : List ValV) (r : MV × Int × Int) : DoneV × List ValV := if r.2.2 = 1 then (⟨1, 0, [], 0⟩, M) else (runD r, r.1.mem)
def doF (M : List ValV) (E : List EntryV) (s : ByteArray) (args : List Int) (f : Int) : DoneV × List ValV :=
 if enterE E s args ≠ 0 then (⟨enterE E s args, 0, [], 0⟩, M) else doX M (runF (entM M ((findE E s).getD zeroE) args) f)
theorem entM_8 (M : List ValV) (x : EntryV) (args : List Int) : (entM M x args).R.length = 8 := by
 show (entR x args).length = 8
 unfold entR
 rw [List.length_set, argR_len]
end Go.Proofs.YtpjhjefjbkjhkaaGreatDoor
namespace Go.Proofs.YtpjhjefjbkjhkaaGreatDoor
open Go Go.RowKit Go.Shelf
theorem rline_any (g : Nat) (r : RdV) (vc vl vh : Value) (n : Int) (s : ByteArray) (w : World) (h : RdSt g r vc vl vh w) (he : PEnv w) (hs : s.size ≤ 67108864) (hn1 : r.code.length ≤ 1000) (hn2 : r.holes.length ≤ 1000) (hn3 : r.labels.length ≤ 1000) :
  Calls Tryz.prog 88 #[.pointer (some ⟨g, 0, none⟩), .int .i64 n, .string s] w (RdPost g w (lineR r n s.data.toList).1 (lineR r n s.data.toList).2) := by
 have gL := h.b.lt
 have gS := h.gle
 have hsl : s.data.toList.length = s.size := rfl
 have cs : ∀ W, _ := fun W => Tryz.strings_CutSuffix s ⟨#[58]⟩ W (by omega)
 by_cases h1 : 80 < s.size
 ·have e : lineR r n s.data.toList = (r, 2) := by unfold lineR; rw [if_pos (by omega)]
  rw [e]
  have q1 : (80 : Int) < s.size := by omega
  have ST := Lib.hid h
  clear h he e cs hsl
  go_enter Tryz.func88, Tryz.ntmps88
  go_wp2
  go_ret
  exact rd_post ST.out (Below.refl _ _) rfl
 have q1 : ¬ ((80 : Int) < s.size) := by omega
 cases h2 : Lib.hasSuffix s.data.toList [58]
 ·have c1 : Lib.hasSuffix s.data.toList (⟨#[58]⟩ : ByteArray).data.toList = false := h2
  simp only [c1] at cs
  by_cases h3 : s.data.toList = []
  ·have e : lineR r n s.data.toList = (r, 0) := by unfold lineR; rw [if_neg (by omega), if_neg (by rw [h2]; simp), if_pos h3]
   rw [e]
   have q0 : s.toList.isEmpty = true := by rw [ByteArray.toList_eq, h3]; rfl
   have ST := Lib.hid h
   have CS := Lib.hid cs
   clear h he e cs hsl h1 h2 h3 c1
   go_enter Tryz.func88, Tryz.ntmps88
   go_wp2_with (go_at_call 117; ((with_reducible refine (CS.out _).mono ?_); rintro e w' ⟨rfl, hw'⟩; subst w'))
   go_ret
   exact rd_post ST.out (Below.refl _ _) rfl
  ·have e : lineR r n s.data.toList = cellR r n s.data.toList := by unfold lineR; rw [if_neg (by omega), if_neg (by rw [h2]; simp), if_neg h3]
   rw [e]
   have q0 : s.toList.isEmpty = false := by
    rw [ByteArray.toList_eq]
    cases hh : s.data.toList with
    | nil => exact absurd hh h3
    | cons x y => rfl
   have ce := rcell_any g r vc vl vh n s w h he (by omega) hn1 hn2
   obtain ⟨r', hr'⟩ : ∃ r', (cellR r n s.data.toList).1 = r' := ⟨_, rfl⟩
   obtain ⟨er, her⟩ : ∃ er, (cellR r n s.data.toList).2 = er := ⟨_, rfl⟩
   rw [hr', her] at ce ⊢
   have CE := Lib.hid ce
   have CS := Lib.hid cs
   clear h he e cs hsl h1 h2 h3 c1 ce hr' her
   go_enter Tryz.func88, Tryz.ntmps88
   go_wp2_with (first
    | (go_at_call 117; ((with_reducible refine (CS.out _).mono ?_); rintro e w' ⟨rfl, hw'⟩; subst w'))
    | (go_at_call 119; ((with_reducible refine CE.out.mono ?_); rintro e w1 ⟨rfl, ⟨vc', vl', vh', hst⟩, hb⟩; have S1 := Lib.hid hst; have HB := Lib.hid hb; clear hst hb)))
   go_ret
   exact rd_post S1.out HB.out rfl
 ·have c1 : Lib.hasSuffix s.data.toList (⟨#[58]⟩ : ByteArray).data.toList = true := h2
  obtain ⟨q, hq⟩ : ∃ q : ByteArray, (⟨(Lib.trimSuffix s.data.toList [58]).toArray⟩ : ByteArray) = q := ⟨_, rfl⟩
  have hq2 : (⟨(Lib.trimSuffix s.data.toList (⟨#[58]⟩ : ByteArray).data.toList).toArray⟩ : ByteArray) = q := hq
  simp only [c1, hq2] at cs
  have e : lineR r n s.data.toList = labelR r q := by unfold lineR; rw [if_neg (by omega), if_pos h2, ← hq]; rfl
  rw [e]
  have hqs : q.size ≤ s.size := by
   have h3 : q.size = q.data.toList.length := rfl
   have h4 : q.data.toList = Lib.trimSuffix s.data.toList [58] := by rw [← hq]
   rw [h3, h4, ← hsl]
   unfold Lib.trimSuffix
   split
   all_goals first
    | exact Nat.le_refl _
    | (rw [List.length_take]; omega)
  have ce := rlabel_any g r vc vl vh q w h (by omega) hn1 hn3
  obtain ⟨r', hr'⟩ : ∃ r', (labelR r q).1 = r' := ⟨_, rfl⟩
  obtain ⟨er, her⟩ : ∃ er, (labelR r q).2 = er := ⟨_, rfl⟩
  rw [hr', her] at ce ⊢
  have CE := Lib.hid ce
  have CS := Lib.hid cs
  clear h he e cs hsl h1 h2 c1 ce hr' her hqs hq hq2
  go_enter Tryz.func88, Tryz.ntmps88
  go_wp2_with (first
   | (go_at_call 117; ((with_reducible refine (CS.out _).mono ?_); rintro e w' ⟨rfl, hw'⟩; subst w'))
   | (go_at_call 118; ((with_reducible refine CE.out.mono ?_); rintro e w1 ⟨rfl, ⟨vc', vl', vh', hst⟩, hb⟩; have S1 := Lib.hid hst; have HB := Lib.hid hb; clear hst hb)))
  go_ret
  exact rd_post S1.out HB.out rfl
end Go.Proofs.YtpjhjefjbkjhkaaGreatDoor
namespace Go.Proofs.YtpjhjefjbkjhkaaGreatDoor
open Go Go.RowKit
structure RInv (r : RdV) : Prop where
 h1 : ∀ h ∈ r.holes, 0 ≤ h.at_ ∧ h.at_ < r.code.length
 h2 : r.holes.Pairwise fun a b => a.at_ < b.at_
 l1 : ∀ x ∈ r.labels, isNameB x.name = true ∧ 0 ≤ x.at_ ∧ x.at_ ≤ r.code.length
 l2 : r.labels.Pairwise fun a b => a.name ≠ b.name
theorem rd0_inv : RInv rd0 := ⟨by simp [rd0], by simp [rd0], by simp [rd0], by simp [rd0]⟩
theorem findA_no {l : List NamV} {s : ByteArray} (hl : ∀ x ∈ l, 0 ≤ x.at_) (h : findA l s < 0) : ∀ x ∈ l, x.name ≠ s := by
 intro x hx e
 unfold findA at h
 cases hf : l.find? (fun x => decide (x.name = s)) with
 | none =>
  rw [List.find?_eq_none] at hf
  exact hf x hx (by simpa using e)
 | some y =>
  rw [hf] at h
  have := hl y (List.mem_of_find?_eq_some hf)
  simp only at h
  omega
theorem line_inv {r : RdV} (hi : RInv r) {n : Int} {s : List UInt8} (h : (lineR r n s).2 = 0) : RInv (lineR r n s).1 := by
 obtain ⟨a1, a2, a3, a4⟩ := hi
 have more : ∀ k : Int, RInv ⟨r.code ++ [k], r.labels, r.holes⟩ := fun k =>
  ⟨fun x hx => by have := a1 x hx; simp only [List.length_append, List.length_singleton]; push_cast; omega, a2, fun x hx => by have := a3 x hx; simp only [List.length_append, List.length_singleton]; push_cast; exact ⟨this.1, this.2.1, by omega⟩, a4⟩
 unfold lineR at h ⊢
 split
 ·exact ⟨a1, a2, a3, a4⟩
 next h1 =>
 rw [if_neg h1] at h
 split
 ·next h2 =>
  rw [if_pos h2] at h
  unfold labelR at h ⊢
  split
  ·exact ⟨a1, a2, a3, a4⟩
  next g1 =>
  split
  ·exact ⟨a1, a2, a3, a4⟩
  next g2 =>
  have g2' := Int.not_le.1 g2
  split
  ·exact ⟨a1, a2, a3, a4⟩
  refine ⟨a1, a2, fun x hx => ?_, ?_⟩
  ·rcases List.mem_append.1 hx with h3 | h3
   ·exact a3 x h3
   ·rw [List.mem_singleton] at h3
    subst h3
    exact ⟨by simpa using g1, by simp only; omega, Int.le_refl _⟩
  ·refine List.pairwise_append.2 ⟨a4, List.pairwise_singleton _ _, fun x hx y hy => ?_⟩
   rw [List.mem_singleton] at hy
   subst hy
   exact findA_no (fun z hz => (a3 z hz).2.1) g2' x hx
 next h2 =>
 rw [if_neg h2] at h
 split
 ·exact ⟨a1, a2, a3, a4⟩
 next h3 =>
 rw [if_neg h3] at h
 unfold cellR at h ⊢
 split
 ·split
  ·exact more _
  ·exact ⟨a1, a2, a3, a4⟩
 split
 ·obtain ⟨b1, b2, b3, b4⟩ := more 0
  refine ⟨fun x hx => ?_, ?_, b3, b4⟩
  ·rcases List.mem_append.1 hx with h3 | h3
   ·exact b1 x h3
   ·rw [List.mem_singleton] at h3
    subst h3
    simp only [List.length_append, List.length_singleton]
    push_cast; omega
  ·refine List.pairwise_append.2 ⟨a2, List.pairwise_singleton _ _, fun x hx y hy => ?_⟩
   rw [List.mem_singleton] at hy
   subst hy
   exact (a1 x hx).2
 split
 ·exact more _
 ·exact ⟨a1, a2, a3, a4⟩
theorem lines_inv : ∀ (ls : List (List UInt8)) (r : RdV) (n : Nat), RInv r → (linesR r n ls).2.2 = 0 → RInv (linesR r n ls).1
 | [], r, n, hi, _ => hi
 | s :: ls, r, n, hi, h => by
  rw [lines_cons] at h ⊢
  split
  ·next hk => rw [if_pos hk] at h; exact lines_inv ls _ _ (line_inv hi hk) h
  ·next hk => rw [if_neg hk] at h; exact absurd h hk
end Go.Proofs.YtpjhjefjbkjhkaaGreatDoor
namespace Go.Proofs.YtpjhjefjbkjhkaaGreatDoor
open Go Go.RowKit
end Go.Proofs.YtpjhjefjbkjhkaaGreatDoor
namespace Go.Proofs.YtpjhjefjbkjhkaaGreatDoor
open Go Go.ChangeShapes Go.WideShapes Go.ChangeAt Go.RowKit
theorem jfA : (Rows.topSumRow.inPlace == Tryz.pinned.checked.prog.inPlace 3) = true := by kernel_rfl
theorem jfB : (Rows.topSumRow.unfollowed == Tryz.pinned.checked.prog.unfollowed 3) = true := by kernel_rfl
theorem jfC : (Rows.topSumRow.recurses == Tryz.pinned.checked.prog.recurses 3) = true := by kernel_rfl
theorem jfD : (Rows.topSumRow.named == Tryz.pinned.checked.prog.varsNamed 3) = true := by kernel_rfl
theorem jf : joinedFacts Tryz.pinned.checked.prog 3 Tryz.f3 (OpenSpec.ofChange Rows.topSumSpec).bare Rows.topSumRow = true := by
 unfold joinedFacts
 rw [jfA, jfB, jfC, jfD]
 kernel_rfl
end Go.Proofs.YtpjhjefjbkjhkaaGreatDoor
