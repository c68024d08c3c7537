import Derived.Test.YtpjhjefjbkjhkaaGreatDoorProgCellZ
/- The reader of a program: line. -/
namespace Go.Proofs.YtpjhjefjbkjhkaaGreatDoor
open Go Go.RowKit Go.Shelf
set_option linter.unusedVariables false
set_option linter.unusedSimpArgs false
set_option maxHeartbeats 8000000 in
set_option maxRecDepth 100000 in
theorem rline_any (g : Nat) (r : RdV) (vc vl vh : Value) (n : Int) (s : ByteArray) (w : World) (h : RdSt g r vc vl vh w) (he : PEnv w) (hs : s.size ≤ 67108864) (hn1 : r.code.length ≤ 1000) (hn2 : r.holes.length ≤ 1000) (hn3 : r.labels.length ≤ 1000) :
    Calls Tryz.prog 88 #[.pointer (some ⟨g, 0, none⟩), .int .i64 n, .string s] w (RdPost g w (lineR r n s.data.toList).1 (lineR r n s.data.toList).2) := by
  have gL := h.b.lt
  have gS := h.gle
  have hsl : s.data.toList.length = s.size := rfl
  have cs : ∀ W, _ := fun W => Tryz.strings_CutSuffix s ⟨#[58]⟩ W (by omega)
  by_cases h1 : 80 < s.size
  · have e : lineR r n s.data.toList = (r, 2) := by unfold lineR; rw [if_pos (by omega)]
    rw [e]
    have q1 : (80 : Int) < s.size := by omega
    have ST := Lib.hid h
    clear h he e cs hsl
    go_enter Tryz.func88, Tryz.ntmps88
    go_wp2
    go_ret
    exact rd_post ST.out (Below.refl _ _) rfl
  have q1 : ¬ ((80 : Int) < s.size) := by omega
  cases h2 : Lib.hasSuffix s.data.toList [58]
  · have c1 : Lib.hasSuffix s.data.toList (⟨#[58]⟩ : ByteArray).data.toList = false := h2
    simp only [c1] at cs
    by_cases h3 : s.data.toList = []
    · have e : lineR r n s.data.toList = (r, 0) := by unfold lineR; rw [if_neg (by omega), if_neg (by rw [h2]; simp), if_pos h3]
      rw [e]
      have q0 : s.toList.isEmpty = true := by rw [ByteArray.toList_eq, h3]; rfl
      have ST := Lib.hid h
      have CS := Lib.hid cs
      clear h he e cs hsl h1 h2 h3 c1
      go_enter Tryz.func88, Tryz.ntmps88
      go_wp2_with (go_at_call 117; ((with_reducible refine (CS.out _).mono ?_); rintro e w' ⟨rfl, hw'⟩; subst w'))
      go_ret
      exact rd_post ST.out (Below.refl _ _) rfl
    · have e : lineR r n s.data.toList = cellR r n s.data.toList := by unfold lineR; rw [if_neg (by omega), if_neg (by rw [h2]; simp), if_neg h3]
      rw [e]
      have q0 : s.toList.isEmpty = false := by
        rw [ByteArray.toList_eq]
        cases hh : s.data.toList with
        | nil => exact absurd hh h3
        | cons x y => rfl
      have ce := rcell_any g r vc vl vh n s w h he (by omega) hn1 hn2
      obtain ⟨r', hr'⟩ : ∃ r', (cellR r n s.data.toList).1 = r' := ⟨_, rfl⟩
      obtain ⟨er, her⟩ : ∃ er, (cellR r n s.data.toList).2 = er := ⟨_, rfl⟩
      rw [hr', her] at ce ⊢
      have CE := Lib.hid ce
      have CS := Lib.hid cs
      clear h he e cs hsl h1 h2 h3 c1 ce hr' her
      go_enter Tryz.func88, Tryz.ntmps88
      go_wp2_with (first
        | (go_at_call 117; ((with_reducible refine (CS.out _).mono ?_); rintro e w' ⟨rfl, hw'⟩; subst w'))
        | (go_at_call 119; ((with_reducible refine CE.out.mono ?_); rintro e w1 ⟨rfl, ⟨vc', vl', vh', hst⟩, hb⟩; have S1 := Lib.hid hst; have HB := Lib.hid hb; clear hst hb)))
      go_ret
      exact rd_post S1.out HB.out rfl
  · have c1 : Lib.hasSuffix s.data.toList (⟨#[58]⟩ : ByteArray).data.toList = true := h2
    obtain ⟨q, hq⟩ : ∃ q : ByteArray, (⟨(Lib.trimSuffix s.data.toList [58]).toArray⟩ : ByteArray) = q := ⟨_, rfl⟩
    have hq2 : (⟨(Lib.trimSuffix s.data.toList (⟨#[58]⟩ : ByteArray).data.toList).toArray⟩ : ByteArray) = q := hq
    simp only [c1, hq2] at cs
    have e : lineR r n s.data.toList = labelR r q := by unfold lineR; rw [if_neg (by omega), if_pos h2, ← hq]; rfl
    rw [e]
    have hqs : q.size ≤ s.size := by
      have h3 : q.size = q.data.toList.length := rfl
      have h4 : q.data.toList = Lib.trimSuffix s.data.toList [58] := by rw [← hq]
      rw [h3, h4, ← hsl]
      unfold Lib.trimSuffix
      split
      all_goals first
        | exact Nat.le_refl _
        | (rw [List.length_take]; omega)
    have ce := rlabel_any g r vc vl vh q w h (by omega) hn1 hn3
    obtain ⟨r', hr'⟩ : ∃ r', (labelR r q).1 = r' := ⟨_, rfl⟩
    obtain ⟨er, her⟩ : ∃ er, (labelR r q).2 = er := ⟨_, rfl⟩
    rw [hr', her] at ce ⊢
    have CE := Lib.hid ce
    have CS := Lib.hid cs
    clear h he e cs hsl h1 h2 c1 ce hr' her hqs hq hq2
    go_enter Tryz.func88, Tryz.ntmps88
    go_wp2_with (first
      | (go_at_call 117; ((with_reducible refine (CS.out _).mono ?_); rintro e w' ⟨rfl, hw'⟩; subst w'))
      | (go_at_call 118; ((with_reducible refine CE.out.mono ?_); rintro e w1 ⟨rfl, ⟨vc', vl', vh', hst⟩, hb⟩; have S1 := Lib.hid hst; have HB := Lib.hid hb; clear hst hb)))
    go_ret
    exact rd_post S1.out HB.out rfl
end Go.Proofs.YtpjhjefjbkjhkaaGreatDoor
