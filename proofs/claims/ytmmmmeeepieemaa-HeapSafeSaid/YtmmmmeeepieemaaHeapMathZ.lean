import Derived.Test.YtmmmmeeepieemaaBuA
import Derived.Test.YtmmmmeeepieemaaPieceZ
/- A heap as plain data: no program in sight. -/
namespace Go.Proofs.Ytmmmmeeepieemaa
open Go.RowKit
set_option linter.unusedVariables false
def mayB (p : PieceV) : Bool := decide (0 ≤ p.base ∧ 1 ≤ p.len ∧ p.len ≤ 400 ∧ p.base ≤ 400 - p.len ∧ 0 ≤ p.state ∧ p.state ≤ 2)
theorem mayB_iff {p : PieceV} : mayB p = true ↔ 0 ≤ p.base ∧ 1 ≤ p.len ∧ p.len ≤ 400 ∧ p.base ≤ 400 - p.len ∧ 0 ≤ p.state ∧ p.state ≤ 2 := by unfold mayB; simp
/-- May p not stand behind q? -/
def badB (q p : PieceV) : Bool := decide (q.base + q.len ≠ p.base) || (decide (q.state = 0) && decide (p.state = 0))
def badO : Option PieceV → PieceV → Bool
  | none, _ => false
  | some q, p => badB q p
def hErr : Option PieceV → List PieceV → Int
  | _, [] => 0
  | o, p :: ps => if mayB p = false then 1 else if badO o p = true then 5 else hErr (some p) ps
def heapCheck (l : List PieceV) : Int := if 30 < l.length then 2 else hErr none l
theorem hErr_cons {o : Option PieceV} {p : PieceV} {ps : List PieceV} : hErr o (p :: ps) = 0 ↔ mayB p = true ∧ badO o p = false ∧ hErr (some p) ps = 0 := by
  rw [hErr]
  cases h : mayB p
  · simp
  · cases h2 : badO o p
    · simp
    · simp
theorem heapCheck_zero {l : List PieceV} : heapCheck l = 0 ↔ l.length ≤ 30 ∧ hErr none l = 0 := by
  unfold heapCheck
  by_cases h : 30 < l.length
  · rw [if_pos h]; simp; omega
  · rw [if_neg h]; simp; omega
theorem hErr_may : ∀ {l : List PieceV} {o : Option PieceV}, hErr o l = 0 → ∀ p ∈ l, mayB p = true
  | [], _, _, p, hp => by cases hp
  | q :: l, o, h, p, hp => by
    obtain ⟨h1, _, h3⟩ := hErr_cons.1 h
    rcases List.mem_cons.1 hp with rfl | hp
    · exact h1
    · exact hErr_may h3 p hp
/-- The pieces lie one behind the other, from b to e. -/
def cov : Int → List PieceV → Int → Prop
  | b, [], e => b = e
  | b, p :: ps, e => p.base = b ∧ cov (b + p.len) ps e
theorem cov_append : ∀ {l m : List PieceV} {b e : Int}, cov b (l ++ m) e ↔ ∃ x, cov b l x ∧ cov x m e
  | [], m, b, e => by simp [cov]
  | p :: l, m, b, e => by
    rw [List.cons_append, cov, cov_append]
    simp only [cov]
    exact ⟨fun ⟨h, x, h1, h2⟩ => ⟨x, ⟨h, h1⟩, h2⟩, fun ⟨x, ⟨h, h1⟩, h2⟩ => ⟨h, x, h1, h2⟩⟩
theorem cov_le : ∀ {l : List PieceV} {b e : Int}, cov b l e → (∀ p ∈ l, 1 ≤ p.len) → b ≤ e ∧ ∀ p ∈ l, b ≤ p.base ∧ p.base + p.len ≤ e
  | [], b, e, h, _ => ⟨by unfold cov at h; omega, fun p hp => by cases hp⟩
  | q :: l, b, e, h, hl => by
    obtain ⟨h1, h2⟩ := h
    obtain ⟨h3, h4⟩ := cov_le h2 (fun p hp => hl p (List.mem_cons_of_mem _ hp))
    have := hl q (by simp)
    refine ⟨by omega, fun p hp => ?_⟩
    rcases List.mem_cons.1 hp with rfl | hp
    · omega
    · have := h4 p hp; omega
/-- What is given. -/
def gl (l : List PieceV) : List (Int × Int) := (l.filter fun p => decide (p.state = 1)).map fun p => (p.base, p.len)
theorem gl_append (l m : List PieceV) : gl (l ++ m) = gl l ++ gl m := by simp [gl]
theorem gl_cons (p : PieceV) (l : List PieceV) : gl (p :: l) = (if p.state = 1 then [(p.base, p.len)] else []) ++ gl l := by
  unfold gl
  by_cases h : p.state = 1 <;> simp [h]
theorem mem_gl {l : List PieceV} {x : Int × Int} : x ∈ gl l ↔ ∃ p ∈ l, p.state = 1 ∧ (p.base, p.len) = x := by
  unfold gl
  simp [and_assoc]
def apart (x y : Int × Int) : Prop := x.1 + x.2 ≤ y.1 ∨ y.1 + y.2 ≤ x.1
theorem apart_symm {x y : Int × Int} (h : apart x y) : apart y x := by unfold apart at *; omega
theorem cov_apart : ∀ {l : List PieceV} {b e : Int}, cov b l e → (∀ p ∈ l, 1 ≤ p.len) → (gl l).Pairwise apart
  | [], _, _, _, _ => by simp [gl]
  | q :: l, b, e, h, hl => by
    obtain ⟨h1, h2⟩ := h
    have hl' := fun p hp => hl p (List.mem_cons_of_mem _ hp)
    have ih := cov_apart h2 hl'
    obtain ⟨_, h4⟩ := cov_le h2 hl'
    rw [gl_cons]
    split
    · refine List.pairwise_cons.2 ⟨fun x hx => ?_, ih⟩
      obtain ⟨p, hp, _, rfl⟩ := mem_gl.1 hx
      have := h4 p hp
      exact .inl (by simp only; omega)
    · exact ih
/-- The first piece that there is room in, cut. -/
def gv (n : Int) : List PieceV → Option (List PieceV × Int)
  | [] => none
  | p :: ps => if p.state = 0 ∧ n ≤ p.len then some ((if n < p.len then [⟨p.base, n, 1⟩, ⟨p.base + n, p.len - n, 0⟩] else [⟨p.base, n, 1⟩]) ++ ps, p.base)
    else (gv n ps).map fun r => (p :: r.1, r.2)
/-- The first piece that is given there, given back. -/
def bk (b : Int) : List PieceV → Option (List PieceV)
  | [] => none
  | p :: ps => if p.state = 1 ∧ p.base = b then some ({ p with state := 2 } :: ps) else (bk b ps).map (p :: ·)
def freed (p : PieceV) : PieceV := if p.state = 2 then { p with state := 0 } else p
/-- One piece more behind those that are cleaned. -/
def clStep (out : List PieceV) (p : PieceV) : List PieceV :=
  match out.getLast? with
  | some q => if (freed p).state = 0 ∧ q.state = 0 then out.dropLast ++ [{ q with len := q.len + p.len }] else out ++ [freed p]
  | none => out ++ [freed p]
def cleanL (l : List PieceV) : List PieceV := l.foldl clStep []
/-- A key for what is given. -/
def gkey (b n : Int) : KeyV := ⟨27, b, n, b, 0⟩
def giveF (l : List PieceV) (n : Int) : List PieceV × KeyV × Int :=
  if heapCheck l ≠ 0 then ([], zeroK, heapCheck l) else if n < 1 then ([], zeroK, 1) else
    match gv n l with
    | none => ([], zeroK, 7)
    | some (m, b) => if m.length = 31 then ([], zeroK, 9) else (m, gkey b n, 0)
def backF (l : List PieceV) (b : Int) : List PieceV × Int :=
  if heapCheck l ≠ 0 then ([], heapCheck l) else match bk b l with | none => ([], 7) | some m => (m, 0)
def cleanF (l : List PieceV) : List PieceV × Int := if heapCheck l ≠ 0 then ([], heapCheck l) else (cleanL l, 0)
theorem badO_head {o : Option PieceV} {p q : PieceV} (h : badO o p = false) (hb : q.base = p.base) (hs : q.state = 0 → p.state = 0) : badO o q = false := by
  cases o with
  | none => rfl
  | some r =>
    unfold badO badB at *
    simp at h ⊢
    refine ⟨by omega, fun h1 h2 => h.2 h1 (hs h2)⟩
theorem hErr_head {p q : PieceV} {l : List PieceV} (h : hErr (some p) l = 0) (hb : q.base + q.len = p.base + p.len) (hs : q.state = 0 → p.state = 0) : hErr (some q) l = 0 := by
  cases l with
  | nil => rfl
  | cons r l =>
    obtain ⟨h1, h2, h3⟩ := hErr_cons.1 h
    refine hErr_cons.2 ⟨h1, ?_, h3⟩
    unfold badO badB at *
    simp at h2 ⊢
    refine ⟨by omega, fun h4 => h2.2 (hs h4)⟩
/-- Giving keeps the heap a heap. -/
theorem gv_ok {n : Int} (hn : 1 ≤ n) : ∀ {l : List PieceV} {o : Option PieceV} {m : List PieceV} {b x e : Int}, hErr o l = 0 → cov x l e → gv n l = some (m, b) →
    hErr o m = 0 ∧ cov x m e ∧ (gl m).Perm ((b, n) :: gl l) ∧ m.length ≤ l.length + 1 ∧ x ≤ b ∧ b + n ≤ e
  | [], _, _, _, _, _, _, _, h => by simp [gv] at h
  | p :: ps, o, m, b, x, e, hh, hc, h => by
    obtain ⟨h1, h2, h3⟩ := hErr_cons.1 hh
    obtain ⟨c1, c2⟩ := hc
    obtain ⟨m1, m2, m3, m4, m5, m6⟩ := mayB_iff.1 h1
    have hle := cov_le c2 (fun q hq => (mayB_iff.1 (hErr_may h3 q hq)).2.1)
    unfold gv at h
    by_cases hp : p.state = 0 ∧ n ≤ p.len
    · rw [if_pos hp] at h
      injection h with h
      injection h with h hb
      subst h hb
      obtain ⟨p0, pn⟩ := hp
      by_cases hlt : n < p.len
      · rw [if_pos hlt]
        refine ⟨?_, ?_, ?_, ?_, by omega, by omega⟩
        · refine hErr_cons.2 ⟨mayB_iff.2 ⟨m1, hn, by simp only; omega, by simp only; omega, by simp, by simp⟩, badO_head h2 rfl (fun h => by simp at h), hErr_cons.2 ⟨mayB_iff.2 ⟨by simp only; omega, by simp only; omega, by simp only; omega, by simp only; omega, by simp, by simp⟩, ?_, hErr_head h3 (by simp only; omega) (fun _ => p0)⟩⟩
          unfold badO badB; simp
        · refine ⟨c1, ?_, ?_⟩
          · simp only; omega
          · have : x + n + (p.len - n) = x + p.len := by omega
            simp only
            rw [this]; exact c2
        · rw [List.cons_append, List.cons_append, List.nil_append, gl_cons, gl_cons, gl_cons]
          simp [p0]
        · simp
      · rw [if_neg hlt]
        have hnl : n = p.len := by omega
        refine ⟨?_, ?_, ?_, ?_, by omega, by omega⟩
        · exact hErr_cons.2 ⟨mayB_iff.2 ⟨m1, hn, by simp only; omega, by simp only; omega, by simp, by simp⟩, badO_head h2 rfl (fun h => by simp at h), hErr_head h3 (by simp only; omega) (fun h => by simp at h)⟩
        · refine ⟨c1, ?_⟩
          simp only
          rw [hnl]; exact c2
        · rw [List.cons_append, List.nil_append, gl_cons, gl_cons]
          simp [p0]
        · simp
    · rw [if_neg hp] at h
      obtain ⟨⟨m', b'⟩, hg, he⟩ := Option.map_eq_some_iff.1 h
      injection he with he hb
      subst he hb
      obtain ⟨i1, i2, i3, i4, i5, i6⟩ := gv_ok hn h3 c2 hg
      refine ⟨hErr_cons.2 ⟨h1, h2, i1⟩, ⟨c1, i2⟩, ?_, by simp; omega, by omega, by omega⟩
      rw [gl_cons, gl_cons]
      split
      · exact (List.Perm.cons _ i3).trans (List.Perm.swap _ _ _)
      · exact i3
/-- What is given is the first that there is room in. -/
theorem gv_none {n : Int} : ∀ {l : List PieceV}, gv n l = none → ∀ p ∈ l, ¬ (p.state = 0 ∧ n ≤ p.len)
  | [], _, p, hp => by cases hp
  | q :: l, h, p, hp => by
    unfold gv at h
    by_cases hq : q.state = 0 ∧ n ≤ q.len
    · rw [if_pos hq] at h; cases h
    · rw [if_neg hq] at h
      rcases List.mem_cons.1 hp with rfl | hp
      · exact hq
      · exact gv_none (Option.map_eq_none_iff.1 h) p hp
theorem gv_some {n : Int} : ∀ {l m : List PieceV} {b : Int}, gv n l = some (m, b) → ∃ l1 p l2, l = l1 ++ p :: l2 ∧ (∀ q ∈ l1, ¬ (q.state = 0 ∧ n ≤ q.len)) ∧ p.state = 0 ∧ n ≤ p.len ∧ b = p.base ∧
      m = l1 ++ (if n < p.len then [⟨p.base, n, 1⟩, ⟨p.base + n, p.len - n, 0⟩] else [⟨p.base, n, 1⟩]) ++ l2
  | [], _, _, h => by simp [gv] at h
  | q :: l, m, b, h => by
    unfold gv at h
    by_cases hq : q.state = 0 ∧ n ≤ q.len
    · rw [if_pos hq] at h
      injection h with h
      injection h with h hb
      exact ⟨[], q, l, rfl, (fun _ hx => by cases hx), hq.1, hq.2, hb.symm, h.symm⟩
    · rw [if_neg hq] at h
      obtain ⟨⟨m', b'⟩, hg, he⟩ := Option.map_eq_some_iff.1 h
      injection he with he hb
      subst he hb
      obtain ⟨l1, p, l2, e1, e2, e3, e4, e5, e6⟩ := gv_some hg
      refine ⟨q :: l1, p, l2, by rw [e1]; rfl, fun x hx => ?_, e3, e4, e5, by simp only; rw [e6]; simp⟩
      rcases List.mem_cons.1 hx with rfl | hx
      · exact hq
      · exact e2 x hx
/-- Giving back keeps the heap a heap. -/
theorem bk_ok {b : Int} : ∀ {l : List PieceV} {o : Option PieceV} {x e : Int}, hErr o l = 0 → cov x l e → ∀ {n : Int}, (b, n) ∈ gl l →
    ∃ m, bk b l = some m ∧ hErr o m = 0 ∧ cov x m e ∧ ((b, n) :: gl m).Perm (gl l) ∧ m.length = l.length
  | [], _, _, _, _, _, n, h => by simp [gl] at h
  | p :: ps, o, x, e, hh, hc, n, h => by
    obtain ⟨h1, h2, h3⟩ := hErr_cons.1 hh
    obtain ⟨c1, c2⟩ := hc
    obtain ⟨m1, m2, m3, m4, m5, m6⟩ := mayB_iff.1 h1
    obtain ⟨_, hle⟩ := cov_le c2 (fun q hq => (mayB_iff.1 (hErr_may h3 q hq)).2.1)
    unfold bk
    by_cases hp : p.state = 1 ∧ p.base = b
    · rw [if_pos hp]
      obtain ⟨p1, pb⟩ := hp
      have hn : n = p.len := by
        rw [gl_cons, if_pos p1] at h
        rcases List.mem_append.1 h with h | h
        · simp at h; exact h.2
        · obtain ⟨q, hq, _, he⟩ := mem_gl.1 h
          injection he with he _
          have := hle q hq
          omega
      refine ⟨_, rfl, ?_, ⟨c1, c2⟩, ?_, by simp⟩
      · exact hErr_cons.2 ⟨mayB_iff.2 ⟨m1, m2, m3, m4, by simp, by simp⟩, badO_head h2 rfl (fun h => by simp at h), hErr_head h3 rfl (fun h => by simp at h)⟩
      · rw [gl_cons, gl_cons]
        simp [p1, pb, hn]
    · rw [if_neg hp]
      have hm : (b, n) ∈ gl ps := by
        rw [gl_cons] at h
        rcases List.mem_append.1 h with h | h
        · split at h
          · rename_i h1
            simp at h
            exact absurd ⟨h1, h.1.symm⟩ hp
          · cases h
        · exact h
      obtain ⟨m, e1, e2, e3, e4, e5⟩ := bk_ok h3 c2 hm
      refine ⟨p :: m, by rw [e1]; rfl, hErr_cons.2 ⟨h1, h2, e2⟩, ⟨c1, e3⟩, ?_, by simp [e5]⟩
      rw [gl_cons, gl_cons]
      split
      · exact (List.Perm.swap _ _ _).trans (List.Perm.cons _ e4)
      · exact e4
theorem hErr_append : ∀ {l : List PieceV} {o : Option PieceV} {p : PieceV}, hErr o (l ++ [p]) = 0 ↔ hErr o l = 0 ∧ mayB p = true ∧ badO (match l.getLast? with | some q => some q | none => o) p = false
  | [], o, p => by
    rw [List.nil_append, hErr_cons]
    simp [hErr]
  | q :: l, o, p => by
    rw [List.cons_append, hErr_cons, hErr_cons, hErr_append, List.getLast?_cons]
    cases hl : l.getLast? with
    | none => simp [and_assoc]
    | some r => simp [and_assoc]
/-- What is cleaned so far: a heap from b to x, without what was given back. -/
structure ClInv (b x : Int) (out : List PieceV) : Prop where
  err : hErr none out = 0
  cov : cov b out x
  st : ∀ p ∈ out, p.state = 0 ∨ p.state = 1
theorem getLast_split {out : List PieceV} {q : PieceV} (h : out.getLast? = some q) : out = out.dropLast ++ [q] := by
  have hne : out ≠ [] := by rintro rfl; simp at h
  have := List.dropLast_concat_getLast hne
  rw [List.getLast?_eq_some_getLast hne] at h
  injection h with h
  rw [← h]; exact this.symm
theorem clStep_ok {b x : Int} {out : List PieceV} {p : PieceV} (h : ClInv b x out) (hb : 0 ≤ b) (hp : mayB p = true) (hx : p.base = x) : ClInv b (x + p.len) (clStep out p) ∧ gl (clStep out p) = gl out ++ gl [p] ∧ (clStep out p).length ≤ out.length + 1 := by
  obtain ⟨m1, m2, m3, m4, m5, m6⟩ := mayB_iff.1 hp
  have hf : mayB (freed p) = true ∧ (freed p).base = p.base ∧ (freed p).len = p.len ∧ ((freed p).state = 0 ∨ (freed p).state = 1) ∧ gl [freed p] = gl [p] := by
    unfold freed
    by_cases h2 : p.state = 2
    · rw [if_pos h2]
      exact ⟨mayB_iff.2 ⟨m1, m2, m3, m4, by simp, by simp⟩, rfl, rfl, .inl rfl, by rw [gl_cons, gl_cons]; simp [h2]⟩
    · rw [if_neg h2]
      exact ⟨hp, rfl, rfl, by omega, rfl⟩
  obtain ⟨f1, f2, f3, f4, f5⟩ := hf
  unfold clStep
  cases hl : out.getLast? with
  | none =>
    have ho : out = [] := List.getLast?_eq_none_iff.1 hl
    subst ho
    have hc := h.cov
    unfold Go.Proofs.Ytmmmmeeepieemaa.cov at hc
    simp only [List.nil_append]
    refine ⟨⟨hErr_cons.2 ⟨f1, rfl, rfl⟩, ⟨by omega, by rw [f3]; unfold Go.Proofs.Ytmmmmeeepieemaa.cov; omega⟩, fun q hq => ?_⟩, by rw [f5]; simp [gl], by simp⟩
    simp at hq; subst hq; exact f4
  | some q =>
    simp only
    have hs := getLast_split hl
    have he := h.err
    rw [hs, hErr_append] at he
    obtain ⟨e1, e2, e3⟩ := he
    obtain ⟨q1, q2, q3, q4, q5, q6⟩ := mayB_iff.1 e2
    have hc := h.cov
    rw [hs, cov_append] at hc
    obtain ⟨y, c1, c2, c3⟩ := hc
    unfold Go.Proofs.Ytmmmmeeepieemaa.cov at c3
    have hst := h.st
    by_cases hm : (freed p).state = 0 ∧ q.state = 0
    · rw [if_pos hm]
      have hyb := (cov_le c1 (fun r hr => (mayB_iff.1 (hErr_may e1 r hr)).2.1)).1
      refine ⟨⟨?_, ?_, fun r hr => ?_⟩, ?_, ?_⟩
      · rw [hErr_append]
        refine ⟨e1, mayB_iff.2 ⟨q1, by simp only; omega, by simp only; omega, by simp only; omega, q5, q6⟩, badO_head e3 rfl (fun h => h)⟩
      · rw [cov_append]
        refine ⟨y, c1, c2, ?_⟩
        unfold Go.Proofs.Ytmmmmeeepieemaa.cov
        simp only
        omega
      · rcases List.mem_append.1 hr with hr | hr
        · exact hst r (List.dropLast_subset _ hr)
        · simp at hr; subst hr; exact .inl hm.2
      · have g1 : gl [p] = [] := by rw [← f5, gl_cons]; simp [hm.1, gl]
        rw [g1, List.append_nil]
        conv => rhs; rw [hs]
        rw [gl_append, gl_append, gl_cons, gl_cons]
        simp [hm.2]
      · have := congrArg List.length hs
        simp at this ⊢
        first | done | omega
    · rw [if_neg hm]
      refine ⟨⟨?_, ?_, fun r hr => ?_⟩, by rw [gl_append, f5], by simp⟩
      · rw [hErr_append]
        refine ⟨h.err, f1, ?_⟩
        rw [hl]
        unfold badO badB
        simp
        refine ⟨by omega, fun h0 h1 => hm ⟨h1, h0⟩⟩
      · rw [cov_append]
        refine ⟨x, h.cov, ⟨by omega, ?_⟩⟩
        rw [f3]; unfold Go.Proofs.Ytmmmmeeepieemaa.cov; rfl
      · rcases List.mem_append.1 hr with hr | hr
        · exact hst r hr
        · simp at hr; subst hr; exact f4
theorem clean_fold : ∀ {l : List PieceV} {b x e : Int} {out : List PieceV}, ClInv b x out → 0 ≤ b → (∀ p ∈ l, mayB p = true) → cov x l e →
    ClInv b e (l.foldl clStep out) ∧ gl (l.foldl clStep out) = gl out ++ gl l ∧ (l.foldl clStep out).length ≤ out.length + l.length
  | [], b, x, e, out, h, _, _, hc => by
    unfold cov at hc
    subst hc
    exact ⟨h, by simp [gl], by simp⟩
  | p :: l, b, x, e, out, h, hb, hm, hc => by
    obtain ⟨c1, c2⟩ := hc
    obtain ⟨i1, i2, i3⟩ := clStep_ok h hb (hm p (by simp)) c1
    obtain ⟨j1, j2, j3⟩ := clean_fold i1 hb (fun q hq => hm q (List.mem_cons_of_mem _ hq)) c2
    refine ⟨j1, ?_, by simp at j3 ⊢; omega⟩
    rw [List.foldl_cons, j2, i2, List.append_assoc, ← gl_append]
    rfl
/-- Cleaning keeps the heap a heap, and what is given. -/
theorem clean_ok {l : List PieceV} {b e : Int} (h : hErr none l = 0) (hb : 0 ≤ b) (hc : cov b l e) : hErr none (cleanL l) = 0 ∧ cov b (cleanL l) e ∧ gl (cleanL l) = gl l ∧ (cleanL l).length ≤ l.length ∧ ∀ p ∈ cleanL l, p.state = 0 ∨ p.state = 1 := by
  obtain ⟨i1, i2, i3⟩ := clean_fold (out := []) ⟨rfl, rfl, fun p hp => by cases hp⟩ hb (hErr_may h) hc
  exact ⟨i1.err, i1.cov, by rw [show gl ([] : List PieceV) = [] from rfl, List.nil_append] at i2; exact i2, by simpa [cleanL] using i3, i1.st⟩
/-- A heap with nothing given or given back is one free piece. -/
theorem all_free : ∀ {l : List PieceV} {o : Option PieceV}, hErr o l = 0 → (∀ p ∈ l, p.state = 0) → (∀ q, o = some q → q.state = 0) → l.length ≤ 1 ∧ (o.isSome = true → l = [])
  | [], _, _, _, _ => ⟨by simp, fun _ => rfl⟩
  | p :: l, o, h, hs, ho => by
    obtain ⟨h1, h2, h3⟩ := hErr_cons.1 h
    have p0 := hs p (by simp)
    obtain ⟨_, i2⟩ := all_free h3 (fun q hq => hs q (List.mem_cons_of_mem _ hq)) (fun q hq => by injection hq with hq; subst hq; exact p0)
    have := i2 rfl
    subst this
    refine ⟨by simp, fun hsome => ?_⟩
    obtain ⟨q, rfl⟩ := Option.isSome_iff_exists.1 hsome
    have q0 := ho q rfl
    unfold badO badB at h2
    simp [q0, p0] at h2
end Go.Proofs.Ytmmmmeeepieemaa
