import Derived.Test.YtmmmmeeepieemaaBuC
import Derived.Test.YtmmmmeeepieemaaHeapLawZ
/- No two registers hold keys for one cell: plain law. -/
namespace Go.Proofs.Ytmmmmeeepieemaa
open Go.RowKit
set_option linter.unusedVariables false
/-- A value is no key, or one for a piece that is given, or given back. -/
def heldB (ps : List PieceV) (v : ValV) : Prop := v.is = true → ∃ p ∈ ps, (p.state = 1 ∨ p.state = 2) ∧ v = ⟨true, 0, gkey p.base p.len⟩
def kApart (v u : ValV) : Prop := v.is = true → u.is = true → apart (v.k.base, v.k.len) (u.k.base, u.k.len)
theorem kApart_symm {v u : ValV} (h : kApart v u) : kApart u v := fun a b => apart_symm (h b a)
/-- A heap, and registers with keys of it. -/
structure HSafe (base n : Int) (ps : List PieceV) (R : List ValV) : Prop where
  err : hErr none ps = 0
  len : ps.length ≤ 30
  cov : cov base ps (base + n)
  r8 : R.length = 8
  held : ∀ v ∈ R, heldB ps v ∧ (v.is = false → v = zeroV)
  ap : R.Pairwise kApart
theorem HSafe.check {base n : Int} {ps : List PieceV} {R : List ValV} (h : HSafe base n ps R) : heapCheck ps = 0 := heapCheck_zero.2 ⟨h.len, h.err⟩
theorem HSafe.ok {base n : Int} {ps : List PieceV} {R : List ValV} (h : HSafe base n ps R) : ∀ v ∈ R, v.Ok := by
  intro v hv
  obtain ⟨h1, h2⟩ := h.held v hv
  cases hi : v.is
  · rw [h2 hi]; exact zeroV_ok
  · obtain ⟨p, hp, _, rfl⟩ := h1 hi
    obtain ⟨m1, m2, m3, m4, m5, m6⟩ := mayB_iff.1 (hErr_may h.err p hp)
    exact .inl ⟨rfl, ⟨by simp [gkey], by simp [gkey], by simp only [gkey]; omega, by simp only [gkey]; omega, by simp only [gkey]; omega, by simp only [gkey]; omega, by simp only [gkey]; omega, by simp only [gkey]; omega, by simp [gkey], by simp [gkey]⟩, rfl⟩
theorem hsafe_new {base n : Int} (h1 : mayB ⟨base, n, 0⟩ = true) : HSafe base n [⟨base, n, 0⟩] (List.replicate 8 zeroV) :=
  ⟨hErr_cons.2 ⟨h1, rfl, rfl⟩, by simp, ⟨rfl, rfl⟩, by simp, fun v hv => by rw [List.mem_replicate] at hv; rw [hv.2]; exact ⟨fun h => (by cases h), fun _ => rfl⟩, by
    refine List.pairwise_replicate.2 (.inr fun h => by cases h)⟩
theorem gv_keeps {n : Int} {ps m : List PieceV} {b : Int} (h : gv n ps = some (m, b)) {p : PieceV} (hp : p ∈ ps) (hs : p.state ≠ 0) : p ∈ m := by
  obtain ⟨l1, q, l2, rfl, _, h2, _, _, rfl⟩ := gv_some h
  rcases List.mem_append.1 hp with hp | hp
  · exact List.mem_append_left _ (List.mem_append_left _ hp)
  · rcases List.mem_cons.1 hp with rfl | hp
    · exact absurd h2 hs
    · exact List.mem_append_right _ hp
theorem gv_new {n : Int} {ps m : List PieceV} {b : Int} (h : gv n ps = some (m, b)) : (⟨b, n, 1⟩ : PieceV) ∈ m := by
  obtain ⟨l1, q, l2, rfl, _, h2, _, rfl, rfl⟩ := gv_some h
  refine List.mem_append_left _ (List.mem_append_right _ ?_)
  split <;> simp
theorem pair_set {v : ValV} : ∀ {l : List ValV} {j : Nat}, l.Pairwise kApart → (∀ u ∈ l, kApart v u) → (l.set j v).Pairwise kApart
  | [], _, _, _ => by simp
  | x :: l, 0, h, hu => by
    rw [List.set_cons_zero]
    obtain ⟨h1, h2⟩ := List.pairwise_cons.1 h
    exact List.pairwise_cons.2 ⟨fun u hm => hu u (List.mem_cons_of_mem _ hm), h2⟩
  | x :: l, j + 1, h, hu => by
    rw [List.set_cons_succ]
    obtain ⟨h1, h2⟩ := List.pairwise_cons.1 h
    refine List.pairwise_cons.2 ⟨fun u hm => ?_, pair_set h2 fun u hm => hu u (List.mem_cons_of_mem _ hm)⟩
    rcases List.mem_or_eq_of_mem_set hm with hm | rfl
    · exact h1 u hm
    · exact kApart_symm (hu x (by simp))
theorem gv_apart {n b : Int} (hn : 1 ≤ n) : ∀ {ps m : List PieceV} {o : Option PieceV} {x e : Int}, hErr o ps = 0 → cov x ps e → gv n ps = some (m, b) → ∀ p ∈ ps, p.state ≠ 0 → p.base + p.len ≤ b ∨ b + n ≤ p.base := by
  intro ps m o x e h hc hv p hp hs
  obtain ⟨l1, q, l2, rfl, _, h2, h3, rfl, _⟩ := gv_some hv
  have hm := hErr_may h
  have hlen : ∀ r ∈ l1 ++ q :: l2, 1 ≤ r.len := fun r hr => (mayB_iff.1 (hm r hr)).2.1
  rw [cov_append] at hc
  obtain ⟨y, c1, c2, c3⟩ := hc
  rcases List.mem_append.1 hp with hp | hp
  · have := (cov_le c1 (fun r hr => hlen r (List.mem_append_left _ hr))).2 p hp
    left; omega
  · rcases List.mem_cons.1 hp with rfl | hp
    · exact absurd h2 hs
    · have := (cov_le c3 (fun r hr => hlen r (List.mem_append_right _ (List.mem_cons_of_mem _ hr)))).2 p hp
      right; omega
theorem hsafe_give {base n sz c : Int} {ps m : List PieceV} {R : List ValV} {k : KeyV} (h : HSafe base n ps R) (hg : giveF ps sz = (m, k, c)) (hc : c = 0) (j : Nat) : HSafe base n m (R.set j ⟨true, 0, k⟩) := by
  unfold giveF at hg
  rw [if_neg (by simp [h.check])] at hg
  by_cases hn : sz < 1
  · rw [if_pos hn] at hg; injection hg with _ hg; injection hg with _ hg; omega
  · rw [if_neg hn] at hg
    cases hv : gv sz ps with
    | none => rw [hv] at hg; injection hg with _ hg; injection hg with _ hg; omega
    | some r =>
      obtain ⟨m', b⟩ := r
      rw [hv] at hg
      simp only at hg
      obtain ⟨g1, g2, g3, g4, g5, g6⟩ := gv_ok (by omega) h.err h.cov hv
      by_cases h31 : m'.length = 31
      · rw [if_pos h31] at hg; injection hg with _ hg; injection hg with _ hg; omega
      · rw [if_neg h31] at hg
        injection hg with e1 hg
        injection hg with e2 e3
        subst e1 e2
        have hl := h.len
        refine ⟨g1, by omega, g2, by simp [h.r8], fun v hv' => ?_, pair_set h.ap fun u hu => ?_⟩
        · rcases List.mem_or_eq_of_mem_set hv' with hv' | rfl
          · obtain ⟨h1, h2⟩ := h.held v hv'
            refine ⟨fun hi => ?_, h2⟩
            obtain ⟨p, hp, hs, e⟩ := h1 hi
            exact ⟨p, gv_keeps hv hp (by omega), hs, e⟩
          · exact ⟨fun _ => ⟨_, gv_new hv, .inl rfl, rfl⟩, fun h => by cases h⟩
        · intro _ hi
          obtain ⟨p, hp, hs, rfl⟩ := (h.held u hu).1 hi
          have := gv_apart (by omega) h.err h.cov hv p hp (by omega)
          unfold apart gkey
          simp only
          omega
theorem bk_mem {b : Int} : ∀ {ps m : List PieceV}, bk b ps = some m → ∃ n, (b, n) ∈ gl ps
  | [], _, h => by simp [bk] at h
  | p :: ps, m, h => by
    unfold bk at h
    by_cases hp : p.state = 1 ∧ p.base = b
    · exact ⟨p.len, mem_gl.2 ⟨p, by simp, hp.1, by rw [hp.2]⟩⟩
    · rw [if_neg hp] at h
      obtain ⟨m', h1, _⟩ := Option.map_eq_some_iff.1 h
      obtain ⟨n, hn⟩ := bk_mem h1
      obtain ⟨q, hq, hs, e⟩ := mem_gl.1 hn
      exact ⟨n, mem_gl.2 ⟨q, List.mem_cons_of_mem _ hq, hs, e⟩⟩
theorem bk_keeps {b : Int} : ∀ {ps m : List PieceV}, bk b ps = some m → ∀ p ∈ ps, (p.state = 1 ∨ p.state = 2) → ∃ q ∈ m, (q.state = 1 ∨ q.state = 2) ∧ q.base = p.base ∧ q.len = p.len
  | [], _, h, p, hp, _ => by cases hp
  | x :: ps, m, h, p, hp, hs => by
    unfold bk at h
    by_cases hx : x.state = 1 ∧ x.base = b
    · rw [if_pos hx] at h
      injection h with h
      subst h
      rcases List.mem_cons.1 hp with rfl | hp
      · exact ⟨_, List.mem_cons_self, .inr rfl, rfl, rfl⟩
      · exact ⟨p, List.mem_cons_of_mem _ hp, hs, rfl, rfl⟩
    · rw [if_neg hx] at h
      obtain ⟨m', h1, rfl⟩ := Option.map_eq_some_iff.1 h
      rcases List.mem_cons.1 hp with rfl | hp
      · exact ⟨_, List.mem_cons_self, hs, rfl, rfl⟩
      · obtain ⟨q, hq, r⟩ := bk_keeps h1 p hp hs
        exact ⟨q, List.mem_cons_of_mem _ hq, r⟩
theorem hsafe_back {base n b c : Int} {ps m : List PieceV} {R : List ValV} (h : HSafe base n ps R) (hb : backF ps b = (m, c)) (hc : c = 0) : HSafe base n m R := by
  unfold backF at hb
  rw [if_neg (by simp [h.check])] at hb
  cases hk : bk b ps with
  | none => rw [hk] at hb; injection hb with _ hb; omega
  | some m' =>
    rw [hk] at hb
    injection hb with e1 e2
    subst e1
    obtain ⟨l, hl⟩ := bk_mem hk
    obtain ⟨m'', e, g1, g2, _, g4⟩ := bk_ok h.err h.cov hl
    rw [hk] at e
    injection e with e
    subst e
    refine ⟨g1, by have := h.len; omega, g2, h.r8, fun v hv => ?_, h.ap⟩
    obtain ⟨h1, h2⟩ := h.held v hv
    refine ⟨fun hi => ?_, h2⟩
    obtain ⟨p, hp, hs, e⟩ := h1 hi
    obtain ⟨q, hq, hs', e1, e2⟩ := bk_keeps hk p hp hs
    exact ⟨q, hq, hs', by rw [e1, e2]; exact e⟩
theorem swV_sub {b n : Int} {v : ValV} : swV b n v = v ∨ swV b n v = zeroV := by
  unfold swV
  split
  · exact .inr rfl
  · exact .inl rfl
theorem kApart_sw {b n : Int} {v u : ValV} (h : kApart v u) : kApart (swV b n v) (swV b n u) := by
  rcases swV_sub (b := b) (n := n) (v := v) with e | e <;> rcases swV_sub (b := b) (n := n) (v := u) with e' | e' <;> rw [e, e']
  · exact h
  · exact fun _ h => by cases h
  · exact fun h => by cases h
  · exact fun h => by cases h
/-- What is left behind a sweep of the first k pieces that were given back. -/
def clearOf (ps : List PieceV) (k : Nat) (R : List ValV) : Prop := ∀ v ∈ R, v.is = true → ∀ p ∈ ps.take k, p.state = 2 → hitsB p.base p.len v.k = false
theorem hsafe_sweep {base n b l : Int} {ps : List PieceV} {R : List ValV} (h : HSafe base n ps R) : HSafe base n ps (R.map (swV b l)) := by
  refine ⟨h.err, h.len, h.cov, by simp [h.r8], fun v hv => ?_, ?_⟩
  · obtain ⟨u, hu, rfl⟩ := List.mem_map.1 hv
    rcases swV_sub (b := b) (n := l) (v := u) with e | e <;> rw [e]
    · exact h.held u hu
    · exact ⟨fun h => (by cases h), fun _ => rfl⟩
  · exact List.pairwise_map.2 (h.ap.imp fun h => kApart_sw h)
theorem clear_zero (ps : List PieceV) (R : List ValV) : clearOf ps 0 R := by intro v hv hi p hp; simp at hp
theorem take_at {α : Type} {l : List α} {k : Nat} {x p : α} (hx : l[k]? = some x) (hp : p ∈ l.take (k + 1)) : p ∈ l.take k ∨ p = x := by
  rw [List.take_add_one, hx] at hp
  simpa using hp
theorem clear_next {ps : List PieceV} {k : Nat} {R : List ValV} {x : PieceV} (hx : ps[k]? = some x) (h : clearOf ps k R) : clearOf ps (k + 1) (R.map (swV x.base x.len)) := by
  intro v hv hi p hp hs
  obtain ⟨u, hu, rfl⟩ := List.mem_map.1 hv
  have h0 := swV_hits x.base x.len u
  rw [hi] at h0
  rcases take_at hx hp with hp | rfl
  · rcases swV_sub (b := x.base) (n := x.len) (v := u) with e | e
    · rw [e] at hi ⊢; exact h u hu hi p hp hs
    · rw [e] at hi; cases hi
  · simpa using h0
theorem clear_skip {ps : List PieceV} {k : Nat} {R : List ValV} {x : PieceV} (hx : ps[k]? = some x) (hs : x.state ≠ 2) (h : clearOf ps k R) : clearOf ps (k + 1) R := by
  intro v hv hi p hp hs'
  rcases take_at hx hp with hp | rfl
  · exact h v hv hi p hp hs'
  · exact absurd hs' hs
theorem hsafe_clean {base n : Int} {ps : List PieceV} {R : List ValV} (h : HSafe base n ps R) (hb : 0 ≤ base) (hc : clearOf ps ps.length R) : cleanF ps = (cleanL ps, 0) ∧ HSafe base n (cleanL ps) R := by
  obtain ⟨c1, c2, c3, c4, c5⟩ := clean_ok h.err hb h.cov
  refine ⟨by unfold cleanF; rw [if_neg (by simp [h.check])], c1, by have := h.len; omega, c2, h.r8, fun v hv => ?_, h.ap⟩
  obtain ⟨h1, h2⟩ := h.held v hv
  refine ⟨fun hi => ?_, h2⟩
  obtain ⟨p, hp, hs, e⟩ := h1 hi
  obtain ⟨m1, m2, m3, m4, m5, m6⟩ := mayB_iff.1 (hErr_may h.err p hp)
  rcases hs with hs | hs
  · have hg : (p.base, p.len) ∈ gl (cleanL ps) := by rw [c3]; exact mem_gl.2 ⟨p, hp, hs, rfl⟩
    obtain ⟨q, hq, hqs, hqe⟩ := mem_gl.1 hg
    injection hqe with e1 e2
    exact ⟨q, hq, .inl hqs, by rw [e1, e2]; exact e⟩
  · have := hc v hv hi p (by rw [List.take_length]; exact hp) hs
    rw [e] at this
    unfold hitsB gkey at this
    simp only [decide_eq_false_iff_not] at this
    exact absurd ⟨by omega, by omega, by omega, by omega⟩ this
end Go.Proofs.Ytmmmmeeepieemaa
