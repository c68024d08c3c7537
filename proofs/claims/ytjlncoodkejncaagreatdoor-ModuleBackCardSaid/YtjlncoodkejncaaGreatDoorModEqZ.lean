import Derived.Test.YtjlncoodkejncaaGreatDoorEqLabZ
import Derived.Test.YtjlncoodkejncaaGreatDoorFileLawZ
/- Two rows that hold one module are equal. -/
namespace Go.Proofs.YtjlncoodkejncaaGreatDoor
open Go Go.RowKit
set_option linter.unusedVariables false
set_option linter.unusedSimpArgs false
set_option maxHeartbeats 4000000 in
set_option maxRecDepth 100000 in
theorem modEq_any (r r' : ModR) (m : ModV) (w : World) (h : r.has w m) (h' : r'.has w m) :
    Calls Tryz.prog 18 #[.agg #[.slice r.code.a r.code.n r.code.c, .slice r.data.a r.data.n r.data.c, .slice r.ex.a r.ex.n r.ex.c, .slice r.im.a r.im.n r.im.c], .agg #[.slice r'.code.a r'.code.n r'.code.c, .slice r'.data.a r'.data.n r'.data.c, .slice r'.ex.a r'.ex.n r'.ex.c, .slice r'.im.a r'.im.n r'.im.c]] w fun e w' => e = .returned (.bool true) ∧ Below w.heap.size w w' := by
  obtain ⟨⟨ca, cn, cc⟩, ⟨da, dn, dc⟩, ⟨ea, en, ec⟩, ⟨ia, jn, ic⟩⟩ := r
  obtain ⟨⟨ca', cn', cc'⟩, ⟨da', dn', dc'⟩, ⟨ea', en', ec'⟩, ⟨ia', jn', ic'⟩⟩ := r'
  have e1 : cn' = cn := by have := h.code.len; have := h'.code.len; simp only at *; omega
  have e2 : dn' = dn := by have := h.data.len; have := h'.data.len; simp only at *; omega
  have e3 : en' = en := by have := h.ex.len; have := h'.ex.len; simp only at *; omega
  have e4 : jn' = jn := by have := h.im.len; have := h'.im.len; simp only at *; omega
  subst e1 e2 e3 e4
  have E1 := Lib.hid (fun (W : World) (hb : Below w.heap.size w W) => eqs_Int ca ca' cn' cc cc' m.code W (h.code.below hb) (h'.code.below hb))
  have E2 := Lib.hid (fun (W : World) (hb : Below w.heap.size w W) => eqs_Int da da' dn' dc dc' m.data W (h.data.below hb) (h'.data.below hb))
  have E3 := Lib.hid (fun (W : World) (hb : Below w.heap.size w W) => eqs_Label ea ea' en' ec ec' m.ex W (h.ex.below hb) (h'.ex.below hb))
  have E4 := Lib.hid (fun (W : World) (hb : Below w.heap.size w W) => eqs_Import ia ia' jn' ic ic' m.im W (h.im.below hb) (h'.im.below hb))
  obtain ⟨w1, hw1⟩ : ∃ w1, w1 = w.alloc (.cells #[.slice ca  cn' cc, .slice da dn' dc, .slice ea en' ec, .slice ia jn' ic] 26) := ⟨_, rfl⟩
  obtain ⟨w2, hw2⟩ : ∃ w2, w2 = w1.alloc (.cells #[.slice ca' cn' cc', .slice da' dn' dc', .slice ea' en' ec', .slice ia' jn' ic'] 26) := ⟨_, rfl⟩
  have h1 : Below w.heap.size w w1 := by rw [hw1]; exact ext_alloc (Below.refl _ _) _
  have h2 : Below w.heap.size w w2 := by rw [hw2]; exact ext_alloc h1 _
  have hz : w1.heap.size = w.heap.size + 1 := by rw [hw1, World.size_alloc]
  have p1 : Bk w1 w.heap.size 26 #[.slice ca  cn' cc, .slice da dn' dc, .slice ea en' ec, .slice ia jn' ic] := by rw [hw1]; exact bk_new _ _ _
  have p2 : Bk w2 w.heap.size 26 #[.slice ca  cn' cc, .slice da dn' dc, .slice ea en' ec, .slice ia jn' ic] := by rw [hw2]; exact bk_old _ p1
  have q2 : Bk w2 (w.heap.size + 1) 26 #[.slice ca' cn' cc', .slice da' dn' dc', .slice ea' en' ec', .slice ia' jn' ic'] := by rw [hw2, ← hz]; exact bk_new _ _ _
  have HW1 := Lib.hid hw1
  have HW2 := Lib.hid hw2
  have HB2 := Lib.hid h2
  have P2 := Lib.hid p2
  have Q2 := Lib.hid q2
  clear h h' hw1 hw2 h1 h2 p1 p2 q2
  show Calls Tryz.prog 18 #[.agg #[.slice ca  cn' cc, .slice da dn' dc, .slice ea en' ec, .slice ia jn' ic], .agg #[.slice ca' cn' cc', .slice da' dn' dc', .slice ea' en' ec', .slice ia' jn' ic']] w _
  go_enter Tryz.func18, Tryz.ntmps18
  go_upto_region 1 with (fail)
  rw [← HW1.out, ← HW2.out]
  clear hz
  obtain ⟨p0, p1, p2, p3⟩ := cellsM4 P2.out
  have pL := P2.out.lt
  obtain ⟨q0, q1, q2, q3⟩ := cellsM4 Q2.out
  have qL := Q2.out.lt
  go_wp2_with (first
    | (go_at_call 14; ((with_reducible refine (E1.out _ HB2.out).mono ?_); rintro e w3 ⟨rfl, hb⟩; have HB3 := Lib.hid (ext_trans HB2.out hb); have P3 := Lib.hid (bk_keep hb P2.out); have Q3 := Lib.hid (bk_keep hb Q2.out); (try clear p0 p1 p2 p3 pL); (try clear q0 q1 q2 q3 qL); obtain ⟨p0, p1, p2, p3⟩ := cellsM4 P3.out; have pL := P3.out.lt; obtain ⟨q0, q1, q2, q3⟩ := cellsM4 Q3.out; have qL := Q3.out.lt; clear hb))
    | (go_at_call 14; ((with_reducible refine (E2.out _ HB3.out).mono ?_); rintro e w4 ⟨rfl, hb⟩; have HB4 := Lib.hid (ext_trans HB3.out hb); have P4 := Lib.hid (bk_keep hb P3.out); have Q4 := Lib.hid (bk_keep hb Q3.out); (try clear p0 p1 p2 p3 pL); (try clear q0 q1 q2 q3 qL); obtain ⟨p0, p1, p2, p3⟩ := cellsM4 P4.out; have pL := P4.out.lt; obtain ⟨q0, q1, q2, q3⟩ := cellsM4 Q4.out; have qL := Q4.out.lt; clear hb))
    | (go_at_call 15; ((with_reducible refine (E3.out _ HB4.out).mono ?_); rintro e w5 ⟨rfl, hb⟩; have HB5 := Lib.hid (ext_trans HB4.out hb); have P5 := Lib.hid (bk_keep hb P4.out); have Q5 := Lib.hid (bk_keep hb Q4.out); (try clear p0 p1 p2 p3 pL); (try clear q0 q1 q2 q3 qL); obtain ⟨p0, p1, p2, p3⟩ := cellsM4 P5.out; have pL := P5.out.lt; obtain ⟨q0, q1, q2, q3⟩ := cellsM4 Q5.out; have qL := Q5.out.lt; clear hb))
    | (go_at_call 36; ((with_reducible refine (E4.out _ HB5.out).mono ?_); rintro e w6 ⟨rfl, hb⟩; have HB6 := Lib.hid (ext_trans HB5.out hb); have P6 := Lib.hid (bk_keep hb P5.out); have Q6 := Lib.hid (bk_keep hb Q5.out); (try clear p0 p1 p2 p3 pL); (try clear q0 q1 q2 q3 qL); obtain ⟨p0, p1, p2, p3⟩ := cellsM4 P6.out; have pL := P6.out.lt; obtain ⟨q0, q1, q2, q3⟩ := cellsM4 Q6.out; have qL := Q6.out.lt; clear hb)))
  go_ret
  exact ⟨rfl, HB6.out⟩
end Go.Proofs.YtjlncoodkejncaaGreatDoor
