import Derived.Lib.AppendStr
import Derived.Lib.SmallJoins
import Derived.Test.YtpjhjefjbkjhkaaGreatDoorBuB
import Derived.Test.YtpjhjefjbkjhkaaGreatDoorFileMathZ
import Derived.Test.YtpjhjefjbkjhkaaGreatDoorModCheck2Z
/- What sum and the closure of Pack of package file compute. -/
namespace Go.Proofs.YtpjhjefjbkjhkaaGreatDoor
open El (cl)
open Go Go.RowKit
set_option linter.unusedVariables false
set_option linter.unusedSimpArgs false
instance : El UInt8 where
  k := 1
  cl b := [.int .u8 b.toNat]
  z := 0
  len _ := rfl
  one _ := by intro u hu; simp at hu; subst hu; rfl
  pos := by decide
theorem cls_bytes (l : List UInt8) : cls l = l.map fun b => Value.int .u8 b.toNat := by
  induction l with
  | nil => rfl
  | cons b l ih => rw [cls_cons, ih]; rfl
theorem cls_str (s : ByteArray) : cls s.data.toList = Lib.strCells s := cls_bytes _
/-- An own row of bytes, read as a string. -/
theorem rowB_string {P : Program} {w : World} {B : Nat} {src dst e : TypeId} {v : Value} {l : List UInt8} (h : Own w B e v l) (h0 : l ≠ [])
    (hs : P.underlying src = some (.slice e)) (he : P.underlying e = some (.int .u8)) (hd : P.underlying dst = some .string) : (convert src dst v).run P w = .ok (.string ⟨l.toArray⟩) w := by
  rcases h.form with ⟨_, h1⟩ | ⟨g, cap, rfl, _⟩
  · exact absurd h1 h0
  · refine run_convert_bytes_back w src dst e ⟨g, 0, none⟩ cap l hs he hd fun j hj => ?_
    exact World.ownsRow.cells h rfl j _ (by rw [cls_bytes]; simp [hj])
theorem wpList_append_str {P : Program} {w : World} {ops : Array Oper} {rest : List Oper} {o : Oper} {a : Act} {Q : Exit → Act → World → Prop} (hgd : o.guard = none) (s x : Operand) (t u : TypeId)
    (ho : o.op = .call { callee := .builtin .append, args := #[s, x], argTypes := #[t, u] })
    (base : Nat) (e : TypeId) (i : TypeInfo) (ht : P.underlying t = some (.slice e)) (hu : P.underlying u = some .string) (hi : P.info? e = some i) (hz : i.zero = some (.int .u8 0))
    (hsize : i.size = 1) (hby : i.bytes = 1)
    (v : Value) (xs : List UInt8) (hs : a.eval s = v) (hown : Own w base e v xs)
    (y : ByteArray) (hx : a.eval x = .string y)
    (h63 : xs.length + y.size ≤ maxLen) (hbytes : xs.length + y.size ≤ 140737488355328) (hbase : base ≤ w.heap.size)
    (h : ∀ v' w', Own w' base e v' (xs ++ y.data.toList) → w.grownBy w' v.ownBlock → wpList P ops Q rest (a.put o.dst v') w') : wpList P ops Q (o :: rest) a w :=
  wpList_plain hgd fun _ hK => by
    obtain ⟨v', w', hr, h2, h3, _⟩ := Lib.run_append_own_string (P := P) w base t u o.type e i ht hu hi hz hsize hby v xs.length (cls xs) hown y h63 hbytes hbase
    unfold Oper.wp
    simp [execOp, ho, resolve, invoke, builtin, hs, hx, hr, Result.andThen]
    refine hK _ _ (h v' w' ?_ h3)
    unfold Own
    rw [List.length_append, cls_append, cls_str, Array.length_toList]
    exact h2
theorem take_snocF (s : ByteArray) (k : Nat) (h : k < s.size) : s.data.toList.take (k + 1) = s.data.toList.take k ++ [s[k]] := by
  rw [List.take_succ_eq_append_getElem (by simpa using h)]; rfl
theorem sumN_snoc (l : List UInt8) (c : UInt8) : sumN (l ++ [c]) = sumN l + c.toNat := by unfold sumN; simp
theorem sumN_le : ∀ l : List UInt8, sumN l ≤ 255 * l.length
  | [] => by simp [sumN]
  | c :: l => by
    have := sumN_le l
    have h := c.toNat_lt
    have e : sumN (c :: l) = c.toNat + sumN l := by unfold sumN; simp
    rw [e, List.length_cons]
    omega
theorem wrapB (n : Int) : IntKind.u8.wrap n = ((byteN n).toNat : Int) := by
  rw [byteN_nat]
  have : IntKind.u8.wrap n = n % 256 := by simp [IntKind.wrap, IntKind.bits, IntKind.signed]
  rw [this]
  omega
set_option maxHeartbeats 1000000 in
theorem fsum_any (s : ByteArray) (w : World) (hs : s.size ≤ 1000000) :
    Calls Tryz.prog 71 #[.string s] w fun e w' => ∃ ao c, e = .returned (.slice ao 2 c) ∧ Own w' w.heap.size 5 (.slice ao 2 c) (sumL s.data.toList) ∧ Below w.heap.size w w' := by
  go_enter Tryz.func71, Tryz.ntmps71
  go_wp2
  go_loop [3, 4, 7] (fun n _ i => ∃ k : Nat, k ≤ s.size ∧ i = .int .i64 k ∧ n = .int .i64 (sumN (s.data.toList.take k))) (fun _ _ i => s.size - (intOf i).toNat)
  case atStart => exact ⟨0, Nat.zero_le _, rfl, rfl⟩
  case round =>
    obtain ⟨k, hk, rfl, rfl⟩ := hrel
    have hd := sumN_le (s.data.toList.take k)
    have hl : (s.data.toList.take k).length ≤ 1000000 := by rw [List.length_take, Array.length_toList]; have : s.data.size = s.size := rfl; omega
    by_cases hlt : k < s.size
    · have h2 : sumN (s.data.toList.take (k + 1)) = sumN (s.data.toList.take k) + s[k].toNat := by rw [take_snocF s k hlt]; exact sumN_snoc _ _
      have hc := s[k].toNat_lt
      have HS := Lib.hid h2
      clear h2
      generalize sumN (s.data.toList.take k) = q at *
      go_wp2
      go_round
      case rel => exact ⟨k + 1, by omega, by go_num, vint (by rw [HS.out]; go_num)⟩
      case measure => simp [intOf]; omega
    · have hf : s.data.toList.take k = s.data.toList := by rw [List.take_of_length_le (by simp; omega)]
      rw [hf] at hd ⊢
      obtain ⟨q, hq⟩ : ∃ q, sumN s.data.toList = q := ⟨_, rfl⟩
      rw [hq] at hd ⊢
      have e0 : cls (sumL s.data.toList) = [Value.int .u8 ((q : Int) / 256 % 256), Value.int .u8 ((q : Int) % 256)] := by
        rw [cls_bytes]
        unfold sumL
        rw [hq]
        simp only [List.map_cons, List.map_nil, byteN_nat]
        rw [show (((q / 256 : Nat) : Int) % 256).toNat = (((q : Int) / 256 % 256)).toNat by omega]
        rw [Int.toNat_of_nonneg (by omega), Int.toNat_of_nonneg (by omega)]
      have E0 := Lib.hid e0
      clear e0 hq
      go_wp2
      go_ret
      exact ⟨_, _, rfl, own_lit (xs := sumL s.data.toList) w 5 w.heap.size (Nat.le_refl _) _ 2 rfl (by decide) E0.out.symm, ext_alloc (Below.refl _ _) _⟩
theorem info_u8F : (Tryz.prog.info? 5).map (fun i => (i.zero, i.size, i.bytes)) = some (some (.int .u8 0), 1, 1) := by kernel_rfl
theorem sl_byte (W : World) (n : Int) : Sl (W.alloc (.cells #[.int .u8 (n % 256)] 5)) (some ⟨W.heap.size, 0, none⟩) 1 [byteN n] := lit_sl1 _ _ (by
  show [Value.int .u8 (n % 256)] = [Value.int .u8 ((byteN n).toNat : Int)]
  rw [byteN_nat, Int.toNat_of_nonneg (by omega)])
/-- The bytes' row grew; what is of another type stands. -/
structure GrewB (B : Nat) (w w' : World) : Prop where
  below : Below B w w'
  size : w.heap.size ≤ w'.heap.size
  bk : ∀ {k : Nat} {T' : TypeId} {cs : Array Value}, T' ≠ 5 → Bk w k T' cs → Bk w' k T' cs
theorem GrewB.trans {B : Nat} {a b c : World} (h : GrewB B a b) (k : GrewB B b c) : GrewB B a c := ⟨h.below.trans k.below, Nat.le_trans h.size k.size, fun ht hb => k.bk ht (h.bk ht hb)⟩
theorem GrewB.refl (B : Nat) (w : World) : GrewB B w w := ⟨Below.refl _ _, Nat.le_refl _, fun _ h => h⟩
theorem GrewB.alloc (B : Nat) (w : World) (h : B ≤ w.heap.size) (o : Obj) : GrewB B w (w.alloc o) := ⟨(Below.refl _ _).alloc h o, by rw [World.size_alloc]; omega, fun _ hb => bk_old _ hb⟩
theorem GrewB.drew (B : Nat) (w : World) : GrewB B w w.drew := ⟨(Below.refl B w).drew, Nat.le_refl _, fun _ hb => hb⟩
theorem grewB_of {B : Nat} {w w' : World} {v : Value} {l : List UInt8} (ho : Own w B 5 v l) (hg : w.grownBy w' v.ownBlock) (hB : B ≤ w.heap.size) : GrewB B w w' :=
  ⟨(Below.refl B w).grown hg hB (fun k hk => (own_span ho hk).1), hg.size, fun ht hb => bk_other hb ho ht hg⟩
set_option maxRecDepth 100000 in
theorem app_bytes {ops : Array Oper} {rest : List Oper} {o : Oper} {a : Act} {Q : Exit → Act → World → Prop} {W : World} (hgd : o.guard = none) (s x : Operand)
    (ho : o.op = .call { callee := .builtin .append, args := #[s, x], argTypes := #[91, 91] }) (B : Nat) (v : Value) (l : List UInt8) (hs : a.eval s = v) (hown : Own W B 5 v l)
    (ao : Option Addr) (m c : Nat) (ys : List UInt8) (hx : a.eval x = .slice ao m c) (hr : Sl W ao m ys) (h1 : l.length ≤ 10000000) (h2 : m ≤ 10000000) (hB : B ≤ W.heap.size)
    (h : ∀ V N C w', Own w' B 5 (.slice V N C) (l ++ ys) → GrewB B W w' → wpList Tryz.prog ops Q rest (a.put o.dst (.slice V N C)) w') : wpList Tryz.prog ops Q (o :: rest) a W := by
  obtain ⟨i0, hi, hz0, hz1, hz2⟩ := info_parts info_u8F
  refine wpList_append_sl (α := UInt8) hgd s x 91 ho B 5 i0 _ 1 Tryz.underlying91 hi hz0 hz1 hz2 rfl v l hs hown ao m c ys hx hr (by unfold maxLen; omega) (by omega) hB ?_
  intro v' w' h3 h4 _
  obtain ⟨V, N, C, rfl⟩ := own_shape h3
  exact h V N C w' h3 (grewB_of hown h4 hB)
set_option maxRecDepth 100000 in
theorem app_strF {ops : Array Oper} {rest : List Oper} {o : Oper} {a : Act} {Q : Exit → Act → World → Prop} {W : World} (hgd : o.guard = none) (s x : Operand)
    (ho : o.op = .call { callee := .builtin .append, args := #[s, x], argTypes := #[91, 9] }) (B : Nat) (v : Value) (l : List UInt8) (hs : a.eval s = v) (hown : Own W B 5 v l)
    (y : ByteArray) (hx : a.eval x = .string y) (h1 : l.length ≤ 10000000) (h2 : y.size ≤ 10000000) (hB : B ≤ W.heap.size)
    (h : ∀ V N C w', Own w' B 5 (.slice V N C) (l ++ y.data.toList) → GrewB B W w' → wpList Tryz.prog ops Q rest (a.put o.dst (.slice V N C)) w') : wpList Tryz.prog ops Q (o :: rest) a W := by
  obtain ⟨i0, hi, hz0, hz1, hz2⟩ := info_parts info_u8F
  refine wpList_append_str hgd s x 91 9 ho B 5 i0 Tryz.underlying91 Tryz.underlying9 hi hz0 hz1 hz2 v l hs hown y hx (by unfold maxLen; omega) (by omega) hB ?_
  intro v' w' h3 h4
  obtain ⟨V, N, C, rfl⟩ := own_shape h3
  exact h V N C w' h3 (grewB_of hown h4 hB)
set_option maxHeartbeats 1000000 in
set_option maxRecDepth 100000 in
theorem fname_any (x : NamV) (B g : Nat) (v : Value) (l : List UInt8) (w : World) (hB : B ≤ g) (hb : Bk w g 91 #[v]) (ho : Own w B 5 v l) (hsz : l.length ≤ 1000000) (hn : x.name.size ≤ 1000000) :
    Calls Tryz.prog 70 #[.string x.name, .int .i64 x.at_, .pointer (some ⟨g, 0, none⟩)] w fun e w' => e = .returned (.tuple #[]) ∧ ∃ V N C, Bk w' g 91 #[.slice V N C] ∧ Own w' B 5 (.slice V N C) (l ++ nameL x) ∧ Below B w w' ∧ (∀ {k : Nat} {T' : TypeId} {cs : Array Value}, T' ≠ 5 → k ≠ g → Bk w k T' cs → Bk w' k T' cs) := by
  obtain ⟨nm, at_⟩ := x
  obtain ⟨V, N, C, rfl⟩ := own_shape ho
  simp only at hn
  have c0 := hb.cell 0
  have cL := hb.lt
  have hBw : B ≤ w.heap.size := by omega
  have k1 : (l ++ [byteN nm.size]).length ≤ 10000000 := by simp; omega
  have k2 : (l ++ [byteN nm.size] ++ nm.data.toList).length ≤ 10000000 := by
    rw [List.length_append, List.length_append, Array.length_toList]
    show l.length + 1 + nm.size ≤ _
    omega
  have el : l ++ [byteN nm.size] ++ nm.data.toList ++ [byteN at_] = l ++ nameL ⟨nm, at_⟩ := by unfold nameL; simp
  have HO := Lib.hid (Own.alloc ho (.cells #[.int .u8 ((nm.size : Int) % 256)] 5))
  have HG := Lib.hid (GrewB.alloc B w hBw (.cells #[.int .u8 ((nm.size : Int) % 256)] 5))
  have HB := Lib.hid hb
  have hw1 : B ≤ (w.alloc (.cells #[.int .u8 ((nm.size : Int) % 256)] 5)).heap.size := Nat.le_trans hBw HG.out.size
  have EL := Lib.hid el
  clear ho hb el
  show Calls Tryz.prog 70 #[.string nm, .int .i64 at_, _] w _
  go_enter Tryz.func70, Tryz.ntmps70
  go_wp2_with (first
    | (at_builtin; refine app_bytes rfl (.tmp 5) (.tmp 9) rfl B (.slice V N C) l rfl HO.out (some ⟨w.heap.size, 0, none⟩) 1 1 [byteN nm.size] rfl (sl_byte w nm.size) (by omega) (by decide) hw1 ?_; intro V1 N1 C1 w1 ho1 hg1; have HO1 := Lib.hid ho1; have hs1 := Nat.le_trans hw1 hg1.size; have HG1 := Lib.hid (HG.out.trans hg1); clear ho1 hg1)
    | (at_builtin; refine app_strF rfl (.tmp 10) (.tmp 11) rfl B (.slice V1 N1 C1) _ rfl HO1.out nm rfl k1 (by omega) hs1 ?_; intro V2 N2 C2 w2 ho2 hg2; have HO2 := Lib.hid (ho2.alloc (.cells #[.int .u8 (at_ % 256)] 5)); have hs2 := Nat.le_trans hs1 hg2.size; have HG2 := Lib.hid ((HG1.out.trans hg2).trans (GrewB.alloc B w2 hs2 (.cells #[.int .u8 (at_ % 256)] 5))); have hs3 : B ≤ (w2.alloc (.cells #[.int .u8 (at_ % 256)] 5)).heap.size := Nat.le_trans hBw HG2.out.size; clear ho2 hg2)
    | (at_builtin; refine app_bytes rfl (.tmp 12) (.tmp 15) rfl B (.slice V2 N2 C2) _ rfl HO2.out (some ⟨w2.heap.size, 0, none⟩) 1 1 [byteN at_] rfl (sl_byte w2 at_) k2 (by decide) hs3 ?_; intro V3 N3 C3 w3 ho3 hg3; have hg := HG2.out.trans hg3; have hb3 := hg.bk (by decide) HB.out; have c3 := hb3.cell 0; have cL3 := hb3.lt; have cF3 := fun i => Bk.frozen hb3 i; have HB3 := Lib.hid hb3; have HO3 := Lib.hid ho3; have HG3 := Lib.hid hg; clear ho3 hg3 hb3 hg))
  refine bodyPost_end (results_none rfl _ _ _) rfl ?_
  rw [← EL.out]
  refine ⟨rfl, V3, N3, C3, bk_set' HB3.out rfl, own_cell HO3.out HB3.out (by decide) 0 _, HG3.out.below.setCell hB _, fun ht hk hb => bk_cell (HG3.out.bk ht hb) hk 0 _⟩
end Go.Proofs.YtpjhjefjbkjhkaaGreatDoor
