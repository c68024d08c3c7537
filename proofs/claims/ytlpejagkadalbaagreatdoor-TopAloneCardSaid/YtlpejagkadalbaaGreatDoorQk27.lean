import Derived.Test.YtlpejagkadalbaaGreatDoorQk26
set_option maxHeartbeats 40000000
set_option maxRecDepth 100000
set_option linter.unusedVariables false
set_option linter.unusedSimpArgs false
namespace Go.Proofs.YtlpejagkadalbaaGreatDoor
section
open Go Go.RowKit Go.Shelf
theorem zP6 (n:Int) (w:World):Calls Tryz.prog 73 #[.int .i64 n] w fun e w'=>e=.returned (.bool (!zA0 n))∧Below w.heap.size w w':=by
 cases h:zA0 n
 ·have g:(n != wrap32 n)=true:=by simp [←zED,h]
  have G:=zA g
  go_enter Tryz.func73,Tryz.ntmps73
  go_wp2_with (go_at_call 39;(refine (zB7 _ _).mono ?_;rintro e w' ⟨rfl,rfl⟩))
  go_ret
  exact ⟨rfl,Below.refl _ _⟩
 ·have g:(n != wrap32 n)=false:=by simp [←zED,h]
  have G:=zA g
  go_enter Tryz.func73,Tryz.ntmps73
  go_wp2_with (go_at_call 39;(refine (zB7 _ _).mono ?_;rintro e w' ⟨rfl,rfl⟩))
  go_ret
  exact ⟨rfl,Below.refl _ _⟩
theorem zQA (ao:Option Addr) (n c:Nat) (xs:List Int)  (p:Int→Bool) (w:World) (h:Sl w ao n xs)
  (hp:∀ W,Below w.heap.size w W→∀ x∈xs,Calls Tryz.prog 73 #[.int .i64 x] W fun e w'=>e=.returned (.bool (p x))∧Below W.heap.size W w') :
  Calls Tryz.prog 94 #[.slice ao n c,.func (.func 73) #[] #[]] w fun e w'=>(∃ i:Int,e=.returned (.int .i64 i)∧I64 i∧decide (0≤i)=xs.any p)∧Below w.heap.size w w':=by
 have hm:=h.max
 unfold maxLen at hm
 have hl:=h.len
 have HSL:=zA h
 have HP:=zA hp
 clear h hp
 go_enter Tryz.func94,Tryz.ntmps94
 go_wp2
 go_loopw [8] (fun i wr=>∃ k:Nat,k≤n∧i=.int .i64 k∧(xs.take k).any p=false∧Below w.heap.size w wr) (fun i _=>n - (intOf i).toNat)
 case atStart=>exact ⟨0,Nat.zero_le _,rfl,rfl,Below.refl _ _⟩
 case round =>
  obtain ⟨k,hk,rfl,hf,hb⟩:=hrel
  have HB:=zA hb
  have HF:=zA hf
  clear hb hf
  by_cases hlt:k < n
  ·obtain ⟨x,hx⟩:∃ x,xs[k]?=some x:=⟨_,List.getElem?_eq_getElem (by omega)⟩
   obtain ⟨ad,hao,hab,e0⟩:=zCM (HSL.out.below HB.out) hlt hx
   subst hao
   have cm:=HP.out wr HB.out x (List.mem_of_getElem? hx)
   have htk:(xs.take (k+1)).any p=p x:=by rw [List.take_add_one,hx,List.any_append,HF.out];simp
   have q1:(k:Int) < n:=by omega
   have HX:=zA hx
   clear hx
   cases ht:p x
   ·rw [ht] at cm htk
    have CM:=zA cm
    have HT:=zA htk
    clear cm ht htk
    go_wp2_with (go_at_call 73;((with_reducible refine (CM.out).mono ?_);rintro e w1 ⟨rfl,hb1⟩;have HB1:=zA (show Below w.heap.size w w1 from zI HB.out hb1)))
    go_roundw
    case rel=>exact ⟨k+1,by omega,by go_num,HT.out,HB1.out⟩
    case measure=>simp [intOf];omega
   ·rw [ht] at cm
    have hany:xs.any p=true:=List.any_eq_true.2 ⟨x,List.mem_of_getElem? HX.out,ht⟩
    have CM:=zA cm
    have HA:=zA hany
    clear cm ht htk hany
    go_wp2_with (go_at_call 73;((with_reducible refine (CM.out).mono ?_);rintro e w1 ⟨rfl,hb1⟩;have HB1:=zA (show Below w.heap.size w w1 from zI HB.out hb1)))
    go_ret
    exact ⟨⟨_,rfl,by unfold I64;omega,by rw [HA.out];simp⟩,HB1.out⟩
  ·have q1:¬((k:Int) < n):=by omega
   have hany:xs.any p=false:=by have:=HF.out;rwa [List.take_of_length_le (by omega)] at this
   have HA:=zA hany
   clear hany
   go_wp2
   go_ret
   exact ⟨⟨_,rfl,by unfold I64;omega,by rw [HA.out];simp⟩,HB.out⟩
theorem zQE (ao:Option Addr) (n c:Nat) (xs:List Int)  (p:Int→Bool) (w:World) (h:Sl w ao n xs)
  (hp:∀ W,Below w.heap.size w W→∀ x∈xs,Calls Tryz.prog 73 #[.int .i64 x] W fun e w'=>e=.returned (.bool (p x))∧Below W.heap.size W w') :
  Calls Tryz.prog 72 #[.slice ao n c,.func (.func 73) #[] #[]] w fun e w'=>e=.returned (.bool (xs.any p))∧Below w.heap.size w w':=by
 have ix:=zQA ao n c xs  p w h hp
 have IX:=zA ix
 clear ix h hp
 go_enter Tryz.func72,Tryz.ntmps72
 go_wp2_with (go_at_call 94;((with_reducible refine (IX.out).mono ?_);rintro e w1 ⟨⟨i,rfl,hi,he⟩,hb1⟩;have HE:=zA he;have HB1:=zA hb1;clear he hb1))
 go_ret
 exact ⟨by rw [←HE.out];rfl,HB1.out⟩
theorem zGN (ao:Option Addr) (n c:Nat) (xs:List Int) (w:World) (h:Sl w ao n xs) :
  Calls Tryz.prog 45 #[.slice ao n c] w fun e w'=>e=.returned (.bool (xs.all zA0))∧Below w.heap.size w w':=by
 have hc:=zQE ao n c xs (fun n => !zA0 n) w h (fun W _ x _=>zP6 x W)
 have e:xs.all zA0 = !(xs.any fun n => !zA0 n):=by
  induction xs with
  | nil=>rfl
  | cons x xs ih=>simp [List.all_eq_not_any_not]
 rw [e]
 generalize (xs.any fun n => !zA0 n)=b at *
 have HC:=zA hc
 clear hc h
 go_enter Tryz.func45,Tryz.ntmps45
 go_wp2_with (go_at_call 72;((with_reducible refine (HC.out).mono ?_);rintro e w1 ⟨rfl,hb1⟩;have HB1:=zA hb1;clear hb1))
 go_ret
 exact ⟨rfl,HB1.out⟩
theorem zP7 (x y:NamV) (g:Nat) (w:World) (hg:g < w.heap.size) (hc:w.cell? ⟨g,0,none⟩=some (.string x.name)) :
  Calls Tryz.prog 48 #[.agg #[.string y.name,.int .i64 y.at_],.pointer (some ⟨g,0,none⟩)] w fun e w'=>e=.returned (.bool (decide (y.name=x.name)))∧Below w.heap.size w w':=by
 have hw1:(w.alloc (.cells #[.string y.name,.int .i64 y.at_] 91)).cell? ⟨g,0,none⟩=some (.string x.name):=by rw [←hc];exact (zG (Below.refl _ _) _).cell (p:=⟨g,0,none⟩) hg
 obtain ⟨w1,e1⟩:∃ w1,w1=w.alloc (.cells #[.string y.name,.int .i64 y.at_] 91):=⟨_,rfl⟩
 have b1:Bk w1 w.heap.size 91 #[.string y.name,.int .i64 y.at_]:=by rw [e1];exact zM _ _ _
 have hb:Below w.heap.size w w1:=by rw [e1];exact zG (Below.refl _ _) _
 have y0:w1.cell? ⟨w.heap.size,0,none⟩=some (.string y.name):=b1.cell 0
 have bl:=b1.lt
 have hg1:g < w1.heap.size:=Nat.lt_of_lt_of_le hg hb.size
 rw [←e1] at hw1
 have E1:=zA e1
 have HB:=zA hb
 have f:(y.name.toList==x.name.toList)=decide (y.name=x.name):=by
  by_cases h:y.name=x.name
  ·simp [h]
  ·rw [decide_eq_false h];exact beq_eq_false_iff_ne.2 fun e=>h (name_eq.1 e)
 generalize decide (y.name=x.name)=b at *
 have F:=zA f
 clear e1 b1 hb f hc
 go_enter Tryz.func48,Tryz.ntmps48
 go_upto_region 1 with (fail)
 rw [←E1.out]
 go_wp2
 go_ret
 exact ⟨by rw [←F.out];rfl,HB.out⟩
def zDq (x y:NamV):Bool:=decide (x.at_ - y.at_ < 2∧y.at_ - x.at_ < 2)
theorem zP5 (ats:Array TypeId) (ty:TypeId) (a b:Int):Go.Builtin.max_ ats ty #[.int .i64 a,.int .i64 b]=pure (.int .i64 (if b > a then b else a)):=by
 unfold Go.Builtin.max_
 simp [Go.Builtin.max2]
attribute [local go_sem] zP5
theorem zP8 (x y:NamV) (g:Nat) (w:World) (hx:0≤x.at_∧x.at_≤60) (hy:0≤y.at_∧y.at_≤60) (hg:g < w.heap.size) (hc:w.cell? ⟨g,1,none⟩=some (.int .i64 x.at_)) :
  Calls Tryz.prog 50 #[.agg #[.string y.name,.int .i64 y.at_],.pointer (some ⟨g,0,none⟩)] w fun e w'=>e=.returned (.bool (zDq x y))∧Below w.heap.size w w':=by
 have hw1:(w.alloc (.cells #[.string y.name,.int .i64 y.at_] 93)).cell? ⟨g,1,none⟩=some (.int .i64 x.at_):=by rw [←hc];exact (zG (Below.refl _ _) _).cell (p:=⟨g,1,none⟩) hg
 obtain ⟨w1,e1⟩:∃ w1,w1=w.alloc (.cells #[.string y.name,.int .i64 y.at_] 93):=⟨_,rfl⟩
 have b1:Bk w1 w.heap.size 93 #[.string y.name,.int .i64 y.at_]:=by rw [e1];exact zM _ _ _
 have hb:Below w.heap.size w w1:=by rw [e1];exact zG (Below.refl _ _) _
 have y0:w1.cell? ⟨w.heap.size,1,none⟩=some (.int .i64 y.at_):=b1.cell 1
 have bl:=b1.lt
 have hg1:g < w1.heap.size:=Nat.lt_of_lt_of_le hg hb.size
 rw [←e1] at hw1
 have E1:=zA e1
 have HB:=zA hb
 obtain ⟨xn,a⟩:=x
 obtain ⟨yn,b⟩:=y
 simp only at hx hy hw1 y0
 have f:decide ((if b - a > a - b then b - a else a - b) < 2)=zDq ⟨xn,a⟩ ⟨yn,b⟩:=by
  unfold zDq
  simp only
  congr 1
  split<;>simp<;>omega
 generalize zDq ⟨xn,a⟩ ⟨yn,b⟩=c at *
 clear e1 b1 hb hc
 by_cases hh:b - a > a - b
 ·rw [if_pos hh] at f
  have F:=zA f
  clear f
  go_enter Tryz.func50,Tryz.ntmps50
  go_upto_region 1 with (fail)
  rw [←E1.out]
  go_wp2
  go_ret
  exact ⟨by rw [←F.out];rfl,HB.out⟩
 ·rw [if_neg hh] at f
  have F:=zA f
  clear f
  go_enter Tryz.func50,Tryz.ntmps50
  go_upto_region 1 with (fail)
  rw [←E1.out]
  go_wp2
  go_ret
  exact ⟨by rw [←F.out];rfl,HB.out⟩
theorem zQB (ao:Option Addr) (n c:Nat) (xs:List NamV) (g:Nat) (p:NamV→Bool) (w:World) (h:Sl w ao n xs)
  (hp:∀ W,Below w.heap.size w W→∀ x∈xs,Calls Tryz.prog 48 #[.agg #[.string x.name,.int .i64 x.at_],.pointer (some ⟨g,0,none⟩)] W fun e w'=>e=.returned (.bool (p x))∧Below W.heap.size W w') :
  Calls Tryz.prog 76 #[.slice ao n c,.func (.func 48) #[] #[.pointer (some ⟨g,0,none⟩)]] w fun e w'=>(∃ i:Int,e=.returned (.int .i64 i)∧I64 i∧decide (0≤i)=xs.any p)∧Below w.heap.size w w':=by
 have hm:=h.max
 unfold maxLen at hm
 have hl:=h.len
 have HSL:=zA h
 have HP:=zA hp
 clear h hp
 go_enter Tryz.func76,Tryz.ntmps76
 go_wp2
 go_loopw [8] (fun i wr=>∃ k:Nat,k≤n∧i=.int .i64 k∧(xs.take k).any p=false∧Below w.heap.size w wr) (fun i _=>n - (intOf i).toNat)
 case atStart=>exact ⟨0,Nat.zero_le _,rfl,rfl,Below.refl _ _⟩
 case round =>
  obtain ⟨k,hk,rfl,hf,hb⟩:=hrel
  have HB:=zA hb
  have HF:=zA hf
  clear hb hf
  by_cases hlt:k < n
  ·obtain ⟨x,hx⟩:∃ x,xs[k]?=some x:=⟨_,List.getElem?_eq_getElem (by omega)⟩
   obtain ⟨ad,hao,hab,e0,e1⟩:=zCK (HSL.out.below HB.out) hlt hx
   subst hao
   have cm:=HP.out wr HB.out x (List.mem_of_getElem? hx)
   have htk:(xs.take (k+1)).any p=p x:=by rw [List.take_add_one,hx,List.any_append,HF.out];simp
   have q1:(k:Int) < n:=by omega
   have HX:=zA hx
   clear hx
   cases ht:p x
   ·rw [ht] at cm htk
    have CM:=zA cm
    have HT:=zA htk
    clear cm ht htk
    go_wp2_with (go_at_call 48;((with_reducible refine (CM.out).mono ?_);rintro e w1 ⟨rfl,hb1⟩;have HB1:=zA (show Below w.heap.size w w1 from zI HB.out hb1)))
    go_roundw
    case rel=>exact ⟨k+1,by omega,by go_num,HT.out,HB1.out⟩
    case measure=>simp [intOf];omega
   ·rw [ht] at cm
    have hany:xs.any p=true:=List.any_eq_true.2 ⟨x,List.mem_of_getElem? HX.out,ht⟩
    have CM:=zA cm
    have HA:=zA hany
    clear cm ht htk hany
    go_wp2_with (go_at_call 48;((with_reducible refine (CM.out).mono ?_);rintro e w1 ⟨rfl,hb1⟩;have HB1:=zA (show Below w.heap.size w w1 from zI HB.out hb1)))
    go_ret
    exact ⟨⟨_,rfl,by unfold I64;omega,by rw [HA.out];simp⟩,HB1.out⟩
  ·have q1:¬((k:Int) < n):=by omega
   have hany:xs.any p=false:=by have:=HF.out;rwa [List.take_of_length_le (by omega)] at this
   have HA:=zA hany
   clear hany
   go_wp2
   go_ret
   exact ⟨⟨_,rfl,by unfold I64;omega,by rw [HA.out];simp⟩,HB.out⟩
theorem zQF (ao:Option Addr) (n c:Nat) (xs:List NamV) (g:Nat) (p:NamV→Bool) (w:World) (h:Sl w ao n xs)
  (hp:∀ W,Below w.heap.size w W→∀ x∈xs,Calls Tryz.prog 48 #[.agg #[.string x.name,.int .i64 x.at_],.pointer (some ⟨g,0,none⟩)] W fun e w'=>e=.returned (.bool (p x))∧Below W.heap.size W w') :
  Calls Tryz.prog 47 #[.slice ao n c,.func (.func 48) #[] #[.pointer (some ⟨g,0,none⟩)]] w fun e w'=>e=.returned (.bool (xs.any p))∧Below w.heap.size w w':=by
 have ix:=zQB ao n c xs g p w h hp
 have IX:=zA ix
 clear ix h hp
 go_enter Tryz.func47,Tryz.ntmps47
 go_wp2_with (go_at_call 76;((with_reducible refine (IX.out).mono ?_);rintro e w1 ⟨⟨i,rfl,hi,he⟩,hb1⟩;have HE:=zA he;have HB1:=zA hb1;clear he hb1))
 go_ret
 exact ⟨by rw [←HE.out];rfl,HB1.out⟩
theorem zQC (ao:Option Addr) (n c:Nat) (xs:List NamV) (g:Nat) (p:NamV→Bool) (w:World) (h:Sl w ao n xs)
  (hp:∀ W,Below w.heap.size w W→∀ x∈xs,Calls Tryz.prog 50 #[.agg #[.string x.name,.int .i64 x.at_],.pointer (some ⟨g,0,none⟩)] W fun e w'=>e=.returned (.bool (p x))∧Below W.heap.size W w') :
  Calls Tryz.prog 77 #[.slice ao n c,.func (.func 50) #[] #[.pointer (some ⟨g,0,none⟩)]] w fun e w'=>(∃ i:Int,e=.returned (.int .i64 i)∧I64 i∧decide (0≤i)=xs.any p)∧Below w.heap.size w w':=by
 have hm:=h.max
 unfold maxLen at hm
 have hl:=h.len
 have HSL:=zA h
 have HP:=zA hp
 clear h hp
 go_enter Tryz.func77,Tryz.ntmps77
 go_wp2
 go_loopw [8] (fun i wr=>∃ k:Nat,k≤n∧i=.int .i64 k∧(xs.take k).any p=false∧Below w.heap.size w wr) (fun i _=>n - (intOf i).toNat)
 case atStart=>exact ⟨0,Nat.zero_le _,rfl,rfl,Below.refl _ _⟩
 case round =>
  obtain ⟨k,hk,rfl,hf,hb⟩:=hrel
  have HB:=zA hb
  have HF:=zA hf
  clear hb hf
  by_cases hlt:k < n
  ·obtain ⟨x,hx⟩:∃ x,xs[k]?=some x:=⟨_,List.getElem?_eq_getElem (by omega)⟩
   obtain ⟨ad,hao,hab,e0,e1⟩:=zCK (HSL.out.below HB.out) hlt hx
   subst hao
   have cm:=HP.out wr HB.out x (List.mem_of_getElem? hx)
   have htk:(xs.take (k+1)).any p=p x:=by rw [List.take_add_one,hx,List.any_append,HF.out];simp
   have q1:(k:Int) < n:=by omega
   have HX:=zA hx
   clear hx
   cases ht:p x
   ·rw [ht] at cm htk
    have CM:=zA cm
    have HT:=zA htk
    clear cm ht htk
    go_wp2_with (go_at_call 50;((with_reducible refine (CM.out).mono ?_);rintro e w1 ⟨rfl,hb1⟩;have HB1:=zA (show Below w.heap.size w w1 from zI HB.out hb1)))
    go_roundw
    case rel=>exact ⟨k+1,by omega,by go_num,HT.out,HB1.out⟩
    case measure=>simp [intOf];omega
   ·rw [ht] at cm
    have hany:xs.any p=true:=List.any_eq_true.2 ⟨x,List.mem_of_getElem? HX.out,ht⟩
    have CM:=zA cm
    have HA:=zA hany
    clear cm ht htk hany
    go_wp2_with (go_at_call 50;((with_reducible refine (CM.out).mono ?_);rintro e w1 ⟨rfl,hb1⟩;have HB1:=zA (show Below w.heap.size w w1 from zI HB.out hb1)))
    go_ret
    exact ⟨⟨_,rfl,by unfold I64;omega,by rw [HA.out];simp⟩,HB1.out⟩
  ·have q1:¬((k:Int) < n):=by omega
   have hany:xs.any p=false:=by have:=HF.out;rwa [List.take_of_length_le (by omega)] at this
   have HA:=zA hany
   clear hany
   go_wp2
   go_ret
   exact ⟨⟨_,rfl,by unfold I64;omega,by rw [HA.out];simp⟩,HB.out⟩
theorem zQG (ao:Option Addr) (n c:Nat) (xs:List NamV) (g:Nat) (p:NamV→Bool) (w:World) (h:Sl w ao n xs)
  (hp:∀ W,Below w.heap.size w W→∀ x∈xs,Calls Tryz.prog 50 #[.agg #[.string x.name,.int .i64 x.at_],.pointer (some ⟨g,0,none⟩)] W fun e w'=>e=.returned (.bool (p x))∧Below W.heap.size W w') :
  Calls Tryz.prog 49 #[.slice ao n c,.func (.func 50) #[] #[.pointer (some ⟨g,0,none⟩)]] w fun e w'=>e=.returned (.bool (xs.any p))∧Below w.heap.size w w':=by
 have ix:=zQC ao n c xs g p w h hp
 have IX:=zA ix
 clear ix h hp
 go_enter Tryz.func49,Tryz.ntmps49
 go_wp2_with (go_at_call 77;((with_reducible refine (IX.out).mono ?_);rintro e w1 ⟨⟨i,rfl,hi,he⟩,hb1⟩;have HE:=zA he;have HB1:=zA hb1;clear he hb1))
 go_ret
 exact ⟨by rw [←HE.out];rfl,HB1.out⟩
end
section
open Go Go.RowKit Go.Shelf
theorem zFY {G:Prop} (h:∃ T:Prop,T∧(T→G)):G:=h.elim fun T hT=>hT.2 hT.1
theorem zA5 {g:Nat} {w w':World} {r:RdV} {er er':Int} {vc vl vh:Value} (h:RdSt g r vc vl vh w') (hb:Below g w w') (he:er=er'):zCC g w r er' (.returned (.int .i64 er)) w':=⟨by rw [he],⟨vc,vl,vh,h⟩,hb⟩
theorem RdSt.gle {g:Nat} {r:RdV} {vc vl vh:Value} {w:World} (h:RdSt g r vc vl vh w):g≤w.heap.size:=Nat.le_of_lt h.b.lt
theorem zLV (g:Nat) (r:RdV) (vc vl vh:Value) (s:ByteArray) (w:World) (h:RdSt g r vc vl vh w) (hs:s.size≤9223372036854775807) (hn1:r.code.length≤1000) (hn2:r.labels.length≤1000) :
  Calls Tryz.prog 103 #[.pointer (some ⟨g,0,none⟩),.string s] w (zCC g w (zBz r s).1 (zBz r s).2):=by
 have isn:=fun W=>zBd s hs W
 have gL:=h.b.lt
 have gS:=h.gle
 have ST:=zA h
 have ISN:=zA isn
 clear h isn
 cases h1:zR s
 ·have e:zBz r s=(r,3):=by unfold zBz;rw [if_pos h1]
  rw [e]
  simp only [h1] at ISN
  clear h1 e
  go_enter Tryz.func103,Tryz.ntmps103
  go_wp2_with (go_at_call 46;((with_reducible refine (ISN.out _).mono ?_);rintro e w1 ⟨rfl,hb1⟩;have S1:=zA (ST.out.below hb1);have HB1:=zA hb1;clear hb1))
  go_ret
  exact zA5 S1.out (HB1.out.mono gS) rfl
 simp only [h1] at ISN
 by_cases h2:0≤zB5 r.labels s
 ·have e:zBz r s=(r,8):=by unfold zBz;rw [if_neg (by simp [h1]),if_pos h2]
  rw [e]
  clear h1 e
  go_enter Tryz.func103,Tryz.ntmps103
  go_wp2_with (first
   | (go_at_call 46;((with_reducible refine (ISN.out _).mono ?_);rintro e w1 ⟨rfl,hb1⟩;have S1:=zA (ST.out.below hb1);have HB1:=zA hb1;clear hb1))
   | (go_at_call 88;((with_reducible refine (zEg g r vc vl vh s w1 S1.out).mono ?_);rintro e w2 ⟨rfl,hb2⟩;have S2:=zA (S1.out.below hb2);have HB2:=zA (zI HB1.out hb2);clear hb2)))
  go_ret
  exact zA5 S2.out (HB2.out.mono gS) rfl
 obtain ⟨la,lc,rfl,hsl,_⟩:=ST.out.l.sl
 obtain ⟨n,hn⟩:∃ n,r.labels.length=n:=⟨_,rfl⟩
 rw [hn] at ST hn2
 have hq:∀ W,RdSt g r vc (.slice la n lc) vh W→W.cell? ⟨g,1,none⟩=some (.slice la n lc):=fun W hW=>hW.b.cell 1
 by_cases h3:n=20
 ·have e:zBz r s=(r,9):=by unfold zBz;rw [if_neg (by simp [h1]),if_neg h2,if_pos (by rw [hn,h3])]
  rw [e]
  subst h3
  clear h1 e hn hsl
  go_enter Tryz.func103,Tryz.ntmps103
  go_upto_region 5 with (first
   | (go_at_call 46;((with_reducible refine (ISN.out _).mono ?_);rintro e w1 ⟨rfl,hb1⟩;have S1:=zA (ST.out.below hb1);have HB1:=zA hb1;clear hb1))
   | (go_at_call 88;((with_reducible refine (zEg g r vc _ vh s w1 S1.out).mono ?_);rintro e w2 ⟨rfl,hb2⟩;have S2:=zA (S1.out.below hb2);have HB2:=zA (zI HB1.out hb2);clear hb2)))
  have c1:=hq _ S2.out
  have gL2:=S2.out.b.lt
  go_wp2
  go_ret
  exact zA5 S2.out (HB2.out.mono gS) rfl
 have q3:¬((n:Int)=20):=by omega
 obtain ⟨ca,cc,rfl,hsc,_⟩:=ST.out.c.sl
 obtain ⟨m,hm⟩:∃ m,r.code.length=m:=⟨_,rfl⟩
 rw [hm] at ST hn1
 have e:zBz r s=(⟨r.code,r.labels++[⟨s,m⟩],r.holes⟩,0):=by unfold zBz;rw [if_neg (by simp [h1]),if_neg h2,if_neg (by rw [hn];exact h3),hm]
 rw [e]
 have HN:=zA hn
 have HM:=zA hm
 clear h1 e hq hn hm hsl hsc h3
 go_enter Tryz.func103,Tryz.ntmps103
 go_upto_region 5 with (first
  | (go_at_call 46;((with_reducible refine (ISN.out _).mono ?_);rintro e w1 ⟨rfl,hb1⟩;have S1:=zA (ST.out.below hb1);have HB1:=zA hb1;clear hb1))
  | (go_at_call 88;((with_reducible refine (zEg g r _ _ vh s w1 S1.out).mono ?_);rintro e w2 ⟨rfl,hb2⟩;have S2:=zA (S1.out.below hb2);have HB2:=zA (zI HB1.out hb2);clear hb2)))
 obtain ⟨c0,c1,c2⟩:=zAB S2.out.b
 have gL2:=S2.out.b.lt
 go_upto_region 7 with (fail)
 obtain ⟨i0,i1,iz0,iz1,iz2⟩:=info_parts zKe
 obtain ⟨w3,hw3⟩:∃ w3,w3=w2.drew.alloc (.cells #[.string s,.int .i64 m] 91):=⟨_,rfl⟩
 have b3:Below w2.heap.size w2 w3:=by rw [hw3];exact zG (zJ (Below.refl _ _)) _
 have s3:=S2.out.below b3
 have l3:Sl w3 (some ⟨w2.heap.size,0,none⟩) 1 [(⟨s,m⟩:NamV)]:=by rw [hw3];exact zAy _ _ rfl
 obtain ⟨v4,w4,hr,ho,hg,_⟩:=zBk (P:=Tryz.prog) w3 g 45 45 91 i0 _ 24 Tryz.underlying45 i1 iz0 iz1 iz2 rfl (.slice la n lc) r.labels s3.l (some ⟨w2.heap.size,0,none⟩) 1 1 [(⟨s,m⟩:NamV)] l3 (by rw [HN.out];unfold maxLen;omega) (by rw [HN.out];omega) (by have:=b3.size;omega)
 have k4:=zAT s3.b s3.l (by decide) hg
 have d4:=k4.cell 1
 have f4:=k4.frozen 1
 have g4:=k4.lt
 simp only [List.getElem?_toArray,List.getElem?_cons_succ,List.getElem?_cons_zero] at d4
 have fin:=s3.setL hg ho
 have un:=RdSt.under s3.l ((HB2.out.mono gS).trans (b3.mono S2.out.gle)) (Nat.le_trans S2.out.gle b3.size) hg 1 v4
 rw [hw3] at hr
 obtain ⟨xa,xn,xc,rfl⟩:=zZ ho
 have HR:=zA hr
 have FIN:=zA fin
 have UN:=zA un
 clear hr ho hg fin un k4 l3 s3 b3 hw3
 apply zFY
 apply Exists.intro
 apply And.intro
 rotate_left
 ·intro tail
  go_region_law (refine zA7 rfl _ _ 45 45 rfl (.slice la n lc) (.slice (some ⟨w2.heap.size,0,none⟩) 1 1) (by simp [Act.eval,Act.put]) (by simp [Act.eval,Act.put]) HR.out ?_)
  all_goals with_reducible exact tail
 go_wp2
 go_ret
 exact zA5 FIN.out UN.out rfl
end
section
open Go Go.RowKit
theorem opK {i:InstV} (h:zAL i=true):0≤i.op∧i.op.toNat < 23:=by
 have h1:=(zCy (op:=i.op) (a:=i.a) (b:=i.b) (c:=i.c) h)
 omega
end
section
open Go Go.RowKit
structure Sim (r r':RdV):Prop where
 code:r.code=r'.code
 labels:r.labels=r'.labels
 holes:r.holes.map (fun h=>(h.at_,h.i,h.name))=r'.holes.map (fun h=>(h.at_,h.i,h.name))
theorem Sim.refl (r:RdV):Sim r r:=⟨rfl,rfl,rfl⟩
theorem Sim.line {r r':RdV} (h:Sim r r') (n n':Int) (s:List UInt8):Sim (zAj r n s).1 (zAj r' n' s).1∧(zAj r n s).2=(zAj r' n' s).2:=by
 obtain ⟨c,l,o⟩:=r
 obtain ⟨c',l',o'⟩:=r'
 obtain ⟨h1,h2,h3⟩:=h
 simp only at h1 h2 h3
 subst h1 h2
 unfold zAj
 split
 ·exact ⟨⟨rfl,rfl,h3⟩,rfl⟩
 split
 ·unfold zBz
  split
  ·exact ⟨⟨rfl,rfl,h3⟩,rfl⟩
  split
  ·exact ⟨⟨rfl,rfl,h3⟩,rfl⟩
  split
  ·exact ⟨⟨rfl,rfl,h3⟩,rfl⟩
  ·exact ⟨⟨rfl,rfl,h3⟩,rfl⟩
 split
 ·exact ⟨⟨rfl,rfl,h3⟩,rfl⟩
 ·unfold zAO
  split
  ·split
   ·exact ⟨⟨rfl,rfl,h3⟩,rfl⟩
   ·exact ⟨⟨rfl,rfl,h3⟩,rfl⟩
  split
  ·refine ⟨⟨rfl,rfl,?_⟩,rfl⟩
   simp only [List.map_append,h3,List.map_cons,List.map_nil]
  split
  ·exact ⟨⟨rfl,rfl,h3⟩,rfl⟩
  ·exact ⟨⟨rfl,rfl,h3⟩,rfl⟩
theorem zIX:∀ (hs:List HoleV) (labels:List NamV) (code:List Int),(zAl labels code hs).1.length=code.length
 | [],_,_=>rfl
 | h::hs,labels,code=>by
  rw [zCX]
  split
  ·rfl
  split
  ·rw [zIX hs];simp
  ·rfl
end
section
open Go Go.RowKit
end
section
open Go.RowKit
end
section
open Go.RowKit
def NZ {α:Type} (x:Ex α):Prop:=∀ k,x=.error k→k≠0
theorem NZ.ok {α:Type} (a:α):NZ (.ok a:Ex α):=fun k h=>by cases h
theorem NZ.err {α:Type} {k:Int} (h:k≠0):NZ (.error k:Ex α):=fun j e=>by injection e with e;rw [←e];exact h
theorem NZ.bind {α β:Type} {x:Ex α} {f:α→Ex β} (h:NZ x) (hf:∀ a,NZ (f a)):NZ (x >>= f):=by
 cases x with
 | error k =>
  have hk:=h k rfl
  intro j e
  rw [eb1] at e
  injection e with e
  rw [←e]
  exact hk
 | ok a=>exact hf a
theorem NZ.ite {α:Type} {p:Prop} [Decidable p] {x y:Ex α} (h:NZ x) (k:NZ y):NZ (if p then x else y):=by split;exact h;exact k
theorem NZ.num (m:MV) (r:Int):NZ (m.num r):=by unfold MV.num;exact NZ.ite (NZ.err (by decide)) (NZ.ok _)
theorem NZ.key (m:MV) (r:Int):NZ (m.key r):=by unfold MV.key;exact NZ.ite (NZ.ok _) (NZ.err (by decide))
theorem NZ.res {α:Type} (q:α×Int):NZ (zCD q):=by
 rcases zIA q with ⟨_,e⟩ | ⟨h,e⟩<;>rw [e]
 ·exact NZ.ok _
 ·exact NZ.err h
theorem NZ.goes (m:MV) (n:Int):NZ (m.goes n):=by unfold MV.goes;exact NZ.ite (NZ.err (by decide)) (NZ.ok _)
theorem NZ.exec (m:MV) (i:InstV):NZ (m.exec i):=by
 unfold MV.exec
 refine NZ.ite (NZ.err (by decide)) (NZ.ite (NZ.goes _ _) (NZ.ite (NZ.bind (NZ.num _ _) fun n=>NZ.goes _ _) (NZ.ite ?_ (NZ.ite ?_ (NZ.bind ?_ fun _=>NZ.ok _)))))
 ·unfold MV.call
  exact NZ.bind (NZ.key _ _) fun a=>NZ.bind (NZ.key _ _) fun b=>NZ.ite (NZ.err (by decide)) (NZ.ite (NZ.err (by decide)) (NZ.ite (NZ.err (by decide)) (NZ.ok _)))
 ·unfold MV.back
  split
  ·exact NZ.err (by decide)
  ·exact NZ.ok _
 ·unfold MV.plain
  refine NZ.ite (NZ.ok _) (NZ.ite (NZ.ok _) (NZ.ite ?_ (NZ.ite ?_ (NZ.ite (NZ.ok _) (NZ.ite (NZ.ok _) (NZ.ite ?_ ?_))))))
  ·unfold MV.numbers
   refine NZ.bind (NZ.num _ _) fun b=>NZ.bind (NZ.num _ _) fun c=>NZ.bind ?_ fun _=>NZ.ok _
   unfold opN zL7
   exact NZ.ite (NZ.ok _) (NZ.ite (NZ.ok _) (NZ.ite (NZ.ok _) (NZ.ite (NZ.ok _) (NZ.ite (NZ.err (by decide)) (NZ.ok _)))))
  ·unfold MV.ask
   exact NZ.ite (NZ.ok _) (NZ.bind (NZ.key _ _) fun _=>NZ.ok _)
  ·unfold MV.tell
   exact NZ.bind (NZ.num _ _) fun _=>NZ.ite (NZ.err (by decide)) (NZ.ok _)
  ·unfold MV.byKey
   refine NZ.bind (NZ.key _ _) fun k=>NZ.ite (NZ.bind (NZ.res _) fun _=>NZ.ok _) (NZ.ite ?_ (NZ.ite (NZ.bind (NZ.num _ _) fun _=>NZ.bind (NZ.res _) fun _=>NZ.ok _) (NZ.ite (NZ.bind (NZ.num _ _) fun _=>NZ.bind (NZ.res _) fun _=>NZ.ok _)
    (NZ.ite (NZ.bind (NZ.res _) fun _=>NZ.ok _) (NZ.ite (NZ.bind (NZ.key _ _) fun _=>NZ.bind (NZ.res _) fun _=>NZ.ok _) (NZ.bind (NZ.key _ _) fun _=>NZ.bind (NZ.res _) fun _=>NZ.ok _))))))
   intro j
   split
   ·rename_i h;exact fun e=>by injection e with e;rw [←e];exact h
   ·exact fun e=>by cases e
theorem NZ.fetch (m:MV):NZ m.fetch:=by
 unfold MV.fetch
 intro j
 simp only
 split
 ·rename_i h;exact fun e=>by injection e with e;rw [←e];exact h
 ·exact NZ.ite (NZ.err (by decide)) (NZ.ite (NZ.ok _) (NZ.err (by decide))) j
theorem err_zero {m:MV}:m.err=0↔∃ m',m.one=.ok m':=by
 unfold MV.err
 have h:NZ m.one:=by unfold MV.one;exact NZ.bind (NZ.fetch m) fun i=>NZ.exec m i
 cases e:m.one with
 | error k=>simp [h k e]
 | ok m'=>simp
def zeroMV:MV:=⟨zPO,zeroK,[],[],[]⟩
def MV.check (m:MV):Int:=zAr m.R m.c m.mem m.stk m.out
end
section
open Go.RowKit
end
section
open Go.RowKit
end
section
open Go.RowKit
theorem zJB (w:World) (T:TypeId) (old cells:Array Value):(w.alloc (.cells old T)).setRow w.heap.size cells=w.alloc (.cells cells T):=by
 unfold World.setRow
 show World.mk ..=World.mk ..
 congr 1
 apply Array.ext_getElem?
 intro i
 show ((w.heap.push (.cells old T)).modify w.heap.size _)[i]?=(w.heap.push (.cells cells T))[i]?
 rw [Array.getElem?_modify,Array.getElem?_push,Array.getElem?_push]
 by_cases h:i=w.heap.size
 ·subst h;simp
 ·rw [if_neg h,if_neg h,if_neg (fun e=>h e.symm)]
theorem zAA {P:Program} {ops:Array Oper} {rest:List Oper} {o:Oper} {a:Act} {w0:World} {Q:Exit→Act→World→Prop} (hgd:o.guard=none) (ty:TypeId) (x y:Operand) (ho:o.op=.store ty x y)
  (hd:o.dst=none) (cells:Array Value) (t:TypeId) (old:Array Value) (hx:a.eval x=.pointer (some ⟨w0.heap.size,0,none⟩)) (hy:a.eval y=.agg cells)
  (hi:(P.info? ty).map (·.size)=some cells.size) (hold:old.size=cells.size) (h1:cells.all (·.oneCell')=true)
  (h:wpList P ops Q rest a (w0.alloc (.cells cells t))):wpList P ops Q (o::rest) a (w0.alloc (.cells old t)) :=
 wpList_store_rowTo hgd ty x y ho hd w0.heap.size cells hx hy t old (zM _ _ _) hi hold h1 (by rw [zJB];exact h)
end
section
open Go.RowKit
end
section
open Go.RowKit
end
section
open Go.RowKit
end
section
open Go.RowKit
end
section
open Go.RowKit
end
end Go.Proofs.YtlpejagkadalbaaGreatDoor
