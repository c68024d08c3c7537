import Derived.Test.YtlpejagkadalbaaGreatDoorPk13
import Derived.Test.YtlpejagkadalbaaGreatDoorPk28
import Derived.Test.YtlpejagkadalbaaGreatDoorPk00
import Derived.Test.YtlpejagkadalbaaGreatDoorPk01
import Derived.Test.YtlpejagkadalbaaGreatDoorPk05
import Derived.WideShapes
import Derived.Test.YtlpejagkadalbaaGreatDoorPk31
import Derived.Test.YtlpejagkadalbaaGreatDoorPk29
import Derived.JoinedCond
import Derived.Test.YtlpejagkadalbaaGreatDoorRows
set_option maxHeartbeats 40000000
set_option maxRecDepth 100000
set_option linter.unusedVariables false
set_option linter.unusedSimpArgs false
namespace Go.Proofs.YtlpejagkadalbaaGreatDoor
open Go.RowKit
end Go.Proofs.YtlpejagkadalbaaGreatDoor
namespace Go.Proofs.YtlpejagkadalbaaGreatDoor
open Go.RowKit
theorem setRow_alloc (w:World) (T:TypeId) (old cells:Array Value):(w.alloc (.cells old T)).setRow w.heap.size cells=w.alloc (.cells cells T):=by
 unfold World.setRow
 show World.mk ..=World.mk ..
 congr 1
 apply Array.ext_getElem?
 intro i
 show ((w.heap.push (.cells old T)).modify w.heap.size _)[i]?=(w.heap.push (.cells cells T))[i]?
 rw [Array.getElem?_modify,Array.getElem?_push,Array.getElem?_push]
 by_cases h:i=w.heap.size
 ·subst h;simp
 ·rw [if_neg h,if_neg h,if_neg (fun e=>h e.symm)]
theorem wpList_store_fresh {P:Program} {ops:Array Oper} {rest:List Oper} {o:Oper} {a:Act} {w0:World} {Q:Exit→Act→World→Prop} (hgd:o.guard=none) (ty:TypeId) (x y:Operand) (ho:o.op=.store ty x y)
  (hd:o.dst=none) (cells:Array Value) (t:TypeId) (old:Array Value) (hx:a.eval x=.pointer (some ⟨w0.heap.size,0,none⟩)) (hy:a.eval y=.agg cells)
  (hi:(P.info? ty).map (·.size)=some cells.size) (hold:old.size=cells.size) (h1:cells.all (·.oneCell')=true)
  (h:wpList P ops Q rest a (w0.alloc (.cells cells t))):wpList P ops Q (o::rest) a (w0.alloc (.cells old t)) :=
 wpList_store_rowTo hgd ty x y ho hd w0.heap.size cells hx hy t old (bk_new _ _ _) hi hold h1 (by rw [setRow_alloc];exact h)
end Go.Proofs.YtlpejagkadalbaaGreatDoor
namespace Go.Proofs.YtlpejagkadalbaaGreatDoor
open Go.RowKit
end Go.Proofs.YtlpejagkadalbaaGreatDoor
namespace Go.Proofs.YtlpejagkadalbaaGreatDoor
open Go.RowKit
end Go.Proofs.YtlpejagkadalbaaGreatDoor
namespace Go.Proofs.YtlpejagkadalbaaGreatDoor
open Go.RowKit
end Go.Proofs.YtlpejagkadalbaaGreatDoor
namespace Go.Proofs.YtlpejagkadalbaaGreatDoor
open Go.RowKit
end Go.Proofs.YtlpejagkadalbaaGreatDoor
namespace Go.Proofs.YtlpejagkadalbaaGreatDoor
open Go.RowKit
end Go.Proofs.YtlpejagkadalbaaGreatDoor
namespace Go.Proofs.YtlpejagkadalbaaGreatDoor
open Go Go.RowKit Go.Shelf
theorem lit_num (n:Int) (w:World):Calls Tryz.prog 73 #[.int .i64 n] w fun e w'=>e=.returned (.bool (!num32B n))∧Below w.heap.size w w':=by
 cases h:num32B n
 ·have g:(n != wrap32 n)=true:=by simp [←num32B_iff,h]
  have G:=Lib.hid g
  go_enter Tryz.func73,Tryz.ntmps73
  go_wp2_with (go_at_call 39;(refine (wrap_any _ _).mono ?_;rintro e w' ⟨rfl,rfl⟩))
  go_ret
  exact ⟨rfl,Below.refl _ _⟩
 ·have g:(n != wrap32 n)=false:=by simp [←num32B_iff,h]
  have G:=Lib.hid g
  go_enter Tryz.func73,Tryz.ntmps73
  go_wp2_with (go_at_call 39;(refine (wrap_any _ _).mono ?_;rintro e w' ⟨rfl,rfl⟩))
  go_ret
  exact ⟨rfl,Below.refl _ _⟩
theorem idx_num (ao:Option Addr) (n c:Nat) (xs:List Int)  (p:Int→Bool) (w:World) (h:Sl w ao n xs)
  (hp:∀ W,Below w.heap.size w W→∀ x∈xs,Calls Tryz.prog 73 #[.int .i64 x] W fun e w'=>e=.returned (.bool (p x))∧Below W.heap.size W w') :
  Calls Tryz.prog 94 #[.slice ao n c,.func (.func 73) #[] #[]] w fun e w'=>(∃ i:Int,e=.returned (.int .i64 i)∧I64 i∧decide (0≤i)=xs.any p)∧Below w.heap.size w w':=by
 have hm:=h.max
 unfold maxLen at hm
 have hl:=h.len
 have HSL:=Lib.hid h
 have HP:=Lib.hid hp
 clear h hp
 go_enter Tryz.func94,Tryz.ntmps94
 go_wp2
 go_loopw [8] (fun i wr=>∃ k:Nat,k≤n∧i=.int .i64 k∧(xs.take k).any p=false∧Below w.heap.size w wr) (fun i _=>n - (intOf i).toNat)
 case atStart=>exact ⟨0,Nat.zero_le _,rfl,rfl,Below.refl _ _⟩
 case round =>
  obtain ⟨k,hk,rfl,hf,hb⟩:=hrel
  have HB:=Lib.hid hb
  have HF:=Lib.hid hf
  clear hb hf
  by_cases hlt:k < n
  ·obtain ⟨x,hx⟩:∃ x,xs[k]?=some x:=⟨_,List.getElem?_eq_getElem (by omega)⟩
   obtain ⟨ad,hao,hab,e0⟩:=sl_int (HSL.out.below HB.out) hlt hx
   subst hao
   have cm:=HP.out wr HB.out x (List.mem_of_getElem? hx)
   have htk:(xs.take (k+1)).any p=p x:=by rw [List.take_add_one,hx,List.any_append,HF.out];simp
   have q1:(k:Int) < n:=by omega
   have HX:=Lib.hid hx
   clear hx
   cases ht:p x
   ·rw [ht] at cm htk
    have CM:=Lib.hid cm
    have HT:=Lib.hid htk
    clear cm ht htk
    go_wp2_with (go_at_call 73;((with_reducible refine (CM.out).mono ?_);rintro e w1 ⟨rfl,hb1⟩;have HB1:=Lib.hid (show Below w.heap.size w w1 from ext_trans HB.out hb1)))
    go_roundw
    case rel=>exact ⟨k+1,by omega,by go_num,HT.out,HB1.out⟩
    case measure=>simp [intOf];omega
   ·rw [ht] at cm
    have hany:xs.any p=true:=List.any_eq_true.2 ⟨x,List.mem_of_getElem? HX.out,ht⟩
    have CM:=Lib.hid cm
    have HA:=Lib.hid hany
    clear cm ht htk hany
    go_wp2_with (go_at_call 73;((with_reducible refine (CM.out).mono ?_);rintro e w1 ⟨rfl,hb1⟩;have HB1:=Lib.hid (show Below w.heap.size w w1 from ext_trans HB.out hb1)))
    go_ret
    exact ⟨⟨_,rfl,by unfold I64;omega,by rw [HA.out];simp⟩,HB1.out⟩
  ·have q1:¬((k:Int) < n):=by omega
   have hany:xs.any p=false:=by have:=HF.out;rwa [List.take_of_length_le (by omega)] at this
   have HA:=Lib.hid hany
   clear hany
   go_wp2
   go_ret
   exact ⟨⟨_,rfl,by unfold I64;omega,by rw [HA.out];simp⟩,HB.out⟩
theorem has_num (ao:Option Addr) (n c:Nat) (xs:List Int)  (p:Int→Bool) (w:World) (h:Sl w ao n xs)
  (hp:∀ W,Below w.heap.size w W→∀ x∈xs,Calls Tryz.prog 73 #[.int .i64 x] W fun e w'=>e=.returned (.bool (p x))∧Below W.heap.size W w') :
  Calls Tryz.prog 72 #[.slice ao n c,.func (.func 73) #[] #[]] w fun e w'=>e=.returned (.bool (xs.any p))∧Below w.heap.size w w':=by
 have ix:=idx_num ao n c xs  p w h hp
 have IX:=Lib.hid ix
 clear ix h hp
 go_enter Tryz.func72,Tryz.ntmps72
 go_wp2_with (go_at_call 94;((with_reducible refine (IX.out).mono ?_);rintro e w1 ⟨⟨i,rfl,hi,he⟩,hb1⟩;have HE:=Lib.hid he;have HB1:=Lib.hid hb1;clear he hb1))
 go_ret
 exact ⟨by rw [←HE.out];rfl,HB1.out⟩
theorem numbers_any (ao:Option Addr) (n c:Nat) (xs:List Int) (w:World) (h:Sl w ao n xs) :
  Calls Tryz.prog 45 #[.slice ao n c] w fun e w'=>e=.returned (.bool (xs.all num32B))∧Below w.heap.size w w':=by
 have hc:=has_num ao n c xs (fun n => !num32B n) w h (fun W _ x _=>lit_num x W)
 have e:xs.all num32B = !(xs.any fun n => !num32B n):=by
  induction xs with
  | nil=>rfl
  | cons x xs ih=>simp [List.all_eq_not_any_not]
 rw [e]
 generalize (xs.any fun n => !num32B n)=b at *
 have HC:=Lib.hid hc
 clear hc h
 go_enter Tryz.func45,Tryz.ntmps45
 go_wp2_with (go_at_call 72;((with_reducible refine (HC.out).mono ?_);rintro e w1 ⟨rfl,hb1⟩;have HB1:=Lib.hid hb1;clear hb1))
 go_ret
 exact ⟨rfl,HB1.out⟩
theorem lit_lab (x y:NamV) (g:Nat) (w:World) (hg:g < w.heap.size) (hc:w.cell? ⟨g,0,none⟩=some (.string x.name)) :
  Calls Tryz.prog 48 #[.agg #[.string y.name,.int .i64 y.at_],.pointer (some ⟨g,0,none⟩)] w fun e w'=>e=.returned (.bool (decide (y.name=x.name)))∧Below w.heap.size w w':=by
 have hw1:(w.alloc (.cells #[.string y.name,.int .i64 y.at_] 91)).cell? ⟨g,0,none⟩=some (.string x.name):=by rw [←hc];exact (ext_alloc (Below.refl _ _) _).cell (p:=⟨g,0,none⟩) hg
 obtain ⟨w1,e1⟩:∃ w1,w1=w.alloc (.cells #[.string y.name,.int .i64 y.at_] 91):=⟨_,rfl⟩
 have b1:Bk w1 w.heap.size 91 #[.string y.name,.int .i64 y.at_]:=by rw [e1];exact bk_new _ _ _
 have hb:Below w.heap.size w w1:=by rw [e1];exact ext_alloc (Below.refl _ _) _
 have y0:w1.cell? ⟨w.heap.size,0,none⟩=some (.string y.name):=b1.cell 0
 have bl:=b1.lt
 have hg1:g < w1.heap.size:=Nat.lt_of_lt_of_le hg hb.size
 rw [←e1] at hw1
 have E1:=Lib.hid e1
 have HB:=Lib.hid hb
 have f:(y.name.toList==x.name.toList)=decide (y.name=x.name):=by
  by_cases h:y.name=x.name
  ·simp [h]
  ·rw [decide_eq_false h];exact beq_eq_false_iff_ne.2 fun e=>h (name_eq.1 e)
 generalize decide (y.name=x.name)=b at *
 have F:=Lib.hid f
 clear e1 b1 hb f hc
 go_enter Tryz.func48,Tryz.ntmps48
 go_upto_region 1 with (fail)
 rw [←E1.out]
 go_wp2
 go_ret
 exact ⟨by rw [←F.out];rfl,HB.out⟩
def nearB (x y:NamV):Bool:=decide (x.at_ - y.at_ < 2∧y.at_ - x.at_ < 2)
theorem max_two (ats:Array TypeId) (ty:TypeId) (a b:Int):Go.Builtin.max_ ats ty #[.int .i64 a,.int .i64 b]=pure (.int .i64 (if b > a then b else a)):=by
 unfold Go.Builtin.max_
 simp [Go.Builtin.max2]
attribute [local go_sem] max_two
theorem lit_imp (x y:NamV) (g:Nat) (w:World) (hx:0≤x.at_∧x.at_≤60) (hy:0≤y.at_∧y.at_≤60) (hg:g < w.heap.size) (hc:w.cell? ⟨g,1,none⟩=some (.int .i64 x.at_)) :
  Calls Tryz.prog 50 #[.agg #[.string y.name,.int .i64 y.at_],.pointer (some ⟨g,0,none⟩)] w fun e w'=>e=.returned (.bool (nearB x y))∧Below w.heap.size w w':=by
 have hw1:(w.alloc (.cells #[.string y.name,.int .i64 y.at_] 93)).cell? ⟨g,1,none⟩=some (.int .i64 x.at_):=by rw [←hc];exact (ext_alloc (Below.refl _ _) _).cell (p:=⟨g,1,none⟩) hg
 obtain ⟨w1,e1⟩:∃ w1,w1=w.alloc (.cells #[.string y.name,.int .i64 y.at_] 93):=⟨_,rfl⟩
 have b1:Bk w1 w.heap.size 93 #[.string y.name,.int .i64 y.at_]:=by rw [e1];exact bk_new _ _ _
 have hb:Below w.heap.size w w1:=by rw [e1];exact ext_alloc (Below.refl _ _) _
 have y0:w1.cell? ⟨w.heap.size,1,none⟩=some (.int .i64 y.at_):=b1.cell 1
 have bl:=b1.lt
 have hg1:g < w1.heap.size:=Nat.lt_of_lt_of_le hg hb.size
 rw [←e1] at hw1
 have E1:=Lib.hid e1
 have HB:=Lib.hid hb
 obtain ⟨xn,a⟩:=x
 obtain ⟨yn,b⟩:=y
 simp only at hx hy hw1 y0
 have f:decide ((if b - a > a - b then b - a else a - b) < 2)=nearB ⟨xn,a⟩ ⟨yn,b⟩:=by
  unfold nearB
  simp only
  congr 1
  split<;>simp<;>omega
 generalize nearB ⟨xn,a⟩ ⟨yn,b⟩=c at *
 clear e1 b1 hb hc
 by_cases hh:b - a > a - b
 ·rw [if_pos hh] at f
  have F:=Lib.hid f
  clear f
  go_enter Tryz.func50,Tryz.ntmps50
  go_upto_region 1 with (fail)
  rw [←E1.out]
  go_wp2
  go_ret
  exact ⟨by rw [←F.out];rfl,HB.out⟩
 ·rw [if_neg hh] at f
  have F:=Lib.hid f
  clear f
  go_enter Tryz.func50,Tryz.ntmps50
  go_upto_region 1 with (fail)
  rw [←E1.out]
  go_wp2
  go_ret
  exact ⟨by rw [←F.out];rfl,HB.out⟩
theorem idx_lab (ao:Option Addr) (n c:Nat) (xs:List NamV) (g:Nat) (p:NamV→Bool) (w:World) (h:Sl w ao n xs)
  (hp:∀ W,Below w.heap.size w W→∀ x∈xs,Calls Tryz.prog 48 #[.agg #[.string x.name,.int .i64 x.at_],.pointer (some ⟨g,0,none⟩)] W fun e w'=>e=.returned (.bool (p x))∧Below W.heap.size W w') :
  Calls Tryz.prog 76 #[.slice ao n c,.func (.func 48) #[] #[.pointer (some ⟨g,0,none⟩)]] w fun e w'=>(∃ i:Int,e=.returned (.int .i64 i)∧I64 i∧decide (0≤i)=xs.any p)∧Below w.heap.size w w':=by
 have hm:=h.max
 unfold maxLen at hm
 have hl:=h.len
 have HSL:=Lib.hid h
 have HP:=Lib.hid hp
 clear h hp
 go_enter Tryz.func76,Tryz.ntmps76
 go_wp2
 go_loopw [8] (fun i wr=>∃ k:Nat,k≤n∧i=.int .i64 k∧(xs.take k).any p=false∧Below w.heap.size w wr) (fun i _=>n - (intOf i).toNat)
 case atStart=>exact ⟨0,Nat.zero_le _,rfl,rfl,Below.refl _ _⟩
 case round =>
  obtain ⟨k,hk,rfl,hf,hb⟩:=hrel
  have HB:=Lib.hid hb
  have HF:=Lib.hid hf
  clear hb hf
  by_cases hlt:k < n
  ·obtain ⟨x,hx⟩:∃ x,xs[k]?=some x:=⟨_,List.getElem?_eq_getElem (by omega)⟩
   obtain ⟨ad,hao,hab,e0,e1⟩:=sl_NamV (HSL.out.below HB.out) hlt hx
   subst hao
   have cm:=HP.out wr HB.out x (List.mem_of_getElem? hx)
   have htk:(xs.take (k+1)).any p=p x:=by rw [List.take_add_one,hx,List.any_append,HF.out];simp
   have q1:(k:Int) < n:=by omega
   have HX:=Lib.hid hx
   clear hx
   cases ht:p x
   ·rw [ht] at cm htk
    have CM:=Lib.hid cm
    have HT:=Lib.hid htk
    clear cm ht htk
    go_wp2_with (go_at_call 48;((with_reducible refine (CM.out).mono ?_);rintro e w1 ⟨rfl,hb1⟩;have HB1:=Lib.hid (show Below w.heap.size w w1 from ext_trans HB.out hb1)))
    go_roundw
    case rel=>exact ⟨k+1,by omega,by go_num,HT.out,HB1.out⟩
    case measure=>simp [intOf];omega
   ·rw [ht] at cm
    have hany:xs.any p=true:=List.any_eq_true.2 ⟨x,List.mem_of_getElem? HX.out,ht⟩
    have CM:=Lib.hid cm
    have HA:=Lib.hid hany
    clear cm ht htk hany
    go_wp2_with (go_at_call 48;((with_reducible refine (CM.out).mono ?_);rintro e w1 ⟨rfl,hb1⟩;have HB1:=Lib.hid (show Below w.heap.size w w1 from ext_trans HB.out hb1)))
    go_ret
    exact ⟨⟨_,rfl,by unfold I64;omega,by rw [HA.out];simp⟩,HB1.out⟩
  ·have q1:¬((k:Int) < n):=by omega
   have hany:xs.any p=false:=by have:=HF.out;rwa [List.take_of_length_le (by omega)] at this
   have HA:=Lib.hid hany
   clear hany
   go_wp2
   go_ret
   exact ⟨⟨_,rfl,by unfold I64;omega,by rw [HA.out];simp⟩,HB.out⟩
theorem has_lab (ao:Option Addr) (n c:Nat) (xs:List NamV) (g:Nat) (p:NamV→Bool) (w:World) (h:Sl w ao n xs)
  (hp:∀ W,Below w.heap.size w W→∀ x∈xs,Calls Tryz.prog 48 #[.agg #[.string x.name,.int .i64 x.at_],.pointer (some ⟨g,0,none⟩)] W fun e w'=>e=.returned (.bool (p x))∧Below W.heap.size W w') :
  Calls Tryz.prog 47 #[.slice ao n c,.func (.func 48) #[] #[.pointer (some ⟨g,0,none⟩)]] w fun e w'=>e=.returned (.bool (xs.any p))∧Below w.heap.size w w':=by
 have ix:=idx_lab ao n c xs g p w h hp
 have IX:=Lib.hid ix
 clear ix h hp
 go_enter Tryz.func47,Tryz.ntmps47
 go_wp2_with (go_at_call 76;((with_reducible refine (IX.out).mono ?_);rintro e w1 ⟨⟨i,rfl,hi,he⟩,hb1⟩;have HE:=Lib.hid he;have HB1:=Lib.hid hb1;clear he hb1))
 go_ret
 exact ⟨by rw [←HE.out];rfl,HB1.out⟩
theorem idx_imp (ao:Option Addr) (n c:Nat) (xs:List NamV) (g:Nat) (p:NamV→Bool) (w:World) (h:Sl w ao n xs)
  (hp:∀ W,Below w.heap.size w W→∀ x∈xs,Calls Tryz.prog 50 #[.agg #[.string x.name,.int .i64 x.at_],.pointer (some ⟨g,0,none⟩)] W fun e w'=>e=.returned (.bool (p x))∧Below W.heap.size W w') :
  Calls Tryz.prog 77 #[.slice ao n c,.func (.func 50) #[] #[.pointer (some ⟨g,0,none⟩)]] w fun e w'=>(∃ i:Int,e=.returned (.int .i64 i)∧I64 i∧decide (0≤i)=xs.any p)∧Below w.heap.size w w':=by
 have hm:=h.max
 unfold maxLen at hm
 have hl:=h.len
 have HSL:=Lib.hid h
 have HP:=Lib.hid hp
 clear h hp
 go_enter Tryz.func77,Tryz.ntmps77
 go_wp2
 go_loopw [8] (fun i wr=>∃ k:Nat,k≤n∧i=.int .i64 k∧(xs.take k).any p=false∧Below w.heap.size w wr) (fun i _=>n - (intOf i).toNat)
 case atStart=>exact ⟨0,Nat.zero_le _,rfl,rfl,Below.refl _ _⟩
 case round =>
  obtain ⟨k,hk,rfl,hf,hb⟩:=hrel
  have HB:=Lib.hid hb
  have HF:=Lib.hid hf
  clear hb hf
  by_cases hlt:k < n
  ·obtain ⟨x,hx⟩:∃ x,xs[k]?=some x:=⟨_,List.getElem?_eq_getElem (by omega)⟩
   obtain ⟨ad,hao,hab,e0,e1⟩:=sl_NamV (HSL.out.below HB.out) hlt hx
   subst hao
   have cm:=HP.out wr HB.out x (List.mem_of_getElem? hx)
   have htk:(xs.take (k+1)).any p=p x:=by rw [List.take_add_one,hx,List.any_append,HF.out];simp
   have q1:(k:Int) < n:=by omega
   have HX:=Lib.hid hx
   clear hx
   cases ht:p x
   ·rw [ht] at cm htk
    have CM:=Lib.hid cm
    have HT:=Lib.hid htk
    clear cm ht htk
    go_wp2_with (go_at_call 50;((with_reducible refine (CM.out).mono ?_);rintro e w1 ⟨rfl,hb1⟩;have HB1:=Lib.hid (show Below w.heap.size w w1 from ext_trans HB.out hb1)))
    go_roundw
    case rel=>exact ⟨k+1,by omega,by go_num,HT.out,HB1.out⟩
    case measure=>simp [intOf];omega
   ·rw [ht] at cm
    have hany:xs.any p=true:=List.any_eq_true.2 ⟨x,List.mem_of_getElem? HX.out,ht⟩
    have CM:=Lib.hid cm
    have HA:=Lib.hid hany
    clear cm ht htk hany
    go_wp2_with (go_at_call 50;((with_reducible refine (CM.out).mono ?_);rintro e w1 ⟨rfl,hb1⟩;have HB1:=Lib.hid (show Below w.heap.size w w1 from ext_trans HB.out hb1)))
    go_ret
    exact ⟨⟨_,rfl,by unfold I64;omega,by rw [HA.out];simp⟩,HB1.out⟩
  ·have q1:¬((k:Int) < n):=by omega
   have hany:xs.any p=false:=by have:=HF.out;rwa [List.take_of_length_le (by omega)] at this
   have HA:=Lib.hid hany
   clear hany
   go_wp2
   go_ret
   exact ⟨⟨_,rfl,by unfold I64;omega,by rw [HA.out];simp⟩,HB.out⟩
theorem has_imp (ao:Option Addr) (n c:Nat) (xs:List NamV) (g:Nat) (p:NamV→Bool) (w:World) (h:Sl w ao n xs)
  (hp:∀ W,Below w.heap.size w W→∀ x∈xs,Calls Tryz.prog 50 #[.agg #[.string x.name,.int .i64 x.at_],.pointer (some ⟨g,0,none⟩)] W fun e w'=>e=.returned (.bool (p x))∧Below W.heap.size W w') :
  Calls Tryz.prog 49 #[.slice ao n c,.func (.func 50) #[] #[.pointer (some ⟨g,0,none⟩)]] w fun e w'=>e=.returned (.bool (xs.any p))∧Below w.heap.size w w':=by
 have ix:=idx_imp ao n c xs g p w h hp
 have IX:=Lib.hid ix
 clear ix h hp
 go_enter Tryz.func49,Tryz.ntmps49
 go_wp2_with (go_at_call 77;((with_reducible refine (IX.out).mono ?_);rintro e w1 ⟨⟨i,rfl,hi,he⟩,hb1⟩;have HE:=Lib.hid he;have HB1:=Lib.hid hb1;clear he hb1))
 go_ret
 exact ⟨by rw [←HE.out];rfl,HB1.out⟩
end Go.Proofs.YtlpejagkadalbaaGreatDoor
namespace Go.Proofs.YtlpejagkadalbaaGreatDoor
open Go Go.RowKit Go.Shelf
theorem rline_any (g:Nat) (r:RdV) (vc vl vh:Value) (n:Int) (s:ByteArray) (w:World) (h:RdSt g r vc vl vh w) (he:PEnv w) (hs:s.size≤67108864) (hn1:r.code.length≤1000) (hn2:r.holes.length≤1000) (hn3:r.labels.length≤1000) :
  Calls Tryz.prog 87 #[.pointer (some ⟨g,0,none⟩),.int .i64 n,.string s] w (RdPost g w (lineR r n s.data.toList).1 (lineR r n s.data.toList).2):=by
 have gL:=h.b.lt
 have gS:=h.gle
 have hsl:s.data.toList.length=s.size:=rfl
 have cs:∀ W,_:=fun W=>Tryz.strings_CutSuffix s ⟨#[58]⟩ W (by omega)
 by_cases h1:80 < s.size
 ·have e:lineR r n s.data.toList=(r,2):=by unfold lineR;rw [if_pos (by omega)]
  rw [e]
  have q1:(80:Int) < s.size:=by omega
  have ST:=Lib.hid h
  clear h he e cs hsl
  go_enter Tryz.func87,Tryz.ntmps87
  go_wp2
  go_ret
  exact rd_post ST.out (Below.refl _ _) rfl
 have q1:¬((80:Int) < s.size):=by omega
 cases h2:Lib.hasSuffix s.data.toList [58]
 ·have c1:Lib.hasSuffix s.data.toList (⟨#[58]⟩:ByteArray).data.toList=false:=h2
  simp only [c1] at cs
  by_cases h3:s.data.toList=[]
  ·have e:lineR r n s.data.toList=(r,0):=by unfold lineR;rw [if_neg (by omega),if_neg (by rw [h2];simp),if_pos h3]
   rw [e]
   have q0:s.toList.isEmpty=true:=by rw [ByteArray.toList_eq,h3];rfl
   have ST:=Lib.hid h
   have CS:=Lib.hid cs
   clear h he e cs hsl h1 h2 h3 c1
   go_enter Tryz.func87,Tryz.ntmps87
   go_wp2_with (go_at_call 102;((with_reducible refine (CS.out _).mono ?_);rintro e w' ⟨rfl,hw'⟩;subst w'))
   go_ret
   exact rd_post ST.out (Below.refl _ _) rfl
  ·have e:lineR r n s.data.toList=cellR r n s.data.toList:=by unfold lineR;rw [if_neg (by omega),if_neg (by rw [h2];simp),if_neg h3]
   rw [e]
   have q0:s.toList.isEmpty=false:=by
    rw [ByteArray.toList_eq]
    cases hh:s.data.toList with
    | nil=>exact absurd hh h3
    | cons x y=>rfl
   have ce:=rcell_any g r vc vl vh n s w h he (by omega) hn1 hn2
   obtain ⟨r',hr'⟩:∃ r',(cellR r n s.data.toList).1=r':=⟨_,rfl⟩
   obtain ⟨er,her⟩:∃ er,(cellR r n s.data.toList).2=er:=⟨_,rfl⟩
   rw [hr',her] at ce ⊢
   have CE:=Lib.hid ce
   have CS:=Lib.hid cs
   clear h he e cs hsl h1 h2 h3 c1 ce hr' her
   go_enter Tryz.func87,Tryz.ntmps87
   go_wp2_with (first
    | (go_at_call 102;((with_reducible refine (CS.out _).mono ?_);rintro e w' ⟨rfl,hw'⟩;subst w'))
    | (go_at_call 104;((with_reducible refine CE.out.mono ?_);rintro e w1 ⟨rfl,⟨vc',vl',vh',hst⟩,hb⟩;have S1:=Lib.hid hst;have HB:=Lib.hid hb;clear hst hb)))
   go_ret
   exact rd_post S1.out HB.out rfl
 ·have c1:Lib.hasSuffix s.data.toList (⟨#[58]⟩:ByteArray).data.toList=true:=h2
  obtain ⟨q,hq⟩:∃ q:ByteArray,(⟨(Lib.trimSuffix s.data.toList [58]).toArray⟩:ByteArray)=q:=⟨_,rfl⟩
  have hq2:(⟨(Lib.trimSuffix s.data.toList (⟨#[58]⟩:ByteArray).data.toList).toArray⟩:ByteArray)=q:=hq
  simp only [c1,hq2] at cs
  have e:lineR r n s.data.toList=labelR r q:=by unfold lineR;rw [if_neg (by omega),if_pos h2,←hq];rfl
  rw [e]
  have hqs:q.size≤s.size:=by
   have h3:q.size=q.data.toList.length:=rfl
   have h4:q.data.toList=Lib.trimSuffix s.data.toList [58]:=by rw [←hq]
   rw [h3,h4,←hsl]
   unfold Lib.trimSuffix
   split
   all_goals first
    | exact Nat.le_refl _
    | (rw [List.length_take];omega)
  have ce:=rlabel_any g r vc vl vh q w h (by omega) hn1 hn3
  obtain ⟨r',hr'⟩:∃ r',(labelR r q).1=r':=⟨_,rfl⟩
  obtain ⟨er,her⟩:∃ er,(labelR r q).2=er:=⟨_,rfl⟩
  rw [hr',her] at ce ⊢
  have CE:=Lib.hid ce
  have CS:=Lib.hid cs
  clear h he e cs hsl h1 h2 c1 ce hr' her hqs hq hq2
  go_enter Tryz.func87,Tryz.ntmps87
  go_wp2_with (first
   | (go_at_call 102;((with_reducible refine (CS.out _).mono ?_);rintro e w' ⟨rfl,hw'⟩;subst w'))
   | (go_at_call 103;((with_reducible refine CE.out.mono ?_);rintro e w1 ⟨rfl,⟨vc',vl',vh',hst⟩,hb⟩;have S1:=Lib.hid hst;have HB:=Lib.hid hb;clear hst hb)))
  go_ret
  exact rd_post S1.out HB.out rfl
end Go.Proofs.YtlpejagkadalbaaGreatDoor
namespace Go.Proofs.YtlpejagkadalbaaGreatDoor
open Go Go.RowKit
theorem opK {i:InstV} (h:instOk i=true):0≤i.op∧i.op.toNat < 23:=by
 have h1:=(instOk_bd (op:=i.op) (a:=i.a) (b:=i.b) (c:=i.c) h)
 omega
end Go.Proofs.YtlpejagkadalbaaGreatDoor
namespace Go.Proofs.YtlpejagkadalbaaGreatDoor
open Go Go.RowKit
structure Sim (r r':RdV):Prop where
 code:r.code=r'.code
 labels:r.labels=r'.labels
 holes:r.holes.map (fun h=>(h.at_,h.i,h.name))=r'.holes.map (fun h=>(h.at_,h.i,h.name))
theorem Sim.refl (r:RdV):Sim r r:=⟨rfl,rfl,rfl⟩
theorem Sim.line {r r':RdV} (h:Sim r r') (n n':Int) (s:List UInt8):Sim (lineR r n s).1 (lineR r' n' s).1∧(lineR r n s).2=(lineR r' n' s).2:=by
 obtain ⟨c,l,o⟩:=r
 obtain ⟨c',l',o'⟩:=r'
 obtain ⟨h1,h2,h3⟩:=h
 simp only at h1 h2 h3
 subst h1 h2
 unfold lineR
 split
 ·exact ⟨⟨rfl,rfl,h3⟩,rfl⟩
 split
 ·unfold labelR
  split
  ·exact ⟨⟨rfl,rfl,h3⟩,rfl⟩
  split
  ·exact ⟨⟨rfl,rfl,h3⟩,rfl⟩
  split
  ·exact ⟨⟨rfl,rfl,h3⟩,rfl⟩
  ·exact ⟨⟨rfl,rfl,h3⟩,rfl⟩
 split
 ·exact ⟨⟨rfl,rfl,h3⟩,rfl⟩
 ·unfold cellR
  split
  ·split
   ·exact ⟨⟨rfl,rfl,h3⟩,rfl⟩
   ·exact ⟨⟨rfl,rfl,h3⟩,rfl⟩
  split
  ·refine ⟨⟨rfl,rfl,?_⟩,rfl⟩
   simp only [List.map_append,h3,List.map_cons,List.map_nil]
  split
  ·exact ⟨⟨rfl,rfl,h3⟩,rfl⟩
  ·exact ⟨⟨rfl,rfl,h3⟩,rfl⟩
theorem holes_len:∀ (hs:List HoleV) (labels:List NamV) (code:List Int),(holesR labels code hs).1.length=code.length
 | [],_,_=>rfl
 | h::hs,labels,code=>by
  rw [holes_cons]
  split
  ·rfl
  split
  ·rw [holes_len hs];simp
  ·rfl
end Go.Proofs.YtlpejagkadalbaaGreatDoor
namespace Go.Proofs.YtlpejagkadalbaaGreatDoor
open Go Go.ChangeShapes Go.WideShapes Go.ChangeAt Go.RowKit
theorem jfA:(Rows.topCounterRow.inPlace==Tryz.pinned.checked.prog.inPlace 4)=true:=by kernel_rfl
theorem jfB:(Rows.topCounterRow.unfollowed==Tryz.pinned.checked.prog.unfollowed 4)=true:=by kernel_rfl
theorem jfC:(Rows.topCounterRow.recurses==Tryz.pinned.checked.prog.recurses 4)=true:=by kernel_rfl
theorem jfD:(Rows.topCounterRow.named==Tryz.pinned.checked.prog.varsNamed 4)=true:=by kernel_rfl
theorem jf:joinedFacts Tryz.pinned.checked.prog 4 Tryz.f4 (OpenSpec.ofChange Rows.topCounterSpec).bare Rows.topCounterRow=true:=by
 unfold joinedFacts
 rw [jfA,jfB,jfC,jfD]
 kernel_rfl
end Go.Proofs.YtlpejagkadalbaaGreatDoor
