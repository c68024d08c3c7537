import Derived.Test.YtlpejagkadalbaaGreatDoorZk32
set_option maxHeartbeats 40000000
set_option maxRecDepth 100000
set_option linter.unusedVariables false
set_option linter.unusedSimpArgs false
namespace Go.Proofs.YtlpejagkadalbaaGreatDoor
section
open Go.RowKit
def zCc (a b:KeyV):Prop:=(a.len=0∨(b.base≤a.base∧a.base+a.len≤b.base+b.len))∧zBJ a.perm b.perm=true
theorem zES (a:KeyV):zCc a a:=⟨.inr ⟨by omega,by omega⟩,zCR _⟩
theorem zIp {a b c:KeyV} (h:zCc a b) (k:zCc b c) (hl:0≤a.len):zCc a c:=by
 obtain ⟨h1,h2⟩:=h
 obtain ⟨k1,k2⟩:=k
 exact ⟨by omega,zCg h2 k2⟩
theorem zGr {k:KeyV} {n:Int} (h:(zBX k n).2=0):(zBX k n).1.Ok∧k.Ok∧k.seal_=0∧zCc (zBX k n).1 k:=by
 rcases zD9 k n with ⟨c,he,h0⟩ | ⟨he,ok,hs,h1,h2⟩
 ·rw [he] at h;exact absurd h h0
 ·rw [he]
  obtain ⟨p0,p1,b0,b1,l0,l1,a0,a1,s0,s1⟩:=ok
  refine ⟨?_,⟨p0,p1,b0,b1,l0,l1,a0,a1,s0,s1⟩,hs,.inr ⟨by simp only;omega,by simp only;omega⟩,zCR _⟩
  constructor<;>simp only<;>omega
theorem zFN {k:KeyV} {n:Int} (h:(zA1 k n).2=0):(zA1 k n).1.Ok∧k.Ok∧k.seal_=0∧zCc (zA1 k n).1 k:=by
 rcases zDT k n with ⟨c,he,h0⟩ | ⟨he,ok,hs,h1,h2,h3⟩
 ·rw [he] at h;exact absurd h h0
 ·rw [he]
  obtain ⟨p0,p1,b0,b1,l0,l1,a0,a1,s0,s1⟩:=ok
  refine ⟨?_,⟨p0,p1,b0,b1,l0,l1,a0,a1,s0,s1⟩,hs,.inr ⟨by simp only;omega,by simp only;omega⟩,zCR _⟩
  constructor<;>simp only<;>omega
theorem zG4 {k:KeyV} {n:Int} (h:(zBt k n).2=0):(zBt k n).1.Ok∧k.Ok∧k.seal_=0∧zCc (zBt k n).1 k:=by
 rcases zEA k n with ⟨c,he,h0⟩ | ⟨he,ok,hs⟩
 ·rw [he] at h;exact absurd h h0
 ·rw [he]
  obtain ⟨p0,p1,b0,b1,l0,l1,a0,a1,s0,s1⟩:=ok
  have hp:=zJU p0 p1 n
  refine ⟨?_,⟨p0,p1,b0,b1,l0,l1,a0,a1,s0,s1⟩,hs,.inr ⟨by simp only;omega,by simp only;omega⟩,zG5 _ _⟩
  constructor<;>simp only<;>omega
theorem zKe {k c:KeyV} (h:(zA0 k c).2=0):(zA0 k c).1.Ok∧k.Ok∧k.seal_=0∧zCc (zA0 k c).1 k:=by
 rcases zD7 k c with ⟨e,he,h0⟩ | ⟨he,ok,oc,hs,h1,h2,h3,h4,h5⟩
 ·rw [he] at h;exact absurd h h0
 ·rw [he]
  obtain ⟨p0,p1,b0,b1,l0,l1,a0,a1,s0,s1⟩:=ok
  refine ⟨?_,⟨p0,p1,b0,b1,l0,l1,a0,a1,s0,s1⟩,hs,.inr ⟨by simp only;omega,by simp only;omega⟩,zCR _⟩
  constructor<;>simp only<;>omega
theorem zKv {k c:KeyV} (h:(zA7 k c).2=0):(zA7 k c).1.Ok∧k.Ok∧zCc (zA7 k c).1 k:=by
 rcases zD8 k c with ⟨e,he,h0⟩ | ⟨he,ok,oc,hs,h1,h2,h3,h4⟩
 ·rw [he] at h;exact absurd h h0
 ·rw [he]
  obtain ⟨p0,p1,b0,b1,l0,l1,a0,a1,s0,s1⟩:=ok
  refine ⟨?_,⟨p0,p1,b0,b1,l0,l1,a0,a1,s0,s1⟩,.inr ⟨by simp only;omega,by simp only;omega⟩,zCR _⟩
  constructor<;>simp only<;>omega
end
section
open Go.RowKit
end
section
open Go.RowKit
theorem zHW (w:World) (T:TypeId) (old cells:Array Value):(w.alloc (.cells old T)).setRow w.heap.size cells=w.alloc (.cells cells T):=by
 unfold World.setRow
 show World.mk ..=World.mk ..
 congr 1
 apply Array.ext_getElem?
 intro i
 show ((w.heap.push (.cells old T)).modify w.heap.size _)[i]?=(w.heap.push (.cells cells T))[i]?
 rw [Array.getElem?_modify,Array.getElem?_push,Array.getElem?_push]
 by_cases h:i=w.heap.size
 ·subst h;simp
 ·rw [if_neg h,if_neg h,if_neg (fun e=>h e.symm)]
theorem zAI {P:Program} {ops:Array Oper} {rest:List Oper} {o:Oper} {a:Act} {w0:World} {Q:Exit→Act→World→Prop} (hgd:o.guard=none) (ty:TypeId) (x y:Operand) (ho:o.op=.store ty x y)
  (hd:o.dst=none) (cells:Array Value) (t:TypeId) (old:Array Value) (hx:a.eval x=.pointer (some ⟨w0.heap.size,0,none⟩)) (hy:a.eval y=.agg cells)
  (hi:(P.info? ty).map (·.size)=some cells.size) (hold:old.size=cells.size) (h1:cells.all (·.oneCell')=true)
  (h:wpList P ops Q rest a (w0.alloc (.cells cells t))):wpList P ops Q (o::rest) a (w0.alloc (.cells old t)) :=
 wpList_store_rowTo hgd ty x y ho hd w0.heap.size cells hx hy t old (zM _ _ _) hi hold h1 (by rw [zHW];exact h)
end
section
open Go.RowKit
end
section
open Go.RowKit
end
section
open Go.RowKit
end
section
open Go.RowKit
end
section
open Go.RowKit
end
section
open Go Go.RowKit Go.Shelf
theorem zNg (n:Int) (w:World):Calls Tryz.prog 73 #[.int .i64 n] w fun e w'=>e=.returned (.bool (!zAs n))∧Below w.heap.size w w':=by
 cases h:zAs n
 ·have g:(n != wrap32 n)=true:=by simp [←zDe,h]
  have G:=zA g
  go_enter Tryz.func73,Tryz.ntmps73
  go_wp2_with (go_at_call 39;(refine (zBg _ _).mono ?_;rintro e w' ⟨rfl,rfl⟩))
  go_ret
  exact ⟨rfl,Below.refl _ _⟩
 ·have g:(n != wrap32 n)=false:=by simp [←zDe,h]
  have G:=zA g
  go_enter Tryz.func73,Tryz.ntmps73
  go_wp2_with (go_at_call 39;(refine (zBg _ _).mono ?_;rintro e w' ⟨rfl,rfl⟩))
  go_ret
  exact ⟨rfl,Below.refl _ _⟩
theorem zNk (ao:Option Addr) (n c:Nat) (xs:List Int)  (p:Int→Bool) (w:World) (h:Sl w ao n xs)
  (hp:∀ W,Below w.heap.size w W→∀ x∈xs,Calls Tryz.prog 73 #[.int .i64 x] W fun e w'=>e=.returned (.bool (p x))∧Below W.heap.size W w') :
  Calls Tryz.prog 94 #[.slice ao n c,.func (.func 73) #[] #[]] w fun e w'=>(∃ i:Int,e=.returned (.int .i64 i)∧I64 i∧decide (0≤i)=xs.any p)∧Below w.heap.size w w':=by
 have hm:=h.max
 unfold maxLen at hm
 have hl:=h.len
 have HSL:=zA h
 have HP:=zA hp
 clear h hp
 go_enter Tryz.func94,Tryz.ntmps94
 go_wp2
 go_loopw [8] (fun i wr=>∃ k:Nat,k≤n∧i=.int .i64 k∧(xs.take k).any p=false∧Below w.heap.size w wr) (fun i _=>n - (intOf i).toNat)
 case atStart=>exact ⟨0,Nat.zero_le _,rfl,rfl,Below.refl _ _⟩
 case round =>
  obtain ⟨k,hk,rfl,hf,hb⟩:=hrel
  have HB:=zA hb
  have HF:=zA hf
  clear hb hf
  by_cases hlt:k < n
  ·obtain ⟨x,hx⟩:∃ x,xs[k]?=some x:=⟨_,List.getElem?_eq_getElem (by omega)⟩
   obtain ⟨ad,hao,hab,e0⟩:=zDt (HSL.out.below HB.out) hlt hx
   subst hao
   have cm:=HP.out wr HB.out x (List.mem_of_getElem? hx)
   have htk:(xs.take (k+1)).any p=p x:=by rw [List.take_add_one,hx,List.any_append,HF.out];simp
   have q1:(k:Int) < n:=by omega
   have HX:=zA hx
   clear hx
   cases ht:p x
   ·rw [ht] at cm htk
    have CM:=zA cm
    have HT:=zA htk
    clear cm ht htk
    go_wp2_with (go_at_call 73;((with_reducible refine (CM.out).mono ?_);rintro e w1 ⟨rfl,hb1⟩;have HB1:=zA (show Below w.heap.size w w1 from zI HB.out hb1)))
    go_roundw
    case rel=>exact ⟨k+1,by omega,by go_num,HT.out,HB1.out⟩
    case measure=>simp [intOf];omega
   ·rw [ht] at cm
    have hany:xs.any p=true:=List.any_eq_true.2 ⟨x,List.mem_of_getElem? HX.out,ht⟩
    have CM:=zA cm
    have HA:=zA hany
    clear cm ht htk hany
    go_wp2_with (go_at_call 73;((with_reducible refine (CM.out).mono ?_);rintro e w1 ⟨rfl,hb1⟩;have HB1:=zA (show Below w.heap.size w w1 from zI HB.out hb1)))
    go_ret
    exact ⟨⟨_,rfl,by unfold I64;omega,by rw [HA.out];simp⟩,HB1.out⟩
  ·have q1:¬((k:Int) < n):=by omega
   have hany:xs.any p=false:=by have:=HF.out;rwa [List.take_of_length_le (by omega)] at this
   have HA:=zA hany
   clear hany
   go_wp2
   go_ret
   exact ⟨⟨_,rfl,by unfold I64;omega,by rw [HA.out];simp⟩,HB.out⟩
theorem zNn (ao:Option Addr) (n c:Nat) (xs:List Int)  (p:Int→Bool) (w:World) (h:Sl w ao n xs)
  (hp:∀ W,Below w.heap.size w W→∀ x∈xs,Calls Tryz.prog 73 #[.int .i64 x] W fun e w'=>e=.returned (.bool (p x))∧Below W.heap.size W w') :
  Calls Tryz.prog 72 #[.slice ao n c,.func (.func 73) #[] #[]] w fun e w'=>e=.returned (.bool (xs.any p))∧Below w.heap.size w w':=by
 have ix:=zNk ao n c xs  p w h hp
 have IX:=zA ix
 clear ix h hp
 go_enter Tryz.func72,Tryz.ntmps72
 go_wp2_with (go_at_call 94;((with_reducible refine (IX.out).mono ?_);rintro e w1 ⟨⟨i,rfl,hi,he⟩,hb1⟩;have HE:=zA he;have HB1:=zA hb1;clear he hb1))
 go_ret
 exact ⟨by rw [←HE.out];rfl,HB1.out⟩
theorem zFM (ao:Option Addr) (n c:Nat) (xs:List Int) (w:World) (h:Sl w ao n xs) :
  Calls Tryz.prog 45 #[.slice ao n c] w fun e w'=>e=.returned (.bool (xs.all zAs))∧Below w.heap.size w w':=by
 have hc:=zNn ao n c xs (fun n => !zAs n) w h (fun W _ x _=>zNg x W)
 have e:xs.all zAs = !(xs.any fun n => !zAs n):=by
  induction xs with
  | nil=>rfl
  | cons x xs ih=>simp [List.all_eq_not_any_not]
 rw [e]
 generalize (xs.any fun n => !zAs n)=b at *
 have HC:=zA hc
 clear hc h
 go_enter Tryz.func45,Tryz.ntmps45
 go_wp2_with (go_at_call 72;((with_reducible refine (HC.out).mono ?_);rintro e w1 ⟨rfl,hb1⟩;have HB1:=zA hb1;clear hb1))
 go_ret
 exact ⟨rfl,HB1.out⟩
theorem zNh (x y:NamV) (g:Nat) (w:World) (hg:g < w.heap.size) (hc:w.cell? ⟨g,0,none⟩=some (.string x.name)) :
  Calls Tryz.prog 48 #[.agg #[.string y.name,.int .i64 y.at_],.pointer (some ⟨g,0,none⟩)] w fun e w'=>e=.returned (.bool (decide (y.name=x.name)))∧Below w.heap.size w w':=by
 have hw1:(w.alloc (.cells #[.string y.name,.int .i64 y.at_] 91)).cell? ⟨g,0,none⟩=some (.string x.name):=by rw [←hc];exact (zG (Below.refl _ _) _).cell (p:=⟨g,0,none⟩) hg
 obtain ⟨w1,e1⟩:∃ w1,w1=w.alloc (.cells #[.string y.name,.int .i64 y.at_] 91):=⟨_,rfl⟩
 have b1:Bk w1 w.heap.size 91 #[.string y.name,.int .i64 y.at_]:=by rw [e1];exact zM _ _ _
 have hb:Below w.heap.size w w1:=by rw [e1];exact zG (Below.refl _ _) _
 have y0:w1.cell? ⟨w.heap.size,0,none⟩=some (.string y.name):=b1.cell 0
 have bl:=b1.lt
 have hg1:g < w1.heap.size:=Nat.lt_of_lt_of_le hg hb.size
 rw [←e1] at hw1
 have E1:=zA e1
 have HB:=zA hb
 have f:(y.name.toList==x.name.toList)=decide (y.name=x.name):=by
  by_cases h:y.name=x.name
  ·simp [h]
  ·rw [decide_eq_false h];exact beq_eq_false_iff_ne.2 fun e=>h (name_eq.1 e)
 generalize decide (y.name=x.name)=b at *
 have F:=zA f
 clear e1 b1 hb f hc
 go_enter Tryz.func48,Tryz.ntmps48
 go_upto_region 1 with (fail)
 rw [←E1.out]
 go_wp2
 go_ret
 exact ⟨by rw [←F.out];rfl,HB.out⟩
def zDM (x y:NamV):Bool:=decide (x.at_ - y.at_ < 2∧y.at_ - x.at_ < 2)
theorem zNf (ats:Array TypeId) (ty:TypeId) (a b:Int):Go.Builtin.max_ ats ty #[.int .i64 a,.int .i64 b]=pure (.int .i64 (if b > a then b else a)):=by
 unfold Go.Builtin.max_
 simp [Go.Builtin.max2]
attribute [local go_sem] zNf
theorem zNi (x y:NamV) (g:Nat) (w:World) (hx:0≤x.at_∧x.at_≤60) (hy:0≤y.at_∧y.at_≤60) (hg:g < w.heap.size) (hc:w.cell? ⟨g,1,none⟩=some (.int .i64 x.at_)) :
  Calls Tryz.prog 50 #[.agg #[.string y.name,.int .i64 y.at_],.pointer (some ⟨g,0,none⟩)] w fun e w'=>e=.returned (.bool (zDM x y))∧Below w.heap.size w w':=by
 have hw1:(w.alloc (.cells #[.string y.name,.int .i64 y.at_] 93)).cell? ⟨g,1,none⟩=some (.int .i64 x.at_):=by rw [←hc];exact (zG (Below.refl _ _) _).cell (p:=⟨g,1,none⟩) hg
 obtain ⟨w1,e1⟩:∃ w1,w1=w.alloc (.cells #[.string y.name,.int .i64 y.at_] 93):=⟨_,rfl⟩
 have b1:Bk w1 w.heap.size 93 #[.string y.name,.int .i64 y.at_]:=by rw [e1];exact zM _ _ _
 have hb:Below w.heap.size w w1:=by rw [e1];exact zG (Below.refl _ _) _
 have y0:w1.cell? ⟨w.heap.size,1,none⟩=some (.int .i64 y.at_):=b1.cell 1
 have bl:=b1.lt
 have hg1:g < w1.heap.size:=Nat.lt_of_lt_of_le hg hb.size
 rw [←e1] at hw1
 have E1:=zA e1
 have HB:=zA hb
 obtain ⟨xn,a⟩:=x
 obtain ⟨yn,b⟩:=y
 simp only at hx hy hw1 y0
 have f:decide ((if b - a > a - b then b - a else a - b) < 2)=zDM ⟨xn,a⟩ ⟨yn,b⟩:=by
  unfold zDM
  simp only
  congr 1
  split<;>simp<;>omega
 generalize zDM ⟨xn,a⟩ ⟨yn,b⟩=c at *
 clear e1 b1 hb hc
 by_cases hh:b - a > a - b
 ·rw [if_pos hh] at f
  have F:=zA f
  clear f
  go_enter Tryz.func50,Tryz.ntmps50
  go_upto_region 1 with (fail)
  rw [←E1.out]
  go_wp2
  go_ret
  exact ⟨by rw [←F.out];rfl,HB.out⟩
 ·rw [if_neg hh] at f
  have F:=zA f
  clear f
  go_enter Tryz.func50,Tryz.ntmps50
  go_upto_region 1 with (fail)
  rw [←E1.out]
  go_wp2
  go_ret
  exact ⟨by rw [←F.out];rfl,HB.out⟩
theorem zNl (ao:Option Addr) (n c:Nat) (xs:List NamV) (g:Nat) (p:NamV→Bool) (w:World) (h:Sl w ao n xs)
  (hp:∀ W,Below w.heap.size w W→∀ x∈xs,Calls Tryz.prog 48 #[.agg #[.string x.name,.int .i64 x.at_],.pointer (some ⟨g,0,none⟩)] W fun e w'=>e=.returned (.bool (p x))∧Below W.heap.size W w') :
  Calls Tryz.prog 76 #[.slice ao n c,.func (.func 48) #[] #[.pointer (some ⟨g,0,none⟩)]] w fun e w'=>(∃ i:Int,e=.returned (.int .i64 i)∧I64 i∧decide (0≤i)=xs.any p)∧Below w.heap.size w w':=by
 have hm:=h.max
 unfold maxLen at hm
 have hl:=h.len
 have HSL:=zA h
 have HP:=zA hp
 clear h hp
 go_enter Tryz.func76,Tryz.ntmps76
 go_wp2
 go_loopw [8] (fun i wr=>∃ k:Nat,k≤n∧i=.int .i64 k∧(xs.take k).any p=false∧Below w.heap.size w wr) (fun i _=>n - (intOf i).toNat)
 case atStart=>exact ⟨0,Nat.zero_le _,rfl,rfl,Below.refl _ _⟩
 case round =>
  obtain ⟨k,hk,rfl,hf,hb⟩:=hrel
  have HB:=zA hb
  have HF:=zA hf
  clear hb hf
  by_cases hlt:k < n
  ·obtain ⟨x,hx⟩:∃ x,xs[k]?=some x:=⟨_,List.getElem?_eq_getElem (by omega)⟩
   obtain ⟨ad,hao,hab,e0,e1⟩:=zCa (HSL.out.below HB.out) hlt hx
   subst hao
   have cm:=HP.out wr HB.out x (List.mem_of_getElem? hx)
   have htk:(xs.take (k+1)).any p=p x:=by rw [List.take_add_one,hx,List.any_append,HF.out];simp
   have q1:(k:Int) < n:=by omega
   have HX:=zA hx
   clear hx
   cases ht:p x
   ·rw [ht] at cm htk
    have CM:=zA cm
    have HT:=zA htk
    clear cm ht htk
    go_wp2_with (go_at_call 48;((with_reducible refine (CM.out).mono ?_);rintro e w1 ⟨rfl,hb1⟩;have HB1:=zA (show Below w.heap.size w w1 from zI HB.out hb1)))
    go_roundw
    case rel=>exact ⟨k+1,by omega,by go_num,HT.out,HB1.out⟩
    case measure=>simp [intOf];omega
   ·rw [ht] at cm
    have hany:xs.any p=true:=List.any_eq_true.2 ⟨x,List.mem_of_getElem? HX.out,ht⟩
    have CM:=zA cm
    have HA:=zA hany
    clear cm ht htk hany
    go_wp2_with (go_at_call 48;((with_reducible refine (CM.out).mono ?_);rintro e w1 ⟨rfl,hb1⟩;have HB1:=zA (show Below w.heap.size w w1 from zI HB.out hb1)))
    go_ret
    exact ⟨⟨_,rfl,by unfold I64;omega,by rw [HA.out];simp⟩,HB1.out⟩
  ·have q1:¬((k:Int) < n):=by omega
   have hany:xs.any p=false:=by have:=HF.out;rwa [List.take_of_length_le (by omega)] at this
   have HA:=zA hany
   clear hany
   go_wp2
   go_ret
   exact ⟨⟨_,rfl,by unfold I64;omega,by rw [HA.out];simp⟩,HB.out⟩
theorem zNo (ao:Option Addr) (n c:Nat) (xs:List NamV) (g:Nat) (p:NamV→Bool) (w:World) (h:Sl w ao n xs)
  (hp:∀ W,Below w.heap.size w W→∀ x∈xs,Calls Tryz.prog 48 #[.agg #[.string x.name,.int .i64 x.at_],.pointer (some ⟨g,0,none⟩)] W fun e w'=>e=.returned (.bool (p x))∧Below W.heap.size W w') :
  Calls Tryz.prog 47 #[.slice ao n c,.func (.func 48) #[] #[.pointer (some ⟨g,0,none⟩)]] w fun e w'=>e=.returned (.bool (xs.any p))∧Below w.heap.size w w':=by
 have ix:=zNl ao n c xs g p w h hp
 have IX:=zA ix
 clear ix h hp
 go_enter Tryz.func47,Tryz.ntmps47
 go_wp2_with (go_at_call 76;((with_reducible refine (IX.out).mono ?_);rintro e w1 ⟨⟨i,rfl,hi,he⟩,hb1⟩;have HE:=zA he;have HB1:=zA hb1;clear he hb1))
 go_ret
 exact ⟨by rw [←HE.out];rfl,HB1.out⟩
theorem zNm (ao:Option Addr) (n c:Nat) (xs:List NamV) (g:Nat) (p:NamV→Bool) (w:World) (h:Sl w ao n xs)
  (hp:∀ W,Below w.heap.size w W→∀ x∈xs,Calls Tryz.prog 50 #[.agg #[.string x.name,.int .i64 x.at_],.pointer (some ⟨g,0,none⟩)] W fun e w'=>e=.returned (.bool (p x))∧Below W.heap.size W w') :
  Calls Tryz.prog 77 #[.slice ao n c,.func (.func 50) #[] #[.pointer (some ⟨g,0,none⟩)]] w fun e w'=>(∃ i:Int,e=.returned (.int .i64 i)∧I64 i∧decide (0≤i)=xs.any p)∧Below w.heap.size w w':=by
 have hm:=h.max
 unfold maxLen at hm
 have hl:=h.len
 have HSL:=zA h
 have HP:=zA hp
 clear h hp
 go_enter Tryz.func77,Tryz.ntmps77
 go_wp2
 go_loopw [8] (fun i wr=>∃ k:Nat,k≤n∧i=.int .i64 k∧(xs.take k).any p=false∧Below w.heap.size w wr) (fun i _=>n - (intOf i).toNat)
 case atStart=>exact ⟨0,Nat.zero_le _,rfl,rfl,Below.refl _ _⟩
 case round =>
  obtain ⟨k,hk,rfl,hf,hb⟩:=hrel
  have HB:=zA hb
  have HF:=zA hf
  clear hb hf
  by_cases hlt:k < n
  ·obtain ⟨x,hx⟩:∃ x,xs[k]?=some x:=⟨_,List.getElem?_eq_getElem (by omega)⟩
   obtain ⟨ad,hao,hab,e0,e1⟩:=zCa (HSL.out.below HB.out) hlt hx
   subst hao
   have cm:=HP.out wr HB.out x (List.mem_of_getElem? hx)
   have htk:(xs.take (k+1)).any p=p x:=by rw [List.take_add_one,hx,List.any_append,HF.out];simp
   have q1:(k:Int) < n:=by omega
   have HX:=zA hx
   clear hx
   cases ht:p x
   ·rw [ht] at cm htk
    have CM:=zA cm
    have HT:=zA htk
    clear cm ht htk
    go_wp2_with (go_at_call 50;((with_reducible refine (CM.out).mono ?_);rintro e w1 ⟨rfl,hb1⟩;have HB1:=zA (show Below w.heap.size w w1 from zI HB.out hb1)))
    go_roundw
    case rel=>exact ⟨k+1,by omega,by go_num,HT.out,HB1.out⟩
    case measure=>simp [intOf];omega
   ·rw [ht] at cm
    have hany:xs.any p=true:=List.any_eq_true.2 ⟨x,List.mem_of_getElem? HX.out,ht⟩
    have CM:=zA cm
    have HA:=zA hany
    clear cm ht htk hany
    go_wp2_with (go_at_call 50;((with_reducible refine (CM.out).mono ?_);rintro e w1 ⟨rfl,hb1⟩;have HB1:=zA (show Below w.heap.size w w1 from zI HB.out hb1)))
    go_ret
    exact ⟨⟨_,rfl,by unfold I64;omega,by rw [HA.out];simp⟩,HB1.out⟩
  ·have q1:¬((k:Int) < n):=by omega
   have hany:xs.any p=false:=by have:=HF.out;rwa [List.take_of_length_le (by omega)] at this
   have HA:=zA hany
   clear hany
   go_wp2
   go_ret
   exact ⟨⟨_,rfl,by unfold I64;omega,by rw [HA.out];simp⟩,HB.out⟩
theorem zNp (ao:Option Addr) (n c:Nat) (xs:List NamV) (g:Nat) (p:NamV→Bool) (w:World) (h:Sl w ao n xs)
  (hp:∀ W,Below w.heap.size w W→∀ x∈xs,Calls Tryz.prog 50 #[.agg #[.string x.name,.int .i64 x.at_],.pointer (some ⟨g,0,none⟩)] W fun e w'=>e=.returned (.bool (p x))∧Below W.heap.size W w') :
  Calls Tryz.prog 49 #[.slice ao n c,.func (.func 50) #[] #[.pointer (some ⟨g,0,none⟩)]] w fun e w'=>e=.returned (.bool (xs.any p))∧Below w.heap.size w w':=by
 have ix:=zNm ao n c xs g p w h hp
 have IX:=zA ix
 clear ix h hp
 go_enter Tryz.func49,Tryz.ntmps49
 go_wp2_with (go_at_call 77;((with_reducible refine (IX.out).mono ?_);rintro e w1 ⟨⟨i,rfl,hi,he⟩,hb1⟩;have HE:=zA he;have HB1:=zA hb1;clear he hb1))
 go_ret
 exact ⟨by rw [←HE.out];rfl,HB1.out⟩
end
section
open Go Go.RowKit Go.Shelf
theorem zKg (g:Nat) (r:RdV) (vc vl vh:Value) (n:Int) (s:ByteArray) (w:World) (h:RdSt g r vc vl vh w) (he:PEnv w) (hs:s.size≤67108864) (hn1:r.code.length≤1000) (hn2:r.holes.length≤1000) (hn3:r.labels.length≤1000) :
  Calls Tryz.prog 87 #[.pointer (some ⟨g,0,none⟩),.int .i64 n,.string s] w (zBj g w (zAW r n s.data.toList).1 (zAW r n s.data.toList).2):=by
 have gL:=h.b.lt
 have gS:=h.gle
 have hsl:s.data.toList.length=s.size:=rfl
 have cs:∀ W,_:=fun W=>Tryz.strings_CutSuffix s ⟨#[58]⟩ W (by omega)
 by_cases h1:80 < s.size
 ·have e:zAW r n s.data.toList=(r,2):=by unfold zAW;rw [if_pos (by omega)]
  rw [e]
  have q1:(80:Int) < s.size:=by omega
  have ST:=zA h
  clear h he e cs hsl
  go_enter Tryz.func87,Tryz.ntmps87
  go_wp2
  go_ret
  exact zAt ST.out (Below.refl _ _) rfl
 have q1:¬((80:Int) < s.size):=by omega
 cases h2:Lib.hasSuffix s.data.toList [58]
 ·have c1:Lib.hasSuffix s.data.toList (⟨#[58]⟩:ByteArray).data.toList=false:=h2
  simp only [c1] at cs
  by_cases h3:s.data.toList=[]
  ·have e:zAW r n s.data.toList=(r,0):=by unfold zAW;rw [if_neg (by omega),if_neg (by rw [h2];simp),if_pos h3]
   rw [e]
   have q0:s.toList.isEmpty=true:=by rw [ByteArray.toList_eq,h3];rfl
   have ST:=zA h
   have CS:=zA cs
   clear h he e cs hsl h1 h2 h3 c1
   go_enter Tryz.func87,Tryz.ntmps87
   go_wp2_with (go_at_call 102;((with_reducible refine (CS.out _).mono ?_);rintro e w' ⟨rfl,hw'⟩;subst w'))
   go_ret
   exact zAt ST.out (Below.refl _ _) rfl
  ·have e:zAW r n s.data.toList=zAH r n s.data.toList:=by unfold zAW;rw [if_neg (by omega),if_neg (by rw [h2];simp),if_neg h3]
   rw [e]
   have q0:s.toList.isEmpty=false:=by
    rw [ByteArray.toList_eq]
    cases hh:s.data.toList with
    | nil=>exact absurd hh h3
    | cons x y=>rfl
   have ce:=zKh g r vc vl vh n s w h he (by omega) hn1 hn2
   obtain ⟨r',hr'⟩:∃ r',(zAH r n s.data.toList).1=r':=⟨_,rfl⟩
   obtain ⟨er,her⟩:∃ er,(zAH r n s.data.toList).2=er:=⟨_,rfl⟩
   rw [hr',her] at ce ⊢
   have CE:=zA ce
   have CS:=zA cs
   clear h he e cs hsl h1 h2 h3 c1 ce hr' her
   go_enter Tryz.func87,Tryz.ntmps87
   go_wp2_with (first
    | (go_at_call 102;((with_reducible refine (CS.out _).mono ?_);rintro e w' ⟨rfl,hw'⟩;subst w'))
    | (go_at_call 104;((with_reducible refine CE.out.mono ?_);rintro e w1 ⟨rfl,⟨vc',vl',vh',hst⟩,hb⟩;have S1:=zA hst;have HB:=zA hb;clear hst hb)))
   go_ret
   exact zAt S1.out HB.out rfl
 ·have c1:Lib.hasSuffix s.data.toList (⟨#[58]⟩:ByteArray).data.toList=true:=h2
  obtain ⟨q,hq⟩:∃ q:ByteArray,(⟨(Lib.trimSuffix s.data.toList [58]).toArray⟩:ByteArray)=q:=⟨_,rfl⟩
  have hq2:(⟨(Lib.trimSuffix s.data.toList (⟨#[58]⟩:ByteArray).data.toList).toArray⟩:ByteArray)=q:=hq
  simp only [c1,hq2] at cs
  have e:zAW r n s.data.toList=zBa r q:=by unfold zAW;rw [if_neg (by omega),if_pos h2,←hq];rfl
  rw [e]
  have hqs:q.size≤s.size:=by
   have h3:q.size=q.data.toList.length:=rfl
   have h4:q.data.toList=Lib.trimSuffix s.data.toList [58]:=by rw [←hq]
   rw [h3,h4,←hsl]
   unfold Lib.trimSuffix
   split
   all_goals first
    | exact Nat.le_refl _
    | (rw [List.length_take];omega)
  have ce:=zJd g r vc vl vh q w h (by omega) hn1 hn3
  obtain ⟨r',hr'⟩:∃ r',(zBa r q).1=r':=⟨_,rfl⟩
  obtain ⟨er,her⟩:∃ er,(zBa r q).2=er:=⟨_,rfl⟩
  rw [hr',her] at ce ⊢
  have CE:=zA ce
  have CS:=zA cs
  clear h he e cs hsl h1 h2 c1 ce hr' her hqs hq hq2
  go_enter Tryz.func87,Tryz.ntmps87
  go_wp2_with (first
   | (go_at_call 102;((with_reducible refine (CS.out _).mono ?_);rintro e w' ⟨rfl,hw'⟩;subst w'))
   | (go_at_call 103;((with_reducible refine CE.out.mono ?_);rintro e w1 ⟨rfl,⟨vc',vl',vh',hst⟩,hb⟩;have S1:=zA hst;have HB:=zA hb;clear hst hb)))
  go_ret
  exact zAt S1.out HB.out rfl
end
end Go.Proofs.YtlpejagkadalbaaGreatDoor
