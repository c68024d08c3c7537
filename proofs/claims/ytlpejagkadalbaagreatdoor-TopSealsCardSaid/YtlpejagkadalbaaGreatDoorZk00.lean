import Derived.Test.YtlpejagkadalbaaGreatDoorZkA
import Derived.WalkKit
set_option maxHeartbeats 40000000
set_option maxRecDepth 100000
set_option linter.unusedVariables false
set_option linter.unusedSimpArgs false
namespace Go.Proofs.YtlpejagkadalbaaGreatDoor
section
open Go.RowKit
theorem zBR {k:IntKind} {a b:Int} (h:a=b):Ending.returned (.int k a)=.returned (.int k b):=by rw [h]
theorem zDA {a b:Bool} (h:a=b):Ending.returned (.bool a)=.returned (.bool b):=by rw [h]
theorem zOG {k:IntKind} {a b:Int} (h:a=b):Value.int k a=.int k b:=by rw [h]
theorem zOJ {a b c d:Value} (h:a=c) (k:b=d):Ending.returned (.tuple #[a,b])=.returned (.tuple #[c,d]):=by rw [h,k]
theorem zFm (n:Int) : -2147483648≤wrap32 n∧wrap32 n≤2147483647:=by unfold wrap32;omega
theorem zOF (n:Int):wrap64 (wrap32 n)=wrap32 n:=by unfold wrap64 wrap32;omega
theorem zKQ (n:Int):wrap32 (wrap64 n)=wrap32 n:=by unfold wrap64 wrap32;omega
theorem zOE {n:Int} (h : -9223372036854775808≤n) (h2:n≤9223372036854775807):wrap64 n=n:=by unfold wrap64;omega
theorem zDz {n:Int} (h:(Lit.int .i64 n).wf=true) : -9223372036854775808≤n∧n≤9223372036854775807:=by
 simp [Lit.wf,IntKind.min,IntKind.max,IntKind.signed,IntKind.bits] at h
 omega
theorem zHX (n m:Int) (hm:0 < m):(if n.tmod m < 0 then n.tmod m+m else n.tmod m)=n % m:=by
 have h0:=Int.emod_nonneg n (by omega:m≠0)
 have h1:=Int.emod_lt_of_pos n hm
 have h2:(m.natAbs:Int)=m:=by omega
 rw [Int.tmod_eq_emod]
 by_cases h:0≤n∨m∣n
 ·simp only [h,if_true]
  rw [if_neg (by omega)];omega
 ·simp only [h,if_false]
  rw [h2,if_pos (by omega)];omega
theorem zM9 (n m:Int) (hm:0 < m) : -m < n.tmod m∧n.tmod m < m:=by
 have h1:=Int.tmod_lt_of_pos n hm
 have h2:=Int.lt_tmod_of_pos n hm
 omega
def zOk (a b:Int):Int:=wrap32 (wrap32 a+wrap32 b)
def zOH (a b:Int):Int:=wrap32 (wrap32 a - wrap32 b)
def zOR (a b:Int):Int:=wrap32 (wrap32 a*wrap32 b)
def zMr (a b:Int):Int:=wrap32 ((wrap32 a).tdiv (wrap32 b))
def zET (a b:Int):Int:=if wrap32 a < wrap32 b then 1 else 0
end
section
open Go.RowKit
def bv (a:Int):BitVec 64:=BitVec.ofInt 64 a
theorem zIE (x:BitVec 64):bv x.toInt=x:=by unfold bv;exact BitVec.ofInt_toInt
theorem zFj (x:BitVec 64):IntKind.i64.wrap (x.toNat:Int)=x.toInt:=by
 rw [IntKind.wrap_i64,BitVec.toInt_eq_toNat_cond]
 have:=x.isLt
 split<;>omega
theorem zBq (a b:Int):bits .and .i64 a b=(bv a &&& bv b).toInt:=zFj _
theorem zGb (a b:Int):bits .andNot .i64 a b=(bv a &&& ~~~ bv b).toInt:=zFj _
def zAM (a b:Int):Int:=(bv a &&& bv b).toInt
def zGe (a b:Int):Int:=(bv a &&& ~~~ bv b).toInt
theorem zFn (x:BitVec 64):x.toInt=0↔x=0#64:=by
 constructor
 ·intro h
  have:=zIE x
  rw [h] at this
  exact this.symm
 ·rintro rfl;rfl
def zBJ (a b:Int):Bool:=decide (zGe a b=0)
theorem zBn (a b:Int):zBJ a b=true↔∀ i:Nat,(bv a).getLsbD i=true→(bv b).getLsbD i=true:=by
 unfold zBJ zGe
 rw [decide_eq_true_iff,zFn]
 constructor
 ·intro h i hi
  have:=congrArg (fun x=>BitVec.getLsbD x i) h
  have hi64:i < 64:=BitVec.lt_of_getLsbD hi
  simp [hi,hi64] at this
  exact this
 ·intro h
  apply BitVec.eq_of_getLsbD_eq
  intro i hi
  have:=h i
  simp [hi]
  intro h1
  exact this h1
theorem zN6 (a b:Int) (i:Nat):(bv (zAM a b)).getLsbD i=((bv a).getLsbD i&&(bv b).getLsbD i):=by
 unfold zAM;rw [zIE,BitVec.getLsbD_and]
theorem zCR (a:Int):zBJ a a=true:=(zBn a a).2 fun _ h=>h
theorem zCg {a b c:Int} (h:zBJ a b=true) (k:zBJ b c=true):zBJ a c=true :=
 (zBn a c).2 fun i hi=>(zBn b c).1 k i ((zBn a b).1 h i hi)
theorem zG5 (a b:Int):zBJ (zAM a b) a=true:=(zBn _ _).2 fun i h=>by
 rw [zN6] at h;simp at h;exact h.1
end
section
open Go Go.RowKit
theorem name_eq {a b:ByteArray}:a.toList=b.toList↔a=b:=by
 rw [ByteArray.toList_eq,ByteArray.toList_eq]
 exact ⟨fun h=>Go.WideShapes.bytes_inj h,fun h=>by rw [h]⟩
def zAs (n:Int):Bool:=decide (-2147483648≤n∧n≤2147483647)
theorem zIQ {n:Int}:n=wrap32 n ↔ -2147483648≤n∧n≤2147483647:=by unfold wrap32;omega
theorem zDe {n:Int}:zAs n=true↔n=wrap32 n:=by unfold zAs;rw [zIQ];simp
end
section
open Go.RowKit
@[ext] structure KeyV where
 perm:Int
 base:Int
 len:Int
 at_:Int
 seal_:Int
deriving DecidableEq
def KeyV.val (k:KeyV):Value:=.agg #[.int .i64 k.perm,.int .i64 k.base,.int .i64 k.len,.int .i64 k.at_,.int .i64 k.seal_]
def I64 (n:Int):Prop := -9223372036854775808≤n∧n≤9223372036854775807
structure KeyV.wf (k:KeyV):Prop where
 perm:I64 k.perm
 base:I64 k.base
 len:I64 k.len
 at_:I64 k.at_
 seal_:I64 k.seal_
def inB (n lo hi:Int):Bool:=decide (lo≤n∧n≤hi)
theorem inB_iff {n lo hi:Int}:inB n lo hi=true↔lo≤n∧n≤hi:=by unfold inB;simp
theorem inB_no {n lo hi:Int}:inB n lo hi=false↔¬(lo≤n∧n≤hi):=by unfold inB;simp
def okB (k:KeyV):Bool:=inB k.perm 0 127&&(inB k.base 0 400&&inB k.len 0 (400 - k.base))&&inB k.at_ 0 400&&inB k.seal_ 0 63
structure KeyV.Ok (k:KeyV):Prop where
 p0:0≤k.perm
 p1:k.perm≤127
 b0:0≤k.base
 b1:k.base≤400
 l0:0≤k.len
 l1:k.base+k.len≤400
 a0:0≤k.at_
 a1:k.at_≤400
 s0:0≤k.seal_
 s1:k.seal_≤63
theorem zBK (k:KeyV):okB k=true↔k.Ok:=by
 unfold okB
 simp only [Bool.and_eq_true,inB_iff]
 constructor
 ·rintro ⟨⟨⟨⟨_,_⟩,⟨_,_⟩,_,_⟩,_,_⟩,_,_⟩
  constructor<;>omega
 ·rintro ⟨_,_,_,_,_,_,_,_,_,_⟩
  refine ⟨⟨⟨⟨?_,?_⟩,⟨?_,?_⟩,?_,?_⟩,?_,?_⟩,?_,?_⟩<;>omega
def zCE (b l n:Int):Bool:=decide (b≤n∧n - b < max l 0)
theorem covB_iff {b l n:Int}:zCE b l n=true↔b≤n∧n < b+l:=by
 unfold zCE;simp;omega
def zeroK:KeyV:=⟨0,0,0,0,0⟩
def zAF (k:KeyV):Int:=if okB k then 0 else 1
def zAT (k:KeyV):Int:=if okB k then (if k.seal_=0 then 0 else 11) else 1
def zBX (k:KeyV) (n:Int):KeyV×Int :=
 if zAT k=0 then (if inB n (-k.at_) (400 - k.at_) then ({k with at_:=k.at_+n},0) else (zeroK,13)) else (zeroK,zAT k)
def zA1 (k:KeyV) (n:Int):KeyV×Int :=
 if zAT k=0 then (if k.base≤k.at_∧inB n 0 (k.base+k.len - k.at_)=true then (⟨k.perm,k.at_,n,k.at_,k.seal_⟩,0) else (zeroK,13)) else (zeroK,zAT k)
def zBt (k:KeyV) (p:Int):KeyV×Int:=if zAT k=0 then ({k with perm:=zAM k.perm p},0) else (zeroK,zAT k)
def zBG (k:KeyV) (p:Int):Int:=if k.seal_=0 then (if zAM k.perm p=0 then 12 else if zCE k.base k.len k.at_ then 0 else 13) else 11
def zBA (k c:KeyV):Int:=if okB k then zAF c else 1
def zA0 (k c:KeyV):KeyV×Int :=
 if zBA k c=0 then (if zAT k=0 then (if zBG c 32=0 then (if inB c.at_ 1 63 then ({k with seal_:=c.at_},0) else (zeroK,13)) else (zeroK,zBG c 32)) else (zeroK,zAT k)) else (zeroK,zBA k c)
def zA7 (k c:KeyV):KeyV×Int :=
 if zBA k c=0 then (if k.seal_=0 then (zeroK,11) else if zBG c 64=0 then (if k.seal_=c.at_ then ({k with seal_:=0},0) else (zeroK,11)) else (zeroK,zBG c 64)) else (zeroK,zBA k c)
theorem zBW (k:KeyV):zAT k=0↔k.Ok∧k.seal_=0:=by
 rw [←zBK];unfold zAT
 cases okB k
 ·simp
 ·by_cases h:k.seal_=0<;>simp [h]
theorem zDU (k:KeyV):zAF k=0↔k.Ok:=by
 rw [←zBK];unfold zAF
 cases okB k<;>simp
def KeyV.res (r:KeyV×Int):Value:=.tuple #[.agg #[.int .i64 r.1.perm,.int .i64 r.1.base,.int .i64 r.1.len,.int .i64 r.1.at_,.int .i64 r.1.seal_],.int .i64 r.2]
theorem KeyV.Ok.wf {k:KeyV} (h:k.Ok):k.wf:=by
 obtain ⟨_,_,_,_,_,_,_,_,_,_⟩:=h
 constructor<;>constructor<;>omega
theorem zeroK_ok:zeroK.Ok:=by constructor<;>simp [zeroK]
theorem zDT (k:KeyV) (n:Int):(∃ c,zA1 k n=(zeroK,c)∧c≠0) ∨
  (zA1 k n=(⟨k.perm,k.at_,n,k.at_,0⟩,0)∧k.Ok∧k.seal_=0∧k.base≤k.at_∧0≤n∧n≤k.base+k.len - k.at_):=by
 by_cases hp:zAT k=0
 ·obtain ⟨hok,hs⟩:=(zBW k).1 hp
  by_cases hc:k.base≤k.at_∧inB n 0 (k.base+k.len - k.at_)=true
  ·have:=inB_iff.1 hc.2
   right
   refine ⟨?_,hok,hs,hc.1,this.1,this.2⟩
   unfold zA1
   rw [if_pos hp,if_pos hc,hs]
  ·left
   refine ⟨13,?_,by decide⟩
   unfold zA1
   rw [if_pos hp,if_neg hc]
 ·left
  refine ⟨zAT k,?_,hp⟩
  unfold zA1
  rw [if_neg hp]
theorem zD9 (k:KeyV) (n:Int):(∃ c,zBX k n=(zeroK,c)∧c≠0) ∨
  (zBX k n=(⟨k.perm,k.base,k.len,k.at_+n,0⟩,0)∧k.Ok∧k.seal_=0 ∧ -k.at_≤n∧n≤400 - k.at_):=by
 by_cases hp:zAT k=0
 ·obtain ⟨hok,hs⟩:=(zBW k).1 hp
  by_cases hc:inB n (-k.at_) (400 - k.at_)=true
  ·have:=inB_iff.1 hc
   right
   refine ⟨?_,hok,hs,this.1,this.2⟩
   unfold zBX
   rw [if_pos hp,if_pos hc,hs]
  ·left
   refine ⟨13,?_,by decide⟩
   unfold zBX
   rw [if_pos hp,if_neg hc]
 ·left
  refine ⟨zAT k,?_,hp⟩
  unfold zBX
  rw [if_neg hp]
theorem zEA (k:KeyV) (n:Int):(∃ c,zBt k n=(zeroK,c)∧c≠0)∨(zBt k n=(⟨zAM k.perm n,k.base,k.len,k.at_,0⟩,0)∧k.Ok∧k.seal_=0):=by
 by_cases hp:zAT k=0
 ·obtain ⟨hok,hs⟩:=(zBW k).1 hp
  right
  refine ⟨?_,hok,hs⟩
  unfold zBt
  rw [if_pos hp,hs]
 ·left
  refine ⟨zAT k,?_,hp⟩
  unfold zBt
  rw [if_neg hp]
theorem zJU {a:Int} (h0:0≤a) (h1:a≤127) (b:Int):0≤zAM a b∧zAM a b≤127:=by
 obtain ⟨n,rfl⟩:=Int.eq_ofNat_of_zero_le h0
 have e:(bv (n:Int)).toNat=n:=by
  unfold bv
  rw [BitVec.ofInt_natCast,BitVec.toNat_ofNat]
  omega
 have h2:(bv (n:Int) &&& bv b).toNat≤n:=by
  rw [BitVec.toNat_and,e]
  exact Nat.and_le_left
 unfold zAM
 rw [BitVec.toInt_eq_toNat_cond]
 split<;>omega
theorem zGt (k:KeyV) (p:Int):zBG k p=0↔k.seal_=0∧zAM k.perm p≠0∧zCE k.base k.len k.at_=true:=by
 unfold zBG
 by_cases h1:k.seal_=0
 ·by_cases h2:zAM k.perm p=0
  ·simp [h1,h2]
  ·cases h3:zCE k.base k.len k.at_<;>simp [h1,h2]
 ·simp [h1]
theorem zGB (k c:KeyV):zBA k c=0↔k.Ok∧c.Ok:=by
 unfold zBA
 cases h:okB k
 ·have:¬k.Ok:=fun h'=>by rw [(zBK k).2 h'] at h;cases h
  simp [this]
 ·have:=(zBK k).1 h
  simp [this,zDU]
theorem zD7 (k c:KeyV):(∃ e,zA0 k c=(zeroK,e)∧e≠0) ∨
  (zA0 k c=(⟨k.perm,k.base,k.len,k.at_,c.at_⟩,0)∧k.Ok∧c.Ok∧k.seal_=0∧c.seal_=0∧zAM c.perm 32≠0∧zCE c.base c.len c.at_=true∧1≤c.at_∧c.at_≤63):=by
 by_cases hb:zBA k c=0
 ·obtain ⟨ok,oc⟩:=(zGB k c).1 hb
  by_cases hp:zAT k=0
  ·by_cases hm:zBG c 32=0
   ·obtain ⟨m1,m2,m3⟩:=(zGt c 32).1 hm
    cases hi:inB c.at_ 1 63
    ·exact .inl ⟨13,by simp [zA0,hb,hp,hm,hi],by decide⟩
    ·obtain ⟨i1,i2⟩:=inB_iff.1 hi
     exact .inr ⟨by simp [zA0,hb,hp,hm,hi],ok,oc,((zBW k).1 hp).2,m1,m2,m3,i1,i2⟩
   ·exact .inl ⟨_,by simp only [zA0,hb,hp,hm,if_true,if_false],hm⟩
  ·exact .inl ⟨_,by simp only [zA0,hb,hp,if_true,if_false],hp⟩
 ·exact .inl ⟨_,by simp only [zA0,hb,if_false],hb⟩
theorem zD8 (k c:KeyV):(∃ e,zA7 k c=(zeroK,e)∧e≠0) ∨
  (zA7 k c=(⟨k.perm,k.base,k.len,k.at_,0⟩,0)∧k.Ok∧c.Ok∧k.seal_≠0∧k.seal_=c.at_∧c.seal_=0∧zAM c.perm 64≠0∧zCE c.base c.len c.at_=true):=by
 by_cases hb:zBA k c=0
 ·obtain ⟨ok,oc⟩:=(zGB k c).1 hb
  by_cases hs:k.seal_=0
  ·exact .inl ⟨11,by simp only [zA7,hb,if_true];rw [if_pos hs],by decide⟩
  ·by_cases hm:zBG c 64=0
   ·obtain ⟨m1,m2,m3⟩:=(zGt c 64).1 hm
    by_cases ht:k.seal_=c.at_
    ·exact .inr ⟨by simp only [zA7,hb,hs,hm,if_true,if_false];rw [if_pos ht],ok,oc,hs,ht,m1,m2,m3⟩
    ·exact .inl ⟨11,by simp only [zA7,hb,hs,hm,if_true,if_false];rw [if_neg ht],by decide⟩
   ·exact .inl ⟨_,by simp only [zA7,hb,hs,hm,if_true,if_false],hm⟩
 ·exact .inl ⟨_,by simp only [zA7,hb,if_false],hb⟩
end
section
open Go.RowKit
@[ext] structure ValV where
 is:Bool
 n:Int
 k:KeyV
deriving DecidableEq
def ValV.val (v:ValV):Value:=.agg #[.bool v.is,.int .i64 v.n,.int .i64 v.k.perm,.int .i64 v.k.base,.int .i64 v.k.len,.int .i64 v.k.at_,.int .i64 v.k.seal_]
def ValV.num (n:Int):ValV:=⟨false,n,zeroK⟩
structure ValV.wf (v:ValV):Prop where
 n:I64 v.n
 k:v.k.wf
def zeroV:ValV:=⟨false,0,zeroK⟩
def zAJ (v:ValV):Int :=
 if v.is then (if okB v.k then (if v.n=0 then 0 else 5) else 1) else (if v.n < -2147483648∨2147483647 < v.n then 1 else if v.k=zeroK then 0 else 5)
def ValV.Ok (v:ValV):Prop:=(v.is=true∧v.k.Ok∧v.n=0)∨(v.is=false ∧ -2147483648≤v.n∧v.n≤2147483647∧v.k=zeroK)
theorem zCi (v:ValV):zAJ v=0↔v.Ok:=by
 obtain ⟨is,n,k⟩:=v
 unfold zAJ ValV.Ok
 cases is
 ·simp only [Bool.false_eq_true,if_false,false_and,false_or,true_and]
  by_cases h1:n < -2147483648∨2147483647 < n
  ·rw [if_pos h1];simp;intro h2 h3;omega
  ·rw [if_neg h1]
   by_cases h2:k=zeroK
   ·rw [if_pos h2];simp [h2];omega
   ·rw [if_neg h2];simp [h2]
 ·simp only [if_true,true_and,Bool.true_eq_false,false_and,or_false]
  rw [←zBK]
  cases okB k
  ·simp
  ·by_cases h:n=0<;>simp [h]
theorem ValV.Ok.wf {v:ValV} (h:v.Ok):v.wf:=by
 rcases h with ⟨_,hk,hn⟩ | ⟨_,h1,h2,hk⟩
 ·exact ⟨by rw [hn];constructor<;>omega,hk.wf⟩
 ·exact ⟨by constructor<;>omega,by rw [hk];exact zeroK_ok.wf⟩
theorem zLj {p b l a s:Int}:(⟨p,b,l,a,s⟩:KeyV)=zeroK↔p=0∧b=0∧l=0∧a=0∧s=0:=by
 unfold zeroK;rw [KeyV.mk.injEq]
end
section
open Go.RowKit
instance:Inhabited ValV:=⟨zeroV⟩
def zAi:List ValV→Int
 | []=>0
 | v::vs=>if zAJ v=0 then zAi vs else zAJ v
def zA4 (m:List ValV):Int:=if 400 < m.length then 2 else zAi m
theorem zDZ (m:List ValV):zAi m=0↔∀ v∈m,v.Ok:=by
 induction m with
 | nil=>simp [zAi]
 | cons v m ih =>
  unfold zAi
  by_cases h:zAJ v=0
  ·rw [if_pos h,ih]
   have:=(zCi v).1 h
   simp [this]
  ·rw [if_neg h]
   have h2:¬v.Ok:=fun k=>h ((zCi v).2 k)
   simp [h,h2]
theorem zBT (m:List ValV):zA4 m=0↔m.length≤400∧∀ v∈m,v.Ok:=by
 unfold zA4
 by_cases h:400 < m.length
 ·rw [if_pos h];simp;omega
 ·rw [if_neg h,zDZ];simp;omega
def atF (n:Nat) (k:KeyV) (off p:Int):Int×Int :=
 if okB k=false then (0,1) else if k.seal_≠0 then (0,11) else if zAM k.perm p=0 then (0,12)
 else if off < -400∨400 < off∨zCE k.base k.len (k.at_+off)=false∨(n:Int)≤k.at_+off then (0,13) else (k.at_+off,0)
def zCD (m:List ValV) (k:KeyV) (off:Int):ValV×Int :=
 let r:=atF m.length k off 1
 if r.2≠0 then (zeroV,r.2) else if (m.getD r.1.toNat zeroV).is=true∧zAM k.perm 8=0 then (zeroV,0) else (m.getD r.1.toNat zeroV,0)
def zDB (n:Nat) (k:KeyV) (off:Int) (v:ValV):Int :=
 let r:=atF n k off 2
 if r.2≠0 then r.2 else if v.is=true∧zAM k.perm 16=0 then 12 else 0
def zBN (m:List ValV) (k:KeyV) (off:Int) (v:ValV):List ValV:=m.set (k.at_+off).toNat v
theorem atF_ok {n:Nat} {k:KeyV} {off p:Int}:(atF n k off p).2=0↔k.Ok∧k.seal_=0∧zAM k.perm p≠0 ∧ -400≤off∧off≤400∧zCE k.base k.len (k.at_+off)=true∧k.at_+off < n:=by
 unfold atF
 rw [←zBK]
 cases okB k
 ·simp
 ·simp only [Bool.true_eq_false,if_false]
  by_cases h1:k.seal_=0
  ·by_cases h2:zAM k.perm p=0
   ·simp [h1,h2]
   ·by_cases h3:off < -400∨400 < off∨zCE k.base k.len (k.at_+off)=false∨(n:Int)≤k.at_+off
    ·rw [if_neg (by simp [h1]),if_neg h2,if_pos h3]
     simp only [show (13:Int)≠0 by decide,false_iff]
     rintro ⟨-,-,-,a,b,c,d⟩
     rcases h3 with h | h | h | h
     ·omega
     ·omega
     ·rw [h] at c;cases c
     ·omega
    ·rw [if_neg (by simp [h1]),if_neg h2,if_neg h3]
     have hc:zCE k.base k.len (k.at_+off)=true:=by
      cases hx:zCE k.base k.len (k.at_+off)
      ·exact absurd (.inr (.inr (.inl hx))) h3
      ·rfl
     simp only [true_iff]
     refine ⟨trivial,h1,h2,?_,?_,hc,?_⟩<;>· apply Classical.byContradiction;intro h;apply h3;omega
  ·simp [h1]
theorem zEM {n:Nat} {k:KeyV} {off p:Int} (h:(atF n k off p).2=0):(atF n k off p).1=k.at_+off∧0≤k.at_+off∧k.at_+off < n:=by
 have h2:=atF_ok.1 h
 obtain ⟨ok,s,a,o1,o2,c,l⟩:=h2
 have hb:=ok.b0
 have:=covB_iff.1 c
 refine ⟨?_,by omega,l⟩
 unfold atF at h ⊢
 rw [if_neg (by rw [(zBK k).2 ok];simp),if_neg (by simp [s]),if_neg a,if_neg]
 rintro (h | h | h | h)
 ·omega
 ·omega
 ·rw [h] at c;cases c
 ·omega
theorem zMe {m:List ValV} {k:KeyV} {off:Int} (h:(atF m.length k off 1).2≠0):zCD m k off=(zeroV,(atF m.length k off 1).2):=by
 simp only [zCD];rw [if_pos h]
theorem zGP {m:List ValV} {k:KeyV} {off:Int} {j:Nat} (h:(atF m.length k off 1).2=0) (hj:k.at_+off=j) :
  zCD m k off=if (m.getD j zeroV).is=true∧zAM k.perm 8=0 then (zeroV,0) else (m.getD j zeroV,0):=by
 simp only [zCD]
 rw [if_neg (by simp [h]),(zEM h).1,hj,Int.toNat_natCast]
theorem zFY {n:Nat} {k:KeyV} {off:Int} {v:ValV} (h:(atF n k off 2).2≠0):zDB n k off v=(atF n k off 2).2:=by
 simp only [zDB];rw [if_pos h]
theorem zNW {n:Nat} {k:KeyV} {off:Int} {v:ValV} (h:(atF n k off 2).2=0):zDB n k off v=if v.is=true∧zAM k.perm 16=0 then 12 else 0:=by
 simp only [zDB]
 rw [if_neg (by simp [h])]
end
section
open Go.RowKit
@[ext] structure InstV where
 op:Int
 a:Int
 b:Int
 c:Int
deriving DecidableEq
def InstV.val (i:InstV):Value:=.agg #[.int .i64 i.op,.int .i64 i.a,.int .i64 i.b,.int .i64 i.c]
def zCf:InstV:=⟨0,0,0,0⟩
def shA (op:Int):Bool := !(op==0||op==19||op==8||op==21)
def shB (op:Int):Bool := !(op==0||op==19||op==20||op==22||op==1||op==9||op==8||op==21)
def shC (op:Int):Int :=
 if op=0∨op=19∨op=20∨op=22∨op=2∨op=18 then 0 else if op=1∨op=9∨op=8∨op=10∨op=11 then 110
 else if op=21 then 109 else if op=14 then 112 else if op=17 then 113 else 114
def loC (c:Int):Int:=if c=110 then -2048 else 0
def hiC (c:Int):Int:=if c=110 then 2047 else if c=114 then 7 else if c=112 then 127 else if c=113 then 5 else if c=109 then 255 else 0
def zCn (n:Int) (has:Bool):Bool:=if has then decide (0≤n∧n < 8) else decide (n=0)
def opB (op:Int):Bool:=decide (0≤op∧op < 23)
def zAE (i:InstV):Bool:=opB i.op&&(zCn i.a (shA i.op)&&(zCn i.b (shB i.op)&&decide (loC (shC i.op)≤i.c∧i.c≤hiC (shC i.op))))
def zBC (i:InstV):Int:=i.op+i.a*32+i.b*256+(i.c+2048)*2048
def zAp (n:Int):InstV:=⟨n % 32,n / 32 % 8,n / 256 % 8,n / 2048 - 2048⟩
theorem zIh (n:Int):zBC (zAp n)=n:=by unfold zBC zAp;simp only;omega
def zEf:List UInt8:=[104,97,108,116,32,115,101,116,32,99,111,112,121,32,97,100,100,32,115,117,98,32,109,117,108,32,100,105,118,32,108,101,115,115,32,106,117,109,112,32,105,102,32,108,111,97,100,32,115,116,111,114,101,32,109,111,118,101,32,110,97,114,114,111,119,32,100,114,111,112,32,115,101,97,108,32,111,112,101,110,32,97,115,107,32,99,97,108,108,32,98,97,99,107,32,104,101,114,101,32,99,108,101,97,114,32,116,101,108,108]
def zV (op:Nat):List UInt8:=([[104,97,108,116],[115,101,116],[99,111,112,121],[97,100,100],[115,117,98],[109,117,108],[100,105,118],[108,101,115,115],[106,117,109,112],[105,102],[108,111,97,100],[115,116,111,114,101],[109,111,118,101],[110,97,114,114,111,119],[100,114,111,112],[115,101,97,108],[111,112,101,110],[97,115,107],[99,97,108,108],[98,97,99,107],[104,101,114,101],[99,108,101,97,114],[116,101,108,108]]:List (List UInt8)).getD op []
end
end Go.Proofs.YtlpejagkadalbaaGreatDoor
