import Derived.Test.YtlpejagkadalbaaGreatDoorQk02
import Derived.Deep.RegionHeld3
import Derived.Lib.ItoaLen
set_option maxHeartbeats 40000000
set_option maxRecDepth 100000
set_option linter.unusedVariables false
set_option linter.unusedSimpArgs false
namespace Go.Proofs.YtlpejagkadalbaaGreatDoor
section
open El (cl)
open Go.RowKit
instance:El ValV where
 k:=7
 cl v:=[.bool v.is,.int .i64 v.n,.int .i64 v.k.perm,.int .i64 v.k.base,.int .i64 v.k.len,.int .i64 v.k.at_,.int .i64 v.k.seal_]
 z:=zeroV
 len _:=rfl
 one _:=by intro u hu;simp at hu;rcases hu with rfl | rfl | rfl | rfl | rfl | rfl | rfl<;>rfl
 pos:=by decide
theorem zDp (a:Addr) (i j:Nat) (hj:0 < j):a.add (i+j)=⟨(a.add i).block,(a.add i).off+j,none⟩:=by
 unfold Addr.add
 rw [if_neg (by omega)]
 by_cases hi:i=0
 ·subst hi;simp
 ·rw [if_neg hi];simp [Nat.add_assoc]
def zGE (w:World) (a:Addr) (v:ValV):Prop :=
 w.cell? a=some (.bool v.is)∧w.cell? ⟨a.block,a.off+1,none⟩=some (.int .i64 v.n) ∧
  w.cell? ⟨a.block,a.off+2,none⟩=some (.int .i64 v.k.perm)∧w.cell? ⟨a.block,a.off+3,none⟩=some (.int .i64 v.k.base) ∧
  w.cell? ⟨a.block,a.off+4,none⟩=some (.int .i64 v.k.len)∧w.cell? ⟨a.block,a.off+5,none⟩=some (.int .i64 v.k.at_) ∧
  w.cell? ⟨a.block,a.off+6,none⟩=some (.int .i64 v.k.seal_)
theorem zEy {w:World} {ao:Option Addr} {n:Nat} {vs:List ValV} (h:Sl w ao n vs) {i:Nat} (hi:i < n):∃ a,ao=some a∧a.block < w.heap.size∧zGE w (a.add (i*7)) (vs.getD i zeroV):=by
 obtain ⟨a,x,e,hb,hx,hc⟩:=h.at hi
 have hg:vs.getD i zeroV=x:=by simp [List.getD,hx]
 rw [hg]
 refine ⟨a,e,hb,?_⟩
 unfold zGE
 rw [←zDp a (i*7) 1 (by decide),←zDp a (i*7) 2 (by decide),←zDp a (i*7) 3 (by decide),←zDp a (i*7) 4 (by decide),←zDp a (i*7) 5 (by decide),←zDp a (i*7) 6 (by decide)]
 exact ⟨hc 0 _ rfl,hc 1 _ rfl,hc 2 _ rfl,hc 3 _ rfl,hc 4 _ rfl,hc 5 _ rfl,hc 6 _ rfl⟩
end
section
open El (cl)
open Go.RowKit
@[ext] structure FrameV where
 code:KeyV
 data:ValV
deriving DecidableEq
def FrameV.val (x:FrameV):Value:=.agg #[.int .i64 x.code.perm,.int .i64 x.code.base,.int .i64 x.code.len,.int .i64 x.code.at_,.int .i64 x.code.seal_,.bool x.data.is,.int .i64 x.data.n,.int .i64 x.data.k.perm,.int .i64 x.data.k.base,.int .i64 x.data.k.len,.int .i64 x.data.k.at_,.int .i64 x.data.k.seal_]
structure FrameV.wf (x:FrameV):Prop where
 code:x.code.wf
 data:x.data.wf
def zPP:FrameV:=⟨zeroK,zeroV⟩
instance:El FrameV where
 k:=12
 cl x:=[.int .i64 x.code.perm,.int .i64 x.code.base,.int .i64 x.code.len,.int .i64 x.code.at_,.int .i64 x.code.seal_,.bool x.data.is,.int .i64 x.data.n,.int .i64 x.data.k.perm,.int .i64 x.data.k.base,.int .i64 x.data.k.len,.int .i64 x.data.k.at_,.int .i64 x.data.k.seal_]
 z:=zPP
 len _:=rfl
 one _:=by intro u hu;simp at hu;rcases hu with rfl | rfl | rfl | rfl | rfl | rfl | rfl | rfl | rfl | rfl | rfl | rfl<;>rfl
 pos:=by decide
instance:Inhabited FrameV:=⟨zPP⟩
theorem zBD (a:Addr) (i j:Nat) (hj:0 < j):a.add (i+j)=⟨(a.add i).block,(a.add i).off+j,none⟩:=by
 unfold Addr.add
 rw [if_neg (by omega)]
 by_cases hi:i=0
 ·subst hi;simp
 ·rw [if_neg hi];simp [Nat.add_assoc]
theorem zOB {w:World} {ao:Option Addr} {n:Nat} {ks:List FrameV} (h:Sl w ao n ks) {i:Nat} (hi:i < n) {x:FrameV} (hx:ks[i]?=some x):∃ a,ao=some a∧(a.add (i*12)).block < w.heap.size ∧
  w.cell? (a.add (i*12))=some (.int .i64 x.code.perm)∧w.cell? ⟨(a.add (i*12)).block,(a.add (i*12)).off+1,none⟩=some (.int .i64 x.code.base)∧w.cell? ⟨(a.add (i*12)).block,(a.add (i*12)).off+2,none⟩=some (.int .i64 x.code.len)∧w.cell? ⟨(a.add (i*12)).block,(a.add (i*12)).off+3,none⟩=some (.int .i64 x.code.at_)∧w.cell? ⟨(a.add (i*12)).block,(a.add (i*12)).off+4,none⟩=some (.int .i64 x.code.seal_)∧w.cell? ⟨(a.add (i*12)).block,(a.add (i*12)).off+5,none⟩=some (.bool x.data.is)∧w.cell? ⟨(a.add (i*12)).block,(a.add (i*12)).off+6,none⟩=some (.int .i64 x.data.n)∧w.cell? ⟨(a.add (i*12)).block,(a.add (i*12)).off+7,none⟩=some (.int .i64 x.data.k.perm)∧w.cell? ⟨(a.add (i*12)).block,(a.add (i*12)).off+8,none⟩=some (.int .i64 x.data.k.base)∧w.cell? ⟨(a.add (i*12)).block,(a.add (i*12)).off+9,none⟩=some (.int .i64 x.data.k.len)∧w.cell? ⟨(a.add (i*12)).block,(a.add (i*12)).off+10,none⟩=some (.int .i64 x.data.k.at_)∧w.cell? ⟨(a.add (i*12)).block,(a.add (i*12)).off+11,none⟩=some (.int .i64 x.data.k.seal_):=by
 obtain ⟨a,y,e,hb,hy,hc⟩:=h.at hi
 obtain rfl:y=x:=by rw [hx] at hy;injection hy with hy;exact hy.symm
 refine ⟨a,e,by rw [zBL];exact hb,?_⟩
 rw [←zBD a (i*12) 1 (by decide),←zBD a (i*12) 2 (by decide),←zBD a (i*12) 3 (by decide),←zBD a (i*12) 4 (by decide),←zBD a (i*12) 5 (by decide),←zBD a (i*12) 6 (by decide),←zBD a (i*12) 7 (by decide),←zBD a (i*12) 8 (by decide),←zBD a (i*12) 9 (by decide),←zBD a (i*12) 10 (by decide),←zBD a (i*12) 11 (by decide)]
 exact ⟨hc 0 _ rfl,hc 1 _ rfl,hc 2 _ rfl,hc 3 _ rfl,hc 4 _ rfl,hc 5 _ rfl,hc 6 _ rfl,hc 7 _ rfl,hc 8 _ rfl,hc 9 _ rfl,hc 10 _ rfl,hc 11 _ rfl⟩
end
section
open Go.RowKit
def zCk:List FrameV→Int
 | []=>0
 | f::fs=>if okB f.code=false then 1 else if zAP f.data≠0 then zAP f.data else zCk fs
def zCw:List Int→Int
 | []=>0
 | n::ns=>if n=wrap32 n then zCw ns else 1
def zAr (R:List ValV) (c:KeyV) (mem:List ValV) (stk:List FrameV) (out:List Int):Int :=
 if zAx R≠0 then zAx R else if okB c=false then 1 else if zBH mem≠0 then zBH mem else if 16 < stk.length then 2 else if zCk stk≠0 then zCk stk else if 100 < out.length then 2 else zCw out
theorem zKk {m:List ValV} {k:Nat} {x:ValV} (hx:m[k]?=some x):zAx (m.drop k)=if zAP x=0 then zAx (m.drop (k+1)) else zAP x:=by
 obtain ⟨h,e⟩:=List.getElem?_eq_some_iff.1 hx
 rw [List.drop_eq_getElem_cons h,e,zAx]
theorem zOA {m:List FrameV} {k:Nat} {x:FrameV} (hx:m[k]?=some x):zCk (m.drop k)=if okB x.code=false then 1 else if zAP x.data≠0 then zAP x.data else zCk (m.drop (k+1)):=by
 obtain ⟨h,e⟩:=List.getElem?_eq_some_iff.1 hx
 rw [List.drop_eq_getElem_cons h,e,zCk]
theorem zM2 {m:List Int} {k:Nat} {x:Int} (hx:m[k]?=some x):zCw (m.drop k)=if x=wrap32 x then zCw (m.drop (k+1)) else 1:=by
 obtain ⟨h,e⟩:=List.getElem?_eq_some_iff.1 hx
 rw [List.drop_eq_getElem_cons h,e,zCw]
theorem zG3 (m:List FrameV):zCk m=0↔∀ f∈m,f.code.Ok∧f.data.Ok:=by
 induction m with
 | nil=>simp [zCk]
 | cons f m ih =>
  rw [zCk]
  simp only [List.mem_cons,forall_eq_or_imp,←zB3,←zC9]
  cases h:okB f.code
  ·simp
  ·by_cases h2:zAP f.data=0
   ·simp only [h2]
    simp [ih,←zB3,←zC9]
   ·simp [h2]
theorem zGv {n:Int}:n=wrap32 n ↔ -2147483648≤n∧n≤2147483647:=by
 unfold wrap32
 omega
theorem zGL (m:List Int):zCw m=0↔∀ n∈m,-2147483648≤n∧n≤2147483647:=by
 induction m with
 | nil=>simp [zCw]
 | cons f m ih =>
  rw [zCw]
  simp only [List.mem_cons,forall_eq_or_imp,←zGv]
  by_cases h:f=wrap32 f
  ·rw [if_pos h,ih]
   simp only [←zGv]
   exact ⟨fun h2=>⟨h,h2⟩,fun h2=>h2.2⟩
  ·rw [if_neg h]
   simp [h]
structure MOk (R:List ValV) (c:KeyV) (mem:List ValV) (stk:List FrameV) (out:List Int):Prop where
 regs:∀ v∈R,v.Ok
 code:c.Ok
 len:mem.length≤400
 mem:∀ v∈mem,v.Ok
 deep:stk.length≤16
 stk:∀ f∈stk,f.code.Ok∧f.data.Ok
 told:out.length≤100
 out:∀ n∈out,-2147483648≤n∧n≤2147483647
theorem stepCheck_zero {R:List ValV} {c:KeyV} {mem:List ValV} {stk:List FrameV} {out:List Int}:zAr R c mem stk out=0↔MOk R c mem stk out:=by
 unfold zAr
 by_cases h1:zAx R=0
 ·rw [if_neg (by simp [h1])]
  by_cases h2:okB c=true
  ·rw [if_neg (by simp [h2])]
   by_cases h3:zBH mem=0
   ·rw [if_neg (by simp [h3])]
    by_cases h4:16 < stk.length
    ·rw [if_pos h4]
     exact ⟨fun h=>absurd h (by decide),fun h=>by have:=h.deep;omega⟩
    ·rw [if_neg h4]
     by_cases h5:zCk stk=0
     ·rw [if_neg (by simp [h5])]
      by_cases h6:100 < out.length
      ·rw [if_pos h6]
       exact ⟨fun h=>absurd h (by decide),fun h=>by have:=h.told;omega⟩
      ·rw [if_neg h6]
       have hm:=(zBM mem).1 h3
       exact ⟨fun h=>⟨(zD8 R).1 h1,(zB3 c).1 h2,hm.1,hm.2,by omega,(zG3 stk).1 h5,by omega,(zGL out).1 h⟩,fun h=>(zGL out).2 h.out⟩
     ·rw [if_pos h5]
      exact ⟨fun h=>absurd h h5,fun h=>absurd ((zG3 stk).2 h.stk) h5⟩
   ·rw [if_pos h3]
    exact ⟨fun h=>absurd h h3,fun h=>absurd ((zBM mem).2 ⟨h.len,h.mem⟩) h3⟩
  ·rw [if_pos (by simpa using h2)]
   exact ⟨fun h=>absurd h (by decide),fun h=>absurd ((zB3 c).2 h.code) h2⟩
 ·rw [if_pos h1]
  exact ⟨fun h=>absurd h h1,fun h=>absurd ((zD8 R).2 h.regs) h1⟩
end
section
open El (cl)
open Go.RowKit
instance elInt:El Int where
 k:=1
 cl x:=[.int .i64 x]
 z:=0
 len _:=rfl
 one _:=by intro u hu;simp at hu;subst hu;rfl
 pos:=by decide
theorem zCM {w:World} {ao:Option Addr} {n:Nat} {ks:List Int} (h:Sl w ao n ks) {i:Nat} (hi:i < n) {x:Int} (hx:ks[i]?=some x):∃ a,ao=some a∧(a.add i).block < w.heap.size∧w.cell? (a.add i)=some (.int .i64 x):=by
 obtain ⟨a,y,e,hb,hy,hc⟩:=h.at hi
 obtain rfl:y=x:=by rw [hx] at hy;injection hy with hy;exact hy.symm
 refine ⟨a,e,by rw [zBL];exact hb,?_⟩
 have:=hc 0 _ rfl
 have e1:i*El.k Int+0=i:=by show i*1+0=i;omega
 rw [e1] at this
 exact this
end
section
open Go.RowKit
theorem zEP:zeroV.Ok:=.inr ⟨rfl,by decide,by decide,rfl⟩
end
section
open Go.RowKit
def Tab10 (w:World):Prop:=Lib.TabIs Tryz.prog w "internal/strconv.uint64pow10" .u64 Lib.pow10Tab
theorem zKC {n:String} {k:IntKind} {zs:List Int} {w w':World} (h:Lib.TabIs Tryz.prog w n k zs) (hb:Below w.heap.size w w'):Lib.TabIs Tryz.prog w' n k zs:=by
 unfold Lib.TabIs at h ⊢
 unfold World.var? at h ⊢
 cases hg:Tryz.prog.globalNamed n with
 | none=>rw [hg] at h;cases h
 | some g =>
  rw [hg] at h
  simp only [Option.bind_some] at h ⊢
  have hlt:g < w.heap.size:=by
   rcases Nat.lt_or_ge g w.heap.size with hlt | hge
   ·exact hlt
   ·rw [Array.getElem?_eq_none hge] at h;cases h
  rw [hb.block g hlt]
  exact h
theorem Tab10.below {w w':World} (h:Tab10 w) (hb:Below w.heap.size w w'):Tab10 w':=zKC h hb
theorem zMO (w:World) (k:Nat) (os:Array Obj):Below w.heap.size w (Go.Sort.grow (w.drewN k) os) :=
 ⟨rfl,rfl,rfl,by simp [Go.Sort.grow,World.drewN],fun i hi=>by simp [Go.Sort.grow,World.drewN,Array.getElem?_append_left hi]⟩
theorem zGi (n:Int) (hn:I64 n) (w:World) (ht:Tab10 w):Calls Tryz.prog 131 #[.int .i64 n] w fun e w'=>e=.returned (.string ⟨(Lib.itoa n).toArray⟩)∧Below w.heap.size w w' :=
 (Tryz.strconv_Itoa n hn.1 hn.2 w ht).mono fun e w' ⟨he,k,os,hw⟩=>⟨he,by rw [hw];exact zMO w k os⟩
def zDH (n:Int) (has ir:Bool):List UInt8:=if has then (if ir then 32::114::Lib.itoa n else 32::Lib.itoa n) else []
theorem zCe (x y:ByteArray) (h:x.size+y.size≤9223372036854775807):Op.stringOp .add x y=pure (.string (x++y)):=by
 have e:IntKind.i64.max=9223372036854775807:=by decide
 unfold Op.stringOp
 simp only [e]
 rw [if_neg (by omega)]
theorem zN8 (n:Int) (hn:I64 n) (has ir:Bool) (g:Nat) (s:ByteArray) (w:World) (hs:s.size≤1000) (hB:Bk w g 9 #[.string s]) (ht:Tab10 w):Calls Tryz.prog 188 #[.int .i64 n,.bool has,.bool ir,.pointer (some ⟨g,0,none⟩)] w fun e w'=>e=.returned (.tuple #[])∧Below g w w'∧Bk w' g 9 #[.string (s++⟨(zDH n has ir).toArray⟩)]:=by
 have q0:∀ x:Later w,x.val.cell? ⟨g,0,none⟩=some (.string s):=fun x=>(x.bk hB).cell 0
 have qL:∀ x:Later w,g < x.val.heap.size:=fun x=>x.lt hB.lt
 have qF:∀ (x:Later w) i,x.val.frozen? ⟨g,i,none⟩=false:=fun x i=>(x.bk hB).frozen i
 have r0:w.cell? ⟨g,0,none⟩=some (.string s):=hB.cell 0
 have rL:=hB.lt
 have rF:=fun i=>Bk.frozen hB i
 have IT:=zA (fun x:Later w=>zGi n hn x.val (ht.below x.ok))
 obtain ⟨xd,hxd⟩:∃ xd:Later w,w.drew=xd.val:=⟨⟨_,zJ (Below.refl _ _)⟩,rfl⟩
 have HXD:=zA hxd
 have HB:=zA hB
 have li:=Lib.itoa_length_le n hn.1 hn.2
 have e1:(⟨#[32]⟩:ByteArray)++⟨(Lib.itoa n).toArray⟩=⟨(32::Lib.itoa n).toArray⟩:=ByteArray.ext (by simp)
 have e2:(⟨#[32,114]⟩:ByteArray)++⟨(Lib.itoa n).toArray⟩=⟨(32::114::Lib.itoa n).toArray⟩:=ByteArray.ext (by simp)
 have z1:(⟨(32::Lib.itoa n).toArray⟩:ByteArray).size=(Lib.itoa n).length+1:=by simp [ByteArray.size]
 have z2:(⟨(32::114::Lib.itoa n).toArray⟩:ByteArray).size=(Lib.itoa n).length+2:=by simp [ByteArray.size]
 have z0:(⟨(Lib.itoa n).toArray⟩:ByteArray).size=(Lib.itoa n).length:=by simp [ByteArray.size]
 have y1:(⟨#[32]⟩:ByteArray).size=1:=rfl
 have y2:(⟨#[32,114]⟩:ByteArray).size=2:=rfl
 have u1:Op.stringOp .add ⟨#[32]⟩ ⟨(Lib.itoa n).toArray⟩=pure (.string ⟨(32::Lib.itoa n).toArray⟩):=by rw [←e1];exact zCe _ _ (by omega)
 have u2:Op.stringOp .add ⟨#[32,114]⟩ ⟨(Lib.itoa n).toArray⟩=pure (.string ⟨(32::114::Lib.itoa n).toArray⟩):=by rw [←e2];exact zCe _ _ (by omega)
 have v1:Op.stringOp .add s ⟨(32::Lib.itoa n).toArray⟩=pure (.string (s++⟨(32::Lib.itoa n).toArray⟩)):=zCe _ _ (by omega)
 have v2:Op.stringOp .add s ⟨(32::114::Lib.itoa n).toArray⟩=pure (.string (s++⟨(32::114::Lib.itoa n).toArray⟩)):=zCe _ _ (by omega)
 clear e1 e2 z1 z2 z0 y1 y2 li
 clear hB ht hxd
 cases has
 ·go_enter Tryz.func188,Tryz.ntmps188
  go_wp2
  refine bodyPost_end (results_none rfl _ _ _) rfl ?_
  refine ⟨rfl,Below.refl _ _,?_⟩
  have e:s++(⟨(zDH n false ir).toArray⟩:ByteArray)=s:=by unfold zDH;exact ByteArray.ext (by simp)
  rw [e]
  exact HB.out
 ·cases ir
  ·go_enter Tryz.func188,Tryz.ntmps188
   go_upto_region 3 with (fail)
   go_region_with (go_at_call 131;(rw [HXD.out];(with_reducible refine (IT.out xd).mono ?_);rintro e w' ⟨rfl,hb⟩;obtain ⟨y,rfl⟩:=zAF xd.ok hb;clear hb))
   all_goals go_wp2_with fail
   all_goals
    refine bodyPost_end (results_none rfl _ _ _) rfl ?_
    exact ⟨rfl,(y.ok.mono (Nat.le_of_lt HB.out.lt)).setCell (Nat.le_refl _) _,zAv 0 _ (y.bk HB.out)⟩
  ·go_enter Tryz.func188,Tryz.ntmps188
   go_upto_region 1 with (fail)
   go_region_with (go_at_call 131;(rw [HXD.out];(with_reducible refine (IT.out xd).mono ?_);rintro e w' ⟨rfl,hb⟩;obtain ⟨y,rfl⟩:=zAF xd.ok hb;clear hb))
   all_goals go_wp2_with fail
   all_goals
    refine bodyPost_end (results_none rfl _ _ _) rfl ?_
    exact ⟨rfl,(y.ok.mono (Nat.le_of_lt HB.out.lt)).setCell (Nat.le_refl _) _,zAv 0 _ (y.bk HB.out)⟩
end
section
open Go.RowKit
def zEB (i:InstV):List UInt8:=zAC i.op.toNat++zDH i.a (shA i.op) true++zDH i.b (shB i.op) true++zDH i.c (shC i.op != 0) (shC i.op==114)
theorem zNT (op a b c:Int) (hk:zAL ⟨op,a,b,c⟩=false) (w:World) (ht:Tab w):Calls Tryz.prog 167 #[.agg #[.int .i64 op,.int .i64 a,.int .i64 b,.int .i64 c]] w fun e w'=>e=.returned (.tuple #[.string ⟨#[]⟩,.int .i64 1])∧Below w.heap.size w w':=by
 obtain ⟨w1,hw1⟩:∃ w1,w1=w.alloc (.cells #[.int .i64 op,.int .i64 a,.int .i64 b,.int .i64 c] 179):=⟨_,rfl⟩
 have hB:Bk w1 w.heap.size 179 #[.int .i64 op,.int .i64 a,.int .i64 b,.int .i64 c]:=by rw [hw1];exact zM _ _ _
 have h1w:Below w.heap.size w w1:=by rw [hw1];exact zG (Below.refl _ _) _
 have p0:=hB.cell 0
 have p1:=hB.cell 1
 have p2:=hB.cell 2
 have p3:=hB.cell 3
 simp only [List.getElem?_toArray,List.getElem?_cons_succ,List.getElem?_cons_zero] at p0 p1 p2 p3
 have ck:=zFK op a b c w1 (ht.below h1w)
 rw [hk] at ck
 simp only [Bool.false_eq_true,if_false] at ck
 have HW1:=zA hw1
 have H1W:=zA h1w
 have CK:=zA ck
 clear ck hk hw1 h1w ht hB
 go_enter Tryz.func167,Tryz.ntmps167
 go_upto_region 1 with (fail)
 rw [←HW1.out]
 go_wp2_with (go_at_call 105;((with_reducible refine CK.out.mono ?_);rintro e w' ⟨rfl,hb⟩;obtain ⟨y,rfl⟩:=zAF (Below.refl _ _) hb;clear hb))
 go_ret2
 exact ⟨rfl,zI H1W.out y.ok⟩
theorem zMY (k:Nat):(zAC k).length≤6:=by
 by_cases h:k < 23
 ·have hall:∀ k,k < 23→(zAC k).length≤6:=by decide
  exact hall k h
 ·have e:zAC k=[]:=by unfold zAC;rw [List.getD_eq_getElem?_getD,List.getElem?_eq_none (by simp;omega)];rfl
  rw [e];decide
theorem zI9 (n:Int) (hn:I64 n) (has ir:Bool):(zDH n has ir).length≤23:=by
 have:=Lib.itoa_length_le n hn.1 hn.2
 unfold zDH
 cases has<;>cases ir<;>simp<;>omega
theorem zHV (l:List UInt8):(⟨l.toArray⟩:ByteArray).size=l.length:=by simp [ByteArray.size]
theorem zRD (l r:List UInt8):(⟨l.toArray⟩:ByteArray)++⟨r.toArray⟩=⟨(l++r).toArray⟩:=ByteArray.ext (by simp)
theorem zQu {op a b c:Int} (h:zAL ⟨op,a,b,c⟩=true):opB op=true:=by
 unfold zAL at h
 simp only [Bool.and_eq_true] at h
 exact h.1
theorem zOj (op a b c:Int) (hk:zAL ⟨op,a,b,c⟩=true) (w:World) (ht:Tab w) (h10:Tab10 w):Calls Tryz.prog 167 #[.agg #[.int .i64 op,.int .i64 a,.int .i64 b,.int .i64 c]] w fun e w'=>e=.returned (.tuple #[.string ⟨(zEB ⟨op,a,b,c⟩).toArray⟩,.int .i64 0])∧Below w.heap.size w w':=by
 obtain ⟨w1,hw1⟩:∃ w1,w1=w.alloc (.cells #[.int .i64 op,.int .i64 a,.int .i64 b,.int .i64 c] 179):=⟨_,rfl⟩
 have hB:Bk w1 w.heap.size 179 #[.int .i64 op,.int .i64 a,.int .i64 b,.int .i64 c]:=by rw [hw1];exact zM _ _ _
 have h1w:Below w.heap.size w w1:=by rw [hw1];exact zG (Below.refl _ _) _
 have p0:=hB.cell 0
 have p1:=hB.cell 1
 have p2:=hB.cell 2
 have p3:=hB.cell 3
 simp only [List.getElem?_toArray,List.getElem?_cons_succ,List.getElem?_cons_zero] at p0 p1 p2 p3
 have q0:∀ x:Later w1,x.val.cell? ⟨w.heap.size,0,none⟩=some (.int .i64 op):=fun x=>(x.bk hB).cell 0
 have q1:∀ x:Later w1,x.val.cell? ⟨w.heap.size,1,none⟩=some (.int .i64 a):=fun x=>(x.bk hB).cell 1
 have q2:∀ x:Later w1,x.val.cell? ⟨w.heap.size,2,none⟩=some (.int .i64 b):=fun x=>(x.bk hB).cell 2
 have q3:∀ x:Later w1,x.val.cell? ⟨w.heap.size,3,none⟩=some (.int .i64 c):=fun x=>(x.bk hB).cell 3
 have qL:∀ x:Later w1,w.heap.size < x.val.heap.size:=fun x=>x.lt hB.lt
 have ck:=zFK op a b c w1 (ht.below h1w)
 rw [hk] at ck
 simp only [if_true] at ck
 have sh:∀ x:Later w1,Calls Tryz.prog 135 #[.int .i64 op] x.val fun e w'=>e=.returned (.tuple #[.agg #[.string ⟨(zAC op.toNat).toArray⟩,.bool (shA op),.bool (shB op),.int .u8 (shC op)],.bool true])∧Below x.val.heap.size x.val w':=by
  intro x
  have h:=zFc op x.val ((ht.below h1w).below x.ok)
  rw [zQu hk] at h
  exact h
 have HW1:=zA hw1
 have H1W:=zA h1w
 have CK:=zA ck
 have SH:=zA sh
 have HB:=zA hB
 have H10:=zA h10
 have HK:=zA hk
 clear ck hk hw1 h1w ht hB sh h10
 go_enter Tryz.func167,Tryz.ntmps167
 go_upto_region 1 with (fail)
 rw [←HW1.out]
 go_upto_region 7 with (first
  | (go_at_call 105;((with_reducible refine CK.out.mono ?_);rintro e w' ⟨rfl,hb⟩;obtain ⟨y,rfl⟩:=zAF (Below.refl _ _) hb;clear hb))
  | (go_at_call 135;((with_reducible refine (SH.out y).mono ?_);rintro e w' ⟨rfl,hb⟩;obtain ⟨z,rfl⟩:=zAF y.ok hb;clear hb)))
 obtain ⟨w3,hw3⟩:∃ w3,w3=z.val.alloc (.cells #[.string ⟨(zAC op.toNat).toArray⟩,.bool (shA op),.bool (shB op),.int .u8 (shC op)] 230):=⟨_,rfl⟩
 obtain ⟨w4,hw4⟩:∃ w4,w4=w3.alloc (.cells #[.string ⟨(zAC op.toNat).toArray⟩] 9):=⟨_,rfl⟩
 have hz3:w3.heap.size=z.val.heap.size+1:=by rw [hw3,World.size_alloc]
 have kS:Bk w3 z.val.heap.size 230 #[.string ⟨(zAC op.toNat).toArray⟩,.bool (shA op),.bool (shB op),.int .u8 (shC op)]:=by rw [hw3];exact zM _ _ _
 have kI:Bk w3 w.heap.size 179 #[.int .i64 op,.int .i64 a,.int .i64 b,.int .i64 c]:=by rw [hw3];exact zN _ (z.bk HB.out)
 have h13:Below w1.heap.size w1 w3:=by rw [hw3];exact zG z.ok _
 have k4:Bk w4 (z.val.heap.size+1) 9 #[.string ⟨(zAC op.toNat).toArray⟩]:=by rw [hw4,←hz3];exact zM _ _ _
 have h34:Below w3.heap.size w3 w4:=by rw [hw4];exact zG (Below.refl _ _) _
 have t3:Tab10 w3:=(H10.out.below H1W.out).below h13
 have r1:∀ x:Later w3,x.val.cell? ⟨w.heap.size,1,none⟩=some (.int .i64 a):=fun x=>(x.bk kI).cell 1
 have r2:∀ x:Later w3,x.val.cell? ⟨w.heap.size,2,none⟩=some (.int .i64 b):=fun x=>(x.bk kI).cell 2
 have r3:∀ x:Later w3,x.val.cell? ⟨w.heap.size,3,none⟩=some (.int .i64 c):=fun x=>(x.bk kI).cell 3
 have s1:∀ x:Later w3,x.val.cell? ⟨z.val.heap.size,1,none⟩=some (.bool (shA op)):=fun x=>(x.bk kS).cell 1
 have s2:∀ x:Later w3,x.val.cell? ⟨z.val.heap.size,2,none⟩=some (.bool (shB op)):=fun x=>(x.bk kS).cell 2
 have s3:∀ x:Later w3,x.val.cell? ⟨z.val.heap.size,3,none⟩=some (.int .u8 (shC op)):=fun x=>(x.bk kS).cell 3
 obtain ⟨o0,o1,a0,a1,b0,b1,c0,c1⟩:=zCy HK.out
 have ad:∀ (n:Int) (hn : -2048≤n∧n≤2047) (has ir:Bool) (l:List UInt8) (hl:l.length≤500) (x:Later w3) (hx:Bk x.val (z.val.heap.size+1) 9 #[.string ⟨l.toArray⟩]),Calls Tryz.prog 188 #[.int .i64 n,.bool has,.bool ir,.pointer (some ⟨z.val.heap.size+1,0,none⟩)] x.val fun e w'=>e=.returned (.tuple #[])∧∃ y:Later w3,w'=y.val∧Bk y.val (z.val.heap.size+1) 9 #[.string ⟨(l++zDH n has ir).toArray⟩]:=by
  intro n hn has ir l hl x hx
  refine (zN8 n ⟨by omega,by omega⟩ has ir _ _ x.val (by rw [zHV];omega) hx (t3.below x.ok)).mono ?_
  rintro e w' ⟨he,hb,hk⟩
  rw [zRD] at hk
  rw [←hz3] at hb
  exact ⟨he,⟨w',x.ok.trans hb⟩,rfl,hk⟩
 have l0:=zMY op.toNat
 have l1:=zI9 a ⟨by omega,by omega⟩ (shA op) true
 have l2:=zI9 b ⟨by omega,by omega⟩ (shB op) true
 have A1:=zA (ad a (by omega) (shA op) true _ (by omega) ⟨w4,h34⟩ k4)
 have A2:=zA (fun y hy=>ad b (by omega) (shB op) true (zAC op.toNat++zDH a (shA op) true) (by simp only [List.length_append];omega) y hy)
 have A3:=zA (fun y hy=>ad c (by omega) (shC op != 0) (shC op==114) (zAC op.toNat++zDH a (shA op) true++zDH b (shB op) true) (by simp only [List.length_append];omega) y hy)
 have fin:=zA (fun x:Later w3=>zI (zI H1W.out h13) x.ok)
 have kL:∀ x:Later w3,z.val.heap.size < x.val.heap.size:=fun x=>x.lt kS.lt
 have iL:∀ x:Later w3,w.heap.size < x.val.heap.size:=fun x=>x.lt kI.lt
 have m1:=r1 ⟨w4,h34⟩
 have m2:=s1 ⟨w4,h34⟩
 simp only at m1 m2
 have HW3:=zA hw3
 have HW4:=zA hw4
 rw [←HW3.out,←HW4.out]
 clear ad l0 l1 l2 hz3 kS kI h13 k4 t3 hw3 hw4 HK a0 a1 b0 b1 c0 c1 o0 o1 q0 q1 q2 q3 p0 p1 p2 p3 CK SH
 go_wp2_with (first
  | (go_at_call 188;((with_reducible refine A1.out.mono ?_);rintro e w' ⟨rfl,y5,rfl,hc⟩;have C5:=zA hc;clear hc))
  | (go_at_call 188;((with_reducible refine (A2.out y5 C5.out).mono ?_);rintro e w' ⟨rfl,y6,rfl,hc⟩;have C6:=zA hc;clear hc))
  | (go_at_call 188;((with_reducible refine (A3.out y6 C6.out).mono ?_);rintro e w' ⟨rfl,y7,rfl,hc⟩;have c7:=hc.cell 0;simp only [List.getElem?_toArray,List.getElem?_cons_zero] at c7;have C7:=zA hc;clear hc)))
 go_ret2
 have e:zEB ⟨op,a,b,c⟩=zAC op.toNat++(zDH a (shA op) true++(zDH b (shB op) true++zDH c (shC op != 0) (shC op==114))):=by unfold zEB;simp only [List.append_assoc]
 rw [e]
 exact ⟨rfl,fin.out y7⟩
end
end Go.Proofs.YtlpejagkadalbaaGreatDoor
