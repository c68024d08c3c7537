import Derived.Test.YtlpejagkadalbaaGreatDoorZk01
import Derived.Test.YtlpejagkadalbaaGreatDoorRows
import Derived.Great.BuildSlice
import Derived.WalkSpells
set_option maxHeartbeats 40000000
set_option maxRecDepth 100000
set_option linter.unusedVariables false
set_option linter.unusedSimpArgs false
namespace Go.Proofs.YtlpejagkadalbaaGreatDoor
section
open El (cl)
open Go.RowKit
instance:El ValV where
 k:=7
 cl v:=[.bool v.is,.int .i64 v.n,.int .i64 v.k.perm,.int .i64 v.k.base,.int .i64 v.k.len,.int .i64 v.k.at_,.int .i64 v.k.seal_]
 z:=zeroV
 len _:=rfl
 one _:=by intro u hu;simp at hu;rcases hu with rfl | rfl | rfl | rfl | rfl | rfl | rfl<;>rfl
 pos:=by decide
theorem zDK (a:Addr) (i j:Nat) (hj:0 < j):a.add (i+j)=⟨(a.add i).block,(a.add i).off+j,none⟩:=by
 unfold Addr.add
 rw [if_neg (by omega)]
 by_cases hi:i=0
 ·subst hi;simp
 ·rw [if_neg hi];simp [Nat.add_assoc]
def zGE (w:World) (a:Addr) (v:ValV):Prop :=
 w.cell? a=some (.bool v.is)∧w.cell? ⟨a.block,a.off+1,none⟩=some (.int .i64 v.n) ∧
  w.cell? ⟨a.block,a.off+2,none⟩=some (.int .i64 v.k.perm)∧w.cell? ⟨a.block,a.off+3,none⟩=some (.int .i64 v.k.base) ∧
  w.cell? ⟨a.block,a.off+4,none⟩=some (.int .i64 v.k.len)∧w.cell? ⟨a.block,a.off+5,none⟩=some (.int .i64 v.k.at_) ∧
  w.cell? ⟨a.block,a.off+6,none⟩=some (.int .i64 v.k.seal_)
theorem zEl {w:World} {ao:Option Addr} {n:Nat} {vs:List ValV} (h:Sl w ao n vs) {i:Nat} (hi:i < n):∃ a,ao=some a∧a.block < w.heap.size∧zGE w (a.add (i*7)) (vs.getD i zeroV):=by
 obtain ⟨a,x,e,hb,hx,hc⟩:=h.at hi
 have hg:vs.getD i zeroV=x:=by simp [List.getD,hx]
 rw [hg]
 refine ⟨a,e,hb,?_⟩
 unfold zGE
 rw [←zDK a (i*7) 1 (by decide),←zDK a (i*7) 2 (by decide),←zDK a (i*7) 3 (by decide),←zDK a (i*7) 4 (by decide),←zDK a (i*7) 5 (by decide),←zDK a (i*7) 6 (by decide)]
 exact ⟨hc 0 _ rfl,hc 1 _ rfl,hc 2 _ rfl,hc 3 _ rfl,hc 4 _ rfl,hc 5 _ rfl,hc 6 _ rfl⟩
end
section
open El (cl)
open Go.RowKit
@[ext] structure FrameV where
 code:KeyV
 data:ValV
deriving DecidableEq
def FrameV.val (x:FrameV):Value:=.agg #[.int .i64 x.code.perm,.int .i64 x.code.base,.int .i64 x.code.len,.int .i64 x.code.at_,.int .i64 x.code.seal_,.bool x.data.is,.int .i64 x.data.n,.int .i64 x.data.k.perm,.int .i64 x.data.k.base,.int .i64 x.data.k.len,.int .i64 x.data.k.at_,.int .i64 x.data.k.seal_]
structure FrameV.wf (x:FrameV):Prop where
 code:x.code.wf
 data:x.data.wf
def zM4:FrameV:=⟨zeroK,zeroV⟩
instance:El FrameV where
 k:=12
 cl x:=[.int .i64 x.code.perm,.int .i64 x.code.base,.int .i64 x.code.len,.int .i64 x.code.at_,.int .i64 x.code.seal_,.bool x.data.is,.int .i64 x.data.n,.int .i64 x.data.k.perm,.int .i64 x.data.k.base,.int .i64 x.data.k.len,.int .i64 x.data.k.at_,.int .i64 x.data.k.seal_]
 z:=zM4
 len _:=rfl
 one _:=by intro u hu;simp at hu;rcases hu with rfl | rfl | rfl | rfl | rfl | rfl | rfl | rfl | rfl | rfl | rfl | rfl<;>rfl
 pos:=by decide
instance:Inhabited FrameV:=⟨zM4⟩
theorem zAz (a:Addr) (i j:Nat) (hj:0 < j):a.add (i+j)=⟨(a.add i).block,(a.add i).off+j,none⟩:=by
 unfold Addr.add
 rw [if_neg (by omega)]
 by_cases hi:i=0
 ·subst hi;simp
 ·rw [if_neg hi];simp [Nat.add_assoc]
theorem zHV {w:World} {ao:Option Addr} {n:Nat} {ks:List FrameV} (h:Sl w ao n ks) {i:Nat} (hi:i < n) {x:FrameV} (hx:ks[i]?=some x):∃ a,ao=some a∧(a.add (i*12)).block < w.heap.size ∧
  w.cell? (a.add (i*12))=some (.int .i64 x.code.perm)∧w.cell? ⟨(a.add (i*12)).block,(a.add (i*12)).off+1,none⟩=some (.int .i64 x.code.base)∧w.cell? ⟨(a.add (i*12)).block,(a.add (i*12)).off+2,none⟩=some (.int .i64 x.code.len)∧w.cell? ⟨(a.add (i*12)).block,(a.add (i*12)).off+3,none⟩=some (.int .i64 x.code.at_)∧w.cell? ⟨(a.add (i*12)).block,(a.add (i*12)).off+4,none⟩=some (.int .i64 x.code.seal_)∧w.cell? ⟨(a.add (i*12)).block,(a.add (i*12)).off+5,none⟩=some (.bool x.data.is)∧w.cell? ⟨(a.add (i*12)).block,(a.add (i*12)).off+6,none⟩=some (.int .i64 x.data.n)∧w.cell? ⟨(a.add (i*12)).block,(a.add (i*12)).off+7,none⟩=some (.int .i64 x.data.k.perm)∧w.cell? ⟨(a.add (i*12)).block,(a.add (i*12)).off+8,none⟩=some (.int .i64 x.data.k.base)∧w.cell? ⟨(a.add (i*12)).block,(a.add (i*12)).off+9,none⟩=some (.int .i64 x.data.k.len)∧w.cell? ⟨(a.add (i*12)).block,(a.add (i*12)).off+10,none⟩=some (.int .i64 x.data.k.at_)∧w.cell? ⟨(a.add (i*12)).block,(a.add (i*12)).off+11,none⟩=some (.int .i64 x.data.k.seal_):=by
 obtain ⟨a,y,e,hb,hy,hc⟩:=h.at hi
 obtain rfl:y=x:=by rw [hx] at hy;injection hy with hy;exact hy.symm
 refine ⟨a,e,by rw [zBH];exact hb,?_⟩
 rw [←zAz a (i*12) 1 (by decide),←zAz a (i*12) 2 (by decide),←zAz a (i*12) 3 (by decide),←zAz a (i*12) 4 (by decide),←zAz a (i*12) 5 (by decide),←zAz a (i*12) 6 (by decide),←zAz a (i*12) 7 (by decide),←zAz a (i*12) 8 (by decide),←zAz a (i*12) 9 (by decide),←zAz a (i*12) 10 (by decide),←zAz a (i*12) 11 (by decide)]
 exact ⟨hc 0 _ rfl,hc 1 _ rfl,hc 2 _ rfl,hc 3 _ rfl,hc 4 _ rfl,hc 5 _ rfl,hc 6 _ rfl,hc 7 _ rfl,hc 8 _ rfl,hc 9 _ rfl,hc 10 _ rfl,hc 11 _ rfl⟩
end
section
open Go.RowKit
def zCI:List FrameV→Int
 | []=>0
 | f::fs=>if okB f.code=false then 1 else if zAJ f.data≠0 then zAJ f.data else zCI fs
def zCT:List Int→Int
 | []=>0
 | n::ns=>if n=wrap32 n then zCT ns else 1
def zAd (R:List ValV) (c:KeyV) (mem:List ValV) (stk:List FrameV) (out:List Int):Int :=
 if zAi R≠0 then zAi R else if okB c=false then 1 else if zA4 mem≠0 then zA4 mem else if 16 < stk.length then 2 else if zCI stk≠0 then zCI stk else if 100 < out.length then 2 else zCT out
theorem zIy {m:List ValV} {k:Nat} {x:ValV} (hx:m[k]?=some x):zAi (m.drop k)=if zAJ x=0 then zAi (m.drop (k+1)) else zAJ x:=by
 obtain ⟨h,e⟩:=List.getElem?_eq_some_iff.1 hx
 rw [List.drop_eq_getElem_cons h,e,zAi]
theorem zLo {m:List FrameV} {k:Nat} {x:FrameV} (hx:m[k]?=some x):zCI (m.drop k)=if okB x.code=false then 1 else if zAJ x.data≠0 then zAJ x.data else zCI (m.drop (k+1)):=by
 obtain ⟨h,e⟩:=List.getElem?_eq_some_iff.1 hx
 rw [List.drop_eq_getElem_cons h,e,zCI]
theorem zKt {m:List Int} {k:Nat} {x:Int} (hx:m[k]?=some x):zCT (m.drop k)=if x=wrap32 x then zCT (m.drop (k+1)) else 1:=by
 obtain ⟨h,e⟩:=List.getElem?_eq_some_iff.1 hx
 rw [List.drop_eq_getElem_cons h,e,zCT]
theorem zFp (m:List FrameV):zCI m=0↔∀ f∈m,f.code.Ok∧f.data.Ok:=by
 induction m with
 | nil=>simp [zCI]
 | cons f m ih =>
  rw [zCI]
  simp only [List.mem_cons,forall_eq_or_imp,←zBK,←zCi]
  cases h:okB f.code
  ·simp
  ·by_cases h2:zAJ f.data=0
   ·simp only [h2]
    simp [ih,←zBK,←zCi]
   ·simp [h2]
theorem zFk {n:Int}:n=wrap32 n ↔ -2147483648≤n∧n≤2147483647:=by
 unfold wrap32
 omega
theorem zFK (m:List Int):zCT m=0↔∀ n∈m,-2147483648≤n∧n≤2147483647:=by
 induction m with
 | nil=>simp [zCT]
 | cons f m ih =>
  rw [zCT]
  simp only [List.mem_cons,forall_eq_or_imp,←zFk]
  by_cases h:f=wrap32 f
  ·rw [if_pos h,ih]
   simp only [←zFk]
   exact ⟨fun h2=>⟨h,h2⟩,fun h2=>h2.2⟩
  ·rw [if_neg h]
   simp [h]
structure MOk (R:List ValV) (c:KeyV) (mem:List ValV) (stk:List FrameV) (out:List Int):Prop where
 regs:∀ v∈R,v.Ok
 code:c.Ok
 len:mem.length≤400
 mem:∀ v∈mem,v.Ok
 deep:stk.length≤16
 stk:∀ f∈stk,f.code.Ok∧f.data.Ok
 told:out.length≤100
 out:∀ n∈out,-2147483648≤n∧n≤2147483647
theorem stepCheck_zero {R:List ValV} {c:KeyV} {mem:List ValV} {stk:List FrameV} {out:List Int}:zAd R c mem stk out=0↔MOk R c mem stk out:=by
 unfold zAd
 by_cases h1:zAi R=0
 ·rw [if_neg (by simp [h1])]
  by_cases h2:okB c=true
  ·rw [if_neg (by simp [h2])]
   by_cases h3:zA4 mem=0
   ·rw [if_neg (by simp [h3])]
    by_cases h4:16 < stk.length
    ·rw [if_pos h4]
     exact ⟨fun h=>absurd h (by decide),fun h=>by have:=h.deep;omega⟩
    ·rw [if_neg h4]
     by_cases h5:zCI stk=0
     ·rw [if_neg (by simp [h5])]
      by_cases h6:100 < out.length
      ·rw [if_pos h6]
       exact ⟨fun h=>absurd h (by decide),fun h=>by have:=h.told;omega⟩
      ·rw [if_neg h6]
       have hm:=(zBT mem).1 h3
       exact ⟨fun h=>⟨(zDZ R).1 h1,(zBK c).1 h2,hm.1,hm.2,by omega,(zFp stk).1 h5,by omega,(zFK out).1 h⟩,fun h=>(zFK out).2 h.out⟩
     ·rw [if_pos h5]
      exact ⟨fun h=>absurd h h5,fun h=>absurd ((zFp stk).2 h.stk) h5⟩
   ·rw [if_pos h3]
    exact ⟨fun h=>absurd h h3,fun h=>absurd ((zBT mem).2 ⟨h.len,h.mem⟩) h3⟩
  ·rw [if_pos (by simpa using h2)]
   exact ⟨fun h=>absurd h (by decide),fun h=>absurd ((zBK c).2 h.code) h2⟩
 ·rw [if_pos h1]
  exact ⟨fun h=>absurd h h1,fun h=>absurd ((zDZ R).2 h.regs) h1⟩
end
section
open El (cl)
open Go.RowKit
instance elInt:El Int where
 k:=1
 cl x:=[.int .i64 x]
 z:=0
 len _:=rfl
 one _:=by intro u hu;simp at hu;subst hu;rfl
 pos:=by decide
theorem zDt {w:World} {ao:Option Addr} {n:Nat} {ks:List Int} (h:Sl w ao n ks) {i:Nat} (hi:i < n) {x:Int} (hx:ks[i]?=some x):∃ a,ao=some a∧(a.add i).block < w.heap.size∧w.cell? (a.add i)=some (.int .i64 x):=by
 obtain ⟨a,y,e,hb,hy,hc⟩:=h.at hi
 obtain rfl:y=x:=by rw [hx] at hy;injection hy with hy;exact hy.symm
 refine ⟨a,e,by rw [zBH];exact hb,?_⟩
 have:=hc 0 _ rfl
 have e1:i*El.k Int+0=i:=by show i*1+0=i;omega
 rw [e1] at this
 exact this
end
section
open Go.RowKit
theorem zDr:zeroV.Ok:=.inr ⟨rfl,by decide,by decide,rfl⟩
end
section
open Go.RowKit
theorem zMl (d:Nat) (p b l a s p' b' l' a' s':Int) (w:World):(Op.equalIn (d+2) 54 (.agg #[.int .i64 p,.int .i64 b,.int .i64 l,.int .i64 a,.int .i64 s]) (.agg #[.int .i64 p',.int .i64 b',.int .i64 l',.int .i64 a',.int .i64 s'])).run Tryz.prog w=.ok (decide ((⟨p,b,l,a,s⟩:KeyV)=⟨p',b',l',a',s'⟩)) w:=by
 rw [run_equalIn_agg w _ _ _ _ (by kernel_rfl) (by kernel_rfl)]
 go_simp
 by_cases h0:p=p'
 ·subst h0
  by_cases h1:b=b'
  ·subst h1
   by_cases h2:l=l'
   ·subst h2
    by_cases h3:a=a'
    ·subst h3
     by_cases h4:s=s'
     ·subst h4
      simp
     ·simp [h4]
    ·simp [h3]
   ·simp [h2]
  ·simp [h1]
 ·simp [h0]
theorem zIV (x y:KeyV) (W:World):(binOp .neq 54 x.val y.val).run Tryz.prog W=.ok (.bool (!decide (x=y))) W:=by
 simp only [KeyV.val]
 rw [run_neq_struct,zMl 9998]
 rfl
end
section
open El (cl)
open Go.RowKit
def mcs (R:List ValV) (c:KeyV) (ms ss os:Value):Array Value :=
 (cls R++[.int .i64 c.perm,.int .i64 c.base,.int .i64 c.len,.int .i64 c.at_,.int .i64 c.seal_,ms,ss,os]).toArray
section
variable {R:List ValV} {c:KeyV} {ms ss os:Value}
theorem zAk (h:R.length=8):(cls R).length=56:=by rw [zB3,h];rfl
theorem zBh (h:R.length=8):(mcs R c ms ss os).size=64:=by
 unfold mcs
 rw [List.size_toArray,List.length_append,zAk h]
 rfl
theorem zAU (h:R.length=8) (j:Nat):(mcs R c ms ss os)[56+j]?=([.int .i64 c.perm,.int .i64 c.base,.int .i64 c.len,.int .i64 c.at_,.int .i64 c.seal_,ms,ss,os]:List Value)[j]?:=by
 unfold mcs
 rw [List.getElem?_toArray,List.getElem?_append_right (by rw [zAk h];omega),zAk h,Nat.add_sub_cancel_left]
theorem zEy (h:R.length=8) {i:Nat} (hi:i < 56):(mcs R c ms ss os)[i]?=(cls R)[i]?:=by
 unfold mcs
 rw [List.getElem?_toArray,List.getElem?_append_left (by rw [zAk h];omega)]
theorem zHp (h:R.length=8):(mcs R c ms ss os).extract 0 56=(cls R).toArray:=by
 unfold mcs
 rw [List.extract_toArray,List.extract_eq_take_drop,List.drop_zero,Nat.sub_zero,List.take_append_of_le_length (by rw [zAk h];omega),List.take_of_length_le (by rw [zAk h];omega)]
end
theorem zMs {α:Type} [El α] (xs:List α) {i:Nat} {x:α} (hx:xs[i]?=some x):(cls xs).toArray.extract (i*El.k α) (i*El.k α+El.k α)=(cl x).toArray:=by
 have hi:i < xs.length:=(List.getElem?_eq_some_iff.1 hx).1
 rw [List.extract_toArray,List.extract_eq_take_drop,Nat.add_sub_cancel_left,←zH9,List.drop_eq_getElem_cons hi,(List.getElem?_eq_some_iff.1 hx).2,zBI,List.take_append_of_le_length (by rw [El.len];exact Nat.le_refl _),List.take_of_length_le (by rw [El.len];exact Nat.le_refl _)]
section
variable {P:Program}
theorem zD2 (w:World) (g off:Nat) (t ty:TypeId) (cs:Array Value) (fr:Nat×Nat) (d:TypeDesc) (k:Nat) (hg:w.heap[g]?=some (.cells cs t fr))
  (hu:P.underlying ty=some d) (hd:(match d with | .struct _ | .array _ _=>true | _=>false)=true) (hi:(P.info? ty).map (·.size)=some k) (hk:off+k≤cs.size) :
  (loadVar ty ⟨g,off,none⟩).run P w=.ok (.agg (cs.extract off (off+k))) w:=by
 have hlen:(cs.extract off (off+k)).toList.length=k:=by simp;omega
 have hl:(loadCells ⟨g,off,none⟩ (cs.extract off (off+k)).toList.length).run P w=.ok (cs.extract off (off+k)).toList.toArray w :=
  run_loadCells_list (P:=P) w ⟨g,off,none⟩ (cs.extract off (off+k)).toList (fun j v hv=>by
   have hadd:(⟨g,off,none⟩:Addr).add j=⟨g,off+j,none⟩:=by
    unfold Addr.add;split
    ·next h=>subst h;rfl
    ·rfl
   rw [hadd,cell_of_row w g (off+j) cs t fr hg]
   have hj:j < k:=by have:=(List.getElem?_eq_some_iff.1 hv).1;omega
   rw [Array.getElem?_toList,Array.getElem?_extract] at hv
   rw [if_pos (by omega)] at hv
   exact hv)
 rw [hlen] at hl
 cases hq:P.info? ty with
 | none=>simp [hq] at hi
 | some i =>
  have hs:i.size=k:=by simpa [hq] using hi
  have hagg:(isAgg ty).run P w=.ok true w:=by
   unfold isAgg
   rw [Sem.run_bind,run_underlying hu w]
   cases d<;>simp_all
  simp only [Array.toArray_toList] at hl
  simp [loadVar,Sem.run_bind,hagg,sizeOf,typeInfo,hq,hs,hl]
theorem zFG {o:Oper} {a:Act} {w:World} {K:Act→World→Prop} {Q:Exit→Act→World→Prop} (ty:TypeId) (x:Operand) (ho:o.op=.load ty x)
  (g off k:Nat) (hx:a.eval x=.pointer (some ⟨g,off,none⟩)) (t:TypeId) (cs:Array Value) (d:TypeDesc) (hg:w.heap[g]?=some (.cells cs t (0,0)))
  (hu:P.underlying ty=some d) (hd:(match d with | .struct _ | .array _ _=>true | _=>false)=true) (hi:(P.info? ty).map (·.size)=some k) (hk:off+k≤cs.size)
  (h:K (a.put o.dst (.agg (cs.extract off (off+k)))) w):o.wp P a w K Q:=by
 unfold Oper.wp execOp
 simp only [ho,hx,Instr.loadAt,Instr.sureAddr,Sem.run_bind,Sem.run_pure,Result.andThen_ok,zD2 w g off t ty cs _ d k hg hu hd hi hk]
 exact h
theorem zAZ {ops:Array Oper} {rest:List Oper} {o:Oper} {a:Act} {w:World} {Q:Exit→Act→World→Prop} (hgd:o.guard=none) (ty:TypeId) (x:Operand) (ho:o.op=.load ty x)
  (g off k:Nat) (hx:a.eval x=.pointer (some ⟨g,off,none⟩)) (t:TypeId) (cs:Array Value) (d:TypeDesc) (hg:w.heap[g]?=some (.cells cs t (0,0)))
  (hu:P.underlying ty=some d) (hd:(match d with | .struct _ | .array _ _=>true | _=>false)=true) (hi:(P.info? ty).map (·.size)=some k) (hk:off+k≤cs.size) (u:Array Value) (he:cs.extract off (off+k)=u)
  (h:wpList P ops Q rest (a.put o.dst (.agg u)) w):wpList P ops Q (o::rest) a w :=
 wpList_plain hgd fun _ hK=>zFG ty x ho g off k hx t cs d hg hu hd hi hk (hK _ _ (he▸h))
end
theorem zEC (R:List ValV) (h8:R.length=8) {k:Nat} {x:ValV} (hx:R[k]?=some x) (w:World):(Instr.index 57 (.agg (cls R).toArray) (.int .i64 k)).run Tryz.prog w=.ok x.val w:=by
 have hk:k < R.length:=(List.getElem?_eq_some_iff.1 hx).1
 have hp:=zMs R hx
 have e7:El.k ValV=7:=rfl
 rw [e7] at hp
 have hk8:(k:Int) < 8:=by omega
 have hk0:(0:Int)≤k:=by omega
 unfold Instr.index
 simp only [asIntOf,Sem.run_bind,Sem.run_pure,Result.andThen_ok,run_underlying Tryz.underlying57]
 rw [if_pos ⟨hk0,hk8⟩]
 have hs:(sizeOf 56).run Tryz.prog w=.ok 7 w:=by kernel_rfl
 have ha:(isAgg 56).run Tryz.prog w=.ok true w:=by kernel_rfl
 simp only [Sem.run_bind,hs,Result.andThen_ok,part,ha,if_true,Sem.run_pure,Int.toNat_natCast,hp]
 rfl
end
section
open Go.RowKit
theorem zF4:(Tryz.prog.info? 156).map (fun i=>(i.zero,i.size,i.bytes))=some (some (.agg #[.int .i64 0,.int .i64 0,.int .i64 0,.int .i64 0,.int .i64 0,.bool false,.int .i64 0,.int .i64 0,.int .i64 0,.int .i64 0,.int .i64 0,.int .i64 0]),12,96):=by kernel_rfl
theorem zFc:(Tryz.prog.info? 3).map (fun i=>(i.zero,i.size,i.bytes))=some (some (.int .i64 0),1,8):=by kernel_rfl
theorem zI7 (ao:Option Addr) (n cap:Nat) (vs:List FrameV) (w:World) (h:Sl w ao n vs) (hn:n*96≤140737488355328) :
  Calls Tryz.prog 69 #[.slice ao n cap] w (zFE w 156 vs):=by
 obtain ⟨i0,hi,hz0,hz1,hz2⟩:=info_parts zF4
 have hl:=h.len
 have hq:∀ W,(binOp .eql 58 (.slice ao n cap) (.slice none 0 0)).run Tryz.prog W=.ok (.bool ao.isNone) W:=fun W=>Lib.run_eql_slice_nil W _ _ ao n cap 0 0 Tryz.underlying58
 cases ao with
 | none =>
  have hn0:n=0:=by
   rcases Nat.eq_zero_or_pos n with h0 | h0
   ·exact h0
   ·obtain ⟨a,e,_⟩:=h.row h0
    cases e
  have hv:vs=[]:=List.eq_nil_of_length_eq_zero (by omega)
  subst hv
  clear h hl hn0
  simp only [Option.isNone_none] at hq
  go_enter Tryz.func69,Tryz.ntmps69
  go_wp2
  go_ret
  exact ⟨_,rfl,Own.nil _ _ _,Below.refl _ _⟩
 | some a =>
  simp only [Option.isNone_some] at hq
  have H:=zA h
  have HL:=zA hl
  clear h hl
  go_enter Tryz.func69,Tryz.ntmps69
  have c63:([]:List FrameV).length+n≤maxLen:=by unfold maxLen;simp;omega
  have c47:(([]:List FrameV).length+n)*96≤140737488355328:=by simp;omega
  have cB:w.heap.size≤(w.alloc (.cells #[] 156)).heap.size:=by simp
  have hb0:Below w.heap.size w (w.alloc (.cells #[] 156)):=(Below.refl _ _).alloc (Nat.le_refl _) _
  go_wp2_with (at_builtin;refine zAC rfl (.tmp 5) (.tmp 6) 58 rfl w.heap.size 156 i0 _ 96 Tryz.underlying58 hi hz0 hz1 hz2 rfl (.slice (some ⟨w.heap.size,0,none⟩) 0 0) ([]:List FrameV) rfl (zBw w 156 w.heap.size (Nat.le_refl _) #[] 0 rfl (by decide) rfl) (some a) n cap vs rfl (H.out.alloc _) c63 c47 cB ?_;intro v1 w1 hown1 hgr1 hat1)
  go_ret
  refine ⟨v1,rfl,hown1,hb0.grown hgr1 (by simp) ?_⟩
  intro k hk
  simp [Value.ownBlock] at hk
  omega
theorem zLW (ao:Option Addr) (n cap:Nat) (vs:List Int) (w:World) (h:Sl w ao n vs) (hn:n*8≤140737488355328) :
  Calls Tryz.prog 65 #[.slice ao n cap] w (zFE w 3 vs):=by
 obtain ⟨i0,hi,hz0,hz1,hz2⟩:=info_parts zFc
 have hl:=h.len
 have hq:∀ W,(binOp .eql 36 (.slice ao n cap) (.slice none 0 0)).run Tryz.prog W=.ok (.bool ao.isNone) W:=fun W=>Lib.run_eql_slice_nil W _ _ ao n cap 0 0 Tryz.underlying36
 cases ao with
 | none =>
  have hn0:n=0:=by
   rcases Nat.eq_zero_or_pos n with h0 | h0
   ·exact h0
   ·obtain ⟨a,e,_⟩:=h.row h0
    cases e
  have hv:vs=[]:=List.eq_nil_of_length_eq_zero (by omega)
  subst hv
  clear h hl hn0
  simp only [Option.isNone_none] at hq
  go_enter Tryz.func65,Tryz.ntmps65
  go_wp2
  go_ret
  exact ⟨_,rfl,Own.nil _ _ _,Below.refl _ _⟩
 | some a =>
  simp only [Option.isNone_some] at hq
  have H:=zA h
  have HL:=zA hl
  clear h hl
  go_enter Tryz.func65,Tryz.ntmps65
  have c63:([]:List Int).length+n≤maxLen:=by unfold maxLen;simp;omega
  have c47:(([]:List Int).length+n)*8≤140737488355328:=by simp;omega
  have cB:w.heap.size≤(w.alloc (.cells #[] 3)).heap.size:=by simp
  have hb0:Below w.heap.size w (w.alloc (.cells #[] 3)):=(Below.refl _ _).alloc (Nat.le_refl _) _
  go_wp2_with (at_builtin;refine zAC rfl (.tmp 5) (.tmp 6) 36 rfl w.heap.size 3 i0 _ 8 Tryz.underlying36 hi hz0 hz1 hz2 rfl (.slice (some ⟨w.heap.size,0,none⟩) 0 0) ([]:List Int) rfl (zBw w 3 w.heap.size (Nat.le_refl _) #[] 0 rfl (by decide) rfl) (some a) n cap vs rfl (H.out.alloc _) c63 c47 cB ?_;intro v1 w1 hown1 hgr1 hat1)
  go_ret
  refine ⟨v1,rfl,hown1,hb0.grown hgr1 (by simp) ?_⟩
  intro k hk
  simp [Value.ownBlock] at hk
  omega
end
section
open Go.RowKit
theorem zMV:(Tryz.prog.info? 56).map (fun i=>(i.zero,i.size,i.bytes))=some (some (.agg #[.bool false,.int .i64 0,.int .i64 0,.int .i64 0,.int .i64 0,.int .i64 0,.int .i64 0]),7,56):=by kernel_rfl
theorem zDO (ao:Option Addr) (n cap:Nat) (vs:List ValV) (w:World) (h:Sl w ao n vs) (hn:n*56≤140737488355328) :
  Calls Tryz.prog 32 #[.slice ao n cap] w (zFE w 56 vs):=by
 obtain ⟨i0,hi,hz0,hz1,hz2⟩:=info_parts zMV
 have hl:=h.len
 have hq:∀ W,(binOp .eql 24 (.slice ao n cap) (.slice none 0 0)).run Tryz.prog W=.ok (.bool ao.isNone) W:=fun W=>Lib.run_eql_slice_nil W _ _ ao n cap 0 0 Tryz.underlying24
 cases ao with
 | none =>
  have hn0:n=0:=by
   rcases Nat.eq_zero_or_pos n with h0 | h0
   ·exact h0
   ·obtain ⟨a,e,_⟩:=h.row h0
    cases e
  have hv:vs=[]:=List.eq_nil_of_length_eq_zero (by omega)
  subst hv
  clear h hl hn0
  simp only [Option.isNone_none] at hq
  go_enter Tryz.func32,Tryz.ntmps32
  go_wp2
  go_ret
  exact ⟨_,rfl,Own.nil _ _ _,Below.refl _ _⟩
 | some a =>
  simp only [Option.isNone_some] at hq
  have H:=zA h
  have HL:=zA hl
  clear h hl
  go_enter Tryz.func32,Tryz.ntmps32
  have c63:([]:List ValV).length+n≤maxLen:=by unfold maxLen;simp;omega
  have c47:(([]:List ValV).length+n)*56≤140737488355328:=by simp;omega
  have cB:w.heap.size≤(w.alloc (.cells #[] 56)).heap.size:=by simp
  have hb0:Below w.heap.size w (w.alloc (.cells #[] 56)):=(Below.refl _ _).alloc (Nat.le_refl _) _
  go_wp2_with (at_builtin;refine zAC rfl (.tmp 5) (.tmp 6) 24 rfl w.heap.size 56 i0 _ 56 Tryz.underlying24 hi hz0 hz1 hz2 rfl (.slice (some ⟨w.heap.size,0,none⟩) 0 0) ([]:List ValV) rfl (zBw w 56 w.heap.size (Nat.le_refl _) #[] 0 rfl (by decide) rfl) (some a) n cap vs rfl (H.out.alloc _) c63 c47 cB ?_;intro v1 w1 hown1 hgr1 hat1)
  go_ret
  refine ⟨v1,rfl,hown1,hb0.grown hgr1 (by simp) ?_⟩
  intro k hk
  simp [Value.ownBlock] at hk
  omega
end
section
open Go.RowKit
end
end Go.Proofs.YtlpejagkadalbaaGreatDoor
