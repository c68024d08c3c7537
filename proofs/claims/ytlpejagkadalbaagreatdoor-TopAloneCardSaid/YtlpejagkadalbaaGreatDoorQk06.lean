import Derived.Test.YtlpejagkadalbaaGreatDoorQk03
import Derived.Great.BuildSlice
set_option maxHeartbeats 40000000
set_option maxRecDepth 100000
set_option linter.unusedVariables false
set_option linter.unusedSimpArgs false
namespace Go.Proofs.YtlpejagkadalbaaGreatDoor
section
open Go.RowKit
end
section
open El (cl)
open Go.RowKit
def mcs (R:List ValV) (c:KeyV) (ms ss os:Value):Array Value :=
 (cls R++[.int .i64 c.perm,.int .i64 c.base,.int .i64 c.len,.int .i64 c.at_,.int .i64 c.seal_,ms,ss,os]).toArray
section
variable {R:List ValV} {c:KeyV} {ms ss os:Value}
theorem zBI (h:R.length=8):(cls R).length=56:=by rw [zBf,h];rfl
theorem zBc (h:R.length=8):(mcs R c ms ss os).size=64:=by
 unfold mcs
 rw [List.size_toArray,List.length_append,zBI h]
 rfl
theorem zAh (h:R.length=8) (j:Nat):(mcs R c ms ss os)[56+j]?=([.int .i64 c.perm,.int .i64 c.base,.int .i64 c.len,.int .i64 c.at_,.int .i64 c.seal_,ms,ss,os]:List Value)[j]?:=by
 unfold mcs
 rw [List.getElem?_toArray,List.getElem?_append_right (by rw [zBI h];omega),zBI h,Nat.add_sub_cancel_left]
theorem zHD (h:R.length=8) {i:Nat} (hi:i < 56):(mcs R c ms ss os)[i]?=(cls R)[i]?:=by
 unfold mcs
 rw [List.getElem?_toArray,List.getElem?_append_left (by rw [zBI h];omega)]
theorem zJT (h:R.length=8):(mcs R c ms ss os).extract 0 56=(cls R).toArray:=by
 unfold mcs
 rw [List.extract_toArray,List.extract_eq_take_drop,List.drop_zero,Nat.sub_zero,List.take_append_of_le_length (by rw [zBI h];omega),List.take_of_length_le (by rw [zBI h];omega)]
end
theorem zPA {α:Type} [El α] (xs:List α) {i:Nat} {x:α} (hx:xs[i]?=some x):(cls xs).toArray.extract (i*El.k α) (i*El.k α+El.k α)=(cl x).toArray:=by
 have hi:i < xs.length:=(List.getElem?_eq_some_iff.1 hx).1
 rw [List.extract_toArray,List.extract_eq_take_drop,Nat.add_sub_cancel_left,←zJs,List.drop_eq_getElem_cons hi,(List.getElem?_eq_some_iff.1 hx).2,zBR,List.take_append_of_le_length (by rw [El.len];exact Nat.le_refl _),List.take_of_length_le (by rw [El.len];exact Nat.le_refl _)]
section
variable {P:Program}
theorem zG5 (w:World) (g off:Nat) (t ty:TypeId) (cs:Array Value) (fr:Nat×Nat) (d:TypeDesc) (k:Nat) (hg:w.heap[g]?=some (.cells cs t fr))
  (hu:P.underlying ty=some d) (hd:(match d with | .struct _ | .array _ _=>true | _=>false)=true) (hi:(P.info? ty).map (·.size)=some k) (hk:off+k≤cs.size) :
  (loadVar ty ⟨g,off,none⟩).run P w=.ok (.agg (cs.extract off (off+k))) w:=by
 have hlen:(cs.extract off (off+k)).toList.length=k:=by simp;omega
 have hl:(loadCells ⟨g,off,none⟩ (cs.extract off (off+k)).toList.length).run P w=.ok (cs.extract off (off+k)).toList.toArray w :=
  run_loadCells_list (P:=P) w ⟨g,off,none⟩ (cs.extract off (off+k)).toList (fun j v hv=>by
   have hadd:(⟨g,off,none⟩:Addr).add j=⟨g,off+j,none⟩:=by
    unfold Addr.add;split
    ·next h=>subst h;rfl
    ·rfl
   rw [hadd,cell_of_row w g (off+j) cs t fr hg]
   have hj:j < k:=by have:=(List.getElem?_eq_some_iff.1 hv).1;omega
   rw [Array.getElem?_toList,Array.getElem?_extract] at hv
   rw [if_pos (by omega)] at hv
   exact hv)
 rw [hlen] at hl
 cases hq:P.info? ty with
 | none=>simp [hq] at hi
 | some i =>
  have hs:i.size=k:=by simpa [hq] using hi
  have hagg:(isAgg ty).run P w=.ok true w:=by
   unfold isAgg
   rw [Sem.run_bind,run_underlying hu w]
   cases d<;>simp_all
  simp only [Array.toArray_toList] at hl
  simp [loadVar,Sem.run_bind,hagg,sizeOf,typeInfo,hq,hs,hl]
theorem zGH {o:Oper} {a:Act} {w:World} {K:Act→World→Prop} {Q:Exit→Act→World→Prop} (ty:TypeId) (x:Operand) (ho:o.op=.load ty x)
  (g off k:Nat) (hx:a.eval x=.pointer (some ⟨g,off,none⟩)) (t:TypeId) (cs:Array Value) (d:TypeDesc) (hg:w.heap[g]?=some (.cells cs t (0,0)))
  (hu:P.underlying ty=some d) (hd:(match d with | .struct _ | .array _ _=>true | _=>false)=true) (hi:(P.info? ty).map (·.size)=some k) (hk:off+k≤cs.size)
  (h:K (a.put o.dst (.agg (cs.extract off (off+k)))) w):o.wp P a w K Q:=by
 unfold Oper.wp execOp
 simp only [ho,hx,Instr.loadAt,Instr.sureAddr,Sem.run_bind,Sem.run_pure,Result.andThen_ok,zG5 w g off t ty cs _ d k hg hu hd hi hk]
 exact h
theorem zAm {ops:Array Oper} {rest:List Oper} {o:Oper} {a:Act} {w:World} {Q:Exit→Act→World→Prop} (hgd:o.guard=none) (ty:TypeId) (x:Operand) (ho:o.op=.load ty x)
  (g off k:Nat) (hx:a.eval x=.pointer (some ⟨g,off,none⟩)) (t:TypeId) (cs:Array Value) (d:TypeDesc) (hg:w.heap[g]?=some (.cells cs t (0,0)))
  (hu:P.underlying ty=some d) (hd:(match d with | .struct _ | .array _ _=>true | _=>false)=true) (hi:(P.info? ty).map (·.size)=some k) (hk:off+k≤cs.size) (u:Array Value) (he:cs.extract off (off+k)=u)
  (h:wpList P ops Q rest (a.put o.dst (.agg u)) w):wpList P ops Q (o::rest) a w :=
 wpList_plain hgd fun _ hK=>zGH ty x ho g off k hx t cs d hg hu hd hi hk (hK _ _ (he▸h))
end
theorem zHc (R:List ValV) (h8:R.length=8) {k:Nat} {x:ValV} (hx:R[k]?=some x) (w:World):(Instr.index 57 (.agg (cls R).toArray) (.int .i64 k)).run Tryz.prog w=.ok x.val w:=by
 have hk:k < R.length:=(List.getElem?_eq_some_iff.1 hx).1
 have hp:=zPA R hx
 have e7:El.k ValV=7:=rfl
 rw [e7] at hp
 have hk8:(k:Int) < 8:=by omega
 have hk0:(0:Int)≤k:=by omega
 unfold Instr.index
 simp only [asIntOf,Sem.run_bind,Sem.run_pure,Result.andThen_ok,run_underlying Tryz.underlying57]
 rw [if_pos ⟨hk0,hk8⟩]
 have hs:(sizeOf 56).run Tryz.prog w=.ok 7 w:=by kernel_rfl
 have ha:(isAgg 56).run Tryz.prog w=.ok true w:=by kernel_rfl
 simp only [Sem.run_bind,hs,Result.andThen_ok,part,ha,if_true,Sem.run_pure,Int.toNat_natCast,hp]
 rfl
end
section
open Go.RowKit
theorem zHH:(Tryz.prog.info? 156).map (fun i=>(i.zero,i.size,i.bytes))=some (some (.agg #[.int .i64 0,.int .i64 0,.int .i64 0,.int .i64 0,.int .i64 0,.bool false,.int .i64 0,.int .i64 0,.int .i64 0,.int .i64 0,.int .i64 0,.int .i64 0]),12,96):=by kernel_rfl
theorem zFJ:(Tryz.prog.info? 3).map (fun i=>(i.zero,i.size,i.bytes))=some (some (.int .i64 0),1,8):=by kernel_rfl
theorem zKs (ao:Option Addr) (n cap:Nat) (vs:List FrameV) (w:World) (h:Sl w ao n vs) (hn:n*96≤140737488355328) :
  Calls Tryz.prog 69 #[.slice ao n cap] w (zGF w 156 vs):=by
 obtain ⟨i0,hi,hz0,hz1,hz2⟩:=info_parts zHH
 have hl:=h.len
 have hq:∀ W,(binOp .eql 58 (.slice ao n cap) (.slice none 0 0)).run Tryz.prog W=.ok (.bool ao.isNone) W:=fun W=>Lib.run_eql_slice_nil W _ _ ao n cap 0 0 Tryz.underlying58
 cases ao with
 | none =>
  have hn0:n=0:=by
   rcases Nat.eq_zero_or_pos n with h0 | h0
   ·exact h0
   ·obtain ⟨a,e,_⟩:=h.row h0
    cases e
  have hv:vs=[]:=List.eq_nil_of_length_eq_zero (by omega)
  subst hv
  clear h hl hn0
  simp only [Option.isNone_none] at hq
  go_enter Tryz.func69,Tryz.ntmps69
  go_wp2
  go_ret
  exact ⟨_,rfl,Own.nil _ _ _,Below.refl _ _⟩
 | some a =>
  simp only [Option.isNone_some] at hq
  have H:=zA h
  have HL:=zA hl
  clear h hl
  go_enter Tryz.func69,Tryz.ntmps69
  have c63:([]:List FrameV).length+n≤maxLen:=by unfold maxLen;simp;omega
  have c47:(([]:List FrameV).length+n)*96≤140737488355328:=by simp;omega
  have cB:w.heap.size≤(w.alloc (.cells #[] 156)).heap.size:=by simp
  have hb0:Below w.heap.size w (w.alloc (.cells #[] 156)):=(Below.refl _ _).alloc (Nat.le_refl _) _
  go_wp2_with (at_builtin;refine zY rfl (.tmp 5) (.tmp 6) 58 rfl w.heap.size 156 i0 _ 96 Tryz.underlying58 hi hz0 hz1 hz2 rfl (.slice (some ⟨w.heap.size,0,none⟩) 0 0) ([]:List FrameV) rfl (zBY w 156 w.heap.size (Nat.le_refl _) #[] 0 rfl (by decide) rfl) (some a) n cap vs rfl (H.out.alloc _) c63 c47 cB ?_;intro v1 w1 hown1 hgr1 hat1)
  go_ret
  refine ⟨v1,rfl,hown1,hb0.grown hgr1 (by simp) ?_⟩
  intro k hk
  simp [Value.ownBlock] at hk
  omega
theorem zNs (ao:Option Addr) (n cap:Nat) (vs:List Int) (w:World) (h:Sl w ao n vs) (hn:n*8≤140737488355328) :
  Calls Tryz.prog 65 #[.slice ao n cap] w (zGF w 3 vs):=by
 obtain ⟨i0,hi,hz0,hz1,hz2⟩:=info_parts zFJ
 have hl:=h.len
 have hq:∀ W,(binOp .eql 36 (.slice ao n cap) (.slice none 0 0)).run Tryz.prog W=.ok (.bool ao.isNone) W:=fun W=>Lib.run_eql_slice_nil W _ _ ao n cap 0 0 Tryz.underlying36
 cases ao with
 | none =>
  have hn0:n=0:=by
   rcases Nat.eq_zero_or_pos n with h0 | h0
   ·exact h0
   ·obtain ⟨a,e,_⟩:=h.row h0
    cases e
  have hv:vs=[]:=List.eq_nil_of_length_eq_zero (by omega)
  subst hv
  clear h hl hn0
  simp only [Option.isNone_none] at hq
  go_enter Tryz.func65,Tryz.ntmps65
  go_wp2
  go_ret
  exact ⟨_,rfl,Own.nil _ _ _,Below.refl _ _⟩
 | some a =>
  simp only [Option.isNone_some] at hq
  have H:=zA h
  have HL:=zA hl
  clear h hl
  go_enter Tryz.func65,Tryz.ntmps65
  have c63:([]:List Int).length+n≤maxLen:=by unfold maxLen;simp;omega
  have c47:(([]:List Int).length+n)*8≤140737488355328:=by simp;omega
  have cB:w.heap.size≤(w.alloc (.cells #[] 3)).heap.size:=by simp
  have hb0:Below w.heap.size w (w.alloc (.cells #[] 3)):=(Below.refl _ _).alloc (Nat.le_refl _) _
  go_wp2_with (at_builtin;refine zY rfl (.tmp 5) (.tmp 6) 36 rfl w.heap.size 3 i0 _ 8 Tryz.underlying36 hi hz0 hz1 hz2 rfl (.slice (some ⟨w.heap.size,0,none⟩) 0 0) ([]:List Int) rfl (zBY w 3 w.heap.size (Nat.le_refl _) #[] 0 rfl (by decide) rfl) (some a) n cap vs rfl (H.out.alloc _) c63 c47 cB ?_;intro v1 w1 hown1 hgr1 hat1)
  go_ret
  refine ⟨v1,rfl,hown1,hb0.grown hgr1 (by simp) ?_⟩
  intro k hk
  simp [Value.ownBlock] at hk
  omega
theorem zQM {xs ys:List Int} (h:xs.length=ys.length):(xs=ys)↔∀ i,i < xs.length→xs[i]?=ys[i]? :=
 ⟨fun e i _=>by rw [e],fun h1=>List.ext_getElem? fun i=>by
  rcases Nat.lt_or_ge i xs.length with h2 | h2
  ·exact h1 i h2
  ·rw [List.getElem?_eq_none h2,List.getElem?_eq_none (by omega)]⟩
theorem zQ5 (ao bo:Option Addr) (n m c d:Nat) (xs ys:List Int) (w:World) (hx:Sl w ao n xs) (hy:Sl w bo m ys) :
  Calls Tryz.prog 36 #[.slice ao n c,.slice bo m d] w fun e w'=>e=.returned (.bool (decide (xs=ys)))∧Below w.heap.size w w':=by
 have hlx:=hx.len
 have hly:=hy.len
 have hm:=hx.max
 unfold maxLen at hm
 by_cases hnm:n=m
 ·subst hnm
  have g1:((n:Int) != (n:Int))=false:=by simp
  have hu:=zQM (xs:=xs) (ys:=ys) (by omega)
  have HU:=zA hu
  have HLX:=zA hlx
  have HLY:=zA hly
  have HX:=zA hx
  have HY:=zA hy
  clear hu hlx hly hx hy
  go_enter Tryz.func36,Tryz.ntmps36
  go_wp2
  go_loopw [14] (fun i wr=>∃ k:Nat,k≤n∧i=.int .i64 k∧(∀ i,i < k→xs[i]?=ys[i]?)∧Below w.heap.size w wr) (fun i _=>n - (intOf i).toNat)
  case atStart=>exact ⟨0,Nat.zero_le _,rfl,fun i hi=>absurd hi (by omega),Below.refl _ _⟩
  case round =>
   obtain ⟨k,hk,rfl,hf,hb⟩:=hrel
   have HF:=zA hf
   have HB:=zA hb
   clear hf hb
   by_cases hlt:k < n
   ·have q0:(0:Int)≤k:=by omega
    have q1:(k:Int) < n:=by omega
    obtain ⟨x,hgx⟩:∃ x,xs[k]?=some x:=⟨_,List.getElem?_eq_getElem (by have:=HLX.out;omega)⟩
    obtain ⟨y,hgy⟩:∃ y,ys[k]?=some y:=⟨_,List.getElem?_eq_getElem (by have:=HLY.out;omega)⟩
    obtain ⟨ad,rfl,bx,e0⟩:=zCM (HX.out.below HB.out) hlt hgx
    obtain ⟨bd,rfl,by_,f0⟩:=zCM (HY.out.below HB.out) hlt hgy
    have GX:=zA hgx
    have GY:=zA hgy
    clear hgx hgy
    by_cases hxy:x=y
    ·subst hxy
     have q:(x != x)=false:=by simp
     go_wp2
     go_roundw
     case rel =>
      refine ⟨k+1,by omega,by go_num,?_,?_⟩
      ·intro i hi
       rcases Nat.lt_or_ge i k with h | h
       ·exact HF.out i h
       ·obtain rfl:i=k:=by omega
        rw [GX.out,GY.out]
      ·repeat (first | exact HB.out | with_reducible refine zG ?_ _ | with_reducible refine zAn ?_ _ | with_reducible refine zJ ?_ | with_reducible refine zK ?_ (by have:=HB.out.size;first | omega | (simp;omega)) _)
     case measure=>simp [intOf];omega
    ·have hne:xs≠ys:=by
      intro h
      rw [HU.out] at h
      have:=h k (by have:=HLX.out;omega)
      rw [GX.out,GY.out] at this
      injection this with this
      exact hxy this
     have q:(x != y)=true:=by simp [hxy]
     have HNE:=zA hne
     clear hne hxy
     go_wp2
     go_ret
     refine ⟨zB9 (by simp [HNE.out]),?_⟩
     repeat (first | exact HB.out | with_reducible refine zG ?_ _ | with_reducible refine zAn ?_ _ | with_reducible refine zJ ?_ | with_reducible refine zK ?_ (by have:=HB.out.size;first | omega | (simp;omega)) _)
   ·go_wp2
    go_ret
    refine ⟨zB9 ?_,HB.out⟩
    symm
    rw [decide_eq_true_iff,HU.out]
    intro i hi
    exact HF.out i (by have:=HLX.out;omega)
 ·have hne:xs≠ys:=by
   rintro rfl
   omega
  have g1:((n:Int) != (m:Int))=true:=by simp;omega
  have g2:((n:Int)==(m:Int))=false:=by simp;omega
  have HNE:=zA hne
  clear hne hnm hlx hly hx hy
  go_enter Tryz.func36,Tryz.ntmps36
  go_wp2
  go_ret
  exact ⟨zB9 (by simp [HNE.out]),Below.refl _ _⟩
end
section
open Go.RowKit
theorem zOm:(Tryz.prog.info? 56).map (fun i=>(i.zero,i.size,i.bytes))=some (some (.agg #[.bool false,.int .i64 0,.int .i64 0,.int .i64 0,.int .i64 0,.int .i64 0,.int .i64 0]),7,56):=by kernel_rfl
theorem zDz (ao:Option Addr) (n cap:Nat) (vs:List ValV) (w:World) (h:Sl w ao n vs) (hn:n*56≤140737488355328) :
  Calls Tryz.prog 32 #[.slice ao n cap] w (zGF w 56 vs):=by
 obtain ⟨i0,hi,hz0,hz1,hz2⟩:=info_parts zOm
 have hl:=h.len
 have hq:∀ W,(binOp .eql 24 (.slice ao n cap) (.slice none 0 0)).run Tryz.prog W=.ok (.bool ao.isNone) W:=fun W=>Lib.run_eql_slice_nil W _ _ ao n cap 0 0 Tryz.underlying24
 cases ao with
 | none =>
  have hn0:n=0:=by
   rcases Nat.eq_zero_or_pos n with h0 | h0
   ·exact h0
   ·obtain ⟨a,e,_⟩:=h.row h0
    cases e
  have hv:vs=[]:=List.eq_nil_of_length_eq_zero (by omega)
  subst hv
  clear h hl hn0
  simp only [Option.isNone_none] at hq
  go_enter Tryz.func32,Tryz.ntmps32
  go_wp2
  go_ret
  exact ⟨_,rfl,Own.nil _ _ _,Below.refl _ _⟩
 | some a =>
  simp only [Option.isNone_some] at hq
  have H:=zA h
  have HL:=zA hl
  clear h hl
  go_enter Tryz.func32,Tryz.ntmps32
  have c63:([]:List ValV).length+n≤maxLen:=by unfold maxLen;simp;omega
  have c47:(([]:List ValV).length+n)*56≤140737488355328:=by simp;omega
  have cB:w.heap.size≤(w.alloc (.cells #[] 56)).heap.size:=by simp
  have hb0:Below w.heap.size w (w.alloc (.cells #[] 56)):=(Below.refl _ _).alloc (Nat.le_refl _) _
  go_wp2_with (at_builtin;refine zY rfl (.tmp 5) (.tmp 6) 24 rfl w.heap.size 56 i0 _ 56 Tryz.underlying24 hi hz0 hz1 hz2 rfl (.slice (some ⟨w.heap.size,0,none⟩) 0 0) ([]:List ValV) rfl (zBY w 56 w.heap.size (Nat.le_refl _) #[] 0 rfl (by decide) rfl) (some a) n cap vs rfl (H.out.alloc _) c63 c47 cB ?_;intro v1 w1 hown1 hgr1 hat1)
  go_ret
  refine ⟨v1,rfl,hown1,hb0.grown hgr1 (by simp) ?_⟩
  intro k hk
  simp [Value.ownBlock] at hk
  omega
end
section
open Go.RowKit
theorem zKE (x y:ValV) (W:World):(binOp .neq 56 x.val y.val).run Tryz.prog W=.ok (.bool (!decide (x=y))) W:=by
 obtain ⟨is,n,p,b,l,a,s⟩:=x
 obtain ⟨is2,n2,p2,b2,l2,a2,s2⟩:=y
 simp only [ValV.val,ValV.mk.injEq,KeyV.mk.injEq]
 rw [run_neq_struct]
 go_simp
 repeat' split
 all_goals simp [*]
theorem zKF (x y:ValV) (W:World):(binOp .eql 56 x.val y.val).run Tryz.prog W=.ok (.bool (decide (x=y))) W:=by
 obtain ⟨is,n,p,b,l,a,s⟩:=x
 obtain ⟨is2,n2,p2,b2,l2,a2,s2⟩:=y
 simp only [ValV.val,ValV.mk.injEq,KeyV.mk.injEq]
 rw [run_eql_struct]
 go_simp
 repeat' split
 all_goals simp [*]
theorem zKz {w:World} {ao:Option Addr} {n:Nat} {vs:List ValV} (h:Sl w ao n vs) {i:Nat} (hi:i < n) {x:ValV} (hx:vs[i]?=some x):∃ a,ao=some a∧a.block < w.heap.size∧zGE w (a.add (i*7)) x:=by
 obtain ⟨a,e,h1,h2⟩:=zEy h hi
 have:vs.getD i zeroV=x:=by simp [List.getD,hx]
 exact ⟨a,e,h1,this▸h2⟩
theorem zQL {xs ys:List ValV} (h:xs.length=ys.length):(xs=ys)↔∀ i,i < xs.length→xs[i]?=ys[i]? :=
 ⟨fun e i _=>by rw [e],fun h1=>List.ext_getElem? fun i=>by
  rcases Nat.lt_or_ge i xs.length with h2 | h2
  ·exact h1 i h2
  ·rw [List.getElem?_eq_none h2,List.getElem?_eq_none (by omega)]⟩
theorem zJm (ao bo:Option Addr) (n m c d:Nat) (xs ys:List ValV) (w:World) (hx:Sl w ao n xs) (hy:Sl w bo m ys) :
  Calls Tryz.prog 22 #[.slice ao n c,.slice bo m d] w fun e w'=>e=.returned (.bool (decide (xs=ys)))∧Below w.heap.size w w':=by
 have hlx:=hx.len
 have hly:=hy.len
 have hm:=hx.max
 unfold maxLen at hm
 by_cases hnm:n=m
 ·subst hnm
  have g1:((n:Int) != (n:Int))=false:=by simp
  have hu:=zQL (xs:=xs) (ys:=ys) (by omega)
  have HU:=zA hu
  have HLX:=zA hlx
  have HLY:=zA hly
  have HX:=zA hx
  have HY:=zA hy
  clear hu hlx hly hx hy
  go_enter Tryz.func22,Tryz.ntmps22
  go_wp2
  go_loopw [14] (fun i wr=>∃ k:Nat,k≤n∧i=.int .i64 k∧(∀ i,i < k→xs[i]?=ys[i]?)∧Below w.heap.size w wr) (fun i _=>n - (intOf i).toNat)
  case atStart=>exact ⟨0,Nat.zero_le _,rfl,fun i hi=>absurd hi (by omega),Below.refl _ _⟩
  case round =>
   obtain ⟨k,hk,rfl,hf,hb⟩:=hrel
   have HF:=zA hf
   have HB:=zA hb
   clear hf hb
   by_cases hlt:k < n
   ·have q0:(0:Int)≤k:=by omega
    have q1:(k:Int) < n:=by omega
    obtain ⟨x,hgx⟩:∃ x,xs[k]?=some x:=⟨_,List.getElem?_eq_getElem (by have:=HLX.out;omega)⟩
    obtain ⟨y,hgy⟩:∃ y,ys[k]?=some y:=⟨_,List.getElem?_eq_getElem (by have:=HLY.out;omega)⟩
    obtain ⟨ad,rfl,hab,e0,e1,e2,e3,e4,e5,e6⟩:=zKz (HX.out.below HB.out) hlt hgx
    obtain ⟨bd,rfl,hbb,f0,f1,f2,f3,f4,f5,f6⟩:=zKz (HY.out.below HB.out) hlt hgy
    have bx:(ad.add (k*7)).block < wr.heap.size:=by rw [zBL];exact hab
    have by_:(bd.add (k*7)).block < wr.heap.size:=by rw [zBL];exact hbb
    have GX:=zA hgx
    have GY:=zA hgy
    clear hgx hgy
    have q:=fun W=>zKE x y W
    by_cases hxy:x=y
    ·subst hxy
     simp only [decide_true,Bool.not_true] at q
     obtain ⟨xi,xn,xp,xb,xl,xa,xs_⟩:=x
     simp only [ValV.val] at *
     go_wp2
     go_quiet (fail)
     go_wp2
     go_roundw
     case rel =>
      refine ⟨k+1,by omega,by go_num,?_,?_⟩
      ·intro i hi
       rcases Nat.lt_or_ge i k with h | h
       ·exact HF.out i h
       ·obtain rfl:i=k:=by omega
        rw [GX.out,GY.out]
      ·repeat (first | exact HB.out | with_reducible refine zG ?_ _ | with_reducible refine zAn ?_ _ | with_reducible refine zJ ?_ | with_reducible refine zK ?_ (by have:=HB.out.size;first | omega | (simp;omega)) _)
     case measure=>simp [intOf];omega
    ·have hne:xs≠ys:=by
      intro h
      rw [HU.out] at h
      have:=h k (by have:=HLX.out;omega)
      rw [GX.out,GY.out] at this
      injection this with this
      exact hxy this
     simp only [hxy,decide_false,Bool.not_false] at q
     obtain ⟨xi,xn,xp,xb,xl,xa,xs_⟩:=x
     obtain ⟨yi,yn,yp,yb,yl,ya,ys_⟩:=y
     simp only [ValV.val] at *
     have HNE:=zA hne
     clear hne hxy
     go_wp2
     go_quiet (fail)
     go_wp2
     go_ret
     refine ⟨zB9 (by simp [HNE.out]),?_⟩
     repeat (first | exact HB.out | with_reducible refine zG ?_ _ | with_reducible refine zAn ?_ _ | with_reducible refine zJ ?_ | with_reducible refine zK ?_ (by have:=HB.out.size;first | omega | (simp;omega)) _)
   ·go_wp2
    go_ret
    refine ⟨zB9 ?_,HB.out⟩
    symm
    rw [decide_eq_true_iff,HU.out]
    intro i hi
    exact HF.out i (by have:=HLX.out;omega)
 ·have hne:xs≠ys:=by
   rintro rfl
   omega
  have g1:((n:Int) != (m:Int))=true:=by simp;omega
  have g2:((n:Int)==(m:Int))=false:=by simp;omega
  have HNE:=zA hne
  clear hne hnm hlx hly hx hy
  go_enter Tryz.func22,Tryz.ntmps22
  go_wp2
  go_ret
  exact ⟨zB9 (by simp [HNE.out]),Below.refl _ _⟩
end
end Go.Proofs.YtlpejagkadalbaaGreatDoor
