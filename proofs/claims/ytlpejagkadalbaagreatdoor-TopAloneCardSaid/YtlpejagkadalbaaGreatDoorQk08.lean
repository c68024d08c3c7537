import Derived.Test.YtlpejagkadalbaaGreatDoorQk04
import Derived.Test.YtlpejagkadalbaaGreatDoorSplitMath
import Derived.Test.YtlpejagkadalbaaGreatDoorQk07
import Derived.Deep.DeepCutAuto
set_option maxHeartbeats 40000000
set_option maxRecDepth 100000
set_option linter.unusedVariables false
set_option linter.unusedSimpArgs false
namespace Go.Proofs.YtlpejagkadalbaaGreatDoor
section
open Go Go.RowKit Go.Shelf
def zB6 (c:Nat):Bool:=(decide (c < 97)||decide (122 < c))&&(decide (c < 48)||decide (57 < c))
def zHQ (s:ByteArray):Nat:=if h:0 < s.size then (s[0]'h).toNat else 0
def zR (s:ByteArray):Bool:=decide (s.size≠0)&&decide (s.size≤12)&&decide (97≤zHQ s) && !decide (0≤Lib.idxFunc zB6 true s)
theorem zM9 (w:World):PredAt Tryz.prog 75 #[] encR zB6 w:=by
 intro W x hb
 unfold FnGives
 show Calls Tryz.prog 75 #[.int .i32 (x:Int)] W _
 by_cases h1:x < 97
 ·have q1:(x:Int) < 97:=by omega
  by_cases h3:x < 48
  ·have q3:(x:Int) < 48:=by omega
   have e:zB6 x=true:=by unfold zB6;simp;omega
   rw [e]
   go_enter Tryz.func75,Tryz.ntmps75
   go_wp2
   go_ret
   exact ⟨rfl,0,rfl⟩
  ·have q3:¬((x:Int) < 48):=by omega
   by_cases h4:57 < x
   ·have q4:(57:Int) < x:=by omega
    have e:zB6 x=true:=by unfold zB6;simp;omega
    rw [e]
    go_enter Tryz.func75,Tryz.ntmps75
    go_wp2
    go_ret
    exact ⟨rfl,0,rfl⟩
   ·have q4:¬((57:Int) < x):=by omega
    have e:zB6 x=false:=by unfold zB6;simp;omega
    rw [e]
    go_enter Tryz.func75,Tryz.ntmps75
    go_wp2
    go_ret
    exact ⟨rfl,0,rfl⟩
 ·have q1:¬((x:Int) < 97):=by omega
  by_cases h2:122 < x
  ·have q2:(122:Int) < x:=by omega
   have q3:¬((x:Int) < 48):=by omega
   have q4:(57:Int) < x:=by omega
   have e:zB6 x=true:=by unfold zB6;simp;omega
   rw [e]
   go_enter Tryz.func75,Tryz.ntmps75
   go_wp2
   go_ret
   exact ⟨rfl,0,rfl⟩
  ·have q2:¬((122:Int) < x):=by omega
   have e:zB6 x=false:=by unfold zB6;simp;omega
   rw [e]
   go_enter Tryz.func75,Tryz.ntmps75
   go_wp2
   go_ret
   exact ⟨rfl,0,rfl⟩
theorem zBd (s:ByteArray) (hs:s.size≤9223372036854775807) (w:World):Calls Tryz.prog 46 #[.string s] w fun e w'=>e=.returned (.bool (zR s))∧Below w.heap.size w w':=by
 have cf:=fun W=>Tryz.strings_ContainsFunc 75 #[] (fun args w=>enters_of Tryz.func75 (by kernel_rfl) rfl args w) zB6 s W (zM9 W)
 by_cases h0:s.size=0
 ·have e0:s=ByteArray.empty:=by
   obtain ⟨⟨l⟩⟩:=s
   have:l.length=0:=h0
   rw [List.eq_nil_of_length_eq_zero this];rfl
  subst e0
  have e:zR ByteArray.empty=false:=by unfold zR;simp
  rw [e]
  clear cf
  go_enter Tryz.func46,Tryz.ntmps46
  go_wp2
  go_ret
  exact ⟨rfl,Below.refl _ _⟩
 ·have g0:s.toList.isEmpty=false:=by
   rw [ByteArray.toList_eq]
   cases h:s.data.toList with
   | nil=>exact absurd (by rw [←ByteArray.size_data,←Array.length_toList,h];rfl) h0
   | cons a l=>rfl
  have CF:=zA cf
  by_cases h1:12 < s.size
  ·have q1:(12:Int) < s.size:=by omega
   have e:zR s=false:=by unfold zR;simp;omega
   rw [e]
   clear cf
   go_enter Tryz.func46,Tryz.ntmps46
   go_wp2
   go_ret
   exact ⟨rfl,Below.refl _ _⟩
  ·have q1:¬((12:Int) < s.size):=by omega
   have q0:(0:Int) < s.size:=by omega
   have hp:0 < s.size:=by omega
   have hb0:zHQ s=(s[0]'hp).toNat:=by unfold zHQ;rw [dif_pos hp]
   obtain ⟨C,hC⟩:∃ C,decide (0≤Lib.idxFunc zB6 true s)=C:=⟨_,rfl⟩
   rw [hC] at CF
   by_cases h2:zHQ s < 97
   ·have q2:(((s[0]'hp).toNat:Nat):Int) < 97:=by omega
    have e:zR s=false:=by unfold zR;simp;omega
    rw [e]
    clear cf CF hC
    go_enter Tryz.func46,Tryz.ntmps46
    go_wp2
    go_ret
    exact ⟨rfl,Below.refl _ _⟩
   ·have q2:¬((((s[0]'hp).toNat:Nat):Int) < 97):=by omega
    have e:zR s = !C:=by
     unfold zR
     rw [hC,decide_eq_true h0,decide_eq_true (show s.size≤12 by omega),decide_eq_true (show 97≤zHQ s by omega)]
     simp
    rw [e]
    clear cf hC
    go_enter Tryz.func46,Tryz.ntmps46
    go_wp2_with (go_at_call 74;((with_reducible refine (CF.out _).mono ?_);rintro e w' ⟨rfl,hb⟩))
    go_ret
    exact ⟨rfl,hb⟩
end
section
open Go.RowKit
theorem zA7 {P:Program} {ops:Array Oper} {o:Oper} {a:Act} {w:World} {K:Act→World→Prop} {Q:Exit→Act→World→Prop} {E:Prop}
  (hg:o.guard=none) (d x:Operand) (dT sT:TypeId) (hop:o.op=Op.call {callee:=Callee.builtin Builtin.append,args:=#[d,x],argTypes:=#[dT,sT]})
  (v u:Value) (hd:a.eval d=v) (hx:a.eval x=u) {v':Value} {w':World} (hr:(Builtin.append_ #[dT,sT] o.type #[v,u]).run P w=.ok v' w') (hK:K (a.put o.dst v') w') :
  if Region.wanted o (yielded ops a.tmps)=true then Oper.wp P o a w K Q else E:=by
 have hw:Region.wanted o (yielded ops a.tmps)=true:=by simp [Region.wanted,hg]
 rw [if_pos hw]
 unfold Oper.wp
 simp [execOp,hop,resolve,invoke,builtin,hd,hx,hr,Result.andThen]
 exact hK
end
section
open Go.RowKit
def zDb (wd:List UInt8):Int :=
 match (List.range 23).find? (fun k=>decide (zAC k=wd)) with
 | some k=>(k:Int)
 | none => -1
def zF4 (has:Bool) (l:List (List UInt8)):List (List UInt8)×Int:=if has=true∧1 < l.length then (l.tail,atoiV (Lib.trimPrefix (l.tail.headD []) [114])) else (l,0)
def zD7 (op:Int):Bool:=opB op&&shA op
def zD6 (op:Int):Bool:=opB op&&shB op
def zD5 (op:Int):Bool:=opB op&&(shC op != 0)
def zFi (s:List UInt8):InstV :=
 let l:=splitC 32 s
 let op:=zDb (l.headD [])
 let p:=zF4 (zD7 op) l
 let q:=zF4 (zD6 op) p.1
 let r:=zF4 (zD5 op) q.1
 ⟨op,p.2,q.2,r.2⟩
def zAM (s:List UInt8):InstV×Int:=if zAL (zFi s)=true∧zEB (zFi s)=s then (zFi s,0) else (zC8,3)
theorem zNK:∀ k,k < 23→zDb (zAC k)=k:=by decide
theorem zOX {s:List UInt8} {i:InstV} (h:zAM s=(i,0)):zAL i=true∧zEB i=s:=by
 unfold zAM at h
 split at h
 ·next h1 =>
  injection h with h _
  rw [←h];exact h1
 ·injection h with _ h;cases h
end
section
open Go.RowKit
end
section
open Go Go.RowKit Go.Shelf
theorem zH4 {n:String} {vs:Array Value} {w w':World} (h:w.var? Tryz.prog n=some vs) (hb:Below w.heap.size w w'):w'.var? Tryz.prog n=some vs:=by
 unfold World.var? at h ⊢
 cases hg:Tryz.prog.globalNamed n with
 | none=>rw [hg] at h;cases h
 | some g =>
  rw [hg] at h
  simp only [Option.bind_some] at h ⊢
  have hlt:g < w.heap.size:=by
   rcases Nat.lt_or_ge g w.heap.size with hlt | hge
   ·exact hlt
   ·rw [Array.getElem?_eq_none hge] at h;cases h
  rw [hb.block g hlt]
  exact h
structure PEnv (w:World):Prop where
 asc:Tab w
 ten:Tab10 w
 mx:∃ m:Int,w.cell? ⟨0,0,none⟩=some (.int .i64 m)
 syn:∃ tp p,w.var? Tryz.prog "strconv.ErrSyntax" = some #[.iface tp p]
 rng:∃ tp p,w.var? Tryz.prog "strconv.ErrRange" = some #[.iface tp p]
theorem PEnv.below {w w':World} (h:PEnv w) (hb:Below w.heap.size w w'):PEnv w':=by
 obtain ⟨m,hm⟩:=h.mx
 obtain ⟨t1,p1,h1⟩:=h.syn
 obtain ⟨t2,p2,h2⟩:=h.rng
 exact ⟨h.asc.below hb,h.ten.below hb,⟨m,(hb.cell (World.block_lt_of_cell? w _ hm)).trans hm⟩,⟨t1,p1,zH4 h1 hb⟩,⟨t2,p2,zH4 h2 hb⟩⟩
theorem zGt (s:ByteArray) (w:World) (h:PEnv w) (hs:s.size≤67108864):Calls Tryz.prog 130 #[.string s] w fun e w'=>∃ ev,e=.returned (.tuple #[.int .i64 (atoiV s.data.toList),ev])∧Below w.heap.size w w':=by
 unfold atoiV
 cases ha:Lib.atoiAll s.data.toList with
 | ok v =>
  refine (Tryz.strconv_Atoi_ok s (by omega) v ha w).mono ?_
  rintro e w' ⟨rfl,rfl | ⟨t,rfl⟩⟩
  ·exact ⟨_,rfl,Below.refl _ _⟩
  ·exact ⟨_,rfl,Lib.bytesWorld_below w _ _⟩
 | range =>
  obtain ⟨tp,p,hv⟩:=h.rng
  refine (Tryz.strconv_Atoi_range_var s (by omega) ha tp p w hv).mono ?_
  rintro e w' ⟨N,rfl,_,_,hb⟩
  exact ⟨_,rfl,hb⟩
 | _ =>
  obtain ⟨tp,p,hv⟩:=h.syn
  refine (Tryz.strconv_Atoi_syntax_var s (by omega) ha tp p w hv).mono ?_
  rintro e w' ⟨N,rfl,_,_,hb⟩
  exact ⟨_,rfl,hb⟩
theorem zOn:(Tryz.prog.info? 9).map (fun i=>(i.zero,i.size,i.bytes))=some (some (.string ByteArray.empty),1,16):=by kernel_rfl
theorem zDf (x:ByteArray):(⟨x.data.toList.toArray⟩:ByteArray)=x:=ByteArray.ext (by simp)
theorem zH8 (s:ByteArray) (c:UInt8) (w:World) (h:PEnv w) (hs:s.size≤67108864):Calls Tryz.prog 86 #[.string s,.string ⟨#[c]⟩] w fun e w' =>
  e=.returned (.slice (some ⟨w.heap.size,0,none⟩) (splitC c s.data.toList).length (splitC c s.data.toList).length)∧(∀ k x,(splitC c s.data.toList)[k]?=some x→w'.cell? ⟨w.heap.size,k,none⟩=some (.string ⟨x.toArray⟩))∧Below w.heap.size w w':=by
 obtain ⟨m,hm⟩:=h.mx
 have h1:1≤(⟨#[c]⟩:ByteArray).size:=Nat.le_refl _
 have hl:Lib.countB s ⟨#[c]⟩+1=(splitC c s.data.toList).length:=by
  rw [←splitB_one,List.length_map,Lib.splitB_all ⟨#[c]⟩ h1 0 _ s rfl]
 refine (Any.strings_Split Tryz.laysM146.ton146 zOn s ⟨#[c]⟩ m w (by omega) hm h1).mono ?_
 rintro e w' ⟨rfl,rfl⟩
 refine ⟨by rw [hl],fun k x hx=>?_,zG (Below.refl _ _) _⟩
 rw [←splitB_one,List.getElem?_map] at hx
 obtain ⟨y,hy,rfl⟩:=Option.map_eq_some_iff.1 hx
 refine (Bk.cell (zM w _ _) k).trans ?_
 rw [List.getElem?_toArray,List.getElem?_map,hy]
 simp only [Option.map_some]
theorem name_eq' {x y:ByteArray}:x.toList=y.toList↔x=y:=by
 rw [ByteArray.toList_eq,ByteArray.toList_eq];exact ⟨fun h=>Go.WideShapes.bytes_inj h,fun h=>by rw [h]⟩
theorem zEH (x y:ByteArray):(x.toList==y.toList)=decide (x.data.toList=y.data.toList):=by
 by_cases h:x=y
 ·subst h;simp
 ·have h1:(x.toList==y.toList)=false:=beq_eq_false_iff_ne.2 fun e=>h (name_eq'.1 e)
  rw [h1]
  symm
  rw [decide_eq_false_iff_not]
  exact fun e=>h (ByteArray.ext (Array.toList_inj.1 e))
theorem zLn {wd:List UInt8} {k:Nat} (hk:k < 23) (h:∀ j,j < k→zAC j≠wd) (e:zAC k=wd):zDb wd=k:=by
 have:=zNK k hk
 rw [e] at this
 exact this
theorem zNL {wd:List UInt8} (h:∀ j,j < 23→zAC j≠wd):zDb wd = -1:=by
 unfold zDb
 have:(List.range 23).find? (fun k=>decide (zAC k=wd))=none:=by
  rw [List.find?_eq_none]
  intro k hk
  simpa using h k (List.mem_range.1 hk)
 rw [this]
theorem zM3 (s:ByteArray) (w:World) (ht:Tab w):Calls Tryz.prog 165 #[.string s] w fun e w'=>e=.returned (.int .i64 (zDb s.data.toList))∧Below w.heap.size w w':=by
 have FW:=zA zAS
 have HT:=zA ht
 clear ht
 go_enter Tryz.func165,Tryz.ntmps165
 go_upto_region 2 with (go_at_call 168;((with_reducible refine (FW.out _ (by decide +kernel) _ HT.out).mono ?_);rintro e w1 ⟨rfl,hb1,hc1⟩;have HB1:=zA hb1;have HC1:=zA hc1;clear hb1 hc1))
 have hbL:w.heap.size < w1.heap.size:=World.block_lt_of_cell? w1 _ (HC1.out 0 (by decide))
 go_wp2
 go_loopw [7] (fun i wr=>∃ k:Nat,k≤23∧i=.int .i64 k∧(∀ j,j < k→zAC j≠s.data.toList)∧wr=w1) (fun i _=>23 - (intOf i).toNat)
 case atStart=>exact ⟨0,by omega,rfl,fun j hj=>by omega,rfl⟩
 case round =>
  obtain ⟨k,hk,rfl,hno,rfl⟩:=hrel
  have HNO:=zA hno
  clear hno
  by_cases hlt:k < 23
  ·have q0:(0:Int)≤k:=by omega
   have q1:(k:Int) < 23:=by omega
   have e0:=HC1.out k hlt
   generalize hx:(⟨(zAC k).toArray⟩:ByteArray)=x at e0
   have hxl:x.data.toList=zAC k:=by rw [←hx]
   by_cases he:zAC k=s.data.toList
   ·have f:(x.toList==s.toList)=true:=by rw [zEH,hxl];simp [he]
    have hlk:=zLn hlt HNO.out he
    have HLK:=zA hlk
    clear he hlk hxl hx
    go_wp2
    go_ret
    exact ⟨zBi HLK.out.symm,HB1.out⟩
   ·have f:(x.toList==s.toList)=false:=by rw [zEH,hxl];simp [he]
    have hn:∀ j,j < k+1→zAC j≠s.data.toList:=fun j hj=>by
     rcases Nat.lt_or_ge j k with h | h
     ·exact HNO.out j h
     ·obtain rfl:j=k:=by omega
      exact he
    have HN:=zA hn
    clear he hn hxl hx
    go_wp2
    go_roundw
    case rel=>exact ⟨k+1,by omega,by go_num,HN.out,by first | rfl | trivial⟩
    case measure=>simp [intOf];omega
  ·have q1:¬((k:Int) < 23):=by omega
   obtain rfl:k=23:=by omega
   have hlk:=zNL HNO.out
   have HLK:=zA hlk
   clear hlk
   go_wp2
   go_ret
   exact ⟨zBi HLK.out.symm,HB1.out⟩
end
section
open Go.RowKit
end
section
open Go.RowKit
def zmc:Array Value:=#[.bool false,.int .i64 0,.int .i64 0,.int .i64 0,.int .i64 0,.int .i64 0,.int .i64 0,.bool false,.int .i64 0,.int .i64 0,.int .i64 0,.int .i64 0,.int .i64 0,.int .i64 0,.bool false,.int .i64 0,.int .i64 0,.int .i64 0,.int .i64 0,.int .i64 0,.int .i64 0,.bool false,.int .i64 0,.int .i64 0,.int .i64 0,.int .i64 0,.int .i64 0,.int .i64 0,.bool false,.int .i64 0,.int .i64 0,.int .i64 0,.int .i64 0,.int .i64 0,.int .i64 0,.bool false,.int .i64 0,.int .i64 0,.int .i64 0,.int .i64 0,.int .i64 0,.int .i64 0,.bool false,.int .i64 0,.int .i64 0,.int .i64 0,.int .i64 0,.int .i64 0,.int .i64 0,.bool false,.int .i64 0,.int .i64 0,.int .i64 0,.int .i64 0,.int .i64 0,.int .i64 0,.int .i64 0,.int .i64 0,.int .i64 0,.int .i64 0,.int .i64 0,.slice none 0 0,.slice none 0 0,.slice none 0 0]
def zPO:List ValV:=List.replicate 8 zeroV
theorem zQk:mcs zPO zeroK (.slice none 0 0) (.slice none 0 0) (.slice none 0 0)=zmc:=rfl
theorem zNI {R:List ValV} {c:KeyV} {a b d:Value} (h:R.length=8) (x:Value):(mcs R c a b d).setIfInBounds 61 x=mcs R c x b d:=by
 unfold mcs
 rw [zC,show 61=(cls R).length+5 by rw [zBI h],List.set_append_right _ _ (by omega),Nat.add_sub_cancel_left]
 rfl
theorem zFn {R:List ValV} {c:KeyV} {a b d:Value} (h:R.length=8) (x:Value):(mcs R c a b d).setIfInBounds 62 x=mcs R c a x d:=by
 unfold mcs
 rw [zC,show 62=(cls R).length+6 by rw [zBI h],List.set_append_right _ _ (by omega),Nat.add_sub_cancel_left]
 rfl
theorem zIN {R:List ValV} {c:KeyV} {a b d:Value} (h:R.length=8) (x:Value):(mcs R c a b d).setIfInBounds 63 x=mcs R c a b x:=by
 unfold mcs
 rw [zC,show 63=(cls R).length+7 by rw [zBI h],List.set_append_right _ _ (by omega),Nat.add_sub_cancel_left]
 rfl
def zMU (w:World) (R:List ValV) (c:KeyV) (mem:List ValV) (stk:List FrameV) (out:List Int) (e:Ending) (w':World):Prop :=
 ∃ vm vs vo,e=.returned (.agg (mcs R c vm vs vo))∧Own w' w.heap.size 56 vm mem∧Own w' w.heap.size 156 vs stk∧Own w' w.heap.size 3 vo out∧Below w.heap.size w w'
def zN4 (w:World) (R:List ValV) (c:KeyV) (mem:List ValV) (stk:List FrameV) (out:List Int) (W:World):Prop :=
 ∃ vm vs vo,Bk W w.heap.size 60 (mcs R c vm vs vo)∧Bk W (w.heap.size+1) 60 zmc∧Own W w.heap.size 56 vm mem∧Own W w.heap.size 156 vs stk∧Own W w.heap.size 3 vo out∧Below w.heap.size w W
theorem zCl {α:Type} [El α] {w:World} {base m:Nat} {T:TypeId} {v:Value} {xs:List α} (h:Own w base T v xs) {p:Addr} (hp:p.block < base) (hb:m≤base) (u:Value):Own (w.setCell p u) m T v xs :=
 (show Own (w.setCell p u) base T v xs from ownsRow_setCell_below h hp u).mono hb
theorem zBn {v:Value} {w:World} {base:Nat} {T:TypeId} {α:Type} [El α] {xs:List α} (h:Own w base T v xs):v.oneCell'=true:=by
 obtain ⟨a,c,rfl,_⟩:=h.sl
 rfl
theorem zDk {R:List ValV} {c:KeyV} {ms ss os:Value} (h1:ms.oneCell'=true) (h2:ss.oneCell'=true) (h3:os.oneCell'=true):(mcs R c ms ss os).all (·.oneCell')=true:=by
 rw [Array.all_eq_true']
 intro u hu
 unfold mcs at hu
 rw [List.mem_toArray,List.mem_append] at hu
 rcases hu with hu | hu
 ·exact zGX R u hu
 ·simp at hu
  rcases hu with rfl | rfl | rfl | rfl | rfl | rfl | rfl | rfl
  all_goals first | rfl | assumption
theorem zDW {w:World} {g:Nat} {T:TypeId} {cs:Array Value} (h:Bk w g T cs) (ds:Array Value):Bk (w.setRow g ds) g T ds:=setRow_heap w g cs ds T (0,0) h
theorem zDc {a b:World} (h:Below a.heap.size a b) {g:Nat} (hg:a.heap.size≤g) (cs:Array Value):Below a.heap.size a (b.setRow g cs):=below_setRow h hg cs
theorem zAi {α:Type} [El α] {w:World} {base:Nat} {T:TypeId} {v:Value} {xs:List α} (h:Own w base T v xs) {g:Nat} {T':TypeId} {cs:Array Value} (hg:Bk w g T' cs) (hT:T'≠T) (ds:Array Value):Own (w.setRow g ds) base T v xs:=by
 have hgr:w.grownBy (w.setRow g ds) (some g):=⟨rfl,rfl,rfl,by simp,fun k _ hk=>setRow_other w g k ds (fun e=>hk (by rw [e]))⟩
 refine h.kept hgr ?_
 rcases h.2 with ⟨rfl,_⟩ | ⟨g',cap,cur,rfl,_,hg',_⟩
 ·exact .inl rfl
 ·right
  intro e
  simp [Value.ownBlock] at e
  subst e
  unfold Bk at hg
  rw [hg] at hg'
  injection hg' with hg'
  injection hg' with _ ht _
  exact hT ht
theorem zHP (R:List ValV) (c:KeyV) (mem:List ValV) (stk:List FrameV) (out:List Int) (ma sa oa:Option Addr) (mc sc oc:Nat) (w:World) (h8:R.length=8)
  (hm:Sl w ma mem.length mem) (hs:Sl w sa stk.length stk) (ho:Sl w oa out.length out) (zm:mem.length*56≤140737488355328) (zs:stk.length*96≤140737488355328) (zo:out.length*8≤140737488355328) :
  Calls Tryz.prog 41 #[.agg (mcs R c (.slice ma mem.length mc) (.slice sa stk.length sc) (.slice oa out.length oc))] w (zMU w R c mem stk out):=by
 have hsz:=zBc (c:=c) (ms:=.slice ma mem.length mc) (ss:=.slice sa stk.length sc) (os:=.slice oa out.length oc) h8
 have hhi:=zAh (c:=c) (ms:=.slice ma mem.length mc) (ss:=.slice sa stk.length sc) (os:=.slice oa out.length oc) h8
 obtain ⟨cs,hcs⟩:∃ cs,cs=mcs R c (.slice ma mem.length mc) (.slice sa stk.length sc) (.slice oa out.length oc):=⟨_,rfl⟩
 rw [←hcs] at hsz hhi ⊢
 obtain ⟨w1,hw1⟩:∃ w1,w1=(w.alloc (.cells cs 60)).alloc (.cells #[.bool false,.int .i64 0,.int .i64 0,.int .i64 0,.int .i64 0,.int .i64 0,.int .i64 0,.bool false,.int .i64 0,.int .i64 0,.int .i64 0,.int .i64 0,.int .i64 0,.int .i64 0,.bool false,.int .i64 0,.int .i64 0,.int .i64 0,.int .i64 0,.int .i64 0,.int .i64 0,.bool false,.int .i64 0,.int .i64 0,.int .i64 0,.int .i64 0,.int .i64 0,.int .i64 0,.bool false,.int .i64 0,.int .i64 0,.int .i64 0,.int .i64 0,.int .i64 0,.int .i64 0,.bool false,.int .i64 0,.int .i64 0,.int .i64 0,.int .i64 0,.int .i64 0,.int .i64 0,.bool false,.int .i64 0,.int .i64 0,.int .i64 0,.int .i64 0,.int .i64 0,.int .i64 0,.bool false,.int .i64 0,.int .i64 0,.int .i64 0,.int .i64 0,.int .i64 0,.int .i64 0,.int .i64 0,.int .i64 0,.int .i64 0,.int .i64 0,.int .i64 0,.slice none 0 0,.slice none 0 0,.slice none 0 0] 60):=⟨_,rfl⟩
 have hB:Bk w1 w.heap.size 60 cs:=by rw [hw1];exact zN _ (zM _ _ _)
 have hB2:Bk w1 (w.heap.size+1) 60 zmc:=by rw [hw1];exact zO _ _ (by simp)
 have h1w:Below w.heap.size w w1:=by rw [hw1];exact zG (zG (Below.refl _ _) _) _
 have q61:∀ x:Later w1,x.val.cell? ⟨w.heap.size,61,none⟩=some (.slice ma mem.length mc):=fun x=>((x.bk hB).cell _).trans (hhi 5)
 have q62:∀ x:Later w1,x.val.cell? ⟨w.heap.size,62,none⟩=some (.slice sa stk.length sc):=fun x=>((x.bk hB).cell _).trans (hhi 6)
 have q63:∀ x:Later w1,x.val.cell? ⟨w.heap.size,63,none⟩=some (.slice oa out.length oc):=fun x=>((x.bk hB).cell _).trans (hhi 7)
 have p61:w1.cell? ⟨w.heap.size,61,none⟩=some (.slice ma mem.length mc):=(hB.cell _).trans (hhi 5)
 have p62:w1.cell? ⟨w.heap.size,62,none⟩=some (.slice sa stk.length sc):=(hB.cell _).trans (hhi 6)
 have p63:w1.cell? ⟨w.heap.size,63,none⟩=some (.slice oa out.length oc):=(hB.cell _).trans (hhi 7)
 have qf:∀ (x:Later w1) j,x.val.frozen? ⟨w.heap.size,j,none⟩=false:=fun x j=>(x.bk hB).frozen j
 have qL:∀ x:Later w1,w.heap.size < x.val.heap.size:=fun x=>x.lt hB.lt
 have cv:∀ x:Later w1,Calls Tryz.prog 32 #[.slice ma mem.length mc] x.val fun e w'=>∃ (v:Value) (y:Later w1),e=.returned v∧w'=y.val∧Own y.val x.val.heap.size 56 v mem∧Below x.val.heap.size x.val y.val:=fun x =>
  (zDz ma _ mc mem x.val ((hm.below h1w).below x.ok) zm).mono fun e w' ⟨v,e1,e2,e3⟩=>⟨v,⟨w',zI x.ok e3⟩,e1,rfl,e2,e3⟩
 have cf:∀ x:Later w1,Calls Tryz.prog 69 #[.slice sa stk.length sc] x.val fun e w'=>∃ (v:Value) (y:Later w1),e=.returned v∧w'=y.val∧Own y.val x.val.heap.size 156 v stk∧Below x.val.heap.size x.val y.val:=fun x =>
  (zKs sa _ sc stk x.val ((hs.below h1w).below x.ok) zs).mono fun e w' ⟨v,e1,e2,e3⟩=>⟨v,⟨w',zI x.ok e3⟩,e1,rfl,e2,e3⟩
 have ci:∀ x:Later w1,Calls Tryz.prog 65 #[.slice oa out.length oc] x.val fun e w'=>∃ (v:Value) (y:Later w1),e=.returned v∧w'=y.val∧Own y.val x.val.heap.size 3 v out∧Below x.val.heap.size x.val y.val:=fun x =>
  (zNs oa _ oc out x.val ((ho.below h1w).below x.ok) zo).mono fun e w' ⟨v,e1,e2,e3⟩=>⟨v,⟨w',zI x.ok e3⟩,e1,rfl,e2,e3⟩
 have fin1:∀ (x0 y1 y2 y3:Later w1) {a1 a2 a3:Option Addr} {n1 n2 n3 c1 c2 c3:Nat},Own y1.val x0.val.heap.size 56 (.slice a1 n1 c1) mem→Own y2.val y1.val.heap.size 156 (.slice a2 n2 c2) stk→Own y3.val y2.val.heap.size 3 (.slice a3 n3 c3) out →
   Below x0.val.heap.size x0.val y1.val→Below y1.val.heap.size y1.val y2.val→Below y2.val.heap.size y2.val y3.val →
   zN4 w R c mem stk out (((y3.val.setCell ⟨w.heap.size,61,none⟩ (.slice a1 n1 c1)).setCell ⟨w.heap.size,62,none⟩ (.slice a2 n2 c2)).setCell ⟨w.heap.size,63,none⟩ (.slice a3 n3 c3)):=by
  intro x0 y1 y2 y3 a1 a2 a3 n1 n2 n3 c1 c2 c3 o1 o2 o3 b1 b2 b3
  have l0:=qL x0
  have l1:=qL y1
  have l2:=qL y2
  have hk:=y3.bk hB
  rw [hcs] at hk
  refine ⟨.slice a1 n1 c1,.slice a2 n2 c2,.slice a3 n3 c3,?_,zX _ (by omega) (zX _ (by omega) (zX _ (by omega) (y3.bk hB2))),?_,?_,?_,zK (zK (zK (zI h1w y3.ok) (by simp) _) (by simp) _) (by simp) _⟩
  ·have k1:=zAv 61 (.slice a1 n1 c1) hk
   rw [zNI h8] at k1
   have k2:=zAv 62 (.slice a2 n2 c2) k1
   rw [zFn h8] at k2
   have k3:=zAv 63 (.slice a3 n3 c3) k2
   rw [zIN h8] at k3
   exact k3
  ·exact (zCl (zCl (zCl ((o1.below b2).below b3) (m:=x0.val.heap.size) l0 (Nat.le_refl _) _) l0 (Nat.le_refl _) _) l0 (Nat.le_of_lt l0) _)
  ·exact (zCl (zCl (zCl (o2.below b3) (m:=y1.val.heap.size) l1 (Nat.le_refl _) _) l1 (Nat.le_refl _) _) l1 (Nat.le_of_lt l1) _)
  ·exact (zCl (zCl (zCl o3 (m:=y2.val.heap.size) l2 (Nat.le_refl _) _) l2 (Nat.le_refl _) _) l2 (Nat.le_of_lt l2) _)
 have FIN1:=zA fin1
 have HW1:=zA hw1
 have HSZ:=zA hsz
 have HCS:=zA hcs
 have HB:=zA hB
 have HB2:=zA hB2
 have H1W:=zA h1w
 have CV:=zA cv
 have CF:=zA cf
 have CI:=zA ci
 obtain ⟨x0,hx0⟩:∃ x:Later w1,w1.drew=x.val:=⟨⟨_,zJ (Below.refl _ _)⟩,rfl⟩
 have HX0:=zA hx0
 have H8:=zA h8
 clear hsz hhi hB hB2 h1w hw1 hm hs ho h8 cv cf ci hcs hx0 fin1
 go_enter Tryz.func41,Tryz.ntmps41
 go_upto_region 1 with (fail)
 rw [←HW1.out]
 go_cut [5] (fun s5 wx=>zN4 w R c mem stk out wx)
 case first =>
  go_region_with (first
   | (go_at_call 32;(rw [HX0.out];(with_reducible refine (CV.out _).mono ?_);rintro e w' ⟨vm,y1,rfl,rfl,om,b1⟩;obtain ⟨ma1,mc1,rfl,_,_⟩:=om.sl;have OM:=zA om;have B1:=zA b1;clear om b1))
   | (go_at_call 69;((with_reducible refine (CF.out _).mono ?_);rintro e w' ⟨vs,y2,rfl,rfl,os,b2⟩;obtain ⟨sa1,sc1,rfl,_,_⟩:=os.sl;have OS:=zA os;have B2:=zA b2;clear os b2))
   | (go_at_call 65;((with_reducible refine (CI.out _).mono ?_);rintro e w' ⟨vo,y3,rfl,rfl,oo,b3⟩;obtain ⟨oa1,oc1,rfl,_,_⟩:=oo.sl;have OO:=zA oo;have B3:=zA b3;clear oo b3)))
  all_goals
   go_wp2_with fail
   go_meet
   exact FIN1.out x0 y1 y2 y3 OM.out OS.out OO.out B1.out B2.out B3.out
 case rest =>
  obtain ⟨vm,vs,vo,k1,k2,o1,o2,o3,hb⟩:=hcut
  have hsz:=zBc (c:=c) (ms:=vm) (ss:=vs) (os:=vo) H8.out
  have hone:=zDk (R:=R) (c:=c) (zBn o1) (zBn o2) (zBn o3)
  have K1:=zA k1
  have K2:=zA k2
  have O1:=zA o1
  have O2:=zA o2
  have O3:=zA o3
  have HBW:=zA hb
  have HSZ2:=zA hsz
  have HONE:=zA hone
  have HEX:=zA (show (mcs R c vm vs vo).extract 0 (0+64)=mcs R c vm vs vo by rw [Array.extract_eq_self_of_le (by rw [hsz];omega)])
  clear k1 k2 o1 o2 o3 hb hsz hone
  go_wp2_with (first
   | (refine zAm rfl 60 (.tmp 1) rfl w.heap.size 0 64 rfl 60 _ _ K1.out Tryz.underlying60 rfl (by kernel_rfl) (by have:=HSZ2.out;omega) _ HEX.out ?_)
   | (refine wpList_store_rowTo rfl 60 (.tmp 2) (.tmp 15) rfl rfl (w.heap.size+1) (mcs R c vm vs vo) rfl rfl 60 _ K2.out (by rw [HSZ2.out];kernel_rfl) (by rw [HSZ2.out];kernel_rfl) HONE.out ?_))
  refine bodyPost_ret (results_cell_row (g:=w.heap.size+1) (t:=60) (cs:=mcs R c vm vs vo) (fr:=(0,0)) rfl _ _ _ rfl (zDW K2.out _) Tryz.underlying60 rfl (by rw [HSZ2.out];kernel_rfl)) rfl ?_
  exact ⟨vm,vs,vo,rfl,zAi O1.out K2.out (by decide) _,zAi O2.out K2.out (by decide) _,zAi O3.out K2.out (by decide) _,zDc HBW.out (by omega) _⟩
end
end Go.Proofs.YtlpejagkadalbaaGreatDoor
