import Derived.Test.YtlpejagkadalbaaGreatDoorQk28
set_option maxHeartbeats 40000000
set_option maxRecDepth 100000
set_option linter.unusedVariables false
set_option linter.unusedSimpArgs false
namespace Go.Proofs.YtlpejagkadalbaaGreatDoor
section
open Go.RowKit
def zAD (n:Int):UInt8:=UInt8.ofNat (n % 256).toNat
def zBW (n:Int):List UInt8:=[zAD ((n+2147483648) / 16777216),zAD ((n+2147483648) / 65536),zAD ((n+2147483648) / 256),zAD (n+2147483648)]
def zAu (x:NamV):List UInt8:=zAD x.name.size::(x.name.data.toList++[zAD x.at_])
def zDD (m:ModV):List UInt8:=[67,77,49,zAD m.code.length,zAD m.data.length,zAD m.ex.length,zAD m.im.length]
def zCd (m:ModV):List UInt8:=zDD m++(m.code.flatMap zBW++(m.data.flatMap zBW++(m.ex.flatMap zAu++m.im.flatMap zAu)))
def zDF (l:List UInt8):Nat:=(l.map (·.toNat)).sum
def zDG (l:List UInt8):List UInt8:=[zAD (zDF l / 256:Nat),zAD (zDF l:Nat)]
def zBv (m:ModV):List UInt8:=zCd m++zDG (zCd m)
theorem zCI (n:Int):(zAD n).toNat=(n % 256).toNat:=by
 unfold zAD
 have h:0≤n % 256:=Int.emod_nonneg _ (by decide)
 have h2:n % 256 < 256:=Int.emod_lt_of_pos _ (by decide)
 simp
 omega
theorem zO2 (n:Int):(zBW n).length=4:=rfl
theorem zIK (x:NamV):(zAu x).length=x.name.size+2:=by
 unfold zAu
 rw [List.length_cons,List.length_append,Array.length_toList]
 rfl
theorem zCY:∀ l:List Int,(l.flatMap zBW).length=4*l.length
 | []=>rfl
 | n::l=>by rw [List.flatMap_cons,List.length_append,zCY l,zO2,List.length_cons];omega
def zCx (l:List NamV):Nat:=(l.map fun x=>x.name.size).sum
theorem zIJ:∀ l:List NamV,(l.flatMap zAu).length=2*l.length+zCx l
 | []=>rfl
 | x::l=>by
  rw [List.flatMap_cons,List.length_append,zIJ l,zIK,List.length_cons]
  unfold zCx
  rw [List.map_cons,List.sum_cons]
  omega
theorem zMx (m:ModV):(zBv m).length=9+4*(m.code.length+m.data.length)+2*(m.ex.length+m.im.length)+(zCx m.ex+zCx m.im):=by
 unfold zBv zCd zDG zDD
 simp only [List.length_append,zCY,zIJ,List.length_cons,List.length_nil]
 omega
structure FileOk (m:ModV):Prop where
 l1:m.code.length≤255
 l2:m.data.length≤255
 l3:m.ex.length≤255
 l4:m.im.length≤255
 n1:∀ n∈m.code,-2147483648≤n∧n≤2147483647
 n2:∀ n∈m.data,-2147483648≤n∧n≤2147483647
 e1:∀ x∈m.ex,x.name.size≤255∧0≤x.at_∧x.at_≤255
 e2:∀ x∈m.im,x.name.size≤255∧0≤x.at_∧x.at_≤255
end
section
open El (cl)
open Go Go.RowKit
instance:El UInt8 where
 k:=1
 cl b:=[.int .u8 b.toNat]
 z:=0
 len _:=rfl
 one _:=by intro u hu;simp at hu;subst hu;rfl
 pos:=by decide
theorem zDV (l:List UInt8):cls l=l.map fun b=>Value.int .u8 b.toNat:=by
 induction l with
 | nil=>rfl
 | cons b l ih=>rw [zBR,ih];rfl
theorem zQW (s:ByteArray):cls s.data.toList=Lib.strCells s:=zDV _
theorem zEq {P:Program} {w:World} {B:Nat} {src dst e:TypeId} {v:Value} {l:List UInt8} (h:Own w B e v l) (h0:l≠[])
  (hs:P.underlying src=some (.slice e)) (he:P.underlying e=some (.int .u8)) (hd:P.underlying dst=some .string):(convert src dst v).run P w=.ok (.string ⟨l.toArray⟩) w:=by
 rcases h.form with ⟨_,h1⟩ | ⟨g,cap,rfl,_⟩
 ·exact absurd h1 h0
 ·refine run_convert_bytes_back w src dst e ⟨g,0,none⟩ cap l hs he hd fun j hj=>?_
  exact World.ownsRow.cells h rfl j _ (by rw [zDV];simp [hj])
theorem zGG {P:Program} {w:World} {ops:Array Oper} {rest:List Oper} {o:Oper} {a:Act} {Q:Exit→Act→World→Prop} (hgd:o.guard=none) (s x:Operand) (t u:TypeId)
  (ho:o.op=.call {callee:=.builtin .append,args:=#[s,x],argTypes:=#[t,u]})
  (base:Nat) (e:TypeId) (i:TypeInfo) (ht:P.underlying t=some (.slice e)) (hu:P.underlying u=some .string) (hi:P.info? e=some i) (hz:i.zero=some (.int .u8 0))
  (hsize:i.size=1) (hby:i.bytes=1)
  (v:Value) (xs:List UInt8) (hs:a.eval s=v) (hown:Own w base e v xs)
  (y:ByteArray) (hx:a.eval x=.string y)
  (h63:xs.length+y.size≤maxLen) (hbytes:xs.length+y.size≤140737488355328) (hbase:base≤w.heap.size)
  (h:∀ v' w',Own w' base e v' (xs++y.data.toList)→w.grownBy w' v.ownBlock→wpList P ops Q rest (a.put o.dst v') w'):wpList P ops Q (o::rest) a w :=
 wpList_plain hgd fun _ hK=>by
  obtain ⟨v',w',hr,h2,h3,_⟩:=Lib.run_append_own_string (P:=P) w base t u o.type e i ht hu hi hz hsize hby v xs.length (cls xs) hown y h63 hbytes hbase
  unfold Oper.wp
  simp [execOp,ho,resolve,invoke,builtin,hs,hx,hr,Result.andThen]
  refine hK _ _ (h v' w' ?_ h3)
  unfold Own
  rw [List.length_append,zCZ,zQW,Array.length_toList]
  exact h2
theorem zLR (s:ByteArray) (k:Nat) (h:k < s.size):s.data.toList.take (k+1)=s.data.toList.take k++[s[k]]:=by
 rw [List.take_succ_eq_append_getElem (by simpa using h)];rfl
theorem zMb (l:List UInt8) (c:UInt8):zDF (l++[c])=zDF l+c.toNat:=by unfold zDF;simp
theorem zKy:∀ l:List UInt8,zDF l≤255*l.length
 | []=>by simp [zDF]
 | c::l=>by
  have:=zKy l
  have h:=c.toNat_lt
  have e:zDF (c::l)=c.toNat+zDF l:=by unfold zDF;simp
  rw [e,List.length_cons]
  omega
theorem zJe (s:ByteArray) (w:World) (hs:s.size≤1000000) :
  Calls Tryz.prog 44 #[.string s] w fun e w'=>∃ ao c,e=.returned (.slice ao 2 c)∧Own w' w.heap.size 5 (.slice ao 2 c) (zDG s.data.toList)∧Below w.heap.size w w':=by
 go_enter Tryz.func44,Tryz.ntmps44
 go_wp2
 go_loop [3,4,7] (fun n _ i=>∃ k:Nat,k≤s.size∧i=.int .i64 k∧n=.int .i64 (zDF (s.data.toList.take k))) (fun _ _ i=>s.size - (intOf i).toNat)
 case atStart=>exact ⟨0,Nat.zero_le _,rfl,rfl⟩
 case round =>
  obtain ⟨k,hk,rfl,rfl⟩:=hrel
  have hd:=zKy (s.data.toList.take k)
  have hl:(s.data.toList.take k).length≤1000000:=by rw [List.length_take,Array.length_toList];have:s.data.size=s.size:=rfl;omega
  by_cases hlt:k < s.size
  ·have h2:zDF (s.data.toList.take (k+1))=zDF (s.data.toList.take k)+s[k].toNat:=by rw [zLR s k hlt];exact zMb _ _
   have hc:=s[k].toNat_lt
   have HS:=zA h2
   clear h2
   generalize zDF (s.data.toList.take k)=q at *
   go_wp2
   go_round
   case rel=>exact ⟨k+1,by omega,by go_num,zI8 (by rw [HS.out];go_num)⟩
   case measure=>simp [intOf];omega
  ·have hf:s.data.toList.take k=s.data.toList:=by rw [List.take_of_length_le (by simp;omega)]
   rw [hf] at hd ⊢
   obtain ⟨q,hq⟩:∃ q,zDF s.data.toList=q:=⟨_,rfl⟩
   rw [hq] at hd ⊢
   have e0:cls (zDG s.data.toList)=[Value.int .u8 ((q:Int) / 256 % 256),Value.int .u8 ((q:Int) % 256)]:=by
    rw [zDV]
    unfold zDG
    rw [hq]
    simp only [List.map_cons,List.map_nil,zCI]
    rw [show (((q / 256:Nat):Int) % 256).toNat=(((q:Int) / 256 % 256)).toNat by omega]
    rw [Int.toNat_of_nonneg (by omega),Int.toNat_of_nonneg (by omega)]
   have E0:=zA e0
   clear e0 hq
   go_wp2
   go_ret
   exact ⟨_,_,rfl,zBY (xs:=zDG s.data.toList) w 5 w.heap.size (Nat.le_refl _) _ 2 rfl (by decide) E0.out.symm,zG (Below.refl _ _) _⟩
theorem zFI:(Tryz.prog.info? 5).map (fun i=>(i.zero,i.size,i.bytes))=some (some (.int .u8 0),1,1):=by kernel_rfl
theorem zK3 (W:World) (n:Int):Sl (W.alloc (.cells #[.int .u8 (n % 256)] 5)) (some ⟨W.heap.size,0,none⟩) 1 [zAD n]:=zAy _ _ (by
 show [Value.int .u8 (n % 256)]=[Value.int .u8 ((zAD n).toNat:Int)]
 rw [zCI,Int.toNat_of_nonneg (by omega)])
structure GrewB (B:Nat) (w w':World):Prop where
 below:Below B w w'
 size:w.heap.size≤w'.heap.size
 bk:∀ {k:Nat} {T':TypeId} {cs:Array Value},T'≠5→Bk w k T' cs→Bk w' k T' cs
theorem GrewB.trans {B:Nat} {a b c:World} (h:GrewB B a b) (k:GrewB B b c):GrewB B a c:=⟨h.below.trans k.below,Nat.le_trans h.size k.size,fun ht hb=>k.bk ht (h.bk ht hb)⟩
theorem GrewB.refl (B:Nat) (w:World):GrewB B w w:=⟨Below.refl _ _,Nat.le_refl _,fun _ h=>h⟩
theorem GrewB.alloc (B:Nat) (w:World) (h:B≤w.heap.size) (o:Obj):GrewB B w (w.alloc o):=⟨(Below.refl _ _).alloc h o,by rw [World.size_alloc];omega,fun _ hb=>zN _ hb⟩
theorem GrewB.drew (B:Nat) (w:World):GrewB B w w.drew:=⟨(Below.refl B w).drew,Nat.le_refl _,fun _ hb=>hb⟩
theorem zGl {B:Nat} {w w':World} {v:Value} {l:List UInt8} (ho:Own w B 5 v l) (hg:w.grownBy w' v.ownBlock) (hB:B≤w.heap.size):GrewB B w w' :=
 ⟨(Below.refl B w).grown hg hB (fun k hk=>(zBG ho hk).1),hg.size,fun ht hb=>zAT hb ho ht hg⟩
theorem zEm {ops:Array Oper} {rest:List Oper} {o:Oper} {a:Act} {Q:Exit→Act→World→Prop} {W:World} (hgd:o.guard=none) (s x:Operand)
  (ho:o.op=.call {callee:=.builtin .append,args:=#[s,x],argTypes:=#[113,113]}) (B:Nat) (v:Value) (l:List UInt8) (hs:a.eval s=v) (hown:Own W B 5 v l)
  (ao:Option Addr) (m c:Nat) (ys:List UInt8) (hx:a.eval x=.slice ao m c) (hr:Sl W ao m ys) (h1:l.length≤10000000) (h2:m≤10000000) (hB:B≤W.heap.size)
  (h:∀ V N C w',Own w' B 5 (.slice V N C) (l++ys)→GrewB B W w'→wpList Tryz.prog ops Q rest (a.put o.dst (.slice V N C)) w'):wpList Tryz.prog ops Q (o::rest) a W:=by
 obtain ⟨i0,hi,hz0,hz1,hz2⟩:=info_parts zFI
 refine zY (α:=UInt8) hgd s x 113 ho B 5 i0 _ 1 Tryz.underlying113 hi hz0 hz1 hz2 rfl v l hs hown ao m c ys hx hr (by unfold maxLen;omega) (by omega) hB ?_
 intro v' w' h3 h4 _
 obtain ⟨V,N,C,rfl⟩:=zZ h3
 exact h V N C w' h3 (zGl hown h4 hB)
theorem zPH {ops:Array Oper} {rest:List Oper} {o:Oper} {a:Act} {Q:Exit→Act→World→Prop} {W:World} (hgd:o.guard=none) (s x:Operand)
  (ho:o.op=.call {callee:=.builtin .append,args:=#[s,x],argTypes:=#[113,9]}) (B:Nat) (v:Value) (l:List UInt8) (hs:a.eval s=v) (hown:Own W B 5 v l)
  (y:ByteArray) (hx:a.eval x=.string y) (h1:l.length≤10000000) (h2:y.size≤10000000) (hB:B≤W.heap.size)
  (h:∀ V N C w',Own w' B 5 (.slice V N C) (l++y.data.toList)→GrewB B W w'→wpList Tryz.prog ops Q rest (a.put o.dst (.slice V N C)) w'):wpList Tryz.prog ops Q (o::rest) a W:=by
 obtain ⟨i0,hi,hz0,hz1,hz2⟩:=info_parts zFI
 refine zGG hgd s x 113 9 ho B 5 i0 Tryz.underlying113 Tryz.underlying9 hi hz0 hz1 hz2 v l hs hown y hx (by unfold maxLen;omega) (by omega) hB ?_
 intro v' w' h3 h4
 obtain ⟨V,N,C,rfl⟩:=zZ h3
 exact h V N C w' h3 (zGl hown h4 hB)
theorem zIc (x:NamV) (B g:Nat) (v:Value) (l:List UInt8) (w:World) (hB:B≤g) (hb:Bk w g 113 #[v]) (ho:Own w B 5 v l) (hsz:l.length≤1000000) (hn:x.name.size≤1000000) :
  Calls Tryz.prog 43 #[.string x.name,.int .i64 x.at_,.pointer (some ⟨g,0,none⟩)] w fun e w'=>e=.returned (.tuple #[])∧∃ V N C,Bk w' g 113 #[.slice V N C]∧Own w' B 5 (.slice V N C) (l++zAu x)∧Below B w w'∧(∀ {k:Nat} {T':TypeId} {cs:Array Value},T'≠5→k≠g→Bk w k T' cs→Bk w' k T' cs):=by
 obtain ⟨nm,at_⟩:=x
 obtain ⟨V,N,C,rfl⟩:=zZ ho
 simp only at hn
 have c0:=hb.cell 0
 have cL:=hb.lt
 have hBw:B≤w.heap.size:=by omega
 have k1:(l++[zAD nm.size]).length≤10000000:=by simp;omega
 have k2:(l++[zAD nm.size]++nm.data.toList).length≤10000000:=by
  rw [List.length_append,List.length_append,Array.length_toList]
  show l.length+1+nm.size≤_
  omega
 have el:l++[zAD nm.size]++nm.data.toList++[zAD at_]=l++zAu ⟨nm,at_⟩:=by unfold zAu;simp
 have HO:=zA (Own.alloc ho (.cells #[.int .u8 ((nm.size:Int) % 256)] 5))
 have HG:=zA (GrewB.alloc B w hBw (.cells #[.int .u8 ((nm.size:Int) % 256)] 5))
 have HB:=zA hb
 have hw1:B≤(w.alloc (.cells #[.int .u8 ((nm.size:Int) % 256)] 5)).heap.size:=Nat.le_trans hBw HG.out.size
 have EL:=zA el
 clear ho hb el
 show Calls Tryz.prog 43 #[.string nm,.int .i64 at_,_] w _
 go_enter Tryz.func43,Tryz.ntmps43
 go_wp2_with (first
  | (at_builtin;refine zEm rfl (.tmp 5) (.tmp 9) rfl B (.slice V N C) l rfl HO.out (some ⟨w.heap.size,0,none⟩) 1 1 [zAD nm.size] rfl (zK3 w nm.size) (by omega) (by decide) hw1 ?_;intro V1 N1 C1 w1 ho1 hg1;have HO1:=zA ho1;have hs1:=Nat.le_trans hw1 hg1.size;have HG1:=zA (HG.out.trans hg1);clear ho1 hg1)
  | (at_builtin;refine zPH rfl (.tmp 10) (.tmp 11) rfl B (.slice V1 N1 C1) _ rfl HO1.out nm rfl k1 (by omega) hs1 ?_;intro V2 N2 C2 w2 ho2 hg2;have HO2:=zA (ho2.alloc (.cells #[.int .u8 (at_ % 256)] 5));have hs2:=Nat.le_trans hs1 hg2.size;have HG2:=zA ((HG1.out.trans hg2).trans (GrewB.alloc B w2 hs2 (.cells #[.int .u8 (at_ % 256)] 5)));have hs3:B≤(w2.alloc (.cells #[.int .u8 (at_ % 256)] 5)).heap.size:=Nat.le_trans hBw HG2.out.size;clear ho2 hg2)
  | (at_builtin;refine zEm rfl (.tmp 12) (.tmp 15) rfl B (.slice V2 N2 C2) _ rfl HO2.out (some ⟨w2.heap.size,0,none⟩) 1 1 [zAD at_] rfl (zK3 w2 at_) k2 (by decide) hs3 ?_;intro V3 N3 C3 w3 ho3 hg3;have hg:=HG2.out.trans hg3;have hb3:=hg.bk (by decide) HB.out;have c3:=hb3.cell 0;have cL3:=hb3.lt;have cF3:=fun i=>Bk.frozen hb3 i;have HB3:=zA hb3;have HO3:=zA ho3;have HG3:=zA hg;clear ho3 hg3 hb3 hg))
 refine bodyPost_end (results_none rfl _ _ _) rfl ?_
 rw [←EL.out]
 refine ⟨rfl,V3,N3,C3,zV HB3.out rfl,zAQ HO3.out HB3.out (by decide) 0 _,HG3.out.below.setCell hB _,fun ht hk hb=>zBs (HG3.out.bk ht hb) hk 0 _⟩
end
section
open Go.RowKit
theorem zIs (x:PlaceV) (W:World):(binOp .neq 76 (.agg #[.int .i64 x.base,.int .i64 x.code,.int .i64 x.data,.int .i64 x.seal_]) (.agg #[.int .i64 x.base,.int .i64 x.code,.int .i64 x.data,.int .i64 x.seal_])).run Tryz.prog W=.ok (.bool false) W:=by
 rw [run_neq_struct]
 go_simp
theorem zIe (ao bo:Option Addr) (n c d:Nat) (xs:List PlaceV) (w:World) (hx:Sl w ao n xs) (hy:Sl w bo n xs) :
  Calls Tryz.prog 23 #[.slice ao n c,.slice bo n d] w fun e w'=>e=.returned (.bool true)∧Below w.heap.size w w':=by
 have hlx:=hx.len
 have hm:=hx.max
 unfold maxLen at hm
 have g1:((n:Int) != (n:Int))=false:=by simp
 have HX:=zA hx
 have HY:=zA hy
 clear hx hy
 go_enter Tryz.func23,Tryz.ntmps23
 go_wp2
 go_loopw [14] (fun i wr=>∃ k:Nat,k≤n∧i=.int .i64 k∧Below w.heap.size w wr) (fun i _=>n - (intOf i).toNat)
 case atStart=>exact ⟨0,Nat.zero_le _,rfl,Below.refl _ _⟩
 case round =>
  obtain ⟨k,hk,rfl,hb⟩:=hrel
  have HB:=zA hb
  clear hb
  by_cases hlt:k < n
  ·have q0:(0:Int)≤k:=by omega
   have q1:(k:Int) < n:=by omega
   obtain ⟨x,hgx⟩:∃ x,xs[k]?=some x:=⟨_,List.getElem?_eq_getElem (by omega)⟩
   obtain ⟨ad,rfl,bx,e0,e1,e2,e3⟩:=zFb (HX.out.below HB.out) hlt hgx
   obtain ⟨bd,rfl,by_,f0,f1,f2,f3⟩:=zFb (HY.out.below HB.out) hlt hgx
   have q:=fun W=>zIs x W
   clear hgx
   go_wp2
   go_quiet (fail)
   go_wp2
   go_roundw
   case rel=>exact ⟨k+1,by omega,by go_num,by repeat (first | exact HB.out | with_reducible refine zG ?_ _ | with_reducible refine zAn ?_ _ | with_reducible refine zJ ?_)⟩
   case measure=>simp [intOf];omega
  ·have q1:¬((k:Int) < n):=by omega
   go_wp2
   go_ret
   exact ⟨rfl,HB.out⟩
theorem zIt (x:EntryV) (W:World):(binOp .neq 79 (.agg #[.string x.name,.int .i64 x.code.perm,.int .i64 x.code.base,.int .i64 x.code.len,.int .i64 x.code.at_,.int .i64 x.code.seal_,.int .i64 x.data.perm,.int .i64 x.data.base,.int .i64 x.data.len,.int .i64 x.data.at_,.int .i64 x.data.seal_]) (.agg #[.string x.name,.int .i64 x.code.perm,.int .i64 x.code.base,.int .i64 x.code.len,.int .i64 x.code.at_,.int .i64 x.code.seal_,.int .i64 x.data.perm,.int .i64 x.data.base,.int .i64 x.data.len,.int .i64 x.data.at_,.int .i64 x.data.seal_])).run Tryz.prog W=.ok (.bool false) W:=by
 rw [run_neq_struct]
 go_simp
theorem zIf (ao bo:Option Addr) (n c d:Nat) (xs:List EntryV) (w:World) (hx:Sl w ao n xs) (hy:Sl w bo n xs) :
  Calls Tryz.prog 24 #[.slice ao n c,.slice bo n d] w fun e w'=>e=.returned (.bool true)∧Below w.heap.size w w':=by
 have hlx:=hx.len
 have hm:=hx.max
 unfold maxLen at hm
 have g1:((n:Int) != (n:Int))=false:=by simp
 have HX:=zA hx
 have HY:=zA hy
 clear hx hy
 go_enter Tryz.func24,Tryz.ntmps24
 go_wp2
 go_loopw [14] (fun i wr=>∃ k:Nat,k≤n∧i=.int .i64 k∧Below w.heap.size w wr) (fun i _=>n - (intOf i).toNat)
 case atStart=>exact ⟨0,Nat.zero_le _,rfl,Below.refl _ _⟩
 case round =>
  obtain ⟨k,hk,rfl,hb⟩:=hrel
  have HB:=zA hb
  clear hb
  by_cases hlt:k < n
  ·have q0:(0:Int)≤k:=by omega
   have q1:(k:Int) < n:=by omega
   obtain ⟨x,hgx⟩:∃ x,xs[k]?=some x:=⟨_,List.getElem?_eq_getElem (by omega)⟩
   obtain ⟨ad,rfl,bx,e0,e1,e2,e3,e4,e5,e6,e7,e8,e9,e10⟩:=zEe (HX.out.below HB.out) hlt hgx
   obtain ⟨bd,rfl,by_,f0,f1,f2,f3,f4,f5,f6,f7,f8,f9,f10⟩:=zEe (HY.out.below HB.out) hlt hgx
   have q:=fun W=>zIt x W
   clear hgx
   go_wp2
   go_quiet (fail)
   go_wp2
   go_roundw
   case rel=>exact ⟨k+1,by omega,by go_num,by repeat (first | exact HB.out | with_reducible refine zG ?_ _ | with_reducible refine zAn ?_ _ | with_reducible refine zJ ?_)⟩
   case measure=>simp [intOf];omega
  ·have q1:¬((k:Int) < n):=by omega
   go_wp2
   go_ret
   exact ⟨rfl,HB.out⟩
end
end Go.Proofs.YtlpejagkadalbaaGreatDoor
