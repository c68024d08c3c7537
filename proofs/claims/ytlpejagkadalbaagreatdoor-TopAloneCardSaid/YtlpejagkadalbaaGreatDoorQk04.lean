import Derived.Test.YtlpejagkadalbaaGreatDoorQk03
set_option maxHeartbeats 40000000
set_option maxRecDepth 100000
set_option linter.unusedVariables false
set_option linter.unusedSimpArgs false
namespace Go.Proofs.YtlpejagkadalbaaGreatDoor
section
open Go.RowKit
structure NamV where
 name:ByteArray
 at_:Int
structure ModV where
 code:List Int
 data:List Int
 ex:List NamV
 im:List NamV
structure PlaceV where
 base:Int
 code:Int
 data:Int
 seal_:Int
deriving DecidableEq
structure EntryV where
 name:ByteArray
 code:KeyV
 data:KeyV
deriving DecidableEq
def zeroE:EntryV:=⟨ByteArray.empty,zeroK,zeroK⟩
def ModV.cells (m:ModV):List Int:=m.code++m.data
def total (ms:List ModV):Nat:=(ms.map fun m=>m.code.length+m.data.length).sum
def zAG (ms:List ModV):List ByteArray:=ms.flatMap fun m=>m.ex.map (·.name)
def zEK (ms:List ModV):List ByteArray:=ms.flatMap fun m=>m.im.map (·.name)
def zEV (l:List Int):Prop:=∀ n∈l,-2147483648≤n∧n≤2147483647
structure ModOk (nm:ByteArray→Bool) (m:ModV):Prop where
 l1:m.code.length≤120
 l2:m.data.length≤60
 l3:m.ex.length≤20
 l4:m.im.length≤20
 n1:zEV m.code
 n2:zEV m.data
 e1:∀ x∈m.ex,nm x.name=true∧0≤x.at_∧x.at_ < m.code.length
 e2:m.ex.Pairwise fun x y=>x.name≠y.name
 i1:∀ x∈m.im,nm x.name=true∧0≤x.at_∧x.at_≤(m.data.length:Int) - 2
 i2:m.im.Pairwise fun x y=>x.at_+2≤y.at_∨y.at_+2≤x.at_
structure LinkOk (nm:ByteArray→Bool) (ms:List ModV):Prop where
 l:ms.length≤8
 m:∀ m∈ms,ModOk nm m
 nd:(zAG ms).Nodup
 t:total ms≤400
 im:∀ x∈zEK ms,x∈zAG ms
theorem zCG:total []=0:=rfl
theorem zAq (m:ModV) (ms:List ModV):total (m::ms)=m.code.length+m.data.length+total ms:=by unfold total;simp
theorem zFZ (a b:List ModV):total (a++b)=total a+total b:=by unfold total;simp
theorem zLP (a:List ModV) (m:ModV):total (a++[m])=total a+(m.code.length+m.data.length):=by rw [zFZ];rw [zAq,zCG];omega
theorem zHn (a b:List ModV):zAG (a++b)=zAG a++zAG b:=by unfold zAG;simp
theorem zJk (a:List ModV) (m:ModV):zAG (a++[m])=zAG a++m.ex.map (·.name):=by unfold zAG;simp
def zDi (b n:Nat) (m:ModV):PlaceV:=⟨b,m.code.length,m.data.length,n+1⟩
def zBE:Nat→Nat→List ModV→List PlaceV
 | _,_,[]=>[]
 | b,n,m::ms=>zDi b n m::zBE (b+(m.code.length+m.data.length)) (n+1) ms
def zAf (b n:Nat) (m:ModV) (x:NamV):EntryV:=⟨x.name,⟨5,b,m.code.length,b+x.at_,n+1⟩,⟨27,b+m.code.length,m.data.length,b+m.code.length,n+1⟩⟩
def zU:Nat→Nat→List ModV→List EntryV
 | _,_,[]=>[]
 | b,n,m::ms=>m.ex.map (zAf b n m)++zU (b+(m.code.length+m.data.length)) (n+1) ms
def zBb (ms:List ModV):List ValV:=ms.flatMap fun m=>m.cells.map ValV.num
def zAe (es:List EntryV) (s:ByteArray):Option EntryV:=es.find? fun x=>decide (x.name=s)
def zCV (es:List EntryV) (b:Nat) (mem:List ValV) (x:NamV):List ValV :=
 let e:=(zAe es x.name).getD zeroE
 (mem.set (b+x.at_.toNat) ⟨true,0,e.code⟩).set (b+x.at_.toNat+1) ⟨true,0,e.data⟩
def zB2 (es:List EntryV) (b:Nat) (mem:List ValV) (l:List NamV):List ValV:=l.foldl (zCV es b) mem
def zBu (es:List EntryV):Nat→List ValV→List ModV→List ValV
 | _,mem,[]=>mem
 | b,mem,m::ms=>zBu es (b+(m.code.length+m.data.length)) (zB2 es (b+m.code.length) mem m.im) ms
def zAK (ms:List ModV):List ValV:=zBu (zU 0 0 ms) 0 (zBb ms) ms
theorem zFh (m:ModV):∀ (ms:List ModV) (b n:Nat),zBE b n (ms++[m])=zBE b n ms++[zDi (b+total ms) (n+ms.length) m]
 | [],b,n=>by simp [zBE,zCG]
 | x::ms,b,n=>by
  rw [List.cons_append,zBE,zFh m ms,zBE,zAq,List.cons_append,List.length_cons]
  congr 4<;>omega
theorem zFT (m:ModV):∀ (ms:List ModV) (b n:Nat),zU b n (ms++[m])=zU b n ms++m.ex.map (zAf (b+total ms) (n+ms.length) m)
 | [],b,n=>by simp [zU,zCG]
 | x::ms,b,n=>by
  rw [List.cons_append,zU,zFT m ms,zU,zAq,List.append_assoc,List.length_cons]
  congr 4<;>omega
theorem zGw (es:List EntryV) (m:ModV):∀ (ms:List ModV) (b:Nat) (mem:List ValV),zBu es b mem (ms++[m])=zB2 es (b+total ms+m.code.length) (zBu es b mem ms) m.im
 | [],b,mem=>by simp [zBu,zCG]
 | x::ms,b,mem=>by
  rw [List.cons_append,zBu,zGw es m ms,zBu,zAq]
  congr 2;omega
theorem zGK (ms:List ModV):∀ b n,(zBE b n ms).length=ms.length:=by
 induction ms with
 | nil=>intro b n;rfl
 | cons m ms ih=>intro b n;rw [zBE,List.length_cons,List.length_cons,ih]
theorem zG9:∀ (ms:List ModV) (b n i:Nat) (m:ModV),ms[i]?=some m→(zBE b n ms)[i]?=some (zDi (b+total (ms.take i)) (n+i) m)
 | [],b,n,i,m,h=>by simp at h
 | x::ms,b,n,0,m,h=>by simp at h;subst h;simp [zBE,zCG]
 | x::ms,b,n,i+1,m,h=>by
  rw [zBE,List.getElem?_cons_succ,zG9 ms _ _ i m (by simpa using h),List.take_succ_cons,zAq]
  congr 2<;>omega
theorem zFG (ms:List ModV):(zBb ms).length=total ms:=by
 induction ms with
 | nil=>rfl
 | cons m ms ih =>
  unfold zBb at ih ⊢
  rw [List.flatMap_cons,List.length_append,ih,zAq]
  simp [ModV.cells]
theorem zNH (ms:List ModV) (m:ModV):zBb (ms++[m])=zBb ms++m.cells.map ValV.num:=by unfold zBb;simp
theorem zCv (es:List EntryV) (b:Nat) (mem:List ValV) (x:NamV):(zCV es b mem x).length=mem.length:=by unfold zCV;simp
theorem zCu (es:List EntryV) (b:Nat):∀ (l:List NamV) (mem:List ValV),(zB2 es b mem l).length=mem.length
 | [],mem=>rfl
 | x::l,mem=>by
  show (zB2 es b (zCV es b mem x) l).length=_
  rw [zCu es b l,zCv]
theorem zLO (es:List EntryV) (b:Nat) (l:List NamV) (mem:List ValV) (x:NamV):zB2 es b mem (l++[x])=zCV es b (zB2 es b mem l) x:=by unfold zB2;simp
theorem zFX (es:List EntryV):∀ (ms:List ModV) (b:Nat) (mem:List ValV),(zBu es b mem ms).length=mem.length
 | [],b,mem=>rfl
 | m::ms,b,mem=>by rw [zBu,zFX es ms,zCu]
theorem zDr (ms:List ModV):(zAK ms).length=total ms:=by unfold zAK;rw [zFX,zFG]
theorem zE6 (es:List EntryV) (b:Nat) (mem:List ValV) (x:NamV) (i:Nat) (h:i < mem.length) :
  (zCV es b mem x)[i]?=if i=b+x.at_.toNat+1 then some ⟨true,0,((zAe es x.name).getD zeroE).data⟩ else if i=b+x.at_.toNat then some ⟨true,0,((zAe es x.name).getD zeroE).code⟩ else mem[i]?:=by
 unfold zCV
 simp only
 rw [List.getElem?_set,List.getElem?_set,List.length_set]
 by_cases h1:i=b+x.at_.toNat+1
 ·rw [if_pos (show b+x.at_.toNat+1=i from h1.symm),if_pos (by omega),if_pos h1]
 ·rw [if_neg (show ¬(b+x.at_.toNat+1=i) from fun e=>h1 e.symm),if_neg h1]
  by_cases h2:i=b+x.at_.toNat
  ·rw [if_pos (show b+x.at_.toNat=i from h2.symm),if_pos (by omega),if_pos h2]
  ·rw [if_neg (show ¬(b+x.at_.toNat=i) from fun e=>h2 e.symm),if_neg h2]
theorem zE5 (es:List EntryV) (b:Nat):∀ (l:List NamV) (mem:List ValV) (i:Nat),i < mem.length→(∀ x∈l,i≠b+x.at_.toNat∧i≠b+x.at_.toNat+1)→(zB2 es b mem l)[i]?=mem[i]?
 | [],mem,i,h,hx=>rfl
 | x::l,mem,i,h,hx=>by
  show (zB2 es b (zCV es b mem x) l)[i]?=_
  rw [zE5 es b l _ i (by rw [zCv];exact h) (fun y hy=>hx y (List.mem_cons_of_mem _ hy)),zE6 es b mem x i h,if_neg (hx x (by simp)).2,if_neg (hx x (by simp)).1]
theorem zB8 (ms:List ModV) (i:Nat):total (ms.take i)≤total ms:=by
 have:total ms=total (ms.take i)+total (ms.drop i):=by rw [←zFZ,List.take_append_drop]
 omega
theorem zBZ {ms:List ModV} {i:Nat} {m:ModV} (h:ms[i]?=some m):total (ms.take (i+1))=total (ms.take i)+(m.code.length+m.data.length):=by
 rw [List.take_add_one,h]
 exact zLP _ _
def imIn (m:ModV):Prop:=∀ x∈m.im,0≤x.at_∧x.at_≤(m.data.length:Int) - 2
theorem ModOk.imIn {nm:ByteArray→Bool} {m:ModV} (h:ModOk nm m):imIn m:=fun x hx=>(h.i1 x hx).2
theorem zH2 (es:List EntryV):∀ (ms:List ModV) (b:Nat) (mem:List ValV) (i:Nat),(∀ m∈ms,imIn m)→i < mem.length→(i < b∨b+total ms≤i)→(zBu es b mem ms)[i]?=mem[i]?
 | [],b,mem,i,_,_,_=>rfl
 | m::ms,b,mem,i,hi,hl,hb=>by
  rw [zAq] at hb
  rw [zBu,zH2 es ms _ _ i (fun m hm=>hi m (List.mem_cons_of_mem _ hm)) (by rw [zCu];exact hl) (by omega)]
  exact zE5 es _ _ _ _ hl fun x hx=>by
   have:=hi m (by simp) x hx
   omega
theorem zI7 (es:List EntryV):∀ (ms:List ModV) (b:Nat) (mem:List ValV) (n i:Nat) (m:ModV),(∀ m∈ms,imIn m)→ms[n]?=some m→i < m.code.length+m.data.length→b+total ms≤mem.length →
  (zBu es b mem ms)[b+total (ms.take n)+i]?=(zB2 es (b+total (ms.take n)+m.code.length) mem m.im)[b+total (ms.take n)+i]?
 | [],b,mem,n,i,m,_,h,_,_=>by simp at h
 | x::ms,b,mem,0,i,m,hi,h,hl,ht=>by
  simp at h
  subst h
  rw [zAq] at ht
  simp only [List.take_zero,zCG,Nat.add_zero]
  rw [zBu,zH2 es ms _ _ _ (fun m hm=>hi m (List.mem_cons_of_mem _ hm)) (by rw [zCu];omega) (by omega)]
 | x :: ms,b,mem,n+1,i,m,hi,h,hl,ht=>by
  have h':ms[n]?=some m:=by simpa using h
  rw [zAq] at ht
  have hle:total (ms.take n)+(m.code.length+m.data.length)≤total ms:=by rw [←zBZ h'];exact zB8 _ _
  rw [zBu,List.take_succ_cons,zAq]
  have:=zI7 es ms (b+(x.code.length+x.data.length)) (zB2 es (b+x.code.length) mem x.im) n i m (fun m hm=>hi m (List.mem_cons_of_mem _ hm)) h' hl (by rw [zCu];omega)
  rw [show b+(x.code.length+x.data.length+total (ms.take n))=b+(x.code.length+x.data.length)+total (ms.take n) by omega,this]
  -- what the first one's wishes did lies before
  have hm:=hi m (List.mem_cons_of_mem _ (List.mem_of_getElem? h'))
  have key:∀ (l:List NamV) (B:Nat) (u v:List ValV) (j:Nat),u.length=v.length→u[j]?=v[j]?→(zB2 es B u l)[j]?=(zB2 es B v l)[j]?:=by
   intro l
   induction l with
   | nil=>intro B u v j _ h;exact h
   | cons y l ih =>
    intro B u v j hlen h
    refine ih B _ _ j (by rw [zCv,zCv,hlen]) ?_
    by_cases hj:j < u.length
    ·rw [zE6 es B u y j hj,zE6 es B v y j (by omega),h]
    ·rw [List.getElem?_eq_none (by rw [zCv];omega),List.getElem?_eq_none (by rw [zCv];omega)]
  refine key _ _ _ _ _ (zCu _ _ _ _) (zE5 es _ _ _ _ (by omega) fun y hy=>?_)
  have:=hi x (by simp) y hy
  omega
theorem zHk:∀ (ms:List ModV) (n i:Nat) (m:ModV),ms[n]?=some m→i < m.code.length+m.data.length→(zBb ms)[total (ms.take n)+i]?=m.cells[i]?.map ValV.num
 | [],n,i,m,h,_=>by simp at h
 | x::ms,0,i,m,h,hl=>by
  simp at h
  subst h
  rw [List.take_zero,zCG,Nat.zero_add]
  unfold zBb
  rw [List.flatMap_cons,List.getElem?_append_left (by simp [ModV.cells];omega),List.getElem?_map]
 | x::ms,n+1,i,m,h,hl=>by
  have ih:=zHk ms n i m (by simpa using h) hl
  rw [List.take_succ_cons,zAq]
  unfold zBb at ih ⊢
  rw [List.flatMap_cons,List.getElem?_append_right (by simp [ModV.cells];omega),←ih]
  congr 1
  simp [ModV.cells];omega
end
section
open El (cl)
open Go.RowKit
instance:El NamV where
 k:=2
 cl x:=[.string x.name,.int .i64 x.at_]
 z:=⟨ByteArray.empty,0⟩
 len _:=rfl
 one _:=by intro u hu;simp at hu;rcases hu with rfl | rfl<;>rfl
 pos:=by decide
instance:Inhabited NamV:=⟨⟨ByteArray.empty,0⟩⟩
theorem zJ4 (a:Addr) (i j:Nat) (hj:0 < j):a.add (i+j)=⟨(a.add i).block,(a.add i).off+j,none⟩:=by
 unfold Addr.add
 rw [if_neg (by omega)]
 by_cases hi:i=0
 ·subst hi;simp
 ·rw [if_neg hi];simp [Nat.add_assoc]
theorem zCK {w:World} {ao:Option Addr} {n:Nat} {ks:List NamV} (h:Sl w ao n ks) {i:Nat} (hi:i < n) {x:NamV} (hx:ks[i]?=some x):∃ a,ao=some a∧(a.add (i*2)).block < w.heap.size ∧
  w.cell? (a.add (i*2))=some (.string x.name)∧w.cell? ⟨(a.add (i*2)).block,(a.add (i*2)).off+1,none⟩=some (.int .i64 x.at_):=by
 obtain ⟨a,y,e,hb,hy,hc⟩:=h.at hi
 obtain rfl:y=x:=by rw [hx] at hy;injection hy with hy;exact hy.symm
 refine ⟨a,e,by rw [zBL];exact hb,?_⟩
 rw [←zJ4 a (i*2) 1 (by decide)]
 exact ⟨hc 0 _ rfl,hc 1 _ rfl⟩
instance:El PlaceV where
 k:=4
 cl x:=[.int .i64 x.base,.int .i64 x.code,.int .i64 x.data,.int .i64 x.seal_]
 z:=⟨0,0,0,0⟩
 len _:=rfl
 one _:=by intro u hu;simp at hu;rcases hu with rfl | rfl | rfl | rfl<;>rfl
 pos:=by decide
instance:Inhabited PlaceV:=⟨⟨0,0,0,0⟩⟩
theorem zDo (a:Addr) (i j:Nat) (hj:0 < j):a.add (i+j)=⟨(a.add i).block,(a.add i).off+j,none⟩:=by
 unfold Addr.add
 rw [if_neg (by omega)]
 by_cases hi:i=0
 ·subst hi;simp
 ·rw [if_neg hi];simp [Nat.add_assoc]
theorem zFb {w:World} {ao:Option Addr} {n:Nat} {ks:List PlaceV} (h:Sl w ao n ks) {i:Nat} (hi:i < n) {x:PlaceV} (hx:ks[i]?=some x):∃ a,ao=some a∧(a.add (i*4)).block < w.heap.size ∧
  w.cell? (a.add (i*4))=some (.int .i64 x.base)∧w.cell? ⟨(a.add (i*4)).block,(a.add (i*4)).off+1,none⟩=some (.int .i64 x.code)∧w.cell? ⟨(a.add (i*4)).block,(a.add (i*4)).off+2,none⟩=some (.int .i64 x.data)∧w.cell? ⟨(a.add (i*4)).block,(a.add (i*4)).off+3,none⟩=some (.int .i64 x.seal_):=by
 obtain ⟨a,y,e,hb,hy,hc⟩:=h.at hi
 obtain rfl:y=x:=by rw [hx] at hy;injection hy with hy;exact hy.symm
 refine ⟨a,e,by rw [zBL];exact hb,?_⟩
 rw [←zDo a (i*4) 1 (by decide),←zDo a (i*4) 2 (by decide),←zDo a (i*4) 3 (by decide)]
 exact ⟨hc 0 _ rfl,hc 1 _ rfl,hc 2 _ rfl,hc 3 _ rfl⟩
instance:El EntryV where
 k:=11
 cl x:=[.string x.name,.int .i64 x.code.perm,.int .i64 x.code.base,.int .i64 x.code.len,.int .i64 x.code.at_,.int .i64 x.code.seal_,.int .i64 x.data.perm,.int .i64 x.data.base,.int .i64 x.data.len,.int .i64 x.data.at_,.int .i64 x.data.seal_]
 z:=zeroE
 len _:=rfl
 one _:=by intro u hu;simp at hu;rcases hu with rfl | rfl | rfl | rfl | rfl | rfl | rfl | rfl | rfl | rfl | rfl<;>rfl
 pos:=by decide
instance:Inhabited EntryV:=⟨zeroE⟩
theorem zBF (a:Addr) (i j:Nat) (hj:0 < j):a.add (i+j)=⟨(a.add i).block,(a.add i).off+j,none⟩:=by
 unfold Addr.add
 rw [if_neg (by omega)]
 by_cases hi:i=0
 ·subst hi;simp
 ·rw [if_neg hi];simp [Nat.add_assoc]
theorem zEe {w:World} {ao:Option Addr} {n:Nat} {ks:List EntryV} (h:Sl w ao n ks) {i:Nat} (hi:i < n) {x:EntryV} (hx:ks[i]?=some x):∃ a,ao=some a∧(a.add (i*11)).block < w.heap.size ∧
  w.cell? (a.add (i*11))=some (.string x.name)∧w.cell? ⟨(a.add (i*11)).block,(a.add (i*11)).off+1,none⟩=some (.int .i64 x.code.perm)∧w.cell? ⟨(a.add (i*11)).block,(a.add (i*11)).off+2,none⟩=some (.int .i64 x.code.base)∧w.cell? ⟨(a.add (i*11)).block,(a.add (i*11)).off+3,none⟩=some (.int .i64 x.code.len)∧w.cell? ⟨(a.add (i*11)).block,(a.add (i*11)).off+4,none⟩=some (.int .i64 x.code.at_)∧w.cell? ⟨(a.add (i*11)).block,(a.add (i*11)).off+5,none⟩=some (.int .i64 x.code.seal_)∧w.cell? ⟨(a.add (i*11)).block,(a.add (i*11)).off+6,none⟩=some (.int .i64 x.data.perm)∧w.cell? ⟨(a.add (i*11)).block,(a.add (i*11)).off+7,none⟩=some (.int .i64 x.data.base)∧w.cell? ⟨(a.add (i*11)).block,(a.add (i*11)).off+8,none⟩=some (.int .i64 x.data.len)∧w.cell? ⟨(a.add (i*11)).block,(a.add (i*11)).off+9,none⟩=some (.int .i64 x.data.at_)∧w.cell? ⟨(a.add (i*11)).block,(a.add (i*11)).off+10,none⟩=some (.int .i64 x.data.seal_):=by
 obtain ⟨a,y,e,hb,hy,hc⟩:=h.at hi
 obtain rfl:y=x:=by rw [hx] at hy;injection hy with hy;exact hy.symm
 refine ⟨a,e,by rw [zBL];exact hb,?_⟩
 rw [←zBF a (i*11) 1 (by decide),←zBF a (i*11) 2 (by decide),←zBF a (i*11) 3 (by decide),←zBF a (i*11) 4 (by decide),←zBF a (i*11) 5 (by decide),←zBF a (i*11) 6 (by decide),←zBF a (i*11) 7 (by decide),←zBF a (i*11) 8 (by decide),←zBF a (i*11) 9 (by decide),←zBF a (i*11) 10 (by decide)]
 exact ⟨hc 0 _ rfl,hc 1 _ rfl,hc 2 _ rfl,hc 3 _ rfl,hc 4 _ rfl,hc 5 _ rfl,hc 6 _ rfl,hc 7 _ rfl,hc 8 _ rfl,hc 9 _ rfl,hc 10 _ rfl⟩
structure SlR where
 a:Option Addr
 n:Nat
 c:Nat
def SlR.val (s:SlR):Value:=.slice s.a s.n s.c
structure ModR where
 code:SlR
 data:SlR
 ex:SlR
 im:SlR
instance:El ModR where
 k:=4
 cl x:=[.slice x.code.a x.code.n x.code.c,.slice x.data.a x.data.n x.data.c,.slice x.ex.a x.ex.n x.ex.c,.slice x.im.a x.im.n x.im.c]
 z:=⟨⟨none,0,0⟩,⟨none,0,0⟩,⟨none,0,0⟩,⟨none,0,0⟩⟩
 len _:=rfl
 one _:=by intro u hu;simp at hu;rcases hu with rfl | rfl | rfl | rfl<;>rfl
 pos:=by decide
instance:Inhabited ModR:=⟨⟨⟨none,0,0⟩,⟨none,0,0⟩,⟨none,0,0⟩,⟨none,0,0⟩⟩⟩
theorem zEb (a:Addr) (i j:Nat) (hj:0 < j):a.add (i+j)=⟨(a.add i).block,(a.add i).off+j,none⟩:=by
 unfold Addr.add
 rw [if_neg (by omega)]
 by_cases hi:i=0
 ·subst hi;simp
 ·rw [if_neg hi];simp [Nat.add_assoc]
theorem zDM {w:World} {ao:Option Addr} {n:Nat} {ks:List ModR} (h:Sl w ao n ks) {i:Nat} (hi:i < n) {x:ModR} (hx:ks[i]?=some x):∃ a,ao=some a∧(a.add (i*4)).block < w.heap.size ∧
  w.cell? (a.add (i*4))=some (.slice x.code.a x.code.n x.code.c)∧w.cell? ⟨(a.add (i*4)).block,(a.add (i*4)).off+1,none⟩=some (.slice x.data.a x.data.n x.data.c)∧w.cell? ⟨(a.add (i*4)).block,(a.add (i*4)).off+2,none⟩=some (.slice x.ex.a x.ex.n x.ex.c)∧w.cell? ⟨(a.add (i*4)).block,(a.add (i*4)).off+3,none⟩=some (.slice x.im.a x.im.n x.im.c):=by
 obtain ⟨a,y,e,hb,hy,hc⟩:=h.at hi
 obtain rfl:y=x:=by rw [hx] at hy;injection hy with hy;exact hy.symm
 refine ⟨a,e,by rw [zBL];exact hb,?_⟩
 rw [←zEb a (i*4) 1 (by decide),←zEb a (i*4) 2 (by decide),←zEb a (i*4) 3 (by decide)]
 exact ⟨hc 0 _ rfl,hc 1 _ rfl,hc 2 _ rfl,hc 3 _ rfl⟩
structure NamV.wf (x:NamV):Prop where
 name:x.name.size≤9223372036854775807
 at_:I64 x.at_
structure ModR.has (w:World) (r:ModR) (m:ModV):Prop where
 code:Sl w r.code.a r.code.n m.code
 data:Sl w r.data.a r.data.n m.data
 ex:Sl w r.ex.a r.ex.n m.ex
 im:Sl w r.im.a r.im.n m.im
 le:r.code.n≤r.code.c∧r.data.n≤r.data.c∧r.ex.n≤r.ex.c∧r.im.n≤r.im.c
 wc:∀ n∈m.code,I64 n
 wd:∀ n∈m.data,I64 n
 we:∀ x∈m.ex,x.wf
 wi:∀ x∈m.im,x.wf
theorem ModR.has.below {w w':World} {r:ModR} {m:ModV} (h:r.has w m) (hb:Below w.heap.size w w'):r.has w' m :=
 ⟨h.code.below hb,h.data.below hb,h.ex.below hb,h.im.below hb,h.le,h.wc,h.wd,h.we,h.wi⟩
structure Mods (w:World) (ao:Option Addr) (n:Nat) (rs:List ModR) (ms:List ModV):Prop where
 sl:Sl w ao n rs
 len:rs.length=ms.length
 at_:∀ (i:Nat) (r:ModR) (m:ModV),rs[i]?=some r→ms[i]?=some m→r.has w m
theorem Mods.below {w w':World} {ao:Option Addr} {n:Nat} {rs:List ModR} {ms:List ModV} (h:Mods w ao n rs ms) (hb:Below w.heap.size w w'):Mods w' ao n rs ms :=
 ⟨h.sl.below hb,h.len,fun i r m h1 h2=>(h.at_ i r m h1 h2).below hb⟩
theorem Mods.n {w:World} {ao:Option Addr} {n:Nat} {rs:List ModR} {ms:List ModV} (h:Mods w ao n rs ms):ms.length=n:=by rw [←h.len];exact h.sl.len
theorem Mods.get {w:World} {ao:Option Addr} {n:Nat} {rs:List ModR} {ms:List ModV} (h:Mods w ao n rs ms) {i:Nat} (hi:i < n):∃ r m,rs[i]?=some r∧ms[i]?=some m∧r.has w m:=by
 have h1:=h.n
 have h2:=h.len
 exact ⟨_,_,List.getElem?_eq_getElem (by omega),List.getElem?_eq_getElem (by omega),h.at_ i _ _ (List.getElem?_eq_getElem (by omega)) (List.getElem?_eq_getElem (by omega))⟩
end
end Go.Proofs.YtlpejagkadalbaaGreatDoor
