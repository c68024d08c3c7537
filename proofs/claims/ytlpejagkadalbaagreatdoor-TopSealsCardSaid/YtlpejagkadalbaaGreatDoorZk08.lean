import Derived.Test.YtlpejagkadalbaaGreatDoorZk06
import Derived.Test.YtlpejagkadalbaaGreatDoorZk07
import Derived.StillTailTactics
set_option maxHeartbeats 40000000
set_option maxRecDepth 100000
set_option linter.unusedVariables false
set_option linter.unusedSimpArgs false
namespace Go.Proofs.YtlpejagkadalbaaGreatDoor
section
open Go.RowKit
end
section
open El (cl)
open Go.RowKit
theorem zCj:∀ (us l m:List Value) (i:Nat),i+us.length≤l.length→setL (l++m) i us=setL l i us++m
 | [],l,m,i,_=>rfl
 | u::us,l,m,i,h=>by
  rw [List.length_cons] at h
  rw [setL,setL,List.set_append_left _ _ (by omega),zCj us (l.set i u) m (i+1) (by rw [List.length_set];omega)]
theorem zCA:∀ (us l m:List Value) (i:Nat),setL (l++m) (l.length+i) us=l++setL m i us
 | [],l,m,i=>rfl
 | u::us,l,m,i=>by
  rw [setL,setL,List.set_append_right _ _ (by omega),Nat.add_sub_cancel_left,show l.length+i+1=l.length+(i+1) by omega,zCA us l (m.set i u) (i+1)]
theorem zD1 {α:Type} [El α]:∀ {xs:List α} {i j:Nat} {x y:α} {us:List Value},xs[i]?=some x→j+us.length≤El.k α→cl y=setL (cl x) j us→setL (cls xs) (i*El.k α+j) us=cls (xs.set i y)
 | [],i,j,x,y,us,h,_,_=>by simp at h
 | z::xs,0,j,x,y,us,h,hj,hc=>by
  simp at h
  subst h
  rw [zBI,zD,zBI,Nat.zero_mul,Nat.zero_add,zCj _ _ _ _ (by rw [El.len];exact hj),hc]
 | z::xs,i+1,j,x,y,us,h,hj,hc=>by
  rw [zBI,zE,zBI]
  have e:(i+1)*El.k α+j=(cl z).length+(i*El.k α+j):=by rw [El.len,Nat.add_mul];omega
  rw [e,zCA,zD1 (by simpa using h) hj hc]
theorem zBp {w:World} {g:Nat} {T:TypeId}:∀ (us l:List Value) (i:Nat) (w:World),Bk w g T l.toArray→Bk (w.setCells g i us) g T (setL l i us).toArray
 | [],l,i,w,h=>h
 | u::us,l,i,w,h=>by
  have h1:=zAg i u h
  rw [zC] at h1
  exact zBp (w:=w) (g:=g) us (l.set i u) (i+1) _ h1
theorem zAO (g:Nat):∀ (us:List Value) (i:Nat) (w:World),w.grownBy (w.setCells g i us) (some g)
 | [],i,w=>World.grownBy.refl w _
 | u::us,i,w=>by
  have h1:w.grownBy (w.setCell ⟨g,i,none⟩ u) (some g):=⟨rfl,rfl,rfl,by simp [World.setCell],fun k _ hk=>Below.heap_setCell w _ u k (fun e=>hk (by rw [e]))⟩
  exact h1.trans (zAO g us (i+1) _)
theorem zGc {a b:World} (h:Below a.heap.size a b) {g:Nat} (hg:a.heap.size≤g) (i:Nat) (us:List Value):Below a.heap.size a (b.setCells g i us) :=
 h.grown (zAO g us i b) h.size (fun k e=>by injection e with e;omega)
theorem zAa {α:Type} [El α] {w:World} {base:Nat} {T:TypeId} {v:Value} {xs:List α} (h:Own w base T v xs) {g:Nat} {T':TypeId} {cs:Array Value} (hg:Bk w g T' cs) (hT:T'≠T) (i:Nat) (us:List Value):Own (w.setCells g i us) base T v xs:=by
 refine h.kept (zAO g us i w) ?_
 rcases h.2 with ⟨rfl,_⟩ | ⟨g',cap,cur,rfl,_,hg',_⟩
 ·exact .inl rfl
 ·right
  intro e
  simp [Value.ownBlock] at e
  subst e
  unfold Bk at hg
  rw [hg] at hg'
  injection hg' with hg'
  injection hg' with _ ht _
  exact hT ht
theorem zKq {α:Type} [El α] {w:World} {base:Nat} {T:TypeId} {xs:List α} {g n cap:Nat} (h:Own w base T (.slice (some ⟨g,0,none⟩) n cap) xs) {k:Nat} {T':TypeId} {cs:Array Value} (hk:Bk w k T' cs) (hT:T'≠T):g≠k:=by
 rintro rfl
 rcases h.2 with ⟨e,_⟩ | ⟨g',c,cur,e,_,hg',_⟩
 ·cases e
 ·injection e with e _ _
  injection e with e
  injection e with e _ _
  subst e
  unfold Bk at hk
  rw [hk] at hg'
  injection hg' with hg'
  injection hg' with _ ht _
  exact hT ht
theorem zER {R:List ValV} {c:KeyV} {ms ss os:Value} (h8:R.length=8) {k:Nat} {x y:ValV} (hx:R[k]?=some x) {us:List Value} (hu:us=cl y):(setL (cls R++[.int .i64 c.perm,.int .i64 c.base,.int .i64 c.len,.int .i64 c.at_,.int .i64 c.seal_,ms,ss,os]) (k*7) us).toArray=mcs (R.set k y) c ms ss os:=by
 have hk:k < 8:=by have:=(List.getElem?_eq_some_iff.1 hx).1;omega
 have e7:El.k ValV=7:=rfl
 have hl:us.length=7:=by rw [hu,El.len];rfl
 unfold mcs
 rw [zCj _ _ _ _ (by rw [zAk h8,hl];omega)]
 have:=zD1 (y:=y) (j:=0) (us:=us) hx (by rw [hl,e7];exact Nat.le_refl _) (by
  rw [hu,zGG _ _ _ (by rw [El.len,El.len,e7];exact Nat.le_refl _),List.take_zero,List.nil_append,List.drop_of_length_le (by rw [El.len,El.len];omega),List.append_nil])
 rw [e7,Nat.add_zero] at this
 rw [this]
theorem zIn {R:List ValV} {c d:KeyV} {ms ss os:Value} (h8:R.length=8):(setL (cls R++[.int .i64 c.perm,.int .i64 c.base,.int .i64 c.len,.int .i64 c.at_,.int .i64 c.seal_,ms,ss,os]) 56 [.int .i64 d.perm,.int .i64 d.base,.int .i64 d.len,.int .i64 d.at_,.int .i64 d.seal_]).toArray=mcs R d ms ss os:=by
 unfold mcs
 rw [show 56=(cls R).length+0 by rw [zAk h8],zCA]
 rfl
theorem zG7 {P:Program} {ops:Array Oper} {o:Oper} {a:Act} {w:World} {K:Act→World→Prop} {Q:Exit→Act→World→Prop} {E:Prop}
  (hgd:o.guard=none) (ty:TypeId) (x:Operand) (ho:o.op=.load ty x)
  (g off k:Nat) (hx:a.eval x=.pointer (some ⟨g,off,none⟩)) (t:TypeId) (cs:Array Value) (d:TypeDesc) (hg:w.heap[g]?=some (.cells cs t (0,0)))
  (hu:P.underlying ty=some d) (hd:(match d with | .struct _ | .array _ _=>true | _=>false)=true) (hi:(P.info? ty).map (·.size)=some k) (hk:off+k≤cs.size) (u:Array Value) (he:cs.extract off (off+k)=u)
  (hK:K (a.put o.dst (.agg u)) w):if Region.wanted o (yielded ops a.tmps)=true then Oper.wp P o a w K Q else E:=by
 have hw:Region.wanted o (yielded ops a.tmps)=true:=by simp [Region.wanted,hgd]
 rw [if_pos hw]
 exact zFG ty x ho g off k hx t cs d hg hu hd hi hk (he▸hK)
theorem zCZ {P:Program} {ops:Array Oper} {o:Oper} {a:Act} {w:World} {K:Act→World→Prop} {Q:Exit→Act→World→Prop} {E:Prop}
  (hgd:o.guard=none) (ty:TypeId) (x y:Operand) (ho:o.op=.store ty x y)
  (g:Nat) (cells:Array Value) (hx:a.eval x=.pointer (some ⟨g,0,none⟩)) (hy:a.eval y=.agg cells)
  (t:TypeId) (old:Array Value) (hg:w.heap[g]?=some (.cells old t (0,0))) (hi:(P.info? ty).map (·.size)=some cells.size)
  (hold:old.size=cells.size) (h1:cells.all (·.oneCell')=true)
  (hK:K (a.put o.dst undef) (w.setRow g cells)):if Region.wanted o (yielded ops a.tmps)=true then Oper.wp P o a w K Q else E:=by
 have hw:Region.wanted o (yielded ops a.tmps)=true:=by simp [Region.wanted,hgd]
 rw [if_pos hw]
 exact wp_store_row ty x y ho g cells hx hy t old hg hi hold h1 hK
theorem zKr {α:Type} [El α] {w:World} {base:Nat} {T:TypeId} {ao:Option Addr} {n cap:Nat} {xs:List α} (h:Own w base T (.slice ao n cap) xs) {k:Nat} {x:α} (hx:xs[k]?=some x) :
  ∃ g,ao=some ⟨g,0,none⟩∧xs.length=n∧base≤g∧g < w.heap.size∧(∀ j,w.frozen? ⟨g,j,none⟩=false)∧∀ j u,(cl x)[j]?=some u→w.cell? ⟨g,k*El.k α+j,none⟩=some u:=by
 have hk:k < xs.length:=(List.getElem?_eq_some_iff.1 hx).1
 obtain ⟨g,c,e,h1,h2,hs,hf⟩:=Own.some h (by omega)
 injection e with e1 e2 e3
 refine ⟨g,e1,e2.symm,h1,h2,hf,fun j u hu=>?_⟩
 obtain ⟨a,y,ea,_,hy,hc⟩:=hs.at hk
 injection ea with ea
 subst ea
 obtain rfl:y=x:=by rw [hx] at hy;injection hy with hy;exact hy.symm
 have:=hc j u hu
 rw [Addr.add_lit,Nat.zero_add] at this
 exact this
structure SwSt (w Z:World) (gm gb base:Nat) (TM TB TV TF TI:TypeId) (b n:Int) (vm vs vo:Value) (R:List ValV) (c:KeyV) (mem:List ValV) (stk:List FrameV) (out:List Int) (cnt:Int) (W:World):Prop where
 h8:R.length=8
 mB:Bk W gm TM (mcs R c vm vs vo)
 bB:Bk W gb TB #[.int .i64 b,.int .i64 n,.int .i64 cnt]
 om:Own W base TV vm mem
 os:Own W base TF vs stk
 oo:Own W base TI vo out
 bel:Below w.heap.size w W
 bs:base≤W.heap.size
 keep:∀ k,k < base→k≠gm→W.heap[k]?=Z.heap[k]?
section
variable {w Z:World} {gm gb base:Nat} {TM TB TV TF TI:TypeId} {b n:Int} {vm vs vo:Value} {R:List ValV} {c:KeyV} {mem:List ValV} {stk:List FrameV} {out:List Int} {cnt:Int} {W W1:World}
theorem SwSt.below (h:SwSt w Z gm gb base TM TB TV TF TI b n vm vs vo R c mem stk out cnt W) (hb:Below W.heap.size W W1):SwSt w Z gm gb base TM TB TV TF TI b n vm vs vo R c mem stk out cnt W1 :=
 ⟨h.h8,zH hb h.mB,zH hb h.bB,h.om.below hb,h.os.below hb,h.oo.below hb,zI h.bel hb,Nat.le_trans h.bs hb.size,fun k hk hn=>(hb.block k (Nat.lt_of_lt_of_le hk h.bs)).trans (h.keep k hk hn)⟩
end
end
section
open Go.RowKit
structure Fr (S:Nat→Prop) (w w':World):Prop where
 os:w'.os=w.os
 tape:w'.tape=w.tape
 output:w'.output=w.output
 size:w.heap.size≤w'.heap.size
 block:∀ k,k < w.heap.size→¬S k→w'.heap[k]?=w.heap[k]?
theorem Fr.refl (S:Nat→Prop) (w:World):Fr S w w:=⟨rfl,rfl,rfl,Nat.le_refl _,fun _ _ _=>rfl⟩
theorem Fr.trans {S S':Nat→Prop} {a b c:World} (h:Fr S a b) (k:Fr S' b c) (hs:∀ i,i < a.heap.size→S' i→S i):Fr S a c :=
 ⟨k.os.trans h.os,k.tape.trans h.tape,k.output.trans h.output,Nat.le_trans h.size k.size,fun i hi hn=>(k.block i (Nat.lt_of_lt_of_le hi h.size) (fun h'=>hn (hs i hi h'))).trans (h.block i hi hn)⟩
theorem Fr.of {S:Nat→Prop} {w w':World} (h:Below w.heap.size w w'):Fr S w w':=⟨h.os,h.tape,h.output,h.size,fun k hk _=>h.block k hk⟩
theorem Fr.grown {S:Nat→Prop} {w w':World} {row:Option Nat} (h:w.grownBy w' row) (hr:∀ k,row=some k→S k∨w.heap.size≤k):Fr S w w' :=
 ⟨h.os,h.tape,h.output,h.size,fun k hk hn=>h.block k hk (fun e=>by rcases hr k e.symm with h | h;exact hn h;omega)⟩
theorem Fr.drew (S:Nat→Prop) (w:World):Fr S w w.drew:=⟨rfl,rfl,rfl,Nat.le_refl _,fun _ _ _=>rfl⟩
theorem Fr.alloc (S:Nat→Prop) (w:World) (o:Obj):Fr S w (w.alloc o):=Fr.of ((Below.refl _ _).alloc (Nat.le_refl _) o)
theorem Fr.setCell {S:Nat→Prop} (w:World) {p:Addr} (hp:S p.block) (v:Value):Fr S w (w.setCell p v) :=
 ⟨rfl,rfl,rfl,by simp [World.setCell],fun k hk hn=>Below.heap_setCell w p v k (fun e=>hn (e▸hp))⟩
theorem Fr.setCells {S:Nat→Prop} (w:World) {g:Nat} (hp:S g) (i:Nat) (us:List Value):Fr S w (w.setCells g i us) :=
 Fr.grown (zAO g us i w) (fun k e=>by injection e with e;subst e;exact .inl hp)
theorem Fr.mono {S S':Nat→Prop} {a b:World} (h:Fr S a b) (hs:∀ i,i < a.heap.size→S i→S' i):Fr S' a b :=
 ⟨h.os,h.tape,h.output,h.size,fun i hi hn=>h.block i hi (fun h'=>hn (hs i hi h'))⟩
theorem Fr.below {S:Nat→Prop} {w0 a b:World} (h:Fr S a b) (hb:Below w0.heap.size w0 a) (hs:∀ i,S i→w0.heap.size≤i):Below w0.heap.size w0 b :=
 hb.trans ⟨h.os,h.tape,h.output,h.size,fun i hi=>h.block i (Nat.lt_of_lt_of_le hi hb.size) (fun h'=>by have:=hs i h';omega)⟩
theorem Fr.bk {S:Nat→Prop} {w w':World} (h:Fr S w w') {g:Nat} {T:TypeId} {cs:Array Value} (hb:Bk w g T cs) (hn:¬S g):Bk w' g T cs:=(h.block g hb.lt hn).trans hb
theorem zCo {α:Type} [El α] {w w':World} {base:Nat} {T:TypeId} {v:Value} {xs:List α} (h:Own w base T v xs) (hk:∀ g,v.ownBlock=some g→w'.heap[g]?=w.heap[g]?):Own w' base T v xs:=by
 refine ⟨h.1,?_⟩
 rcases h.2 with hn | ⟨g,cap,cur,h1,h2,h3,h4⟩
 ·exact .inl hn
 ·exact .inr ⟨g,cap,cur,h1,h2,(hk g (by rw [h1];rfl)).trans h3,h4⟩
theorem zB0 {α:Type} [El α] {w:World} {base:Nat} {T:TypeId} {v:Value} {xs:List α} (h:Own w base T v xs) {g:Nat} (hg:v.ownBlock=some g):base≤g∧g < w.heap.size:=by
 rcases h.form with ⟨rfl,_⟩ | ⟨g',cap,rfl,h1,h2,_⟩
 ·cases hg
 ·injection hg with hg;subst hg;exact ⟨h1,h2⟩
theorem Fr.own {S:Nat→Prop} {w w':World} (h:Fr S w w') {α:Type} [El α] {base:Nat} {T:TypeId} {v:Value} {xs:List α} (ho:Own w base T v xs) (hn:∀ g,v.ownBlock=some g→¬S g):Own w' base T v xs :=
 zCo ho fun g hg=>h.block g (zB0 ho hg).2 (hn g hg)
structure MSt (TM TV TF TI:TypeId) (base gm:Nat) (vm vs vo:Value) (m:MV) (W:World):Prop where
 h8:m.R.length=8
 mB:Bk W gm TM (mcs m.R m.c vm vs vo)
 om:Own W base TV vm m.mem
 os:Own W base TF vs m.stk
 oo:Own W base TI vo m.out
def mS (gm:Nat) (vm vs vo:Value) (k:Nat):Prop:=k=gm∨vm.ownBlock=some k∨vs.ownBlock=some k∨vo.ownBlock=some k
section
variable {TM TV TF TI:TypeId} {base gm:Nat} {vm vs vo:Value} {m:MV} {W W':World}
theorem zBZ {α:Type} [El α] {w:World} {base:Nat} {T:TypeId} {v:Value} {xs:List α} (h:Own w base T v xs) {k:Nat} {T':TypeId} {cs:Array Value} (hk:Bk w k T' cs) (hT:T'≠T):v.ownBlock≠some k:=by
 intro e
 rcases h.form with ⟨rfl,_⟩ | ⟨g',cap,rfl,_⟩
 ·cases e
 ·injection e with e;exact zKq h hk hT e
theorem MSt.not (h:MSt TM TV TF TI base gm vm vs vo m W) {g:Nat} {T:TypeId} {cs:Array Value} (hb:Bk W g T cs) (t1:T≠TM) (t2:T≠TV) (t3:T≠TF) (t4:T≠TI):¬mS gm vm vs vo g:=by
 rintro (rfl | e | e | e)
 ·exact zCQ hb h.mB t1 rfl
 ·exact zBZ h.om hb t2 e
 ·exact zBZ h.os hb t3 e
 ·exact zBZ h.oo hb t4 e
theorem MSt.fr (h:MSt TM TV TF TI base gm vm vs vo m W) {S:Nat→Prop} (hf:Fr S W W') (hs:∀ k,mS gm vm vs vo k→¬S k):MSt TM TV TF TI base gm vm vs vo m W' :=
 ⟨h.h8,hf.bk h.mB (hs _ (.inl rfl)),hf.own h.om fun g e=>hs g (.inr (.inl e)),hf.own h.os fun g e=>hs g (.inr (.inr (.inl e))),hf.own h.oo fun g e=>hs g (.inr (.inr (.inr e)))⟩
theorem MSt.below (h:MSt TM TV TF TI base gm vm vs vo m W) (hb:Below W.heap.size W W'):MSt TM TV TF TI base gm vm vs vo m W' :=
 ⟨h.h8,zH hb h.mB,h.om.below hb,h.os.below hb,h.oo.below hb⟩
theorem MSt.lt (h:MSt TM TV TF TI base gm vm vs vo m W) {k:Nat} (hk:mS gm vm vs vo k):k < W.heap.size:=by
 rcases hk with rfl | e | e | e
 ·exact h.mB.lt
 ·exact (zB0 h.om e).2
 ·exact (zB0 h.os e).2
 ·exact (zB0 h.oo e).2
theorem MSt.put (h:MSt TM TV TF TI base gm vm vs vo m W) (t2:TM≠TV) (t3:TM≠TF) (t4:TM≠TI) (i:Nat) (us:List Value) {m':MV} (h8:m'.R.length=8) (e1:m'.mem=m.mem) (e2:m'.stk=m.stk) (e3:m'.out=m.out)
  (e:(setL (cls m.R++[.int .i64 m.c.perm,.int .i64 m.c.base,.int .i64 m.c.len,.int .i64 m.c.at_,.int .i64 m.c.seal_,vm,vs,vo]) i us).toArray=mcs m'.R m'.c vm vs vo) :
  MSt TM TV TF TI base gm vm vs vo m' (W.setCells gm i us) :=
 ⟨h8,e▸zBp (w:=W) us _ i W h.mB,e1▸zAa h.om h.mB t2 i us,e2▸zAa h.os h.mB t3 i us,e3▸zAa h.oo h.mB t4 i us⟩
end
end
section
open Go.RowKit
structure NamV where
 name:ByteArray
 at_:Int
structure ModV where
 code:List Int
 data:List Int
 ex:List NamV
 im:List NamV
structure PlaceV where
 base:Int
 code:Int
 data:Int
 seal_:Int
deriving DecidableEq
structure EntryV where
 name:ByteArray
 code:KeyV
 data:KeyV
deriving DecidableEq
def zeroE:EntryV:=⟨ByteArray.empty,zeroK,zeroK⟩
def ModV.cells (m:ModV):List Int:=m.code++m.data
def total (ms:List ModV):Nat:=(ms.map fun m=>m.code.length+m.data.length).sum
def zAK (ms:List ModV):List ByteArray:=ms.flatMap fun m=>m.ex.map (·.name)
def zDo (ms:List ModV):List ByteArray:=ms.flatMap fun m=>m.im.map (·.name)
def zDv (l:List Int):Prop:=∀ n∈l,-2147483648≤n∧n≤2147483647
structure ModOk (nm:ByteArray→Bool) (m:ModV):Prop where
 l1:m.code.length≤120
 l2:m.data.length≤60
 l3:m.ex.length≤20
 l4:m.im.length≤20
 n1:zDv m.code
 n2:zDv m.data
 e1:∀ x∈m.ex,nm x.name=true∧0≤x.at_∧x.at_ < m.code.length
 e2:m.ex.Pairwise fun x y=>x.name≠y.name
 i1:∀ x∈m.im,nm x.name=true∧0≤x.at_∧x.at_≤(m.data.length:Int) - 2
 i2:m.im.Pairwise fun x y=>x.at_+2≤y.at_∨y.at_+2≤x.at_
structure LinkOk (nm:ByteArray→Bool) (ms:List ModV):Prop where
 l:ms.length≤8
 m:∀ m∈ms,ModOk nm m
 nd:(zAK ms).Nodup
 t:total ms≤400
 im:∀ x∈zDo ms,x∈zAK ms
theorem zCr:total []=0:=rfl
theorem zBk (m:ModV) (ms:List ModV):total (m::ms)=m.code.length+m.data.length+total ms:=by unfold total;simp
theorem zEj (a b:List ModV):total (a++b)=total a+total b:=by unfold total;simp
theorem zJY (a:List ModV) (m:ModV):total (a++[m])=total a+(m.code.length+m.data.length):=by rw [zEj];rw [zBk,zCr];omega
theorem zGQ (a b:List ModV):zAK (a++b)=zAK a++zAK b:=by unfold zAK;simp
theorem zH3 (a:List ModV) (m:ModV):zAK (a++[m])=zAK a++m.ex.map (·.name):=by unfold zAK;simp
def zDC (b n:Nat) (m:ModV):PlaceV:=⟨b,m.code.length,m.data.length,n+1⟩
def zA8:Nat→Nat→List ModV→List PlaceV
 | _,_,[]=>[]
 | b,n,m::ms=>zDC b n m::zA8 (b+(m.code.length+m.data.length)) (n+1) ms
def zBx (b n:Nat) (m:ModV) (x:NamV):EntryV:=⟨x.name,⟨5,b,m.code.length,b+x.at_,n+1⟩,⟨27,b+m.code.length,m.data.length,b+m.code.length,n+1⟩⟩
def zAQ:Nat→Nat→List ModV→List EntryV
 | _,_,[]=>[]
 | b,n,m::ms=>m.ex.map (zBx b n m)++zAQ (b+(m.code.length+m.data.length)) (n+1) ms
def zB4 (ms:List ModV):List ValV:=ms.flatMap fun m=>m.cells.map ValV.num
def zBD (es:List EntryV) (s:ByteArray):Option EntryV:=es.find? fun x=>decide (x.name=s)
def zDL (es:List EntryV) (b:Nat) (mem:List ValV) (x:NamV):List ValV :=
 let e:=(zBD es x.name).getD zeroE
 (mem.set (b+x.at_.toNat) ⟨true,0,e.code⟩).set (b+x.at_.toNat+1) ⟨true,0,e.data⟩
def zCh (es:List EntryV) (b:Nat) (mem:List ValV) (l:List NamV):List ValV:=l.foldl (zDL es b) mem
def zB8 (es:List EntryV):Nat→List ValV→List ModV→List ValV
 | _,mem,[]=>mem
 | b,mem,m::ms=>zB8 es (b+(m.code.length+m.data.length)) (zCh es (b+m.code.length) mem m.im) ms
def zBL (ms:List ModV):List ValV:=zB8 (zAQ 0 0 ms) 0 (zB4 ms) ms
theorem zEs (m:ModV):∀ (ms:List ModV) (b n:Nat),zA8 b n (ms++[m])=zA8 b n ms++[zDC (b+total ms) (n+ms.length) m]
 | [],b,n=>by simp [zA8,zCr]
 | x::ms,b,n=>by
  rw [List.cons_append,zA8,zEs m ms,zA8,zBk,List.cons_append,List.length_cons]
  congr 4<;>omega
theorem zEd (m:ModV):∀ (ms:List ModV) (b n:Nat),zAQ b n (ms++[m])=zAQ b n ms++m.ex.map (zBx (b+total ms) (n+ms.length) m)
 | [],b,n=>by simp [zAQ,zCr]
 | x::ms,b,n=>by
  rw [List.cons_append,zAQ,zEd m ms,zAQ,zBk,List.append_assoc,List.length_cons]
  congr 4<;>omega
theorem zFl (es:List EntryV) (m:ModV):∀ (ms:List ModV) (b:Nat) (mem:List ValV),zB8 es b mem (ms++[m])=zCh es (b+total ms+m.code.length) (zB8 es b mem ms) m.im
 | [],b,mem=>by simp [zB8,zCr]
 | x::ms,b,mem=>by
  rw [List.cons_append,zB8,zFl es m ms,zB8,zBk]
  congr 2;omega
theorem zFJ (ms:List ModV):∀ b n,(zA8 b n ms).length=ms.length:=by
 induction ms with
 | nil=>intro b n;rfl
 | cons m ms ih=>intro b n;rw [zA8,List.length_cons,List.length_cons,ih]
theorem zFx:∀ (ms:List ModV) (b n i:Nat) (m:ModV),ms[i]?=some m→(zA8 b n ms)[i]?=some (zDC (b+total (ms.take i)) (n+i) m)
 | [],b,n,i,m,h=>by simp at h
 | x::ms,b,n,0,m,h=>by simp at h;subst h;simp [zA8,zCr]
 | x::ms,b,n,i+1,m,h=>by
  rw [zA8,List.getElem?_cons_succ,zFx ms _ _ i m (by simpa using h),List.take_succ_cons,zBk]
  congr 2<;>omega
theorem zFa (ms:List ModV):(zB4 ms).length=total ms:=by
 induction ms with
 | nil=>rfl
 | cons m ms ih =>
  unfold zB4 at ih ⊢
  rw [List.flatMap_cons,List.length_append,ih,zBk]
  simp [ModV.cells]
theorem zK3 (ms:List ModV) (m:ModV):zB4 (ms++[m])=zB4 ms++m.cells.map ValV.num:=by unfold zB4;simp
theorem zKP (es:List EntryV) (b:Nat) (mem:List ValV) (x:NamV):(zDL es b mem x).length=mem.length:=by unfold zDL;simp
theorem zEg (es:List EntryV) (b:Nat):∀ (l:List NamV) (mem:List ValV),(zCh es b mem l).length=mem.length
 | [],mem=>rfl
 | x::l,mem=>by
  show (zCh es b (zDL es b mem x) l).length=_
  rw [zEg es b l,zKP]
theorem zJX (es:List EntryV) (b:Nat) (l:List NamV) (mem:List ValV) (x:NamV):zCh es b mem (l++[x])=zDL es b (zCh es b mem l) x:=by unfold zCh;simp
theorem zEh (es:List EntryV):∀ (ms:List ModV) (b:Nat) (mem:List ValV),(zB8 es b mem ms).length=mem.length
 | [],b,mem=>rfl
 | m::ms,b,mem=>by rw [zB8,zEh es ms,zEg]
theorem zIo (ms:List ModV):(zBL ms).length=total ms:=by unfold zBL;rw [zEh,zFa]
theorem zDQ (ms:List ModV) (i:Nat):total (ms.take i)≤total ms:=by
 have:total ms=total (ms.take i)+total (ms.drop i):=by rw [←zEj,List.take_append_drop]
 omega
theorem zCy {ms:List ModV} {i:Nat} {m:ModV} (h:ms[i]?=some m):total (ms.take (i+1))=total (ms.take i)+(m.code.length+m.data.length):=by
 rw [List.take_add_one,h]
 exact zJY _ _
end
section
open El (cl)
open Go.RowKit
instance:El NamV where
 k:=2
 cl x:=[.string x.name,.int .i64 x.at_]
 z:=⟨ByteArray.empty,0⟩
 len _:=rfl
 one _:=by intro u hu;simp at hu;rcases hu with rfl | rfl<;>rfl
 pos:=by decide
instance:Inhabited NamV:=⟨⟨ByteArray.empty,0⟩⟩
theorem zIK (a:Addr) (i j:Nat) (hj:0 < j):a.add (i+j)=⟨(a.add i).block,(a.add i).off+j,none⟩:=by
 unfold Addr.add
 rw [if_neg (by omega)]
 by_cases hi:i=0
 ·subst hi;simp
 ·rw [if_neg hi];simp [Nat.add_assoc]
theorem zCa {w:World} {ao:Option Addr} {n:Nat} {ks:List NamV} (h:Sl w ao n ks) {i:Nat} (hi:i < n) {x:NamV} (hx:ks[i]?=some x):∃ a,ao=some a∧(a.add (i*2)).block < w.heap.size ∧
  w.cell? (a.add (i*2))=some (.string x.name)∧w.cell? ⟨(a.add (i*2)).block,(a.add (i*2)).off+1,none⟩=some (.int .i64 x.at_):=by
 obtain ⟨a,y,e,hb,hy,hc⟩:=h.at hi
 obtain rfl:y=x:=by rw [hx] at hy;injection hy with hy;exact hy.symm
 refine ⟨a,e,by rw [zBH];exact hb,?_⟩
 rw [←zIK a (i*2) 1 (by decide)]
 exact ⟨hc 0 _ rfl,hc 1 _ rfl⟩
instance:El PlaceV where
 k:=4
 cl x:=[.int .i64 x.base,.int .i64 x.code,.int .i64 x.data,.int .i64 x.seal_]
 z:=⟨0,0,0,0⟩
 len _:=rfl
 one _:=by intro u hu;simp at hu;rcases hu with rfl | rfl | rfl | rfl<;>rfl
 pos:=by decide
instance:Inhabited PlaceV:=⟨⟨0,0,0,0⟩⟩
theorem zDJ (a:Addr) (i j:Nat) (hj:0 < j):a.add (i+j)=⟨(a.add i).block,(a.add i).off+j,none⟩:=by
 unfold Addr.add
 rw [if_neg (by omega)]
 by_cases hi:i=0
 ·subst hi;simp
 ·rw [if_neg hi];simp [Nat.add_assoc]
theorem zKY {w:World} {ao:Option Addr} {n:Nat} {ks:List PlaceV} (h:Sl w ao n ks) {i:Nat} (hi:i < n) {x:PlaceV} (hx:ks[i]?=some x):∃ a,ao=some a∧(a.add (i*4)).block < w.heap.size ∧
  w.cell? (a.add (i*4))=some (.int .i64 x.base)∧w.cell? ⟨(a.add (i*4)).block,(a.add (i*4)).off+1,none⟩=some (.int .i64 x.code)∧w.cell? ⟨(a.add (i*4)).block,(a.add (i*4)).off+2,none⟩=some (.int .i64 x.data)∧w.cell? ⟨(a.add (i*4)).block,(a.add (i*4)).off+3,none⟩=some (.int .i64 x.seal_):=by
 obtain ⟨a,y,e,hb,hy,hc⟩:=h.at hi
 obtain rfl:y=x:=by rw [hx] at hy;injection hy with hy;exact hy.symm
 refine ⟨a,e,by rw [zBH];exact hb,?_⟩
 rw [←zDJ a (i*4) 1 (by decide),←zDJ a (i*4) 2 (by decide),←zDJ a (i*4) 3 (by decide)]
 exact ⟨hc 0 _ rfl,hc 1 _ rfl,hc 2 _ rfl,hc 3 _ rfl⟩
instance:El EntryV where
 k:=11
 cl x:=[.string x.name,.int .i64 x.code.perm,.int .i64 x.code.base,.int .i64 x.code.len,.int .i64 x.code.at_,.int .i64 x.code.seal_,.int .i64 x.data.perm,.int .i64 x.data.base,.int .i64 x.data.len,.int .i64 x.data.at_,.int .i64 x.data.seal_]
 z:=zeroE
 len _:=rfl
 one _:=by intro u hu;simp at hu;rcases hu with rfl | rfl | rfl | rfl | rfl | rfl | rfl | rfl | rfl | rfl | rfl<;>rfl
 pos:=by decide
instance:Inhabited EntryV:=⟨zeroE⟩
theorem zA3 (a:Addr) (i j:Nat) (hj:0 < j):a.add (i+j)=⟨(a.add i).block,(a.add i).off+j,none⟩:=by
 unfold Addr.add
 rw [if_neg (by omega)]
 by_cases hi:i=0
 ·subst hi;simp
 ·rw [if_neg hi];simp [Nat.add_assoc]
theorem zGm {w:World} {ao:Option Addr} {n:Nat} {ks:List EntryV} (h:Sl w ao n ks) {i:Nat} (hi:i < n) {x:EntryV} (hx:ks[i]?=some x):∃ a,ao=some a∧(a.add (i*11)).block < w.heap.size ∧
  w.cell? (a.add (i*11))=some (.string x.name)∧w.cell? ⟨(a.add (i*11)).block,(a.add (i*11)).off+1,none⟩=some (.int .i64 x.code.perm)∧w.cell? ⟨(a.add (i*11)).block,(a.add (i*11)).off+2,none⟩=some (.int .i64 x.code.base)∧w.cell? ⟨(a.add (i*11)).block,(a.add (i*11)).off+3,none⟩=some (.int .i64 x.code.len)∧w.cell? ⟨(a.add (i*11)).block,(a.add (i*11)).off+4,none⟩=some (.int .i64 x.code.at_)∧w.cell? ⟨(a.add (i*11)).block,(a.add (i*11)).off+5,none⟩=some (.int .i64 x.code.seal_)∧w.cell? ⟨(a.add (i*11)).block,(a.add (i*11)).off+6,none⟩=some (.int .i64 x.data.perm)∧w.cell? ⟨(a.add (i*11)).block,(a.add (i*11)).off+7,none⟩=some (.int .i64 x.data.base)∧w.cell? ⟨(a.add (i*11)).block,(a.add (i*11)).off+8,none⟩=some (.int .i64 x.data.len)∧w.cell? ⟨(a.add (i*11)).block,(a.add (i*11)).off+9,none⟩=some (.int .i64 x.data.at_)∧w.cell? ⟨(a.add (i*11)).block,(a.add (i*11)).off+10,none⟩=some (.int .i64 x.data.seal_):=by
 obtain ⟨a,y,e,hb,hy,hc⟩:=h.at hi
 obtain rfl:y=x:=by rw [hx] at hy;injection hy with hy;exact hy.symm
 refine ⟨a,e,by rw [zBH];exact hb,?_⟩
 rw [←zA3 a (i*11) 1 (by decide),←zA3 a (i*11) 2 (by decide),←zA3 a (i*11) 3 (by decide),←zA3 a (i*11) 4 (by decide),←zA3 a (i*11) 5 (by decide),←zA3 a (i*11) 6 (by decide),←zA3 a (i*11) 7 (by decide),←zA3 a (i*11) 8 (by decide),←zA3 a (i*11) 9 (by decide),←zA3 a (i*11) 10 (by decide)]
 exact ⟨hc 0 _ rfl,hc 1 _ rfl,hc 2 _ rfl,hc 3 _ rfl,hc 4 _ rfl,hc 5 _ rfl,hc 6 _ rfl,hc 7 _ rfl,hc 8 _ rfl,hc 9 _ rfl,hc 10 _ rfl⟩
structure SlR where
 a:Option Addr
 n:Nat
 c:Nat
def SlR.val (s:SlR):Value:=.slice s.a s.n s.c
structure ModR where
 code:SlR
 data:SlR
 ex:SlR
 im:SlR
instance:El ModR where
 k:=4
 cl x:=[.slice x.code.a x.code.n x.code.c,.slice x.data.a x.data.n x.data.c,.slice x.ex.a x.ex.n x.ex.c,.slice x.im.a x.im.n x.im.c]
 z:=⟨⟨none,0,0⟩,⟨none,0,0⟩,⟨none,0,0⟩,⟨none,0,0⟩⟩
 len _:=rfl
 one _:=by intro u hu;simp at hu;rcases hu with rfl | rfl | rfl | rfl<;>rfl
 pos:=by decide
instance:Inhabited ModR:=⟨⟨⟨none,0,0⟩,⟨none,0,0⟩,⟨none,0,0⟩,⟨none,0,0⟩⟩⟩
theorem zDy (a:Addr) (i j:Nat) (hj:0 < j):a.add (i+j)=⟨(a.add i).block,(a.add i).off+j,none⟩:=by
 unfold Addr.add
 rw [if_neg (by omega)]
 by_cases hi:i=0
 ·subst hi;simp
 ·rw [if_neg hi];simp [Nat.add_assoc]
theorem zEB {w:World} {ao:Option Addr} {n:Nat} {ks:List ModR} (h:Sl w ao n ks) {i:Nat} (hi:i < n) {x:ModR} (hx:ks[i]?=some x):∃ a,ao=some a∧(a.add (i*4)).block < w.heap.size ∧
  w.cell? (a.add (i*4))=some (.slice x.code.a x.code.n x.code.c)∧w.cell? ⟨(a.add (i*4)).block,(a.add (i*4)).off+1,none⟩=some (.slice x.data.a x.data.n x.data.c)∧w.cell? ⟨(a.add (i*4)).block,(a.add (i*4)).off+2,none⟩=some (.slice x.ex.a x.ex.n x.ex.c)∧w.cell? ⟨(a.add (i*4)).block,(a.add (i*4)).off+3,none⟩=some (.slice x.im.a x.im.n x.im.c):=by
 obtain ⟨a,y,e,hb,hy,hc⟩:=h.at hi
 obtain rfl:y=x:=by rw [hx] at hy;injection hy with hy;exact hy.symm
 refine ⟨a,e,by rw [zBH];exact hb,?_⟩
 rw [←zDy a (i*4) 1 (by decide),←zDy a (i*4) 2 (by decide),←zDy a (i*4) 3 (by decide)]
 exact ⟨hc 0 _ rfl,hc 1 _ rfl,hc 2 _ rfl,hc 3 _ rfl⟩
structure NamV.wf (x:NamV):Prop where
 name:x.name.size≤9223372036854775807
 at_:I64 x.at_
structure ModR.has (w:World) (r:ModR) (m:ModV):Prop where
 code:Sl w r.code.a r.code.n m.code
 data:Sl w r.data.a r.data.n m.data
 ex:Sl w r.ex.a r.ex.n m.ex
 im:Sl w r.im.a r.im.n m.im
 le:r.code.n≤r.code.c∧r.data.n≤r.data.c∧r.ex.n≤r.ex.c∧r.im.n≤r.im.c
 wc:∀ n∈m.code,I64 n
 wd:∀ n∈m.data,I64 n
 we:∀ x∈m.ex,x.wf
 wi:∀ x∈m.im,x.wf
theorem ModR.has.below {w w':World} {r:ModR} {m:ModV} (h:r.has w m) (hb:Below w.heap.size w w'):r.has w' m :=
 ⟨h.code.below hb,h.data.below hb,h.ex.below hb,h.im.below hb,h.le,h.wc,h.wd,h.we,h.wi⟩
structure Mods (w:World) (ao:Option Addr) (n:Nat) (rs:List ModR) (ms:List ModV):Prop where
 sl:Sl w ao n rs
 len:rs.length=ms.length
 at_:∀ (i:Nat) (r:ModR) (m:ModV),rs[i]?=some r→ms[i]?=some m→r.has w m
theorem Mods.below {w w':World} {ao:Option Addr} {n:Nat} {rs:List ModR} {ms:List ModV} (h:Mods w ao n rs ms) (hb:Below w.heap.size w w'):Mods w' ao n rs ms :=
 ⟨h.sl.below hb,h.len,fun i r m h1 h2=>(h.at_ i r m h1 h2).below hb⟩
theorem Mods.n {w:World} {ao:Option Addr} {n:Nat} {rs:List ModR} {ms:List ModV} (h:Mods w ao n rs ms):ms.length=n:=by rw [←h.len];exact h.sl.len
theorem Mods.get {w:World} {ao:Option Addr} {n:Nat} {rs:List ModR} {ms:List ModV} (h:Mods w ao n rs ms) {i:Nat} (hi:i < n):∃ r m,rs[i]?=some r∧ms[i]?=some m∧r.has w m:=by
 have h1:=h.n
 have h2:=h.len
 exact ⟨_,_,List.getElem?_eq_getElem (by omega),List.getElem?_eq_getElem (by omega),h.at_ i _ _ (List.getElem?_eq_getElem (by omega)) (List.getElem?_eq_getElem (by omega))⟩
end
end Go.Proofs.YtlpejagkadalbaaGreatDoor
