import Derived.Test.YtlpejagkadalbaaGreatDoorZk39
set_option maxHeartbeats 40000000
set_option maxRecDepth 100000
set_option linter.unusedVariables false
set_option linter.unusedSimpArgs false
namespace Go.Proofs.YtlpejagkadalbaaGreatDoor
section
open El (cl)
open Go.RowKit
def zC3 (E:List EntryV) (M:List ValV) (js:List JobV):List ValV:=js.foldl (fun M j=>(doF M E j.name j.args j.fuel).2) M
def zBi (E:List EntryV):List ValV→List JobV→List DoneV
 | _,[]=>[]
 | M,j::js=>(doF M E j.name j.args j.fuel).1::zBi E (doF M E j.name j.args j.fuel).2 js
theorem zK1 (E:List EntryV) (M:List ValV) (js:List JobV) (j:JobV):zC3 E M (js++[j])=(doF (zC3 E M js) E j.name j.args j.fuel).2:=by unfold zC3;simp
theorem zFR (E:List EntryV) (j:JobV):∀ (js:List JobV) (M:List ValV),zBi E M (js++[j])=zBi E M js++[(doF (zC3 E M js) E j.name j.args j.fuel).1]
 | [],M=>rfl
 | x::js,M=>by
  rw [List.cons_append,zBi,zBi,zFR E j js,List.cons_append]
  rfl
theorem zDi (E:List EntryV):∀ (js:List JobV) (M:List ValV),(zBi E M js).length=js.length
 | [],_=>rfl
 | j::js,M=>by rw [zBi,List.length_cons,List.length_cons,zDi E js]
theorem zK2 {E:List EntryV} {M:List ValV} {js:List JobV} {k:Nat} {j:JobV} (h:js[k]?=some j):zC3 E M (js.take (k+1))=(doF (zC3 E M (js.take k)) E j.name j.args j.fuel).2:=by
 rw [List.take_add_one,h]
 exact zK1 _ _ _ _
theorem zI3 {E:List EntryV} {M:List ValV} {js:List JobV} {k:Nat} {j:JobV} (h:js[k]?=some j):zBi E M (js.take (k+1))=zBi E M (js.take k)++[(doF (zC3 E M (js.take k)) E j.name j.args j.fuel).1]:=by
 rw [List.take_add_one,h]
 exact zFR _ _ _ _
theorem zJK {E:List EntryV}:∀ {js:List JobV} {M:List ValV},ImOk M E→ImOk (zC3 E M js) E
 | [],_,h=>h
 | j::js,M,h=>by
  show ImOk (zC3 E (doF M E j.name j.args j.fuel).2 js) E
  exact zJK ⟨zI2 h.m,h.e,h.k⟩
structure DoneR where
 e:Int
 n:Int
 out:SlR
 fuel:Int
instance:El DoneR where
 k:=4
 cl x:=[.int .i64 x.e,.int .i64 x.n,.slice x.out.a x.out.n x.out.c,.int .i64 x.fuel]
 z:=⟨0,0,⟨none,0,0⟩,0⟩
 len _:=rfl
 one _:=by intro u hu;simp at hu;rcases hu with rfl | rfl | rfl | rfl<;>rfl
 pos:=by decide
instance:Inhabited DoneR:=⟨⟨0,0,⟨none,0,0⟩,0⟩⟩
theorem zDb (a:Addr) (i j:Nat) (hj:0 < j):a.add (i+j)=⟨(a.add i).block,(a.add i).off+j,none⟩:=by
 unfold Addr.add
 rw [if_neg (by omega)]
 by_cases hi:i=0
 ·subst hi;simp
 ·rw [if_neg hi];simp [Nat.add_assoc]
theorem zLq {w:World} {ao:Option Addr} {n:Nat} {ks:List DoneR} (h:Sl w ao n ks) {i:Nat} (hi:i < n) {x:DoneR} (hx:ks[i]?=some x):∃ a,ao=some a∧(a.add (i*4)).block < w.heap.size ∧
  w.cell? (a.add (i*4))=some (.int .i64 x.e)∧w.cell? ⟨(a.add (i*4)).block,(a.add (i*4)).off+1,none⟩=some (.int .i64 x.n)∧w.cell? ⟨(a.add (i*4)).block,(a.add (i*4)).off+2,none⟩=some (.slice x.out.a x.out.n x.out.c)∧w.cell? ⟨(a.add (i*4)).block,(a.add (i*4)).off+3,none⟩=some (.int .i64 x.fuel):=by
 obtain ⟨a,y,e,hb,hy,hc⟩:=h.at hi
 obtain rfl:y=x:=by rw [hx] at hy;injection hy with hy;exact hy.symm
 refine ⟨a,e,by rw [zBH];exact hb,?_⟩
 rw [←zDb a (i*4) 1 (by decide),←zDb a (i*4) 2 (by decide),←zDb a (i*4) 3 (by decide)]
 exact ⟨hc 0 _ rfl,hc 1 _ rfl,hc 2 _ rfl,hc 3 _ rfl⟩
structure DoneR.has (W:World) (base:Nat) (r:DoneR) (x:DoneV):Prop where
 e:r.e=x.e
 n:r.n=x.n
 fuel:r.fuel=x.fuel
 out:Own W base 3 (.slice r.out.a r.out.n r.out.c) x.out
structure Dones (W:World) (base:Nat) (rs:List DoneR) (ds:List DoneV):Prop where
 len:rs.length=ds.length
 at_:∀ (i:Nat) (r:DoneR) (x:DoneV),rs[i]?=some r→ds[i]?=some x→r.has W base x
section
variable {W W':World} {base:Nat} {rs:List DoneR} {ds:List DoneV}
theorem Dones.nil:Dones W base [] []:=⟨rfl,fun i r x h=>by simp at h⟩
theorem Dones.map (h:Dones W base rs ds) (f:∀ (v:Value) (xs:List Int),Own W base 3 v xs→Own W' base 3 v xs):Dones W' base rs ds :=
 ⟨h.len,fun i r x h1 h2=>by have:=h.at_ i r x h1 h2;exact ⟨this.e,this.n,this.fuel,f _ _ this.out⟩⟩
theorem Dones.below (h:Dones W base rs ds) (hb:Below W.heap.size W W'):Dones W' base rs ds:=h.map fun v xs o=>o.below hb
theorem Dones.mono {b':Nat} (h:Dones W base rs ds) (hb:b'≤base):Dones W b' rs ds :=
 ⟨h.len,fun i r x h1 h2=>by have:=h.at_ i r x h1 h2;exact ⟨this.e,this.n,this.fuel,this.out.mono hb⟩⟩
theorem Dones.cell (h:Dones W base rs ds) {k:Nat} {T:TypeId} {cs:Array Value} (hb:Bk W k T cs) (hT:T≠3) (i:Nat) (u:Value):Dones (W.setCell ⟨k,i,none⟩ u) base rs ds:=h.map fun v xs o=>zAS o hb hT i u
theorem Dones.snoc (h:Dones W base rs ds) {r:DoneR} {x:DoneV} (hx:r.has W base x):Dones W base (rs++[r]) (ds++[x]):=by
 refine ⟨by rw [List.length_append,List.length_append,h.len];rfl,fun i r' x' h1 h2=>?_⟩
 have hl:=h.len
 rcases Nat.lt_or_ge i rs.length with hi | hi
 ·rw [List.getElem?_append_left hi] at h1
  rw [List.getElem?_append_left (by omega)] at h2
  exact h.at_ i r' x' h1 h2
 ·rw [List.getElem?_append_right hi] at h1
  rw [List.getElem?_append_right (by omega)] at h2
  have h0:i - rs.length=0:=by
   have:=(List.getElem?_eq_some_iff.1 h1).1
   simp at this
   omega
  rw [h0] at h1
  rw [show i - ds.length=0 by omega] at h2
  simp at h1 h2
  subst h1 h2
  exact hx
end
theorem zJk {α β:Type} [El α] [El β] {w:World} {b b':Nat} {T T':TypeId} {v u:Value} {xs:List α} {ys:List β} (h:Own w b T v xs) (h':Own w b' T' u ys) (hT:T≠T'):v.ownBlock=none∨v.ownBlock≠u.ownBlock:=by
 cases hv:v.ownBlock with
 | none=>exact .inl rfl
 | some k =>
  right
  intro e
  obtain ⟨cur,fr,h1⟩:=zEF h hv
  obtain ⟨cur',fr',h2⟩:=zEF h' e.symm
  rw [h1] at h2
  injection h2 with h2
  injection h2 with _ h2
  exact hT h2
theorem zMN (w:World) (r:DoneR) (T:TypeId):Sl (w.alloc (.cells #[.int .i64 r.e,.int .i64 r.n,.slice r.out.a r.out.n r.out.c,.int .i64 r.fuel] T)) (some ⟨w.heap.size,0,none⟩) 1 [r]:=by
 have h0:=zBw (xs:=[r]) w T 0 (Nat.zero_le _) #[.int .i64 r.e,.int .i64 r.n,.slice r.out.a r.out.n r.out.c,.int .i64 r.fuel] 1 rfl (by decide) rfl
 obtain ⟨ao,c,e,h,_⟩:=h0.sl
 injection e with e _ _
 subst e
 simpa using h
end
section
open Go Go.RowKit
abbrev zO0:List UInt8:=[105,110,99,58,10,108,111,97,100,32,114,49,32,114,55,32,48,10,115,101,116,32,114,50,32,49,10,97,100,100,32,114,49,32,114,49,32,114,50,10,115,116,111,114,101,32,114,49,32,114,55,32,48,10,99,111,112,121,32,114,48,32,114,49,10,99,108,101,97,114,32,54,10,98,97,99,107,10,103,101,116,58,10,108,111,97,100,32,114,48,32,114,55,32,48,10,98,97,99,107]
abbrev zB5:ByteArray:=⟨#[105,110,99]⟩
abbrev zCV:ByteArray:=⟨#[103,101,116]⟩
def codeC:List Int:=[zBC ⟨10,1,7,0⟩,zBC ⟨1,2,0,1⟩,zBC ⟨3,1,1,2⟩,zBC ⟨11,1,7,0⟩,zBC ⟨2,0,1,0⟩,zBC ⟨21,0,0,6⟩,zBC ⟨19,0,0,0⟩,zBC ⟨10,0,7,0⟩,zBC ⟨19,0,0,0⟩]
theorem zOK:zEQ zO0=⟨codeC,[⟨zB5,0⟩,⟨zCV,7⟩],0,0⟩:=by kernel_rfl
def zA6 (n:Int):ModV:=⟨codeC,[n],[⟨zB5,0⟩,⟨zCV,7⟩],[]⟩
theorem codeC_ok:codeC.length=9∧zDv codeC:=by
 have h:(codeC.all fun n=>decide (-2147483648≤n∧n≤2147483647))=true:=by kernel_rfl
 exact ⟨rfl,fun n hn=>of_decide_eq_true (List.all_eq_true.1 h n hn)⟩
theorem names_C:zW zB5=true∧zW zCV=true:=⟨by kernel_rfl,by kernel_rfl⟩
theorem zJJ {n:Int} (h : -2147483648≤n∧n≤2147483647):ModOk zW (zA6 n):=by
 obtain ⟨c1,c2⟩:=codeC_ok
 refine ⟨by show codeC.length≤120;omega,by simp [zA6],by simp [zA6],by simp [zA6],c2,(fun x hx=>by simp [zA6] at hx;subst hx;exact h),(fun x hx=>?_),?_,(fun x hx=>by simp [zA6] at hx),by simp [zA6]⟩
 ·simp [zA6] at hx
  rcases hx with rfl | rfl
  ·exact ⟨names_C.1,by decide,by show (0:Int) < (codeC.length:Int);omega⟩
  ·exact ⟨names_C.2,by decide,by show (7:Int) < (codeC.length:Int);omega⟩
 ·show List.Pairwise _ [(⟨zB5,0⟩:NamV),⟨zCV,7⟩]
  simp
theorem zHr {n:Int} (h : -2147483648≤n∧n≤2147483647):LinkOk zW [zA6 n]:=by
 refine ⟨by simp,fun m hm=>by simp at hm;subst hm;exact zJJ h,?_,?_,by simp [zDo,zA6]⟩
 ·show [zB5,zCV].Nodup
  decide
 ·rw [zBk,zCr]
  show codeC.length+1+0≤400
  have:=codeC_ok.1
  omega
abbrev zD4:List JobV:=[⟨zB5,[],50⟩,⟨zB5,[],50⟩,⟨zCV,[],50⟩]
theorem counts:(zBi (zAQ 0 0 [zA6 5]) (zBL [zA6 5]) zD4).map (fun d=>(d.e,d.n))=[(0,6),(0,7),(0,7)]:=by kernel_rfl
theorem zJ2:(zC3 (zAQ 0 0 [zA6 5]) (zBL [zA6 5]) zD4).length=(zBL [zA6 5]).length:=by kernel_rfl
end
section
open Go.RowKit
def zOu:KeyV:=⟨5,0,9,0,1⟩
def zOv:KeyV:=⟨5,0,9,7,1⟩
def zOw:KeyV:=⟨27,9,1,9,1⟩
def cS (k:KeyV):Prop:=k=zOu∨k=zOv∨k=zOw
def cG (lc ld:Nat) (k:KeyV):Prop:=(∃ a s,k=⟨5,10,lc,a,s⟩)∨∃ a s,k=⟨27,10+lc,ld,a,s⟩
section
variable {lc ld:Nat} {m n:MV} {i:InstV} {t:Int}
structure InC (lc ld:Nat) (t:Int) (p:Int) (m:MV):Prop where
 c:m.c=⟨5,0,9,p,0⟩
 p:p=0∨(p=1∧m.reg 1=nV t)∨(p=2∧m.reg 1=nV t∧m.reg 2=nV 1)∨(p=3∧m.reg 1=nV (t+1))∨p=4∨p=5∨p=6∨p=7∨p=8
 r7:m.reg 7=kV ⟨27,9,1,9,0⟩
 regs:∀ r:Nat,r < 7→HasV cS (cG lc ld) (m.reg r)
 stk:∀ f∈m.stk,(f.code.seal_=0∧DomT (cG lc ld) f.code)∧HasV cS (cG lc ld) f.data
 mem:∀ j:Nat,HasV cS (cG lc ld) (m.mem.getD j zeroV)
theorem zHZ (m:MV) (r:Nat):m.reg (r:Int)=m.R.getD r zeroV:=by unfold MV.reg;rw [Int.toNat_natCast]
theorem zJF (m:MV) (v:ValV) (r q:Nat):(m.set (r:Int) v).reg (q:Int)=if r=q∧r < m.R.length then v else m.reg q:=by
 rw [zHZ,zHZ]
 unfold MV.set
 simp only [Int.toNat_natCast]
 rw [List.getD_eq_getElem?_getD,List.getElem?_set,List.getD_eq_getElem?_getD]
 by_cases h:r=q
 ·subst h
  by_cases hl:r < m.R.length
  ·simp [hl]
  ·simp [hl]
 ·simp [h]
theorem InC.next {p q t':Int} (h:InC lc ld t p m) (hl:m.R.length=8) (r:Nat) (hr:r < 7) {v:ValV} (hv:HasV cS (cG lc ld) v) (hq:q=p+1) (hp:q=0∨(q=1∧(m.set (r:Int) v).reg 1=nV t')∨(q=2∧(m.set (r:Int) v).reg 1=nV t'∧(m.set (r:Int) v).reg 2=nV 1)∨(q=3∧(m.set (r:Int) v).reg 1=nV (t'+1))∨q=4∨q=5∨q=6∨q=7∨q=8):InC lc ld t' q ((m.set (r:Int) v).fwd 1):=by
 subst hq
 refine ⟨?_,hp,?_,fun x hx=>?_,h.stk,h.mem⟩
 ·show ({m.c with at_:=m.c.at_+1}:KeyV)=_
  rw [h.c]
 ·show (m.set (r:Int) v).reg ((7:Nat):Int)=_
  rw [zJF,if_neg (by omega)]
  exact h.r7
 ·show HasV _ _ ((m.set (r:Int) v).reg x)
  rw [zJF]
  split
  ·exact hv
  ·exact h.regs x hx
theorem zMJ {S G:KeyV→Prop} (l:List Int) (j:Nat):HasV S G ((l.map ValV.num).getD j zeroV):=by
 rw [List.getD_eq_getElem?_getD,List.getElem?_map]
 cases l[j]? with
 | none=>exact HasV.zero
 | some n=>exact HasV.num n
end
abbrev zFB:ByteArray:=⟨#[109,97,105,110]⟩
def zJm (code data:List Int):ModV:=⟨code,[0,0,0,0]++data,[⟨zFB,0⟩],[⟨zB5,0⟩,⟨zCV,2⟩]⟩
end
section
open Go Go.RowKit
theorem zEV (n:Int) (h : -1000≤n∧n≤1000):I64 n:=⟨by omega,by omega⟩
theorem zOI {p b l a q:Int} (hq:1≤q∧q≤63) (hok:KeyV.Ok ⟨p,b,l,a,0⟩):zA0 ⟨p,b,l,a,0⟩ ⟨96,0,64,q,0⟩=(⟨p,b,l,a,q⟩,0):=by
 have hs:KeyV.Ok ⟨96,0,64,q,0⟩:=by constructor<;>simp<;>omega
 unfold zA0
 rw [if_pos (show zBA ⟨p,b,l,a,0⟩ ⟨96,0,64,q,0⟩=0 by unfold zBA;rw [if_pos ((zBK _).2 hok)];exact (zDU _).2 hs),if_pos ((zBW _).2 ⟨hok,rfl⟩)]
 rw [if_pos (show zBG ⟨96,0,64,q,0⟩ 32=0 by unfold zBG;rw [if_pos rfl,if_neg (show ¬(zAM 96 32=0) by decide),if_pos (covB_iff.2 ⟨by simp;omega,by simp;omega⟩)]),if_pos (inB_iff.2 ⟨hq.1,hq.2⟩)]
theorem zNQ {p b l a q:Int} (hno:¬KeyV.Ok ⟨p,b,l,a,0⟩):zA0 ⟨p,b,l,a,0⟩ ⟨96,0,64,q,0⟩=(zeroK,1)∧zAF ⟨p,b,l,a,0⟩=1:=by
 have hB:okB ⟨p,b,l,a,0⟩=false:=by
  cases h:okB ⟨p,b,l,a,0⟩
  ·rfl
  ·exact absurd ((zBK _).1 h) hno
 have hb:zBA ⟨p,b,l,a,0⟩ ⟨96,0,64,q,0⟩=1:=by unfold zBA;rw [hB];rfl
 refine ⟨?_,by unfold zAF;rw [hB];rfl⟩
 unfold zA0
 rw [if_neg (by rw [hb];decide),hb]
theorem zON {p b l a q:Int} (hq:1≤q∧q≤63) (hok:KeyV.Ok ⟨p,b,l,a,0⟩):zA7 ⟨p,b,l,a,q⟩ ⟨96,0,64,q,0⟩=(⟨p,b,l,a,0⟩,0):=by
 have hs:KeyV.Ok ⟨96,0,64,q,0⟩:=by constructor<;>simp<;>omega
 have hk:KeyV.Ok ⟨p,b,l,a,q⟩:=⟨hok.p0,hok.p1,hok.b0,hok.b1,hok.l0,hok.l1,hok.a0,hok.a1,by show 0≤q;omega,by show q≤63;omega⟩
 unfold zA7
 rw [if_pos (show zBA ⟨p,b,l,a,q⟩ ⟨96,0,64,q,0⟩=0 by unfold zBA;rw [if_pos ((zBK _).2 hk)];exact (zDU _).2 hs),if_neg (show ¬(q=0) by omega)]
 rw [if_pos (show zBG ⟨96,0,64,q,0⟩ 64=0 by unfold zBG;rw [if_pos rfl,if_neg (show ¬(zAM 96 64=0) by decide),if_pos (covB_iff.2 ⟨by simp;omega,by simp;omega⟩)]),if_pos rfl]
def sG (lc ld:Nat) (k:KeyV):Prop:=(∃ a s,k=⟨5,0,lc,a,s⟩)∨∃ a s,k=⟨27,lc,ld,a,s⟩
theorem zOt {lc ld:Nat}:∀ g,sG lc ld g→(bv g.perm).getLsbD 5=false:=by
 rintro g (⟨a,s,rfl⟩ | ⟨a,s,rfl⟩)
 ·show (bv 5).getLsbD 5=false
  decide
 ·show (bv 27).getLsbD 5=false
  decide
theorem zOs {lc ld:Nat}:∀ g,sG lc ld g→(bv g.perm).getLsbD 6=false:=by
 rintro g (⟨a,s,rfl⟩ | ⟨a,s,rfl⟩)
 ·show (bv 5).getLsbD 6=false
  decide
 ·show (bv 27).getLsbD 6=false
  decide
def xS (s:KeyV) (lc ld:Nat) (L:List Int):MV:=⟨((List.replicate 8 zeroV).set 0 (kV s)).set 7 (kV ⟨27,lc,ld,lc,0⟩),⟨5,0,lc,0,0⟩,L.map ValV.num,[],[]⟩
theorem zJC {s o:KeyV} {v:ValV} (hv:v∈((List.replicate 8 zeroV).set 0 (kV s)).set 7 (kV o)):v=zeroV∨v=kV s∨v=kV o:=by
 rcases List.mem_or_eq_of_mem_set hv with hv | rfl
 ·rcases List.mem_or_eq_of_mem_set hv with hv | rfl
  ·exact .inl (List.eq_of_mem_replicate hv)
  ·exact .inr (.inl rfl)
 ·exact .inr (.inr rfl)
theorem zOm (s:KeyV) (lc ld:Nat) (L:List Int):Cl (fun k=>k=s) (sG lc ld) (xS s lc ld L):=by
 have h2:sG lc ld ⟨27,lc,ld,lc,0⟩:=.inr ⟨_,_,rfl⟩
 refine ⟨fun v hv=>?_,⟨rfl,_,.inl ⟨_,_,rfl⟩,zES _⟩,(fun f hf=>by cases hf),fun j=>zMJ L j⟩
 rcases zJC hv with rfl | rfl | rfl
 ·exact HasV.zero
 ·exact fun _=>.inl rfl
 ·exact fun _=>.inr ⟨rfl,_,h2,zES _⟩
theorem zOl {s:KeyV} {lc ld:Nat} {L:List Int} (hs:s.Ok) (hl:lc+ld≤400) (hL:L.length≤400) (hn:∀ n∈L,-2147483648≤n∧n≤2147483647):(xS s lc ld L).Ok:=by
 refine ⟨⟨fun v hv=>?_,?_,by simpa [xS] using hL,fun v hv=>?_,by simp [xS],(fun f hf=>by cases hf),by simp [xS],(fun n hn=>by cases hn)⟩,by simp [xS]⟩
 ·rcases zJC hv with rfl | rfl | rfl
  ·exact .inr ⟨rfl,by decide,by decide,rfl⟩
  ·exact .inl ⟨rfl,hs,rfl⟩
  ·refine .inl ⟨rfl,?_,rfl⟩
   show KeyV.Ok ⟨27,lc,ld,lc,0⟩
   constructor<;>simp<;>omega
 ·show KeyV.Ok ⟨5,0,lc,0,0⟩
  constructor<;>simp<;>omega
 ·obtain ⟨n,hn',rfl⟩:=List.mem_map.1 hv
  exact .inr ⟨rfl,(hn n hn').1,(hn n hn').2,rfl⟩
theorem zKd {s:KeyV} {lc ld:Nat} {L:List Int} (hs:s.seal_≠0) (f:Nat) {k:KeyV} (hk:zMy ((xS s lc ld L).run f).1 k):k.seal_=0∨k=s :=
 zJb (zL6 hs zOt zOs f _ (zOm s lc ld L)) hk
theorem zOn {w:World} {g:Nat} {T:TypeId} {c:KeyV} {ms ss os:Value} (h:Bk w g T (mcs (List.replicate 8 zeroV) c ms ss os)) (p b l a q p2 b2 l2 a2 q2:Int) :
  Bk ((w.setCells g 0 [.bool true,.int .i64 0,.int .i64 p,.int .i64 b,.int .i64 l,.int .i64 a,.int .i64 q]).setCells g 49 [.bool true,.int .i64 0,.int .i64 p2,.int .i64 b2,.int .i64 l2,.int .i64 a2,.int .i64 q2]) g T (mcs (((List.replicate 8 zeroV).set 0 (kV ⟨p,b,l,a,q⟩)).set 7 (kV ⟨p2,b2,l2,a2,q2⟩)) c ms ss os) ∧
  w.grownBy ((w.setCells g 0 [.bool true,.int .i64 0,.int .i64 p,.int .i64 b,.int .i64 l,.int .i64 a,.int .i64 q]).setCells g 49 [.bool true,.int .i64 0,.int .i64 p2,.int .i64 b2,.int .i64 l2,.int .i64 a2,.int .i64 q2]) (some g):=by
 refine ⟨?_,(zAO g _ 0 w).trans (zAO g _ 49 _)⟩
 unfold mcs at h
 have h1:=zBp (w:=w) [.bool true,.int .i64 0,.int .i64 p,.int .i64 b,.int .i64 l,.int .i64 a,.int .i64 q] _ 0 w h
 have e1:=zER (c:=c) (ms:=ms) (ss:=ss) (os:=os) (R:=List.replicate 8 zeroV) (by simp) (k:=0) (x:=zeroV) (y:=kV ⟨p,b,l,a,q⟩) (by simp) (us:=[.bool true,.int .i64 0,.int .i64 p,.int .i64 b,.int .i64 l,.int .i64 a,.int .i64 q]) rfl
 rw [Nat.zero_mul] at e1
 rw [e1] at h1
 unfold mcs at h1
 have h2:=zBp (w:=w) [.bool true,.int .i64 0,.int .i64 p2,.int .i64 b2,.int .i64 l2,.int .i64 a2,.int .i64 q2] _ 49 _ h1
 have e2:=zER (c:=c) (ms:=ms) (ss:=ss) (os:=os) (R:=(List.replicate 8 zeroV).set 0 (kV ⟨p,b,l,a,q⟩)) (by simp) (k:=7) (x:=zeroV) (y:=kV ⟨p2,b2,l2,a2,q2⟩) (by simp) (us:=[.bool true,.int .i64 0,.int .i64 p2,.int .i64 b2,.int .i64 l2,.int .i64 a2,.int .i64 q2]) rfl
 rw [show 7*7=49 from rfl] at e2
 rw [e2] at h2
 exact h2
theorem zJn (R8:List ValV) (c:KeyV) (a b d x:Value):(mcs (List.replicate 8 zeroV) c a b d).setIfInBounds 61 x=mcs (List.replicate 8 zeroV) c x b d:=by
 unfold mcs
 rw [zC,List.set_append_right _ _ (by rw [zAk (by simp)];decide),zAk (by simp)]
 rfl
structure SSt (wA:World) (g:Nat) (c:KeyV) (L:List Int) (lv v:Value) (k:Nat) (W:World):Prop where
 box:Bk W g 60 (mcs (List.replicate 8 zeroV) c v (.slice none 0 0) (.slice none 0 0))
 mem:Own W wA.heap.size 56 v ((L.take k).map ValV.num)
 row:Own W wA.heap.size 3 lv L
 bel:Below wA.heap.size wA W
theorem SSt.next {wA W w2:World} {g:Nat} {c:KeyV} {L:List Int} {lv v v':Value} {k:Nat} {x:Int} {cells:Array Value} (h:SSt wA g c L lv v k W) (hg:wA.heap.size≤g) (hx:L[k]?=some x) (ho:Own w2 wA.heap.size 56 v' ((L.take k).map ValV.num++[ValV.num x])) (hgr:(W.alloc (.cells cells 56)).grownBy w2 v.ownBlock) :
  SSt wA g c L lv v' (k+1) (w2.setCell ⟨g,61,none⟩ v'):=by
 have b1:Bk w2 g 60 (mcs (List.replicate 8 zeroV) c v (.slice none 0 0) (.slice none 0 0)):=zAR (zN _ h.box) (h.mem.alloc _) (by decide) hgr
 have r1:Own w2 wA.heap.size 3 lv L:=zAr (h.row.alloc _) (h.mem.alloc _) (by decide) hgr
 have e1:(L.take (k+1)).map ValV.num=(L.take k).map ValV.num++[ValV.num x]:=by rw [List.take_add_one,hx];simp
 refine ⟨zT b1 (zJn [] _ _ _ _ _).symm,?_,zAS r1 b1 (by decide) _ _,?_⟩
 ·rw [e1];exact zAS ho b1 (by decide) _ _
 ·have b2:Below wA.heap.size wA w2:=(zG h.bel _).grown hgr (zG h.bel _).size (fun i e=>(zBr h.mem e).1)
  exact b2.grown (zAb w2 g 61 v') b2.size (fun i e=>by injection e with e;omega)
end
end Go.Proofs.YtlpejagkadalbaaGreatDoor
