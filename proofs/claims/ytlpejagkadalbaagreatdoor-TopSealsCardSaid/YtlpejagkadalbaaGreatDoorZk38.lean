import Derived.Test.YtlpejagkadalbaaGreatDoorZk37
set_option maxHeartbeats 40000000
set_option maxRecDepth 100000
set_option linter.unusedVariables false
set_option linter.unusedSimpArgs false
namespace Go.Proofs.YtlpejagkadalbaaGreatDoor
section
open Go.RowKit
def zEa (es:List EntryV):Prop:=∀ e∈es,e.code.Ok∧e.data.Ok
theorem zNs {es:List EntryV} {s:ByteArray} {e:EntryV} (h:zBD es s=some e):e∈es∧e.name=s:=by
 unfold zBD at h
 exact ⟨List.mem_of_find?_eq_some h,by simpa using List.find?_some h⟩
theorem zNq {es:List EntryV} (h:zEa es) (s:ByteArray):((zBD es s).getD zeroE).code.Ok∧((zBD es s).getD zeroE).data.Ok:=by
 cases hf:zBD es s with
 | none=>exact ⟨zeroK_ok,zeroK_ok⟩
 | some e=>exact h e (zNs hf).1
theorem zF6 {nm:ByteArray→Bool}:∀ (ms:List ModV) (b n:Nat),(∀ m∈ms,ModOk nm m)→b+total ms≤400→n+ms.length≤62→zEa (zAQ b n ms)
 | [],b,n,_,_,_=>fun e he=>by cases he
 | m::ms,b,n,h,hb,hn=>by
  rw [zBk] at hb
  rw [List.length_cons] at hn
  intro e he
  rw [zAQ] at he
  rcases List.mem_append.1 he with he | he
  ·obtain ⟨x,hx,rfl⟩:=List.mem_map.1 he
   obtain ⟨_,h1,h2⟩:=(h m (by simp)).e1 x hx
   unfold zBx
   exact ⟨⟨by simp,by simp,by simp only;omega,by simp only;omega,by simp only;omega,by simp only;omega,by simp only;omega,by simp only;omega,by simp only;omega,by simp only;omega⟩,⟨by simp,by simp,by simp only;omega,by simp only;omega,by simp only;omega,by simp only;omega,by simp only;omega,by simp only;omega,by simp only;omega,by simp only;omega⟩⟩
  ·exact zF6 ms _ _ (fun m hm=>h m (List.mem_cons_of_mem _ hm)) (by omega) (by omega) e he
def zD6 (M:List ValV):Prop:=∀ v∈M,v.Ok
theorem zJN {k:KeyV} (h:k.Ok):(⟨true,0,k⟩:ValV).Ok:=.inl ⟨rfl,h,rfl⟩
theorem zLk {es:List EntryV} (he:zEa es) (b:Nat) {M:List ValV} (h:zD6 M) (x:NamV):zD6 (zDL es b M x):=by
 intro v hv
 unfold zDL at hv
 have hf:=zNq he x.name
 rcases List.mem_or_eq_of_mem_set hv with hv | rfl
 ·rcases List.mem_or_eq_of_mem_set hv with hv | rfl
  ·exact h v hv
  ·exact zJN hf.1
 ·exact zJN hf.2
theorem zHP {es:List EntryV} (he:zEa es) (b:Nat):∀ (l:List NamV) {M:List ValV},zD6 M→zD6 (zCh es b M l)
 | [],M,h=>h
 | x::l,M,h=>zHP he b l (zLk he b h x)
theorem zHQ {es:List EntryV} (he:zEa es):∀ (ms:List ModV) (b:Nat) {M:List ValV},zD6 M→zD6 (zB8 es b M ms)
 | [],b,M,h=>h
 | m::ms,b,M,h=>zHQ he ms _ (zHP he _ m.im h)
theorem zNe {nm:ByteArray→Bool} {ms:List ModV} (h:∀ m∈ms,ModOk nm m):zD6 (zB4 ms):=by
 intro v hv
 unfold zB4 at hv
 obtain ⟨m,hm,hv⟩:=List.mem_flatMap.1 hv
 obtain ⟨n,hn,rfl⟩:=List.mem_map.1 hv
 have : -2147483648≤n∧n≤2147483647:=by
  unfold ModV.cells at hn
  rcases List.mem_append.1 hn with hn | hn
  ·exact (h m hm).n1 n hn
  ·exact (h m hm).n2 n hn
 exact .inr ⟨rfl,this.1,this.2,rfl⟩
theorem LinkOk.ents {nm:ByteArray→Bool} {ms:List ModV} (h:LinkOk nm ms):zEa (zAQ 0 0 ms):=zF6 ms 0 0 h.m (by have:=h.t;omega) (by have:=h.l;omega)
theorem LinkOk.mem {nm:ByteArray→Bool} {ms:List ModV} (h:LinkOk nm ms):zD6 (zBL ms):=zHQ h.ents ms 0 (zNe h.m)
theorem LinkOk.check {nm:ByteArray→Bool} {ms:List ModV} (h:LinkOk nm ms):zA4 (zBL ms)=0:=(zBT _).2 ⟨by rw [zIo];exact h.t,h.mem⟩
end
section
open Go Go.RowKit Go.Shelf
structure ImOk (M:List ValV) (E:List EntryV):Prop where
 m:zA4 M=0
 e:E.length≤160
 k:zEa E
theorem zFQ {nm:ByteArray→Bool}:∀ (l:List ModV) (b n:Nat),(∀ m∈l,ModOk nm m)→(zAQ b n l).length≤l.length*20
 | [],b,n,_=>Nat.le_refl _
 | x::l,b,n,h=>by
  have h1:=zFQ l (b+(x.code.length+x.data.length)) (n+1) fun m hm=>h m (List.mem_cons_of_mem _ hm)
  have h3:=(h x (by simp)).l3
  rw [zAQ,List.length_append,List.length_map,List.length_cons]
  omega
theorem LinkOk.im_ok {nm:ByteArray→Bool} {ms:List ModV} (h:LinkOk nm ms):ImOk (zBL ms) (zAQ 0 0 ms) :=
 ⟨h.check,by have h1:=zFQ ms 0 0 h.m;have h2:=h.l;omega,h.ents⟩
theorem zGy {k:KeyV} (h:k.Ok):zAF k=0:=by unfold zAF;rw [if_pos ((zBK k).2 h)]
theorem zJ0 (ma pa ea:Option Addr) (mn mc pn pc en ec:Nat) (M:List ValV) (E:List EntryV) (w:World) (hm:Sl w ma mn M) (he:Sl w ea en E) (hok:ImOk M E) :
  Calls Tryz.prog 38 #[.agg #[.slice ma mn mc,.slice pa pn pc,.slice ea en ec]] w fun e w'=>e=.returned (.int .i64 0)∧Below w.heap.size w w':=by
 have hel:=he.len
 have he160:=hok.e
 have hmx:=he.max
 unfold maxLen at hmx
 obtain ⟨w1,hw1⟩:∃ w1,w1=w.alloc (.cells #[.slice ma mn mc,.slice pa pn pc,.slice ea en ec] 28):=⟨_,rfl⟩
 have h1w:Below w.heap.size w w1:=by rw [hw1];exact zG (Below.refl _ _) _
 have b1:Bk w1 w.heap.size 28 #[.slice ma mn mc,.slice pa pn pc,.slice ea en ec]:=by rw [hw1];exact zM _ _ _
 have mk:=zF1 ma mn mc M w1 (hm.below h1w)
 rw [hok.m] at mk
 obtain ⟨c0,c1,c2⟩:=zAP b1
 have bL:=b1.lt
 have HW1:=zA hw1
 have H1W:=zA h1w
 have B1:=zA b1
 have MK:=zA mk
 have HE:=zA (he.below h1w)
 have HK:=zA hok.k
 clear hw1 h1w b1 mk hm he hok
 go_enter Tryz.func38,Tryz.ntmps38
 go_upto_region 1 with (fail)
 rw [←HW1.out]
 go_upto_region 4 with (go_at_call 67;((with_reducible refine (MK.out).mono ?_);rintro e w2 ⟨rfl,hb2⟩;have HB2:=zA hb2;clear hb2))
 clear c0 c1 c2 bL
 obtain ⟨c0,c1,c2⟩:=zAP (zH HB2.out B1.out)
 have bL:=(zH HB2.out B1.out).lt
 have q160:¬((160:Int) < en):=by omega
 go_wp2
 clear c0 c1 c2 bL
 go_loopw [22] (fun i wr=>∃ k:Nat,k≤en∧i=.int .i64 k∧Below w1.heap.size w1 wr) (fun i _=>en - (intOf i).toNat)
 case atStart=>exact ⟨0,Nat.zero_le _,rfl,HB2.out⟩
 case round =>
  obtain ⟨k,hk,rfl,hb⟩:=hrel
  by_cases hlt:k < en
  ·have q0:(0:Int)≤k:=by omega
   have q1:(k:Int) < en:=by omega
   obtain ⟨x,hx⟩:∃ x,E[k]?=some x:=⟨_,List.getElem?_eq_getElem (by omega)⟩
   obtain ⟨ad,hao,hab,e0,e1,e2,e3,e4,e5,e6,e7,e8,e9,e10⟩:=zGm (HE.out.below hb) hlt hx
   subst hao
   obtain ⟨k1,k2⟩:=HK.out x (List.mem_of_getElem? hx)
   have kc1:=fun W=>zBU x.code.perm x.code.base x.code.len x.code.at_ x.code.seal_ W
   have kc2:=fun W=>zBU x.data.perm x.data.base x.data.len x.data.at_ x.data.seal_ W
   rw [show zAF ⟨x.code.perm,x.code.base,x.code.len,x.code.at_,x.code.seal_⟩=0 from zGy k1] at kc1
   rw [show zAF ⟨x.data.perm,x.data.base,x.data.len,x.data.at_,x.data.seal_⟩=0 from zGy k2] at kc2
   obtain ⟨w2',hw2⟩:∃ w2',w2'=wr.alloc (.cells #[.string x.name,.int .i64 x.code.perm,.int .i64 x.code.base,.int .i64 x.code.len,.int .i64 x.code.at_,.int .i64 x.code.seal_,.int .i64 x.data.perm,.int .i64 x.data.base,.int .i64 x.data.len,.int .i64 x.data.at_,.int .i64 x.data.seal_] 79):=⟨_,rfl⟩
   have b2:Below w1.heap.size w1 w2':=by rw [hw2];exact zG hb _
   have x2:Bk w2' wr.heap.size 79 #[.string x.name,.int .i64 x.code.perm,.int .i64 x.code.base,.int .i64 x.code.len,.int .i64 x.code.at_,.int .i64 x.code.seal_,.int .i64 x.data.perm,.int .i64 x.data.base,.int .i64 x.data.len,.int .i64 x.data.at_,.int .i64 x.data.seal_]:=by rw [hw2];exact zM _ _ _
   obtain ⟨gx,hgx⟩:∃ gx,gx=wr.heap.size:=⟨_,rfl⟩
   rw [←hgx] at x2
   have HW2:=zA hw2
   have HGX:=zA hgx
   have B2:=zA b2
   have X2:=zA x2
   have KC1:=zA kc1
   have KC2:=zA kc2
   clear hw2 hgx b2 x2 kc1 kc2 hb hx k1 k2
   go_upto_region 9 with (fail)
   rw [←HW2.out,←HGX.out]
   clear e0 e1 e2 e3 e4 e5 e6 e7 e8 e9 e10 HW2 HGX hab
   obtain ⟨t0,t1,t2,t3,t4,t5,t6,t7,t8,t9,t10⟩:=zDp X2.out
   have tL:=X2.out.lt
   obtain ⟨w3,hw3⟩:∃ w3,w3=w2'.alloc (.cells #[.int .i64 x.code.perm,.int .i64 x.code.base,.int .i64 x.code.len,.int .i64 x.code.at_,.int .i64 x.code.seal_,.int .i64 x.data.perm,.int .i64 x.data.base,.int .i64 x.data.len,.int .i64 x.data.at_,.int .i64 x.data.seal_] 54):=⟨_,rfl⟩
   obtain ⟨g3,hg3⟩:∃ g3,w2'.heap.size=g3:=⟨_,rfl⟩
   have b3:Below w1.heap.size w1 w3:=by rw [hw3];exact zG B2.out _
   have x3:Bk w3 g3 54 #[.int .i64 x.code.perm,.int .i64 x.code.base,.int .i64 x.code.len,.int .i64 x.code.at_,.int .i64 x.code.seal_,.int .i64 x.data.perm,.int .i64 x.data.base,.int .i64 x.data.len,.int .i64 x.data.at_,.int .i64 x.data.seal_]:=by rw [hw3,←hg3];exact zM _ _ _
   have HW3:=zA hw3
   have B3:=zA b3
   have X3:=zA x3
   clear hw3 b3 x3
   go_wp2
   rw [←HW3.out]
   clear t0 t1 t2 t3 t4 t5 t6 t7 t8 t9 t10 tL HW3
   go_loopw [32] (fun i wr=>∃ t:Nat,t≤2∧i=.int .i64 t∧Below w3.heap.size w3 wr) (fun i _=>2 - (intOf i).toNat)
   case atStart=>exact ⟨0,Nat.zero_le _,rfl,Below.refl _ _⟩
   case round =>
    obtain ⟨t,ht,rfl,hb⟩:=hrel
    obtain rfl | rfl | rfl:t=0∨t=1∨t=2:=by omega
    ·rw [show ((0:Nat):Int)=0 from rfl]
     have ya:=zH hb X3.out
     have yL:=ya.lt
     have y0:=ya.cell 0
     simp only [List.getElem?_toArray,List.getElem?_cons_succ,List.getElem?_cons_zero] at y0
     have y1:=ya.cell 1
     simp only [List.getElem?_toArray,List.getElem?_cons_succ,List.getElem?_cons_zero] at y1
     have y2:=ya.cell 2
     simp only [List.getElem?_toArray,List.getElem?_cons_succ,List.getElem?_cons_zero] at y2
     have y3:=ya.cell 3
     simp only [List.getElem?_toArray,List.getElem?_cons_succ,List.getElem?_cons_zero] at y3
     have y4:=ya.cell 4
     simp only [List.getElem?_toArray,List.getElem?_cons_succ,List.getElem?_cons_zero] at y4
     have HB5:=zA hb
     clear ya hb
     obtain ⟨w5,hw5⟩:∃ w5,w5=wr.alloc (.cells #[.int .i64 x.code.perm,.int .i64 x.code.base,.int .i64 x.code.len,.int .i64 x.code.at_,.int .i64 x.code.seal_] 54):=⟨_,rfl⟩
     have b5:Below w3.heap.size w3 w5:=by rw [hw5];exact zG HB5.out _
     have x5:Bk w5 wr.heap.size 54 #[.int .i64 x.code.perm,.int .i64 x.code.base,.int .i64 x.code.len,.int .i64 x.code.at_,.int .i64 x.code.seal_]:=by rw [hw5];exact zM _ _ _
     obtain ⟨gk,hgk⟩:∃ gk,gk=wr.heap.size:=⟨_,rfl⟩
     rw [←hgk] at x5
     have kc:=KC1.out w5
     have HW5:=zA hw5
     have HGK:=zA hgk
     have B5:=zA b5
     have X5:=zA x5
     have KC:=zA kc
     clear hw5 hgk b5 x5 kc
     go_upto_region 12 with (fail)
     rw [←HW5.out,←HGK.out]
     clear y0 y1 y2 y3 y4 yL HW5 HGK
     obtain ⟨t0,t1,t2,t3,t4⟩:=zQ X5.out
     have tL:=X5.out.lt
     go_wp2_with (go_at_call 27;((with_reducible refine (KC.out).mono ?_);rintro e w6 ⟨rfl,hb6⟩;have HB6:=zA hb6;clear hb6))
     go_roundw
     case rel=>exact ⟨1,by omega,by go_num,zI B5.out HB6.out⟩
     case measure=>simp [intOf];try omega
    ·rw [show ((1:Nat):Int)=1 from rfl]
     have ya:=zH hb X3.out
     have yL:=ya.lt
     have y0:=ya.cell 5
     simp only [List.getElem?_toArray,List.getElem?_cons_succ,List.getElem?_cons_zero] at y0
     have y1:=ya.cell 6
     simp only [List.getElem?_toArray,List.getElem?_cons_succ,List.getElem?_cons_zero] at y1
     have y2:=ya.cell 7
     simp only [List.getElem?_toArray,List.getElem?_cons_succ,List.getElem?_cons_zero] at y2
     have y3:=ya.cell 8
     simp only [List.getElem?_toArray,List.getElem?_cons_succ,List.getElem?_cons_zero] at y3
     have y4:=ya.cell 9
     simp only [List.getElem?_toArray,List.getElem?_cons_succ,List.getElem?_cons_zero] at y4
     have HB5:=zA hb
     clear ya hb
     obtain ⟨w5,hw5⟩:∃ w5,w5=wr.alloc (.cells #[.int .i64 x.data.perm,.int .i64 x.data.base,.int .i64 x.data.len,.int .i64 x.data.at_,.int .i64 x.data.seal_] 54):=⟨_,rfl⟩
     have b5:Below w3.heap.size w3 w5:=by rw [hw5];exact zG HB5.out _
     have x5:Bk w5 wr.heap.size 54 #[.int .i64 x.data.perm,.int .i64 x.data.base,.int .i64 x.data.len,.int .i64 x.data.at_,.int .i64 x.data.seal_]:=by rw [hw5];exact zM _ _ _
     obtain ⟨gk,hgk⟩:∃ gk,gk=wr.heap.size:=⟨_,rfl⟩
     rw [←hgk] at x5
     have kc:=KC2.out w5
     have HW5:=zA hw5
     have HGK:=zA hgk
     have B5:=zA b5
     have X5:=zA x5
     have KC:=zA kc
     clear hw5 hgk b5 x5 kc
     go_upto_region 12 with (fail)
     rw [←HW5.out,←HGK.out]
     clear y0 y1 y2 y3 y4 yL HW5 HGK
     obtain ⟨t0,t1,t2,t3,t4⟩:=zQ X5.out
     have tL:=X5.out.lt
     go_wp2_with (go_at_call 27;((with_reducible refine (KC.out).mono ?_);rintro e w6 ⟨rfl,hb6⟩;have HB6:=zA hb6;clear hb6))
     go_roundw
     case rel=>exact ⟨2,by omega,by go_num,zI B5.out HB6.out⟩
     case measure=>simp [intOf];try omega
    ·rw [show ((2:Nat):Int)=2 from rfl]
     have HB5:=zA hb
     clear hb
     go_wp2
     go_roundw
     case rel=>exact ⟨k+1,by omega,by go_num,zI B3.out HB5.out⟩
     case measure=>simp [intOf];try omega
  ·have q1:¬((k:Int) < en):=by omega
   have HB5:=zA hb
   clear hb
   go_wp2
   go_ret
   exact ⟨rfl,zI H1W.out HB5.out⟩
end
section
open Go Go.RowKit Go.Shelf
def zB6 (args:List Int) (k:Nat):List ValV:=(List.range 8).map fun i=>if i < k then ⟨false,args.getD i 0,zeroK⟩ else zeroV
theorem zBV (args:List Int) (k:Nat):(zB6 args k).length=8:=by unfold zB6;simp
theorem zLe (args:List Int):zB6 args 0=List.replicate 8 zeroV:=by unfold zB6;simp;rfl
theorem zLf {args:List Int} {k:Nat} {n:Int} (hn:args[k]?=some n):zB6 args (k+1)=(zB6 args k).set k ⟨false,n,zeroK⟩:=by
 refine List.ext_getElem? fun i=>?_
 unfold zB6
 rw [List.getElem?_set]
 by_cases hi:i < 8
 ·rw [List.getElem?_map,List.getElem?_map,List.getElem?_range hi]
  simp only [Option.map_some,List.length_map,List.length_range]
  by_cases hk:k=i
  ·subst hk
   rw [if_pos rfl,if_pos hi,if_pos (Nat.lt_succ_self _),List.getD,hn];rfl
  ·rw [if_neg hk]
   by_cases h:i < k
   ·rw [if_pos (by omega),if_pos h]
   ·rw [if_neg (by omega),if_neg h]
 ·rw [List.getElem?_eq_none (by simp;omega),List.getElem?_eq_none (by simp;omega)]
  by_cases hk:k=i
  ·subst hk;rw [if_pos rfl,if_neg (by simp;omega)]
  ·rw [if_neg hk]
theorem zMK {R:List ValV} {c:KeyV} {ms ss os:Value} (h:R.length=8) {k:Nat} (hk:k < 8) {x:ValV} (hx:R[k]?=some x) (n:Int) :
  (mcs R c ms ss os).setIfInBounds (k*7+1) (.int .i64 n)=mcs (R.set k ⟨x.is,n,x.k⟩) c ms ss os:=by
 unfold mcs
 rw [zC,List.set_append_left _ _ (by rw [zAk h];omega)]
 have:=zD1 (xs:=R) (i:=k) (j:=1) (x:=x) (y:=⟨x.is,n,x.k⟩) (us:=[.int .i64 n]) hx (by show 1+1≤7;omega) rfl
 have e:El.k ValV=7:=rfl
 rw [e] at this
 rw [←this];rfl
theorem zLQ {w:World} {g:Nat} {T:TypeId} {R:List ValV} {c:KeyV} {ms ss os:Value} (h:Bk w g T (mcs R c ms ss os)) (hR:R.length=8) {z:ValV} (h7:R[7]?=some z) (p b l a q p2 b2 l2 a2 q2:Int) :
  Bk ((w.setCells g 56 [.int .i64 p,.int .i64 b,.int .i64 l,.int .i64 a,.int .i64 q]).setCells g 49 [.bool true,.int .i64 0,.int .i64 p2,.int .i64 b2,.int .i64 l2,.int .i64 a2,.int .i64 q2]) g T (mcs (R.set 7 ⟨true,0,⟨p2,b2,l2,a2,q2⟩⟩) ⟨p,b,l,a,q⟩ ms ss os):=by
 have h0:=zAk hR
 unfold mcs at h ⊢
 have h1:=zBp (w:=w) [.int .i64 p,.int .i64 b,.int .i64 l,.int .i64 a,.int .i64 q] (cls R++[.int .i64 c.perm,.int .i64 c.base,.int .i64 c.len,.int .i64 c.at_,.int .i64 c.seal_,ms,ss,os]) 56 w h
 have e1:=zCA [.int .i64 p,.int .i64 b,.int .i64 l,.int .i64 a,.int .i64 q] (cls R) [.int .i64 c.perm,.int .i64 c.base,.int .i64 c.len,.int .i64 c.at_,.int .i64 c.seal_,ms,ss,os] 0
 rw [h0,Nat.add_zero] at e1
 rw [e1] at h1
 have h2:=zBp (w:=w) [.bool true,.int .i64 0,.int .i64 p2,.int .i64 b2,.int .i64 l2,.int .i64 a2,.int .i64 q2] _ 49 _ h1
 rw [zCj _ _ _ _ (by rw [h0];show 49+7≤56;omega)] at h2
 have e2:=zD1 (xs:=R) (i:=7) (j:=0) (x:=z) (y:=⟨true,0,⟨p2,b2,l2,a2,q2⟩⟩) (us:=[.bool true,.int .i64 0,.int .i64 p2,.int .i64 b2,.int .i64 l2,.int .i64 a2,.int .i64 q2]) h7 (by show 0+7≤7;decide) rfl
 rw [show 7*El.k ValV+0=49 from rfl] at e2
 rw [e2] at h2
 exact h2
def zBd (E:List EntryV) (s:ByteArray) (args:List Int):Int:=if 7 < args.length then 2 else if args.all zAs=false then 1 else if zBD E s=none then 7 else 0
def zCp (e:EntryV) (args:List Int):List ValV:=(zB6 args args.length).set 7 ⟨true,0,⟨e.data.perm,e.data.base,e.data.len,e.data.at_,0⟩⟩
def zDa (e:EntryV):KeyV:=⟨e.code.perm,e.code.base,e.code.len,e.code.at_,0⟩
theorem zNv {w7 W8:World} {g:Nat} {T:TypeId} {x:EntryV} {args:List Int} {k:Nat} {ms ss os:Value} (hW8:W8=((w7.setCells g 56 [.int .i64 x.code.perm,.int .i64 x.code.base,.int .i64 x.code.len,.int .i64 x.code.at_,.int .i64 0]).setCells g 49 [.bool true,.int .i64 0,.int .i64 x.data.perm,.int .i64 x.data.base,.int .i64 x.data.len,.int .i64 x.data.at_,.int .i64 0]).drew) (hal:args.length=k) (h7:(zB6 args k)[7]?=some zeroV) (h:Bk w7 g T (mcs (zB6 args k) zeroK ms ss os)) :
  Bk W8 g T (mcs (zCp x args) (zDa x) ms ss os)∧∃ W',w7.grownBy W' (some g)∧W8=W'.drew:=by
 have hb:=zLQ h (zBV args k) h7 x.code.perm x.code.base x.code.len x.code.at_ 0 x.data.perm x.data.base x.data.len x.data.at_ 0
 have hg1:=zAO g [.int .i64 x.code.perm,.int .i64 x.code.base,.int .i64 x.code.len,.int .i64 x.code.at_,.int .i64 0] 56 w7
 have hg2:=hg1.trans (zAO g [.bool true,.int .i64 0,.int .i64 x.data.perm,.int .i64 x.data.base,.int .i64 x.data.len,.int .i64 x.data.at_,.int .i64 0] 49 _)
 generalize hX:(w7.setCells g 56 [.int .i64 x.code.perm,.int .i64 x.code.base,.int .i64 x.code.len,.int .i64 x.code.at_,.int .i64 0]).setCells g 49 [.bool true,.int .i64 0,.int .i64 x.data.perm,.int .i64 x.data.base,.int .i64 x.data.len,.int .i64 x.data.at_,.int .i64 0]=X at hb hg2 hW8
 subst hW8
 refine ⟨?_,X,hg2,rfl⟩
 unfold zCp zDa
 rw [hal]
 exact zP hb
end
end Go.Proofs.YtlpejagkadalbaaGreatDoor
