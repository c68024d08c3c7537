import Derived.Test.YtlpejagkadalbaaGreatDoorQk29
set_option maxHeartbeats 40000000
set_option maxRecDepth 100000
set_option linter.unusedVariables false
set_option linter.unusedSimpArgs false
namespace Go.Proofs.YtlpejagkadalbaaGreatDoor
open Go Go.RowKit Go.Joins
theorem vB_ (n:Int):Value.int .u8 (n % 256)=Value.int .u8 ((zAD n).toNat:Int):=by
 rw [zCI,Int.toNat_of_nonneg (by omega)]
theorem zCa {s:ByteArray} (h:zR s=true):s.size≤12:=by
 unfold zR at h
 simp only [Bool.and_eq_true,decide_eq_true_eq] at h
 exact h.1.1.2
theorem zEW:∀ {l:List NamV},(∀ x∈l,x.name.size≤12)→(l.flatMap zAu).length≤14*l.length
 | [],_=>by simp
 | x::l,h=>by
  have h1:=zEW (l:=l) fun y hy=>h y (List.mem_cons_of_mem _ hy)
  have h2:=h x (by simp)
  rw [List.flatMap_cons,List.length_append,zIK,List.length_cons]
  omega
def zD2 (m:ModV):Nat→List UInt8
 | 0=>zDD m
 | 1=>zDD m++m.code.flatMap zBW
 | _=>zDD m++m.code.flatMap zBW++m.data.flatMap zBW
theorem zK2 (W:World) (y:Int):Sl (W.alloc (.cells #[.int .u8 (y / 16777216 % 256),.int .u8 (y / 65536 % 256),.int .u8 (y / 256 % 256),.int .u8 (y % 256)] 5)) (some ⟨W.heap.size,0,none⟩) 4 [zAD (y / 16777216),zAD (y / 65536),zAD (y / 256),zAD y]:=by
 have h0:=zBY (xs:=[zAD (y / 16777216),zAD (y / 65536),zAD (y / 256),zAD y]) W 5 0 (Nat.zero_le _) #[.int .u8 (y / 16777216 % 256),.int .u8 (y / 65536 % 256),.int .u8 (y / 256 % 256),.int .u8 (y % 256)] 4 rfl (by decide) (by rw [zDV,vB_,vB_,vB_,vB_];rfl)
 obtain ⟨ao,c,e,h,_⟩:=h0.sl
 injection e with e _ _
 subst e
 exact h
theorem zPd (W:World) (a b c d:Int):Sl (W.alloc (.cells #[.int .u8 (a % 256),.int .u8 (b % 256),.int .u8 (c % 256),.int .u8 (d % 256)] 5)) (some ⟨W.heap.size,0,none⟩) 4 [zAD a,zAD b,zAD c,zAD d]:=by
 have h0:=zBY (xs:=[zAD a,zAD b,zAD c,zAD d]) W 5 0 (Nat.zero_le _) #[.int .u8 (a % 256),.int .u8 (b % 256),.int .u8 (c % 256),.int .u8 (d % 256)] 4 rfl (by decide) (by rw [zDV,vB_,vB_,vB_,vB_];rfl)
 obtain ⟨ao,c,e,h,_⟩:=h0.sl
 injection e with e _ _
 subst e
 exact h
theorem zPb (W:World):Sl (W.alloc (.cells #[.int .u8 67,.int .u8 77,.int .u8 49] 5 (3,4))) (some ⟨W.heap.size,0,none⟩) 3 ([67,77,49]:List UInt8) :=
 ⟨rfl,by decide,fun _=>⟨_,rfl,by show W.heap.size < _;rw [World.size_alloc];omega,fun j u hu=>by
  rw [Addr.add_lit,World.cell?_alloc_mark]
  rw [zDV] at hu
  simpa using hu⟩⟩
theorem zPI {ops:Array Oper} {rest:List Oper} {o:Oper} {a:Act} {Q:Exit→Act→World→Prop} {W:World} (hgd:o.guard=none) (s x:Operand)
  (ho:o.op=.call {callee:=.builtin .append,args:=#[s,x],argTypes:=#[113,113]}) (B:Nat) (b:Addr) (n0 cap0:Nat) (l:List UInt8) (hs:a.eval s=.slice (some b) n0 cap0) (h0:Sl W (some b) n0 l) (hn:0 < n0)
  (a2:Addr) (m c:Nat) (ys:List UInt8) (hx:a.eval x=.slice (some a2) m c) (hr:Sl W (some a2) m ys) (hm:0 < m) (hcap:cap0 < n0+m) (h1:n0≤1000) (h2:m≤1000) (hB:B≤W.heap.size)
  (h:∀ V N C w',Own w' B 5 (.slice V N C) (l++ys)→GrewB B W w'→wpList Tryz.prog ops Q rest (a.put o.dst (.slice V N C)) w'):wpList Tryz.prog ops Q (o::rest) a W:=by
 obtain ⟨i0,hi,hz0,hz1,hz2⟩:=info_parts zFI
 obtain ⟨_,e1,_,hc1⟩:=h0.row hn
 injection e1 with e1
 subst e1
 obtain ⟨_,e2,_,hc2⟩:=hr.row hm
 injection e2 with e2
 subst e2
 have l0:=h0.len
 have l1:=hr.len
 have k0:(cls l).length=n0*i0.size:=by rw [zBf,l0,hz1];rfl
 have k1:(cls ys).length=m*i0.size:=by rw [zBf,l1,hz1];rfl
 have run:=run_append_grow (P:=Tryz.prog) W 113 o.type 5 i0 _ Tryz.underlying113 hi hz0 b n0 cap0 (cls l) k0 hc1 a2 m c (cls ys) k1 hc2 hcap (by omega) (growslice_fits (by omega) (by rw [hz2];omega))
 refine wpList_plain hgd fun _ hK=>?_
 unfold Oper.wp
 simp [execOp,ho,resolve,invoke,builtin,hs,hx,run,Result.andThen]
 refine hK _ _ (h _ _ _ _ ?_ ?_)
 ·have hge:=grownCap_ge W (n0+m) cap0 5
  have hcm:grownCap W (n0+m) cap0 5≤maxLen:=grownCap_le_maxLen W (n0+m) cap0 5 (by unfold maxLen;omega)
  refine ⟨by rw [zBf],.inr ⟨W.heap.size,_,_,?_,hB,heap_alloc_new W.drew _,?_,hcm,?_,?_⟩⟩
  ·rw [List.length_append,l0,l1]
  ·rw [List.length_append,l0,l1];exact hge
  ·have hzc:(Value.int IntKind.u8 0).cells.size=1:=rfl
   have e1:El.k UInt8=1:=rfl
   simp only [Array.size_append,List.size_toArray,List.length_append,size_zeroCells,hzc,k0,k1,hz1,e1]
   omega
  ·have e3:(l++ys).length*El.k UInt8=(cls l++cls ys).length:=by rw [←zCZ,zBf]
   rw [e3]
   simp only [Array.toList_append,List.append_assoc]
   rw [←List.append_assoc,zCZ]
   exact List.take_left
 ·exact ⟨(Below.refl B W).drew.alloc hB _,by rw [World.size_alloc];simp,fun _ hb=>zN _ hb⟩
theorem zQf {W:World} (B:Nat) (v:Value) (l:List UInt8) (hown:Own W B 5 v l)
  (ao:Option Addr) (m c:Nat) (ys:List UInt8) (hr:Sl W ao m ys) (h1:l.length≤10000000) (h2:m≤10000000) (hB:B≤W.heap.size) :
  ∃ V N C w',(Builtin.append_ #[113,113] 113 #[v,.slice ao m c]).run Tryz.prog W=.ok (.slice V N C) w'∧Own w' B 5 (.slice V N C) (l++ys)∧GrewB B W w':=by
 obtain ⟨i0,hi,hz0,hz1,hz2⟩:=info_parts zFI
 obtain ⟨v',w',h3,h4,h5,_⟩:=zBk (α:=UInt8) (P:=Tryz.prog) W B 113 113 5 i0 _ 1 Tryz.underlying113 hi hz0 hz1 hz2 rfl v l hown ao m c ys hr (by unfold maxLen;omega) (by omega) hB
 obtain ⟨V,N,C,rfl⟩:=zZ h4
 exact ⟨V,N,C,w',h3,h4,zGl hown h5 hB⟩
theorem zPy {w:World} {B:Nat} {T:TypeId} {ao:Option Addr} {n c:Nat} {xs:List UInt8} (h:Own w B T (.slice ao n c) xs):Sl w ao n xs:=by
 obtain ⟨a,k,e,h2,_⟩:=h.sl
 injection e with e1 e2 e3
 subst e1 e2
 exact h2
structure PkSt (B gb:Nat) (l:List UInt8) (V:Option Addr) (N C:Nat) (wl wr:World):Prop where
 b:Bk wr gb 113 #[.slice V N C]
 o:Own wr B 5 (.slice V N C) l
 below:Below B wl wr
 kept:∀ {k:Nat} {T':TypeId} {cs:Array Value},T'≠5→k≠gb→Bk wl k T' cs→Bk wr k T' cs
 le:B≤gb
theorem PkSt.put {B gb:Nat} {l l':List UInt8} {V V':Option Addr} {N C N' C':Nat} {wl wr w':World} (h:PkSt B gb l V N C wl wr) (hg:GrewB B wr w') (ho:Own w' B 5 (.slice V' N' C') l'):PkSt B gb l' V' N' C' wl (w'.setCell ⟨gb,0,none⟩ (.slice V' N' C')) :=
 have hb:=hg.bk (by decide) h.b
 ⟨zV hb rfl,zAQ ho hb (by decide) 0 _,(h.below.trans hg.below).setCell h.le _,fun ht hk hk2=>zBs (hg.bk ht (h.kept ht hk hk2)) hk 0 _,h.le⟩
theorem PkSt.call {B gb:Nat} {l l':List UInt8} {V V':Option Addr} {N C N' C':Nat} {wl wr w':World} (h:PkSt B gb l V N C wl wr) (hb:Bk w' gb 113 #[.slice V' N' C']) (ho:Own w' B 5 (.slice V' N' C') l') (hw:Below B wr w')
  (hk:∀ {k:Nat} {T':TypeId} {cs:Array Value},T'≠5→k≠gb→Bk wr k T' cs→Bk w' k T' cs):PkSt B gb l' V' N' C' wl w' :=
 ⟨hb,ho,h.below.trans hw,fun ht hne h2=>hk ht hne (h.kept ht hne h2),h.le⟩
theorem PkSt.alloc {B gb:Nat} {l:List UInt8} {V:Option Addr} {N C:Nat} {wl wr:World} (h:PkSt B gb l V N C wl wr) (o:Obj):PkSt B gb l V N C wl (wr.alloc o) :=
 ⟨zN _ h.b,h.o.alloc _,h.below.alloc (by have:=h.b.lt;have:=h.le;omega) _,fun ht hk hb=>zN _ (h.kept ht hk hb),h.le⟩
theorem zJf (r:ModR) (m:ModV) (w:World) (h:r.has w m) (hok:ModOk zR m) :
  Calls Tryz.prog 19 #[.agg #[.slice r.code.a r.code.n r.code.c,.slice r.data.a r.data.n r.data.c,.slice r.ex.a r.ex.n r.ex.c,.slice r.im.a r.im.n r.im.c]] w fun e w'=>e=.returned (.tuple #[.string ⟨(zBv m).toArray⟩,.int .i64 0])∧Below w.heap.size w w':=by
 obtain ⟨⟨ca,cn,cc⟩,⟨da,dn,dc⟩,⟨ea,en,ec⟩,⟨ia,jn,ic⟩⟩:=r
 obtain ⟨w1,hw1⟩:∃ w1,w1=w.alloc (.cells #[.slice ca cn cc,.slice da dn dc,.slice ea en ec,.slice ia jn ic] 48):=⟨_,rfl⟩
 have h1w:Below w.heap.size w w1:=by rw [hw1];exact zG (Below.refl _ _) _
 have b1:Bk w1 w.heap.size 48 #[.slice ca cn cc,.slice da dn dc,.slice ea en ec,.slice ia jn ic]:=by rw [hw1];exact zM _ _ _
 have ck:=zDR _ m w1 (h.below h1w)
 simp only at ck
 obtain ⟨hc,hd,he,hi,⟨hlc,hld,hle,hli⟩,wc,wd,we,wi⟩:=h
 simp only at *
 have lc:=hc.len
 have ld:=hd.len
 have le:=he.len
 have li:=hi.len
 have HW1:=zA hw1
 have H1W:=zA h1w
 have B1:=zA b1
 have CK:=zA ck
 have HCO:=zA hc
 have HDA:=zA hd
 have HEX:=zA he
 have HIM:=zA hi
 have HMO:=zA hok
 obtain ⟨c0,c1,c2,c3⟩:=zT b1
 have bL:=b1.lt
 have l1:=hok.l1
 have l2:=hok.l2
 have l3:=hok.l3
 have l4:=hok.l4
 have hhd:([67,77,49]:List UInt8)++[zAD cn,zAD dn,zAD en,zAD jn]=zD2 m 0:=by show _=zDD m;unfold zDD;rw [lc,ld,le,li];rfl
 have HHD:=zA hhd
 clear hw1 h1w b1 ck hc hd he hi wc wd we wi hok hhd
 go_enter Tryz.func19,Tryz.ntmps19
 go_upto_region 1 with (fail)
 rw [←HW1.out]
 go_upto_region 4 with (go_at_call 20;((with_reducible refine CK.out.mono ?_);rintro e w2 ⟨er,rfl,her,hb2⟩;have he0:=her.2 HMO.out;subst he0;clear her;have HB2:=zA (zI H1W.out hb2);have B2:=zA (zH hb2 B1.out);clear hb2))
 clear c0 c1 c2 c3 bL
 obtain ⟨m0,m1,m2,m3⟩:=zT B2.out
 have mL:=B2.out.lt
 have hBw:w.heap.size≤w2.heap.size:=HB2.out.size
 have KV:=run_convert_bytes_const_at (P:=Tryz.prog) w2 113 5 #[.int .u8 67,.int .u8 77,.int .u8 49] 3 3 w2.heap.size rfl Tryz.underlying113 Tryz.underlying5
 obtain ⟨w3,hw3⟩:∃ w3,w3=w2.alloc (.cells #[.int .u8 67,.int .u8 77,.int .u8 49] 5 (3,4)):=⟨_,rfl⟩
 have kv:(convert 113 113 (.slice (some ⟨w2.heap.size,0,none⟩) 3 3)).run Tryz.prog (w2.alloc (.cells #[.int .u8 67,.int .u8 77,.int .u8 49] 5))=.ok (.slice (some ⟨w2.heap.size,0,none⟩) 3 3) w3:=by rw [hw3];exact KV
 clear KV
 have g3:GrewB w.heap.size w2 w3:=by rw [hw3];exact GrewB.alloc _ _ hBw _
 have s3:Sl w3 (some ⟨w2.heap.size,0,none⟩) 3 ([67,77,49]:List UInt8):=by rw [hw3];exact zPb w2
 have h3:w.heap.size≤w3.heap.size:=Nat.le_trans hBw g3.size
 have B3:=zA (g3.bk (by decide) B2.out)
 have O4:=zA (s3.alloc (.cells #[.int .u8 (cn:Int),.int .u8 (dn:Int),.int .u8 (en:Int),.int .u8 (jn:Int)] 5))
 have s4:=zPd w3 cn dn en jn
 rw [show (cn:Int) % 256=cn by omega,show (dn:Int) % 256=dn by omega,show (en:Int) % 256=en by omega,show (jn:Int) % 256=jn by omega] at s4
 have S4:=zA s4
 clear s4
 have G4:=zA (g3.trans (GrewB.alloc w.heap.size w3 h3 (.cells #[.int .u8 (cn:Int),.int .u8 (dn:Int),.int .u8 (en:Int),.int .u8 (jn:Int)] 5)))
 have h4:=Nat.le_trans h3 (show w3.heap.size≤(w3.alloc (.cells #[.int .u8 (cn:Int),.int .u8 (dn:Int),.int .u8 (en:Int),.int .u8 (jn:Int)] 5)).heap.size by rw [World.size_alloc];omega)
 clear m0 m1 m2 m3 mL hw3 g3 s3
 obtain ⟨m0,m1,m2,m3⟩:=zT B3.out
 have mL:=B3.out.lt
 go_upto_region 5 with (at_builtin;go_loud (refine zPI rfl (.tmp 21) (.tmp 38) rfl w.heap.size ⟨w2.heap.size,0,none⟩ 3 3 [67,77,49] rfl O4.out (by decide) ⟨w3.heap.size,0,none⟩ 4 4 [zAD cn,zAD dn,zAD en,zAD jn] rfl S4.out (by decide) (by decide) (by decide) (by decide) h4 ?_;intro V5 N5 C5 w5 ho5 hg5;rw [HHD.out] at ho5;have O5:=zA ho5;have G5:=zA (G4.out.trans hg5);clear ho5 hg5))
 obtain ⟨gb,hgb⟩:∃ gb,w5.heap.size=gb:=⟨_,rfl⟩
 obtain ⟨w6,hw6⟩:∃ w6,w6=w5.alloc (.cells #[.slice V5 N5 C5] 113):=⟨_,rfl⟩
 rw [←hw6]
 try rw [hgb]
 have hB5:w.heap.size≤w5.heap.size:=Nat.le_trans hBw G5.out.size
 have g6:GrewB w.heap.size w5 w6:=by rw [hw6];exact GrewB.alloc _ _ hB5 _
 have b6:Bk w6 gb 113 #[.slice V5 N5 C5]:=by rw [hw6,←hgb];exact zM _ _ _
 have o6:Own w6 w.heap.size 5 (.slice V5 N5 C5) (zD2 m 0):=by rw [hw6];exact O5.out.alloc _
 have m6:=(G5.out.trans g6).bk (by decide) B2.out
 have d6:Below w.heap.size w w6:=HB2.out.trans (G5.out.trans g6).below
 clear m0 m1 m2 m3 mL hw6
 obtain ⟨m0,m1,m2,m3⟩:=zT m6
 have mL:=m6.lt
 have st6:PkSt w.heap.size gb (zD2 m 0) V5 N5 C5 w6 w6:=⟨b6,o6,Below.refl _ _,fun _ _ h=>h,by omega⟩
 obtain ⟨g7,hg7⟩:∃ g7,w6.heap.size=g7:=⟨_,rfl⟩
 obtain ⟨w7,hw7⟩:∃ w7,w7=w6.alloc (.cells #[.slice ca cn cc,.slice da dn dc] 36):=⟨_,rfl⟩
 have a7:Bk w7 g7 36 #[.slice ca cn cc,.slice da dn dc]:=by rw [hw7,←hg7];exact zM _ _ _
 have s7':=st6.alloc (.cells #[.slice ca cn cc,.slice da dn dc] 36)
 rw [←hw7] at s7'
 have ST7:=zA (show PkSt w.heap.size gb (zD2 m 0) V5 N5 C5 w7 w7 from ⟨s7'.b,s7'.o,Below.refl _ _,fun _ _ h=>h,s7'.le⟩)
 have D7:=zA (show Below w.heap.size w w7 by rw [hw7];exact zG d6 _)
 have M7:=zA (show Bk w7 w.heap.size 48 #[.slice ca cn cc,.slice da dn dc,.slice ea en ec,.slice ia jn ic] by rw [hw7];exact zN _ m6)
 have A7:=zA a7
 have ngb:g7≠gb:=by have:=b6.lt;omega
 have nmb:w.heap.size≠gb:=by have:=B2.out.lt;have:=G5.out.size;omega
 have HW7:=zA hw7
 clear hw7 a7 s7' st6 m6 b6 o6 g6 d6 G5 O5
 go_upto_region 6 with (fail)
 rw [←HW7.out]
 try rw [hg7]
 clear m0 m1 m2 m3 mL HW7
 go_loopw [46] (fun i wr=>∃ (t:Nat) (V:Option Addr) (N C:Nat),t≤2∧i=.int .i64 t∧PkSt w.heap.size gb (zD2 m t) V N C w7 wr) (fun i _=>2 - (intOf i).toNat)
 case atStart=>exact ⟨0,_,_,_,Nat.zero_le _,rfl,ST7.out⟩
 case round =>
  obtain ⟨t,V,N,C,ht,rfl,hst⟩:=hrel
  obtain rfl | rfl | rfl:t=0∨t=1∨t=2:=by omega
  ·rw [show ((0:Nat):Int)=0 from rfl]
   obtain ⟨WR,rfl⟩:∃ WR,wr=WR:=⟨_,rfl⟩
   obtain ⟨P0,hP0⟩:∃ P0,P0=zD2 m 0:=⟨_,rfl⟩
   obtain ⟨L0,hL0⟩:∃ L0,L0=m.code:=⟨_,rfl⟩
   have hl0:L0.length=cn:=by rw [hL0];omega
   have hp0:P0.length≤1000:=by rw [hP0];unfold zD2 zDD;simp only [List.length_append,zCY,List.length_cons,List.length_nil];omega
   rw [←hP0] at hst
   have HC0:=zA (show Sl w _ cn L0 from hL0▸HCO.out)
   have HNU:=zA (show zEV L0 from hL0▸HMO.out.n1)
   have ya:=hst.kept (by decide) ngb A7.out
   have y:=ya.cell 0
   simp only [List.getElem?_toArray,List.getElem?_cons_succ,List.getElem?_cons_zero] at y
   have yL:=ya.lt
   have HST:=zA hst
   clear ya hst
   go_wp2
   clear y yL
   go_loopw [9,52] (fun _ i wr=>∃ (j:Nat) (V:Option Addr) (N C:Nat),j≤cn∧i=.int .i64 j∧PkSt w.heap.size gb (P0++(L0.take j).flatMap zBW) V N C w7 wr) (fun _ i _=>cn - (intOf i).toNat)
   case atStart=>exact ⟨0,_,_,_,Nat.zero_le _,rfl,by simpa using HST.out⟩
   case round =>
    obtain ⟨j,V2,N2,C2,hj,rfl,hst⟩:=hrel
    by_cases hlj:j < cn
    ·have o0:(0:Int)≤j:=by omega
     have o1:(j:Int) < cn:=by omega
     obtain ⟨x,hx⟩:∃ x,L0[j]?=some x:=⟨_,List.getElem?_eq_getElem (by omega)⟩
     obtain ⟨x0,x1⟩:=HNU.out x (List.mem_of_getElem? hx)
     obtain ⟨ad,hao,hab,e0⟩:=zCM (HC0.out.below (D7.out.trans hst.below)) hlj hx
     subst hao
     have htk:P0++(L0.take (j+1)).flatMap zBW=(P0++(L0.take j).flatMap zBW)++zBW x:=by rw [List.take_add_one,hx,List.flatMap_append,List.append_assoc];simp
     have hle:(P0++(L0.take j).flatMap zBW).length≤10000000:=by rw [List.length_append,zCY,List.length_take];omega
     have c0:=hst.b.cell 0
     have cL:=hst.b.lt
     have cF:=fun i=>Bk.frozen hst.b i
     have HTK:=zA htk
     have HS2:=zA hst
     clear hst hx htk
     go_upto_region 12 with (fail)
     obtain ⟨y,hy⟩:∃ y,x+2147483648=y:=⟨_,rfl⟩
     rw [hy]
     have h4:zBW x=[zAD (y / 16777216),zAD (y / 65536),zAD (y / 256),zAD y]:=by rw [←hy];rfl
     rw [h4] at HTK
     have hbr:w.heap.size≤wr.heap.size:=by have:=HS2.out.le;omega
     have hba:w.heap.size≤(wr.alloc (.cells #[.int .u8 (y / 16777216 % 256),.int .u8 (y / 65536 % 256),.int .u8 (y / 256 % 256),.int .u8 (y % 256)] 5)).heap.size:=by rw [World.size_alloc];omega
     have HO:=zA (HS2.out.o.alloc (.cells #[.int .u8 (y / 16777216 % 256),.int .u8 (y / 65536 % 256),.int .u8 (y / 256 % 256),.int .u8 (y % 256)] 5))
     have HG:=zA (GrewB.alloc w.heap.size wr hbr (.cells #[.int .u8 (y / 16777216 % 256),.int .u8 (y / 65536 % 256),.int .u8 (y / 256 % 256),.int .u8 (y % 256)] 5))
     clear x0 x1 hy h4 e0 hab
     go_wp2_with (at_builtin;go_loud (refine zEm rfl (.tmp 58) (.tmp 70) rfl w.heap.size (.slice V2 N2 C2) (P0++(L0.take j).flatMap zBW) rfl HO.out (some ⟨wr.heap.size,0,none⟩) 4 4 [zAD (y / 16777216),zAD (y / 65536),zAD (y / 256),zAD y] rfl (zK2 wr y) hle (by decide) hba ?_;intro V3 N3 C3 w9 ho9 hg9;have hg:=HG.out.trans hg9;have hb9:=hg.bk (by decide) HS2.out.b;have c9:=hb9.cell 0;have cL9:=hb9.lt;have cF9:=fun i=>Bk.frozen hb9 i;have HP9:=zA (HS2.out.put hg ho9);clear ho9 hg9 hg hb9))
     go_roundw
     case rel=>exact ⟨j+1,V3,N3,C3,by omega,by go_num,by rw [HTK.out];exact HP9.out⟩
     case measure=>simp [intOf];omega
    ·have o1:¬((j:Int) < cn):=by omega
     obtain rfl:j=cn:=by omega
     rw [List.take_of_length_le (by omega)] at hst
     have HS2:=zA hst
     clear hst
     go_wp2
     go_roundw
     case rel=>exact ⟨0+1,V2,N2,C2,by omega,by go_num,by have:=HS2.out;rw [hP0,hL0] at this;exact this⟩
     case measure=>simp [intOf];try omega
  ·rw [show ((1:Nat):Int)=1 from rfl]
   obtain ⟨WR,rfl⟩:∃ WR,wr=WR:=⟨_,rfl⟩
   obtain ⟨P0,hP0⟩:∃ P0,P0=zD2 m 1:=⟨_,rfl⟩
   obtain ⟨L0,hL0⟩:∃ L0,L0=m.data:=⟨_,rfl⟩
   have hl0:L0.length=dn:=by rw [hL0];omega
   have hp0:P0.length≤1000:=by rw [hP0];unfold zD2 zDD;simp only [List.length_append,zCY,List.length_cons,List.length_nil];omega
   rw [←hP0] at hst
   have HC0:=zA (show Sl w _ dn L0 from hL0▸HDA.out)
   have HNU:=zA (show zEV L0 from hL0▸HMO.out.n2)
   have ya:=hst.kept (by decide) ngb A7.out
   have y:=ya.cell 1
   simp only [List.getElem?_toArray,List.getElem?_cons_succ,List.getElem?_cons_zero] at y
   have yL:=ya.lt
   have HST:=zA hst
   clear ya hst
   go_wp2
   clear y yL
   go_loopw [9,52] (fun _ i wr=>∃ (j:Nat) (V:Option Addr) (N C:Nat),j≤dn∧i=.int .i64 j∧PkSt w.heap.size gb (P0++(L0.take j).flatMap zBW) V N C w7 wr) (fun _ i _=>dn - (intOf i).toNat)
   case atStart=>exact ⟨0,_,_,_,Nat.zero_le _,rfl,by simpa using HST.out⟩
   case round =>
    obtain ⟨j,V2,N2,C2,hj,rfl,hst⟩:=hrel
    by_cases hlj:j < dn
    ·have o0:(0:Int)≤j:=by omega
     have o1:(j:Int) < dn:=by omega
     obtain ⟨x,hx⟩:∃ x,L0[j]?=some x:=⟨_,List.getElem?_eq_getElem (by omega)⟩
     obtain ⟨x0,x1⟩:=HNU.out x (List.mem_of_getElem? hx)
     obtain ⟨ad,hao,hab,e0⟩:=zCM (HC0.out.below (D7.out.trans hst.below)) hlj hx
     subst hao
     have htk:P0++(L0.take (j+1)).flatMap zBW=(P0++(L0.take j).flatMap zBW)++zBW x:=by rw [List.take_add_one,hx,List.flatMap_append,List.append_assoc];simp
     have hle:(P0++(L0.take j).flatMap zBW).length≤10000000:=by rw [List.length_append,zCY,List.length_take];omega
     have c0:=hst.b.cell 0
     have cL:=hst.b.lt
     have cF:=fun i=>Bk.frozen hst.b i
     have HTK:=zA htk
     have HS2:=zA hst
     clear hst hx htk
     go_upto_region 12 with (fail)
     obtain ⟨y,hy⟩:∃ y,x+2147483648=y:=⟨_,rfl⟩
     rw [hy]
     have h4:zBW x=[zAD (y / 16777216),zAD (y / 65536),zAD (y / 256),zAD y]:=by rw [←hy];rfl
     rw [h4] at HTK
     have hbr:w.heap.size≤wr.heap.size:=by have:=HS2.out.le;omega
     have hba:w.heap.size≤(wr.alloc (.cells #[.int .u8 (y / 16777216 % 256),.int .u8 (y / 65536 % 256),.int .u8 (y / 256 % 256),.int .u8 (y % 256)] 5)).heap.size:=by rw [World.size_alloc];omega
     have HO:=zA (HS2.out.o.alloc (.cells #[.int .u8 (y / 16777216 % 256),.int .u8 (y / 65536 % 256),.int .u8 (y / 256 % 256),.int .u8 (y % 256)] 5))
     have HG:=zA (GrewB.alloc w.heap.size wr hbr (.cells #[.int .u8 (y / 16777216 % 256),.int .u8 (y / 65536 % 256),.int .u8 (y / 256 % 256),.int .u8 (y % 256)] 5))
     clear x0 x1 hy h4 e0 hab
     go_wp2_with (at_builtin;go_loud (refine zEm rfl (.tmp 58) (.tmp 70) rfl w.heap.size (.slice V2 N2 C2) (P0++(L0.take j).flatMap zBW) rfl HO.out (some ⟨wr.heap.size,0,none⟩) 4 4 [zAD (y / 16777216),zAD (y / 65536),zAD (y / 256),zAD y] rfl (zK2 wr y) hle (by decide) hba ?_;intro V3 N3 C3 w9 ho9 hg9;have hg:=HG.out.trans hg9;have hb9:=hg.bk (by decide) HS2.out.b;have c9:=hb9.cell 0;have cL9:=hb9.lt;have cF9:=fun i=>Bk.frozen hb9 i;have HP9:=zA (HS2.out.put hg ho9);clear ho9 hg9 hg hb9))
     go_roundw
     case rel=>exact ⟨j+1,V3,N3,C3,by omega,by go_num,by rw [HTK.out];exact HP9.out⟩
     case measure=>simp [intOf];omega
    ·have o1:¬((j:Int) < dn):=by omega
     obtain rfl:j=dn:=by omega
     rw [List.take_of_length_le (by omega)] at hst
     have HS2:=zA hst
     clear hst
     go_wp2
     go_roundw
     case rel=>exact ⟨1+1,V2,N2,C2,by omega,by go_num,by have:=HS2.out;rw [hP0,hL0] at this;exact this⟩
     case measure=>simp [intOf];try omega
  ·rw [show ((2:Nat):Int)=2 from rfl]
   obtain ⟨WR,rfl⟩:∃ WR,wr=WR:=⟨_,rfl⟩
   obtain ⟨P2,hP2⟩:∃ P2,P2=zD2 m 2:=⟨_,rfl⟩
   have hp2:P2.length≤1000:=by rw [hP2];unfold zD2 zDD;simp only [List.length_append,zCY,List.length_cons,List.length_nil];omega
   rw [←hP2] at hst
   have HST:=zA hst
   obtain ⟨m0,m1,m2,m3⟩:=zT (hst.kept (by decide) nmb M7.out)
   have mL:=(hst.kept (by decide) nmb M7.out).lt
   clear hst
   go_wp2
   clear m0 m1 m2 m3 mL
   go_loopw [78] (fun i wr=>∃ (j:Nat) (V:Option Addr) (N C:Nat),j≤en∧i=.int .i64 j∧PkSt w.heap.size gb (P2++(m.ex.take j).flatMap zAu) V N C w7 wr) (fun i _=>en - (intOf i).toNat)
   case atStart=>exact ⟨0,_,_,_,Nat.zero_le _,rfl,by simpa using HST.out⟩
   case round =>
    obtain ⟨j,V2,N2,C2,hj,rfl,hst⟩:=hrel
    by_cases hlj:j < en
    ·have o0:(0:Int)≤j:=by omega
     have o1:(j:Int) < en:=by omega
     obtain ⟨x,hx⟩:∃ x,m.ex[j]?=some x:=⟨_,List.getElem?_eq_getElem (by omega)⟩
     have hxn:=zCa (HMO.out.e1 x (List.mem_of_getElem? hx)).1
     obtain ⟨ad,hao,hab,e0,e1⟩:=zCK (HEX.out.below (D7.out.trans hst.below)) hlj hx
     subst hao
     have htk:P2++(m.ex.take (j+1)).flatMap zAu=(P2++(m.ex.take j).flatMap zAu)++zAu x:=by rw [List.take_add_one,hx,List.flatMap_append,List.append_assoc];simp
     have hle:(P2++(m.ex.take j).flatMap zAu).length≤1000000:=by
      have:=zEW (l:=m.ex.take j) fun y hy=>zCa (HMO.out.e1 y (List.mem_of_mem_take hy)).1
      rw [List.length_take] at this
      rw [List.length_append]
      omega
     have s8:=hst.alloc (.cells #[.string x.name,.int .i64 x.at_] 91)
     have fn:=zIc x w.heap.size gb _ _ _ s8.le s8.b s8.o hle (by omega)
     have HTK:=zA htk
     have S8:=zA s8
     have FN:=zA fn
     clear hst hx htk s8 fn
     go_wp2_with (go_at_call 43;((with_reducible refine FN.out.mono ?_);rintro e w9 ⟨rfl,V3,N3,C3,hb9,ho9,hw9,hk9⟩;have HP9:=zA (S8.out.call hb9 ho9 hw9 hk9);clear hb9 ho9 hw9 hk9))
     go_roundw
     case rel=>exact ⟨j+1,V3,N3,C3,by omega,by go_num,by rw [HTK.out];exact HP9.out⟩
     case measure=>simp [intOf];omega
    ·have o1:¬((j:Int) < en):=by omega
     obtain rfl:j=en:=by omega
     rw [List.take_of_length_le (by omega)] at hst
     obtain ⟨WR2,rfl⟩:∃ WR,wr=WR:=⟨_,rfl⟩
     obtain ⟨P3,hP3⟩:∃ P3,P3=P2++m.ex.flatMap zAu:=⟨_,rfl⟩
     have hp3:P3.length≤2000:=by
      have:=zEW (l:=m.ex) fun y hy=>zCa (HMO.out.e1 y hy).1
      rw [hP3,List.length_append]
      omega
     rw [←hP3] at hst
     have HST:=zA hst
     obtain ⟨m0,m1,m2,m3⟩:=zT (hst.kept (by decide) nmb M7.out)
     have mL:=(hst.kept (by decide) nmb M7.out).lt
     clear hst
     go_wp2
     clear m0 m1 m2 m3 mL
     go_loopw [92] (fun i wr=>∃ (j:Nat) (V:Option Addr) (N C:Nat),j≤jn∧i=.int .i64 j∧PkSt w.heap.size gb (P3++(m.im.take j).flatMap zAu) V N C w7 wr) (fun i _=>jn - (intOf i).toNat)
     case atStart=>exact ⟨0,_,_,_,Nat.zero_le _,rfl,by simpa using HST.out⟩
     case round =>
      obtain ⟨j,V2,N2,C2,hj,rfl,hst⟩:=hrel
      by_cases hlj:j < jn
      ·have o0:(0:Int)≤j:=by omega
       have o1:(j:Int) < jn:=by omega
       obtain ⟨x,hx⟩:∃ x,m.im[j]?=some x:=⟨_,List.getElem?_eq_getElem (by omega)⟩
       have hxn:=zCa (HMO.out.i1 x (List.mem_of_getElem? hx)).1
       obtain ⟨ad,hao,hab,e0,e1⟩:=zCK (HIM.out.below (D7.out.trans hst.below)) hlj hx
       subst hao
       have htk:P3++(m.im.take (j+1)).flatMap zAu=(P3++(m.im.take j).flatMap zAu)++zAu x:=by rw [List.take_add_one,hx,List.flatMap_append,List.append_assoc];simp
       have hle:(P3++(m.im.take j).flatMap zAu).length≤1000000:=by
        have:=zEW (l:=m.im.take j) fun y hy=>zCa (HMO.out.i1 y (List.mem_of_mem_take hy)).1
        rw [List.length_take] at this
        rw [List.length_append]
        omega
       have s8:=hst.alloc (.cells #[.string x.name,.int .i64 x.at_] 93)
       have fn:=zIc x w.heap.size gb _ _ _ s8.le s8.b s8.o hle (by omega)
       have HTK:=zA htk
       have S8:=zA s8
       have FN:=zA fn
       clear hst hx htk s8 fn
       go_wp2_with (go_at_call 43;((with_reducible refine FN.out.mono ?_);rintro e w9 ⟨rfl,V3,N3,C3,hb9,ho9,hw9,hk9⟩;have HP9:=zA (S8.out.call hb9 ho9 hw9 hk9);clear hb9 ho9 hw9 hk9))
       go_roundw
       case rel=>exact ⟨j+1,V3,N3,C3,by omega,by go_num,by rw [HTK.out];exact HP9.out⟩
       case measure=>simp [intOf];omega
      ·have o1:¬((j:Int) < jn):=by omega
       obtain rfl:j=jn:=by omega
       rw [List.take_of_length_le (by omega)] at hst
       have hbl:P3++m.im.flatMap zAu=zCd m:=by
        rw [hP3,hP2];unfold zD2 zCd
        simp only [List.append_assoc]
       have hln:(zCd m).length≤3000:=by
        have:=zEW (l:=m.im) fun y hy=>zCa (HMO.out.i1 y hy).1
        rw [←hbl,List.length_append]
        omega
       rw [hbl] at hst
       have hcv:=zEq (P:=Tryz.prog) (w:=wr.drew) hst.o.drew (by unfold zCd zDD;simp) Tryz.underlying113 Tryz.underlying5 Tryz.underlying9
       have hsz:(⟨(zCd m).toArray⟩:ByteArray).size=(zCd m).length:=by simp [ByteArray.size]
       have sm:=zJe ⟨(zCd m).toArray⟩ wr.drew (by rw [hsz];omega)
       have c0:=hst.b.cell 0
       have cL:=hst.b.lt
       simp only [List.getElem?_toArray,List.getElem?_cons_zero] at c0
       have HST:=zA hst
       have SM:=zA sm
       have hB:w.heap.size≤wr.heap.size:=by have:=hst.le;omega
       obtain ⟨B0,hB0⟩:∃ B0,B0=zCd m:=⟨_,rfl⟩
       have hpk:zBv m=B0++zDG B0:=by rw [hB0];rfl
       rw [←hB0] at hcv HST SM hln
       have HPK:=zA hpk
       clear hst hsz hbl sm hpk hB0
       go_upto_region 26 with (fail)
       go_region_law (first
        | (go_simp;go_at_call 44;((with_reducible refine SM.out.mono ?_);rintro e w10 ⟨ao,c,rfl,hos,hb10⟩;have hbx:Below wr.heap.size wr w10:=zI (zJ (Below.refl _ _)) hb10;have c10:w10.cell? ⟨gb,0,none⟩=some (.slice V2 N2 C2):=(zH hbx HST.out.b).cell 0;have cL10:gb < w10.heap.size:=(zH hbx HST.out.b).lt;have h10:Below w.heap.size w w10:=((D7.out.trans HST.out.below).trans (Below.mono hbx hB));have hB10:w.heap.size≤w10.heap.size:=Nat.le_trans hB hbx.size;obtain ⟨V11,N11,C11,w11,hr11,ho11,hg11⟩:=zQf w.heap.size (.slice V2 N2 C2) B0 (Own.below HST.out.o hbx) ao 2 c (zDG B0) (zPy hos) (by omega) (by decide) hB10;have hcv2:=zEq (P:=Tryz.prog) ho11 (by unfold zDG;simp) Tryz.underlying113 Tryz.underlying5 Tryz.underlying9;have H11:=zA (h10.trans hg11.below);have HR11:=zA hr11;clear hos hb10 hbx ho11 hg11 h10 hr11))
        | (refine zA7 rfl _ _ 113 113 rfl (.slice V2 N2 C2) (.slice ao 2 c) (by simp [Act.eval,Act.put]) (by simp [Act.eval,Act.put]) HR11.out ?_))
       all_goals (
        go_wp2
        refine bodyPost_ret (v:=.tuple #[.string ⟨(B0++zDG B0).toArray⟩,.int .i64 0]) (by simp [results,Tryz.results19,go_sem, *];try rfl) rfl ⟨by rw [HPK.out],H11.out⟩)
theorem zIb (r:ModR) (m:ModV) (w:World) (h:r.has w m) (hno:¬ModOk zR m) :
  Calls Tryz.prog 19 #[.agg #[.slice r.code.a r.code.n r.code.c,.slice r.data.a r.data.n r.data.c,.slice r.ex.a r.ex.n r.ex.c,.slice r.im.a r.im.n r.im.c]] w fun e w'=>∃ er,er≠0∧e=.returned (.tuple #[.string ⟨#[]⟩,.int .i64 er])∧Below w.heap.size w w':=by
 obtain ⟨⟨ca,cn,cc⟩,⟨da,dn,dc⟩,⟨ea,en,ec⟩,⟨ia,jn,ic⟩⟩:=r
 obtain ⟨w1,hw1⟩:∃ w1,w1=w.alloc (.cells #[.slice ca cn cc,.slice da dn dc,.slice ea en ec,.slice ia jn ic] 48):=⟨_,rfl⟩
 have h1w:Below w.heap.size w w1:=by rw [hw1];exact zG (Below.refl _ _) _
 have b1:Bk w1 w.heap.size 48 #[.slice ca cn cc,.slice da dn dc,.slice ea en ec,.slice ia jn ic]:=by rw [hw1];exact zM _ _ _
 have ck:=zDR _ m w1 (h.below h1w)
 simp only at ck
 obtain ⟨hc,hd,he,hi,⟨hlc,hld,hle,hli⟩,wc,wd,we,wi⟩:=h
 simp only at *
 have lc:=hc.len
 have ld:=hd.len
 have le:=he.len
 have li:=hi.len
 have HW1:=zA hw1
 have H1W:=zA h1w
 have B1:=zA b1
 have CK:=zA ck
 have HCO:=zA hc
 have HDA:=zA hd
 have HEX:=zA he
 have HIM:=zA hi
 obtain ⟨c0,c1,c2,c3⟩:=zT b1
 have bL:=b1.lt
 clear hw1 h1w b1 ck hc hd he hi wc wd we wi
 go_enter Tryz.func19,Tryz.ntmps19
 go_upto_region 1 with (fail)
 rw [←HW1.out]
 go_upto_region 2 with (go_at_call 20;((with_reducible refine CK.out.mono ?_);rintro e w2 ⟨er,rfl,her,hb2⟩;have HB2:=zA (zI H1W.out hb2);have HER:=zA her;clear hb2 her))
 have h0:er≠0:=fun h=>hno (HER.out.1 h)
 have q1:(er != 0)=true:=by simpa using h0
 have q2:(er==0)=false:=by simpa using h0
 go_wp2
 refine bodyPost_ret (v:=.tuple #[.string ⟨#[]⟩,.int .i64 er]) (by simp [results,Tryz.results19,go_sem, *];try rfl) rfl ⟨er,h0,rfl,HB2.out⟩
end Go.Proofs.YtlpejagkadalbaaGreatDoor
