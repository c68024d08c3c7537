import Derived.Test.YtlpejagkadalbaaGreatDoorZk15
set_option maxHeartbeats 40000000
set_option maxRecDepth 100000
set_option linter.unusedVariables false
set_option linter.unusedSimpArgs false
namespace Go.Proofs.YtlpejagkadalbaaGreatDoor
open Go Go.RowKit
def zEW (op:Int) (k:Nat):Bool:=if k=0 then zDY op else if k=1 then zDX op else zDW op
def zJa (i:InstV) (k:Nat) (v:Int):InstV:=if k=0 then ⟨i.op,v,i.b,i.c⟩ else if k=1 then ⟨i.op,i.a,v,i.c⟩ else ⟨i.op,i.a,i.b,v⟩
def stP (op:Int) (L:List (List UInt8)):Nat→List (List UInt8)×InstV
 | 0=>(L,⟨op,0,0,0⟩)
 | k+1=>if zEW op k=true∧1 < (stP op L k).1.length then ((stP op L k).1.tail,zJa (stP op L k).2 k (atoiV (Lib.trimPrefix ((stP op L k).1.tail.headD []) [114]))) else stP op L k
def ics (i:InstV):Array Value:=#[.int .i64 i.op,.int .i64 i.a,.int .i64 i.b,.int .i64 i.c]
theorem zOa {w:World} {g:Nat} {T:TypeId} {v0 v1 v2 v3 v4 v5:Value} (h:Bk w g T #[v0,v1,v2,v3,v4,v5]) :
  w.cell? ⟨g,0,none⟩=some v0∧w.cell? ⟨g,1,none⟩=some v1∧w.cell? ⟨g,2,none⟩=some v2∧w.cell? ⟨g,3,none⟩=some v3∧w.cell? ⟨g,4,none⟩=some v4∧w.cell? ⟨g,5,none⟩=some v5:=⟨h.cell 0,h.cell 1,h.cell 2,h.cell 3,h.cell 4,h.cell 5⟩
theorem zEL {w:World} {g:Nat} {T:TypeId} {v0 v1:Value} (h:Bk w g T #[v0,v1]):w.cell? ⟨g,0,none⟩=some v0∧w.cell? ⟨g,1,none⟩=some v1:=⟨h.cell 0,h.cell 1⟩
theorem zDs {op:Int} {L:List (List UInt8)} {k:Nat} (h:¬(zEW op k=true∧1 < (stP op L k).1.length)):stP op L (k+1)=stP op L k:=by
 show (if _ then _ else _)=_
 rw [if_neg h]
theorem zFo {op:Int} {L:List (List UInt8)} {k:Nat} (h:zEW op k=true∧1 < (stP op L k).1.length):stP op L (k+1)=((stP op L k).1.tail,zJa (stP op L k).2 k (atoiV (Lib.trimPrefix ((stP op L k).1.tail.headD []) [114]))):=by
 show (if _ then _ else _)=_
 rw [if_pos h]
theorem zFW {op:Int} {L l:List (List UInt8)} {i:InstV} {k:Nat} (h:stP op L k=(l,i)) (hz:zJa i k 0=i):stP op L (k+1)=((zE8 (zEW op k) l).1,zJa i k (zE8 (zEW op k) l).2):=by
 unfold zE8
 by_cases hc:zEW op k=true∧1 < l.length
 ·rw [zFo (by rw [h];exact hc),h,if_pos hc]
 ·rw [zDs (by rw [h];exact hc),h,if_neg hc,hz]
theorem zKW (s:List UInt8):zEt s=(stP (zC2 ((splitC 32 s).headD [])) (splitC 32 s) 3).2:=by
 unfold zEt
 simp only
 generalize splitC 32 s=L
 generalize zC2 (L.headD [])=op
 have h0:stP op L 0=(L,⟨op,0,0,0⟩):=rfl
 have h1:=zFW h0 rfl
 have h2:=zFW h1 rfl
 have h3:=zFW h2 rfl
 rw [h3]
 rfl
theorem zDR (c:UInt8):∀ l:List UInt8,(splitC c l).length≤l.length+1
 | []=>by simp [splitC]
 | b::l=>by
  have:=zDR c l
  unfold splitC
  split
  ·simp;omega
  ·split
   ·simp
   ·next h=>rw [h] at this;simp at this ⊢;omega
theorem zFV (y z:ByteArray) (hz:z.data.toList=Lib.trimPrefix y.data.toList [114]) (w:World):Calls Tryz.prog 166 #[.string y,.string ⟨#[114]⟩] w fun e w'=>e=.returned (.string z)∧w'=w:=by
 refine (Tryz.strings_TrimPrefix y ⟨#[114]⟩ w).mono ?_
 rintro e w' ⟨rfl,rfl⟩
 refine ⟨?_,rfl⟩
 have:(⟨(Lib.trimPrefix y.data.toList (⟨#[114]⟩:ByteArray).data.toList).toArray⟩:ByteArray)=z:=ByteArray.ext (by rw [show (⟨#[114]⟩:ByteArray).data.toList=[114] from rfl,←hz])
 rw [this]
theorem zC9 (a b:List UInt8):(Lib.trimPrefix a b).length≤a.length:=by
 unfold Lib.trimPrefix
 split<;>simp
theorem zCz (c:UInt8):∀ (l:List UInt8),∀ x∈splitC c l,x.length≤l.length
 | [],x,hx=>by simp [splitC] at hx;simp [hx]
 | b :: l,x,hx=>by
  unfold splitC at hx
  split at hx
  ·rcases List.mem_cons.1 hx with h | h
   ·simp [h]
   ·have:=zCz c l x h;simp;omega
  ·split at hx
   ·next h=>exact absurd h (splitC_ne c l)
   ·next y ys h =>
    rcases List.mem_cons.1 hx with e | e
    ·have:=zCz c l y (by rw [h];simp);simp [e];omega
    ·have:=zCz c l x (by rw [h];exact List.mem_cons_of_mem _ e);simp;omega
theorem zBB (s:ByteArray) (w:World) (h:PEnv w) (hs:s.size≤67108864):Calls Tryz.prog 134 #[.string s] w fun e w'=>e=.returned (.tuple #[(zAG s.data.toList).1.val,.int .i64 (zAG s.data.toList).2])∧Below w.heap.size w w':=by
 obtain ⟨w1,hw1⟩:∃ w1,w1=w.alloc (.cells #[.int .i64 0,.int .i64 0,.int .i64 0,.int .i64 0] 179):=⟨_,rfl⟩
 have z1:Bk w1 w.heap.size 179 #[.int .i64 0,.int .i64 0,.int .i64 0,.int .i64 0]:=by rw [hw1];exact zM _ _ _
 have b1:Below w.heap.size w w1:=by rw [hw1];exact zG (Below.refl _ _) _
 have sp:=zGl s 32 w1 (h.below b1) hs
 have hsp:=zKW s.data.toList
 have hlen:=zCz 32 s.data.toList
 have hne:=splitC_ne 32 s.data.toList
 have hn1:=zDR 32 s.data.toList
 obtain ⟨L,hL⟩:∃ L,splitC 32 s.data.toList=L:=⟨_,rfl⟩
 rw [hL] at sp hsp hlen hne hn1
 obtain ⟨n,hn⟩:∃ n,L.length=n:=⟨_,rfl⟩
 obtain ⟨x0,L',rfl⟩:∃ x0 L',L=x0::L':=by cases L with | nil=>exact absurd rfl hne | cons a b=>exact ⟨a,b,rfl⟩
 rw [hn] at sp
 obtain ⟨m0,rfl⟩:∃ m0,n=m0+1:=⟨n - 1,by rw [←hn];simp⟩
 rw [hn] at hn1
 have hsz:s.data.toList.length=s.size:=rfl
 simp only [List.headD_cons] at hsp
 obtain ⟨op,hop⟩:∃ op,zC2 x0=op:=⟨_,rfl⟩
 rw [hop] at hsp
 generalize hLL:x0::L'=L at *
 have hx0:L[0]?=some x0:=by rw [←hLL];rfl
 obtain ⟨gs,hgs⟩:∃ gs,w1.heap.size=gs:=⟨_,rfl⟩
 obtain ⟨g2,hg2⟩:∃ g2,w.heap.size=g2:=⟨_,rfl⟩
 have hg12:g2 < gs:=by rw [←hgs,←hg2];exact z1.lt
 rw [hgs] at sp
 have Z1:=zA z1
 have HW1:=zA hw1
 have SP:=zA sp
 have B1:=zA b1
 have HE:=zA h
 clear z1 hw1 sp b1 h
 go_enter Tryz.func134,Tryz.ntmps134
 go_upto_region 1 with (fail)
 rw [←HW1.out]
 go_upto_region 2 with (go_at_call 86;((with_reducible refine SP.out.mono ?_);rintro e w2 ⟨rfl,hc2,hb2⟩;have HC2:=zA hc2;have HB2:=zA (show Below w1.heap.size w1 w2 by rw [hgs];exact hb2);clear hc2 hb2))
 have k2:=HC2.out 0 x0 hx0
 generalize hsx:(⟨x0.toArray⟩:ByteArray)=sx at k2
 have hb2w:Below w.heap.size w w2:=zI B1.out HB2.out
 have of:=zKu sx w2 (HE.out.below hb2w).asc
 rw [show sx.data.toList=x0 by rw [←hsx],hop] at of
 have OF:=zA of
 have HB2W:=zA hb2w
 clear of hb2w
 go_upto_region 3 with (go_at_call 165;((with_reducible refine OF.out.mono ?_);rintro e w3 ⟨rfl,hb3⟩;have HB3:=zA hb3;clear hb3))
 obtain ⟨g5,hg5⟩:∃ g5,w3.heap.size=g5:=⟨_,rfl⟩
 obtain ⟨w4,hw4⟩:∃ w4,w4=w3.alloc (.cells #[.int .i64 op,.int .i64 0,.int .i64 0,.int .i64 0] 179):=⟨_,rfl⟩
 rw [←hw4,hg5]
 have i4:Bk w4 g5 179 #[.int .i64 op,.int .i64 0,.int .i64 0,.int .i64 0]:=by rw [hw4,←hg5];exact zM _ _ _
 have b34:Below w3.heap.size w3 w4:=by rw [hw4];exact zG (Below.refl _ _) _
 have b3:Below w.heap.size w w3:=zI HB2W.out HB3.out
 have b4:Below w.heap.size w w4:=zI b3 b34
 have hg25:gs < g5:=by have h1:=World.block_lt_of_cell? w2 _ k2;have h2:=HB3.out.size;rw [←hg5];simp only at h1;omega
 have pc:∀ x:Later w3,∀ k y,L[k]?=some y→x.val.cell? ⟨gs,k,none⟩=some (.string ⟨y.toArray⟩):=fun x k y hy=>by
  have h1:=HC2.out k y hy
  exact (x.ok.cell (by have:=World.block_lt_of_cell? w2 _ h1;have h2:=HB3.out.size;simp only at this ⊢;omega)).trans ((HB3.out.cell (World.block_lt_of_cell? w2 _ h1)).trans h1)
 have z3:∀ x:Later w3,Bk x.val g2 179 #[.int .i64 0,.int .i64 0,.int .i64 0,.int .i64 0]:=fun x=>by rw [←hg2];exact zH x.ok (zH HB3.out (zH HB2.out Z1.out))
 have ev:∀ x:Later w3,PEnv x.val:=fun x=>HE.out.below (zI b3 x.ok)
 have sh:=zEn op w4 (ev ⟨w4,b34⟩).asc
 obtain ⟨wd,hwd⟩:∃ wd,(if opB op then zV op.toNat else [])=wd:=⟨_,rfl⟩
 obtain ⟨cC,hcC⟩:∃ cC,(if opB op then shC op else 0)=cC:=⟨_,rfl⟩
 have hcc:(cC != 0)=zDW op:=by rw [←hcC];unfold zDW;cases opB op<;>simp
 have hcd:decide (cC=0) = !zDW op:=by rw [←hcc];by_cases h:cC=0<;>simp [h]
 rw [hwd] at sh
 unfold zIM at sh
 rw [hcC,show (opB op&&shA op)=zDY op from rfl,show (opB op&&shB op)=zDX op from rfl] at sh
 obtain ⟨opk,hopk⟩:∃ opk,opB op=opk:=⟨_,rfl⟩
 rw [hopk] at sh
 obtain ⟨sw,hsw⟩:∃ sw:ByteArray,(⟨wd.toArray⟩:ByteArray)=sw:=⟨_,rfl⟩
 rw [hsw] at sh
 clear hwd hcC hsw hopk wd
 have SH:=zA sh
 have I4:=zA i4
 have HW4:=zA hw4
 have B34:=zA b34
 have B3:=zA b3
 obtain ⟨i40,i41,i42,i43⟩:=zAD i4
 have i4L:=i4.lt
 clear sh i4 hw4 b34 b3 b4 k2 hsx SP OF
 go_upto_region 4 with (go_at_call 135;((with_reducible refine SH.out.mono ?_);rintro e w5 ⟨rfl,hb5⟩;have HB5:=zA hb5;clear hb5))
 obtain ⟨g6,hg6⟩:∃ g6,w5.heap.size=g6:=⟨_,rfl⟩
 obtain ⟨w6,hw6⟩:∃ w6,w6=w5.alloc (.cells #[.string sw,.bool (zDY op),.bool (zDX op),.int .u8 cC] 230):=⟨_,rfl⟩
 rw [←hw6,hg6]
 have s6:Bk w6 g6 230 #[.string sw,.bool (zDY op),.bool (zDX op),.int .u8 cC]:=by rw [hw6,←hg6];exact zM _ _ _
 have b56:Below w5.heap.size w5 w6:=by rw [hw6];exact zG (Below.refl _ _) _
 have b46:Below w4.heap.size w4 w6:=zI HB5.out b56
 have b36:Below w3.heap.size w3 w6:=zI B34.out b46
 have I6:=zA (zH b46 I4.out)
 obtain ⟨s60,s61,s62,s63⟩:=zAD s6
 have s6L:=s6.lt
 have i6L:=I6.out.lt
 have B36:=zA b36
 have g6z:w6.heap.size=g6+1:=by rw [hw6,←hg6,World.size_alloc]
 clear i40 i41 i42 i43 i4L b56 b46 b36 hw6 SH
 go_upto_region 5 with (fail)
 obtain ⟨w7,hw7⟩:∃ w7,w7=w6.alloc (.cells #[.pointer (some ⟨g5,1,none⟩),.bool (zDY op),.pointer (some ⟨g5,2,none⟩),.bool (zDX op),.pointer (some ⟨g5,3,none⟩),.bool (zDW op)] 250):=⟨_,rfl⟩
 rw [←hw7]
 have l7:Bk w7 (g6+1) 250 #[.pointer (some ⟨g5,1,none⟩),.bool (zDY op),.pointer (some ⟨g5,2,none⟩),.bool (zDX op),.pointer (some ⟨g5,3,none⟩),.bool (zDW op)]:=by rw [hw7,←g6z];exact zM _ _ _
 have b67:Below w6.heap.size w6 w7:=by rw [hw7];exact zG (Below.refl _ _) _
 have L7:=zA l7
 have I7:=zA (zH b67 I6.out)
 have B7:=zA (zI B36.out b67)
 have hne56:g5≠g6+1:=by omega
 clear l7 b67 hw7 s60 s61 s62 s63 s6L i6L g6z s6 I6 B36
 have LEN:=zA hlen
 have HN:=zA hn
 clear hlen hn
 go_loopw [4,40] (fun l i wr=>∃ k j m:Nat,k≤3∧j+(m+1)=m0+1∧i=.int .i64 k∧l=.slice (some ⟨gs,j,none⟩) (m+1) (m+1)∧(stP op L k).1=L.drop j∧Bk wr g5 179 (ics (stP op L k).2)∧Bk wr (g6+1) 250 #[.pointer (some ⟨g5,1,none⟩),.bool (zDY op),.pointer (some ⟨g5,2,none⟩),.bool (zDX op),.pointer (some ⟨g5,3,none⟩),.bool (zDW op)]∧Below w3.heap.size w3 wr) (fun _ i _=>3 - (intOf i).toNat)
 case atStart=>exact ⟨0,0,m0,by omega,by omega,rfl,rfl,rfl,I7.out,L7.out,B7.out⟩
 case round =>
  obtain ⟨k,j,m,hk,hjm,rfl,rfl,hst,hi,hl,hb⟩:=hrel
  have HST:=zA hst
  have HI:=zA hi
  have HL:=zA hl
  have HB:=zA hb
  clear hst hi hl hb I7 L7 B7
  obtain ⟨l0,l1,l2,l3,l4,l5⟩:=zOa HL.out
  have lL:=HL.out.lt
  rcases k with _ | _ | _ | k
  ·
   rcases (by cases zDY op<;>simp:zDY op=false∨zDY op=true) with hh | hh
   ·have hno:=zDs (op:=op) (L:=L) (k:=0) (by rw [show zEW op 0=zDY op from rfl,hh];simp)
    have HNO:=zA hno
    clear hno
    rw [hh] at l1
    go_wp2
    go_roundw
    case rel=>exact ⟨1,j,m,by omega,hjm,by first | rfl | go_num,rfl,by rw [HNO.out];exact HST.out,by rw [HNO.out];exact zN _ HI.out,zN _ HL.out,zG HB.out _⟩
    case measure=>simp [intOf]
   ·rw [hh] at l1
    rcases m with _ | m
    ·have hno:=zDs (op:=op) (L:=L) (k:=0) (by rw [HST.out,List.length_drop,HN.out];omega)
     have HNO:=zA hno
     clear hno
     go_wp2
     go_roundw
     case rel=>exact ⟨1,j,0,by omega,hjm,by first | rfl | go_num,rfl,by rw [HNO.out];exact HST.out,by rw [HNO.out];exact zN _ HI.out,zN _ HL.out,zG HB.out _⟩
     case measure=>simp [intOf]
    ·have q1:(1:Int) < (m:Int)+1+1:=by omega
     have hgo:=zFo (op:=op) (L:=L) (k:=0) ⟨hh,by rw [HST.out,List.length_drop,HN.out];omega⟩
     obtain ⟨y,hy⟩:∃ y,L[j+1]?=some y:=⟨_,List.getElem?_eq_getElem (by rw [HN.out];omega)⟩
     have hyl:=LEN.out y (List.mem_of_getElem? hy)
     have htl:(L.drop j).tail=L.drop (j+1):=by rw [List.tail_drop]
     have hhd:(L.drop (j+1)).headD []=y:=by rw [List.headD_eq_head?_getD,List.head?_drop,hy];rfl
     rw [HST.out,htl,hhd] at hgo
     obtain ⟨v,hv⟩:∃ v,atoiV (Lib.trimPrefix y [114])=v:=⟨_,rfl⟩
     rw [hv] at hgo
     obtain ⟨ys,hys⟩:∃ ys:ByteArray,(⟨y.toArray⟩:ByteArray)=ys:=⟨_,rfl⟩
     obtain ⟨zs,hzs⟩:∃ zs:ByteArray,(⟨(Lib.trimPrefix y [114]).toArray⟩:ByteArray)=zs:=⟨_,rfl⟩
     have hyd:ys.data.toList=y:=by rw [←hys]
     have hzd:zs.data.toList=Lib.trimPrefix y [114]:=by rw [←hzs]
     have hzl:zs.size≤67108864:=by have h1:=zC9 y [114];have h2:zs.size=zs.data.toList.length:=rfl;rw [h2,hzd];omega
     have TP:=zA (zFV ys zs (by rw [hyd,hzd]))
     obtain ⟨wq,hwq⟩:∃ wq,wq=wr.alloc (.cells #[.pointer (some ⟨g5,1,none⟩),.bool true] 250):=⟨_,rfl⟩
     have tq:Bk wq wr.heap.size 250 #[.pointer (some ⟨g5,1,none⟩),.bool true]:=by rw [hwq];exact zM _ _ _
     have bq:Below wr.heap.size wr wq:=by rw [hwq];exact zG (Below.refl _ _) _
     obtain ⟨gt,hgt⟩:∃ gt,wr.heap.size=gt:=⟨_,rfl⟩
     rw [hgt] at tq
     have b3q:=zI HB.out bq
     have at_:∀ W:World,Below wq.heap.size wq W→Calls Tryz.prog 130 #[.string zs] W fun e w'=>∃ ev,e=.returned (.tuple #[.int .i64 v,ev])∧Below W.heap.size W w':=fun W hW=>by
      have h1:=zFh zs W (ev ⟨W,zI b3q hW⟩) hzl
      rw [hzd,hv] at h1
      exact h1
     have py:=pc ⟨wq,b3q⟩ (j+1) y hy
     rw [hys] at py
     simp only at py
     have AT:=zA at_
     have HGO:=zA hgo
     have EV:=zA ev
     have PC:=zA pc
     have HY:=zA hy
     have HWQ:=zA hwq
     have B3Q:=zA b3q
     clear hgo htl hhd hv hzd hyd hzs hyl hwq at_ b3q hh
     go_upto_region 9 with (fail)
     rw [←HWQ.out]
     try rw [hgt]
     have IQ:=zA (zH bq HI.out)
     have LQ:=zA (zH bq HL.out)
     have TQ:=zA tq
     obtain ⟨tq0,tq1⟩:=zEL tq
     have tqL:=tq.lt
     have hz3:=B3Q.out.size
     clear l0 l1 l2 l3 l4 l5 lL tq bq
     go_region_law (go_simp;(first
      | (go_at_call 166;((with_reducible refine (TP.out _).mono ?_);rintro e w' ⟨rfl,rfl⟩))
      | (go_at_call 130;((with_reducible refine (AT.out _ (zJ (Below.refl _ _))).mono ?_);rintro e w9 ⟨ev9,rfl,hb9⟩;have I9:=zA (zH hb9 (zP IQ.out));have L9:=zA (zH hb9 (zP LQ.out));have B9:=zA (zI (zJ B3Q.out) hb9);obtain ⟨u0,u1⟩:=zEL (zH hb9 (zP TQ.out));have uL:=(zH hb9 (zP TQ.out)).lt;obtain ⟨i0,i1,i2,i3⟩:=zAD I9.out;have iL:=I9.out.lt;have iF:=fun i=>I9.out.frozen i;clear hb9))))
     all_goals (
      go_wp2
      go_roundw
      case rel=>exact ⟨1,j+1,m,by omega,by omega,by first | rfl | go_num,by first | rfl | (simp;done),by rw [HGO.out],by rw [HGO.out];exact zT I9.out rfl,zU _ (by omega) L9.out,zK B9.out (by show w3.heap.size≤g5;omega) _⟩
      case measure=>simp [intOf])
  ·
   rcases (by cases zDX op<;>simp:zDX op=false∨zDX op=true) with hh | hh
   ·have hno:=zDs (op:=op) (L:=L) (k:=1) (by rw [show zEW op 1=zDX op from rfl,hh];simp)
    have HNO:=zA hno
    clear hno
    rw [hh] at l3
    go_wp2
    go_roundw
    case rel=>exact ⟨2,j,m,by omega,hjm,by first | rfl | go_num,rfl,by rw [HNO.out];exact HST.out,by rw [HNO.out];exact zN _ HI.out,zN _ HL.out,zG HB.out _⟩
    case measure=>simp [intOf]
   ·rw [hh] at l3
    rcases m with _ | m
    ·have hno:=zDs (op:=op) (L:=L) (k:=1) (by rw [HST.out,List.length_drop,HN.out];omega)
     have HNO:=zA hno
     clear hno
     go_wp2
     go_roundw
     case rel=>exact ⟨2,j,0,by omega,hjm,by first | rfl | go_num,rfl,by rw [HNO.out];exact HST.out,by rw [HNO.out];exact zN _ HI.out,zN _ HL.out,zG HB.out _⟩
     case measure=>simp [intOf]
    ·have q1:(1:Int) < (m:Int)+1+1:=by omega
     have hgo:=zFo (op:=op) (L:=L) (k:=1) ⟨hh,by rw [HST.out,List.length_drop,HN.out];omega⟩
     obtain ⟨y,hy⟩:∃ y,L[j+1]?=some y:=⟨_,List.getElem?_eq_getElem (by rw [HN.out];omega)⟩
     have hyl:=LEN.out y (List.mem_of_getElem? hy)
     have htl:(L.drop j).tail=L.drop (j+1):=by rw [List.tail_drop]
     have hhd:(L.drop (j+1)).headD []=y:=by rw [List.headD_eq_head?_getD,List.head?_drop,hy];rfl
     rw [HST.out,htl,hhd] at hgo
     obtain ⟨v,hv⟩:∃ v,atoiV (Lib.trimPrefix y [114])=v:=⟨_,rfl⟩
     rw [hv] at hgo
     obtain ⟨ys,hys⟩:∃ ys:ByteArray,(⟨y.toArray⟩:ByteArray)=ys:=⟨_,rfl⟩
     obtain ⟨zs,hzs⟩:∃ zs:ByteArray,(⟨(Lib.trimPrefix y [114]).toArray⟩:ByteArray)=zs:=⟨_,rfl⟩
     have hyd:ys.data.toList=y:=by rw [←hys]
     have hzd:zs.data.toList=Lib.trimPrefix y [114]:=by rw [←hzs]
     have hzl:zs.size≤67108864:=by have h1:=zC9 y [114];have h2:zs.size=zs.data.toList.length:=rfl;rw [h2,hzd];omega
     have TP:=zA (zFV ys zs (by rw [hyd,hzd]))
     obtain ⟨wq,hwq⟩:∃ wq,wq=wr.alloc (.cells #[.pointer (some ⟨g5,2,none⟩),.bool true] 250):=⟨_,rfl⟩
     have tq:Bk wq wr.heap.size 250 #[.pointer (some ⟨g5,2,none⟩),.bool true]:=by rw [hwq];exact zM _ _ _
     have bq:Below wr.heap.size wr wq:=by rw [hwq];exact zG (Below.refl _ _) _
     obtain ⟨gt,hgt⟩:∃ gt,wr.heap.size=gt:=⟨_,rfl⟩
     rw [hgt] at tq
     have b3q:=zI HB.out bq
     have at_:∀ W:World,Below wq.heap.size wq W→Calls Tryz.prog 130 #[.string zs] W fun e w'=>∃ ev,e=.returned (.tuple #[.int .i64 v,ev])∧Below W.heap.size W w':=fun W hW=>by
      have h1:=zFh zs W (ev ⟨W,zI b3q hW⟩) hzl
      rw [hzd,hv] at h1
      exact h1
     have py:=pc ⟨wq,b3q⟩ (j+1) y hy
     rw [hys] at py
     simp only at py
     have AT:=zA at_
     have HGO:=zA hgo
     have EV:=zA ev
     have PC:=zA pc
     have HY:=zA hy
     have HWQ:=zA hwq
     have B3Q:=zA b3q
     clear hgo htl hhd hv hzd hyd hzs hyl hwq at_ b3q hh
     go_upto_region 9 with (fail)
     rw [←HWQ.out]
     try rw [hgt]
     have IQ:=zA (zH bq HI.out)
     have LQ:=zA (zH bq HL.out)
     have TQ:=zA tq
     obtain ⟨tq0,tq1⟩:=zEL tq
     have tqL:=tq.lt
     have hz3:=B3Q.out.size
     clear l0 l1 l2 l3 l4 l5 lL tq bq
     go_region_law (go_simp;(first
      | (go_at_call 166;((with_reducible refine (TP.out _).mono ?_);rintro e w' ⟨rfl,rfl⟩))
      | (go_at_call 130;((with_reducible refine (AT.out _ (zJ (Below.refl _ _))).mono ?_);rintro e w9 ⟨ev9,rfl,hb9⟩;have I9:=zA (zH hb9 (zP IQ.out));have L9:=zA (zH hb9 (zP LQ.out));have B9:=zA (zI (zJ B3Q.out) hb9);obtain ⟨u0,u1⟩:=zEL (zH hb9 (zP TQ.out));have uL:=(zH hb9 (zP TQ.out)).lt;obtain ⟨i0,i1,i2,i3⟩:=zAD I9.out;have iL:=I9.out.lt;have iF:=fun i=>I9.out.frozen i;clear hb9))))
     all_goals (
      go_wp2
      go_roundw
      case rel=>exact ⟨2,j+1,m,by omega,by omega,by first | rfl | go_num,by first | rfl | (simp;done),by rw [HGO.out],by rw [HGO.out];exact zT I9.out rfl,zU _ (by omega) L9.out,zK B9.out (by show w3.heap.size≤g5;omega) _⟩
      case measure=>simp [intOf])
  ·
   rcases (by cases zDW op<;>simp:zDW op=false∨zDW op=true) with hh | hh
   ·have hno:=zDs (op:=op) (L:=L) (k:=2) (by rw [show zEW op 2=zDW op from rfl,hh];simp)
    have HNO:=zA hno
    clear hno
    rw [hh] at l5
    go_wp2
    go_roundw
    case rel=>exact ⟨3,j,m,by omega,hjm,by first | rfl | go_num,rfl,by rw [HNO.out];exact HST.out,by rw [HNO.out];exact zN _ HI.out,zN _ HL.out,zG HB.out _⟩
    case measure=>simp [intOf]
   ·rw [hh] at l5
    rcases m with _ | m
    ·have hno:=zDs (op:=op) (L:=L) (k:=2) (by rw [HST.out,List.length_drop,HN.out];omega)
     have HNO:=zA hno
     clear hno
     go_wp2
     go_roundw
     case rel=>exact ⟨3,j,0,by omega,hjm,by first | rfl | go_num,rfl,by rw [HNO.out];exact HST.out,by rw [HNO.out];exact zN _ HI.out,zN _ HL.out,zG HB.out _⟩
     case measure=>simp [intOf]
    ·have q1:(1:Int) < (m:Int)+1+1:=by omega
     have hgo:=zFo (op:=op) (L:=L) (k:=2) ⟨hh,by rw [HST.out,List.length_drop,HN.out];omega⟩
     obtain ⟨y,hy⟩:∃ y,L[j+1]?=some y:=⟨_,List.getElem?_eq_getElem (by rw [HN.out];omega)⟩
     have hyl:=LEN.out y (List.mem_of_getElem? hy)
     have htl:(L.drop j).tail=L.drop (j+1):=by rw [List.tail_drop]
     have hhd:(L.drop (j+1)).headD []=y:=by rw [List.headD_eq_head?_getD,List.head?_drop,hy];rfl
     rw [HST.out,htl,hhd] at hgo
     obtain ⟨v,hv⟩:∃ v,atoiV (Lib.trimPrefix y [114])=v:=⟨_,rfl⟩
     rw [hv] at hgo
     obtain ⟨ys,hys⟩:∃ ys:ByteArray,(⟨y.toArray⟩:ByteArray)=ys:=⟨_,rfl⟩
     obtain ⟨zs,hzs⟩:∃ zs:ByteArray,(⟨(Lib.trimPrefix y [114]).toArray⟩:ByteArray)=zs:=⟨_,rfl⟩
     have hyd:ys.data.toList=y:=by rw [←hys]
     have hzd:zs.data.toList=Lib.trimPrefix y [114]:=by rw [←hzs]
     have hzl:zs.size≤67108864:=by have h1:=zC9 y [114];have h2:zs.size=zs.data.toList.length:=rfl;rw [h2,hzd];omega
     have TP:=zA (zFV ys zs (by rw [hyd,hzd]))
     obtain ⟨wq,hwq⟩:∃ wq,wq=wr.alloc (.cells #[.pointer (some ⟨g5,3,none⟩),.bool true] 250):=⟨_,rfl⟩
     have tq:Bk wq wr.heap.size 250 #[.pointer (some ⟨g5,3,none⟩),.bool true]:=by rw [hwq];exact zM _ _ _
     have bq:Below wr.heap.size wr wq:=by rw [hwq];exact zG (Below.refl _ _) _
     obtain ⟨gt,hgt⟩:∃ gt,wr.heap.size=gt:=⟨_,rfl⟩
     rw [hgt] at tq
     have b3q:=zI HB.out bq
     have at_:∀ W:World,Below wq.heap.size wq W→Calls Tryz.prog 130 #[.string zs] W fun e w'=>∃ ev,e=.returned (.tuple #[.int .i64 v,ev])∧Below W.heap.size W w':=fun W hW=>by
      have h1:=zFh zs W (ev ⟨W,zI b3q hW⟩) hzl
      rw [hzd,hv] at h1
      exact h1
     have py:=pc ⟨wq,b3q⟩ (j+1) y hy
     rw [hys] at py
     simp only at py
     have AT:=zA at_
     have HGO:=zA hgo
     have EV:=zA ev
     have PC:=zA pc
     have HY:=zA hy
     have HWQ:=zA hwq
     have B3Q:=zA b3q
     clear hgo htl hhd hv hzd hyd hzs hyl hwq at_ b3q hh
     go_upto_region 9 with (fail)
     rw [←HWQ.out]
     try rw [hgt]
     have IQ:=zA (zH bq HI.out)
     have LQ:=zA (zH bq HL.out)
     have TQ:=zA tq
     obtain ⟨tq0,tq1⟩:=zEL tq
     have tqL:=tq.lt
     have hz3:=B3Q.out.size
     clear l0 l1 l2 l3 l4 l5 lL tq bq
     go_region_law (go_simp;(first
      | (go_at_call 166;((with_reducible refine (TP.out _).mono ?_);rintro e w' ⟨rfl,rfl⟩))
      | (go_at_call 130;((with_reducible refine (AT.out _ (zJ (Below.refl _ _))).mono ?_);rintro e w9 ⟨ev9,rfl,hb9⟩;have I9:=zA (zH hb9 (zP IQ.out));have L9:=zA (zH hb9 (zP LQ.out));have B9:=zA (zI (zJ B3Q.out) hb9);obtain ⟨u0,u1⟩:=zEL (zH hb9 (zP TQ.out));have uL:=(zH hb9 (zP TQ.out)).lt;obtain ⟨i0,i1,i2,i3⟩:=zAD I9.out;have iL:=I9.out.lt;have iF:=fun i=>I9.out.frozen i;clear hb9))))
     all_goals (
      go_wp2
      go_roundw
      case rel=>exact ⟨3,j+1,m,by omega,by omega,by first | rfl | go_num,by first | rfl | (simp;done),by rw [HGO.out],by rw [HGO.out];exact zT I9.out rfl,zU _ (by omega) L9.out,zK B9.out (by show w3.heap.size≤g5;omega) _⟩
      case measure=>simp [intOf])
  ·obtain rfl:k=0:=by omega
   have q1:¬((3:Int) < 3):=by omega
   obtain ⟨i,hi3⟩:∃ i,(stP op L 3).2=i:=⟨_,rfl⟩
   have hi:=HI.out
   rw [show (0+1+1+1:Nat)=3 from rfl,hi3] at hi
   rw [hi3] at hsp
   obtain ⟨a0,a1,a2,a3⟩:=i
   have r0:∀ x:Later wr,x.val.cell? ⟨g5,0,none⟩=some (.int .i64 a0):=fun x=>(x.bk hi).cell 0
   have r1:∀ x:Later wr,x.val.cell? ⟨g5,1,none⟩=some (.int .i64 a1):=fun x=>(x.bk hi).cell 1
   have r2:∀ x:Later wr,x.val.cell? ⟨g5,2,none⟩=some (.int .i64 a2):=fun x=>(x.bk hi).cell 2
   have r3:∀ x:Later wr,x.val.cell? ⟨g5,3,none⟩=some (.int .i64 a3):=fun x=>(x.bk hi).cell 3
   obtain ⟨i0,i1,i2,i3⟩:=zAD hi
   have iL:=hi.lt
   have rL:∀ x:Later wr,g5 < x.val.heap.size:=fun x=>x.lt hi.lt
   have zr:=z3 ⟨wr,HB.out⟩
   have qF:∀ (x:Later wr) i,x.val.frozen? ⟨g2,i,none⟩=false:=fun x i=>(x.bk zr).frozen i
   have qL:∀ x:Later wr,g2 < x.val.heap.size:=fun x=>x.lt zr.lt
   have qz0:∀ x:Later wr,x.val.cell? ⟨g2,0,none⟩=some (.int .i64 0):=fun x=>(x.bk zr).cell 0
   have qz1:∀ x:Later wr,x.val.cell? ⟨g2,1,none⟩=some (.int .i64 0):=fun x=>(x.bk zr).cell 1
   have qz2:∀ x:Later wr,x.val.cell? ⟨g2,2,none⟩=some (.int .i64 0):=fun x=>(x.bk zr).cell 2
   have qz3:∀ x:Later wr,x.val.cell? ⟨g2,3,none⟩=some (.int .i64 0):=fun x=>(x.bk zr).cell 3
   have ZR:=zA zr
   have HBW:=zA (zI B3.out HB.out)
   have er:=ev ⟨wr,HB.out⟩
   simp only at er
   clear l0 l1 l2 l3 l4 l5 zr ev pc z3
   rcases (by cases zAE ⟨a0,a1,a2,a3⟩<;>simp:zAE ⟨a0,a1,a2,a3⟩=false∨zAE ⟨a0,a1,a2,a3⟩=true) with hk | hk
   ·have TXC:=zA (zLD a0 a1 a2 a3 hk wr er.asc)
    have pf:zAG s.data.toList=(zCf,3):=by unfold zAG;rw [hsp,if_neg (by simp [hk])]
    have PF:=zA pf
    clear pf hsp hk er hi hi3
    go_wp2_with (go_at_call 167;((with_reducible refine TXC.out.mono ?_);rintro e w' ⟨rfl,hb⟩;obtain ⟨y,rfl⟩:=zZ (Below.refl _ _) hb;clear hb))
    have Z:Bk ((((y.val.setCell ⟨g2,0,none⟩ (.int .i64 0)).setCell ⟨g2,1,none⟩ (.int .i64 0)).setCell ⟨g2,2,none⟩ (.int .i64 0)).setCell ⟨g2,3,none⟩ (.int .i64 0)) g2 179 #[.int .i64 0,.int .i64 0,.int .i64 0,.int .i64 0]:=zAg 3 _ (zAg 2 _ (zAg 1 _ (zAg 0 _ (y.bk ZR.out))))
    obtain ⟨z0,z1,z2,z3⟩:=zAD Z
    have zF:=fun i=>Bk.frozen Z i
    have zL:=Z.lt
    have hgw:w.heap.size≤g2:=by omega
    refine bodyPost_ret (v:=.tuple #[.agg #[.int .i64 0,.int .i64 0,.int .i64 0,.int .i64 0],.int .i64 3]) (by simp [results,Tryz.results134,go_sem,z0,z1,z2,z3,zL];try rfl) rfl ⟨by rw [PF.out];rfl,zK (zK (zK (zK (zI HBW.out y.ok) hgw _) hgw _) hgw _) hgw _⟩
   ·have txc:=zMT a0 a1 a2 a3 hk wr er.asc er.ten
    obtain ⟨tx,htx⟩:∃ tx:ByteArray,(⟨(zDc ⟨a0,a1,a2,a3⟩).toArray⟩:ByteArray)=tx:=⟨_,rfl⟩
    have htd:tx.data.toList=zDc ⟨a0,a1,a2,a3⟩:=by rw [←htx]
    rw [htx] at txc
    have TXC:=zA txc
    by_cases hts:zDc ⟨a0,a1,a2,a3⟩=s.data.toList
    ·have f1:(tx.toList==s.toList)=true:=by rw [zDj,htd];simp [hts]
     have f2:(tx.toList != s.toList)=false:=by rw [bne,f1];rfl
     have pf:zAG s.data.toList=(⟨a0,a1,a2,a3⟩,0):=by unfold zAG;rw [hsp,if_pos ⟨hk,hts⟩]
     have PF:=zA pf
     clear pf hsp hk er hi hi3 htd htx hts txc
     go_wp2_with (go_at_call 167;((with_reducible refine TXC.out.mono ?_);rintro e w' ⟨rfl,hb⟩;obtain ⟨y,rfl⟩:=zZ (Below.refl _ _) hb;clear hb))
     have Z:Bk ((((y.val.setCell ⟨g2,0,none⟩ (.int .i64 a0)).setCell ⟨g2,1,none⟩ (.int .i64 a1)).setCell ⟨g2,2,none⟩ (.int .i64 a2)).setCell ⟨g2,3,none⟩ (.int .i64 a3)) g2 179 #[.int .i64 a0,.int .i64 a1,.int .i64 a2,.int .i64 a3]:=zAg 3 _ (zAg 2 _ (zAg 1 _ (zAg 0 _ (y.bk ZR.out))))
     obtain ⟨z0,z1,z2,z3⟩:=zAD Z
     have zF:=fun i=>Bk.frozen Z i
     have zL:=Z.lt
     have hgw:w.heap.size≤g2:=by omega
     refine bodyPost_ret (v:=.tuple #[.agg #[.int .i64 a0,.int .i64 a1,.int .i64 a2,.int .i64 a3],.int .i64 0]) (by simp [results,Tryz.results134,go_sem,z0,z1,z2,z3,zL];try rfl) rfl ⟨by rw [PF.out];rfl,zK (zK (zK (zK (zI HBW.out y.ok) hgw _) hgw _) hgw _) hgw _⟩
    ·have f1:(tx.toList==s.toList)=false:=by rw [zDj,htd];simp [hts]
     have f2:(tx.toList != s.toList)=true:=by rw [bne,f1];rfl
     have pf:zAG s.data.toList=(zCf,3):=by unfold zAG;rw [hsp,if_neg (fun h=>hts h.2)]
     have PF:=zA pf
     clear pf hsp hk er hi hi3 htd htx hts txc
     go_wp2_with (go_at_call 167;((with_reducible refine TXC.out.mono ?_);rintro e w' ⟨rfl,hb⟩;obtain ⟨y,rfl⟩:=zZ (Below.refl _ _) hb;clear hb))
     have Z:Bk ((((y.val.setCell ⟨g2,0,none⟩ (.int .i64 0)).setCell ⟨g2,1,none⟩ (.int .i64 0)).setCell ⟨g2,2,none⟩ (.int .i64 0)).setCell ⟨g2,3,none⟩ (.int .i64 0)) g2 179 #[.int .i64 0,.int .i64 0,.int .i64 0,.int .i64 0]:=zAg 3 _ (zAg 2 _ (zAg 1 _ (zAg 0 _ (y.bk ZR.out))))
     obtain ⟨z0,z1,z2,z3⟩:=zAD Z
     have zF:=fun i=>Bk.frozen Z i
     have zL:=Z.lt
     have hgw:w.heap.size≤g2:=by omega
     refine bodyPost_ret (v:=.tuple #[.agg #[.int .i64 0,.int .i64 0,.int .i64 0,.int .i64 0],.int .i64 3]) (by simp [results,Tryz.results134,go_sem,z0,z1,z2,z3,zL];try rfl) rfl ⟨by rw [PF.out];rfl,zK (zK (zK (zK (zI HBW.out y.ok) hgw _) hgw _) hgw _) hgw _⟩
end Go.Proofs.YtlpejagkadalbaaGreatDoor
