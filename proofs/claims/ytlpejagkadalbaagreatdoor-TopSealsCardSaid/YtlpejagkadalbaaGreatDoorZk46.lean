import Derived.Test.YtlpejagkadalbaaGreatDoorZk45
set_option maxHeartbeats 40000000
set_option maxRecDepth 100000
set_option linter.unusedVariables false
set_option linter.unusedSimpArgs false
namespace Go.Proofs.YtlpejagkadalbaaGreatDoor
open El (cl)
open Go Go.RowKit Go.Shelf
theorem zC8 (a:Addr) (i j:Nat) (hj:0 < j):a.add (i+j)=⟨(a.add i).block,(a.add i).off+j,none⟩:=by
 unfold Addr.add
 rw [if_neg (by omega)]
 by_cases hi:i=0
 ·subst hi;simp
 ·rw [if_neg hi];simp [Nat.add_assoc]
theorem zND {w:World} {ao:Option Addr} {n:Nat} {ks:List KeyV} (h:Sl w ao n ks) {i:Nat} (hi:i < n) {x:KeyV} (hx:ks[i]?=some x):∃ a,ao=some a∧(a.add (i*5)).block < w.heap.size ∧
  w.cell? (a.add (i*5))=some (.int .i64 x.perm)∧w.cell? ⟨(a.add (i*5)).block,(a.add (i*5)).off+1,none⟩=some (.int .i64 x.base)∧w.cell? ⟨(a.add (i*5)).block,(a.add (i*5)).off+2,none⟩=some (.int .i64 x.len)
  ∧ w.cell? ⟨(a.add (i*5)).block,(a.add (i*5)).off+3,none⟩=some (.int .i64 x.at_)∧w.cell? ⟨(a.add (i*5)).block,(a.add (i*5)).off+4,none⟩=some (.int .i64 x.seal_):=by
 obtain ⟨a,y,e,hb,hy,hc⟩:=h.at hi
 obtain rfl:y=x:=by rw [hx] at hy;injection hy with hy;exact hy.symm
 refine ⟨a,e,by rw [zBH];exact hb,?_⟩
 rw [←zC8 a (i*5) 1 (by decide),←zC8 a (i*5) 2 (by decide),←zC8 a (i*5) 3 (by decide),←zC8 a (i*5) 4 (by decide)]
 exact ⟨hc 0 _ rfl,hc 1 _ rfl,hc 2 _ rfl,hc 3 _ rfl,hc 4 _ rfl⟩
theorem MBox.mbrS {g:Nat} {m:MV} {cs:Array Value} {W:World} (h:MBox g m cs W):MBR g m.R m.c m.mem m.stk m.out cs W:=⟨h.h8,h.bk,h.row⟩
theorem zGg {G:Prop} (h:∃ T:Prop,T∧(T→G)):G:=h.elim fun T hT=>hT.2 hT.1
theorem zLG:(Tryz.prog.info? 56).map (fun i=>(i.zero,i.size,i.bytes))=some (some (.agg #[.bool false,.int .i64 0,.int .i64 0,.int .i64 0,.int .i64 0,.int .i64 0,.int .i64 0]),7,56):=by kernel_rfl
theorem zG6 (x y:SlV Int) (key:KeyV) (by_ fuel:Int) (w:World) (hx:x.ok I64 w) (hy:y.ok I64 w) (hk:key.wf) (hby:I64 by_) (hf:I64 fuel) (he:PEnv w):Calls Tryz.prog 6 #[x.val,y.val,key.val,.int .i64 by_,.int .i64 fuel] w fun e w'=>e=.returned (.bool true)∧Below w.heap.size w w':=by
 obtain ⟨ca,cn,cc,code⟩:=x
 obtain ⟨da,dn,dc,data⟩:=y
 obtain ⟨p,b,l,a,s0⟩:=key
 obtain ⟨hcs,hcw,hcl⟩:=hx
 obtain ⟨hds,hdw,hdl⟩:=hy
 simp only [SlV.val] at hcs hcw hcl hds hdw hdl ⊢
 simp only [KeyV.val]
 obtain ⟨C,hC⟩:∃ C,code.take 100=C:=⟨_,rfl⟩
 obtain ⟨E,hE⟩:∃ E,data.take 40=E:=⟨_,rfl⟩
 have cl:=fun W (hb:Below w.heap.size w W)=>zJ8 ca da cn cc dn dc code data W (hcs.below hb) (hds.below hb) hcl hdl hcw hdw
 rw [hC,hE] at cl
 obtain ⟨fu,hfu⟩:∃ fu:Nat,fuel % 1000=fu:=⟨(fuel % 1000).toNat,by omega⟩
 obtain ⟨q0,hq0⟩:∃ q0:Nat,by_ % 63=q0:=⟨(by_ % 63).toNat,by omega⟩
 have hfu1:fu < 1000:=by omega
 have hq1:q0 < 63:=by omega
 have ra:=fun W=>zHY fuel 1000 W (by decide) (by decide)
 rw [hfu] at ra
 have rb:=fun W=>zHY by_ 63 W (by decide) (by decide)
 rw [hq0] at rb
 have e1:IntKind.i64.wrap ((q0:Int)+1)=(q0:Int)+1:=by rw [IntKind.wrap_i64];omega
 have wf0:KeyV.wf ⟨p,b,l,a,0⟩:=⟨hk.perm,hk.base,hk.len,hk.at_,zEV 0 (by decide)⟩
 have WK:=zA (fun W (hb:Below w.heap.size w W)=>zKN W (he.below hb))
 have CL:=zA cl
 have RA:=zA ra
 have RB:=zA rb
 have HE:=zA he
 have WF0:=zA wf0
 clear hcs hcw hcl hds hdw hdl hC hE cl hfu hq0 ra rb he hf hby hk wf0
 go_enter Tryz.func6,Tryz.ntmps6
 go_upto_region 1 with (fail)
 obtain ⟨g7,hg7⟩:∃ g,w.heap.size=g:=⟨_,rfl⟩
 obtain ⟨w1,hw1⟩:∃ w1,w1=w.alloc (.cells #[.int .i64 p,.int .i64 b,.int .i64 l,.int .i64 a,.int .i64 s0] 54):=⟨_,rfl⟩
 have m1:Bk w1 g7 54 #[.int .i64 p,.int .i64 b,.int .i64 l,.int .i64 a,.int .i64 s0]:=by rw [hw1,←hg7];exact zM _ _ _
 have b1:Below w.heap.size w w1:=by rw [hw1];exact zG (Below.refl _ _) _
 rw [←hw1]
 try rw [hg7]
 have M1:=zA m1
 have B1:=zA b1
 have HG7:=zA hg7
 clear hw1 m1 b1 hg7
 go_upto_region 3 with (go_at_call 8;((with_reducible refine (WK.out _ B1.out).mono ?_);rintro e w2 ⟨rfl,hb2⟩;have B2:=zA (zI B1.out hb2);have M2:=zA (zH hb2 M1.out);clear hb2))
 go_upto_region 4 with (go_at_call 15;((with_reducible refine (RB.out _).mono ?_);rintro e w' ⟨rfl,hw'⟩;subst hw'))
 obtain ⟨q,hq⟩:∃ q:Int,(q0:Int)+1=q:=⟨_,rfl⟩
 try rw [hq]
 have hqb:1≤q∧q≤63:=by omega
 have xL:=M2.out.lt
 have xF:=fun i=>M2.out.frozen i
 obtain ⟨x0,x1,x2,x3,x4⟩:=zQ M2.out
 go_upto_region 5 with (refine zAI rfl 54 (.tmp 11) (.tmp 35) rfl rfl #[.int .i64 96,.int .i64 0,.int .i64 64,.int .i64 q,.int .i64 0] 54 _ rfl (by first | rfl | kernel_rfl) (by kernel_rfl) (by kernel_rfl) (by kernel_rfl) ?_)
 obtain ⟨g11,hg11⟩:∃ g,w2.heap.size=g:=⟨_,rfl⟩
 obtain ⟨w3,hw3⟩:∃ w3,w3=w2.alloc (.cells #[.int .i64 96,.int .i64 0,.int .i64 64,.int .i64 q,.int .i64 0] 54):=⟨_,rfl⟩
 have m3:Bk w3 g11 54 #[.int .i64 96,.int .i64 0,.int .i64 64,.int .i64 q,.int .i64 0]:=by rw [hw3,←hg11];exact zM _ _ _
 have b23:Below w2.heap.size w2 w3:=by rw [hw3];exact zG (Below.refl _ _) _
 have hne:g11≠g7:=by omega
 rw [←hw3]
 try rw [hg11]
 have m7:=zH b23 M2.out
 clear xL xF x0 x1 x2 x3 x4
 have xL:=m7.lt
 have xF:=fun i=>m7.frozen i
 obtain ⟨x0,x1,x2,x3,x4⟩:=zQ m7
 have B3:=zA (zI B2.out b23)
 have M3:=zA m3
 have M7:=zA m7
 clear hw3 hg11 b23 m3 m7
 go_upto_region 6 with (fail)
 obtain ⟨w4,hw4⟩:∃ w4,w4=w3.setCell ⟨g7,4,none⟩ (.int .i64 0):=⟨_,rfl⟩
 try rw [←hw4]
 have m7:Bk w4 g7 54 #[.int .i64 p,.int .i64 b,.int .i64 l,.int .i64 a,.int .i64 0]:=by rw [hw4];exact zT M7.out rfl
 have m11:Bk w4 g11 54 #[.int .i64 96,.int .i64 0,.int .i64 64,.int .i64 q,.int .i64 0]:=by rw [hw4];exact zBy M3.out hne _ _
 have b4:Below w.heap.size w w4:=by rw [hw4];exact B3.out.grown (zAb w3 g7 4 (.int .i64 0)) B3.out.size (fun i e=>by injection e with e;have:=HG7.out;omega)
 clear xL xF x0 x1 x2 x3 x4 M7 hw4
 have xL:=m7.lt
 obtain ⟨x0,x1,x2,x3,x4⟩:=zQ m7
 have yL:=m11.lt
 obtain ⟨y0,y1,y2,y3,y4⟩:=zQ m11
 have M7:=zA m7
 have M11:=zA m11
 have B4:=zA b4
 have wfs:KeyV.wf ⟨96,0,64,q,0⟩:=⟨zEV 96 (by decide),zEV 0 (by decide),zEV 64 (by decide),zEV q (by omega),zEV 0 (by decide)⟩
 clear m7 m11 b4
 by_cases hok:KeyV.Ok ⟨p,b,l,a,0⟩
 ·have se := fun W=>zEO p b l a 0 96 0 64 q 0 WF0.out wfs W
  rw [zOI hqb hok] at se
  have wfq:KeyV.wf ⟨p,b,l,a,q⟩:=⟨WF0.out.perm,WF0.out.base,WF0.out.len,WF0.out.at_,zEV q (by omega)⟩
  have op:=fun W=>zFZ p b l a q 96 0 64 q 0 wfq wfs W
  rw [zON hqb hok] at op
  have hsk:KeyV.Ok ⟨p,b,l,a,q⟩:=⟨hok.p0,hok.p1,hok.b0,hok.b1,hok.l0,hok.l1,hok.a0,hok.a1,by show 0≤q;omega,by show q≤63;omega⟩
  simp only [KeyV.res] at se op
  have SE:=zA se
  have OP:=zA op
  have HSK:=zA hsk
  clear se op hsk wfq wfs hok
  go_upto_region 7 with (first
   | (go_at_call 26;((with_reducible refine (SE.out _).mono ?_);rintro e w5 ⟨rfl,hb5⟩;have B5:=zA (zI B4.out hb5);have M7b:=zA (zH hb5 M7.out);have M11b:=zA (zH hb5 M11.out);clear hb5))
   | (refine zAI rfl 54 (.tmp 12) (.tmp 41) rfl rfl #[.int .i64 p,.int .i64 b,.int .i64 l,.int .i64 a,.int .i64 q] 54 _ rfl (by first | rfl | kernel_rfl) (by kernel_rfl) (by kernel_rfl) (by kernel_rfl) ?_))
  obtain ⟨g12,hg12⟩:∃ g,w5.heap.size=g:=⟨_,rfl⟩
  obtain ⟨w6,hw6⟩:∃ w6,w6=w5.alloc (.cells #[.int .i64 p,.int .i64 b,.int .i64 l,.int .i64 a,.int .i64 q] 54):=⟨_,rfl⟩
  have m6:Bk w6 g12 54 #[.int .i64 p,.int .i64 b,.int .i64 l,.int .i64 a,.int .i64 q]:=by rw [hw6,←hg12];exact zM _ _ _
  have b56:Below w5.heap.size w5 w6:=by rw [hw6];exact zG (Below.refl _ _) _
  rw [←hw6]
  try rw [hg12]
  clear M7 M11 xL x0 x1 x2 x3 x4 yL y0 y1 y2 y3 y4
  have B6:=zA (zI B5.out b56)
  have M7:=zA (zH b56 M7b.out)
  have M11:=zA (zH b56 M11b.out)
  have M12:=zA m6
  clear hw6 hg12 m6 b56 M7b M11b
  go_upto_region 10 with (first
   | (go_at_call 14;((with_reducible refine (CL.out _ B6.out).mono ?_);rintro e w7 ⟨⟨⟨pa,pn,pc⟩,⟨qa,qn,qc⟩,⟨ua,un,uc⟩,⟨va,vn,vc⟩⟩,fine,rfl,hr7,hiff,hb7⟩;have HR7:=zA hr7;have HIF:=zA hiff;have B7:=zA (zI B6.out hb7);have M7b:=zA (zH hb7 M7.out);have M11b:=zA (zH hb7 M11.out);have M12b:=zA (zH hb7 M12.out);clear hr7 hiff hb7))
   | (refine zAI rfl 48 (.tmp 14) (.tmp 52) rfl rfl #[.slice pa pn pc,.slice qa qn qc,.slice ua un uc,.slice va vn vc] 48 _ rfl (by first | rfl | kernel_rfl) (by kernel_rfl) (by kernel_rfl) (by kernel_rfl) ?_))
  obtain ⟨g14,hg14⟩:∃ g,w7.heap.size=g:=⟨_,rfl⟩
  obtain ⟨wA,hwA⟩:∃ wA,wA=w7.alloc (.cells #[.slice pa pn pc,.slice qa qn qc,.slice ua un uc,.slice va vn vc] 48):=⟨_,rfl⟩
  have mA:Bk wA g14 48 #[.slice pa pn pc,.slice qa qn qc,.slice ua un uc,.slice va vn vc]:=by rw [hwA,←hg14];exact zM _ _ _
  have b7A:Below w7.heap.size w7 wA:=by rw [hwA];exact zG (Below.refl _ _) _
  rw [←hwA]
  try rw [hg14]
  clear M7 M11 M12
  have BA:=zA (zI B7.out b7A)
  have M7:=zA (zH b7A M7b.out)
  have M11:=zA (zH b7A M11b.out)
  have M12:=zA (zH b7A M12b.out)
  have M14:=zA mA
  have HRA:=zA (HR7.out.below b7A)
  clear hwA hg14 mA b7A M7b M11b M12b HR7
  cases fine
  ·go_wp2
   go_ret
   exact ⟨rfl,BA.out⟩
  ·have hmok:=HIF.out.1 rfl
   have hpn:C.length=pn:=HRA.out.code.len
   have hqn:([0,0,0,0]++E).length=qn:=HRA.out.data.len
   have l1:C.length≤120:=hmok.l1
   have l2:([0,0,0,0]++E).length≤60:=hmok.l2
   have n1:zDv C:=hmok.n1
   have n2:zDv ([0,0,0,0]++E):=hmok.n2
   obtain ⟨L,hL⟩:∃ L:List Int,C++([0,0,0,0]++E)=L:=⟨_,rfl⟩
   have hLl:L.length=pn+qn:=by rw [←hL,List.length_append,hpn,hqn]
   have hLn:∀ n∈L,-2147483648≤n∧n≤2147483647:=fun n hn=>by
    rw [←hL] at hn
    rcases List.mem_append.1 hn with hn | hn
    ·exact n1 n hn
    ·exact n2 n hn
   have hsum:pn+qn≤180:=by omega
   obtain ⟨z0,z1,z2,z3⟩:=zY M14.out
   have zL:=M14.out.lt
   have HMN:=zA hLn
   have HLL:=zA hLl
   have HSM:=zA hsum
   clear hmok l1 l2 n1 n2 hLn hpn hqn CL WK HIF
   go_upto_region 13 with (refine zAI rfl 60 (.tmp 16) (.tmp 60) rfl rfl (mcs (List.replicate 8 zeroV) ⟨5,0,pn,0,0⟩ (.slice none 0 0) (.slice none 0 0) (.slice none 0 0)) 60 _ rfl (by first | rfl | kernel_rfl) (by kernel_rfl) (by kernel_rfl) (by kernel_rfl) ?_)
   obtain ⟨g16,hg16⟩:∃ g,wA.heap.size=g:=⟨_,rfl⟩
   obtain ⟨wB,hwB⟩:∃ wB,wB=wA.alloc (.cells (mcs (List.replicate 8 zeroV) ⟨5,0,pn,0,0⟩ (.slice none 0 0) (.slice none 0 0) (.slice none 0 0)) 60):=⟨_,rfl⟩
   have mB:Bk wB g16 60 (mcs (List.replicate 8 zeroV) ⟨5,0,pn,0,0⟩ (.slice none 0 0) (.slice none 0 0) (.slice none 0 0)):=by rw [hwB,←hg16];exact zM _ _ _
   have bAB:Below wA.heap.size wA wB:=by rw [hwB];exact zG (Below.refl _ _) _
   rw [←hwB]
   try rw [hg16]
   have hsB:=bAB.size
   obtain ⟨i0,hi0,hz0,hz1,hz2⟩:=info_parts zFc
   have hrB:=HRA.out.below bAB
   obtain ⟨v4,w4_,hr1,ho4,hg4,_⟩:=zBS (P:=Tryz.prog) wB.drew wB.drew.heap.size 36 36 3 i0 _ 8 Tryz.underlying36 hi0 hz0 hz1 hz2 rfl (.slice none 0 0) ([]:List Int) (Own.nil _ _ _) pa pn pc C hrB.code.drew (by unfold maxLen;simp only [List.length_nil];omega) (by simp only [List.length_nil];omega) (Nat.le_refl _)
   rw [List.nil_append] at ho4
   have b4:Below wB.heap.size wB w4_:=(zJ (Below.refl _ _)).grown hg4 (Nat.le_refl _) (fun i e=>by cases e)
   have hCn:C.length=pn:=hrB.code.len
   obtain ⟨v5,w5_,hr2,ho5,hg5,_⟩:=zBS (P:=Tryz.prog) w4_ wB.drew.heap.size 36 36 3 i0 _ 8 Tryz.underlying36 hi0 hz0 hz1 hz2 rfl v4 C ho4 qa qn qc ([0,0,0,0]++E) (hrB.data.below b4) (by unfold maxLen;omega) (by omega) b4.size
   have b5:Below wB.heap.size wB w5_:=b4.grown hg5 b4.size (fun i e=>(zBr ho4 e).1)
   rw [show C++([0,0,0,0]++E)=L from hL] at ho5
   obtain ⟨la,ln,lc,rfl⟩:=zAN ho5
   have hln:L.length=ln:=by
    obtain ⟨ao,c,e,_⟩:=ho5.sl
    injection e with _ e _
    exact e.symm
   have HR1:=zA hr1
   have HR2:=zA hr2
   have st:SSt wA g16 ⟨5,0,pn,0,0⟩ L (.slice la ln lc) (.slice none 0 0) 0 w5_:=⟨zH b5 mB,Own.nil _ _ _,ho5.mono hsB,zI bAB b5⟩
   have ST:=zA st
   have HLN:=zA hln
   have hgA:wA.heap.size≤g16:=by omega
   have hb4':=b4
   clear z0 z1 z2 z3 zL hz0 hz1 hz2 hi0 hr1 hr2 ho4 hg4 ho5 hg5 st hwB hCn hL
   obtain ⟨z0,z1,z2,z3⟩:=zY (zH bAB M14.out)
   have zL:=(zH bAB M14.out).lt
   obtain ⟨u0,u1,u2,u3⟩:=zY (zH (zI bAB b4) M14.out)
   have uL:=(zH (zI bAB b4) M14.out).lt
   clear mB bAB hrB b4 b5 hb4' hg16
   apply zGg
   apply Exists.intro
   apply And.intro
   rotate_left
   ·intro tail
    go_region_law (first
     | (refine zAu rfl _ _ 36 36 rfl (.slice none 0 0) (.slice pa pn pc) (by simp [Act.eval,Act.put]) (by simp [Act.eval,Act.put]) HR1.out ?_)
     | (refine zAu rfl _ _ 36 36 rfl v4 (.slice qa qn qc) (by simp [Act.eval,Act.put]) (by simp [Act.eval,Act.put]) HR2.out ?_))
    all_goals (go_wp2;change Code.wp _ _ _ (Act.mk _ _) _;simp only [Act.put,zC,zD,zE];with_reducible exact tail)
   clear z0 z1 z2 z3 zL u0 u1 u2 u3 uL HR1 HR2 hln
   obtain ⟨iv,hvi,hvz0,hvz1,hvz2⟩:=info_parts zLG
   go_loopw [68] (fun i wr=>∃ (k:Nat) (v:Value),k≤ln∧i=.int .i64 k∧SSt wA g16 ⟨5,0,pn,0,0⟩ L (.slice la ln lc) v k wr) (fun i _=>ln - (intOf i).toNat)
   case atStart=>exact ⟨0,_,Nat.zero_le _,rfl,ST.out⟩
   case round =>
    obtain ⟨k,v,hk,rfl,hst⟩:=hrel
    have HST:=zA hst
    obtain ⟨va2,vn2,vc2,rfl⟩:=zAN hst.mem
    by_cases hlt:k < ln
    ·have q1:(0:Int)≤k:=by omega
     have q2:(k:Int) < ln:=by omega
     obtain ⟨x,hgx⟩:∃ x,L[k]?=some x:=⟨_,List.getElem?_eq_getElem (by rw [HLN.out];exact hlt)⟩
     obtain ⟨ao,c,e,hsl,_⟩:=hst.row.sl
     injection e with ea en ec
     rw [←ea,←en] at hsl
     obtain ⟨ad,rfl,bx,e0⟩:=zDt hsl hlt hgx
     have hkL:((L.take k).map ValV.num).length=k:=by rw [List.length_map,List.length_take,HLN.out];omega
     have h180:ln≤180:=by have:=HLL.out;have:=HLN.out;have:=HSM.out;omega
     have c63:((L.take k).map ValV.num).length+1≤maxLen:=by unfold maxLen;omega
     have c47:(((L.take k).map ValV.num).length+1)*56≤140737488355328:=by omega
     have x61:wr.cell? ⟨g16,61,none⟩=some (.slice va2 vn2 vc2):=(hst.box.cell 61).trans (zAU (by simp) 5)
     have x61':∀ o:Obj,(wr.alloc o).cell? ⟨g16,61,none⟩=some (.slice va2 vn2 vc2):=fun o=>((zN o hst.box).cell 61).trans (zAU (by simp) 5)
     have xL:=hst.box.lt
     have lit:Sl (wr.alloc (.cells #[.bool false,.int .i64 x,.int .i64 0,.int .i64 0,.int .i64 0,.int .i64 0,.int .i64 0] 56)) (some ⟨wr.heap.size,0,none⟩) 1 [ValV.num x]:=zBF _ (ValV.num x) rfl
     have hsb:wA.heap.size≤(wr.alloc (.cells #[.bool false,.int .i64 x,.int .i64 0,.int .i64 0,.int .i64 0,.int .i64 0,.int .i64 0] 56)).heap.size:=by have:=hst.bel.size;rw [World.size_alloc];omega
     have LIT:=zA lit
     have HGX:=zA hgx
     have OM:=zA (hst.mem.alloc (.cells #[.bool false,.int .i64 x,.int .i64 0,.int .i64 0,.int .i64 0,.int .i64 0,.int .i64 0] 56))
     have C63:=zA c63
     have C47:=zA c47
     have HSB:=zA hsb
     clear hsl en ec lit hgx hkL hst c63 c47 hsb
     try clear ea
     go_wp2_with (at_builtin;refine zAC rfl (.tmp 73) (.tmp 76) 24 rfl wA.heap.size 56 iv _ 56 Tryz.underlying24 hvi hvz0 hvz1 hvz2 rfl (.slice va2 vn2 vc2) ((L.take k).map ValV.num) rfl OM.out (some ⟨wr.heap.size,0,none⟩) 1 1 [ValV.num x] rfl LIT.out C63.out C47.out HSB.out ?_;intro v8 w8 hown8 hgr8 hat8;obtain ⟨ra,rn,rc,rfl⟩:=zAN hown8;have HN:=zA (HST.out.next hgA HGX.out hown8 hgr8);have m8:=zAR (zN _ HST.out.box) OM.out (by decide) hgr8;have f61:=m8.cell 61;have fL:=m8.lt;have fF:=fun i=>m8.frozen i;clear hown8 hgr8 hat8 m8)
     go_roundw
     case rel=>exact ⟨k+1,_,by omega,by go_num,HN.out⟩
     case measure=>simp [intOf];omega
    ·have q1:¬((k:Int) < ln):=by omega
     obtain rfl:ln=k:=by omega
     have hmem:=hst.mem
     rw [show L.take ln=L by rw [←HLN.out,List.take_length]] at hmem
     obtain ⟨z0,z1,z2,z3⟩:=zY (zH hst.bel M14.out)
     have zL:=(zH hst.bel M14.out).lt
     have OM:=zA hmem
     have hst':=hst
     clear hst hmem
     go_upto_region 19 with (refine zAI rfl 54 (.tmp 19) (.tmp 89) rfl rfl #[.int .i64 27,.int .i64 pn,.int .i64 qn,.int .i64 pn,.int .i64 0] 54 _ rfl (by first | rfl | kernel_rfl) (by kernel_rfl) (by kernel_rfl) (by kernel_rfl) ?_)
     clear z0 z1 z2 z3 zL
     obtain ⟨g19,hg19⟩:∃ g,wr.heap.size=g:=⟨_,rfl⟩
     obtain ⟨wC,hwC⟩:∃ wC,wC=wr.alloc (.cells #[.int .i64 27,.int .i64 pn,.int .i64 qn,.int .i64 pn,.int .i64 0] 54):=⟨_,rfl⟩
     have mC:Bk wC g19 54 #[.int .i64 27,.int .i64 pn,.int .i64 qn,.int .i64 pn,.int .i64 0]:=by rw [hwC,←hg19];exact zM _ _ _
     have bC:Below wr.heap.size wr wC:=by rw [hwC];exact zG (Below.refl _ _) _
     rw [←hwC]
     try rw [hg19]
     have hn1:g19≠g16:=by have:=hst'.box.lt;omega
     have hn2:g12≠g16:=by have:=M12.out.lt;omega
     have hn3:g16≠g19:=hn1.symm
     have hn4:g16≠g12:=hn2.symm
     have bAC:=zI hst'.bel bC
     have m16:=zH bC hst'.box
     have omC:=OM.out.below bC
     obtain ⟨s0_,s1_,s2_,s3_,s4_⟩:=zQ (zH bAC M12.out)
     have sL:=(zH bAC M12.out).lt
     obtain ⟨t0,t1,t2,t3,t4⟩:=zQ mC
     have tL:=mC.lt
     have xL:=m16.lt
     have xF:=fun i=>m16.frozen i
     have rc:∀ (r j:Nat) (u:Value),r < 8→j < 7→(cl zeroV)[j]?=some u→wC.cell? ⟨g16,r*7+j,none⟩=some u:=fun r j u hr hj hu=>by
      refine (m16.cell (r*7+j)).trans ?_
      rw [zEy (by simp) (by omega)]
      have h1:=zC5 (List.replicate 8 zeroV) r (by simpa using hr) j (by show j < 7;omega)
      have e7:El.k ValV=7:=rfl
      rw [e7] at h1
      rw [h1,List.getElem_replicate]
      exact hu
     have r0:=rc 0 0 (.bool false) (by decide) (by decide) rfl
     have r1:=rc 0 1 (.int .i64 0) (by decide) (by decide) rfl
     have r2:=rc 0 2 (.int .i64 0) (by decide) (by decide) rfl
     have r3:=rc 0 3 (.int .i64 0) (by decide) (by decide) rfl
     have r4:=rc 0 4 (.int .i64 0) (by decide) (by decide) rfl
     have r5:=rc 0 5 (.int .i64 0) (by decide) (by decide) rfl
     have r6:=rc 0 6 (.int .i64 0) (by decide) (by decide) rfl
     have r49:=rc 7 0 (.bool false) (by decide) (by decide) rfl
     have r50:=rc 7 1 (.int .i64 0) (by decide) (by decide) rfl
     have r51:=rc 7 2 (.int .i64 0) (by decide) (by decide) rfl
     have r52:=rc 7 3 (.int .i64 0) (by decide) (by decide) rfl
     have r53:=rc 7 4 (.int .i64 0) (by decide) (by decide) rfl
     have r54:=rc 7 5 (.int .i64 0) (by decide) (by decide) rfl
     have r55:=rc 7 6 (.int .i64 0) (by decide) (by decide) rfl
     simp only [Nat.reduceMul,Nat.reduceAdd,Nat.zero_mul,Nat.zero_add] at r0 r1 r2 r3 r4 r5 r6 r49 r50 r51 r52 r53 r54 r55
     have M16:=zA m16
     have OMC:=zA omC
     have BAC:=zA bAC
     clear rc m16 omC bAC mC bC hwC hg19 hst' OM HST
     apply zGg
     apply Exists.intro
     apply And.intro
     rotate_left
     ·intro tail
      go_region_law (fail)
      all_goals with_reducible exact tail
     obtain ⟨u4,hu4⟩:∃ u4,u4=((wC.setCells g16 0 [.bool true,.int .i64 0,.int .i64 p,.int .i64 b,.int .i64 l,.int .i64 a,.int .i64 q]).setCells g16 49 [.bool true,.int .i64 0,.int .i64 27,.int .i64 pn,.int .i64 qn,.int .i64 pn,.int .i64 0]).drew:=⟨_,rfl⟩
     change Exit.then _ _ _ _ (((wC.setCells g16 0 [.bool true,.int .i64 0,.int .i64 p,.int .i64 b,.int .i64 l,.int .i64 a,.int .i64 q]).setCells g16 49 [.bool true,.int .i64 0,.int .i64 27,.int .i64 pn,.int .i64 qn,.int .i64 pn,.int .i64 0]).drew)
     rw [←hu4]
     obtain ⟨m4,gr4⟩:=zOn M16.out p b l a q 27 pn qn pn 0
     obtain ⟨sK,hsK⟩:∃ sK:KeyV,(⟨p,b,l,a,q⟩:KeyV)=sK:=⟨_,rfl⟩
     have mu:Bk u4 g16 60 (mcs (xS ⟨p,b,l,a,q⟩ pn qn L).R ⟨5,0,pn,0,0⟩ (.slice va2 vn2 vc2) (.slice none 0 0) (.slice none 0 0)):=by rw [hu4];exact zP m4
     have ou:Own u4 wA.heap.size 56 (.slice va2 vn2 vc2) (L.map ValV.num):=by rw [hu4];exact (OMC.out.kept gr4 (.inr (zAc OMC.out M16.out (by decide)))).drew
     have bu:Below wA.heap.size wA u4:=by rw [hu4];exact zJ (BAC.out.grown gr4 BAC.out.size (fun i e=>by injection e with e;omega))
     clear hu4 m4 gr4 s0_ s1_ s2_ s3_ s4_ sL t0 t1 t2 t3 t4 tL xL xF r0 r1 r2 r3 r4 r5 r6 r49 r50 r51 r52 r53 r54 r55 M16 OMC BAC hsK sK hn1 hn2 hn3 hn4
     obtain ⟨cs,hcs⟩:∃ cs,cs=mcs (xS ⟨p,b,l,a,q⟩ pn qn L).R ⟨5,0,pn,0,0⟩ (.slice va2 vn2 vc2) (.slice none 0 0) (.slice none 0 0):=⟨_,rfl⟩
     rw [←hcs] at mu
     have hX0:(xS ⟨p,b,l,a,q⟩ pn qn L).Ok:=zOl HSK.out (by have:=HSM.out;omega) (by have:=HLL.out;have:=HSM.out;omega) HMN.out
     have mx0:MBox g16 (xS ⟨p,b,l,a,q⟩ pn qn L) cs u4:=by
      obtain ⟨ao,c,e,hs,_⟩:=ou.sl
      rw [hcs,e]
      exact ⟨hX0.2,by rw [←e,←hcs];exact mu,ao,none,none,c,0,0,rfl,hs,Sl.nil _ _,Sl.nil _ _⟩
     have hru:zCm (xS ⟨p,b,l,a,q⟩ pn qn L) fu=(((xS ⟨p,b,l,a,q⟩ pn qn L).run fu).1,(((xS ⟨p,b,l,a,q⟩ pn qn L).run fu).2.1:Int),((xS ⟨p,b,l,a,q⟩ pn qn L).run fu).2.2):=zKf (by omega) (zFT hX0)
     have hxo:=(zGH fu _ hX0).1
     have hlaw:=fun k hk=>zKd (s:=⟨p,b,l,a,q⟩) (lc:=pn) (ld:=qn) (L:=L) (show q≠0 by omega) fu (k:=k) hk
     unfold zMy at hlaw
     obtain ⟨X,hX⟩:∃ X,((xS ⟨p,b,l,a,q⟩ pn qn L).run fu).1=X:=⟨_,rfl⟩
     obtain ⟨n,hn⟩:∃ n:Int,(((xS ⟨p,b,l,a,q⟩ pn qn L).run fu).2.1:Int)=n:=⟨_,rfl⟩
     obtain ⟨er,her⟩:∃ e,((xS ⟨p,b,l,a,q⟩ pn qn L).run fu).2.2=e:=⟨_,rfl⟩
     rw [hX,hn,her] at hru
     rw [hX] at hxo hlaw
     obtain ⟨X0,hX00⟩:∃ X0,xS ⟨p,b,l,a,q⟩ pn qn L=X0:=⟨_,rfl⟩
     rw [hX00] at hru mx0
     have MX:=zA mx0
     have R2:=zA hru
     have LAW:=zA hlaw
     have HXO:=zA hxo
     have HL:=zA (fun (W1:World) (hb:Below u4.heap.size u4 W1)=>zH hb mx0.bk)
     have HTB:=zA (fun (W1:World) (hb:Below u4.heap.size u4 W1)=>(HE.out.below (zI BA.out (zI bu hb))).asc)
     have HMB:=zA (fun (W1:World) (hb:Below u4.heap.size u4 W1)=>mx0.below hb)
     have HB4:=zA (zI BA.out bu)
     have N11:=zA (zH bu M11.out)
     have N7:=zA (zH bu M7.out)
     clear mu ou bu hcs hX0 mx0 hru hxo hlaw hX hn her hX00 M11 M7 M12 M14 BA HE ST HLN HLL HSM HMN HRA HSK
     have M11:=N11
     have M7:=N7
     clear N11 N7
     go_upto_region 20 with (fail)
     go_cut [20,21,22] (fun s8 s9 s10 wx=>∃ (g8:Nat) (cs8:Array Value),s8=.pointer (some ⟨g8,0,none⟩)∧s9=.int .i64 n∧s10=.int .i64 er∧MBox g8 X cs8 wx∧Below u4.heap.size u4 wx)
     case first =>
      refine wp_region_held_drew (S:=fun W1=>Below u4.heap.size u4 W1) (by kernel_rfl) (zJ (Below.refl _ _)) (fun hHeld=>?_)
      refine wpAnyH_take (i:=0) (v:=.agg cs) rfl (by kernel_rfl) (by kernel_rfl) (by kernel_rfl) (fun _ _ _ h=>h) (Or.inl ⟨by rfl,?hyT⟩) hHeld ?restT
      case hyT=>(intro wS hSw;refine zFi 60 (.tmp 16) rfl g16 0 64 rfl 60 cs _ (HL.out _ hSw) Tryz.underlying60 rfl (by kernel_rfl) MX.out.size _ MX.out.all)
      case restT =>
       change wpAnyH _ _ _ _ _ _ _ (Act.mk _ _) _;try simp only [Act.put,zC,zD,zE]
       refine wpAnyH_take (i:=1) (v:=?_) rfl (by kernel_rfl) (by kernel_rfl) (by kernel_rfl) (fun _ _ _ h=>h) (Or.inl ⟨by rfl,?hyT⟩) hHeld ?restT
       case hyT=>(intro wS hSw;go_simp;try with_reducible rfl)
       case restT =>
        change wpAnyH _ _ _ _ _ _ _ (Act.mk _ _) _;try simp only [Act.put,zC,zD,zE]
        refine wpAnyH_ready (rs:=[2,8]) (by kernel_rfl) (by simp) ?_
        refine AllReadyH.cons rfl (fun K hK=>?_) (AllReadyH.cons rfl (fun K hK=>?_) AllReadyH.nil)
        ·go_simp
         go_wp2_with (go_at_call 15;((with_reducible refine (RA.out _).mono ?_);rintro e w' ⟨rfl,rfl⟩))
         refine hK.out _ _ (zJ (Below.refl _ _)) (fun hHeld=>?_)
         clear hK K
         change wpAnyH _ _ _ _ _ _ _ (Act.mk _ _) _;try simp only [Act.put,zC,zD,zE]
         refine wpAnyH_ready (rs:=[3,8]) (by kernel_rfl) (by simp) ?_
         refine AllReadyH.cons rfl (fun K hK=>?_) (AllReadyH.cons rfl (fun K hK=>?_) AllReadyH.nil)
         ·go_simp
          go_wp2_with (go_at_call 17;go_loud ((with_reducible refine (zE9 (HMB.out _ (zJ (Below.refl _ _))) (HTB.out _ (zJ (Below.refl _ _))) _ R2.out).mono ?_);rintro e u5 ⟨cs5,rfl,mo,hb⟩;have MO:=zA mo;have HB5:=zA hb;clear mo hb))
          refine hK.out _ _ (zI (zJ (Below.refl _ _)) HB5.out) (fun hHeld=>?_)
          clear hK K
          change wpAnyH _ _ _ _ _ _ _ (Act.mk _ _) _;try simp only [Act.put,zC,zD,zE]
          refine wpAnyH_take (i:=4) (v:=?_) rfl (by kernel_rfl) (by kernel_rfl) (by kernel_rfl) (fun _ _ _ h=>h) (Or.inl ⟨by rfl,?hyT⟩) hHeld ?restT
          case hyT=>(intro wS hSw;go_simp;try with_reducible rfl)
          case restT =>
           change wpAnyH _ _ _ _ _ _ _ (Act.mk _ _) _;try simp only [Act.put,zC,zD,zE]
           refine wpAnyH_take (i:=5) (v:=?_) rfl (by kernel_rfl) (by kernel_rfl) (by kernel_rfl) (fun _ _ _ h=>h) (Or.inl ⟨by rfl,?hyT⟩) hHeld ?restT
           case hyT=>(intro wS hSw;go_simp;try with_reducible rfl)
           case restT =>
            change wpAnyH _ _ _ _ _ _ _ (Act.mk _ _) _;try simp only [Act.put,zC,zD,zE]
            refine wpAnyH_take (i:=6) (v:=?_) rfl (by kernel_rfl) (by kernel_rfl) (by kernel_rfl) (fun _ _ _ h=>h) (Or.inl ⟨by rfl,?hyT⟩) hHeld ?restT
            case hyT=>(intro wS hSw;go_simp;try with_reducible rfl)
            case restT =>
             change wpAnyH _ _ _ _ _ _ _ (Act.mk _ _) _;try simp only [Act.put,zC,zD,zE]
             refine wpAnyH_take (i:=7) (v:=?_) rfl (by kernel_rfl) (by kernel_rfl) (by kernel_rfl) (fun _ _ _ h=>h) (Or.inl ⟨by rfl,?hyT⟩) hHeld ?restT
             case hyT=>(intro wS hSw;go_simp;try with_reducible rfl)
             case restT =>
              change wpAnyH _ _ _ _ _ _ _ (Act.mk _ _) _;try simp only [Act.put,zC,zD,zE]
              refine wpAnyH_ready (rs:=[8]) (by kernel_rfl) (by simp) ?_
              refine AllReadyH.cons rfl (fun K hK=>?_) AllReadyH.nil
              go_simp
              refine hK.out _ _ (zG (zI (zJ (Below.refl _ _)) HB5.out) _) (fun hHeld=>?_)
              clear hK K
              change wpAnyH _ _ _ _ _ _ _ (Act.mk _ _) _;try simp only [Act.put,zC,zD,zE]
              refine wpAnyH_ready (rs:=[9]) (by kernel_rfl) (by simp) ?_
              refine AllReadyH.cons rfl (fun K hK=>?_) AllReadyH.nil
              refine zCZ rfl 60 (.tmp 20) (.tmp 103) rfl u5.heap.size cs5 rfl rfl 60 _ (zM _ _ _) (by rw [MO.out.sz];kernel_rfl) (by rw [MO.out.sz];kernel_rfl) MO.out.one ?_
              refine hK.out _ _ ((zAm (zG (zI (zJ (Below.refl _ _)) HB5.out) _) (by have:=HB5.out.size;exact this) _)) (fun hHeld=>?_)
              clear hK K
              change wpAnyH _ _ _ _ _ _ _ (Act.mk _ _) _;try simp only [Act.put,zC,zD,zE]
              refine wpAnyH_ready (rs:=[10]) (by kernel_rfl) (by simp) ?_
              refine AllReadyH.cons rfl (fun K hK=>?_) AllReadyH.nil
              go_simp
              refine hK.out _ _ ((zAm (zG (zI (zJ (Below.refl _ _)) HB5.out) _) (by have:=HB5.out.size;exact this) _)) (fun hHeld=>?_)
              clear hK K
              change wpAnyH _ _ _ _ _ _ _ (Act.mk _ _) _;try simp only [Act.put,zC,zD,zE]
              refine wpAnyH_ready (rs:=[11]) (by kernel_rfl) (by simp) ?_
              refine AllReadyH.cons rfl (fun K hK=>?_) AllReadyH.nil
              go_simp
              refine hK.out _ _ ((zAm (zG (zI (zJ (Below.refl _ _)) HB5.out) _) (by have:=HB5.out.size;exact this) _)) (fun hHeld=>?_)
              clear hK K
              change wpAnyH _ _ _ _ _ _ _ (Act.mk _ _) _;try simp only [Act.put,zC,zD,zE]
              refine wpAnyH_done (by kernel_rfl) ?_ _
              go_wp2_with fail
              go_meet
              exact ⟨u5.heap.size,cs5,rfl,rfl,rfl,(MO.out.below (zG (Below.refl _ _) _)).setRow (zM _ _ _),(zAm (zG (zI (zJ (Below.refl _ _)) HB5.out) _) (by have:=HB5.out.size;exact this) _)⟩
         ·go_simp
          refine hK.out _ _ (zJ (zG (Below.refl _ _) _)) (fun hHeld=>?_)
          clear hK K
          change wpAnyH _ _ _ _ _ _ _ (Act.mk _ _) _;try simp only [Act.put,zC,zD,zE]
          refine wpAnyH_ready (rs:=[3]) (by kernel_rfl) (by simp) ?_
          refine AllReadyH.cons rfl (fun K hK=>?_) AllReadyH.nil
          go_simp
          go_wp2_with (go_at_call 17;go_loud ((with_reducible refine (zE9 (HMB.out _ (zJ (zG (Below.refl _ _) _))) (HTB.out _ (zJ (zG (Below.refl _ _) _))) _ R2.out).mono ?_);rintro e u5 ⟨cs5,rfl,mo,hb⟩;have MO:=zA mo;have HB5:=zA hb;clear mo hb))
          refine hK.out _ _ (zI (zJ (zG (Below.refl _ _) _)) HB5.out) (fun hHeld=>?_)
          clear hK K
          change wpAnyH _ _ _ _ _ _ _ (Act.mk _ _) _;try simp only [Act.put,zC,zD,zE]
          refine wpAnyH_take (i:=4) (v:=?_) rfl (by kernel_rfl) (by kernel_rfl) (by kernel_rfl) (fun _ _ _ h=>h) (Or.inl ⟨by rfl,?hyT⟩) hHeld ?restT
          case hyT=>(intro wS hSw;go_simp;try with_reducible rfl)
          case restT =>
           change wpAnyH _ _ _ _ _ _ _ (Act.mk _ _) _;try simp only [Act.put,zC,zD,zE]
           refine wpAnyH_take (i:=5) (v:=?_) rfl (by kernel_rfl) (by kernel_rfl) (by kernel_rfl) (fun _ _ _ h=>h) (Or.inl ⟨by rfl,?hyT⟩) hHeld ?restT
           case hyT=>(intro wS hSw;go_simp;try with_reducible rfl)
           case restT =>
            change wpAnyH _ _ _ _ _ _ _ (Act.mk _ _) _;try simp only [Act.put,zC,zD,zE]
            refine wpAnyH_take (i:=6) (v:=?_) rfl (by kernel_rfl) (by kernel_rfl) (by kernel_rfl) (fun _ _ _ h=>h) (Or.inl ⟨by rfl,?hyT⟩) hHeld ?restT
            case hyT=>(intro wS hSw;go_simp;try with_reducible rfl)
            case restT =>
             change wpAnyH _ _ _ _ _ _ _ (Act.mk _ _) _;try simp only [Act.put,zC,zD,zE]
             refine wpAnyH_take (i:=7) (v:=?_) rfl (by kernel_rfl) (by kernel_rfl) (by kernel_rfl) (fun _ _ _ h=>h) (Or.inl ⟨by rfl,?hyT⟩) hHeld ?restT
             case hyT=>(intro wS hSw;go_simp;try with_reducible rfl)
             case restT =>
              change wpAnyH _ _ _ _ _ _ _ (Act.mk _ _) _;try simp only [Act.put,zC,zD,zE]
              refine wpAnyH_ready (rs:=[9]) (by kernel_rfl) (by simp) ?_
              refine AllReadyH.cons rfl (fun K hK=>?_) AllReadyH.nil
              have kz:=zH HB5.out (show Bk (World.drew (World.alloc u4 _)) u4.heap.size 60 _ from zM u4 _ _)
              refine zCZ rfl 60 (.tmp 20) (.tmp 103) rfl u4.heap.size cs5 rfl rfl 60 _ kz (by rw [MO.out.sz];kernel_rfl) (by rw [MO.out.sz];kernel_rfl) MO.out.one ?_
              refine hK.out _ _ ((zAm (zI (zJ (zG (Below.refl _ _) _)) HB5.out) (Nat.le_refl _) _)) (fun hHeld=>?_)
              clear hK K
              change wpAnyH _ _ _ _ _ _ _ (Act.mk _ _) _;try simp only [Act.put,zC,zD,zE]
              refine wpAnyH_ready (rs:=[10]) (by kernel_rfl) (by simp) ?_
              refine AllReadyH.cons rfl (fun K hK=>?_) AllReadyH.nil
              go_simp
              refine hK.out _ _ ((zAm (zI (zJ (zG (Below.refl _ _) _)) HB5.out) (Nat.le_refl _) _)) (fun hHeld=>?_)
              clear hK K
              change wpAnyH _ _ _ _ _ _ _ (Act.mk _ _) _;try simp only [Act.put,zC,zD,zE]
              refine wpAnyH_ready (rs:=[11]) (by kernel_rfl) (by simp) ?_
              refine AllReadyH.cons rfl (fun K hK=>?_) AllReadyH.nil
              go_simp
              refine hK.out _ _ ((zAm (zI (zJ (zG (Below.refl _ _) _)) HB5.out) (Nat.le_refl _) _)) (fun hHeld=>?_)
              clear hK K
              change wpAnyH _ _ _ _ _ _ _ (Act.mk _ _) _;try simp only [Act.put,zC,zD,zE]
              refine wpAnyH_done (by kernel_rfl) ?_ _
              go_wp2_with fail
              go_meet
              exact ⟨u4.heap.size,cs5,rfl,rfl,rfl,MO.out.setRow kz,(zAm (zI (zJ (zG (Below.refl _ _) _)) HB5.out) (Nat.le_refl _) _)⟩
        ·go_simp
         refine hK.out _ _ (zJ (zG (Below.refl _ _) _)) (fun hHeld=>?_)
         clear hK K
         change wpAnyH _ _ _ _ _ _ _ (Act.mk _ _) _;try simp only [Act.put,zC,zD,zE]
         refine wpAnyH_ready (rs:=[2]) (by kernel_rfl) (by simp) ?_
         refine AllReadyH.cons rfl (fun K hK=>?_) AllReadyH.nil
         go_simp
         go_wp2_with (go_at_call 15;((with_reducible refine (RA.out _).mono ?_);rintro e w' ⟨rfl,rfl⟩))
         refine hK.out _ _ (zJ (zG (Below.refl _ _) _)) (fun hHeld=>?_)
         clear hK K
         change wpAnyH _ _ _ _ _ _ _ (Act.mk _ _) _;try simp only [Act.put,zC,zD,zE]
         refine wpAnyH_ready (rs:=[3]) (by kernel_rfl) (by simp) ?_
         refine AllReadyH.cons rfl (fun K hK=>?_) AllReadyH.nil
         go_simp
         go_wp2_with (go_at_call 17;go_loud ((with_reducible refine (zE9 (HMB.out _ (zJ (zG (Below.refl _ _) _))) (HTB.out _ (zJ (zG (Below.refl _ _) _))) _ R2.out).mono ?_);rintro e u5 ⟨cs5,rfl,mo,hb⟩;have MO:=zA mo;have HB5:=zA hb;clear mo hb))
         refine hK.out _ _ (zI (zJ (zG (Below.refl _ _) _)) HB5.out) (fun hHeld=>?_)
         clear hK K
         change wpAnyH _ _ _ _ _ _ _ (Act.mk _ _) _;try simp only [Act.put,zC,zD,zE]
         refine wpAnyH_take (i:=4) (v:=?_) rfl (by kernel_rfl) (by kernel_rfl) (by kernel_rfl) (fun _ _ _ h=>h) (Or.inl ⟨by rfl,?hyT⟩) hHeld ?restT
         case hyT=>(intro wS hSw;go_simp;try with_reducible rfl)
         case restT =>
          change wpAnyH _ _ _ _ _ _ _ (Act.mk _ _) _;try simp only [Act.put,zC,zD,zE]
          refine wpAnyH_take (i:=5) (v:=?_) rfl (by kernel_rfl) (by kernel_rfl) (by kernel_rfl) (fun _ _ _ h=>h) (Or.inl ⟨by rfl,?hyT⟩) hHeld ?restT
          case hyT=>(intro wS hSw;go_simp;try with_reducible rfl)
          case restT =>
           change wpAnyH _ _ _ _ _ _ _ (Act.mk _ _) _;try simp only [Act.put,zC,zD,zE]
           refine wpAnyH_take (i:=6) (v:=?_) rfl (by kernel_rfl) (by kernel_rfl) (by kernel_rfl) (fun _ _ _ h=>h) (Or.inl ⟨by rfl,?hyT⟩) hHeld ?restT
           case hyT=>(intro wS hSw;go_simp;try with_reducible rfl)
           case restT =>
            change wpAnyH _ _ _ _ _ _ _ (Act.mk _ _) _;try simp only [Act.put,zC,zD,zE]
            refine wpAnyH_take (i:=7) (v:=?_) rfl (by kernel_rfl) (by kernel_rfl) (by kernel_rfl) (fun _ _ _ h=>h) (Or.inl ⟨by rfl,?hyT⟩) hHeld ?restT
            case hyT=>(intro wS hSw;go_simp;try with_reducible rfl)
            case restT =>
             change wpAnyH _ _ _ _ _ _ _ (Act.mk _ _) _;try simp only [Act.put,zC,zD,zE]
             refine wpAnyH_ready (rs:=[9]) (by kernel_rfl) (by simp) ?_
             refine AllReadyH.cons rfl (fun K hK=>?_) AllReadyH.nil
             have kz:=zH HB5.out (show Bk (World.drew (World.alloc u4 _)) u4.heap.size 60 _ from zM u4 _ _)
             refine zCZ rfl 60 (.tmp 20) (.tmp 103) rfl u4.heap.size cs5 rfl rfl 60 _ kz (by rw [MO.out.sz];kernel_rfl) (by rw [MO.out.sz];kernel_rfl) MO.out.one ?_
             refine hK.out _ _ ((zAm (zI (zJ (zG (Below.refl _ _) _)) HB5.out) (Nat.le_refl _) _)) (fun hHeld=>?_)
             clear hK K
             change wpAnyH _ _ _ _ _ _ _ (Act.mk _ _) _;try simp only [Act.put,zC,zD,zE]
             refine wpAnyH_ready (rs:=[10]) (by kernel_rfl) (by simp) ?_
             refine AllReadyH.cons rfl (fun K hK=>?_) AllReadyH.nil
             go_simp
             refine hK.out _ _ ((zAm (zI (zJ (zG (Below.refl _ _) _)) HB5.out) (Nat.le_refl _) _)) (fun hHeld=>?_)
             clear hK K
             change wpAnyH _ _ _ _ _ _ _ (Act.mk _ _) _;try simp only [Act.put,zC,zD,zE]
             refine wpAnyH_ready (rs:=[11]) (by kernel_rfl) (by simp) ?_
             refine AllReadyH.cons rfl (fun K hK=>?_) AllReadyH.nil
             go_simp
             refine hK.out _ _ ((zAm (zI (zJ (zG (Below.refl _ _) _)) HB5.out) (Nat.le_refl _) _)) (fun hHeld=>?_)
             clear hK K
             change wpAnyH _ _ _ _ _ _ _ (Act.mk _ _) _;try simp only [Act.put,zC,zD,zE]
             refine wpAnyH_done (by kernel_rfl) ?_ _
             go_wp2_with fail
             go_meet
             exact ⟨u4.heap.size,cs5,rfl,rfl,rfl,MO.out.setRow kz,(zAm (zI (zJ (zG (Below.refl _ _) _)) HB5.out) (Nat.le_refl _) _)⟩
     case rest =>
      obtain ⟨g20,cs8,rfl,rfl,rfl,mx8,hb8⟩:=hcut
      have MX8:=zA mx8
      have HB8:=zA hb8
      have M11b:=zA (zH hb8 M11.out)
      have M7b:=zA (zH hb8 M7.out)
      have ky:=zMS mx8.mbrS.toRow true HXO.out
      have KY:=zA ky
      clear mx8 hb8 ky HL HTB HMB RA R2
      clear wr
      go_upto_region 22 with (first
       | (refine zAZ rfl 60 (.tmp 20) rfl g20 0 64 rfl 60 _ _ MX8.out.bk Tryz.underlying60 rfl (by kernel_rfl) MX8.out.size _ MX8.out.all ?_)
       | (go_at_call 28;((with_reducible refine (KY.out).mono ?_);rintro e wk ⟨lo,lc,ts,rfl,ls,li,lk,⟨ll,_⟩,hbk⟩;have LS:=zA ls;have LI:=zA li;have LK:=zA lk;have HBK:=zA (zI HB8.out hbk);have M11k:=zA (zH hbk M11b.out);have M7k:=zA (zH hbk M7b.out);clear ls li lk hbk)))
      obtain ⟨nt,hnt⟩:∃ n,ts.length=n:=⟨_,rfl⟩
      have hn0:0 < nt:=by
       rw [←hnt]
       exact List.length_pos_of_mem ((LI.out X.c).2 (.root (.inl rfl)))
      have ls:=LS.out
      rw [hnt] at ls ll
      rw [hnt]
      have LS2:=zA ls
      have HNT:=zA hnt
      have q5:((nt:Int)==0)=false:=by simp;omega
      clear ls hnt LS
      go_upto_region 25 with (fail)
      go_loopw [120] (fun i wr=>∃ k:Nat,k≤nt∧i=.int .i64 k∧Below wk.heap.size wk wr) (fun i _=>nt - (intOf i).toNat)
      case atStart=>exact ⟨0,Nat.zero_le _,rfl,Below.refl _ _⟩
      case round =>
       obtain ⟨k,hk,rfl,hb⟩:=hrel
       have HB:=zA hb
       by_cases hlt:k < nt
       ·have q6:(0:Int)≤k:=by omega
        have q7:(k:Int) < nt:=by omega
        obtain ⟨x,hgx⟩:∃ x,ts[k]?=some x:=⟨_,List.getElem?_eq_getElem (by rw [HNT.out];exact hlt)⟩
        obtain ⟨ad,rfl,bx,e0,e1,e2,e3,e4⟩:=zND (LS2.out.below hb) hlt hgx
        have hxm:=List.mem_of_getElem? hgx
        have hok:=LK.out x hxm
        have hlw:=LAW.out x ((LI.out x).1 hxm)
        obtain ⟨xp,xb,xl,xa,xs⟩:=x
        simp only at e0 e1 e2 e3 e4 hlw
        have M11r:=zA (zH hb M11k.out)
        have M7r:=zA (zH hb M7k.out)
        clear hgx hxm hok hb
        go_upto_region 27 with (refine zAI rfl 54 (.tmp 26) (.tmp 123) rfl rfl #[.int .i64 xp,.int .i64 xb,.int .i64 xl,.int .i64 xa,.int .i64 xs] 54 _ rfl (by first | rfl | kernel_rfl) (by kernel_rfl) (by kernel_rfl) (by kernel_rfl) ?_)
        obtain ⟨g26,hg26⟩:∃ g,wr.heap.size=g:=⟨_,rfl⟩
        obtain ⟨wa,hwa⟩:∃ wa,wa=wr.alloc (.cells #[.int .i64 xp,.int .i64 xb,.int .i64 xl,.int .i64 xa,.int .i64 xs] 54):=⟨_,rfl⟩
        have ma:Bk wa g26 54 #[.int .i64 xp,.int .i64 xb,.int .i64 xl,.int .i64 xa,.int .i64 xs]:=by rw [hwa,←hg26];exact zM _ _ _
        have ba:Below wr.heap.size wr wa:=by rw [hwa];exact zG (Below.refl _ _) _
        rw [←hwa]
        try rw [hg26]
        have BA:=zA (zI HB.out ba)
        have M11a:=zA (zH ba M11r.out)
        have M7a:=zA (zH ba M7r.out)
        obtain ⟨f0,f1,f2,f3,f4⟩:=zQ ma
        have fL:=ma.lt
        clear hwa hg26 ma ba e0 e1 e2 e3 e4 bx M11r M7r
        by_cases hs0:xs=0
        ·subst hs0
         go_wp2
         go_roundw
         case rel=>exact ⟨k+1,by omega,by go_num,BA.out⟩
         case measure=>simp [intOf];omega
        ·have q8:(xs==0)=false:=by simpa using hs0
         have hx:(⟨xp,xb,xl,xa,xs⟩:KeyV)=⟨p,b,l,a,q⟩:=by
          rcases hlw with h | h
          ·exact absurd h hs0
          ·exact h
         injection hx with hx1 hx2 hx3 hx4 hx5
         subst hx1 hx2 hx3 hx4 hx5
         obtain ⟨h0,h1,h2,h3,h4⟩:=zQ M11a.out
         have hL:=M11a.out.lt
         clear hlw
         go_upto_region 29 with (first
          | (go_at_call 29;((with_reducible refine (OP.out _).mono ?_);rintro e wo ⟨rfl,hbo⟩;have BO:=zA (zI BA.out hbo);have M7o:=zA (zH hbo M7a.out);clear hbo))
          | (refine zAI rfl 54 (.tmp 27) (.tmp 131) rfl rfl #[.int .i64 xp,.int .i64 xb,.int .i64 xl,.int .i64 xa,.int .i64 0] 54 _ rfl (by first | rfl | kernel_rfl) (by kernel_rfl) (by kernel_rfl) (by kernel_rfl) ?_))
         clear f0 f1 f2 f3 f4 fL h0 h1 h2 h3 h4 hL
         obtain ⟨g27,hg27⟩:∃ g,wo.heap.size=g:=⟨_,rfl⟩
         obtain ⟨wb,hwb⟩:∃ wb,wb=wo.alloc (.cells #[.int .i64 xp,.int .i64 xb,.int .i64 xl,.int .i64 xa,.int .i64 0] 54):=⟨_,rfl⟩
         have mb:Bk wb g27 54 #[.int .i64 xp,.int .i64 xb,.int .i64 xl,.int .i64 xa,.int .i64 0]:=by rw [hwb,←hg27];exact zM _ _ _
         have bb:Below wo.heap.size wo wb:=by rw [hwb];exact zG (Below.refl _ _) _
         rw [←hwb]
         try rw [hg27]
         obtain ⟨f0,f1,f2,f3,f4⟩:=zQ mb
         have fL:=mb.lt
         obtain ⟨h0,h1,h2,h3,h4⟩:=zQ (zH bb M7o.out)
         have hL:=(zH bb M7o.out).lt
         have BB:=zA (zI BO.out bb)
         have rq:=fun W=>zIV ⟨xp,xb,xl,xa,0⟩ ⟨xp,xb,xl,xa,0⟩ W
         simp only [KeyV.val,decide_true,Bool.not_true] at rq
         clear hwb hg27 mb bb
         go_wp2
         go_roundw
         case rel=>exact ⟨k+1,by omega,by go_num,BB.out⟩
         case measure=>simp [intOf];omega
       ·have q6:¬((k:Int) < nt):=by omega
        have HBW:=zA (zI HB4.out (zI HBK.out HB.out))
        go_wp2
        go_ret
        exact ⟨rfl,HBW.out⟩
 ·obtain ⟨s1,k1⟩:=zNQ (q:=q) hok
  have se:=fun W=>zEO p b l a 0 96 0 64 q 0 WF0.out wfs W
  rw [s1] at se
  simp only [KeyV.res,zeroK] at se
  have ck:=fun W=>zBU p b l a 0 W
  rw [k1] at ck
  have SE:=zA se
  have CK:=zA ck
  clear se ck s1 k1 wfs hok
  go_upto_region 7 with (first
   | (go_at_call 26;((with_reducible refine (SE.out _).mono ?_);rintro e w5 ⟨rfl,hb5⟩;have B5:=zA (zI B4.out hb5);have M7b:=zA (zH hb5 M7.out);clear hb5))
   | (refine zAI rfl 54 (.tmp 12) (.tmp 41) rfl rfl #[.int .i64 0,.int .i64 0,.int .i64 0,.int .i64 0,.int .i64 0] 54 _ rfl (by first | rfl | kernel_rfl) (by kernel_rfl) (by kernel_rfl) (by kernel_rfl) ?_))
  obtain ⟨w6,hw6⟩:∃ w6,w6=w5.alloc (.cells #[.int .i64 0,.int .i64 0,.int .i64 0,.int .i64 0,.int .i64 0] 54):=⟨_,rfl⟩
  have b56:Below w5.heap.size w5 w6:=by rw [hw6];exact zG (Below.refl _ _) _
  rw [←hw6]
  clear xL x0 x1 x2 x3 x4 yL y0 y1 y2 y3 y4
  have B6:=zA (zI B5.out b56)
  have m7:=zH b56 M7b.out
  have xL:=m7.lt
  obtain ⟨x0,x1,x2,x3,x4⟩:=zQ m7
  clear hw6 b56 m7
  go_wp2_with (go_at_call 27;((with_reducible refine (CK.out _).mono ?_);rintro e w7 ⟨rfl,hb7⟩;have B7:=zA (zI B6.out hb7);clear hb7))
  go_ret
  exact ⟨rfl,B7.out⟩
end Go.Proofs.YtlpejagkadalbaaGreatDoor
