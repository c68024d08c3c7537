import Derived.Test.YtlpejagkadalbaaGreatDoorQk45
import Derived.Test.YtlpejagkadalbaaGreatDoorQk43
import Derived.Test.YtlpejagkadalbaaGreatDoorQk44
set_option maxHeartbeats 40000000
set_option maxRecDepth 100000
set_option linter.unusedVariables false
set_option linter.unusedSimpArgs false
namespace Go.Proofs.YtlpejagkadalbaaGreatDoor
open Go Go.RowKit Go.Shelf
theorem zL6 (oa ob:Option Addr) (n c d:Nat) (ra rb:List DoneR) (ds:List DoneV) (b1 b2:Nat) (w:World) (h1:Sl w oa n ra) (h2:Sl w ob n rb) (d1:Dones w b1 ra ds) (d2:Dones w b2 rb ds) :
  Calls Tryz.prog 25 #[.slice oa n c,.slice ob n d] w fun e w'=>e=.returned (.bool true)∧Below w.heap.size w w':=by
 have hmx:=h1.max
 unfold maxLen at hmx
 have hla:=h1.len
 have hlb:=h2.len
 have hld:=d1.len
 have g1:((n:Int) != (n:Int))=false:=by simp
 have H1:=zA h1
 have H2:=zA h2
 have D1:=zA d1
 have D2:=zA d2
 have HLA:=zA hla
 have HLB:=zA hlb
 have HLD:=zA hld
 clear h1 h2 d1 d2 hla hlb hld
 go_enter Tryz.func25,Tryz.ntmps25
 go_wp2
 go_loopw [13] (fun i wr=>∃ k:Nat,k≤n∧i=.int .i64 k∧Below w.heap.size w wr) (fun i _=>n - (intOf i).toNat)
 case atStart=>exact ⟨0,Nat.zero_le _,rfl,Below.refl _ _⟩
 case round =>
  obtain ⟨k,hk,rfl,hb⟩:=hrel
  have HB:=zA hb
  by_cases hlt:k < n
  ·have q0:(0:Int)≤k:=by omega
   have q1:(k:Int) < n:=by omega
   obtain ⟨x,hx⟩:∃ x,ra[k]?=some x:=⟨_,List.getElem?_eq_getElem (by rw [HLA.out];exact hlt)⟩
   obtain ⟨y,hy⟩:∃ y,rb[k]?=some y:=⟨_,List.getElem?_eq_getElem (by rw [HLB.out];exact hlt)⟩
   obtain ⟨z,hz⟩:∃ z,ds[k]?=some z:=⟨_,List.getElem?_eq_getElem (by rw [←HLD.out,HLA.out];exact hlt)⟩
   obtain ⟨aa,rfl,ab,e0,e1,e2,e3⟩:=zER (H1.out.below hb) hlt hx
   obtain ⟨ba,rfl,bb,f0,f1,f2,f3⟩:=zER (H2.out.below hb) hlt hy
   obtain ⟨x1,x2,x3,x4⟩:=(D1.out.below hb).at_ k _ _ hx hz
   obtain ⟨y1,y2,y3,y4⟩:=(D2.out.below hb).at_ k _ _ hy hz
   obtain ⟨xe,xn,⟨xa,xm,xc⟩,xf⟩:=x
   obtain ⟨ye,yn,⟨ya,ym,yc⟩,yf⟩:=y
   obtain ⟨ze,zn,zo,zf⟩:=z
   simp only at x1 x2 x3 x4 y1 y2 y3 y4 e0 e1 e2 e3 f0 f1 f2 f3
   subst x1 x2 x3 y1 y2 y3
   obtain ⟨sx,cx,ex,hsx,_⟩:=x4.sl
   obtain ⟨sy,cy,ey,hsy,_⟩:=y4.sl
   injection ex with ex1 ex2 ex3
   injection ey with ey1 ey2 ey3
   subst ex1 ey1 ex3 ey3
   obtain ⟨lo,hlo⟩:∃ lo,zo.length=lo:=⟨_,rfl⟩
   rw [hlo] at ex2 ey2 hsx hsy
   subst ex2 ey2
   have de:=fun (W:World) (h:Below wr.heap.size wr W)=>zGV ye yn yf xa ya ym xc yc zo W (hsx.below h) (hsy.below h)
   have DE:=zA de
   clear hx hy hz x4 y4 hsx hsy de hlo hb
   go_upto_region 6 with (fail)
   go_region_law (go_simp;go_at_call 12;((with_reducible refine (DE.out _ (zJ (Below.refl _ _))).mono ?_);rintro e w10 ⟨rfl,hb10⟩;have BX:=zA (zI HB.out (zI (zJ (Below.refl wr.heap.size wr)) hb10));clear hb10))
   all_goals
    go_wp2
    go_roundw
    case rel=>exact ⟨k+1,by omega,by go_num,BX.out⟩
    case measure=>simp [intOf];omega
  ·have q1:¬((k:Int) < n):=by omega
   go_wp2
   go_ret
   exact ⟨rfl,HB.out⟩
structure FSt (w0:World) (ms:List ModV) (k:Nat) (v:Value) (GR:List ModR) (W:World):Prop where
 own:Own W w0.heap.size 48 v GR
 len:GR.length=k
 has:∀ (i:Nat) (r:ModR) (m:ModV),GR[i]?=some r→ms[i]?=some m→r.has W m
 sep:∀ r∈GR,RowSep v.ownBlock r
 ok:∀ m∈ms.take k,ModOk zR m
 bel:Below w0.heap.size w0 W
theorem FSt.next {w0 W w2 w3 w5 w6:World} {ms:List ModV} {k:Nat} {v v':Value} {GR:List ModR} {r:ModR} {m:ModV} (h:FSt w0 ms k v GR W) (hm:ms[k]?=some m) (hok:ModOk zR m) (hn:GR.length≤ms.length)
  (b1:Below W.heap.size W w2) (b2:Below w2.heap.size w2 w3) (b3:Below w3.heap.size w3 w5) (hr:r.has w3 m) (hat:RowAt w2.heap.size r) (ho:Own w6 w0.heap.size 48 v' (GR++[r])) (hg:w5.grownBy w6 v.ownBlock) (hv:v'.ownBlock=v.ownBlock∨v'.ownBlock=some w5.heap.size):FSt w0 ms (k+1) v' (GR++[r]) w6:=by
 have b15:=zI b1 (zI b2 b3)
 have hsr:RowSep v.ownBlock r:=by
  cases e:v.ownBlock with
  | none=>exact RowSep.no r
  | some g=>exact hat.sep (by have:=(zBG h.own e).2;have:=b1.size;omega)
 have hr5:=hr.below b3
 have hsep:∀ q∈GR++[r],RowSep v.ownBlock q:=by
  intro q hq
  rcases List.mem_append.1 hq with hq | hq
  ·exact h.sep q hq
  ·obtain rfl:=List.mem_singleton.1 hq
   exact hsr
 have hhas5:∀ (i:Nat) (q:ModR) (p:ModV),(GR++[r])[i]?=some q→ms[i]?=some p→q.has w5 p:=by
  intro i q p h1 h2
  rcases Nat.lt_or_ge i GR.length with hi | hi
  ·rw [List.getElem?_append_left hi] at h1
   exact (h.has i q p h1 h2).below b15
  ·have hi2:i=GR.length:=by
    have:=(List.getElem?_eq_some_iff.1 h1).1
    simp at this
    omega
   subst hi2
   rw [List.getElem?_append_right (Nat.le_refl _),Nat.sub_self] at h1
   simp at h1
   subst h1
   rw [h.len,hm] at h2
   injection h2 with h2
   subst h2
   exact hr5
 refine ⟨ho,by rw [List.length_append,h.len];rfl,fun i q p h1 h2=>?_,fun q hq=>?_,fun p hp=>?_,?_⟩
 ·exact zNf (hhas5 i q p h1 h2) hg (hsep q (List.mem_of_getElem? h1))
 ·rcases hv with e | e
  ·rw [e];exact hsep q hq
  ·rw [e]
   obtain ⟨i,hi⟩:=List.mem_iff_getElem?.1 hq
   have hil:=(List.getElem?_eq_some_iff.1 hi).1
   rw [List.length_append,h.len] at hil
   have hkl:=(List.getElem?_eq_some_iff.1 hm).1
   simp at hil
   exact zQD (hhas5 i q _ hi (List.getElem?_eq_getElem (by omega))) (Nat.le_refl _)
 ·rw [List.take_add_one,hm] at hp
  rcases List.mem_append.1 hp with hp | hp
  ·exact h.ok p hp
  ·simp at hp;subst hp;exact hok
 ·exact (zI h.bel b15).grown hg (zI h.bel b15).size (fun i e=>(zBG h.own e).1)
theorem zHF (ao:Option Addr) (n c:Nat) (rs:List ModR) (ms:List ModV) (w:World) (h:Mods w ao n rs ms) (hok:LinkOk zR ms):Calls Tryz.prog 7 #[.slice ao n c] w fun e w'=>∃ ma mn mc la ln lc ea en ec,e=.returned (.tuple #[.agg #[.slice ma mn mc,.slice la ln lc,.slice ea en ec],.int .i64 0])∧Sl w' ma mn (zAK ms)∧Sl w' la ln (zBE 0 0 ms)∧Sl w' ea en (zU 0 0 ms)∧Below w.heap.size w w':=by
 refine (zEj ao n c rs ms w h hok).mono ?_
 rintro e w' ⟨vm,vp,ve,rfl,hm,hp,he,hb⟩
 obtain ⟨ma,mc,rfl,h1,_⟩:=hm.sl
 obtain ⟨pa,pc,rfl,h2,_⟩:=hp.sl
 obtain ⟨ea,ec,rfl,h3,_⟩:=he.sl
 exact ⟨_,_,_,_,_,_,_,_,_,rfl,h1,h2,h3,hb⟩
theorem zMp (ma pa ea ao:Option Addr) (mn mc pn pc en ec N cap:Nat) (M:List ValV) (E:List EntryV) (rs:List JobR) (js:List JobV) (w:World) (hm:Sl w ma mn M) (he:Sl w ea en E) (hj:Jobs w ao N rs js) (hN:N≤60) (hok:ImOk M E) (hT:Tab w) :
  Calls Tryz.prog 9 #[.agg #[.slice ma mn mc,.slice pa pn pc,.slice ea en ec],.slice ao N cap] w fun e w'=>∃ (oa va:Option Addr) (oc vc:Nat) (ds:List DoneR) (b:Nat),e=.returned (.tuple #[.slice oa (zBC E M js).length oc,.slice va (zCO E M js).length vc,.int .i64 0])∧Sl w' oa (zBC E M js).length ds∧Dones w' b ds (zBC E M js)∧Sl w' va (zCO E M js).length (zCO E M js)∧Below w.heap.size w w':=by
 refine (zGe ma pa ea ao mn mc pn pc en ec N cap M E rs js w hm he hj hN hok hT).mono ?_
 rintro e w' ⟨vo,vm,ds,rfl,ho,hD,hM,hb⟩
 have hl:=hD.len
 obtain ⟨oa,oc,rfl,h1,_⟩:=ho.sl
 obtain ⟨va,vc,rfl,h2,_⟩:=hM.sl
 rw [hl] at h1
 rw [hl]
 exact ⟨oa,va,oc,vc,ds,_,rfl,h1,hD,h2,hb⟩
theorem zNW:(Tryz.prog.info? 48).map (fun i=>(i.zero,i.size,i.bytes))=some (some (.agg #[.slice none 0 0,.slice none 0 0,.slice none 0 0,.slice none 0 0]),4,96):=by kernel_rfl
theorem zIj (l:ModsA) (js:JobsA) (w:World) (hl:l.ok w) (hz:l.n*96≤140737488351232) (hj:js.ok w) (hjz:js.n*48≤140737488351232) (he:PEnv w):Calls Tryz.prog 5 #[l.val,js.val] w fun e w'=>e=.returned (.bool true)∧Below w.heap.size w w':=by
 obtain ⟨oa,n,c,rs,ms⟩:=l
 clear hjz
 obtain ⟨ja,jn,jc,jr,jv⟩:=js
 obtain ⟨hm,hmc⟩:=hl
 obtain ⟨hjb,hjc⟩:=hj
 simp only [ModsA.val,JobsA.val] at hm hmc hjb hjc hz ⊢
 have hn:=hm.n
 have WK:=zA (fun W (hb:Below w.heap.size w W)=>zFV W (he.below hb))
 have HE:=zA he
 have HM:=zA hm
 have HJ:=zA hjb
 have HN:=zA hn
 have HZ:=zA hz
 obtain ⟨iz,hi0,hz0,hz1,hz2⟩:=info_parts zNW
 have hnb:n≤1466015503701:=by omega
 clear hm hmc hjb hjc he hn hz
 go_enter Tryz.func5,Tryz.ntmps5
 go_upto_region 3 with (go_at_call 8;((with_reducible refine (WK.out _ (Below.refl _ _)).mono ?_);rintro e w1 ⟨rfl,hb1⟩;have B1:=zA hb1;clear hb1))
 go_upto_region 5 with (fail)
 go_loopw [5,26] (fun s i wr=>∃ (k:Nat) (GR:List ModR),k≤n∧i=.int .i64 k∧FSt w1 ms k s GR wr) (fun _ i _=>n - (intOf i).toNat)
 case atStart=>exact ⟨0,[],Nat.zero_le _,rfl,⟨Own.nil _ _ _,rfl,(fun i r m h=>by simp at h),(fun r hr=>by cases hr),(fun m hm=>by simp at hm),Below.refl _ _⟩⟩
 case round =>
  obtain ⟨k,GR,hk,rfl,hst⟩:=hrel
  obtain ⟨va,vn,vc,rfl⟩:=zZ hst.own
  have HST:=zA hst
  have bw:=zI B1.out hst.bel
  by_cases hlt:k < n
  ·have q0:(0:Int)≤k:=by omega
   have q1:(k:Int) < n:=by omega
   obtain ⟨r,m,hr,hm,hhas⟩:=(HM.out.below bw).get hlt
   obtain ⟨ad,hao,hab,e0,e1,e2,e3⟩:=zDM (HM.out.sl.below bw) hlt hr
   subst hao
   obtain ⟨⟨ra,rn,rc⟩,⟨sa,sn,sc⟩,⟨ta,tn,tc⟩,⟨ia,in_,ic⟩⟩:=r
   simp only at e0 e1 e2 e3
   have HMK:=zA hm
   have HH:=zA hhas
   have BW:=zA bw
   clear hr hm hhas bw hst
   go_upto_region 7 with (refine zAA rfl 48 (.tmp 7) (.tmp 29) rfl rfl #[.slice ra rn rc,.slice sa sn sc,.slice ta tn tc,.slice ia in_ ic] 48 _ rfl (by first | rfl | kernel_rfl) (by kernel_rfl) (by kernel_rfl) (by kernel_rfl) ?_)
   obtain ⟨g7,hg7⟩:∃ g,wr.heap.size=g:=⟨_,rfl⟩
   obtain ⟨w2,hw2⟩:∃ w2,w2=wr.alloc (.cells #[.slice ra rn rc,.slice sa sn sc,.slice ta tn tc,.slice ia in_ ic] 48):=⟨_,rfl⟩
   have m2:Bk w2 g7 48 #[.slice ra rn rc,.slice sa sn sc,.slice ta tn tc,.slice ia in_ ic]:=by rw [hw2,←hg7];exact zM _ _ _
   have b2:Below wr.heap.size wr w2:=by rw [hw2];exact zG (Below.refl _ _) _
   rw [←hw2]
   try rw [hg7]
   have HH2:=zA (HH.out.below b2)
   have M2:=zA m2
   have B2:=zA b2
   obtain ⟨z0,z1,z2,z3⟩:=zT m2
   have zL:=m2.lt
   clear hw2 hg7 m2 b2 e0 e1 e2 e3 hab HH
   by_cases hok:ModOk zR m
   ·have pk:=zJf _ m w2 HH2.out hok
    obtain ⟨S,hS⟩:∃ S:ByteArray,(⟨(zBv m).toArray⟩:ByteArray)=S:=⟨_,rfl⟩
    have hSl:S.data.toList=zBv m:=by rw [←hS]
    rw [hS] at pk
    have PK:=zA pk
    have RD:=zA (fun W=>zKi m hok S hSl W)
    clear pk hS hSl
    go_upto_region 8 with (go_at_call 19;((with_reducible refine (PK.out).mono ?_);rintro e w3 ⟨rfl,hb3⟩;have B3:=zA (zI B2.out hb3);clear hb3))
    go_upto_region 11 with (first
     | (go_at_call 21;((with_reducible refine (RD.out _).mono ?_);rintro e w4 ⟨⟨⟨pa,pn,pc⟩,⟨qa,qn,qc⟩,⟨ua,un,uc⟩,⟨xa,xn,xc⟩⟩,rfl,hr4,hat4,hb4⟩;have HR4:=zA hr4;have HAT:=zA hat4;have B4:=zA hb4;clear hr4 hat4 hb4))
     | (refine zAA rfl 48 (.tmp 10) (.tmp 47) rfl rfl #[.slice pa pn pc,.slice qa qn qc,.slice ua un uc,.slice xa xn xc] 48 _ rfl (by first | rfl | kernel_rfl) (by kernel_rfl) (by kernel_rfl) (by kernel_rfl) ?_))
    obtain ⟨g10,hg10⟩:∃ g,w4.heap.size=g:=⟨_,rfl⟩
    obtain ⟨w5,hw5⟩:∃ w5,w5=w4.alloc (.cells #[.slice pa pn pc,.slice qa qn qc,.slice ua un uc,.slice xa xn xc] 48):=⟨_,rfl⟩
    have m5:Bk w5 g10 48 #[.slice pa pn pc,.slice qa qn qc,.slice ua un uc,.slice xa xn xc]:=by rw [hw5,←hg10];exact zM _ _ _
    have b5:Below w4.heap.size w4 w5:=by rw [hw5];exact zG (Below.refl _ _) _
    rw [←hw5]
    try rw [hg10]
    have b35:=zI B3.out (zI B4.out b5)
    have hgk:=HST.out.len
    have hnz:=HZ.out
    have hsz:=B1.out.size
    have hsz2:=HST.out.bel.size
    have c63:GR.length+1≤maxLen:=by unfold maxLen;omega
    have c47:(GR.length+1)*96≤140737488355328:=by omega
    have hsb:w1.heap.size≤(w5.alloc (.cells #[.slice pa pn pc,.slice qa qn qc,.slice ua un uc,.slice xa xn xc] 48)).heap.size:=by have:=b35.size;rw [World.size_alloc];omega
    have OV:=zA ((HST.out.own.below b35).alloc (.cells #[.slice pa pn pc,.slice qa qn qc,.slice ua un uc,.slice xa xn xc] 48))
    have LIT:=zA (show Sl (w5.alloc (.cells #[.slice pa pn pc,.slice qa qn qc,.slice ua un uc,.slice xa xn xc] 48)) (some ⟨w5.heap.size,0,none⟩) 1 [(⟨⟨pa,pn,pc⟩,⟨qa,qn,qc⟩,⟨ua,un,uc⟩,⟨xa,xn,xc⟩⟩:ModR)] from zAy _ (⟨⟨pa,pn,pc⟩,⟨qa,qn,qc⟩,⟨ua,un,uc⟩,⟨xa,xn,xc⟩⟩:ModR) rfl)
    have C63:=zA c63
    have C47:=zA c47
    have HSB:=zA hsb
    have B5A:=zA (zG b5 (.cells #[.slice pa pn pc,.slice qa qn qc,.slice ua un uc,.slice xa xn xc] 48))
    have HGL:=zA (show GR.length≤ms.length by have:=HN.out;omega)
    obtain ⟨y0,y1,y2,y3⟩:=zT m5
    have yL:=m5.lt
    clear hw5 hg10 m5 b5 b35 hgk hnz hsz hsz2 c63 c47 hsb z0 z1 z2 z3 zL
    go_upto_region 14 with (at_builtin;refine zY rfl (.tmp 51) (.tmp 53) 22 rfl w1.heap.size 48 iz _ 96 Tryz.underlying22 hi0 hz0 hz1 hz2 rfl (.slice va vn vc) GR rfl OV.out (some ⟨w5.heap.size,0,none⟩) 1 1 [(⟨⟨pa,pn,pc⟩,⟨qa,qn,qc⟩,⟨ua,un,uc⟩,⟨xa,xn,xc⟩⟩:ModR)] rfl LIT.out C63.out C47.out HSB.out ?_;intro v8 w8 hown8 hgr8 hat8;have NX:=zA (HST.out.next HMK.out hok HGL.out B3.out B4.out B5A.out HR4.out HAT.out hown8 hgr8 hat8);obtain ⟨na,nn,nc,rfl⟩:=zZ hown8;clear hown8 hgr8 hat8)
    go_wp2
    go_roundw
    case rel=>exact ⟨k+1,_,by omega,by go_num,NX.out⟩
    case measure=>simp [intOf];omega
   ·have pk:=zIb _ m w2 HH2.out hok
    have PK:=zA pk
    clear pk
    go_upto_region 8 with (go_at_call 19;((with_reducible refine (PK.out).mono ?_);rintro e w3 ⟨er,hne,rfl,hb3⟩;have B3:=zA hb3;have HNE:=zA hne;clear hb3 hne))
    have q2:(er != 0)=true:=by simpa using HNE.out
    have MC:=zA (zDR _ m w3 (HH2.out.below B3.out))
    obtain ⟨z0,z1,z2,z3⟩:=zT (zH B3.out M2.out)
    have zL:=(zH B3.out M2.out).lt
    go_wp2_with (go_at_call 20;((with_reducible refine (MC.out).mono ?_);rintro e w4 ⟨er2,rfl,hiff,hb4⟩;have q9:(er2 != 0)=true:=bne_iff_ne.2 (fun h=>hok (hiff.1 h));have B4:=zA (zI BW.out (zI B2.out (zI B3.out hb4)));clear hb4 hiff))
    go_ret
    first
     | exact ⟨rfl,B4.out⟩
     | exact ⟨by rw [q9],B4.out⟩
  ·have q1:¬((k:Int) < n):=by omega
   obtain rfl:n=k:=by omega
   have hall:∀ m∈ms,ModOk zR m:=fun m hm=>hst.ok m (by rw [←HN.out,List.take_length];exact hm)
   have hmg:Mods wr va n GR ms∧vn=n:=by
    obtain ⟨ao,cap,e,hs,_⟩:=hst.own.sl
    injection e with e1 e2 e3
    rw [hst.len] at hs e2
    subst e1
    exact ⟨⟨hs,by rw [hst.len,HN.out],hst.has⟩,e2⟩
   obtain ⟨hmg,rfl⟩:=hmg
   have hm0:=HM.out.below bw
   have HJ0:=zA (HJ.out.below bw)
   have TB:=zA (fun W (hb:Below wr.heap.size wr W)=>(HE.out.below (zI bw hb)).asc)
   have BW:=zA bw
   clear hst HST bw
   by_cases hlo:LinkOk zR ms
   ·have L1:=zA (zHF oa vn c rs ms wr hm0 hlo)
    have LK2:=zA (fun W (hb:Below wr.heap.size wr W)=>zHF va vn vc GR ms W (hmg.below hb) hlo)
    have him:=hlo.im_ok
    obtain ⟨M,hM⟩:∃ M,zAK ms=M:=⟨_,rfl⟩
    obtain ⟨PL,hPL⟩:∃ P,zBE 0 0 ms=P:=⟨_,rfl⟩
    obtain ⟨En,hEn⟩:∃ E,zU 0 0 ms=E:=⟨_,rfl⟩
    have l1:=L1.out
    rw [hM,hPL,hEn] at l1
    have lk2:=LK2.out
    rw [hM,hPL,hEn] at lk2
    rw [hM,hEn] at him
    clear L1 LK2
    have L1:=zA l1
    have LK2:=zA lk2
    have HIM:=zA him
    clear l1 lk2 him hM hPL hEn hm0 hmg hlo hall
    go_upto_region 16 with (first
     | (go_at_call 7;((with_reducible refine (L1.out).mono ?_);rintro e w4 ⟨ma,mn,mc,la,ln,lc,ea,en,ec,rfl,hm4,hp4,he4,hb4⟩;have HM4:=zA hm4;have HP4:=zA hp4;have HE4:=zA he4;have B4:=zA hb4;clear hm4 hp4 he4 hb4))
     | (refine zAA rfl 28 (.tmp 12) (.tmp 59) rfl rfl #[.slice ma mn mc,.slice la ln lc,.slice ea en ec] 28 _ rfl (by first | rfl | kernel_rfl) (by kernel_rfl) (by kernel_rfl) (by kernel_rfl) ?_))
    obtain ⟨g12,hg12⟩:∃ g,w4.heap.size=g:=⟨_,rfl⟩
    obtain ⟨w5,hw5⟩:∃ w5,w5=w4.alloc (.cells #[.slice ma mn mc,.slice la ln lc,.slice ea en ec] 28):=⟨_,rfl⟩
    have m5:Bk w5 g12 28 #[.slice ma mn mc,.slice la ln lc,.slice ea en ec]:=by rw [hw5,←hg12];exact zM _ _ _
    have b45:Below w4.heap.size w4 w5:=by rw [hw5];exact zG (Below.refl _ _) _
    rw [←hw5]
    try rw [hg12]
    have I5:=zA m5
    have B5:=zA (zI B4.out b45)
    have L2:=zA (LK2.out _ (zI B4.out b45))
    have HM5:=zA (HM4.out.below b45)
    have HP5:=zA (HP4.out.below b45)
    have HE5:=zA (HE4.out.below b45)
    clear hw5 hg12 m5 LK2 L1 b45
    go_upto_region 17 with (first
     | (go_at_call 7;((with_reducible refine (L2.out).mono ?_);rintro e w6 ⟨ma2,mn2,mc2,la2,ln2,lc2,ea2,en2,ec2,rfl,hm6,hp6,he6,hb6⟩;have HM6:=zA hm6;have HP6:=zA hp6;have HE6:=zA he6;have B6:=zA (zI B5.out hb6);have I6:=zA (zH hb6 I5.out);have HM6a:=zA (HM5.out.below hb6);have HP6a:=zA (HP5.out.below hb6);have HE6a:=zA (HE5.out.below hb6);clear hm6 hp6 he6 hb6))
     | (refine zAA rfl 28 (.tmp 14) (.tmp 64) rfl rfl #[.slice ma2 mn2 mc2,.slice la2 ln2 lc2,.slice ea2 en2 ec2] 28 _ rfl (by first | rfl | kernel_rfl) (by kernel_rfl) (by kernel_rfl) (by kernel_rfl) ?_))
    obtain ⟨g14,hg14⟩:∃ g,w6.heap.size=g:=⟨_,rfl⟩
    obtain ⟨w7,hw7⟩:∃ w7,w7=w6.alloc (.cells #[.slice ma2 mn2 mc2,.slice la2 ln2 lc2,.slice ea2 en2 ec2] 28):=⟨_,rfl⟩
    have m7:Bk w7 g14 28 #[.slice ma2 mn2 mc2,.slice la2 ln2 lc2,.slice ea2 en2 ec2]:=by rw [hw7,←hg14];exact zM _ _ _
    have b67:Below w6.heap.size w6 w7:=by rw [hw7];exact zG (Below.refl _ _) _
    rw [←hw7]
    try rw [hg14]
    have J7:=zA m7
    have I7:=zA (zH b67 I6.out)
    have B7:=zA (zI B6.out b67)
    obtain ⟨i0,i1,i2⟩:=zAB I7.out
    have iL:=I7.out.lt
    obtain ⟨j0,j1,j2⟩:=zAB J7.out
    have jL:=J7.out.lt
    have hm7:=HM6a.out.below b67
    have hp7:=HP6a.out.below b67
    have he7:=HE6a.out.below b67
    have hm7b:=HM6.out.below b67
    have hp7b:=HP6.out.below b67
    have he7b:=HE6.out.below b67
    clear hw7 hg14 m7 L2 I5 b67
    obtain rfl:ln2=ln:=by have h1:=hp7.len;have h2:=hp7b.len;omega
    obtain rfl:en2=en:=by have h1:=he7.len;have h2:=he7b.len;omega
    have ev:=fun W (hb:Below w7.heap.size w7 W)=>zJm ma ma2 mn mn2 mc mc2 M M W (hm7.below hb) (hm7b.below hb)
    simp only [decide_true] at ev
    have EV:=zA ev
    have EP:=zA (fun W (hb:Below w7.heap.size w7 W)=>zIe la la2 ln2 lc lc2 PL W (hp7.below hb) (hp7b.below hb))
    have EE:=zA (fun W (hb:Below w7.heap.size w7 W)=>zIf ea ea2 en2 ec ec2 En W (he7.below hb) (he7b.below hb))
    have S1:=zA hm7
    have S2:=zA hm7b
    have S3:=zA he7
    have S4:=zA he7b
    clear ev hm7 hp7 he7 hm7b hp7b he7b
    go_upto_region 19 with (first
     | (go_at_call 22;((with_reducible refine (EV.out _ (Below.refl _ _)).mono ?_);rintro e w8 ⟨rfl,hb8⟩;have B8:=zA hb8;obtain ⟨i0,i1,i2⟩:=zAB (zH hb8 I7.out);have iL:=(zH hb8 I7.out).lt;obtain ⟨j0,j1,j2⟩:=zAB (zH hb8 J7.out);have jL:=(zH hb8 J7.out).lt;clear hb8))
     | (go_at_call 23;((with_reducible refine (EP.out _ B8.out).mono ?_);rintro e w9 ⟨rfl,hb9⟩;have B9:=zA (zI B8.out hb9);obtain ⟨i0,i1,i2⟩:=zAB (zH (zI B8.out hb9) I7.out);have iL:=(zH (zI B8.out hb9) I7.out).lt;obtain ⟨j0,j1,j2⟩:=zAB (zH (zI B8.out hb9) J7.out);have jL:=(zH (zI B8.out hb9) J7.out).lt;clear hb9))
     | (go_at_call 24;((with_reducible refine (EE.out _ B9.out).mono ?_);rintro e w10 ⟨rfl,hb10⟩;have B10:=zA (zI B9.out hb10);clear hb10)))
    clear i0 i1 i2 iL j0 j1 j2 jL
    have BX:=zA (zI BW.out (zI B7.out B10.out))
    by_cases h60:60 < jn
    ·have q2:(60:Int) < jn:=by omega
     go_wp2
     go_ret
     exact ⟨rfl,BX.out⟩
    ·have q2:¬((60:Int) < jn):=by omega
     have bj:=zI B7.out B10.out
     have PA:=zA (fun W (hb:Below w10.heap.size w10 W)=>zMp ma la ea ja mn mc ln2 lc en2 ec jn jc M En jr jv W (S1.out.below (zI B10.out hb)) (S3.out.below (zI B10.out hb)) (HJ0.out.below (zI bj hb)) (by omega) HIM.out (TB.out _ (zI bj hb)))
     have PB:=zA (fun W (hb:Below w10.heap.size w10 W)=>zMp ma2 la2 ea2 ja mn2 mc2 ln2 lc2 en2 ec2 jn jc M En jr jv W (S2.out.below (zI B10.out hb)) (S4.out.below (zI B10.out hb)) (HJ0.out.below (zI bj hb)) (by omega) HIM.out (TB.out _ (zI bj hb)))
     have I10:=zA (zH B10.out I7.out)
     have J10:=zA (zH B10.out J7.out)
     obtain ⟨i0,i1,i2⟩:=zAB I10.out
     have iL:=I10.out.lt
     obtain ⟨DS,hDS⟩:∃ D,zBC En M jv=D:=⟨_,rfl⟩
     obtain ⟨MK,hMK⟩:∃ D,zCO En M jv=D:=⟨_,rfl⟩
     have pa_:=PA.out
     have pb_:=PB.out
     rw [hDS,hMK] at pa_ pb_
     clear PA PB
     have PA:=zA pa_
     have PB:=zA pb_
     clear pa_ pb_ hDS hMK bj
     go_upto_region 22 with (go_at_call 9;((with_reducible refine (PA.out _ (Below.refl _ _)).mono ?_);rintro e w11 ⟨o1,v1,p1,p2,d1,b1_,rfl,hs1,hd1,hv1,hb11⟩;have HS1:=zA hs1;have HD1:=zA hd1;have HV1:=zA hv1;have B11:=zA hb11;clear hs1 hd1 hv1 hb11))
     clear i0 i1 i2 iL
     obtain ⟨j0,j1,j2⟩:=zAB (zH B11.out J10.out)
     have jL:=(zH B11.out J10.out).lt
     go_upto_region 23 with (go_at_call 9;((with_reducible refine (PB.out _ B11.out).mono ?_);rintro e w12 ⟨o2,v2,p3,p4,d2,b2_,rfl,hs2,hd2,hv2,hb12⟩;have HS2:=zA hs2;have HD2:=zA hd2;have HV2:=zA hv2;have HS1b:=zA (HS1.out.below hb12);have HD1b:=zA (HD1.out.below hb12);have HV1b:=zA (HV1.out.below hb12);have B12:=zA (zI B11.out hb12);clear hs2 hd2 hv2 hb12))
     clear j0 j1 j2 jL
     have DE:=zA (zL6 o1 o2 DS.length p1 p3 d1 d2 DS b1_ b2_ w12 HS1b.out HS2.out HD1b.out HD2.out)
     have ev2:=fun W (hb:Below w12.heap.size w12 W)=>zJm v1 v2 MK.length MK.length p2 p4 MK MK W (HV1b.out.below hb) (HV2.out.below hb)
     simp only [decide_true] at ev2
     have EV2:=zA ev2
     clear ev2
     go_wp2_with (first
      | (go_at_call 25;((with_reducible refine (DE.out).mono ?_);rintro e w13 ⟨rfl,hb13⟩;have B13:=zA hb13;clear hb13))
      | (go_at_call 22;((with_reducible refine (EV2.out _ B13.out).mono ?_);rintro e w14 ⟨rfl,hb14⟩;have B14:=zA (zI BX.out (zI B12.out (zI B13.out hb14)));clear hb14)))
     go_ret
     exact ⟨rfl,B14.out⟩
   ·have L1:=zA (zFo oa vn c rs ms wr hm0 hlo)
    have LK2:=zA (fun W (hb:Below wr.heap.size wr W)=>zFo va vn vc GR ms W (hmg.below hb) hlo)
    have HALL:=zA hall
    clear hm0 hmg hlo hall
    go_upto_region 16 with (first
     | (go_at_call 7;((with_reducible refine (L1.out).mono ?_);rintro e w4 ⟨er,hne,rfl,hwhy,hb4⟩;have HNE:=zA hne;have HW1_:=zA hwhy;have B4:=zA hb4;clear hne hwhy hb4))
     | (refine zAA rfl 28 (.tmp 12) (.tmp 59) rfl rfl #[.slice none 0 0,.slice none 0 0,.slice none 0 0] 28 _ rfl (by first | rfl | kernel_rfl) (by kernel_rfl) (by kernel_rfl) (by kernel_rfl) ?_))
    obtain ⟨g12,hg12⟩:∃ g,w4.heap.size=g:=⟨_,rfl⟩
    obtain ⟨w5,hw5⟩:∃ w5,w5=w4.alloc (.cells #[.slice none 0 0,.slice none 0 0,.slice none 0 0] 28):=⟨_,rfl⟩
    have m5:Bk w5 g12 28 #[.slice none 0 0,.slice none 0 0,.slice none 0 0]:=by rw [hw5,←hg12];exact zM _ _ _
    have b45:Below w4.heap.size w4 w5:=by rw [hw5];exact zG (Below.refl _ _) _
    rw [←hw5]
    try rw [hg12]
    have I5:=zA m5
    have B5:=zA (zI B4.out b45)
    have L2:=zA (LK2.out _ (zI B4.out b45))
    clear hw5 hg12 m5 LK2 L1 b45
    go_upto_region 17 with (first
     | (go_at_call 7;((with_reducible refine (L2.out).mono ?_);rintro e w6 ⟨er2,hne2,rfl,hwhy2,hb6⟩;have HW2_:=zA hwhy2;have B6:=zA (zI B5.out hb6);have I6:=zA (zH hb6 I5.out);clear hne2 hwhy2 hb6))
     | (refine zAA rfl 28 (.tmp 14) (.tmp 64) rfl rfl #[.slice none 0 0,.slice none 0 0,.slice none 0 0] 28 _ rfl (by first | rfl | kernel_rfl) (by kernel_rfl) (by kernel_rfl) (by kernel_rfl) ?_))
    obtain ⟨g14,hg14⟩:∃ g,w6.heap.size=g:=⟨_,rfl⟩
    obtain ⟨w7,hw7⟩:∃ w7,w7=w6.alloc (.cells #[.slice none 0 0,.slice none 0 0,.slice none 0 0] 28):=⟨_,rfl⟩
    have m7:Bk w7 g14 28 #[.slice none 0 0,.slice none 0 0,.slice none 0 0]:=by rw [hw7,←hg14];exact zM _ _ _
    have b67:Below w6.heap.size w6 w7:=by rw [hw7];exact zG (Below.refl _ _) _
    rw [←hw7]
    try rw [hg14]
    have J7:=zA m7
    have I7:=zA (zH b67 I6.out)
    have B7:=zA (zI B6.out b67)
    obtain ⟨i0,i1,i2⟩:=zAB I7.out
    have iL:=I7.out.lt
    obtain ⟨j0,j1,j2⟩:=zAB J7.out
    have jL:=J7.out.lt
    clear hw7 hg14 m7 L2 I5 b67
    obtain rfl:er2=er:=LinkWhy.one (HW2_.out HALL.out) (HW1_.out HALL.out)
    have q2:(er2 != er2)=false:=by simp
    have q3:(er2 != 0)=true:=by simpa using HNE.out
    have ev:=fun W (hb:Below w7.heap.size w7 W)=>zJm none none 0 0 0 0 [] [] W (Sl.nil _ _) (Sl.nil _ _)
    simp only [decide_true] at ev
    have EV:=zA ev
    have EP:=zA (fun W (hb:Below w7.heap.size w7 W)=>zIe none none 0 0 0 [] W (Sl.nil _ _) (Sl.nil _ _))
    have EE:=zA (fun W (hb:Below w7.heap.size w7 W)=>zIf none none 0 0 0 [] W (Sl.nil _ _) (Sl.nil _ _))
    clear ev
    go_upto_region 19 with (first
     | (go_at_call 22;((with_reducible refine (EV.out _ (Below.refl _ _)).mono ?_);rintro e w8 ⟨rfl,hb8⟩;have B8:=zA hb8;obtain ⟨i0,i1,i2⟩:=zAB (zH hb8 I7.out);have iL:=(zH hb8 I7.out).lt;obtain ⟨j0,j1,j2⟩:=zAB (zH hb8 J7.out);have jL:=(zH hb8 J7.out).lt;clear hb8))
     | (go_at_call 23;((with_reducible refine (EP.out _ B8.out).mono ?_);rintro e w9 ⟨rfl,hb9⟩;have B9:=zA (zI B8.out hb9);obtain ⟨i0,i1,i2⟩:=zAB (zH (zI B8.out hb9) I7.out);have iL:=(zH (zI B8.out hb9) I7.out).lt;obtain ⟨j0,j1,j2⟩:=zAB (zH (zI B8.out hb9) J7.out);have jL:=(zH (zI B8.out hb9) J7.out).lt;clear hb9))
     | (go_at_call 24;((with_reducible refine (EE.out _ B9.out).mono ?_);rintro e w10 ⟨rfl,hb10⟩;have B10:=zA (zI B9.out hb10);clear hb10)))
    have BX:=zA (zI BW.out (zI B7.out B10.out))
    go_wp2
    go_ret
    exact ⟨rfl,BX.out⟩
end Go.Proofs.YtlpejagkadalbaaGreatDoor
