import Derived.Test.YtlpejagkadalbaaGreatDoorQk51
import Derived.Test.YtlpejagkadalbaaGreatDoorQk44
set_option maxHeartbeats 40000000
set_option maxRecDepth 100000
set_option linter.unusedVariables false
set_option linter.unusedSimpArgs false
namespace Go.Proofs.YtlpejagkadalbaaGreatDoor
open El (cl)
open Go Go.RowKit Go.Shelf
theorem zIU {w:World} {r:JobR} {x:JobV} (h:r.has w x):Jobs (w.alloc (.cells #[.string r.name,.slice r.args.a r.args.n r.args.c,.int .i64 r.fuel] 38)) (some ⟨w.heap.size,0,none⟩) 1 [r] [x]:=by
 refine ⟨zAy _ r rfl,rfl,fun i r' x' h1 h2=>?_⟩
 have hi:i=0:=by
  have:=(List.getElem?_eq_some_iff.1 h1).1
  simp at this
  exact this
 subst hi
 simp at h1 h2
 subst h1 h2
 exact h.below (zG (Below.refl _ _) _)
structure SubJ (w:World) (br:List JobR) (bs:List JobV):Prop where
 len:br.length=bs.length
 at_:∀ (i:Nat) (r:JobR) (x:JobV),br[i]?=some r→bs[i]?=some x→r.has w x
theorem SubJ.nil (w:World):SubJ w [] []:=⟨rfl,fun i r x h=>by simp at h⟩
theorem SubJ.snoc {w:World} {br:List JobR} {bs:List JobV} {r:JobR} {x:JobV} (h:SubJ w br bs) (hx:r.has w x):SubJ w (br++[r]) (bs++[x]):=by
 refine ⟨by rw [List.length_append,List.length_append,h.len];rfl,fun i r' x' h1 h2=>?_⟩
 have hl:=h.len
 rcases Nat.lt_or_ge i br.length with hi | hi
 ·rw [List.getElem?_append_left hi] at h1
  rw [List.getElem?_append_left (by omega)] at h2
  exact h.at_ i r' x' h1 h2
 ·rw [List.getElem?_append_right hi] at h1
  rw [List.getElem?_append_right (by omega)] at h2
  have h0:i - br.length=0:=by
   have:=(List.getElem?_eq_some_iff.1 h1).1
   simp at this
   omega
  rw [h0] at h1
  rw [show i - bs.length=0 by omega] at h2
  simp at h1 h2
  subst h1 h2
  exact hx
theorem SubJ.jobs {w W:World} {br:List JobR} {bs:List JobV} {a:Option Addr} {n:Nat} (h:SubJ w br bs) (hb:Below w.heap.size w W) (hs:Sl W a n br):Jobs W a n br bs:=⟨hs,h.len,fun i r x h1 h2=>(h.at_ i r x h1 h2).below hb⟩
theorem zNN (ms:List ModV) (W:World) (ga:Option Addr) (n c:Nat) (rs:List ModR) (h:Mods W ga n rs ms):Calls Tryz.prog 7 #[.slice ga n c] W fun e w'=>∃ ma mn mc pa pn pc ea en ec er,e=.returned (.tuple #[.agg #[.slice ma mn mc,.slice pa pn pc,.slice ea en ec],.int .i64 er])∧(er=0→LinkOk zR ms∧Sl w' ma mn (zAK ms)∧Sl w' ea en (zU 0 0 ms))∧Below W.heap.size W w':=by
 by_cases hok:LinkOk zR ms
 ·refine (zEj ga n c rs ms W h hok).mono ?_
  rintro e w' ⟨vm,vp,ve,rfl,hm,hp,he,hb⟩
  obtain ⟨ma,mc,rfl,h1,_⟩:=hm.sl
  obtain ⟨pa,pc,rfl,h2,_⟩:=hp.sl
  obtain ⟨ea,ec,rfl,h3,_⟩:=he.sl
  exact ⟨_,_,_,_,_,_,_,_,_,0,rfl,fun _=>⟨hok,h1,h3⟩,hb⟩
 ·refine (zJW ga n c rs ms W h hok).mono ?_
  rintro e w' ⟨er,hne,rfl,hb⟩
  exact ⟨_,_,_,_,_,_,_,_,_,er,rfl,fun h=>absurd h hne,hb⟩
theorem zQs (ma pa ea ao:Option Addr) (mn mc pn pc en ec N cap:Nat) (M:List ValV) (E:List EntryV) (rs:List JobR) (js:List JobV) (w:World) (hm:Sl w ma mn M) (he:Sl w ea en E) (hj:Jobs w ao N rs js) (hN:N≤60) (hok:ImOk M E) (hT:Tab w) :
  Calls Tryz.prog 9 #[.agg #[.slice ma mn mc,.slice pa pn pc,.slice ea en ec],.slice ao N cap] w fun e w'=>∃ (oa:Option Addr) (oc:Nat) (vm:Value) (ds:List DoneR) (b:Nat),e=.returned (.tuple #[.slice oa N oc,vm,.int .i64 0])∧Sl w' oa N ds∧Dones w' b ds (zBC E M js)∧Below w.heap.size w w':=by
 refine (zGe ma pa ea ao mn mc pn pc en ec N cap M E rs js w hm he hj hN hok hT).mono ?_
 rintro e w' ⟨vo,vm,ds,rfl,ho,hD,hM,hb⟩
 have hl:=hD.len
 rw [zDe,hj.n] at hl
 obtain ⟨oa,oc,rfl,h1,_⟩:=ho.sl
 rw [hl] at h1
 rw [hl]
 exact ⟨oa,oc,vm,ds,_,rfl,h1,hD,hb⟩
def zMT (ms:List ModV) (L:List Int) (x:JobV):Prop:=∃ T:List Int,zC7 ms (fun n=>(n:Int)∈T)∧OwnIn ms T x∧∀ u∈T,u∉L
theorem zMQ {ms:List ModV} (h:LinkOk zR ms) {L LB:List Int} {js bs:List JobV} {k:Nat} {x:JobV} (hx:js[k]?=some x) (hL:zC7 ms (fun n=>(n:Int)∈L)) (hO:OwnIn ms L x) (hs:Split (zMT ms L) (js.take k) bs) (hB:∀ z∈bs,OwnIn ms LB z) (hc:∀ u∈LB,u∈L) :
  ∃ z,(zBC (zU 0 0 ms) (zAK ms) (bs++[x]))[bs.length]?=some z∧(zBC (zU 0 0 ms) (zAK ms) js)[k]?=some z:=by
 have law:=zN2 (ms:=ms) (S:=fun n=>(n:Int)∈L) (T:=fun n=>∃ T:List Int,zC7 ms (fun n=>(n:Int)∈T)∧(n:Int)∈T∧∀ u∈T,u∉L) h hL (by
  rintro n m y n' m' y' ⟨T,t1,t2,t3⟩ h1 h2 h3 h4 h5
  exact ⟨T,t1,t1 n m y n' m' y' t2 h1 h2 h3 h4 h5,t3⟩) (by
  rintro n hn ⟨T,_,t2,t3⟩
  exact t3 _ t2 hn) (P:=zMT ms L) (by
  rintro z ⟨T,t1,t2,t3⟩ n m y h1 h2 h3
  exact ⟨T,t1,t2 n m y h1 h2 h3,t3⟩) hs (fun z hz n m y h1 h2 h3=>hc _ (hB z hz n m y h1 h2 h3)) (x:=x) (fun n m y h1 h2 h3=>hO n m y h1 h2 h3)
 refine ⟨_,?_,zFw hx⟩
 rw [←law]
 have h2:=zFw (E:=zU 0 0 ms) (js:=bs++[x]) (M:=zAK ms) (k:=bs.length) (j:=x) (by rw [List.getElem?_append_right (Nat.le_refl _),Nat.sub_self];rfl)
 rw [List.take_left] at h2
 exact h2
theorem zIW:(Tryz.prog.info? 38).map (fun i=>(i.zero,i.size,i.bytes))=some (some (.agg #[.string ByteArray.empty,.slice none 0 0,.int .i64 0]),3,48):=by kernel_rfl
theorem zIk (l:ModsA) (js:JobsA) (w:World) (hl:l.ok w) (hj:js.ok w) (he:PEnv w):Calls Tryz.prog 3 #[l.val,js.val] w fun e w'=>e=.returned (.bool true)∧Below w.heap.size w w':=by
 obtain ⟨oa,n,c,rs,ms⟩:=l
 obtain ⟨ja,jn,jc,jr,jv⟩:=js
 obtain ⟨hm,hmc⟩:=hl
 obtain ⟨hjb,hjc⟩:=hj
 simp only [ModsA.val,JobsA.val] at hm hmc hjb hjc ⊢
 have L1:=zA (zNN ms w oa n c rs hm)
 have WK:=zA (fun W (hb:Below w.heap.size w W)=>zFV W (he.below hb))
 have HE:=zA he
 have HM:=zA hm
 have HJ:=zA hjb
 have HJL:=zA hjb.n
 clear hm hmc hjb he
 go_enter Tryz.func3,Tryz.ntmps3
 go_upto_region 2 with (first
  | (go_at_call 7;((with_reducible refine (L1.out).mono ?_);rintro e w1 ⟨ma,mn,mc,la,ln,lc,ea,en,ec,er,rfl,himp,hb1⟩;have HIM:=zA himp;have HB1:=zA hb1;clear himp hb1))
  | (refine zAA rfl 28 (.tmp 5) (.tmp 27) rfl rfl #[.slice ma mn mc,.slice la ln lc,.slice ea en ec] 28 _ rfl (by first | rfl | kernel_rfl) (by kernel_rfl) (by kernel_rfl) (by kernel_rfl) ?_))
 obtain ⟨g5,hg5⟩:∃ g,w1.heap.size=g:=⟨_,rfl⟩
 obtain ⟨w2,hw2⟩:∃ w2,w2=w1.alloc (.cells #[.slice ma mn mc,.slice la ln lc,.slice ea en ec] 28):=⟨_,rfl⟩
 have m2:Bk w2 g5 28 #[.slice ma mn mc,.slice la ln lc,.slice ea en ec]:=by rw [hw2,←hg5];exact zM _ _ _
 have b12:Below w1.heap.size w1 w2:=by rw [hw2];exact zG (Below.refl _ _) _
 rw [←hw2]
 try rw [hg5]
 have HB2:=zA (zI HB1.out b12)
 have M2:=zA m2
 have B12:=zA b12
 clear hw2 hg5 m2 b12 L1
 go_upto_region 4 with (go_at_call 8;((with_reducible refine (WK.out _ HB2.out).mono ?_);rintro e w3 ⟨rfl,hb3⟩;have HB3:=zA (zI HB2.out hb3);have M3:=zA (zH hb3 M2.out);have B13:=zA (zI B12.out hb3);clear hb3))
 by_cases her:er=0
 ·subst her
  by_cases h60:60 < jn
  ·have q1:(60:Int) < jn:=by omega
   go_wp2
   go_ret
   exact ⟨rfl,HB3.out⟩
  ·have q1:¬((60:Int) < jn):=by omega
   obtain ⟨lok,hm1,he1⟩:=HIM.out rfl
   have him:=lok.im_ok
   have hdone:=fun (L LB:List Int) (bs:List JobV) (k:Nat) (x:JobV)=>zMQ lok (L:=L) (LB:=LB) (js:=jv) (bs:=bs) (k:=k) (x:=x)
   obtain ⟨M,hM⟩:∃ M,zAK ms=M:=⟨_,rfl⟩
   obtain ⟨En,hEn⟩:∃ E,zU 0 0 ms=E:=⟨_,rfl⟩
   rw [hM] at hm1
   rw [hEn] at he1
   rw [hM,hEn] at him
   rw [hM,hEn] at hdone
   have SM:=zA (hm1.below B13.out)
   have SE:=zA (he1.below B13.out)
   have HIO:=zA him
   have LOK:=zA lok
   have HD:=zA hdone
   have PA:=zA (fun W (hb:Below w3.heap.size w3 W) ao N cap (br:List JobR) (bs:List JobV) (hJ:Jobs W ao N br bs) (hN:N≤60)=>zQs ma la ea ao mn mc ln lc en ec N cap M En br bs W (SM.out.below hb) (SE.out.below hb) hJ hN HIO.out (HE.out.below (zI HB3.out hb)).asc)
   have TC:=zA (fun W (hb:Below w.heap.size w W) ao N cap (br:List JobR) (bs:List JobV) (hJ:Jobs W ao N br bs)=>zKB oa ao n c N cap rs ms br bs W (HM.out.below hb) hJ LOK.out)
   obtain ⟨i0,i1,i2⟩:=zAB M3.out
   have iL:=M3.out.lt
   clear lok hm1 he1 him hdone hM hEn HIM
   go_upto_region 7 with (go_at_call 9;((with_reducible refine (PA.out _ (Below.refl _ _) ja jn jc jr jv (HJ.out.below HB3.out) (by omega)).mono ?_);rintro e w6 ⟨o6,c6,v6,d6,b6_,rfl,hs6,hd6,hb6⟩;have HS6:=zA hs6;have HD6:=zA hd6;have B36:=zA hb6;have HB6:=zA (zI HB3.out hb6);have M6:=zA (zH hb6 M3.out);clear hs6 hd6 hb6))
   clear i0 i1 i2 iL
   go_upto_region 10 with (fail)
   go_loopw [56] (fun i wr=>∃ k:Nat,k≤jn∧i=.int .i64 k∧Below w6.heap.size w6 wr) (fun i _=>jn - (intOf i).toNat)
   case atStart=>exact ⟨0,Nat.zero_le _,rfl,Below.refl _ _⟩
   case round =>
    obtain ⟨k,hk,rfl,hb⟩:=hrel
    have HB:=zA hb
    have hbw:=zI HB6.out hb
    by_cases hlt:k < jn
    ·have q2:(0:Int)≤k:=by omega
     have q3:(k:Int) < jn:=by omega
     have q4:(k:Int)≤jc:=by omega
     have q5:k≤jc:=by omega
     obtain ⟨r,x,hr,hx,hhas⟩:=HJ.out.get hlt
     obtain ⟨jd,hjo,hjb,e0,e1,e2⟩:=zF5 (HJ.out.sl.below hbw) hlt hr
     obtain ⟨s,⟨aa,an,ac⟩,fu⟩:=r
     simp only at e0 e1 e2
     have HXK:=zA hx
     have HHX:=zA hhas
     have HBW:=zA hbw
     clear hr hx hhas hb hbw
     have HJO:=zA hjo
     have HJS:=zA HJ.out.sl
     subst hjo
     go_upto_region 12 with (refine zAA rfl 38 (.tmp 11) (.tmp 60) rfl rfl #[.string s,.slice aa an ac,.int .i64 fu] 38 _ rfl (by first | rfl | kernel_rfl) (by kernel_rfl) (by kernel_rfl) (by kernel_rfl) ?_)
     obtain ⟨g11,hg11⟩:∃ g,wr.heap.size=g:=⟨_,rfl⟩
     obtain ⟨w7,hw7⟩:∃ w7,w7=wr.alloc (.cells #[.string s,.slice aa an ac,.int .i64 fu] 38):=⟨_,rfl⟩
     have m7:Bk w7 g11 38 #[.string s,.slice aa an ac,.int .i64 fu]:=by rw [hw7,←hg11];exact zM _ _ _
     have b7:Below wr.heap.size wr w7:=by rw [hw7];exact zG (Below.refl _ _) _
     rw [←hw7]
     try rw [hg11]
     have BW7:=zA (zI HBW.out b7)
     have B67:=zA (zI HB.out b7)
     have M7:=zA m7
     obtain ⟨z0,z1,z2⟩:=zAB m7
     have zL:=m7.lt
     have JO:=zA (zIU (HHX.out.below BW7.out))
     clear hw7 hg11 m7 b7 e0 e1 e2 hjb
     go_upto_region 13 with (go_at_call 10;((with_reducible refine (TC.out _ (zG BW7.out _) _ 1 1 _ _ JO.out).mono ?_);rintro e w8 ⟨v12,L,rfl,hol,hts,hcl,how,hb8⟩;obtain ⟨ta,tn,tc,rfl⟩:=zZ hol;have HOL:=zA hol;have HCL:=zA hcl;have HOX:=zA (how x (by simp));have B78:=zA (zI (zG (Below.refl w7.heap.size w7) _) hb8);clear hol hts hcl how hb8))
     clear z0 z1 z2 zL
     have M8:=zA (zH B78.out M7.out)
     have BW8:=zA (zI BW7.out B78.out)
     have B68:=zA (zI B67.out B78.out)
     have HLS:=zA (zCS HOL.out)
     clear HOL M7 BW7 B67 B78 JO HB HBW
     go_upto_region 15 with (fail)
     go_loopw [13,69] (fun v i wr=>∃ (t:Nat) (bs:List JobV) (br:List JobR),t≤k∧i=.int .i64 t∧Own wr w8.heap.size 38 v br∧SubJ w br bs∧Split (zMT ms L) (jv.take t) bs∧bs.length≤t∧Below w8.heap.size w8 wr) (fun _ i _=>k - (intOf i).toNat)
     case atStart=>exact ⟨0,[],[],Nat.zero_le _,rfl,Own.nil _ _ _,SubJ.nil w,(by rw [List.take_zero];exact Split.nil),Nat.le_refl _,Below.refl _ _⟩
     case round =>
      obtain ⟨t,bs,br,ht,rfl,ho,hsj,hsp,hbl,hb⟩:=hrel
      obtain ⟨va,vn,vc,rfl⟩:=zZ ho
      have HO:=zA ho
      have HSJ:=zA hsj
      have HSPL:=zA hsp
      have HB:=zA hb
      have HBL:=zA hbl
      by_cases hlt2:t < k
      ·have p1:(0:Int)≤t:=by omega
       have p2:(t:Int) < k:=by omega
       obtain ⟨r2,x2,hr2,hx2,hhas2⟩:=HJ.out.get (show t < jn by omega)
       obtain ⟨jd2,hjo2,hjb2,f0,f1,f2⟩:=zF5 (HJS.out.below (zI BW8.out hb)) (show t < jn by omega) hr2
       injection hjo2 with hjo2
       subst hjo2
       have HRW:=zA (show r2.has w x2 from hhas2)
       obtain ⟨s2,⟨ba,bn,bc⟩,fu2⟩:=r2
       simp only at f0 f1 f2
       have HX2:=zA hx2
       clear hr2 hx2 hhas2 ho hsj hsp hb hbl
       go_upto_region 17 with (refine zAA rfl 38 (.tmp 15) (.tmp 72) rfl rfl #[.string s2,.slice ba bn bc,.int .i64 fu2] 38 _ rfl (by first | rfl | kernel_rfl) (by kernel_rfl) (by kernel_rfl) (by kernel_rfl) ?_)
       obtain ⟨g15,hg15⟩:∃ g,wr.heap.size=g:=⟨_,rfl⟩
       obtain ⟨w9,hw9⟩:∃ w9,w9=wr.alloc (.cells #[.string s2,.slice ba bn bc,.int .i64 fu2] 38):=⟨_,rfl⟩
       have m9:Bk w9 g15 38 #[.string s2,.slice ba bn bc,.int .i64 fu2]:=by rw [hw9,←hg15];exact zM _ _ _
       have b9:Below wr.heap.size wr w9:=by rw [hw9];exact zG (Below.refl _ _) _
       rw [←hw9]
       try rw [hg15]
       have B89:=zA (zI HB.out b9)
       have HO9:=zA (HO.out.below b9)
       have M9:=zA m9
       obtain ⟨z0,z1,z2⟩:=zAB m9
       have zL:=m9.lt
       have JO:=zA (zIU (HRW.out.below (zI BW8.out B89.out)))
       clear hw9 hg15 m9 b9 f0 f1 f2 hjb2 HO HB
       go_upto_region 18 with (go_at_call 10;((with_reducible refine (TC.out _ (zG (zI BW8.out B89.out) _) _ 1 1 _ _ JO.out).mono ?_);rintro e w10 ⟨v76,LT,rfl,hol,hts,hcl,how,hb10⟩;obtain ⟨sa,sn,sc,rfl⟩:=zZ hol;have HOL2:=zA hol;have HCL2:=zA hcl;have HOX2:=zA (how x2 (by simp));have B910:=zA (zI (zG (Below.refl w9.heap.size w9) _) hb10);clear hol hts hcl how hb10))
       clear z0 z1 z2 zL
       have HO10:=zA (HO9.out.below B910.out)
       have M10:=zA (zH B910.out M9.out)
       have B810:=zA (zI B89.out B910.out)
       have HLS2:=zA (zCS HOL2.out)
       have hsn:LT.length=sn:=HLS2.out.len
       have hsnm:=HLS2.out.max
       unfold maxLen at hsnm
       have HSN:=zA hsn
       have HTK:=zA (show jv.take (t+1)=jv.take t++[x2] by rw [List.take_add_one,HX2.out];rfl)
       clear hsn HO9 M9 B89 B910 HOL2 JO
       go_loopw [13,78] (fun v i wr=>∃ b:Nat,b≤sn∧i=.int .i64 b∧v=.slice va vn vc∧(∀ u∈LT.take b,u∉L)∧Below w10.heap.size w10 wr) (fun _ i _=>sn - (intOf i).toNat)
       case atStart=>exact ⟨0,Nat.zero_le _,rfl,rfl,(fun u hu=>by simp at hu),Below.refl _ _⟩
       case round =>
        obtain ⟨b,hbn,rfl,rfl,hno,hb⟩:=hrel
        have HNO:=zA hno
        have HB11:=zA hb
        by_cases hlb:b < sn
        ·have s0_:(0:Int)≤b:=by omega
         have s1_:(b:Int) < sn:=by omega
         obtain ⟨cv,hcv⟩:∃ cv,LT[b]?=some cv:=⟨_,List.getElem?_eq_getElem (by rw [HSN.out];exact hlb)⟩
         obtain ⟨nd,hno2,hnb,y0⟩:=zCM (HLS2.out.below hb) hlb hcv
         subst hno2
         have htk2:LT.take (b+1)=LT.take b++[cv]:=by rw [List.take_add_one,hcv];rfl
         have hsn:=zGB ta tn tc L cv wr (HLS.out.below (zI B810.out hb))
         have HTK2:=zA htk2
         clear hcv htk2 hb hno
         by_cases hin:cv∈L
         ·simp only [hin,decide_true] at hsn
          have HAS:=zA hsn
          have m11:=zH HB11.out M10.out
          obtain ⟨z0,z1,z2⟩:=zAB m11
          have zL:=m11.lt
          obtain ⟨ij,hi0,hz0,hz1,hz2⟩:=info_parts zIW
          have hlen:=HSJ.out.len
          have hbl2:=HBL.out
          have c63:br.length+1≤maxLen:=by unfold maxLen;omega
          have c47:(br.length+1)*48≤140737488355328:=by omega
          have hva:=(HO10.out.below HB11.out).alloc (.cells #[.string s2,.slice ba bn bc,.int .i64 fu2] 38)
          have hlit:Sl (wr.alloc (.cells #[.string s2,.slice ba bn bc,.int .i64 fu2] 38)) (some ⟨wr.heap.size,0,none⟩) 1 [(⟨s2,⟨ba,bn,bc⟩,fu2⟩:JobR)]:=zAy _ (⟨s2,⟨ba,bn,bc⟩,fu2⟩:JobR) rfl
          have hsb:w8.heap.size≤(wr.alloc (.cells #[.string s2,.slice ba bn bc,.int .i64 fu2] 38)).heap.size:=by have h1:=B810.out.size;have h2:=HB11.out.size;rw [World.size_alloc];omega
          have C63:=zA c63
          have C47:=zA c47
          have HVA:=zA hva
          have HLT:=zA hlit
          have HSB:=zA hsb
          clear hsn c63 c47 hva hlit hsb hin m11 hlen hbl2
          go_wp2_with (first
           | (go_at_call 11;((with_reducible refine (HAS.out).mono ?_);rintro e w' ⟨rfl,rfl⟩))
           | (at_builtin;refine zY rfl (.tmp 85) (.tmp 87) 23 rfl w8.heap.size 38 ij _ 48 Tryz.underlying23 hi0 hz0 hz1 hz2 rfl (.slice va vn vc) br rfl HVA.out (some ⟨wr.heap.size,0,none⟩) 1 1 [(⟨s2,⟨ba,bn,bc⟩,fu2⟩:JobR)] rfl HLT.out C63.out C47.out HSB.out ?_;intro v12 w12 hown12 hgr12 hat12;have HO12:=zA hown12;have HG12:=zA hgr12;clear hown12 hgr12 hat12))
          go_roundw
          case rel =>
           have b1:Below w8.heap.size w8 (wr.alloc (.cells #[.string s2,.slice ba bn bc,.int .i64 fu2] 38)):=zG (zI B810.out HB11.out) _
           have hbl3:=HBL.out
           exact ⟨t+1,bs++[x2],br++[(⟨s2,⟨ba,bn,bc⟩,fu2⟩:JobR)],by omega,by go_num,HO12.out,HSJ.out.snoc HRW.out,(by rw [HTK.out];exact Split.take HSPL.out),(by rw [List.length_append,List.length_singleton];omega),b1.grown HG12.out b1.size (fun i e=>(zBG HVA.out e).1)⟩
          case measure=>simp [intOf];omega
         ·simp only [hin,decide_false] at hsn
          have HAS:=zA hsn
          have hno':∀ u∈LT.take (b+1),u∉L:=by
           rw [HTK2.out]
           intro u hu
           rcases List.mem_append.1 hu with hu | hu
           ·exact HNO.out u hu
           ·obtain rfl:=List.mem_singleton.1 hu
            exact hin
          have HNO':=zA hno'
          clear hsn hin hno'
          go_wp2_with (go_at_call 11;((with_reducible refine (HAS.out).mono ?_);rintro e w' ⟨rfl,rfl⟩))
          go_roundw
          case rel=>exact ⟨b+1,by omega,by go_num,rfl,HNO'.out,HB11.out⟩
          case measure=>simp [intOf];omega
        ·have s1_:¬((b:Int) < sn):=by omega
         have hno2:=HNO.out
         rw [List.take_of_length_le (by rw [HSN.out];omega)] at hno2
         have HOJ:=zA (show zMT ms L x2 from ⟨LT,HCL2.out,HOX2.out,hno2⟩)
         clear hno2 hno hb
         go_wp2
         go_roundw
         case rel =>
          have hbl3:=HBL.out
          exact ⟨t+1,bs,br,by omega,by go_num,HO10.out.below HB11.out,HSJ.out,(by rw [HTK.out];exact Split.skip HSPL.out HOJ.out),by omega,zI B810.out HB11.out⟩
         case measure=>simp [intOf];omega
      ·have p2:¬((t:Int) < k):=by omega
       obtain rfl:k=t:=by omega
       have hvn:vn=bs.length:=by have h1:=(zCS ho).len;have h2:=hsj.len;omega
       subst hvn
       have JB:=zA (hsj.jobs (zI BW8.out hb) (zCS ho))
       clear ho hsj hsp hb hbl
       go_upto_region 26 with (go_at_call 10;((with_reducible refine (TC.out _ (zI BW8.out HB.out) _ _ vc _ _ JB.out).mono ?_);rintro e w12 ⟨v93,LB,rfl,hol,hts,hcl,how,hb12⟩;obtain ⟨sa,sn,sc,rfl⟩:=zZ hol;have HOLB:=zA hol;have HOWB:=zA how;have B12_:=zA hb12;clear hol hts hcl how hb12))
       have HO12:=zA (HO.out.below B12_.out)
       have B812:=zA (zI HB.out B12_.out)
       have HLSB:=zA (zCS HOLB.out)
       have hsn:LB.length=sn:=HLSB.out.len
       have hsnm:=HLSB.out.max
       unfold maxLen at hsnm
       have HSN:=zA hsn
       clear hsn HOLB B12_ HO HB JB
       go_loopw [18,95] (fun v i wr=>∃ (b:Nat) (cl:Bool),b≤sn∧i=.int .i64 b∧v=.bool cl∧(cl=true→∀ u∈LB.take b,u∈L)∧Below w12.heap.size w12 wr) (fun _ i _=>sn - (intOf i).toNat)
       case atStart=>exact ⟨0,true,Nat.zero_le _,rfl,rfl,(fun _ u hu=>by simp at hu),Below.refl _ _⟩
       case round =>
        obtain ⟨b,cl,hbn,rfl,rfl,hall,hb⟩:=hrel
        have HALL:=zA hall
        have HB13:=zA hb
        by_cases hlb:b < sn
        ·have s0_:(0:Int)≤b:=by omega
         have s1_:(b:Int) < sn:=by omega
         obtain ⟨cv,hcv⟩:∃ cv,LB[b]?=some cv:=⟨_,List.getElem?_eq_getElem (by rw [HSN.out];exact hlb)⟩
         obtain ⟨nd,hno2,hnb,y0⟩:=zCM (HLSB.out.below hb) hlb hcv
         subst hno2
         have htk2:LB.take (b+1)=LB.take b++[cv]:=by rw [List.take_add_one,hcv];rfl
         have HTK2:=zA htk2
         have hsn:=zGB ta tn tc L cv wr (HLS.out.below (zI B812.out hb))
         clear hcv htk2 hall hb
         cases cl
         ·clear hsn
          go_wp2
          go_roundw
          case rel=>exact ⟨b+1,false,by omega,by go_num,rfl,(fun h=>by cases h),HB13.out⟩
          case measure=>simp [intOf];omega
         ·obtain ⟨dc,hdc⟩:∃ dc,decide (cv∈L)=dc:=⟨_,rfl⟩
          rw [hdc] at hsn
          have HAS:=zA hsn
          have hall2:dc=true→∀ u∈LB.take (b+1),u∈L:=by
           intro hd
           rw [HTK2.out]
           intro u hu
           rcases List.mem_append.1 hu with hu | hu
           ·exact HALL.out rfl u hu
           ·obtain rfl:=List.mem_singleton.1 hu
            exact of_decide_eq_true (hdc.trans hd)
          have HALL2:=zA hall2
          clear hsn hall2 hdc
          go_wp2_with (go_at_call 11;((with_reducible refine (HAS.out).mono ?_);rintro e w' ⟨rfl,rfl⟩))
          go_roundw
          case rel=>exact ⟨b+1,dc,by omega,by go_num,rfl,HALL2.out,HB13.out⟩
          case measure=>simp [intOf];omega
        ·have s1_:¬((b:Int) < sn):=by omega
         have hall2:=HALL.out
         rw [List.take_of_length_le (by rw [HSN.out];omega)] at hall2
         have b614:=zI B68.out (zI B812.out hb)
         cases cl
         ·have B614:=zA b614
          clear hall2 hall hb b614
          go_wp2
          go_roundw
          case rel=>exact ⟨k+1,by omega,by go_num,B614.out⟩
          case measure=>simp [intOf];omega
         ·obtain ⟨z,hz1,hz2⟩:=HD.out L LB bs k x HXK.out HCL.out HOX.out HSPL.out HOWB.out (hall2 rfl)
          have HZ1:=zA hz1
          have HZ2:=zA hz2
          have B614:=zA b614
          have HB14:=zA hb
          clear hall2 hall hb b614 hz1 hz2
          go_upto_region 31 with (fail)
          have b814:=zI B812.out HB14.out
          obtain ⟨ij,hi0,hz0_,hz1_,hz2_⟩:=info_parts zIW
          have hbl:=HBL.out
          have hlen:=HSJ.out.len
          have hlit:Sl ((wr.drew).alloc (.cells #[.string s,.slice aa an ac,.int .i64 fu] 38)) (some ⟨wr.heap.size,0,none⟩) 1 [(⟨s,⟨aa,an,ac⟩,fu⟩:JobR)]:=zAy (w:=wr.drew) _ (⟨s,⟨aa,an,ac⟩,fu⟩:JobR) rfl
          obtain ⟨v15,w15,hr1,ho15,hg15,_⟩:=zBk (P:=Tryz.prog) ((wr.drew).alloc (.cells #[.string s,.slice aa an ac,.int .i64 fu] 38)) w8.heap.size 23 23 38 ij _ 48 Tryz.underlying23 hi0 hz0_ hz1_ hz2_ rfl (.slice va bs.length vc) br ((HO12.out.below HB14.out).drew.alloc _) (some ⟨wr.heap.size,0,none⟩) 1 1 [(⟨s,⟨aa,an,ac⟩,fu⟩:JobR)] hlit (by unfold maxLen;omega) (by omega) (by have h1:=b814.size;rw [World.size_alloc];exact Nat.le_succ_of_le h1)
          have b1:Below w8.heap.size w8 ((wr.drew).alloc (.cells #[.string s,.slice aa an ac,.int .i64 fu] 38)):=zG (zJ b814) _
          have b815:Below w8.heap.size w8 w15:=b1.grown hg15 b1.size (fun i e=>(zBG ((HO12.out.below HB14.out).drew.alloc (.cells #[.string s,.slice aa an ac,.int .i64 fu] 38)) e).1)
          obtain ⟨xa,xn,xc,rfl⟩:=zZ ho15
          have hsl15:=zCS ho15
          have hxn:xn=bs.length+1:=by have h1:=hsl15.len;rw [List.length_append,List.length_singleton] at h1;omega
          have PL:=zA (PA.out w15 (zI B36.out (zI B68.out b815)) xa xn xc _ _ ((HSJ.out.snoc HHX.out).jobs (zI BW8.out b815) hsl15) (by omega))
          obtain ⟨z0,z1,z2⟩:=zAB (zH b814 M8.out)
          have zL:=(zH b814 M8.out).lt
          obtain ⟨i0,i1,i2⟩:=zAB (zH B614.out M6.out)
          have iL:=(zH B614.out M6.out).lt
          obtain ⟨l0,l1,l2⟩:=zAB (zH (zI B68.out b815) M6.out)
          have lL:=(zH (zI B68.out b815) M6.out).lt
          have HR1:=zA hr1
          have B815:=zA b815
          have HXN:=zA hxn
          have e1:IntKind.i64.wrap ((xn:Int) - 1)=((bs.length:Nat):Int):=by rw [IntKind.wrap_i64];omega
          have p3:((bs.length:Nat):Int) < (xn:Int):=by omega
          have p4:(0:Int)≤((bs.length:Nat):Int):=by omega
          have p5:bs.length < xn:=by omega
          have p6:((xn:Int)==0)=false:=by simp;omega
          clear hr1 ho15 hg15 b1 b815 hsl15 hxn hlit b814 hi0 hz0_ hz1_ hz2_ hlen
          go_region_law (first
           | (refine zA7 rfl _ _ 23 23 rfl (.slice va bs.length vc) (.slice (some ⟨wr.heap.size,0,none⟩) 1 1) (by simp [Act.eval,Act.put]) (by simp [Act.eval,Act.put]) HR1.out ?_)
           | (go_simp;go_at_call 9;((with_reducible refine (PL.out).mono ?_);rintro e w16 ⟨o16,c16,v16,d16,b16_,rfl,hs16,hd16,hb16⟩;have HS16:=zA hs16;have HD16:=zA hd16;have B616:=zA (zI B68.out (zI B815.out hb16));clear hs16 hd16 hb16)))
          all_goals
           clear z0 z1 z2 zL i0 i1 i2 iL l0 l1 l2 lL
           go_upto_region 32 with (fail)
           obtain ⟨y,hy⟩:∃ y,d16[bs.length]?=some y:=⟨_,List.getElem?_eq_getElem (by rw [HS16.out.len];exact p5)⟩
           obtain ⟨q,hq⟩:∃ q,d6[k]?=some q:=⟨_,List.getElem?_eq_getElem (by rw [HS6.out.len];exact hlt)⟩
           obtain ⟨ad,rfl,ab,g0,g1,g2,g3⟩:=zER HS16.out p5 hy
           obtain ⟨bd,rfl,bb,f0,f1,f2,f3⟩:=zER (HS6.out.below B616.out) hlt hq
           obtain ⟨y1,y2,y3,y4⟩:=HD16.out.at_ bs.length _ _ hy HZ1.out
           obtain ⟨x1,x2,x3,x4⟩:=(HD6.out.below B616.out).at_ k _ _ hq HZ2.out
           obtain ⟨xe,xm,⟨xa2,xn2,xc2⟩,xf⟩:=q
           obtain ⟨ye,ym,⟨ya2,yn2,yc2⟩,yf⟩:=y
           obtain ⟨ze,zn,zo,zf⟩:=z
           simp only at x1 x2 x3 x4 y1 y2 y3 y4 f0 f1 f2 f3 g0 g1 g2 g3
           subst x1 x2 x3 y1 y2 y3
           have hsx:=zCS x4
           have hsy:=zCS y4
           obtain rfl:yn2=xn2:=by have h1:=hsx.len;have h2:=hsy.len;omega
           have DE:=zA (fun (W:World) (h:Below w16.heap.size w16 W)=>zGV ye ym yf ya2 xa2 yn2 yc2 xc2 zo W (hsy.below h) (hsx.below h))
           have HS:=zA (show ∀ W:World,Below w16.heap.size w16 W→(W.cell? (ad.add (bs.length*4))=some (.int .i64 ye)∧W.cell? ⟨(ad.add (bs.length*4)).block,(ad.add (bs.length*4)).off+1,none⟩=some (.int .i64 ym)∧W.cell? ⟨(ad.add (bs.length*4)).block,(ad.add (bs.length*4)).off+2,none⟩=some (.slice ya2 yn2 yc2)∧W.cell? ⟨(ad.add (bs.length*4)).block,(ad.add (bs.length*4)).off+3,none⟩=some (.int .i64 yf)∧W.cell? (bd.add (k*4))=some (.int .i64 ye)∧W.cell? ⟨(bd.add (k*4)).block,(bd.add (k*4)).off+1,none⟩=some (.int .i64 ym)∧W.cell? ⟨(bd.add (k*4)).block,(bd.add (k*4)).off+2,none⟩=some (.slice xa2 yn2 xc2)∧W.cell? ⟨(bd.add (k*4)).block,(bd.add (k*4)).off+3,none⟩=some (.int .i64 yf)) from fun W h=>⟨(h.cell (p:=(ad.add (bs.length*4))) ab).trans g0,(h.cell (p:=⟨(ad.add (bs.length*4)).block,(ad.add (bs.length*4)).off+1,none⟩) ab).trans g1,(h.cell (p:=⟨(ad.add (bs.length*4)).block,(ad.add (bs.length*4)).off+2,none⟩) ab).trans g2,(h.cell (p:=⟨(ad.add (bs.length*4)).block,(ad.add (bs.length*4)).off+3,none⟩) ab).trans g3,(h.cell (p:=(bd.add (k*4))) bb).trans f0,(h.cell (p:=⟨(bd.add (k*4)).block,(bd.add (k*4)).off+1,none⟩) bb).trans f1,(h.cell (p:=⟨(bd.add (k*4)).block,(bd.add (k*4)).off+2,none⟩) bb).trans f2,(h.cell (p:=⟨(bd.add (k*4)).block,(bd.add (k*4)).off+3,none⟩) bb).trans f3⟩)
           clear hy hq x4 y4 hsx hsy g0 g1 g2 g3 f0 f1 f2 f3
           simp only [Act.put,List.getElem_toArray,List.getElem_cons_succ,List.getElem_cons_zero,zC,zD,zE]
           refine wp_region_held_drew (S:=fun W1=>Below w16.heap.size w16 W1) (by kernel_rfl) (zJ (Below.refl _ _)) (fun hHeld=>?_)
           refine wpAnyH_take (i:=0) (v:=?_) rfl (by kernel_rfl) (by kernel_rfl) (by kernel_rfl) (fun _ _ _ h=>h) (Or.inl ⟨by rfl,?_⟩) hHeld ?_
           any_goals (intro wS hSw;obtain ⟨u0_,u1_,u2_,u3_,u4_,u5_,u6_,u7_⟩:=HS.out wS hSw;go_simp;try with_reducible rfl)
           change wpAnyH _ _ _ _ _ _ _ (Act.mk _ _) _;try simp only [Act.put,zC,zD,zE]
           refine wpAnyH_take (i:=1) (v:=?_) rfl (by kernel_rfl) (by kernel_rfl) (by kernel_rfl) (fun _ _ _ h=>h) (Or.inl ⟨by rfl,?_⟩) hHeld ?_
           any_goals (intro wS hSw;obtain ⟨u0_,u1_,u2_,u3_,u4_,u5_,u6_,u7_⟩:=HS.out wS hSw;go_simp;try with_reducible rfl)
           change wpAnyH _ _ _ _ _ _ _ (Act.mk _ _) _;try simp only [Act.put,zC,zD,zE]
           refine wpAnyH_take (i:=2) (v:=?_) rfl (by kernel_rfl) (by kernel_rfl) (by kernel_rfl) (fun _ _ _ h=>h) (Or.inl ⟨by rfl,?_⟩) hHeld ?_
           any_goals (intro wS hSw;obtain ⟨u0_,u1_,u2_,u3_,u4_,u5_,u6_,u7_⟩:=HS.out wS hSw;go_simp;try with_reducible rfl)
           change wpAnyH _ _ _ _ _ _ _ (Act.mk _ _) _;try simp only [Act.put,zC,zD,zE]
           refine wpAnyH_take (i:=3) (v:=?_) rfl (by kernel_rfl) (by kernel_rfl) (by kernel_rfl) (fun _ _ _ h=>h) (Or.inl ⟨by rfl,?_⟩) hHeld ?_
           any_goals (intro wS hSw;obtain ⟨u0_,u1_,u2_,u3_,u4_,u5_,u6_,u7_⟩:=HS.out wS hSw;go_simp;try with_reducible rfl)
           change wpAnyH _ _ _ _ _ _ _ (Act.mk _ _) _;try simp only [Act.put,zC,zD,zE]
           refine wpAnyH_take (i:=4) (v:=?_) rfl (by kernel_rfl) (by kernel_rfl) (by kernel_rfl) (fun _ _ _ h=>h) (Or.inl ⟨by rfl,?_⟩) hHeld ?_
           any_goals (intro wS hSw;obtain ⟨u0_,u1_,u2_,u3_,u4_,u5_,u6_,u7_⟩:=HS.out wS hSw;go_simp;try with_reducible rfl)
           change wpAnyH _ _ _ _ _ _ _ (Act.mk _ _) _;try simp only [Act.put,zC,zD,zE]
           refine wpAnyH_take (i:=5) (v:=?_) rfl (by kernel_rfl) (by kernel_rfl) (by kernel_rfl) (fun _ _ _ h=>h) (Or.inl ⟨by rfl,?_⟩) hHeld ?_
           any_goals (intro wS hSw;obtain ⟨u0_,u1_,u2_,u3_,u4_,u5_,u6_,u7_⟩:=HS.out wS hSw;go_simp;try with_reducible rfl)
           change wpAnyH _ _ _ _ _ _ _ (Act.mk _ _) _;try simp only [Act.put,zC,zD,zE]
           refine wpAnyH_take (i:=6) (v:=?_) rfl (by kernel_rfl) (by kernel_rfl) (by kernel_rfl) (fun _ _ _ h=>h) (Or.inl ⟨by rfl,?_⟩) hHeld ?_
           any_goals (intro wS hSw;obtain ⟨u0_,u1_,u2_,u3_,u4_,u5_,u6_,u7_⟩:=HS.out wS hSw;go_simp;try with_reducible rfl)
           change wpAnyH _ _ _ _ _ _ _ (Act.mk _ _) _;try simp only [Act.put,zC,zD,zE]
           refine wpAnyH_take (i:=7) (v:=?_) rfl (by kernel_rfl) (by kernel_rfl) (by kernel_rfl) (fun _ _ _ h=>h) (Or.inl ⟨by rfl,?_⟩) hHeld ?_
           any_goals (intro wS hSw;obtain ⟨u0_,u1_,u2_,u3_,u4_,u5_,u6_,u7_⟩:=HS.out wS hSw;go_simp;try with_reducible rfl)
           change wpAnyH _ _ _ _ _ _ _ (Act.mk _ _) _;try simp only [Act.put,zC,zD,zE]
           refine wpAnyH_take (i:=8) (v:=?_) rfl (by kernel_rfl) (by kernel_rfl) (by kernel_rfl) (fun _ _ _ h=>h) (Or.inl ⟨by rfl,?_⟩) hHeld ?_
           any_goals (intro wS hSw;obtain ⟨u0_,u1_,u2_,u3_,u4_,u5_,u6_,u7_⟩:=HS.out wS hSw;go_simp;try with_reducible rfl)
           change wpAnyH _ _ _ _ _ _ _ (Act.mk _ _) _;try simp only [Act.put,zC,zD,zE]
           refine wpAnyH_take (i:=9) (v:=?_) rfl (by kernel_rfl) (by kernel_rfl) (by kernel_rfl) (fun _ _ _ h=>h) (Or.inl ⟨by rfl,?_⟩) hHeld ?_
           any_goals (intro wS hSw;obtain ⟨u0_,u1_,u2_,u3_,u4_,u5_,u6_,u7_⟩:=HS.out wS hSw;go_simp;try with_reducible rfl)
           change wpAnyH _ _ _ _ _ _ _ (Act.mk _ _) _;try simp only [Act.put,zC,zD,zE]
           refine wpAnyH_take (i:=10) (v:=?_) rfl (by kernel_rfl) (by kernel_rfl) (by kernel_rfl) (fun _ _ _ h=>h) (Or.inl ⟨by rfl,?_⟩) hHeld ?_
           any_goals (intro wS hSw;obtain ⟨u0_,u1_,u2_,u3_,u4_,u5_,u6_,u7_⟩:=HS.out wS hSw;go_simp;try with_reducible rfl)
           change wpAnyH _ _ _ _ _ _ _ (Act.mk _ _) _;try simp only [Act.put,zC,zD,zE]
           refine wpAnyH_take (i:=11) (v:=?_) rfl (by kernel_rfl) (by kernel_rfl) (by kernel_rfl) (fun _ _ _ h=>h) (Or.inl ⟨by rfl,?_⟩) hHeld ?_
           any_goals (intro wS hSw;obtain ⟨u0_,u1_,u2_,u3_,u4_,u5_,u6_,u7_⟩:=HS.out wS hSw;go_simp;try with_reducible rfl)
           change wpAnyH _ _ _ _ _ _ _ (Act.mk _ _) _;try simp only [Act.put,zC,zD,zE]
           refine wpAnyH_take (i:=12) (v:=?_) rfl (by kernel_rfl) (by kernel_rfl) (by kernel_rfl) (fun _ _ _ h=>h) (Or.inl ⟨by rfl,?_⟩) hHeld ?_
           any_goals (intro wS hSw;obtain ⟨u0_,u1_,u2_,u3_,u4_,u5_,u6_,u7_⟩:=HS.out wS hSw;go_simp;try with_reducible rfl)
           change wpAnyH _ _ _ _ _ _ _ (Act.mk _ _) _;try simp only [Act.put,zC,zD,zE]
           refine wpAnyH_take (i:=13) (v:=?_) rfl (by kernel_rfl) (by kernel_rfl) (by kernel_rfl) (fun _ _ _ h=>h) (Or.inl ⟨by rfl,?_⟩) hHeld ?_
           any_goals (intro wS hSw;obtain ⟨u0_,u1_,u2_,u3_,u4_,u5_,u6_,u7_⟩:=HS.out wS hSw;go_simp;try with_reducible rfl)
           change wpAnyH _ _ _ _ _ _ _ (Act.mk _ _) _;try simp only [Act.put,zC,zD,zE]
           refine wpAnyH_take (i:=14) (v:=?_) rfl (by kernel_rfl) (by kernel_rfl) (by kernel_rfl) (fun _ _ _ h=>h) (Or.inl ⟨by rfl,?_⟩) hHeld ?_
           any_goals (intro wS hSw;obtain ⟨u0_,u1_,u2_,u3_,u4_,u5_,u6_,u7_⟩:=HS.out wS hSw;go_simp;try with_reducible rfl)
           change wpAnyH _ _ _ _ _ _ _ (Act.mk _ _) _;try simp only [Act.put,zC,zD,zE]
           refine wpAnyH_take (i:=15) (v:=?_) rfl (by kernel_rfl) (by kernel_rfl) (by kernel_rfl) (fun _ _ _ h=>h) (Or.inl ⟨by rfl,?_⟩) hHeld ?_
           any_goals (intro wS hSw;obtain ⟨u0_,u1_,u2_,u3_,u4_,u5_,u6_,u7_⟩:=HS.out wS hSw;go_simp;try with_reducible rfl)
           change wpAnyH _ _ _ _ _ _ _ (Act.mk _ _) _;try simp only [Act.put,zC,zD,zE]
           refine wpAnyH_take (i:=16) (v:=?_) rfl (by kernel_rfl) (by kernel_rfl) (by kernel_rfl) (fun _ _ _ h=>h) (Or.inl ⟨by rfl,?_⟩) hHeld ?_
           any_goals (intro wS hSw;obtain ⟨u0_,u1_,u2_,u3_,u4_,u5_,u6_,u7_⟩:=HS.out wS hSw;go_simp;try with_reducible rfl)
           change wpAnyH _ _ _ _ _ _ _ (Act.mk _ _) _;try simp only [Act.put,zC,zD,zE]
           refine wpAnyH_take (i:=17) (v:=?_) rfl (by kernel_rfl) (by kernel_rfl) (by kernel_rfl) (fun _ _ _ h=>h) (Or.inl ⟨by rfl,?_⟩) hHeld ?_
           any_goals (intro wS hSw;obtain ⟨u0_,u1_,u2_,u3_,u4_,u5_,u6_,u7_⟩:=HS.out wS hSw;go_simp;try with_reducible rfl)
           change wpAnyH _ _ _ _ _ _ _ (Act.mk _ _) _;try simp only [Act.put,zC,zD,zE]
           refine wpAnyH_ready (rs:=[18]) (by kernel_rfl) (by simp) ?_
           refine AllReadyH.cons rfl (fun K hK=>?_) AllReadyH.nil
           go_simp
           go_wp2_with (go_at_call 12;((with_reducible refine (DE.out _ (zJ (Below.refl _ _))).mono ?_);rintro e w17 ⟨rfl,hb17⟩;have HB17:=zA (zI (zJ (Below.refl w16.heap.size w16)) hb17);have BX:=zA (zI B616.out (zI (zJ (Below.refl w16.heap.size w16)) hb17));clear hb17))
           refine hK.out _ _ HB17.out (fun hHeld=>?_)
           clear hK K
           change wpAnyH _ _ _ _ _ _ _ (Act.mk _ _) _;try simp only [Act.put,zC,zD,zE]
           refine wpAnyH_take (i:=19) (v:=?_) rfl (by kernel_rfl) (by kernel_rfl) (by kernel_rfl) (fun _ _ _ h=>h) (Or.inl ⟨by rfl,?_⟩) hHeld ?_
           any_goals (intro wS hSw;go_simp;try with_reducible rfl)
           change wpAnyH _ _ _ _ _ _ _ (Act.mk _ _) _;try simp only [Act.put,zC,zD,zE]
           refine wpAnyH_take (i:=20) (v:=?_) rfl (by kernel_rfl) (by kernel_rfl) (by kernel_rfl) (fun _ _ _ h=>h) (Or.inl ⟨by rfl,?_⟩) hHeld ?_
           any_goals (intro wS hSw;go_simp;try with_reducible rfl)
           change wpAnyH _ _ _ _ _ _ _ (Act.mk _ _) _;try simp only [Act.put,zC,zD,zE]
           refine wpAnyH_done (by kernel_rfl) ?_ _
           go_wp2
           go_roundw
           case rel=>exact ⟨k+1,by omega,by go_num,BX.out⟩
           case measure=>simp [intOf];omega
    ·have q2:¬((k:Int) < jn):=by omega
     have HX:=zA hbw
     go_wp2
     go_ret
     exact ⟨rfl,HX.out⟩
 ·have q1:(er != 0)=true:=by simpa using her
  go_wp2
  go_ret
  exact ⟨rfl,HB3.out⟩
end Go.Proofs.YtlpejagkadalbaaGreatDoor
