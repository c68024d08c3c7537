import Derived.Test.YtlpejagkadalbaaGreatDoorQk49
import Derived.Test.YtlpejagkadalbaaGreatDoorQk50
set_option maxHeartbeats 40000000
set_option maxRecDepth 100000
set_option linter.unusedVariables false
set_option linter.unusedSimpArgs false
namespace Go.Proofs.YtlpejagkadalbaaGreatDoor
section
open Go Go.RowKit Go.Shelf
structure TSt (ms:List ModV) (L:List Int):Prop where
 rng:∀ v∈L,∃ n:Nat,n < ms.length∧v=n
 cnt:L.length+zEx ms.length L≤ms.length
theorem TSt.nil (ms:List ModV):TSt ms []:=by
 refine ⟨(fun v hv=>by cases hv),?_⟩
 have h2:(List.range ms.length).countP (fun (n:Nat)=>decide ((n:Int)∉([]:List Int)))≤(List.range ms.length).length:=List.countP_le_length
 rw [List.length_range] at h2
 unfold zEx
 simp
theorem TSt.snoc {ms:List ModV} {L:List Int} {n:Nat} (h:TSt ms L) (hn:n < ms.length) (hx:(n:Int)∉L):TSt ms (L++[(n:Int)]):=by
 refine ⟨fun v hv=>?_,?_⟩
 ·rcases List.mem_append.1 hv with hv | hv
  ·exact h.rng v hv
  ·exact ⟨n,hn,by simpa using hv⟩
 ·have h1:=zDt (l:=List.range ms.length) (p:=fun (n:Nat)=>decide ((n:Int)∉L)) (q:=fun (j:Nat)=>decide ((j:Int)∉L++[(n:Int)])) (fun j _ hq=>by
   simp only [decide_eq_true_eq,List.mem_append] at hq ⊢
   exact fun e=>hq (.inl e)) (a:=n) (List.mem_range.2 hn) (by simp [hx]) (by simp)
  have:=h.cnt
  unfold zEx at *
  rw [List.length_append]
  simp only [List.length_singleton]
  omega
theorem TSt.len {ms:List ModV} {L:List Int} (h:TSt ms L):L.length≤ms.length:=by have:=h.cnt;omega
def OwnIn (ms:List ModV) (L:List Int) (x:JobV):Prop:=∀ (n:Nat) (m:ModV) (y:NamV),ms[n]?=some m→y∈m.ex→y.name=x.name→(n:Int)∈L
theorem zKY {ms:List ModV} {nl:List Int} (h:Cov0 ms nl nl.length):zC7 ms (fun n=>(n:Int)∈nl):=by
 intro n m x n' m' y hs hm hx hm' hy e
 obtain ⟨i,hi⟩:=List.mem_iff_getElem?.1 hs
 exact h i n m (List.getElem?_eq_some_iff.1 hi).1 hi hm x hx n' m' y (List.getElem?_eq_some_iff.1 hm').1 hm' hy e
def zPJ (w:World) (ms:List ModV) (js:List JobV) (e:Ending) (w':World):Prop :=
 ∃ v L,e=.returned v∧Own w' w.heap.size 3 v L∧TSt ms L∧zC7 ms (fun n=>(n:Int)∈L)∧(∀ x∈js,OwnIn ms L x)∧Below w.heap.size w w'
theorem zCS {α:Type} [El α] {w:World} {base:Nat} {T:TypeId} {a:Option Addr} {n c:Nat} {xs:List α} (h:Own w base T (.slice a n c) xs):Sl w a n xs:=by
 obtain ⟨a',c',e,hs,_⟩:=h.sl
 injection e with e1 e2 e3
 subst e1 e2
 exact hs
theorem zPe {α:Type} [El α] {w:World} {ao:Option Addr} {n:Nat} {xs:List α} (h:Sl w ao n xs) (a:Addr) (ha:ao=some a) (hn:0 < n):a.block < w.heap.size:=by
 obtain ⟨a',e,hb,_⟩:=h.row hn
 rw [ha] at e
 injection e with e
 subst e
 exact hb
theorem zKB (ao ja:Option Addr) (N c0 n jc:Nat) (rs:List ModR) (ms:List ModV) (jr:List JobR) (jv:List JobV) (w:World) (h:Mods w ao N rs ms) (hj:Jobs w ja n jr jv) (hlk:LinkOk zR ms) :
  Calls Tryz.prog 10 #[.slice ao N c0,.slice ja n jc] w (zPJ w ms jv):=by
 have hn:=h.n
 have h8:N≤8:=by have:=hlk.l;omega
 have hjn:=hj.n
 have hjm:=hj.sl.max
 unfold maxLen at hjm
 obtain ⟨i0,hi0,hz0,hz1,hz2⟩:=info_parts zFJ
 have HM:=zA h
 have HJ:=zA hj
 have HLK:=zA hlk
 have HJN:=zA hjn
 clear h hj hlk hjn
 go_enter Tryz.func10,Tryz.ntmps10
 go_wp2
 go_loopw [5,13] (fun v i wr=>∃ (k:Nat) (L:List Int),k≤n∧i=.int .i64 k∧Own wr w.heap.size 3 v L∧TSt ms L∧zC7 ms (fun n=>(n:Int)∈L)∧(∀ x∈jv.take k,OwnIn ms L x)∧Below w.heap.size w wr) (fun _ i _=>n - (intOf i).toNat)
 case atStart=>exact ⟨0,[],Nat.zero_le _,rfl,Own.nil _ _ _,TSt.nil ms,(fun n m x n' m' y hs=>by cases hs),(fun x hx=>by simp at hx),Below.refl _ _⟩
 case round =>
  obtain ⟨k,L,hk,rfl,ho,hts,hcl,hown,hb⟩:=hrel
  obtain ⟨va,vn,vc,rfl⟩:=zZ ho
  have HO:=zA ho
  have HTS:=zA hts
  have HCL:=zA hcl
  have HOWN:=zA hown
  have HB:=zA hb
  by_cases hlt:k < n
  ·have q0:(0:Int)≤k:=by omega
   have q1:(k:Int) < n:=by omega
   obtain ⟨r,x,hr,hx,hhas⟩:=(HJ.out.below hb).get hlt
   obtain ⟨jd,hjo,hjb,e0,e1,e2⟩:=zF5 (HJ.out.sl.below hb) hlt hr
   subst hjo
   have hnm:=hhas.name
   obtain ⟨s,⟨aa,an,ac⟩,fu⟩:=r
   simp only at e0 e1 e2 hnm
   have HXK:=zA hx
   have HNM:=zA hnm
   clear hr hx hhas ho hts hcl hown hnm hb
   go_upto_region 5 with (refine zAA rfl 38 (.tmp 7) (.tmp 16) rfl rfl #[.string s,.slice aa an ac,.int .i64 fu] 38 _ rfl (by first | rfl | kernel_rfl) (by kernel_rfl) (by kernel_rfl) (by kernel_rfl) ?_)
   obtain ⟨g7,hg7⟩:∃ g,wr.heap.size=g:=⟨_,rfl⟩
   obtain ⟨w2,hw2⟩:∃ w2,w2=wr.alloc (.cells #[.string s,.slice aa an ac,.int .i64 fu] 38):=⟨_,rfl⟩
   have m2:Bk w2 g7 38 #[.string s,.slice aa an ac,.int .i64 fu]:=by rw [hw2,←hg7];exact zM _ _ _
   have b2:Below wr.heap.size wr w2:=by rw [hw2];exact zG (Below.refl _ _) _
   rw [←hw2]
   try rw [hg7]
   have HB2:=zA (zI HB.out b2)
   have HO2:=zA (HO.out.below b2)
   obtain ⟨z0,z1,z2⟩:=zAB m2
   have zL:=m2.lt
   have OW:=zA (zHA ao N c0 rs ms s w2 (HM.out.below HB2.out))
   clear hw2 hg7 m2 b2 e0 e1 e2 hjb
   go_upto_region 6 with (go_at_call 34;((with_reducible refine (OW.out).mono ?_);rintro e w3 ⟨v,rfl,hv,hb3⟩;have HVV:=zA hv;have HB3:=zA (zI HB2.out hb3);have HO3:=zA (HO2.out.below hb3);clear hv hb3))
   clear z0 z1 z2 zL
   have htk:jv.take (k+1)=jv.take k++[x]:=by rw [List.take_add_one,HXK.out];rfl
   have HTK:=zA htk
   clear htk
   rcases HVV.out with ⟨rfl,hno⟩ | ⟨c,m',y,rfl,hm',hy,hyn⟩
   ·have q5:¬((0:Int) ≤ -1):=by decide
    have hown2:∀ z∈jv.take (k+1),OwnIn ms L z:=by
     rw [HTK.out]
     intro z hz
     rcases List.mem_append.1 hz with hz | hz
     ·exact HOWN.out z hz
     ·obtain rfl:=List.mem_singleton.1 hz
      intro n' m'' y' h1 h2 h3
      exact absurd (h3.trans HNM.out) (hno m'' (List.mem_of_getElem? h1) y' h2)
    have HOWN2:=zA hown2
    clear hno hown2
    go_wp2
    go_roundw
    case rel=>exact ⟨k+1,L,by omega,by go_num,HO3.out,HTS.out,HCL.out,HOWN2.out,HB3.out⟩
    case measure=>simp [intOf];omega
   ·have hcl2:c < ms.length:=(List.getElem?_eq_some_iff.1 hm').1
    have q5:(0:Int)≤(c:Int):=by omega
    have NR:=zA (zM8 ao N c0 rs ms c w3 (HM.out.below HB3.out) (by omega) HLK.out)
    have hone:∀ n' m'' y',ms[n']?=some m''→y'∈m''.ex→y'.name=x.name→n'=c:=fun n' m'' y' h1 h2 h3=>zIE HLK.out h1 h2 hm' hy (h3.trans (HNM.out.trans hyn.symm))
    have HONE:=zA hone
    clear hone hm' hy hyn
    go_upto_region 8 with (go_at_call 35;((with_reducible refine (NR.out).mono ?_);rintro e w4 ⟨v2,nl,rfl,hon,hns,hc0,hb4⟩;obtain ⟨na,nn,nc,rfl⟩:=zZ hon;have HON:=zA hon;have HNS:=zA hns;have HC0:=zA hc0;have HB4:=zA (zI HB3.out hb4);have HO4:=zA (HO3.out.below hb4);have HB34:=zA hb4;clear hon hns hc0 hb4))
    have hsep:∀ a:Addr,na=some a→(Value.slice va vn vc).ownBlock≠some a.block:=by
     intro a ha e
     have h1:=(zBG HO3.out e).2
     obtain ⟨a',c',e',_,hk⟩:=HON.out.sl
     injection e' with e1 _ _
     have h2:=(hk a (e1.symm.trans ha)).1
     omega
    have hnl:nl.length=nn:=(zCS HON.out).len
    have HSEP:=zA hsep
    have HNL:=zA hnl
    have hnmx:=(zCS HON.out).max
    unfold maxLen at hnmx
    clear hsep hnl
    go_loopw [5,27] (fun v i wr=>∃ (b:Nat) (L':List Int),b≤nn∧i=.int .i64 b∧Own wr w.heap.size 3 v L'∧TSt ms L'∧(∀ u∈L,u∈L')∧(∀ u∈nl.take b,u∈L')∧(∀ u∈L',u∈L∨u∈nl)∧Sl wr na nn nl∧(∀ a:Addr,na=some a→v.ownBlock≠some a.block)∧Below w.heap.size w wr) (fun _ i _=>nn - (intOf i).toNat)
    case atStart=>exact ⟨0,L,Nat.zero_le _,rfl,HO4.out,HTS.out,(fun u hu=>hu),(fun u hu=>by simp at hu),(fun u hu=>.inl hu),zCS HON.out,HSEP.out,HB4.out⟩
    case round =>
     obtain ⟨b,L',hbn,rfl,ho,hts,h1,h2,h3,hsl,hsp,hb⟩:=hrel
     obtain ⟨va2,vn2,vc2,rfl⟩:=zZ ho
     have HO5:=zA ho
     have HTS5:=zA hts
     have H1:=zA h1
     have H2:=zA h2
     have H3:=zA h3
     have HSL:=zA hsl
     have HSP:=zA hsp
     have HB5:=zA hb
     by_cases hlb:b < nn
     ·have s0:(0:Int)≤b:=by omega
      have s1:(b:Int) < nn:=by omega
      obtain ⟨cv,hcv⟩:∃ cv,nl[b]?=some cv:=⟨_,List.getElem?_eq_getElem (by rw [HNL.out];exact hlb)⟩
      have hcm:=List.mem_of_getElem? hcv
      obtain ⟨cc,hcN,rfl⟩:=HNS.out.rng cv hcm
      obtain ⟨nd,hno,hnb,f0⟩:=zCM hsl hlb hcv
      subst hno
      have htk2:nl.take (b+1)=nl.take b++[(cc:Int)]:=by rw [List.take_add_one,hcv];rfl
      have HTK2:=zA htk2
      have HCM:=zA hcm
      have hsn:=zGB va2 vn2 vc2 L' (cc:Int) wr (zCS ho)
      clear hcv hcm htk2 ho hts h1 h2 h3 hsl hsp hb
      by_cases hin:(cc:Int)∈L'
      ·simp only [hin,decide_true] at hsn
       have HSN:=zA hsn
       have h2':∀ u∈nl.take (b+1),u∈L':=by
        rw [HTK2.out]
        intro u hu
        rcases List.mem_append.1 hu with hu | hu
        ·exact H2.out u hu
        ·obtain rfl:=List.mem_singleton.1 hu
         exact hin
       have H2':=zA h2'
       clear hsn hin h2'
       go_wp2_with (go_at_call 11;((with_reducible refine (HSN.out).mono ?_);rintro e w' ⟨rfl,rfl⟩))
       go_roundw
       case rel=>exact ⟨b+1,L',by omega,by go_num,HO5.out,HTS5.out,H1.out,H2'.out,H3.out,HSL.out,HSP.out,HB5.out⟩
       case measure=>simp [intOf];omega
      ·simp only [hin,decide_false] at hsn
       have HSN:=zA hsn
       have hts':=HTS5.out.snoc hcN hin
       have h1':∀ u∈L,u∈L'++[(cc:Int)]:=fun u hu=>List.mem_append_left _ (H1.out u hu)
       have h2':∀ u∈nl.take (b+1),u∈L'++[(cc:Int)]:=by
        rw [HTK2.out]
        intro u hu
        rcases List.mem_append.1 hu with hu | hu
        ·exact List.mem_append_left _ (H2.out u hu)
        ·exact List.mem_append_right _ hu
       have h3':∀ u∈L'++[(cc:Int)],u∈L∨u∈nl:=by
        intro u hu
        rcases List.mem_append.1 hu with hu | hu
        ·exact H3.out u hu
        ·obtain rfl:=List.mem_singleton.1 hu
         exact .inr HCM.out
       have hl5:=HTS5.out.len
       have c63:L'.length+1≤maxLen:=by unfold maxLen;omega
       have c47:(L'.length+1)*8≤140737488355328:=by omega
       have hla:=zJU wr cc 3
       have hva:=HO5.out.alloc (.cells #[.int .i64 cc] 3)
       have hsb:w.heap.size≤(wr.alloc (.cells #[.int .i64 cc] 3)).heap.size:=by have:=HB5.out.size;simp;omega
       have hns:∀ a:Addr,some nd=some a→a.block < wr.heap.size:=fun a ha=>zPe HSL.out a ha (by omega)
       have HTS':=zA hts'
       have H1':=zA h1'
       have H2':=zA h2'
       have H3':=zA h3'
       have C63:=zA c63
       have C47:=zA c47
       have HLA:=zA hla
       have HVA:=zA hva
       have HSB:=zA hsb
       have HNB:=zA hns
       clear hsn hts' h1' h2' h3' c63 c47 hla hva hsb hin hl5 hns
       go_wp2_with (first
        | (go_at_call 11;((with_reducible refine (HSN.out).mono ?_);rintro e w' ⟨rfl,rfl⟩))
        | (at_builtin;refine zY rfl (.tmp 35) (.tmp 37) 36 rfl w.heap.size 3 i0 _ 8 Tryz.underlying36 hi0 hz0 hz1 hz2 rfl (.slice va2 vn2 vc2) L' rfl HVA.out (some ⟨wr.heap.size,0,none⟩) 1 1 [(cc:Int)] rfl HLA.out C63.out C47.out HSB.out ?_;intro v9 w9 hown9 hgr9 hat9;have HO9:=zA hown9;have HG9:=zA hgr9;have HAT:=zA hat9;clear hown9 hgr9 hat9))
       go_roundw
       case rel =>
        have a12:Below wr.heap.size wr (wr.alloc (.cells #[.int .i64 cc] 3)):=zG (Below.refl _ _) _
        refine ⟨b+1,L'++[(cc:Int)],by omega,by go_num,HO9.out,HTS'.out,H1'.out,H2'.out,H3'.out,(HSL.out.alloc _).grown HG9.out (fun a ha _ e=>HSP.out a ha e.symm),fun a ha=>?_,(zI HB5.out a12).grown HG9.out HSB.out (fun i e=>(World.ownsRow.lt HVA.out i e).1)⟩
        have hab:=HNB.out a ha
        rcases HAT.out with e | e
        ·rw [e];exact HSP.out a ha
        ·rw [e,World.size_alloc]
         intro e2
         injection e2 with e2
         omega
       case measure=>simp [intOf];omega
     ·have s1:¬((b:Int) < nn):=by omega
      have h2a:=H2.out
      rw [List.take_of_length_le (by rw [HNL.out];omega)] at h2a
      have hclN:=zKY HC0.out
      have hcl':zC7 ms (fun n=>(n:Int)∈L'):=by
       intro n1 m1 x1 n2 m2 y2 hs g1 g2 g3 g4 g5
       rcases H3.out _ hs with hu | hu
       ·exact H1.out _ (HCL.out n1 m1 x1 n2 m2 y2 hu g1 g2 g3 g4 g5)
       ·exact h2a _ (hclN n1 m1 x1 n2 m2 y2 hu g1 g2 g3 g4 g5)
      have hown':∀ z∈jv.take (k+1),OwnIn ms L' z:=by
       rw [HTK.out]
       intro z hz
       rcases List.mem_append.1 hz with hz | hz
       ·exact fun n' m'' y' g1 g2 g3=>H1.out _ (HOWN.out z hz n' m'' y' g1 g2 g3)
       ·obtain rfl:=List.mem_singleton.1 hz
        intro n' m'' y' g1 g2 g3
        obtain rfl:=HONE.out n' m'' y' g1 g2 g3
        exact h2a _ HNS.out.mem
      have HCL':=zA hcl'
      have HOWN':=zA hown'
      clear h2a hclN hcl' hown' ho hts h1 h2 h3 hsl hsp hb
      go_wp2
      go_roundw
      case rel=>exact ⟨k+1,L',by omega,by go_num,HO5.out,HTS5.out,HCL'.out,HOWN'.out,HB5.out⟩
      case measure=>simp [intOf];omega
  ·have q1:¬((k:Int) < n):=by omega
   obtain rfl:n=k:=by omega
   rw [List.take_of_length_le (by rw [HJN.out];exact Nat.le_refl _)] at hown
   have HOWN2:=zA hown
   clear ho hts hcl hown hb
   go_wp2
   go_ret
   exact ⟨_,L,rfl,HO.out,HTS.out,HCL.out,HOWN2.out,HB.out⟩
end
section
open Go.RowKit
def aG (ms:List ModV) (S:Nat→Prop) (k:KeyV):Prop:=∃ n,S n∧zRP ms n k
def aD (ms:List ModV) (S:Nat→Prop) (k:KeyV):Prop:=DomT (aG ms S) k
def inR (ms:List ModV) (S:Nat→Prop) (j:Nat):Prop:=∃ n m,S n∧ms[n]?=some m∧total (ms.take n)≤j∧j < total (ms.take n)+(m.code.length+m.data.length)
def zF1 (ms:List ModV) (S:Nat→Prop) (M:List ValV):Prop:=∀ j:Nat,inR ms S j→(M.getD j zeroV).is=true→aD ms S (M.getD j zeroV).k
section
variable {ms:List ModV} {S T:Nat→Prop} {M N:List ValV} {E:List EntryV}
theorem zMS {k:KeyV} (h:aG ms S k):aD ms S k:=⟨k,h,zEE _⟩
theorem zRK {k:KeyV} (h:DomT (aD ms S) k) (h0:0≤k.len):aD ms S k:=by
 obtain ⟨g,⟨g',h1,h2⟩,h3⟩:=h
 exact ⟨g',h1,zGP h3 h2 h0⟩
theorem zGA {p:Int} {j:Nat} (h:zEu (aD ms S) p j):inR ms S j:=by
 obtain ⟨g,⟨g',⟨n,hs,m,hm,hk⟩,hl⟩,_,hc⟩:=h
 have h1:=covB_iff.1 (zDm hl hc)
 refine ⟨n,m,hs,hm,?_⟩
 rcases hk with ⟨_,e2,e3⟩ | ⟨_,e2,e3⟩<;>(rw [e2,e3] at h1;omega)
theorem zH3 (h:zF1 ms S M):Whole (aD ms S) M:=fun g hg _ j hc _ hi=>h j (zGA (p:=0) ⟨g,hg,by rw [zBV];intro i hi;simp [bv] at hi,hc⟩) hi
theorem zGy {n n':Nat} {m:ModV} (hm:ms[n]?=some m) (hl:n < n'):total (ms.take n)+(m.code.length+m.data.length)≤total (ms.take n'):=by
 have h1:=zBZ hm
 have h2:total (ms.take (n+1))≤total (ms.take n'):=by
  have h3:=zB8 (ms.take n') (n+1)
  rwa [List.take_take,Nat.min_eq_left (show n+1≤n' from hl)] at h3
 omega
theorem zGj {j:Nat} (h:inR ms S j) (h':inR ms T j):∃ n,S n∧T n:=by
 obtain ⟨n,m,hs,hm,h1,h2⟩:=h
 obtain ⟨n',m',ht,hm',h3,h4⟩:=h'
 rcases Nat.lt_trichotomy n n' with hl | hl | hl
 ·have:=zGy hm hl;omega
 ·subst hl;exact ⟨n,hs,ht⟩
 ·have:=zGy hm' hl;omega
def zI3 (E:List EntryV) (ms:List ModV) (S:Nat→Prop) (s:ByteArray):Prop:=∀ e,zAe E s=some e→∃ n m y,S n∧ms[n]?=some m∧e=zAf (total (ms.take n)) n m y
theorem zO4 {n:Nat} {m:ModV} {y:NamV} (hs:S n) (hm:ms[n]?=some m) (args:List Int):Safe (aD ms S) M (zCb M (zAf (total (ms.take n)) n m y) args):=by
 have h1:aD ms S (zDd (zAf (total (ms.take n)) n m y)):=zMS ⟨n,hs,m,hm,.inl ⟨rfl,rfl,rfl⟩⟩
 have h2:aD ms S (zRM (zAf (total (ms.take n)) n m y)):=zMS ⟨n,hs,m,hm,.inr ⟨rfl,rfl,rfl⟩⟩
 refine ⟨fun v hv=>?_,⟨_,h1,zEE _⟩,(fun f hf=>by cases hf),rfl,fun j=>.inl rfl⟩
 rcases List.mem_or_eq_of_mem_set hv with hv | rfl
 ·unfold zCA at hv
  obtain ⟨r,_,rfl⟩:=List.mem_map.1 hv
  split
  ·exact fun h=>by cases h
  ·exact DomV.zero
 ·exact fun _=>⟨_,h2,zEE _⟩
theorem zJo {M:List ValV} {E:List EntryV} {s:ByteArray} {args:List Int} {x:EntryV} (h:ImOk M E) (hf:zAe E s=some x) (he:zBK E s args=0):(zCb M x args).Ok:=by
 obtain ⟨c1,c2⟩:=h.k x (zGC hf).1
 obtain ⟨m1,m2⟩:=(zBM M).1 h.m
 have ha:args.all zA0=true:=by
  unfold zBK at he
  split at he
  ·cases he
  ·split at he
   ·cases he
   ·next h=>simpa using h
 refine ⟨⟨fun v hv=>?_,⟨c1.p0,c1.p1,c1.b0,c1.b1,c1.l0,c1.l1,c1.a0,c1.a1,Int.le_refl 0,show (0:Int)≤63 by decide⟩,m1,m2,by simp [zCb],(fun f hf=>by cases hf),by simp [zCb],(fun n hn=>by cases hn)⟩,zHN M x args⟩
 rcases List.mem_or_eq_of_mem_set hv with hv | rfl
 ·unfold zCA at hv
  obtain ⟨r,_,rfl⟩:=List.mem_map.1 hv
  split
  ·refine .inr ⟨rfl,?_⟩
   show -2147483648≤args.getD r 0∧args.getD r 0≤2147483647∧zeroK=zeroK
   rw [List.getD_eq_getElem?_getD]
   cases hr:args[r]? with
   | none=>exact ⟨by decide,by decide,rfl⟩
   | some n =>
    have h2:=of_decide_eq_true (List.all_eq_true.1 ha n (List.mem_of_getElem? hr))
    exact ⟨h2.1,h2.2,rfl⟩
  ·exact .inr ⟨rfl,by decide,by decide,rfl⟩
 ·exact .inl ⟨rfl,⟨c2.p0,c2.p1,c2.b0,c2.b1,c2.l0,c2.l1,c2.a0,c2.a1,Int.le_refl 0,show (0:Int)≤63 by decide⟩,rfl⟩
structure DoRel (ms:List ModV) (S:Nat→Prop) (M:List ValV) (a b:DoneV×List ValV):Prop where
 done:b.1=a.1
 alike:Alike (inR ms S) a.2 b.2
 inv:zF1 ms S a.2
 far:∀ j,¬inR ms S j→a.2.getD j zeroV=M.getD j zeroV
 len:a.2.length=M.length
theorem zGp (hM:ImOk M E) (hN:ImOk N E) (hi:zF1 ms S M) (ha:Alike (inR ms S) M N) {s:ByteArray} (hj:zI3 E ms S s) (args:List Int) (f:Int):DoRel ms S M (doF M E s args f) (doF N E s args f):=by
 by_cases h0:zBK E s args=0
 ·have hsome:∃ x,zAe E s=some x:=by
   unfold zBK at h0
   split at h0
   ·cases h0
   ·split at h0
    ·cases h0
    ·split at h0
     ·cases h0
     ·next h=>exact Option.ne_none_iff_exists'.1 h
  obtain ⟨x,hf⟩:=hsome
  obtain ⟨n,m,y,hs,hm,rfl⟩:=hj x hf
  have eM:∀ P:List ValV,doF P E s args f=doX P (zCq (zCb P (zAf (total (ms.take n)) n m y) args) f):=by
   intro P
   unfold doF
   rw [if_neg (by simp [h0]),hf]
   rfl
  rw [eM M,eM N]
  by_cases hfu:f < 0∨5000 < f
  ·have e1:∀ P:List ValV,zCq (zCb P (zAf (total (ms.take n)) n m y) args) f=(zeroMV,0,1):=by
    intro P
    unfold zCq zCN
    rw [if_pos hfu]
    rfl
   rw [e1,e1]
   exact ⟨rfl,ha,hi,fun _ _=>rfl,rfl⟩
  ·have hsf:=zO4 (M:=M) (y:=y) hs hm args
   obtain ⟨z,z1,z2,z3⟩:=zMk (G:=aD ms S) (V:=inR ms S) (fun j hv=>hv.elim zGA zGA) (zH3 hi) f.toNat _ N hsf ha
   have hsf2:=hsf.run (zH3 hi) f.toNat
   have oM:=zJo hM hf h0
   have oN:=zJo hN hf h0
   have rM:=zFe (m:=zCb M (zAf (total (ms.take n)) n m y) args) (f:=f.toNat) (by omega) (zDu oM)
   have rN:=zFe (m:=zCb N (zAf (total (ms.take n)) n m y) args) (f:=f.toNat) (by omega) (zDu oN)
   have hft:((f.toNat:Nat):Int)=f:=by omega
   rw [hft] at rM rN
   have kM:=zHb f.toNat _ oM
   obtain ⟨X,hX⟩:∃ X,(zCb M (zAf (total (ms.take n)) n m y) args).run f.toNat=X:=⟨_,rfl⟩
   have z1':(zCb N (zAf (total (ms.take n)) n m y) args).run f.toNat=((X.1).mm z,X.2.1,X.2.2):=by rw [←hX];exact z1
   rw [z1'] at rN
   rw [hX] at rM z2 hsf2 kM
   rw [rM,rN]
   unfold doX
   by_cases h1:X.2.2=1
   ·rw [if_pos h1,if_pos h1]
    exact ⟨rfl,ha,hi,fun _ _=>rfl,rfl⟩
   ·rw [if_neg h1,if_neg h1]
    refine ⟨rfl,z2,fun j hj hi2=>?_,fun j hj=>?_,hsf2.len⟩
    ·rcases hsf2.mem j with e | ⟨_,e⟩
     ·have e':X.1.mem.getD j zeroV=M.getD j zeroV:=e
      show aD ms S (X.1.mem.getD j zeroV).k
      have hi3:(X.1.mem.getD j zeroV).is=true:=hi2
      rw [e'] at hi3 ⊢
      exact hi j hj hi3
     ·refine zRK (e hi2) ?_
      have hv:(X.1.mem.getD j zeroV).Ok:=by
       rw [List.getD_eq_getElem?_getD]
       cases hr:X.1.mem[j]? with
       | none=>exact .inr ⟨rfl,by decide,by decide,rfl⟩
       | some v=>exact kM.1.mem v (List.mem_of_getElem? hr)
      rcases hv with ⟨_,hk,_⟩ | ⟨hno,_⟩
      ·exact hk.l0
      ·have hi3:(X.1.mem.getD j zeroV).is=true:=hi2
       rw [hno] at hi3;cases hi3
    ·rcases hsf2.mem j with e | ⟨e,_⟩
     ·exact e
     ·exact absurd (zGA e) hj
 ·have e1:∀ P:List ValV,doF P E s args f=(⟨zBK E s args,0,[],0⟩,P):=by
   intro P
   unfold doF
   rw [if_pos h0]
  rw [e1,e1]
  exact ⟨rfl,ha,hi,fun _ _=>rfl,rfl⟩
inductive Split (P:JobV→Prop):List JobV→List JobV→Prop
 | nil:Split P [] []
 | take {js bs:List JobV} {x:JobV} (h:Split P js bs):Split P (js++[x]) (bs++[x])
 | skip {js bs:List JobV} {x:JobV} (h:Split P js bs) (hx:P x):Split P (js++[x]) bs
theorem zHW {V:Nat→Prop}:Alike V M M:=⟨rfl,fun _ _=>rfl⟩
structure TwoRel (ms:List ModV) (S T:Nat→Prop) (a b:List ValV):Prop where
 alike:Alike (inR ms S) a b
 invS:zF1 ms S a
 invT:zF1 ms T a
theorem zMe (hM:ImOk M E) (hST:∀ n,S n→T n→False) (iS:zF1 ms S M) (iT:zF1 ms T M) {P:JobV→Prop} (hP:∀ x,P x→zI3 E ms T x.name) {js bs:List JobV} (h:Split P js bs) (hB:∀ x∈bs,zI3 E ms S x.name):TwoRel ms S T (zCO E M js) (zCO E M bs):=by
 induction h with
 | nil=>exact ⟨zHW,iS,iT⟩
 | take h ih =>
  rename_i js bs x
  have r:=ih (fun y hy=>hB y (List.mem_append_left _ hy))
  rw [zEi,zEi]
  have dr:=zGp (zDS (js:=js) hM) (zDS (js:=bs) hM) r.invS r.alike (hB x (by simp)) x.args x.fuel
  refine ⟨dr.alike,dr.inv,fun j hj hi=>?_⟩
  have hn:¬inR ms S j:=fun hs=>by obtain ⟨n,h1,h2⟩:=zGj hs hj;exact hST n h1 h2
  rw [dr.far j hn] at hi ⊢
  exact r.invT j hj hi
 | skip h hx ih =>
  rename_i js bs x
  have r:=ih hB
  rw [zEi]
  have dr:=zGp (zDS (js:=js) hM) (zDS (js:=js) hM) r.invT zHW (hP x hx) x.args x.fuel
  refine ⟨⟨r.alike.len.trans dr.len.symm,fun j hj=>?_⟩,fun j hj hi=>?_,dr.inv⟩
  ·have hn:¬inR ms T j:=fun ht=>by obtain ⟨n,h1,h2⟩:=zGj hj ht;exact hST n h1 h2
   exact (r.alike.eq j hj).trans (dr.far j hn).symm
  ·have hn:¬inR ms T j:=fun ht=>by obtain ⟨n,h1,h2⟩:=zGj hj ht;exact hST n h1 h2
   rw [dr.far j hn] at hi ⊢
   exact r.invS j hj hi
theorem zJV {nm:ByteArray→Bool} (h:LinkOk nm ms) (hS:zC7 ms S):zF1 ms S (zAK ms):=by
 rintro j ⟨n,m,hs,hm,h1,h2⟩ hi
 obtain ⟨i,rfl⟩:∃ i,j=total (ms.take n)+i:=⟨j - total (ms.take n),by omega⟩
 have hl:total (ms.take n)+i < (zAK ms).length:=by
  rw [zDr]
  have a1:=zBZ hm
  have a2:=zB8 ms (n+1)
  omega
 have hv:(zAK ms)[total (ms.take n)+i]?=some ((zAK ms).getD (total (ms.take n)+i) zeroV):=by
  rw [List.getD_eq_getElem?_getD,List.getElem?_eq_getElem hl];rfl
 obtain ⟨x,hx,n',m',y',hm',hy',e',hk⟩:=zPC h hm (by omega) hv hi
 refine zMS ⟨n',hS n m x n' m' y' hs hm hx hm' hy' e',m',hm',?_⟩
 rcases hk with hk | hk<;>rw [hk]
 ·exact .inl ⟨rfl,rfl,rfl⟩
 ·exact .inr ⟨rfl,rfl,rfl⟩
theorem zJY {nm:ByteArray→Bool} (h:LinkOk nm ms) {s:ByteArray} (hs:∀ n m y,ms[n]?=some m→y∈m.ex→y.name=s→S n):zI3 (zU 0 0 ms) ms S s:=by
 intro e he
 by_cases hx:s∈zAG ms
 ·unfold zAG at hx
  obtain ⟨m,hm,h4⟩:=List.mem_flatMap.1 hx
  obtain ⟨y,hy,e'⟩:=List.mem_map.1 h4
  obtain ⟨n,hn⟩:=List.getElem?_of_mem hm
  have hf:=zFC h hn hy
  rw [e',he] at hf
  injection hf with hf
  exact ⟨n,m,y,hs n m y hn hy e',hn,hf⟩
 ·exfalso
  obtain ⟨h1,h2⟩:=zGC he
  apply hx
  have:∀ (l:List ModV) (b n:Nat),e∈zU b n l→e.name∈zAG l:=by
   intro l
   induction l with
   | nil=>intro b n h;simp [zU] at h
   | cons m l ih =>
    intro b n h
    rw [zU] at h
    unfold zAG
    rw [List.flatMap_cons]
    rcases List.mem_append.1 h with h | h
    ·obtain ⟨y,hy,rfl⟩:=List.mem_map.1 h
     exact List.mem_append_left _ (List.mem_map.2 ⟨y,hy,rfl⟩)
    ·exact List.mem_append_right _ (ih _ _ h)
  rw [←h2]
  exact this ms 0 0 h1
theorem zN2 {nm:ByteArray→Bool} (h:LinkOk nm ms) (hS:zC7 ms S) (hT:zC7 ms T) (hST:∀ n,S n→T n→False) {P:JobV→Prop} (hP:∀ x,P x→∀ n m y,ms[n]?=some m→y∈m.ex→y.name=x.name→T n) {js bs:List JobV} (hs:Split P js bs)
  (hB:∀ x∈bs,∀ n m y,ms[n]?=some m→y∈m.ex→y.name=x.name→S n) {x:JobV} (hx:∀ n m y,ms[n]?=some m→y∈m.ex→y.name=x.name→S n) :
  (doF (zCO (zU 0 0 ms) (zAK ms) bs) (zU 0 0 ms) x.name x.args x.fuel).1=(doF (zCO (zU 0 0 ms) (zAK ms) js) (zU 0 0 ms) x.name x.args x.fuel).1:=by
 have r:=zMe h.im_ok hST (zJV h hS) (zJV h hT) (fun y hy=>zJY h (hP y hy)) hs (fun y hy=>zJY h (hB y hy))
 exact (zGp (zDS h.im_ok) (zDS h.im_ok) r.invS r.alike (zJY h hx) x.args x.fuel).done
end
end
end Go.Proofs.YtlpejagkadalbaaGreatDoor
