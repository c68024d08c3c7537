import Derived.Test.YtlpejagkadalbaaGreatDoorZk39
set_option maxHeartbeats 40000000
set_option maxRecDepth 100000
set_option linter.unusedVariables false
set_option linter.unusedSimpArgs false
namespace Go.Proofs.YtlpejagkadalbaaGreatDoor
open El (cl)
open Go Go.RowKit Go.Shelf
theorem zMO {r:RdV} {n:Int} {s:List UInt8}:(zAW r n s).1.code.length≤r.code.length+1∧(zAW r n s).1.labels.length≤r.labels.length+1∧(zAW r n s).1.holes.length≤r.holes.length+1:=by
 unfold zAW zBa zAH
 repeat' split
 all_goals simp
theorem zEz:∀ (ls:List (List UInt8)) (r:RdV) (n:Nat),(zX r n ls).1.code.length≤r.code.length+ls.length∧(zX r n ls).1.labels.length≤r.labels.length+ls.length∧(zX r n ls).1.holes.length≤r.holes.length+ls.length
 | [],r,n=>⟨Nat.le_refl _,Nat.le_refl _,Nat.le_refl _⟩
 | s::ls,r,n=>by
  rw [zBl,List.length_cons]
  have h1:=zMO (r:=r) (n:=(n:Int)+1) (s:=s)
  split
  ·have h2:=zEz ls (zAW r ((n:Int)+1) s).1 (n+1)
   omega
  ·simp only;omega
theorem zJp {L:List (List UInt8)} {k:Nat} {x:List UInt8} (hx:L[k]?=some x) (hok:(zX rd0 0 (L.take k)).2.2=0) :
  (zX rd0 0 (L.take (k+1)))=(if (zAW (zX rd0 0 (L.take k)).1 ((k:Int)+1) x).2=0 then ((zAW (zX rd0 0 (L.take k)).1 ((k:Int)+1) x).1,0,0) else ((zAW (zX rd0 0 (L.take k)).1 ((k:Int)+1) x).1,(k:Int)+1,(zAW (zX rd0 0 (L.take k)).1 ((k:Int)+1) x).2)):=by
 have hk:k < L.length:=(List.getElem?_eq_some_iff.1 hx).1
 rw [List.take_add_one,hx]
 simp only [Option.toList_some]
 rw [zGx _ _ _ _ hok,List.length_take,Nat.min_eq_left (by omega),Nat.zero_add,zBl]
 split<;>rfl
theorem zK9 {L:List (List UInt8)} {k:Nat} (h:(zX rd0 0 (L.take k)).2.2≠0):zX rd0 0 L=zX rd0 0 (L.take k):=by
 conv=>lhs;rw [←List.take_append_drop k L]
 exact zGw _ _ _ _ h
theorem zG3:∀ (a b:List HoleV) (l:List NamV) (c:List Int),(zAY l c a).2.2=0→zAY l c (a++b)=zAY l (zAY l c a).1 b
 | [],b,l,c,_=>rfl
 | h::a,b,l,c,h0=>by
  rw [List.cons_append,zB2,zB2]
  rw [zB2] at h0
  by_cases h1:zBe l h.name < 0
  ·rw [if_pos h1] at h0;cases h0
  rw [if_neg h1] at h0
  rw [if_neg h1,if_neg h1]
  by_cases h2:zAE (h.filled l)=true
  ·rw [if_pos h2] at h0
   rw [if_pos h2,if_pos h2,zG3 a b l _ h0]
  ·rw [if_neg h2] at h0;cases h0
theorem zG2:∀ (a b:List HoleV) (l:List NamV) (c:List Int),(zAY l c a).2.2≠0→zAY l c (a++b)=zAY l c a
 | [],b,l,c,h=>absurd rfl h
 | h::a,b,l,c,h0=>by
  rw [List.cons_append,zB2,zB2]
  rw [zB2] at h0
  by_cases h1:zBe l h.name < 0
  ·rw [if_pos h1,if_pos h1]
  rw [if_neg h1] at h0
  rw [if_neg h1,if_neg h1]
  by_cases h2:zAE (h.filled l)=true
  ·rw [if_pos h2] at h0
   rw [if_pos h2,if_pos h2,zG2 a b l _ h0]
  ·rw [if_neg h2,if_neg h2]
theorem zJw {H:List HoleV} {l:List NamV} {c:List Int} {k:Nat} {x:HoleV} (hx:H[k]?=some x) (hok:(zAY l c (H.take k)).2.2=0) :
  zAY l c (H.take (k+1))=(if zBe l x.name < 0 then ((zAY l c (H.take k)).1,x.line,7) else if zAE (x.filled l)=true then ((zAY l c (H.take k)).1.set x.at_.toNat (zBC (x.filled l)),0,0) else ((zAY l c (H.take k)).1,x.line,13)):=by
 rw [List.take_add_one,hx]
 simp only [Option.toList_some]
 rw [zG3 _ _ _ _ hok,zB2]
 rfl
theorem zG1 {H:List HoleV} {l:List NamV} {c:List Int} {k:Nat} (h:(zAY l c (H.take k)).2.2≠0):zAY l c H=zAY l c (H.take k):=by
 conv=>lhs;rw [←List.take_append_drop k H]
 exact zG2 _ _ _ _ h
theorem zNt {l:List NamV} {s:ByteArray} {b:Int} (hl:∀ x∈l,0≤x.at_∧x.at_≤b) (hb:0≤b) : -1≤zBe l s∧zBe l s≤b:=by
 unfold zBe
 cases hf:l.find? (fun x=>decide (x.name=s)) with
 | none=>simp only;omega
 | some y=>have:=hl y (List.mem_of_find?_eq_some hf);simp only;omega
theorem zN4 {C:List Int} {m a:Nat} (h:C.length=m) (ha:a < m):(cls C)[a]?=some (.int .i64 (C[a]'(by omega))):=by
 have:=zC5 C a (by omega) 0 (by decide)
 simpa [El.k,cl] using this
theorem RdSt.apart {g:Nat} {r:RdV} {vc vl vh:Value} {W:World} (h:RdSt g r vc vl vh W):vc.ownBlock≠some W.heap.size∧vl.ownBlock≠some W.heap.size∧vh.ownBlock≠some W.heap.size :=
 ⟨fun e=>Nat.lt_irrefl _ (zBr h.c e).2,fun e=>Nat.lt_irrefl _ (zBr h.l e).2,fun e=>Nat.lt_irrefl _ (zBr h.h e).2⟩
theorem RdSt.far {g p:Nat} {r:RdV} {vc vl vh:Value} {W:World} (h:RdSt g r vc vl vh W) (ha:vc.ownBlock≠some p∧vl.ownBlock≠some p∧vh.ownBlock≠some p) (hg:g≠p) (i:Nat) (u:Value):RdSt g r vc vl vh (W.setCell ⟨p,i,none⟩ u) :=
 ⟨zU _ hg h.b,h.c.kept (zAb W p i u) (.inr ha.1),h.l.kept (zAb W p i u) (.inr ha.2.1),h.h.kept (zAb W p i u) (.inr ha.2.2)⟩
theorem RdSt.setAt {g gc m cc a:Nat} {C:List Int} {l:List NamV} {H:List HoleV} {vl vh:Value} {W:World} (h:RdSt g ⟨C,l,H⟩ (.slice (some ⟨gc,0,none⟩) m cc) vl vh W) (hm:C.length=m) (ha:a < m) (P:Int) :
  RdSt g ⟨C.set a P,l,H⟩ (.slice (some ⟨gc,0,none⟩) m cc) vl vh (W.setCell ⟨gc,a,none⟩ (.int .i64 P))∧g≤gc:=by
 subst hm
 have hc:=h.c
 simp only at hc
 obtain ⟨o1,o2⟩:=zHe (i:=a) (j:=0) (x:=C[a]) (y:=P) (u:=.int .i64 P) hc (List.getElem?_eq_getElem ha) (by decide) rfl
 have e:a*El.k Int+0=a:=by show a*1+0=a;omega
 rw [e] at o1 o2
 exact ⟨⟨zAR h.b hc (by decide) o2,o1,zAr h.l hc (by decide) o2,zAr h.h hc (by decide) o2⟩,(zBr hc rfl).1⟩
def zIO (w:World) (x:ReadV) (e:Ending) (w':World):Prop:=∃ vc vl,e=.returned (.tuple #[vc,vl,.int .i64 x.line,.int .i64 x.er])∧Own w' w.heap.size 3 vc x.code∧Own w' w.heap.size 91 vl x.labels∧Below w.heap.size w w'
theorem zEP (w w':World) (l e:Int) (x:ReadV) (hx:x=⟨[],[],l,e⟩) (hb:Below w.heap.size w w'):zIO w x (.returned (.tuple #[.slice none 0 0,.slice none 0 0,.int .i64 l,.int .i64 e])) w' :=
 ⟨_,_,by rw [hx],by rw [hx];exact Own.nil _ _ _,by rw [hx];exact Own.nil _ _ _,hb⟩
theorem zEK {w:World} {g:Nat} {T:TypeId} {v0 v1 v2 v3 v4 v5 v6:Value} (h:Bk w g T #[v0,v1,v2,v3,v4,v5,v6]):w.cell? ⟨g,0,none⟩=some v0∧w.cell? ⟨g,1,none⟩=some v1∧w.cell? ⟨g,2,none⟩=some v2∧w.cell? ⟨g,3,none⟩=some v3∧w.cell? ⟨g,4,none⟩=some v4∧w.cell? ⟨g,5,none⟩=some v5∧w.cell? ⟨g,6,none⟩=some v6:=⟨h.cell 0,h.cell 1,h.cell 2,h.cell 3,h.cell 4,h.cell 5,h.cell 6⟩
theorem zKi (s:ByteArray) (w:World) (he:PEnv w) (hs:s.size≤67108864):Calls Tryz.prog 64 #[.string s] w (zIO w (zEQ s.data.toList)):=by
 have sp:=zGl s 10 w he hs
 have hlen:=zCz 10 s.data.toList
 have hsz:s.data.toList.length=s.size:=rfl
 have hne:=splitC_ne 10 s.data.toList
 have hn1:=zDR 10 s.data.toList
 obtain ⟨L,hL⟩:∃ L,splitC 10 s.data.toList=L:=⟨_,rfl⟩
 rw [hL] at sp hlen hn1
 obtain ⟨n,hn⟩:∃ n,L.length=n:=⟨_,rfl⟩
 rw [hn] at sp hn1
 have SP:=zA sp
 have HE:=zA he
 clear sp he hne
 by_cases h150:150 < n
 ·have e:zEQ s.data.toList=⟨[],[],0,2⟩:=by unfold zEQ;rw [hL,if_pos (by omega)]
  have EE:=zA e
  have q1:(150:Int) < n:=by omega
  clear e hL hlen hn
  go_enter Tryz.func64,Tryz.ntmps64
  go_wp2_with (go_at_call 86;((with_reducible refine SP.out.mono ?_);rintro e w1 ⟨rfl,hc1,hb1⟩;have HC1:=zA hc1;have HB1:=zA hb1;clear hc1 hb1))
  refine bodyPost_ret (v:=.tuple #[.slice none 0 0,.slice none 0 0,.int .i64 0,.int .i64 2]) (by simp [results,Tryz.results64,go_sem];try rfl) rfl ?_
  exact zEP w _ 0 2 _ EE.out HB1.out
 have q1:¬((150:Int) < n):=by omega
 have hrd:zEQ s.data.toList=if (zX rd0 0 L).2.2≠0 then ⟨[],[],(zX rd0 0 L).2.1,(zX rd0 0 L).2.2⟩ else if (zAY (zX rd0 0 L).1.labels (zX rd0 0 L).1.code (zX rd0 0 L).1.holes).2.2≠0 then ⟨[],[],(zAY (zX rd0 0 L).1.labels (zX rd0 0 L).1.code (zX rd0 0 L).1.holes).2.1,(zAY (zX rd0 0 L).1.labels (zX rd0 0 L).1.code (zX rd0 0 L).1.holes).2.2⟩ else ⟨(zAY (zX rd0 0 L).1.labels (zX rd0 0 L).1.code (zX rd0 0 L).1.holes).1,(zX rd0 0 L).1.labels,0,0⟩:=by
  unfold zEQ;rw [hL,if_neg (by omega)]
 obtain ⟨gs,hgs⟩:∃ gs,w.heap.size=gs:=⟨_,rfl⟩
 have HRD:=zA hrd
 have HLEN:=zA hlen
 have HN:=zA hn
 clear hrd hlen hn hL
 go_enter Tryz.func64,Tryz.ntmps64
 go_upto_region 4 with (go_at_call 86;((with_reducible refine SP.out.mono ?_);rintro e w1 ⟨rfl,hc1,hb1⟩;have HC1:=zA hc1;have HB1:=zA hb1;clear hc1 hb1))
 rw [hgs] at HC1
 try rw [hgs]
 obtain ⟨g,hg⟩:∃ g,w1.heap.size=g:=⟨_,rfl⟩
 obtain ⟨w2,hw2⟩:∃ w2,w2=w1.alloc (.cells #[.slice none 0 0,.slice none 0 0,.slice none 0 0] 176):=⟨_,rfl⟩
 have s2:RdSt g rd0 (.slice none 0 0) (.slice none 0 0) (.slice none 0 0) w2:=by
  rw [hw2,←hg]
  exact ⟨zM _ _ _,Own.nil _ _ _,Own.nil _ _ _,Own.nil _ _ _⟩
 have b12:Below w1.heap.size w1 w2:=by rw [hw2];exact zG (Below.refl _ _) _
 have b2:Below w.heap.size w w2:=zI HB1.out b12
 have hgsg:w.heap.size≤g:=by rw [←hg];exact HB1.out.size
 have lc:∀ W,Below g w2 W→∀ k x,L[k]?=some x→W.cell? ⟨gs,k,none⟩=some (.string ⟨x.toArray⟩):=fun W hW k x hx=>by
  have h1:=HC1.out k x hx
  have hlt:=World.block_lt_of_cell? w1 _ h1
  rw [hW.cell (p:=⟨gs,k,none⟩) (by rw [←hg];exact hlt),b12.cell (p:=⟨gs,k,none⟩) hlt]
  exact h1
 have HW2:=zA hw2
 have S2:=zA s2
 have B2:=zA b2
 have LC:=zA lc
 have HG:=zA hg
 clear hw2 s2 b12 b2 lc hg
 go_upto_region 5 with (fail)
 rw [←HW2.out,HG.out]
 go_wp2
 go_loopw [25] (fun i wr=>∃ (k:Nat) (vc vl vh:Value),k≤n∧i=.int .i64 k∧(zX rd0 0 (L.take k)).2.2=0∧RdSt g (zX rd0 0 (L.take k)).1 vc vl vh wr∧Below g w2 wr) (fun i _=>n - (intOf i).toNat)
 case atStart=>exact ⟨0,_,_,_,Nat.zero_le _,rfl,rfl,S2.out,Below.refl _ _⟩
 case round =>
  obtain ⟨k,vc,vl,vh,hk,rfl,hok,hst,hb⟩:=hrel
  by_cases hlt:k < n
  ·have q2:(0:Int)≤k:=by omega
   have q3:(k:Int) < n:=by omega
   obtain ⟨x,hx⟩:∃ x,L[k]?=some x:=⟨_,List.getElem?_eq_getElem (by have:=HN.out;omega)⟩
   have ce:=LC.out wr hb k x hx
   have hxl:=HLEN.out x (List.mem_of_getElem? hx)
   obtain ⟨y,hy⟩:∃ y:ByteArray,(⟨x.toArray⟩:ByteArray)=y:=⟨_,rfl⟩
   have hyd:y.data.toList=x:=by rw [←hy]
   have hys:y.size≤67108864:=by
    have h1:y.size=y.data.toList.length:=rfl
    rw [h1,hyd];omega
   rw [hy] at ce
   have hll:=zEz (L.take k) rd0 0
   have htk:(L.take k).length≤k:=by rw [List.length_take];omega
   have hltk:=zJp hx hok
   obtain ⟨r,hr⟩:∃ r,(zX rd0 0 (L.take k)).1=r:=⟨_,rfl⟩
   rw [hr] at hst hll hltk
   simp only [rd0,List.length_nil] at hll
   have hew:PEnv wr:=HE.out.below (B2.out.trans (hb.mono hgsg))
   have lr:=zKg g r vc vl vh ((k:Int)+1) y wr hst hew hys (by omega) (by omega) (by omega)
   rw [hyd] at lr
   obtain ⟨r',hr'⟩:∃ r',(zAW r ((k:Int)+1) x).1=r':=⟨_,rfl⟩
   obtain ⟨er,her⟩:∃ er,(zAW r ((k:Int)+1) x).2=er:=⟨_,rfl⟩
   rw [hr',her] at lr hltk
   have LR:=zA lr
   have HB:=zA hb
   have HTK:=zA hltk
   have wr1:IntKind.i64.wrap ((k:Int)+1)=(k:Int)+1:=IntWalk.i64_in _ ⟨by omega,by omega⟩
   have gsL:gs < wr.heap.size:=World.block_lt_of_cell? wr _ ce
   clear lr hb hltk hll htk hew hst hr' her hys hyd hy hxl hx hr
   by_cases h0:er=0
   ·subst h0
    have ht:=HTK.out
    rw [if_pos rfl] at ht
    have HT:=zA ht
    clear ht hok
    go_wp2_with (go_at_call 87;((with_reducible refine LR.out.mono ?_);rintro e w3 ⟨rfl,⟨vc',vl',vh',hst'⟩,hb'⟩;have S3:=zA hst';have HB3:=zA (HB.out.trans hb');clear hst' hb'))
    go_roundw
    case rel=>exact ⟨k+1,vc',vl',vh',by omega,by go_num,by rw [HT.out],by rw [HT.out];exact S3.out,HB3.out⟩
    case measure=>simp [intOf];omega
   ·have q4:(er != 0)=true:=by simpa using h0
    have q5:(er==0)=false:=by simpa using h0
    have ht:=HTK.out
    rw [if_neg h0] at ht
    have h2:(zX rd0 0 (L.take (k+1))).2.2≠0:=by rw [ht];exact h0
    have h3:=HRD.out
    rw [zK9 h2,ht,if_pos (by exact h0)] at h3
    have H3:=zA h3
    clear ht hok h2 h3 h0
    go_wp2_with (go_at_call 87;((with_reducible refine LR.out.mono ?_);rintro e w3 ⟨rfl,⟨vc',vl',vh',hst'⟩,hb'⟩;have S3:=zA hst';have HB3:=zA (HB.out.trans hb');clear hst' hb'))
    refine bodyPost_ret (v:=.tuple #[.slice none 0 0,.slice none 0 0,.int .i64 ((k:Int)+1),.int .i64 er]) (by simp [results,Tryz.results64,go_sem];try rfl) rfl ?_
    exact zEP w _ _ _ _ H3.out (B2.out.trans (HB3.out.mono hgsg))
  ·have q3:¬((k:Int) < n):=by omega
   rw [List.take_of_length_le (by have:=HN.out;omega)] at hok hst
   have hinv:=zGv L rd0 0 zNV hok
   have hll:=zEz L rd0 0
   have hrd:=HRD.out
   rw [if_neg (by rw [hok];simp)] at hrd
   clear HRD LC HC1 HLEN
   obtain ⟨r,hr⟩:∃ r,(zX rd0 0 L).1=r:=⟨_,rfl⟩
   rw [hr] at hst hinv hll hrd
   simp only [rd0,List.length_nil] at hll
   have HLL:=zA (show r.code.length≤150∧r.labels.length≤150∧r.holes.length≤150 by have:=HN.out;omega)
   clear hll hr hok
   have HRD:=zA hrd
   have HI:=zA hinv
   have HB:=zA hb
   clear hrd hinv hb
   obtain ⟨C0,l,H⟩:=r
   obtain ⟨ca,cc,rfl,_,_⟩:=hst.c.sl
   obtain ⟨m,hm⟩:∃ m,C0.length=m:=⟨_,rfl⟩
   obtain ⟨ha,hc,rfl,hsl,_⟩:=hst.h.sl
   obtain ⟨mh,hmh⟩:∃ mh,H.length=mh:=⟨_,rfl⟩
   try simp only at hst
   try simp only at hsl
   rw [hm,hmh] at hst
   rw [hmh] at hsl
   have HM:=zA hm
   have HMH:=zA hmh
   have SW:=zA hst
   have HSL:=zA hsl
   clear hm hmh hst hsl
   obtain ⟨c0,c1,c2⟩:=zAP SW.out.b
   have gL:=SW.out.b.lt
   go_wp2
   clear c0 c1 c2 gL
   obtain ⟨W7,rfl⟩:∃ W7,wr=W7:=⟨_,rfl⟩
   go_loopw [46] (fun i wr=>∃ k:Nat,k≤mh∧i=.int .i64 k∧(zAY l C0 (H.take k)).2.2=0∧RdSt g ⟨(zAY l C0 (H.take k)).1,l,H⟩ (.slice ca m cc) vl (.slice ha mh hc) wr∧Below g w2 wr) (fun i _=>mh - (intOf i).toNat)
   case atStart=>exact ⟨0,Nat.zero_le _,rfl,rfl,SW.out,HB.out⟩
   case round =>
    obtain ⟨k,hk,rfl,hok,hst,hb⟩:=hrel
    obtain ⟨C,hC⟩:∃ C,(zAY l C0 (H.take k)).1=C:=⟨_,rfl⟩
    rw [hC] at hst
    have hCl:C.length=m:=by rw [←hC,zG0];exact HM.out
    have HB:=zA hb
    by_cases hlt:k < mh
    ·have q2:(0:Int)≤k:=by omega
     have q3:(k:Int) < mh:=by omega
     obtain ⟨x,hx⟩:∃ x,H[k]?=some x:=⟨_,List.getElem?_eq_getElem (by have:=HMH.out;omega)⟩
     obtain ⟨ao,c',e',hsl2,_⟩:=hst.h.sl
     injection e' with e1 e2 e3
     subst e1
     clear e2 e3
     rw [show (RdV.mk C l H).holes.length=mh from HMH.out] at hsl2
     obtain ⟨ad,hao,hab,e0,e1,e2',e3',e4,e5,e6⟩:=zLp hsl2 hlt hx
     subst hao
     have hmem:=List.mem_of_getElem? hx
     have hat:0≤x.at_∧x.at_ < (C0.length:Int):=HI.out.h1 x hmem
     rw [show C0.length=m from HM.out] at hat
     have htk:=zJw hx hok
     rw [hC] at htk
     have hfb:=zNt (l:=l) (s:=x.name) (b:=m) (fun y hy=>by have h8:=HI.out.l1 y hy;have h9:y.at_≤(C0.length:Int):=h8.2.2;rw [show C0.length=m from HM.out] at h9;exact ⟨h8.2.1,h9⟩) (by omega)
     have hmh150:mh≤150:=by have h9:H.length≤150:=HLL.out.2.2;rw [show H.length=mh from HMH.out] at h9;exact h9
     have hm150:m≤150:=by have h9:C0.length≤150:=HLL.out.1;rw [show C0.length=m from HM.out] at h9;exact h9
     obtain ⟨hl,ha',⟨io,ia,ib,ic⟩,nm⟩:=x
     try simp only at hat
     try simp only at htk
     try simp only at hfb
     try simp only at e0
     try simp only at e1
     try simp only at e2'
     try simp only at e3'
     try simp only at e4
     try simp only at e5
     try simp only at e6
     try simp only at hmem
     obtain ⟨a,rfl⟩:=Int.eq_ofNat_of_zero_le hat.1
     have ham:a < m:=by omega
     obtain ⟨tz,hto⟩:∃ tz,zBe l nm=tz:=⟨_,rfl⟩
     rw [show HoleV.filled ⟨hl,(a:Int),⟨io,ia,ib,ic⟩,nm⟩ l=⟨io,ia,ib,tz - (a:Int)⟩ by unfold HoleV.filled;rw [←hto],Int.toNat_natCast] at htk
     obtain ⟨w5,hw5⟩:∃ w5,w5=wr.alloc (.cells #[.int .i64 hl,.int .i64 (a:Int),.int .i64 io,.int .i64 ia,.int .i64 ib,.int .i64 ic,.string nm] 181):=⟨_,rfl⟩
     obtain ⟨gx,hgx⟩:∃ gx,gx=wr.heap.size:=⟨_,rfl⟩
     have b5:Below wr.heap.size wr w5:=by rw [hw5];exact zG (Below.refl _ _) _
     have x5:Bk w5 gx 181 #[.int .i64 hl,.int .i64 (a:Int),.int .i64 io,.int .i64 ia,.int .i64 ib,.int .i64 ic,.string nm]:=by rw [hw5,hgx];exact zM _ _ _
     have s5:=hst.below b5
     have ggx:g < gx:=by rw [hgx];exact hst.b.lt
     have hap:=hst.apart
     rw [←hgx] at hap
     have HAP:=zA hap
     clear hap
     have u5:Below g w2 w5:=HB.out.trans (b5.mono hst.gle)
     have fi:=zD3 g ⟨C,l,H⟩ _ _ _ nm w5 s5
     simp only [hto] at fi htk hfb
     have FI:=zA fi
     have HW5:=zA hw5
     have HGX:=zA hgx
     have X5:=zA x5
     have S5:=zA s5
     have U5:=zA u5
     have HTK:=zA htk
     clear fi hw5 hgx b5 x5 s5 u5 htk hst hb hsl2 hmem hx
     go_upto_region 15 with (fail)
     rw [←HW5.out,←HGX.out]
     clear e0 e1 e2' e3' e4 e5 e6 hab
     obtain ⟨y0,y1,y2,y3,y4,y5,y6⟩:=zEK X5.out
     have yL:=X5.out.lt
     go_upto_region 16 with (go_at_call 88;((with_reducible refine FI.out.mono ?_);rintro e w6 ⟨rfl,hb6⟩;have X6:=zA (zH hb6 X5.out);have S6:=zA (S5.out.below hb6);have U6:=zA (U5.out.trans (hb6.mono S5.out.gle));clear hb6))
     clear y0 y1 y2 y3 y4 y5 y6 yL
     obtain ⟨y0,y1,y2,y3,y4,y5,y6⟩:=zEK X6.out
     have yL:=X6.out.lt
     have yF:=fun i=>X6.out.frozen i
     by_cases h0:tz < 0
     ·have ht:=HTK.out
      rw [if_pos h0] at ht
      have h2:(zAY l C0 (H.take (k+1))).2.2≠0:=by rw [ht];show (7:Int)≠0;decide
      have h3:=HRD.out
      rw [zG1 h2,ht,if_pos (show (7:Int)≠0 by decide)] at h3
      have H3:=zA h3
      clear ht h2 h3 hok hC
      go_upto_region 17 with (fail)
      go_quiet (fail)
      go_wp2
      refine bodyPost_ret (v:=.tuple #[.slice none 0 0,.slice none 0 0,.int .i64 hl,.int .i64 7]) (by simp [results,Tryz.results64,go_sem];try rfl) rfl ?_
      exact zEP w _ _ _ _ H3.out (zBE (B2.out.trans (U6.out.mono hgsg)) _)
     ·have hwr:IntKind.i64.wrap (tz - (a:Int))=tz - (a:Int):=IntWalk.i64_in _ ⟨by omega,by omega⟩
      have pk:=fun W (hW:Tab W)=>zCx io ia ib (tz - (a:Int)) W hW
      have ht:=HTK.out
      rw [if_neg h0] at ht
      obtain ⟨v,hv⟩:∃ v,tz - (a:Int)=v:=⟨_,rfl⟩
      rw [hv] at ht
      simp only [hv] at pk
      obtain ⟨w7,hw7⟩:∃ w7,w7=w6.setCell ⟨gx,5,none⟩ (.int .i64 v):=⟨_,rfl⟩
      have X7:=zA (show Bk w7 gx 181 #[.int .i64 hl,.int .i64 (a:Int),.int .i64 io,.int .i64 ia,.int .i64 ib,.int .i64 v,.string nm] by rw [hw7];exact zT X6.out rfl)
      have S7:=zA (show RdSt g ⟨C,l,H⟩ (.slice ca m cc) vl (.slice (some ad) mh hc) w7 by rw [hw7];exact S6.out.far HAP.out (by omega) _ _)
      have U7:=zA (show Below g w2 w7 by rw [hw7];exact U6.out.setCell (by show g≤gx;omega) _)
      have HW7:=zA hw7
      clear hw7
      go_upto_region 19 with (fail)
      try rw [show tz - (a:Int)=v from hv]
      rw [←HW7.out]
      clear y0 y1 y2 y3 y4 y5 y6 yL yF
      obtain ⟨y0,y1,y2,y3,y4,y5,y6⟩:=zEK X7.out
      have yL:=X7.out.lt
      have hew:PEnv w7:=HE.out.below (B2.out.trans (U7.out.mono hgsg))
      have PK:=zA (pk w7 hew.asc)
      clear pk hew
      cases hk:zAE ⟨io,ia,ib,v⟩
      ·rw [hk] at PK
       simp only [hk,Bool.false_eq_true,if_false] at ht
       have h2:(zAY l C0 (H.take (k+1))).2.2≠0:=by rw [ht];show (13:Int)≠0;decide
       have h3:=HRD.out
       rw [zG1 h2,ht,if_pos (show (13:Int)≠0 by decide)] at h3
       have H3:=zA h3
       simp only [Bool.false_eq_true,if_false] at PK
       clear ht h2 h3 hok hC hk
       go_upto_region 20 with (go_at_call 89;((with_reducible refine PK.out.mono ?_);rintro e w8 ⟨rfl,hb8⟩;have X8:=zA (zH hb8 X7.out);have U8:=zA (U7.out.trans (hb8.mono S7.out.gle));clear hb8))
       clear y0 y1 y2 y3 y4 y5 y6 yL
       obtain ⟨y0,y1,y2,y3,y4,y5,y6⟩:=zEK X8.out
       have yL:=X8.out.lt
       go_upto_region 21 with (fail)
       go_quiet (fail)
       go_wp2
       refine bodyPost_ret (v:=.tuple #[.slice none 0 0,.slice none 0 0,.int .i64 hl,.int .i64 13]) (by simp [results,Tryz.results64,go_sem];try rfl) rfl ?_
       exact zEP w _ _ _ _ H3.out (zBE (B2.out.trans (U8.out.mono hgsg)) _)
      ·rw [hk] at PK
       simp only [hk,if_true] at ht
       simp only [if_true] at PK
       obtain ⟨P,hP⟩:∃ P,zBC ⟨io,ia,ib,v⟩=P:=⟨_,rfl⟩
       rw [hP] at PK ht
       have HT:=zA ht
       clear ht hok hC hk hP
       go_upto_region 20 with (go_at_call 89;((with_reducible refine PK.out.mono ?_);rintro e w8 ⟨rfl,hb8⟩;have X8:=zA (zH hb8 X7.out);have S8:=zA (S7.out.below hb8);have U8:=zA (U7.out.trans (hb8.mono S7.out.gle));clear hb8))
       clear y0 y1 y2 y3 y4 y5 y6 yL
       obtain ⟨y0,y1,y2,y3,y4,y5,y6⟩:=zEK X8.out
       have yL:=X8.out.lt
       obtain ⟨gc,cap,e',_,_,hslc,hfc⟩:=Own.some S8.out.c (by simp only;omega)
       injection e' with e1 e2 e3
       subst e1
       clear e2 e3
       obtain ⟨z0,z1,z2⟩:=zAP S8.out.b
       have zL:=S8.out.b.lt
       have gcL:gc < w8.heap.size:=(zBr S8.out.c rfl).2
       have q7:(0:Int)≤(a:Int):=by omega
       have q8:(a:Int) < (m:Int):=by omega
       obtain ⟨so,hgc⟩:=S8.out.setAt hCl ham P
       have SO:=zA so.drew
       have UO:=zA (show Below g w2 (w8.setCell ⟨gc,a,none⟩ (.int .i64 P)).drew from (U8.out.setCell (by show g≤gc;omega) _).drew)
       obtain ⟨cx,hcx⟩:∃ cx,w8.cell? ⟨gc,a,none⟩=some cx:=by
        obtain ⟨a0,e0,hb0,hcc⟩:=hslc.row (by simp only;omega)
        injection e0 with e0
        subst e0
        exact ⟨.int .i64 C[a],by have:=hcc a (.int .i64 C[a]) (by rw [zN4 hCl ham]);rwa [Addr.add_lit,Nat.zero_add] at this⟩
       clear so hslc hgc
       go_upto_region 22 with (fail)
       go_region
       go_wp2
       go_roundw
       case rel=>exact ⟨k+1,by omega,by go_num,by rw [HT.out],by rw [HT.out];exact SO.out,UO.out⟩
       case measure=>simp [intOf];omega
    ·have q3:¬((k:Int) < mh):=by omega
     rw [List.take_of_length_le (by have:=HMH.out;omega)] at hok hC
     have h3:=HRD.out
     try simp only at h3
     rw [if_neg (by rw [hok];simp),hC] at h3
     have H3:=zA h3
     clear h3 hok hC
     obtain ⟨la,lN,lc,rfl⟩:=zAN hst.l
     obtain ⟨c0,c1,c2⟩:=zAP hst.b
     have gL:=hst.b.lt
     have fc:=hst.c.mono hgsg
     have fl:=hst.l.mono hgsg
     have FC:=zA fc
     have FL:=zA fl
     clear hst hb fc fl
     go_upto_region 24 with (fail)
     go_quiet (fail)
     go_wp2
     refine bodyPost_ret (v:=.tuple #[(.slice ca m cc),(.slice la lN lc),.int .i64 0,.int .i64 0]) (by simp [results,Tryz.results64,go_sem];try rfl) rfl ?_
     exact ⟨_,_,by rw [H3.out],by rw [H3.out];exact FC.out.below (zBE (Below.refl _ _) _),by rw [H3.out];exact FL.out.below (zBE (Below.refl _ _) _),zBE (B2.out.trans (HB.out.mono hgsg)) _⟩
end Go.Proofs.YtlpejagkadalbaaGreatDoor
