import Derived.Test.YtlpejagkadalbaaGreatDoorQk33
set_option maxHeartbeats 40000000
set_option maxRecDepth 100000
set_option linter.unusedVariables false
set_option linter.unusedSimpArgs false
namespace Go.Proofs.YtlpejagkadalbaaGreatDoor
section
open El (cl)
open Go Go.RowKit Go.Shelf
attribute [local go_sem] Oper.semAt_some
def MV.places (m:MV):Nat→List Int
 | 0=>[]
 | f+1=>if m.err=0 then m.c.at_::m.after.places f else []
theorem zLc (f:Nat):∀ m:MV,(m.places f).length=(m.run f).2.1:=by
 induction f with
 | zero=>intro m;rfl
 | succ f ih =>
  intro m
  by_cases he:m.err=0
  ·rw [zGc he]
   show (if m.err=0 then m.c.at_::m.after.places f else []).length=_
   rw [if_pos he,List.length_cons,ih]
  ·rw [(zGb he).1]
   show (if m.err=0 then m.c.at_::m.after.places f else []).length=_
   rw [if_neg he]
   rfl
theorem zOk (gm ge gA gB gC:Nat) (J:List Int→MV→Int→World→Prop) (n l fu:Nat) (hn:1≤n)
  (on:∀ (L:List Int) (mk:MV),mk.Ok→∀ W,J L mk 0 W→Calls Tryz.prog 71 #[.pointer (some ⟨gm,0,none⟩)] W fun r W'=>r=.returned (.int .i64 mk.err)∧J L mk.after 0 W')
  (er:∀ (L:List Int) (mk:MV) W (e:Int),J L mk e W→∀ e':Int,J L mk e' (W.setCell ⟨ge,0,none⟩ (.int .i64 e')))
  (dr:∀ (L:List Int) (mk:MV) W,J L mk 0 W→J L mk 0 W.drew)
  (cl:∀ (L:List Int) (mk:MV) (e:Int) W,J L mk e W→W.cell? ⟨gA,0,none⟩=some (.int .i64 fu)∧W.cell? ⟨gB,0,none⟩=some (.pointer (some ⟨gm,0,none⟩))∧W.cell? ⟨gC,0,none⟩=some (.pointer (some ⟨ge,0,none⟩))∧W.cell? ⟨ge,0,none⟩=some (.int .i64 e)∧W.cell? ⟨gm,59,none⟩=some (.int .i64 mk.c.at_)∧W.frozen? ⟨ge,0,none⟩=false)
  (hY:∀ (L:List Int) (mk:MV) (at_:Int) (W:World),L.length < fu→J L mk 0 W→YieldAt Fence.wide (n - 1) Tryz.prog l #[.int .i64 at_] W fun e W'=>e=.returned (.bool true)∧J (L++[at_]) mk 0 W')
  (hfu:fu≤5000) (m:MV) (hok:m.Ok) (W:World) (h0:J [] m 0 W) :
  CallsIn Fence.wide n Tryz.prog 70 #[.func (.yield l) #[] #[],.pointer (some ⟨gA,0,none⟩),.pointer (some ⟨gB,0,none⟩),.pointer (some ⟨gC,0,none⟩)] W fun e W' =>
   (∃ v,e=.returned v)∧∃ e',J (m.places fu) (m.run fu).1 e' W':=by
 obtain ⟨f0,_⟩:=cl [] m 0 W h0
 have HY:=zA hY
 have ON:=zA on
 have ER:=zA er
 have DR:=zA dr
 have CL:=zA cl
 have H0:=zA h0
 clear hY on er dr cl h0
 refine callsIn_of_wp Tryz.func70 rfl trivial ?_ rfl
 simp only [Tryz.ntmps70,List.size_toArray,List.length_cons,List.length_nil,Nat.reduceAdd,Nat.reduceSub,Array.replicate_succ,Array.replicate_zero,List.push_toArray,List.append_toArray,List.nil_append,List.cons_append]
 gi_wp2
 gi_loopw [7] (fun p wr=>∃ (L:List Int) (mk:MV),p=.int .i64 L.length∧L.length≤fu∧mk.Ok∧J L mk 0 wr∧(m.run fu).1=(mk.run (fu - L.length)).1∧m.places fu=L++mk.places (fu - L.length)) (fun i _=>fu - (intOf i).toNat)
 case atStart=>exact ⟨[],m,rfl,Nat.zero_le _,hok,H0.out,rfl,rfl⟩
 case round =>
  obtain ⟨L,mk,rfl,hk,hmk,hs,hrun,hpl⟩:=hrel
  obtain ⟨b1,b2,b3,b4,b5,b6⟩:=CL.out L mk 0 _ hs
  obtain ⟨k,hkl⟩:∃ k,L.length=k:=⟨_,rfl⟩
  rw [hkl] at hk hrun hpl ⊢
  have HKL:=zA hkl
  clear hkl
  by_cases hlt:k < fu
  ·have q1:(k:Int) < fu:=by omega
   have HS:=zA hs
   have HRUN:=zA hrun
   have HPL:=zA hpl
   clear hs hrun hpl
   gi_wp2
   gi_region_with (refine ⟨trivial,?_⟩;gi_at_call 71;refine (callsIn_wide.2 (ON.out L mk hmk _ (by first | exact HS.out | exact DR.out _ _ _ HS.out))).mono ?_;rintro e w' ⟨rfl,hr⟩;obtain ⟨d1,d2,d3,d4,d5,d6⟩:=CL.out L _ 0 _ hr;have HR:=zA hr;clear hr)
   all_goals
    have h5:=ER.out L _ _ _ HR.out mk.err
    obtain ⟨e1,e2,e3,e4,e5,e6⟩:=CL.out L mk.after mk.err _ h5
    obtain ⟨w5,hw5⟩:∃ w5,w5=w'.setCell ⟨ge,0,none⟩ (.int .i64 mk.err):=⟨_,rfl⟩
    rw [←hw5] at h5 e1 e2 e3 e4 e5 e6 ⊢
    clear hw5 d1 d2 d3 d4 d5 d6 b1 b2 b3 b4 b5 b6 HR f0
    by_cases he:mk.err=0
    ·rw [he] at h5 e4 ⊢
     obtain ⟨fn,tmps,assign,body,hy,hR⟩:=HY.out L mk.after mk.c.at_ w5 (by rw [HKL.out];exact hlt) h5
     have hfin:(m.run fu).1=(mk.after.run (fu - (k+1))).1:=by
      rw [HRUN.out,show fu - k=(fu - (k+1))+1 by omega,zGc he]
     have hpin:m.places fu=(L++[mk.c.at_])++mk.after.places (fu - (k+1)):=by
      rw [HPL.out,show fu - k=(fu - (k+1))+1 by omega,List.append_assoc]
      show L++(if mk.err=0 then mk.c.at_::mk.after.places (fu - (k+1)) else [])=_
      rw [if_pos he]
      rfl
     have hok':=zJ3 hmk
     have HFIN:=zA hfin
     have HPIN:=zA hpin
     have HR2:=zA hR
     clear h5 he hfin hpin hR
     gi_wp2
     refine HR2.out.mono ?_
     rintro e W6 ⟨rfl,h6⟩
     have H6:=zA h6
     clear h6
     gi_wp2
     go_roundw
     case rel=>exact ⟨L++[mk.c.at_],mk.after,by rw [List.length_append,HKL.out];go_num,by rw [List.length_append,HKL.out];simp;omega,hok',H6.out,by rw [List.length_append,HKL.out];exact HFIN.out,by rw [List.length_append,HKL.out];exact HPIN.out⟩
     case measure=>simp [intOf];omega
    ·have g1:(mk.err != 0)=true:=by simpa using he
     have H5:=zA h5
     have HE:=zA he
     clear h5 he
     gi_wp2
     refine ⟨fun _ h=>(by cases h),?_⟩
     gi_wp2
     refine bodyPost_ret (results_none rfl _ _ _) rfl ?_
     have hst:=zGb (f:=fu - k - 1) HE.out
     have hpin:m.places fu=L:=by
      rw [HPL.out,show fu - k=(fu - k - 1)+1 by omega]
      show L++(if mk.err=0 then mk.c.at_::mk.after.places (fu - k - 1) else [])=_
      rw [if_neg HE.out,List.append_nil]
     rw [hpin,HRUN.out,show fu - k=(fu - k - 1)+1 by omega,hst.1]
     have:=H5.out
     rw [hst.2] at this
     exact ⟨⟨_,rfl⟩,_,this⟩
  ·have q1:¬((k:Int) < fu):=by omega
   obtain rfl:k=fu:=by omega
   have h5:=ER.out L _ _ _ hs 15
   rw [Nat.sub_self] at hrun hpl
   have H5:=zA h5
   have HRUN:=zA hrun
   have HPL:=zA hpl
   clear h5 hrun hs hpl
   gi_wp2
   go_end0
   rw [HRUN.out,HPL.out]
   refine ⟨⟨_,rfl⟩,15,?_⟩
   show J (L++[]) mk 15 _
   rw [List.append_nil]
   exact H5.out
end
section
open Go.RowKit
def MV.at_ (m:MV):Nat→MV
 | 0=>m
 | i+1=>(m.at_ i).after
end
section
open Go Go.RowKit Go.Shelf
structure PlSt (w0:World) (b:RunB) (L:List Int) (m:MV) (e:Int) (W:World):Prop where
 ms:∃ vm vs vo vl,MS b.base b.gm vm vs vo m W∧(¬mS b.gm vm vs vo b.gn∧¬mS b.gm vm vs vo b.gA∧¬mS b.gm vm vs vo b.gB∧¬mS b.gm vm vs vo b.gC)∧Bk W b.gn 36 #[vl]∧Own W w0.heap.size 3 vl L∧∀ g,vl.ownBlock=some g→¬mS b.gm vm vs vo g∧g≠b.gA
 e:Bk W b.ge 29 #[.int .i64 e]
 A:Bk W b.gA 3 #[.int .i64 b.f]
 B:Bk W b.gB 111 #[.pointer (some ⟨b.gm,0,none⟩)]
 C:Bk W b.gC 112 #[.pointer (some ⟨b.ge,0,none⟩)]
 below:Below w0.heap.size w0 W
 ne:w0.heap.size≤b.gm∧w0.heap.size≤b.ge∧w0.heap.size≤b.gn∧w0.heap.size≤b.base∧b.base≤b.gn
section
variable {w0:World} {b:RunB} {L:List Int} {m:MV} {e:Int} {W:World}
theorem PlSt.putObj (h:PlSt w0 b L m e W) {l:Nat} {o o':Obj} (hl:W.heap[l]?=some o) (ho:o.isCells=false) (hb:w0.heap.size≤l):PlSt w0 b L m e (W.putObj l o'):=by
 obtain ⟨vm,vs,vo,vl,h1,h2,h3,h4,h5⟩:=h.ms
 refine ⟨⟨vm,vs,vo,vl,zIL h1 hl ho,h2,zBl h3 hl ho,(Fr.putObj hl).own h4 (fun g hg eq=>?_),h5⟩,zBl h.e hl ho,zBl h.A hl ho,zBl h.B hl ho,zBl h.C hl ho,(Fr.putObj hl).below h.below (fun i hi=>by omega),h.ne⟩
 obtain ⟨_,_,hbk⟩:=zFj h4 hg
 exact zBg hbk hl ho eq
theorem PlSt.drew (h:PlSt w0 b L m e W):PlSt w0 b L m e W.drew:=by
 obtain ⟨vm,vs,vo,vl,h1,h2,h3,h4,h5⟩:=h.ms
 have hf:=Fr.drew (fun _=>False) W
 exact ⟨⟨vm,vs,vo,vl,h1.fr hf (fun _ _ h=>h),h2,hf.bk h3 id,hf.own h4 (fun _ _ h=>h),h5⟩,hf.bk h.e id,hf.bk h.A id,hf.bk h.B id,hf.bk h.C id,hf.below h.below (fun _ h=>h.elim),h.ne⟩
theorem PlSt.err (h:PlSt w0 b L m e W) (e':Int):PlSt w0 b L m e' (W.setCell ⟨b.ge,0,none⟩ (.int .i64 e')):=by
 obtain ⟨vm,vs,vo,vl,h1,h2,h3,h4,h5⟩:=h.ms
 have hf:Fr (fun j=>j=b.ge) W (W.setCell ⟨b.ge,0,none⟩ (.int .i64 e')):=Fr.setCell W (p:=⟨b.ge,0,none⟩) (S:=fun j=>j=b.ge) rfl _
 have hm:=h1.not h.e (by decide) (by decide) (by decide) (by decide)
 exact ⟨⟨vm,vs,vo,vl,h1.fr hf (fun j hj e=>hm (e▸hj)),h2,hf.bk h3 (zCW h3 h.e (by decide)),hf.own h4 (fun g hg eq=>zBJ h4 h.e (by decide) (by rw [hg,eq])),h5⟩,zGs h.e _,hf.bk h.A (zCW h.A h.e (by decide)),hf.bk h.B (zCW h.B h.e (by decide)),hf.bk h.C (zCW h.C h.e (by decide)),hf.below h.below (fun i hi=>by have:=h.ne.2.1;omega),h.ne⟩
theorem PlSt.stepped (h:PlSt w0 b L m e W) {vm vs vo vl:Value} (h1:MS b.base b.gm vm vs vo m W) (h2:¬mS b.gm vm vs vo b.gn∧¬mS b.gm vm vs vo b.gA∧¬mS b.gm vm vs vo b.gB∧¬mS b.gm vm vs vo b.gC) (h3:Bk W b.gn 36 #[vl]) (h4:Own W w0.heap.size 3 vl L) (h5:∀ g,vl.ownBlock=some g→¬mS b.gm vm vs vo g∧g≠b.gA)
  {m':MV} {vs' vo':Value} {W':World} (hm:MS b.base b.gm vm vs' vo' m' W') (hf:Fr (mS b.gm vm vs vo) W W') (n1:NewB vs vs' W) (n2:NewB vo vo' W):PlSt w0 b L m' e W':=by
 have hn:∀ j,¬mS b.gm vm vs vo j→j < W.heap.size→¬mS b.gm vm vs' vo' j:=by
  intro j hj hl hk
  rcases hk with hk | hk | hk | hk
  ·exact hj (.inl hk)
  ·exact hj (.inr (.inl hk))
  ·rcases n1 j hk with h | h
   ·exact hj (.inr (.inr (.inl h)))
   ·omega
  ·rcases n2 j hk with h | h
   ·exact hj (.inr (.inr (.inr h)))
   ·omega
 have he:=h1.not h.e (by decide) (by decide) (by decide) (by decide)
 refine ⟨⟨vm,vs',vo',vl,hm,⟨hn _ h2.1 h3.lt,hn _ h2.2.1 h.A.lt,hn _ h2.2.2.1 h.B.lt,hn _ h2.2.2.2 h.C.lt⟩,hf.bk h3 h2.1,hf.own h4 (fun g hg=>(h5 g hg).1),fun g hg=>⟨hn g (h5 g hg).1 (zBa h4 hg).2,(h5 g hg).2⟩⟩,hf.bk h.e he,hf.bk h.A h2.2.1,hf.bk h.B h2.2.2.1,hf.bk h.C h2.2.2.2,hf.below h.below (fun i hi=>?_),h.ne⟩
 have hb:=h.ne.2.2.2.1
 rcases hi with rfl | hi | hi | hi
 ·exact h.ne.1
 ·have:=(zBa h1.om hi).1;omega
 ·have:=(zBa h1.os hi).1;omega
 ·have:=(zBa h1.oo hi).1;omega
theorem PlSt.told (h:PlSt w0 b L m e W) {vm vs vo vl:Value} (h1:MS b.base b.gm vm vs vo m W) (h2:¬mS b.gm vm vs vo b.gn∧¬mS b.gm vm vs vo b.gA∧¬mS b.gm vm vs vo b.gB∧¬mS b.gm vm vs vo b.gC) (h3:Bk W b.gn 36 #[vl]) (h4:Own W w0.heap.size 3 vl L) (h5:∀ g,vl.ownBlock=some g→¬mS b.gm vm vs vo g∧g≠b.gA)
  {w2 w3:World} (hb:Below W.heap.size W w2) (hg:w2.grownBy w3 vl.ownBlock) {v3:Value} {L':List Int} (ho:Own w3 w0.heap.size 3 v3 L') (hat:v3.ownBlock=vl.ownBlock∨v3.ownBlock=some w2.heap.size):PlSt w0 b L' m e (w3.setCell ⟨b.gn,0,none⟩ v3):=by
 have hf3:Fr (fun j=>vl.ownBlock=some j) W w3:=(Fr.of (S:=fun j=>vl.ownBlock=some j) hb).trans (Fr.grown (S:=fun j=>vl.ownBlock=some j) hg (fun k e=>.inl e)) (fun _ _ h=>h)
 have hs3:Fr (fun j=>j=b.gn) w3 (w3.setCell ⟨b.gn,0,none⟩ v3):=Fr.setCell w3 (p:=⟨b.gn,0,none⟩) (S:=fun j=>j=b.gn) rfl _
 have hf:Fr (fun j=>vl.ownBlock=some j∨j=b.gn) W (w3.setCell ⟨b.gn,0,none⟩ v3):=(hf3.mono (fun _ _ h=>.inl h)).trans hs3 (fun _ _ h=>.inr h)
 have k3:Bk w3 b.gn 36 #[vl]:=hf3.bk h3 (fun eq=>zBJ h4 h3 (by decide) eq)
 refine ⟨⟨vm,vs,vo,v3,h1.fr hf (fun j hj hS=>?_),h2,zV k3 rfl,hs3.own ho (fun g hg eq=>zBJ ho k3 (by decide) (by rw [hg,eq])),fun g hg=>?_⟩,hf.bk h.e (fun hS=>?_),hf.bk h.A (fun hS=>?_),hf.bk h.B (fun hS=>?_),hf.bk h.C (fun hS=>?_),hf.below h.below (fun i hi=>?_),h.ne⟩
 ·rcases hS with hS | rfl
  ·exact (h5 j hS).1 hj
  ·exact h2.1 hj
 ·rcases hat with e' | e'
  ·exact h5 g (by rw [←e'];exact hg)
  ·rw [hg] at e'
   injection e' with e'
   have hz:=hb.size
   have hA:=h.A.lt
   exact ⟨fun hk=>by have:=h1.lt hk;omega,by omega⟩
 ·rcases hS with hS | hS
  ·exact zBJ h4 h.e (by decide) hS
  ·exact zCW h.e h3 (by decide) hS
 ·rcases hS with hS | hS
  ·exact (h5 _ hS).2 rfl
  ·exact zCW h.A h3 (by decide) hS
 ·rcases hS with hS | hS
  ·exact zBJ h4 h.B (by decide) hS
  ·exact zCW h.B h3 (by decide) hS
 ·rcases hS with hS | hS
  ·exact zBJ h4 h.C (by decide) hS
  ·exact zCW h.C h3 (by decide) hS
 ·rcases hi with hi | rfl
  ·exact (zBa h4 hi).1
  ·exact h.ne.2.2.1
end
def PlL (w0:World) (b:RunB) (l D:Nat) (o1 o2:Obj) (L:List Int) (m:MV) (e:Int) (W:World):Prop:=PlSt w0 b L m e W∧W.heap[l]?=some o1∧W.heap[D]?=some o2
section
variable {w0:World} {b:RunB} {l D:Nat} {o1 o2:Obj} {L:List Int} {m:MV} {e:Int} {W:World}
theorem PlL.drew (h:PlL w0 b l D o1 o2 L m e W):PlL w0 b l D o1 o2 L m e W.drew:=⟨h.1.drew,h.2.1,h.2.2⟩
theorem PlL.err (h:PlL w0 b l D o1 o2 L m e W) (h1:o1.isCells=false) (h2:o2.isCells=false) (e':Int):PlL w0 b l D o1 o2 L m e' (W.setCell ⟨b.ge,0,none⟩ (.int .i64 e')):=by
 have hf:Fr (fun j=>j=b.ge) W (W.setCell ⟨b.ge,0,none⟩ (.int .i64 e')):=Fr.setCell W (p:=⟨b.ge,0,none⟩) (S:=fun j=>j=b.ge) rfl _
 exact ⟨h.1.err e',(hf.block l (Array.getElem?_eq_some_iff.1 h.2.1).1 (fun q=>zBg h.1.e h.2.1 h1 q.symm)).trans h.2.1,(hf.block D (Array.getElem?_eq_some_iff.1 h.2.2).1 (fun q=>zBg h.1.e h.2.2 h2 q.symm)).trans h.2.2⟩
theorem PlL.one (h:PlL w0 b l D o1 o2 L m e W) (h1:o1.isCells=false) (h2:o2.isCells=false) (hok:m.Ok) (ht:Tab w0) :
  Calls Tryz.prog 71 #[.pointer (some ⟨b.gm,0,none⟩)] W fun r W'=>r=.returned (.int .i64 m.err)∧PlL w0 b l D o1 o2 L m.after e W':=by
 obtain ⟨vm,vs,vo,vl,g1,g2,g3,g4,g5⟩:=h.1.ms
 refine (zK8 g1 hok (ht.below h.1.below) (Nat.le_trans h.1.ne.2.2.2.2 (Nat.le_of_lt g3.lt))).mono ?_
 rintro r W' ⟨rfl,vs',vo',hm,hf,n1,n2⟩
 have kp:∀ (j:Nat) (o:Obj),W.heap[j]?=some o→o.isCells=false→W'.heap[j]?=some o:=fun j o hj ho=>(hf.block j (Array.getElem?_eq_some_iff.1 hj).1 (fun hk=>by
  obtain ⟨T,cs,hb⟩:=zGg g1 hk
  exact zBg hb hj ho rfl)).trans hj
 exact ⟨rfl,h.1.stepped g1 g2 g3 g4 g5 hm hf n1 n2,kp _ _ h.2.1 h1,kp _ _ h.2.2 h2⟩
end
end
section
open El (cl)
open Go.Joins Go.ChangeShapes Go.WideShapes Go.ChangeAt Go.RowKit Go.Deep
section
variable {H:Type} {enc:TypeId×Value→H} {w:World} {spare:Nat→Bool} {held:Bool}
theorem zLw {fuel:Nat} {cs:List Value} {x:DataW H×List MemPlace} (h:DataW.trod enc Tryz.prog w 0 spare held fuel 3 cs=some x) (hl:cs.length=1):∃ n:Int,cs=cl n∧I64 n:=by
 match cs,hl with
 | [c0],_ =>
  obtain ⟨a,f0,_,w0⟩:=DataW.trod_int Tryz.underlying3 h
  simp at f0
  subst f0
  exact ⟨a,rfl,zF2 w0⟩
theorem zFk {r:Reach} {b0:Nat} {v:Value} {d:DataW H} {p:List MemPlace} (hv:Value.okWide Tryz.prog w r b0 36 v) (h:DataW.Trod enc Tryz.prog w 0 spare held 36 v d p) :
  ∃ x:SlV Int,v=x.val∧x.ok I64 w∧(x.n=0∨∃ es sp,d=.slice es sp∧es.length=x.n) :=
 zGf Tryz.underlying36 (by kernel_rfl) (fun fuel cs x hx hl => zLw hx hl) hv h
end
end
section
open Go Go.ChangeShapes Go.WideShapes Go.ChangeAt Go.RowKit
theorem jfA:(Rows.topCounterRow.inPlace==Tryz.pinned.checked.prog.inPlace 4)=true:=by kernel_rfl
theorem jfB:(Rows.topCounterRow.unfollowed==Tryz.pinned.checked.prog.unfollowed 4)=true:=by kernel_rfl
theorem jfC:(Rows.topCounterRow.recurses==Tryz.pinned.checked.prog.recurses 4)=true:=by kernel_rfl
theorem jfD:(Rows.topCounterRow.named==Tryz.pinned.checked.prog.varsNamed 4)=true:=by kernel_rfl
theorem jf:joinedFacts Tryz.pinned.checked.prog 4 Tryz.f4 (OpenSpec.ofChange Rows.topCounterSpec).bare Rows.topCounterRow=true:=by
 unfold joinedFacts
 rw [jfA,jfB,jfC,jfD]
 kernel_rfl
end
end Go.Proofs.YtlpejagkadalbaaGreatDoor
