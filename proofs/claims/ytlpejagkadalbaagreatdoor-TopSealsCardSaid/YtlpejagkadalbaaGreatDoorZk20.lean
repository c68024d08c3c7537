import Derived.Test.YtlpejagkadalbaaGreatDoorZk19
set_option maxHeartbeats 40000000
set_option maxRecDepth 100000
set_option linter.unusedVariables false
set_option linter.unusedSimpArgs false
namespace Go.Proofs.YtlpejagkadalbaaGreatDoor
section
open Go.RowKit
def NewB (v v':Value) (W:World):Prop:=∀ k,v'.ownBlock=some k→v.ownBlock=some k∨W.heap.size≤k
theorem NewB.refl (v:Value) (W:World):NewB v v W:=fun _ h=>.inl h
def StepPost (base gm:Nat) (vm vs vo:Value) (m:MV) (W:World) (r:Ex MV) (e:Ending) (w':World):Prop :=
 match r with
 | .ok m'=>e=.returned (.tuple #[])∧∃ vs' vo',MS base gm vm vs' vo' m' w'∧Fr (mS gm vm vs vo) W w'∧NewB vs vs' W∧NewB vo vo' W
 | .error k=>zGf k base gm vm vs vo m W e w'
theorem SPost.step {base gm:Nat} {vm vs vo:Value} {m m':MV} {W w':World} {e:Ending} (h:SPost base gm vm vs vo m' W e w'):StepPost base gm vm vs vo m W (.ok m') e w' :=
 ⟨h.1,vs,vo,h.2.1,h.2.2,NewB.refl _ _,NewB.refl _ _⟩
theorem zNY {α:Type} [El α] {w:World} {base:Nat} {T:TypeId} {xs:List α} {x:α} {g cap n:Nat} (hn:n=xs.length+1) (h:Own w base T (.slice (some ⟨g,0,none⟩) n cap) (xs++[x])):Own w base T (.slice (some ⟨g,0,none⟩) xs.length cap) xs:=by
 subst hn
 refine ⟨zB3 xs,?_⟩
 rcases h.2 with ⟨h1,_⟩ | ⟨g',c',cur,e,h1,h2,h3,h4,h5,h6⟩
 ·cases h1
 ·injection e with e1 e2 e3
  subst e3
  have hk:xs.length≤cap:=by simp at h3;omega
  refine .inr ⟨g,cap,cur,rfl,?_,?_,hk,h4,h5,?_⟩
  ·injection e1 with e1;injection e1 with e1 _ _;rw [e1];exact h1
  ·injection e1 with e1;injection e1 with e1 _ _;rw [e1];exact h2
  ·have h7:=congrArg (List.take (xs.length*El.k α)) h6
   rw [List.take_take,zC6,List.take_left' (zB3 xs)] at h7
   rw [←h7,Nat.min_eq_left (Nat.mul_le_mul_right _ (by simp))]
theorem MSt.setStk {base gm:Nat} {vm vs vo:Value} {m:MV} {W:World} (h:MS base gm vm vs vo m W) {vs':Value} {s':List FrameV} (ho:Own W base 156 vs' s') :
  MS base gm vm vs' vo {m with stk:=s'} (W.setCell ⟨gm,62,none⟩ vs') :=
 ⟨h.h8,zT h.mB (zEx h.h8 vs').symm,zAa h.om h.mB (by decide) 62 [vs'],zAa ho h.mB (by decide) 62 [vs'],zAa h.oo h.mB (by decide) 62 [vs']⟩
theorem MSt.setCode {base gm:Nat} {vm vs vo:Value} {m:MV} {W:World} (h:MS base gm vm vs vo m W) (d:KeyV) :
  MS base gm vm vs vo {m with c:=d} (W.setCells gm 56 [.int .i64 d.perm,.int .i64 d.base,.int .i64 d.len,.int .i64 d.at_,.int .i64 d.seal_]) :=
 MSt.put h (by decide) (by decide) (by decide) 56 _ (m':={m with c:=d}) h.h8 rfl rfl rfl (zIn h.h8)
theorem zEo (w:World) (g:Nat) (u0 u1 u2 u3 u4:Value):((((w.setCell ⟨g,56,none⟩ u0).setCell ⟨g,57,none⟩ u1).setCell ⟨g,58,none⟩ u2).setCell ⟨g,59,none⟩ u3).setCell ⟨g,60,none⟩ u4=w.setCells g 56 [u0,u1,u2,u3,u4]:=rfl
theorem zDu (w:World) (g:Nat) (u0 u1 u2 u3 u4 u5 u6:Value) :
  ((((((w.setCell ⟨g,49,none⟩ u0).setCell ⟨g,50,none⟩ u1).setCell ⟨g,51,none⟩ u2).setCell ⟨g,52,none⟩ u3).setCell ⟨g,53,none⟩ u4).setCell ⟨g,54,none⟩ u5).setCell ⟨g,55,none⟩ u6=w.setCells g (7*7) [u0,u1,u2,u3,u4,u5,u6]:=rfl
theorem zAx {base gm:Nat} {vm vs vo:Value} {m:MV} {W:World} (h:MS base gm vm vs vo m W):W.cell? ⟨gm,56,none⟩=some (.int .i64 m.c.perm)∧W.cell? ⟨gm,57,none⟩=some (.int .i64 m.c.base)∧W.cell? ⟨gm,58,none⟩=some (.int .i64 m.c.len)∧W.cell? ⟨gm,59,none⟩=some (.int .i64 m.c.at_)∧W.cell? ⟨gm,60,none⟩=some (.int .i64 m.c.seal_) ∧
  W.cell? ⟨gm,61,none⟩=some vm∧W.cell? ⟨gm,62,none⟩=some vs∧W.cell? ⟨gm,63,none⟩=some vo :=
 ⟨(h.mB.cell 56).trans (zAU h.h8 0),(h.mB.cell 57).trans (zAU h.h8 1),(h.mB.cell 58).trans (zAU h.h8 2),(h.mB.cell 59).trans (zAU h.h8 3),(h.mB.cell 60).trans (zAU h.h8 4),(h.mB.cell 61).trans (zAU h.h8 5),(h.mB.cell 62).trans (zAU h.h8 6),(h.mB.cell 63).trans (zAU h.h8 7)⟩
theorem zC1 {base gm:Nat} {vm vs vo:Value} {m:MV} {W:World} (h:MS base gm vm vs vo m W):W.cell? ⟨gm,49,none⟩=some (.bool (m.reg 7).is)∧W.cell? ⟨gm,50,none⟩=some (.int .i64 (m.reg 7).n)∧W.cell? ⟨gm,51,none⟩=some (.int .i64 (m.reg 7).k.perm)∧W.cell? ⟨gm,52,none⟩=some (.int .i64 (m.reg 7).k.base) ∧
      W.cell? ⟨gm,53,none⟩=some (.int .i64 (m.reg 7).k.len)∧W.cell? ⟨gm,54,none⟩=some (.int .i64 (m.reg 7).k.at_)∧W.cell? ⟨gm,55,none⟩=some (.int .i64 (m.reg 7).k.seal_):=zAf h.mB h.h8 (a:=7) (by decide)
theorem MSt.set7 {base gm:Nat} {vm vs vo:Value} {m:MV} {W:World} (h:MS base gm vm vs vo m W) (v:ValV) :
  MS base gm vm vs vo {m with R:=m.R.set 7 v} (W.setCells gm (7*7) [.bool v.is,.int .i64 v.n,.int .i64 v.k.perm,.int .i64 v.k.base,.int .i64 v.k.len,.int .i64 v.k.at_,.int .i64 v.k.seal_]) :=
 (MSt.setReg h 7 (by decide) v (us:=[.bool v.is,.int .i64 v.n,.int .i64 v.k.perm,.int .i64 v.k.base,.int .i64 v.k.len,.int .i64 v.k.at_,.int .i64 v.k.seal_]) rfl).1
theorem MSt.both {base gm:Nat} {vm vs vo:Value} {m:MV} {W:World} (h:MS base gm vm vs vo m W) (d:KeyV) (v:ValV) (S:Nat→Prop) (hS:S gm) :
  MS base gm vm vs vo {m with c:=d,R:=m.R.set 7 v} ((W.setCells gm 56 [.int .i64 d.perm,.int .i64 d.base,.int .i64 d.len,.int .i64 d.at_,.int .i64 d.seal_]).setCells gm (7*7) [.bool v.is,.int .i64 v.n,.int .i64 v.k.perm,.int .i64 v.k.base,.int .i64 v.k.len,.int .i64 v.k.at_,.int .i64 v.k.seal_]).drew ∧
   Fr S W ((W.setCells gm 56 [.int .i64 d.perm,.int .i64 d.base,.int .i64 d.len,.int .i64 d.at_,.int .i64 d.seal_]).setCells gm (7*7) [.bool v.is,.int .i64 v.n,.int .i64 v.k.perm,.int .i64 v.k.base,.int .i64 v.k.len,.int .i64 v.k.at_,.int .i64 v.k.seal_]).drew :=
 ⟨((h.setCode d).set7 v).drew',((Fr.setCells W hS 56 _).trans (Fr.setCells _ hS (7*7) _) (fun _ _ h=>h)).trans (Fr.drew S _) (fun _ _ h=>h)⟩
theorem zMu {base:Nat} {W:World} {gs gm:Nat} {i:InstV} {m:MV} {vm vs vo:Value} (hs:Bk W gs 190 (zS gm i)) (hm:MS base gm vm vs vo m W) (he:m.stk=[]) :
  Calls Tryz.prog 112 #[.pointer (some ⟨gs,0,none⟩)] W (Thrown 16 W):=by
 obtain ⟨s0,s1,s2,s3,s4⟩:=zR hs
 obtain ⟨ao,cap,e,_⟩:=hm.os.sl
 have c62:=(zAx hm).2.2.2.2.2.2.1
 rw [he] at e
 rw [e] at c62
 have sL:=hs.lt
 have mL:=hm.mB.lt
 clear hs hm e he
 go_enter Tryz.func112,Tryz.ntmps112
 go_wp2_with (go_at_call 107;((with_reducible refine (zAv 16 (by decide) _).mono ?_);rintro e w' ⟨rfl,rfl⟩))
 exact ⟨rfl,Thrown.of (Below.refl _ _)⟩
theorem zN7 {base:Nat} {W:World} {gs gm:Nat} {i:InstV} {m:MV} {vm vs vo:Value} (hs:Bk W gs 190 (zS gm i)) (hm:MS base gm vm vs vo m W) (s:List FrameV) (f:FrameV) (he:m.stk=s++[f]) (h16:m.stk.length≤16) :
  Calls Tryz.prog 112 #[.pointer (some ⟨gs,0,none⟩)] W (StepPost base gm vm vs vo m W (.ok {m with stk:=s,c:=f.code,R:=m.R.set 7 f.data})):=by
 have hln:m.stk.length=s.length+1:=by rw [he];simp
 obtain ⟨g,cap,e,hg1,hg2,hslv,hfz⟩:=Own.some hm.os (by omega)
 have hos:=hm.os
 rw [e,he] at hos
 have hx:(s++[f])[s.length]?=some f:=by simp
 obtain ⟨g',eg,_,_,_,_,hc⟩:=zKr hos hx
 injection eg with eg
 injection eg with eg _ _
 subst eg
 have hpop:=zNY (n:=(s++[f]).length) (by simp) hos
 have hcap:m.stk.length≤cap∧cap≤maxLen:=by
  rcases hm.os.form with ⟨e',h'⟩ | ⟨g',c',e',_,_,h1,h2⟩
  ·rw [h'] at hln;simp at hln
  ·rw [e] at e';injection e' with _ _ e3;subst e3;exact ⟨h1,h2⟩
 rw [hln] at e hcap h16
 have e12:El.k FrameV=12:=rfl
 rw [e12] at hc
 have f0:=hc 0 _ rfl
 have f1:=hc 1 _ rfl
 have f2:=hc 2 _ rfl
 have f3:=hc 3 _ rfl
 have f4:=hc 4 _ rfl
 have f5:=hc 5 _ rfl
 have f6:=hc 6 _ rfl
 have f7:=hc 7 _ rfl
 have f8:=hc 8 _ rfl
 have f9:=hc 9 _ rfl
 have f10:=hc 10 _ rfl
 have f11:=hc 11 _ rfl
 rw [Nat.add_zero] at f0
 obtain ⟨s0,s1,s2,s3,s4⟩:=zR hs
 subst e
 obtain ⟨m56,m57,m58,m59,m60,m61,m62,m63⟩:=zAx hm
 obtain ⟨c0,c1,c2,c3,c4,c5,c6⟩:=zC1 hm
 have mF:=fun j=>hm.mB.frozen j
 have sL:=hs.lt
 have mL:=hm.mB.lt
 have hcap1:=hcap.1
 have hcap2:cap≤9223372036854775807:=hcap.2
 have q1:(((s.length+1:Nat):Int) - 1)=(s.length:Int):=by omega
 have q2:(0:Int)≤(s.length:Int):=by omega
 have q3:(s.length:Int) < ((s.length+1:Nat):Int):=by omega
 have q4:(s.length:Int)≤(cap:Int):=by omega
 have q5:¬((s.length:Int) < 0):=by omega
 obtain ⟨w3,hw3⟩:∃ w3,w3=W.alloc (.cells #[.int .i64 f.code.perm,.int .i64 f.code.base,.int .i64 f.code.len,.int .i64 f.code.at_,.int .i64 f.code.seal_,.bool f.data.is,.int .i64 f.data.n,.int .i64 f.data.k.perm,.int .i64 f.data.k.base,.int .i64 f.data.k.len,.int .i64 f.data.k.at_,.int .i64 f.data.k.seal_] 156):=⟨_,rfl⟩
 have HM:=zA hm
 have HSB:=zA hs
 have HPOP:=zA hpop
 have HLN:=zA hln
 clear hs hm hos hc hx hslv hfz hpop he hln hcap
 go_enter Tryz.func112,Tryz.ntmps112
 go_upto_region 4 with (fail)
 have h3:Below W.heap.size W w3:=by rw [hw3];exact zG (Below.refl _ _) _
 have kf:Bk w3 W.heap.size 156 #[.int .i64 f.code.perm,.int .i64 f.code.base,.int .i64 f.code.len,.int .i64 f.code.at_,.int .i64 f.code.seal_,.bool f.data.is,.int .i64 f.data.n,.int .i64 f.data.k.perm,.int .i64 f.data.k.base,.int .i64 f.data.k.len,.int .i64 f.data.k.at_,.int .i64 f.data.k.seal_]:=by rw [hw3];exact zM _ _ _
 have hm3:=HM.out.below h3
 have hs3:=zH h3 HSB.out
 rw [←hw3]
 obtain ⟨s0,s1,s2,s3,s4⟩:=zR hs3
 obtain ⟨m56,m57,m58,m59,m60,m61,m62,m63⟩:=zAx hm3
 have mF:=fun j=>hm3.mB.frozen j
 have sL:=hs3.lt
 have mL:=hm3.mB.lt
 have hml:=HM.out.mB.lt
 have gne:gm≠W.heap.size:=by omega
 have sne:gs≠gm:=zCQ hs3 hm3.mB (by decide)
 have hm5:=(hm3.setStk (HPOP.out.below h3)).drew'
 have kf5:Bk (w3.setCell ⟨gm,62,none⟩ (.slice (some ⟨g,0,none⟩) s.length cap)).drew W.heap.size 156 #[.int .i64 f.code.perm,.int .i64 f.code.base,.int .i64 f.code.len,.int .i64 f.code.at_,.int .i64 f.code.seal_,.bool f.data.is,.int .i64 f.data.n,.int .i64 f.data.k.perm,.int .i64 f.data.k.base,.int .i64 f.data.k.len,.int .i64 f.data.k.at_,.int .i64 f.data.k.seal_]:=zP (zU _ gne.symm kf)
 have hs5:Bk (w3.setCell ⟨gm,62,none⟩ (.slice (some ⟨g,0,none⟩) s.length cap)).drew gs 190 (zS gm i):=zP (zU _ sne hs3)
 have hf5:Fr (mS gm vm (.slice (some ⟨g,0,none⟩) (s.length+1) cap) vo) W (w3.setCell ⟨gm,62,none⟩ (.slice (some ⟨g,0,none⟩) s.length cap)).drew:=((Fr.of h3).trans (Fr.setCell w3 (p:=⟨gm,62,none⟩) (.inl rfl) _) (fun _ _ h=>h)).trans (Fr.drew _ _) (fun _ _ h=>h)
 clear h3 kf hm3 hs3 hw3 hml
 go_region
 go_upto_region 5 with (fail)
 obtain ⟨w5,hw5⟩:∃ w5,w5=(w3.setCell ⟨gm,62,none⟩ (.slice (some ⟨g,0,none⟩) s.length cap)).drew:=⟨_,rfl⟩
 rw [←hw5] at hm5 kf5 hs5 hf5 ⊢
 clear hw5 s0 s1 s2 s3 s4 m56 m57 m58 m59 m60 m61 m62 m63 mF sL mL
 obtain ⟨s0,s1,s2,s3,s4⟩:=zR hs5
 obtain ⟨m56,m57,m58,m59,m60,m61,m62,m63⟩:=zAx hm5
 obtain ⟨c0,c1,c2,c3,c4,c5,c6⟩:=zC1 hm5
 have mF:=fun j=>hm5.mB.frozen j
 have sL:=hs5.lt
 have mL:=hm5.mB.lt
 have b0:=kf5.cell 0
 have b1:=kf5.cell 1
 have b2:=kf5.cell 2
 have b3:=kf5.cell 3
 have b4:=kf5.cell 4
 have b5:=kf5.cell 5
 have b6:=kf5.cell 6
 have b7:=kf5.cell 7
 have b8:=kf5.cell 8
 have b9:=kf5.cell 9
 have b10:=kf5.cell 10
 have b11:=kf5.cell 11
 simp only [List.getElem?_toArray,List.getElem?_cons_zero,List.getElem?_cons_succ] at b0 b1 b2 b3 b4 b5 b6 b7 b8 b9 b10 b11
 have bL:=kf5.lt
 have HM5:=zA hm5
 have HF5:=zA hf5
 clear hm5 kf5 hs5 hf5
 go_region
 all_goals
  go_wp2
  go_end0
  rw [zEo,zDu]
  have hb:=MSt.both HM5.out f.code f.data (mS gm vm (.slice (some ⟨g,0,none⟩) (s.length+1) cap) vo) (.inl rfl)
  exact ⟨rfl,.slice (some ⟨g,0,none⟩) s.length cap,vo,hb.1,HF5.out.trans hb.2 (fun _ _ h=>h),fun k h=>.inl h,NewB.refl _ _⟩
end
section
open Go.RowKit
structure InstN (i:InstV) (a b:Nat):Prop where
 ok:zAE i=true
 ea:i.a=a
 eb:i.b=b
 a8:a < 8
 b8:b < 8
theorem zEH {i:InstV} (h:zAE i=true):∃ a b,InstN i a b:=by
 obtain ⟨op,a,b,c⟩:=i
 obtain ⟨o0,o1,a0,a1,b0,b1,c0,c1⟩:=zCU h
 exact ⟨a.toNat,b.toNat,h,by simp only;omega,by simp only;omega,by omega,by omega⟩
theorem zHt {i:InstV} (h:zAE i=true):loC (shC i.op)≤i.c∧i.c≤hiC (shC i.op):=by
 unfold zAE at h
 simp only [Bool.and_eq_true,decide_eq_true_eq] at h
 exact h.2.2.2
theorem zDx {i:InstV} (h:zAE i=true) (ho:i.op=3∨i.op=4∨i.op=5∨i.op=6∨i.op=7∨i.op=12∨i.op=13∨i.op=15∨i.op=16):∃ c:Nat,i.c=c∧c < 8:=by
 have hc:=zHt h
 have e:shC i.op=114:=by rcases ho with h | h | h | h | h | h | h | h | h<;>rw [h]<;>rfl
 rw [e] at hc
 simp only [loC,hiC] at hc
 exact ⟨i.c.toNat,by have:=hc.1;simp at this;omega,by have:=hc.2;have:=hc.1;simp at *;omega⟩
theorem zJP {i:InstV} (h:zAE i=true) : -2048≤i.c∧i.c≤2047:=by
 obtain ⟨op,a,b,c⟩:=i
 obtain ⟨o0,o1,a0,a1,b0,b1,c0,c1⟩:=zCU h
 exact ⟨c0,c1⟩
section
variable {base gs gm:Nat} {vm vs vo:Value} {m:MV} {W W1 w':World} {i:InstV} {r:Ex MV} {e:Ending}
theorem Thrown.step {k:Int} (h:Thrown k W e w') (hm:MS base gm vm vs vo m W):StepPost base gm vm vs vo m W (.error k) e w':=h.m hm
theorem StepPost.of (hb:Below W.heap.size W W1) (h:StepPost base gm vm vs vo m W1 r e w'):StepPost base gm vm vs vo m W r e w':=by
 cases r with
 | error k=>exact ⟨h.1,h.2.1,(Fr.of hb).trans h.2.2 (fun _ _ h=>h)⟩
 | ok m' =>
  obtain ⟨h1,vs',vo',h2,h3,h4,h5⟩:=h
  exact ⟨h1,vs',vo',h2,(Fr.of hb).trans h3 (fun _ _ h=>h),fun k hk=>(h4 k hk).imp id (fun h=>Nat.le_trans hb.size h),fun k hk=>(h5 k hk).imp id (fun h=>Nat.le_trans hb.size h)⟩
theorem zCu (m:MV) (r:Int):((m.reg r).is=true∧m.num r=.error 10)∨((m.reg r).is=false∧m.num r=.ok (m.reg r).n):=by
 unfold MV.num
 cases h:(m.reg r).is
 ·right;exact ⟨rfl,rfl⟩
 ·left;exact ⟨rfl,rfl⟩
theorem zCw (m:MV) (r:Int):((m.reg r).is=false∧m.key r=.error 10)∨((m.reg r).is=true∧m.key r=.ok (m.reg r).k):=by
 unfold MV.key
 cases h:(m.reg r).is
 ·left;exact ⟨rfl,rfl⟩
 ·right;exact ⟨rfl,rfl⟩
theorem eb1 {α β:Type} {k:Int} {f:α→Ex β}:((Except.error k:Ex α) >>= f)=.error k:=rfl
theorem eb2 {α β:Type} {x:α} {f:α→Ex β}:((Except.ok x:Ex α) >>= f)=f x:=rfl
def zJl (op:Int):FuncId:=if op=3 then 141 else if op=4 then 142 else if op=5 then 143 else if op=7 then 144 else 145
theorem zHh (hs:Bk W gs 190 (zS gm i)) (hm:MS base gm vm vs vo m W) (hi:zAE i=true) (ho:i.op=3∨i.op=4∨i.op=5∨i.op=6∨i.op=7) :
  Calls Tryz.prog 140 #[.pointer (some ⟨gs,0,none⟩),.func (.func (zJl i.op)) #[] #[]] W (StepPost base gm vm vs vo m W (m.numbers i)):=by
 obtain ⟨a,b,hn⟩:=zEH hi
 obtain ⟨c,hc,c8⟩:=zDx hi (by omega)
 unfold MV.numbers
 rw [hn.eb,hc]
 rcases zCu m b with ⟨h1,e1⟩ | ⟨h1,e1⟩
 ·rw [e1,eb1]
  exact (zHk hs hm b hn.eb hn.b8 h1 _).mono fun e w' h=>h.step hm
 ·rw [e1,eb2]
  rcases zCu m c with ⟨h2,e2⟩ | ⟨h2,e2⟩
  ·rw [e2,eb1]
   exact (zHj hs hm b c hn.eb hc hn.b8 c8 h1 h2 _).mono fun e w' h=>h.step hm
  ·rw [e2,eb2]
   have hN:Named i a b c:=⟨hn.ea,hn.eb,hc,hn.a8,hn.b8,c8⟩
   rw [hn.ea]
   unfold opN zJl
   rcases ho with h | h | h | h | h<;>rw [h]
   ·exact (zIl hs hm a b c hN h1 h2 _ (fun W=>zN9 _ _ W)).mono fun e w' h=>h.step
   ·exact (zIi hs hm a b c hN h1 h2 _ (fun W=>zNB _ _ W)).mono fun e w' h=>h.step
   ·exact (zIj hs hm a b c hN h1 h2 _ (fun W=>zNd _ _ W)).mono fun e w' h=>h.step
   ·simp only [show ¬((6:Int)=3) by decide,show ¬((6:Int)=4) by decide,show ¬((6:Int)=5) by decide,show ¬((6:Int)=7) by decide,if_false]
    unfold zJ1
    by_cases hz:wrap32 (m.reg c).n=0
    ·rw [if_pos hz]
     exact (zHg hs hm a b c hN h1 h2 (fun W=>zIg _ _ hz W)).mono fun e w' h=>h.step hm
    ·rw [if_neg hz]
     exact (zIk hs hm a b c hN h1 h2 _ (fun W=>zJj _ _ hz W)).mono fun e w' h=>h.step
   ·exact (zHi hs hm a b c hN h1 h2 _ (fun W=>zMQ _ _ W)).mono fun e w' h=>h.step
theorem zMx (hs:Bk W gs 190 (zS gm i)) (hm:MS base gm vm vs vo m W) (hi:zAE i=true) (ho:i.op=17) :
  Calls Tryz.prog 147 #[.pointer (some ⟨gs,0,none⟩)] W (StepPost base gm vm vs vo m W (m.ask i)):=by
 obtain ⟨a,b,hn⟩:=zEH hi
 have hc:=zHt hi
 rw [ho] at hc
 have hc0:0≤i.c:=hc.1
 have hc5:i.c≤5:=hc.2
 unfold MV.ask
 rw [hn.eb,hn.ea]
 by_cases h0:i.c=0
 ·rw [if_pos h0]
  cases hb:(m.reg b).is
  ·exact (zIJ hs hm a b hn.ea hn.eb hn.a8 hn.b8 h0 hb).mono fun e w' h=>h.step
  ·exact (zJB hs hm a b hn.ea hn.eb hn.a8 hn.b8 h0 hb).mono fun e w' h=>h.step
 ·rw [if_neg h0]
  rcases zCw m b with ⟨h1,e1⟩ | ⟨h1,e1⟩
  ·rw [e1,eb1]
   exact (zN8 hs hm a b hn.ea hn.eb hn.a8 hn.b8 h0 h1).mono fun e w' h=>h.step hm
  ·rw [e1,eb2]
   rcases (show i.c=1∨i.c=2∨i.c=3∨i.c=4∨i.c=5 by omega) with h | h | h | h | h
   ·rw [h];exact (zOi hs hm a b hn.ea hn.eb hn.a8 hn.b8 h h1).mono fun e w' h=>h.step
   ·rw [h];exact (zOh hs hm a b hn.ea hn.eb hn.a8 hn.b8 h h1).mono fun e w' h=>h.step
   ·rw [h];exact (zOg hs hm a b hn.ea hn.eb hn.a8 hn.b8 h h1).mono fun e w' h=>h.step
   ·rw [h];exact (zOf hs hm a b hn.ea hn.eb hn.a8 hn.b8 h h1).mono fun e w' h=>h.step
   ·rw [h];exact (zOe hs hm a b hn.ea hn.eb hn.a8 hn.b8 h h1).mono fun e w' h=>h.step
theorem zGn {α:Type} (q:α×Int):(q.2=0∧zCS q=.ok q.1)∨(q.2≠0∧zCS q=.error q.2):=by
 unfold zCS
 by_cases h:q.2=0
 ·exact .inl ⟨h,if_pos h⟩
 ·exact .inr ⟨h,if_neg h⟩
theorem zO1 (hi:zAE i=true):I64 i.c:=by have:=zJP hi;constructor<;>omega
theorem zLN {mem:List ValV} {k:KeyV} {off:Int} (h:(zCD mem k off).2≠0):zCD mem k off=(zeroV,(zCD mem k off).2):=by
 simp only [zCD] at h ⊢
 split
 ·rfl
 ·rename_i h2
  rw [if_neg h2] at h
  exfalso
  revert h
  split<;>simp
theorem zKD (hs:Bk W gs 190 (zS gm i)) (hm:MS base gm vm vs vo m W) (hR:∀ v∈m.R,v.wf) (hi:zAE i=true) (ho:i.op=10∨i.op=11∨i.op=12∨i.op=13∨i.op=14∨i.op=15∨i.op=16) :
  Calls Tryz.prog 149 #[.pointer (some ⟨gs,0,none⟩)] W (StepPost base gm vm vs vo m W (m.byKey i)):=by
 obtain ⟨a,b,hn⟩:=zEH hi
 have hcI:=zO1 hi
 unfold MV.byKey
 rw [hn.eb,hn.ea]
 rcases zCw m b with ⟨h1,e1⟩ | ⟨h1,e1⟩
 ·rw [e1,eb1]
  exact (zLc hs hm b hn.eb hn.b8 h1).mono fun e w' h=>h.step hm
 ·rw [e1,eb2]
  rcases ho with h | h | h | h | h | h | h
  ·simp only [h,if_true]
   rcases zGn (zCD m.mem (m.reg b).k i.c) with ⟨h2,e2⟩ | ⟨h2,e2⟩
   ·rw [e2,eb2]
    exact (zHL hs hm hR h a b hn.ea hn.eb hn.a8 hn.b8 hcI h1 _ (Prod.ext rfl h2)).mono fun e w' h=>h.step
   ·rw [e2,eb1]
    exact (zGZ hs hm hR h a b hn.ea hn.eb hn.a8 hn.b8 hcI h1 _ h2 (zLN h2)).mono fun e w' h=>h.step hm
  ·simp only [h,show ¬((11:Int)=10) by decide,if_true,if_false]
   by_cases h2:zDB m.mem.length (m.reg b).k i.c (m.reg a)=0
   ·rw [if_neg (by simp [h2])]
    exact (zGS hs hm hR h a b hn.ea hn.eb hn.a8 hn.b8 hcI h1 h2).mono fun e w' h=>h.step
   ·rw [if_pos h2]
    exact (zF9 hs hm hR h a b hn.ea hn.eb hn.a8 hn.b8 hcI h1 _ h2 rfl).mono fun e w' h=>h
  ·obtain ⟨c,hc,c8⟩:=zDx hi (by omega)
   simp only [h,show ¬((12:Int)=10) by decide,show ¬((12:Int)=11) by decide,if_true,if_false]
   rw [hc]
   rcases zCu m c with ⟨h2,e2⟩ | ⟨h2,e2⟩
   ·rw [e2,eb1]
    exact (zGX hs hm hR h a b hn.ea hn.eb hn.a8 hn.b8 h1 c hc c8 h2).mono fun e w' h=>h.step hm
   ·rw [e2,eb2]
    rcases zD9 (m.reg b).k (m.reg c).n with ⟨er,h3,h4⟩ | ⟨h3,_⟩
    ·rw [h3]
     exact (zGY hs hm hR h a b hn.ea hn.eb hn.a8 hn.b8 h1 c hc c8 h2 er h4 h3).mono fun e w' h=>by
      rw [show zCS (zeroK,er)=.error er from if_neg h4,eb1];exact h.step hm
    ·rw [h3]
     exact (zHK hs hm hR h a b hn.ea hn.eb hn.a8 hn.b8 h1 c hc c8 h2 _ h3).mono fun e w' h=>h.step
  ·obtain ⟨c,hc,c8⟩:=zDx hi (by omega)
   simp only [h,show ¬((13:Int)=10) by decide,show ¬((13:Int)=11) by decide,show ¬((13:Int)=12) by decide,if_true,if_false]
   rw [hc]
   rcases zCu m c with ⟨h2,e2⟩ | ⟨h2,e2⟩
   ·rw [e2,eb1]
    exact (zFf hs hm hR h a b hn.ea hn.eb hn.a8 hn.b8 h1 c hc c8 h2).mono fun e w' h=>h.step hm
   ·rw [e2,eb2]
    rcases zDT (m.reg b).k (m.reg c).n with ⟨er,h3,h4⟩ | ⟨h3,_⟩
    ·rw [h3]
     exact (zFg hs hm hR h a b hn.ea hn.eb hn.a8 hn.b8 h1 c hc c8 h2 er h4 h3).mono fun e w' h=>by
      rw [show zCS (zeroK,er)=.error er from if_neg h4,eb1];exact h.step hm
    ·rw [h3]
     exact (zGA hs hm hR h a b hn.ea hn.eb hn.a8 hn.b8 h1 c hc c8 h2 _ h3).mono fun e w' h=>h.step
  ·simp only [h,show ¬((14:Int)=10) by decide,show ¬((14:Int)=11) by decide,show ¬((14:Int)=12) by decide,show ¬((14:Int)=13) by decide,if_true,if_false]
   rcases zEA (m.reg b).k i.c with ⟨er,h3,h4⟩ | ⟨h3,_⟩
   ·rw [h3]
    exact (zGa hs hm hR h a b hn.ea hn.eb hn.a8 hn.b8 h1 hcI er h4 h3).mono fun e w' h=>by
     rw [show zCS (zeroK,er)=.error er from if_neg h4,eb1];exact h.step hm
   ·rw [h3]
    exact (zHM hs hm hR h a b hn.ea hn.eb hn.a8 hn.b8 h1 hcI _ h3).mono fun e w' h=>h.step
  ·obtain ⟨c,hc,c8⟩:=zDx hi (by omega)
   simp only [h,show ¬((15:Int)=10) by decide,show ¬((15:Int)=11) by decide,show ¬((15:Int)=12) by decide,show ¬((15:Int)=13) by decide,show ¬((15:Int)=14) by decide,if_true,if_false]
   rw [hc]
   rcases zCw m c with ⟨h2,e2⟩ | ⟨h2,e2⟩
   ·rw [e2,eb1]
    exact (zGT hs hm hR h a b hn.ea hn.eb hn.a8 hn.b8 h1 c hc c8 h2).mono fun e w' h=>h.step hm
   ·rw [e2,eb2]
    rcases zD7 (m.reg b).k (m.reg c).k with ⟨er,h3,h4⟩ | ⟨h3,_⟩
    ·rw [h3]
     exact (zGU hs hm hR h a b hn.ea hn.eb hn.a8 hn.b8 h1 c hc c8 h2 er h4 h3).mono fun e w' h=>by
      rw [show zCS (zeroK,er)=.error er from if_neg h4,eb1];exact h.step hm
    ·rw [h3]
     exact (zHI hs hm hR h a b hn.ea hn.eb hn.a8 hn.b8 h1 c hc c8 h2 _ h3).mono fun e w' h=>h.step
  ·obtain ⟨c,hc,c8⟩:=zDx hi (by omega)
   simp only [h,show ¬((16:Int)=10) by decide,show ¬((16:Int)=11) by decide,show ¬((16:Int)=12) by decide,show ¬((16:Int)=13) by decide,show ¬((16:Int)=14) by decide,show ¬((16:Int)=15) by decide,if_true,if_false]
   rw [hc]
   rcases zCw m c with ⟨h2,e2⟩ | ⟨h2,e2⟩
   ·rw [e2,eb1]
    exact (zGV hs hm hR h a b hn.ea hn.eb hn.a8 hn.b8 h1 c hc c8 h2).mono fun e w' h=>h.step hm
   ·rw [e2,eb2]
    rcases zD8 (m.reg b).k (m.reg c).k with ⟨er,h3,h4⟩ | ⟨h3,_⟩
    ·rw [h3]
     exact (zGW hs hm hR h a b hn.ea hn.eb hn.a8 hn.b8 h1 c hc c8 h2 er h4 h3).mono fun e w' h=>by
      rw [show zCS (zeroK,er)=.error er from if_neg h4,eb1];exact h.step hm
    ·rw [h3]
     exact (zHJ hs hm hR h a b hn.ea hn.eb hn.a8 hn.b8 h1 c hc c8 h2 _ h3).mono fun e w' h=>h.step
theorem zE1 (hs:Bk W gs 190 (zS gm i)) (hm:MS base gm vm vs vo m W) (hc:m.c.Ok) (n:Int) (n0 : -2048≤n) (n1:n≤2047) :
  Calls Tryz.prog 109 #[.pointer (some ⟨gs,0,none⟩),.int .i64 n] W (StepPost base gm vm vs vo m W (m.goes n)):=by
 unfold MV.goes
 by_cases h:m.c.at_+n < 0∨400 < m.c.at_+n
 ·rw [if_pos h]
  exact (zMb hs hm n hc.a0 hc.a1 n0 n1 h).mono fun e w' h=>h.step hm
 ·rw [if_neg h]
  exact (zMc hs hm n hc.a0 hc.a1 h).mono fun e w' h=>h.step
theorem zLd (hs:Bk W gs 190 (zS gm i)) (hm:MS base gm vm vs vo m W) (h16:m.stk.length≤16) :
  Calls Tryz.prog 112 #[.pointer (some ⟨gs,0,none⟩)] W (StepPost base gm vm vs vo m W m.back):=by
 unfold MV.back
 cases hl:m.stk.getLast? with
 | none=>exact (zMu hs hm (List.getLast?_eq_none_iff.1 hl)).mono fun e w' h=>h.step hm
 | some f =>
  have hne:m.stk≠[]:=by intro e;rw [e] at hl;simp at hl
  have h2:=List.dropLast_concat_getLast hne
  rw [List.getLast?_eq_some_getLast hne] at hl
  injection hl with hl
  rw [hl] at h2
  exact zN7 hs hm _ f h2.symm h16
end
end
end Go.Proofs.YtlpejagkadalbaaGreatDoor
