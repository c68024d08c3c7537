import Derived.Test.YtlpejagkadalbaaGreatDoorQk56
import Derived.Test.YtlpejagkadalbaaGreatDoorQk44
set_option maxHeartbeats 40000000
set_option maxRecDepth 100000
set_option linter.unusedVariables false
set_option linter.unusedSimpArgs false
namespace Go.Proofs.YtlpejagkadalbaaGreatDoor
section
open Go Go.RowKit Go.Shelf
theorem zMf {α:Type} [El α] {w w':World} {ao:Option Addr} {n:Nat} {xs:List α} {row:Option Nat} (h:Sl w ao n xs) (hg:w.grownBy w' row) (hr:∀ a,ao=some a→row≠some a.block):Sl w' ao n xs :=
 h.grown hg (fun a ha _ e=>hr a ha e.symm)
theorem zK7 {α:Type} [El α] {w:World} {base:Nat} {T:TypeId} {v:Value} {xs:List α} (h:Own w base T v xs):∃ ao cap,v=.slice ao xs.length cap∧Sl w ao xs.length xs∧(∀ a,ao=some a→base≤a.block∧a.block < w.heap.size)∧xs.length≤cap:=by
 rcases h.form with ⟨rfl,rfl⟩ | ⟨g,cap,rfl,h2,h3,h4,h5⟩
 ·exact ⟨none,0,rfl,Sl.nil _ _,(fun a h=>by cases h),Nat.le_refl _⟩
 ·refine ⟨some ⟨g,0,none⟩,cap,rfl,⟨rfl,by omega,fun _=>⟨_,rfl,h3,h.cells rfl⟩⟩,(fun a e=>?_),h4⟩
  injection e with e
  subst e
  exact ⟨h2,h3⟩
def zQj (w:World) (m:ModV) (e:Ending) (w':World):Prop :=
 ∃ (r:ModR) (b:Bool),e=.returned (.tuple #[.agg #[.slice r.code.a r.code.n r.code.c,.slice r.data.a r.data.n r.data.c,.slice r.ex.a r.ex.n r.ex.c,.slice r.im.a r.im.n r.im.c],.bool b])∧r.has w' m∧(b=true↔ModOk zR m)∧Below w.heap.size w w'
theorem zOp {w:World} {g:Nat} {T:TypeId} {us:List Value} {r:ModR} {m:ModV} (h:r.has w m) (hb:Bk w g T #[.slice none 0 0,.slice none 0 0,.slice none 0 0,.slice none 0 0]):r.has (w.setCells g 0 us) m:=by
 have hs:=(zAZ g us 0 w).size
 have hk:=fun k a b=>zGQ (w:=w) (g:=g) us k a b
 have z:∀ u:Value,(∀ a b c,u≠.slice a b c)→∀ v∈(#[.slice none 0 0,.slice none 0 0,.slice none 0 0,.slice none 0 0]:Array Value).toList,v≠u:=by
  intro u hu v hv e
  simp at hv
  subst hv
  exact hu none 0 0 e.symm
 exact ⟨zCj h.code hb (fun x _=>⟨_,rfl,z _ (fun _ _ _ e=>by cases e)⟩) hs hk,zCj h.data hb (fun x _=>⟨_,rfl,z _ (fun _ _ _ e=>by cases e)⟩) hs hk,zCj h.ex hb (fun x _=>⟨_,rfl,z _ (fun _ _ _ e=>by cases e)⟩) hs hk,zCj h.im hb (fun x _=>⟨_,rfl,z _ (fun _ _ _ e=>by cases e)⟩) hs hk,h.le,h.wc,h.wd,h.we,h.wi⟩
theorem zQy (w:World):Sl (w.alloc (.cells #[.string zBq,.int .i64 0,.string zCP,.int .i64 2] 93)) (some ⟨w.heap.size,0,none⟩) 2 [(⟨zBq,0⟩:NamV),⟨zCP,2⟩]:=by
 have h0:=zBY (xs:=[(⟨zBq,0⟩:NamV),⟨zCP,2⟩]) w 93 0 (Nat.zero_le _) #[.string zBq,.int .i64 0,.string zCP,.int .i64 2] 2 rfl (by decide) rfl
 obtain ⟨ao,c,e,h,_⟩:=h0.sl
 injection e with e _ _
 subst e
 exact h
theorem zRL {w2 w4:World} {a1 a2:Option Addr} {n1 n2 c1 c2:Nat} {C D:List Int} (h1:Sl w2 a1 n1 C) (hb:∀ a,a1=some a→a.block < w2.heap.size) (hg:(w2.alloc (.cells #[.int .i64 0,.int .i64 0,.int .i64 0,.int .i64 0] 3)).grownBy w4 (some w2.heap.size)) (h2:Sl w4 a2 n2 ([0,0,0,0]++D)) (l1:n1≤c1) (l2:n2≤c2) (wc:∀ n∈C,I64 n) (wd:∀ n∈D,I64 n) :
  (⟨⟨a1,n1,c1⟩,⟨a2,n2,c2⟩,⟨some ⟨w4.heap.size,0,none⟩,1,1⟩,⟨some ⟨w4.heap.size+1,0,none⟩,2,2⟩⟩:ModR).has ((w4.alloc (.cells #[.string zDC,.int .i64 0] 91)).alloc (.cells #[.string zBq,.int .i64 0,.string zCP,.int .i64 2] 93)) (zBo C D):=by
 have e1:Sl w4 a1 n1 C:=zMf (h1.alloc _) hg (fun a ha e=>by have:=hb a ha;injection e with e;omega)
 have e4:=zQy (w4.alloc (.cells #[.string zDC,.int .i64 0] 91))
 rw [World.size_alloc] at e4
 refine ⟨(e1.alloc _).alloc _,(h2.alloc _).alloc _,(zAy #[.string zDC,.int .i64 0] (⟨zDC,0⟩:NamV) rfl).alloc _,e4,⟨l1,l2,Nat.le_refl _,Nat.le_refl _⟩,wc,(fun n hn=>?_),(fun x hx=>?_),(fun x hx=>?_)⟩
 ·rcases List.mem_append.1 hn with hn | hn
  ·simp at hn;subst hn;exact ⟨by decide,by decide⟩
  ·exact wd n hn
 ·simp [zBo] at hx;subst hx;exact ⟨by decide,⟨by decide,by decide⟩⟩
 ·simp [zBo] at hx;rcases hx with rfl | rfl<;>exact ⟨by decide,⟨by decide,by decide⟩⟩
theorem zMB (ca da:Option Addr) (cn cc dn dc:Nat) (code data:List Int) (w:World) (hc:Sl w ca cn code) (hd:Sl w da dn data) (hcc:cn≤cc) (hdc:dn≤dc) (wc:∀ n∈code,I64 n) (wd:∀ n∈data,I64 n) :
  Calls Tryz.prog 14 #[.slice ca cn cc,.slice da dn dc] w (zQj w (zBo (code.take 100) (data.take 40))):=by
 obtain ⟨i0,hi0,hz0,hz1,hz2⟩:=info_parts zFJ
 have wc1:∀ n∈code.take 100,I64 n:=fun n hn=>wc n (List.mem_of_mem_take hn)
 have wd1:∀ n∈data.take 40,I64 n:=fun n hn=>wd n (List.mem_of_mem_take hn)
 obtain ⟨C,hC⟩:∃ C,code.take 100=C:=⟨_,rfl⟩
 obtain ⟨E,hE⟩:∃ E,data.take 40=E:=⟨_,rfl⟩
 have lC:=hc.len
 have lD:=hd.len
 rw [hC,hE]
 rw [hC] at wc1
 rw [hE] at wd1
 have WC:=zA wc1
 have WD:=zA wd1
 clear wc wd wc1 wd1
 rcases (show (cn≤100∧¬((100:Int) < cn)∧Sl w ca cn C)∨((100:Int) < cn∧(100:Int)≤cc∧100≤cc∧Sl w ca 100 C) from by
  by_cases h:cn≤100
  ·exact .inl ⟨h,by omega,by rw [←hC,List.take_of_length_le (by omega)];exact hc⟩
  ·exact .inr ⟨by omega,by omega,by omega,by rw [←hC];exact zE7 hc (by omega)⟩) with ⟨hcn,q1,hc1⟩ | ⟨q1,p1,p2,hc1⟩
 all_goals rcases (show (dn≤40∧¬((40:Int) < dn)∧Sl w da dn E)∨((40:Int) < dn∧(40:Int)≤dc∧40≤dc∧Sl w da 40 E) from by
  by_cases h:dn≤40
  ·exact .inl ⟨h,by omega,by rw [←hE,List.take_of_length_le (by omega)];exact hd⟩
  ·exact .inr ⟨by omega,by omega,by omega,by rw [←hE];exact zE7 hd (by omega)⟩) with ⟨hdn,q2,hd1⟩ | ⟨q2,p3,p4,hd1⟩
 all_goals
  have lC1:=hc1.len
  have lE1:=hd1.len
  have HC:=zA hc1
  have HD:=zA hd1
  have LC:=zA (show C.length≤100 by omega)
  have LE:=zA (show E.length≤40 by omega)
  clear hc hd hC hE lC lD hc1 hd1 lC1 lE1 hcc hdc
  go_enter Tryz.func14,Tryz.ntmps14
  go_upto_region 5 with (fail)
  obtain ⟨w1,hw1⟩:∃ w1,w1=w.alloc (.cells #[.slice none 0 0,.slice none 0 0,.slice none 0 0,.slice none 0 0] 48):=⟨_,rfl⟩
  rw [←hw1]
  have b1:Below w.heap.size w w1:=by rw [hw1];exact zG (Below.refl _ _) _
  have M1:=zA (show Bk w1 w.heap.size 48 #[.slice none 0 0,.slice none 0 0,.slice none 0 0,.slice none 0 0] from by rw [hw1];exact zM _ _ _)
  have HC1:=zA (HC.out.below b1)
  have HD1:=zA (HD.out.below b1)
  have B1:=zA b1
  clear b1 hw1
  go_upto_region 6 with (first
   | (at_builtin;refine zY rfl (.const (.slice none 0 0)) (.tmp 17) 36 rfl w1.heap.size 3 i0 _ 8 Tryz.underlying36 hi0 hz0 hz1 hz2 rfl (.slice none 0 0) ([]:List Int) rfl (Own.nil _ _ _) ca _ _ C rfl HC1.out (by unfold maxLen;simp only [List.length_nil];omega) (by simp only [List.length_nil];omega) (Nat.le_refl _) ?_;intro v1 w2 ho1 hg1 _;rw [List.nil_append] at ho1;obtain ⟨a1,c1,rfl,hs1,hk1,hl1⟩:=zK7 ho1;obtain ⟨N1,hN1⟩:∃ N1,C.length=N1:=⟨_,rfl⟩;rw [hN1] at hs1 hl1;rw [hN1];have b12:Below w1.heap.size w1 w2:=(Below.refl _ _).grown hg1 (Nat.le_refl _) (fun k e=>by cases e);have HD2:=zA (HD1.out.below b12);have HS1:=zA hs1;have HK1:=zA hk1;have HL1:=zA hl1;have B2:=zA (zI B1.out b12);have M2:=zA (zH b12 M1.out);clear ho1 hg1 hs1 hk1 hl1 b12 hN1)
   | (at_builtin;refine zY rfl (.tmp 19) (.tmp 20) 36 rfl w2.heap.size 3 i0 _ 8 Tryz.underlying36 hi0 hz0 hz1 hz2 rfl (.slice (some ⟨w2.heap.size,0,none⟩) 4 4) ([0,0,0,0]:List Int) rfl (zBY w2 3 w2.heap.size (Nat.le_refl _) #[.int .i64 0,.int .i64 0,.int .i64 0,.int .i64 0] 4 rfl (by decide) rfl) da _ _ E rfl (HD2.out.alloc _) (by unfold maxLen;simp only [List.length_cons,List.length_nil];omega) (by simp only [List.length_cons,List.length_nil];omega) (by simp) ?_;intro v2 w4 ho2 hg2 _;obtain ⟨a2,c2,rfl,hs2,_,hl2⟩:=zK7 ho2;obtain ⟨N2,hN2⟩:∃ N2,([0,0,0,0]++E:List Int).length=N2:=⟨_,rfl⟩;rw [hN2] at hs2 hl2;rw [hN2];have HS2:=zA hs2;have HL2:=zA hl2;have HG2:=zA (show (w2.alloc (.cells #[.int .i64 0,.int .i64 0,.int .i64 0,.int .i64 0] 3)).grownBy w4 (some w2.heap.size) from hg2);clear ho2 hg2 hs2 hl2 hN2)
   | (refine zAA rfl 48 (.tmp 6) (.tmp 27) rfl rfl #[.slice a1 N1 c1,.slice a2 N2 c2,.slice (some ⟨w4.heap.size,0,none⟩) 1 1,.slice (some ⟨w4.heap.size+1,0,none⟩) 2 2] 48 _ rfl (by first | rfl | kernel_rfl) (by kernel_rfl) (by kernel_rfl) (by kernel_rfl) ?_))
  obtain ⟨w6,hw6⟩:∃ w6,w6=(w4.alloc (.cells #[.string zDC,.int .i64 0] 91)).alloc (.cells #[.string zBq,.int .i64 0,.string zCP,.int .i64 2] 93):=⟨_,rfl⟩
  have hh:=zRL HS1.out (fun a h=>(HK1.out a h).2) HG2.out HS2.out HL1.out HL2.out WC.out WD.out
  have b46:Below w.heap.size w w6:=by
   have e1:Below w.heap.size w w4:=Below.grown (zG B2.out _) HG2.out (by have:=B2.out.size;simp;omega) (fun k e=>by have:=B2.out.size;injection e with e;omega)
   rw [hw6];exact zG (zG e1 _) _
  have m6:Bk w6 w.heap.size 48 #[.slice none 0 0,.slice none 0 0,.slice none 0 0,.slice none 0 0]:=by
   have hs:=M2.out.lt
   have e1:Bk w4 w.heap.size 48 #[.slice none 0 0,.slice none 0 0,.slice none 0 0,.slice none 0 0]:=zDK (zN _ M2.out) HG2.out (fun e=>by injection e with e;omega)
   rw [hw6];exact zN _ (zN _ e1)
  rw [←hw6] at hh
  rw [←hw6]
  have hg46:w4.heap.size+1+1=w6.heap.size:=by rw [hw6];simp
  rw [hg46]
  obtain ⟨g6,hg6⟩:∃ g,w6.heap.size=g:=⟨_,rfl⟩
  obtain ⟨g4,hg4⟩:∃ g,w4.heap.size=g:=⟨_,rfl⟩
  obtain ⟨w7,hw7⟩:∃ w7,w7=w6.alloc (.cells #[.slice a1 N1 c1,.slice a2 N2 c2,.slice (some ⟨w4.heap.size,0,none⟩) 1 1,.slice (some ⟨w4.heap.size+1,0,none⟩) 2 2] 48):=⟨_,rfl⟩
  have b67:Below w6.heap.size w6 w7:=by rw [hw7];exact zG (Below.refl _ _) _
  have m7:Bk w7 g6 48 #[.slice a1 N1 c1,.slice a2 N2 c2,.slice (some ⟨w4.heap.size,0,none⟩) 1 1,.slice (some ⟨w4.heap.size+1,0,none⟩) 2 2]:=by rw [hw7,←hg6];exact zM _ _ _
  rw [←hw7]
  rw [hg4] at m7 hh ⊢
  rw [hg6]
  have M7:=zA m7
  have M0:=zA (zH b67 m6)
  have B7:=zA (zI b46 b67)
  have HH:=zA (hh.below b67)
  have MC:=zA (fun W (hb:Below w7.heap.size w7 W)=>zDR _ _ W ((hh.below b67).below hb))
  obtain ⟨z0,z1,z2,z3⟩:=zT M7.out
  have zL:=m7.lt
  obtain ⟨u0,u1,u2,u3⟩:=zT M0.out
  have uL:=M0.out.lt
  have uF:=fun i=>M0.out.frozen i
  clear hw6 hw7 hg46 hg6 hg4 hh b46 m6 b67 m7 HS1 HK1 HL1 HS2 HL2 HG2 B2 M2 HD2 HC HD HC1 HD1 M1 B1
  go_region_law (go_simp;go_at_call 20;((with_reducible refine (MC.out _ (zJ (Below.refl _ _))).mono ?_);rintro e w8 ⟨er,rfl,hiff,hb8⟩;have hb:=zI (zJ (Below.refl w7.heap.size w7)) hb8;have HB8:=zA hb;have HIF:=zA hiff;obtain ⟨z0,z1,z2,z3⟩:=zT (zH hb M7.out);have zL:=(zH hb M7.out).lt;obtain ⟨u0,u1,u2,u3⟩:=zT (zH hb M0.out);have uL:=(zH hb M0.out).lt;have uF:=fun i=>(zH hb M0.out).frozen i;clear hb hb8 hiff))
  all_goals go_wp2
  all_goals (
   refine bodyPost_ret (zFf (g:=w.heap.size) (t:=48) (cs:=#[.slice a1 N1 c1,.slice a2 N2 c2,.slice (some ⟨g4,0,none⟩) 1 1,.slice (some ⟨g4+1,0,none⟩) 2 2]) (fr:=(0,0)) rfl _ _ _ rfl (zDn (zH HB8.out M0.out) _ _ _ _) Tryz.underlying48 rfl (by kernel_rfl)) rfl ?_
   exact ⟨⟨⟨a1,N1,c1⟩,⟨a2,N2,c2⟩,⟨some ⟨g4,0,none⟩,1,1⟩,⟨some ⟨g4+1,0,none⟩,2,2⟩⟩,_,rfl,zOp (us:=[.slice a1 N1 c1,.slice a2 N2 c2,.slice (some ⟨g4,0,none⟩) 1 1,.slice (some ⟨g4+1,0,none⟩) 2 2]) (HH.out.below HB8.out) (zH HB8.out M0.out),by rw [beq_iff_eq];exact HIF.out,zHU (us:=[.slice a1 N1 c1,.slice a2 N2 c2,.slice (some ⟨g4,0,none⟩) 1 1,.slice (some ⟨g4+1,0,none⟩) 2 2]) (zI B7.out HB8.out) (Nat.le_refl _)⟩)
end
section
open El (cl)
open Go Go.RowKit Go.Shelf
theorem MBox.placesT {g:Nat} {m:MV} {cs:Array Value} {W:World} (h:MBox g m cs W) (hok:m.Ok) (ht:Tab W) {fu:Nat} (hfu:fu≤5000):Calls Tryz.prog 18 #[.agg cs,.int .i64 fu] W fun e w'=>∃ v,e=.returned (.tuple #[v,.int .i64 0])∧Own w' W.heap.size 3 v (m.places fu)∧Below W.heap.size W w':=by
 obtain ⟨ma,sa,oa,mc,sc,oc,rfl,h1,h2,h3⟩:=h.row
 exact zKS m ma sa oa mc sc oc fu W h.h8 h1 h2 h3 hok ht hfu
theorem zO5 {M:List ValV} {E:List EntryV} {s:ByteArray} {args:List Int} {x:EntryV} (h:ImOk M E) (hf:zAe E s=some x) (he:zBK E s args=0):(zCb M x args).Ok:=by
 obtain ⟨c1,c2⟩:=h.k x (zGC hf).1
 obtain ⟨m1,m2⟩:=(zBM M).1 h.m
 have ha:args.all zA0=true:=by
  unfold zBK at he
  split at he
  ·cases he
  ·split at he
   ·cases he
   ·next h=>simpa using h
 refine ⟨⟨fun v hv=>?_,⟨c1.p0,c1.p1,c1.b0,c1.b1,c1.l0,c1.l1,c1.a0,c1.a1,Int.le_refl 0,show (0:Int)≤63 by decide⟩,m1,m2,by simp [zCb],(fun f hf=>by cases hf),by simp [zCb],(fun n hn=>by cases hn)⟩,zHN M x args⟩
 rcases List.mem_or_eq_of_mem_set hv with hv | rfl
 ·unfold zCA at hv
  obtain ⟨r,_,rfl⟩:=List.mem_map.1 hv
  split
  ·refine .inr ⟨rfl,?_⟩
   show -2147483648≤args.getD r 0∧args.getD r 0≤2147483647∧zeroK=zeroK
   rw [List.getD_eq_getElem?_getD]
   cases hr:args[r]? with
   | none=>exact ⟨by decide,by decide,rfl⟩
   | some n =>
    have h2:=of_decide_eq_true (List.all_eq_true.1 ha n (List.mem_of_getElem? hr))
    exact ⟨h2.1,h2.2,rfl⟩
  ·exact .inr ⟨rfl,by decide,by decide,rfl⟩
 ·exact .inl ⟨rfl,⟨c2.p0,c2.p1,c2.b0,c2.b1,c2.l0,c2.l1,c2.a0,c2.a1,Int.le_refl 0,show (0:Int)≤63 by decide⟩,rfl⟩
theorem zNC {w:World} {r q:ModR} {m n:ModV} (h:r.has w m) (h2:q.has w n):Mods (w.alloc (.cells #[.slice r.code.a r.code.n r.code.c,.slice r.data.a r.data.n r.data.c,.slice r.ex.a r.ex.n r.ex.c,.slice r.im.a r.im.n r.im.c,.slice q.code.a q.code.n q.code.c,.slice q.data.a q.data.n q.data.c,.slice q.ex.a q.ex.n q.ex.c,.slice q.im.a q.im.n q.im.c] 48)) (some ⟨w.heap.size,0,none⟩) 2 [r,q] [m,n]:=by
 refine ⟨?_,rfl,fun i r' m' h3 h4=>?_⟩
 ·have h0:=zBY (xs:=[r,q]) w 48 0 (Nat.zero_le _) #[.slice r.code.a r.code.n r.code.c,.slice r.data.a r.data.n r.data.c,.slice r.ex.a r.ex.n r.ex.c,.slice r.im.a r.im.n r.im.c,.slice q.code.a q.code.n q.code.c,.slice q.data.a q.data.n q.data.c,.slice q.ex.a q.ex.n q.ex.c,.slice q.im.a q.im.n q.im.c] 2 rfl (by decide) rfl
  obtain ⟨ao,c,e,h,_⟩:=h0.sl
  injection e with e _ _
  subst e
  exact h
 ·have hi:i < 2:=(List.getElem?_eq_some_iff.1 h3).1
  rcases (by omega:i=0∨i=1) with rfl | rfl<;>(simp at h3 h4;subst h3 h4;first | exact h.below (zG (Below.refl _ _) _) | exact h2.below (zG (Below.refl _ _) _))
theorem zNM (ms:List ModV) (W:World) (ga:Option Addr) (n c:Nat) (rs:List ModR) (h:Mods W ga n rs ms):Calls Tryz.prog 7 #[.slice ga n c] W fun e w'=>∃ ma mn mc pa pn pc ea en ec er,e=.returned (.tuple #[.agg #[.slice ma mn mc,.slice pa pn pc,.slice ea en ec],.int .i64 er])∧(er=0→LinkOk zR ms∧Sl w' ma mn (zAK ms)∧Sl w' ea en (zU 0 0 ms))∧Below W.heap.size W w':=by
 by_cases hok:LinkOk zR ms
 ·refine (zEj ga n c rs ms W h hok).mono ?_
  rintro e w' ⟨vm,vp,ve,rfl,hm,hp,he,hb⟩
  obtain ⟨ma,mc,rfl,h1,_⟩:=hm.sl
  obtain ⟨pa,pc,rfl,h2,_⟩:=hp.sl
  obtain ⟨ea,ec,rfl,h3,_⟩:=he.sl
  exact ⟨_,_,_,_,_,_,_,_,_,0,rfl,fun _=>⟨hok,h1,h3⟩,hb⟩
 ·refine (zJW ga n c rs ms W h hok).mono ?_
  rintro e w' ⟨er,hne,rfl,hb⟩
  exact ⟨_,_,_,_,_,_,_,_,_,er,rfl,fun h=>absurd h hne,hb⟩
theorem zL4 (ma pa ea aa:Option Addr) (mn mc pn pc en ec an ac:Nat) (M:List ValV) (E:List EntryV) (s:ByteArray) (args:List Int) (w:World) (hm:Sl w ma mn M) (he:Sl w ea en E) (ha:Sl w aa an args) (hok:ImOk M E) (hai:∀ n∈args,I64 n) {x:EntryV} (hf:zAe E s=some x) :
  Calls Tryz.prog 16 #[.agg #[.slice ma mn mc,.slice pa pn pc,.slice ea en ec],.string s,.slice aa an ac] w fun e w'=>∃ cs er,e=.returned (.tuple #[.agg cs,.int .i64 er])∧(cs.size=64∧cs.all (·.oneCell')=true)∧(er=0→(zCb M x args).Ok∧MOwn w.heap.size (zCb M x args) cs w')∧Below w.heap.size w w':=by
 refine (zIg ma pa ea aa mn mc pn pc en ec an ac M E s args w hm he ha hok hai).mono ?_
 rintro e w' (⟨h0,he,hb⟩ | ⟨h0,x',vm,hf',he,ho,hb⟩)
 ·exact ⟨zmc,_,he,⟨by kernel_rfl,by kernel_rfl⟩,fun h=>absurd h h0,hb⟩
 ·rw [hf] at hf'
  injection hf' with hf'
  subst hf'
  have hO:=zJn (x:=x) (args:=args) ho
  exact ⟨_,0,he,⟨hO.sz,hO.one⟩,fun _=>⟨zO5 hok hf h0,hO⟩,hb⟩
theorem zKr {l:List Int} {k:Nat} {x:Int} (h:l[k]?=some x):((l.take (k+1)).count 3:Nat)=(l.take k).count 3+(if x=3 then 1 else 0):=by
 rw [List.take_add_one,h,List.count_append]
 congr 1
 by_cases hx:x=3
 ·subst hx;rfl
 ·rw [if_neg hx,List.count_eq_zero]
  simp
  exact fun e=>hx e.symm
theorem zGz (x y z:SlV Int) (fuel:Int) (w:World) (hx:x.ok I64 w) (hy:y.ok I64 w) (hz:z.ok I64 w) (hf:I64 fuel) (he:PEnv w):Calls Tryz.prog 4 #[x.val,y.val,z.val,.int .i64 fuel] w fun e w'=>e=.returned (.bool true)∧Below w.heap.size w w':=by
 obtain ⟨ca,cn,cc,code⟩:=x
 obtain ⟨da,dn,dc,data⟩:=y
 obtain ⟨aa,an,ac,args⟩:=z
 obtain ⟨hcs,hcw,hcl⟩:=hx
 obtain ⟨hds,hdw,hdl⟩:=hy
 obtain ⟨has,haw,hal⟩:=hz
 simp only [SlV.val] at hcs hcw hcl hds hdw hdl has haw hal ⊢
 obtain ⟨C,hC⟩:∃ C,code.take 100=C:=⟨_,rfl⟩
 obtain ⟨E,hE⟩:∃ E,data.take 40=E:=⟨_,rfl⟩
 have cl:=fun W (hb:Below w.heap.size w W)=>zMB ca da cn cc dn dc code data W (hcs.below hb) (hds.below hb) hcl hdl hcw hdw
 rw [hC,hE] at cl
 obtain ⟨fu,hfu⟩:∃ fu:Nat,fuel % 1000=fu:=⟨(fuel % 1000).toNat,by omega⟩
 have hfu1:fu < 1000:=by omega
 have rs:=fun W=>zOU fuel 1000 W (by decide) (by decide)
 rw [hfu] at rs
 have CT:=zA (zGW (n:=1000) ⟨by decide,by decide⟩ w he)
 have WK:=zA (fun W (hb:Below w.heap.size w W)=>zFV W (he.below hb))
 have CL:=zA cl
 have RS:=zA rs
 have AS:=zA has
 have AW:=zA haw
 have HE:=zA he
 clear hcs hcw hcl hds hdw hdl has haw hal hC hE cl hfu rs he hf
 go_enter Tryz.func4,Tryz.ntmps4
 go_upto_region 2 with (first
  | (go_at_call 13;((with_reducible refine CT.out.mono ?_);rintro e w1 ⟨⟨⟨ra,rn,rc⟩,⟨sa,sn,sc⟩,⟨ta,tn,tc⟩,⟨ia,in_,ic⟩⟩,rfl,hr1,hb1⟩;have HR1:=zA hr1;have HB1:=zA hb1;clear hr1 hb1))
  | (refine zAA rfl 48 (.tmp 9) (.tmp 28) rfl rfl #[.slice ra rn rc,.slice sa sn sc,.slice ta tn tc,.slice ia in_ ic] 48 _ rfl (by first | rfl | kernel_rfl) (by kernel_rfl) (by kernel_rfl) (by kernel_rfl) ?_))
 obtain ⟨g9,hg9⟩:∃ g,w1.heap.size=g:=⟨_,rfl⟩
 obtain ⟨w2,hw2⟩:∃ w2,w2=w1.alloc (.cells #[.slice ra rn rc,.slice sa sn sc,.slice ta tn tc,.slice ia in_ ic] 48):=⟨_,rfl⟩
 have m2:Bk w2 g9 48 #[.slice ra rn rc,.slice sa sn sc,.slice ta tn tc,.slice ia in_ ic]:=by rw [hw2,←hg9];exact zM _ _ _
 have b12:Below w1.heap.size w1 w2:=by rw [hw2];exact zG (Below.refl _ _) _
 rw [←hw2]
 try rw [hg9]
 have hrn:rn=9:=by have h1:(zAV 1000).code.length=rn:=HR1.out.code.len;have h2:(zAV 1000).code.length=9:=codeC_ok.1;omega
 subst hrn
 have HB2:=zA (zI HB1.out b12)
 have HR2:=zA (HR1.out.below b12)
 have M2:=zA m2
 clear hw2 hg9 m2 b12 HR1 HB1 CT
 go_upto_region 4 with (go_at_call 8;((with_reducible refine (WK.out _ HB2.out).mono ?_);rintro e w3 ⟨rfl,hb3⟩;have HB3:=zA (zI HB2.out hb3);have M3:=zA (zH hb3 M2.out);have HR3:=zA (HR2.out.below hb3);clear hb3))
 go_upto_region 5 with (first
  | (go_at_call 14;((with_reducible refine (CL.out _ HB3.out).mono ?_);rintro e w4 ⟨⟨⟨pa,pn,pc⟩,⟨qa,qn,qc⟩,⟨ua,un,uc⟩,⟨va,vn,vc⟩⟩,b,rfl,hr4,hiff,hb4⟩;have HQ4:=zA hr4;have HIF:=zA hiff;have HB4:=zA (zI HB3.out hb4);have M4:=zA (zH hb4 M3.out);have HR4:=zA (HR3.out.below hb4);clear hr4 hiff hb4))
  | (refine zAA rfl 48 (.tmp 11) (.tmp 40) rfl rfl #[.slice pa pn pc,.slice qa qn qc,.slice ua un uc,.slice va vn vc] 48 _ rfl (by first | rfl | kernel_rfl) (by kernel_rfl) (by kernel_rfl) (by kernel_rfl) ?_))
 obtain ⟨g11,hg11⟩:∃ g,w4.heap.size=g:=⟨_,rfl⟩
 obtain ⟨w5,hw5⟩:∃ w5,w5=w4.alloc (.cells #[.slice pa pn pc,.slice qa qn qc,.slice ua un uc,.slice va vn vc] 48):=⟨_,rfl⟩
 have m5:Bk w5 g11 48 #[.slice pa pn pc,.slice qa qn qc,.slice ua un uc,.slice va vn vc]:=by rw [hw5,←hg11];exact zM _ _ _
 have b45:Below w4.heap.size w4 w5:=by rw [hw5];exact zG (Below.refl _ _) _
 rw [←hw5]
 try rw [hg11]
 have MO:=zA (zNC (HR4.out.below b45) (HQ4.out.below b45))
 have HB5:=zA (zI HB4.out b45)
 have M5:=zA (zH b45 M4.out)
 obtain ⟨z0,z1,z2,z3⟩:=zT M5.out
 have zL:=M5.out.lt
 obtain ⟨y0,y1,y2,y3⟩:=zT m5
 have yL:=m5.lt
 clear hw5 hg11 m5 b45 HR4 HQ4 HR3 HR2 M2 M3 M4 HB2 HB3 HB4
 go_upto_region 6 with (first
  | (go_at_call 7;((with_reducible refine (zNM _ _ _ _ _ _ MO.out).mono ?_);rintro e w6 ⟨ma,mn,mc,la,ln,lc,ea,en,ec,er,rfl,himp,hb6⟩;have HIM:=zA himp;have HB6:=zA (zI (zG HB5.out _) hb6);have M6:=zA (zH hb6 (zN _ M5.out));clear himp hb6))
  | (refine zAA rfl 28 (.tmp 13) (.tmp 47) rfl rfl #[.slice ma mn mc,.slice la ln lc,.slice ea en ec] 28 _ rfl (by first | rfl | kernel_rfl) (by kernel_rfl) (by kernel_rfl) (by kernel_rfl) ?_))
 clear z0 z1 z2 z3 zL y0 y1 y2 y3 yL
 obtain ⟨g13,hg13⟩:∃ g,w6.heap.size=g:=⟨_,rfl⟩
 obtain ⟨w7,hw7⟩:∃ w7,w7=w6.alloc (.cells #[.slice ma mn mc,.slice la ln lc,.slice ea en ec] 28):=⟨_,rfl⟩
 have m7:Bk w7 g13 28 #[.slice ma mn mc,.slice la ln lc,.slice ea en ec]:=by rw [hw7,←hg13];exact zM _ _ _
 have b67:Below w6.heap.size w6 w7:=by rw [hw7];exact zG (Below.refl _ _) _
 rw [←hw7]
 try rw [hg13]
 have HB7:=zA (zI HB6.out b67)
 have M7:=zA (zH b67 M6.out)
 have I7:=zA m7
 have HIM7:=zA (show er=0→LinkOk zR [zAV 1000,zBo C E]∧Sl w7 ma mn (zAK [zAV 1000,zBo C E])∧Sl w7 ea en (zU 0 0 [zAV 1000,zBo C E]) from fun h=>by obtain ⟨h1,h2,h3⟩:=HIM.out h;exact ⟨h1,h2.below b67,h3.below b67⟩)
 clear hw7 hg13 m7 b67 M5 M6 HIM HB6 HB5 MO
 by_cases her:er=0
 ·subst her
  obtain ⟨lok,hM,hEn⟩:=HIM7.out rfl
  obtain rfl:b=true:=HIF.out.2 (lok.m _ (by simp))
  have hmn:=hM.len
  rw [zDr] at hmn
  obtain ⟨M,hMM⟩:∃ M,zAK [zAV 1000,zBo C E]=M:=⟨_,rfl⟩
  obtain ⟨En,hEE⟩:∃ En,zU 0 0 [zAV 1000,zBo C E]=En:=⟨_,rfl⟩
  have hfd:=(zNj 1000 C E).2.2
  have him:=lok.im_ok
  have law:=fun x0 hx0 hk=>zKq C E args fu (by omega) x0 hx0 hk
  rw [hMM] at hM him law
  rw [hEE] at hEn hfd him
  have h9:9 < mn:=by rw [←hmn,zAq];show 9 < codeC.length+1+_;rw [codeC_ok.1];omega
  have ent:=fun W (hb:Below w7.heap.size w7 W)=>zL4 ma la ea aa mn mc ln lc en ec an ac M En zDC args W (hM.below hb) (hEn.below hb) (AS.out.below (zI HB7.out hb)) him AW.out hfd
  obtain ⟨m0,hm0⟩:∃ m0,zCb M (zGn C E) args=m0:=⟨_,rfl⟩
  have law0:=law m0 hm0.symm
  rw [hm0] at ent
  have hml:m0.mem.length=mn:=by rw [←hm0];exact hM.len
  have ENT:=zA ent
  have LAW:=zA law0
  have HML:=zA hml
  obtain ⟨y0,y1,y2⟩:=zAB I7.out
  have yL:=I7.out.lt
  clear lok hM hEn hmn hMM hEE hfd him law ent law0 hm0 hml HIF HIM7 CL WK
  go_upto_region 9 with (go_at_call 15;((with_reducible refine (RS.out _).mono ?_);rintro e w' ⟨rfl,hw'⟩;subst hw'))
  go_upto_region 10 with (first
   | (go_at_call 16;((with_reducible refine (ENT.out _ (Below.refl _ _)).mono ?_);rintro e w8 ⟨cs,ee,rfl,hsz,hom,hb8⟩;have HSZ:=zA hsz;have HOM:=zA hom;have B8:=zA hb8;clear hsz hom hb8))
   | (refine zAA rfl 60 (.tmp 15) (.tmp 61) rfl rfl cs 60 _ rfl (by first | rfl | kernel_rfl) (by rw [HSZ.out.1];kernel_rfl) (by rw [HSZ.out.1];kernel_rfl) HSZ.out.2 ?_))
  clear y0 y1 y2 yL
  by_cases hee:ee=0
  ·subst hee
   obtain ⟨hok,hom⟩:=HOM.out rfl
   obtain ⟨g15,hg15⟩:∃ g,w8.heap.size=g:=⟨_,rfl⟩
   obtain ⟨w9,hw9⟩:∃ w9,w9=w8.alloc (.cells cs 60):=⟨_,rfl⟩
   have m9:MBox g15 m0 cs w9:=by rw [hw9,←hg15];exact hom.alloc
   have b79:Below w7.heap.size w7 w9:=by rw [hw9];exact zG B8.out _
   rw [←hw9]
   try rw [hg15]
   have hru:zCq m0 fu=((m0.run fu).1,((m0.run fu).2.1:Int),(m0.run fu).2.2):=zFe (by omega) (zDu hok)
   obtain ⟨X,hX⟩:∃ X,(m0.run fu).1=X:=⟨_,rfl⟩
   obtain ⟨sn_,hsn⟩:∃ n:Int,((m0.run fu).2.1:Int)=n:=⟨_,rfl⟩
   obtain ⟨se,hse⟩:∃ e,(m0.run fu).2.2=e:=⟨_,rfl⟩
   have hxl:X.mem.length=mn:=by rw [←hX,zPr,HML.out]
   have lw:=LAW.out hok
   rw [hX] at lw
   rw [hX,hsn,hse] at hru
   have HRU:=zA hru
   have HXL:=zA hxl
   have LW:=zA lw
   have HOK:=zA hok
   have M9:=zA m9
   have B9:=zA b79
   have TB:=zA (fun W (hb:Below w7.heap.size w7 W)=>(HE.out.below (zI HB7.out hb)).asc)
   clear hw9 hg15 m9 b79 hru hX hsn hse hxl lw hok hom LAW HOM HSZ B8 ENT
   go_upto_region 13 with (first
    | (refine zAm rfl 60 (.tmp 15) rfl g15 0 64 rfl 60 _ _ M9.out.bk Tryz.underlying60 rfl (by kernel_rfl) M9.out.size _ M9.out.all ?_)
    | (go_at_call 17;((with_reducible refine (zK4 M9.out (TB.out _ B9.out) fu HRU.out).mono ?_);rintro e wa ⟨xs,rfl,hom,hba⟩;have OX:=zA hom;have BA:=zA hba;clear hom hba))
    | (refine zAA rfl 60 (.tmp 17) (.tmp 69) rfl rfl xs 60 _ rfl (by first | rfl | kernel_rfl) (by rw [OX.out.sz];kernel_rfl) (by rw [OX.out.sz];kernel_rfl) OX.out.one ?_))
   obtain ⟨g17,hg17⟩:∃ g,wa.heap.size=g:=⟨_,rfl⟩
   obtain ⟨wb,hwb⟩:∃ wb,wb=wa.alloc (.cells xs 60):=⟨_,rfl⟩
   have mb:MBox g17 X xs wb:=by rw [hwb,←hg17];exact OX.out.alloc
   have bab:Below w9.heap.size w9 wb:=by rw [hwb];exact zG BA.out _
   rw [←hwb]
   try rw [hg17]
   have MB:=zA mb
   have M15:=zA (M9.out.below bab)
   have BB:=zA (zI B9.out bab)
   clear hwb hg17 mb bab OX BA M9 B9
   go_upto_region 14 with (first
    | (refine zAm rfl 60 (.tmp 15) rfl g15 0 64 rfl 60 _ _ M15.out.bk Tryz.underlying60 rfl (by kernel_rfl) M15.out.size _ M15.out.all ?_)
    | (go_at_call 18;((with_reducible refine (MBox.placesT M15.out HOK.out (TB.out _ BB.out) (by omega)).mono ?_);rintro e wc ⟨vl,rfl,hol,hbc⟩;have OL:=zA hol;have BC:=zA (zI BB.out hbc);have MC:=zA (MB.out.below hbc);clear hol hbc)))
   obtain ⟨L,hL⟩:∃ L,m0.places fu=L:=⟨_,rfl⟩
   have lw:=LW.out
   have ol:=OL.out
   rw [hL] at lw ol
   obtain ⟨ga,gc,rfl,hsl,_⟩:=ol.sl
   obtain ⟨ln2,hln⟩:∃ n,L.length=n:=⟨_,rfl⟩
   have hl9:ln2≤999:=by
    have h1:(m0.places fu).length≤fu:=by rw [zLc];exact zQo fu m0
    rw [hL,hln] at h1
    omega
   rw [hln] at hsl
   rw [hln]
   obtain ⟨xa,xc,x61,xsl⟩:=MC.out.memC
   rw [HXL.out] at x61 xsl
   have xL:=MC.out.bk.lt
   have i7:=zH BC.out I7.out
   obtain ⟨y0,y1,y2⟩:=zAB i7
   have yL:=i7.lt
   have SL:=zA hsl
   have XSL:=zA xsl
   have LW2:=zA lw
   have HLN:=zA hln
   have H9:=zA h9
   have X61:=zA x61
   clear hsl xsl lw hln h9 i7 OL LW hL ol M15 MB BB HML HRU y1 y2 hfu1 RS
   go_upto_region 18 with (fail)
   go_loopw [22,91] (fun s i wr=>∃ k:Nat,k≤ln2∧i=.int .i64 k∧s=.int .i64 ((L.take k).count 3:Nat)∧Below wc.heap.size wc wr) (fun _ i _=>ln2 - (intOf i).toNat)
   case atStart=>exact ⟨0,Nat.zero_le _,rfl,rfl,Below.refl _ _⟩
   case round =>
    obtain ⟨k,hk,rfl,rfl,hb⟩:=hrel
    have HBR:=zA hb
    by_cases hlt:k < ln2
    ·have q1:(0:Int)≤k:=by omega
     have q2:(k:Int) < ln2:=by omega
     obtain ⟨x,hgx⟩:∃ x,L[k]?=some x:=⟨_,List.getElem?_eq_getElem (by rw [HLN.out];exact hlt)⟩
     obtain ⟨ad,rfl,bx,e0⟩:=zCM (SL.out.below hb) hlt hgx
     have hct:=zKr hgx
     have hcb:(L.take k).count 3≤k:=Nat.le_trans List.count_le_length (by rw [List.length_take];omega)
     have hmx:=SL.out.max
     unfold maxLen at hmx
     obtain ⟨t,ht⟩:∃ t,(L.take k).count 3=t:=⟨_,rfl⟩
     rw [ht] at hct hcb ⊢
     have e1:IntKind.i64.wrap ((t:Int)+1)=(t:Int)+1:=by rw [IntKind.wrap_i64];omega
     have HCT:=zA hct
     clear hgx hct ht hb hcb
     by_cases hx3:x=3
     ·subst hx3
      go_wp2
      go_roundw
      case rel=>exact ⟨k+1,by omega,by go_num,by rw [HCT.out];rfl,HBR.out⟩
      case measure=>simp [intOf];omega
     ·have q3:(x==3)=false:=by simpa using hx3
      go_wp2
      go_roundw
      case rel=>exact ⟨k+1,by omega,by go_num,by rw [HCT.out,if_neg hx3];rfl,HBR.out⟩
      case measure=>simp [intOf];omega
    ·have q1:¬((k:Int) < ln2):=by omega
     obtain rfl:ln2=k:=by omega
     rw [show (L.take ln2).count 3=L.count 3 by rw [←HLN.out,List.take_length]]
     have lw:=LW2.out
     obtain ⟨t,ht⟩:∃ t,L.count 3=t:=⟨_,rfl⟩
     rw [ht] at lw ⊢
     have htb:t≤ln2:=by rw [←ht,←HLN.out];exact List.count_le_length
     have hmx:=SL.out.max
     unfold maxLen at hmx
     have e2:IntKind.i64.wrap (1000+(t:Int))=1000+(t:Int):=by rw [IntKind.wrap_i64];omega
     have p9:(9:Int) < mn:=by have:=H9.out;omega
     have p9n:9 < mn:=H9.out
     have bw:=zI BC.out HBR.out
     obtain ⟨z0,z1,z2,z3⟩:=zT (zH bw M7.out)
     have zL:=(zH bw M7.out).lt
     have mr:=MC.out.below HBR.out
     have hx61:wr.cell? ⟨g17,61,none⟩=some (.slice xa mn xc):=(HBR.out.cell (p:=⟨g17,61,none⟩) MC.out.bk.lt).trans X61.out
     have xL2:=mr.bk.lt
     obtain ⟨ad,rfl,bx,hv⟩:=zEy (XSL.out.below HBR.out) (i:=9) H9.out
     have ha:ad.add (9*7)=⟨ad.block,ad.off+63,none⟩:=by unfold Addr.add;rw [if_neg (by decide)]
     rw [lw,ha] at hv
     obtain ⟨v0,v1,v2,v3,v4,v5,v6⟩:=hv
     have q:=zKF (nV (1000+(t:Int))) (nV (1000+(t:Int))) wr
     have HBW:=zA (zI HB7.out bw)
     clear lw ht htb hmx bw mr hb hk hlt y0 yL x61 xL ha
     simp only [nV,ValV.val,zeroK,decide_true] at q v0 v1 v2 v3 v4 v5 v6
     go_wp2
     go_ret
     exact ⟨rfl,HBW.out⟩
  ·have q1:(ee != 0)=true:=by simpa using hee
   have HB9:=zA (zI HB7.out (zG B8.out (.cells cs 60)))
   go_wp2
   go_ret
   exact ⟨rfl,HB9.out⟩
 ·have q1:(er != 0)=true:=by simpa using her
  cases b
  ·go_wp2
   go_ret
   exact ⟨rfl,HB7.out⟩
  ·go_wp2
   go_ret
   exact ⟨rfl,HB7.out⟩
end
end Go.Proofs.YtlpejagkadalbaaGreatDoor
