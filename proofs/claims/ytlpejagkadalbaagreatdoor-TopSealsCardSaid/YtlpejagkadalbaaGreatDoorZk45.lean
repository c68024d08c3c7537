import Derived.Test.YtlpejagkadalbaaGreatDoorZk44
set_option maxHeartbeats 40000000
set_option maxRecDepth 100000
set_option linter.unusedVariables false
set_option linter.unusedSimpArgs false
namespace Go.Proofs.YtlpejagkadalbaaGreatDoor
section
open El (cl)
open Go Go.RowKit Go.Shelf
abbrev zOZ:ByteArray:=⟨#[105,110,99,58,10,108,111,97,100,32,114,49,32,114,55,32,48,10,115,101,116,32,114,50,32,49,10,97,100,100,32,114,49,32,114,49,32,114,50,10,115,116,111,114,101,32,114,49,32,114,55,32,48,10,99,111,112,121,32,114,48,32,114,49,10,99,108,101,97,114,32,54,10,98,97,99,107,10,103,101,116,58,10,108,111,97,100,32,114,48,32,114,55,32,48,10,98,97,99,107]⟩
theorem zOT {n:Int} (hn : -2147483648≤n∧n≤2147483647) (W:World) (he:PEnv W) (ga:Option Addr) (hd:Sl W ga 1 [n]):Calls Tryz.prog 37 #[.string zOZ,.slice ga 1 1,.slice none 0 0] W fun e w'=>∃ r:ModR,e=.returned (.tuple #[.agg #[.slice r.code.a r.code.n r.code.c,.slice r.data.a r.data.n r.data.c,.slice r.ex.a r.ex.n r.ex.c,.slice r.im.a r.im.n r.im.c],.int .i64 0,.int .i64 0])∧r.has w' (zA6 n)∧Below W.heap.size W w':=by
 obtain ⟨c1,c2⟩:=codeC_ok
 refine (zMM zOZ ga 1 1 [n] W he (by decide) hd (by decide) (fun x hx=>by simp at hx;subst hx;constructor<;>omega) ⟨codeC,[⟨zB5,0⟩,⟨zCV,7⟩],0,0⟩ zOK (fun y hy=>by have:=c2 y hy;constructor<;>omega) (fun y hy=>?_)).mono ?_
 ·simp at hy
  rcases hy with rfl | rfl
  ·exact ⟨by decide,⟨by decide,by decide⟩⟩
  ·exact ⟨by decide,⟨by decide,by decide⟩⟩
 ·rintro e w' ⟨⟨⟨ln,er,hne,rfl⟩,hbad⟩ | ⟨r,rfl,hr,him,her,hmok⟩,hb⟩
  ·rcases hbad with h | h
   ·exact absurd rfl h
   ·exact absurd (zJJ hn) h
  ·exact ⟨r,rfl,hr,hb⟩
theorem zEq {P:Program} {fn:Func} {p q:Tmp} {ty:TypeId} (h:fn.results=#[.cell p ty,.tmp q]) (tmps:Array Value) (w:World) (g:Nat) (t:TypeId) (cs:Array Value) (fr:Nat×Nat) (d:TypeDesc)
  (hp:tmps.getD p undef=.pointer (some ⟨g,0,none⟩)) (hg:w.heap[g]?=some (.cells cs t fr))
  (hu:P.underlying ty=some d) (hd:(match d with | .struct _ | .array _ _=>true | _=>false)=true) (hi:(P.info? ty).map (·.size)=some cs.size) :
  (results fn tmps).run P w=.ok (.tuple #[.agg cs,tmps.getD q undef]) w:=by
 have hp':tmps[p]?.getD undef=.pointer (some ⟨g,0,none⟩):=by simpa using hp
 simp [results,h,hp',asAddr,run_loadVar_row w g t ty cs fr d hg hu hd hi]
theorem zCH {α:Type} [El α] {w w':World} {ao:Option Addr} {n g:Nat} {xs:List α} {T:TypeId} {cs:Array Value} (h:Sl w ao n xs) (hb:Bk w g T cs) (hx:∀ x∈xs,∃ u,(cl x)[0]?=some u∧∀ v∈cs.toList,v≠u) (hs:w.heap.size≤w'.heap.size) (hk:∀ k,k < w.heap.size→k≠g→w'.heap[k]?=w.heap[k]?):Sl w' ao n xs:=by
 by_cases h0:0 < n
 ·obtain ⟨a,x,rfl,hlt,hx0,hc⟩:=h.at h0
  refine h.keep hs fun a' ha'=>?_
  injection ha' with ha'
  subst ha'
  refine hk _ hlt fun e=>?_
  obtain ⟨u,hu,hn⟩:=hx x (List.mem_of_getElem? hx0)
  have h1:=hc 0 u hu
  have h2:(a.add (0*El.k α+0))=a:=by rw [Nat.zero_mul];unfold Addr.add;rfl
  rw [h2] at h1
  unfold World.cell? at h1
  rw [e] at h1
  unfold Bk at hb
  rw [hb] at h1
  simp only at h1
  split at h1
  ·cases h1
  ·exact hn u (by have:=Array.mem_of_getElem? h1;simpa using this) rfl
 ·obtain rfl:n=0:=by omega
  have:xs=[]:=List.eq_nil_of_length_eq_zero h.len
  subst this
  exact Sl.nil _ _
theorem zFO {w:World} {g:Nat} (us:List Value) (k:Nat) (hk:k < w.heap.size) (hn:k≠g):(w.setCells g 0 us).heap[k]?=w.heap[k]?:=(zAO g us 0 w).block k hk (fun e=>hn (by injection e))
theorem zGD {w0 w:World} {g:Nat} {us:List Value} (h:Below w0.heap.size w0 w) (hg:w0.heap.size≤g):Below w0.heap.size w0 (w.setCells g 0 us):=h.grown (zAO g us 0 w) h.size (fun k e=>by injection e with e;omega)
theorem zMZ {w:World} {g:Nat} {T:TypeId} {us:List Value} {r:ModR} {n:Int} (h:r.has w (zA6 n)) (hb:Bk w g T #[.slice none 0 0,.slice none 0 0,.slice none 0 0,.slice none 0 0]):r.has (w.setCells g 0 us).drew (zA6 n):=by
 have hs:=(zAO g us 0 w).size
 have hk:=fun k a b=>zFO (w:=w) (g:=g) us k a b
 have z:∀ u:Value,(∀ a b c,u≠.slice a b c)→∀ v∈(#[.slice none 0 0,.slice none 0 0,.slice none 0 0,.slice none 0 0]:Array Value).toList,v≠u:=by
  intro u hu v hv e
  simp at hv
  subst hv
  exact hu none 0 0 e.symm
 exact ⟨(zCH h.code hb (fun x _=>⟨_,rfl,z _ (fun _ _ _ e=>by cases e)⟩) hs hk).drew,(zCH h.data hb (fun x _=>⟨_,rfl,z _ (fun _ _ _ e=>by cases e)⟩) hs hk).drew,(zCH h.ex hb (fun x _=>⟨_,rfl,z _ (fun _ _ _ e=>by cases e)⟩) hs hk).drew,(zCH h.im hb (fun x _=>⟨_,rfl,z _ (fun _ _ _ e=>by cases e)⟩) hs hk).drew,h.le,h.wc,h.wd,h.we,h.wi⟩
theorem zI4 {n:Int} (hn : -2147483648≤n∧n≤2147483647) (w:World) (he:PEnv w):Calls Tryz.prog 13 #[.int .i64 n] w fun e w'=>∃ r:ModR,e=.returned (.tuple #[.agg #[.slice r.code.a r.code.n r.code.c,.slice r.data.a r.data.n r.data.c,.slice r.ex.a r.ex.n r.ex.c,.slice r.im.a r.im.n r.im.c],.bool true])∧r.has w' (zA6 n)∧Below w.heap.size w w':=by
 obtain ⟨w1,hw1⟩:∃ w1,w1=w.alloc (.cells #[.slice none 0 0,.slice none 0 0,.slice none 0 0,.slice none 0 0] 48):=⟨_,rfl⟩
 have m1:Bk w1 w.heap.size 48 #[.slice none 0 0,.slice none 0 0,.slice none 0 0,.slice none 0 0]:=by rw [hw1];exact zM _ _ _
 have b1:Below w.heap.size w w1:=by rw [hw1];exact zG (Below.refl _ _) _
 have mk:=zOT hn (w1.alloc (.cells #[.int .i64 n] 3)) (he.below (zG b1 _)) (some ⟨w1.heap.size,0,none⟩) (zBF #[.int .i64 n] n rfl)
 have MK:=zA mk
 have HW1:=zA hw1
 have M1:=zA m1
 have B1:=zA b1
 clear mk hw1 m1 b1
 go_enter Tryz.func13,Tryz.ntmps13
 go_upto_region 1 with (fail)
 rw [←HW1.out]
 go_upto_region 2 with (first
  | (go_at_call 37;((with_reducible refine MK.out.mono ?_);rintro e w5 ⟨⟨⟨ra,rn,rc⟩,⟨sa,sn,sc⟩,⟨ta,tn,tc⟩,⟨ia,in_,ic⟩⟩,rfl,hr5,hb5⟩;have HR5:=zA hr5;have M5:=zA (zH hb5 (zN _ M1.out));have HB5:=zA (zI (zG B1.out _) hb5);clear hr5 hb5))
  | (refine zAI rfl 48 (.tmp 4) (.tmp 11) rfl rfl #[.slice ra rn rc,.slice sa sn sc,.slice ta tn tc,.slice ia in_ ic] 48 _ rfl (by first | rfl | kernel_rfl) (by kernel_rfl) (by kernel_rfl) (by kernel_rfl) ?_))
 obtain ⟨g4,hg4⟩:∃ g,w5.heap.size=g:=⟨_,rfl⟩
 obtain ⟨w6,hw6⟩:∃ w6,w6=w5.alloc (.cells #[.slice ra rn rc,.slice sa sn sc,.slice ta tn tc,.slice ia in_ ic] 48):=⟨_,rfl⟩
 have m6:Bk w6 g4 48 #[.slice ra rn rc,.slice sa sn sc,.slice ta tn tc,.slice ia in_ ic]:=by rw [hw6,←hg4];exact zM _ _ _
 have b56:Below w5.heap.size w5 w6:=by rw [hw6];exact zG (Below.refl _ _) _
 rw [←hw6]
 try rw [hg4]
 have hr6:=HR5.out.below b56
 have m26:=zH b56 M5.out
 have hne:g4≠w.heap.size:=by have:=M5.out.lt;omega
 have htn:tn=2:=by have:=hr6.ex.len;simp only [zA6,List.length_cons,List.length_nil] at this;omega
 subst htn
 have HB6:=zA (zI HB5.out b56)
 have HR6:=zA hr6
 have M6:=zA m6
 have M26:=zA m26
 obtain ⟨z0,z1,z2,z3⟩:=zY m6
 have zL:=m6.lt
 have zF:=fun i=>m6.frozen i
 obtain ⟨y0,y1,y2,y3⟩:=zY m26
 have yL:=m26.lt
 have yF:=fun i=>m26.frozen i
 clear hw6 hg4 m6 b56 hr6 m26 HR5 M5 HB5 MK HW1 M1 B1
 go_region_law (fail)
 all_goals go_wp2
 all_goals (
  refine bodyPost_ret (zEq (g:=w.heap.size) (t:=48) (cs:=#[.slice ra rn rc,.slice sa sn sc,.slice ta 2 tc,.slice ia in_ ic]) (fr:=(0,0)) rfl _ _ _ rfl (zP (zDH M26.out _ _ _ _)) Tryz.underlying48 rfl (by kernel_rfl)) rfl ?_
  exact ⟨⟨⟨ra,rn,rc⟩,⟨sa,sn,sc⟩,⟨ta,2,tc⟩,⟨ia,in_,ic⟩⟩,rfl,zMZ (us:=[.slice ra rn rc,.slice sa sn sc,.slice ta 2 tc,.slice ia in_ ic]) HR6.out M26.out,zJ (zGD (us:=[.slice ra rn rc,.slice sa sn sc,.slice ta 2 tc,.slice ia in_ ic]) HB6.out (Nat.le_refl _))⟩)
theorem zOV {n:Int} (hn : -2147483648≤n∧n≤2147483647) (W:World) (ga:Option Addr) (r:ModR) (h:Mods W ga 1 [r] [zA6 n]):Calls Tryz.prog 7 #[.slice ga 1 1] W fun e w'=>∃ ma mn mc pa pn pc ea en ec,e=.returned (.tuple #[.agg #[.slice ma mn mc,.slice pa pn pc,.slice ea en ec],.int .i64 0])∧Sl w' ma mn (zBL [zA6 n])∧Sl w' ea en (zAQ 0 0 [zA6 n])∧Below W.heap.size W w':=by
 refine (zK8 ga 1 1 [r] [zA6 n] W h (zHr hn)).mono ?_
 rintro e w' ⟨vm,vp,ve,rfl,hm,hp,he,hb⟩
 obtain ⟨ma,mc,rfl,h1,_⟩:=hm.sl
 obtain ⟨pa,pc,rfl,h2,_⟩:=hp.sl
 obtain ⟨ea,ec,rfl,h3,_⟩:=he.sl
 exact ⟨_,_,_,_,_,_,_,_,_,rfl,h1,h3,hb⟩
theorem zK0 {w:World} {r:ModR} {m:ModV} (h:r.has w m):Mods (w.alloc (.cells #[.slice r.code.a r.code.n r.code.c,.slice r.data.a r.data.n r.data.c,.slice r.ex.a r.ex.n r.ex.c,.slice r.im.a r.im.n r.im.c] 48)) (some ⟨w.heap.size,0,none⟩) 1 [r] [m]:=by
 refine ⟨zBF _ r rfl,rfl,fun i r' m' h1 h2=>?_⟩
 have hi:i=0:=by
  have:=(List.getElem?_eq_some_iff.1 h1).1
  simp at this
  exact this
 subst hi
 simp at h1 h2
 subst h1 h2
 exact h.below (zG (Below.refl _ _) _)
abbrev jrC:List JobR:=[⟨zB5,⟨none,0,0⟩,50⟩,⟨zB5,⟨none,0,0⟩,50⟩,⟨zCV,⟨none,0,0⟩,50⟩]
theorem zLC (w:World):Jobs (w.alloc (.cells #[.string zB5,.slice none 0 0,.int .i64 50,.string zB5,.slice none 0 0,.int .i64 50,.string zCV,.slice none 0 0,.int .i64 50] 38)) (some ⟨w.heap.size,0,none⟩) 3 jrC zD4:=by
 refine ⟨?_,rfl,fun i r j h1 h2=>?_⟩
 ·have h0:=zBw (xs:=jrC) w 38 0 (Nat.zero_le _) #[.string zB5,.slice none 0 0,.int .i64 50,.string zB5,.slice none 0 0,.int .i64 50,.string zCV,.slice none 0 0,.int .i64 50] 3 rfl (by decide) rfl
  obtain ⟨ao,c,e,h,_⟩:=h0.sl
  injection e with e _ _
  subst e
  exact h
 ·have hi:i < 3:=(List.getElem?_eq_some_iff.1 h1).1
  rcases (by omega:i=0∨i=1∨i=2) with rfl | rfl | rfl<;>(simp at h1 h2;subst h1 h2;exact ⟨rfl,rfl,Sl.nil _ _,Nat.le_refl _,fun n hn=>by simp at hn,⟨by decide,by decide⟩⟩)
theorem zOL (W:World) (he:PEnv W) (ga ma pa ea:Option Addr) (mn mc pn pc en ec:Nat) (hm:Sl W ma mn (zBL [zA6 5])) (hE:Sl W ea en (zAQ 0 0 [zA6 5])) (hj:Jobs W ga 3 jrC zD4) :
  Calls Tryz.prog 9 #[.agg #[.slice ma mn mc,.slice pa pn pc,.slice ea en ec],.slice ga 3 3] W fun e w'=>∃ va vc ua uc r0 r1 r2,e=.returned (.tuple #[.slice va 3 vc,.slice ua mn uc,.int .i64 0])∧Sl w' va 3 [r0,r1,r2]∧(r2:DoneR).e=0∧r2.n=7∧Below W.heap.size W w':=by
 refine (zMD ma pa ea ga mn mc pn pc en ec 3 3 (zBL [zA6 5]) (zAQ 0 0 [zA6 5]) jrC zD4 W hm hE hj (by decide) (zHr ⟨by decide,by decide⟩).im_ok he.asc).mono ?_
 rintro e w' ⟨vo,vm,rs,rfl,ho,hD,hM,hb⟩
 have hl:=hD.len
 rw [zDi] at hl
 match rs,hl with
 | [r0,r1,r2],_ =>
  obtain ⟨va,vc,rfl,hs,_⟩:=ho.sl
  obtain ⟨ua,uc,rfl,hu,_⟩:=hM.sl
  have hmn:mn=(zBL [zA6 5]).length:=hm.len.symm
  have hx:(zBi (zAQ 0 0 [zA6 5]) (zBL [zA6 5]) zD4)[2]?=some (((zBi (zAQ 0 0 [zA6 5]) (zBL [zA6 5]) zD4)[2]?).getD ⟨0,0,[],0⟩):=by
   have h3:2 < (zBi (zAQ 0 0 [zA6 5]) (zBL [zA6 5]) zD4).length:=by rw [zDi];decide
   rw [List.getElem?_eq_getElem h3]
   rfl
  have hr:=hD.at_ 2 r2 _ rfl hx
  have hc:=congrArg (fun l:List (Int×Int)=>l[2]?) counts
  simp only [List.getElem?_map] at hc
  rw [hx] at hc
  simp at hc
  refine ⟨va,vc,ua,uc,r0,r1,r2,?_,hs,by rw [hr.e];exact hc.1,by rw [hr.n];exact hc.2,hb⟩
  rw [zJ2,←hmn]
  rfl
theorem zKN (w:World) (he:PEnv w):Calls Tryz.prog 8 #[] w fun e w'=>e=.returned (.bool true)∧Below w.heap.size w w':=by
 have ct:=zI4 (n:=5) ⟨by decide,by decide⟩ w he
 have lk:=fun W ga (r:ModR) (h:Mods W ga 1 [r] [zA6 5])=>zOV (n:=5) ⟨by decide,by decide⟩ W ga r h
 have pl:=fun W ga ma mn mc pa pn pc ea en ec (hb:Below w.heap.size w W) h1 h2 h3=>zOL W (he.below hb) ga ma pa ea mn mc pn pc en ec h1 h2 h3
 have CT:=zA ct
 have LK:=zA lk
 have PL:=zA pl
 clear ct lk pl he
 go_enter Tryz.func8,Tryz.ntmps8
 go_upto_region 2 with (first
  | (go_at_call 13;((with_reducible refine CT.out.mono ?_);rintro e w5 ⟨⟨⟨ra,rn,rc⟩,⟨sa,sn,sc⟩,⟨ta,tn,tc⟩,⟨ia,in_,ic⟩⟩,rfl,hr5,hb5⟩;have HR5:=zA hr5;have HB5:=zA hb5;clear hr5 hb5))
  | (refine zAI rfl 48 (.tmp 1) (.tmp 10) rfl rfl #[.slice ra rn rc,.slice sa sn sc,.slice ta tn tc,.slice ia in_ ic] 48 _ rfl (by first | rfl | kernel_rfl) (by kernel_rfl) (by kernel_rfl) (by kernel_rfl) ?_))
 obtain ⟨g8,hg8⟩:∃ g,w5.heap.size=g:=⟨_,rfl⟩
 obtain ⟨w6,hw6⟩:∃ w6,w6=w5.alloc (.cells #[.slice ra rn rc,.slice sa sn sc,.slice ta tn tc,.slice ia in_ ic] 48):=⟨_,rfl⟩
 have m6:Bk w6 g8 48 #[.slice ra rn rc,.slice sa sn sc,.slice ta tn tc,.slice ia in_ ic]:=by rw [hw6,←hg8];exact zM _ _ _
 have b56:Below w5.heap.size w5 w6:=by rw [hw6];exact zG (Below.refl _ _) _
 rw [←hw6]
 try rw [hg8]
 have HB6:=zA (zI HB5.out b56)
 have MO:=zA (zK0 (HR5.out.below b56))
 obtain ⟨z0,z1,z2,z3⟩:=zY m6
 have zL:=m6.lt
 clear hw6 hg8 m6 b56 HR5
 go_upto_region 3 with (first
  | (go_at_call 7;((with_reducible refine (LK.out _ _ _ MO.out).mono ?_);rintro e w7 ⟨ma,mn,mc,pa,pn,pc,ea,en,ec,rfl,hm7,he7,hb7⟩;have HM7:=zA hm7;have HE7:=zA he7;have HB7:=zA (zI (zG HB6.out _) hb7);clear hm7 he7 hb7))
  | (refine zAI rfl 28 (.tmp 3) (.tmp 16) rfl rfl #[.slice ma mn mc,.slice pa pn pc,.slice ea en ec] 28 _ rfl (by first | rfl | kernel_rfl) (by kernel_rfl) (by kernel_rfl) (by kernel_rfl) ?_))
 clear z0 z1 z2 z3 zL
 obtain ⟨g11,hg11⟩:∃ g,w7.heap.size=g:=⟨_,rfl⟩
 obtain ⟨w8,hw8⟩:∃ w8,w8=w7.alloc (.cells #[.slice ma mn mc,.slice pa pn pc,.slice ea en ec] 28):=⟨_,rfl⟩
 have m8:Bk w8 g11 28 #[.slice ma mn mc,.slice pa pn pc,.slice ea en ec]:=by rw [hw8,←hg11];exact zM _ _ _
 have b78:Below w7.heap.size w7 w8:=by rw [hw8];exact zG (Below.refl _ _) _
 rw [←hw8]
 try rw [hg11]
 have HB8:=zA (zI HB7.out b78)
 have HM8:=zA (HM7.out.below b78)
 have HE8:=zA (HE7.out.below b78)
 have M8:=zA m8
 have y0:=m8.cell 0
 have y1:=m8.cell 1
 have y2:=m8.cell 2
 have yL:=m8.lt
 simp only [List.getElem?_toArray,List.getElem?_cons_zero,List.getElem?_cons_succ] at y0 y1 y2
 clear hw8 hg11 m8 b78 HM7 HE7
 go_upto_region 6 with (go_at_call 9;((with_reducible refine (PL.out _ _ ma mn mc pa pn pc ea en ec (zG HB8.out _) (HM8.out.alloc _) (HE8.out.alloc _) (zLC _)).mono ?_);rintro e w9 ⟨va,vc,ua,uc,r0,r1,r2,rfl,hs9,hre,hrn,hb9⟩;have HS9:=zA hs9;have M9:=zA (zH hb9 (zN _ M8.out));have HRE:=zA hre;have HRN:=zA hrn;have HB9:=zA (zI (zG HB8.out _) hb9);clear hs9 hre hrn hb9))
 clear y0 y1 y2 yL
 have y0:=M9.out.cell 0
 have yL:=M9.out.lt
 simp only [List.getElem?_toArray,List.getElem?_cons_zero,List.getElem?_cons_succ] at y0
 obtain ⟨ad,rfl,xb,x0,x1,x2,x3⟩:=zLq HS9.out (i:=2) (x:=r2) (by decide) rfl
 rw [HRE.out] at x0
 rw [HRN.out] at x1
 have ha:ad.add (2*4)=⟨ad.block,ad.off+8,none⟩:=by unfold Addr.add;rw [if_neg (by decide)]
 rw [ha] at x0 x1 xb
 simp only at x0 x1 xb
 clear x2 x3 ha
 go_wp2
 go_ret
 exact ⟨rfl,HB9.out⟩
end
section
open Go Go.RowKit Go.Shelf
theorem zKX {α:Type} [El α] {w w':World} {ao:Option Addr} {n:Nat} {xs:List α} {row:Option Nat} (h:Sl w ao n xs) (hg:w.grownBy w' row) (hr:∀ a,ao=some a→row≠some a.block):Sl w' ao n xs :=
 h.grown hg (fun a ha _ e=>hr a ha e.symm)
theorem zJI {α:Type} [El α] {w:World} {base:Nat} {T:TypeId} {v:Value} {xs:List α} (h:Own w base T v xs):∃ ao cap,v=.slice ao xs.length cap∧Sl w ao xs.length xs∧(∀ a,ao=some a→base≤a.block∧a.block < w.heap.size)∧xs.length≤cap:=by
 rcases h.form with ⟨rfl,rfl⟩ | ⟨g,cap,rfl,h2,h3,h4,h5⟩
 ·exact ⟨none,0,rfl,Sl.nil _ _,(fun a h=>by cases h),Nat.le_refl _⟩
 ·refine ⟨some ⟨g,0,none⟩,cap,rfl,⟨rfl,by omega,fun _=>⟨_,rfl,h3,h.cells rfl⟩⟩,(fun a e=>?_),h4⟩
  injection e with e
  subst e
  exact ⟨h2,h3⟩
def zOC (w:World) (m:ModV) (e:Ending) (w':World):Prop :=
 ∃ (r:ModR) (b:Bool),e=.returned (.tuple #[.agg #[.slice r.code.a r.code.n r.code.c,.slice r.data.a r.data.n r.data.c,.slice r.ex.a r.ex.n r.ex.c,.slice r.im.a r.im.n r.im.c],.bool b])∧r.has w' m∧(b=true↔ModOk zW m)∧Below w.heap.size w w'
theorem zMY {w:World} {g:Nat} {T:TypeId} {us:List Value} {r:ModR} {m:ModV} (h:r.has w m) (hb:Bk w g T #[.slice none 0 0,.slice none 0 0,.slice none 0 0,.slice none 0 0]):r.has (w.setCells g 0 us) m:=by
 have hs:=(zAO g us 0 w).size
 have hk:=fun k a b=>zFO (w:=w) (g:=g) us k a b
 have z:∀ u:Value,(∀ a b c,u≠.slice a b c)→∀ v∈(#[.slice none 0 0,.slice none 0 0,.slice none 0 0,.slice none 0 0]:Array Value).toList,v≠u:=by
  intro u hu v hv e
  simp at hv
  subst hv
  exact hu none 0 0 e.symm
 exact ⟨zCH h.code hb (fun x _=>⟨_,rfl,z _ (fun _ _ _ e=>by cases e)⟩) hs hk,zCH h.data hb (fun x _=>⟨_,rfl,z _ (fun _ _ _ e=>by cases e)⟩) hs hk,zCH h.ex hb (fun x _=>⟨_,rfl,z _ (fun _ _ _ e=>by cases e)⟩) hs hk,zCH h.im hb (fun x _=>⟨_,rfl,z _ (fun _ _ _ e=>by cases e)⟩) hs hk,h.le,h.wc,h.wd,h.we,h.wi⟩
theorem zOU (w:World):Sl (w.alloc (.cells #[.string zB5,.int .i64 0,.string zCV,.int .i64 2] 93)) (some ⟨w.heap.size,0,none⟩) 2 [(⟨zB5,0⟩:NamV),⟨zCV,2⟩]:=by
 have h0:=zBw (xs:=[(⟨zB5,0⟩:NamV),⟨zCV,2⟩]) w 93 0 (Nat.zero_le _) #[.string zB5,.int .i64 0,.string zCV,.int .i64 2] 2 rfl (by decide) rfl
 obtain ⟨ao,c,e,h,_⟩:=h0.sl
 injection e with e _ _
 subst e
 exact h
theorem zOo {w2 w4:World} {a1 a2:Option Addr} {n1 n2 c1 c2:Nat} {C D:List Int} (h1:Sl w2 a1 n1 C) (hb:∀ a,a1=some a→a.block < w2.heap.size) (hg:(w2.alloc (.cells #[.int .i64 0,.int .i64 0,.int .i64 0,.int .i64 0] 3)).grownBy w4 (some w2.heap.size)) (h2:Sl w4 a2 n2 ([0,0,0,0]++D)) (l1:n1≤c1) (l2:n2≤c2) (wc:∀ n∈C,I64 n) (wd:∀ n∈D,I64 n) :
  (⟨⟨a1,n1,c1⟩,⟨a2,n2,c2⟩,⟨some ⟨w4.heap.size,0,none⟩,1,1⟩,⟨some ⟨w4.heap.size+1,0,none⟩,2,2⟩⟩:ModR).has ((w4.alloc (.cells #[.string zFB,.int .i64 0] 91)).alloc (.cells #[.string zB5,.int .i64 0,.string zCV,.int .i64 2] 93)) (zJm C D):=by
 have e1:Sl w4 a1 n1 C:=zKX (h1.alloc _) hg (fun a ha e=>by have:=hb a ha;injection e with e;omega)
 have e4:=zOU (w4.alloc (.cells #[.string zFB,.int .i64 0] 91))
 rw [World.size_alloc] at e4
 refine ⟨(e1.alloc _).alloc _,(h2.alloc _).alloc _,(zBF #[.string zFB,.int .i64 0] (⟨zFB,0⟩:NamV) rfl).alloc _,e4,⟨l1,l2,Nat.le_refl _,Nat.le_refl _⟩,wc,(fun n hn=>?_),(fun x hx=>?_),(fun x hx=>?_)⟩
 ·rcases List.mem_append.1 hn with hn | hn
  ·simp at hn;subst hn;exact ⟨by decide,by decide⟩
  ·exact wd n hn
 ·simp [zJm] at hx;subst hx;exact ⟨by decide,⟨by decide,by decide⟩⟩
 ·simp [zJm] at hx;rcases hx with rfl | rfl<;>exact ⟨by decide,⟨by decide,by decide⟩⟩
theorem zJ8 (ca da:Option Addr) (cn cc dn dc:Nat) (code data:List Int) (w:World) (hc:Sl w ca cn code) (hd:Sl w da dn data) (hcc:cn≤cc) (hdc:dn≤dc) (wc:∀ n∈code,I64 n) (wd:∀ n∈data,I64 n) :
  Calls Tryz.prog 14 #[.slice ca cn cc,.slice da dn dc] w (zOC w (zJm (code.take 100) (data.take 40))):=by
 obtain ⟨i0,hi0,hz0,hz1,hz2⟩:=info_parts zFc
 have wc1:∀ n∈code.take 100,I64 n:=fun n hn=>wc n (List.mem_of_mem_take hn)
 have wd1:∀ n∈data.take 40,I64 n:=fun n hn=>wd n (List.mem_of_mem_take hn)
 obtain ⟨C,hC⟩:∃ C,code.take 100=C:=⟨_,rfl⟩
 obtain ⟨E,hE⟩:∃ E,data.take 40=E:=⟨_,rfl⟩
 have lC:=hc.len
 have lD:=hd.len
 rw [hC,hE]
 rw [hC] at wc1
 rw [hE] at wd1
 have WC:=zA wc1
 have WD:=zA wd1
 clear wc wd wc1 wd1
 rcases (show (cn≤100∧¬((100:Int) < cn)∧Sl w ca cn C)∨((100:Int) < cn∧(100:Int)≤cc∧100≤cc∧Sl w ca 100 C) from by
  by_cases h:cn≤100
  ·exact .inl ⟨h,by omega,by rw [←hC,List.take_of_length_le (by omega)];exact hc⟩
  ·exact .inr ⟨by omega,by omega,by omega,by rw [←hC];exact zEN hc (by omega)⟩) with ⟨hcn,q1,hc1⟩ | ⟨q1,p1,p2,hc1⟩
 all_goals rcases (show (dn≤40∧¬((40:Int) < dn)∧Sl w da dn E)∨((40:Int) < dn∧(40:Int)≤dc∧40≤dc∧Sl w da 40 E) from by
  by_cases h:dn≤40
  ·exact .inl ⟨h,by omega,by rw [←hE,List.take_of_length_le (by omega)];exact hd⟩
  ·exact .inr ⟨by omega,by omega,by omega,by rw [←hE];exact zEN hd (by omega)⟩) with ⟨hdn,q2,hd1⟩ | ⟨q2,p3,p4,hd1⟩
 all_goals
  have lC1:=hc1.len
  have lE1:=hd1.len
  have HC:=zA hc1
  have HD:=zA hd1
  have LC:=zA (show C.length≤100 by omega)
  have LE:=zA (show E.length≤40 by omega)
  clear hc hd hC hE lC lD hc1 hd1 lC1 lE1 hcc hdc
  go_enter Tryz.func14,Tryz.ntmps14
  go_upto_region 5 with (fail)
  obtain ⟨w1,hw1⟩:∃ w1,w1=w.alloc (.cells #[.slice none 0 0,.slice none 0 0,.slice none 0 0,.slice none 0 0] 48):=⟨_,rfl⟩
  rw [←hw1]
  have b1:Below w.heap.size w w1:=by rw [hw1];exact zG (Below.refl _ _) _
  have M1:=zA (show Bk w1 w.heap.size 48 #[.slice none 0 0,.slice none 0 0,.slice none 0 0,.slice none 0 0] from by rw [hw1];exact zM _ _ _)
  have HC1:=zA (HC.out.below b1)
  have HD1:=zA (HD.out.below b1)
  have B1:=zA b1
  clear b1 hw1
  go_upto_region 6 with (first
   | (at_builtin;refine zAC rfl (.const (.slice none 0 0)) (.tmp 17) 36 rfl w1.heap.size 3 i0 _ 8 Tryz.underlying36 hi0 hz0 hz1 hz2 rfl (.slice none 0 0) ([]:List Int) rfl (Own.nil _ _ _) ca _ _ C rfl HC1.out (by unfold maxLen;simp only [List.length_nil];omega) (by simp only [List.length_nil];omega) (Nat.le_refl _) ?_;intro v1 w2 ho1 hg1 _;rw [List.nil_append] at ho1;obtain ⟨a1,c1,rfl,hs1,hk1,hl1⟩:=zJI ho1;obtain ⟨N1,hN1⟩:∃ N1,C.length=N1:=⟨_,rfl⟩;rw [hN1] at hs1 hl1;rw [hN1];have b12:Below w1.heap.size w1 w2:=(Below.refl _ _).grown hg1 (Nat.le_refl _) (fun k e=>by cases e);have HD2:=zA (HD1.out.below b12);have HS1:=zA hs1;have HK1:=zA hk1;have HL1:=zA hl1;have B2:=zA (zI B1.out b12);have M2:=zA (zH b12 M1.out);clear ho1 hg1 hs1 hk1 hl1 b12 hN1)
   | (at_builtin;refine zAC rfl (.tmp 19) (.tmp 20) 36 rfl w2.heap.size 3 i0 _ 8 Tryz.underlying36 hi0 hz0 hz1 hz2 rfl (.slice (some ⟨w2.heap.size,0,none⟩) 4 4) ([0,0,0,0]:List Int) rfl (zBw w2 3 w2.heap.size (Nat.le_refl _) #[.int .i64 0,.int .i64 0,.int .i64 0,.int .i64 0] 4 rfl (by decide) rfl) da _ _ E rfl (HD2.out.alloc _) (by unfold maxLen;simp only [List.length_cons,List.length_nil];omega) (by simp only [List.length_cons,List.length_nil];omega) (by simp) ?_;intro v2 w4 ho2 hg2 _;obtain ⟨a2,c2,rfl,hs2,_,hl2⟩:=zJI ho2;obtain ⟨N2,hN2⟩:∃ N2,([0,0,0,0]++E:List Int).length=N2:=⟨_,rfl⟩;rw [hN2] at hs2 hl2;rw [hN2];have HS2:=zA hs2;have HL2:=zA hl2;have HG2:=zA (show (w2.alloc (.cells #[.int .i64 0,.int .i64 0,.int .i64 0,.int .i64 0] 3)).grownBy w4 (some w2.heap.size) from hg2);clear ho2 hg2 hs2 hl2 hN2)
   | (refine zAI rfl 48 (.tmp 6) (.tmp 27) rfl rfl #[.slice a1 N1 c1,.slice a2 N2 c2,.slice (some ⟨w4.heap.size,0,none⟩) 1 1,.slice (some ⟨w4.heap.size+1,0,none⟩) 2 2] 48 _ rfl (by first | rfl | kernel_rfl) (by kernel_rfl) (by kernel_rfl) (by kernel_rfl) ?_))
  obtain ⟨w6,hw6⟩:∃ w6,w6=(w4.alloc (.cells #[.string zFB,.int .i64 0] 91)).alloc (.cells #[.string zB5,.int .i64 0,.string zCV,.int .i64 2] 93):=⟨_,rfl⟩
  have hh:=zOo HS1.out (fun a h=>(HK1.out a h).2) HG2.out HS2.out HL1.out HL2.out WC.out WD.out
  have b46:Below w.heap.size w w6:=by
   have e1:Below w.heap.size w w4:=Below.grown (zG B2.out _) HG2.out (by have:=B2.out.size;simp;omega) (fun k e=>by have:=B2.out.size;injection e with e;omega)
   rw [hw6];exact zG (zG e1 _) _
  have m6:Bk w6 w.heap.size 48 #[.slice none 0 0,.slice none 0 0,.slice none 0 0,.slice none 0 0]:=by
   have hs:=M2.out.lt
   have e1:Bk w4 w.heap.size 48 #[.slice none 0 0,.slice none 0 0,.slice none 0 0,.slice none 0 0]:=zDI (zN _ M2.out) HG2.out (fun e=>by injection e with e;omega)
   rw [hw6];exact zN _ (zN _ e1)
  rw [←hw6] at hh
  rw [←hw6]
  have hg46:w4.heap.size+1+1=w6.heap.size:=by rw [hw6];simp
  rw [hg46]
  obtain ⟨g6,hg6⟩:∃ g,w6.heap.size=g:=⟨_,rfl⟩
  obtain ⟨g4,hg4⟩:∃ g,w4.heap.size=g:=⟨_,rfl⟩
  obtain ⟨w7,hw7⟩:∃ w7,w7=w6.alloc (.cells #[.slice a1 N1 c1,.slice a2 N2 c2,.slice (some ⟨w4.heap.size,0,none⟩) 1 1,.slice (some ⟨w4.heap.size+1,0,none⟩) 2 2] 48):=⟨_,rfl⟩
  have b67:Below w6.heap.size w6 w7:=by rw [hw7];exact zG (Below.refl _ _) _
  have m7:Bk w7 g6 48 #[.slice a1 N1 c1,.slice a2 N2 c2,.slice (some ⟨w4.heap.size,0,none⟩) 1 1,.slice (some ⟨w4.heap.size+1,0,none⟩) 2 2]:=by rw [hw7,←hg6];exact zM _ _ _
  rw [←hw7]
  rw [hg4] at m7 hh ⊢
  rw [hg6]
  have M7:=zA m7
  have M0:=zA (zH b67 m6)
  have B7:=zA (zI b46 b67)
  have HH:=zA (hh.below b67)
  have MC:=zA (fun W (hb:Below w7.heap.size w7 W)=>zEw _ _ W ((hh.below b67).below hb))
  obtain ⟨z0,z1,z2,z3⟩:=zY M7.out
  have zL:=m7.lt
  obtain ⟨u0,u1,u2,u3⟩:=zY M0.out
  have uL:=M0.out.lt
  have uF:=fun i=>M0.out.frozen i
  clear hw6 hw7 hg46 hg6 hg4 hh b46 m6 b67 m7 HS1 HK1 HL1 HS2 HL2 HG2 B2 M2 HD2 HC HD HC1 HD1 M1 B1
  go_region_law (go_simp;go_at_call 20;((with_reducible refine (MC.out _ (zJ (Below.refl _ _))).mono ?_);rintro e w8 ⟨er,rfl,hiff,hb8⟩;have hb:=zI (zJ (Below.refl w7.heap.size w7)) hb8;have HB8:=zA hb;have HIF:=zA hiff;obtain ⟨z0,z1,z2,z3⟩:=zY (zH hb M7.out);have zL:=(zH hb M7.out).lt;obtain ⟨u0,u1,u2,u3⟩:=zY (zH hb M0.out);have uL:=(zH hb M0.out).lt;have uF:=fun i=>(zH hb M0.out).frozen i;clear hb hb8 hiff))
  all_goals go_wp2
  all_goals (
   refine bodyPost_ret (zEq (g:=w.heap.size) (t:=48) (cs:=#[.slice a1 N1 c1,.slice a2 N2 c2,.slice (some ⟨g4,0,none⟩) 1 1,.slice (some ⟨g4+1,0,none⟩) 2 2]) (fr:=(0,0)) rfl _ _ _ rfl (zDH (zH HB8.out M0.out) _ _ _ _) Tryz.underlying48 rfl (by kernel_rfl)) rfl ?_
   exact ⟨⟨⟨a1,N1,c1⟩,⟨a2,N2,c2⟩,⟨some ⟨g4,0,none⟩,1,1⟩,⟨some ⟨g4+1,0,none⟩,2,2⟩⟩,_,rfl,zMY (us:=[.slice a1 N1 c1,.slice a2 N2 c2,.slice (some ⟨g4,0,none⟩) 1 1,.slice (some ⟨g4+1,0,none⟩) 2 2]) (HH.out.below HB8.out) (zH HB8.out M0.out),by rw [beq_iff_eq];exact HIF.out,zGD (us:=[.slice a1 N1 c1,.slice a2 N2 c2,.slice (some ⟨g4,0,none⟩) 1 1,.slice (some ⟨g4+1,0,none⟩) 2 2]) (zI B7.out HB8.out) (Nat.le_refl _)⟩)
end
end Go.Proofs.YtlpejagkadalbaaGreatDoor
