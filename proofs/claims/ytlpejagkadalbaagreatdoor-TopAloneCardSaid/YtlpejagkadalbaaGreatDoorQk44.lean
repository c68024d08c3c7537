import Derived.Test.YtlpejagkadalbaaGreatDoorQk41
set_option maxHeartbeats 40000000
set_option maxRecDepth 100000
set_option linter.unusedVariables false
set_option linter.unusedSimpArgs false
namespace Go.Proofs.YtlpejagkadalbaaGreatDoor
open El (cl)
open Go Go.RowKit Go.Shelf
abbrev zQ9:ByteArray:=⟨#[105,110,99,58,10,108,111,97,100,32,114,49,32,114,55,32,48,10,115,101,116,32,114,50,32,49,10,97,100,100,32,114,49,32,114,49,32,114,50,10,115,116,111,114,101,32,114,49,32,114,55,32,48,10,99,111,112,121,32,114,48,32,114,49,10,99,108,101,97,114,32,54,10,98,97,99,107,10,103,101,116,58,10,108,111,97,100,32,114,48,32,114,55,32,48,10,98,97,99,107]⟩
theorem zQx {n:Int} (hn : -2147483648≤n∧n≤2147483647) (W:World) (he:PEnv W) (ga:Option Addr) (hd:Sl W ga 1 [n]):Calls Tryz.prog 37 #[.string zQ9,.slice ga 1 1,.slice none 0 0] W fun e w'=>∃ r:ModR,e=.returned (.tuple #[.agg #[.slice r.code.a r.code.n r.code.c,.slice r.data.a r.data.n r.data.c,.slice r.ex.a r.ex.n r.ex.c,.slice r.im.a r.im.n r.im.c],.int .i64 0,.int .i64 0])∧r.has w' (zAV n)∧Below W.heap.size W w':=by
 obtain ⟨c1,c2⟩:=codeC_ok
 refine (zOd zQ9 ga 1 1 [n] W he (by decide) hd (by decide) (fun x hx=>by simp at hx;subst hx;constructor<;>omega) ⟨codeC,[⟨zBq,0⟩,⟨zCP,7⟩],0,0⟩ zQq (fun y hy=>by have:=c2 y hy;constructor<;>omega) (fun y hy=>?_)).mono ?_
 ·simp at hy
  rcases hy with rfl | rfl
  ·exact ⟨by decide,⟨by decide,by decide⟩⟩
  ·exact ⟨by decide,⟨by decide,by decide⟩⟩
 ·rintro e w' ⟨⟨⟨ln,er,hne,rfl⟩,hbad⟩ | ⟨r,rfl,hr,him,her,hmok⟩,hb⟩
  ·rcases hbad with h | h
   ·exact absurd rfl h
   ·exact absurd (zLA hn) h
  ·exact ⟨r,rfl,hr,hb⟩
theorem zFf {P:Program} {fn:Func} {p q:Tmp} {ty:TypeId} (h:fn.results=#[.cell p ty,.tmp q]) (tmps:Array Value) (w:World) (g:Nat) (t:TypeId) (cs:Array Value) (fr:Nat×Nat) (d:TypeDesc)
  (hp:tmps.getD p undef=.pointer (some ⟨g,0,none⟩)) (hg:w.heap[g]?=some (.cells cs t fr))
  (hu:P.underlying ty=some d) (hd:(match d with | .struct _ | .array _ _=>true | _=>false)=true) (hi:(P.info? ty).map (·.size)=some cs.size) :
  (results fn tmps).run P w=.ok (.tuple #[.agg cs,tmps.getD q undef]) w:=by
 have hp':tmps[p]?.getD undef=.pointer (some ⟨g,0,none⟩):=by simpa using hp
 simp [results,h,hp',asAddr,run_loadVar_row w g t ty cs fr d hg hu hd hi]
theorem zCj {α:Type} [El α] {w w':World} {ao:Option Addr} {n g:Nat} {xs:List α} {T:TypeId} {cs:Array Value} (h:Sl w ao n xs) (hb:Bk w g T cs) (hx:∀ x∈xs,∃ u,(cl x)[0]?=some u∧∀ v∈cs.toList,v≠u) (hs:w.heap.size≤w'.heap.size) (hk:∀ k,k < w.heap.size→k≠g→w'.heap[k]?=w.heap[k]?):Sl w' ao n xs:=by
 by_cases h0:0 < n
 ·obtain ⟨a,x,rfl,hlt,hx0,hc⟩:=h.at h0
  refine h.keep hs fun a' ha'=>?_
  injection ha' with ha'
  subst ha'
  refine hk _ hlt fun e=>?_
  obtain ⟨u,hu,hn⟩:=hx x (List.mem_of_getElem? hx0)
  have h1:=hc 0 u hu
  have h2:(a.add (0*El.k α+0))=a:=by rw [Nat.zero_mul];unfold Addr.add;rfl
  rw [h2] at h1
  unfold World.cell? at h1
  rw [e] at h1
  unfold Bk at hb
  rw [hb] at h1
  simp only at h1
  split at h1
  ·cases h1
  ·exact hn u (by have:=Array.mem_of_getElem? h1;simpa using this) rfl
 ·obtain rfl:n=0:=by omega
  have:xs=[]:=List.eq_nil_of_length_eq_zero h.len
  subst this
  exact Sl.nil _ _
theorem zGQ {w:World} {g:Nat} (us:List Value) (k:Nat) (hk:k < w.heap.size) (hn:k≠g):(w.setCells g 0 us).heap[k]?=w.heap[k]?:=(zAZ g us 0 w).block k hk (fun e=>hn (by injection e))
theorem zHU {w0 w:World} {g:Nat} {us:List Value} (h:Below w0.heap.size w0 w) (hg:w0.heap.size≤g):Below w0.heap.size w0 (w.setCells g 0 us):=h.grown (zAZ g us 0 w) h.size (fun k e=>by injection e with e;omega)
theorem zOr {w:World} {g:Nat} {T:TypeId} {us:List Value} {r:ModR} {n:Int} (h:r.has w (zAV n)) (hb:Bk w g T #[.slice none 0 0,.slice none 0 0,.slice none 0 0,.slice none 0 0]):r.has (w.setCells g 0 us).drew (zAV n):=by
 have hs:=(zAZ g us 0 w).size
 have hk:=fun k a b=>zGQ (w:=w) (g:=g) us k a b
 have z:∀ u:Value,(∀ a b c,u≠.slice a b c)→∀ v∈(#[.slice none 0 0,.slice none 0 0,.slice none 0 0,.slice none 0 0]:Array Value).toList,v≠u:=by
  intro u hu v hv e
  simp at hv
  subst hv
  exact hu none 0 0 e.symm
 exact ⟨(zCj h.code hb (fun x _=>⟨_,rfl,z _ (fun _ _ _ e=>by cases e)⟩) hs hk).drew,(zCj h.data hb (fun x _=>⟨_,rfl,z _ (fun _ _ _ e=>by cases e)⟩) hs hk).drew,(zCj h.ex hb (fun x _=>⟨_,rfl,z _ (fun _ _ _ e=>by cases e)⟩) hs hk).drew,(zCj h.im hb (fun x _=>⟨_,rfl,z _ (fun _ _ _ e=>by cases e)⟩) hs hk).drew,h.le,h.wc,h.wd,h.we,h.wi⟩
theorem zGW {n:Int} (hn : -2147483648≤n∧n≤2147483647) (w:World) (he:PEnv w):Calls Tryz.prog 13 #[.int .i64 n] w fun e w'=>∃ r:ModR,e=.returned (.tuple #[.agg #[.slice r.code.a r.code.n r.code.c,.slice r.data.a r.data.n r.data.c,.slice r.ex.a r.ex.n r.ex.c,.slice r.im.a r.im.n r.im.c],.bool true])∧r.has w' (zAV n)∧Below w.heap.size w w':=by
 obtain ⟨w1,hw1⟩:∃ w1,w1=w.alloc (.cells #[.slice none 0 0,.slice none 0 0,.slice none 0 0,.slice none 0 0] 48):=⟨_,rfl⟩
 have m1:Bk w1 w.heap.size 48 #[.slice none 0 0,.slice none 0 0,.slice none 0 0,.slice none 0 0]:=by rw [hw1];exact zM _ _ _
 have b1:Below w.heap.size w w1:=by rw [hw1];exact zG (Below.refl _ _) _
 have mk:=zQx hn (w1.alloc (.cells #[.int .i64 n] 3)) (he.below (zG b1 _)) (some ⟨w1.heap.size,0,none⟩) (zAy #[.int .i64 n] n rfl)
 have MK:=zA mk
 have HW1:=zA hw1
 have M1:=zA m1
 have B1:=zA b1
 clear mk hw1 m1 b1
 go_enter Tryz.func13,Tryz.ntmps13
 go_upto_region 1 with (fail)
 rw [←HW1.out]
 go_upto_region 2 with (first
  | (go_at_call 37;((with_reducible refine MK.out.mono ?_);rintro e w5 ⟨⟨⟨ra,rn,rc⟩,⟨sa,sn,sc⟩,⟨ta,tn,tc⟩,⟨ia,in_,ic⟩⟩,rfl,hr5,hb5⟩;have HR5:=zA hr5;have M5:=zA (zH hb5 (zN _ M1.out));have HB5:=zA (zI (zG B1.out _) hb5);clear hr5 hb5))
  | (refine zAA rfl 48 (.tmp 4) (.tmp 11) rfl rfl #[.slice ra rn rc,.slice sa sn sc,.slice ta tn tc,.slice ia in_ ic] 48 _ rfl (by first | rfl | kernel_rfl) (by kernel_rfl) (by kernel_rfl) (by kernel_rfl) ?_))
 obtain ⟨g4,hg4⟩:∃ g,w5.heap.size=g:=⟨_,rfl⟩
 obtain ⟨w6,hw6⟩:∃ w6,w6=w5.alloc (.cells #[.slice ra rn rc,.slice sa sn sc,.slice ta tn tc,.slice ia in_ ic] 48):=⟨_,rfl⟩
 have m6:Bk w6 g4 48 #[.slice ra rn rc,.slice sa sn sc,.slice ta tn tc,.slice ia in_ ic]:=by rw [hw6,←hg4];exact zM _ _ _
 have b56:Below w5.heap.size w5 w6:=by rw [hw6];exact zG (Below.refl _ _) _
 rw [←hw6]
 try rw [hg4]
 have hr6:=HR5.out.below b56
 have m26:=zH b56 M5.out
 have hne:g4≠w.heap.size:=by have:=M5.out.lt;omega
 have htn:tn=2:=by have:=hr6.ex.len;simp only [zAV,List.length_cons,List.length_nil] at this;omega
 subst htn
 have HB6:=zA (zI HB5.out b56)
 have HR6:=zA hr6
 have M6:=zA m6
 have M26:=zA m26
 obtain ⟨z0,z1,z2,z3⟩:=zT m6
 have zL:=m6.lt
 have zF:=fun i=>m6.frozen i
 obtain ⟨y0,y1,y2,y3⟩:=zT m26
 have yL:=m26.lt
 have yF:=fun i=>m26.frozen i
 clear hw6 hg4 m6 b56 hr6 m26 HR5 M5 HB5 MK HW1 M1 B1
 go_region_law (fail)
 all_goals go_wp2
 all_goals (
  refine bodyPost_ret (zFf (g:=w.heap.size) (t:=48) (cs:=#[.slice ra rn rc,.slice sa sn sc,.slice ta 2 tc,.slice ia in_ ic]) (fr:=(0,0)) rfl _ _ _ rfl (zP (zDn M26.out _ _ _ _)) Tryz.underlying48 rfl (by kernel_rfl)) rfl ?_
  exact ⟨⟨⟨ra,rn,rc⟩,⟨sa,sn,sc⟩,⟨ta,2,tc⟩,⟨ia,in_,ic⟩⟩,rfl,zOr (us:=[.slice ra rn rc,.slice sa sn sc,.slice ta 2 tc,.slice ia in_ ic]) HR6.out M26.out,zJ (zHU (us:=[.slice ra rn rc,.slice sa sn sc,.slice ta 2 tc,.slice ia in_ ic]) HB6.out (Nat.le_refl _))⟩)
theorem zQz {n:Int} (hn : -2147483648≤n∧n≤2147483647) (W:World) (ga:Option Addr) (r:ModR) (h:Mods W ga 1 [r] [zAV n]):Calls Tryz.prog 7 #[.slice ga 1 1] W fun e w'=>∃ ma mn mc pa pn pc ea en ec,e=.returned (.tuple #[.agg #[.slice ma mn mc,.slice pa pn pc,.slice ea en ec],.int .i64 0])∧Sl w' ma mn (zAK [zAV n])∧Sl w' ea en (zU 0 0 [zAV n])∧Below W.heap.size W w':=by
 refine (zEj ga 1 1 [r] [zAV n] W h (zJX hn)).mono ?_
 rintro e w' ⟨vm,vp,ve,rfl,hm,hp,he,hb⟩
 obtain ⟨ma,mc,rfl,h1,_⟩:=hm.sl
 obtain ⟨pa,pc,rfl,h2,_⟩:=hp.sl
 obtain ⟨ea,ec,rfl,h3,_⟩:=he.sl
 exact ⟨_,_,_,_,_,_,_,_,_,rfl,h1,h3,hb⟩
theorem zND {w:World} {r:ModR} {m:ModV} (h:r.has w m):Mods (w.alloc (.cells #[.slice r.code.a r.code.n r.code.c,.slice r.data.a r.data.n r.data.c,.slice r.ex.a r.ex.n r.ex.c,.slice r.im.a r.im.n r.im.c] 48)) (some ⟨w.heap.size,0,none⟩) 1 [r] [m]:=by
 refine ⟨zAy _ r rfl,rfl,fun i r' m' h1 h2=>?_⟩
 have hi:i=0:=by
  have:=(List.getElem?_eq_some_iff.1 h1).1
  simp at this
  exact this
 subst hi
 simp at h1 h2
 subst h1 h2
 exact h.below (zG (Below.refl _ _) _)
abbrev jrC:List JobR:=[⟨zBq,⟨none,0,0⟩,50⟩,⟨zBq,⟨none,0,0⟩,50⟩,⟨zCP,⟨none,0,0⟩,50⟩]
theorem zNR (w:World):Jobs (w.alloc (.cells #[.string zBq,.slice none 0 0,.int .i64 50,.string zBq,.slice none 0 0,.int .i64 50,.string zCP,.slice none 0 0,.int .i64 50] 38)) (some ⟨w.heap.size,0,none⟩) 3 jrC zEk:=by
 refine ⟨?_,rfl,fun i r j h1 h2=>?_⟩
 ·have h0:=zBY (xs:=jrC) w 38 0 (Nat.zero_le _) #[.string zBq,.slice none 0 0,.int .i64 50,.string zBq,.slice none 0 0,.int .i64 50,.string zCP,.slice none 0 0,.int .i64 50] 3 rfl (by decide) rfl
  obtain ⟨ao,c,e,h,_⟩:=h0.sl
  injection e with e _ _
  subst e
  exact h
 ·have hi:i < 3:=(List.getElem?_eq_some_iff.1 h1).1
  rcases (by omega:i=0∨i=1∨i=2) with rfl | rfl | rfl<;>(simp at h1 h2;subst h1 h2;exact ⟨rfl,rfl,Sl.nil _ _,Nat.le_refl _,fun n hn=>by simp at hn,⟨by decide,by decide⟩⟩)
theorem zQr (W:World) (he:PEnv W) (ga ma pa ea:Option Addr) (mn mc pn pc en ec:Nat) (hm:Sl W ma mn (zAK [zAV 5])) (hE:Sl W ea en (zU 0 0 [zAV 5])) (hj:Jobs W ga 3 jrC zEk) :
  Calls Tryz.prog 9 #[.agg #[.slice ma mn mc,.slice pa pn pc,.slice ea en ec],.slice ga 3 3] W fun e w'=>∃ va vc ua uc r0 r1 r2,e=.returned (.tuple #[.slice va 3 vc,.slice ua mn uc,.int .i64 0])∧Sl w' va 3 [r0,r1,r2]∧(r2:DoneR).e=0∧r2.n=7∧Below W.heap.size W w':=by
 refine (zGe ma pa ea ga mn mc pn pc en ec 3 3 (zAK [zAV 5]) (zU 0 0 [zAV 5]) jrC zEk W hm hE hj (by decide) (zJX ⟨by decide,by decide⟩).im_ok he.asc).mono ?_
 rintro e w' ⟨vo,vm,rs,rfl,ho,hD,hM,hb⟩
 have hl:=hD.len
 rw [zDe] at hl
 match rs,hl with
 | [r0,r1,r2],_ =>
  obtain ⟨va,vc,rfl,hs,_⟩:=ho.sl
  obtain ⟨ua,uc,rfl,hu,_⟩:=hM.sl
  have hmn:mn=(zAK [zAV 5]).length:=hm.len.symm
  have hx:(zBC (zU 0 0 [zAV 5]) (zAK [zAV 5]) zEk)[2]?=some (((zBC (zU 0 0 [zAV 5]) (zAK [zAV 5]) zEk)[2]?).getD ⟨0,0,[],0⟩):=by
   have h3:2 < (zBC (zU 0 0 [zAV 5]) (zAK [zAV 5]) zEk).length:=by rw [zDe];decide
   rw [List.getElem?_eq_getElem h3]
   rfl
  have hr:=hD.at_ 2 r2 _ rfl hx
  have hc:=congrArg (fun l:List (Int×Int)=>l[2]?) counts
  simp only [List.getElem?_map] at hc
  rw [hx] at hc
  simp at hc
  refine ⟨va,vc,ua,uc,r0,r1,r2,?_,hs,by rw [hr.e];exact hc.1,by rw [hr.n];exact hc.2,hb⟩
  rw [zL8,←hmn]
  rfl
theorem zFV (w:World) (he:PEnv w):Calls Tryz.prog 8 #[] w fun e w'=>e=.returned (.bool true)∧Below w.heap.size w w':=by
 have ct:=zGW (n:=5) ⟨by decide,by decide⟩ w he
 have lk:=fun W ga (r:ModR) (h:Mods W ga 1 [r] [zAV 5])=>zQz (n:=5) ⟨by decide,by decide⟩ W ga r h
 have pl:=fun W ga ma mn mc pa pn pc ea en ec (hb:Below w.heap.size w W) h1 h2 h3=>zQr W (he.below hb) ga ma pa ea mn mc pn pc en ec h1 h2 h3
 have CT:=zA ct
 have LK:=zA lk
 have PL:=zA pl
 clear ct lk pl he
 go_enter Tryz.func8,Tryz.ntmps8
 go_upto_region 2 with (first
  | (go_at_call 13;((with_reducible refine CT.out.mono ?_);rintro e w5 ⟨⟨⟨ra,rn,rc⟩,⟨sa,sn,sc⟩,⟨ta,tn,tc⟩,⟨ia,in_,ic⟩⟩,rfl,hr5,hb5⟩;have HR5:=zA hr5;have HB5:=zA hb5;clear hr5 hb5))
  | (refine zAA rfl 48 (.tmp 1) (.tmp 10) rfl rfl #[.slice ra rn rc,.slice sa sn sc,.slice ta tn tc,.slice ia in_ ic] 48 _ rfl (by first | rfl | kernel_rfl) (by kernel_rfl) (by kernel_rfl) (by kernel_rfl) ?_))
 obtain ⟨g8,hg8⟩:∃ g,w5.heap.size=g:=⟨_,rfl⟩
 obtain ⟨w6,hw6⟩:∃ w6,w6=w5.alloc (.cells #[.slice ra rn rc,.slice sa sn sc,.slice ta tn tc,.slice ia in_ ic] 48):=⟨_,rfl⟩
 have m6:Bk w6 g8 48 #[.slice ra rn rc,.slice sa sn sc,.slice ta tn tc,.slice ia in_ ic]:=by rw [hw6,←hg8];exact zM _ _ _
 have b56:Below w5.heap.size w5 w6:=by rw [hw6];exact zG (Below.refl _ _) _
 rw [←hw6]
 try rw [hg8]
 have HB6:=zA (zI HB5.out b56)
 have MO:=zA (zND (HR5.out.below b56))
 obtain ⟨z0,z1,z2,z3⟩:=zT m6
 have zL:=m6.lt
 clear hw6 hg8 m6 b56 HR5
 go_upto_region 3 with (first
  | (go_at_call 7;((with_reducible refine (LK.out _ _ _ MO.out).mono ?_);rintro e w7 ⟨ma,mn,mc,pa,pn,pc,ea,en,ec,rfl,hm7,he7,hb7⟩;have HM7:=zA hm7;have HE7:=zA he7;have HB7:=zA (zI (zG HB6.out _) hb7);clear hm7 he7 hb7))
  | (refine zAA rfl 28 (.tmp 3) (.tmp 16) rfl rfl #[.slice ma mn mc,.slice pa pn pc,.slice ea en ec] 28 _ rfl (by first | rfl | kernel_rfl) (by kernel_rfl) (by kernel_rfl) (by kernel_rfl) ?_))
 clear z0 z1 z2 z3 zL
 obtain ⟨g11,hg11⟩:∃ g,w7.heap.size=g:=⟨_,rfl⟩
 obtain ⟨w8,hw8⟩:∃ w8,w8=w7.alloc (.cells #[.slice ma mn mc,.slice pa pn pc,.slice ea en ec] 28):=⟨_,rfl⟩
 have m8:Bk w8 g11 28 #[.slice ma mn mc,.slice pa pn pc,.slice ea en ec]:=by rw [hw8,←hg11];exact zM _ _ _
 have b78:Below w7.heap.size w7 w8:=by rw [hw8];exact zG (Below.refl _ _) _
 rw [←hw8]
 try rw [hg11]
 have HB8:=zA (zI HB7.out b78)
 have HM8:=zA (HM7.out.below b78)
 have HE8:=zA (HE7.out.below b78)
 have M8:=zA m8
 have y0:=m8.cell 0
 have y1:=m8.cell 1
 have y2:=m8.cell 2
 have yL:=m8.lt
 simp only [List.getElem?_toArray,List.getElem?_cons_zero,List.getElem?_cons_succ] at y0 y1 y2
 clear hw8 hg11 m8 b78 HM7 HE7
 go_upto_region 6 with (go_at_call 9;((with_reducible refine (PL.out _ _ ma mn mc pa pn pc ea en ec (zG HB8.out _) (HM8.out.alloc _) (HE8.out.alloc _) (zNR _)).mono ?_);rintro e w9 ⟨va,vc,ua,uc,r0,r1,r2,rfl,hs9,hre,hrn,hb9⟩;have HS9:=zA hs9;have M9:=zA (zH hb9 (zN _ M8.out));have HRE:=zA hre;have HRN:=zA hrn;have HB9:=zA (zI (zG HB8.out _) hb9);clear hs9 hre hrn hb9))
 clear y0 y1 y2 yL
 have y0:=M9.out.cell 0
 have yL:=M9.out.lt
 simp only [List.getElem?_toArray,List.getElem?_cons_zero,List.getElem?_cons_succ] at y0
 obtain ⟨ad,rfl,xb,x0,x1,x2,x3⟩:=zER HS9.out (i:=2) (x:=r2) (by decide) rfl
 rw [HRE.out] at x0
 rw [HRN.out] at x1
 have ha:ad.add (2*4)=⟨ad.block,ad.off+8,none⟩:=by unfold Addr.add;rw [if_neg (by decide)]
 rw [ha] at x0 x1 xb
 simp only at x0 x1 xb
 clear x2 x3 ha
 go_wp2
 go_ret
 exact ⟨rfl,HB9.out⟩
end Go.Proofs.YtlpejagkadalbaaGreatDoor
