import Derived.Test.YtlpejagkadalbaaGreatDoorPk02
import Derived.Test.YtlpejagkadalbaaGreatDoorPk47
import Derived.Test.YtlpejagkadalbaaGreatDoorPk40
import Derived.Test.YtlpejagkadalbaaGreatDoorPk38
import Derived.Test.YtlpejagkadalbaaGreatDoorPk44
set_option maxHeartbeats 40000000
set_option maxRecDepth 100000
set_option linter.unusedVariables false
set_option linter.unusedSimpArgs false
namespace Go.Proofs.YtlpejagkadalbaaGreatDoor
open Go Go.RowKit Go.Shelf
theorem MBox.placesT {g:Nat} {m:MV} {cs:Array Value} {W:World} (h:MBox g m cs W) (hok:m.Ok) (ht:Tab W) {fu:Nat} (hfu:fu≤5000):Calls Tryz.prog 18 #[.agg cs,.int .i64 fu] W fun e w'=>∃ v,e=.returned (.tuple #[v,.int .i64 0])∧Own w' W.heap.size 3 v (m.places fu)∧Below W.heap.size W w':=by
 obtain ⟨ma,sa,oa,mc,sc,oc,rfl,h1,h2,h3⟩:=h.row
 exact places_good m ma sa oa mc sc oc fu W h.h8 h1 h2 h3 hok ht hfu
theorem entM_okT {M:List ValV} {E:List EntryV} {s:ByteArray} {args:List Int} {x:EntryV} (h:ImOk M E) (hf:findE E s=some x) (he:enterE E s args=0):(entM M x args).Ok:=by
 obtain ⟨c1,c2⟩:=h.k x (find_in hf).1
 obtain ⟨m1,m2⟩:=(memCheck_zero M).1 h.m
 have ha:args.all num32B=true:=by
  unfold enterE at he
  split at he
  ·cases he
  ·split at he
   ·cases he
   ·next h=>simpa using h
 refine ⟨⟨fun v hv=>?_,⟨c1.p0,c1.p1,c1.b0,c1.b1,c1.l0,c1.l1,c1.a0,c1.a1,Int.le_refl 0,show (0:Int)≤63 by decide⟩,m1,m2,by simp [entM],(fun f hf=>by cases hf),by simp [entM],(fun n hn=>by cases hn)⟩,entM_8 M x args⟩
 rcases List.mem_or_eq_of_mem_set hv with hv | rfl
 ·unfold argR at hv
  obtain ⟨r,_,rfl⟩:=List.mem_map.1 hv
  split
  ·refine .inr ⟨rfl,?_⟩
   show -2147483648≤args.getD r 0∧args.getD r 0≤2147483647∧zeroK=zeroK
   rw [List.getD_eq_getElem?_getD]
   cases hr:args[r]? with
   | none=>exact ⟨by decide,by decide,rfl⟩
   | some n =>
    have h2:=of_decide_eq_true (List.all_eq_true.1 ha n (List.mem_of_getElem? hr))
    exact ⟨h2.1,h2.2,rfl⟩
  ·exact .inr ⟨rfl,by decide,by decide,rfl⟩
 ·exact .inl ⟨rfl,⟨c2.p0,c2.p1,c2.b0,c2.b1,c2.l0,c2.l1,c2.a0,c2.a1,Int.le_refl 0,show (0:Int)≤63 by decide⟩,rfl⟩
theorem mods_twoT {w:World} {r q:ModR} {m n:ModV} (h:r.has w m) (h2:q.has w n):Mods (w.alloc (.cells #[.slice r.code.a r.code.n r.code.c,.slice r.data.a r.data.n r.data.c,.slice r.ex.a r.ex.n r.ex.c,.slice r.im.a r.im.n r.im.c,.slice q.code.a q.code.n q.code.c,.slice q.data.a q.data.n q.data.c,.slice q.ex.a q.ex.n q.ex.c,.slice q.im.a q.im.n q.im.c] 48)) (some ⟨w.heap.size,0,none⟩) 2 [r,q] [m,n]:=by
 refine ⟨?_,rfl,fun i r' m' h3 h4=>?_⟩
 ·have h0:=own_lit (xs:=[r,q]) w 48 0 (Nat.zero_le _) #[.slice r.code.a r.code.n r.code.c,.slice r.data.a r.data.n r.data.c,.slice r.ex.a r.ex.n r.ex.c,.slice r.im.a r.im.n r.im.c,.slice q.code.a q.code.n q.code.c,.slice q.data.a q.data.n q.data.c,.slice q.ex.a q.ex.n q.ex.c,.slice q.im.a q.im.n q.im.c] 2 rfl (by decide) rfl
  obtain ⟨ao,c,e,h,_⟩:=h0.sl
  injection e with e _ _
  subst e
  exact h
 ·have hi:i < 2:=(List.getElem?_eq_some_iff.1 h3).1
  rcases (by omega:i=0∨i=1) with rfl | rfl<;>(simp at h3 h4;subst h3 h4;first | exact h.below (ext_alloc (Below.refl _ _) _) | exact h2.below (ext_alloc (Below.refl _ _) _))
theorem link_anyT (ms:List ModV) (W:World) (ga:Option Addr) (n c:Nat) (rs:List ModR) (h:Mods W ga n rs ms):Calls Tryz.prog 7 #[.slice ga n c] W fun e w'=>∃ ma mn mc pa pn pc ea en ec er,e=.returned (.tuple #[.agg #[.slice ma mn mc,.slice pa pn pc,.slice ea en ec],.int .i64 er])∧(er=0→LinkOk isNameB ms∧Sl w' ma mn (linkMem ms)∧Sl w' ea en (entriesF 0 0 ms))∧Below W.heap.size W w':=by
 by_cases hok:LinkOk isNameB ms
 ·refine (link_good ga n c rs ms W h hok).mono ?_
  rintro e w' ⟨vm,vp,ve,rfl,hm,hp,he,hb⟩
  obtain ⟨ma,mc,rfl,h1,_⟩:=hm.sl
  obtain ⟨pa,pc,rfl,h2,_⟩:=hp.sl
  obtain ⟨ea,ec,rfl,h3,_⟩:=he.sl
  exact ⟨_,_,_,_,_,_,_,_,_,0,rfl,fun _=>⟨hok,h1,h3⟩,hb⟩
 ·refine (link_bad ga n c rs ms W h hok).mono ?_
  rintro e w' ⟨er,hne,rfl,hb⟩
  exact ⟨_,_,_,_,_,_,_,_,_,er,rfl,fun h=>absurd h hne,hb⟩
theorem enter_anyT (ma pa ea aa:Option Addr) (mn mc pn pc en ec an ac:Nat) (M:List ValV) (E:List EntryV) (s:ByteArray) (args:List Int) (w:World) (hm:Sl w ma mn M) (he:Sl w ea en E) (ha:Sl w aa an args) (hok:ImOk M E) (hai:∀ n∈args,I64 n) {x:EntryV} (hf:findE E s=some x) :
  Calls Tryz.prog 16 #[.agg #[.slice ma mn mc,.slice pa pn pc,.slice ea en ec],.string s,.slice aa an ac] w fun e w'=>∃ cs er,e=.returned (.tuple #[.agg cs,.int .i64 er])∧(cs.size=64∧cs.all (·.oneCell')=true)∧(er=0→(entM M x args).Ok∧MOwn w.heap.size (entM M x args) cs w')∧Below w.heap.size w w':=by
 refine (enter_any ma pa ea aa mn mc pn pc en ec an ac M E s args w hm he ha hok hai).mono ?_
 rintro e w' (⟨h0,he,hb⟩ | ⟨h0,x',vm,hf',he,ho,hb⟩)
 ·exact ⟨zmc,_,he,⟨by kernel_rfl,by kernel_rfl⟩,fun h=>absurd h h0,hb⟩
 ·rw [hf] at hf'
  injection hf' with hf'
  subst hf'
  have hO:=entM_own (x:=x) (args:=args) ho
  exact ⟨_,0,he,⟨hO.sz,hO.one⟩,fun _=>⟨entM_okT hok hf h0,hO⟩,hb⟩
theorem count_takeT {l:List Int} {k:Nat} {x:Int} (h:l[k]?=some x):((l.take (k+1)).count 3:Nat)=(l.take k).count 3+(if x=3 then 1 else 0):=by
 rw [List.take_add_one,h,List.count_append]
 congr 1
 by_cases hx:x=3
 ·subst hx;rfl
 ·rw [if_neg hx,List.count_eq_zero]
  simp
  exact fun e=>hx e.symm
theorem topCounter_walk (x y z:SlV Int) (fuel:Int) (w:World) (hx:x.ok I64 w) (hy:y.ok I64 w) (hz:z.ok I64 w) (hf:I64 fuel) (he:PEnv w):Calls Tryz.prog 4 #[x.val,y.val,z.val,.int .i64 fuel] w fun e w'=>e=.returned (.bool true)∧Below w.heap.size w w':=by
 obtain ⟨ca,cn,cc,code⟩:=x
 obtain ⟨da,dn,dc,data⟩:=y
 obtain ⟨aa,an,ac,args⟩:=z
 obtain ⟨hcs,hcw,hcl⟩:=hx
 obtain ⟨hds,hdw,hdl⟩:=hy
 obtain ⟨has,haw,hal⟩:=hz
 simp only [SlV.val] at hcs hcw hcl hds hdw hdl has haw hal ⊢
 obtain ⟨C,hC⟩:∃ C,code.take 100=C:=⟨_,rfl⟩
 obtain ⟨E,hE⟩:∃ E,data.take 40=E:=⟨_,rfl⟩
 have cl:=fun W (hb:Below w.heap.size w W)=>client_any ca da cn cc dn dc code data W (hcs.below hb) (hds.below hb) hcl hdl hcw hdw
 rw [hC,hE] at cl
 obtain ⟨fu,hfu⟩:∃ fu:Nat,fuel % 1000=fu:=⟨(fuel % 1000).toNat,by omega⟩
 have hfu1:fu < 1000:=by omega
 have rs:=fun W=>rest_any fuel 1000 W (by decide) (by decide)
 rw [hfu] at rs
 have CT:=Lib.hid (counter_any (n:=1000) ⟨by decide,by decide⟩ w he)
 have WK:=Lib.hid (fun W (hb:Below w.heap.size w W)=>works_any W (he.below hb))
 have CL:=Lib.hid cl
 have RS:=Lib.hid rs
 have AS:=Lib.hid has
 have AW:=Lib.hid haw
 have HE:=Lib.hid he
 clear hcs hcw hcl hds hdw hdl has haw hal hC hE cl hfu rs he hf
 go_enter Tryz.func4,Tryz.ntmps4
 go_upto_region 2 with (first
  | (go_at_call 13;((with_reducible refine CT.out.mono ?_);rintro e w1 ⟨⟨⟨ra,rn,rc⟩,⟨sa,sn,sc⟩,⟨ta,tn,tc⟩,⟨ia,in_,ic⟩⟩,rfl,hr1,hb1⟩;have HR1:=Lib.hid hr1;have HB1:=Lib.hid hb1;clear hr1 hb1))
  | (refine wpList_store_fresh rfl 48 (.tmp 9) (.tmp 28) rfl rfl #[.slice ra rn rc,.slice sa sn sc,.slice ta tn tc,.slice ia in_ ic] 48 _ rfl (by first | rfl | kernel_rfl) (by kernel_rfl) (by kernel_rfl) (by kernel_rfl) ?_))
 obtain ⟨g9,hg9⟩:∃ g,w1.heap.size=g:=⟨_,rfl⟩
 obtain ⟨w2,hw2⟩:∃ w2,w2=w1.alloc (.cells #[.slice ra rn rc,.slice sa sn sc,.slice ta tn tc,.slice ia in_ ic] 48):=⟨_,rfl⟩
 have m2:Bk w2 g9 48 #[.slice ra rn rc,.slice sa sn sc,.slice ta tn tc,.slice ia in_ ic]:=by rw [hw2,←hg9];exact bk_new _ _ _
 have b12:Below w1.heap.size w1 w2:=by rw [hw2];exact ext_alloc (Below.refl _ _) _
 rw [←hw2]
 try rw [hg9]
 have hrn:rn=9:=by have h1:(modC 1000).code.length=rn:=HR1.out.code.len;have h2:(modC 1000).code.length=9:=codeC_ok.1;omega
 subst hrn
 have HB2:=Lib.hid (ext_trans HB1.out b12)
 have HR2:=Lib.hid (HR1.out.below b12)
 have M2:=Lib.hid m2
 clear hw2 hg9 m2 b12 HR1 HB1 CT
 go_upto_region 4 with (go_at_call 8;((with_reducible refine (WK.out _ HB2.out).mono ?_);rintro e w3 ⟨rfl,hb3⟩;have HB3:=Lib.hid (ext_trans HB2.out hb3);have M3:=Lib.hid (bk_keep hb3 M2.out);have HR3:=Lib.hid (HR2.out.below hb3);clear hb3))
 go_upto_region 5 with (first
  | (go_at_call 14;((with_reducible refine (CL.out _ HB3.out).mono ?_);rintro e w4 ⟨⟨⟨pa,pn,pc⟩,⟨qa,qn,qc⟩,⟨ua,un,uc⟩,⟨va,vn,vc⟩⟩,b,rfl,hr4,hiff,hb4⟩;have HQ4:=Lib.hid hr4;have HIF:=Lib.hid hiff;have HB4:=Lib.hid (ext_trans HB3.out hb4);have M4:=Lib.hid (bk_keep hb4 M3.out);have HR4:=Lib.hid (HR3.out.below hb4);clear hr4 hiff hb4))
  | (refine wpList_store_fresh rfl 48 (.tmp 11) (.tmp 40) rfl rfl #[.slice pa pn pc,.slice qa qn qc,.slice ua un uc,.slice va vn vc] 48 _ rfl (by first | rfl | kernel_rfl) (by kernel_rfl) (by kernel_rfl) (by kernel_rfl) ?_))
 obtain ⟨g11,hg11⟩:∃ g,w4.heap.size=g:=⟨_,rfl⟩
 obtain ⟨w5,hw5⟩:∃ w5,w5=w4.alloc (.cells #[.slice pa pn pc,.slice qa qn qc,.slice ua un uc,.slice va vn vc] 48):=⟨_,rfl⟩
 have m5:Bk w5 g11 48 #[.slice pa pn pc,.slice qa qn qc,.slice ua un uc,.slice va vn vc]:=by rw [hw5,←hg11];exact bk_new _ _ _
 have b45:Below w4.heap.size w4 w5:=by rw [hw5];exact ext_alloc (Below.refl _ _) _
 rw [←hw5]
 try rw [hg11]
 have MO:=Lib.hid (mods_twoT (HR4.out.below b45) (HQ4.out.below b45))
 have HB5:=Lib.hid (ext_trans HB4.out b45)
 have M5:=Lib.hid (bk_keep b45 M4.out)
 obtain ⟨z0,z1,z2,z3⟩:=cellsM4 M5.out
 have zL:=M5.out.lt
 obtain ⟨y0,y1,y2,y3⟩:=cellsM4 m5
 have yL:=m5.lt
 clear hw5 hg11 m5 b45 HR4 HQ4 HR3 HR2 M2 M3 M4 HB2 HB3 HB4
 go_upto_region 6 with (first
  | (go_at_call 7;((with_reducible refine (link_anyT _ _ _ _ _ _ MO.out).mono ?_);rintro e w6 ⟨ma,mn,mc,la,ln,lc,ea,en,ec,er,rfl,himp,hb6⟩;have HIM:=Lib.hid himp;have HB6:=Lib.hid (ext_trans (ext_alloc HB5.out _) hb6);have M6:=Lib.hid (bk_keep hb6 (bk_old _ M5.out));clear himp hb6))
  | (refine wpList_store_fresh rfl 28 (.tmp 13) (.tmp 47) rfl rfl #[.slice ma mn mc,.slice la ln lc,.slice ea en ec] 28 _ rfl (by first | rfl | kernel_rfl) (by kernel_rfl) (by kernel_rfl) (by kernel_rfl) ?_))
 clear z0 z1 z2 z3 zL y0 y1 y2 y3 yL
 obtain ⟨g13,hg13⟩:∃ g,w6.heap.size=g:=⟨_,rfl⟩
 obtain ⟨w7,hw7⟩:∃ w7,w7=w6.alloc (.cells #[.slice ma mn mc,.slice la ln lc,.slice ea en ec] 28):=⟨_,rfl⟩
 have m7:Bk w7 g13 28 #[.slice ma mn mc,.slice la ln lc,.slice ea en ec]:=by rw [hw7,←hg13];exact bk_new _ _ _
 have b67:Below w6.heap.size w6 w7:=by rw [hw7];exact ext_alloc (Below.refl _ _) _
 rw [←hw7]
 try rw [hg13]
 have HB7:=Lib.hid (ext_trans HB6.out b67)
 have M7:=Lib.hid (bk_keep b67 M6.out)
 have I7:=Lib.hid m7
 have HIM7:=Lib.hid (show er=0→LinkOk isNameB [modC 1000,modL C E]∧Sl w7 ma mn (linkMem [modC 1000,modL C E])∧Sl w7 ea en (entriesF 0 0 [modC 1000,modL C E]) from fun h=>by obtain ⟨h1,h2,h3⟩:=HIM.out h;exact ⟨h1,h2.below b67,h3.below b67⟩)
 clear hw7 hg13 m7 b67 M5 M6 HIM HB6 HB5 MO
 by_cases her:er=0
 ·subst her
  obtain ⟨lok,hM,hEn⟩:=HIM7.out rfl
  obtain rfl:b=true:=HIF.out.2 (lok.m _ (by simp))
  have hmn:=hM.len
  rw [linkMem_len] at hmn
  obtain ⟨M,hMM⟩:∃ M,linkMem [modC 1000,modL C E]=M:=⟨_,rfl⟩
  obtain ⟨En,hEE⟩:∃ En,entriesF 0 0 [modC 1000,modL C E]=En:=⟨_,rfl⟩
  have hfd:=(find_L 1000 C E).2.2
  have him:=lok.im_ok
  have law:=fun x0 hx0 hk=>counter_law C E args fu (by omega) x0 hx0 hk
  rw [hMM] at hM him law
  rw [hEE] at hEn hfd him
  have h9:9 < mn:=by rw [←hmn,total_cons];show 9 < codeC.length+1+_;rw [codeC_ok.1];omega
  have ent:=fun W (hb:Below w7.heap.size w7 W)=>enter_anyT ma la ea aa mn mc ln lc en ec an ac M En mainB args W (hM.below hb) (hEn.below hb) (AS.out.below (ext_trans HB7.out hb)) him AW.out hfd
  obtain ⟨m0,hm0⟩:∃ m0,entM M (entL C E) args=m0:=⟨_,rfl⟩
  have law0:=law m0 hm0.symm
  rw [hm0] at ent
  have hml:m0.mem.length=mn:=by rw [←hm0];exact hM.len
  have ENT:=Lib.hid ent
  have LAW:=Lib.hid law0
  have HML:=Lib.hid hml
  obtain ⟨y0,y1,y2⟩:=cells3 I7.out
  have yL:=I7.out.lt
  clear lok hM hEn hmn hMM hEE hfd him law ent law0 hm0 hml HIF HIM7 CL WK
  go_upto_region 9 with (go_at_call 15;((with_reducible refine (RS.out _).mono ?_);rintro e w' ⟨rfl,hw'⟩;subst hw'))
  go_upto_region 10 with (first
   | (go_at_call 16;((with_reducible refine (ENT.out _ (Below.refl _ _)).mono ?_);rintro e w8 ⟨cs,ee,rfl,hsz,hom,hb8⟩;have HSZ:=Lib.hid hsz;have HOM:=Lib.hid hom;have B8:=Lib.hid hb8;clear hsz hom hb8))
   | (refine wpList_store_fresh rfl 60 (.tmp 15) (.tmp 61) rfl rfl cs 60 _ rfl (by first | rfl | kernel_rfl) (by rw [HSZ.out.1];kernel_rfl) (by rw [HSZ.out.1];kernel_rfl) HSZ.out.2 ?_))
  clear y0 y1 y2 yL
  by_cases hee:ee=0
  ·subst hee
   obtain ⟨hok,hom⟩:=HOM.out rfl
   obtain ⟨g15,hg15⟩:∃ g,w8.heap.size=g:=⟨_,rfl⟩
   obtain ⟨w9,hw9⟩:∃ w9,w9=w8.alloc (.cells cs 60):=⟨_,rfl⟩
   have m9:MBox g15 m0 cs w9:=by rw [hw9,←hg15];exact hom.alloc
   have b79:Below w7.heap.size w7 w9:=by rw [hw9];exact ext_alloc B8.out _
   rw [←hw9]
   try rw [hg15]
   have hru:runF m0 fu=((m0.run fu).1,((m0.run fu).2.1:Int),(m0.run fu).2.2):=runF_good (by omega) (check_of_ok hok)
   obtain ⟨X,hX⟩:∃ X,(m0.run fu).1=X:=⟨_,rfl⟩
   obtain ⟨sn_,hsn⟩:∃ n:Int,((m0.run fu).2.1:Int)=n:=⟨_,rfl⟩
   obtain ⟨se,hse⟩:∃ e,(m0.run fu).2.2=e:=⟨_,rfl⟩
   have hxl:X.mem.length=mn:=by rw [←hX,run_mem,HML.out]
   have lw:=LAW.out hok
   rw [hX] at lw
   rw [hX,hsn,hse] at hru
   have HRU:=Lib.hid hru
   have HXL:=Lib.hid hxl
   have LW:=Lib.hid lw
   have HOK:=Lib.hid hok
   have M9:=Lib.hid m9
   have B9:=Lib.hid b79
   have TB:=Lib.hid (fun W (hb:Below w7.heap.size w7 W)=>(HE.out.below (ext_trans HB7.out hb)).asc)
   clear hw9 hg15 m9 b79 hru hX hsn hse hxl lw hok hom LAW HOM HSZ B8 ENT
   go_upto_region 13 with (first
    | (refine wpList_load_sub rfl 60 (.tmp 15) rfl g15 0 64 rfl 60 _ _ M9.out.bk Tryz.underlying60 rfl (by kernel_rfl) M9.out.size _ M9.out.all ?_)
    | (go_at_call 17;((with_reducible refine (run_own M9.out (TB.out _ B9.out) fu HRU.out).mono ?_);rintro e wa ⟨xs,rfl,hom,hba⟩;have OX:=Lib.hid hom;have BA:=Lib.hid hba;clear hom hba))
    | (refine wpList_store_fresh rfl 60 (.tmp 17) (.tmp 69) rfl rfl xs 60 _ rfl (by first | rfl | kernel_rfl) (by rw [OX.out.sz];kernel_rfl) (by rw [OX.out.sz];kernel_rfl) OX.out.one ?_))
   obtain ⟨g17,hg17⟩:∃ g,wa.heap.size=g:=⟨_,rfl⟩
   obtain ⟨wb,hwb⟩:∃ wb,wb=wa.alloc (.cells xs 60):=⟨_,rfl⟩
   have mb:MBox g17 X xs wb:=by rw [hwb,←hg17];exact OX.out.alloc
   have bab:Below w9.heap.size w9 wb:=by rw [hwb];exact ext_alloc BA.out _
   rw [←hwb]
   try rw [hg17]
   have MB:=Lib.hid mb
   have M15:=Lib.hid (M9.out.below bab)
   have BB:=Lib.hid (ext_trans B9.out bab)
   clear hwb hg17 mb bab OX BA M9 B9
   go_upto_region 14 with (first
    | (refine wpList_load_sub rfl 60 (.tmp 15) rfl g15 0 64 rfl 60 _ _ M15.out.bk Tryz.underlying60 rfl (by kernel_rfl) M15.out.size _ M15.out.all ?_)
    | (go_at_call 18;((with_reducible refine (MBox.placesT M15.out HOK.out (TB.out _ BB.out) (by omega)).mono ?_);rintro e wc ⟨vl,rfl,hol,hbc⟩;have OL:=Lib.hid hol;have BC:=Lib.hid (ext_trans BB.out hbc);have MC:=Lib.hid (MB.out.below hbc);clear hol hbc)))
   obtain ⟨L,hL⟩:∃ L,m0.places fu=L:=⟨_,rfl⟩
   have lw:=LW.out
   have ol:=OL.out
   rw [hL] at lw ol
   obtain ⟨ga,gc,rfl,hsl,_⟩:=ol.sl
   obtain ⟨ln2,hln⟩:∃ n,L.length=n:=⟨_,rfl⟩
   have hl9:ln2≤999:=by
    have h1:(m0.places fu).length≤fu:=by rw [places_len];exact run_le fu m0
    rw [hL,hln] at h1
    omega
   rw [hln] at hsl
   rw [hln]
   obtain ⟨xa,xc,x61,xsl⟩:=MC.out.memC
   rw [HXL.out] at x61 xsl
   have xL:=MC.out.bk.lt
   have i7:=bk_keep BC.out I7.out
   obtain ⟨y0,y1,y2⟩:=cells3 i7
   have yL:=i7.lt
   have SL:=Lib.hid hsl
   have XSL:=Lib.hid xsl
   have LW2:=Lib.hid lw
   have HLN:=Lib.hid hln
   have H9:=Lib.hid h9
   have X61:=Lib.hid x61
   clear hsl xsl lw hln h9 i7 OL LW hL ol M15 MB BB HML HRU y1 y2 hfu1 RS
   go_upto_region 18 with (fail)
   go_loopw [22,91] (fun s i wr=>∃ k:Nat,k≤ln2∧i=.int .i64 k∧s=.int .i64 ((L.take k).count 3:Nat)∧Below wc.heap.size wc wr) (fun _ i _=>ln2 - (intOf i).toNat)
   case atStart=>exact ⟨0,Nat.zero_le _,rfl,rfl,Below.refl _ _⟩
   case round =>
    obtain ⟨k,hk,rfl,rfl,hb⟩:=hrel
    have HBR:=Lib.hid hb
    by_cases hlt:k < ln2
    ·have q1:(0:Int)≤k:=by omega
     have q2:(k:Int) < ln2:=by omega
     obtain ⟨x,hgx⟩:∃ x,L[k]?=some x:=⟨_,List.getElem?_eq_getElem (by rw [HLN.out];exact hlt)⟩
     obtain ⟨ad,rfl,bx,e0⟩:=sl_int (SL.out.below hb) hlt hgx
     have hct:=count_takeT hgx
     have hcb:(L.take k).count 3≤k:=Nat.le_trans List.count_le_length (by rw [List.length_take];omega)
     have hmx:=SL.out.max
     unfold maxLen at hmx
     obtain ⟨t,ht⟩:∃ t,(L.take k).count 3=t:=⟨_,rfl⟩
     rw [ht] at hct hcb ⊢
     have e1:IntKind.i64.wrap ((t:Int)+1)=(t:Int)+1:=by rw [IntKind.wrap_i64];omega
     have HCT:=Lib.hid hct
     clear hgx hct ht hb hcb
     by_cases hx3:x=3
     ·subst hx3
      go_wp2
      go_roundw
      case rel=>exact ⟨k+1,by omega,by go_num,by rw [HCT.out];rfl,HBR.out⟩
      case measure=>simp [intOf];omega
     ·have q3:(x==3)=false:=by simpa using hx3
      go_wp2
      go_roundw
      case rel=>exact ⟨k+1,by omega,by go_num,by rw [HCT.out,if_neg hx3];rfl,HBR.out⟩
      case measure=>simp [intOf];omega
    ·have q1:¬((k:Int) < ln2):=by omega
     obtain rfl:ln2=k:=by omega
     rw [show (L.take ln2).count 3=L.count 3 by rw [←HLN.out,List.take_length]]
     have lw:=LW2.out
     obtain ⟨t,ht⟩:∃ t,L.count 3=t:=⟨_,rfl⟩
     rw [ht] at lw ⊢
     have htb:t≤ln2:=by rw [←ht,←HLN.out];exact List.count_le_length
     have hmx:=SL.out.max
     unfold maxLen at hmx
     have e2:IntKind.i64.wrap (1000+(t:Int))=1000+(t:Int):=by rw [IntKind.wrap_i64];omega
     have p9:(9:Int) < mn:=by have:=H9.out;omega
     have p9n:9 < mn:=H9.out
     have bw:=ext_trans BC.out HBR.out
     obtain ⟨z0,z1,z2,z3⟩:=cellsM4 (bk_keep bw M7.out)
     have zL:=(bk_keep bw M7.out).lt
     have mr:=MC.out.below HBR.out
     have hx61:wr.cell? ⟨g17,61,none⟩=some (.slice xa mn xc):=(HBR.out.cell (p:=⟨g17,61,none⟩) MC.out.bk.lt).trans X61.out
     have xL2:=mr.bk.lt
     obtain ⟨ad,rfl,bx,hv⟩:=sl_val (XSL.out.below HBR.out) (i:=9) H9.out
     have ha:ad.add (9*7)=⟨ad.block,ad.off+63,none⟩:=by unfold Addr.add;rw [if_neg (by decide)]
     rw [lw,ha] at hv
     obtain ⟨v0,v1,v2,v3,v4,v5,v6⟩:=hv
     have q:=run_eql_val (nV (1000+(t:Int))) (nV (1000+(t:Int))) wr
     have HBW:=Lib.hid (ext_trans HB7.out bw)
     clear lw ht htb hmx bw mr hb hk hlt y0 yL x61 xL ha
     simp only [nV,ValV.val,zeroK,decide_true] at q v0 v1 v2 v3 v4 v5 v6
     go_wp2
     go_ret
     exact ⟨rfl,HBW.out⟩
  ·have q1:(ee != 0)=true:=by simpa using hee
   have HB9:=Lib.hid (ext_trans HB7.out (ext_alloc B8.out (.cells cs 60)))
   go_wp2
   go_ret
   exact ⟨rfl,HB9.out⟩
 ·have q1:(er != 0)=true:=by simpa using her
  cases b
  ·go_wp2
   go_ret
   exact ⟨rfl,HB7.out⟩
  ·go_wp2
   go_ret
   exact ⟨rfl,HB7.out⟩
end Go.Proofs.YtlpejagkadalbaaGreatDoor
