import Derived.BigRegion
import Derived.Deep.DeepCutAuto
import Derived.Deep.RegionLaw
import Derived.Great.BuildSlice
import Derived.Test.YtlpejagkadalbaaGreatDoorPk01
import Derived.Test.YtlpejagkadalbaaGreatDoorPk02
import Derived.Test.YtlpejagkadalbaaGreatDoorPk32
import Derived.Test.YtlpejagkadalbaaGreatDoorPk46
import Derived.Test.YtlpejagkadalbaaGreatDoorPk34
import Derived.Test.YtlpejagkadalbaaGreatDoorPk44
import Derived.Maps.OwnIn
import Derived.Test.YtlpejagkadalbaaGreatDoorPk45
set_option maxHeartbeats 40000000
set_option maxRecDepth 100000
set_option linter.unusedVariables false
set_option linter.unusedSimpArgs false
namespace Go.Proofs.YtlpejagkadalbaaGreatDoor
open Go Go.RowKit Go.Shelf
theorem sl_grownC {α:Type} [El α] {w w':World} {ao:Option Addr} {n:Nat} {xs:List α} {row:Option Nat} (h:Sl w ao n xs) (hg:w.grownBy w' row) (hr:∀ a,ao=some a→row≠some a.block):Sl w' ao n xs :=
 h.grown hg (fun a ha _ e=>hr a ha e.symm)
theorem own_slC {α:Type} [El α] {w:World} {base:Nat} {T:TypeId} {v:Value} {xs:List α} (h:Own w base T v xs):∃ ao cap,v=.slice ao xs.length cap∧Sl w ao xs.length xs∧(∀ a,ao=some a→base≤a.block∧a.block < w.heap.size)∧xs.length≤cap:=by
 rcases h.form with ⟨rfl,rfl⟩ | ⟨g,cap,rfl,h2,h3,h4,h5⟩
 ·exact ⟨none,0,rfl,Sl.nil _ _,(fun a h=>by cases h),Nat.le_refl _⟩
 ·refine ⟨some ⟨g,0,none⟩,cap,rfl,⟨rfl,by omega,fun _=>⟨_,rfl,h3,h.cells rfl⟩⟩,(fun a e=>?_),h4⟩
  injection e with e
  subst e
  exact ⟨h2,h3⟩
def CliPost (w:World) (m:ModV) (e:Ending) (w':World):Prop :=
 ∃ (r:ModR) (b:Bool),e=.returned (.tuple #[.agg #[.slice r.code.a r.code.n r.code.c,.slice r.data.a r.data.n r.data.c,.slice r.ex.a r.ex.n r.ex.c,.slice r.im.a r.im.n r.im.c],.bool b])∧r.has w' m∧(b=true↔ModOk isNameB m)∧Below w.heap.size w w'
theorem has_setM {w:World} {g:Nat} {T:TypeId} {us:List Value} {r:ModR} {m:ModV} (h:r.has w m) (hb:Bk w g T #[.slice none 0 0,.slice none 0 0,.slice none 0 0,.slice none 0 0]):r.has (w.setCells g 0 us) m:=by
 have hs:=(grown_setCells g us 0 w).size
 have hk:=fun k a b=>grown_keepC (w:=w) (g:=g) us k a b
 have z:∀ u:Value,(∀ a b c,u≠.slice a b c)→∀ v∈(#[.slice none 0 0,.slice none 0 0,.slice none 0 0,.slice none 0 0]:Array Value).toList,v≠u:=by
  intro u hu v hv e
  simp at hv
  subst hv
  exact hu none 0 0 e.symm
 exact ⟨sl_apartC h.code hb (fun x _=>⟨_,rfl,z _ (fun _ _ _ e=>by cases e)⟩) hs hk,sl_apartC h.data hb (fun x _=>⟨_,rfl,z _ (fun _ _ _ e=>by cases e)⟩) hs hk,sl_apartC h.ex hb (fun x _=>⟨_,rfl,z _ (fun _ _ _ e=>by cases e)⟩) hs hk,sl_apartC h.im hb (fun x _=>⟨_,rfl,z _ (fun _ _ _ e=>by cases e)⟩) hs hk,h.le,h.wc,h.wd,h.we,h.wi⟩
theorem lits_C (w:World):Sl (w.alloc (.cells #[.string incB,.int .i64 0,.string getB,.int .i64 2] 93)) (some ⟨w.heap.size,0,none⟩) 2 [(⟨incB,0⟩:NamV),⟨getB,2⟩]:=by
 have h0:=own_lit (xs:=[(⟨incB,0⟩:NamV),⟨getB,2⟩]) w 93 0 (Nat.zero_le _) #[.string incB,.int .i64 0,.string getB,.int .i64 2] 2 rfl (by decide) rfl
 obtain ⟨ao,c,e,h,_⟩:=h0.sl
 injection e with e _ _
 subst e
 exact h
theorem has_C {w2 w4:World} {a1 a2:Option Addr} {n1 n2 c1 c2:Nat} {C D:List Int} (h1:Sl w2 a1 n1 C) (hb:∀ a,a1=some a→a.block < w2.heap.size) (hg:(w2.alloc (.cells #[.int .i64 0,.int .i64 0,.int .i64 0,.int .i64 0] 3)).grownBy w4 (some w2.heap.size)) (h2:Sl w4 a2 n2 ([0,0,0,0]++D)) (l1:n1≤c1) (l2:n2≤c2) (wc:∀ n∈C,I64 n) (wd:∀ n∈D,I64 n) :
  (⟨⟨a1,n1,c1⟩,⟨a2,n2,c2⟩,⟨some ⟨w4.heap.size,0,none⟩,1,1⟩,⟨some ⟨w4.heap.size+1,0,none⟩,2,2⟩⟩:ModR).has ((w4.alloc (.cells #[.string mainB,.int .i64 0] 91)).alloc (.cells #[.string incB,.int .i64 0,.string getB,.int .i64 2] 93)) (modL C D):=by
 have e1:Sl w4 a1 n1 C:=sl_grownC (h1.alloc _) hg (fun a ha e=>by have:=hb a ha;injection e with e;omega)
 have e4:=lits_C (w4.alloc (.cells #[.string mainB,.int .i64 0] 91))
 rw [World.size_alloc] at e4
 refine ⟨(e1.alloc _).alloc _,(h2.alloc _).alloc _,(lit_sl1 #[.string mainB,.int .i64 0] (⟨mainB,0⟩:NamV) rfl).alloc _,e4,⟨l1,l2,Nat.le_refl _,Nat.le_refl _⟩,wc,(fun n hn=>?_),(fun x hx=>?_),(fun x hx=>?_)⟩
 ·rcases List.mem_append.1 hn with hn | hn
  ·simp at hn;subst hn;exact ⟨by decide,by decide⟩
  ·exact wd n hn
 ·simp [modL] at hx;subst hx;exact ⟨by decide,⟨by decide,by decide⟩⟩
 ·simp [modL] at hx;rcases hx with rfl | rfl<;>exact ⟨by decide,⟨by decide,by decide⟩⟩
theorem client_any (ca da:Option Addr) (cn cc dn dc:Nat) (code data:List Int) (w:World) (hc:Sl w ca cn code) (hd:Sl w da dn data) (hcc:cn≤cc) (hdc:dn≤dc) (wc:∀ n∈code,I64 n) (wd:∀ n∈data,I64 n) :
  Calls Tryz.prog 14 #[.slice ca cn cc,.slice da dn dc] w (CliPost w (modL (code.take 100) (data.take 40))):=by
 obtain ⟨i0,hi0,hz0,hz1,hz2⟩:=info_parts info_int
 have wc1:∀ n∈code.take 100,I64 n:=fun n hn=>wc n (List.mem_of_mem_take hn)
 have wd1:∀ n∈data.take 40,I64 n:=fun n hn=>wd n (List.mem_of_mem_take hn)
 obtain ⟨C,hC⟩:∃ C,code.take 100=C:=⟨_,rfl⟩
 obtain ⟨E,hE⟩:∃ E,data.take 40=E:=⟨_,rfl⟩
 have lC:=hc.len
 have lD:=hd.len
 rw [hC,hE]
 rw [hC] at wc1
 rw [hE] at wd1
 have WC:=Lib.hid wc1
 have WD:=Lib.hid wd1
 clear wc wd wc1 wd1
 rcases (show (cn≤100∧¬((100:Int) < cn)∧Sl w ca cn C)∨((100:Int) < cn∧(100:Int)≤cc∧100≤cc∧Sl w ca 100 C) from by
  by_cases h:cn≤100
  ·exact .inl ⟨h,by omega,by rw [←hC,List.take_of_length_le (by omega)];exact hc⟩
  ·exact .inr ⟨by omega,by omega,by omega,by rw [←hC];exact sl_front hc (by omega)⟩) with ⟨hcn,q1,hc1⟩ | ⟨q1,p1,p2,hc1⟩
 all_goals rcases (show (dn≤40∧¬((40:Int) < dn)∧Sl w da dn E)∨((40:Int) < dn∧(40:Int)≤dc∧40≤dc∧Sl w da 40 E) from by
  by_cases h:dn≤40
  ·exact .inl ⟨h,by omega,by rw [←hE,List.take_of_length_le (by omega)];exact hd⟩
  ·exact .inr ⟨by omega,by omega,by omega,by rw [←hE];exact sl_front hd (by omega)⟩) with ⟨hdn,q2,hd1⟩ | ⟨q2,p3,p4,hd1⟩
 all_goals
  have lC1:=hc1.len
  have lE1:=hd1.len
  have HC:=Lib.hid hc1
  have HD:=Lib.hid hd1
  have LC:=Lib.hid (show C.length≤100 by omega)
  have LE:=Lib.hid (show E.length≤40 by omega)
  clear hc hd hC hE lC lD hc1 hd1 lC1 lE1 hcc hdc
  go_enter Tryz.func14,Tryz.ntmps14
  go_upto_region 5 with (fail)
  obtain ⟨w1,hw1⟩:∃ w1,w1=w.alloc (.cells #[.slice none 0 0,.slice none 0 0,.slice none 0 0,.slice none 0 0] 48):=⟨_,rfl⟩
  rw [←hw1]
  have b1:Below w.heap.size w w1:=by rw [hw1];exact ext_alloc (Below.refl _ _) _
  have M1:=Lib.hid (show Bk w1 w.heap.size 48 #[.slice none 0 0,.slice none 0 0,.slice none 0 0,.slice none 0 0] from by rw [hw1];exact bk_new _ _ _)
  have HC1:=Lib.hid (HC.out.below b1)
  have HD1:=Lib.hid (HD.out.below b1)
  have B1:=Lib.hid b1
  clear b1 hw1
  go_upto_region 6 with (first
   | (at_builtin;refine wpList_append_sl rfl (.const (.slice none 0 0)) (.tmp 17) 36 rfl w1.heap.size 3 i0 _ 8 Tryz.underlying36 hi0 hz0 hz1 hz2 rfl (.slice none 0 0) ([]:List Int) rfl (Own.nil _ _ _) ca _ _ C rfl HC1.out (by unfold maxLen;simp only [List.length_nil];omega) (by simp only [List.length_nil];omega) (Nat.le_refl _) ?_;intro v1 w2 ho1 hg1 _;rw [List.nil_append] at ho1;obtain ⟨a1,c1,rfl,hs1,hk1,hl1⟩:=own_slC ho1;obtain ⟨N1,hN1⟩:∃ N1,C.length=N1:=⟨_,rfl⟩;rw [hN1] at hs1 hl1;rw [hN1];have b12:Below w1.heap.size w1 w2:=(Below.refl _ _).grown hg1 (Nat.le_refl _) (fun k e=>by cases e);have HD2:=Lib.hid (HD1.out.below b12);have HS1:=Lib.hid hs1;have HK1:=Lib.hid hk1;have HL1:=Lib.hid hl1;have B2:=Lib.hid (ext_trans B1.out b12);have M2:=Lib.hid (bk_keep b12 M1.out);clear ho1 hg1 hs1 hk1 hl1 b12 hN1)
   | (at_builtin;refine wpList_append_sl rfl (.tmp 19) (.tmp 20) 36 rfl w2.heap.size 3 i0 _ 8 Tryz.underlying36 hi0 hz0 hz1 hz2 rfl (.slice (some ⟨w2.heap.size,0,none⟩) 4 4) ([0,0,0,0]:List Int) rfl (own_lit w2 3 w2.heap.size (Nat.le_refl _) #[.int .i64 0,.int .i64 0,.int .i64 0,.int .i64 0] 4 rfl (by decide) rfl) da _ _ E rfl (HD2.out.alloc _) (by unfold maxLen;simp only [List.length_cons,List.length_nil];omega) (by simp only [List.length_cons,List.length_nil];omega) (by simp) ?_;intro v2 w4 ho2 hg2 _;obtain ⟨a2,c2,rfl,hs2,_,hl2⟩:=own_slC ho2;obtain ⟨N2,hN2⟩:∃ N2,([0,0,0,0]++E:List Int).length=N2:=⟨_,rfl⟩;rw [hN2] at hs2 hl2;rw [hN2];have HS2:=Lib.hid hs2;have HL2:=Lib.hid hl2;have HG2:=Lib.hid (show (w2.alloc (.cells #[.int .i64 0,.int .i64 0,.int .i64 0,.int .i64 0] 3)).grownBy w4 (some w2.heap.size) from hg2);clear ho2 hg2 hs2 hl2 hN2)
   | (refine wpList_store_fresh rfl 48 (.tmp 6) (.tmp 27) rfl rfl #[.slice a1 N1 c1,.slice a2 N2 c2,.slice (some ⟨w4.heap.size,0,none⟩) 1 1,.slice (some ⟨w4.heap.size+1,0,none⟩) 2 2] 48 _ rfl (by first | rfl | kernel_rfl) (by kernel_rfl) (by kernel_rfl) (by kernel_rfl) ?_))
  obtain ⟨w6,hw6⟩:∃ w6,w6=(w4.alloc (.cells #[.string mainB,.int .i64 0] 91)).alloc (.cells #[.string incB,.int .i64 0,.string getB,.int .i64 2] 93):=⟨_,rfl⟩
  have hh:=has_C HS1.out (fun a h=>(HK1.out a h).2) HG2.out HS2.out HL1.out HL2.out WC.out WD.out
  have b46:Below w.heap.size w w6:=by
   have e1:Below w.heap.size w w4:=Below.grown (ext_alloc B2.out _) HG2.out (by have:=B2.out.size;simp;omega) (fun k e=>by have:=B2.out.size;injection e with e;omega)
   rw [hw6];exact ext_alloc (ext_alloc e1 _) _
  have m6:Bk w6 w.heap.size 48 #[.slice none 0 0,.slice none 0 0,.slice none 0 0,.slice none 0 0]:=by
   have hs:=M2.out.lt
   have e1:Bk w4 w.heap.size 48 #[.slice none 0 0,.slice none 0 0,.slice none 0 0,.slice none 0 0]:=bk_grown (bk_old _ M2.out) HG2.out (fun e=>by injection e with e;omega)
   rw [hw6];exact bk_old _ (bk_old _ e1)
  rw [←hw6] at hh
  rw [←hw6]
  have hg46:w4.heap.size+1+1=w6.heap.size:=by rw [hw6];simp
  rw [hg46]
  obtain ⟨g6,hg6⟩:∃ g,w6.heap.size=g:=⟨_,rfl⟩
  obtain ⟨g4,hg4⟩:∃ g,w4.heap.size=g:=⟨_,rfl⟩
  obtain ⟨w7,hw7⟩:∃ w7,w7=w6.alloc (.cells #[.slice a1 N1 c1,.slice a2 N2 c2,.slice (some ⟨w4.heap.size,0,none⟩) 1 1,.slice (some ⟨w4.heap.size+1,0,none⟩) 2 2] 48):=⟨_,rfl⟩
  have b67:Below w6.heap.size w6 w7:=by rw [hw7];exact ext_alloc (Below.refl _ _) _
  have m7:Bk w7 g6 48 #[.slice a1 N1 c1,.slice a2 N2 c2,.slice (some ⟨w4.heap.size,0,none⟩) 1 1,.slice (some ⟨w4.heap.size+1,0,none⟩) 2 2]:=by rw [hw7,←hg6];exact bk_new _ _ _
  rw [←hw7]
  rw [hg4] at m7 hh ⊢
  rw [hg6]
  have M7:=Lib.hid m7
  have M0:=Lib.hid (bk_keep b67 m6)
  have B7:=Lib.hid (ext_trans b46 b67)
  have HH:=Lib.hid (hh.below b67)
  have MC:=Lib.hid (fun W (hb:Below w7.heap.size w7 W)=>mod_check _ _ W ((hh.below b67).below hb))
  obtain ⟨z0,z1,z2,z3⟩:=cellsM4 M7.out
  have zL:=m7.lt
  obtain ⟨u0,u1,u2,u3⟩:=cellsM4 M0.out
  have uL:=M0.out.lt
  have uF:=fun i=>M0.out.frozen i
  clear hw6 hw7 hg46 hg6 hg4 hh b46 m6 b67 m7 HS1 HK1 HL1 HS2 HL2 HG2 B2 M2 HD2 HC HD HC1 HD1 M1 B1
  go_region_law (go_simp;go_at_call 20;((with_reducible refine (MC.out _ (ext_drew (Below.refl _ _))).mono ?_);rintro e w8 ⟨er,rfl,hiff,hb8⟩;have hb:=ext_trans (ext_drew (Below.refl w7.heap.size w7)) hb8;have HB8:=Lib.hid hb;have HIF:=Lib.hid hiff;obtain ⟨z0,z1,z2,z3⟩:=cellsM4 (bk_keep hb M7.out);have zL:=(bk_keep hb M7.out).lt;obtain ⟨u0,u1,u2,u3⟩:=cellsM4 (bk_keep hb M0.out);have uL:=(bk_keep hb M0.out).lt;have uF:=fun i=>(bk_keep hb M0.out).frozen i;clear hb hb8 hiff))
  all_goals go_wp2
  all_goals (
   refine bodyPost_ret (results_rowC (g:=w.heap.size) (t:=48) (cs:=#[.slice a1 N1 c1,.slice a2 N2 c2,.slice (some ⟨g4,0,none⟩) 1 1,.slice (some ⟨g4+1,0,none⟩) 2 2]) (fr:=(0,0)) rfl _ _ _ rfl (bk_set4 (bk_keep HB8.out M0.out) _ _ _ _) Tryz.underlying48 rfl (by kernel_rfl)) rfl ?_
   exact ⟨⟨⟨a1,N1,c1⟩,⟨a2,N2,c2⟩,⟨some ⟨g4,0,none⟩,1,1⟩,⟨some ⟨g4+1,0,none⟩,2,2⟩⟩,_,rfl,has_setM (us:=[.slice a1 N1 c1,.slice a2 N2 c2,.slice (some ⟨g4,0,none⟩) 1 1,.slice (some ⟨g4+1,0,none⟩) 2 2]) (HH.out.below HB8.out) (bk_keep HB8.out M0.out),by rw [beq_iff_eq];exact HIF.out,below_setC (us:=[.slice a1 N1 c1,.slice a2 N2 c2,.slice (some ⟨g4,0,none⟩) 1 1,.slice (some ⟨g4+1,0,none⟩) 2 2]) (ext_trans B7.out HB8.out) (Nat.le_refl _)⟩)
end Go.Proofs.YtlpejagkadalbaaGreatDoor
namespace Go.Proofs.YtlpejagkadalbaaGreatDoor
open Go Go.RowKit Go.Shelf
attribute [local go_sem] Oper.semAt_some
theorem results_tmps2P {P:Program} {fn:Func} {p q:Tmp} (h:fn.results=#[.tmp p,.tmp q]) (tmps:Array Value) (w:World):(results fn tmps).run P w=.ok (.tuple #[tmps.getD p undef,tmps.getD q undef]) w:=by
  simp [results,h]
theorem info_intQ:(Tryz.prog.info? 3).map (fun i=>(i.zero,i.size,i.bytes))=some (some (.int .i64 0),1,8):=by kernel_rfl
theorem places_good (m:MV) (ma sa oa:Option Addr) (mc sc oc:Nat) (fu:Nat) (w:World) (h8:m.R.length=8)
    (hm:Sl w ma m.mem.length m.mem) (hs:Sl w sa m.stk.length m.stk) (ho:Sl w oa m.out.length m.out) (hok:m.Ok) (ht:Tab w) (hfu:fu≤5000):Calls Tryz.prog 18 #[.agg (mcs m.R m.c (.slice ma m.mem.length mc) (.slice sa m.stk.length sc) (.slice oa m.out.length oc)),.int .i64 fu] w (fun e w'=>∃ v,e=.returned (.tuple #[v,.int .i64 0])∧Own w' w.heap.size 3 v (m.places fu)∧Below w.heap.size w w'):=by
  have hsz:=mcs_size (c:=m.c) (ms:=.slice ma m.mem.length mc) (ss:=.slice sa m.stk.length sc) (os:=.slice oa m.out.length oc) h8
  have sck:=rcheck_any m ma sa oa mc sc oc fu
  have cpd:=copied_any m.R m.c m.mem m.stk m.out ma sa oa mc sc oc
  obtain ⟨cs,hcs⟩:∃ cs,cs=mcs m.R m.c (.slice ma m.mem.length mc) (.slice sa m.stk.length sc) (.slice oa m.out.length oc):=⟨_,rfl⟩
  rw [←hcs] at hsz sck cpd ⊢
  have hex:cs.extract 0 (0+64)=cs:=by rw [Array.extract_eq_self_of_le (by rw [hsz];omega)]
  obtain ⟨w1,hw1⟩:∃ w1,w1=w.alloc (.cells cs 60):=⟨_,rfl⟩
  have hB:Bk w1 w.heap.size 60 cs:=by rw [hw1];exact bk_new _ _ _
  have h1w:Below w.heap.size w w1:=by rw [hw1];exact ext_alloc (Below.refl _ _) _
  have sc1:=sck w1 h8 (hm.below h1w) (hs.below h1w) (ho.below h1w)
  have l400:=hok.1.len
  have l16:=hok.1.deep
  have l100:=hok.1.told
  have hc:runE m fu=0:=by
    unfold runE MV.check
    rw [if_neg (by omega)]
    exact stepCheck_zero.2 hok.1
  rw [hc] at sc1
  have cp:=fun y:Later w1=>cpd y.val h8 ((hm.below h1w).below y.ok) ((hs.below h1w).below y.ok) ((ho.below h1w).below y.ok) (by omega) (by omega) (by omega)
  unfold MPost at cp
  have SC:=Lib.hid sc1
  have CP:=Lib.hid cp
  have HW1:=Lib.hid hw1
  have HSZ:=Lib.hid hsz
  have HEX:=Lib.hid hex
  have HB:=Lib.hid hB
  have H1W:=Lib.hid h1w
  have HOK:=Lib.hid hok
  have HT:=Lib.hid ht
  have H8:=Lib.hid h8
  have hz1:w1.heap.size=w.heap.size+1:=by rw [hw1];simp
  clear hsz hex hB h1w hw1 hm hs ho h8 sck cpd sc1 cp hcs hc hok ht
  refine (callsIn_wide (n:=3)).1 ?_
  refine callsIn_of_wp_marks Tryz.func18 rfl trivial ?_ rfl
  refine wpIn_wide.2 ?_
  simp only [Tryz.ntmps18,List.size_toArray,List.length_cons,List.length_nil,Nat.reduceAdd,Nat.reduceSub,Array.replicate_succ,Array.replicate_zero,List.push_toArray,List.append_toArray,List.nil_append,List.cons_append]
  go_upto_region 1 with (fail)
  rw [←HW1.out]
  go_upto_region 5 with (first
    | (refine wpList_load_sub rfl 60 (.tmp 2) rfl w.heap.size 0 64 rfl 60 _ _ HB.out Tryz.underlying60 rfl (by kernel_rfl) (by have:=HSZ.out;omega) _ HEX.out ?_)
    | (refine wpList_load_sub rfl 60 (.tmp 2) rfl w.heap.size 0 64 rfl 60 _ _ (y1.bk HB.out) Tryz.underlying60 rfl (by kernel_rfl) (by have:=HSZ.out;omega) _ HEX.out ?_)
    | (go_at_call 40;((with_reducible refine SC.out.mono ?_);rintro e w' ⟨rfl,hb⟩;obtain ⟨y1,rfl⟩:=later_call (Below.refl _ _) hb;clear hb))
    | (go_at_call 41;((with_reducible refine (CP.out y1).mono ?_);rintro e w2 ⟨vm,vs,vo,rfl,om,os,oo,hb2⟩;obtain ⟨mma,mmc,rfl,_,_⟩:=om.sl;obtain ⟨ssa,ssc,rfl,_,_⟩:=os.sl;obtain ⟨ooa,ooc,rfl,_,_⟩:=oo.sl;have OM:=Lib.hid om;have OS:=Lib.hid os;have OO:=Lib.hid oo;have HB22:=Lib.hid hb2;have HSZ2:=Lib.hid (mcs_size (c:=m.c) (ms:=.slice mma m.mem.length mmc) (ss:=.slice ssa m.stk.length ssc) (os:=.slice ooa m.out.length ooc) H8.out);have HONE:=Lib.hid (mcs_one (R:=m.R) (c:=m.c) (ownsOne om) (ownsOne os) (ownsOne oo));clear om os oo hb2))
    | (refine wpList_store_rowTo rfl 60 (.tmp 2) (.tmp 17) rfl rfl w.heap.size (mcs m.R m.c (.slice mma m.mem.length mmc) (.slice ssa m.stk.length ssc) (.slice ooa m.out.length ooc)) rfl rfl 60 _ (bk_keep HB22.out (y1.bk HB.out)) (by rw [HSZ2.out];kernel_rfl) (by rw [HSZ2.out,HSZ.out]) HONE.out ?_))
  obtain ⟨base,hbase⟩:∃ base,base=y1.val.heap.size:=⟨_,rfl⟩
  obtain ⟨W0,hW0⟩:∃ W0,W0=w2.setRow w.heap.size (mcs m.R m.c (.slice mma m.mem.length mmc) (.slice ssa m.stk.length ssc) (.slice ooa m.out.length ooc)):=⟨_,rfl⟩
  have hwl:w.heap.size+1≤y1.val.heap.size:=by rw [←hz1];exact y1.ok.size
  have hy2:y1.val.heap.size≤w2.heap.size:=HB22.out.size
  have k1:=bk_keep HB22.out (y1.bk HB.out)
  have hsz0:W0.heap.size=w2.heap.size:=by rw [hW0];simp
  have hm0:MS base w.heap.size (.slice mma m.mem.length mmc) (.slice ssa m.stk.length ssc) (.slice ooa m.out.length ooc) m W0:=by
    rw [hW0,hbase]
    exact ⟨H8.out,bk_setRow k1 _,own_setRow OM.out k1 (by decide) _,own_setRow OS.out k1 (by decide) _,own_setRow OO.out k1 (by decide) _⟩
  have h0w:Below w.heap.size w W0:=by rw [hW0];exact ext_setRow (ext_trans (ext_trans H1W.out y1.ok) HB22.out) (Nat.le_refl _) _
  have hbw:w.heap.size+1≤base:=by omega
  have hb0:base≤W0.heap.size:=by omega
  rw [←hW0]
  have HM0:=Lib.hid hm0
  have H0W:=Lib.hid h0w
  clear hW0 k1 hm0 h0w OM OS OO HB22 HSZ2 HONE hsz0 hy2 hbase
  go_wp2_with (go_at_call 42;(refine (steps_any _ _ _ _).mono ?_);rintro e w5 ⟨rfl,rfl⟩)
  obtain ⟨H,hH⟩:∃ H,H=W0.heap.size:=⟨_,rfl⟩
  obtain ⟨W5,hW5⟩:∃ W5,W5=((((W0.alloc (.cells #[.int .i64 0] 29)).alloc (.cells #[.slice none 0 0] 36)).alloc (.cells #[.pointer (some ⟨w.heap.size,0,none⟩)] 111)).alloc (.cells #[.int .i64 fu] 3)).alloc (.cells #[.pointer (some ⟨W0.heap.size,0,none⟩)] 112):=⟨_,rfl⟩
  have b05:Below W0.heap.size W0 W5:=by rw [hW5];exact ext_alloc (ext_alloc (ext_alloc (ext_alloc (ext_alloc (Below.refl _ _) _) _) _) _) _
  have z5:W5.heap.size=W0.heap.size+5:=by rw [hW5];simp
  have lt:=fun k (hk:mS w.heap.size (.slice mma m.mem.length mmc) (.slice ssa m.stk.length ssc) (.slice ooa m.out.length ooc) k)=>HM0.out.lt hk
  obtain ⟨bb,hbb⟩:∃ bb,bb=RunB.mk base w.heap.size H (H+1) (H+1+1+1) (H+1+1) (H+1+1+2) w.heap.size fu:=⟨_,rfl⟩
  have hst:PlSt w bb [] m 0 W5:=by
    rw [hbb,hH]
    refine ⟨⟨_,_,_,.slice none 0 0,HM0.out.below b05,⟨fun h=>?_,fun h=>?_,fun h=>?_,fun h=>?_⟩,?_,Own.nil _ _ _,fun g hg=>by cases hg⟩,?_,?_,?_,?_,ext_trans H0W.out b05,?_⟩
    · have:=lt _ h;simp only at this;omega
    · have:=lt _ h;simp only at this;omega
    · have:=lt _ h;simp only at this;omega
    · have:=lt _ h;simp only at this;omega
    · rw [hW5];exact bk_old _ (bk_old _ (bk_old _ (bk_new' _ _ (by simp))))
    · rw [hW5];exact bk_old _ (bk_old _ (bk_old _ (bk_old _ (bk_new _ _ _))))
    · rw [hW5];exact bk_old _ (bk_new' _ _ (by simp))
    · rw [hW5];exact bk_old _ (bk_old _ (bk_new' _ _ (by simp)))
    · rw [hW5];exact bk_new' _ _ (by simp)
    · have:=H0W.out.size
      refine ⟨?_,?_,?_,?_,?_⟩<;>simp only<;>omega
  rw [←hH] at hW5 z5
  simp only [←hH]
  rw [←hW5]
  have HST:=Lib.hid hst
  have HBB:=Lib.hid hbb
  have hHw:w.heap.size+1≤H:=by omega
  clear hW5 hst hbb hH lt b05 HM0
  generalize (mcs m.R m.c (.slice mma m.mem.length mmc) (.slice ssa m.stk.length ssc) (.slice ooa m.out.length ooc))=cs2
  refine (wpIn_wide (n:=3)).1 ?_
  refine wpIn_rangeFunc_go (β:=List Int×MV×Int) rfl (by decide) (gf:=70) (lb:=#[.pointer (some ⟨H+1+1+1,0,none⟩),.pointer (some ⟨H+1+1,0,none⟩),.pointer (some ⟨H+1+1+2,0,none⟩)]) rfl trivial (enters_of Tryz.func70 (by kernel_rfl) rfl)
    (fun x=>#[.int .i64 x.2.2]) (fun _=>rfl) (fun x W=>x.1.length < fu∧PlSt w bb x.1 x.2.1 0 W) (fun x W=>PlSt w bb (x.1++[x.2.2]) x.2.1 0 W) (fun W=>∃ e',PlSt w bb (m.places fu) (m.run fu).1 e' W)
    (fun x W l o o' h hl hk hc=>⟨h.1,h.2.putObj hk hc (by omega)⟩) (fun x W l o o' h hl hk hc=>h.putObj hk hc (by omega)) (fun W l o o' h hl hk hc=>⟨h.choose,h.choose_spec.putObj hk hc (by omega)⟩) (fun x=>{tmps:=#[.agg cs,.int .i64 fu,.pointer (some ⟨w.heap.size,0,none⟩),undef,.slice none 0 0,.int .i64 0,.int .i64 0,.pointer (some ⟨H,0,none⟩),.pointer (some ⟨H+1,0,none⟩),.int .i64 x.2.2,.agg cs,.int .i64 fu,.int .i64 0,.int .i64 0,.bool false,undef,.agg cs,.agg cs2,.int .i64 fu,.func (.func 70) #[] #[.pointer (some ⟨H+1+1+1,0,none⟩),.pointer (some ⟨H+1+1,0,none⟩),.pointer (some ⟨H+1+1+2,0,none⟩)],.int .i64 x.2.2,undef,undef,undef,undef,undef],defers:=[]})
    ?assign ?body ?iter ?done
  case assign =>
    intro l x W K hK
    gi_wp2
    simpa using hK
  case body =>
    rintro l ⟨L,mk,at_⟩ W ⟨hk,hW⟩
    simp only at hk hW
    obtain ⟨vm,vs,vo,vl,g1,g2,g3,g4,g5⟩:=hW.ms
    have hgn:bb.gn=H+1:=by rw [HBB.out]
    have g3':=g3
    rw [hgn] at g3'
    have c0:=g3'.cell 0
    have f0:=g3'.frozen 0
    simp only [List.getElem?_toArray,List.getElem?_cons_zero] at c0
    have hbl:=g3'.lt
    have hbel:=hW.below
    have hbw:=hbel.size
    have hnew:∀ (j:Nat) (u:Value),[Value.int .i64 at_][j]?=some u→(W.alloc (.cells #[.int .i64 at_] 3)).cell? ((⟨W.heap.size,0,none⟩:Addr).add j)=some u:=fun j u hu=>by
      have h1:=(bk_new W 3 #[.int .i64 at_]).cell j
      have e:((⟨W.heap.size,0,none⟩:Addr).add j)=⟨W.heap.size,j,none⟩:=by unfold Addr.add;simp;try (intro h;exact h.symm)
      rw [e,h1]
      simpa using hu
    have hb1:L.length+1≤maxLen:=by unfold maxLen;omega
    have hb2:(L.length+1)*8≤140737488355328:=by omega
    have hb3:w.heap.size≤(W.alloc (.cells #[.int .i64 at_] 3)).heap.size:=by rw [World.size_alloc];omega
    have HNEW:=Lib.hid hnew
    have HB1:=Lib.hid hb1
    have HB2:=Lib.hid hb2
    have HB3:=Lib.hid hb3
    have HW:=Lib.hid hW
    have G1:=Lib.hid g1
    have G2:=Lib.hid g2
    have G3:=Lib.hid g3
    have G4:=Lib.hid g4
    have G5:=Lib.hid g5
    have HGN:=Lib.hid hgn
    obtain ⟨i0,i1,z0,z1,z2⟩:=info_parts info_intQ
    clear hnew hb1 hb2 hb3 hW g1 g2 g3 g4 g5 g3' hgn hbel hk HST
    gi_wp2_with (first
      | (gi_at_builtin;go_loud (refine wpListIn_append_own_at _ rfl _ _ 36 rfl w.heap.size 3 i0 (.int .i64 0) 1 8 Tryz.underlying36 i1 z0 z1 z2 rfl (by decide) vl L.length (cls L) rfl (G4.out.alloc _) ⟨W.heap.size,0,none⟩ 1 1 [.int .i64 at_] rfl rfl HNEW.out (El.one (at_:Int)) HB1.out HB2.out HB3.out ?_)
         intro v3 w3 hown3 hg3 _ hat3
         have hown3':Own w3 w.heap.size 3 v3 (L++[at_]):=by
           unfold Own
           rw [List.length_append,cls_append,cls_one]
           exact hown3
         have hst3:=HW.out.told G1.out G2.out G3.out G4.out G5.out (w2:=W.alloc (.cells #[.int .i64 at_] 3)) (ext_alloc (Below.refl _ _) _) hg3 hown3' hat3
         rw [HGN.out] at hst3
         obtain ⟨g3,cap3,rfl,hbase3,hlt3,hcap3,hmax3⟩:∃ g3 cap3,v3=.slice (some ⟨g3,0,none⟩) (L.length+1) cap3∧w.heap.size≤g3∧g3 < w3.heap.size∧L.length+1≤cap3∧cap3≤maxLen:=by
           rcases hown3'.form with ⟨_,h⟩ | ⟨g,c,h1,h2,h3,h4,h5⟩
           · simp at h
           · exact ⟨g,c,by rw [h1];simp,h2,h3,by simpa using h4,h5⟩
         have hkb:Bk w3 (H+1) 36 #[vl]:=by
           rw [←HGN.out]
           exact (hg3.block _ (by rw [World.size_alloc];have:=G3.out.lt;omega) (fun e=>own_ty G4.out G3.out (by decide) e.symm)).trans (bk_old _ G3.out)
         have c3:=hkb.cell 0
         have f3:=hkb.frozen 0
         simp only [List.getElem?_toArray,List.getElem?_cons_zero] at c3
         have HG3:=Lib.hid hg3
         have HST3:=Lib.hid hst3
         clear hown3 hown3' hg3 hst3 hat3 hkb
         go_frame))
    refine ⟨((KeepsOthers.alloc W _).trans (KeepsOthers.of_grownBy HG3.out ?_)).trans (KeepsOthers.setCell _ _ _) |>.from _,HST3.out⟩
    intro j o hj ho
    rcases (G4.out.alloc _).2 with ⟨rfl,_⟩ | ⟨g,c,cur,rfl,_,hg',_⟩
    · cases hj
    · obtain rfl:g=j:=Option.some.inj hj
      rw [hg'] at ho
      cases ho
      rfl
  case iter =>
    intro o1 o2 h1 h2 hY
    have hbf:bb.f=fu:=by rw [HBB.out]
    have b5:Below W5.heap.size W5 ((W5.alloc o2).alloc o1):=ext_alloc (ext_alloc (Below.refl _ _) _) _
    have hst:=HST.out
    have hst2:PlSt w bb [] m 0 ((W5.alloc o2).alloc o1):=by
      obtain ⟨vm,vs,vo,vl,g1,g2,g3,g4,g5⟩:=hst.ms
      exact ⟨⟨vm,vs,vo,vl,g1.below b5,g2,bk_keep b5 g3,g4.below b5,g5⟩,bk_keep b5 hst.e,bk_keep b5 hst.A,bk_keep b5 hst.B,bk_keep b5 hst.C,ext_trans hst.below b5,hst.ne⟩
    have hl1:((W5.alloc o2).alloc o1).heap[W5.heap.size+1]?=some o1:=by
      have:=World.alloc_heap_new (W5.alloc o2) o1;rwa [World.size_alloc] at this
    have hl2:((W5.alloc o2).alloc o1).heap[W5.heap.size]?=some o2:=(Below.heap_alloc _ _ _ (by simp)).trans (World.alloc_heap_new W5 o2)
    have it:=iter_gen bb.gm bb.ge bb.gA bb.gB bb.gC (PlL w bb (W5.heap.size+1) W5.heap.size o1 o2) 2 (W5.heap.size+1) fu (by decide)
      (fun L mk hk W h=>h.one h1 h2 hk HT.out) (fun L mk W e h e'=>h.err h1 h2 e') (fun L mk W h=>h.drew)
      (fun L mk e W h=>by
        obtain ⟨vm,vs,vo,vl,g1,_⟩:=h.1.ms
        exact ⟨by rw [←hbf];exact h.1.A.cell 0,h.1.B.cell 0,h.1.C.cell 0,h.1.e.cell 0,(g1.mB.cell 59).trans (mcs_hi g1.h8 3),h.1.e.frozen 0⟩)
      (fun L mk at_ W hk hL=>hY (L,mk,at_) W ⟨hk,hL.1⟩ hL.2.1 hL.2.2) hfu m HOK.out ((W5.alloc o2).alloc o1) ⟨hst2,hl1,hl2⟩
    rw [HBB.out] at it ⊢
    refine it.mono ?_
    rintro e W' ⟨hv,e',hP⟩
    exact ⟨hv,⟨e',hP.1⟩,hP.2.1,hP.2.2⟩
  case done =>
    intro W hT hD
    obtain ⟨e',hT⟩:=hT
    generalize (m.run fu).1=rm at *
    obtain ⟨vm,vs,vo,vl,g1,g2,g3,g4,g5⟩:=hT.ms
    have hgn:bb.gn=H+1:=by rw [HBB.out]
    rw [hgn] at g3
    have c0:=g3.cell 0
    simp only [List.getElem?_toArray,List.getElem?_cons_zero] at c0
    have hbl:=g3.lt
    have HBEL:=Lib.hid hT.below
    have HD:=Lib.hid hD
    have HOW:=Lib.hid g4
    clear hT hD g1 g2 g3 g4 g5 HST
    go_wp2
    have hp:=Fr.putObj (o':=.deferred none) HD.out
    refine ⟨by simp,.inl ⟨_,_,rfl,run_takeDeferred HD.out,?_⟩⟩
    refine ⟨_,results_tmps2P rfl _ _,vl,rfl,hp.own HOW.out (fun g hg e=>?_),hp.below HBEL.out (fun i hi=>by omega)⟩
    obtain ⟨_,_,hbk⟩:=own_cells HOW.out hg
    exact bk_noncell hbk HD.out rfl e
end Go.Proofs.YtlpejagkadalbaaGreatDoor
