import Derived.Test.YtlpejagkadalbaaGreatDoorZk40
import Derived.Test.YtlpejagkadalbaaGreatDoorZk42
import Derived.Test.YtlpejagkadalbaaGreatDoorZk43
set_option maxHeartbeats 40000000
set_option maxRecDepth 100000
set_option linter.unusedVariables false
set_option linter.unusedSimpArgs false
namespace Go.Proofs.YtlpejagkadalbaaGreatDoor
section
open El (cl)
open Go Go.RowKit Go.Shelf
theorem zNX {α:Type} [El α] {w:World} {base:Nat} {T:TypeId} {ao:Option Addr} {n c:Nat} {xs:List α} (h:Own w base T (.slice ao n c) xs):Sl w ao n xs:=by
 obtain ⟨a',c',e,hs,_⟩:=h.sl
 injection e with e1 e2 e3
 subst e1 e2
 exact hs
theorem zLL:(Tryz.prog.info? 43).map (fun i=>(i.zero,i.size,i.bytes))=some (some (.agg #[.int .i64 0,.int .i64 0,.slice none 0 0,.int .i64 0]),4,48):=by kernel_rfl
def zOA (w:World) (ds:List DoneV) (M:List ValV) (e:Ending) (w':World):Prop :=
 ∃ vo vm rs,e=.returned (.tuple #[vo,vm,.int .i64 0])∧Own w' w.heap.size 43 vo rs∧Dones w' w.heap.size rs ds∧Own w' w.heap.size 56 vm M∧Below w.heap.size w w'
theorem zMD (ma pa ea ao:Option Addr) (mn mc pn pc en ec N cap:Nat) (M:List ValV) (E:List EntryV) (rs:List JobR) (js:List JobV) (w:World) (hm:Sl w ma mn M) (he:Sl w ea en E) (hj:Jobs w ao N rs js) (hN:N≤60) (hok:ImOk M E) (hT:Tab w) :
  Calls Tryz.prog 9 #[.agg #[.slice ma mn mc,.slice pa pn pc,.slice ea en ec],.slice ao N cap] w (zOA w (zBi E M js) (zC3 E M js)):=by
 have hml:=hm.len
 have hm400:=((zBT M).1 hok.m).1
 have hn:=hj.n
 obtain ⟨i0,hi0,hz0,hz1,hz2⟩:=info_parts zLL
 obtain ⟨w1,hw1⟩:∃ w1,w1=w.alloc (.cells #[.slice ma mn mc,.slice pa pn pc,.slice ea en ec] 28):=⟨_,rfl⟩
 obtain ⟨g2,hg2⟩:∃ g,g=w.heap.size:=⟨_,rfl⟩
 have h1w:Below w.heap.size w w1:=by rw [hw1];exact zG (Below.refl _ _) _
 have r1:Bk w1 g2 28 #[.slice ma mn mc,.slice pa pn pc,.slice ea en ec]:=by rw [hw1,hg2];exact zM _ _ _
 have cl:=zDO ma mn mc M w1 (hm.below h1w) (by omega)
 have hgw:w.heap.size≤g2:=by omega
 have hq:¬((60:Int) < N):=by omega
 have HW1:=zA hw1
 have HG2:=zA hg2
 have H1W:=zA h1w
 have R1:=zA r1
 have CL:=zA cl
 have HE:=zA he
 have HJ:=zA hj
 have HOK:=zA hok
 have HT:=zA hT
 clear hw1 hg2 h1w r1 cl hm he hj hok hT
 obtain ⟨c0,c1,c2⟩:=zAP R1.out
 have bL:=R1.out.lt
 go_enter Tryz.func9,Tryz.ntmps9
 go_upto_region 1 with (fail)
 try rw [←HG2.out]
 rw [←HW1.out]
 go_upto_region 4 with (go_at_call 32;((with_reducible refine (CL.out).mono ?_);rintro e w2 ⟨v,rfl,ho,hb2⟩;obtain ⟨ca,cn,cc,rfl⟩:=zAN ho;have HO2:=zA ho;have HB2:=zA hb2;have R2:=zA (zH hb2 R1.out);have rL:=R2.out.lt;have rF:=(fun i=>R2.out.frozen i);obtain ⟨c0,c1,c2⟩:=zAP R2.out;clear ho hb2))
 obtain ⟨w3,hw3⟩:∃ w3,w3=w2.setCell ⟨g2,0,none⟩ (.slice ca cn cc):=⟨_,rfl⟩
 rw [←hw3]
 have i3:Bk w3 g2 28 #[.slice ca cn cc,.slice pa pn pc,.slice ea en ec]:=by rw [hw3];exact zT R2.out rfl
 have o3:Own w3 w.heap.size 56 (.slice ca cn cc) M:=by rw [hw3];exact (zAS HO2.out R2.out (by decide) _ _).mono H1W.out.size
 have b02:=zI H1W.out HB2.out
 have b3:Below w.heap.size w w3:=by rw [hw3];exact b02.grown (zAb w2 g2 0 _) b02.size (fun i e=>by injection e with e;omega)
 have I3:=zA i3
 have O3:=zA o3
 have B3:=zA b3
 clear hw3 i3 o3 b02 b3 c0 c1 c2 bL rL rF R1 R2 HO2 HB2 CL H1W HW1
 go_wp2
 go_loopw [7,20] (fun v i wr=>∃ (k:Nat) (rr:List DoneR) (xa:Option Addr) (xn xc:Nat),k≤N∧i=.int .i64 k∧Own wr w.heap.size 43 v rr∧Dones wr w.heap.size rr (zBi E M (js.take k))∧Bk wr g2 28 #[.slice xa xn xc,.slice pa pn pc,.slice ea en ec]∧Own wr w.heap.size 56 (.slice xa xn xc) (zC3 E M (js.take k))∧Below w.heap.size w wr) (fun _ i _=>N - (intOf i).toNat)
 case atStart=>exact ⟨0,[],ca,cn,cc,Nat.zero_le _,rfl,Own.nil _ _ _,by rw [List.take_zero];exact Dones.nil,I3.out,O3.out,B3.out⟩
 case round =>
  obtain ⟨k,rr,xa,xn,xc,hk,rfl,hv,hd,hi,hm,hb⟩:=hrel
  have HV:=zA hv
  have HD:=zA hd
  have HI:=zA hi
  have HM:=zA hm
  have HB:=zA hb
  clear hv hd hi hm hb I3 O3 B3
  by_cases hlt:k < N
  ·have q0:(0:Int)≤k:=by omega
   have q1:(k:Int) < N:=by omega
   obtain ⟨r,j,hr,hjj,hhas⟩:=HJ.out.get hlt
   obtain ⟨ad,hao,hab,e0,e1,e2⟩:=zNE (HJ.out.sl.below HB.out) hlt hr
   subst hao
   have hmn:=zK2 (E:=E) (M:=M) hjj
   have hdn:=zI3 (E:=E) (M:=M) hjj
   have hok2:=zJK (E:=E) (js:=js.take k) HOK.out
   have hrl:rr.length=k:=by rw [HD.out.len,zDi,List.length_take];omega
   obtain ⟨nm,⟨aa,an,ac⟩,F⟩:=r
   obtain ⟨s,args,F'⟩:=j
   obtain ⟨f1,f2,ha,hac,hai,hF⟩:=hhas
   simp only at f1 f2 ha hac hai hF e0 e1 e2 hmn hdn
   subst f1 f2
   obtain ⟨w4,hw4⟩:∃ w4,w4=(wr.alloc (.cells #[.string s,.slice aa an ac,.int .i64 F'] 38)).alloc (.cells #[.int .i64 0,.int .i64 0,.slice none 0 0,.int .i64 0] 43):=⟨_,rfl⟩
   obtain ⟨g9,hg9⟩:∃ g,g=wr.heap.size:=⟨_,rfl⟩
   obtain ⟨g10,hg10⟩:∃ g,g=wr.heap.size+1:=⟨_,rfl⟩
   have b4:Below wr.heap.size wr w4:=by rw [hw4];exact zG (zG (Below.refl _ _) _) _
   have j4:Bk w4 g9 38 #[.string s,.slice aa an ac,.int .i64 F']:=by rw [hw4,hg9];exact zN _ (zM _ _ _)
   have t4:Bk w4 g10 43 #[.int .i64 0,.int .i64 0,.slice none 0 0,.int .i64 0]:=by rw [hw4,hg10];exact zO _ _ (by simp)
   have r4:=zH b4 HI.out
   have b04:=zI HB.out b4
   have hg2L:=HI.out.lt
   have hn2:g2≠g10:=by omega
   have hn2':g10≠g2:=by omega
   have dd:=zOY xa pa ea aa xn xc pn pc en ec an ac (zC3 E M (js.take k)) E s args F' w4 (zNX (HM.out.below b4)) (HE.out.below b04) (ha.below b04) hok2 hai (HT.out.below b04)
   generalize doF (zC3 E M (js.take k)) E s args F'=D at dd hmn hdn
   obtain ⟨⟨de,dn,dout,df⟩,M2⟩:=D
   simp only at hmn hdn
   unfold zM7 at dd
   have HW4:=zA hw4
   have HG9:=zA hg9
   have HG10:=zA hg10
   have J4:=zA j4
   have T4:=zA t4
   have R4:=zA r4
   have B4:=zA b4
   have B04:=zA b04
   have DO:=zA dd
   have HMN:=zA hmn
   have HDN:=zA hdn
   clear hw4 hg9 hg10 j4 t4 r4 b4 b04 dd hmn hdn hok2 hr hjj ha hac hai hF
   go_upto_region 9 with (fail)
   try rw [←HG10.out]
   try rw [←HG9.out]
   rw [←HW4.out]
   clear e0 e1 e2 hab HW4 HG9
   obtain ⟨c0,c1,c2⟩:=zAP R4.out
   have rL:=R4.out.lt
   obtain ⟨k0,k1,k2⟩:=zAP J4.out
   have kL:=J4.out.lt
   go_upto_region 10 with (go_at_call 33;((with_reducible refine (DO.out).mono ?_);rintro e w5 ⟨vo,vm,rfl,oo,ox,hb⟩;obtain ⟨oa,on,oc,rfl⟩:=zAN oo;obtain ⟨ya,yn,yc,rfl⟩:=zAN ox;have OO5:=zA oo;have OX5:=zA ox;have HB5:=zA hb;have R5:=zA (zH hb R4.out);have rL:=R5.out.lt;have rF:=(fun i=>R5.out.frozen i);obtain ⟨c0,c1,c2⟩:=zAP R5.out;have T5:=zA (zH hb T4.out);have tL5:=T5.out.lt;have tF5:=(fun i=>T5.out.frozen i);obtain ⟨t0,t1,t2,t3⟩:=zY T5.out;clear oo ox hb))
   obtain ⟨w6,hw6⟩:∃ w6,w6=(w5.setCells g10 0 [.int .i64 de,.int .i64 dn,.slice oa on oc,.int .i64 df]).setCell ⟨g2,0,none⟩ (.slice ya yn yc):=⟨_,rfl⟩
   first
    | (rw [←hw6])
    | (change Code.wp _ _ _ _ ((w5.setCells g10 0 [.int .i64 de,.int .i64 dn,.slice oa on oc,.int .i64 df]).setCell ⟨g2,0,none⟩ (.slice ya yn yc));rw [←hw6])
   have hgs:=zAO g10 [.int .i64 de,.int .i64 dn,.slice oa on oc,.int .i64 df] 0 w5
   have t6a:=zDH T5.out (.int .i64 de) (.int .i64 dn) (.slice oa on oc) (.int .i64 df)
   have r6a:Bk (w5.setCells g10 0 [.int .i64 de,.int .i64 dn,.slice oa on oc,.int .i64 df]) g2 28 #[.slice xa xn xc,.slice pa pn pc,.slice ea en ec]:=zDI R5.out hgs (fun e=>by injection e with e;omega)
   have t6:Bk w6 g10 43 #[.int .i64 de,.int .i64 dn,.slice oa on oc,.int .i64 df]:=by rw [hw6];exact zBy t6a hn2' _ _
   have r6:Bk w6 g2 28 #[.slice ya yn yc,.slice pa pn pc,.slice ea en ec]:=by rw [hw6];exact zT r6a rfl
   have hb4s:=B4.out.size
   have hbs:=HB.out.size
   have b45:=zI B4.out HB5.out
   have keep:∀ (α:Type) (I:El α) (T:TypeId) (v:Value) (xs:List α),43≠T→28≠T→Own w5 w.heap.size T v xs→Own w6 w.heap.size T v xs:=by
    intro α I T v xs h1 h2 h
    rw [hw6]
    exact zAS (h.kept hgs (.inr (zAc h T5.out h1))) r6a h2 _ _
   have ox6:=keep _ _ _ _ _ (by decide) (by decide) (OX5.out.mono (show w.heap.size≤w4.heap.size by omega))
   have oo6:=keep _ _ _ _ _ (by decide) (by decide) (OO5.out.mono (show w.heap.size≤w4.heap.size by omega))
   have hd6:Dones w6 w.heap.size rr (zBi E M (js.take k)):=(HD.out.below b45).map fun v xs h=>keep _ _ _ _ _ (by decide) (by decide) h
   have hv6:Own w6 w.heap.size 43 u7 rr:=by
    have h:=HV.out.below b45
    have hfar:u7.ownBlock≠some g10:=fun e=>by
     have:=(World.ownsRow.lt HV.out g10 e).2
     have:=HG10.out
     omega
    rw [hw6]
    exact zAS (h.kept hgs (.inr hfar)) r6a (by decide) _ _
   have b05:=zI B04.out HB5.out
   have b6a:Below w.heap.size w (w5.setCells g10 0 [.int .i64 de,.int .i64 dn,.slice oa on oc,.int .i64 df]):=b05.grown hgs b05.size (fun i e=>by injection e with e;have:=HG10.out;omega)
   have b6:Below w.heap.size w w6:=by rw [hw6];exact b6a.grown (zAb _ g2 0 _) b6a.size (fun i e=>by injection e with e;omega)
   have T6:=zA t6
   have R6:=zA r6
   have OX6:=zA ox6
   have OO6:=zA oo6
   have HD6:=zA hd6
   have HV6:=zA hv6
   have B6:=zA b6
   clear hw6 hgs t6a r6a t6 r6 b45 keep ox6 oo6 hd6 hv6 b05 b6a b6 c0 c1 c2 rL k0 k1 k2 kL t0 t1 t2 t3 tL5 tF5 rF OO5 OX5 HB5 R5 T5 R4 T4 J4 DO HV HD HI HM B4 B04 HG10
   obtain ⟨t0,t1,t2,t3⟩:=zY T6.out
   have tL:=T6.out.lt
   have hsl6:=zMN w6 ⟨de,dn,⟨oa,on,oc⟩,df⟩ 43
   have hva:=HV6.out.alloc (.cells #[.int .i64 de,.int .i64 dn,.slice oa on oc,.int .i64 df] 43)
   have c63:rr.length+1≤maxLen:=by unfold maxLen;omega
   have c47:(rr.length+1)*48≤140737488355328:=by omega
   have hsb:w.heap.size≤(w6.alloc (.cells #[.int .i64 de,.int .i64 dn,.slice oa on oc,.int .i64 df] 43)).heap.size:=by have:=B6.out.size;simp;omega
   have SL6:=zA hsl6
   have HVA:=zA hva
   have C63:=zA c63
   have C47:=zA c47
   have HSB:=zA hsb
   clear hsl6 hva c63 c47 hsb
   go_wp2_with (at_builtin;refine zAC rfl (.tmp 31) (.tmp 33) 33 rfl w.heap.size 43 i0 _ 48 Tryz.underlying33 hi0 hz0 hz1 hz2 rfl u7 rr rfl HVA.out (some ⟨w6.heap.size,0,none⟩) 1 1 [⟨de,dn,⟨oa,on,oc⟩,df⟩] rfl SL6.out C63.out C47.out HSB.out ?_;intro v8 w8 hown8 hgr8 hat8;have HO8:=zA hown8;have HG8:=zA hgr8;clear hown8 hgr8 hat8)
   go_roundw
   case rel =>
    have a6:Below w6.heap.size w6 (w6.alloc (.cells #[.int .i64 de,.int .i64 dn,.slice oa on oc,.int .i64 df] 43)):=zG (Below.refl _ _) _
    have keep:∀ (α:Type) (I:El α) (T:TypeId) (v:Value) (xs:List α),T≠43→Own w6 w.heap.size T v xs→Own w8 w.heap.size T v xs:=fun α I T v xs hT h=>(h.below a6).kept HG8.out (zJk (h.below a6) HVA.out hT)
    refine ⟨k+1,rr++[⟨de,dn,⟨oa,on,oc⟩,df⟩],ya,yn,yc,by omega,by go_num,HO8.out,?_,?_,?_,?_⟩
    ·rw [HDN.out]
     exact (HD6.out.map fun v xs h=>keep _ _ _ _ _ (by decide) h).snoc ⟨rfl,rfl,rfl,keep _ _ _ _ _ (by decide) OO6.out⟩
    ·exact zDI (zH a6 R6.out) HG8.out (fun e=>by
      have:=zAc HVA.out (zH a6 R6.out) (by decide)
      exact this e)
    ·rw [HMN.out]
     exact keep _ _ _ _ _ (by decide) OX6.out
    ·exact (zI B6.out a6).grown HG8.out HSB.out (fun i e=>(World.ownsRow.lt HVA.out i e).1)
   case measure=>simp [intOf];omega
  ·have q1:¬((k:Int) < N):=by omega
   obtain rfl:k=N:=by omega
   have hd:=HD.out
   have hm:=HM.out
   rw [List.take_of_length_le (by omega)] at hd hm
   obtain ⟨vv,hvv⟩:∃ v:Value,v=u7:=⟨_,rfl⟩
   obtain ⟨c0,c1,c2⟩:=zAP HI.out
   have rL:=HI.out.lt
   have HD':=zA hd
   have HM':=zA hm
   clear hd hm hvv
   go_wp2
   go_quiet (fail)
   go_wp2
   refine bodyPost_ret (results_tmp3 rfl _ _ _) rfl ?_
   exact ⟨_,_,rr,rfl,HV.out.below (zBE (Below.refl _ _) _),HD'.out.below (zBE (Below.refl _ _) _),HM'.out.below (zBE (Below.refl _ _) _),zBE HB.out _⟩
end
section
open Go Go.RowKit Go.Shelf
theorem zDS {P:Program} {fn:Func} {p q q':Tmp} {ty:TypeId} (h:fn.results=#[.cell p ty,.tmp q,.tmp q']) (tmps:Array Value) (w:World) (g:Nat) (t:TypeId) (cs:Array Value) (fr:Nat×Nat) (d:TypeDesc)
  (hp:tmps.getD p undef=.pointer (some ⟨g,0,none⟩)) (hg:w.heap[g]?=some (.cells cs t fr))
  (hu:P.underlying ty=some d) (hd:(match d with | .struct _ | .array _ _=>true | _=>false)=true) (hi:(P.info? ty).map (·.size)=some cs.size) :
  (results fn tmps).run P w=.ok (.tuple #[.agg cs,tmps.getD q undef,tmps.getD q' undef]) w:=by
 have hp':tmps[p]?.getD undef=.pointer (some ⟨g,0,none⟩):=by simpa using hp
 simp [results,h,hp',asAddr,run_loadVar_row w g t ty cs fr d hg hu hd hi]
theorem zG8 (w:World) (g:Nat) (ds:Array Value) {k:Nat} (h:k≠g):(w.setRow g ds).heap[k]?=w.heap[k]?:=by
 unfold World.setRow
 simp only [Array.getElem?_modify]
 rw [if_neg (by omega)]
theorem zEZ {w:World} {g:Nat} {T:TypeId} {cs:Array Value} (h:Bk w g T cs) (ds:Array Value):Bk (w.setRow g ds) g T ds:=setRow_heap w g cs ds T (0,0) h
theorem zLK:(Tryz.prog.info? 3).map (fun i=>(i.zero,i.size,i.bytes))=some (some (.int .i64 0),1,8):=by kernel_rfl
theorem zJ6 (ao:Option Addr) (n cap:Nat) (vs:List Int) (w:World) (h:Sl w ao n vs) (hn:n*8≤140737488355328) :
  Calls Tryz.prog 65 #[.slice ao n cap] w (zFE w 3 vs):=by
 obtain ⟨i0,hi,hz0,hz1,hz2⟩:=info_parts zLK
 have hl:=h.len
 have hq:∀ W,(binOp .eql 36 (.slice ao n cap) (.slice none 0 0)).run Tryz.prog W=.ok (.bool ao.isNone) W:=fun W=>Lib.run_eql_slice_nil W _ _ ao n cap 0 0 Tryz.underlying36
 cases ao with
 | none =>
  have hn0:n=0:=by
   rcases Nat.eq_zero_or_pos n with h0 | h0
   ·exact h0
   ·obtain ⟨a,e,_⟩:=h.row h0
    cases e
  have hv:vs=[]:=List.eq_nil_of_length_eq_zero (by omega)
  subst hv
  clear h hl hn0
  simp only [Option.isNone_none] at hq
  go_enter Tryz.func65,Tryz.ntmps65
  go_wp2
  go_ret
  exact ⟨_,rfl,Own.nil _ _ _,Below.refl _ _⟩
 | some a =>
  simp only [Option.isNone_some] at hq
  have H:=zA h
  have HL:=zA hl
  clear h hl
  go_enter Tryz.func65,Tryz.ntmps65
  have c63:([]:List Int).length+n≤maxLen:=by unfold maxLen;simp;omega
  have c47:(([]:List Int).length+n)*8≤140737488355328:=by simp;omega
  have cB:w.heap.size≤(w.alloc (.cells #[] 3)).heap.size:=by simp
  have hb0:Below w.heap.size w (w.alloc (.cells #[] 3)):=(Below.refl _ _).alloc (Nat.le_refl _) _
  go_wp2_with (at_builtin;refine zAC rfl (.tmp 5) (.tmp 6) 36 rfl w.heap.size 3 i0 _ 8 Tryz.underlying36 hi hz0 hz1 hz2 rfl (.slice (some ⟨w.heap.size,0,none⟩) 0 0) ([]:List Int) rfl (zBw w 3 w.heap.size (Nat.le_refl _) #[] 0 rfl (by decide) rfl) (some a) n cap vs rfl (H.out.alloc _) c63 c47 cB ?_;intro v1 w1 hown1 hgr1 hat1)
  go_ret
  refine ⟨v1,rfl,hown1,hb0.grown hgr1 (by simp) ?_⟩
  intro k hk
  simp [Value.ownBlock] at hk
  omega
theorem zJ7 (w:World):Calls Tryz.prog 66 #[.slice none 0 0] w fun e w'=>e=.returned (.slice none 0 0)∧w'=w:=by
 have hq:∀ W,(binOp .eql 46 (.slice none 0 0) (.slice none 0 0)).run Tryz.prog W=.ok (.bool true) W:=fun W=>Lib.run_eql_slice_nil W _ _ none 0 0 0 0 Tryz.underlying46
 go_enter Tryz.func66,Tryz.ntmps66
 go_wp2
 go_ret
 exact ⟨rfl,rfl⟩
def zM0 (w:World) (x:ReadV) (data:List Int) (e:Ending) (w':World):Prop :=
 ((∃ ln er,er≠0∧e=.returned (.tuple #[.agg #[.slice none 0 0,.slice none 0 0,.slice none 0 0,.slice none 0 0],.int .i64 ln,.int .i64 er]))∧(x.er≠0∨¬ModOk zW ⟨x.code,data,x.labels,[]⟩) ∨
 (∃ r:ModR,e=.returned (.tuple #[.agg #[.slice r.code.a r.code.n r.code.c,.slice r.data.a r.data.n r.data.c,.slice r.ex.a r.ex.n r.ex.c,.slice r.im.a r.im.n r.im.c],.int .i64 0,.int .i64 0])∧r.has w' ⟨x.code,data,x.labels,[]⟩∧r.im=⟨none,0,0⟩∧x.er=0∧ModOk zW ⟨x.code,data,x.labels,[]⟩))∧Below w.heap.size w w'
theorem zMM (s:ByteArray) (ao:Option Addr) (n c:Nat) (data:List Int) (w:World) (he:PEnv w) (hs:s.size≤67108864) (hd:Sl w ao n data) (hn:n*8≤140737488355328) (hi:∀ x∈data,I64 x) (x:ReadV) (hx:zEQ s.data.toList=x)
  (hxi:∀ y∈x.code,I64 y) (hxl:∀ y∈x.labels,y.wf) :
  Calls Tryz.prog 37 #[.string s,.slice ao n c,.slice none 0 0] w (zM0 w x data):=by
 obtain ⟨w1,hw1⟩:∃ w1,w1=w.alloc (.cells #[.slice none 0 0,.slice none 0 0,.slice none 0 0,.slice none 0 0] 48):=⟨_,rfl⟩
 have h1w:Below w.heap.size w w1:=by rw [hw1];exact zG (Below.refl _ _) _
 have b1:Bk w1 w.heap.size 48 #[.slice none 0 0,.slice none 0 0,.slice none 0 0,.slice none 0 0]:=by rw [hw1];exact zM _ _ _
 have rd:=zKi s w1 (he.below h1w) hs
 rw [hx] at rd
 have RD:=zA rd
 have HW1:=zA hw1
 have H1W:=zA h1w
 have B1:=zA b1
 have HD:=zA hd
 have HI:=zA hi
 have HXI:=zA hxi
 have HXL:=zA hxl
 clear rd hw1 h1w b1 he hd hi hxi hxl hx
 obtain ⟨xc,xl,xn,xe⟩:=x
 go_enter Tryz.func37,Tryz.ntmps37
 go_upto_region 1 with (fail)
 rw [←HW1.out]
 go_upto_region 2 with (go_at_call 64;((with_reducible refine RD.out.mono ?_);rintro e w2 ⟨vc,vl,rfl,hc,hl,hb2⟩;have HC:=zA hc;have HL:=zA hl;have HB2:=zA hb2;clear hc hl hb2))
 have B2:=zA (zH HB2.out B1.out)
 have HC:Hid (Own w2 w1.heap.size 3 vc xc):=HC
 have HL:Hid (Own w2 w1.heap.size 91 vl xl):=HL
 by_cases hxe:xe=0
 ·subst hxe
  obtain ⟨ca,cc,rfl,hcs,hcb⟩:=HC.out.sl
  obtain ⟨la,lc,rfl,hls,hlb⟩:=HL.out.sl
  have HCB:=zA hcb
  have HLB:=zA hlb
  clear hcb hlb
  obtain ⟨nc,hnc⟩:∃ nc,xc.length=nc:=⟨_,rfl⟩
  obtain ⟨nl,hnl⟩:∃ nl,xl.length=nl:=⟨_,rfl⟩
  rw [hnc] at hcs HC
  rw [hnl] at hls HL
  have cle:nc≤cc:=by
   rcases HC.out.form with ⟨e,_⟩ | ⟨_,_,e,_,_,h3,_⟩
   ·injection e with _ e1 e2;omega
   ·injection e with _ e1 e2;omega
  have lle:nl≤lc:=by
   rcases HL.out.form with ⟨e,_⟩ | ⟨_,_,e,_,_,h3,_⟩
   ·injection e with _ e1 e2;omega
   ·injection e with _ e1 e2;omega
  have CL:=zA (zJ6 ao n c data w2 (HD.out.below (zI H1W.out HB2.out)) hn)
  have CS:=zA hcs
  have LS:=zA hls
  have CLE:=zA cle
  have LLE:=zA lle
  have HNC:=zA hnc
  have HNL:=zA hnl
  clear hcs hls cle lle hnc hnl
  try rw [HNC.out]
  try rw [HNL.out]
  go_upto_region 5 with (first
   | (go_at_call 65;((with_reducible refine CL.out.mono ?_);rintro e w3 ⟨v3,rfl,ho3,hb3⟩;obtain ⟨da,dc,rfl,hds,hdb⟩:=Own.sl ho3;have HDB:=zA hdb;clear hdb;have HB3:=zA (zI HB2.out hb3);have B3:=zA (zH hb3 B2.out);have CS3:=zA (CS.out.below hb3);have LS3:=zA (LS.out.below hb3);have DS3:=zA hds;have HO3:=zA ho3;clear ho3 hb3 hds))
   | (go_at_call 66;((with_reducible refine (zJ7 _).mono ?_);rintro e w' ⟨rfl,hw'⟩;subst w')))
  have hn':=HD.out.len
  obtain ⟨nd,hnd⟩:∃ nd,data.length=nd:=⟨_,rfl⟩
  obtain ⟨w4,hw4⟩:∃ w4,w4=w3.alloc (.cells #[.slice ca nc cc,.slice da nd dc,.slice la nl lc,.slice none 0 0] 48):=⟨_,rfl⟩
  obtain ⟨g4,hg4⟩:∃ g4,w3.heap.size=g4:=⟨_,rfl⟩
  try rw [hnd]
  rw [←hw4]
  try rw [hg4]
  rw [hnd] at DS3 HO3
  have dle:nd≤dc:=by
   rcases HO3.out.form with ⟨e,_⟩ | ⟨_,_,e,_,_,h3,_⟩
   ·injection e with _ e1 e2;omega
   ·injection e with _ e1 e2;omega
  have hb4:Below w3.heap.size w3 w4:=by rw [hw4];exact zG (Below.refl _ _) _
  have M4:=zA (show Bk w4 g4 48 #[.slice ca nc cc,.slice da nd dc,.slice la nl lc,.slice none 0 0] by rw [hw4,←hg4];exact zM _ _ _)
  have hhas:(⟨⟨ca,nc,cc⟩,⟨da,nd,dc⟩,⟨la,nl,lc⟩,⟨none,0,0⟩⟩:ModR).has w4 ⟨xc,data,xl,[]⟩ :=
   ⟨CS3.out.below hb4,DS3.out.below hb4,LS3.out.below hb4,Sl.nil _ _,⟨CLE.out,dle,LLE.out,Nat.le_refl _⟩,HXI.out,HI.out,HXL.out,fun x hx=>by cases hx⟩
  have ck:=zEw _ _ w4 hhas
  have HB4:=zA (zI HB3.out hb4)
  have B4:=zA (zH hb4 B3.out)
  have CK:=zA ck
  have HH:=zA hhas
  obtain ⟨m0,m1,m2,m3⟩:=zY M4.out
  have mL:=M4.out.lt
  clear hw4 hg4 hb4 hhas ck dle
  go_upto_region 6 with (go_at_call 20;((with_reducible refine CK.out.mono ?_);rintro e w5 ⟨er,rfl,her,hb5⟩;have HER:=zA her;have HB5:=zA (zI HB4.out hb5);have B5:=zA (zH hb5 B4.out);have M5:=zA (zH hb5 M4.out);have HH5:=zA (HH.out.below hb5);clear her hb5))
  clear m0 m1 m2 m3 mL
  by_cases h0:er=0
  ·subst h0
   have hok:=HER.out.1 rfl
   obtain ⟨m0,m1,m2,m3⟩:=zY M5.out
   have mL:=M5.out.lt
   go_wp2_with (refine wpList_store_rowTo rfl 48 (.tmp 6) (.tmp 40) rfl rfl w.heap.size #[.slice ca nc cc,.slice da nd dc,.slice la nl lc,.slice none 0 0] rfl rfl 48 _ B5.out (by kernel_rfl) rfl (by kernel_rfl) ?_)
   refine bodyPost_ret (zDS (g:=w.heap.size) (t:=48) (cs:=#[.slice ca nc cc,.slice da nd dc,.slice la nl lc,.slice none 0 0]) (fr:=(0,0)) rfl _ _ _ rfl (zEZ B5.out _) Tryz.underlying48 rfl (by kernel_rfl)) rfl ?_
   have hg0:=B1.out.lt
   have hw12:=HB2.out.size
   have hh:=HH5.out
   have hkeep:∀ {α:Type} [El α] {ao:Option Addr} {n:Nat} {xs:List α},Sl w5 ao n xs→(∀ a,ao=some a→w1.heap.size≤a.block)→Sl (w5.setRow w.heap.size #[.slice ca nc cc,.slice da nd dc,.slice la nl lc,.slice none 0 0]) ao n xs:=fun hsl hne =>
    hsl.keep (by simp [World.setRow]) (fun a ha=>by
     have:=hne a ha
     exact zG8 _ _ _ (by omega))
   exact ⟨.inr ⟨⟨⟨ca,nc,cc⟩,⟨da,nd,dc⟩,⟨la,nl,lc⟩,⟨none,0,0⟩⟩,rfl,⟨hkeep hh.code fun a ha=>(HCB.out a ha).1,hkeep hh.data fun a ha=>Nat.le_trans hw12 (HDB.out a ha).1,hkeep hh.ex fun a ha=>(HLB.out a ha).1,Sl.nil _ _,hh.le,hh.wc,hh.wd,hh.we,hh.wi⟩,rfl,rfl,hok⟩,below_setRow (zI H1W.out HB5.out) (Nat.le_refl _) _⟩
  ·have q1:(er != 0)=true:=by simpa using h0
   have q2:(er==0)=false:=by simpa using h0
   have hno:¬ModOk zW ⟨xc,data,xl,[]⟩:=fun h=>h0 (HER.out.2 h)
   go_wp2_with (refine wpList_store_rowTo rfl 48 (.tmp 6) (.tmp 38) rfl rfl w.heap.size #[.slice none 0 0,.slice none 0 0,.slice none 0 0,.slice none 0 0] rfl rfl 48 _ B5.out (by kernel_rfl) rfl (by kernel_rfl) ?_)
   refine bodyPost_ret (zDS (g:=w.heap.size) (t:=48) (cs:=#[.slice none 0 0,.slice none 0 0,.slice none 0 0,.slice none 0 0]) (fr:=(0,0)) rfl _ _ _ rfl (zEZ B5.out _) Tryz.underlying48 rfl (by kernel_rfl)) rfl ?_
   exact ⟨.inl ⟨⟨_,er,h0,rfl⟩,.inr hno⟩,below_setRow (zI H1W.out HB5.out) (Nat.le_refl _) _⟩
 ·have q1:(xe != 0)=true:=by simpa using hxe
  have q2:(xe==0)=false:=by simpa using hxe
  go_wp2_with (refine wpList_store_rowTo rfl 48 (.tmp 6) (.tmp 24) rfl rfl w.heap.size #[.slice none 0 0,.slice none 0 0,.slice none 0 0,.slice none 0 0] rfl rfl 48 _ B2.out (by kernel_rfl) rfl (by kernel_rfl) ?_)
  refine bodyPost_ret (zDS (g:=w.heap.size) (t:=48) (cs:=#[.slice none 0 0,.slice none 0 0,.slice none 0 0,.slice none 0 0]) (fr:=(0,0)) rfl _ _ _ rfl (zEZ B2.out _) Tryz.underlying48 rfl (by kernel_rfl)) rfl ?_
  exact ⟨.inl ⟨⟨_,xe,hxe,rfl⟩,.inl hxe⟩,below_setRow (zI H1W.out HB2.out) (Nat.le_refl _) _⟩
end
end Go.Proofs.YtlpejagkadalbaaGreatDoor
