import Derived.Test.YtlpejagkadalbaaGreatDoorZk33
set_option maxHeartbeats 40000000
set_option maxRecDepth 100000
set_option linter.unusedVariables false
set_option linter.unusedSimpArgs false
namespace Go.Proofs.YtlpejagkadalbaaGreatDoor
open Go Go.RowKit Go.Shelf
theorem zY {w:World} {g:Nat} {T:TypeId} {v0 v1 v2 v3:Value} (h:Bk w g T #[v0,v1,v2,v3]):w.cell? ⟨g,0,none⟩=some v0∧w.cell? ⟨g,1,none⟩=some v1∧w.cell? ⟨g,2,none⟩=some v2∧w.cell? ⟨g,3,none⟩=some v3:=⟨h.cell 0,h.cell 1,h.cell 2,h.cell 3⟩
theorem zBM {w:World} {g:Nat} {T:TypeId} {v0 v1:Value} (h:Bk w g T #[v0,v1]):w.cell? ⟨g,0,none⟩=some v0∧w.cell? ⟨g,1,none⟩=some v1:=⟨h.cell 0,h.cell 1⟩
theorem all_num {l:List Int}:l.all zAs=true↔zDv l:=by unfold zDv zAs;simp
theorem zEN {α:Type} [El α] {w:World} {ao:Option Addr} {n:Nat} {xs:List α} (h:Sl w ao n xs) {k:Nat} (hk:k≤n):Sl w ao k (xs.take k):=by
 refine ⟨by rw [List.length_take,h.len];omega,Nat.le_trans hk h.max,fun h0=>?_⟩
 obtain ⟨a,e,hb,hc⟩:=h.row (by omega)
 refine ⟨a,e,hb,fun j u hu=>hc j u ?_⟩
 rw [zH7] at hu
 rcases Nat.lt_or_ge j (k*El.k α) with hj | hj
 ·rwa [List.getElem?_take_of_lt hj] at hu
 ·rw [List.getElem?_eq_none (by rw [List.length_take];omega)] at hu;cases hu
def zH2 (nm:ByteArray→Bool) (m:ModV) (k:Nat):Prop:=(∀ x∈m.ex.take k,nm x.name=true∧0≤x.at_∧x.at_ < m.code.length)∧(m.ex.take k).Pairwise fun x y=>x.name≠y.name
def zHu (nm:ByteArray→Bool) (m:ModV) (k:Nat):Prop:=(∀ x∈m.im.take k,nm x.name=true∧0≤x.at_∧x.at_≤(m.data.length:Int) - 2)∧(m.im.take k).Pairwise fun x y=>x.at_+2≤y.at_∨y.at_+2≤x.at_
theorem zGp {α:Type} {R:α→α→Prop} {l:List α} {x:α} (h:l.Pairwise R) (hx:∀ y∈l,R y x):(l++[x]).Pairwise R :=
 List.pairwise_append.2 ⟨h,List.pairwise_singleton _ _,fun y hy z hz=>by rw [List.mem_singleton] at hz;subst hz;exact hx y hy⟩
theorem zGo {α:Type} {R:α→α→Prop} {l:List α} {k:Nat} {x:α} (h:l.Pairwise R) (hx:l[k]?=some x):∀ y∈l.take k,R y x:=by
 have h1:(l.take (k+1)).Pairwise R:=h.sublist (List.take_sublist _ _)
 rw [List.take_add_one,hx] at h1
 exact fun y hy=>(List.pairwise_append.1 h1).2.2 y hy x (by simp)
theorem zLO {nm:ByteArray→Bool} {m:ModV} {k:Nat} {x:NamV} (h:zH2 nm m k) (hx:m.ex[k]?=some x) (h1:nm x.name=true) (h2:((m.ex.take k).any fun y=>decide (y.name=x.name))=false) (h3:0≤x.at_∧x.at_ < m.code.length):zH2 nm m (k+1):=by
 unfold zH2
 rw [List.take_add_one,hx]
 refine ⟨fun y hy=>?_,zGp h.2 fun y hy e=>?_⟩
 ·rcases List.mem_append.1 hy with hy | hy
  ·exact h.1 y hy
  ·simp at hy;subst hy;exact ⟨h1,h3⟩
 ·have:=List.any_eq_false.1 h2 y hy
  simp [e] at this
theorem zLM {nm:ByteArray→Bool} {m:ModV} {k:Nat} {x:NamV} (h:zHu nm m k) (hx:m.im[k]?=some x) (h1:nm x.name=true) (h2:((m.im.take k).any (zDM x))=false) (h3:0≤x.at_∧x.at_≤(m.data.length:Int) - 2):zHu nm m (k+1):=by
 unfold zHu
 rw [List.take_add_one,hx]
 refine ⟨fun y hy=>?_,zGp h.2 fun y hy=>?_⟩
 ·rcases List.mem_append.1 hy with hy | hy
  ·exact h.1 y hy
  ·simp at hy;subst hy;exact ⟨h1,h3⟩
 ·have:=List.any_eq_false.1 h2 y hy
  unfold zDM at this
  simp at this
  omega
theorem zNR {nm:ByteArray→Bool} {m:ModV} {k:Nat} {x:NamV} (hx:m.ex[k]?=some x) (h2:((m.ex.take k).any fun y=>decide (y.name=x.name))=true) (h:ModOk nm m):False:=by
 obtain ⟨y,hy,e⟩:=List.any_eq_true.1 h2
 exact zGo h.e2 hx y hy (by simpa using e)
theorem zNc {nm:ByteArray→Bool} {m:ModV} {k:Nat} {x:NamV} (hx:m.im[k]?=some x) (h2:((m.im.take k).any (zDM x))=true) (h:ModOk nm m):False:=by
 obtain ⟨y,hy,e⟩:=List.any_eq_true.1 h2
 have:=zGo h.i2 hx y hy
 unfold zDM at e
 simp at e
 omega
theorem zEw (r:ModR) (m:ModV) (w:World) (h:r.has w m) :
  Calls Tryz.prog 20 #[.agg #[.slice r.code.a r.code.n r.code.c,.slice r.data.a r.data.n r.data.c,.slice r.ex.a r.ex.n r.ex.c,.slice r.im.a r.im.n r.im.c]] w fun e w'=>∃ er,e=.returned (.int .i64 er)∧(er=0↔ModOk zW m)∧Below w.heap.size w w':=by
 obtain ⟨⟨ca,cn,cc⟩,⟨da,dn,dc⟩,⟨ea,en,ec⟩,⟨ia,jn,ic⟩⟩:=r
 obtain ⟨hc,hd,he,hi,⟨hlc,hld,hle,hli⟩,wc,wd,we,wi⟩:=h
 simp only at *
 have lc:=hc.len
 have ld:=hd.len
 have le:=he.len
 have li:=hi.len
 have mc:=hc.max
 have md:=hd.max
 have me:=he.max
 have mi:=hi.max
 unfold maxLen at mc md me mi
 obtain ⟨w1,hw1⟩:∃ w1,w1=w.alloc (.cells #[.slice ca cn cc,.slice da dn dc,.slice ea en ec,.slice ia jn ic] 48):=⟨_,rfl⟩
 have h1w:Below w.heap.size w w1:=by rw [hw1];exact zG (Below.refl _ _) _
 have b1:Bk w1 w.heap.size 48 #[.slice ca cn cc,.slice da dn dc,.slice ea en ec,.slice ia jn ic]:=by rw [hw1];exact zM _ _ _
 obtain ⟨c0,c1,c2,c3⟩:=zY b1
 have bL:=b1.lt
 have n1:=zFM ca cn cc m.code w1 (hc.below h1w)
 have n2:∀ W,Below w1.heap.size w1 W→Calls Tryz.prog 45 #[.slice da dn dc] W fun e w'=>e=.returned (.bool (m.data.all zAs))∧Below W.heap.size W w':=fun W hb=>zFM da dn dc m.data W ((hd.below h1w).below hb)
 have HW1:=zA hw1
 have H1W:=zA h1w
 have B1:=zA b1
 have HE:=zA (he.below h1w)
 have HI:=zA (hi.below h1w)
 have WE:=zA we
 have WI:=zA wi
 clear hw1 h1w b1 hc hd he hi wc wd we wi
 by_cases kl1:120 < cn
 ·have ql1:(120:Int) < cn:=by omega
  clear n1 n2
  go_enter Tryz.func20,Tryz.ntmps20
  go_upto_region 1 with (fail)
  rw [←HW1.out]
  go_wp2
  go_ret
  exact ⟨2,rfl,⟨fun h=>absurd h (by decide),fun h=>absurd h.l1 (by omega)⟩,zI H1W.out (Below.refl _ _)⟩
 have ql1:¬((120:Int) < cn):=by omega
 by_cases kl2:60 < dn
 ·have ql2:(60:Int) < dn:=by omega
  clear n1 n2
  go_enter Tryz.func20,Tryz.ntmps20
  go_upto_region 1 with (fail)
  rw [←HW1.out]
  go_wp2
  go_ret
  exact ⟨2,rfl,⟨fun h=>absurd h (by decide),fun h=>absurd h.l2 (by omega)⟩,zI H1W.out (Below.refl _ _)⟩
 have ql2:¬((60:Int) < dn):=by omega
 by_cases kl3:20 < en
 ·have ql3:(20:Int) < en:=by omega
  clear n1 n2
  go_enter Tryz.func20,Tryz.ntmps20
  go_upto_region 1 with (fail)
  rw [←HW1.out]
  go_wp2
  go_ret
  exact ⟨2,rfl,⟨fun h=>absurd h (by decide),fun h=>absurd h.l3 (by omega)⟩,zI H1W.out (Below.refl _ _)⟩
 have ql3:¬((20:Int) < en):=by omega
 by_cases kl4:20 < jn
 ·have ql4:(20:Int) < jn:=by omega
  clear n1 n2
  go_enter Tryz.func20,Tryz.ntmps20
  go_upto_region 1 with (fail)
  rw [←HW1.out]
  go_wp2
  go_ret
  exact ⟨2,rfl,⟨fun h=>absurd h (by decide),fun h=>absurd h.l4 (by omega)⟩,zI H1W.out (Below.refl _ _)⟩
 have ql4:¬((20:Int) < jn):=by omega
 cases hN1:m.code.all zAs
 ·rw [hN1] at n1
  have hno:¬ModOk zW m:=fun h=>by have:=all_num.2 h.n1;rw [hN1] at this;cases this
  have N1:=zA n1
  clear n1 n2
  go_enter Tryz.func20,Tryz.ntmps20
  go_upto_region 1 with (fail)
  rw [←HW1.out]
  go_wp2_with (go_at_call 45;((with_reducible refine (N1.out).mono ?_);rintro e v1 ⟨rfl,hv1⟩;have y0:=zH hv1 B1.out;obtain ⟨z0,z1,z2,z3⟩:=zY y0;have zL:=y0.lt;have HV1:=zA hv1;clear hv1 y0))
  go_ret
  exact ⟨1,rfl,⟨fun h=>absurd h (by decide),fun h=>absurd h hno⟩,zI H1W.out HV1.out⟩
 rw [hN1] at n1
 have N1:=zA n1
 clear n1
 cases hN2:m.data.all zAs
 ·simp only [hN2] at n2
  have hno:¬ModOk zW m:=fun h=>by have:=all_num.2 h.n2;rw [hN2] at this;cases this
  have N2:=zA n2
  clear n2
  go_enter Tryz.func20,Tryz.ntmps20
  go_upto_region 1 with (fail)
  rw [←HW1.out]
  go_wp2_with (first
   | (go_at_call 45;((with_reducible refine (N2.out _ HV1.out).mono ?_);rintro e v2 ⟨rfl,hv2⟩;have HV2:=zA (show Below w1.heap.size w1 v2 from zI HV1.out hv2);clear hv2))
   | (go_at_call 45;((with_reducible refine (N1.out).mono ?_);rintro e v1 ⟨rfl,hv1⟩;have y0:=zH hv1 B1.out;obtain ⟨z0,z1,z2,z3⟩:=zY y0;have zL:=y0.lt;have HV1:=zA hv1;clear hv1 y0)))
  go_ret
  exact ⟨1,rfl,⟨fun h=>absurd h (by decide),fun h=>absurd h hno⟩,zI H1W.out HV2.out⟩
 simp only [hN2] at n2
 have N2:=zA n2
 clear n2
 go_enter Tryz.func20,Tryz.ntmps20
 go_upto_region 1 with (fail)
 rw [←HW1.out]
 go_upto_region 5 with (first
  | (go_at_call 45;((with_reducible refine (N2.out _ HV1.out).mono ?_);rintro e v2 ⟨rfl,hv2⟩;have HV2:=zA (show Below w1.heap.size w1 v2 from zI HV1.out hv2);clear hv2))
  | (go_at_call 45;((with_reducible refine (N1.out).mono ?_);rintro e v1 ⟨rfl,hv1⟩;have y0:=zH hv1 B1.out;obtain ⟨z0,z1,z2,z3⟩:=zY y0;have zL:=y0.lt;have HV1:=zA hv1;clear hv1 y0)))
 obtain ⟨hu0,hu1,hu2,hu3⟩:=zY (zH HV2.out B1.out)
 have uL:=(zH HV2.out B1.out).lt
 clear z0 z1 z2 z3 zL c0 c1 c2 c3 N1 N2 HV1
 go_wp2
 go_loopw [44] (fun i wr=>∃ k:Nat,k≤en∧i=.int .i64 k∧zH2 zW m k∧Below w1.heap.size w1 wr) (fun i _=>en - (intOf i).toNat)
 case atStart=>exact ⟨0,Nat.zero_le _,rfl,⟨fun x hx=>by simp at hx,by simp⟩,HV2.out⟩
 case round =>
  obtain ⟨k,hk,rfl,hok,hb⟩:=hrel
  have HOK:=zA hok
  clear hu0 hu1 hu2 hu3 uL hok
  by_cases hlt:k < en
  ·have q0:(0:Int)≤k:=by omega
   have q1:(k:Int) < en:=by omega
   obtain ⟨x,hx⟩:∃ x,m.ex[k]?=some x:=⟨_,List.getElem?_eq_getElem (by omega)⟩
   obtain ⟨ad,hao,hab,e0,e1⟩:=zCa (HE.out.below hb) hlt hx
   subst hao
   have hxm:=List.mem_of_getElem? hx
   obtain ⟨xw1,xw2⟩:=WE.out x hxm
   have bxk:=zH hb B1.out
   obtain ⟨hu0,hu1,hu2,hu3⟩:=zY bxk
   have uL:=bxk.lt
   obtain ⟨w2,hw2⟩:∃ w2,w2=wr.alloc (.cells #[.string x.name,.int .i64 x.at_] 91):=⟨_,rfl⟩
   have b2:Below w1.heap.size w1 w2:=by rw [hw2];exact zG hb _
   have x2:Bk w2 wr.heap.size 91 #[.string x.name,.int .i64 x.at_]:=by rw [hw2];exact zM _ _ _
   obtain ⟨gx,hgx⟩:∃ gx,gx=wr.heap.size:=⟨_,rfl⟩
   rw [←hgx] at x2
   have HX:=zA hx
   have HXM:=zA hxm
   have HW2:=zA hw2
   have HGX:=zA hgx
   have B2:=zA b2
   have X2:=zA x2
   clear hw2 hgx b2 x2 hx hxm bxk hb
   go_upto_region 8 with (fail)
   rw [←HW2.out,←HGX.out]
   have hslx:=zEN HE.out (Nat.le_of_lt hlt)
   have HSX:=zA hslx
   obtain ⟨t0,t1⟩:=zBM X2.out
   have tL:=X2.out.lt
   have nm:=zBO x.name xw1 w2
   clear e0 e1 hu0 hu1 hu2 hu3 uL HW2 HGX hab hslx
   cases hnm:zW x.name
   ·rw [hnm] at nm
    have NM:=zA nm
    have hno:¬ModOk zW m:=fun h=>by have:=(h.e1 x HXM.out).1;rw [hnm] at this;cases this
    clear nm
    go_wp2_with (go_at_call 46;((with_reducible refine (NM.out).mono ?_);rintro e w3 ⟨rfl,hb3⟩;have HB3:=zA (show Below w1.heap.size w1 w3 from zI B2.out hb3);clear hb3))
    go_ret
    exact ⟨3,rfl,⟨fun h=>absurd h (by decide),fun h=>absurd h hno⟩,zI H1W.out HB3.out⟩
   rw [hnm] at nm
   have NM:=zA nm
   clear nm
   go_upto_region 10 with (go_at_call 46;((with_reducible refine (NM.out).mono ?_);rintro e w3 ⟨rfl,hb3⟩;have HB3:=zA (show Below w1.heap.size w1 w3 from zI B2.out hb3);have X3:=zA (zH hb3 X2.out);obtain ⟨s0,s1⟩:=zBM X3.out;have sL:=X3.out.lt;obtain ⟨v0,v1,v2,v3⟩:=zY (zH HB3.out B1.out);have vL:=(zH HB3.out B1.out).lt;clear hb3))
   have has:=zNo (some ad) k ec (m.ex.take k) gx (fun y=>decide (y.name=x.name)) w3 (HSX.out.below HB3.out) (fun W hW y hy=>zNh x y gx W (Nat.lt_of_lt_of_le sL hW.size) ((zH hW X3.out).cell 0))
   obtain ⟨b,hany⟩:∃ b,((m.ex.take k).any fun y=>decide (y.name=x.name))=b:=⟨_,rfl⟩
   rw [hany] at has
   have HAS:=zA has
   clear has t0 t1 tL NM
   cases b
   ·by_cases p0:x.at_ < 0
    ·have hno:¬ModOk zW m:=fun h=>by have:=(h.e1 x HXM.out).2;omega
     go_wp2_with (go_at_call 47;((with_reducible refine (HAS.out).mono ?_);rintro e w4 ⟨rfl,hb4⟩;have HB4:=zA (show Below w1.heap.size w1 w4 from zI HB3.out hb4);have X4:=zA (zH hb4 X3.out);obtain ⟨s0,s1⟩:=zBM X4.out;have sL:=X4.out.lt;obtain ⟨v0,v1,v2,v3⟩:=zY (zH HB4.out B1.out);have vL:=(zH HB4.out B1.out).lt;clear hb4))
     go_ret
     exact ⟨13,rfl,⟨fun h=>absurd h (by decide),fun h=>absurd h hno⟩,zI H1W.out HB4.out⟩
    ·by_cases p1:(cn:Int)≤x.at_
     ·have hno:¬ModOk zW m:=fun h=>by have:=(h.e1 x HXM.out).2;omega
      go_wp2_with (go_at_call 47;((with_reducible refine (HAS.out).mono ?_);rintro e w4 ⟨rfl,hb4⟩;have HB4:=zA (show Below w1.heap.size w1 w4 from zI HB3.out hb4);have X4:=zA (zH hb4 X3.out);obtain ⟨s0,s1⟩:=zBM X4.out;have sL:=X4.out.lt;obtain ⟨v0,v1,v2,v3⟩:=zY (zH HB4.out B1.out);have vL:=(zH HB4.out B1.out).lt;clear hb4))
      go_ret
      exact ⟨13,rfl,⟨fun h=>absurd h (by decide),fun h=>absurd h hno⟩,zI H1W.out HB4.out⟩
     ·go_wp2_with (go_at_call 47;((with_reducible refine (HAS.out).mono ?_);rintro e w4 ⟨rfl,hb4⟩;have HB4:=zA (show Below w1.heap.size w1 w4 from zI HB3.out hb4);have X4:=zA (zH hb4 X3.out);obtain ⟨s0,s1⟩:=zBM X4.out;have sL:=X4.out.lt;obtain ⟨v0,v1,v2,v3⟩:=zY (zH HB4.out B1.out);have vL:=(zH HB4.out B1.out).lt;clear hb4))
      go_roundw
      case rel=>exact ⟨k+1,by omega,by go_num,zLO HOK.out HX.out hnm hany ⟨by omega,by omega⟩,HB4.out⟩
      case measure=>simp [intOf];omega
   ·have hno:¬ModOk zW m:=fun h=>zNR HX.out hany h
    go_wp2_with (go_at_call 47;((with_reducible refine (HAS.out).mono ?_);rintro e w4 ⟨rfl,hb4⟩;have HB4:=zA (show Below w1.heap.size w1 w4 from zI HB3.out hb4);have X4:=zA (zH hb4 X3.out);obtain ⟨s0,s1⟩:=zBM X4.out;have sL:=X4.out.lt;obtain ⟨v0,v1,v2,v3⟩:=zY (zH HB4.out B1.out);have vL:=(zH HB4.out B1.out).lt;clear hb4))
    go_ret
    exact ⟨8,rfl,⟨fun h=>absurd h (by decide),fun h=>absurd h hno⟩,zI H1W.out HB4.out⟩
  ·have q1:¬((k:Int) < en):=by omega
   obtain rfl:k=en:=by omega
   obtain ⟨hu0,hu1,hu2,hu3⟩:=zY (zH hb B1.out)
   have uL:=(zH hb B1.out).lt
   have HB:=zA hb
   clear hb
   go_wp2
   clear hu0 hu1 hu2 hu3 uL
   go_loopw [77] (fun i wr=>∃ k:Nat,k≤jn∧i=.int .i64 k∧zHu zW m k∧Below w1.heap.size w1 wr) (fun i _=>jn - (intOf i).toNat)
   case atStart=>exact ⟨0,Nat.zero_le _,rfl,⟨fun x hx=>by simp at hx,by simp⟩,HB.out⟩
   case round =>
    obtain ⟨k,hk,rfl,hok,hb⟩:=hrel
    have HOI:=zA hok
    clear hok
    by_cases hlt:k < jn
    ·have q0:(0:Int)≤k:=by omega
     have q1:(k:Int) < jn:=by omega
     obtain ⟨x,hx⟩:∃ x,m.im[k]?=some x:=⟨_,List.getElem?_eq_getElem (by omega)⟩
     obtain ⟨ad,hao,hab,e0,e1⟩:=zCa (HI.out.below hb) hlt hx
     subst hao
     have hxm:=List.mem_of_getElem? hx
     obtain ⟨xw1,xw2⟩:=WI.out x hxm
     have bxk:=zH hb B1.out
     obtain ⟨hu0,hu1,hu2,hu3⟩:=zY bxk
     have uL:=bxk.lt
     obtain ⟨w2,hw2⟩:∃ w2,w2=wr.alloc (.cells #[.string x.name,.int .i64 x.at_] 93):=⟨_,rfl⟩
     have b2:Below w1.heap.size w1 w2:=by rw [hw2];exact zG hb _
     have x2:Bk w2 wr.heap.size 93 #[.string x.name,.int .i64 x.at_]:=by rw [hw2];exact zM _ _ _
     obtain ⟨gx,hgx⟩:∃ gx,gx=wr.heap.size:=⟨_,rfl⟩
     rw [←hgx] at x2
     have HX:=zA hx
     have HXM:=zA hxm
     have HW2:=zA hw2
     have HGX:=zA hgx
     have B2:=zA b2
     have X2:=zA x2
     clear hw2 hgx b2 x2 hx hxm bxk hb
     go_upto_region 18 with (fail)
     rw [←HW2.out,←HGX.out]
     have hslx:=zEN HI.out (Nat.le_of_lt hlt)
     have HSX:=zA hslx
     obtain ⟨t0,t1⟩:=zBM X2.out
     have tL:=X2.out.lt
     have nm:=zBO x.name xw1 w2
     clear e0 e1 hu0 hu1 hu2 hu3 uL HW2 HGX hab hslx
     cases hnm:zW x.name
     ·rw [hnm] at nm
      have NM:=zA nm
      have hno:¬ModOk zW m:=fun h=>by have:=(h.i1 x HXM.out).1;rw [hnm] at this;cases this
      clear nm
      go_wp2_with (go_at_call 46;((with_reducible refine (NM.out).mono ?_);rintro e w3 ⟨rfl,hb3⟩;have HB3:=zA (show Below w1.heap.size w1 w3 from zI B2.out hb3);clear hb3))
      go_ret
      exact ⟨3,rfl,⟨fun h=>absurd h (by decide),fun h=>absurd h hno⟩,zI H1W.out HB3.out⟩
     rw [hnm] at nm
     have NM:=zA nm
     clear nm
     by_cases p0:x.at_ < 0
     ·have hno:¬ModOk zW m:=fun h=>by have:=(h.i1 x HXM.out).2;omega
      go_wp2_with (go_at_call 46;((with_reducible refine (NM.out).mono ?_);rintro e w3 ⟨rfl,hb3⟩;have HB3:=zA (show Below w1.heap.size w1 w3 from zI B2.out hb3);have X3:=zA (zH hb3 X2.out);obtain ⟨s0,s1⟩:=zBM X3.out;have sL:=X3.out.lt;obtain ⟨v0,v1,v2,v3⟩:=zY (zH HB3.out B1.out);have vL:=(zH HB3.out B1.out).lt;clear hb3))
      go_ret
      exact ⟨13,rfl,⟨fun h=>absurd h (by decide),fun h=>absurd h hno⟩,zI H1W.out HB3.out⟩
     by_cases p1:(dn:Int) - 2 < x.at_
     ·have hno:¬ModOk zW m:=fun h=>by have:=(h.i1 x HXM.out).2;omega
      go_wp2_with (go_at_call 46;((with_reducible refine (NM.out).mono ?_);rintro e w3 ⟨rfl,hb3⟩;have HB3:=zA (show Below w1.heap.size w1 w3 from zI B2.out hb3);have X3:=zA (zH hb3 X2.out);obtain ⟨s0,s1⟩:=zBM X3.out;have sL:=X3.out.lt;obtain ⟨v0,v1,v2,v3⟩:=zY (zH HB3.out B1.out);have vL:=(zH HB3.out B1.out).lt;clear hb3))
      go_ret
      exact ⟨13,rfl,⟨fun h=>absurd h (by decide),fun h=>absurd h hno⟩,zI H1W.out HB3.out⟩
     go_upto_region 22 with (go_at_call 46;((with_reducible refine (NM.out).mono ?_);rintro e w3 ⟨rfl,hb3⟩;have HB3:=zA (show Below w1.heap.size w1 w3 from zI B2.out hb3);have X3:=zA (zH hb3 X2.out);obtain ⟨s0,s1⟩:=zBM X3.out;have sL:=X3.out.lt;obtain ⟨v0,v1,v2,v3⟩:=zY (zH HB3.out B1.out);have vL:=(zH HB3.out B1.out).lt;clear hb3))
     have hys:∀ y∈m.im.take k,0≤y.at_∧y.at_≤60:=fun y hy=>by have:=(HOI.out.1 y hy).2;omega
     have has:=zNp (some ad) k ic (m.im.take k) gx (zDM x) w3 (HSX.out.below HB3.out) (fun W hW y hy=>zNi x y gx W ⟨by omega,by omega⟩ (hys y hy) (Nat.lt_of_lt_of_le sL hW.size) ((zH hW X3.out).cell 1))
     obtain ⟨b,hany⟩:∃ b,((m.im.take k).any (zDM x))=b:=⟨_,rfl⟩
     rw [hany] at has
     have HAS:=zA has
     clear has t0 t1 tL NM hys
     cases b
     ·go_wp2_with (go_at_call 49;((with_reducible refine (HAS.out).mono ?_);rintro e w4 ⟨rfl,hb4⟩;have HB4:=zA (show Below w1.heap.size w1 w4 from zI HB3.out hb4);have X4:=zA (zH hb4 X3.out);obtain ⟨s0,s1⟩:=zBM X4.out;have sL:=X4.out.lt;obtain ⟨v0,v1,v2,v3⟩:=zY (zH HB4.out B1.out);have vL:=(zH HB4.out B1.out).lt;clear hb4))
      go_roundw
      case rel=>exact ⟨k+1,by omega,by go_num,zLM HOI.out HX.out hnm hany ⟨by omega,by omega⟩,HB4.out⟩
      case measure=>simp [intOf];omega
     ·have hno:¬ModOk zW m:=fun h=>zNc HX.out hany h
      go_wp2_with (go_at_call 49;((with_reducible refine (HAS.out).mono ?_);rintro e w4 ⟨rfl,hb4⟩;have HB4:=zA (show Below w1.heap.size w1 w4 from zI HB3.out hb4);have X4:=zA (zH hb4 X3.out);obtain ⟨s0,s1⟩:=zBM X4.out;have sL:=X4.out.lt;obtain ⟨v0,v1,v2,v3⟩:=zY (zH HB4.out B1.out);have vL:=(zH HB4.out B1.out).lt;clear hb4))
      go_ret
      exact ⟨8,rfl,⟨fun h=>absurd h (by decide),fun h=>absurd h hno⟩,zI H1W.out HB4.out⟩
    ·have q1:¬((k:Int) < jn):=by omega
     have HB2:=zA hb
     clear hb
     go_wp2
     go_ret
     have t1:=HOK.out
     have t2:=HOI.out
     unfold zH2 at t1
     unfold zHu at t2
     rw [List.take_of_length_le (by omega)] at t1 t2
     exact ⟨0,rfl,⟨fun _=>⟨by omega,by omega,by omega,by omega,all_num.1 hN1,all_num.1 hN2,t1.1,t1.2,t2.1,t2.2⟩,fun _=>rfl⟩,zI H1W.out HB2.out⟩
end Go.Proofs.YtlpejagkadalbaaGreatDoor
