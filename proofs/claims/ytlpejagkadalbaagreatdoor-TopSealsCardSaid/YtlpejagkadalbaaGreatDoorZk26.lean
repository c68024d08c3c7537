import Derived.Test.YtlpejagkadalbaaGreatDoorZk25
set_option maxHeartbeats 40000000
set_option maxRecDepth 100000
set_option linter.unusedVariables false
set_option linter.unusedSimpArgs false
namespace Go.Proofs.YtlpejagkadalbaaGreatDoor
section
open Go.RowKit
def zLh (base gs gm:Nat) (vm vs vo:Value) (m:MV) (W:World) (r:Ex InstV) (e:Ending) (w':World):Prop :=
 match r with
 | .ok i=>e=.returned (.tuple #[])∧MS base gm vm vs vo m w'∧Bk w' gs 190 (zS gm i)∧Fr (fun k=>k=gs) W w'
 | .error k=>e=.panicked (zAj k)∧MS base gm vm vs vo m w'∧Fr (fun k=>k=gs) W w'
theorem zFH {w:World} {gs gm:Nat} {i:InstV} (h:Bk w gs 190 (zS gm i)) (o a b c:Int) :
  Bk ((((w.setCell ⟨gs,1,none⟩ (.int .i64 o)).setCell ⟨gs,2,none⟩ (.int .i64 a)).setCell ⟨gs,3,none⟩ (.int .i64 b)).setCell ⟨gs,4,none⟩ (.int .i64 c)) gs 190 (zS gm ⟨o,a,b,c⟩) ∧
   Fr (fun k=>k=gs) w ((((w.setCell ⟨gs,1,none⟩ (.int .i64 o)).setCell ⟨gs,2,none⟩ (.int .i64 a)).setCell ⟨gs,3,none⟩ (.int .i64 b)).setCell ⟨gs,4,none⟩ (.int .i64 c)) :=
 ⟨zT (zT (zT (zT h rfl) rfl) rfl) rfl,Fr.setCells w (S:=fun k=>k=gs) rfl 1 [.int .i64 o,.int .i64 a,.int .i64 b,.int .i64 c]⟩
theorem zMB {base:Nat} {W:World} {gs gm:Nat} {i0:InstV} {m:MV} {vm vs vo:Value} (hs:Bk W gs 190 (zS gm i0)) (hm:MS base gm vm vs vo m W) (hc:m.c.wf) (hw:∀ v∈m.mem,v.wf) (ht:Tab W) :
  Calls Tryz.prog 92 #[.pointer (some ⟨gs,0,none⟩)] W (zLh base gs gm vm vs vo m W m.fetch):=by
 obtain ⟨ma,mc,rfl,hsl,_⟩:=hm.om.sl
 have hn:=hsl.max
 have s0:=hs.cell 0
 simp only [zS,List.getElem?_toArray,List.getElem?_cons_zero] at s0
 obtain ⟨m56,m57,m58,m59,m60,m61,m62,m63⟩:=zAx hm
 have sL:=hs.lt
 have mL:=hm.mB.lt
 have HS:=zA (fun W1 (h:Below W.heap.size W W1)=>(show W1.cell? ⟨gs,0,none⟩=some (.pointer (some ⟨gm,0,none⟩))∧W1.cell? ⟨gm,56,none⟩=some (.int .i64 m.c.perm)∧W1.cell? ⟨gm,57,none⟩=some (.int .i64 m.c.base)∧W1.cell? ⟨gm,58,none⟩=some (.int .i64 m.c.len)∧W1.cell? ⟨gm,59,none⟩=some (.int .i64 m.c.at_)∧W1.cell? ⟨gm,60,none⟩=some (.int .i64 m.c.seal_)∧W1.cell? ⟨gm,61,none⟩=some (.slice ma m.mem.length mc) from
  ⟨(zH h hs).cell 0,(zAx (hm.below h)).1,(zAx (hm.below h)).2.1,(zAx (hm.below h)).2.2.1,(zAx (hm.below h)).2.2.2.1,(zAx (hm.below h)).2.2.2.2.1,(zAx (hm.below h)).2.2.2.2.2.1⟩))
 have at0:=fun W1=>zGM ma m.mem.length mc m.c.perm m.c.base m.c.len m.c.at_ m.c.seal_ 0 4 hc (by constructor<;>decide) hn W1
 have av:=fun h=>zEM (n:=m.mem.length) (k:=m.c) (off:=0) (p:=4) h
 have hfe:m.fetch=(if (atF m.mem.length m.c 0 4).2≠0 then .error (atF m.mem.length m.c 0 4).2 else if (m.mem.getD (atF m.mem.length m.c 0 4).1.toNat zeroV).is then .error 5 else if zAE (zAp (m.mem.getD (atF m.mem.length m.c 0 4).1.toNat zeroV).n) then .ok (zAp (m.mem.getD (atF m.mem.length m.c 0 4).1.toNat zeroV).n) else .error 5):=rfl
 have hcx:(⟨m.c.perm,m.c.base,m.c.len,m.c.at_,m.c.seal_⟩:KeyV)=m.c:=rfl
 rw [hcx] at at0
 generalize atF m.mem.length m.c 0 4=r at *
 obtain ⟨at1,er⟩:=r
 simp only at at0 av hfe
 have AT:=zA at0
 have HM:=zA hm
 have HSB:=zA hs
 by_cases he:er=0
 ·subst he
  rw [if_neg (by simp)] at hfe
  obtain ⟨v1,v2,v3⟩:=av rfl
  rw [←v1] at v2 v3
  obtain ⟨j,rfl⟩:=Int.eq_ofNat_of_zero_le v2
  rw [Int.toNat_natCast] at hfe
  have hj:j < m.mem.length:=by omega
  have hx:m.mem[j]?=some (m.mem.getD j zeroV):=by rw [List.getD_eq_getElem?_getD,List.getElem?_eq_getElem hj];rfl
  have hxw:=hw _ (List.mem_of_getElem? hx)
  have VC:=fun W1 (h:Below W.heap.size W W1)=>zKr ((hm.below h).om) hx
  generalize m.mem.getD j zeroV=x at *
  obtain ⟨xi,xn,xk⟩:=x
  simp only at hfe
  have q1:(0:Int)≤(j:Int):=by omega
  have q2:(j:Int) < (m.mem.length:Int):=by omega
  have hn':m.mem.length≤9223372036854775807:=hn
  obtain ⟨g,eg,_,_,_,_,_⟩:=VC W (Below.refl _ _)
  subst eg
  have VC1:=zA (show ∀ W1,Below W.heap.size W W1→g < W1.heap.size∧W1.cell? ⟨g,j*7,none⟩=some (.bool xi)∧W1.cell? ⟨g,j*7+1,none⟩=some (.int .i64 xn) from fun W1 h=>by
   obtain ⟨g',e,_,_,hg2,_,hcc⟩:=VC W1 h
   injection e with e
   injection e with e _ _
   subst e
   exact ⟨hg2,hcc 0 _ rfl,hcc 1 _ rfl⟩)
  cases xi
  ·simp only [Bool.false_eq_true,if_false] at hfe
   have ir:=fun W1 (h:Below W.heap.size W W1)=>zLF xn hxw.n W1 (ht.below h)
   cases hk:zAE (zAp xn)
   ·rw [hk] at hfe ir
    simp only [Bool.false_eq_true,if_false] at hfe ir
    have IR:=zA ir
    have HFE:=zA hfe
    clear hs hm ht hsl at0 av hfe ir hw VC hx hxw v1 v2 v3 hk
    go_enter Tryz.func92,Tryz.ntmps92
    go_upto_region 0 with (fail)
    go_region_held3 (fun W1:World=>W1.cell? ⟨gs,0,none⟩=some (.pointer (some ⟨gm,0,none⟩))∧W1.cell? ⟨gm,56,none⟩=some (.int .i64 m.c.perm)∧W1.cell? ⟨gm,57,none⟩=some (.int .i64 m.c.base)∧W1.cell? ⟨gm,58,none⟩=some (.int .i64 m.c.len)∧W1.cell? ⟨gm,59,none⟩=some (.int .i64 m.c.at_)∧W1.cell? ⟨gm,60,none⟩=some (.int .i64 m.c.seal_)∧W1.cell? ⟨gm,61,none⟩=some (.slice (some ⟨g,0,none⟩) m.mem.length mc)) (first | exact HS.out _ (zJ (Below.refl _ _)) | exact HS2.out) (first
     | (go_at_call 106;((with_reducible refine (AT.out _).mono ?_);rintro e w2 ⟨rfl,hb2⟩;have HB2:=zA (show Below W.heap.size W w2 from zI (zJ (Below.refl _ _)) hb2);have HS2:=zA (HS.out _ HB2.out);clear hb2)))
    obtain ⟨r0,r1,r2,r3,r4,r5,r6⟩:=HS2.out
    obtain ⟨gL,d0,d1⟩:=VC1.out _ HB2.out
    have rL:=Nat.lt_of_lt_of_le sL HB2.out.size
    have rM:=Nat.lt_of_lt_of_le mL HB2.out.size
    clear s0 m56 m57 m58 m59 m60 m61 m62 m63
    go_wp2_with (first
     | (go_at_call 107;((with_reducible refine (zCv _).mono ?_);rintro e w' ⟨rfl,rfl⟩))
     | (go_at_call 108;((with_reducible refine (IR.out _ HB2.out).mono ?_);rintro e w3 ⟨rfl,hb3⟩;have HB3:=zA (zI HB2.out hb3);have hs3:=zH HB3.out HSB.out;obtain ⟨y0,y1,y2,y3,y4⟩:=zR hs3;have yF:=fun j=>hs3.frozen j;have yL:=hs3.lt;have HS3:=zA hs3;clear hb3 hs3))
     | (go_at_call 107;((with_reducible refine (zAv 5 (by decide) _).mono ?_);rintro e w' ⟨rfl,rfl⟩)))
    rw [HFE.out]
    have hst:=zFH HS3.out 0 0 0 0
    have hmw:=(HM.out.below HB3.out)
    have hnt:=hmw.not HS3.out (by decide) (by decide) (by decide) (by decide)
    exact ⟨rfl,rfl,hmw.fr hst.2 (fun k hk h=>hnt (h▸hk)),(Fr.of HB3.out).trans hst.2 (fun _ _ h=>h)⟩
   ·rw [hk] at hfe ir
    simp only [if_true] at hfe ir
    have IR:=zA ir
    have HFE:=zA hfe
    clear hs hm ht hsl at0 av hfe ir hw VC hx hxw v1 v2 v3 hk
    go_enter Tryz.func92,Tryz.ntmps92
    go_upto_region 0 with (fail)
    go_region_held3 (fun W1:World=>W1.cell? ⟨gs,0,none⟩=some (.pointer (some ⟨gm,0,none⟩))∧W1.cell? ⟨gm,56,none⟩=some (.int .i64 m.c.perm)∧W1.cell? ⟨gm,57,none⟩=some (.int .i64 m.c.base)∧W1.cell? ⟨gm,58,none⟩=some (.int .i64 m.c.len)∧W1.cell? ⟨gm,59,none⟩=some (.int .i64 m.c.at_)∧W1.cell? ⟨gm,60,none⟩=some (.int .i64 m.c.seal_)∧W1.cell? ⟨gm,61,none⟩=some (.slice (some ⟨g,0,none⟩) m.mem.length mc)) (first | exact HS.out _ (zJ (Below.refl _ _)) | exact HS2.out) (first
     | (go_at_call 106;((with_reducible refine (AT.out _).mono ?_);rintro e w2 ⟨rfl,hb2⟩;have HB2:=zA (show Below W.heap.size W w2 from zI (zJ (Below.refl _ _)) hb2);have HS2:=zA (HS.out _ HB2.out);clear hb2)))
    obtain ⟨r0,r1,r2,r3,r4,r5,r6⟩:=HS2.out
    obtain ⟨gL,d0,d1⟩:=VC1.out _ HB2.out
    have rL:=Nat.lt_of_lt_of_le sL HB2.out.size
    have rM:=Nat.lt_of_lt_of_le mL HB2.out.size
    clear s0 m56 m57 m58 m59 m60 m61 m62 m63
    go_wp2_with (first
     | (go_at_call 107;((with_reducible refine (zCv _).mono ?_);rintro e w' ⟨rfl,rfl⟩))
     | (go_at_call 108;((with_reducible refine (IR.out _ HB2.out).mono ?_);rintro e w3 ⟨rfl,hb3⟩;have HB3:=zA (zI HB2.out hb3);have hs3:=zH HB3.out HSB.out;obtain ⟨y0,y1,y2,y3,y4⟩:=zR hs3;have yF:=fun j=>hs3.frozen j;have yL:=hs3.lt;have HS3:=zA hs3;clear hb3 hs3)))
    go_end0
    rw [HFE.out]
    have hst:=zFH HS3.out (zAp xn).op (zAp xn).a (zAp xn).b (zAp xn).c
    have hmw:=(HM.out.below HB3.out)
    have hnt:=hmw.not HS3.out (by decide) (by decide) (by decide) (by decide)
    exact ⟨rfl,hmw.fr hst.2 (fun k hk h=>hnt (h▸hk)),hst.1,(Fr.of HB3.out).trans hst.2 (fun _ _ h=>h)⟩
  ·simp only [if_true] at hfe
   have HFE:=zA hfe
   clear hs hm ht hsl at0 av hfe hw VC hx hxw v1 v2 v3
   go_enter Tryz.func92,Tryz.ntmps92
   go_upto_region 0 with (fail)
   go_region_held3 (fun W1:World=>W1.cell? ⟨gs,0,none⟩=some (.pointer (some ⟨gm,0,none⟩))∧W1.cell? ⟨gm,56,none⟩=some (.int .i64 m.c.perm)∧W1.cell? ⟨gm,57,none⟩=some (.int .i64 m.c.base)∧W1.cell? ⟨gm,58,none⟩=some (.int .i64 m.c.len)∧W1.cell? ⟨gm,59,none⟩=some (.int .i64 m.c.at_)∧W1.cell? ⟨gm,60,none⟩=some (.int .i64 m.c.seal_)∧W1.cell? ⟨gm,61,none⟩=some (.slice (some ⟨g,0,none⟩) m.mem.length mc)) (first | exact HS.out _ (zJ (Below.refl _ _)) | exact HS2.out) (first
    | (go_at_call 106;((with_reducible refine (AT.out _).mono ?_);rintro e w2 ⟨rfl,hb2⟩;have HB2:=zA (show Below W.heap.size W w2 from zI (zJ (Below.refl _ _)) hb2);have HS2:=zA (HS.out _ HB2.out);clear hb2)))
   obtain ⟨r0,r1,r2,r3,r4,r5,r6⟩:=HS2.out
   obtain ⟨gL,d0,d1⟩:=VC1.out _ HB2.out
   have rL:=Nat.lt_of_lt_of_le sL HB2.out.size
   have rM:=Nat.lt_of_lt_of_le mL HB2.out.size
   clear s0 m56 m57 m58 m59 m60 m61 m62 m63
   go_wp2_with (first
    | (go_at_call 107;((with_reducible refine (zCv _).mono ?_);rintro e w' ⟨rfl,rfl⟩))
    | (go_at_call 107;((with_reducible refine (zAv 5 (by decide) _).mono ?_);rintro e w' ⟨rfl,rfl⟩)))
   rw [HFE.out]
   exact ⟨rfl,rfl,HM.out.below HB2.out,Fr.of HB2.out⟩
 ·rw [if_pos he] at hfe
  have MB:=zA (fun W=>zAv er he W)
  have HFE:=zA hfe
  clear hs hm ht hsl at0 av hfe hw
  go_enter Tryz.func92,Tryz.ntmps92
  go_upto_region 0 with (fail)
  go_region_held3 (fun W1:World=>W1.cell? ⟨gs,0,none⟩=some (.pointer (some ⟨gm,0,none⟩))∧W1.cell? ⟨gm,56,none⟩=some (.int .i64 m.c.perm)∧W1.cell? ⟨gm,57,none⟩=some (.int .i64 m.c.base)∧W1.cell? ⟨gm,58,none⟩=some (.int .i64 m.c.len)∧W1.cell? ⟨gm,59,none⟩=some (.int .i64 m.c.at_)∧W1.cell? ⟨gm,60,none⟩=some (.int .i64 m.c.seal_)∧W1.cell? ⟨gm,61,none⟩=some (.slice ma m.mem.length mc)) (first | exact HS.out _ (zJ (Below.refl _ _)) | exact HS2.out) (first
   | (go_at_call 106;((with_reducible refine (AT.out _).mono ?_);rintro e w2 ⟨rfl,hb2⟩;have HB2:=zA (show Below W.heap.size W w2 from zI (zJ (Below.refl _ _)) hb2);have HS2:=zA (HS.out _ HB2.out);clear hb2)))
  go_wp2_with (go_at_call 107;((with_reducible refine (MB.out _).mono ?_);rintro e w' ⟨rfl,rfl⟩))
  rw [HFE.out]
  exact ⟨rfl,rfl,HM.out.below HB2.out,Fr.of HB2.out⟩
end
section
open Go.RowKit
section
variable {base gs gm:Nat} {vm vs vo:Value} {m:MV} {W:World} {i:InstV}
theorem zLY (hs:Bk W gs 190 (zS gm i)) (hm:MS base gm vm vs vo m W) (hi:zAE i=true) (hbs:base≤W.heap.size) (hC:m.c.Ok) (h16:m.stk.length≤16) :
  Calls Tryz.prog 111 #[.pointer (some ⟨gs,0,none⟩)] W (StepPost base gm vm vs vo m W (m.call i)):=by
 obtain ⟨a,b,hn⟩:=zEH hi
 unfold MV.call
 rw [hn.eb,hn.ea]
 rcases zCw m a with ⟨h1,e1⟩ | ⟨h1,e1⟩
 ·rw [e1,eb1]
  exact (zLb hs hm a b hn.ea hn.eb hn.a8 hn.b8 h1).mono fun e w' h=>h.step hm
 ·rw [e1,eb2]
  rcases zCw m b with ⟨h2,e2⟩ | ⟨h2,e2⟩
  ·rw [e2,eb1]
   exact (zLa hs hm a b hn.ea hn.eb hn.a8 hn.b8 h1 h2).mono fun e w' h=>h.step hm
  ·rw [e2,eb2]
   exact zLZ hs hm a b hn.ea hn.eb hn.a8 hn.b8 h1 h2 hbs hC h16
theorem zJf (hs:Bk W gs 190 (zS gm i)) (hm:MS base gm vm vs vo m W) (hR:∀ v∈m.R,v.wf) (hi:zAE i=true) (hbs:base≤W.heap.size) (h100:m.out.length≤100)
  (ho:¬(i.op=0∨i.op=8∨i.op=9∨i.op=18∨i.op=19)) :
  Calls Tryz.prog 113 #[.pointer (some ⟨gs,0,none⟩)] W (StepPost base gm vm vs vo m W (m.plain i)):=by
 obtain ⟨a,b,hn⟩:=zEH hi
 have hop:0≤i.op∧i.op < 23:=by
  obtain ⟨op,a',b',c'⟩:=i
  obtain ⟨o0,o1,_⟩:=zCU hi
  exact ⟨o0,o1⟩
 unfold MV.plain
 by_cases o1:i.op=1
 ·rw [if_pos o1,hn.ea];exact zKk hs hm o1 a hn.ea hn.a8
 rw [if_neg o1]
 by_cases o2:i.op=2
 ·rw [if_pos o2,hn.ea,hn.eb];exact zJi hs hm o2 a b hn.ea hn.eb hn.a8 hn.b8
 rw [if_neg o2]
 by_cases o3:i.op=3∨i.op=4∨i.op=5∨i.op=7∨i.op=6
 ·rw [if_pos o3]
  have hn':=fun W1 (h:Below W.heap.size W W1)=>zHh (zH h hs) (hm.below h) hi (by omega)
  unfold zJl at hn'
  rcases o3 with h | h | h | h | h
  ·exact zKo hs hm h (fun W1 hb=>by have:=hn' W1 hb;rw [h] at this;exact this)
  ·exact zKj hs hm h (fun W1 hb=>by have:=hn' W1 hb;rw [h] at this;exact this)
  ·exact zKl hs hm h (fun W1 hb=>by have:=hn' W1 hb;rw [h] at this;exact this)
  ·exact zJg hs hm h (fun W1 hb=>by have:=hn' W1 hb;rw [h] at this;exact this)
  ·exact zKm hs hm h (fun W1 hb=>by have:=hn' W1 hb;rw [h] at this;exact this)
 rw [if_neg o3]
 by_cases o4:i.op=17
 ·rw [if_pos o4];exact zKn hs hm o4 (fun W1 hb=>zMx (zH hb hs) (hm.below hb) hi o4)
 rw [if_neg o4]
 by_cases o5:i.op=20
 ·rw [if_pos o5,hn.ea];exact zJh hs hm o5 a hn.ea hn.a8
 rw [if_neg o5]
 by_cases o6:i.op=21
 ·rw [if_pos o6]
  have hc:=zHt hi
  rw [o6] at hc
  exact zIf hs hm o6 hc.1 hc.2
 rw [if_neg o6]
 by_cases o7:i.op=22
 ·rw [if_pos o7]
  unfold MV.tell
  rw [hn.ea]
  rcases zCu m a with ⟨h1,e1⟩ | ⟨h1,e1⟩
  ·rw [e1,eb1];exact (zGJ hs hm o7 a hn.ea hn.a8 h1).mono fun e w' h=>h.step hm
  ·rw [e1,eb2]
   by_cases hl:m.out.length=100
   ·rw [if_pos hl];exact (zFw hs hm o7 a hn.ea hn.a8 h1 hl).mono fun e w' h=>h.step hm
   ·rw [if_neg hl];exact zHD hs hm hbs o7 a hn.ea hn.a8 h1 hl h100
 rw [if_neg o7]
 have hk:=fun W1 (h:Below W.heap.size W W1)=>zKD (zH h hs) (hm.below h) hR hi (by omega)
 rcases (show i.op=10∨i.op=11∨i.op=12∨i.op=13∨i.op=14∨i.op=15∨i.op=16 by omega) with h | h | h | h | h | h | h
 ·exact zIe hs hm h hk
 ·exact zId hs hm h hk
 ·exact zIc hs hm h hk
 ·exact zIb hs hm h hk
 ·exact zIa hs hm h hk
 ·exact zIZ hs hm h hk
 ·exact zIY hs hm h hk
theorem zME {m m':MV} {i:InstV} (ho:¬(i.op=0∨i.op=8∨i.op=9∨i.op=18∨i.op=19)) (h:m.plain i=.ok m'):m'.c.at_=m.c.at_:=by
 have hs:=zFI ho h
 generalize hm2:m'.fwd 1=m2 at hs
 have hat:=congrArg (fun q:MV=>q.c.at_) hm2
 simp only [MV.fwd] at hat
 cases hs with
 | set _=>simp only [MV.set,MV.fwd] at hat;omega
 | store _ _ _=>simp only [MV.fwd] at hat;omega
 | clear _=>simp only [MV.fwd] at hat;omega
 | tell _ _ _=>simp only [MV.fwd] at hat;omega
 | jump h _=>omega
 | ifn h _ _ _=>omega
 | call h _ _ _ _ _ _ _=>omega
 | back h _=>omega
theorem zNw (hs:Bk W gs 190 (zS gm i)) (hm:MS base gm vm vs vo m W) (hok:m.Ok) (hi:zAE i=true) (hbs:base≤W.heap.size) :
  Calls Tryz.prog 93 #[.pointer (some ⟨gs,0,none⟩)] W (StepPost base gm vm vs vo m W (m.exec i)):=by
 obtain ⟨a,b,hn⟩:=zEH hi
 have hC:=hok.1.code
 have hci:=zJP hi
 unfold MV.exec
 by_cases o1:i.op=0
 ·rw [if_pos o1];exact zNy hs hm o1
 rw [if_neg o1]
 by_cases o2:i.op=8
 ·rw [if_pos o2];exact zNx hs hm o2 (fun W1 hb=>zE1 (zH hb hs) (hm.below hb) hC _ hci.1 hci.2)
 rw [if_neg o2]
 by_cases o3:i.op=9
 ·rw [if_pos o3,hn.ea]
  rcases zCu m a with ⟨h1,e1⟩ | ⟨h1,e1⟩
  ·rw [e1,eb1];exact zLU hs hm o3 a hn.ea hn.a8 h1
  ·rw [e1,eb2]
   by_cases hz:(m.reg a).n=0
   ·rw [if_neg (by simp [hz])]
    exact zMp hs hm o3 a hn.ea hn.a8 h1 (by simp [hz]) (fun W1 hb=>zE1 (zH hb hs) (hm.below hb) hC _ (by decide) (by decide))
   ·rw [if_pos hz]
    exact zLT hs hm o3 a hn.ea hn.a8 h1 (by simp [hz]) (fun W1 hb=>zE1 (zH hb hs) (hm.below hb) hC _ hci.1 hci.2)
 rw [if_neg o3]
 by_cases o4:i.op=18
 ·rw [if_pos o4];exact zNz hs hm o4 (fun W1 hb=>zLY (zH hb hs) (hm.below hb) hi (Nat.le_trans hbs hb.size) hC hok.1.deep)
 rw [if_neg o4]
 by_cases o5:i.op=19
 ·rw [if_pos o5];exact zN0 hs hm o5 (fun W1 hb=>zLd (zH hb hs) (hm.below hb) hok.1.deep)
 rw [if_neg o5]
 have ho:¬(i.op=0∨i.op=8∨i.op=9∨i.op=18∨i.op=19):=by omega
 exact zMo hs hm (by simpa using o1) (by simpa using o2) (by simpa using o3) (by simpa using o4) (by simpa using o5)
  (fun m' h=>by rw [zME ho h];exact ⟨hC.a0,hC.a1⟩)
  (fun W1 hb=>zJf (zH hb hs) (hm.below hb) (fun v hv=>(hok.1.regs v hv).wf) hi (Nat.le_trans hbs hb.size) hok.1.told ho)
end
end
section
open Go.RowKit
theorem zKC (p:Addr) (w:World) :
  CallsD Tryz.prog 91 #[.pointer (some p)] .returning w fun e u' w'=>e=.returned (.tuple #[])∧u'=.returning∧w'=w:=by
 have hnil:∀ w:World,(binOp BinOp.eql 20 .nilIface .nilIface).run Tryz.prog w=.ok (.bool true) w:=fun _=>by kernel_rfl
 refine callsD_of_wpS Tryz.func91 rfl fun c₀ cs hu=>?_
 apply wpS_seq
 apply wpS_region
 simp [wpOpsS,go_sem,recoverD,hu,Tryz.ntmps91,Exit.thenS]
 refine wpS_of_wp ?_
 go_wp2
 cases c₀
 simp_all [bodyPostS,results,Tryz.results91]
theorem zFU (ge:Nat) (x k:Int) (w:World) (hB:Bk w ge 29 #[.int .i64 x]) :
  CallsD Tryz.prog 91 #[.pointer (some ⟨ge,0,none⟩)] (.panicking (zAj k)) w fun e u' w' =>
   e=.returned (.tuple #[])∧u'=.panicking [{v:=.iface 187 (.agg #[.int .i64 k]),recovered:=true}]∧w'=(w.setCell ⟨ge,0,none⟩ (.int .i64 k)).alloc (.cells #[.int .i64 k] 187):=by
 have hc:=hB.cell 0
 simp only [List.getElem?_toArray,List.getElem?_cons_zero] at hc
 have hz:=fun j=>hB.frozen j
 have hl:=hB.lt
 clear hB
 have hnil:∀ w:World,(binOp BinOp.eql 20 (.iface 187 (.agg #[.int .i64 k])) .nilIface).run Tryz.prog w=.ok (.bool false) w:=fun _=>by kernel_rfl
 have hta:∀ w:World,(Instr.typeAssert (.iface 187 (.agg #[.int .i64 k])) 20 187 true).run Tryz.prog w=.ok (.tuple #[.agg #[.int .i64 k],.bool true]) w:=fun _=>by kernel_rfl
 refine callsD_of_wpS Tryz.func91 rfl fun c₀ cs hu=>?_
 apply wpS_seq
 apply wpS_region
 simp [wpOpsS,go_sem,recoverD,hu,Tryz.ntmps91,Exit.thenS,zAj]
 refine wpS_of_wp ?_
 go_wp2
 cases c₀
 simp_all [bodyPostS,results,Tryz.results91]
end
section
open Go.RowKit
def OnePost (base gm:Nat) (vm vs vo:Value) (m:MV) (W:World) (e:Ending) (w':World):Prop :=
 e=.returned (.int .i64 m.err)∧∃ vs' vo',MS base gm vm vs' vo' m.after w'∧Fr (mS gm vm vs vo) W w'∧NewB vs vs' W∧NewB vo vo' W
theorem zGK {base gm ge:Nat} {vm vs vo vs' vo':Value} {m m':MV} {W w3:World} (hge:W.heap.size≤ge) (hB:Bk w3 ge 29 #[.int .i64 0]) (hm:MS base gm vm vs' vo' m' w3) (hf:Fr (mS gm vm vs vo) W w3) (h1:NewB vs vs' W) (h2:NewB vo vo' W) (k:Int) (he:m.err=k) (ha:m.after=m') :
  OnePost base gm vm vs vo m W (.returned (.int .i64 k)) (w3.setCell ⟨ge,0,none⟩ (.int .i64 k)):=by
 have hn:=hm.not hB (by decide) (by decide) (by decide) (by decide)
 have hfr:Fr (fun j=>j=ge) w3 (w3.setCell ⟨ge,0,none⟩ (.int .i64 k)):=Fr.setCell w3 (p:=⟨ge,0,none⟩) (S:=fun j=>j=ge) rfl _
 exact ⟨by rw [he],vs',vo',by rw [ha];exact hm.fr hfr (fun j hj h=>hn (h▸hj)),hf.trans hfr (fun j hj h=>by omega),h1,h2⟩
theorem OnePost.alloc {base gm:Nat} {vm vs vo:Value} {m:MV} {W w:World} {e:Ending} (h:OnePost base gm vm vs vo m W e w) (o:Obj):OnePost base gm vm vs vo m W e (w.alloc o):=by
 obtain ⟨h1,vs',vo',h2,h3,h4,h5⟩:=h
 exact ⟨h1,vs',vo',h2.below (zG (Below.refl _ _) o),h3.trans (Fr.alloc (mS gm vm vs vo) _ o) (fun _ _ h=>h),h4,h5⟩
theorem zNZ {base:Nat} {W:World} {gm:Nat} {m:MV} {vm vs vo:Value} (hm:MS base gm vm vs vo m W) (hok:m.Ok) (ht:Tab W) (hbs:base≤W.heap.size) :
  Calls Tryz.prog 71 #[.pointer (some ⟨gm,0,none⟩)] W (OnePost base gm vm vs vo m W):=by
 have hmf:∀ (fn:Fn) (first cap:Array Value) (w:World),(Instr.makeFunc fn first cap).run Tryz.prog w=.ok (.func fn first cap) w:=fun _ _ _ _=>rfl
 obtain ⟨w1,hw1⟩:∃ w1,w1=(W.alloc (.cells #[.int .i64 0] 29)).alloc (.cells (zS gm ⟨0,0,0,0⟩) 190):=⟨_,rfl⟩
 have h1:Below W.heap.size W w1:=by rw [hw1];exact zG (zG (Below.refl _ _) _) _
 have kE:Bk w1 W.heap.size 29 #[.int .i64 0]:=by rw [hw1];exact zN _ (zM _ _ _)
 have kS:Bk w1 (W.heap.size+1) 190 (zS gm ⟨0,0,0,0⟩):=by rw [hw1];exact zO _ _ (by simp)
 have hm1:=hm.below h1
 have hz1:w1.heap.size=W.heap.size+2:=by rw [hw1];simp
 have rd:=zMB kS hm1 hok.1.code.wf (fun v hv=>(hok.1.mem v hv).wf) (ht.below h1)
 have hE1:m.one=(m.fetch >>= m.exec):=rfl
 have HW1:=zA hw1
 have HM1:=zA hm1
 have KE:=zA kE
 have KS:=zA kS
 have H1:=zA h1
 have hge1:W.heap.size < w1.heap.size:=by omega
 unfold zS at hw1
 have HW1':=zA hw1
 clear hw1
 cases hfe:m.fetch with
 | error k =>
  rw [hfe] at rd hE1
  have he:m.err=k:=by unfold MV.err;rw [hE1];rfl
  have ha:m.after=m:=by unfold MV.after;rw [hE1];rfl
  have RD:=zA rd
  have HE:=zA he
  have HA:=zA ha
  clear hm hok ht hm1 rd h1 kE kS hfe hE1 he ha
  go_enter_defers Tryz.func71,Tryz.ntmps71
  go_upto_region 3 with (fail)
  rw [←HW1'.out]
  go_wp2_with (go_at_call 92;((with_reducible refine RD.out.mono ?_);rintro e w2 ⟨rfl,hm2,hf2⟩))
  have kE2:Bk w2 W.heap.size 29 #[.int .i64 0]:=hf2.bk KE.out (by omega)
  have hfW:Fr (mS gm vm vs vo) W w2:=(Fr.of H1.out).trans hf2 (fun j hj h=>by omega)
  have hfin:=(zGK (Nat.le_refl _) kE2 hm2 hfW (NewB.refl vs W) (NewB.refl vo W) k HE.out HA.out).alloc (.cells #[.int .i64 k] 187)
  have HF:=zA hfin
  have e0:=kE2.cell 0
  have eL:=kE2.lt
  simp only [List.getElem?_toArray,List.getElem?_cons_zero] at e0
  clear hfin hm2 hf2 hfW
  refine leaves_cons (f:=91) (args:=#[.pointer (some ⟨W.heap.size,0,none⟩)]) (by simp) (by simp [go_sem]) ?_
  refine (zFU W.heap.size 0 k _ kE2).mono ?_
  rintro e u' w'' ⟨rfl,rfl,rfl⟩
  clear kE2
  simp [Leaves,settle,results,Tryz.results71,go_sem,e0,eL]
  exact HF.out
 | ok i =>
  rw [hfe] at rd hE1
  have hE2:m.one=m.exec i:=hE1
  have hi:=(zFP hfe).2.2.2.2.2.2.2.2.2.2
  have ds:=fun (w2:World) (hs2:Bk w2 (W.heap.size+1) 190 (zS gm i)) (hm2:MS base gm vm vs vo m w2) (hb2:base≤w2.heap.size)=>zNw hs2 hm2 hok hi hb2
  cases hex:m.exec i with
  | error k =>
   rw [hex] at hE2 ds
   have he:m.err=k:=by unfold MV.err;rw [hE2]
   have ha:m.after=m:=by unfold MV.after;rw [hE2]
   have RD:=zA rd
   have DS:=zA ds
   have HE:=zA he
   have HA:=zA ha
   clear hm hok ht hm1 rd h1 kE kS hfe hE1 hE2 he ha ds hi hex
   go_enter_defers Tryz.func71,Tryz.ntmps71
   go_upto_region 3 with (fail)
   rw [←HW1'.out]
   go_wp2_with (first
    | (go_at_call 92;((with_reducible refine RD.out.mono ?_);rintro e w2 ⟨rfl,hm2,hs2,hf2⟩;have HS2:=zA hs2;have HM2:=zA hm2;have HF2:=zA hf2;have HZ2:=zA (show base≤w2.heap.size by have:=hf2.size;omega);clear hs2 hm2 hf2))
    | (go_at_call 93;((with_reducible refine (DS.out _ HS2.out HM2.out HZ2.out).mono ?_);rintro e w3 ⟨rfl,hm3,hf3⟩)))
   have kE2:Bk w2 W.heap.size 29 #[.int .i64 0]:=HF2.out.bk KE.out (by omega)
   have kE3:Bk w3 W.heap.size 29 #[.int .i64 0]:=hf3.bk kE2 (HM2.out.not kE2 (by decide) (by decide) (by decide) (by decide))
   have hfW:Fr (mS gm vm vs vo) W w3:=((Fr.of H1.out).trans HF2.out (fun j hj h=>by omega)).trans hf3 (fun _ _ h=>h)
   have hfin:=(zGK (Nat.le_refl _) kE3 hm3 hfW (NewB.refl vs W) (NewB.refl vo W) k HE.out HA.out).alloc (.cells #[.int .i64 k] 187)
   have HF:=zA hfin
   have e0:=kE3.cell 0
   have eL:=kE3.lt
   simp only [List.getElem?_toArray,List.getElem?_cons_zero] at e0
   clear hfin hm3 hf3 hfW kE2
   refine leaves_cons (f:=91) (args:=#[.pointer (some ⟨W.heap.size,0,none⟩)]) (by simp) (by simp [go_sem]) ?_
   refine (zFU W.heap.size 0 k _ kE3).mono ?_
   rintro e u' w'' ⟨rfl,rfl,rfl⟩
   clear kE3
   simp [Leaves,settle,results,Tryz.results71,go_sem,e0,eL]
   exact HF.out
  | ok m' =>
   rw [hex] at hE2 ds
   have he:m.err=0:=by unfold MV.err;rw [hE2]
   have ha:m.after=m':=by unfold MV.after;rw [hE2]
   have RD:=zA rd
   have DS:=zA ds
   have HE:=zA he
   have HA:=zA ha
   clear hm hok ht hm1 rd h1 kE kS hfe hE1 hE2 he ha ds hi hex
   go_enter_defers Tryz.func71,Tryz.ntmps71
   go_upto_region 3 with (fail)
   rw [←HW1'.out]
   go_upto_region 5 with (first
    | (go_at_call 92;((with_reducible refine RD.out.mono ?_);rintro e w2 ⟨rfl,hm2,hs2,hf2⟩;have HS2:=zA hs2;have HM2:=zA hm2;have HF2:=zA hf2;have HZ2:=zA (show base≤w2.heap.size by have:=hf2.size;omega);clear hs2 hm2 hf2))
    | (go_at_call 93;((with_reducible refine (DS.out _ HS2.out HM2.out HZ2.out).mono ?_);rintro e w3 ⟨rfl,vs',vo',hm3,hf3,hn1,hn2⟩)))
   have hz2:=HF2.out.size
   have kE2:Bk w2 W.heap.size 29 #[.int .i64 0]:=HF2.out.bk KE.out (by omega)
   have kE3:Bk w3 W.heap.size 29 #[.int .i64 0]:=hf3.bk kE2 (HM2.out.not kE2 (by decide) (by decide) (by decide) (by decide))
   have hfW:Fr (mS gm vm vs vo) W w3:=((Fr.of H1.out).trans HF2.out (fun j hj h=>by omega)).trans hf3 (fun _ _ h=>h)
   have hfin:=zGK (Nat.le_refl _) kE3 hm3 hfW (show NewB vs vs' W from fun j hj=>(hn1 j hj).imp id (fun h=>by omega)) (show NewB vo vo' W from fun j hj=>(hn2 j hj).imp id (fun h=>by omega)) 0 HE.out HA.out
   have HF:=zA hfin
   have e0:=kE3.cell 0
   have eL:=kE3.lt
   have eF:=fun j=>kE3.frozen j
   simp only [List.getElem?_toArray,List.getElem?_cons_zero] at e0
   clear hfin hm3 hf3 hfW kE2 kE3 hn1 hn2
   go_wp2
   refine leaves_cons (f:=91) (args:=#[.pointer (some ⟨W.heap.size,0,none⟩)]) (by simp) (by simp [go_sem]) ?_
   refine (zKC ⟨W.heap.size,0,none⟩ _).mono ?_
   rintro e u' w'' ⟨rfl,rfl,rfl⟩
   first
    | (simp [Leaves,settle,results,Tryz.results71,go_sem,e0,eL];exact HF.out)
    | exact ⟨_,results_tmp rfl _ _ _,rfl,rfl⟩
end
end Go.Proofs.YtlpejagkadalbaaGreatDoor
