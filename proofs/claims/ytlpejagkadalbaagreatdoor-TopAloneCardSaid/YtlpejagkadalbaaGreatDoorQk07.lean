import Derived.Test.YtlpejagkadalbaaGreatDoorQk06
set_option maxHeartbeats 40000000
set_option maxRecDepth 100000
set_option linter.unusedVariables false
set_option linter.unusedSimpArgs false
namespace Go.Proofs.YtlpejagkadalbaaGreatDoor
section
open Go.RowKit
end
section
open Go.RowKit
theorem zDE {W w1:World} (hb:Below W.heap.size W w1):(∀ b o,b < W.heap.size→w1.cell? ⟨b,o,none⟩=W.cell? ⟨b,o,none⟩)∧(∀ b o,b < W.heap.size→w1.frozen? ⟨b,o,none⟩=W.frozen? ⟨b,o,none⟩)∧(∀ n,n < W.heap.size→n < w1.heap.size) :=
 ⟨fun b o h=>hb.cell (p:=⟨b,o,none⟩) h,fun b o h=>hb.frozen (p:=⟨b,o,none⟩) h,fun n h=>Nat.lt_of_lt_of_le h hb.size⟩
theorem zCs {W w1:World} {g:Nat} {v0 v1 v2 v3 v4:Value} {T:TypeId} (hb:Below W.heap.size W w1) (h:W.heap[g]?=some (.cells #[v0,v1,v2,v3,v4] T (0,0))) :
  w1.cell? ⟨g,0,none⟩=some v0∧w1.cell? ⟨g,1,none⟩=some v1∧w1.cell? ⟨g,2,none⟩=some v2∧w1.cell? ⟨g,3,none⟩=some v3∧w1.cell? ⟨g,4,none⟩=some v4:=by
 have hg:g < W.heap.size:=by
  rcases Nat.lt_or_ge g W.heap.size with hlt | hge
  ·exact hlt
  ·rw [Array.getElem?_eq_none hge] at h;cases h
 have h1:w1.heap[g]?=some (.cells #[v0,v1,v2,v3,v4] T (0,0)):=(hb.block g hg).trans h
 refine ⟨?_,?_,?_,?_,?_⟩<;>exact cell_of_row w1 g _ _ T (0,0) h1
theorem zEG (w:World) (a b:Obj):((w.alloc a).alloc b).heap[w.heap.size]?=some a:=by show ((w.heap.push a).push b)[w.heap.size]?=some a;simp [Array.getElem?_push]
theorem zEF (w:World) (a b:Obj):((w.alloc a).alloc b).heap[w.heap.size+1]?=some b:=by show ((w.heap.push a).push b)[w.heap.size+1]?=some b;rw [Array.getElem?_push,if_pos (by simp)]
theorem zAw (n lo hi:Int) (w:World) :
  Calls Tryz.prog 57 #[.int .i64 n,.int .i64 lo,.int .i64 hi] w fun e w'=>e=.returned (.bool (inB n lo hi))∧w=w':=by
 by_cases h1:lo≤n
 ·by_cases h2:n≤hi
  ·have H:inB n lo hi=true:=inB_iff.2 ⟨h1,h2⟩
   have H':=zA H
   clear H
   go_enter Tryz.func57,Tryz.ntmps57
   go_wp2
   go_ret
   exact ⟨zB9 (by rw [H'.out]),rfl⟩
  ·have H:inB n lo hi=false:=inB_no.2 (by omega)
   have H':=zA H
   clear H
   go_enter Tryz.func57,Tryz.ntmps57
   go_wp2
   go_ret
   exact ⟨zB9 (by rw [H'.out];first | done | (simp;done) | (simp;omega)),rfl⟩
 ·have H:inB n lo hi=false:=inB_no.2 (by omega)
  have H':=zA H
  clear H
  go_enter Tryz.func57,Tryz.ntmps57
  go_wp2
  go_ret
  exact ⟨zB9 (by rw [H'.out]),rfl⟩
theorem zB1 (p b l a s:Int) (w:World) :
  Calls Tryz.prog 27 #[.agg #[.int .i64 p,.int .i64 b,.int .i64 l,.int .i64 a,.int .i64 s]] w fun e w'=>e=.returned (.int .i64 (zAR ⟨p,b,l,a,s⟩))∧Below w.heap.size w w':=by
 have hw:inB b 0 400=true→wrap64 (400 - b)=400 - b:=fun h=>by
  have:=inB_iff.1 h
  exact zQl (by omega) (by omega)
 go_enter Tryz.func27,Tryz.ntmps27
 go_wp2_with (go_at_call 57;refine (zAw _ _ _ _).mono ?_;rintro e w' ⟨rfl,rfl⟩)
 all_goals
  go_ret
  exact ⟨zBi (by clear hw;simp_all [zAR,okB]),(Below.refl _ _).alloc (Nat.le_refl _) _⟩
theorem zN7 {b n:Int} (hb:I64 b) (hn:I64 n) (h:b≤n):IntKind.u64.wrap (IntKind.u64.wrap n - IntKind.u64.wrap b)=n - b:=by
 obtain ⟨b0,b1⟩:=hb
 obtain ⟨n0,n1⟩:=hn
 simp only [IntKind.wrap_u64]
 omega
theorem zHO (p b l a s n:Int) (hb:I64 b) (hl:I64 l) (hn:I64 n) (w:World) :
  Calls Tryz.prog 79 #[.agg #[.int .i64 p,.int .i64 b,.int .i64 l,.int .i64 a,.int .i64 s],.int .i64 n] w fun e w'=>e=.returned (.bool (zCQ b l n))∧Below w.heap.size w w':=by
 obtain ⟨b0,b1⟩:=hb
 obtain ⟨l0,l1⟩:=hl
 obtain ⟨n0,n1⟩:=hn
 go_enter Tryz.func79,Tryz.ntmps79
 have hd:b≤n→IntKind.u64.wrap (IntKind.u64.wrap n - IntKind.u64.wrap b)=n - b:=fun h=>zN7 ⟨b0,b1⟩ ⟨n0,n1⟩ h
 have HD:=zA hd
 clear hd
 go_wp2
 all_goals
  go_ret
  refine ⟨zB9 ?_,(Below.refl _ _).alloc (Nat.le_refl _) _⟩
  unfold zCQ
  first
  | (rw [HD.out (by omega),decide_eq_decide];omega)
  | (symm;rw [decide_eq_false_iff_not];omega)
theorem zBy (p b l a s:Int) (w:World) :
  Calls Tryz.prog 55 #[.agg #[.int .i64 p,.int .i64 b,.int .i64 l,.int .i64 a,.int .i64 s]] w fun e w'=>e=.returned (.int .i64 (zAc ⟨p,b,l,a,s⟩))∧Below w.heap.size w w':=by
 cases h:okB ⟨p,b,l,a,s⟩
 ·have hk:zAR ⟨p,b,l,a,s⟩=1:=by simp [zAR,h]
  have hp:zAc ⟨p,b,l,a,s⟩=1:=by simp [zAc,h]
  have HP:=zA hp
  clear hp h
  go_enter Tryz.func55,Tryz.ntmps55
  go_wp2_with (go_at_call 27;refine (zB1 _ _ _ _ _ _).mono ?_;rintro e w1 ⟨rfl,hb1⟩;obtain ⟨c1,f1,z1⟩:=zDE hb1)
  go_ret
  exact ⟨zBi HP.out.symm,by repeat (first | exact Below.refl _ _ | refine zG ?_ _ | refine zI ?_ ‹_›)⟩
 ·have hk:zAR ⟨p,b,l,a,s⟩=0:=by simp [zAR,h]
  by_cases hs:s=0
  ·have hp:zAc ⟨p,b,l,a,s⟩=0:=(zCH _).2 ⟨(zB3 _).1 h,hs⟩
   have HP:=zA hp
   have hs':(s==0)=true:=by simp [hs]
   have HS:=zA hs
   clear hp h hs
   go_enter Tryz.func55,Tryz.ntmps55
   go_wp2_with (go_at_call 27;refine (zB1 _ _ _ _ _ _).mono ?_;rintro e w1 ⟨rfl,hb1⟩;obtain ⟨c1,f1,z1⟩:=zDE hb1)
   go_ret
   exact ⟨zBi HP.out.symm,by repeat (first | exact Below.refl _ _ | refine zG ?_ _ | refine zI ?_ ‹_›)⟩
  ·have hp:zAc ⟨p,b,l,a,s⟩=11:=by simp [zAc,h,hs]
   have HP:=zA hp
   have hs':(s==0)=false:=by simp [hs]
   clear hp h hs
   go_enter Tryz.func55,Tryz.ntmps55
   go_wp2_with (go_at_call 27;refine (zB1 _ _ _ _ _ _).mono ?_;rintro e w1 ⟨rfl,hb1⟩;obtain ⟨c1,f1,z1⟩:=zDE hb1)
   go_ret
   exact ⟨zBi HP.out.symm,by repeat (first | exact Below.refl _ _ | refine zG ?_ _ | refine zI ?_ ‹_›)⟩
end
section
open Go.RowKit
theorem zFM (is:Bool) (n p b l a s:Int) (w:World) :
  Calls Tryz.prog 90 #[.agg #[.bool is,.int .i64 n,.int .i64 p,.int .i64 b,.int .i64 l,.int .i64 a,.int .i64 s]] w
   fun e w'=>e=.returned (.int .i64 (zAP ⟨is,n,⟨p,b,l,a,s⟩⟩))∧Below w.heap.size w w':=by
 cases is
 ·by_cases h1:n < -2147483648
  ·have e:zAP ⟨false,n,⟨p,b,l,a,s⟩⟩=1:=by simp [zAP,h1]
   rw [e]
   clear e
   go_enter Tryz.func90,Tryz.ntmps90
   go_wp2
   go_ret
   exact ⟨rfl,zG (Below.refl _ _) _⟩
  ·by_cases h2:2147483647 < n
   ·have e:zAP ⟨false,n,⟨p,b,l,a,s⟩⟩=1:=by simp [zAP,h2]
    rw [e]
    clear e
    go_enter Tryz.func90,Tryz.ntmps90
    go_wp2
    go_ret
    exact ⟨rfl,zG (Below.refl _ _) _⟩
   ·have e:zAP ⟨false,n,⟨p,b,l,a,s⟩⟩=if p==0&&b==0&&l==0&&a==0&&s==0 then 0 else 5:=by
     simp only [zAP,Bool.false_eq_true,if_false]
     rw [if_neg (by omega)]
     simp only [zN5,Bool.and_eq_true,beq_iff_eq,and_assoc]
    rw [e]
    clear e
    cases gp:(p==0)
    ·go_enter Tryz.func90,Tryz.ntmps90
     go_wp2
     go_ret
     exact ⟨rfl,zG (Below.refl _ _) _⟩
    ·cases gb:(b==0)
     ·go_enter Tryz.func90,Tryz.ntmps90
      go_wp2
      go_ret
      exact ⟨rfl,zG (Below.refl _ _) _⟩
     ·cases gl:(l==0)
      ·go_enter Tryz.func90,Tryz.ntmps90
       go_wp2
       go_ret
       exact ⟨rfl,zG (Below.refl _ _) _⟩
      ·cases ga:(a==0)
       ·go_enter Tryz.func90,Tryz.ntmps90
        go_wp2
        go_ret
        exact ⟨rfl,zG (Below.refl _ _) _⟩
       ·cases gs:(s==0)
        ·go_enter Tryz.func90,Tryz.ntmps90
         go_wp2
         go_ret
         exact ⟨rfl,zG (Below.refl _ _) _⟩
        ·go_enter Tryz.func90,Tryz.ntmps90
         go_wp2
         go_ret
         exact ⟨rfl,zG (Below.refl _ _) _⟩
 ·have ck:=fun W=>zB1 p b l a s W
  cases h:okB ⟨p,b,l,a,s⟩
  ·have e:zAP ⟨true,n,⟨p,b,l,a,s⟩⟩=1:=by simp [zAP,h]
   have e2:zAR ⟨p,b,l,a,s⟩=1:=by simp [zAR,h]
   rw [e]
   rw [e2] at ck
   have CK:=zA ck
   clear e e2 ck h
   go_enter Tryz.func90,Tryz.ntmps90
   go_wp2_with (first
     | (go_at_call 27;((with_reducible refine (CK.out _).mono ?_);rintro e w1 ⟨rfl,hb1⟩;have vB:Bk w1 w.heap.size 56 #[.bool true,.int .i64 n,.int .i64 p,.int .i64 b,.int .i64 l,.int .i64 a,.int .i64 s]:=zH hb1 (by repeat (first | assumption | with_reducible exact zM _ _ _ | (with_reducible refine zO _ _ ?_;simp;done) | with_reducible refine zP ?_ | with_reducible refine zN _ ?_ | (with_reducible refine zX _ (by omega) ?_) | with_reducible apply zV | rfl));obtain ⟨v0,v1,v2,v3,v4,v5,v6⟩:=zCR vB)))
   go_ret
   refine ⟨rfl,?_⟩
   repeat (first | with_reducible exact Below.refl _ _ | with_reducible refine zG ?_ _ | with_reducible refine zJ ?_ | with_reducible refine zK ?_ (by first | omega | (simp;done) | (simp;omega)) _ | with_reducible refine zI ?_ ‹_›)
  ·have e2:zAR ⟨p,b,l,a,s⟩=0:=by simp [zAR,h]
   rw [e2] at ck
   by_cases hn:n=0
   ·have e:zAP ⟨true,n,⟨p,b,l,a,s⟩⟩=0:=by simp [zAP,h,hn]
    have g:(n==0)=true:=by simp [hn]
    rw [e]
    have CK:=zA ck
    have HN:=zA hn
    clear e e2 ck h hn
    go_enter Tryz.func90,Tryz.ntmps90
    go_wp2_with (first
      | (go_at_call 27;((with_reducible refine (CK.out _).mono ?_);rintro e w1 ⟨rfl,hb1⟩;have vB:Bk w1 w.heap.size 56 #[.bool true,.int .i64 n,.int .i64 p,.int .i64 b,.int .i64 l,.int .i64 a,.int .i64 s]:=zH hb1 (by repeat (first | assumption | with_reducible exact zM _ _ _ | (with_reducible refine zO _ _ ?_;simp;done) | with_reducible refine zP ?_ | with_reducible refine zN _ ?_ | (with_reducible refine zX _ (by omega) ?_) | with_reducible apply zV | rfl));obtain ⟨v0,v1,v2,v3,v4,v5,v6⟩:=zCR vB)))
    go_ret
    refine ⟨rfl,?_⟩
    repeat (first | with_reducible exact Below.refl _ _ | with_reducible refine zG ?_ _ | with_reducible refine zJ ?_ | with_reducible refine zK ?_ (by first | omega | (simp;done) | (simp;omega)) _ | with_reducible refine zI ?_ ‹_›)
   ·have e:zAP ⟨true,n,⟨p,b,l,a,s⟩⟩=5:=by simp [zAP,h,hn]
    have g:(n==0)=false:=by simp [hn]
    have g2:(n != 0)=true:=by simp [hn]
    rw [e]
    have CK:=zA ck
    clear e e2 ck h hn
    go_enter Tryz.func90,Tryz.ntmps90
    go_wp2_with (first
      | (go_at_call 27;((with_reducible refine (CK.out _).mono ?_);rintro e w1 ⟨rfl,hb1⟩;have vB:Bk w1 w.heap.size 56 #[.bool true,.int .i64 n,.int .i64 p,.int .i64 b,.int .i64 l,.int .i64 a,.int .i64 s]:=zH hb1 (by repeat (first | assumption | with_reducible exact zM _ _ _ | (with_reducible refine zO _ _ ?_;simp;done) | with_reducible refine zP ?_ | with_reducible refine zN _ ?_ | (with_reducible refine zX _ (by omega) ?_) | with_reducible apply zV | rfl));obtain ⟨v0,v1,v2,v3,v4,v5,v6⟩:=zCR vB)))
    go_ret
    refine ⟨rfl,?_⟩
    repeat (first | with_reducible exact Below.refl _ _ | with_reducible refine zG ?_ _ | with_reducible refine zJ ?_ | with_reducible refine zK ?_ (by first | omega | (simp;done) | (simp;omega)) _ | with_reducible refine zI ?_ ‹_›)
end
section
open Go.RowKit
theorem zIw {m:List ValV} {k:Nat} (hk:k < m.length):zAx (m.drop k)=if zAP (m.getD k zeroV)=0 then zAx (m.drop (k+1)) else zAP (m.getD k zeroV):=by
 rw [List.drop_eq_getElem_cons hk]
 simp [zAx,hk]
theorem zHE (ao:Option Addr) (n cap:Nat) (vs:List ValV) (w:World) (h:Sl w ao n vs) :
  Calls Tryz.prog 67 #[.slice ao n cap] w fun e w'=>e=.returned (.int .i64 (zBH vs))∧Below w.heap.size w w':=by
 have hl:=h.len
 have hm:=h.max
 unfold maxLen at hm
 by_cases h4:400 < n
 ·have e:zBH vs=2:=by unfold zBH;rw [if_pos (by omega)]
  rw [e]
  clear e
  go_enter Tryz.func67,Tryz.ntmps67
  go_wp2
  go_ret
  exact ⟨rfl,Below.refl _ _⟩
 ·have e:zBH vs=zAx (vs.drop 0):=by unfold zBH;rw [if_neg (by omega),List.drop_zero]
  rw [e]
  clear e
  go_enter Tryz.func67,Tryz.ntmps67
  go_wp2
  go_loopw [11] (fun i wr=>∃ k:Nat,k≤n∧i=.int .i64 k∧zAx (vs.drop 0)=zAx (vs.drop k)∧Below w.heap.size w wr) (fun i _=>n - (intOf i).toNat)
  case atStart=>exact ⟨0,Nat.zero_le _,rfl,rfl,Below.refl _ _⟩
  case round =>
   obtain ⟨k,hk,rfl,hf,hb⟩:=hrel
   by_cases hlt:k < n
   ·have hs:=h
    obtain ⟨a,rfl,ha,e0,e1,e2,e3,e4,e5,e6⟩:=zEy (hs.below hb) hlt
    clear hs
    have hd:=zIw (m:=vs) (k:=k) (by omega)
    generalize vs.getD k zeroV=x at *
    obtain ⟨is,nn,p,b,l,at_,s⟩:=x
    simp only at e0 e1 e2 e3 e4 e5 e6
    have cc:=fun W=>zFM is nn p b l at_ s W
    by_cases hc:zAP ⟨is,nn,⟨p,b,l,at_,s⟩⟩=0
    ·rw [if_pos hc] at hd
     rw [hc] at cc
     have CC:=zA cc
     have HF:=zA (hf.trans hd)
     have HB:=zA hb
     clear cc hf hd hc hb h
     go_wp2_with (go_at_call 90;((with_reducible refine (CC.out _).mono ?_);rintro e w1 ⟨rfl,hb1⟩))
     have HBN:=zA (show Below w.heap.size w w1 from zI (zG HB.out _) hb1)
     go_roundw
     case rel=>exact ⟨k+1,by omega,by go_num,HF.out,HBN.out⟩
     case measure=>simp [intOf];omega
    ·rw [if_neg hc] at hd
     generalize zAP ⟨is,nn,⟨p,b,l,at_,s⟩⟩=c at *
     have g1:(c==0)=false:=by simpa using hc
     have g2:(c != 0)=true:=by simpa using hc
     have CC:=zA cc
     have HF:=zA (hf.trans hd)
     have HB:=zA hb
     clear cc hf hd hc hb h
     go_wp2_with (go_at_call 90;((with_reducible refine (CC.out _).mono ?_);rintro e w1 ⟨rfl,hb1⟩))
     go_ret
     exact ⟨zBi HF.out.symm,zI (zG HB.out _) hb1⟩
   ·have HF:=zA hf
    have HB:=zA hb
    have hz:zAx (vs.drop k)=0:=by rw [List.drop_of_length_le (by omega)];rfl
    have HZ:=zA hz
    clear hf hb h hz
    go_wp2
    go_ret
    exact ⟨zBi (HZ.out.symm.trans HF.out.symm),HB.out⟩
end
section
open Go.RowKit
theorem zB7 (n:Int) (w:World) :
  Calls Tryz.prog 39 #[.int .i64 n] w fun e w'=>e=.returned (.int .i64 (wrap32 n))∧w=w':=by
 go_enter Tryz.func39,Tryz.ntmps39
 go_wp2
 go_ret
 exact ⟨zBi (zQm n),rfl⟩
theorem zQg (a b:Int) (w:World) :
  Calls Tryz.prog 141 #[.int .i64 a,.int .i64 b] w fun e w'=>e=.returned (.int .i64 (zMR a b))∧w=w':=by
 have ha:=zGx a
 have hb:=zGx b
 go_enter Tryz.func141,Tryz.ntmps141
 go_wp2_with (go_at_call 39;refine (zB7 _ _).mono ?_;rintro e w' ⟨rfl,rfl⟩)
 go_ret
 exact ⟨rfl,rfl⟩
theorem zPZ (a b:Int) (w:World) :
  Calls Tryz.prog 142 #[.int .i64 a,.int .i64 b] w fun e w'=>e=.returned (.int .i64 (zQn a b))∧w=w':=by
 have ha:=zGx a
 have hb:=zGx b
 go_enter Tryz.func142,Tryz.ntmps142
 go_wp2_with (go_at_call 39;refine (zB7 _ _).mono ?_;rintro e w' ⟨rfl,rfl⟩)
 go_ret
 exact ⟨rfl,rfl⟩
theorem zP3 (a b:Int) (w:World) :
  Calls Tryz.prog 143 #[.int .i64 a,.int .i64 b] w fun e w'=>e=.returned (.int .i64 (zQv a b))∧w=w':=by
 go_enter Tryz.func143,Tryz.ntmps143
 go_wp2_with (go_at_call 39;refine (zB7 _ _).mono ?_;rintro e w' ⟨rfl,rfl⟩)
 go_ret
 exact ⟨zBi (zMZ _),rfl⟩
theorem zOh (a b:Int) (w:World) :
  Calls Tryz.prog 144 #[.int .i64 a,.int .i64 b] w fun e w'=>e=.returned (.int .i64 (zFH a b))∧w=w':=by
 by_cases h:wrap32 a < wrap32 b
 ·have hl:zFH a b=1:=by simp [zFH,h]
  have Hl:=zA hl
  clear hl
  go_enter Tryz.func144,Tryz.ntmps144
  go_wp2_with (go_at_call 39;refine (zB7 _ _).mono ?_;rintro e w' ⟨rfl,rfl⟩)
  go_ret
  exact ⟨zBi Hl.out.symm,rfl⟩
 ·have hl:zFH a b=0:=by simp [zFH,h]
  have Hl:=zA hl
  clear hl
  go_enter Tryz.func144,Tryz.ntmps144
  go_wp2_with (go_at_call 39;refine (zB7 _ _).mono ?_;rintro e w' ⟨rfl,rfl⟩)
  go_ret
  exact ⟨zBi Hl.out.symm,rfl⟩
theorem zO8 (a b:Int) (h:wrap32 b=0) (w:World) :
  Calls Tryz.prog 146 #[.int .i64 a,.int .i64 b] w fun e w'=>e=.returned (.tuple #[.int .i64 0,.int .i64 14])∧w=w':=by
 go_enter Tryz.func146,Tryz.ntmps146
 go_wp2_with (go_at_call 39;refine (zB7 _ _).mono ?_;rintro e w' ⟨rfl,rfl⟩)
 go_ret2
 exact ⟨rfl,rfl⟩
theorem zQT (a b:Int) (h:wrap32 b≠0) (w:World) :
  Calls Tryz.prog 146 #[.int .i64 a,.int .i64 b] w fun e w'=>e=.returned (.tuple #[.int .i64 (zO9 a b),.int .i64 0])∧w=w':=by
 have hb:(wrap32 b==0)=false:=by rw [beq_eq_false_iff_ne];exact h
 go_enter Tryz.func146,Tryz.ntmps146
 go_wp2_with (go_at_call 39;refine (zB7 _ _).mono ?_;rintro e w' ⟨rfl,rfl⟩)
 go_ret2
 exact ⟨zQp (zI8 (zMZ _)) rfl,rfl⟩
theorem zOU (n m:Int) (w:World) (hm:0 < m) (hm2:m≤4294967296) :
  Calls Tryz.prog 15 #[.int .i64 n,.int .i64 m] w fun e w'=>e=.returned (.int .i64 (n % m))∧w=w':=by
 have hb:=zPX n m hm
 by_cases hh:n.tmod m < 0
 ·go_enter Tryz.func15,Tryz.ntmps15
  go_wp2
  go_ret
  exact ⟨zBi (by rw [←zJD n m hm,if_pos hh]),rfl⟩
 ·go_enter Tryz.func15,Tryz.ntmps15
  go_wp2
  go_ret
  exact ⟨zBi (by rw [←zJD n m hm,if_neg (by omega)]),rfl⟩
end
section
open Go.RowKit
theorem zLT (R:List ValV) (c:KeyV) (mem:List ValV) (stk:List FrameV) (out:List Int) (ma sa oa:Option Addr) (mc sc oc:Nat) (w:World) (h8:R.length=8)
  (hm:Sl w ma mem.length mem) (hs:Sl w sa stk.length stk) (ho:Sl w oa out.length out) :
  Calls Tryz.prog 68 #[.agg (mcs R c (.slice ma mem.length mc) (.slice sa stk.length sc) (.slice oa out.length oc))] w fun e w'=>e=.returned (.int .i64 (zAr R c mem stk out))∧Below w.heap.size w w':=by
 have hmm:=hm.max
 have hsm:=hs.max
 have hom:=ho.max
 unfold maxLen at hmm hsm hom
 have hsz:=zBc (c:=c) (ms:=.slice ma mem.length mc) (ss:=.slice sa stk.length sc) (os:=.slice oa out.length oc) h8
 have hrg:=zJT (c:=c) (ms:=.slice ma mem.length mc) (ss:=.slice sa stk.length sc) (os:=.slice oa out.length oc) h8
 have hhi:=zAh (c:=c) (ms:=.slice ma mem.length mc) (ss:=.slice sa stk.length sc) (os:=.slice oa out.length oc) h8
 generalize mcs R c (.slice ma mem.length mc) (.slice sa stk.length sc) (.slice oa out.length oc)=cs at *
 obtain ⟨w1,hw1⟩:∃ w1,w1=w.alloc (.cells cs 60):=⟨_,rfl⟩
 have hB:Bk w1 w.heap.size 60 cs:=by rw [hw1];exact zM _ _ _
 have h1w:Below w.heap.size w w1:=by rw [hw1];exact zG (Below.refl _ _) _
 have q56:∀ x:Later w1,x.val.cell? ⟨w.heap.size,56,none⟩=some (.int .i64 c.perm):=fun x=>((x.bk hB).cell _).trans (hhi 0)
 have q57:∀ x:Later w1,x.val.cell? ⟨w.heap.size,57,none⟩=some (.int .i64 c.base):=fun x=>((x.bk hB).cell _).trans (hhi 1)
 have q58:∀ x:Later w1,x.val.cell? ⟨w.heap.size,58,none⟩=some (.int .i64 c.len):=fun x=>((x.bk hB).cell _).trans (hhi 2)
 have q59:∀ x:Later w1,x.val.cell? ⟨w.heap.size,59,none⟩=some (.int .i64 c.at_):=fun x=>((x.bk hB).cell _).trans (hhi 3)
 have q60:∀ x:Later w1,x.val.cell? ⟨w.heap.size,60,none⟩=some (.int .i64 c.seal_):=fun x=>((x.bk hB).cell _).trans (hhi 4)
 have q61:∀ x:Later w1,x.val.cell? ⟨w.heap.size,61,none⟩=some (.slice ma mem.length mc):=fun x=>((x.bk hB).cell _).trans (hhi 5)
 have q62:∀ x:Later w1,x.val.cell? ⟨w.heap.size,62,none⟩=some (.slice sa stk.length sc):=fun x=>((x.bk hB).cell _).trans (hhi 6)
 have q63:∀ x:Later w1,x.val.cell? ⟨w.heap.size,63,none⟩=some (.slice oa out.length oc):=fun x=>((x.bk hB).cell _).trans (hhi 7)
 have qL:∀ x:Later w1,w.heap.size < x.val.heap.size:=fun x=>x.lt hB.lt
 have sm:∀ x:Later w1,Sl x.val ma mem.length mem:=fun x=>(hm.below h1w).below x.ok
 have ss:∀ x:Later w1,Sl x.val sa stk.length stk:=fun x=>(hs.below h1w).below x.ok
 have so:∀ x:Later w1,Sl x.val oa out.length out:=fun x=>(ho.below h1w).below x.ok
 have fin:∀ x:Later w1,Below w.heap.size w x.val:=fun x=>zI h1w x.ok
 have HW1:=zA hw1
 have HSZ:=zA hsz
 have HRG:=zA hrg
 have HB:=zA hB
 have SM:=zA sm
 have SS:=zA ss
 have SO:=zA so
 have FIN:=zA fin
 have H8:=zA h8
 have MC:=zA (fun W h=>zHE ma mem.length mc mem W h)
 obtain ⟨cp,cb,cl_,ca,cs_⟩:=c
 simp only at q56 q57 q58 q59 q60
 have KC:=zA (fun W=>zB1 cp cb cl_ ca cs_ W)
 clear hsz hrg hhi hB h1w hw1 sm ss so fin hm hs ho h8
 go_enter Tryz.func68,Tryz.ntmps68
 go_upto_region 1 with (fail)
 rw [←HW1.out]
 obtain ⟨x0,hx0⟩:=zLp (w0:=w1) rfl
 have HX0:=zA hx0
 clear hx0
 go_wp2_with (refine zAm rfl 57 (.tmp 14) rfl w.heap.size 0 56 rfl 60 cs _ HB.out Tryz.underlying57 rfl (by kernel_rfl) (by have:=HSZ.out;omega) _ HRG.out ?_)
 go_loopw [16] (fun i wr=>∃ (k:Nat) (x:Later w1),k≤8∧i=.int .i64 k∧wr=x.val∧zAx R=zAx (R.drop k)) (fun i _=>8 - (intOf i).toNat)
 case atStart=>exact ⟨0,x0,by omega,rfl,HX0.out,rfl⟩
 case round =>
  obtain ⟨k,x,hk,rfl,rfl,hf⟩:=hrel
  by_cases hlt:k < 8
  ·have q1:(k:Int) < 8:=by omega
   obtain ⟨v,hv⟩:∃ v,R[k]?=some v:=⟨_,List.getElem?_eq_getElem (by have:=H8.out;omega)⟩
   have hd:=zKk hv
   have hix:=fun W=>zHc R H8.out hv W
   obtain ⟨vi,vn,vp,vb,vl,va,vs⟩:=v
   simp only [ValV.val] at hix
   have cc:=fun W=>zFM vi vn vp vb vl va vs W
   by_cases hc:zAP ⟨vi,vn,⟨vp,vb,vl,va,vs⟩⟩=0
   ·rw [if_pos hc] at hd
    rw [hc] at cc
    have CC:=zA cc
    have HF:=zA (hf.trans hd)
    clear cc hf hd hc hv
    go_wp2_with (go_at_call 90;((with_reducible refine (CC.out _).mono ?_);rintro e w2 ⟨rfl,hb2⟩;obtain ⟨y,rfl⟩:=zAF (zG x.ok _) hb2;clear hb2))
    go_roundw
    case rel=>exact ⟨k+1,y,by omega,by go_num,rfl,HF.out⟩
    case measure=>simp [intOf];omega
   ·rw [if_neg hc] at hd
    have hst:zAr R ⟨cp,cb,cl_,ca,cs_⟩ mem stk out=zAP ⟨vi,vn,⟨vp,vb,vl,va,vs⟩⟩:=by unfold zAr;rw [hf,hd,if_pos hc]
    generalize zAP ⟨vi,vn,⟨vp,vb,vl,va,vs⟩⟩=ec at *
    have g1:(ec==0)=false:=by simpa using hc
    have g2:(ec != 0)=true:=by simpa using hc
    have CC:=zA cc
    have HST:=zA hst
    clear cc hf hd hc hv hst
    go_wp2_with (go_at_call 90;((with_reducible refine (CC.out _).mono ?_);rintro e w2 ⟨rfl,hb2⟩;obtain ⟨y,rfl⟩:=zAF (zG x.ok _) hb2;clear hb2))
    go_ret
    exact ⟨by rw [HST.out];rfl,FIN.out y⟩
  ·have q1:¬((k:Int) < 8):=by omega
   rw [List.drop_of_length_le (by have:=H8.out;omega)] at hf
   have hf0:zAx R=0:=hf
   clear hf
   by_cases hko:okB ⟨cp,cb,cl_,ca,cs_⟩=true
   ·have kc0:zAR ⟨cp,cb,cl_,ca,cs_⟩=0:=by unfold zAR;rw [if_pos hko]
    have kc:=KC.out
    rw [kc0] at kc
    have KC0:=zA kc
    clear kc kc0
    by_cases hmc:zBH mem=0
    ·have mc0:=MC.out
     rw [hmc] at mc0
     have MC0:=zA mc0
     clear mc0
     by_cases h16:16 < stk.length
     ·have hst:zAr R ⟨cp,cb,cl_,ca,cs_⟩ mem stk out=2:=by unfold zAr;rw [if_neg (by simp [hf0]),if_neg (by simp [hko]),if_neg (by simp [hmc]),if_pos h16]
      have HST:=zA hst
      have g16:((16:Int) < stk.length):=by omega
      clear hst hf0 hko hmc
      go_wp2_with (first
       | (go_at_call 27;((with_reducible refine (KC0.out _).mono ?_);rintro e w2 ⟨rfl,hb2⟩;obtain ⟨y,rfl⟩:=zAF x.ok hb2;clear hb2))
       | (go_at_call 67;((with_reducible refine (MC0.out _ (SM.out y)).mono ?_);rintro e w3 ⟨rfl,hb3⟩;obtain ⟨z,rfl⟩:=zAF y.ok hb3;clear hb3)))
      go_ret
      exact ⟨by rw [HST.out];rfl,FIN.out z⟩
     ·have g16:¬((16:Int) < stk.length):=by omega
      have hst:zAr R ⟨cp,cb,cl_,ca,cs_⟩ mem stk out=if zCk stk≠0 then zCk stk else if 100 < out.length then 2 else zCw out:=by unfold zAr;rw [if_neg (by simp [hf0]),if_neg (by simp [hko]),if_neg (by simp [hmc]),if_neg h16]
      have HST:=zA hst
      clear hst hf0 hko hmc
      go_wp2_with (first
       | (go_at_call 27;((with_reducible refine (KC0.out _).mono ?_);rintro e w2 ⟨rfl,hb2⟩;obtain ⟨y,rfl⟩:=zAF x.ok hb2;clear hb2))
       | (go_at_call 67;((with_reducible refine (MC0.out _ (SM.out y)).mono ?_);rintro e w3 ⟨rfl,hb3⟩;obtain ⟨z,rfl⟩:=zAF y.ok hb3;clear hb3)))
      go_loopw [44] (fun i wr=>∃ (k:Nat) (x:Later w1),k≤stk.length∧i=.int .i64 k∧wr=x.val∧zCk stk=zCk (stk.drop k)) (fun i _=>stk.length - (intOf i).toNat)
      case atStart=>exact ⟨0,z,Nat.zero_le _,rfl,rfl,rfl⟩
      case round =>
       obtain ⟨k,x',hk,rfl,rfl,hf⟩:=hrel
       by_cases hlt:k < stk.length
       ·have q1:(k:Int) < stk.length:=by omega
        obtain ⟨f,hfk⟩:∃ f,stk[k]?=some f:=⟨_,List.getElem?_eq_getElem hlt⟩
        have hd:=zOA hfk
        obtain ⟨ad,rfl,hab,e0,e1,e2,e3,e4,e5,e6,e7,e8,e9,e10,e11⟩:=zOB (SS.out x') hlt hfk
        obtain ⟨⟨fp,fb,fl,fa,fs⟩,⟨vi,vn,vp,vb,vl,va,vs⟩⟩:=f
        simp only at hd e0 e1 e2 e3 e4 e5 e6 e7 e8 e9 e10 e11
        have cc:=fun W=>zFM vi vn vp vb vl va vs W
        have kc:=fun W=>zB1 fp fb fl fa fs W
        by_cases hko2:okB ⟨fp,fb,fl,fa,fs⟩=true
        ·rw [if_neg (by simp [hko2])] at hd
         have kc0:zAR ⟨fp,fb,fl,fa,fs⟩=0:=by unfold zAR;rw [if_pos hko2]
         rw [kc0] at kc
         have KC1:=zA kc
         clear kc kc0 hko2
         by_cases hc:zAP ⟨vi,vn,⟨vp,vb,vl,va,vs⟩⟩=0
         ·rw [if_neg (by simp [hc])] at hd
          rw [hc] at cc
          have CC:=zA cc
          have HF:=zA (hf.trans hd)
          clear cc hf hd hc hfk
          go_wp2_with (first
           | (go_at_call 27;((with_reducible refine (KC1.out _).mono ?_);rintro e w5 ⟨rfl,hb5⟩;have fB:Bk w5 x'.val.heap.size 156 #[.int .i64 fp,.int .i64 fb,.int .i64 fl,.int .i64 fa,.int .i64 fs,.bool vi,.int .i64 vn,.int .i64 vp,.int .i64 vb,.int .i64 vl,.int .i64 va,.int .i64 vs]:=zH hb5 (zM _ _ _);have f5:=fB.cell 5;have f6:=fB.cell 6;have f7:=fB.cell 7;have f8:=fB.cell 8;have f9:=fB.cell 9;have f10:=fB.cell 10;have f11:=fB.cell 11;have fL:=fB.lt;clear fB;simp at f5 f6 f7 f8 f9 f10 f11;obtain ⟨y5,rfl⟩:=zAF (zG x'.ok _) hb5;clear hb5))
           | (go_at_call 90;((with_reducible refine (CC.out _).mono ?_);rintro e w6 ⟨rfl,hb6⟩;obtain ⟨y6,rfl⟩:=zAF y5.ok hb6;clear hb6)))
          go_roundw
          case rel=>exact ⟨k+1,y6,by omega,by go_num,rfl,HF.out⟩
          case measure=>simp [intOf];omega
         ·rw [if_pos hc] at hd
          have hst:zAr R ⟨cp,cb,cl_,ca,cs_⟩ mem stk out=zAP ⟨vi,vn,⟨vp,vb,vl,va,vs⟩⟩:=by rw [HST.out,hf,hd,if_pos hc]
          generalize zAP ⟨vi,vn,⟨vp,vb,vl,va,vs⟩⟩=ec at *
          have g1:(ec==0)=false:=by simpa using hc
          have g2:(ec != 0)=true:=by simpa using hc
          have CC:=zA cc
          have HST2:=zA hst
          clear cc hf hd hc hst hfk
          go_wp2_with (first
           | (go_at_call 27;((with_reducible refine (KC1.out _).mono ?_);rintro e w5 ⟨rfl,hb5⟩;have fB:Bk w5 x'.val.heap.size 156 #[.int .i64 fp,.int .i64 fb,.int .i64 fl,.int .i64 fa,.int .i64 fs,.bool vi,.int .i64 vn,.int .i64 vp,.int .i64 vb,.int .i64 vl,.int .i64 va,.int .i64 vs]:=zH hb5 (zM _ _ _);have f5:=fB.cell 5;have f6:=fB.cell 6;have f7:=fB.cell 7;have f8:=fB.cell 8;have f9:=fB.cell 9;have f10:=fB.cell 10;have f11:=fB.cell 11;have fL:=fB.lt;clear fB;simp at f5 f6 f7 f8 f9 f10 f11;obtain ⟨y5,rfl⟩:=zAF (zG x'.ok _) hb5;clear hb5))
           | (go_at_call 90;((with_reducible refine (CC.out _).mono ?_);rintro e w6 ⟨rfl,hb6⟩;obtain ⟨y6,rfl⟩:=zAF y5.ok hb6;clear hb6)))
          go_ret
          exact ⟨by rw [HST2.out];rfl,FIN.out y6⟩
        ·have kc0:zAR ⟨fp,fb,fl,fa,fs⟩=1:=by unfold zAR;rw [if_neg hko2]
         rw [if_pos (by simpa using hko2)] at hd
         have hst:zAr R ⟨cp,cb,cl_,ca,cs_⟩ mem stk out=1:=by rw [HST.out,hf,hd,if_pos (by decide)]
         rw [kc0] at kc
         have KC1:=zA kc
         have HST2:=zA hst
         clear kc kc0 hko2 hf hd hst cc hfk
         go_wp2_with (go_at_call 27;((with_reducible refine (KC1.out _).mono ?_);rintro e w5 ⟨rfl,hb5⟩;obtain ⟨y5,rfl⟩:=zAF (zG x'.ok _) hb5;clear hb5))
         go_ret
         exact ⟨by rw [HST2.out];rfl,FIN.out y5⟩
       ·have q1:¬((k:Int) < stk.length):=by omega
        rw [List.drop_of_length_le (by omega)] at hf
        have hf0:zCk stk=0:=hf
        have hst0:=HST.out
        rw [if_neg (by simp [hf0])] at hst0
        clear hf hf0
        by_cases h100:100 < out.length
        ·rw [if_pos h100] at hst0
         have g100:((100:Int) < out.length):=by omega
         have HST2:=zA hst0
         clear hst0
         go_wp2
         go_ret
         exact ⟨by rw [HST2.out];rfl,FIN.out x'⟩
        ·rw [if_neg h100] at hst0
         have g100:¬((100:Int) < out.length):=by omega
         have HST2:=zA hst0
         clear hst0
         go_wp2
         obtain ⟨x2,hx2⟩:∃ x2:Later w1,x2=x':=⟨_,rfl⟩
         go_loopw [68] (fun i wr=>∃ (k:Nat) (x:Later w1),k≤out.length∧i=.int .i64 k∧wr=x.val∧zCw out=zCw (out.drop k)) (fun i _=>out.length - (intOf i).toNat)
         case atStart=>exact ⟨0,x',Nat.zero_le _,rfl,rfl,rfl⟩
         case round =>
          obtain ⟨k,x'',hk,rfl,rfl,hf⟩:=hrel
          by_cases hlt:k < out.length
          ·have q1:(k:Int) < out.length:=by omega
           obtain ⟨f,hfk⟩:∃ f,out[k]?=some f:=⟨_,List.getElem?_eq_getElem hlt⟩
           have hd:=zM2 hfk
           obtain ⟨ad,rfl,hab,e0⟩:=zCM (SO.out x'') hlt hfk
           have cc:=fun W=>zB7 f W
           by_cases hc:f=wrap32 f
           ·rw [if_pos hc] at hd
            have HF:=zA (hf.trans hd)
            have g1:(f != wrap32 f)=false:=by rw [bne_eq_false_iff_eq];exact hc
            generalize wrap32 f=f2 at *
            have CC:=zA cc
            clear cc hf hd hc hfk
            go_wp2_with (go_at_call 39;((with_reducible refine (CC.out _).mono ?_);rintro e w5 ⟨rfl,rfl⟩))
            go_roundw
            case rel=>exact ⟨k+1,x'',by omega,by go_num,rfl,HF.out⟩
            case measure=>simp [intOf];omega
           ·rw [if_neg hc] at hd
            have hst:zAr R ⟨cp,cb,cl_,ca,cs_⟩ mem stk out=1:=by rw [HST2.out,hf,hd]
            have HST3:=zA hst
            have g1:(f != wrap32 f)=true:=by rw [bne_iff_ne];exact hc
            generalize wrap32 f=f2 at *
            have CC:=zA cc
            clear cc hf hd hc hst hfk
            go_wp2_with (go_at_call 39;((with_reducible refine (CC.out _).mono ?_);rintro e w5 ⟨rfl,rfl⟩))
            go_ret
            exact ⟨by rw [HST3.out];rfl,FIN.out x''⟩
          ·have q1:¬((k:Int) < out.length):=by omega
           rw [List.drop_of_length_le (by omega)] at hf
           have hst:zAr R ⟨cp,cb,cl_,ca,cs_⟩ mem stk out=0:=by rw [HST2.out,hf];rfl
           have HST3:=zA hst
           clear hf hst
           go_wp2
           go_ret
           exact ⟨by rw [HST3.out];rfl,FIN.out x''⟩
    ·have hst:zAr R ⟨cp,cb,cl_,ca,cs_⟩ mem stk out=zBH mem:=by unfold zAr;rw [if_neg (by simp [hf0]),if_neg (by simp [hko]),if_pos hmc]
     have mc0:=MC.out
     generalize zBH mem=ec at *
     have MC0:=zA mc0
     have g1:(ec==0)=false:=by simpa using hmc
     have g2:(ec != 0)=true:=by simpa using hmc
     have HST:=zA hst
     clear mc0 hst hf0 hko hmc
     go_wp2_with (first
      | (go_at_call 27;((with_reducible refine (KC0.out _).mono ?_);rintro e w2 ⟨rfl,hb2⟩;obtain ⟨y,rfl⟩:=zAF x.ok hb2;clear hb2))
      | (go_at_call 67;((with_reducible refine (MC0.out _ (SM.out y)).mono ?_);rintro e w3 ⟨rfl,hb3⟩;obtain ⟨z,rfl⟩:=zAF y.ok hb3;clear hb3)))
     go_ret
     exact ⟨by rw [HST.out];rfl,FIN.out z⟩
   ·have kc0:zAR ⟨cp,cb,cl_,ca,cs_⟩=1:=by unfold zAR;rw [if_neg hko]
    have hst:zAr R ⟨cp,cb,cl_,ca,cs_⟩ mem stk out=1:=by unfold zAr;rw [if_neg (by simp [hf0]),if_pos (by simpa using hko)]
    have kc:=KC.out
    rw [kc0] at kc
    have KC0:=zA kc
    have HST:=zA hst
    clear kc kc0 hst hf0 hko
    go_wp2_with (go_at_call 27;((with_reducible refine (KC0.out _).mono ?_);rintro e w2 ⟨rfl,hb2⟩;obtain ⟨y,rfl⟩:=zAF x.ok hb2;clear hb2))
    go_ret
    exact ⟨by rw [HST.out];rfl,FIN.out y⟩
end
end Go.Proofs.YtlpejagkadalbaaGreatDoor
