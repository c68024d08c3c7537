import Derived.Test.YtlpejagkadalbaaGreatDoorZk02
set_option maxHeartbeats 40000000
set_option maxRecDepth 100000
set_option linter.unusedVariables false
set_option linter.unusedSimpArgs false
namespace Go.Proofs.YtlpejagkadalbaaGreatDoor
section
open Go.RowKit
theorem zJW (a b:Int) (w:World) :
  Calls Tryz.prog 97 #[.int .i64 a,.int .i64 b] w fun e w'=>e=.returned (.bool (zBJ a b))∧w=w':=by
 go_enter Tryz.func97,Tryz.ntmps97
 go_wp2
 go_ret
 exact ⟨zDA (by rw [zGb];unfold zBJ zGe;rw [Bool.eq_iff_iff];simp),rfl⟩
end
section
open Go.RowKit
theorem zCk {W w1:World} (hb:Below W.heap.size W w1):(∀ b o,b < W.heap.size→w1.cell? ⟨b,o,none⟩=W.cell? ⟨b,o,none⟩)∧(∀ b o,b < W.heap.size→w1.frozen? ⟨b,o,none⟩=W.frozen? ⟨b,o,none⟩)∧(∀ n,n < W.heap.size→n < w1.heap.size) :=
 ⟨fun b o h=>hb.cell (p:=⟨b,o,none⟩) h,fun b o h=>hb.frozen (p:=⟨b,o,none⟩) h,fun n h=>Nat.lt_of_lt_of_le h hb.size⟩
theorem zCP {W w1:World} {g:Nat} {v0 v1 v2 v3 v4:Value} {T:TypeId} (hb:Below W.heap.size W w1) (h:W.heap[g]?=some (.cells #[v0,v1,v2,v3,v4] T (0,0))) :
  w1.cell? ⟨g,0,none⟩=some v0∧w1.cell? ⟨g,1,none⟩=some v1∧w1.cell? ⟨g,2,none⟩=some v2∧w1.cell? ⟨g,3,none⟩=some v3∧w1.cell? ⟨g,4,none⟩=some v4:=by
 have hg:g < W.heap.size:=by
  rcases Nat.lt_or_ge g W.heap.size with hlt | hge
  ·exact hlt
  ·rw [Array.getElem?_eq_none hge] at h;cases h
 have h1:w1.heap[g]?=some (.cells #[v0,v1,v2,v3,v4] T (0,0)):=(hb.block g hg).trans h
 refine ⟨?_,?_,?_,?_,?_⟩<;>exact cell_of_row w1 g _ _ T (0,0) h1
theorem zDh (w:World) (a b:Obj):((w.alloc a).alloc b).heap[w.heap.size]?=some a:=by show ((w.heap.push a).push b)[w.heap.size]?=some a;simp [Array.getElem?_push]
theorem zDg (w:World) (a b:Obj):((w.alloc a).alloc b).heap[w.heap.size+1]?=some b:=by show ((w.heap.push a).push b)[w.heap.size+1]?=some b;rw [Array.getElem?_push,if_pos (by simp)]
theorem zAh (n lo hi:Int) (w:World) :
  Calls Tryz.prog 57 #[.int .i64 n,.int .i64 lo,.int .i64 hi] w fun e w'=>e=.returned (.bool (inB n lo hi))∧w=w':=by
 by_cases h1:lo≤n
 ·by_cases h2:n≤hi
  ·have H:inB n lo hi=true:=inB_iff.2 ⟨h1,h2⟩
   have H':=zA H
   clear H
   go_enter Tryz.func57,Tryz.ntmps57
   go_wp2
   go_ret
   exact ⟨zDA (by rw [H'.out]),rfl⟩
  ·have H:inB n lo hi=false:=inB_no.2 (by omega)
   have H':=zA H
   clear H
   go_enter Tryz.func57,Tryz.ntmps57
   go_wp2
   go_ret
   exact ⟨zDA (by rw [H'.out];first | done | (simp;done) | (simp;omega)),rfl⟩
 ·have H:inB n lo hi=false:=inB_no.2 (by omega)
  have H':=zA H
  clear H
  go_enter Tryz.func57,Tryz.ntmps57
  go_wp2
  go_ret
  exact ⟨zDA (by rw [H'.out]),rfl⟩
theorem zBU (p b l a s:Int) (w:World) :
  Calls Tryz.prog 27 #[.agg #[.int .i64 p,.int .i64 b,.int .i64 l,.int .i64 a,.int .i64 s]] w fun e w'=>e=.returned (.int .i64 (zAF ⟨p,b,l,a,s⟩))∧Below w.heap.size w w':=by
 have hw:inB b 0 400=true→wrap64 (400 - b)=400 - b:=fun h=>by
  have:=inB_iff.1 h
  exact zOE (by omega) (by omega)
 go_enter Tryz.func27,Tryz.ntmps27
 go_wp2_with (go_at_call 57;refine (zAh _ _ _ _).mono ?_;rintro e w' ⟨rfl,rfl⟩)
 all_goals
  go_ret
  exact ⟨zBR (by clear hw;simp_all [zAF,okB]),(Below.refl _ _).alloc (Nat.le_refl _) _⟩
theorem zLl {b n:Int} (hb:I64 b) (hn:I64 n) (h:b≤n):IntKind.u64.wrap (IntKind.u64.wrap n - IntKind.u64.wrap b)=n - b:=by
 obtain ⟨b0,b1⟩:=hb
 obtain ⟨n0,n1⟩:=hn
 simp only [IntKind.wrap_u64]
 omega
theorem zF7 (p b l a s n:Int) (hb:I64 b) (hl:I64 l) (hn:I64 n) (w:World) :
  Calls Tryz.prog 79 #[.agg #[.int .i64 p,.int .i64 b,.int .i64 l,.int .i64 a,.int .i64 s],.int .i64 n] w fun e w'=>e=.returned (.bool (zCE b l n))∧Below w.heap.size w w':=by
 obtain ⟨b0,b1⟩:=hb
 obtain ⟨l0,l1⟩:=hl
 obtain ⟨n0,n1⟩:=hn
 go_enter Tryz.func79,Tryz.ntmps79
 have hd:b≤n→IntKind.u64.wrap (IntKind.u64.wrap n - IntKind.u64.wrap b)=n - b:=fun h=>zLl ⟨b0,b1⟩ ⟨n0,n1⟩ h
 have HD:=zA hd
 clear hd
 go_wp2
 all_goals
  go_ret
  refine ⟨zDA ?_,(Below.refl _ _).alloc (Nat.le_refl _) _⟩
  unfold zCE
  first
  | (rw [HD.out (by omega),decide_eq_decide];omega)
  | (symm;rw [decide_eq_false_iff_not];omega)
theorem zBY (p b l a s:Int) (w:World) :
  Calls Tryz.prog 55 #[.agg #[.int .i64 p,.int .i64 b,.int .i64 l,.int .i64 a,.int .i64 s]] w fun e w'=>e=.returned (.int .i64 (zAT ⟨p,b,l,a,s⟩))∧Below w.heap.size w w':=by
 cases h:okB ⟨p,b,l,a,s⟩
 ·have hk:zAF ⟨p,b,l,a,s⟩=1:=by simp [zAF,h]
  have hp:zAT ⟨p,b,l,a,s⟩=1:=by simp [zAT,h]
  have HP:=zA hp
  clear hp h
  go_enter Tryz.func55,Tryz.ntmps55
  go_wp2_with (go_at_call 27;refine (zBU _ _ _ _ _ _).mono ?_;rintro e w1 ⟨rfl,hb1⟩;obtain ⟨c1,f1,z1⟩:=zCk hb1)
  go_ret
  exact ⟨zBR HP.out.symm,by repeat (first | exact Below.refl _ _ | refine zG ?_ _ | refine zI ?_ ‹_›)⟩
 ·have hk:zAF ⟨p,b,l,a,s⟩=0:=by simp [zAF,h]
  by_cases hs:s=0
  ·have hp:zAT ⟨p,b,l,a,s⟩=0:=(zBW _).2 ⟨(zBK _).1 h,hs⟩
   have HP:=zA hp
   have hs':(s==0)=true:=by simp [hs]
   have HS:=zA hs
   clear hp h hs
   go_enter Tryz.func55,Tryz.ntmps55
   go_wp2_with (go_at_call 27;refine (zBU _ _ _ _ _ _).mono ?_;rintro e w1 ⟨rfl,hb1⟩;obtain ⟨c1,f1,z1⟩:=zCk hb1)
   go_ret
   exact ⟨zBR HP.out.symm,by repeat (first | exact Below.refl _ _ | refine zG ?_ _ | refine zI ?_ ‹_›)⟩
  ·have hp:zAT ⟨p,b,l,a,s⟩=11:=by simp [zAT,h,hs]
   have HP:=zA hp
   have hs':(s==0)=false:=by simp [hs]
   clear hp h hs
   go_enter Tryz.func55,Tryz.ntmps55
   go_wp2_with (go_at_call 27;refine (zBU _ _ _ _ _ _).mono ?_;rintro e w1 ⟨rfl,hb1⟩;obtain ⟨c1,f1,z1⟩:=zCk hb1)
   go_ret
   exact ⟨zBR HP.out.symm,by repeat (first | exact Below.refl _ _ | refine zG ?_ _ | refine zI ?_ ‹_›)⟩
end
section
open Go.RowKit
theorem zEY (is:Bool) (n p b l a s:Int) (w:World) :
  Calls Tryz.prog 90 #[.agg #[.bool is,.int .i64 n,.int .i64 p,.int .i64 b,.int .i64 l,.int .i64 a,.int .i64 s]] w
   fun e w'=>e=.returned (.int .i64 (zAJ ⟨is,n,⟨p,b,l,a,s⟩⟩))∧Below w.heap.size w w':=by
 cases is
 ·by_cases h1:n < -2147483648
  ·have e:zAJ ⟨false,n,⟨p,b,l,a,s⟩⟩=1:=by simp [zAJ,h1]
   rw [e]
   clear e
   go_enter Tryz.func90,Tryz.ntmps90
   go_wp2
   go_ret
   exact ⟨rfl,zG (Below.refl _ _) _⟩
  ·by_cases h2:2147483647 < n
   ·have e:zAJ ⟨false,n,⟨p,b,l,a,s⟩⟩=1:=by simp [zAJ,h2]
    rw [e]
    clear e
    go_enter Tryz.func90,Tryz.ntmps90
    go_wp2
    go_ret
    exact ⟨rfl,zG (Below.refl _ _) _⟩
   ·have e:zAJ ⟨false,n,⟨p,b,l,a,s⟩⟩=if p==0&&b==0&&l==0&&a==0&&s==0 then 0 else 5:=by
     simp only [zAJ,Bool.false_eq_true,if_false]
     rw [if_neg (by omega)]
     simp only [zLj,Bool.and_eq_true,beq_iff_eq,and_assoc]
    rw [e]
    clear e
    cases gp:(p==0)
    ·go_enter Tryz.func90,Tryz.ntmps90
     go_wp2
     go_ret
     exact ⟨rfl,zG (Below.refl _ _) _⟩
    ·cases gb:(b==0)
     ·go_enter Tryz.func90,Tryz.ntmps90
      go_wp2
      go_ret
      exact ⟨rfl,zG (Below.refl _ _) _⟩
     ·cases gl:(l==0)
      ·go_enter Tryz.func90,Tryz.ntmps90
       go_wp2
       go_ret
       exact ⟨rfl,zG (Below.refl _ _) _⟩
      ·cases ga:(a==0)
       ·go_enter Tryz.func90,Tryz.ntmps90
        go_wp2
        go_ret
        exact ⟨rfl,zG (Below.refl _ _) _⟩
       ·cases gs:(s==0)
        ·go_enter Tryz.func90,Tryz.ntmps90
         go_wp2
         go_ret
         exact ⟨rfl,zG (Below.refl _ _) _⟩
        ·go_enter Tryz.func90,Tryz.ntmps90
         go_wp2
         go_ret
         exact ⟨rfl,zG (Below.refl _ _) _⟩
 ·have ck:=fun W=>zBU p b l a s W
  cases h:okB ⟨p,b,l,a,s⟩
  ·have e:zAJ ⟨true,n,⟨p,b,l,a,s⟩⟩=1:=by simp [zAJ,h]
   have e2:zAF ⟨p,b,l,a,s⟩=1:=by simp [zAF,h]
   rw [e]
   rw [e2] at ck
   have CK:=zA ck
   clear e e2 ck h
   go_enter Tryz.func90,Tryz.ntmps90
   go_wp2_with (first
     | (go_at_call 27;((with_reducible refine (CK.out _).mono ?_);rintro e w1 ⟨rfl,hb1⟩;have vB:Bk w1 w.heap.size 56 #[.bool true,.int .i64 n,.int .i64 p,.int .i64 b,.int .i64 l,.int .i64 a,.int .i64 s]:=zH hb1 (by repeat (first | assumption | with_reducible exact zM _ _ _ | (with_reducible refine zO _ _ ?_;simp;done) | with_reducible refine zP ?_ | with_reducible refine zN _ ?_ | (with_reducible refine zU _ (by omega) ?_) | with_reducible apply zT | rfl));obtain ⟨v0,v1,v2,v3,v4,v5,v6⟩:=zBs vB)))
   go_ret
   refine ⟨rfl,?_⟩
   repeat (first | with_reducible exact Below.refl _ _ | with_reducible refine zG ?_ _ | with_reducible refine zJ ?_ | with_reducible refine zK ?_ (by first | omega | (simp;done) | (simp;omega)) _ | with_reducible refine zI ?_ ‹_›)
  ·have e2:zAF ⟨p,b,l,a,s⟩=0:=by simp [zAF,h]
   rw [e2] at ck
   by_cases hn:n=0
   ·have e:zAJ ⟨true,n,⟨p,b,l,a,s⟩⟩=0:=by simp [zAJ,h,hn]
    have g:(n==0)=true:=by simp [hn]
    rw [e]
    have CK:=zA ck
    have HN:=zA hn
    clear e e2 ck h hn
    go_enter Tryz.func90,Tryz.ntmps90
    go_wp2_with (first
      | (go_at_call 27;((with_reducible refine (CK.out _).mono ?_);rintro e w1 ⟨rfl,hb1⟩;have vB:Bk w1 w.heap.size 56 #[.bool true,.int .i64 n,.int .i64 p,.int .i64 b,.int .i64 l,.int .i64 a,.int .i64 s]:=zH hb1 (by repeat (first | assumption | with_reducible exact zM _ _ _ | (with_reducible refine zO _ _ ?_;simp;done) | with_reducible refine zP ?_ | with_reducible refine zN _ ?_ | (with_reducible refine zU _ (by omega) ?_) | with_reducible apply zT | rfl));obtain ⟨v0,v1,v2,v3,v4,v5,v6⟩:=zBs vB)))
    go_ret
    refine ⟨rfl,?_⟩
    repeat (first | with_reducible exact Below.refl _ _ | with_reducible refine zG ?_ _ | with_reducible refine zJ ?_ | with_reducible refine zK ?_ (by first | omega | (simp;done) | (simp;omega)) _ | with_reducible refine zI ?_ ‹_›)
   ·have e:zAJ ⟨true,n,⟨p,b,l,a,s⟩⟩=5:=by simp [zAJ,h,hn]
    have g:(n==0)=false:=by simp [hn]
    have g2:(n != 0)=true:=by simp [hn]
    rw [e]
    have CK:=zA ck
    clear e e2 ck h hn
    go_enter Tryz.func90,Tryz.ntmps90
    go_wp2_with (first
      | (go_at_call 27;((with_reducible refine (CK.out _).mono ?_);rintro e w1 ⟨rfl,hb1⟩;have vB:Bk w1 w.heap.size 56 #[.bool true,.int .i64 n,.int .i64 p,.int .i64 b,.int .i64 l,.int .i64 a,.int .i64 s]:=zH hb1 (by repeat (first | assumption | with_reducible exact zM _ _ _ | (with_reducible refine zO _ _ ?_;simp;done) | with_reducible refine zP ?_ | with_reducible refine zN _ ?_ | (with_reducible refine zU _ (by omega) ?_) | with_reducible apply zT | rfl));obtain ⟨v0,v1,v2,v3,v4,v5,v6⟩:=zBs vB)))
    go_ret
    refine ⟨rfl,?_⟩
    repeat (first | with_reducible exact Below.refl _ _ | with_reducible refine zG ?_ _ | with_reducible refine zJ ?_ | with_reducible refine zK ?_ (by first | omega | (simp;done) | (simp;omega)) _ | with_reducible refine zI ?_ ‹_›)
end
section
open Go.RowKit
theorem zHG {m:List ValV} {k:Nat} (hk:k < m.length):zAi (m.drop k)=if zAJ (m.getD k zeroV)=0 then zAi (m.drop (k+1)) else zAJ (m.getD k zeroV):=by
 rw [List.drop_eq_getElem_cons hk]
 simp [zAi,hk]
theorem zF1 (ao:Option Addr) (n cap:Nat) (vs:List ValV) (w:World) (h:Sl w ao n vs) :
  Calls Tryz.prog 67 #[.slice ao n cap] w fun e w'=>e=.returned (.int .i64 (zA4 vs))∧Below w.heap.size w w':=by
 have hl:=h.len
 have hm:=h.max
 unfold maxLen at hm
 by_cases h4:400 < n
 ·have e:zA4 vs=2:=by unfold zA4;rw [if_pos (by omega)]
  rw [e]
  clear e
  go_enter Tryz.func67,Tryz.ntmps67
  go_wp2
  go_ret
  exact ⟨rfl,Below.refl _ _⟩
 ·have e:zA4 vs=zAi (vs.drop 0):=by unfold zA4;rw [if_neg (by omega),List.drop_zero]
  rw [e]
  clear e
  go_enter Tryz.func67,Tryz.ntmps67
  go_wp2
  go_loopw [11] (fun i wr=>∃ k:Nat,k≤n∧i=.int .i64 k∧zAi (vs.drop 0)=zAi (vs.drop k)∧Below w.heap.size w wr) (fun i _=>n - (intOf i).toNat)
  case atStart=>exact ⟨0,Nat.zero_le _,rfl,rfl,Below.refl _ _⟩
  case round =>
   obtain ⟨k,hk,rfl,hf,hb⟩:=hrel
   by_cases hlt:k < n
   ·have hs:=h
    obtain ⟨a,rfl,ha,e0,e1,e2,e3,e4,e5,e6⟩:=zEl (hs.below hb) hlt
    clear hs
    have hd:=zHG (m:=vs) (k:=k) (by omega)
    generalize vs.getD k zeroV=x at *
    obtain ⟨is,nn,p,b,l,at_,s⟩:=x
    simp only at e0 e1 e2 e3 e4 e5 e6
    have cc:=fun W=>zEY is nn p b l at_ s W
    by_cases hc:zAJ ⟨is,nn,⟨p,b,l,at_,s⟩⟩=0
    ·rw [if_pos hc] at hd
     rw [hc] at cc
     have CC:=zA cc
     have HF:=zA (hf.trans hd)
     have HB:=zA hb
     clear cc hf hd hc hb h
     go_wp2_with (go_at_call 90;((with_reducible refine (CC.out _).mono ?_);rintro e w1 ⟨rfl,hb1⟩))
     have HBN:=zA (show Below w.heap.size w w1 from zI (zG HB.out _) hb1)
     go_roundw
     case rel=>exact ⟨k+1,by omega,by go_num,HF.out,HBN.out⟩
     case measure=>simp [intOf];omega
    ·rw [if_neg hc] at hd
     generalize zAJ ⟨is,nn,⟨p,b,l,at_,s⟩⟩=c at *
     have g1:(c==0)=false:=by simpa using hc
     have g2:(c != 0)=true:=by simpa using hc
     have CC:=zA cc
     have HF:=zA (hf.trans hd)
     have HB:=zA hb
     clear cc hf hd hc hb h
     go_wp2_with (go_at_call 90;((with_reducible refine (CC.out _).mono ?_);rintro e w1 ⟨rfl,hb1⟩))
     go_ret
     exact ⟨zBR HF.out.symm,zI (zG HB.out _) hb1⟩
   ·have HF:=zA hf
    have HB:=zA hb
    have hz:zAi (vs.drop k)=0:=by rw [List.drop_of_length_le (by omega)];rfl
    have HZ:=zA hz
    clear hf hb h hz
    go_wp2
    go_ret
    exact ⟨zBR (HZ.out.symm.trans HF.out.symm),HB.out⟩
end
section
open Go.RowKit
theorem zBg (n:Int) (w:World) :
  Calls Tryz.prog 39 #[.int .i64 n] w fun e w'=>e=.returned (.int .i64 (wrap32 n))∧w=w':=by
 go_enter Tryz.func39,Tryz.ntmps39
 go_wp2
 go_ret
 exact ⟨zBR (zOF n),rfl⟩
theorem zN9 (a b:Int) (w:World) :
  Calls Tryz.prog 141 #[.int .i64 a,.int .i64 b] w fun e w'=>e=.returned (.int .i64 (zOk a b))∧w=w':=by
 have ha:=zFm a
 have hb:=zFm b
 go_enter Tryz.func141,Tryz.ntmps141
 go_wp2_with (go_at_call 39;refine (zBg _ _).mono ?_;rintro e w' ⟨rfl,rfl⟩)
 go_ret
 exact ⟨rfl,rfl⟩
theorem zNB (a b:Int) (w:World) :
  Calls Tryz.prog 142 #[.int .i64 a,.int .i64 b] w fun e w'=>e=.returned (.int .i64 (zOH a b))∧w=w':=by
 have ha:=zFm a
 have hb:=zFm b
 go_enter Tryz.func142,Tryz.ntmps142
 go_wp2_with (go_at_call 39;refine (zBg _ _).mono ?_;rintro e w' ⟨rfl,rfl⟩)
 go_ret
 exact ⟨rfl,rfl⟩
theorem zNd (a b:Int) (w:World) :
  Calls Tryz.prog 143 #[.int .i64 a,.int .i64 b] w fun e w'=>e=.returned (.int .i64 (zOR a b))∧w=w':=by
 go_enter Tryz.func143,Tryz.ntmps143
 go_wp2_with (go_at_call 39;refine (zBg _ _).mono ?_;rintro e w' ⟨rfl,rfl⟩)
 go_ret
 exact ⟨zBR (zKQ _),rfl⟩
theorem zMQ (a b:Int) (w:World) :
  Calls Tryz.prog 144 #[.int .i64 a,.int .i64 b] w fun e w'=>e=.returned (.int .i64 (zET a b))∧w=w':=by
 by_cases h:wrap32 a < wrap32 b
 ·have hl:zET a b=1:=by simp [zET,h]
  have Hl:=zA hl
  clear hl
  go_enter Tryz.func144,Tryz.ntmps144
  go_wp2_with (go_at_call 39;refine (zBg _ _).mono ?_;rintro e w' ⟨rfl,rfl⟩)
  go_ret
  exact ⟨zBR Hl.out.symm,rfl⟩
 ·have hl:zET a b=0:=by simp [zET,h]
  have Hl:=zA hl
  clear hl
  go_enter Tryz.func144,Tryz.ntmps144
  go_wp2_with (go_at_call 39;refine (zBg _ _).mono ?_;rintro e w' ⟨rfl,rfl⟩)
  go_ret
  exact ⟨zBR Hl.out.symm,rfl⟩
theorem zMq (a b:Int) (h:wrap32 b=0) (w:World) :
  Calls Tryz.prog 146 #[.int .i64 a,.int .i64 b] w fun e w'=>e=.returned (.tuple #[.int .i64 0,.int .i64 14])∧w=w':=by
 go_enter Tryz.func146,Tryz.ntmps146
 go_wp2_with (go_at_call 39;refine (zBg _ _).mono ?_;rintro e w' ⟨rfl,rfl⟩)
 go_ret2
 exact ⟨rfl,rfl⟩
theorem zN1 (a b:Int) (h:wrap32 b≠0) (w:World) :
  Calls Tryz.prog 146 #[.int .i64 a,.int .i64 b] w fun e w'=>e=.returned (.tuple #[.int .i64 (zMr a b),.int .i64 0])∧w=w':=by
 have hb:(wrap32 b==0)=false:=by rw [beq_eq_false_iff_ne];exact h
 go_enter Tryz.func146,Tryz.ntmps146
 go_wp2_with (go_at_call 39;refine (zBg _ _).mono ?_;rintro e w' ⟨rfl,rfl⟩)
 go_ret2
 exact ⟨zOJ (zOG (zKQ _)) rfl,rfl⟩
theorem zHY (n m:Int) (w:World) (hm:0 < m) (hm2:m≤4294967296) :
  Calls Tryz.prog 15 #[.int .i64 n,.int .i64 m] w fun e w'=>e=.returned (.int .i64 (n % m))∧w=w':=by
 have hb:=zM9 n m hm
 by_cases hh:n.tmod m < 0
 ·go_enter Tryz.func15,Tryz.ntmps15
  go_wp2
  go_ret
  exact ⟨zBR (by rw [←zHX n m hm,if_pos hh]),rfl⟩
 ·go_enter Tryz.func15,Tryz.ntmps15
  go_wp2
  go_ret
  exact ⟨zBR (by rw [←zHX n m hm,if_neg (by omega)]),rfl⟩
end
end Go.Proofs.YtlpejagkadalbaaGreatDoor
