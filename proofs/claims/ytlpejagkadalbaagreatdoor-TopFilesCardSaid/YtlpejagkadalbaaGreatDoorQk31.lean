import Derived.Test.YtlpejagkadalbaaGreatDoorQk30
set_option maxHeartbeats 40000000
set_option maxRecDepth 100000
set_option linter.unusedVariables false
set_option linter.unusedSimpArgs false
namespace Go.Proofs.YtlpejagkadalbaaGreatDoor
open Go Go.RowKit Go.Joins
def zAU:Nat→List UInt8→Nat
 | 0,_=>0
 | k+1,l=>zAU k l*256+(l.getD k 0).toNat
theorem zCh:∀ (k:Nat) (l:List UInt8),zAU k l < 256 ^ k
 | 0,_=>by simp [zAU]
 | k+1,l=>by
  have h:=zCh k l
  have hc:=(l.getD k 0).toNat_lt
  rw [zAU,Nat.pow_succ]
  omega
def zB4 (k:Nat) (l:List UInt8):List Int:=(List.range k).map fun i=>(zAU 4 (l.drop (4*i)):Int) + -2147483648
theorem zLf (k:Nat) (l:List UInt8):zB4 (k+1) l=zB4 k l++[(zAU 4 (l.drop (4*k)):Int) + -2147483648]:=by unfold zB4;rw [List.range_succ,List.map_append];rfl
theorem zFl (k:Nat) (l:List UInt8):(zB4 k l).length=k:=by simp [zB4]
def zDB (l:List UInt8):NamV:=⟨ba ((l.drop 1).take (zAU 1 l)),(zAU 1 ((l.drop 1).drop (zAU 1 l)):Int)⟩
def zC1 (l:List UInt8):List UInt8:=((l.drop 1).drop (zAU 1 l)).drop 1
def zAY:Nat→List UInt8→List NamV×List UInt8
 | 0,l=>([],l)
 | k+1,l=>((zAY k l).1++[zDB (zAY k l).2],zC1 (zAY k l).2)
theorem zFE:∀ (k:Nat) (l:List UInt8),(zAY k l).1.length=k
 | 0,_=>rfl
 | k+1,l=>by rw [zAY,List.length_append,zFE k l];rfl
theorem zNA (l:List UInt8):(zC1 l).length≤l.length:=by unfold zC1;simp only [List.length_drop];omega
theorem zEh:∀ (k:Nat) (l:List UInt8),(zAY k l).2.length≤l.length
 | 0,_=>Nat.le_refl _
 | k+1,l=>Nat.le_trans (zNA _) (zEh k l)
def min2 (a b:Int):Int:=if b < a then b else a
theorem zOa (ats:Array TypeId) (ty:TypeId) (a b:Int):Go.Builtin.min_ ats ty #[.int .i64 a,.int .i64 b]=pure (.int .i64 (min2 a b)):=by
 unfold Go.Builtin.min_ min2
 simp [Go.Builtin.min2]
attribute [local go_sem] zOa
theorem zNi (l:List UInt8) (hl:l.length≤4000) (n:Nat) (hn:n≤1000) (g:Nat) (w:World) (hB:Bk w g 125 #[.string (ba l)]) :
  Calls Tryz.prog 78 #[.pointer (some ⟨g,0,none⟩),.int .i64 n] w fun e w'=>e=.returned (.string (ba (l.take n)))∧w'=w.setCell ⟨g,0,none⟩ (.string (ba (l.drop n))):=by
 obtain ⟨s,hs⟩:∃ s,s=ba l:=⟨_,rfl⟩
 have hsz:s.size=l.length:=by rw [hs];exact zHV l
 rw [←hs] at hB
 have c0:=hB.cell 0
 have cL:=hB.lt
 have cF:=fun i=>Bk.frozen hB i
 simp only [List.getElem?_toArray,List.getElem?_cons_zero] at c0
 obtain ⟨k,hk,hk2⟩:∃ k:Nat,min2 (n:Int) (s.size:Int)=k∧k=min n l.length:=⟨min n l.length,by unfold min2;rw [hsz];split<;>omega,rfl⟩
 have k0:k≤s.size:=by omega
 have k1:k≤1000:=by omega
 have e1:s.extract 0 k=ba (l.take n):=by
  rw [hs];refine ByteArray.ext ?_
  apply Array.ext'
  simp only [ba,ByteArray.data_extract,Array.toList_extract,List.extract_eq_take_drop,List.drop_zero]
  rw [hk2,Nat.sub_zero,List.take_eq_take_iff]
  omega
 have e2:s.extract k s.size=ba (l.drop n):=by
  rw [hs];refine ByteArray.ext ?_
  apply Array.ext'
  simp only [ba,ByteArray.data_extract,Array.toList_extract,List.extract_eq_take_drop]
  rw [List.take_of_length_le (by rw [List.length_drop];have:=zHV l;omega)]
  rcases Nat.le_total n l.length with h | h
  ·rw [show k=n by omega]
  ·rw [List.drop_of_length_le (by show l.length≤k;omega),List.drop_of_length_le h]
 have HK:=zA hk
 have E1:=zA e1
 have E2:=zA e2
 clear hB e1 e2 hk2 hs hsz hl hn
 go_enter Tryz.func78,Tryz.ntmps78
 go_upto_region 2 with (fail)
 go_wp2
 go_ret
 rw [←E1.out,←E2.out]
 exact ⟨rfl,rfl⟩
structure RdSt2 (g:Nat) (l:List UInt8) (wl wr:World):Prop where
 b:Bk wr g 125 #[.string (ba l)]
 gr:wl.grownBy wr (some g)
theorem zJc {a b c:World} {r:Option Nat} (h:a.grownBy b r) (k:b.grownBy c r):a.grownBy c r :=
 ⟨k.os.trans h.os,k.tape.trans h.tape,k.output.trans h.output,Nat.le_trans h.size k.size,fun i hi hne=>(k.block i (Nat.lt_of_lt_of_le hi h.size) hne).trans (h.block i hi hne)⟩
theorem RdSt2.start {g:Nat} {l:List UInt8} {w:World} (hb:Bk w g 125 #[.string (ba l)]):RdSt2 g l w w:=⟨hb,⟨rfl,rfl,rfl,Nat.le_refl _,fun _ _ _=>rfl⟩⟩
theorem RdSt2.trans {g:Nat} {l l':List UInt8} {a b c:World} (h:RdSt2 g l a b) (k:RdSt2 g l' b c):RdSt2 g l' a c:=⟨k.b,zJc h.gr k.gr⟩
theorem RdSt2.below {g B:Nat} {l:List UInt8} {wl wr:World} (h:RdSt2 g l wl wr) (hB:B≤g) (hg:g < wl.heap.size):Below B wl wr:=(Below.refl B wl).grown h.gr (by omega) (fun k hk=>by injection hk with hk;omega)
theorem zPv {α:Type} [El α] {g:Nat} {l:List UInt8} {w w2 w3:World} {o:Obj} {T:TypeId} {v:Value} {xs:List α} (h:RdSt2 g l w w2) (hv:Own (w2.alloc o) w.heap.size T v xs) (hg:(w2.alloc o).grownBy w3 v.ownBlock) (hT:125≠T:=by decide):RdSt2 g l w w3:=by
 refine ⟨zAT (zN _ h.b) hv hT hg,⟨hg.os.trans h.gr.os,hg.tape.trans h.gr.tape,hg.output.trans h.gr.output,?_,fun i hi hne=>?_⟩⟩
 ·have:=hg.size;have:=h.gr.size;rw [World.size_alloc] at *;omega
 ·have h0:=h.gr.size
  refine (hg.block i (by rw [World.size_alloc];omega) (fun e=>?_)).trans ((Below.heap_alloc w2 o i (by omega)).trans (h.gr.block i hi hne))
  have:=(zBG hv e.symm).1
  omega
theorem zJd (l:List UInt8) (hl:l.length≤4000) (n:Nat) (hn:n≤1000) (g:Nat) (w:World) (hB:Bk w g 125 #[.string (ba l)]) :
  Calls Tryz.prog 78 #[.pointer (some ⟨g,0,none⟩),.int .i64 n] w fun e w'=>e=.returned (.string (ba (l.take n)))∧RdSt2 g (l.drop n) w w':=by
 refine (zNi l hl n hn g w hB).mono ?_
 rintro e w' ⟨he,rfl⟩
 exact ⟨he,zV hB rfl,zAp w g 0 _⟩
theorem zPT (c:UInt8):wrap64 (c.toNat:Int)=(c.toNat:Int):=by have:=c.toNat_lt;unfold wrap64;omega
theorem zNh (l:List UInt8) (j:Nat) (h:j < l.length):(l.drop j).take 1=[l.getD j 0]:=by
 rw [List.drop_eq_getElem_cons h,List.take_succ_cons,List.take_zero]
 simp [List.getD,List.getElem?_eq_getElem h]
theorem zGR (l:List UInt8) (hl:l.length≤4000) (n:Nat) (hn:n≤4) (g:Nat) (w:World) (hB:Bk w g 125 #[.string (ba l)]) :
  Calls Tryz.prog 51 #[.pointer (some ⟨g,0,none⟩),.int .i64 n] w fun e w'=>e=.returned (.int .i64 (zAU n l))∧RdSt2 g (l.drop n) w w':=by
 have ST:=zA (RdSt2.start hB)
 clear hB
 go_enter Tryz.func51,Tryz.ntmps51
 go_wp2
 go_loopw [5,8] (fun v i wr=>∃ j:Nat,j≤n∧i=.int .i64 j∧v=.int .i64 (zAU j l)∧RdSt2 g (l.drop j) w wr) (fun _ i _=>n - (intOf i).toNat)
 case atStart=>exact ⟨0,Nat.zero_le _,rfl,rfl,by simpa using ST.out⟩
 case round =>
  obtain ⟨j,hj,rfl,rfl,hst⟩:=hrel
  by_cases hlt:j < n
  ·have o1:(j:Int) < n:=by omega
   have hd:=zCh j l
   have hp:256 ^ j≤256 ^ 3:=Nat.pow_le_pow_right (by decide) (by omega)
   have hd2:zAU j l < 16777216:=by omega
   have tx:=zJd (l.drop j) (by rw [List.length_drop];omega) 1 (by decide) g wr hst.b
   rw [List.drop_drop] at tx
   have TX:=zA tx
   have HST:=zA hst
   have h2:zAU (j+1) l=zAU j l*256+(l.getD j 0).toNat:=rfl
   have hc:=(l.getD j 0).toNat_lt
   by_cases hjl:j < l.length
   ·rw [zNh l j hjl] at TX
    obtain ⟨c,hc0⟩:∃ c,l.getD j 0=c:=⟨_,rfl⟩
    rw [hc0] at TX h2 hc
    have h3:bits .or .i64 ((zAU j l:Int)*256) (c.toNat:Int)=(zAU j l:Int)*256+(c.toNat:Int) :=
     zOi 8 _ _ (by omega) (by omega) (by omega) (by omega) (by omega) (by omega)
    have HS:=zA h2
    have H3:=zA h3
    clear hst tx h2 h3 hc0 hd hp
    generalize zAU j l=q at *
    have TX':Hid (Calls Tryz.prog 78 #[.pointer (some ⟨g,0,none⟩),.int .i64 1] wr fun e w'=>e=.returned (.string ⟨#[c]⟩)∧RdSt2 g (l.drop (j+1)) wr w'):=TX
    go_wp2_with (go_at_call 78;((with_reducible refine TX'.out.mono ?_);rintro e w2 ⟨rfl,hs2⟩;have HS2:=zA (HST.out.trans hs2);clear hs2))
    go_roundw
    case rel=>exact ⟨j+1,by omega,by go_num,zI8 (by rw [HS.out];show bits .or .i64 ((q:Int)*256) (wrap64 (c.toNat:Int))=_;rw [zPT,H3.out];omega),HS2.out⟩
    case measure=>simp [intOf];omega
   ·have e0:(l.drop j).take 1=[]:=by rw [List.drop_of_length_le (by omega)];rfl
    have e1:l.getD j 0=0:=by simp [List.getD,List.getElem?_eq_none (show l.length≤j by omega)]
    rw [e0] at TX
    rw [e1] at h2
    have h2':zAU (j+1) l=zAU j l*256:=h2
    have HS:=zA h2'
    clear hst tx h2 h2' hd hp e0 e1 hc
    generalize zAU j l=q at *
    have TX':Hid (Calls Tryz.prog 78 #[.pointer (some ⟨g,0,none⟩),.int .i64 1] wr fun e w'=>e=.returned (.string ⟨#[]⟩)∧RdSt2 g (l.drop (j+1)) wr w'):=TX
    go_wp2_with (go_at_call 78;((with_reducible refine TX'.out.mono ?_);rintro e w2 ⟨rfl,hs2⟩;have HS2:=zA (HST.out.trans hs2);clear hs2))
    go_roundw
    case rel=>exact ⟨j+1,by omega,by go_num,zI8 (by rw [HS.out];omega),HS2.out⟩
    case measure=>simp [intOf];omega
  ·have o1:¬((j:Int) < n):=by omega
   obtain rfl:j=n:=by omega
   have HST:=zA hst
   clear hst
   go_wp2
   go_ret
   exact ⟨rfl,HST.out⟩
theorem zCo (l:List UInt8) (hl:l.length≤4000) (g:Nat) (w:World) (hB:Bk w g 125 #[.string (ba l)]) :
  Calls Tryz.prog 51 #[.pointer (some ⟨g,0,none⟩),.int .i64 1] w fun e w'=>e=.returned (.int .i64 (zAU 1 l))∧RdSt2 g (l.drop 1) w w':=zGR l hl 1 (by decide) g w hB
theorem zJg (l:List UInt8) (hl:l.length≤4000) (g:Nat) (w:World) (hB:Bk w g 125 #[.string (ba l)]) :
  Calls Tryz.prog 51 #[.pointer (some ⟨g,0,none⟩),.int .i64 4] w fun e w'=>e=.returned (.int .i64 (zAU 4 l))∧RdSt2 g (l.drop 4) w w':=zGR l hl 4 (by decide) g w hB
theorem zHK (l:List UInt8) (hl:l.length≤4000) (g:Nat) (w:World) (hB:Bk w g 125 #[.string (ba l)]) :
  Calls Tryz.prog 53 #[.pointer (some ⟨g,0,none⟩)] w fun e w'=>e=.returned (.tuple #[.string (zDB l).name,.int .i64 (zDB l).at_])∧RdSt2 g (zC1 l) w w':=by
 have n1:=zCo l hl g w hB
 have hk:=zCh 1 l
 have t2:=fun (W:World) (h:Bk W g 125 #[.string (ba (l.drop 1))])=>zJd (l.drop 1) (by rw [List.length_drop];omega) (zAU 1 l) (by omega) g W h
 have n3:=fun (W:World) (h:Bk W g 125 #[.string (ba ((l.drop 1).drop (zAU 1 l)))])=>zCo ((l.drop 1).drop (zAU 1 l)) (by simp only [List.length_drop];omega) g W h
 have ez:zDB l=⟨ba ((l.drop 1).take (zAU 1 l)),(zAU 1 ((l.drop 1).drop (zAU 1 l)):Int)⟩:=rfl
 have er:zC1 l=((l.drop 1).drop (zAU 1 l)).drop 1:=rfl
 rw [ez,er]
 simp only
 clear ez er hB hk
 obtain ⟨l3,hl3⟩:∃ l3,((l.drop 1).drop (zAU 1 l)).drop 1=l3:=⟨_,rfl⟩
 rw [hl3] at n3 ⊢
 clear hl3
 obtain ⟨l2,hl2⟩:∃ l2,(l.drop 1).drop (zAU 1 l)=l2:=⟨_,rfl⟩
 rw [hl2] at n3 t2 ⊢
 clear hl2
 obtain ⟨s1,hs1⟩:∃ s1,ba ((l.drop 1).take (zAU 1 l))=s1:=⟨_,rfl⟩
 rw [hs1] at t2 ⊢
 clear hs1
 obtain ⟨l1,hl1⟩:∃ l1,l.drop 1=l1:=⟨_,rfl⟩
 rw [hl1] at n1 t2
 clear hl1
 replace n1:=zA n1
 replace t2:=zA t2
 replace n3:=zA n3
 go_enter Tryz.func53,Tryz.ntmps53
 go_wp2_with (first
  | (go_at_call 51;((with_reducible refine n1.out.mono ?_);rintro e w2 ⟨rfl,hs2⟩;have H2:=zA hs2;clear hs2))
  | (go_at_call 78;((with_reducible refine (t2.out _ H2.out.b).mono ?_);rintro e w3 ⟨rfl,hs3⟩;have H3:=zA (H2.out.trans hs3);clear hs3))
  | (go_at_call 51;((with_reducible refine (n3.out _ H3.out.b).mono ?_);rintro e w4 ⟨rfl,hs4⟩;have H4:=zA (H3.out.trans hs4);clear hs4)))
 go_ret2
 exact ⟨rfl,H4.out⟩
theorem zNa:(Tryz.prog.info? 3).map (fun i=>(i.zero,i.size,i.bytes))=some (some (.int .i64 0),1,8):=by kernel_rfl
theorem zPc (w:World) (n:Int):Sl (w.alloc (.cells #[.int .i64 n] 3)) (some ⟨w.heap.size,0,none⟩) 1 [n]:=zAy _ _ rfl
theorem zFu (l:List UInt8) (hl:l.length≤4000) (n:Nat) (hn:n≤255) (g:Nat) (w:World) (hB:Bk w g 125 #[.string (ba l)]) :
  Calls Tryz.prog 52 #[.pointer (some ⟨g,0,none⟩),.int .i64 n] w fun e w'=>∃ v,e=.returned v∧Own w' w.heap.size 3 v (zB4 n l)∧RdSt2 g (l.drop (4*n)) w w':=by
 have ST:=zA (RdSt2.start hB)
 obtain ⟨i0,hi,hz0,hz1,hz2⟩:=info_parts zNa
 clear hB
 go_enter Tryz.func52,Tryz.ntmps52
 go_wp2
 go_loopw [4,6] (fun v i wr=>∃ j:Nat,j≤n∧i=.int .i64 j∧Own wr w.heap.size 3 v (zB4 j l)∧RdSt2 g (l.drop (4*j)) w wr) (fun _ i _=>n - (intOf i).toNat)
 case atStart=>exact ⟨0,Nat.zero_le _,rfl,Own.nil _ _ _,by simpa using ST.out⟩
 case round =>
  obtain ⟨j,hj,rfl,ho,hst⟩:=hrel
  obtain ⟨V,N,C,rfl⟩:=zZ ho
  by_cases hlt:j < n
  ·have o1:(j:Int) < n:=by omega
   have tx:=zJg (l.drop (4*j)) (by rw [List.length_drop];omega) g wr hst.b
   rw [List.drop_drop,show 4*j+4=4*(j+1) by omega] at tx
   have hd:=zCh 4 (l.drop (4*j))
   have h2:=zLf j l
   have hlen:=zFl j l
   have hsz:=hst.gr.size
   obtain ⟨q,hq⟩:∃ q,zAU 4 (l.drop (4*j))=q:=⟨_,rfl⟩
   rw [hq] at tx hd h2
   have TX:=zA tx
   have HST:=zA hst
   have HO:=zA ho
   have H2:=zA h2
   clear hst tx h2 ho hq
   have c63:(zB4 j l).length+1≤maxLen:=by unfold maxLen;omega
   have c47:((zB4 j l).length+1)*8≤140737488355328:=by omega
   go_wp2_with (first
    | (go_at_call 51;((with_reducible refine TX.out.mono ?_);rintro e w2 ⟨rfl,hs2⟩;have ho2:=HO.out.kept hs2.gr (.inr (zAX HO.out HST.out.b (by decide)));have hB2:w.heap.size≤(w2.alloc (.cells #[.int .i64 ((q:Int) + -2147483648)] 3)).heap.size:=(by have:=hs2.gr.size;rw [World.size_alloc];omega);have HS2:=zA (HST.out.trans hs2);have HO2:=zA (ho2.alloc (.cells #[.int .i64 ((q:Int) + -2147483648)] 3));clear hs2 ho2))
    | (at_builtin;go_loud (refine zY (α:=Int) rfl (.tmp 8) (.tmp 12) 36 rfl w.heap.size 3 i0 _ 8 Tryz.underlying36 hi hz0 hz1 hz2 rfl (.slice V N C) (zB4 j l) rfl HO2.out (some ⟨w2.heap.size,0,none⟩) 1 1 [(q:Int) + -2147483648] rfl (zPc w2 _) c63 c47 hB2 ?_;intro v3 w3 ho3 hg3 _;have hs3:=zPv HS2.out HO2.out hg3;have HO3:=zA ho3;have HS3:=zA hs3;clear ho3 hs3 hg3)))
   go_roundw
   case rel=>exact ⟨j+1,by omega,by go_num,by rw [H2.out];exact HO3.out,HS3.out⟩
   case measure=>simp [intOf];omega
  ·have o1:¬((j:Int) < n):=by omega
   obtain rfl:j=n:=by omega
   have HST:=zA hst
   have HO:=zA ho
   clear hst ho
   go_wp2
   go_ret
   exact ⟨_,rfl,HO.out,HST.out⟩
end Go.Proofs.YtlpejagkadalbaaGreatDoor
