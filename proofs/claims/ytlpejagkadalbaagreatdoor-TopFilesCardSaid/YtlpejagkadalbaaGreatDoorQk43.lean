import Derived.Test.YtlpejagkadalbaaGreatDoorQk42
set_option maxHeartbeats 40000000
set_option maxRecDepth 100000
set_option linter.unusedVariables false
set_option linter.unusedSimpArgs false
namespace Go.Proofs.YtlpejagkadalbaaGreatDoor
section
open Go Go.RowKit
theorem zLi (b:UInt8) (l:List UInt8):zAU 1 (b::l)=b.toNat:=by simp [zAU]
theorem zLg (k:Nat) (l:List UInt8):zB4 (k+1) l=((zAU 4 l:Int) + -2147483648)::zB4 k (l.drop 4):=by
 unfold zB4
 rw [List.range_succ_eq_map,List.map_cons,List.map_map]
 refine congr (congrArg _ (by simp)) ?_
 refine List.map_congr_left fun i _=>?_
 show (zAU 4 (l.drop (4*(i+1))):Int) + -2147483648=(zAU 4 ((l.drop 4).drop (4*i)):Int) + -2147483648
 rw [List.drop_drop,show 4+4*i=4*(i+1) by omega]
theorem zLh {n:Int} (h : -2147483648≤n∧n≤2147483647) (r:List UInt8):(zAU 4 (zBW n++r):Int) + -2147483648=n:=by
 unfold zBW
 simp only [List.cons_append,List.nil_append,zAU,List.getD_cons_zero,List.getD_cons_succ,zCI]
 omega
theorem zEs:∀ {l:List Int} {r:List UInt8},(∀ n∈l,-2147483648≤n∧n≤2147483647)→zB4 l.length (l.flatMap zBW++r)=l
 | [],r,_=>rfl
 | n::l,r,h=>by
  rw [List.length_cons,zLg,List.flatMap_cons,List.append_assoc,zLh (h n (by simp))]
  rw [show (zBW n++(l.flatMap zBW++r)).drop 4=l.flatMap zBW++r from rfl,zEs fun x hx=>h x (List.mem_cons_of_mem _ hx)]
theorem zII:∀ (k:Nat) (l:List UInt8),zAY (k+1) l=(zDB l::(zAY k (zC1 l)).1,(zAY k (zC1 l)).2)
 | 0,l=>rfl
 | k+1,l=>by
  rw [zAY,zII k l]
  simp only [zAY,List.cons_append]
theorem zLl {x:NamV} (h:x.name.size≤255∧0≤x.at_∧x.at_≤255) (r:List UInt8):zDB (zAu x++r)=x∧zC1 (zAu x++r)=r:=by
 obtain ⟨h1,h2,h3⟩:=h
 have hc:(zAD x.name.size).toNat=x.name.size:=by rw [zCI];omega
 have ha:((zAD x.at_).toNat:Int)=x.at_:=by rw [zCI];omega
 have hl:x.name.data.toList.length=x.name.size:=by rw [Array.length_toList];rfl
 have e:zAu x++r=zAD x.name.size::(x.name.data.toList++(zAD x.at_::r)):=by
  rw [zAu,List.cons_append,List.append_assoc];rfl
 rw [e]
 unfold zDB zC1
 rw [zLi,hc,List.drop_succ_cons,List.drop_zero,List.take_left' hl,List.drop_left' hl,zLi,ha]
 exact ⟨by rw [show ba x.name.data.toList=x.name from zCT _],rfl⟩
theorem zFD:∀ {l:List NamV} {r:List UInt8},(∀ x∈l,x.name.size≤255∧0≤x.at_∧x.at_≤255)→zAY l.length (l.flatMap zAu++r)=(l,r)
 | [],r,_=>rfl
 | x::l,r,h=>by
  obtain ⟨e1,e2⟩:=zLl (h x (by simp)) (l.flatMap zAu++r)
  rw [List.length_cons,zII,List.flatMap_cons,List.append_assoc,e1,e2,zFD fun y hy=>h y (List.mem_cons_of_mem _ hy)]
theorem zNF {m:ModV} (h:FileOk m):zHj ((zCd m).drop 3)=m:=by
 have c1:(zAD m.code.length).toNat=m.code.length:=by have:=h.l1;rw [zCI];omega
 have c2:(zAD m.data.length).toNat=m.data.length:=by have:=h.l2;rw [zCI];omega
 have c3:(zAD m.ex.length).toNat=m.ex.length:=by have:=h.l3;rw [zCI];omega
 have c4:(zAD m.im.length).toNat=m.im.length:=by have:=h.l4;rw [zCI];omega
 obtain ⟨R,hR⟩:∃ R,R=m.code.flatMap zBW++(m.data.flatMap zBW++(m.ex.flatMap zAu++(m.im.flatMap zAu++[]))):=⟨_,rfl⟩
 have e:(zCd m).drop 3=zAD m.code.length::zAD m.data.length::zAD m.ex.length::zAD m.im.length::R:=by
  rw [hR];unfold zCd zDD
  simp only [List.cons_append,List.nil_append,List.append_assoc,List.append_nil]
  rfl
 have f1:R.drop (4*m.code.length)=m.data.flatMap zBW++(m.ex.flatMap zAu++(m.im.flatMap zAu++[])):=by rw [hR,List.drop_left' (zCY m.code)]
 have f2:(m.data.flatMap zBW++(m.ex.flatMap zAu++(m.im.flatMap zAu++[]))).drop (4*m.data.length)=m.ex.flatMap zAu++(m.im.flatMap zAu++[]):=by rw [List.drop_left' (zCY m.data)]
 rw [e]
 unfold zHj
 simp only [List.drop_succ_cons,List.drop_zero,zLi,c1,c2,c3,c4]
 rw [f1,f2,zFD h.e1]
 simp only
 rw [zFD h.e2,zEs h.n2,hR,zEs h.n1]
theorem zQ3 {m:ModV} (h:ModOk zR m):FileOk m :=
 ⟨by have:=h.l1;omega,by have:=h.l2;omega,by have:=h.l3;omega,by have:=h.l4;omega,h.n1,h.n2,
 fun x hx=>by obtain ⟨a,b,c⟩:=h.e1 x hx;have:=zCa a;have:=h.l1;exact ⟨by omega,b,by omega⟩,
 fun x hx=>by obtain ⟨a,b,c⟩:=h.i1 x hx;have:=zCa a;have:=h.l2;exact ⟨by omega,b,by omega⟩⟩
theorem zID (m:ModV):(zBv m).take ((zBv m).length - 2)=zCd m:=by
 unfold zBv
 rw [List.length_append,show (zDG (zCd m)).length=2 from rfl,Nat.add_sub_cancel,List.take_left]
theorem zG1 (m:ModV):zEn (zBv m):=by unfold zEn;rw [zID];rfl
theorem zHL {m:ModV} (h:ModOk zR m):zCt (zBv m)=m:=by unfold zCt;rw [zID];exact zNF (zQ3 h)
theorem zFF:∀ {l:List NamV},(∀ x∈l,x.name.size≤12)→zCx l≤12*l.length
 | [],_=>by simp [zCx]
 | x::l,h=>by
  have h1:=zFF (l:=l) fun y hy=>h y (List.mem_cons_of_mem _ hy)
  have h2:=h x (by simp)
  have e:zCx (x::l)=x.name.size+zCx l:=by unfold zCx;simp
  rw [e,List.length_cons]
  omega
theorem zMw {m:ModV} (h:ModOk zR m):9≤(zBv m).length∧(zBv m).length≤3000:=by
 have e:=zMx m
 have h1:=h.l1;have h2:=h.l2;have h3:=h.l3;have h4:=h.l4
 have n1:zCx m.ex≤12*m.ex.length:=zFF fun x hx=>zCa (h.e1 x hx).1
 have n2:zCx m.im≤12*m.im.length:=zFF fun x hx=>zCa (h.i1 x hx).1
 omega
theorem zKi (m:ModV) (h:ModOk zR m) (S:ByteArray) (hS:S.data.toList=zBv m) (w:World):Calls Tryz.prog 21 #[.string S] w fun e w'=>∃ r:ModR,e=.returned (.tuple #[.agg #[.slice r.code.a r.code.n r.code.c,.slice r.data.a r.data.n r.data.c,.slice r.ex.a r.ex.n r.ex.c,.slice r.im.a r.im.n r.im.c],.int .i64 0])∧r.has w' m∧RowAt w.heap.size r∧Below w.heap.size w w':=by
 have hz:=zMw h
 have hl:S.data.toList.length=S.size:=rfl
 rw [hS] at hl
 refine (zKj S w (by omega) (by omega) (by rw [hS];exact zG1 m)).mono ?_
 rw [hS]
 rintro e w' ⟨h1,hb⟩
 rcases h1 with ⟨er,rfl,hw⟩ | ⟨r,rfl,hr,_⟩
 ·exfalso
  rcases hw with ⟨a,_⟩ | ⟨a,_⟩ | ⟨_,_,a,_⟩ | ⟨_,_,_,a,_⟩
  ·omega
  ·omega
  ·exact a (zG1 m)
  ·exact a (by rw [zHL h];exact ⟨h,rfl⟩)
 ·rw [zHL h] at hr
  exact ⟨r,rfl,hr.1,hr.2,hb⟩
end
section
open Go Go.RowKit
theorem zEd {α:Type} [El α] {w w':World} {ao:Option Addr} {n:Nat} {xs:List α} {row:Option Nat} (h:Sl w ao n xs) (hg:w.grownBy w' row) (hr:∀ a,ao=some a→0 < n→row≠some a.block):Sl w' ao n xs:=by
 by_cases h0:0 < n
 ·exact h.grown hg (fun a ha _ e=>hr a ha h0 e.symm)
 ·obtain rfl:n=0:=by omega
  have:xs=[]:=List.eq_nil_of_length_eq_zero h.len
  subst this
  exact Sl.nil _ _
structure RowSep (row:Option Nat) (r:ModR):Prop where
 c:∀ a,r.code.a=some a→0 < r.code.n→row≠some a.block
 d:∀ a,r.data.a=some a→0 < r.data.n→row≠some a.block
 e:∀ a,r.ex.a=some a→0 < r.ex.n→row≠some a.block
 i:∀ a,r.im.a=some a→0 < r.im.n→row≠some a.block
theorem RowSep.no (r:ModR):RowSep none r:=by constructor<;>(intro a _ _ h;cases h)
theorem zNf {w w':World} {r:ModR} {m:ModV} {row:Option Nat} (h:r.has w m) (hg:w.grownBy w' row) (hs:RowSep row r):r.has w' m :=
 ⟨zEd h.code hg hs.c,zEd h.data hg hs.d,zEd h.ex hg hs.e,zEd h.im hg hs.i,h.le,h.wc,h.wd,h.we,h.wi⟩
theorem RowAt.sep {B:Nat} {r:ModR} (h:RowAt B r) {g:Nat} (hg:g < B):RowSep (some g) r :=
 ⟨fun a ha _ e=>by have:=h.c a ha;injection e with e;omega,fun a ha _ e=>by have:=h.d a ha;injection e with e;omega,fun a ha _ e=>by have:=h.e a ha;injection e with e;omega,fun a ha _ e=>by have:=h.i a ha;injection e with e;omega⟩
theorem zG4 {α:Type} [El α] {w:World} {ao:Option Addr} {n:Nat} {xs:List α} (h:Sl w ao n xs) (a:Addr) (ha:ao=some a) (hn:0 < n):a.block < w.heap.size:=by
 obtain ⟨a',e,hb,_⟩:=h.row hn
 rw [ha] at e
 injection e with e
 subst e
 exact hb
theorem zQD {w:World} {r:ModR} {m:ModV} (h:r.has w m) {g:Nat} (hg:w.heap.size≤g):RowSep (some g) r :=
 ⟨fun a ha hn e=>by have:=zG4 h.code a ha hn;injection e with e;omega,fun a ha hn e=>by have:=zG4 h.data a ha hn;injection e with e;omega,fun a ha hn e=>by have:=zG4 h.ex a ha hn;injection e with e;omega,fun a ha hn e=>by have:=zG4 h.im a ha hn;injection e with e;omega⟩
end
section
open Go Go.ChangeShapes Go.WideShapes Go.ChangeAt Go.RowKit
theorem jfA:(Rows.topFilesRow.inPlace==Tryz.pinned.checked.prog.inPlace 5)=true:=by kernel_rfl
theorem jfB:(Rows.topFilesRow.unfollowed==Tryz.pinned.checked.prog.unfollowed 5)=true:=by kernel_rfl
theorem jfC:(Rows.topFilesRow.recurses==Tryz.pinned.checked.prog.recurses 5)=true:=by kernel_rfl
theorem jfD:(Rows.topFilesRow.named==Tryz.pinned.checked.prog.varsNamed 5)=true:=by kernel_rfl
theorem jf:joinedFacts Tryz.pinned.checked.prog 5 Tryz.f5 (OpenSpec.ofChange Rows.topFilesSpec).bare Rows.topFilesRow=true:=by
 unfold joinedFacts
 rw [jfA,jfB,jfC,jfD]
 kernel_rfl
end
end Go.Proofs.YtlpejagkadalbaaGreatDoor
