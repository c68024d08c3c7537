import Derived.Test.YtlpejagkadalbaaGreatDoorQk37
set_option maxHeartbeats 40000000
set_option maxRecDepth 100000
set_option linter.unusedVariables false
set_option linter.unusedSimpArgs false
namespace Go.Proofs.YtlpejagkadalbaaGreatDoor
section
open Go Go.RowKit Go.Shelf
theorem zGV (e n f:Int) (oa ob:Option Addr) (on c d:Nat) (out:List Int) (w:World) (h1:Sl w oa on out) (h2:Sl w ob on out) :
  Calls Tryz.prog 12 #[.agg #[.int .i64 e,.int .i64 n,.slice oa on c,.int .i64 f],.agg #[.int .i64 e,.int .i64 n,.slice ob on d,.int .i64 f]] w fun r w'=>r=.returned (.bool true)∧Below w.heap.size w w':=by
 obtain ⟨w1,hw1⟩:∃ w1,w1=(w.alloc (.cells #[.int .i64 e,.int .i64 n,.slice oa on c,.int .i64 f] 43)).alloc (.cells #[.int .i64 e,.int .i64 n,.slice ob on d,.int .i64 f] 43):=⟨_,rfl⟩
 have h1w:Below w.heap.size w w1:=by rw [hw1];exact zG (zG (Below.refl _ _) _) _
 have b1:Bk w1 w.heap.size 43 #[.int .i64 e,.int .i64 n,.slice oa on c,.int .i64 f]:=by rw [hw1];exact zN _ (zM _ _ _)
 have b2:Bk w1 (w.heap.size+1) 43 #[.int .i64 e,.int .i64 n,.slice ob on d,.int .i64 f]:=by rw [hw1];exact zO _ _ (by simp)
 have eq:=zQ5 oa ob on on c d out out w1 (h1.below h1w) (h2.below h1w)
 simp only [decide_true] at eq
 obtain ⟨c0,c1,c2,c3⟩:=zT b1
 obtain ⟨d0,d1,d2,d3⟩:=zT b2
 have cL:=b1.lt
 have dL:=b2.lt
 have g1:(e==e)=true:=by simp
 have g2:(n==n)=true:=by simp
 have g3:(f==f)=true:=by simp
 have EQ:=zA eq
 have HW1:=zA hw1
 have H1W:=zA h1w
 clear eq hw1 h1w b1 b2 h1 h2
 go_enter Tryz.func12,Tryz.ntmps12
 go_upto_region 1 with (fail)
 rw [←HW1.out]
 go_wp2_with (go_at_call 36;((with_reducible refine (EQ.out).mono ?_);rintro e w2 ⟨rfl,hb2⟩;have HB2:=zA hb2;clear hb2))
 go_ret
 exact ⟨rfl,zI H1W.out HB2.out⟩
end
section
open El (cl)
open Go.Joins Go.ChangeShapes Go.WideShapes Go.ChangeAt Go.RowKit Go.Deep
structure ModsA where
 ao:Option Addr
 n:Nat
 cap:Nat
 rs:List ModR
 ms:List ModV
def ModsA.val (x:ModsA):Value:=.slice x.ao x.n x.cap
structure ModsA.ok (w:World) (x:ModsA):Prop where
 mods:Mods w x.ao x.n x.rs x.ms
 le:x.n≤x.cap
theorem zK9 {w:World}:∀ rs:List ModR,(∀ r∈rs,∃ m,ModR.has w r m)→∃ ms:List ModV,rs.length=ms.length∧∀ (i:Nat) (r:ModR) (m:ModV),rs[i]?=some r→ms[i]?=some m→r.has w m
 | [],_=>⟨[],rfl,fun i r m h=>by simp at h⟩
 | r::rs,h=>by
  obtain ⟨m,hm⟩:=h r (by simp)
  obtain ⟨ms,h1,h2⟩:=zK9 rs fun r hr=>h r (List.mem_cons_of_mem _ hr)
  refine ⟨m::ms,by simp [h1],fun i r' m' e1 e2=>?_⟩
  cases i with
  | zero=>simp at e1 e2;subst e1 e2;exact hm
  | succ i=>exact h2 i r' m' (by simpa using e1) (by simpa using e2)
section
variable {H:Type} {enc:TypeId×Value→H} {w:World} {spare:Nat→Bool} {held:Bool}
theorem zFm {fuel:Nat} {cs:List Value} {x:DataW H×List MemPlace} (h:DataW.trod enc Tryz.prog w 0 spare held fuel 3 cs=some x) (hl:cs.length=1):∃ n:Int,cs=cl n∧I64 n:=by
 match cs,hl with
 | [c0],_ =>
  obtain ⟨a,f0,_,w0⟩:=DataW.trod_int Tryz.underlying3 h
  simp at f0
  subst f0
  exact ⟨a,rfl,zF2 w0⟩
theorem zNP {fuel:Nat} {cs:List Value} {x:DataW H×List MemPlace} (h:DataW.trod enc Tryz.prog w 0 spare held fuel 91 cs=some x) (hl:cs.length=2):∃ y:NamV,cs=cl y∧y.wf:=by
 match cs,hl with
 | [c0,c1],_ =>
  obtain ⟨xs,n,_,hx,_,hlen,hg⟩:=DataW.trod_struct Tryz.underlying91 h
  have hs:Tryz.prog.cellsOf 9=1:=by kernel_rfl
  have hi:Tryz.prog.cellsOf 3=1:=by kernel_rfl
  have g0:DataW.trod enc Tryz.prog w 0 spare held n 9 [c0]=xs[0]?:=by simpa [hs] using hg 0 _ rfl
  have g1:DataW.trod enc Tryz.prog w 0 spare held n 3 [c1]=xs[1]?:=by simpa [hs,hi] using hg 1 _ rfl
  have e0:xs[0]?=some (xs[0]'(by rw [hlen];decide)):=List.getElem?_eq_getElem _
  have e1:xs[1]?=some (xs[1]'(by rw [hlen];decide)):=List.getElem?_eq_getElem _
  obtain ⟨s,f0,_,hs0⟩:=DataW.trod_string Tryz.underlying9 (g0.trans e0)
  obtain ⟨a,f1,_,w1⟩:=DataW.trod_int Tryz.underlying3 (g1.trans e1)
  simp at f0 f1
  subst f0 f1
  exact ⟨⟨s,a⟩,rfl,⟨hs0,zF2 w1⟩⟩
theorem zNd {fuel:Nat} {cs:List Value} {x:DataW H×List MemPlace} (h:DataW.trod enc Tryz.prog w 0 spare held fuel 93 cs=some x) (hl:cs.length=2):∃ y:NamV,cs=cl y∧y.wf:=by
 match cs,hl with
 | [c0,c1],_ =>
  obtain ⟨xs,n,_,hx,_,hlen,hg⟩:=DataW.trod_struct Tryz.underlying93 h
  have hs:Tryz.prog.cellsOf 9=1:=by kernel_rfl
  have hi:Tryz.prog.cellsOf 3=1:=by kernel_rfl
  have g0:DataW.trod enc Tryz.prog w 0 spare held n 9 [c0]=xs[0]?:=by simpa [hs] using hg 0 _ rfl
  have g1:DataW.trod enc Tryz.prog w 0 spare held n 3 [c1]=xs[1]?:=by simpa [hs,hi] using hg 1 _ rfl
  have e0:xs[0]?=some (xs[0]'(by rw [hlen];decide)):=List.getElem?_eq_getElem _
  have e1:xs[1]?=some (xs[1]'(by rw [hlen];decide)):=List.getElem?_eq_getElem _
  obtain ⟨s,f0,_,hs0⟩:=DataW.trod_string Tryz.underlying9 (g0.trans e0)
  obtain ⟨a,f1,_,w1⟩:=DataW.trod_int Tryz.underlying3 (g1.trans e1)
  simp at f0 f1
  subst f0 f1
  exact ⟨⟨s,a⟩,rfl,⟨hs0,zF2 w1⟩⟩
theorem zNE {fuel:Nat} {cs:List Value} {x:DataW H×List MemPlace} (h:DataW.trod enc Tryz.prog w 0 spare held fuel 48 cs=some x) (hl:cs.length=4):∃ y:ModR,cs=cl y∧∃ m,y.has w m:=by
 match cs,hl with
 | [c0,c1,c2,c3],_ =>
  obtain ⟨xs,n,_,hx,_,hlen,hg⟩:=DataW.trod_struct Tryz.underlying48 h
  have h0:Tryz.prog.cellsOf 36=1:=by kernel_rfl
  have h2:Tryz.prog.cellsOf 45=1:=by kernel_rfl
  have h3:Tryz.prog.cellsOf 46=1:=by kernel_rfl
  have g0:DataW.trod enc Tryz.prog w 0 spare held n 36 [c0]=xs[0]?:=by simpa [h0] using hg 0 _ rfl
  have g1:DataW.trod enc Tryz.prog w 0 spare held n 36 [c1]=xs[1]?:=by simpa [h0] using hg 1 _ rfl
  have g2:DataW.trod enc Tryz.prog w 0 spare held n 45 [c2]=xs[2]?:=by simpa [h0,h2] using hg 2 _ rfl
  have g3:DataW.trod enc Tryz.prog w 0 spare held n 46 [c3]=xs[3]?:=by simpa [h0,h2,h3] using hg 3 _ rfl
  have e0:xs[0]?=some (xs[0]'(by rw [hlen];decide)):=List.getElem?_eq_getElem _
  have e1:xs[1]?=some (xs[1]'(by rw [hlen];decide)):=List.getElem?_eq_getElem _
  have e2:xs[2]?=some (xs[2]'(by rw [hlen];decide)):=List.getElem?_eq_getElem _
  have e3:xs[3]?=some (xs[3]'(by rw [hlen];decide)):=List.getElem?_eq_getElem _
  obtain ⟨x0,rfl,k0,_⟩:=zC6 (α:=Int) (Q:=I64) Tryz.underlying36 (by kernel_rfl) (fun fuel cs x hx hl=>zFm hx hl) (g0.trans e0)
  obtain ⟨x1,rfl,k1,_⟩:=zC6 (α:=Int) (Q:=I64) Tryz.underlying36 (by kernel_rfl) (fun fuel cs x hx hl=>zFm hx hl) (g1.trans e1)
  obtain ⟨x2,rfl,k2,_⟩:=zC6 (α:=NamV) (Q:=NamV.wf) Tryz.underlying45 (by kernel_rfl) (fun fuel cs x hx hl=>zNP hx hl) (g2.trans e2)
  obtain ⟨x3,rfl,k3,_⟩:=zC6 (α:=NamV) (Q:=NamV.wf) Tryz.underlying46 (by kernel_rfl) (fun fuel cs x hx hl=>zNd hx hl) (g3.trans e3)
  exact ⟨⟨⟨x0.ao,x0.n,x0.cap⟩,⟨x1.ao,x1.n,x1.cap⟩,⟨x2.ao,x2.n,x2.cap⟩,⟨x3.ao,x3.n,x3.cap⟩⟩,rfl,⟨x0.vs,x1.vs,x2.vs,x3.vs⟩,⟨k0.sl,k1.sl,k2.sl,k3.sl,⟨k0.le,k1.le,k2.le,k3.le⟩,k0.wf,k1.wf,k2.wf,k3.wf⟩⟩
theorem zIF {r:Reach} {b0:Nat} {v:Value} {d:DataW H} {p:List MemPlace} (hv:Value.okWide Tryz.prog w r b0 22 v) (h:DataW.Trod enc Tryz.prog w 0 spare held 22 v d p) :
  ∃ x:ModsA,v=x.val∧x.ok w∧(x.n=0∨∃ es sp,d=.slice es sp∧es.length=x.n):=by
 obtain ⟨x,rfl,hx,hs⟩:=zGf (α:=ModR) (Q:=fun r=>∃ m,ModR.has w r m) Tryz.underlying22 (by kernel_rfl) (fun fuel cs x hx hl=>zNE hx hl) hv h
 obtain ⟨ms,h1,h2⟩:=zK9 x.vs hx.wf
 exact ⟨⟨x.ao,x.n,x.cap,x.vs,ms⟩,rfl,⟨⟨hx.sl,h1,h2⟩,hx.le⟩,hs⟩
end
end
section
open El (cl)
open Go.Joins Go.ChangeShapes Go.WideShapes Go.ChangeAt Go.RowKit Go.Deep
structure JobA where
 r:JobR
 j:JobV
def JobA.val (x:JobA):Value:=.agg #[.string x.r.name,.slice x.r.args.a x.r.args.n x.r.args.c,.int .i64 x.r.fuel]
def JobA.ok (w:World) (x:JobA):Prop:=x.r.has w x.j
structure JobsA where
 ao:Option Addr
 n:Nat
 cap:Nat
 rs:List JobR
 js:List JobV
def JobsA.val (x:JobsA):Value:=.slice x.ao x.n x.cap
structure JobsA.ok (w:World) (x:JobsA):Prop where
 jobs:Jobs w x.ao x.n x.rs x.js
 le:x.n≤x.cap
theorem zLG {w:World}:∀ rs:List JobR,(∀ r∈rs,∃ m,JobR.has w r m)→∃ ms:List JobV,rs.length=ms.length∧∀ (i:Nat) (r:JobR) (m:JobV),rs[i]?=some r→ms[i]?=some m→r.has w m
 | [],_=>⟨[],rfl,fun i r m h=>by simp at h⟩
 | r::rs,h=>by
  obtain ⟨m,hm⟩:=h r (by simp)
  obtain ⟨ms,h1,h2⟩:=zLG rs fun r hr=>h r (List.mem_cons_of_mem _ hr)
  refine ⟨m::ms,by simp [h1],fun i r' m' e1 e2=>?_⟩
  cases i with
  | zero=>simp at e1 e2;subst e1 e2;exact hm
  | succ i=>exact h2 i r' m' (by simpa using e1) (by simpa using e2)
section
variable {H:Type} {enc:TypeId×Value→H} {w:World} {spare:Nat→Bool} {held:Bool}
theorem zNS {fuel:Nat} {cs:List Value} {x:DataW H×List MemPlace} (h:DataW.trod enc Tryz.prog w 0 spare held fuel 38 cs=some x) (hl:cs.length=3):∃ y:JobR,cs=cl y∧∃ m,y.has w m:=by
 match cs,hl with
 | [c0,c1,c2],_ =>
  obtain ⟨xs,n,_,hx,_,hlen,hg⟩:=DataW.trod_struct Tryz.underlying38 h
  have hs:Tryz.prog.cellsOf 9=1:=by kernel_rfl
  have hi:Tryz.prog.cellsOf 3=1:=by kernel_rfl
  have hl1:Tryz.prog.cellsOf 36=1:=by kernel_rfl
  have g0:DataW.trod enc Tryz.prog w 0 spare held n 9 [c0]=xs[0]?:=by simpa [hs] using hg 0 _ rfl
  have g1:DataW.trod enc Tryz.prog w 0 spare held n 36 [c1]=xs[1]?:=by simpa [hs,hl1] using hg 1 _ rfl
  have g2:DataW.trod enc Tryz.prog w 0 spare held n 3 [c2]=xs[2]?:=by simpa [hs,hi,hl1] using hg 2 _ rfl
  have e0:xs[0]?=some (xs[0]'(by rw [hlen];decide)):=List.getElem?_eq_getElem _
  have e1:xs[1]?=some (xs[1]'(by rw [hlen];decide)):=List.getElem?_eq_getElem _
  have e2:xs[2]?=some (xs[2]'(by rw [hlen];decide)):=List.getElem?_eq_getElem _
  obtain ⟨s,f0,_,hs0⟩:=DataW.trod_string Tryz.underlying9 (g0.trans e0)
  obtain ⟨x1,rfl,k1,_⟩:=zC6 (α:=Int) (Q:=I64) Tryz.underlying36 (by kernel_rfl) (fun fuel cs x hx hl=>zFm hx hl) (g1.trans e1)
  obtain ⟨a,f2,_,w2⟩:=DataW.trod_int Tryz.underlying3 (g2.trans e2)
  simp at f0 f2
  subst f0 f2
  exact ⟨⟨s,⟨x1.ao,x1.n,x1.cap⟩,a⟩,rfl,⟨s,x1.vs,a⟩,⟨rfl,rfl,k1.sl,k1.le,k1.wf,zF2 w2⟩⟩
theorem zIG {r:Reach} {b0:Nat} {v:Value} {d:DataW H} {p:List MemPlace} (hv:Value.okWide Tryz.prog w r b0 23 v) (h:DataW.Trod enc Tryz.prog w 0 spare held 23 v d p) :
  ∃ x:JobsA,v=x.val∧x.ok w∧(x.n=0∨∃ es sp,d=.slice es sp∧es.length=x.n):=by
 obtain ⟨x,rfl,hx,hs⟩:=zGf (α:=JobR) (Q:=fun r=>∃ m,JobR.has w r m) Tryz.underlying23 (by kernel_rfl) (fun fuel cs x hx hl=>zNS hx hl) hv h
 obtain ⟨ms,h1,h2⟩:=zLG x.vs hx.wf
 exact ⟨⟨x.ao,x.n,x.cap,x.vs,ms⟩,rfl,⟨⟨hx.sl,h1,h2⟩,hx.le⟩,hs⟩
end
end
end Go.Proofs.YtlpejagkadalbaaGreatDoor
