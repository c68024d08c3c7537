import Derived.Test.YtlpejagkadalbaaGreatDoorQk31
import Derived.Test.YtlpejagkadalbaaGreatDoorQk41
set_option maxHeartbeats 40000000
set_option maxRecDepth 100000
set_option linter.unusedVariables false
set_option linter.unusedSimpArgs false
namespace Go.Proofs.YtlpejagkadalbaaGreatDoor
open Go Go.RowKit Go.Joins
theorem zIH (k:Nat) (l:List UInt8):∀ x∈zB4 k l,I64 x:=by
 intro x hx
 unfold zB4 at hx
 obtain ⟨i,_,rfl⟩:=List.mem_map.1 hx
 have:=zCh 4 (l.drop (4*i))
 exact ⟨by omega,by omega⟩
def zHj (l:List UInt8):ModV :=
 ⟨zB4 (zAU 1 l) (l.drop 4),zB4 (zAU 1 (l.drop 1)) ((l.drop 4).drop (4*zAU 1 l)),
 (zAY (zAU 1 (l.drop 2)) (((l.drop 4).drop (4*zAU 1 l)).drop (4*zAU 1 (l.drop 1)))).1,
 (zAY (zAU 1 (l.drop 3)) (zAY (zAU 1 (l.drop 2)) (((l.drop 4).drop (4*zAU 1 l)).drop (4*zAU 1 (l.drop 1)))).2).1⟩
def zEn (L:List UInt8):Prop:=L.take (L.length - 2)++zDG (L.take (L.length - 2))=L
def zCt (L:List UInt8):ModV:=zHj ((L.take (L.length - 2)).drop 3)
def zRY (L:List UInt8) (er:Int):Prop :=
 (4000 < L.length∧er=2)∨(L.length < 9∧er=4)∨(9≤L.length∧L.length≤4000∧¬zEn L∧er=6) ∨
 (9≤L.length∧L.length≤4000∧zEn L∧¬(ModOk zR (zCt L)∧zBv (zCt L)=L)∧er=5)
structure RowAt (B:Nat) (r:ModR):Prop where
 c:∀ a,r.code.a=some a→B≤a.block
 d:∀ a,r.data.a=some a→B≤a.block
 e:∀ a,r.ex.a=some a→B≤a.block
 i:∀ a,r.im.a=some a→B≤a.block
def zMV (w:World) (L:List UInt8) (e:Ending) (w':World):Prop :=
 ((∃ er,e=.returned (.tuple #[.agg #[.slice none 0 0,.slice none 0 0,.slice none 0 0,.slice none 0 0],.int .i64 er])∧zRY L er) ∨
 (∃ r:ModR,e=.returned (.tuple #[.agg #[.slice r.code.a r.code.n r.code.c,.slice r.data.a r.data.n r.data.c,.slice r.ex.a r.ex.n r.ex.c,.slice r.im.a r.im.n r.im.c],.int .i64 0])∧(r.has w' (zCt L)∧RowAt w.heap.size r) ∧
  9≤L.length∧L.length≤4000∧zEn L∧ModOk zR (zCt L)∧zBv (zCt L)=L))∧Below w.heap.size w w'
theorem zET {P:Program} {fn:Func} {p q:Tmp} {ty:TypeId} (h:fn.results=#[.cell p ty,.tmp q]) (tmps:Array Value) (w:World) (g:Nat) (t:TypeId) (cs:Array Value) (fr:Nat×Nat) (d:TypeDesc)
  (hp:tmps.getD p undef=.pointer (some ⟨g,0,none⟩)) (hg:w.heap[g]?=some (.cells cs t fr))
  (hu:P.underlying ty=some d) (hd:(match d with | .struct _ | .array _ _=>true | _=>false)=true) (hi:(P.info? ty).map (·.size)=some cs.size) :
  (results fn tmps).run P w=.ok (.tuple #[.agg cs,tmps.getD q undef]) w:=by
 have hp':tmps[p]?.getD undef=.pointer (some ⟨g,0,none⟩):=by simpa using hp
 simp [results,h,hp',asAddr,run_loadVar_row w g t ty cs fr d hg hu hd hi]
theorem zKg:(Tryz.prog.info? 91).map (fun i=>(i.zero,i.size,i.bytes))=some (some (.agg #[.string ⟨#[]⟩,.int .i64 0]),2,24):=by kernel_rfl
theorem zJa:(Tryz.prog.info? 93).map (fun i=>(i.zero,i.size,i.bytes))=some (some (.agg #[.string ⟨#[]⟩,.int .i64 0]),2,24):=by kernel_rfl
theorem zK1 (w:World) (x:NamV) (T:TypeId):Sl (w.alloc (.cells #[.string x.name,.int .i64 x.at_] T)) (some ⟨w.heap.size,0,none⟩) 1 [x]:=zAy _ _ rfl
theorem zOZ (l:List UInt8):(zDB l).wf:=by
 have h1:=zCh 1 l
 have h2:=zCh 1 ((l.drop 1).drop (zAU 1 l))
 refine ⟨?_,?_,?_⟩
 ·show (ba ((l.drop 1).take (zAU 1 l))).size≤_
  rw [show (ba ((l.drop 1).take (zAU 1 l))).size=((l.drop 1).take (zAU 1 l)).length from zHV _,List.length_take]
  omega
 ·show _≤((zAU 1 ((l.drop 1).drop (zAU 1 l)):Nat):Int)
  omega
 ·show ((zAU 1 ((l.drop 1).drop (zAU 1 l)):Nat):Int)≤_
  omega
theorem zHi:∀ (k:Nat) (l:List UInt8),∀ x∈(zAY k l).1,x.wf
 | 0,_=>fun x hx=>by simp [zAY] at hx
 | k+1,l=>fun x hx=>by
  rw [zAY] at hx
  rcases List.mem_append.1 hx with h | h
  ·exact zHi k l x h
  ·simp at h;subst h;exact zOZ _
theorem zBj {α:Type} [El α] {w:World} {B:Nat} {T:TypeId} {a:Option Addr} {n c:Nat} {xs:List α} (h:Own w B T (.slice a n c) xs):Sl w a n xs∧n≤c∧∀ ad,a=some ad→B≤ad.block:=by
 rcases h.form with ⟨e,rfl⟩ | ⟨g,cap,e,h2,h3,h4,h5⟩
 ·injection e with e1 e2 e3
  subst e1 e2 e3
  exact ⟨Sl.nil _ _,Nat.le_refl _,fun ad h=>by cases h⟩
 ·injection e with e1 e2 e3
  subst e1 e2 e3
  refine ⟨⟨rfl,by omega,fun _=>⟨_,rfl,h3,h.cells rfl⟩⟩,h4,fun ad e=>?_⟩
  injection e with e
  subst e
  exact h2
structure RLp (B gR g9:Nat) (l:List UInt8) (a b c d:Value) (xs ys:List Int) (es is:List NamV) (w0 wr:World):Prop where
 rb:Bk wr gR 125 #[.string (ba l)]
 mb:Bk wr g9 48 #[a,b,c,d]
 oa:Own wr B 3 a xs
 ob:Own wr B 3 b ys
 oc:Own wr B 91 c es
 od:Own wr B 93 d is
 below:Below B w0 wr
 hne:gR≠g9
 hR:B≤gR
 h9:B≤g9
section
variable {B gR g9:Nat} {l l':List UInt8} {a b c d:Value} {xs ys:List Int} {es is:List NamV} {w0 wr w':World}
theorem RLp.name (h:RLp B gR g9 l a b c d xs ys es is w0 wr) (k:RdSt2 gR l' wr w'):RLp B gR g9 l' a b c d xs ys es is w0 w' :=
 ⟨k.b,zDK h.mb k.gr (fun e=>h.hne (by injection e)),h.oa.kept k.gr (.inr (zAX h.oa h.rb (by decide))),h.ob.kept k.gr (.inr (zAX h.ob h.rb (by decide))),
 h.oc.kept k.gr (.inr (zAX h.oc h.rb (by decide))),h.od.kept k.gr (.inr (zAX h.od h.rb (by decide))),h.below.trans (k.below h.hR h.rb.lt),h.hne,h.hR,h.h9⟩
theorem RLp.le (h:RLp B gR g9 l a b c d xs ys es is w0 wr):B≤wr.heap.size:=by have:=h.rb.lt;have:=h.hR;omega
theorem RLp.lab (h:RLp B gR g9 l a b c d xs ys es is w0 wr) (o:Obj) {c':Value} {x:NamV} (ho:Own w' B 91 c' (es++[x])) (hg:(wr.alloc o).grownBy w' c.ownBlock) :
  Bk w' g9 48 #[a,b,c,d]∧RLp B gR g9 l a b c' d xs ys (es++[x]) is w0 (w'.setCell ⟨g9,2,none⟩ c'):=by
 have hc:=h.oc.alloc o
 have mb:=zAT (zN _ h.mb) hc (by decide) hg
 have rb:=zAT (zN _ h.rb) hc (by decide) hg
 refine ⟨mb,zBs rb h.hne 2 _,zV mb rfl,zAQ (zAg (h.oa.alloc o) hc (by decide) hg) mb (by decide) 2 _,zAQ (zAg (h.ob.alloc o) hc (by decide) hg) mb (by decide) 2 _,zAQ ho mb (by decide) 2 _,zAQ (zAg (h.od.alloc o) hc (by decide) hg) mb (by decide) 2 _,?_,h.hne,h.hR,h.h9⟩
 exact ((h.below.alloc h.le _).grown hg (by rw [World.size_alloc];have:=h.le;omega) (fun k hk=>(zBG hc hk).1)).setCell h.h9 _
theorem RLp.imp (h:RLp B gR g9 l a b c d xs ys es is w0 wr) (o:Obj) {d':Value} {x:NamV} (ho:Own w' B 93 d' (is++[x])) (hg:(wr.alloc o).grownBy w' d.ownBlock) :
  Bk w' g9 48 #[a,b,c,d]∧RLp B gR g9 l a b c d' xs ys es (is++[x]) w0 (w'.setCell ⟨g9,3,none⟩ d'):=by
 have hc:=h.od.alloc o
 have mb:=zAT (zN _ h.mb) hc (by decide) hg
 have rb:=zAT (zN _ h.rb) hc (by decide) hg
 refine ⟨mb,zBs rb h.hne 3 _,zV mb rfl,zAQ (zAg (h.oa.alloc o) hc (by decide) hg) mb (by decide) 3 _,zAQ (zAg (h.ob.alloc o) hc (by decide) hg) mb (by decide) 3 _,zAQ (zAg (h.oc.alloc o) hc (by decide) hg) mb (by decide) 3 _,zAQ ho mb (by decide) 3 _,?_,h.hne,h.hR,h.h9⟩
 exact ((h.below.alloc h.le _).grown hg (by rw [World.size_alloc];have:=h.le;omega) (fun k hk=>(zBG hc hk).1)).setCell h.h9 _
end
theorem zKj (S:ByteArray) (w:World) (h1:9≤S.size) (h2:S.size≤4000) (hs:zEn S.data.toList):Calls Tryz.prog 21 #[.string S] w (zMV w S.data.toList):=by
 have hszl:S.data.toList.length=S.size:=by rw [Array.length_toList];rfl
 obtain ⟨w1,hw1⟩:∃ w1,w1=w.alloc (.cells #[.slice none 0 0,.slice none 0 0,.slice none 0 0,.slice none 0 0] 48):=⟨_,rfl⟩
 have h1w:Below w.heap.size w w1:=by rw [hw1];exact zG (Below.refl _ _) _
 have b1:Bk w1 w.heap.size 48 #[.slice none 0 0,.slice none 0 0,.slice none 0 0,.slice none 0 0]:=by rw [hw1];exact zM _ _ _
 have HW1:=zA hw1
 have H1W:=zA h1w
 have B1:=zA b1
 clear hw1 h1w b1
 have o1:¬((4000:Int) < S.size):=by omega
 have o2:¬((S.size:Int) < 9):=by omega
 obtain ⟨k,hk⟩:∃ k:Nat,S.size=k+2:=⟨S.size - 2,by omega⟩
 have hk1:(S.size:Int) - 2=(k:Int):=by omega
 have hk2:(0:Int)≤k:=by omega
 have hkw:IntKind.i64.wrap (k:Int)=(k:Int):=by rw [IntKind.wrap_i64];omega
 have hkt:((k:Int)).toNat=k:=by omega
 have hk3:(k:Int)≤S.size:=by omega
 have hk4:k≤S.size:=by omega
 obtain ⟨P,hP⟩:∃ P,S.extract 0 k=P:=⟨_,rfl⟩
 have hPl:P.data.toList=S.data.toList.take k:=by
  rw [←hP]
  simp only [ByteArray.data_extract,Array.toList_extract,List.extract_eq_take_drop,List.drop_zero,Nat.sub_zero]
 have hPs:P.size≤4000:=by
  have:P.size=P.data.toList.length:=by rw [Array.length_toList];rfl
  rw [this,hPl,List.length_take];omega
 have hkl:S.data.toList.length - 2=k:=by omega
 obtain ⟨Q,hQ⟩:∃ Q,(⟨(zDG P.data.toList).toArray⟩:ByteArray)=Q:=⟨_,rfl⟩
 have hQs:Q.size=2:=by rw [←hQ];rfl
 obtain ⟨PQ,hPQ⟩:∃ PQ,P++Q=PQ:=⟨_,rfl⟩
 have hadd:Op.stringOp .add P Q=pure (.string PQ):=by rw [←hPQ];exact zCe _ _ (by omega)
 have hPQl:PQ.data.toList=S.data.toList.take k++zDG (S.data.toList.take k):=by rw [←hPQ,←hQ,←hPl];simp
 have hso:zEn S.data.toList↔PQ.toList=S.toList:=by
  unfold zEn
  rw [hkl,ByteArray.toList_eq,ByteArray.toList_eq,hPQl]
 have hne:(PQ.toList==S.toList)=true:=by rw [hso.1 hs];exact beq_self_eq_true _
 have hne2:(PQ.toList != S.toList)=false:=by rw [bne,hne];rfl
 obtain ⟨l0,hl0⟩:∃ l0,l0=(S.data.toList.take k).drop 3:=⟨_,rfl⟩
 have hR:S.extract 3 k=ba l0:=by
  rw [hl0];refine ByteArray.ext ?_
  apply Array.ext'
  simp only [ba,ByteArray.data_extract,Array.toList_extract,List.extract_eq_take_drop]
  rw [List.drop_take]
 have hll:l0.length≤4000:=by rw [hl0,List.length_drop,List.length_take];omega
 have hr3:(3:Int)≤k:=by omega
 have hr4:3≤k:=by omega
 have hfm:zCt S.data.toList=zHj l0:=by unfold zCt;rw [hkl,hl0]
 have HFM:=zA hfm
 have HLL:=zA hll
 have HR:=zA hR
 clear hl0 hll hfm
 go_enter Tryz.func21,Tryz.ntmps21
 go_upto_region 1 with (fail)
 rw [←HW1.out]
 have HQ:=zA hQ
 have SM:=zA (fun (W:World)=>zJe P W (by omega))
 have HSO:=zA hso
 have HKL:=zA hk
 have HZ:=zA hszl
 clear hPQ hPQl hPl hQ hkl hszl hso hk hPs hQs
 go_upto_region 5 with (fail)
 go_region_law (go_simp;go_at_call 44;((with_reducible refine (SM.out _).mono ?_);rintro e w10 ⟨ao,c,rfl,hos,hb10⟩;have hcv:=zEq (P:=Tryz.prog) hos (by unfold zDG;simp) Tryz.underlying113 Tryz.underlying5 Tryz.underlying9;rw [HQ.out] at hcv;have hbx:Below w1.heap.size w1 w10:=zI (zJ (Below.refl _ _)) hb10;have B2:=zA (zH hbx B1.out);have H2W:=zA (zI H1W.out hbx);clear hos hb10 hbx))
 have hB10:w.heap.size≤w10.heap.size:=H2W.out.size
 go_upto_region 8 with (fail)
 obtain ⟨gR,hgR⟩:∃ gR,w10.heap.size=gR:=⟨_,rfl⟩
 obtain ⟨w11,hw11⟩:∃ w11,w11=w10.alloc (.cells #[.string (ba l0)] 125):=⟨_,rfl⟩
 rw [←hw11]
 try rw [hgR]
 have r11:Bk w11 gR 125 #[.string (ba l0)]:=by rw [hw11,←hgR];exact zM _ _ _
 have d11:Below w10.heap.size w10 w11:=by rw [hw11];exact zG (Below.refl _ _) _
 have z11:w11.heap.size=gR+1:=by rw [hw11,World.size_alloc,hgR]
 have HLL:=HLL.out
 have lb:∀ n:Nat,(l0.drop n).length≤4000:=fun n=>by rw [List.length_drop];omega
 have cA:=zA (fun W h=>zCo l0 HLL gR W h)
 have cB:=fun W h=>zCo (l0.drop 1) (lb 1) gR W h
 have cC:=fun W h=>zCo (l0.drop 2) (lb 2) gR W h
 have cD:=fun W h=>zCo (l0.drop 3) (lb 3) gR W h
 rw [List.drop_drop] at cB cC cD
 obtain ⟨na,hna⟩:∃ n,zAU 1 l0=n:=⟨_,rfl⟩
 obtain ⟨nb,hnb⟩:∃ n,zAU 1 (l0.drop 1)=n:=⟨_,rfl⟩
 obtain ⟨nc,hnc⟩:∃ n,zAU 1 (l0.drop 2)=n:=⟨_,rfl⟩
 obtain ⟨nd,hnd⟩:∃ n,zAU 1 (l0.drop 3)=n:=⟨_,rfl⟩
 have ka:na≤255:=by have:=zCh 1 l0;omega
 have kb:nb≤255:=by have:=zCh 1 (l0.drop 1);omega
 have kc:nc≤255:=by have:=zCh 1 (l0.drop 2);omega
 have kd:nd≤255:=by have:=zCh 1 (l0.drop 3);omega
 have cE:=fun W h=>zFu (l0.drop 4) (lb 4) na ka gR W h
 have cF:=fun W h=>zFu ((l0.drop 4).drop (4*na)) (by rw [List.drop_drop];exact lb _) nb kb gR W h
 obtain ⟨l6,hl6⟩:∃ l,((l0.drop 4).drop (4*na)).drop (4*nb)=l:=⟨_,rfl⟩
 have l6b:l6.length≤4000:=by rw [←hl6,List.drop_drop,List.drop_drop];exact lb _
 obtain ⟨xs,hxs⟩:∃ x,zB4 na (l0.drop 4)=x:=⟨_,rfl⟩
 obtain ⟨ys,hys⟩:∃ x,zB4 nb ((l0.drop 4).drop (4*na))=x:=⟨_,rfl⟩
 have hmod:zHj l0=⟨xs,ys,(zAY nc l6).1,(zAY nd (zAY nc l6).2).1⟩:=by unfold zHj;rw [hna,hnb,hnc,hnd,hl6,hxs,hys]
 have lxs:xs.length=na:=by rw [←hxs];exact zFl _ _
 have lys:ys.length=nb:=by rw [←hys];exact zFl _ _
 have ixs:∀ x∈xs,I64 x:=by rw [←hxs];exact zIH _ _
 have iys:∀ x∈ys,I64 x:=by rw [←hys];exact zIH _ _
 rw [hnb] at cB
 rw [hnc] at cC
 rw [hnd] at cD
 rw [hna] at cA
 rw [hxs] at cE
 rw [hys,hl6] at cF
 obtain ⟨l5,hl5⟩:∃ l,(l0.drop 4).drop (4*na)=l:=⟨_,rfl⟩
 rw [hl5] at cE cF
 obtain ⟨l4,hl4⟩:∃ l,l0.drop 4=l:=⟨_,rfl⟩
 rw [show (3+1:Nat)=4 from rfl,hl4] at cD
 rw [hl4] at cE
 obtain ⟨l3,hl3⟩:∃ l,l0.drop 3=l:=⟨_,rfl⟩
 rw [show (2+1:Nat)=3 from rfl,hl3] at cC
 rw [hl3] at cD
 obtain ⟨l2,hl2⟩:∃ l,l0.drop 2=l:=⟨_,rfl⟩
 rw [show (1+1:Nat)=2 from rfl,hl2] at cB
 rw [hl2] at cC
 obtain ⟨l1,hl1⟩:∃ l,l0.drop 1=l:=⟨_,rfl⟩
 rw [hl1] at cA cB
 have CB:=zA cB
 have CC:=zA cC
 have CD:=zA cD
 have CE:=zA cE
 have CF:=zA cF
 have HMOD:=zA hmod
 have HXS:=zA (And.intro lxs ixs)
 have HYS:=zA (And.intro lys iys)
 have HL6:=zA l6b
 have R11:=zA r11
 have D11:=zA d11
 clear cB cC cD cE cF hmod lxs lys ixs iys hna hnb hnc hnd hl1 hl2 hl3 hl4 hl5 hl6 hxs hys lb l6b r11 d11 HLL hw11
 go_upto_region 9 with (first
  | (go_at_call 51;((with_reducible refine (cA.out w11 R11.out).mono ?_);rintro e w12 ⟨rfl,hs⟩;have S1:=zA hs;clear hs))
  | (go_at_call 51;((with_reducible refine (CB.out w12 S1.out.b).mono ?_);rintro e w13 ⟨rfl,hs⟩;have S2:=zA (S1.out.trans hs);clear hs))
  | (go_at_call 51;((with_reducible refine (CC.out w13 S2.out.b).mono ?_);rintro e w14 ⟨rfl,hs⟩;have S3:=zA (S2.out.trans hs);clear hs))
  | (go_at_call 51;((with_reducible refine (CD.out w14 S3.out.b).mono ?_);rintro e w15 ⟨rfl,hs⟩;have S4:=zA (S3.out.trans hs);clear hs)))
 go_upto_region 10 with (first
  | (go_at_call 52;((with_reducible refine (CE.out w15 S4.out.b).mono ?_);rintro e w16 ⟨v16,rfl,ho,hs⟩;obtain ⟨xa,xn,xc,rfl⟩:=zZ ho;have S5:=zA (S4.out.trans hs);have O5:=zA ho;clear hs ho))
  | (go_at_call 52;((with_reducible refine (CF.out w16 S5.out.b).mono ?_);rintro e w17 ⟨v17,rfl,ho,hs⟩;obtain ⟨ya,yn,yc,rfl⟩:=zZ ho;have O5':=zA (O5.out.kept hs.gr (.inr (zAX O5.out S5.out.b (by decide))));have S6:=zA (S5.out.trans hs);have O6:=zA ho;clear hs ho)))
 obtain ⟨g9,hg9⟩:∃ g,w17.heap.size=g:=⟨_,rfl⟩
 obtain ⟨w18,hw18⟩:∃ x,x=w17.alloc (.cells #[.slice xa xn xc,.slice ya yn yc,.slice none 0 0,.slice none 0 0] 48):=⟨_,rfl⟩
 rw [←hw18]
 try rw [hg9]
 have z5:w10.heap.size≤w15.heap.size:=by have:=S4.out.gr.size;omega
 have z6:w10.heap.size≤w16.heap.size:=by have:=S5.out.gr.size;omega
 have z7:gR < w17.heap.size:=S6.out.b.lt
 have LP:=zA (show RLp w10.heap.size gR g9 (zAY 0 l6).2 (.slice xa xn xc) (.slice ya yn yc) (.slice none 0 0) (.slice none 0 0) xs ys (zAY 0 l6).1 [] w10 w18 by
  rw [hw18,←hg9]
  exact ⟨zN _ S6.out.b,zM _ _ _,(ownsRow_le O5'.out z5:Own w17 _ _ _ _).alloc _,(ownsRow_le O6.out z6:Own w17 _ _ _ _).alloc _,Own.nil _ _ _,Own.nil _ _ _,((D11.out.trans (S6.out.below (Nat.le_of_eq hgR) (by rw [z11];omega))).alloc (by omega) _),by omega,by omega,by omega⟩)
 clear hw18 S1 S2 S3 S4 S5 S6 O5 O5' O6 cA CB CC CD CE CF R11
 go_wp2
 go_loopw [66] (fun i wr=>∃ (j:Nat) (v:Value),j≤nc∧i=.int .i64 j∧RLp w10.heap.size gR g9 (zAY j l6).2 (.slice xa xn xc) (.slice ya yn yc) v (.slice none 0 0) xs ys (zAY j l6).1 [] w10 wr) (fun i _=>nc - (intOf i).toNat)
 case atStart=>exact ⟨0,_,Nat.zero_le _,rfl,LP.out⟩
 case round =>
  obtain ⟨j,v,hj,rfl,hst⟩:=hrel
  obtain ⟨va,vn,vc,rfl⟩:=zZ hst.oc
  by_cases hlj:j < nc
  ·have o1:(j:Int) < nc:=by omega
   have hlr:(zAY j l6).2.length≤4000:=Nat.le_trans (zEh j l6) HL6.out
   have fr:=zHK (zAY j l6).2 hlr gR wr hst.rb
   have hn:=zFE j l6
   have hsu:zAY (j+1) l6=((zAY j l6).1++[zDB (zAY j l6).2],zC1 (zAY j l6).2):=rfl
   obtain ⟨x,hx⟩:∃ x,zDB (zAY j l6).2=x:=⟨_,rfl⟩
   obtain ⟨lr,hr⟩:∃ x,zC1 (zAY j l6).2=x:=⟨_,rfl⟩
   rw [hx,hr] at fr hsu
   obtain ⟨i0,i1,z0,z1,z2⟩:=info_parts zKg
   have c63:(zAY j l6).1.length+1≤maxLen:=by rw [hn];unfold maxLen;omega
   have c47:((zAY j l6).1.length+1)*24≤140737488355328:=by rw [hn];omega
   have FR:=zA fr
   have HST:=zA hst
   have HSU:=zA hsu
   clear fr hst hsu hx hr hn hlr
   go_wp2_with (first
    | (go_at_call 53;((with_reducible refine FR.out.mono ?_);rintro e w19 ⟨rfl,hs⟩;have h2:=HST.out.name hs;obtain ⟨m0,m1,m2,m3⟩:=zT h2.mb;have mL:=h2.mb.lt;have hle:w10.heap.size≤(w19.alloc (.cells #[.string x.name,.int .i64 x.at_] 91)).heap.size:=(by have:=h2.le;rw [World.size_alloc];omega);have H2:=zA h2;clear hs h2))
    | (at_builtin;go_loud (refine zY (α:=NamV) rfl (.tmp 74) (.tmp 78) 45 rfl w10.heap.size 91 i0 _ 24 Tryz.underlying45 i1 z0 z1 z2 rfl (.slice va vn vc) (zAY j l6).1 rfl (H2.out.oc.alloc _) (some ⟨w19.heap.size,0,none⟩) 1 1 [x] rfl (zK1 w19 x _) c63 c47 hle ?_;intro v20 w20 ho hg _;obtain ⟨ua,un,uc,rfl⟩:=zZ ho;obtain ⟨h4,h5⟩:=H2.out.lab _ ho hg;obtain ⟨q0,q1,q2,q3⟩:=zT h4;have qL:=h4.lt;have qF:=fun i=>Bk.frozen h4 i;have H5:=zA h5;clear ho hg h4 h5)))
   go_roundw
   case rel=>exact ⟨j+1,_,by omega,by go_num,by rw [HSU.out];exact H5.out⟩
   case measure=>simp [intOf];omega
  ·have o1:¬((j:Int) < nc):=by omega
   obtain rfl:j=nc:=by omega
   have HST:=zA hst
   have l7b:(zAY j l6).2.length≤4000:=Nat.le_trans (zEh j l6) HL6.out
   have l7e:(zAY j l6).1.length=j:=zFE j l6
   have wes:=zHi j l6
   obtain ⟨es,hes⟩:∃ x,(zAY j l6).1=x:=⟨_,rfl⟩
   obtain ⟨l7,hl7⟩:∃ x,(zAY j l6).2=x:=⟨_,rfl⟩
   rw [hes] at HST HMOD l7e wes
   have WES:=zA wes
   rw [hl7] at HST HMOD l7b
   clear hst hes hl7 HL6 wes
   have HL6:=zA l7b
   have LP:=zA (show RLp w10.heap.size gR g9 (zAY 0 l7).2 (.slice xa xn xc) (.slice ya yn yc) (.slice va vn vc) (.slice none 0 0) xs ys es (zAY 0 l7).1 w10 wr from HST.out)
   clear l7b HST
   go_wp2
   go_loopw [83] (fun i wr=>∃ (j:Nat) (v:Value),j≤nd∧i=.int .i64 j∧RLp w10.heap.size gR g9 (zAY j l7).2 (.slice xa xn xc) (.slice ya yn yc) (.slice va vn vc) v xs ys es (zAY j l7).1 w10 wr) (fun i _=>nd - (intOf i).toNat)
   case atStart=>exact ⟨0,_,Nat.zero_le _,rfl,LP.out⟩
   case round =>
    obtain ⟨j,v,hj,rfl,hst⟩:=hrel
    obtain ⟨za,zn,zc,rfl⟩:=zZ hst.od
    by_cases hlj:j < nd
    ·have o1:(j:Int) < nd:=by omega
     have hlr:(zAY j l7).2.length≤4000:=Nat.le_trans (zEh j l7) HL6.out
     have fr:=zHK (zAY j l7).2 hlr gR wr hst.rb
     have hn:=zFE j l7
     have hsu:zAY (j+1) l7=((zAY j l7).1++[zDB (zAY j l7).2],zC1 (zAY j l7).2):=rfl
     obtain ⟨x,hx⟩:∃ x,zDB (zAY j l7).2=x:=⟨_,rfl⟩
     obtain ⟨lr,hr⟩:∃ x,zC1 (zAY j l7).2=x:=⟨_,rfl⟩
     rw [hx,hr] at fr hsu
     obtain ⟨i0,i1,z0,z1,z2⟩:=info_parts zJa
     have c63:(zAY j l7).1.length+1≤maxLen:=by rw [hn];unfold maxLen;omega
     have c47:((zAY j l7).1.length+1)*24≤140737488355328:=by rw [hn];omega
     have FR:=zA fr
     have HST:=zA hst
     have HSU:=zA hsu
     clear fr hst hsu hx hr hn hlr
     go_wp2_with (first
      | (go_at_call 53;((with_reducible refine FR.out.mono ?_);rintro e w19 ⟨rfl,hs⟩;have h2:=HST.out.name hs;obtain ⟨m0,m1,m2,m3⟩:=zT h2.mb;have mL:=h2.mb.lt;have hle:w10.heap.size≤(w19.alloc (.cells #[.string x.name,.int .i64 x.at_] 93)).heap.size:=(by have:=h2.le;rw [World.size_alloc];omega);have H2:=zA h2;clear hs h2))
      | (at_builtin;go_loud (refine zY (α:=NamV) rfl (.tmp 91) (.tmp 95) 46 rfl w10.heap.size 93 i0 _ 24 Tryz.underlying46 i1 z0 z1 z2 rfl (.slice za zn zc) (zAY j l7).1 rfl (H2.out.od.alloc _) (some ⟨w19.heap.size,0,none⟩) 1 1 [x] rfl (zK1 w19 x _) c63 c47 hle ?_;intro v20 w20 ho hg _;obtain ⟨ua,un,uc,rfl⟩:=zZ ho;obtain ⟨h4,h5⟩:=H2.out.imp _ ho hg;obtain ⟨q0,q1,q2,q3⟩:=zT h4;have qL:=h4.lt;have qF:=fun i=>Bk.frozen h4 i;have H5:=zA h5;clear ho hg h4 h5)))
     go_roundw
     case rel=>exact ⟨j+1,_,by omega,by go_num,by rw [HSU.out];exact H5.out⟩
     case measure=>simp [intOf];omega
    ·have o1:¬((j:Int) < nd):=by omega
     obtain rfl:j=nd:=by omega
     have HST:=zA hst
     obtain ⟨is,his⟩:∃ x,(zAY j l7).1=x:=⟨_,rfl⟩
     have wis:=zHi j l7
     rw [his] at HST HMOD wis
     have hh:ModR.has wr ⟨⟨xa,xn,xc⟩,⟨ya,yn,yc⟩,⟨va,vn,vc⟩,⟨za,zn,zc⟩⟩ ⟨xs,ys,es,is⟩ :=
      ⟨(zBj HST.out.oa).1,(zBj HST.out.ob).1,(zBj HST.out.oc).1,(zBj HST.out.od).1,⟨(zBj HST.out.oa).2.1,(zBj HST.out.ob).2.1,(zBj HST.out.oc).2.1,(zBj HST.out.od).2.1⟩,HXS.out.2,HYS.out.2,WES.out,wis⟩
     have hfm:zCt S.data.toList=⟨xs,ys,es,is⟩:=HFM.out.trans HMOD.out
     have b2:Bk wr w.heap.size 48 #[.slice none 0 0,.slice none 0 0,.slice none 0 0,.slice none 0 0]:=zH HST.out.below B2.out
     have hlt:w.heap.size < w10.heap.size:=B2.out.lt
     obtain ⟨m0,m1,m2,m3⟩:=zT HST.out.mb
     have mL:=HST.out.mb.lt
     have HBR:=zA (zI H2W.out HST.out.below)
     have HH:=zA hh
     have HF:=zA hfm
     clear hst his wis hh hfm hne hne2 hadd hP
     by_cases hok:ModOk zR ⟨xs,ys,es,is⟩
     ·have pk:=zJf _ _ wr HH.out hok
      have HOK:=zA hok
      by_cases heq:zBv ⟨xs,ys,es,is⟩=S.data.toList
      ·have hS:(⟨(zBv ⟨xs,ys,es,is⟩).toArray⟩:ByteArray)=S:=by rw [heq]
       rw [hS] at pk
       have PK:=zA pk
       have HEQ:=zA heq
       clear pk hok heq hS
       go_wp2_with (first
        | (go_at_call 19;((with_reducible refine PK.out.mono ?_);rintro e w21 ⟨rfl,hb21⟩;have B21:=zA (zH hb21 b2);have H21:=zA (zI HBR.out hb21);have HH21:=zA (HH.out.below hb21);(try clear m0 m1 m2 m3 mL);obtain ⟨n0,n1,n2,n3⟩:=zT (zH hb21 HST.out.mb);have nL:=(zH hb21 HST.out.mb).lt;clear hb21))
        | (refine wpList_store_rowTo rfl 48 (.tmp 2) (.tmp 112) rfl rfl w.heap.size #[.slice xa xn xc,.slice ya yn yc,.slice va vn vc,.slice za zn zc] rfl rfl 48 _ B21.out (by kernel_rfl) rfl (by kernel_rfl) ?_))
       refine bodyPost_ret (zET (g:=w.heap.size) (t:=48) (cs:=#[.slice xa xn xc,.slice ya yn yc,.slice va vn vc,.slice za zn zc]) (fr:=(0,0)) rfl _ _ _ rfl (zC4 B21.out _) Tryz.underlying48 rfl (by kernel_rfl)) rfl ?_
       have hkeep:∀ {α:Type} [El α] {ao:Option Addr} {n:Nat} {x:List α},Sl w21 ao n x→(∀ a,ao=some a→w10.heap.size≤a.block)→Sl (w21.setRow w.heap.size #[.slice xa xn xc,.slice ya yn yc,.slice va vn vc,.slice za zn zc]) ao n x:=fun hsl hne =>
        hsl.keep (by simp [World.setRow]) (fun a ha=>by
         have:=hne a ha
         exact zFP _ _ _ (by omega))
       have q:=HST.out
       have hx:=HH21.out
       exact ⟨.inr ⟨⟨⟨xa,xn,xc⟩,⟨ya,yn,yc⟩,⟨va,vn,vc⟩,⟨za,zn,zc⟩⟩,rfl,⟨by rw [HF.out];exact ⟨hkeep hx.code (zBj q.oa).2.2,hkeep hx.data (zBj q.ob).2.2,hkeep hx.ex (zBj q.oc).2.2,hkeep hx.im (zBj q.od).2.2,hx.le,hx.wc,hx.wd,hx.we,hx.wi⟩,⟨fun a ha=>Nat.le_trans (Nat.le_of_lt hlt) ((zBj q.oa).2.2 a ha),fun a ha=>Nat.le_trans (Nat.le_of_lt hlt) ((zBj q.ob).2.2 a ha),fun a ha=>Nat.le_trans (Nat.le_of_lt hlt) ((zBj q.oc).2.2 a ha),fun a ha=>Nat.le_trans (Nat.le_of_lt hlt) ((zBj q.od).2.2 a ha)⟩⟩,by rw [HZ.out];exact h1,by rw [HZ.out];exact h2,hs,by rw [HF.out];exact HOK.out,by rw [HF.out];exact HEQ.out⟩,below_setRow H21.out (Nat.le_refl _) _⟩
      ·obtain ⟨TT,hTT⟩:∃ x,(⟨(zBv ⟨xs,ys,es,is⟩).toArray⟩:ByteArray)=x:=⟨_,rfl⟩
       rw [hTT] at pk
       have hq:(TT.toList==S.toList)=false:=beq_false_of_ne (fun h=>heq (by rw [ByteArray.toList_eq,ByteArray.toList_eq,←hTT] at h;simpa using h))
       have hq2:(TT.toList != S.toList)=true:=by rw [bne,hq];rfl
       have PK:=zA pk
       have HNO:=zA (show ¬(ModOk zR (zCt S.data.toList)∧zBv (zCt S.data.toList)=S.data.toList) from fun h=>heq (by rw [←HF.out];exact h.2))
       clear pk hok heq hTT
       go_wp2_with (first
        | (go_at_call 19;((with_reducible refine PK.out.mono ?_);rintro e w21 ⟨rfl,hb21⟩;have B21:=zA (zH hb21 b2);have H21:=zA (zI HBR.out hb21);have HH21:=zA (HH.out.below hb21);(try clear m0 m1 m2 m3 mL);obtain ⟨n0,n1,n2,n3⟩:=zT (zH hb21 HST.out.mb);have nL:=(zH hb21 HST.out.mb).lt;clear hb21))
        | (refine wpList_store_rowTo rfl 48 (.tmp 2) (.tmp 111) rfl rfl w.heap.size #[.slice none 0 0,.slice none 0 0,.slice none 0 0,.slice none 0 0] rfl rfl 48 _ B21.out (by kernel_rfl) rfl (by kernel_rfl) ?_))
       refine bodyPost_ret (zET (g:=w.heap.size) (t:=48) (cs:=#[.slice none 0 0,.slice none 0 0,.slice none 0 0,.slice none 0 0]) (fr:=(0,0)) rfl _ _ _ rfl (zC4 B21.out _) Tryz.underlying48 rfl (by kernel_rfl)) rfl ?_
       exact ⟨.inl ⟨5,rfl,.inr (.inr (.inr ⟨by rw [HZ.out];exact h1,by rw [HZ.out];exact h2,hs,HNO.out,rfl⟩))⟩,below_setRow H21.out (Nat.le_refl _) _⟩
     ·have PK:=zA (zIb _ _ wr HH.out hok)
      have HNO:=zA (show ¬(ModOk zR (zCt S.data.toList)∧zBv (zCt S.data.toList)=S.data.toList) from fun h=>hok (by rw [←HF.out];exact h.1))
      clear hok
      go_wp2_with (first
       | (go_at_call 19;((with_reducible refine PK.out.mono ?_);rintro e w21 ⟨er,hne0,rfl,hb21⟩;have q1:(er != 0)=true:=(by simpa using hne0);have q2:(er==0)=false:=(by simpa using hne0);have B21:=zA (zH hb21 b2);have H21:=zA (zI HBR.out hb21);have HH21:=zA (HH.out.below hb21);(try clear m0 m1 m2 m3 mL);obtain ⟨n0,n1,n2,n3⟩:=zT (zH hb21 HST.out.mb);have nL:=(zH hb21 HST.out.mb).lt;clear hb21))
       | (refine wpList_store_rowTo rfl 48 (.tmp 2) (.tmp 111) rfl rfl w.heap.size #[.slice none 0 0,.slice none 0 0,.slice none 0 0,.slice none 0 0] rfl rfl 48 _ B21.out (by kernel_rfl) rfl (by kernel_rfl) ?_))
      refine bodyPost_ret (zET (g:=w.heap.size) (t:=48) (cs:=#[.slice none 0 0,.slice none 0 0,.slice none 0 0,.slice none 0 0]) (fr:=(0,0)) rfl _ _ _ rfl (zC4 B21.out _) Tryz.underlying48 rfl (by kernel_rfl)) rfl ?_
      exact ⟨.inl ⟨5,rfl,.inr (.inr (.inr ⟨by rw [HZ.out];exact h1,by rw [HZ.out];exact h2,hs,HNO.out,rfl⟩))⟩,below_setRow H21.out (Nat.le_refl _) _⟩
end Go.Proofs.YtlpejagkadalbaaGreatDoor
