import Derived.Great.BuildSlice
import Derived.Laws.CopyOwn
import Derived.Laws.Tables
import Derived.Lib.SmallJoins
import Derived.Test.YtlpejagkadalbaaGreatDoorPk13
import Derived.Test.YtlpejagkadalbaaGreatDoorPk34
import Derived.Test.YtlpejagkadalbaaGreatDoorPk38
import Derived.Test.YtlpejagkadalbaaGreatDoorPk42
import Derived.Test.YtlpejagkadalbaaGreatDoorPk04
import Derived.Test.YtlpejagkadalbaaGreatDoorPk33
import Derived.Test.YtlpejagkadalbaaGreatDoorPk28
set_option maxHeartbeats 40000000
set_option maxRecDepth 100000
set_option linter.unusedVariables false
set_option linter.unusedSimpArgs false
namespace Go.Proofs.YtlpejagkadalbaaGreatDoor
open Go Go.RowKit Go.Shelf
theorem results_rowM3 {P:Program} {fn:Func} {p q q':Tmp} {ty:TypeId} (h:fn.results=#[.cell p ty,.tmp q,.tmp q']) (tmps:Array Value) (w:World) (g:Nat) (t:TypeId) (cs:Array Value) (fr:Nat×Nat) (d:TypeDesc)
  (hp:tmps.getD p undef=.pointer (some ⟨g,0,none⟩)) (hg:w.heap[g]?=some (.cells cs t fr))
  (hu:P.underlying ty=some d) (hd:(match d with | .struct _ | .array _ _=>true | _=>false)=true) (hi:(P.info? ty).map (·.size)=some cs.size) :
  (results fn tmps).run P w=.ok (.tuple #[.agg cs,tmps.getD q undef,tmps.getD q' undef]) w:=by
 have hp':tmps[p]?.getD undef=.pointer (some ⟨g,0,none⟩):=by simpa using hp
 simp [results,h,hp',asAddr,run_loadVar_row w g t ty cs fr d hg hu hd hi]
theorem setRow_otherM (w:World) (g:Nat) (ds:Array Value) {k:Nat} (h:k≠g):(w.setRow g ds).heap[k]?=w.heap[k]?:=by
 unfold World.setRow
 simp only [Array.getElem?_modify]
 rw [if_neg (by omega)]
theorem bk_setRowM {w:World} {g:Nat} {T:TypeId} {cs:Array Value} (h:Bk w g T cs) (ds:Array Value):Bk (w.setRow g ds) g T ds:=setRow_heap w g cs ds T (0,0) h
theorem info_intM:(Tryz.prog.info? 3).map (fun i=>(i.zero,i.size,i.bytes))=some (some (.int .i64 0),1,8):=by kernel_rfl
theorem clone_intM (ao:Option Addr) (n cap:Nat) (vs:List Int) (w:World) (h:Sl w ao n vs) (hn:n*8≤140737488355328) :
  Calls Tryz.prog 65 #[.slice ao n cap] w (OwnPost w 3 vs):=by
 obtain ⟨i0,hi,hz0,hz1,hz2⟩:=info_parts info_intM
 have hl:=h.len
 have hq:∀ W,(binOp .eql 36 (.slice ao n cap) (.slice none 0 0)).run Tryz.prog W=.ok (.bool ao.isNone) W:=fun W=>Lib.run_eql_slice_nil W _ _ ao n cap 0 0 Tryz.underlying36
 cases ao with
 | none =>
  have hn0:n=0:=by
   rcases Nat.eq_zero_or_pos n with h0 | h0
   ·exact h0
   ·obtain ⟨a,e,_⟩:=h.row h0
    cases e
  have hv:vs=[]:=List.eq_nil_of_length_eq_zero (by omega)
  subst hv
  clear h hl hn0
  simp only [Option.isNone_none] at hq
  go_enter Tryz.func65,Tryz.ntmps65
  go_wp2
  go_ret
  exact ⟨_,rfl,Own.nil _ _ _,Below.refl _ _⟩
 | some a =>
  simp only [Option.isNone_some] at hq
  have H:=Lib.hid h
  have HL:=Lib.hid hl
  clear h hl
  go_enter Tryz.func65,Tryz.ntmps65
  have c63:([]:List Int).length+n≤maxLen:=by unfold maxLen;simp;omega
  have c47:(([]:List Int).length+n)*8≤140737488355328:=by simp;omega
  have cB:w.heap.size≤(w.alloc (.cells #[] 3)).heap.size:=by simp
  have hb0:Below w.heap.size w (w.alloc (.cells #[] 3)):=(Below.refl _ _).alloc (Nat.le_refl _) _
  go_wp2_with (at_builtin;refine wpList_append_sl rfl (.tmp 5) (.tmp 6) 36 rfl w.heap.size 3 i0 _ 8 Tryz.underlying36 hi hz0 hz1 hz2 rfl (.slice (some ⟨w.heap.size,0,none⟩) 0 0) ([]:List Int) rfl (own_lit w 3 w.heap.size (Nat.le_refl _) #[] 0 rfl (by decide) rfl) (some a) n cap vs rfl (H.out.alloc _) c63 c47 cB ?_;intro v1 w1 hown1 hgr1 hat1)
  go_ret
  refine ⟨v1,rfl,hown1,hb0.grown hgr1 (by simp) ?_⟩
  intro k hk
  simp [Value.ownBlock] at hk
  omega
theorem clone_impM (w:World):Calls Tryz.prog 66 #[.slice none 0 0] w fun e w'=>e=.returned (.slice none 0 0)∧w'=w:=by
 have hq:∀ W,(binOp .eql 46 (.slice none 0 0) (.slice none 0 0)).run Tryz.prog W=.ok (.bool true) W:=fun W=>Lib.run_eql_slice_nil W _ _ none 0 0 0 0 Tryz.underlying46
 go_enter Tryz.func66,Tryz.ntmps66
 go_wp2
 go_ret
 exact ⟨rfl,rfl⟩
def MakePost (w:World) (x:ReadV) (data:List Int) (e:Ending) (w':World):Prop :=
 ((∃ ln er,er≠0∧e=.returned (.tuple #[.agg #[.slice none 0 0,.slice none 0 0,.slice none 0 0,.slice none 0 0],.int .i64 ln,.int .i64 er]))∧(x.er≠0∨¬ModOk isNameB ⟨x.code,data,x.labels,[]⟩) ∨
 (∃ r:ModR,e=.returned (.tuple #[.agg #[.slice r.code.a r.code.n r.code.c,.slice r.data.a r.data.n r.data.c,.slice r.ex.a r.ex.n r.ex.c,.slice r.im.a r.im.n r.im.c],.int .i64 0,.int .i64 0])∧r.has w' ⟨x.code,data,x.labels,[]⟩∧r.im=⟨none,0,0⟩∧x.er=0∧ModOk isNameB ⟨x.code,data,x.labels,[]⟩))∧Below w.heap.size w w'
theorem make_any (s:ByteArray) (ao:Option Addr) (n c:Nat) (data:List Int) (w:World) (he:PEnv w) (hs:s.size≤67108864) (hd:Sl w ao n data) (hn:n*8≤140737488355328) (hi:∀ x∈data,I64 x) (x:ReadV) (hx:readF s.data.toList=x)
  (hxi:∀ y∈x.code,I64 y) (hxl:∀ y∈x.labels,y.wf) :
  Calls Tryz.prog 37 #[.string s,.slice ao n c,.slice none 0 0] w (MakePost w x data):=by
 obtain ⟨w1,hw1⟩:∃ w1,w1=w.alloc (.cells #[.slice none 0 0,.slice none 0 0,.slice none 0 0,.slice none 0 0] 48):=⟨_,rfl⟩
 have h1w:Below w.heap.size w w1:=by rw [hw1];exact ext_alloc (Below.refl _ _) _
 have b1:Bk w1 w.heap.size 48 #[.slice none 0 0,.slice none 0 0,.slice none 0 0,.slice none 0 0]:=by rw [hw1];exact bk_new _ _ _
 have rd:=pread_any s w1 (he.below h1w) hs
 rw [hx] at rd
 have RD:=Lib.hid rd
 have HW1:=Lib.hid hw1
 have H1W:=Lib.hid h1w
 have B1:=Lib.hid b1
 have HD:=Lib.hid hd
 have HI:=Lib.hid hi
 have HXI:=Lib.hid hxi
 have HXL:=Lib.hid hxl
 clear rd hw1 h1w b1 he hd hi hxi hxl hx
 obtain ⟨xc,xl,xn,xe⟩:=x
 go_enter Tryz.func37,Tryz.ntmps37
 go_upto_region 1 with (fail)
 rw [←HW1.out]
 go_upto_region 2 with (go_at_call 64;((with_reducible refine RD.out.mono ?_);rintro e w2 ⟨vc,vl,rfl,hc,hl,hb2⟩;have HC:=Lib.hid hc;have HL:=Lib.hid hl;have HB2:=Lib.hid hb2;clear hc hl hb2))
 have B2:=Lib.hid (bk_keep HB2.out B1.out)
 have HC:Hid (Own w2 w1.heap.size 3 vc xc):=HC
 have HL:Hid (Own w2 w1.heap.size 91 vl xl):=HL
 by_cases hxe:xe=0
 ·subst hxe
  obtain ⟨ca,cc,rfl,hcs,hcb⟩:=HC.out.sl
  obtain ⟨la,lc,rfl,hls,hlb⟩:=HL.out.sl
  have HCB:=Lib.hid hcb
  have HLB:=Lib.hid hlb
  clear hcb hlb
  obtain ⟨nc,hnc⟩:∃ nc,xc.length=nc:=⟨_,rfl⟩
  obtain ⟨nl,hnl⟩:∃ nl,xl.length=nl:=⟨_,rfl⟩
  rw [hnc] at hcs HC
  rw [hnl] at hls HL
  have cle:nc≤cc:=by
   rcases HC.out.form with ⟨e,_⟩ | ⟨_,_,e,_,_,h3,_⟩
   ·injection e with _ e1 e2;omega
   ·injection e with _ e1 e2;omega
  have lle:nl≤lc:=by
   rcases HL.out.form with ⟨e,_⟩ | ⟨_,_,e,_,_,h3,_⟩
   ·injection e with _ e1 e2;omega
   ·injection e with _ e1 e2;omega
  have CL:=Lib.hid (clone_intM ao n c data w2 (HD.out.below (ext_trans H1W.out HB2.out)) hn)
  have CS:=Lib.hid hcs
  have LS:=Lib.hid hls
  have CLE:=Lib.hid cle
  have LLE:=Lib.hid lle
  have HNC:=Lib.hid hnc
  have HNL:=Lib.hid hnl
  clear hcs hls cle lle hnc hnl
  try rw [HNC.out]
  try rw [HNL.out]
  go_upto_region 5 with (first
   | (go_at_call 65;((with_reducible refine CL.out.mono ?_);rintro e w3 ⟨v3,rfl,ho3,hb3⟩;obtain ⟨da,dc,rfl,hds,hdb⟩:=Own.sl ho3;have HDB:=Lib.hid hdb;clear hdb;have HB3:=Lib.hid (ext_trans HB2.out hb3);have B3:=Lib.hid (bk_keep hb3 B2.out);have CS3:=Lib.hid (CS.out.below hb3);have LS3:=Lib.hid (LS.out.below hb3);have DS3:=Lib.hid hds;have HO3:=Lib.hid ho3;clear ho3 hb3 hds))
   | (go_at_call 66;((with_reducible refine (clone_impM _).mono ?_);rintro e w' ⟨rfl,hw'⟩;subst w')))
  have hn':=HD.out.len
  obtain ⟨nd,hnd⟩:∃ nd,data.length=nd:=⟨_,rfl⟩
  obtain ⟨w4,hw4⟩:∃ w4,w4=w3.alloc (.cells #[.slice ca nc cc,.slice da nd dc,.slice la nl lc,.slice none 0 0] 48):=⟨_,rfl⟩
  obtain ⟨g4,hg4⟩:∃ g4,w3.heap.size=g4:=⟨_,rfl⟩
  try rw [hnd]
  rw [←hw4]
  try rw [hg4]
  rw [hnd] at DS3 HO3
  have dle:nd≤dc:=by
   rcases HO3.out.form with ⟨e,_⟩ | ⟨_,_,e,_,_,h3,_⟩
   ·injection e with _ e1 e2;omega
   ·injection e with _ e1 e2;omega
  have hb4:Below w3.heap.size w3 w4:=by rw [hw4];exact ext_alloc (Below.refl _ _) _
  have M4:=Lib.hid (show Bk w4 g4 48 #[.slice ca nc cc,.slice da nd dc,.slice la nl lc,.slice none 0 0] by rw [hw4,←hg4];exact bk_new _ _ _)
  have hhas:(⟨⟨ca,nc,cc⟩,⟨da,nd,dc⟩,⟨la,nl,lc⟩,⟨none,0,0⟩⟩:ModR).has w4 ⟨xc,data,xl,[]⟩ :=
   ⟨CS3.out.below hb4,DS3.out.below hb4,LS3.out.below hb4,Sl.nil _ _,⟨CLE.out,dle,LLE.out,Nat.le_refl _⟩,HXI.out,HI.out,HXL.out,fun x hx=>by cases hx⟩
  have ck:=mod_check _ _ w4 hhas
  have HB4:=Lib.hid (ext_trans HB3.out hb4)
  have B4:=Lib.hid (bk_keep hb4 B3.out)
  have CK:=Lib.hid ck
  have HH:=Lib.hid hhas
  obtain ⟨m0,m1,m2,m3⟩:=cellsM4 M4.out
  have mL:=M4.out.lt
  clear hw4 hg4 hb4 hhas ck dle
  go_upto_region 6 with (go_at_call 20;((with_reducible refine CK.out.mono ?_);rintro e w5 ⟨er,rfl,her,hb5⟩;have HER:=Lib.hid her;have HB5:=Lib.hid (ext_trans HB4.out hb5);have B5:=Lib.hid (bk_keep hb5 B4.out);have M5:=Lib.hid (bk_keep hb5 M4.out);have HH5:=Lib.hid (HH.out.below hb5);clear her hb5))
  clear m0 m1 m2 m3 mL
  by_cases h0:er=0
  ·subst h0
   have hok:=HER.out.1 rfl
   obtain ⟨m0,m1,m2,m3⟩:=cellsM4 M5.out
   have mL:=M5.out.lt
   go_wp2_with (refine wpList_store_rowTo rfl 48 (.tmp 6) (.tmp 40) rfl rfl w.heap.size #[.slice ca nc cc,.slice da nd dc,.slice la nl lc,.slice none 0 0] rfl rfl 48 _ B5.out (by kernel_rfl) rfl (by kernel_rfl) ?_)
   refine bodyPost_ret (results_rowM3 (g:=w.heap.size) (t:=48) (cs:=#[.slice ca nc cc,.slice da nd dc,.slice la nl lc,.slice none 0 0]) (fr:=(0,0)) rfl _ _ _ rfl (bk_setRowM B5.out _) Tryz.underlying48 rfl (by kernel_rfl)) rfl ?_
   have hg0:=B1.out.lt
   have hw12:=HB2.out.size
   have hh:=HH5.out
   have hkeep:∀ {α:Type} [El α] {ao:Option Addr} {n:Nat} {xs:List α},Sl w5 ao n xs→(∀ a,ao=some a→w1.heap.size≤a.block)→Sl (w5.setRow w.heap.size #[.slice ca nc cc,.slice da nd dc,.slice la nl lc,.slice none 0 0]) ao n xs:=fun hsl hne =>
    hsl.keep (by simp [World.setRow]) (fun a ha=>by
     have:=hne a ha
     exact setRow_otherM _ _ _ (by omega))
   exact ⟨.inr ⟨⟨⟨ca,nc,cc⟩,⟨da,nd,dc⟩,⟨la,nl,lc⟩,⟨none,0,0⟩⟩,rfl,⟨hkeep hh.code fun a ha=>(HCB.out a ha).1,hkeep hh.data fun a ha=>Nat.le_trans hw12 (HDB.out a ha).1,hkeep hh.ex fun a ha=>(HLB.out a ha).1,Sl.nil _ _,hh.le,hh.wc,hh.wd,hh.we,hh.wi⟩,rfl,rfl,hok⟩,below_setRow (ext_trans H1W.out HB5.out) (Nat.le_refl _) _⟩
  ·have q1:(er != 0)=true:=by simpa using h0
   have q2:(er==0)=false:=by simpa using h0
   have hno:¬ModOk isNameB ⟨xc,data,xl,[]⟩:=fun h=>h0 (HER.out.2 h)
   go_wp2_with (refine wpList_store_rowTo rfl 48 (.tmp 6) (.tmp 38) rfl rfl w.heap.size #[.slice none 0 0,.slice none 0 0,.slice none 0 0,.slice none 0 0] rfl rfl 48 _ B5.out (by kernel_rfl) rfl (by kernel_rfl) ?_)
   refine bodyPost_ret (results_rowM3 (g:=w.heap.size) (t:=48) (cs:=#[.slice none 0 0,.slice none 0 0,.slice none 0 0,.slice none 0 0]) (fr:=(0,0)) rfl _ _ _ rfl (bk_setRowM B5.out _) Tryz.underlying48 rfl (by kernel_rfl)) rfl ?_
   exact ⟨.inl ⟨⟨_,er,h0,rfl⟩,.inr hno⟩,below_setRow (ext_trans H1W.out HB5.out) (Nat.le_refl _) _⟩
 ·have q1:(xe != 0)=true:=by simpa using hxe
  have q2:(xe==0)=false:=by simpa using hxe
  go_wp2_with (refine wpList_store_rowTo rfl 48 (.tmp 6) (.tmp 24) rfl rfl w.heap.size #[.slice none 0 0,.slice none 0 0,.slice none 0 0,.slice none 0 0] rfl rfl 48 _ B2.out (by kernel_rfl) rfl (by kernel_rfl) ?_)
  refine bodyPost_ret (results_rowM3 (g:=w.heap.size) (t:=48) (cs:=#[.slice none 0 0,.slice none 0 0,.slice none 0 0,.slice none 0 0]) (fr:=(0,0)) rfl _ _ _ rfl (bk_setRowM B2.out _) Tryz.underlying48 rfl (by kernel_rfl)) rfl ?_
  exact ⟨.inl ⟨⟨_,xe,hxe,rfl⟩,.inl hxe⟩,below_setRow (ext_trans H1W.out HB2.out) (Nat.le_refl _) _⟩
end Go.Proofs.YtlpejagkadalbaaGreatDoor
namespace Go.Proofs.YtlpejagkadalbaaGreatDoor
open Go.RowKit
theorem bit_pow (k i:Nat) (hk:k < 64):(bv ((2 ^ k:Nat):Int)).getLsbD i=decide (i=k):=by
 have e:bv ((2 ^ k:Nat):Int)=BitVec.ofNat 64 (2 ^ k):=by unfold bv;exact BitVec.ofInt_natCast 64 _
 rw [e,BitVec.getLsbD_ofNat,Nat.testBit_two_pow]
 by_cases h:i=k
 ·subst h;simp [hk]
 ·have:¬k=i:=fun e=>h e.symm
  simp [h,this]
theorem bit_and {p:Int} (k:Nat) (hk:k < 64) (h:andI p ((2 ^ k:Nat):Int)≠0):(bv p).getLsbD k=true:=by
 cases hb:(bv p).getLsbD k
 ·exfalso
  apply h
  unfold andI
  rw [toInt_zero]
  apply BitVec.eq_of_getLsbD_eq
  intro i hi
  rw [BitVec.getLsbD_and,bit_pow k i hk]
  by_cases e:i=k
  ·subst e;simp [hb]
  ·simp [e]
 ·rfl
theorem bits9:∀ i:Nat,(bv 9).getLsbD i=true→i=0∨i=3:=by
 intro i hi
 have hl:i < 64:=by
  rcases Nat.lt_or_ge i 64 with h | h
  ·exact h
  ·rw [BitVec.getLsbD_of_ge _ _ h] at hi;cases hi
 have:∀ i:Fin 64,(bv 9).getLsbD i.val=true→i.val=0∨i.val=3:=by decide
 exact this ⟨i,hl⟩ hi
theorem within9 {p:Int} (h1:andI p 1≠0) (h8:andI p 8≠0):withinB 9 p=true:=by
 rw [withinB_iff]
 intro i hi
 rcases bits9 i hi with rfl | rfl
 ·exact bit_and 0 (by decide) h1
 ·exact bit_and 3 (by decide) h8
theorem within2 {p:Int} (h:andI p 2≠0):withinB 2 p=true:=by
 rw [withinB_iff]
 intro i hi
 rw [show (2:Int)=((2 ^ 1:Nat):Int) from rfl,bit_pow 1 i (by decide)] at hi
 rw [of_decide_eq_true hi]
 exact bit_and 1 (by decide) h
def DomT (G:KeyV→Prop) (k:KeyV):Prop:=∃ g,G g∧lessP k g
def DomV (G:KeyV→Prop) (v:ValV):Prop:=v.is=true→DomT G v.k
def hitT (G:KeyV→Prop) (p:Int) (j:Nat):Prop:=∃ g,G g∧withinB p g.perm=true∧covB g.base g.len j=true
structure Safe (G:KeyV→Prop) (m0:List ValV) (m:MV):Prop where
 regs:∀ v∈m.R,DomV G v
 code:DomT G m.c
 stk:∀ f∈m.stk,DomT G f.code∧DomV G f.data
 len:m.mem.length=m0.length
 mem:∀ j:Nat,m.mem.getD j zeroV=m0.getD j zeroV∨(hitT G 2 j∧DomV G (m.mem.getD j zeroV))
def Whole (G:KeyV→Prop) (m0:List ValV):Prop:=∀ g,G g→withinB 9 g.perm=true→∀ j:Nat,covB g.base g.len j=true→j < m0.length→(m0.getD j zeroV).is=true→G (m0.getD j zeroV).k
section
variable {G:KeyV→Prop} {m0:List ValV} {m n:MV} {i:InstV} {k q:KeyV}
theorem DomT.at (h:DomT G k) (x:Int):DomT G {k with at_:=x}:=by
 obtain ⟨g,h1,h2⟩:=h
 exact ⟨g,h1,h2⟩
theorem DomT.bare (h:DomT G k):DomT G (bareK k):=by
 obtain ⟨g,h1,h2⟩:=h
 exact ⟨g,h1,h2⟩
theorem DomT.less (h:DomT G k) (hl:lessP q k) (h0:0≤q.len):DomT G q:=by
 obtain ⟨g,h1,h2⟩:=h
 exact ⟨g,h1,lessP_trans hl h2 h0⟩
theorem DomV.num (n:Int):DomV G (nV n):=fun h=>by cases h
theorem DomV.zero:DomV G zeroV:=fun h=>by cases h
theorem DomV.key (h:DomT G k):DomV G (kV k):=fun _=>h
theorem Safe.reg (h:Safe G m0 m) (r:Int):DomV G (m.reg r):=by
 unfold MV.reg
 rw [List.getD_eq_getElem?_getD]
 cases hr:m.R[r.toNat]? with
 | none=>exact DomV.zero
 | some v=>exact h.regs v (List.mem_of_getElem? hr)
theorem Safe.key (h:Safe G m0 m) {r:Int} (hk:m.key r=.ok k):DomT G k:=by
 obtain ⟨h1,rfl⟩:=key_ok hk
 exact h.reg r h1
theorem Safe.set (h:Safe G m0 m) (r:Int) {v:ValV} (hv:DomV G v):Safe G m0 (m.set r v) :=
 ⟨fun u hu=>by
  rcases List.mem_or_eq_of_mem_set hu with hu | rfl
  ·exact h.regs u hu
  ·exact hv,h.code,h.stk,h.len,h.mem⟩
theorem Safe.fwd (h:Safe G m0 m) (d:Int):Safe G m0 (m.fwd d):=⟨h.regs,h.code.at _,h.stk,h.len,h.mem⟩
theorem keyStep_dom (hs:KeyStep i m k q) (h:DomT G k):DomT G q:=by
 cases hs with
 | mvK ho hn hq=>have:=move_less (k:=k) (n:=_) (by rw [hq]);rw [hq] at this;exact h.less this.2.2.2 this.1.l0
 | nwK ho hn hq=>have:=narrow_less (k:=k) (n:=_) (by rw [hq]);rw [hq] at this;exact h.less this.2.2.2 this.1.l0
 | drK ho hq=>have:=drop_less (k:=k) (n:=_) (by rw [hq]);rw [hq] at this;exact h.less this.2.2.2 this.1.l0
 | slK ho hn hq=>have:=seal_less (k:=k) (c:=_) (by rw [hq]);rw [hq] at this;exact h.less this.2.2.2 this.1.l0
 | opK ho hn hq=>have:=open_less (k:=k) (c:=_) (by rw [hq]);rw [hq] at this;exact h.less this.2.2 this.1.l0
theorem cov_less (hl:lessP q k) {x:Int} (hc:covB q.base q.len x=true):covB k.base k.len x=true:=by
 rw [covB_iff] at hc ⊢
 rcases hl.1 with h | h<;>omega
theorem getF_dom (hG:Whole G m0) (h:Safe G m0 m) (hk:DomT G k) {off:Int} {v:ValV} (hg:getF m.mem k off=(v,0)):DomV G v:=by
 have h1:(atF m.mem.length k off 1).2=0:=by
  by_cases e:(atF m.mem.length k off 1).2=0
  ·exact e
  ·simp only [getF] at hg
   rw [if_pos e] at hg
   injection hg with _ hg
 obtain ⟨a1,a2,a3,a4,a5,a6,a7⟩:=atF_ok.1 h1
 have hb:=(covB_iff.1 a6).1
 have hp:=a1.b0
 obtain ⟨j,hj⟩:=Int.eq_ofNat_of_zero_le (show 0≤k.at_+off by omega)
 rw [getF_ok h1 hj] at hg
 by_cases hc:(m.mem.getD j zeroV).is=true∧andI k.perm 8=0
 ·rw [if_pos hc] at hg
  injection hg with hg
  rw [←hg]
  exact DomV.zero
 ·rw [if_neg hc] at hg
  injection hg with hg
  rw [←hg]
  rcases h.mem j with e | ⟨_,e⟩
  ·intro hi
   obtain ⟨g,g1,g2⟩:=hk
   have h8:andI k.perm 8≠0:=fun e8=>hc ⟨hi,e8⟩
   rw [e] at hi ⊢
   refine ⟨_,hG g g1 (withinB_trans (within9 a3 h8) g2.2) j ?_ ?_ hi,lessP_refl _⟩
   ·have:=cov_less g2 a6;rwa [hj] at this
   ·have:=h.len;omega
  ·exact e
theorem setV_dom (hG:Whole G m0) (h:Safe G m0 m) {v:ValV} (hs:SetV i m v):DomV G v:=by
 cases hs with
 | set ho=>exact DomV.num _
 | copy ho=>exact h.reg _
 | nums ho hb hc hn=>exact DomV.num _
 | ask0 ho hc=>exact DomV.num _
 | ask ho hc hk=>exact DomV.num _
 | here ho=>exact DomV.key h.code
 | load ho hk hg=>exact getF_dom hG h (h.key hk) hg
 | key hk hs=>exact DomV.key (keyStep_dom hs (h.key hk))
theorem Safe.step (hG:Whole G m0) (h:Safe G m0 m) (hs:Stepd i m n):Safe G m0 n:=by
 cases hs with
 | set hv=>exact (h.set _ (setV_dom hG h hv)).fwd 1
 | store ho hk hp =>
  rename_i k
  have h0:(atF m.mem.length k i.c 2).2=0:=by
   by_cases h0:(atF m.mem.length k i.c 2).2=0
   ·exact h0
   ·rw [putE_err h0] at hp;exact absurd hp h0
  obtain ⟨a1,a2,a3,a4,a5,a6,a7⟩:=atF_ok.1 h0
  have hb:=(covB_iff.1 a6).1
  have hp0:=a1.b0
  obtain ⟨j,hj⟩:=Int.eq_ofNat_of_zero_le (show 0≤k.at_+i.c by omega)
  obtain ⟨g,g1,g2⟩:=h.key hk
  refine Safe.fwd (m:={m with mem:=storeM m.mem k i.c (m.reg i.a)}) ⟨h.regs,h.code,h.stk,?_,fun l=>?_⟩ 1
  ·show (storeM m.mem k i.c (m.reg i.a)).length=m0.length
   unfold storeM
   rw [List.length_set];exact h.len
  ·show (storeM m.mem k i.c (m.reg i.a)).getD l zeroV=_∨_
   unfold storeM
   rw [hj,Int.toNat_natCast]
   by_cases e:j=l
   ·subst e
    refine .inr ⟨⟨g,g1,withinB_trans (within2 a3) g2.2,?_⟩,?_⟩
    ·have:=cov_less g2 a6;rwa [hj] at this
    ·show DomV G ((m.mem.set j (m.reg i.a)).getD j zeroV)
     rw [List.getD_eq_getElem?_getD,List.getElem?_set_self (by omega)]
     exact h.reg _
   ·have e2:(m.mem.set j (m.reg i.a)).getD l zeroV=m.mem.getD l zeroV:=by
     rw [List.getD_eq_getElem?_getD,List.getD_eq_getElem?_getD,List.getElem?_set_ne e]
    show (m.mem.set j (m.reg i.a)).getD l zeroV=_∨(hitT G 2 l∧DomV G ((m.mem.set j (m.reg i.a)).getD l zeroV))
    rw [e2]
    exact h.mem l
 | clear ho =>
  refine Safe.fwd (m:={m with R:=clearL i.c m.R}) ⟨fun v hv=>?_,h.code,h.stk,h.len,h.mem⟩ 1
  simp only [clearL,List.mem_mapIdx] at hv
  obtain ⟨r,hr,rfl⟩:=hv
  split
  ·exact DomV.zero
  ·exact h.regs _ (List.getElem_mem hr)
 | tell ho hn hl=>rename_i x;exact Safe.fwd (m:={m with out:=m.out++[x]}) ⟨h.regs,h.code,h.stk,h.len,h.mem⟩ 1
 | jump ho hn=>exact h.fwd _
 | ifn ho hn hd hx=>exact h.fwd _
 | call ho ha hb h1 h2 h3 h4 h5 =>
  refine ⟨fun v hv=>?_,(h.key ha).bare,fun f hf=>?_,h.len,h.mem⟩
  ·rcases List.mem_or_eq_of_mem_set hv with hv | rfl
   ·exact h.regs v hv
   ·exact DomV.key (h.key hb).bare
  ·rcases List.mem_append.1 hf with hf | hf
   ·exact h.stk f hf
   ·rw [List.mem_singleton.1 hf]
    exact ⟨h.code.at _,h.reg _⟩
 | back ho hb =>
  rename_i s f
  have hf:=h.stk f (by rw [hb];simp)
  refine ⟨fun v hv=>?_,hf.1,fun f' hf'=>h.stk f' (by rw [hb];exact List.mem_append_left _ hf'),h.len,h.mem⟩
  rcases List.mem_or_eq_of_mem_set hv with hv | rfl
  ·exact h.regs v hv
  ·exact hf.2
theorem Safe.one (hG:Whole G m0) (h:Safe G m0 m) (ho:m.one=.ok n):Safe G m0 n:=by
 obtain ⟨i,_,hs⟩:=one_cases ho
 exact h.step hG hs
theorem Safe.run (hG:Whole G m0) (f:Nat):∀ m:MV,Safe G m0 m→Safe G m0 (m.run f).1:=by
 induction f with
 | zero=>intro m h;exact h
 | succ f ih =>
  intro m h
  cases ho:m.one with
  | ok n=>rw [run_ok ho];exact ih n (h.one hG ho)
  | error e=>rw [run_er ho];exact h
end
end Go.Proofs.YtlpejagkadalbaaGreatDoor
