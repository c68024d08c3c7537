import Derived.Test.YtlpejagkadalbaaGreatDoorPk33
import Derived.Test.YtlpejagkadalbaaGreatDoorPk37
import Derived.Test.YtlpejagkadalbaaGreatDoorPk12
import Derived.Test.YtlpejagkadalbaaGreatDoorPk35
import Derived.Test.YtlpejagkadalbaaGreatDoorPk28
import Derived.Test.YtlpejagkadalbaaGreatDoorPk29
import Derived.Test.YtlpejagkadalbaaGreatDoorPk32
import Derived.KernelRfl
import Derived.Test.YtlpejagkadalbaaGreatDoorPk02
import Derived.Test.YtlpejagkadalbaaGreatDoorPk10
set_option maxHeartbeats 40000000
set_option maxRecDepth 100000
set_option linter.unusedVariables false
set_option linter.unusedSimpArgs false
namespace Go.Proofs.YtlpejagkadalbaaGreatDoor
open Go.RowKit
def N1 {α:Type} (x:Ex α):Prop:=∀ e:Int,x=.error e→e≠1
end Go.Proofs.YtlpejagkadalbaaGreatDoor
namespace Go.Proofs.YtlpejagkadalbaaGreatDoor
open Go.RowKit
structure DoneV where
 e:Int
 n:Int
 out:List Int
 fuel:Int
def entM (M:List ValV) (x:EntryV) (args:List Int):MV:=⟨entR x args,entK x,M,[],[]⟩
def runD (r:MV×Int×Int):DoneV:=⟨if r.2.2=16 then 0 else r.2.2,if (r.1.R.getD 0 zeroV).is then 0 else (r.1.R.getD 0 zeroV).n,r.1.out,r.2.1⟩
def doX (M:List ValV) (r:MV×Int×Int):DoneV×List ValV:=if r.2.2=1 then (⟨1,0,[],0⟩,M) else (runD r,r.1.mem)
def doF (M:List ValV) (E:List EntryV) (s:ByteArray) (args:List Int) (f:Int):DoneV×List ValV :=
 if enterE E s args≠0 then (⟨enterE E s args,0,[],0⟩,M) else doX M (runF (entM M ((findE E s).getD zeroE) args) f)
theorem entM_8 (M:List ValV) (x:EntryV) (args:List Int):(entM M x args).R.length=8:=by
 show (entR x args).length=8
 unfold entR
 rw [List.length_set,argR_len]
theorem entM_mem_ok {M:List ValV} (h:memCheck M=0) {E:List EntryV} {s:ByteArray} {args:List Int} {f:Int}:memCheck (doF M E s args f).2=0:=by
 unfold doF
 split
 ·exact h
 ·unfold doX
  split
  ·exact h
  ·next h1 =>
   show memCheck (runF _ f).1.mem=0
   unfold runF at h1 ⊢
   by_cases hc:runE (entM M ((findE E s).getD zeroE) args) f=0
   ·rw [if_neg (by simp [hc])]
    unfold runE at hc
    by_cases hf:f < 0∨5000 < f
    ·rw [if_pos hf] at hc;cases hc
    ·rw [if_neg hf] at hc
     have hk:=run_okM f.toNat _ (ok_of_check (entM_8 M ((findE E s).getD zeroE) args) hc)
     have:=check_of_ok hk
     unfold MV.check at this
     exact (memCheck_zero _).2 ⟨hk.1.len,hk.1.mem⟩
   ·rw [if_pos hc]
    exact (memCheck_zero []).2 ⟨by simp,fun v hv=>by simp at hv⟩
end Go.Proofs.YtlpejagkadalbaaGreatDoor
namespace Go.Proofs.YtlpejagkadalbaaGreatDoor
open Go.RowKit
structure JobR where
 name:ByteArray
 args:SlR
 fuel:Int
structure JobV where
 name:ByteArray
 args:List Int
 fuel:Int
instance:El JobR where
 k:=3
 cl x:=[.string x.name,.slice x.args.a x.args.n x.args.c,.int .i64 x.fuel]
 z:=⟨ByteArray.empty,⟨none,0,0⟩,0⟩
 len _:=rfl
 one _:=by intro u hu;simp at hu;rcases hu with rfl | rfl | rfl<;>rfl
 pos:=by decide
instance:Inhabited JobR:=⟨⟨ByteArray.empty,⟨none,0,0⟩,0⟩⟩
theorem add_moreJobR (a:Addr) (i j:Nat) (hj:0 < j):a.add (i+j)=⟨(a.add i).block,(a.add i).off+j,none⟩:=by
 unfold Addr.add
 rw [if_neg (by omega)]
 by_cases hi:i=0
 ·subst hi;simp
 ·rw [if_neg hi];simp [Nat.add_assoc]
theorem sl_JobR {w:World} {ao:Option Addr} {n:Nat} {ks:List JobR} (h:Sl w ao n ks) {i:Nat} (hi:i < n) {x:JobR} (hx:ks[i]?=some x):∃ a,ao=some a∧(a.add (i*3)).block < w.heap.size ∧
  w.cell? (a.add (i*3))=some (.string x.name)∧w.cell? ⟨(a.add (i*3)).block,(a.add (i*3)).off+1,none⟩=some (.slice x.args.a x.args.n x.args.c)∧w.cell? ⟨(a.add (i*3)).block,(a.add (i*3)).off+2,none⟩=some (.int .i64 x.fuel):=by
 obtain ⟨a,y,e,hb,hy,hc⟩:=h.at hi
 obtain rfl:y=x:=by rw [hx] at hy;injection hy with hy;exact hy.symm
 refine ⟨a,e,by rw [el_block];exact hb,?_⟩
 rw [←add_moreJobR a (i*3) 1 (by decide),←add_moreJobR a (i*3) 2 (by decide)]
 exact ⟨hc 0 _ rfl,hc 1 _ rfl,hc 2 _ rfl⟩
structure JobR.has (w:World) (r:JobR) (j:JobV):Prop where
 name:j.name=r.name
 fuel:j.fuel=r.fuel
 args:Sl w r.args.a r.args.n j.args
 le:r.args.n≤r.args.c
 wa:∀ n∈j.args,I64 n
 wf:I64 r.fuel
theorem JobR.has.below {w w':World} {r:JobR} {j:JobV} (h:r.has w j) (hb:Below w.heap.size w w'):r.has w' j:=⟨h.name,h.fuel,h.args.below hb,h.le,h.wa,h.wf⟩
structure Jobs (w:World) (ao:Option Addr) (n:Nat) (rs:List JobR) (js:List JobV):Prop where
 sl:Sl w ao n rs
 len:rs.length=js.length
 at_:∀ (i:Nat) (r:JobR) (j:JobV),rs[i]?=some r→js[i]?=some j→r.has w j
theorem Jobs.below {w w':World} {ao:Option Addr} {n:Nat} {rs:List JobR} {js:List JobV} (h:Jobs w ao n rs js) (hb:Below w.heap.size w w'):Jobs w' ao n rs js :=
 ⟨h.sl.below hb,h.len,fun i r m h1 h2=>(h.at_ i r m h1 h2).below hb⟩
theorem Jobs.n {w:World} {ao:Option Addr} {n:Nat} {rs:List JobR} {js:List JobV} (h:Jobs w ao n rs js):js.length=n:=by rw [←h.len];exact h.sl.len
theorem Jobs.get {w:World} {ao:Option Addr} {n:Nat} {rs:List JobR} {js:List JobV} (h:Jobs w ao n rs js) {i:Nat} (hi:i < n):∃ r j,rs[i]?=some r∧js[i]?=some j∧r.has w j:=by
 have h1:=h.n
 have h2:=h.len
 exact ⟨_,_,List.getElem?_eq_getElem (by omega),List.getElem?_eq_getElem (by omega),h.at_ i _ _ (List.getElem?_eq_getElem (by omega)) (List.getElem?_eq_getElem (by omega))⟩
end Go.Proofs.YtlpejagkadalbaaGreatDoor
namespace Go.Proofs.YtlpejagkadalbaaGreatDoor
open Go.RowKit
def memK (E:List EntryV) (M:List ValV) (js:List JobV):List ValV:=js.foldl (fun M j=>(doF M E j.name j.args j.fuel).2) M
def donesK (E:List EntryV):List ValV→List JobV→List DoneV
 | _,[]=>[]
 | M,j::js=>(doF M E j.name j.args j.fuel).1::donesK E (doF M E j.name j.args j.fuel).2 js
theorem memK_snoc (E:List EntryV) (M:List ValV) (js:List JobV) (j:JobV):memK E M (js++[j])=(doF (memK E M js) E j.name j.args j.fuel).2:=by unfold memK;simp
theorem donesK_snoc (E:List EntryV) (j:JobV):∀ (js:List JobV) (M:List ValV),donesK E M (js++[j])=donesK E M js++[(doF (memK E M js) E j.name j.args j.fuel).1]
 | [],M=>rfl
 | x::js,M=>by
  rw [List.cons_append,donesK,donesK,donesK_snoc E j js,List.cons_append]
  rfl
theorem donesK_len (E:List EntryV):∀ (js:List JobV) (M:List ValV),(donesK E M js).length=js.length
 | [],_=>rfl
 | j::js,M=>by rw [donesK,List.length_cons,List.length_cons,donesK_len E js]
theorem memK_next {E:List EntryV} {M:List ValV} {js:List JobV} {k:Nat} {j:JobV} (h:js[k]?=some j):memK E M (js.take (k+1))=(doF (memK E M (js.take k)) E j.name j.args j.fuel).2:=by
 rw [List.take_add_one,h]
 exact memK_snoc _ _ _ _
theorem donesK_next {E:List EntryV} {M:List ValV} {js:List JobV} {k:Nat} {j:JobV} (h:js[k]?=some j):donesK E M (js.take (k+1))=donesK E M (js.take k)++[(doF (memK E M (js.take k)) E j.name j.args j.fuel).1]:=by
 rw [List.take_add_one,h]
 exact donesK_snoc _ _ _ _
theorem memK_ok {E:List EntryV}:∀ {js:List JobV} {M:List ValV},ImOk M E→ImOk (memK E M js) E
 | [],_,h=>h
 | j::js,M,h=>by
  show ImOk (memK E (doF M E j.name j.args j.fuel).2 js) E
  exact memK_ok ⟨entM_mem_ok h.m,h.e,h.k⟩
structure DoneR where
 e:Int
 n:Int
 out:SlR
 fuel:Int
instance:El DoneR where
 k:=4
 cl x:=[.int .i64 x.e,.int .i64 x.n,.slice x.out.a x.out.n x.out.c,.int .i64 x.fuel]
 z:=⟨0,0,⟨none,0,0⟩,0⟩
 len _:=rfl
 one _:=by intro u hu;simp at hu;rcases hu with rfl | rfl | rfl | rfl<;>rfl
 pos:=by decide
instance:Inhabited DoneR:=⟨⟨0,0,⟨none,0,0⟩,0⟩⟩
theorem add_moreDoneR (a:Addr) (i j:Nat) (hj:0 < j):a.add (i+j)=⟨(a.add i).block,(a.add i).off+j,none⟩:=by
 unfold Addr.add
 rw [if_neg (by omega)]
 by_cases hi:i=0
 ·subst hi;simp
 ·rw [if_neg hi];simp [Nat.add_assoc]
theorem sl_DoneR {w:World} {ao:Option Addr} {n:Nat} {ks:List DoneR} (h:Sl w ao n ks) {i:Nat} (hi:i < n) {x:DoneR} (hx:ks[i]?=some x):∃ a,ao=some a∧(a.add (i*4)).block < w.heap.size ∧
  w.cell? (a.add (i*4))=some (.int .i64 x.e)∧w.cell? ⟨(a.add (i*4)).block,(a.add (i*4)).off+1,none⟩=some (.int .i64 x.n)∧w.cell? ⟨(a.add (i*4)).block,(a.add (i*4)).off+2,none⟩=some (.slice x.out.a x.out.n x.out.c)∧w.cell? ⟨(a.add (i*4)).block,(a.add (i*4)).off+3,none⟩=some (.int .i64 x.fuel):=by
 obtain ⟨a,y,e,hb,hy,hc⟩:=h.at hi
 obtain rfl:y=x:=by rw [hx] at hy;injection hy with hy;exact hy.symm
 refine ⟨a,e,by rw [el_block];exact hb,?_⟩
 rw [←add_moreDoneR a (i*4) 1 (by decide),←add_moreDoneR a (i*4) 2 (by decide),←add_moreDoneR a (i*4) 3 (by decide)]
 exact ⟨hc 0 _ rfl,hc 1 _ rfl,hc 2 _ rfl,hc 3 _ rfl⟩
structure DoneR.has (W:World) (base:Nat) (r:DoneR) (x:DoneV):Prop where
 e:r.e=x.e
 n:r.n=x.n
 fuel:r.fuel=x.fuel
 out:Own W base 3 (.slice r.out.a r.out.n r.out.c) x.out
structure Dones (W:World) (base:Nat) (rs:List DoneR) (ds:List DoneV):Prop where
 len:rs.length=ds.length
 at_:∀ (i:Nat) (r:DoneR) (x:DoneV),rs[i]?=some r→ds[i]?=some x→r.has W base x
section
variable {W W':World} {base:Nat} {rs:List DoneR} {ds:List DoneV}
theorem Dones.nil:Dones W base [] []:=⟨rfl,fun i r x h=>by simp at h⟩
theorem Dones.map (h:Dones W base rs ds) (f:∀ (v:Value) (xs:List Int),Own W base 3 v xs→Own W' base 3 v xs):Dones W' base rs ds :=
 ⟨h.len,fun i r x h1 h2=>by have:=h.at_ i r x h1 h2;exact ⟨this.e,this.n,this.fuel,f _ _ this.out⟩⟩
theorem Dones.below (h:Dones W base rs ds) (hb:Below W.heap.size W W'):Dones W' base rs ds:=h.map fun v xs o=>o.below hb
theorem Dones.mono {b':Nat} (h:Dones W base rs ds) (hb:b'≤base):Dones W b' rs ds :=
 ⟨h.len,fun i r x h1 h2=>by have:=h.at_ i r x h1 h2;exact ⟨this.e,this.n,this.fuel,this.out.mono hb⟩⟩
theorem Dones.cell (h:Dones W base rs ds) {k:Nat} {T:TypeId} {cs:Array Value} (hb:Bk W k T cs) (hT:T≠3) (i:Nat) (u:Value):Dones (W.setCell ⟨k,i,none⟩ u) base rs ds:=h.map fun v xs o=>own_cell o hb hT i u
theorem Dones.snoc (h:Dones W base rs ds) {r:DoneR} {x:DoneV} (hx:r.has W base x):Dones W base (rs++[r]) (ds++[x]):=by
 refine ⟨by rw [List.length_append,List.length_append,h.len];rfl,fun i r' x' h1 h2=>?_⟩
 have hl:=h.len
 rcases Nat.lt_or_ge i rs.length with hi | hi
 ·rw [List.getElem?_append_left hi] at h1
  rw [List.getElem?_append_left (by omega)] at h2
  exact h.at_ i r' x' h1 h2
 ·rw [List.getElem?_append_right hi] at h1
  rw [List.getElem?_append_right (by omega)] at h2
  have h0:i - rs.length=0:=by
   have:=(List.getElem?_eq_some_iff.1 h1).1
   simp at this
   omega
  rw [h0] at h1
  rw [show i - ds.length=0 by omega] at h2
  simp at h1 h2
  subst h1 h2
  exact hx
end
theorem own_parted {α β:Type} [El α] [El β] {w:World} {b b':Nat} {T T':TypeId} {v u:Value} {xs:List α} {ys:List β} (h:Own w b T v xs) (h':Own w b' T' u ys) (hT:T≠T'):v.ownBlock=none∨v.ownBlock≠u.ownBlock:=by
 cases hv:v.ownBlock with
 | none=>exact .inl rfl
 | some k =>
  right
  intro e
  obtain ⟨cur,fr,h1⟩:=own_obj h hv
  obtain ⟨cur',fr',h2⟩:=own_obj h' e.symm
  rw [h1] at h2
  injection h2 with h2
  injection h2 with _ h2
  exact hT h2
theorem lit_done (w:World) (r:DoneR) (T:TypeId):Sl (w.alloc (.cells #[.int .i64 r.e,.int .i64 r.n,.slice r.out.a r.out.n r.out.c,.int .i64 r.fuel] T)) (some ⟨w.heap.size,0,none⟩) 1 [r]:=by
 have h0:=own_lit (xs:=[r]) w T 0 (Nat.zero_le _) #[.int .i64 r.e,.int .i64 r.n,.slice r.out.a r.out.n r.out.c,.int .i64 r.fuel] 1 rfl (by decide) rfl
 obtain ⟨ao,c,e,h,_⟩:=h0.sl
 injection e with e _ _
 subst e
 simpa using h
end Go.Proofs.YtlpejagkadalbaaGreatDoor
namespace Go.Proofs.YtlpejagkadalbaaGreatDoor
open Go Go.RowKit
abbrev cntT:List UInt8:=[105,110,99,58,10,108,111,97,100,32,114,49,32,114,55,32,48,10,115,101,116,32,114,50,32,49,10,97,100,100,32,114,49,32,114,49,32,114,50,10,115,116,111,114,101,32,114,49,32,114,55,32,48,10,99,111,112,121,32,114,48,32,114,49,10,99,108,101,97,114,32,54,10,98,97,99,107,10,103,101,116,58,10,108,111,97,100,32,114,48,32,114,55,32,48,10,98,97,99,107]
abbrev incB:ByteArray:=⟨#[105,110,99]⟩
abbrev getB:ByteArray:=⟨#[103,101,116]⟩
def codeC:List Int:=[packF ⟨10,1,7,0⟩,packF ⟨1,2,0,1⟩,packF ⟨3,1,1,2⟩,packF ⟨11,1,7,0⟩,packF ⟨2,0,1,0⟩,packF ⟨21,0,0,6⟩,packF ⟨19,0,0,0⟩,packF ⟨10,0,7,0⟩,packF ⟨19,0,0,0⟩]
theorem read_C:readF cntT=⟨codeC,[⟨incB,0⟩,⟨getB,7⟩],0,0⟩:=by kernel_rfl
def modC (n:Int):ModV:=⟨codeC,[n],[⟨incB,0⟩,⟨getB,7⟩],[]⟩
theorem codeC_ok:codeC.length=9∧nums32 codeC:=by
 have h:(codeC.all fun n=>decide (-2147483648≤n∧n≤2147483647))=true:=by kernel_rfl
 exact ⟨rfl,fun n hn=>of_decide_eq_true (List.all_eq_true.1 h n hn)⟩
theorem names_C:isNameB incB=true∧isNameB getB=true:=⟨by kernel_rfl,by kernel_rfl⟩
theorem modC_ok {n:Int} (h : -2147483648≤n∧n≤2147483647):ModOk isNameB (modC n):=by
 obtain ⟨c1,c2⟩:=codeC_ok
 refine ⟨by show codeC.length≤120;omega,by simp [modC],by simp [modC],by simp [modC],c2,(fun x hx=>by simp [modC] at hx;subst hx;exact h),(fun x hx=>?_),?_,(fun x hx=>by simp [modC] at hx),by simp [modC]⟩
 ·simp [modC] at hx
  rcases hx with rfl | rfl
  ·exact ⟨names_C.1,by decide,by show (0:Int) < (codeC.length:Int);omega⟩
  ·exact ⟨names_C.2,by decide,by show (7:Int) < (codeC.length:Int);omega⟩
 ·show List.Pairwise _ [(⟨incB,0⟩:NamV),⟨getB,7⟩]
  simp
theorem linkC_ok {n:Int} (h : -2147483648≤n∧n≤2147483647):LinkOk isNameB [modC n]:=by
 refine ⟨by simp,fun m hm=>by simp at hm;subst hm;exact modC_ok h,?_,?_,by simp [imNames,modC]⟩
 ·show [incB,getB].Nodup
  decide
 ·rw [total_cons,total_nil]
  show codeC.length+1+0≤400
  have:=codeC_ok.1
  omega
abbrev jobsC:List JobV:=[⟨incB,[],50⟩,⟨incB,[],50⟩,⟨getB,[],50⟩]
theorem counts:(donesK (entriesF 0 0 [modC 5]) (linkMem [modC 5]) jobsC).map (fun d=>(d.e,d.n))=[(0,6),(0,7),(0,7)]:=by kernel_rfl
theorem counts_len:(memK (entriesF 0 0 [modC 5]) (linkMem [modC 5]) jobsC).length=(linkMem [modC 5]).length:=by kernel_rfl
end Go.Proofs.YtlpejagkadalbaaGreatDoor
namespace Go.Proofs.YtlpejagkadalbaaGreatDoor
open Go Go.RowKit
structure RInv (r:RdV):Prop where
 h1:∀ h∈r.holes,0≤h.at_∧h.at_ < r.code.length
 h2:r.holes.Pairwise fun a b=>a.at_ < b.at_
 l1:∀ x∈r.labels,isNameB x.name=true∧0≤x.at_∧x.at_≤r.code.length
 l2:r.labels.Pairwise fun a b=>a.name≠b.name
theorem rd0_inv:RInv rd0:=⟨by simp [rd0],by simp [rd0],by simp [rd0],by simp [rd0]⟩
theorem findA_no {l:List NamV} {s:ByteArray} (hl:∀ x∈l,0≤x.at_) (h:findA l s < 0):∀ x∈l,x.name≠s:=by
 intro x hx e
 unfold findA at h
 cases hf:l.find? (fun x=>decide (x.name=s)) with
 | none =>
  rw [List.find?_eq_none] at hf
  exact hf x hx (by simpa using e)
 | some y =>
  rw [hf] at h
  have:=hl y (List.mem_of_find?_eq_some hf)
  simp only at h
  omega
theorem line_inv {r:RdV} (hi:RInv r) {n:Int} {s:List UInt8} (h:(lineR r n s).2=0):RInv (lineR r n s).1:=by
 obtain ⟨a1,a2,a3,a4⟩:=hi
 have more:∀ k:Int,RInv ⟨r.code++[k],r.labels,r.holes⟩:=fun k =>
  ⟨fun x hx=>by have:=a1 x hx;simp only [List.length_append,List.length_singleton];push_cast;omega,a2,fun x hx=>by have:=a3 x hx;simp only [List.length_append,List.length_singleton];push_cast;exact ⟨this.1,this.2.1,by omega⟩,a4⟩
 unfold lineR at h ⊢
 split
 ·exact ⟨a1,a2,a3,a4⟩
 next h1 =>
 rw [if_neg h1] at h
 split
 ·next h2 =>
  rw [if_pos h2] at h
  unfold labelR at h ⊢
  split
  ·exact ⟨a1,a2,a3,a4⟩
  next g1 =>
  split
  ·exact ⟨a1,a2,a3,a4⟩
  next g2 =>
  have g2':=Int.not_le.1 g2
  split
  ·exact ⟨a1,a2,a3,a4⟩
  refine ⟨a1,a2,fun x hx=>?_,?_⟩
  ·rcases List.mem_append.1 hx with h3 | h3
   ·exact a3 x h3
   ·rw [List.mem_singleton] at h3
    subst h3
    exact ⟨by simpa using g1,by simp only;omega,Int.le_refl _⟩
  ·refine List.pairwise_append.2 ⟨a4,List.pairwise_singleton _ _,fun x hx y hy=>?_⟩
   rw [List.mem_singleton] at hy
   subst hy
   exact findA_no (fun z hz=>(a3 z hz).2.1) g2' x hx
 next h2 =>
 rw [if_neg h2] at h
 split
 ·exact ⟨a1,a2,a3,a4⟩
 next h3 =>
 rw [if_neg h3] at h
 unfold cellR at h ⊢
 split
 ·split
  ·exact more _
  ·exact ⟨a1,a2,a3,a4⟩
 split
 ·obtain ⟨b1,b2,b3,b4⟩:=more 0
  refine ⟨fun x hx=>?_,?_,b3,b4⟩
  ·rcases List.mem_append.1 hx with h3 | h3
   ·exact b1 x h3
   ·rw [List.mem_singleton] at h3
    subst h3
    simp only [List.length_append,List.length_singleton]
    push_cast;omega
  ·refine List.pairwise_append.2 ⟨a2,List.pairwise_singleton _ _,fun x hx y hy=>?_⟩
   rw [List.mem_singleton] at hy
   subst hy
   exact (a1 x hx).2
 split
 ·exact more _
 ·exact ⟨a1,a2,a3,a4⟩
theorem lines_inv:∀ (ls:List (List UInt8)) (r:RdV) (n:Nat),RInv r→(linesR r n ls).2.2=0→RInv (linesR r n ls).1
 | [],r,n,hi,_=>hi
 | s::ls,r,n,hi,h=>by
  rw [lines_cons] at h ⊢
  split
  ·next hk=>rw [if_pos hk] at h;exact lines_inv ls _ _ (line_inv hi hk) h
  ·next hk=>rw [if_neg hk] at h;exact absurd h hk
end Go.Proofs.YtlpejagkadalbaaGreatDoor
namespace Go.Proofs.YtlpejagkadalbaaGreatDoor
open Go Go.RowKit
end Go.Proofs.YtlpejagkadalbaaGreatDoor
namespace Go.Proofs.YtlpejagkadalbaaGreatDoor
open Go Go.RowKit Go.Shelf
attribute [local go_sem] Oper.semAt_some
def MV.places (m:MV):Nat→List Int
 | 0=>[]
 | f+1=>if m.err=0 then m.c.at_::m.after.places f else []
theorem places_len (f:Nat):∀ m:MV,(m.places f).length=(m.run f).2.1:=by
 induction f with
 | zero=>intro m;rfl
 | succ f ih =>
  intro m
  by_cases he:m.err=0
  ·rw [run_next he]
   show (if m.err=0 then m.c.at_::m.after.places f else []).length=_
   rw [if_pos he,List.length_cons,ih]
  ·rw [(run_stop he).1]
   show (if m.err=0 then m.c.at_::m.after.places f else []).length=_
   rw [if_neg he]
   rfl
theorem iter_gen (gm ge gA gB gC:Nat) (J:List Int→MV→Int→World→Prop) (n l fu:Nat) (hn:1≤n)
  (on:∀ (L:List Int) (mk:MV),mk.Ok→∀ W,J L mk 0 W→Calls Tryz.prog 71 #[.pointer (some ⟨gm,0,none⟩)] W fun r W'=>r=.returned (.int .i64 mk.err)∧J L mk.after 0 W')
  (er:∀ (L:List Int) (mk:MV) W (e:Int),J L mk e W→∀ e':Int,J L mk e' (W.setCell ⟨ge,0,none⟩ (.int .i64 e')))
  (dr:∀ (L:List Int) (mk:MV) W,J L mk 0 W→J L mk 0 W.drew)
  (cl:∀ (L:List Int) (mk:MV) (e:Int) W,J L mk e W→W.cell? ⟨gA,0,none⟩=some (.int .i64 fu)∧W.cell? ⟨gB,0,none⟩=some (.pointer (some ⟨gm,0,none⟩))∧W.cell? ⟨gC,0,none⟩=some (.pointer (some ⟨ge,0,none⟩))∧W.cell? ⟨ge,0,none⟩=some (.int .i64 e)∧W.cell? ⟨gm,59,none⟩=some (.int .i64 mk.c.at_)∧W.frozen? ⟨ge,0,none⟩=false)
  (hY:∀ (L:List Int) (mk:MV) (at_:Int) (W:World),L.length < fu→J L mk 0 W→YieldAt Fence.wide (n - 1) Tryz.prog l #[.int .i64 at_] W fun e W'=>e=.returned (.bool true)∧J (L++[at_]) mk 0 W')
  (hfu:fu≤5000) (m:MV) (hok:m.Ok) (W:World) (h0:J [] m 0 W) :
  CallsIn Fence.wide n Tryz.prog 70 #[.func (.yield l) #[] #[],.pointer (some ⟨gA,0,none⟩),.pointer (some ⟨gB,0,none⟩),.pointer (some ⟨gC,0,none⟩)] W fun e W' =>
   (∃ v,e=.returned v)∧∃ e',J (m.places fu) (m.run fu).1 e' W':=by
 obtain ⟨f0,_⟩:=cl [] m 0 W h0
 have HY:=Lib.hid hY
 have ON:=Lib.hid on
 have ER:=Lib.hid er
 have DR:=Lib.hid dr
 have CL:=Lib.hid cl
 have H0:=Lib.hid h0
 clear hY on er dr cl h0
 refine callsIn_of_wp Tryz.func70 rfl trivial ?_ rfl
 simp only [Tryz.ntmps70,List.size_toArray,List.length_cons,List.length_nil,Nat.reduceAdd,Nat.reduceSub,Array.replicate_succ,Array.replicate_zero,List.push_toArray,List.append_toArray,List.nil_append,List.cons_append]
 gi_wp2
 gi_loopw [7] (fun p wr=>∃ (L:List Int) (mk:MV),p=.int .i64 L.length∧L.length≤fu∧mk.Ok∧J L mk 0 wr∧(m.run fu).1=(mk.run (fu - L.length)).1∧m.places fu=L++mk.places (fu - L.length)) (fun i _=>fu - (intOf i).toNat)
 case atStart=>exact ⟨[],m,rfl,Nat.zero_le _,hok,H0.out,rfl,rfl⟩
 case round =>
  obtain ⟨L,mk,rfl,hk,hmk,hs,hrun,hpl⟩:=hrel
  obtain ⟨b1,b2,b3,b4,b5,b6⟩:=CL.out L mk 0 _ hs
  obtain ⟨k,hkl⟩:∃ k,L.length=k:=⟨_,rfl⟩
  rw [hkl] at hk hrun hpl ⊢
  have HKL:=Lib.hid hkl
  clear hkl
  by_cases hlt:k < fu
  ·have q1:(k:Int) < fu:=by omega
   have HS:=Lib.hid hs
   have HRUN:=Lib.hid hrun
   have HPL:=Lib.hid hpl
   clear hs hrun hpl
   gi_wp2
   gi_region_with (refine ⟨trivial,?_⟩;gi_at_call 71;refine (callsIn_wide.2 (ON.out L mk hmk _ (by first | exact HS.out | exact DR.out _ _ _ HS.out))).mono ?_;rintro e w' ⟨rfl,hr⟩;obtain ⟨d1,d2,d3,d4,d5,d6⟩:=CL.out L _ 0 _ hr;have HR:=Lib.hid hr;clear hr)
   all_goals
    have h5:=ER.out L _ _ _ HR.out mk.err
    obtain ⟨e1,e2,e3,e4,e5,e6⟩:=CL.out L mk.after mk.err _ h5
    obtain ⟨w5,hw5⟩:∃ w5,w5=w'.setCell ⟨ge,0,none⟩ (.int .i64 mk.err):=⟨_,rfl⟩
    rw [←hw5] at h5 e1 e2 e3 e4 e5 e6 ⊢
    clear hw5 d1 d2 d3 d4 d5 d6 b1 b2 b3 b4 b5 b6 HR f0
    by_cases he:mk.err=0
    ·rw [he] at h5 e4 ⊢
     obtain ⟨fn,tmps,assign,body,hy,hR⟩:=HY.out L mk.after mk.c.at_ w5 (by rw [HKL.out];exact hlt) h5
     have hfin:(m.run fu).1=(mk.after.run (fu - (k+1))).1:=by
      rw [HRUN.out,show fu - k=(fu - (k+1))+1 by omega,run_next he]
     have hpin:m.places fu=(L++[mk.c.at_])++mk.after.places (fu - (k+1)):=by
      rw [HPL.out,show fu - k=(fu - (k+1))+1 by omega,List.append_assoc]
      show L++(if mk.err=0 then mk.c.at_::mk.after.places (fu - (k+1)) else [])=_
      rw [if_pos he]
      rfl
     have hok':=after_ok hmk
     have HFIN:=Lib.hid hfin
     have HPIN:=Lib.hid hpin
     have HR2:=Lib.hid hR
     clear h5 he hfin hpin hR
     gi_wp2
     refine HR2.out.mono ?_
     rintro e W6 ⟨rfl,h6⟩
     have H6:=Lib.hid h6
     clear h6
     gi_wp2
     go_roundw
     case rel=>exact ⟨L++[mk.c.at_],mk.after,by rw [List.length_append,HKL.out];go_num,by rw [List.length_append,HKL.out];simp;omega,hok',H6.out,by rw [List.length_append,HKL.out];exact HFIN.out,by rw [List.length_append,HKL.out];exact HPIN.out⟩
     case measure=>simp [intOf];omega
    ·have g1:(mk.err != 0)=true:=by simpa using he
     have H5:=Lib.hid h5
     have HE:=Lib.hid he
     clear h5 he
     gi_wp2
     refine ⟨fun _ h=>(by cases h),?_⟩
     gi_wp2
     refine bodyPost_ret (results_none rfl _ _ _) rfl ?_
     have hst:=run_stop (f:=fu - k - 1) HE.out
     have hpin:m.places fu=L:=by
      rw [HPL.out,show fu - k=(fu - k - 1)+1 by omega]
      show L++(if mk.err=0 then mk.c.at_::mk.after.places (fu - k - 1) else [])=_
      rw [if_neg HE.out,List.append_nil]
     rw [hpin,HRUN.out,show fu - k=(fu - k - 1)+1 by omega,hst.1]
     have:=H5.out
     rw [hst.2] at this
     exact ⟨⟨_,rfl⟩,_,this⟩
  ·have q1:¬((k:Int) < fu):=by omega
   obtain rfl:k=fu:=by omega
   have h5:=ER.out L _ _ _ hs 15
   rw [Nat.sub_self] at hrun hpl
   have H5:=Lib.hid h5
   have HRUN:=Lib.hid hrun
   have HPL:=Lib.hid hpl
   clear h5 hrun hs hpl
   gi_wp2
   go_end0
   rw [HRUN.out,HPL.out]
   refine ⟨⟨_,rfl⟩,15,?_⟩
   show J (L++[]) mk 15 _
   rw [List.append_nil]
   exact H5.out
end Go.Proofs.YtlpejagkadalbaaGreatDoor
namespace Go.Proofs.YtlpejagkadalbaaGreatDoor
open Go.RowKit
def MV.at_ (m:MV):Nat→MV
 | 0=>m
 | i+1=>(m.at_ i).after
end Go.Proofs.YtlpejagkadalbaaGreatDoor
namespace Go.Proofs.YtlpejagkadalbaaGreatDoor
open Go.Joins Go.ChangeShapes Go.WideShapes Go.ChangeAt Go.RowKit Go.Deep
section
variable {H:Type} {enc:TypeId×Value→H} {w:World} {spare:Nat→Bool} {held:Bool}
theorem int_cellsP {fuel:Nat} {cs:List Value} {x:DataW H×List MemPlace} (h:DataW.trod enc Tryz.prog w 0 spare held fuel 3 cs=some x) (hl:cs.length=1):∃ n:Int,cs=cl n∧I64 n:=by
 match cs,hl with
 | [c0],_ =>
  obtain ⟨a,f0,_,w0⟩:=DataW.trod_int Tryz.underlying3 h
  simp at f0
  subst f0
  exact ⟨a,rfl,wf_bd w0⟩
theorem open_ints {r:Reach} {b0:Nat} {v:Value} {d:DataW H} {p:List MemPlace} (hv:Value.okWide Tryz.prog w r b0 36 v) (h:DataW.Trod enc Tryz.prog w 0 spare held 36 v d p) :
  ∃ x:SlV Int,v=x.val∧x.ok I64 w∧(x.n=0∨∃ es sp,d=.slice es sp∧es.length=x.n) :=
 open_els Tryz.underlying36 (by kernel_rfl) (fun fuel cs x hx hl => int_cellsP hx hl) hv h
end
end Go.Proofs.YtlpejagkadalbaaGreatDoor
