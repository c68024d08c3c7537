import Derived.Test.YtlpejagkadalbaaGreatDoorZk26
import Derived.Test.YtlpejagkadalbaaGreatDoorZk29
import Derived.Test.YtlpejagkadalbaaGreatDoorSortLay
set_option maxHeartbeats 40000000
set_option maxRecDepth 100000
set_option linter.unusedVariables false
set_option linter.unusedSimpArgs false
namespace Go.Proofs.YtlpejagkadalbaaGreatDoor
section
open Go.RowKit
def NZ {α:Type} (x:Ex α):Prop:=∀ k,x=.error k→k≠0
theorem NZ.ok {α:Type} (a:α):NZ (.ok a:Ex α):=fun k h=>by cases h
theorem NZ.err {α:Type} {k:Int} (h:k≠0):NZ (.error k:Ex α):=fun j e=>by injection e with e;rw [←e];exact h
theorem NZ.bind {α β:Type} {x:Ex α} {f:α→Ex β} (h:NZ x) (hf:∀ a,NZ (f a)):NZ (x >>= f):=by
 cases x with
 | error k =>
  have hk:=h k rfl
  intro j e
  rw [eb1] at e
  injection e with e
  rw [←e]
  exact hk
 | ok a=>exact hf a
theorem NZ.ite {α:Type} {p:Prop} [Decidable p] {x y:Ex α} (h:NZ x) (k:NZ y):NZ (if p then x else y):=by split;exact h;exact k
theorem NZ.num (m:MV) (r:Int):NZ (m.num r):=by unfold MV.num;exact NZ.ite (NZ.err (by decide)) (NZ.ok _)
theorem NZ.key (m:MV) (r:Int):NZ (m.key r):=by unfold MV.key;exact NZ.ite (NZ.ok _) (NZ.err (by decide))
theorem NZ.res {α:Type} (q:α×Int):NZ (zCS q):=by
 rcases zGn q with ⟨_,e⟩ | ⟨h,e⟩<;>rw [e]
 ·exact NZ.ok _
 ·exact NZ.err h
theorem NZ.goes (m:MV) (n:Int):NZ (m.goes n):=by unfold MV.goes;exact NZ.ite (NZ.err (by decide)) (NZ.ok _)
theorem NZ.exec (m:MV) (i:InstV):NZ (m.exec i):=by
 unfold MV.exec
 refine NZ.ite (NZ.err (by decide)) (NZ.ite (NZ.goes _ _) (NZ.ite (NZ.bind (NZ.num _ _) fun n=>NZ.goes _ _) (NZ.ite ?_ (NZ.ite ?_ (NZ.bind ?_ fun _=>NZ.ok _)))))
 ·unfold MV.call
  exact NZ.bind (NZ.key _ _) fun a=>NZ.bind (NZ.key _ _) fun b=>NZ.ite (NZ.err (by decide)) (NZ.ite (NZ.err (by decide)) (NZ.ite (NZ.err (by decide)) (NZ.ok _)))
 ·unfold MV.back
  split
  ·exact NZ.err (by decide)
  ·exact NZ.ok _
 ·unfold MV.plain
  refine NZ.ite (NZ.ok _) (NZ.ite (NZ.ok _) (NZ.ite ?_ (NZ.ite ?_ (NZ.ite (NZ.ok _) (NZ.ite (NZ.ok _) (NZ.ite ?_ ?_))))))
  ·unfold MV.numbers
   refine NZ.bind (NZ.num _ _) fun b=>NZ.bind (NZ.num _ _) fun c=>NZ.bind ?_ fun _=>NZ.ok _
   unfold opN zJ1
   exact NZ.ite (NZ.ok _) (NZ.ite (NZ.ok _) (NZ.ite (NZ.ok _) (NZ.ite (NZ.ok _) (NZ.ite (NZ.err (by decide)) (NZ.ok _)))))
  ·unfold MV.ask
   exact NZ.ite (NZ.ok _) (NZ.bind (NZ.key _ _) fun _=>NZ.ok _)
  ·unfold MV.tell
   exact NZ.bind (NZ.num _ _) fun _=>NZ.ite (NZ.err (by decide)) (NZ.ok _)
  ·unfold MV.byKey
   refine NZ.bind (NZ.key _ _) fun k=>NZ.ite (NZ.bind (NZ.res _) fun _=>NZ.ok _) (NZ.ite ?_ (NZ.ite (NZ.bind (NZ.num _ _) fun _=>NZ.bind (NZ.res _) fun _=>NZ.ok _) (NZ.ite (NZ.bind (NZ.num _ _) fun _=>NZ.bind (NZ.res _) fun _=>NZ.ok _)
    (NZ.ite (NZ.bind (NZ.res _) fun _=>NZ.ok _) (NZ.ite (NZ.bind (NZ.key _ _) fun _=>NZ.bind (NZ.res _) fun _=>NZ.ok _) (NZ.bind (NZ.key _ _) fun _=>NZ.bind (NZ.res _) fun _=>NZ.ok _))))))
   intro j
   split
   ·rename_i h;exact fun e=>by injection e with e;rw [←e];exact h
   ·exact fun e=>by cases e
theorem NZ.fetch (m:MV):NZ m.fetch:=by
 unfold MV.fetch
 intro j
 simp only
 split
 ·rename_i h;exact fun e=>by injection e with e;rw [←e];exact h
 ·exact NZ.ite (NZ.err (by decide)) (NZ.ite (NZ.ok _) (NZ.err (by decide))) j
theorem err_zero {m:MV}:m.err=0↔∃ m',m.one=.ok m':=by
 unfold MV.err
 have h:NZ m.one:=by unfold MV.one;exact NZ.bind (NZ.fetch m) fun i=>NZ.exec m i
 cases e:m.one with
 | error k=>simp [h k e]
 | ok m'=>simp
def zeroMV:MV:=⟨zM3,zeroK,[],[],[]⟩
def MV.check (m:MV):Int:=zAd m.R m.c m.mem m.stk m.out
end
section
open Go Go.RowKit Go.Shelf
def zBf (c:Nat):Bool:=(decide (c < 97)||decide (122 < c))&&(decide (c < 48)||decide (57 < c))
def zF8 (s:ByteArray):Nat:=if h:0 < s.size then (s[0]'h).toNat else 0
def zW (s:ByteArray):Bool:=decide (s.size≠0)&&decide (s.size≤12)&&decide (97≤zF8 s) && !decide (0≤Lib.idxFunc zBf true s)
theorem zKx (w:World):PredAt Tryz.prog 75 #[] encR zBf w:=by
 intro W x hb
 unfold FnGives
 show Calls Tryz.prog 75 #[.int .i32 (x:Int)] W _
 by_cases h1:x < 97
 ·have q1:(x:Int) < 97:=by omega
  by_cases h3:x < 48
  ·have q3:(x:Int) < 48:=by omega
   have e:zBf x=true:=by unfold zBf;simp;omega
   rw [e]
   go_enter Tryz.func75,Tryz.ntmps75
   go_wp2
   go_ret
   exact ⟨rfl,0,rfl⟩
  ·have q3:¬((x:Int) < 48):=by omega
   by_cases h4:57 < x
   ·have q4:(57:Int) < x:=by omega
    have e:zBf x=true:=by unfold zBf;simp;omega
    rw [e]
    go_enter Tryz.func75,Tryz.ntmps75
    go_wp2
    go_ret
    exact ⟨rfl,0,rfl⟩
   ·have q4:¬((57:Int) < x):=by omega
    have e:zBf x=false:=by unfold zBf;simp;omega
    rw [e]
    go_enter Tryz.func75,Tryz.ntmps75
    go_wp2
    go_ret
    exact ⟨rfl,0,rfl⟩
 ·have q1:¬((x:Int) < 97):=by omega
  by_cases h2:122 < x
  ·have q2:(122:Int) < x:=by omega
   have q3:¬((x:Int) < 48):=by omega
   have q4:(57:Int) < x:=by omega
   have e:zBf x=true:=by unfold zBf;simp;omega
   rw [e]
   go_enter Tryz.func75,Tryz.ntmps75
   go_wp2
   go_ret
   exact ⟨rfl,0,rfl⟩
  ·have q2:¬((122:Int) < x):=by omega
   have e:zBf x=false:=by unfold zBf;simp;omega
   rw [e]
   go_enter Tryz.func75,Tryz.ntmps75
   go_wp2
   go_ret
   exact ⟨rfl,0,rfl⟩
theorem zBO (s:ByteArray) (hs:s.size≤9223372036854775807) (w:World):Calls Tryz.prog 46 #[.string s] w fun e w'=>e=.returned (.bool (zW s))∧Below w.heap.size w w':=by
 have cf:=fun W=>Tryz.strings_ContainsFunc 75 #[] (fun args w=>enters_of Tryz.func75 (by kernel_rfl) rfl args w) zBf s W (zKx W)
 by_cases h0:s.size=0
 ·have e0:s=ByteArray.empty:=by
   obtain ⟨⟨l⟩⟩:=s
   have:l.length=0:=h0
   rw [List.eq_nil_of_length_eq_zero this];rfl
  subst e0
  have e:zW ByteArray.empty=false:=by unfold zW;simp
  rw [e]
  clear cf
  go_enter Tryz.func46,Tryz.ntmps46
  go_wp2
  go_ret
  exact ⟨rfl,Below.refl _ _⟩
 ·have g0:s.toList.isEmpty=false:=by
   rw [ByteArray.toList_eq]
   cases h:s.data.toList with
   | nil=>exact absurd (by rw [←ByteArray.size_data,←Array.length_toList,h];rfl) h0
   | cons a l=>rfl
  have CF:=zA cf
  by_cases h1:12 < s.size
  ·have q1:(12:Int) < s.size:=by omega
   have e:zW s=false:=by unfold zW;simp;omega
   rw [e]
   clear cf
   go_enter Tryz.func46,Tryz.ntmps46
   go_wp2
   go_ret
   exact ⟨rfl,Below.refl _ _⟩
  ·have q1:¬((12:Int) < s.size):=by omega
   have q0:(0:Int) < s.size:=by omega
   have hp:0 < s.size:=by omega
   have hb0:zF8 s=(s[0]'hp).toNat:=by unfold zF8;rw [dif_pos hp]
   obtain ⟨C,hC⟩:∃ C,decide (0≤Lib.idxFunc zBf true s)=C:=⟨_,rfl⟩
   rw [hC] at CF
   by_cases h2:zF8 s < 97
   ·have q2:(((s[0]'hp).toNat:Nat):Int) < 97:=by omega
    have e:zW s=false:=by unfold zW;simp;omega
    rw [e]
    clear cf CF hC
    go_enter Tryz.func46,Tryz.ntmps46
    go_wp2
    go_ret
    exact ⟨rfl,Below.refl _ _⟩
   ·have q2:¬((((s[0]'hp).toNat:Nat):Int) < 97):=by omega
    have e:zW s = !C:=by
     unfold zW
     rw [hC,decide_eq_true h0,decide_eq_true (show s.size≤12 by omega),decide_eq_true (show 97≤zF8 s by omega)]
     simp
    rw [e]
    clear cf hC
    go_enter Tryz.func46,Tryz.ntmps46
    go_wp2_with (go_at_call 74;((with_reducible refine (CF.out _).mono ?_);rintro e w' ⟨rfl,hb⟩))
    go_ret
    exact ⟨rfl,hb⟩
end
section
open Go Go.RowKit Go.Shelf
open Go.Maps (Keyed)
abbrev zDG (k:KeyV):List Value:=[.int .i64 k.perm,.int .i64 k.base,.int .i64 k.len,.int .i64 k.at_,.int .i64 k.seal_]
theorem zHz (ss:List KeyV) (t:Nat) (ht:t < ss.length*5):(cls ss)[t]?=some ((Sort.flatK zDG 5 ss.toArray)[t]!):=by
 rw [Sort.get_flatK zDG 5 ss.toArray t (by simpa using ht)]
 have h1:t / 5 < ss.length:=by omega
 have h2:t % 5 < 5:=Nat.mod_lt _ (by decide)
 have h3:=zC5 ss (t / 5) h1 (t % 5) h2
 rw [show t / 5*El.k KeyV+t % 5=t from by show t / 5*5+t % 5=t;omega] at h3
 rw [h3]
 have h4:ss.toArray[t / 5]! = ss[t / 5]:=by simp [h1]
 rw [h4]
 show (zDG ss[t / 5])[t % 5]?=some ((zDG ss[t / 5])[t % 5]!)
 rw [List.getElem?_eq_getElem (by simpa using h2),getElem!_pos _ _ (by simpa using h2)]
theorem zHv {w:World} {base blk cap:Nat} {ss:List KeyV} (h:Own w base 54 (.slice (some ⟨blk,0,none⟩) ss.length cap) ss) (hn:0 < ss.length):Sort.HoldsK zDG 5 w blk 0 ss.toArray∧blk < w.heap.size:=by
 obtain ⟨g,c,e,h1,h2,h3,h4⟩:=h.some hn
 injection e with e
 injection e with e
 injection e with e
 subst e
 refine ⟨fun j hj=>?_,h2⟩
 obtain ⟨a,ea,hb,hc⟩:=h3.row hn
 injection ea with ea
 subst ea
 have hj':j < ss.length*5:=by simpa using hj
 have:=hc j _ (zHz ss j hj')
 have e2:((⟨blk,0,none⟩:Addr).add j)=⟨blk,0+j,none⟩:=by unfold Addr.add;simp;try (intro h;exact h.symm)
 rw [e2] at this
 exact ⟨by rw [this];rfl,h4 _⟩
theorem zIT {w:World} {blk:Nat} {ss:List KeyV} (h:Sort.HoldsK zDG 5 w blk 0 ss.toArray) (hb:blk < w.heap.size) (hm:ss.length≤100000):Sl w (some ⟨blk,0,none⟩) ss.length ss:=by
 refine ⟨rfl,by unfold maxLen;omega,fun hn=>⟨_,rfl,hb,fun j u hu=>?_⟩⟩
 have hj:j < ss.length*5:=by
  have:=(List.getElem?_eq_some_iff.1 hu).1
  rw [zB3] at this
  exact this
 have e2:((⟨blk,0,none⟩:Addr).add j)=⟨blk,0+j,none⟩:=by unfold Addr.add;simp;try (intro h;exact h.symm)
 rw [e2,(h j (by simpa using hj)).1]
 rw [zHz ss j hj] at hu
 injection hu with hu
 rw [←hu];rfl
theorem zGC {w0 w:World} (h:Below w0.heap.size w0 w) {blk:Nat} (hb:w0.heap.size≤blk) (n:Nat) (d:Array KeyV) (os:Array Obj):Below w0.heap.size w0 (sortWorldK zDG 5 w blk 0 n d os):=by
 refine ⟨h.os,h.tape,h.output,Nat.le_trans h.size (size_sortWorldK_c zDG 5 w blk 0 n d os),fun k hk=>?_⟩
 have hkw:k < w.heap.size:=Nat.lt_of_lt_of_le hk h.size
 refine Eq.trans ?_ (h.block k hk)
 unfold sortWorldK Sort.putRowK Sort.putRow Sort.mapBlock Sort.ahead Sort.grow
 simp only
 rw [Array.getElem?_append_left (by simpa using hkw),Array.getElem?_modify]
 rw [if_neg (by omega)]
theorem zHq (b:Nat) (w:World):Calls Tryz.prog 60 #[.map (some b)] w fun e w'=>e=.returned (.func (.func 84) #[] #[.pointer (some ⟨w.heap.size,0,none⟩)])∧w'=w.alloc (.cells #[.map (some b)] 140):=by
 have hmf:∀ (fn:Fn) (first cap:Array Value) (w:World),(Instr.makeFunc fn first cap).run Tryz.prog w=.ok (.func fn first cap) w:=fun _ _ _ _=>rfl
 go_enter Tryz.func60,Tryz.ntmps60
 go_wp2
 go_ret
 exact ⟨rfl,rfl⟩
theorem zIq (blk off size:Nat) (w:World):CmpLays Tryz.prog 61 #[] zDG 5 zE3 blk off size w:=fun _ _ _ _ x y=>zJr x y _
theorem zHU (blk cap:Nat) (ss:List KeyV) (w:World) {base:Nat} (h:Own w base 54 (.slice (some ⟨blk,0,none⟩) ss.length cap) ss) (hn:0 < ss.length) (hm:ss.length≤100000) {w0:World} (hw0:Below w0.heap.size w0 w) (hb0:w0.heap.size≤blk) :
  Calls Tryz.prog 83 #[.slice (some ⟨blk,0,none⟩) ss.length cap,.func (.func 61) #[] #[]] w fun e w'=>e=.returned (.tuple #[])∧∃ ts:List KeyV,ts.Perm ss∧Sl w' (some ⟨blk,0,none⟩) ss.length ts∧Below w0.heap.size w0 w':=by
 obtain ⟨hH,hblk⟩:=zHv h hn
 have eg:∀ args w,(callFunc 61 args).run Tryz.prog w=.ok (.enter 61 args) w:=enters_of Tryz.func61 (by kernel_rfl) rfl
 have hcon:=AnyQ.slices_SortFunc Tryz.sortK 5 Tryz.isAgg54 Tryz.sizeOf54 zDG (fun _=>rfl) (fun x v hv=>El.one x v hv) zE3 zOr 61 #[] blk 0 cap ss.toArray w eg (zIq blk 0 ss.toArray.size w) hH hblk (by simp;omega)
 change Calls Tryz.prog 83 _ _ _ at hcon
 refine hcon.mono ?_
 rintro e w' ⟨rfl,d',n,os,hp,_,rfl⟩
 have hsz:d'.size=ss.length:=by have:=hp.1;simpa using this
 have hH':=holdsK_sortWorldK_c zDG 5 w blk 0 ss.toArray d' n os hH hblk (by rw [hsz];simp)
 have hperm:d'.toList.Perm ss:=by
  have:=hp.2.2
  rw [Array.extract_eq_self_of_le (by rw [hsz];simp),Array.extract_eq_self_of_le (by simp)] at this
  simpa using this
 refine ⟨rfl,d'.toList,hperm,?_,zGC hw0 hb0 n d' os⟩
 have hlt:blk < (sortWorldK zDG 5 w blk 0 n d' os).heap.size:=Nat.lt_of_lt_of_le hblk (size_sortWorldK_c zDG 5 w blk 0 n d' os)
 have:=zIT (ss:=d'.toList) (by simpa using hH') hlt (by simpa [hsz] using hm)
 rwa [show d'.toList.length=ss.length by simpa using hsz] at this
theorem zGF (Bm b:Nat) (S:List KeyV) (hS:∀ x∈S,x.wf) (hS0:S≠[]) (hl:S.length≤100000) (w:World) (hBm:Bm < w.heap.size) (hm:w.cell? ⟨Bm,0,none⟩=some (.map (some b)))
  (hown:w.ownsMap Tryz.prog 54 (unitElem (H:=Unit)) b S.length (zCJ S)) :
  Calls Tryz.prog 59 #[.func (.func 84) #[] #[.pointer (some ⟨Bm,0,none⟩)],.func (.func 61) #[] #[]] w fun e w'=>∃ (ao:Option Addr) (c:Nat) (ts:List KeyV),e=.returned (.slice ao ts.length c)∧Sl w' ao ts.length ts∧(∀ x,x∈ts↔x∈S)∧(ts.length≤S.length∧ts.Nodup∧∀ a,ao=some a→w.heap.size≤a.block)∧Below w.heap.size w w':=by
 have hcol:=callsIn_wide.1 (zI6 3 (by decide) 84 #[.pointer (some ⟨Bm,0,none⟩)] (enters_of Tryz.func84 (by kernel_rfl) rfl) _ S.length hl w (zGO 1 (by decide) Bm b S hS w hBm hm hown))
 have HC:=zA hcol
 clear hcol hown hm
 go_enter Tryz.func59,Tryz.ntmps59
 go_upto_region 2 with (go_at_call 82;((with_reducible refine HC.out.mono ?_);rintro e w1 ⟨v,ss,rfl,⟨hin,hlen,hnd⟩,how,hb⟩))
 have hss:0 < ss.length:=by
  obtain ⟨x,hx⟩:=List.exists_mem_of_ne_nil S hS0
  exact List.length_pos_of_mem ((hin x).2 hx)
 obtain ⟨g,cap,rfl,hg,hlt,hsl,_⟩:=how.some hss
 have hso:=zHU g cap ss w1 how hss (by omega) hb hg
 have HS:=zA hso
 have HIN:=zA hin
 clear hso how hsl hin
 go_wp2_with (go_at_call 83;((with_reducible refine HS.out.mono ?_);rintro e w2 ⟨rfl,ts,hp,hsl,hb2⟩))
 go_ret
 have hle:=hp.length_eq
 exact ⟨some ⟨g,0,none⟩,cap,ts,by rw [hle];rfl,by rw [hle];exact hsl,fun x=>(hp.mem_iff).trans (HIN.out x),⟨by omega,hp.nodup_iff.2 hnd,fun a e=>by injection e with e;rw [←e];exact hg⟩,hb2⟩
def zM1 (W:World) (P:KeyV→Prop) (e:Ending) (w':World):Prop:=∃ (ao:Option Addr) (c:Nat) (ts:List KeyV),e=.returned (.tuple #[.slice ao ts.length c,.int .i64 0])∧Sl w' ao ts.length ts∧(∀ x,x∈ts↔P x)∧(∀ x∈ts,x.Ok)∧(ts.length≤500∧ts.Nodup∧∀ a,ao=some a→W.heap.size≤a.block)∧Below W.heap.size W w'
theorem zMS {R:List ValV} {c:KeyV} {mem:List ValV} {stk:List FrameV} {out:List Int} {cs:Array Value} {W:World} (h:MRow R c mem stk out cs W) (d:Bool) (hok:MOk R c mem stk out) :
  Calls Tryz.prog 28 #[.agg cs,.bool d] W (zM1 W (Rch d mem (zEp d R c stk))):=by
 have hb:=h.arg
 obtain ⟨w1,hw1⟩:∃ w1,w1=W.alloc (.cells cs 60):=⟨_,rfl⟩
 have h1w:Below W.heap.size W w1:=by rw [hw1];exact zG (Below.refl _ _) _
 rw [←hw1] at hb
 have hso:=zJZ hb.toRow d hok
 have hlen:=hok.len
 have SO:=zA hso
 have MX:=zA hb
 have HW1:=zA hw1
 have H1W:=zA h1w
 clear h hso hb hw1 h1w hok
 go_enter Tryz.func28,Tryz.ntmps28
 go_upto_region 1 with (fail)
 rw [←HW1.out]
 go_upto_region 4 with (first
  | (refine zAZ rfl 60 (.tmp 2) rfl W.heap.size 0 64 rfl 60 _ _ MX.out.bk Tryz.underlying60 rfl (by kernel_rfl) MX.out.size _ MX.out.all ?_)
  | (go_at_call 58;((with_reducible refine SO.out.mono ?_);rintro e u2 ⟨gs,b,ma,mc,m,S,rfl,q1,q2,q4,q3⟩;have ST:=zA q1;have SG:=zA q2;have HB2:=zA q3;clear q1 q2 q3)))
 have hsz:=SG.out.size
 have hc0:c∈S:=SG.out.all c (.inl rfl)
 have s0:=ST.out.bk.cell 0
 simp only [List.getElem?_toArray,List.getElem?_cons_zero] at s0
 obtain ⟨u3,hu3⟩:∃ u3,u3=u2.alloc (.cells #[.map (some b)] 140):=⟨_,rfl⟩
 have b23:Below u2.heap.size u2 u3:=by rw [hu3];exact zG (Below.refl _ _) _
 have hst:=ST.out.below b23
 have k3:Bk u3 u2.heap.size 140 #[.map (some b)]:=by rw [hu3];exact zM _ _ _
 have hsf:=zGF u2.heap.size b S (fun x hx=>(hst.wf x hx).wf) (fun e=>by rw [e] at hc0;cases hc0) (by omega) u3 k3.lt (k3.cell 0) hst.own
 have hmk:=zHq b u2
 rw [←hu3] at hmk
 have HSF:=zA hsf
 have HMK:=zA hmk
 have B23:=zA b23
 have WF:=zA hst.wf
 clear hst k3 hsf hmk b23 hu3 hc0
 go_wp2_with (first
  | (go_at_call 60;((with_reducible refine HMK.out.mono ?_);rintro e w' ⟨rfl,rfl⟩))
  | (go_at_call 59;((with_reducible refine HSF.out.mono ?_);rintro e u4 ⟨ao,cap,ts,rfl,hsl,hin,⟨hle,hnd,hap⟩,hb⟩;have HSL:=zA hsl;have HIN:=zA hin;have HB4:=zA hb;clear hsl hin hb)))
 go_ret2
 exact ⟨ao,cap,ts,rfl,HSL.out,fun x=>(HIN.out x).trans (SG.out.mem_iff x),fun x hx=>WF.out x ((HIN.out x).1 hx),⟨by omega,hnd,fun a e=>by have h1:=hap a e;have h2:=H1W.out.size;have h3:=HB2.out.size;have h4:=B23.out.size;omega⟩,zI (zI (zI H1W.out HB2.out) B23.out) HB4.out⟩
end
end Go.Proofs.YtlpejagkadalbaaGreatDoor
