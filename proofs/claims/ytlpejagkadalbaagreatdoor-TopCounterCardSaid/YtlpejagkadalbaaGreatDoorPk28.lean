import Derived.Test.YtlpejagkadalbaaGreatDoorPk27
import Derived.BigQuiet
import Derived.Deep.QuietTactic
import Derived.Test.YtlpejagkadalbaaGreatDoorPk12
import Derived.Test.YtlpejagkadalbaaGreatDoorShelf
import Derived.WalkKit
import Derived.WalkSpells
import Derived.Deep.RegionHeld3
import Derived.DeepKeys4
import Derived.Maps.OwnSet
import Derived.Test.YtlpejagkadalbaaGreatDoorPk02
import Derived.Test.YtlpejagkadalbaaGreatDoorPk05
set_option maxHeartbeats 40000000
set_option maxRecDepth 100000
set_option linter.unusedVariables false
set_option linter.unusedSimpArgs false
namespace Go.Proofs.YtlpejagkadalbaaGreatDoor
open Go.RowKit
def NZ {α:Type} (x:Ex α):Prop:=∀ k,x=.error k→k≠0
theorem NZ.ok {α:Type} (a:α):NZ (.ok a:Ex α):=fun k h=>by cases h
theorem NZ.err {α:Type} {k:Int} (h:k≠0):NZ (.error k:Ex α):=fun j e=>by injection e with e;rw [←e];exact h
theorem NZ.bind {α β:Type} {x:Ex α} {f:α→Ex β} (h:NZ x) (hf:∀ a,NZ (f a)):NZ (x >>= f):=by
 cases x with
 | error k =>
  have hk:=h k rfl
  intro j e
  rw [eb1] at e
  injection e with e
  rw [←e]
  exact hk
 | ok a=>exact hf a
theorem NZ.ite {α:Type} {p:Prop} [Decidable p] {x y:Ex α} (h:NZ x) (k:NZ y):NZ (if p then x else y):=by split;exact h;exact k
theorem NZ.num (m:MV) (r:Int):NZ (m.num r):=by unfold MV.num;exact NZ.ite (NZ.err (by decide)) (NZ.ok _)
theorem NZ.key (m:MV) (r:Int):NZ (m.key r):=by unfold MV.key;exact NZ.ite (NZ.ok _) (NZ.err (by decide))
theorem NZ.res {α:Type} (q:α×Int):NZ (resE q):=by
 rcases res_cases q with ⟨_,e⟩ | ⟨h,e⟩<;>rw [e]
 ·exact NZ.ok _
 ·exact NZ.err h
theorem NZ.goes (m:MV) (n:Int):NZ (m.goes n):=by unfold MV.goes;exact NZ.ite (NZ.err (by decide)) (NZ.ok _)
theorem NZ.exec (m:MV) (i:InstV):NZ (m.exec i):=by
 unfold MV.exec
 refine NZ.ite (NZ.err (by decide)) (NZ.ite (NZ.goes _ _) (NZ.ite (NZ.bind (NZ.num _ _) fun n=>NZ.goes _ _) (NZ.ite ?_ (NZ.ite ?_ (NZ.bind ?_ fun _=>NZ.ok _)))))
 ·unfold MV.call
  exact NZ.bind (NZ.key _ _) fun a=>NZ.bind (NZ.key _ _) fun b=>NZ.ite (NZ.err (by decide)) (NZ.ite (NZ.err (by decide)) (NZ.ite (NZ.err (by decide)) (NZ.ok _)))
 ·unfold MV.back
  split
  ·exact NZ.err (by decide)
  ·exact NZ.ok _
 ·unfold MV.plain
  refine NZ.ite (NZ.ok _) (NZ.ite (NZ.ok _) (NZ.ite ?_ (NZ.ite ?_ (NZ.ite (NZ.ok _) (NZ.ite (NZ.ok _) (NZ.ite ?_ ?_))))))
  ·unfold MV.numbers
   refine NZ.bind (NZ.num _ _) fun b=>NZ.bind (NZ.num _ _) fun c=>NZ.bind ?_ fun _=>NZ.ok _
   unfold opN divE
   exact NZ.ite (NZ.ok _) (NZ.ite (NZ.ok _) (NZ.ite (NZ.ok _) (NZ.ite (NZ.ok _) (NZ.ite (NZ.err (by decide)) (NZ.ok _)))))
  ·unfold MV.ask
   exact NZ.ite (NZ.ok _) (NZ.bind (NZ.key _ _) fun _=>NZ.ok _)
  ·unfold MV.tell
   exact NZ.bind (NZ.num _ _) fun _=>NZ.ite (NZ.err (by decide)) (NZ.ok _)
  ·unfold MV.byKey
   refine NZ.bind (NZ.key _ _) fun k=>NZ.ite (NZ.bind (NZ.res _) fun _=>NZ.ok _) (NZ.ite ?_ (NZ.ite (NZ.bind (NZ.num _ _) fun _=>NZ.bind (NZ.res _) fun _=>NZ.ok _) (NZ.ite (NZ.bind (NZ.num _ _) fun _=>NZ.bind (NZ.res _) fun _=>NZ.ok _)
    (NZ.ite (NZ.bind (NZ.res _) fun _=>NZ.ok _) (NZ.ite (NZ.bind (NZ.key _ _) fun _=>NZ.bind (NZ.res _) fun _=>NZ.ok _) (NZ.bind (NZ.key _ _) fun _=>NZ.bind (NZ.res _) fun _=>NZ.ok _))))))
   intro j
   split
   ·rename_i h;exact fun e=>by injection e with e;rw [←e];exact h
   ·exact fun e=>by cases e
theorem NZ.fetch (m:MV):NZ m.fetch:=by
 unfold MV.fetch
 intro j
 simp only
 split
 ·rename_i h;exact fun e=>by injection e with e;rw [←e];exact h
 ·exact NZ.ite (NZ.err (by decide)) (NZ.ite (NZ.ok _) (NZ.err (by decide))) j
theorem err_zero {m:MV}:m.err=0↔∃ m',m.one=.ok m':=by
 unfold MV.err
 have h:NZ m.one:=by unfold MV.one;exact NZ.bind (NZ.fetch m) fun i=>NZ.exec m i
 cases e:m.one with
 | error k=>simp [h k e]
 | ok m'=>simp
def zeroMV:MV:=⟨zeroR,zeroK,[],[],[]⟩
def MV.check (m:MV):Int:=stepCheck m.R m.c m.mem m.stk m.out
end Go.Proofs.YtlpejagkadalbaaGreatDoor
namespace Go.Proofs.YtlpejagkadalbaaGreatDoor
open Go Go.RowKit Go.Shelf
def badRune (c:Nat):Bool:=(decide (c < 97)||decide (122 < c))&&(decide (c < 48)||decide (57 < c))
def byte0 (s:ByteArray):Nat:=if h:0 < s.size then (s[0]'h).toNat else 0
def isNameB (s:ByteArray):Bool:=decide (s.size≠0)&&decide (s.size≤12)&&decide (97≤byte0 s) && !decide (0≤Lib.idxFunc badRune true s)
theorem name_pred (w:World):PredAt Tryz.prog 75 #[] encR badRune w:=by
 intro W x hb
 unfold FnGives
 show Calls Tryz.prog 75 #[.int .i32 (x:Int)] W _
 by_cases h1:x < 97
 ·have q1:(x:Int) < 97:=by omega
  by_cases h3:x < 48
  ·have q3:(x:Int) < 48:=by omega
   have e:badRune x=true:=by unfold badRune;simp;omega
   rw [e]
   go_enter Tryz.func75,Tryz.ntmps75
   go_wp2
   go_ret
   exact ⟨rfl,0,rfl⟩
  ·have q3:¬((x:Int) < 48):=by omega
   by_cases h4:57 < x
   ·have q4:(57:Int) < x:=by omega
    have e:badRune x=true:=by unfold badRune;simp;omega
    rw [e]
    go_enter Tryz.func75,Tryz.ntmps75
    go_wp2
    go_ret
    exact ⟨rfl,0,rfl⟩
   ·have q4:¬((57:Int) < x):=by omega
    have e:badRune x=false:=by unfold badRune;simp;omega
    rw [e]
    go_enter Tryz.func75,Tryz.ntmps75
    go_wp2
    go_ret
    exact ⟨rfl,0,rfl⟩
 ·have q1:¬((x:Int) < 97):=by omega
  by_cases h2:122 < x
  ·have q2:(122:Int) < x:=by omega
   have q3:¬((x:Int) < 48):=by omega
   have q4:(57:Int) < x:=by omega
   have e:badRune x=true:=by unfold badRune;simp;omega
   rw [e]
   go_enter Tryz.func75,Tryz.ntmps75
   go_wp2
   go_ret
   exact ⟨rfl,0,rfl⟩
  ·have q2:¬((122:Int) < x):=by omega
   have e:badRune x=false:=by unfold badRune;simp;omega
   rw [e]
   go_enter Tryz.func75,Tryz.ntmps75
   go_wp2
   go_ret
   exact ⟨rfl,0,rfl⟩
theorem isName_any (s:ByteArray) (hs:s.size≤9223372036854775807) (w:World):Calls Tryz.prog 46 #[.string s] w fun e w'=>e=.returned (.bool (isNameB s))∧Below w.heap.size w w':=by
 have cf:=fun W=>Tryz.strings_ContainsFunc 75 #[] (fun args w=>enters_of Tryz.func75 (by kernel_rfl) rfl args w) badRune s W (name_pred W)
 by_cases h0:s.size=0
 ·have e0:s=ByteArray.empty:=by
   obtain ⟨⟨l⟩⟩:=s
   have:l.length=0:=h0
   rw [List.eq_nil_of_length_eq_zero this];rfl
  subst e0
  have e:isNameB ByteArray.empty=false:=by unfold isNameB;simp
  rw [e]
  clear cf
  go_enter Tryz.func46,Tryz.ntmps46
  go_wp2
  go_ret
  exact ⟨rfl,Below.refl _ _⟩
 ·have g0:s.toList.isEmpty=false:=by
   rw [ByteArray.toList_eq]
   cases h:s.data.toList with
   | nil=>exact absurd (by rw [←ByteArray.size_data,←Array.length_toList,h];rfl) h0
   | cons a l=>rfl
  have CF:=Lib.hid cf
  by_cases h1:12 < s.size
  ·have q1:(12:Int) < s.size:=by omega
   have e:isNameB s=false:=by unfold isNameB;simp;omega
   rw [e]
   clear cf
   go_enter Tryz.func46,Tryz.ntmps46
   go_wp2
   go_ret
   exact ⟨rfl,Below.refl _ _⟩
  ·have q1:¬((12:Int) < s.size):=by omega
   have q0:(0:Int) < s.size:=by omega
   have hp:0 < s.size:=by omega
   have hb0:byte0 s=(s[0]'hp).toNat:=by unfold byte0;rw [dif_pos hp]
   obtain ⟨C,hC⟩:∃ C,decide (0≤Lib.idxFunc badRune true s)=C:=⟨_,rfl⟩
   rw [hC] at CF
   by_cases h2:byte0 s < 97
   ·have q2:(((s[0]'hp).toNat:Nat):Int) < 97:=by omega
    have e:isNameB s=false:=by unfold isNameB;simp;omega
    rw [e]
    clear cf CF hC
    go_enter Tryz.func46,Tryz.ntmps46
    go_wp2
    go_ret
    exact ⟨rfl,Below.refl _ _⟩
   ·have q2:¬((((s[0]'hp).toNat:Nat):Int) < 97):=by omega
    have e:isNameB s = !C:=by
     unfold isNameB
     rw [hC,decide_eq_true h0,decide_eq_true (show s.size≤12 by omega),decide_eq_true (show 97≤byte0 s by omega)]
     simp
    rw [e]
    clear cf hC
    go_enter Tryz.func46,Tryz.ntmps46
    go_wp2_with (go_at_call 74;((with_reducible refine (CF.out _).mono ?_);rintro e w' ⟨rfl,hb⟩))
    go_ret
    exact ⟨rfl,hb⟩
end Go.Proofs.YtlpejagkadalbaaGreatDoor
namespace Go.Proofs.YtlpejagkadalbaaGreatDoor
open Go.RowKit
def countsB (d:Bool) (k:KeyV):Bool:=d||decide (k.seal_=0)
def opensB (d:Bool) (k:KeyV):Bool:=countsB d k&&withinB 9 k.perm
def Next (d:Bool) (mem:List ValV) (k x:KeyV):Prop :=
 opensB d k = true ∧ ∃ j : Nat, k.base ≤ j ∧ (j : Int) < k.base + k.len ∧ j < mem.length ∧ (mem.getD j zeroV).is = true ∧ x = (mem.getD j zeroV).k
inductive Rch (d:Bool) (mem:List ValV) (P:KeyV→Prop):KeyV→Prop
 | root {k:KeyV} (h:P k):Rch d mem P k
 | next {k x:KeyV} (h:Rch d mem P k) (n:Next d mem k x):Rch d mem P x
theorem Rch.mono {d:Bool} {mem:List ValV} {P Q:KeyV→Prop} {x:KeyV} (h:Rch d mem P x) (hp:∀ k,P k→Rch d mem Q k):Rch d mem Q x:=by
 induction h with
 | root h=>exact hp _ h
 | next _ n ih=>exact .next ih n
def fresh (mem:List ValV) (S:List KeyV):Nat:=mem.countP (fun v=>v.is&&decide (v.k∉S))
theorem fresh_mono {mem:List ValV} {S S':List KeyV} (h:∀ x∈S,x∈S'):fresh mem S'≤fresh mem S:=by
 unfold fresh
 refine List.countP_mono_left fun v _ hv=>?_
 simp only [Bool.and_eq_true,decide_eq_true_eq] at hv ⊢
 exact ⟨hv.1,fun hx=>hv.2 (h _ hx)⟩
theorem fresh_lt {mem:List ValV} {S:List KeyV} {v:ValV} (hv:v∈mem) (hi:v.is=true) (hn:v.k∉S):fresh mem (S++[v.k])+1≤fresh mem S:=by
 unfold fresh
 induction mem with
 | nil=>cases hv
 | cons u mem ih =>
  rw [List.countP_cons,List.countP_cons]
  have hm:List.countP (fun u=>u.is&&decide (u.k∉S++[v.k])) mem≤List.countP (fun u=>u.is&&decide (u.k∉S)) mem:=by
   refine List.countP_mono_left fun u _ hu=>?_
   simp only [Bool.and_eq_true,decide_eq_true_eq,List.mem_append] at hu ⊢
   exact ⟨hu.1,fun hx=>hu.2 (.inl hx)⟩
  rcases List.mem_cons.1 hv with rfl | hv
  ·have e1:(v.is&&decide (v.k∉S++[v.k]))=false:=by simp
   have e2:(v.is&&decide (v.k∉S))=true:=by simp [hi,hn]
   simp only [e1,e2,if_true]
   simp only [Bool.false_eq_true,if_false]
   omega
  ·have:=ih hv
   have h3:(u.is&&decide (u.k∉S++[v.k]))=true→(u.is&&decide (u.k∉S))=true:=by
    simp only [Bool.and_eq_true,decide_eq_true_eq,List.mem_append]
    exact fun hu=>⟨hu.1,fun hx=>hu.2 (.inl hx)⟩
   by_cases h1:(u.is&&decide (u.k∉S++[v.k]))=true
   ·rw [if_pos h1,if_pos (h3 h1)];omega
   ·rw [if_neg h1];split<;>omega
theorem fresh_same {mem:List ValV} {S:List KeyV} {k:KeyV} (h:k∈S):fresh mem (S++[k])=fresh mem S:=by
 unfold fresh
 congr 1
 funext v
 congr 1
 rw [decide_eq_decide]
 simp only [List.mem_append,List.mem_singleton]
 exact ⟨fun hn hx=>hn (.inl hx),fun hn hx=>by
  rcases hx with hx | hx
  ·exact hn hx
  ·exact hn (hx▸h)⟩
structure AddR (d:Bool) (mem:List ValV) (S:List KeyV) (k:KeyV) (S':List KeyV):Prop where
 sub:∀ x∈S,x∈S'
 has:k∈S'
 only:∀ x∈S',x∈S∨Rch d mem (· = k) x
 shut:∀ x∈S',x∉S→∀ y,Next d mem x y→y∈S'
 size:S'.length+fresh mem S'≤S.length+fresh mem (S++[k])+(if k∈S then 0 else 1)
structure AddL (d:Bool) (mem:List ValV) (k:KeyV) (S:List KeyV) (j:Int) (S':List KeyV):Prop where
 sub:∀ x∈S,x∈S'
 done:∀ i:Nat,k.base≤i→(i:Int) < j→i < mem.length→(mem.getD i zeroV).is=true→(mem.getD i zeroV).k∈S'
 only:∀ x∈S',x∈S∨Rch d mem (· = k) x
 shut:∀ x∈S',x∉S→∀ y,Next d mem x y→y∈S'
 size:S'.length+fresh mem S'≤S.length+fresh mem S
section
variable {d:Bool} {mem:List ValV} {S S' S'':List KeyV} {k:KeyV} {j:Int}
theorem AddR.there (h:k∈S):AddR d mem S k S :=
 ⟨fun _ h=>h,h,fun _ h=>.inl h,fun x hx hn=>absurd hx hn,by rw [fresh_same h,if_pos h];omega⟩
theorem AddL.add {n:Nat} (h:AddL d mem k S n S') (ho:opensB d k=true) (h0:k.base≤n) (h1:(n:Int) < k.base+k.len) (hm:n < mem.length) (hv:(mem.getD n zeroV).is=true) (ha:AddR d mem S' (mem.getD n zeroV).k S''):AddL d mem k S ((n:Int)+1) S'':=by
 have hnx:Next d mem k (mem.getD n zeroV).k:=⟨ho,n,h0,h1,hm,hv,rfl⟩
 refine ⟨fun x hx=>ha.sub x (h.sub x hx),fun i h1 h2 h3 h4=>?_,fun x hx=>?_,fun x hx hn y hy=>?_,?_⟩
 ·by_cases e:i=n
  ·rw [e];exact ha.has
  ·exact ha.sub _ (h.done i h1 (by omega) h3 h4)
 ·rcases ha.only x hx with hx | hx
  ·exact h.only x hx
  ·exact .inr (hx.mono fun q hq=>by rw [hq];exact .next (.root rfl) hnx)
 ·by_cases hs:x∈S'
  ·exact ha.sub _ (h.shut x hs hn y hy)
  ·exact ha.shut x hx hs y hy
 ·have h1:=ha.size
  have h2:=h.size
  by_cases hs:(mem.getD n zeroV).k∈S'
  ·rw [if_pos hs,fresh_same hs] at h1;omega
  ·rw [if_neg hs] at h1
   have hin:mem.getD n zeroV∈mem:=by
    rw [List.getD_eq_getElem?_getD,List.getElem?_eq_getElem hm];exact List.getElem_mem hm
   have:=fresh_lt hin hv hs
   omega
end
structure Sought (d:Bool) (mem:List ValV) (P:KeyV→Prop) (n:Nat) (S:List KeyV):Prop where
 all:∀ k,P k→k∈S
 only:∀ x∈S,Rch d mem P x
 shut:∀ x∈S,∀ y,Next d mem x y→y∈S
 size:S.length+fresh mem S≤mem.length+n
section
variable {d:Bool} {mem:List ValV} {S S':List KeyV} {k:KeyV} {P Q:KeyV→Prop} {n:Nat}
theorem Sought.add (h:Sought d mem P n S) (ha:AddR d mem S k S'):Sought d mem (fun x=>P x∨x=k) (n+1) S':=by
 refine ⟨fun x hx=>?_,fun x hx=>?_,fun x hx y hy=>?_,?_⟩
 ·rcases hx with hx | rfl
  ·exact ha.sub x (h.all x hx)
  ·exact ha.has
 ·rcases ha.only x hx with hx | hx
  ·exact (h.only x hx).mono fun q hq=>.root (.inl hq)
  ·exact hx.mono fun q hq=>.root (.inr hq)
 ·by_cases hs:x∈S
  ·exact ha.sub y (h.shut x hs y hy)
  ·exact ha.shut x hx hs y hy
 ·have h1:=ha.size
  have h2:=h.size
  have h3:fresh mem (S++[k])≤fresh mem S:=fresh_mono fun x hx=>List.mem_append_left _ hx
  split at h1<;>omega
theorem Sought.same (h:Sought d mem P n S) (e:∀ x,P x↔Q x):Sought d mem Q n S :=
 ⟨fun k hk=>h.all k ((e k).2 hk),fun x hx=>(h.only x hx).mono fun q hq=>.root ((e q).1 hq),h.shut,h.size⟩
theorem Sought.more (h:Sought d mem P n S) {n':Nat} (hn:n≤n'):Sought d mem P n' S:=⟨h.all,h.only,h.shut,by have:=h.size;omega⟩
end
end Go.Proofs.YtlpejagkadalbaaGreatDoor
namespace Go.Proofs.YtlpejagkadalbaaGreatDoor
open Go.RowKit
open Go.Maps (Keyed)
def keyLit (k:KeyV):Lit:=.string (keyBytes [.int .i64 k.perm,.int .i64 k.base,.int .i64 k.len,.int .i64 k.at_,.int .i64 k.seal_])
def setD (S:List KeyV):DataW Unit:=Maps.setOf (.agg []) (S.map keyLit)
structure SeekSt (gs b:Nat) (d:Bool) (mem:List ValV) (ma:Option Addr) (mc:Nat) (S:List KeyV) (W:World):Prop where
 bk:Bk W gs 143 #[.map (some b),.slice ma mem.length mc,.bool d]
 own:W.ownsMap Tryz.prog 54 (unitElem (H:=Unit)) b S.length (setD S)
 sl:Sl W ma mem.length mem
 wf:∀ x∈S,x.Ok
section
variable {gs b:Nat} {d:Bool} {mem:List ValV} {ma:Option Addr} {mc:Nat} {S:List KeyV} {W W':World}
theorem owns_heap {b n:Nat} {D:DataW Unit} (h:W.ownsMap Tryz.prog 54 (unitElem (H:=Unit)) b n D) (e:W'.heap[b]?=W.heap[b]?):W'.ownsMap Tryz.prog 54 (unitElem (H:=Unit)) b n D:=by
 obtain ⟨es,c,h1,h2⟩:=h
 exact ⟨es,c,e.trans h1,h2⟩
theorem SeekSt.below (h:SeekSt gs b d mem ma mc S W) (hb:Below W.heap.size W W'):SeekSt gs b d mem ma mc S W' :=
 ⟨bk_keep hb h.bk,owns_heap h.own (hb.block b h.own.lt),h.sl.below hb,h.wf⟩
theorem SeekSt.ne (h:SeekSt gs b d mem ma mc S W):gs≠b:=by
 rintro rfl
 obtain ⟨es,c,h1,_⟩:=h.own
 have:=h.bk
 unfold Bk at this
 rw [this] at h1
 cases h1
end
end Go.Proofs.YtlpejagkadalbaaGreatDoor
namespace Go.Proofs.YtlpejagkadalbaaGreatDoor
open Go.RowKit
open Go.Maps (Keyed)
section
variable {b g n:Nat} {W W' W'' w0:World} {T:TypeId} {cs:Array Value}
abbrev Grw (b:Nat) (W W':World):Prop:=W.grownBy W' (some b)
theorem grw_bk (h:Grw b W W') (hb:Bk W g T cs) (hn:g≠b):Bk W' g T cs:=(h.block g hb.lt (fun e=>hn (Option.some.inj e))).trans hb
end
section
variable {gs b:Nat} {d:Bool} {mem:List ValV} {ma:Option Addr} {mc:Nat} {S S':List KeyV} {W W':World}
theorem SeekSt.step (h:SeekSt gs b d mem ma mc S W) (hg:Grw b W W') (ho:W'.ownsMap Tryz.prog 54 (unitElem (H:=Unit)) b S'.length (setD S')) (hw:∀ x∈S',x.Ok):SeekSt gs b d mem ma mc S' W':=by
 refine ⟨grw_bk hg h.bk h.ne,ho,?_,hw⟩
 rcases Nat.eq_zero_or_pos mem.length with e | hp
 ·exact ⟨h.sl.len,h.sl.max,fun hn=>absurd hn (by omega)⟩
 ·refine h.sl.grown hg fun a e hl he=>?_
  obtain ⟨a',e',_,hv,_⟩:=sl_val h.sl hp
  rw [e] at e'
  injection e' with e'
  subst e'
  obtain ⟨es,c,h1,_⟩:=h.own
  injection he with he
  have:(a.add (0*7)).block=b:=by rw [el_block];exact he
  unfold World.cell? at hv
  rw [this,h1] at hv
  cases hv
theorem SeekSt.same (h:SeekSt gs b d mem ma mc S W) (hb:Below W.heap.size W W'):SeekSt gs b d mem ma mc S W':=h.below hb
end
end Go.Proofs.YtlpejagkadalbaaGreatDoor
