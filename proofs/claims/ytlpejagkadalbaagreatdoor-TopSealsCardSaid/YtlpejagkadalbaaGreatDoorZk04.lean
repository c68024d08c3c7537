import Derived.Test.YtlpejagkadalbaaGreatDoorZk03
import Derived.Deep.RegionHeld3
import Derived.DeepKeys4
set_option maxHeartbeats 40000000
set_option maxRecDepth 100000
set_option linter.unusedVariables false
set_option linter.unusedSimpArgs false
namespace Go.Proofs.YtlpejagkadalbaaGreatDoor
section
open Go.RowKit
def zEJ (d:Bool) (k:KeyV):Bool:=d||decide (k.seal_=0)
def zFy (d:Bool) (k:KeyV):Bool:=zEJ d k&&zBJ 9 k.perm
def zIP (d:Bool) (mem:List ValV) (k x:KeyV):Prop :=
 zFy d k = true ∧ ∃ j : Nat, k.base ≤ j ∧ (j : Int) < k.base + k.len ∧ j < mem.length ∧ (mem.getD j zeroV).is = true ∧ x = (mem.getD j zeroV).k
inductive Rch (d:Bool) (mem:List ValV) (P:KeyV→Prop):KeyV→Prop
 | root {k:KeyV} (h:P k):Rch d mem P k
 | next {k x:KeyV} (h:Rch d mem P k) (n:zIP d mem k x):Rch d mem P x
theorem Rch.mono {d:Bool} {mem:List ValV} {P Q:KeyV→Prop} {x:KeyV} (h:Rch d mem P x) (hp:∀ k,P k→Rch d mem Q k):Rch d mem Q x:=by
 induction h with
 | root h=>exact hp _ h
 | next _ n ih=>exact .next ih n
def zA5 (mem:List ValV) (S:List KeyV):Nat:=mem.countP (fun v=>v.is&&decide (v.k∉S))
theorem zMj (mem:List ValV) (S:List KeyV):zA5 mem S≤mem.length:=List.countP_le_length
theorem zEX {mem:List ValV} {S S':List KeyV} (h:∀ x∈S,x∈S'):zA5 mem S'≤zA5 mem S:=by
 unfold zA5
 refine List.countP_mono_left fun v _ hv=>?_
 simp only [Bool.and_eq_true,decide_eq_true_eq] at hv ⊢
 exact ⟨hv.1,fun hx=>hv.2 (h _ hx)⟩
theorem zHy {mem:List ValV} {S:List KeyV} {v:ValV} (hv:v∈mem) (hi:v.is=true) (hn:v.k∉S):zA5 mem (S++[v.k])+1≤zA5 mem S:=by
 unfold zA5
 induction mem with
 | nil=>cases hv
 | cons u mem ih =>
  rw [List.countP_cons,List.countP_cons]
  have hm:List.countP (fun u=>u.is&&decide (u.k∉S++[v.k])) mem≤List.countP (fun u=>u.is&&decide (u.k∉S)) mem:=by
   refine List.countP_mono_left fun u _ hu=>?_
   simp only [Bool.and_eq_true,decide_eq_true_eq,List.mem_append] at hu ⊢
   exact ⟨hu.1,fun hx=>hu.2 (.inl hx)⟩
  rcases List.mem_cons.1 hv with rfl | hv
  ·have e1:(v.is&&decide (v.k∉S++[v.k]))=false:=by simp
   have e2:(v.is&&decide (v.k∉S))=true:=by simp [hi,hn]
   simp only [e1,e2,if_true]
   simp only [Bool.false_eq_true,if_false]
   omega
  ·have:=ih hv
   have h3:(u.is&&decide (u.k∉S++[v.k]))=true→(u.is&&decide (u.k∉S))=true:=by
    simp only [Bool.and_eq_true,decide_eq_true_eq,List.mem_append]
    exact fun hu=>⟨hu.1,fun hx=>hu.2 (.inl hx)⟩
   by_cases h1:(u.is&&decide (u.k∉S++[v.k]))=true
   ·rw [if_pos h1,if_pos (h3 h1)];omega
   ·rw [if_neg h1];split<;>omega
theorem zF5 {mem:List ValV} {S:List KeyV} {k:KeyV} (h:k∈S):zA5 mem (S++[k])=zA5 mem S:=by
 unfold zA5
 congr 1
 funext v
 congr 1
 rw [decide_eq_decide]
 simp only [List.mem_append,List.mem_singleton]
 exact ⟨fun hn hx=>hn (.inl hx),fun hn hx=>by
  rcases hx with hx | hx
  ·exact hn hx
  ·exact hn (hx▸h)⟩
structure AddR (d:Bool) (mem:List ValV) (S:List KeyV) (k:KeyV) (S':List KeyV):Prop where
 sub:∀ x∈S,x∈S'
 has:k∈S'
 only:∀ x∈S',x∈S∨Rch d mem (· = k) x
 shut:∀ x∈S',x∉S→∀ y,zIP d mem x y→y∈S'
 size:S'.length+zA5 mem S'≤S.length+zA5 mem (S++[k])+(if k∈S then 0 else 1)
structure AddL (d:Bool) (mem:List ValV) (k:KeyV) (S:List KeyV) (j:Int) (S':List KeyV):Prop where
 sub:∀ x∈S,x∈S'
 done:∀ i:Nat,k.base≤i→(i:Int) < j→i < mem.length→(mem.getD i zeroV).is=true→(mem.getD i zeroV).k∈S'
 only:∀ x∈S',x∈S∨Rch d mem (· = k) x
 shut:∀ x∈S',x∉S→∀ y,zIP d mem x y→y∈S'
 size:S'.length+zA5 mem S'≤S.length+zA5 mem S
section
variable {d:Bool} {mem:List ValV} {S S' S'':List KeyV} {k:KeyV} {j:Int}
theorem AddR.there (h:k∈S):AddR d mem S k S :=
 ⟨fun _ h=>h,h,fun _ h=>.inl h,fun x hx hn=>absurd hx hn,by rw [zF5 h,if_pos h];omega⟩
theorem AddR.shutK (h:k∉S) (ho:zFy d k=false):AddR d mem S k (S++[k]):=by
 refine ⟨fun _ h=>List.mem_append_left _ h,by simp,fun x hx=>?_,fun x hx hn y hy=>?_,?_⟩
 ·rcases List.mem_append.1 hx with hx | hx
  ·exact .inl hx
  ·exact .inr (.root (List.mem_singleton.1 hx))
 ·rcases List.mem_append.1 hx with hx | hx
  ·exact absurd hx hn
  ·rw [List.mem_singleton.1 hx] at hy
   rw [hy.1] at ho
   cases ho
 ·rw [if_neg h,List.length_append];simp only [List.length_singleton];omega
theorem AddL.start:AddL d mem k S k.base S :=
 ⟨fun _ h=>h,fun i h1 h2=>by omega,fun _ h=>.inl h,fun x hx hn=>absurd hx hn,Nat.le_refl _⟩
theorem AddL.skip {n:Nat} (h:AddL d mem k S n S') (hv:(mem.getD n zeroV).is=false):AddL d mem k S ((n:Int)+1) S':=by
 refine ⟨h.sub,fun i h1 h2 h3 h4=>?_,h.only,h.shut,h.size⟩
 by_cases e:i=n
 ·rw [e,hv] at h4;cases h4
 ·exact h.done i h1 (by omega) h3 h4
theorem AddL.add {n:Nat} (h:AddL d mem k S n S') (ho:zFy d k=true) (h0:k.base≤n) (h1:(n:Int) < k.base+k.len) (hm:n < mem.length) (hv:(mem.getD n zeroV).is=true) (ha:AddR d mem S' (mem.getD n zeroV).k S''):AddL d mem k S ((n:Int)+1) S'':=by
 have hnx:zIP d mem k (mem.getD n zeroV).k:=⟨ho,n,h0,h1,hm,hv,rfl⟩
 refine ⟨fun x hx=>ha.sub x (h.sub x hx),fun i h1 h2 h3 h4=>?_,fun x hx=>?_,fun x hx hn y hy=>?_,?_⟩
 ·by_cases e:i=n
  ·rw [e];exact ha.has
  ·exact ha.sub _ (h.done i h1 (by omega) h3 h4)
 ·rcases ha.only x hx with hx | hx
  ·exact h.only x hx
  ·exact .inr (hx.mono fun q hq=>by rw [hq];exact .next (.root rfl) hnx)
 ·by_cases hs:x∈S'
  ·exact ha.sub _ (h.shut x hs hn y hy)
  ·exact ha.shut x hx hs y hy
 ·have h1:=ha.size
  have h2:=h.size
  by_cases hs:(mem.getD n zeroV).k∈S'
  ·rw [if_pos hs,zF5 hs] at h1;omega
  ·rw [if_neg hs] at h1
   have hin:mem.getD n zeroV∈mem:=by
    rw [List.getD_eq_getElem?_getD,List.getElem?_eq_getElem hm];exact List.getElem_mem hm
   have:=zHy hin hv hs
   omega
theorem AddL.done' (h:AddL d mem k (S++[k]) j S') (hk:k∉S) (hj:k.base+k.len≤j∨(mem.length:Int)≤j):AddR d mem S k S':=by
 refine ⟨fun x hx=>h.sub x (List.mem_append_left _ hx),h.sub k (by simp),fun x hx=>?_,fun x hx hn y hy=>?_,?_⟩
 ·rcases h.only x hx with hx | hx
  ·rcases List.mem_append.1 hx with hx | hx
   ·exact .inl hx
   ·exact .inr (.root (List.mem_singleton.1 hx))
  ·exact .inr hx
 ·by_cases hs:x∈S++[k]
  ·rcases List.mem_append.1 hs with hs | hs
   ·exact absurd hs hn
   ·rw [List.mem_singleton.1 hs] at hy
    obtain ⟨_,i,h1,h2,h3,h4,rfl⟩:=hy
    exact h.done i h1 (by omega) h3 h4
  ·exact h.shut x hx hs y hy
 ·have:=h.size
  rw [List.length_append] at this
  simp only [List.length_singleton] at this
  rw [if_neg hk];omega
end
structure Sought (d:Bool) (mem:List ValV) (P:KeyV→Prop) (n:Nat) (S:List KeyV):Prop where
 all:∀ k,P k→k∈S
 only:∀ x∈S,Rch d mem P x
 shut:∀ x∈S,∀ y,zIP d mem x y→y∈S
 size:S.length+zA5 mem S≤mem.length+n
section
variable {d:Bool} {mem:List ValV} {S S':List KeyV} {k:KeyV} {P Q:KeyV→Prop} {n:Nat}
theorem Sought.start:Sought d mem (fun _=>False) 0 [] :=
 ⟨fun _ h=>h.elim,fun x h=>(by cases h),fun x h=>(by cases h),by have:=zMj mem [];simp only [List.length_nil];omega⟩
theorem Sought.add (h:Sought d mem P n S) (ha:AddR d mem S k S'):Sought d mem (fun x=>P x∨x=k) (n+1) S':=by
 refine ⟨fun x hx=>?_,fun x hx=>?_,fun x hx y hy=>?_,?_⟩
 ·rcases hx with hx | rfl
  ·exact ha.sub x (h.all x hx)
  ·exact ha.has
 ·rcases ha.only x hx with hx | hx
  ·exact (h.only x hx).mono fun q hq=>.root (.inl hq)
  ·exact hx.mono fun q hq=>.root (.inr hq)
 ·by_cases hs:x∈S
  ·exact ha.sub y (h.shut x hs y hy)
  ·exact ha.shut x hx hs y hy
 ·have h1:=ha.size
  have h2:=h.size
  have h3:zA5 mem (S++[k])≤zA5 mem S:=zEX fun x hx=>List.mem_append_left _ hx
  split at h1<;>omega
theorem Sought.same (h:Sought d mem P n S) (e:∀ x,P x↔Q x):Sought d mem Q n S :=
 ⟨fun k hk=>h.all k ((e k).2 hk),fun x hx=>(h.only x hx).mono fun q hq=>.root ((e q).1 hq),h.shut,h.size⟩
theorem Sought.more (h:Sought d mem P n S) {n':Nat} (hn:n≤n'):Sought d mem P n' S:=⟨h.all,h.only,h.shut,by have:=h.size;omega⟩
theorem Sought.mem_iff (h:Sought d mem P n S) (x:KeyV):x∈S↔Rch d mem P x:=by
 refine ⟨h.only x,fun hr=>?_⟩
 induction hr with
 | root hp=>exact h.all _ hp
 | next _ hn ih=>exact h.shut _ ih _ hn
end
def zEp (d:Bool) (R:List ValV) (c:KeyV) (stk:List FrameV) (k:KeyV):Prop :=
 k=c∨(∃ v∈R,v.is=true∧k=v.k)∨(d=true∧∃ f∈stk,k=f.code∨f.data.is=true∧k=f.data.k)
end
section
open Go.RowKit
open Go.Maps (Keyed)
theorem keyedK:Keyed Tryz.prog 54:=Keyed.of_law (Go.deep_law_laid (m:=3) (by kernel_rfl) (by decide) (of_decide_eq_true (by kernel_rfl)) (by kernel_rfl) (by kernel_rfl))
def zBb (k:KeyV):Lit:=.string (keyBytes [.int .i64 k.perm,.int .i64 k.base,.int .i64 k.len,.int .i64 k.at_,.int .i64 k.seal_])
theorem zE0 {n:Int} (h:I64 n):(Lit.int .i64 n).wf=true:=by
 obtain ⟨h1,h2⟩:=h
 exact WalkArith.wf_i64 (by omega)
theorem zDw {P:Program} {I:TypeId} {n:Nat} (hI:P.underlying I=some (.int .i64)) {a:Int} (w:(Lit.int .i64 a).wf=true):P.keyLits (n+1) I [.int .i64 a]=some [.int .i64 a]:=by
 unfold Program.keyLits
 rw [hI]
 simp [w]
theorem zOW {P:Program} {K I:TypeId} {f0 f1 f2 f3 f4:Field} {n:Nat} (hK:P.underlying K=some (.struct #[f0,f1,f2,f3,f4])) (hI:P.underlying I=some (.int .i64)) (e1:P.keyType K=true) (e2:P.cellsOf K=5) (e3:P.cellsOf I=1)
  (e4:P.types.size=n+1) (nm:(#[f0,f1,f2,f3,f4].all (·.name != "_"))=true) (o0:f0.offset=0) (o1:f1.offset=1) (o2:f2.offset=2) (o3:f3.offset=3) (o4:f4.offset=4)
  (t0:f0.type=I) (t1:f1.type=I) (t2:f2.type=I) (t3:f3.type=I) (t4:f4.type=I) {a0 a1 a2 a3 a4:Int}
  (w0:(Lit.int .i64 a0).wf=true) (w1:(Lit.int .i64 a1).wf=true) (w2:(Lit.int .i64 a2).wf=true) (w3:(Lit.int .i64 a3).wf=true) (w4:(Lit.int .i64 a4).wf=true) :
  keyOf P K (.agg #[.int .i64 a0,.int .i64 a1,.int .i64 a2,.int .i64 a3,.int .i64 a4])=some (.string (keyBytes [.int .i64 a0,.int .i64 a1,.int .i64 a2,.int .i64 a3,.int .i64 a4])):=by
 have hf:(Value.agg #[.int .i64 a0,.int .i64 a1,.int .i64 a2,.int .i64 a3,.int .i64 a4]).formed P K=true:=by
  unfold Value.formed
  simp only [hK,e2]
  rfl
 have hl:P.keyLits (P.types.size+1) K [.int .i64 a0,.int .i64 a1,.int .i64 a2,.int .i64 a3,.int .i64 a4]=some [.int .i64 a0,.int .i64 a1,.int .i64 a2,.int .i64 a3,.int .i64 a4]:=by
  rw [e4]
  unfold Program.keyLits
  rw [hK]
  simp only [e2,nm,List.length_cons,List.length_nil,and_self,if_true]
  simp only [List.mapM_cons,List.mapM_nil,o0,o1,o2,o3,o4,t0,t1,t2,t3,t4,e3,List.drop_zero,List.drop_succ_cons,List.take_succ_cons,List.take_zero,zDw hI w0,zDw hI w1,zDw hI w2,zDw hI w3,zDw hI w4]
  rfl
 unfold keyOf
 rw [hK]
 simp only [e1,hf,Bool.and_self,if_true,Value.cells]
 rw [hl]
 rfl
theorem zDN {k:KeyV} (h:k.wf):keyOf Tryz.prog 54 k.val=some (zBb k) :=
 zOW (I:=3) (n:=Tryz.prog.types.size - 1) Tryz.underlying54 Tryz.underlying3 (by kernel_rfl) (by kernel_rfl) (by kernel_rfl) (by kernel_rfl) (by kernel_rfl) rfl rfl rfl rfl rfl rfl rfl rfl rfl rfl (zE0 h.perm) (zE0 h.base) (zE0 h.len) (zE0 h.at_) (zE0 h.seal_)
theorem zF2 {a b:KeyV} (ha:a.wf) (hb:b.wf) (h:zBb a=zBb b):a=b:=by
 have:=keyedK.inj (zDN ha) (h▸zDN hb)
 unfold KeyV.val at this
 obtain ⟨a1,a2,a3,a4,a5⟩:=a
 obtain ⟨b1,b2,b3,b4,b5⟩:=b
 simpa using this
def zCJ (S:List KeyV):DataW Unit:=Maps.setOf (.agg []) (S.map zBb)
theorem zB1 (k:KeyV):WideAt.IsKeyLit (zBb k):=trivial
theorem zHx {S:List KeyV} {k:KeyV} (hS:∀ x∈S,x.wf) (hk:k.wf):Maps.has (zCJ S) (zBb k)=decide (k∈S):=by
 unfold zCJ
 rw [Maps.has_setOf _ _ _ (by intro x hx;obtain ⟨y,_,rfl⟩:=List.mem_map.1 hx;exact zB1 y),List.any_map]
 rw [Bool.eq_iff_iff,List.any_eq_true,decide_eq_true_eq]
 constructor
 ·rintro ⟨x,hx,hs⟩
  have:=WideAt.sameKey_eq (show (zBb x).sameKey (zBb k)=true from hs)
  rw [←zF2 (hS x hx) hk this];exact hx
 ·exact fun h=>⟨k,h,WideAt.sameKey_self (zB1 k)⟩
theorem zKc (S:List KeyV) (k:KeyV):zCJ (S++[k])=(zCJ S).put (zBb k) (.agg []):=by
 unfold zCJ
 rw [List.map_append]
 exact Maps.setOf_snoc _ _ _
structure SeekSt (gs b:Nat) (d:Bool) (mem:List ValV) (ma:Option Addr) (mc:Nat) (S:List KeyV) (W:World):Prop where
 bk:Bk W gs 143 #[.map (some b),.slice ma mem.length mc,.bool d]
 own:W.ownsMap Tryz.prog 54 (unitElem (H:=Unit)) b S.length (zCJ S)
 sl:Sl W ma mem.length mem
 wf:∀ x∈S,x.Ok
section
variable {gs b:Nat} {d:Bool} {mem:List ValV} {ma:Option Addr} {mc:Nat} {S:List KeyV} {W W':World}
theorem zEu {b n:Nat} {D:DataW Unit} (h:W.ownsMap Tryz.prog 54 (unitElem (H:=Unit)) b n D) (e:W'.heap[b]?=W.heap[b]?):W'.ownsMap Tryz.prog 54 (unitElem (H:=Unit)) b n D:=by
 obtain ⟨es,c,h1,h2⟩:=h
 exact ⟨es,c,e.trans h1,h2⟩
theorem SeekSt.below (h:SeekSt gs b d mem ma mc S W) (hb:Below W.heap.size W W'):SeekSt gs b d mem ma mc S W' :=
 ⟨zH hb h.bk,zEu h.own (hb.block b h.own.lt),h.sl.below hb,h.wf⟩
theorem SeekSt.ne (h:SeekSt gs b d mem ma mc S W):gs≠b:=by
 rintro rfl
 obtain ⟨es,c,h1,_⟩:=h.own
 have:=h.bk
 unfold Bk at this
 rw [this] at h1
 cases h1
theorem SeekSt.look (h:SeekSt gs b d mem ma mc S W) {k:KeyV} (hk:k.wf) (hS:∀ x∈S,x.wf) :
  (Instr.lookup 140 (.map (some b)) k.val true).run Tryz.prog W=.ok (.tuple #[.agg #[],.bool (decide (k∈S))]) W:=by
 have hz:(zeroValue 141).run Tryz.prog W=.ok (.agg #[]) W:=by kernel_rfl
 obtain ⟨v,ps,hrun,hv⟩:=h.own.look_ok keyedK Tryz.underlying140 hz unitElem_mk (zDN hk)
 obtain ⟨rfl,_⟩:=unitElem_inv hv
 rw [hrun,zHx hS hk]
end
end
section
open Go.RowKit
open Go.Maps (Keyed)
section
variable {b g n:Nat} {W W' W'' w0:World} {T:TypeId} {cs:Array Value}
abbrev Grw (b:Nat) (W W':World):Prop:=W.grownBy W' (some b)
theorem zBo (h:Grw b W W') (h':Grw b W' W''):Grw b W W'' :=
 ⟨h'.os.trans h.os,h'.tape.trans h.tape,h'.output.trans h.output,Nat.le_trans h.size h'.size,fun i hi hn=>(h'.block i (Nat.lt_of_lt_of_le hi h.size) hn).trans (h.block i hi hn)⟩
theorem zCL (h:Below W.heap.size W W'):Grw b W W':=⟨h.os,h.tape,h.output,h.size,fun i hi _=>h.block i hi⟩
theorem zEI (h:Grw b W W') (hb:Bk W g T cs) (hn:g≠b):Bk W' g T cs:=(h.block g hb.lt (fun e=>hn (Option.some.inj e))).trans hb
theorem zD5 (h:Grw b W W') (hw:Below w0.heap.size w0 W) (hb:w0.heap.size≤b):Below w0.heap.size w0 W' :=
 ⟨h.os.trans hw.os,h.tape.trans hw.tape,h.output.trans hw.output,Nat.le_trans hw.size h.size,fun i hi=>(h.block i (Nat.lt_of_lt_of_le hi hw.size) (fun e=>by have:=Option.some.inj e;omega)).trans (hw.block i hi)⟩
end
section
variable {gs b:Nat} {d:Bool} {mem:List ValV} {ma:Option Addr} {mc:Nat} {S S':List KeyV} {W W':World}
theorem SeekSt.step (h:SeekSt gs b d mem ma mc S W) (hg:Grw b W W') (ho:W'.ownsMap Tryz.prog 54 (unitElem (H:=Unit)) b S'.length (zCJ S')) (hw:∀ x∈S',x.Ok):SeekSt gs b d mem ma mc S' W':=by
 refine ⟨zEI hg h.bk h.ne,ho,?_,hw⟩
 rcases Nat.eq_zero_or_pos mem.length with e | hp
 ·exact ⟨h.sl.len,h.sl.max,fun hn=>absurd hn (by omega)⟩
 ·refine h.sl.grown hg fun a e hl he=>?_
  obtain ⟨a',e',_,hv,_⟩:=zEl h.sl hp
  rw [e] at e'
  injection e' with e'
  subst e'
  obtain ⟨es,c,h1,_⟩:=h.own
  injection he with he
  have:(a.add (0*7)).block=b:=by rw [zBH];exact he
  unfold World.cell? at hv
  rw [this,h1] at hv
  cases hv
theorem SeekSt.same (h:SeekSt gs b d mem ma mc S W) (hb:Below W.heap.size W W'):SeekSt gs b d mem ma mc S W':=h.below hb
end
theorem zJ3 {gs b:Nat} {d:Bool} {mem:List ValV} {ma:Option Addr} {mc:Nat} {S:List KeyV} {W:World} (h:SeekSt gs b d mem ma mc S W) (p bb l a s:Int) :
  Calls Tryz.prog 96 #[.pointer (some ⟨gs,0,none⟩),.agg #[.int .i64 p,.int .i64 bb,.int .i64 l,.int .i64 a,.int .i64 s]] W fun e w'=>e=.returned (.bool (zEJ d ⟨p,bb,l,a,s⟩))∧Below W.heap.size W w':=by
 have c2:=h.bk.cell 2
 have gL:=h.bk.lt
 have e2:W.cell? ⟨gs,2,none⟩=some (.bool d):=c2
 clear c2 h
 unfold zEJ
 cases d
 ·go_enter Tryz.func96,Tryz.ntmps96
  go_wp2
  go_ret
  exact ⟨by simp;rfl,zG (Below.refl _ _) _⟩
 ·go_enter Tryz.func96,Tryz.ntmps96
  go_wp2
  go_ret
  exact ⟨by simp,zG (Below.refl _ _) _⟩
end
section
open Go.RowKit
theorem zFq (R:List ValV) (c:KeyV) (mem:List ValV) (stk:List FrameV) (out:List Int) (ma sa oa:Option Addr) (mc sc oc:Nat) (w:World) (h8:R.length=8)
  (hm:Sl w ma mem.length mem) (hs:Sl w sa stk.length stk) (ho:Sl w oa out.length out) :
  Calls Tryz.prog 68 #[.agg (mcs R c (.slice ma mem.length mc) (.slice sa stk.length sc) (.slice oa out.length oc))] w fun e w'=>e=.returned (.int .i64 (zAd R c mem stk out))∧Below w.heap.size w w':=by
 have hmm:=hm.max
 have hsm:=hs.max
 have hom:=ho.max
 unfold maxLen at hmm hsm hom
 have hsz:=zBh (c:=c) (ms:=.slice ma mem.length mc) (ss:=.slice sa stk.length sc) (os:=.slice oa out.length oc) h8
 have hrg:=zHp (c:=c) (ms:=.slice ma mem.length mc) (ss:=.slice sa stk.length sc) (os:=.slice oa out.length oc) h8
 have hhi:=zAU (c:=c) (ms:=.slice ma mem.length mc) (ss:=.slice sa stk.length sc) (os:=.slice oa out.length oc) h8
 generalize mcs R c (.slice ma mem.length mc) (.slice sa stk.length sc) (.slice oa out.length oc)=cs at *
 obtain ⟨w1,hw1⟩:∃ w1,w1=w.alloc (.cells cs 60):=⟨_,rfl⟩
 have hB:Bk w1 w.heap.size 60 cs:=by rw [hw1];exact zM _ _ _
 have h1w:Below w.heap.size w w1:=by rw [hw1];exact zG (Below.refl _ _) _
 have q56:∀ x:Later w1,x.val.cell? ⟨w.heap.size,56,none⟩=some (.int .i64 c.perm):=fun x=>((x.bk hB).cell _).trans (hhi 0)
 have q57:∀ x:Later w1,x.val.cell? ⟨w.heap.size,57,none⟩=some (.int .i64 c.base):=fun x=>((x.bk hB).cell _).trans (hhi 1)
 have q58:∀ x:Later w1,x.val.cell? ⟨w.heap.size,58,none⟩=some (.int .i64 c.len):=fun x=>((x.bk hB).cell _).trans (hhi 2)
 have q59:∀ x:Later w1,x.val.cell? ⟨w.heap.size,59,none⟩=some (.int .i64 c.at_):=fun x=>((x.bk hB).cell _).trans (hhi 3)
 have q60:∀ x:Later w1,x.val.cell? ⟨w.heap.size,60,none⟩=some (.int .i64 c.seal_):=fun x=>((x.bk hB).cell _).trans (hhi 4)
 have q61:∀ x:Later w1,x.val.cell? ⟨w.heap.size,61,none⟩=some (.slice ma mem.length mc):=fun x=>((x.bk hB).cell _).trans (hhi 5)
 have q62:∀ x:Later w1,x.val.cell? ⟨w.heap.size,62,none⟩=some (.slice sa stk.length sc):=fun x=>((x.bk hB).cell _).trans (hhi 6)
 have q63:∀ x:Later w1,x.val.cell? ⟨w.heap.size,63,none⟩=some (.slice oa out.length oc):=fun x=>((x.bk hB).cell _).trans (hhi 7)
 have qL:∀ x:Later w1,w.heap.size < x.val.heap.size:=fun x=>x.lt hB.lt
 have sm:∀ x:Later w1,Sl x.val ma mem.length mem:=fun x=>(hm.below h1w).below x.ok
 have ss:∀ x:Later w1,Sl x.val sa stk.length stk:=fun x=>(hs.below h1w).below x.ok
 have so:∀ x:Later w1,Sl x.val oa out.length out:=fun x=>(ho.below h1w).below x.ok
 have fin:∀ x:Later w1,Below w.heap.size w x.val:=fun x=>zI h1w x.ok
 have HW1:=zA hw1
 have HSZ:=zA hsz
 have HRG:=zA hrg
 have HB:=zA hB
 have SM:=zA sm
 have SS:=zA ss
 have SO:=zA so
 have FIN:=zA fin
 have H8:=zA h8
 have MC:=zA (fun W h=>zF1 ma mem.length mc mem W h)
 obtain ⟨cp,cb,cl_,ca,cs_⟩:=c
 simp only at q56 q57 q58 q59 q60
 have KC:=zA (fun W=>zBU cp cb cl_ ca cs_ W)
 clear hsz hrg hhi hB h1w hw1 sm ss so fin hm hs ho h8
 go_enter Tryz.func68,Tryz.ntmps68
 go_upto_region 1 with (fail)
 rw [←HW1.out]
 obtain ⟨x0,hx0⟩:=zJq (w0:=w1) rfl
 have HX0:=zA hx0
 clear hx0
 go_wp2_with (refine zAZ rfl 57 (.tmp 14) rfl w.heap.size 0 56 rfl 60 cs _ HB.out Tryz.underlying57 rfl (by kernel_rfl) (by have:=HSZ.out;omega) _ HRG.out ?_)
 go_loopw [16] (fun i wr=>∃ (k:Nat) (x:Later w1),k≤8∧i=.int .i64 k∧wr=x.val∧zAi R=zAi (R.drop k)) (fun i _=>8 - (intOf i).toNat)
 case atStart=>exact ⟨0,x0,by omega,rfl,HX0.out,rfl⟩
 case round =>
  obtain ⟨k,x,hk,rfl,rfl,hf⟩:=hrel
  by_cases hlt:k < 8
  ·have q1:(k:Int) < 8:=by omega
   obtain ⟨v,hv⟩:∃ v,R[k]?=some v:=⟨_,List.getElem?_eq_getElem (by have:=H8.out;omega)⟩
   have hd:=zIy hv
   have hix:=fun W=>zEC R H8.out hv W
   obtain ⟨vi,vn,vp,vb,vl,va,vs⟩:=v
   simp only [ValV.val] at hix
   have cc:=fun W=>zEY vi vn vp vb vl va vs W
   by_cases hc:zAJ ⟨vi,vn,⟨vp,vb,vl,va,vs⟩⟩=0
   ·rw [if_pos hc] at hd
    rw [hc] at cc
    have CC:=zA cc
    have HF:=zA (hf.trans hd)
    clear cc hf hd hc hv
    go_wp2_with (go_at_call 90;((with_reducible refine (CC.out _).mono ?_);rintro e w2 ⟨rfl,hb2⟩;obtain ⟨y,rfl⟩:=zZ (zG x.ok _) hb2;clear hb2))
    go_roundw
    case rel=>exact ⟨k+1,y,by omega,by go_num,rfl,HF.out⟩
    case measure=>simp [intOf];omega
   ·rw [if_neg hc] at hd
    have hst:zAd R ⟨cp,cb,cl_,ca,cs_⟩ mem stk out=zAJ ⟨vi,vn,⟨vp,vb,vl,va,vs⟩⟩:=by unfold zAd;rw [hf,hd,if_pos hc]
    generalize zAJ ⟨vi,vn,⟨vp,vb,vl,va,vs⟩⟩=ec at *
    have g1:(ec==0)=false:=by simpa using hc
    have g2:(ec != 0)=true:=by simpa using hc
    have CC:=zA cc
    have HST:=zA hst
    clear cc hf hd hc hv hst
    go_wp2_with (go_at_call 90;((with_reducible refine (CC.out _).mono ?_);rintro e w2 ⟨rfl,hb2⟩;obtain ⟨y,rfl⟩:=zZ (zG x.ok _) hb2;clear hb2))
    go_ret
    exact ⟨by rw [HST.out];rfl,FIN.out y⟩
  ·have q1:¬((k:Int) < 8):=by omega
   rw [List.drop_of_length_le (by have:=H8.out;omega)] at hf
   have hf0:zAi R=0:=hf
   clear hf
   by_cases hko:okB ⟨cp,cb,cl_,ca,cs_⟩=true
   ·have kc0:zAF ⟨cp,cb,cl_,ca,cs_⟩=0:=by unfold zAF;rw [if_pos hko]
    have kc:=KC.out
    rw [kc0] at kc
    have KC0:=zA kc
    clear kc kc0
    by_cases hmc:zA4 mem=0
    ·have mc0:=MC.out
     rw [hmc] at mc0
     have MC0:=zA mc0
     clear mc0
     by_cases h16:16 < stk.length
     ·have hst:zAd R ⟨cp,cb,cl_,ca,cs_⟩ mem stk out=2:=by unfold zAd;rw [if_neg (by simp [hf0]),if_neg (by simp [hko]),if_neg (by simp [hmc]),if_pos h16]
      have HST:=zA hst
      have g16:((16:Int) < stk.length):=by omega
      clear hst hf0 hko hmc
      go_wp2_with (first
       | (go_at_call 27;((with_reducible refine (KC0.out _).mono ?_);rintro e w2 ⟨rfl,hb2⟩;obtain ⟨y,rfl⟩:=zZ x.ok hb2;clear hb2))
       | (go_at_call 67;((with_reducible refine (MC0.out _ (SM.out y)).mono ?_);rintro e w3 ⟨rfl,hb3⟩;obtain ⟨z,rfl⟩:=zZ y.ok hb3;clear hb3)))
      go_ret
      exact ⟨by rw [HST.out];rfl,FIN.out z⟩
     ·have g16:¬((16:Int) < stk.length):=by omega
      have hst:zAd R ⟨cp,cb,cl_,ca,cs_⟩ mem stk out=if zCI stk≠0 then zCI stk else if 100 < out.length then 2 else zCT out:=by unfold zAd;rw [if_neg (by simp [hf0]),if_neg (by simp [hko]),if_neg (by simp [hmc]),if_neg h16]
      have HST:=zA hst
      clear hst hf0 hko hmc
      go_wp2_with (first
       | (go_at_call 27;((with_reducible refine (KC0.out _).mono ?_);rintro e w2 ⟨rfl,hb2⟩;obtain ⟨y,rfl⟩:=zZ x.ok hb2;clear hb2))
       | (go_at_call 67;((with_reducible refine (MC0.out _ (SM.out y)).mono ?_);rintro e w3 ⟨rfl,hb3⟩;obtain ⟨z,rfl⟩:=zZ y.ok hb3;clear hb3)))
      go_loopw [44] (fun i wr=>∃ (k:Nat) (x:Later w1),k≤stk.length∧i=.int .i64 k∧wr=x.val∧zCI stk=zCI (stk.drop k)) (fun i _=>stk.length - (intOf i).toNat)
      case atStart=>exact ⟨0,z,Nat.zero_le _,rfl,rfl,rfl⟩
      case round =>
       obtain ⟨k,x',hk,rfl,rfl,hf⟩:=hrel
       by_cases hlt:k < stk.length
       ·have q1:(k:Int) < stk.length:=by omega
        obtain ⟨f,hfk⟩:∃ f,stk[k]?=some f:=⟨_,List.getElem?_eq_getElem hlt⟩
        have hd:=zLo hfk
        obtain ⟨ad,rfl,hab,e0,e1,e2,e3,e4,e5,e6,e7,e8,e9,e10,e11⟩:=zHV (SS.out x') hlt hfk
        obtain ⟨⟨fp,fb,fl,fa,fs⟩,⟨vi,vn,vp,vb,vl,va,vs⟩⟩:=f
        simp only at hd e0 e1 e2 e3 e4 e5 e6 e7 e8 e9 e10 e11
        have cc:=fun W=>zEY vi vn vp vb vl va vs W
        have kc:=fun W=>zBU fp fb fl fa fs W
        by_cases hko2:okB ⟨fp,fb,fl,fa,fs⟩=true
        ·rw [if_neg (by simp [hko2])] at hd
         have kc0:zAF ⟨fp,fb,fl,fa,fs⟩=0:=by unfold zAF;rw [if_pos hko2]
         rw [kc0] at kc
         have KC1:=zA kc
         clear kc kc0 hko2
         by_cases hc:zAJ ⟨vi,vn,⟨vp,vb,vl,va,vs⟩⟩=0
         ·rw [if_neg (by simp [hc])] at hd
          rw [hc] at cc
          have CC:=zA cc
          have HF:=zA (hf.trans hd)
          clear cc hf hd hc hfk
          go_wp2_with (first
           | (go_at_call 27;((with_reducible refine (KC1.out _).mono ?_);rintro e w5 ⟨rfl,hb5⟩;have fB:Bk w5 x'.val.heap.size 156 #[.int .i64 fp,.int .i64 fb,.int .i64 fl,.int .i64 fa,.int .i64 fs,.bool vi,.int .i64 vn,.int .i64 vp,.int .i64 vb,.int .i64 vl,.int .i64 va,.int .i64 vs]:=zH hb5 (zM _ _ _);have f5:=fB.cell 5;have f6:=fB.cell 6;have f7:=fB.cell 7;have f8:=fB.cell 8;have f9:=fB.cell 9;have f10:=fB.cell 10;have f11:=fB.cell 11;have fL:=fB.lt;clear fB;simp at f5 f6 f7 f8 f9 f10 f11;obtain ⟨y5,rfl⟩:=zZ (zG x'.ok _) hb5;clear hb5))
           | (go_at_call 90;((with_reducible refine (CC.out _).mono ?_);rintro e w6 ⟨rfl,hb6⟩;obtain ⟨y6,rfl⟩:=zZ y5.ok hb6;clear hb6)))
          go_roundw
          case rel=>exact ⟨k+1,y6,by omega,by go_num,rfl,HF.out⟩
          case measure=>simp [intOf];omega
         ·rw [if_pos hc] at hd
          have hst:zAd R ⟨cp,cb,cl_,ca,cs_⟩ mem stk out=zAJ ⟨vi,vn,⟨vp,vb,vl,va,vs⟩⟩:=by rw [HST.out,hf,hd,if_pos hc]
          generalize zAJ ⟨vi,vn,⟨vp,vb,vl,va,vs⟩⟩=ec at *
          have g1:(ec==0)=false:=by simpa using hc
          have g2:(ec != 0)=true:=by simpa using hc
          have CC:=zA cc
          have HST2:=zA hst
          clear cc hf hd hc hst hfk
          go_wp2_with (first
           | (go_at_call 27;((with_reducible refine (KC1.out _).mono ?_);rintro e w5 ⟨rfl,hb5⟩;have fB:Bk w5 x'.val.heap.size 156 #[.int .i64 fp,.int .i64 fb,.int .i64 fl,.int .i64 fa,.int .i64 fs,.bool vi,.int .i64 vn,.int .i64 vp,.int .i64 vb,.int .i64 vl,.int .i64 va,.int .i64 vs]:=zH hb5 (zM _ _ _);have f5:=fB.cell 5;have f6:=fB.cell 6;have f7:=fB.cell 7;have f8:=fB.cell 8;have f9:=fB.cell 9;have f10:=fB.cell 10;have f11:=fB.cell 11;have fL:=fB.lt;clear fB;simp at f5 f6 f7 f8 f9 f10 f11;obtain ⟨y5,rfl⟩:=zZ (zG x'.ok _) hb5;clear hb5))
           | (go_at_call 90;((with_reducible refine (CC.out _).mono ?_);rintro e w6 ⟨rfl,hb6⟩;obtain ⟨y6,rfl⟩:=zZ y5.ok hb6;clear hb6)))
          go_ret
          exact ⟨by rw [HST2.out];rfl,FIN.out y6⟩
        ·have kc0:zAF ⟨fp,fb,fl,fa,fs⟩=1:=by unfold zAF;rw [if_neg hko2]
         rw [if_pos (by simpa using hko2)] at hd
         have hst:zAd R ⟨cp,cb,cl_,ca,cs_⟩ mem stk out=1:=by rw [HST.out,hf,hd,if_pos (by decide)]
         rw [kc0] at kc
         have KC1:=zA kc
         have HST2:=zA hst
         clear kc kc0 hko2 hf hd hst cc hfk
         go_wp2_with (go_at_call 27;((with_reducible refine (KC1.out _).mono ?_);rintro e w5 ⟨rfl,hb5⟩;obtain ⟨y5,rfl⟩:=zZ (zG x'.ok _) hb5;clear hb5))
         go_ret
         exact ⟨by rw [HST2.out];rfl,FIN.out y5⟩
       ·have q1:¬((k:Int) < stk.length):=by omega
        rw [List.drop_of_length_le (by omega)] at hf
        have hf0:zCI stk=0:=hf
        have hst0:=HST.out
        rw [if_neg (by simp [hf0])] at hst0
        clear hf hf0
        by_cases h100:100 < out.length
        ·rw [if_pos h100] at hst0
         have g100:((100:Int) < out.length):=by omega
         have HST2:=zA hst0
         clear hst0
         go_wp2
         go_ret
         exact ⟨by rw [HST2.out];rfl,FIN.out x'⟩
        ·rw [if_neg h100] at hst0
         have g100:¬((100:Int) < out.length):=by omega
         have HST2:=zA hst0
         clear hst0
         go_wp2
         obtain ⟨x2,hx2⟩:∃ x2:Later w1,x2=x':=⟨_,rfl⟩
         go_loopw [68] (fun i wr=>∃ (k:Nat) (x:Later w1),k≤out.length∧i=.int .i64 k∧wr=x.val∧zCT out=zCT (out.drop k)) (fun i _=>out.length - (intOf i).toNat)
         case atStart=>exact ⟨0,x',Nat.zero_le _,rfl,rfl,rfl⟩
         case round =>
          obtain ⟨k,x'',hk,rfl,rfl,hf⟩:=hrel
          by_cases hlt:k < out.length
          ·have q1:(k:Int) < out.length:=by omega
           obtain ⟨f,hfk⟩:∃ f,out[k]?=some f:=⟨_,List.getElem?_eq_getElem hlt⟩
           have hd:=zKt hfk
           obtain ⟨ad,rfl,hab,e0⟩:=zDt (SO.out x'') hlt hfk
           have cc:=fun W=>zBg f W
           by_cases hc:f=wrap32 f
           ·rw [if_pos hc] at hd
            have HF:=zA (hf.trans hd)
            have g1:(f != wrap32 f)=false:=by rw [bne_eq_false_iff_eq];exact hc
            generalize wrap32 f=f2 at *
            have CC:=zA cc
            clear cc hf hd hc hfk
            go_wp2_with (go_at_call 39;((with_reducible refine (CC.out _).mono ?_);rintro e w5 ⟨rfl,rfl⟩))
            go_roundw
            case rel=>exact ⟨k+1,x'',by omega,by go_num,rfl,HF.out⟩
            case measure=>simp [intOf];omega
           ·rw [if_neg hc] at hd
            have hst:zAd R ⟨cp,cb,cl_,ca,cs_⟩ mem stk out=1:=by rw [HST2.out,hf,hd]
            have HST3:=zA hst
            have g1:(f != wrap32 f)=true:=by rw [bne_iff_ne];exact hc
            generalize wrap32 f=f2 at *
            have CC:=zA cc
            clear cc hf hd hc hst hfk
            go_wp2_with (go_at_call 39;((with_reducible refine (CC.out _).mono ?_);rintro e w5 ⟨rfl,rfl⟩))
            go_ret
            exact ⟨by rw [HST3.out];rfl,FIN.out x''⟩
          ·have q1:¬((k:Int) < out.length):=by omega
           rw [List.drop_of_length_le (by omega)] at hf
           have hst:zAd R ⟨cp,cb,cl_,ca,cs_⟩ mem stk out=0:=by rw [HST2.out,hf];rfl
           have HST3:=zA hst
           clear hf hst
           go_wp2
           go_ret
           exact ⟨by rw [HST3.out];rfl,FIN.out x''⟩
    ·have hst:zAd R ⟨cp,cb,cl_,ca,cs_⟩ mem stk out=zA4 mem:=by unfold zAd;rw [if_neg (by simp [hf0]),if_neg (by simp [hko]),if_pos hmc]
     have mc0:=MC.out
     generalize zA4 mem=ec at *
     have MC0:=zA mc0
     have g1:(ec==0)=false:=by simpa using hmc
     have g2:(ec != 0)=true:=by simpa using hmc
     have HST:=zA hst
     clear mc0 hst hf0 hko hmc
     go_wp2_with (first
      | (go_at_call 27;((with_reducible refine (KC0.out _).mono ?_);rintro e w2 ⟨rfl,hb2⟩;obtain ⟨y,rfl⟩:=zZ x.ok hb2;clear hb2))
      | (go_at_call 67;((with_reducible refine (MC0.out _ (SM.out y)).mono ?_);rintro e w3 ⟨rfl,hb3⟩;obtain ⟨z,rfl⟩:=zZ y.ok hb3;clear hb3)))
     go_ret
     exact ⟨by rw [HST.out];rfl,FIN.out z⟩
   ·have kc0:zAF ⟨cp,cb,cl_,ca,cs_⟩=1:=by unfold zAF;rw [if_neg hko]
    have hst:zAd R ⟨cp,cb,cl_,ca,cs_⟩ mem stk out=1:=by unfold zAd;rw [if_neg (by simp [hf0]),if_pos (by simpa using hko)]
    have kc:=KC.out
    rw [kc0] at kc
    have KC0:=zA kc
    have HST:=zA hst
    clear kc kc0 hst hf0 hko
    go_wp2_with (go_at_call 27;((with_reducible refine (KC0.out _).mono ?_);rintro e w2 ⟨rfl,hb2⟩;obtain ⟨y,rfl⟩:=zZ x.ok hb2;clear hb2))
    go_ret
    exact ⟨by rw [HST.out];rfl,FIN.out y⟩
end
end Go.Proofs.YtlpejagkadalbaaGreatDoor
