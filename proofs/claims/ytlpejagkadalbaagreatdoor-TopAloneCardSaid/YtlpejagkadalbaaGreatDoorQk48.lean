import Derived.Test.YtlpejagkadalbaaGreatDoorQk07
import Derived.DeepKeys4
set_option maxHeartbeats 40000000
set_option maxRecDepth 100000
set_option linter.unusedVariables false
set_option linter.unusedSimpArgs false
namespace Go.Proofs.YtlpejagkadalbaaGreatDoor
section
open Go.RowKit
def zQV (d:Bool) (k:KeyV):Bool:=d||decide (k.seal_=0)
def zM4 (d:Bool) (k:KeyV):Bool:=zQV d k&&zBh 9 k.perm
def zJ8 (d:Bool) (mem:List ValV) (k x:KeyV):Prop :=
 zM4 d k = true ∧ ∃ j : Nat, k.base ≤ j ∧ (j : Int) < k.base + k.len ∧ j < mem.length ∧ (mem.getD j zeroV).is = true ∧ x = (mem.getD j zeroV).k
inductive Rch (d:Bool) (mem:List ValV) (P:KeyV→Prop):KeyV→Prop
 | root {k:KeyV} (h:P k):Rch d mem P k
 | next {k x:KeyV} (h:Rch d mem P k) (n:zJ8 d mem k x):Rch d mem P x
theorem Rch.mono {d:Bool} {mem:List ValV} {P Q:KeyV→Prop} {x:KeyV} (h:Rch d mem P x) (hp:∀ k,P k→Rch d mem Q k):Rch d mem Q x:=by
 induction h with
 | root h=>exact hp _ h
 | next _ n ih=>exact .next ih n
def fresh (mem:List ValV) (S:List KeyV):Nat:=mem.countP (fun v=>v.is&&decide (v.k∉S))
theorem zO1 (mem:List ValV) (S:List KeyV):fresh mem S≤mem.length:=List.countP_le_length
theorem zL0 {mem:List ValV} {S S':List KeyV} (h:∀ x∈S,x∈S'):fresh mem S'≤fresh mem S:=by
 unfold fresh
 refine List.countP_mono_left fun v _ hv=>?_
 simp only [Bool.and_eq_true,decide_eq_true_eq] at hv ⊢
 exact ⟨hv.1,fun hx=>hv.2 (h _ hx)⟩
theorem zO0 {mem:List ValV} {S:List KeyV} {v:ValV} (hv:v∈mem) (hi:v.is=true) (hn:v.k∉S):fresh mem (S++[v.k])+1≤fresh mem S:=by
 unfold fresh
 induction mem with
 | nil=>cases hv
 | cons u mem ih =>
  rw [List.countP_cons,List.countP_cons]
  have hm:List.countP (fun u=>u.is&&decide (u.k∉S++[v.k])) mem≤List.countP (fun u=>u.is&&decide (u.k∉S)) mem:=by
   refine List.countP_mono_left fun u _ hu=>?_
   simp only [Bool.and_eq_true,decide_eq_true_eq,List.mem_append] at hu ⊢
   exact ⟨hu.1,fun hx=>hu.2 (.inl hx)⟩
  rcases List.mem_cons.1 hv with rfl | hv
  ·have e1:(v.is&&decide (v.k∉S++[v.k]))=false:=by simp
   have e2:(v.is&&decide (v.k∉S))=true:=by simp [hi,hn]
   simp only [e1,e2,if_true]
   simp only [Bool.false_eq_true,if_false]
   omega
  ·have:=ih hv
   have h3:(u.is&&decide (u.k∉S++[v.k]))=true→(u.is&&decide (u.k∉S))=true:=by
    simp only [Bool.and_eq_true,decide_eq_true_eq,List.mem_append]
    exact fun hu=>⟨hu.1,fun hx=>hu.2 (.inl hx)⟩
   by_cases h1:(u.is&&decide (u.k∉S++[v.k]))=true
   ·rw [if_pos h1,if_pos (h3 h1)];omega
   ·rw [if_neg h1];split<;>omega
theorem zHJ {mem:List ValV} {S:List KeyV} {k:KeyV} (h:k∈S):fresh mem (S++[k])=fresh mem S:=by
 unfold fresh
 congr 1
 funext v
 congr 1
 rw [decide_eq_decide]
 simp only [List.mem_append,List.mem_singleton]
 exact ⟨fun hn hx=>hn (.inl hx),fun hn hx=>by
  rcases hx with hx | hx
  ·exact hn hx
  ·exact hn (hx▸h)⟩
structure AddR (d:Bool) (mem:List ValV) (S:List KeyV) (k:KeyV) (S':List KeyV):Prop where
 sub:∀ x∈S,x∈S'
 has:k∈S'
 only:∀ x∈S',x∈S∨Rch d mem (· = k) x
 shut:∀ x∈S',x∉S→∀ y,zJ8 d mem x y→y∈S'
 size:S'.length+fresh mem S'≤S.length+fresh mem (S++[k])+(if k∈S then 0 else 1)
structure AddL (d:Bool) (mem:List ValV) (k:KeyV) (S:List KeyV) (j:Int) (S':List KeyV):Prop where
 sub:∀ x∈S,x∈S'
 done:∀ i:Nat,k.base≤i→(i:Int) < j→i < mem.length→(mem.getD i zeroV).is=true→(mem.getD i zeroV).k∈S'
 only:∀ x∈S',x∈S∨Rch d mem (· = k) x
 shut:∀ x∈S',x∉S→∀ y,zJ8 d mem x y→y∈S'
 size:S'.length+fresh mem S'≤S.length+fresh mem S
section
variable {d:Bool} {mem:List ValV} {S S' S'':List KeyV} {k:KeyV} {j:Int}
theorem AddR.there (h:k∈S):AddR d mem S k S :=
 ⟨fun _ h=>h,h,fun _ h=>.inl h,fun x hx hn=>absurd hx hn,by rw [zHJ h,if_pos h];omega⟩
theorem AddL.start:AddL d mem k S k.base S :=
 ⟨fun _ h=>h,fun i h1 h2=>by omega,fun _ h=>.inl h,fun x hx hn=>absurd hx hn,Nat.le_refl _⟩
theorem AddL.skip {n:Nat} (h:AddL d mem k S n S') (hv:(mem.getD n zeroV).is=false):AddL d mem k S ((n:Int)+1) S':=by
 refine ⟨h.sub,fun i h1 h2 h3 h4=>?_,h.only,h.shut,h.size⟩
 by_cases e:i=n
 ·rw [e,hv] at h4;cases h4
 ·exact h.done i h1 (by omega) h3 h4
theorem AddL.add {n:Nat} (h:AddL d mem k S n S') (ho:zM4 d k=true) (h0:k.base≤n) (h1:(n:Int) < k.base+k.len) (hm:n < mem.length) (hv:(mem.getD n zeroV).is=true) (ha:AddR d mem S' (mem.getD n zeroV).k S''):AddL d mem k S ((n:Int)+1) S'':=by
 have hnx:zJ8 d mem k (mem.getD n zeroV).k:=⟨ho,n,h0,h1,hm,hv,rfl⟩
 refine ⟨fun x hx=>ha.sub x (h.sub x hx),fun i h1 h2 h3 h4=>?_,fun x hx=>?_,fun x hx hn y hy=>?_,?_⟩
 ·by_cases e:i=n
  ·rw [e];exact ha.has
  ·exact ha.sub _ (h.done i h1 (by omega) h3 h4)
 ·rcases ha.only x hx with hx | hx
  ·exact h.only x hx
  ·exact .inr (hx.mono fun q hq=>by rw [hq];exact .next (.root rfl) hnx)
 ·by_cases hs:x∈S'
  ·exact ha.sub _ (h.shut x hs hn y hy)
  ·exact ha.shut x hx hs y hy
 ·have h1:=ha.size
  have h2:=h.size
  by_cases hs:(mem.getD n zeroV).k∈S'
  ·rw [if_pos hs,zHJ hs] at h1;omega
  ·rw [if_neg hs] at h1
   have hin:mem.getD n zeroV∈mem:=by
    rw [List.getD_eq_getElem?_getD,List.getElem?_eq_getElem hm];exact List.getElem_mem hm
   have:=zO0 hin hv hs
   omega
end
structure Sought (d:Bool) (mem:List ValV) (P:KeyV→Prop) (n:Nat) (S:List KeyV):Prop where
 all:∀ k,P k→k∈S
 only:∀ x∈S,Rch d mem P x
 shut:∀ x∈S,∀ y,zJ8 d mem x y→y∈S
 size:S.length+fresh mem S≤mem.length+n
section
variable {d:Bool} {mem:List ValV} {S S':List KeyV} {k:KeyV} {P Q:KeyV→Prop} {n:Nat}
theorem Sought.start:Sought d mem (fun _=>False) 0 [] :=
 ⟨fun _ h=>h.elim,fun x h=>(by cases h),fun x h=>(by cases h),by have:=zO1 mem [];simp only [List.length_nil];omega⟩
theorem Sought.add (h:Sought d mem P n S) (ha:AddR d mem S k S'):Sought d mem (fun x=>P x∨x=k) (n+1) S':=by
 refine ⟨fun x hx=>?_,fun x hx=>?_,fun x hx y hy=>?_,?_⟩
 ·rcases hx with hx | rfl
  ·exact ha.sub x (h.all x hx)
  ·exact ha.has
 ·rcases ha.only x hx with hx | hx
  ·exact (h.only x hx).mono fun q hq=>.root (.inl hq)
  ·exact hx.mono fun q hq=>.root (.inr hq)
 ·by_cases hs:x∈S
  ·exact ha.sub y (h.shut x hs y hy)
  ·exact ha.shut x hx hs y hy
 ·have h1:=ha.size
  have h2:=h.size
  have h3:fresh mem (S++[k])≤fresh mem S:=zL0 fun x hx=>List.mem_append_left _ hx
  split at h1<;>omega
theorem Sought.same (h:Sought d mem P n S) (e:∀ x,P x↔Q x):Sought d mem Q n S :=
 ⟨fun k hk=>h.all k ((e k).2 hk),fun x hx=>(h.only x hx).mono fun q hq=>.root ((e q).1 hq),h.shut,h.size⟩
theorem Sought.more (h:Sought d mem P n S) {n':Nat} (hn:n≤n'):Sought d mem P n' S:=⟨h.all,h.only,h.shut,by have:=h.size;omega⟩
end
end
section
open Go.RowKit
open Go.Maps (Keyed)
theorem keyedK:Keyed Tryz.prog 54:=Keyed.of_law (Go.deep_law_laid (m:=3) (by kernel_rfl) (by decide) (of_decide_eq_true (by kernel_rfl)) (by kernel_rfl) (by kernel_rfl))
def zDy (k:KeyV):Lit:=.string (keyBytes [.int .i64 k.perm,.int .i64 k.base,.int .i64 k.len,.int .i64 k.at_,.int .i64 k.seal_])
theorem zFs {n:Int} (h:I64 n):(Lit.int .i64 n).wf=true:=by
 obtain ⟨h1,h2⟩:=h
 exact WalkArith.wf_i64 (by omega)
theorem zEX {P:Program} {I:TypeId} {n:Nat} (hI:P.underlying I=some (.int .i64)) {a:Int} (w:(Lit.int .i64 a).wf=true):P.keyLits (n+1) I [.int .i64 a]=some [.int .i64 a]:=by
 unfold Program.keyLits
 rw [hI]
 simp [w]
theorem zQ0 {P:Program} {K I:TypeId} {f0 f1 f2 f3 f4:Field} {n:Nat} (hK:P.underlying K=some (.struct #[f0,f1,f2,f3,f4])) (hI:P.underlying I=some (.int .i64)) (e1:P.keyType K=true) (e2:P.cellsOf K=5) (e3:P.cellsOf I=1)
  (e4:P.types.size=n+1) (nm:(#[f0,f1,f2,f3,f4].all (·.name != "_"))=true) (o0:f0.offset=0) (o1:f1.offset=1) (o2:f2.offset=2) (o3:f3.offset=3) (o4:f4.offset=4)
  (t0:f0.type=I) (t1:f1.type=I) (t2:f2.type=I) (t3:f3.type=I) (t4:f4.type=I) {a0 a1 a2 a3 a4:Int}
  (w0:(Lit.int .i64 a0).wf=true) (w1:(Lit.int .i64 a1).wf=true) (w2:(Lit.int .i64 a2).wf=true) (w3:(Lit.int .i64 a3).wf=true) (w4:(Lit.int .i64 a4).wf=true) :
  keyOf P K (.agg #[.int .i64 a0,.int .i64 a1,.int .i64 a2,.int .i64 a3,.int .i64 a4])=some (.string (keyBytes [.int .i64 a0,.int .i64 a1,.int .i64 a2,.int .i64 a3,.int .i64 a4])):=by
 have hf:(Value.agg #[.int .i64 a0,.int .i64 a1,.int .i64 a2,.int .i64 a3,.int .i64 a4]).formed P K=true:=by
  unfold Value.formed
  simp only [hK,e2]
  rfl
 have hl:P.keyLits (P.types.size+1) K [.int .i64 a0,.int .i64 a1,.int .i64 a2,.int .i64 a3,.int .i64 a4]=some [.int .i64 a0,.int .i64 a1,.int .i64 a2,.int .i64 a3,.int .i64 a4]:=by
  rw [e4]
  unfold Program.keyLits
  rw [hK]
  simp only [e2,nm,List.length_cons,List.length_nil,and_self,if_true]
  simp only [List.mapM_cons,List.mapM_nil,o0,o1,o2,o3,o4,t0,t1,t2,t3,t4,e3,List.drop_zero,List.drop_succ_cons,List.take_succ_cons,List.take_zero,zEX hI w0,zEX hI w1,zEX hI w2,zEX hI w3,zEX hI w4]
  rfl
 unfold keyOf
 rw [hK]
 simp only [e1,hf,Bool.and_self,if_true,Value.cells]
 rw [hl]
 rfl
theorem zFr {k:KeyV} (h:k.wf):keyOf Tryz.prog 54 k.val=some (zDy k) :=
 zQ0 (I:=3) (n:=Tryz.prog.types.size - 1) Tryz.underlying54 Tryz.underlying3 (by kernel_rfl) (by kernel_rfl) (by kernel_rfl) (by kernel_rfl) (by kernel_rfl) rfl rfl rfl rfl rfl rfl rfl rfl rfl rfl (zFs h.perm) (zFs h.base) (zFs h.len) (zFs h.at_) (zFs h.seal_)
theorem zLr {a b:KeyV} (ha:a.wf) (hb:b.wf) (h:zDy a=zDy b):a=b:=by
 have:=keyedK.inj (zFr ha) (h▸zFr hb)
 unfold KeyV.val at this
 obtain ⟨a1,a2,a3,a4,a5⟩:=a
 obtain ⟨b1,b2,b3,b4,b5⟩:=b
 simpa using this
def zHa (S:List KeyV):DataW Unit:=Maps.setOf (.agg []) (S.map zDy)
theorem zEl (k:KeyV):WideAt.IsKeyLit (zDy k):=trivial
theorem zOq {S:List KeyV} {k:KeyV} (hS:∀ x∈S,x.wf) (hk:k.wf):Maps.has (zHa S) (zDy k)=decide (k∈S):=by
 unfold zHa
 rw [Maps.has_setOf _ _ _ (by intro x hx;obtain ⟨y,_,rfl⟩:=List.mem_map.1 hx;exact zEl y),List.any_map]
 rw [Bool.eq_iff_iff,List.any_eq_true,decide_eq_true_eq]
 constructor
 ·rintro ⟨x,hx,hs⟩
  have:=WideAt.sameKey_eq (show (zDy x).sameKey (zDy k)=true from hs)
  rw [←zLr (hS x hx) hk this];exact hx
 ·exact fun h=>⟨k,h,WideAt.sameKey_self (zEl k)⟩
structure SeekSt (gs b:Nat) (d:Bool) (mem:List ValV) (ma:Option Addr) (mc:Nat) (S:List KeyV) (W:World):Prop where
 bk:Bk W gs 143 #[.map (some b),.slice ma mem.length mc,.bool d]
 own:W.ownsMap Tryz.prog 54 (unitElem (H:=Unit)) b S.length (zHa S)
 sl:Sl W ma mem.length mem
 wf:∀ x∈S,x.Ok
section
variable {gs b:Nat} {d:Bool} {mem:List ValV} {ma:Option Addr} {mc:Nat} {S:List KeyV} {W W':World}
theorem zMy {b n:Nat} {D:DataW Unit} (h:W.ownsMap Tryz.prog 54 (unitElem (H:=Unit)) b n D) (e:W'.heap[b]?=W.heap[b]?):W'.ownsMap Tryz.prog 54 (unitElem (H:=Unit)) b n D:=by
 obtain ⟨es,c,h1,h2⟩:=h
 exact ⟨es,c,e.trans h1,h2⟩
theorem SeekSt.below (h:SeekSt gs b d mem ma mc S W) (hb:Below W.heap.size W W'):SeekSt gs b d mem ma mc S W' :=
 ⟨zH hb h.bk,zMy h.own (hb.block b h.own.lt),h.sl.below hb,h.wf⟩
theorem SeekSt.ne (h:SeekSt gs b d mem ma mc S W):gs≠b:=by
 rintro rfl
 obtain ⟨es,c,h1,_⟩:=h.own
 have:=h.bk
 unfold Bk at this
 rw [this] at h1
 cases h1
theorem SeekSt.look (h:SeekSt gs b d mem ma mc S W) {k:KeyV} (hk:k.wf) (hS:∀ x∈S,x.wf) :
  (Instr.lookup 140 (.map (some b)) k.val true).run Tryz.prog W=.ok (.tuple #[.agg #[],.bool (decide (k∈S))]) W:=by
 have hz:(zeroValue 141).run Tryz.prog W=.ok (.agg #[]) W:=by kernel_rfl
 obtain ⟨v,ps,hrun,hv⟩:=h.own.look_ok keyedK Tryz.underlying140 hz unitElem_mk (zFr hk)
 obtain ⟨rfl,_⟩:=unitElem_inv hv
 rw [hrun,zOq hS hk]
end
end
section
open Go.RowKit
open Go.Maps (Keyed)
section
variable {b g n:Nat} {W W' W'' w0:World} {T:TypeId} {cs:Array Value}
abbrev Grw (b:Nat) (W W':World):Prop:=W.grownBy W' (some b)
theorem zQ1 (h:Grw b W W') (hb:Bk W g T cs) (hn:g≠b):Bk W' g T cs:=(h.block g hb.lt (fun e=>hn (Option.some.inj e))).trans hb
end
section
variable {gs b:Nat} {d:Bool} {mem:List ValV} {ma:Option Addr} {mc:Nat} {S S':List KeyV} {W W':World}
theorem SeekSt.step (h:SeekSt gs b d mem ma mc S W) (hg:Grw b W W') (ho:W'.ownsMap Tryz.prog 54 (unitElem (H:=Unit)) b S'.length (zHa S')) (hw:∀ x∈S',x.Ok):SeekSt gs b d mem ma mc S' W':=by
 refine ⟨zQ1 hg h.bk h.ne,ho,?_,hw⟩
 rcases Nat.eq_zero_or_pos mem.length with e | hp
 ·exact ⟨h.sl.len,h.sl.max,fun hn=>absurd hn (by omega)⟩
 ·refine h.sl.grown hg fun a e hl he=>?_
  obtain ⟨a',e',_,hv,_⟩:=zEy h.sl hp
  rw [e] at e'
  injection e' with e'
  subst e'
  obtain ⟨es,c,h1,_⟩:=h.own
  injection he with he
  have:(a.add (0*7)).block=b:=by rw [zBL];exact he
  unfold World.cell? at hv
  rw [this,h1] at hv
  cases hv
theorem SeekSt.same (h:SeekSt gs b d mem ma mc S W) (hb:Below W.heap.size W W'):SeekSt gs b d mem ma mc S W':=h.below hb
end
end
section
open Go.RowKit
def zC2 (a b:KeyV):Prop:=(a.len=0∨(b.base≤a.base∧a.base+a.len≤b.base+b.len))∧zBh a.perm b.perm=true
theorem zEE (a:KeyV):zC2 a a:=⟨.inr ⟨by omega,by omega⟩,zCL _⟩
theorem zGP {a b c:KeyV} (h:zC2 a b) (k:zC2 b c) (hl:0≤a.len):zC2 a c:=by
 obtain ⟨h1,h2⟩:=h
 obtain ⟨k1,k2⟩:=k
 exact ⟨by omega,zCn h2 k2⟩
theorem zIM {k:KeyV} {n:Int} (h:(zBm k n).2=0):(zBm k n).1.Ok∧k.Ok∧k.seal_=0∧zC2 (zBm k n).1 k:=by
 rcases zEt k n with ⟨c,he,h0⟩ | ⟨he,ok,hs,h1,h2⟩
 ·rw [he] at h;exact absurd h h0
 ·rw [he]
  obtain ⟨p0,p1,b0,b1,l0,l1,a0,a1,s0,s1⟩:=ok
  refine ⟨?_,⟨p0,p1,b0,b1,l0,l1,a0,a1,s0,s1⟩,hs,.inr ⟨by simp only;omega,by simp only;omega⟩,zCL _⟩
  constructor<;>simp only<;>omega
theorem zGO {k:KeyV} {n:Int} (h:(zA6 k n).2=0):(zA6 k n).1.Ok∧k.Ok∧k.seal_=0∧zC2 (zA6 k n).1 k:=by
 rcases zD3 k n with ⟨c,he,h0⟩ | ⟨he,ok,hs,h1,h2,h3⟩
 ·rw [he] at h;exact absurd h h0
 ·rw [he]
  obtain ⟨p0,p1,b0,b1,l0,l1,a0,a1,s0,s1⟩:=ok
  refine ⟨?_,⟨p0,p1,b0,b1,l0,l1,a0,a1,s0,s1⟩,hs,.inr ⟨by simp only;omega,by simp only;omega⟩,zCL _⟩
  constructor<;>simp only<;>omega
theorem zIh {k:KeyV} {n:Int} (h:(zCF k n).2=0):(zCF k n).1.Ok∧k.Ok∧k.seal_=0∧zC2 (zCF k n).1 k:=by
 rcases zEw k n with ⟨c,he,h0⟩ | ⟨he,ok,hs⟩
 ·rw [he] at h;exact absurd h h0
 ·rw [he]
  obtain ⟨p0,p1,b0,b1,l0,l1,a0,a1,s0,s1⟩:=ok
  have hp:=zLM p0 p1 n
  refine ⟨?_,⟨p0,p1,b0,b1,l0,l1,a0,a1,s0,s1⟩,hs,.inr ⟨by simp only;omega,by simp only;omega⟩,zIi _ _⟩
  constructor<;>simp only<;>omega
theorem zMj {k c:KeyV} (h:(zBN k c).2=0):(zBN k c).1.Ok∧k.Ok∧k.seal_=0∧zC2 (zBN k c).1 k:=by
 rcases zEp k c with ⟨e,he,h0⟩ | ⟨he,ok,oc,hs,h1,h2,h3,h4,h5⟩
 ·rw [he] at h;exact absurd h h0
 ·rw [he]
  obtain ⟨p0,p1,b0,b1,l0,l1,a0,a1,s0,s1⟩:=ok
  refine ⟨?_,⟨p0,p1,b0,b1,l0,l1,a0,a1,s0,s1⟩,hs,.inr ⟨by simp only;omega,by simp only;omega⟩,zCL _⟩
  constructor<;>simp only<;>omega
theorem zM5 {k c:KeyV} (h:(zBO k c).2=0):(zBO k c).1.Ok∧k.Ok∧zC2 (zBO k c).1 k:=by
 rcases zEr k c with ⟨e,he,h0⟩ | ⟨he,ok,oc,hs,h1,h2,h3,h4⟩
 ·rw [he] at h;exact absurd h h0
 ·rw [he]
  obtain ⟨p0,p1,b0,b1,l0,l1,a0,a1,s0,s1⟩:=ok
  refine ⟨?_,⟨p0,p1,b0,b1,l0,l1,a0,a1,s0,s1⟩,.inr ⟨by simp only;omega,by simp only;omega⟩,zCL _⟩
  constructor<;>simp only<;>omega
end
end Go.Proofs.YtlpejagkadalbaaGreatDoor
