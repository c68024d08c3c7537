import Derived.Test.YtlpejagkadalbaaGreatDoorZk02
import Derived.Deep.RegionHeld3
import Derived.Shelf.SlSortCmp.WholeK
set_option maxHeartbeats 40000000
set_option maxRecDepth 100000
set_option linter.unusedVariables false
set_option linter.unusedSimpArgs false
namespace Go.Proofs.YtlpejagkadalbaaGreatDoor
open Go.RowKit
instance:Inhabited KeyV:=⟨zeroK⟩
def zBu (a b:Int):Int:=if a < b then -1 else if b < a then 1 else 0
def orL:List Int→Int
 | []=>0
 | x::l=>if x=0 then orL l else x
def zE3 (x y:KeyV):Int:=orL [zBu x.base y.base,zBu x.len y.len,zBu x.perm y.perm,zBu x.seal_ y.seal_,zBu x.at_ y.at_]
theorem zJ5 (a b:Int):(a < b∧zBu a b = -1)∨(b < a∧zBu a b=1)∨(a=b∧zBu a b=0):=by
 unfold zBu
 by_cases h:a < b
 ·rw [if_pos h];exact .inl ⟨h,rfl⟩
 ·rw [if_neg h]
  by_cases h2:b < a
  ·rw [if_pos h2];exact .inr (.inl ⟨h2,rfl⟩)
  ·rw [if_neg h2];exact .inr (.inr ⟨by omega,rfl⟩)
theorem zHf (x:Int) (l:List Int):orL (x::l)=if x=0 then orL l else x:=rfl
theorem zEG (a b:Int) (l:List Int):orL (zBu a b::l) < 0↔a < b∨(a=b∧orL l < 0):=by
 rw [zHf]
 rcases zJ5 a b with ⟨h,e⟩ | ⟨h,e⟩ | ⟨h,e⟩
 ·rw [e];simp;omega
 ·rw [e];simp;omega
 ·rw [e];simp [h]
def ltK (x y:KeyV):Prop:=x.base < y.base∨(x.base=y.base∧(x.len < y.len∨(x.len=y.len∧(x.perm < y.perm∨(x.perm=y.perm∧(x.seal_ < y.seal_∨(x.seal_=y.seal_∧x.at_ < y.at_)))))))
theorem zGR (x y:KeyV):zE3 x y < 0↔ltK x y:=by
 unfold zE3 ltK
 rw [zEG,zEG,zEG,zEG,zEG]
 have:¬(orL [] < 0):=by decide
 simp [this]
theorem zOr:Go.Sort.SWO (ltOf zE3) where
 irrefl x:=by
  unfold ltOf
  simp only [decide_eq_false_iff_not,zGR]
  unfold ltK
  omega
 trans x y z h1 h2:=by
  unfold ltOf at *
  simp only [decide_eq_true_eq,zGR] at *
  unfold ltK at *
  omega
 ntrans x y z h1 h2:=by
  unfold ltOf at *
  simp only [decide_eq_false_iff_not,zGR] at *
  unfold ltK at *
  omega
def Gr (W W':World):Prop:=∃ q os,W'=Go.Sort.grow (W.drewN q) os
theorem zCC (W:World):Gr W W:=⟨0,#[],by simp [Go.Sort.grow,World.drewN]⟩
theorem zCN {W W':World} (h:Gr W W'):Gr W W'.drew:=by
 obtain ⟨q,os,rfl⟩:=h
 exact ⟨q+1,os,by rw [Go.Sort.drew_grow];rfl⟩
theorem zDE {W W':World} (h:Gr W W') (o:Obj):Gr W (W'.alloc o):=by
 obtain ⟨q,os,rfl⟩:=h
 exact ⟨q,os++#[o],by rw [Go.Sort.alloc_eq_grow,Go.Sort.grow_grow]⟩
theorem zCO {W W':World} (h:Gr W W') {a:Addr} (ha:a.block < W.heap.size):W'.cell? a=W.cell? a:=by
 obtain ⟨q,os,rfl⟩:=h
 exact Go.Sort.cell?_grow _ _ _ ha
theorem zMa {W W' W'':World} (h:Gr W W') (k:Gr W' W''):Gr W W'':=by
 obtain ⟨q,os,rfl⟩:=h
 obtain ⟨p,us,rfl⟩:=k
 refine ⟨q+p,os++us,?_⟩
 have:(Go.Sort.grow (W.drewN q) os).drewN p=Go.Sort.grow (W.drewN (q+p)) os:=by
  show Go.Sort.grow ((W.drewN q).drewN p) os=_
  rw [World.drewN_drewN]
 rw [this,Go.Sort.grow_grow]
theorem zLE (a:Int) (w:World):Calls Tryz.prog 85 #[.int .i64 a] w fun e w'=>e=.returned (.bool false)∧w=w':=by
 go_enter Tryz.func85,Tryz.ntmps85
 go_wp2
 go_ret
 exact ⟨zDA (by simp),rfl⟩
theorem zI5 (a b:Int) (w:World):Calls Tryz.prog 63 #[.int .i64 a,.int .i64 b] w fun e w'=>e=.returned (.int .i64 (zBu a b))∧w=w':=by
 have hn:=fun a=>zLE a w
 have HN:=zA hn
 clear hn
 have hc:zBu a b=if a < b then -1 else if b < a then 1 else 0:=rfl
 by_cases h1:a < b
 ·rw [if_pos h1] at hc
  rw [hc]
  clear hc
  go_enter Tryz.func63,Tryz.ntmps63
  go_wp2_with (go_at_call 85;((with_reducible refine (HN.out _).mono ?_);rintro e w' ⟨rfl,rfl⟩))
  go_ret
  exact ⟨rfl,rfl⟩
 ·rw [if_neg h1] at hc
  by_cases h2:b < a
  ·rw [if_pos h2] at hc
   rw [hc]
   clear hc
   go_enter Tryz.func63,Tryz.ntmps63
   go_wp2_with (go_at_call 85;((with_reducible refine (HN.out _).mono ?_);rintro e w' ⟨rfl,rfl⟩))
   go_ret
   exact ⟨rfl,rfl⟩
  ·rw [if_neg h2] at hc
   rw [hc]
   clear hc
   go_enter Tryz.func63,Tryz.ntmps63
   go_wp2_with (go_at_call 85;((with_reducible refine (HN.out _).mono ?_);rintro e w' ⟨rfl,rfl⟩))
   go_ret
   exact ⟨rfl,rfl⟩
theorem zMG {xs:List Int} {k:Nat} {x:Int} (hx:xs[k]?=some x):orL (xs.drop k)=if x=0 then orL (xs.drop (k+1)) else x:=by
 obtain ⟨h,e⟩:=List.getElem?_eq_some_iff.1 hx
 rw [List.drop_eq_getElem_cons h,e,zHf]
theorem zOM (ao:Option Addr) (n c:Nat) (xs:List Int) (w:World) (hx:Sl w ao n xs) :
  Calls Tryz.prog 62 #[.slice ao n c] w fun e w'=>e=.returned (.int .i64 (orL xs))∧w=w':=by
 have hlx:=hx.len
 have hm:=hx.max
 unfold maxLen at hm
 have HLX:=zA hlx
 have HX:=zA hx
 clear hlx hx
 go_enter Tryz.func62,Tryz.ntmps62
 go_wp2
 go_loopw [8] (fun i wr=>∃ k:Nat,k≤n∧i=.int .i64 k∧orL xs=orL (xs.drop k)∧wr=w) (fun i _=>n - (intOf i).toNat)
 case atStart=>exact ⟨0,Nat.zero_le _,rfl,rfl,rfl⟩
 case round =>
  obtain ⟨k,hk,rfl,hf,rfl⟩:=hrel
  by_cases hlt:k < n
  ·have q0:(0:Int)≤k:=by omega
   have q1:(k:Int) < n:=by omega
   obtain ⟨x,hgx⟩:∃ x,xs[k]?=some x:=⟨_,List.getElem?_eq_getElem (by have:=HLX.out;omega)⟩
   obtain ⟨ad,rfl,bx,e0⟩:=zDt HX.out hlt hgx
   rw [zMG hgx] at hf
   by_cases hxz:x=0
   ·subst hxz
    rw [if_pos rfl] at hf
    have HF:=zA hf
    clear hgx hf
    go_wp2
    go_roundw
    case rel=>exact ⟨k+1,by omega,by go_num,HF.out,by first | rfl | trivial⟩
    case measure=>simp [intOf];omega
   ·rw [if_neg hxz] at hf
    have g1:(x==0)=false:=by simpa using hxz
    have g2:(x != 0)=true:=by simpa using hxz
    have HF:=zA hf
    clear hgx hf hxz
    go_wp2
    go_ret
    exact ⟨by rw [HF.out];rfl,rfl⟩
  ·obtain rfl:k=n:=by omega
   rw [List.drop_of_length_le (by rw [HLX.out];exact Nat.le_refl _)] at hf
   have HF:=zA hf
   clear hf
   go_wp2
   go_ret
   exact ⟨by rw [HF.out];rfl,rfl⟩
theorem zJr (x y:KeyV) (W:World):Calls Tryz.prog 61 #[.agg #[.int .i64 x.perm,.int .i64 x.base,.int .i64 x.len,.int .i64 x.at_,.int .i64 x.seal_],.agg #[.int .i64 y.perm,.int .i64 y.base,.int .i64 y.len,.int .i64 y.at_,.int .i64 y.seal_]] W fun e w'=>e=.returned (.int .i64 (zE3 x y))∧∃ q os',w'=Go.Sort.grow (W.drewN q) os':=by
 have hck:zE3 x y=orL [zBu x.base y.base,zBu x.len y.len,zBu x.perm y.perm,zBu x.seal_ y.seal_,zBu x.at_ y.at_]:=rfl
 generalize zE3 x y=r at hck ⊢
 obtain ⟨xp,xb,xl,xa,xs⟩:=x
 obtain ⟨yp,yb,yl,ya,ys⟩:=y
 simp only at hck ⊢
 have hc:=fun a b W=>zI5 a b W
 obtain ⟨r0,h0⟩:∃ r,zBu xb yb=r:=⟨_,rfl⟩
 obtain ⟨r1,h1⟩:∃ r,zBu xl yl=r:=⟨_,rfl⟩
 obtain ⟨r2,h2⟩:∃ r,zBu xp yp=r:=⟨_,rfl⟩
 obtain ⟨r3,h3⟩:∃ r,zBu xs ys=r:=⟨_,rfl⟩
 obtain ⟨r4,h4⟩:∃ r,zBu xa ya=r:=⟨_,rfl⟩
 simp only [h0,h1,h2,h3,h4] at hck
 have C0:=zA (fun W=>h0▸hc xb yb W)
 have C1:=zA (fun W=>h1▸hc xl yl W)
 have C2:=zA (fun W=>h2▸hc xp yp W)
 have C3:=zA (fun W=>h3▸hc xs ys W)
 have C4:=zA (fun W=>h4▸hc xa ya W)
 clear hc h0 h1 h2 h3 h4
 have HCK:=zA hck
 clear hck
 obtain ⟨w1,hw1⟩:∃ w1,w1=W.alloc (.cells #[.int .i64 xp,.int .i64 xb,.int .i64 xl,.int .i64 xa,.int .i64 xs] 54):=⟨_,rfl⟩
 obtain ⟨w2,hw2⟩:∃ w2,w2=w1.alloc (.cells #[.int .i64 yp,.int .i64 yb,.int .i64 yl,.int .i64 ya,.int .i64 ys] 54):=⟨_,rfl⟩
 have hgr:Gr W w2:=by rw [hw2,hw1];exact zDE (zDE (zCC _) _) _
 have kx:Bk w2 W.heap.size 54 #[.int .i64 xp,.int .i64 xb,.int .i64 xl,.int .i64 xa,.int .i64 xs]:=by rw [hw2];refine zN _ ?_;rw [hw1];exact zM _ _ _
 have ky:Bk w2 w1.heap.size 54 #[.int .i64 yp,.int .i64 yb,.int .i64 yl,.int .i64 ya,.int .i64 ys]:=by rw [hw2];exact zM _ _ _
 have hcx:∀ w3,Gr w2 w3→w3.cell? ⟨W.heap.size,0,none⟩=some (.int .i64 xp)∧w3.cell? ⟨W.heap.size,1,none⟩=some (.int .i64 xb)∧w3.cell? ⟨W.heap.size,2,none⟩=some (.int .i64 xl)∧w3.cell? ⟨W.heap.size,3,none⟩=some (.int .i64 xa)∧w3.cell? ⟨W.heap.size,4,none⟩=some (.int .i64 xs):=fun w3 h=>⟨(zCO h (a:=⟨W.heap.size,0,none⟩) kx.lt).trans (kx.cell 0),(zCO h (a:=⟨W.heap.size,1,none⟩) kx.lt).trans (kx.cell 1),(zCO h (a:=⟨W.heap.size,2,none⟩) kx.lt).trans (kx.cell 2),(zCO h (a:=⟨W.heap.size,3,none⟩) kx.lt).trans (kx.cell 3),(zCO h (a:=⟨W.heap.size,4,none⟩) kx.lt).trans (kx.cell 4)⟩
 have hs1:w1.heap.size=W.heap.size+1:=by rw [hw1];simp
 rw [hs1] at ky
 have hcy:∀ w3,Gr w2 w3→w3.cell? ⟨W.heap.size+1,0,none⟩=some (.int .i64 yp)∧w3.cell? ⟨W.heap.size+1,1,none⟩=some (.int .i64 yb)∧w3.cell? ⟨W.heap.size+1,2,none⟩=some (.int .i64 yl)∧w3.cell? ⟨W.heap.size+1,3,none⟩=some (.int .i64 ya)∧w3.cell? ⟨W.heap.size+1,4,none⟩=some (.int .i64 ys):=fun w3 h=>⟨(zCO h (a:=⟨W.heap.size+1,0,none⟩) ky.lt).trans (ky.cell 0),(zCO h (a:=⟨W.heap.size+1,1,none⟩) ky.lt).trans (ky.cell 1),(zCO h (a:=⟨W.heap.size+1,2,none⟩) ky.lt).trans (ky.cell 2),(zCO h (a:=⟨W.heap.size+1,3,none⟩) ky.lt).trans (ky.cell 3),(zCO h (a:=⟨W.heap.size+1,4,none⟩) ky.lt).trans (ky.cell 4)⟩
 have HX:=zA hcx
 have HY:=zA hcy
 have HGR:=zA hgr
 have HW1:=zA hw1
 have HW2:=zA hw2
 clear hcx hcy hgr hw1 hw2 kx ky hs1
 go_enter Tryz.func61,Tryz.ntmps61
 go_upto_region 1 with (fail)
 rw [←HW1.out,←HW2.out]
 refine wp_region_held_drew (S:=fun W1=>Gr w2 W1) (by kernel_rfl) (zCN (zCC _)) (fun hHeld=>?_)
 refine wpAnyH_take (i:=0) (v:=?_) rfl (by kernel_rfl) (by kernel_rfl) (by kernel_rfl) (fun _ _ _ h=>h) (Or.inl ⟨by rfl,?hyT⟩) hHeld ?restT
 case hyT=>(intro wS hSw;obtain ⟨q0,q1,q2,q3,q4⟩:=HX.out wS hSw;obtain ⟨p0,p1,p2,p3,p4⟩:=HY.out wS hSw;go_simp;try with_reducible rfl)
 case restT =>
  change wpAnyH _ _ _ _ _ _ _ (Act.mk _ _) _;try simp only [Act.put,zC,zD,zE]
  refine wpAnyH_take (i:=1) (v:=?_) rfl (by kernel_rfl) (by kernel_rfl) (by kernel_rfl) (fun _ _ _ h=>h) (Or.inl ⟨by rfl,?hyT⟩) hHeld ?restT
  case hyT=>(intro wS hSw;obtain ⟨q0,q1,q2,q3,q4⟩:=HX.out wS hSw;obtain ⟨p0,p1,p2,p3,p4⟩:=HY.out wS hSw;go_simp;try with_reducible rfl)
  case restT =>
   change wpAnyH _ _ _ _ _ _ _ (Act.mk _ _) _;try simp only [Act.put,zC,zD,zE]
   refine wpAnyH_take (i:=2) (v:=?_) rfl (by kernel_rfl) (by kernel_rfl) (by kernel_rfl) (fun _ _ _ h=>h) (Or.inl ⟨by rfl,?hyT⟩) hHeld ?restT
   case hyT=>(intro wS hSw;obtain ⟨q0,q1,q2,q3,q4⟩:=HX.out wS hSw;obtain ⟨p0,p1,p2,p3,p4⟩:=HY.out wS hSw;go_simp;try with_reducible rfl)
   case restT =>
    change wpAnyH _ _ _ _ _ _ _ (Act.mk _ _) _;try simp only [Act.put,zC,zD,zE]
    refine wpAnyH_take (i:=3) (v:=?_) rfl (by kernel_rfl) (by kernel_rfl) (by kernel_rfl) (fun _ _ _ h=>h) (Or.inl ⟨by rfl,?hyT⟩) hHeld ?restT
    case hyT=>(intro wS hSw;obtain ⟨q0,q1,q2,q3,q4⟩:=HX.out wS hSw;obtain ⟨p0,p1,p2,p3,p4⟩:=HY.out wS hSw;go_simp;try with_reducible rfl)
    case restT =>
     change wpAnyH _ _ _ _ _ _ _ (Act.mk _ _) _;try simp only [Act.put,zC,zD,zE]
     refine wpAnyH_take (i:=5) (v:=?_) rfl (by kernel_rfl) (by kernel_rfl) (by kernel_rfl) (fun _ _ _ h=>h) (Or.inl ⟨by rfl,?hyT⟩) hHeld ?restT
     case hyT=>(intro wS hSw;obtain ⟨q0,q1,q2,q3,q4⟩:=HX.out wS hSw;obtain ⟨p0,p1,p2,p3,p4⟩:=HY.out wS hSw;go_simp;try with_reducible rfl)
     case restT =>
      change wpAnyH _ _ _ _ _ _ _ (Act.mk _ _) _;try simp only [Act.put,zC,zD,zE]
      refine wpAnyH_take (i:=6) (v:=?_) rfl (by kernel_rfl) (by kernel_rfl) (by kernel_rfl) (fun _ _ _ h=>h) (Or.inl ⟨by rfl,?hyT⟩) hHeld ?restT
      case hyT=>(intro wS hSw;obtain ⟨q0,q1,q2,q3,q4⟩:=HX.out wS hSw;obtain ⟨p0,p1,p2,p3,p4⟩:=HY.out wS hSw;go_simp;try with_reducible rfl)
      case restT =>
       change wpAnyH _ _ _ _ _ _ _ (Act.mk _ _) _;try simp only [Act.put,zC,zD,zE]
       refine wpAnyH_take (i:=7) (v:=?_) rfl (by kernel_rfl) (by kernel_rfl) (by kernel_rfl) (fun _ _ _ h=>h) (Or.inl ⟨by rfl,?hyT⟩) hHeld ?restT
       case hyT=>(intro wS hSw;obtain ⟨q0,q1,q2,q3,q4⟩:=HX.out wS hSw;obtain ⟨p0,p1,p2,p3,p4⟩:=HY.out wS hSw;go_simp;try with_reducible rfl)
       case restT =>
        change wpAnyH _ _ _ _ _ _ _ (Act.mk _ _) _;try simp only [Act.put,zC,zD,zE]
        refine wpAnyH_take (i:=8) (v:=?_) rfl (by kernel_rfl) (by kernel_rfl) (by kernel_rfl) (fun _ _ _ h=>h) (Or.inl ⟨by rfl,?hyT⟩) hHeld ?restT
        case hyT=>(intro wS hSw;obtain ⟨q0,q1,q2,q3,q4⟩:=HX.out wS hSw;obtain ⟨p0,p1,p2,p3,p4⟩:=HY.out wS hSw;go_simp;try with_reducible rfl)
        case restT =>
         change wpAnyH _ _ _ _ _ _ _ (Act.mk _ _) _;try simp only [Act.put,zC,zD,zE]
         refine wpAnyH_take (i:=10) (v:=?_) rfl (by kernel_rfl) (by kernel_rfl) (by kernel_rfl) (fun _ _ _ h=>h) (Or.inl ⟨by rfl,?hyT⟩) hHeld ?restT
         case hyT=>(intro wS hSw;obtain ⟨q0,q1,q2,q3,q4⟩:=HX.out wS hSw;obtain ⟨p0,p1,p2,p3,p4⟩:=HY.out wS hSw;go_simp;try with_reducible rfl)
         case restT =>
          change wpAnyH _ _ _ _ _ _ _ (Act.mk _ _) _;try simp only [Act.put,zC,zD,zE]
          refine wpAnyH_take (i:=11) (v:=?_) rfl (by kernel_rfl) (by kernel_rfl) (by kernel_rfl) (fun _ _ _ h=>h) (Or.inl ⟨by rfl,?hyT⟩) hHeld ?restT
          case hyT=>(intro wS hSw;obtain ⟨q0,q1,q2,q3,q4⟩:=HX.out wS hSw;obtain ⟨p0,p1,p2,p3,p4⟩:=HY.out wS hSw;go_simp;try with_reducible rfl)
          case restT =>
           change wpAnyH _ _ _ _ _ _ _ (Act.mk _ _) _;try simp only [Act.put,zC,zD,zE]
           refine wpAnyH_take (i:=12) (v:=?_) rfl (by kernel_rfl) (by kernel_rfl) (by kernel_rfl) (fun _ _ _ h=>h) (Or.inl ⟨by rfl,?hyT⟩) hHeld ?restT
           case hyT=>(intro wS hSw;obtain ⟨q0,q1,q2,q3,q4⟩:=HX.out wS hSw;obtain ⟨p0,p1,p2,p3,p4⟩:=HY.out wS hSw;go_simp;try with_reducible rfl)
           case restT =>
            change wpAnyH _ _ _ _ _ _ _ (Act.mk _ _) _;try simp only [Act.put,zC,zD,zE]
            refine wpAnyH_take (i:=13) (v:=?_) rfl (by kernel_rfl) (by kernel_rfl) (by kernel_rfl) (fun _ _ _ h=>h) (Or.inl ⟨by rfl,?hyT⟩) hHeld ?restT
            case hyT=>(intro wS hSw;obtain ⟨q0,q1,q2,q3,q4⟩:=HX.out wS hSw;obtain ⟨p0,p1,p2,p3,p4⟩:=HY.out wS hSw;go_simp;try with_reducible rfl)
            case restT =>
             change wpAnyH _ _ _ _ _ _ _ (Act.mk _ _) _;try simp only [Act.put,zC,zD,zE]
             refine wpAnyH_take (i:=15) (v:=?_) rfl (by kernel_rfl) (by kernel_rfl) (by kernel_rfl) (fun _ _ _ h=>h) (Or.inl ⟨by rfl,?hyT⟩) hHeld ?restT
             case hyT=>(intro wS hSw;obtain ⟨q0,q1,q2,q3,q4⟩:=HX.out wS hSw;obtain ⟨p0,p1,p2,p3,p4⟩:=HY.out wS hSw;go_simp;try with_reducible rfl)
             case restT =>
              change wpAnyH _ _ _ _ _ _ _ (Act.mk _ _) _;try simp only [Act.put,zC,zD,zE]
              refine wpAnyH_take (i:=16) (v:=?_) rfl (by kernel_rfl) (by kernel_rfl) (by kernel_rfl) (fun _ _ _ h=>h) (Or.inl ⟨by rfl,?hyT⟩) hHeld ?restT
              case hyT=>(intro wS hSw;obtain ⟨q0,q1,q2,q3,q4⟩:=HX.out wS hSw;obtain ⟨p0,p1,p2,p3,p4⟩:=HY.out wS hSw;go_simp;try with_reducible rfl)
              case restT =>
               change wpAnyH _ _ _ _ _ _ _ (Act.mk _ _) _;try simp only [Act.put,zC,zD,zE]
               refine wpAnyH_take (i:=17) (v:=?_) rfl (by kernel_rfl) (by kernel_rfl) (by kernel_rfl) (fun _ _ _ h=>h) (Or.inl ⟨by rfl,?hyT⟩) hHeld ?restT
               case hyT=>(intro wS hSw;obtain ⟨q0,q1,q2,q3,q4⟩:=HX.out wS hSw;obtain ⟨p0,p1,p2,p3,p4⟩:=HY.out wS hSw;go_simp;try with_reducible rfl)
               case restT =>
                change wpAnyH _ _ _ _ _ _ _ (Act.mk _ _) _;try simp only [Act.put,zC,zD,zE]
                refine wpAnyH_take (i:=18) (v:=?_) rfl (by kernel_rfl) (by kernel_rfl) (by kernel_rfl) (fun _ _ _ h=>h) (Or.inl ⟨by rfl,?hyT⟩) hHeld ?restT
                case hyT=>(intro wS hSw;obtain ⟨q0,q1,q2,q3,q4⟩:=HX.out wS hSw;obtain ⟨p0,p1,p2,p3,p4⟩:=HY.out wS hSw;go_simp;try with_reducible rfl)
                case restT =>
                 change wpAnyH _ _ _ _ _ _ _ (Act.mk _ _) _;try simp only [Act.put,zC,zD,zE]
                 refine wpAnyH_take (i:=20) (v:=?_) rfl (by kernel_rfl) (by kernel_rfl) (by kernel_rfl) (fun _ _ _ h=>h) (Or.inl ⟨by rfl,?hyT⟩) hHeld ?restT
                 case hyT=>(intro wS hSw;obtain ⟨q0,q1,q2,q3,q4⟩:=HX.out wS hSw;obtain ⟨p0,p1,p2,p3,p4⟩:=HY.out wS hSw;go_simp;try with_reducible rfl)
                 case restT =>
                  change wpAnyH _ _ _ _ _ _ _ (Act.mk _ _) _;try simp only [Act.put,zC,zD,zE]
                  refine wpAnyH_take (i:=21) (v:=?_) rfl (by kernel_rfl) (by kernel_rfl) (by kernel_rfl) (fun _ _ _ h=>h) (Or.inl ⟨by rfl,?hyT⟩) hHeld ?restT
                  case hyT=>(intro wS hSw;obtain ⟨q0,q1,q2,q3,q4⟩:=HX.out wS hSw;obtain ⟨p0,p1,p2,p3,p4⟩:=HY.out wS hSw;go_simp;try with_reducible rfl)
                  case restT =>
                   change wpAnyH _ _ _ _ _ _ _ (Act.mk _ _) _;try simp only [Act.put,zC,zD,zE]
                   refine wpAnyH_take (i:=22) (v:=?_) rfl (by kernel_rfl) (by kernel_rfl) (by kernel_rfl) (fun _ _ _ h=>h) (Or.inl ⟨by rfl,?hyT⟩) hHeld ?restT
                   case hyT=>(intro wS hSw;obtain ⟨q0,q1,q2,q3,q4⟩:=HX.out wS hSw;obtain ⟨p0,p1,p2,p3,p4⟩:=HY.out wS hSw;go_simp;try with_reducible rfl)
                   case restT =>
                    change wpAnyH _ _ _ _ _ _ _ (Act.mk _ _) _;try simp only [Act.put,zC,zD,zE]
                    refine wpAnyH_take (i:=23) (v:=?_) rfl (by kernel_rfl) (by kernel_rfl) (by kernel_rfl) (fun _ _ _ h=>h) (Or.inl ⟨by rfl,?hyT⟩) hHeld ?restT
                    case hyT=>(intro wS hSw;obtain ⟨q0,q1,q2,q3,q4⟩:=HX.out wS hSw;obtain ⟨p0,p1,p2,p3,p4⟩:=HY.out wS hSw;go_simp;try with_reducible rfl)
                    case restT =>
                     change wpAnyH _ _ _ _ _ _ _ (Act.mk _ _) _;try simp only [Act.put,zC,zD,zE]
                     refine wpAnyH_ready (rs:=[4]) (by kernel_rfl) (by simp) ?_
                     refine AllReadyH.cons rfl (fun K hK=>?_) AllReadyH.nil
                     go_simp
                     go_wp2_with (go_at_call 63;((with_reducible refine (C0.out _).mono ?_);rintro e w' ⟨rfl,rfl⟩))
                     refine hK.out _ _ (zCN (zCC _)) (fun hHeld=>?_)
                     clear hK K
                     change wpAnyH _ _ _ _ _ _ _ (Act.mk _ _) _;try simp only [Act.put,zC,zD,zE]
                     refine wpAnyH_ready (rs:=[9]) (by kernel_rfl) (by simp) ?_
                     refine AllReadyH.cons rfl (fun K hK=>?_) AllReadyH.nil
                     go_simp
                     go_wp2_with (go_at_call 63;((with_reducible refine (C1.out _).mono ?_);rintro e w' ⟨rfl,rfl⟩))
                     refine hK.out _ _ (zCN (zCC _)) (fun hHeld=>?_)
                     clear hK K
                     change wpAnyH _ _ _ _ _ _ _ (Act.mk _ _) _;try simp only [Act.put,zC,zD,zE]
                     refine wpAnyH_ready (rs:=[14]) (by kernel_rfl) (by simp) ?_
                     refine AllReadyH.cons rfl (fun K hK=>?_) AllReadyH.nil
                     go_simp
                     go_wp2_with (go_at_call 63;((with_reducible refine (C2.out _).mono ?_);rintro e w' ⟨rfl,rfl⟩))
                     refine hK.out _ _ (zCN (zCC _)) (fun hHeld=>?_)
                     clear hK K
                     change wpAnyH _ _ _ _ _ _ _ (Act.mk _ _) _;try simp only [Act.put,zC,zD,zE]
                     refine wpAnyH_ready (rs:=[19]) (by kernel_rfl) (by simp) ?_
                     refine AllReadyH.cons rfl (fun K hK=>?_) AllReadyH.nil
                     go_simp
                     go_wp2_with (go_at_call 63;((with_reducible refine (C3.out _).mono ?_);rintro e w' ⟨rfl,rfl⟩))
                     refine hK.out _ _ (zCN (zCC _)) (fun hHeld=>?_)
                     clear hK K
                     change wpAnyH _ _ _ _ _ _ _ (Act.mk _ _) _;try simp only [Act.put,zC,zD,zE]
                     refine wpAnyH_ready (rs:=[24]) (by kernel_rfl) (by simp) ?_
                     refine AllReadyH.cons rfl (fun K hK=>?_) AllReadyH.nil
                     go_simp
                     go_wp2_with (go_at_call 63;((with_reducible refine (C4.out _).mono ?_);rintro e w' ⟨rfl,rfl⟩))
                     refine hK.out _ _ (zCN (zCC _)) (fun hHeld=>?_)
                     clear hK K
                     change wpAnyH _ _ _ _ _ _ _ (Act.mk _ _) _;try simp only [Act.put,zC,zD,zE]
                     refine wpAnyH_ready (rs:=[25]) (by kernel_rfl) (by simp) ?_
                     refine AllReadyH.cons rfl (fun K hK=>?_) AllReadyH.nil
                     go_simp
                     refine hK.out _ _ (zDE (zCN (zCC _)) _) (fun hHeld=>?_)
                     clear hK K
                     change wpAnyH _ _ _ _ _ _ _ (Act.mk _ _) _;try simp only [Act.put,zC,zD,zE]
                     have hsl:Sl (World.drew (w2.alloc (.cells #[.int .i64 r0,.int .i64 r1,.int .i64 r2,.int .i64 r3,.int .i64 r4] 3))) (some ⟨w2.heap.size,0,none⟩) 5 [r0,r1,r2,r3,r4]:=by
                      have h0:=zBw (xs:=[r0,r1,r2,r3,r4]) w2 3 0 (Nat.zero_le _) #[.int .i64 r0,.int .i64 r1,.int .i64 r2,.int .i64 r3,.int .i64 r4] 5 rfl (by decide) rfl
                      obtain ⟨ao,c',e,h,_⟩:=h0.sl
                      injection e with e _ _
                      subst e
                      exact h.below (zJ (Below.refl _ _))
                     have hor:=zOM _ 5 5 _ _ hsl
                     rw [←HCK.out] at hor
                     have HOR:=zA hor
                     clear hor hsl
                     refine wpAnyH_ready (rs:=[26]) (by kernel_rfl) (by simp) ?_
                     refine AllReadyH.cons rfl (fun K hK=>?_) AllReadyH.nil
                     go_simp
                     go_wp2_with (go_at_call 62;((with_reducible refine HOR.out.mono ?_);rintro e w' ⟨rfl,rfl⟩))
                     refine hK.out _ _ (zCN (zDE (zCC _) _)) (fun hHeld=>?_)
                     clear hK K
                     change wpAnyH _ _ _ _ _ _ _ (Act.mk _ _) _;try simp only [Act.put,zC,zD,zE]
                     refine wpAnyH_ready (rs:=[27]) (by kernel_rfl) (by simp) ?_
                     refine AllReadyH.cons rfl (fun K hK=>?_) AllReadyH.nil
                     go_simp
                     refine hK.out _ _ (zCN (zDE (zCC _) _)) (fun hHeld=>?_)
                     clear hK K
                     change wpAnyH _ _ _ _ _ _ _ (Act.mk _ _) _;try simp only [Act.put,zC,zD,zE]
                     refine wpAnyH_done (by kernel_rfl) ?_ _
                     go_wp2
                     go_ret
                     exact ⟨rfl,zMa HGR.out (zCN (zDE (zCC _) _))⟩
end Go.Proofs.YtlpejagkadalbaaGreatDoor
