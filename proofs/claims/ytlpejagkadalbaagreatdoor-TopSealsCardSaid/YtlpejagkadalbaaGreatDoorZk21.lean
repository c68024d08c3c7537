import Derived.Test.YtlpejagkadalbaaGreatDoorZk20
set_option maxHeartbeats 40000000
set_option maxRecDepth 100000
set_option linter.unusedVariables false
set_option linter.unusedSimpArgs false
namespace Go.Proofs.YtlpejagkadalbaaGreatDoor
open Go.RowKit
theorem zAB {w:World} {g b:Nat} {T:TypeId} {cs:Array Value} {u0 u1 u2 u3 u4:Value} (hp:g≠b) (h:Bk w g T cs) :
  Bk (((((w.setCell ⟨b,0,none⟩ u0).setCell ⟨b,1,none⟩ u1).setCell ⟨b,2,none⟩ u2).setCell ⟨b,3,none⟩ u3).setCell ⟨b,4,none⟩ u4) g T cs:=zU _ hp (zU _ hp (zU _ hp (zU _ hp (zU _ hp h))))
theorem zAA {w:World} {g:Nat} {T:TypeId} {u0 u1 u2 u3 u4:Value} (h:Bk w g T #[.int .i64 0,.int .i64 0,.int .i64 0,.int .i64 0,.int .i64 0]) :
  Bk (((((w.setCell ⟨g,0,none⟩ u0).setCell ⟨g,1,none⟩ u1).setCell ⟨g,2,none⟩ u2).setCell ⟨g,3,none⟩ u3).setCell ⟨g,4,none⟩ u4) g T #[u0,u1,u2,u3,u4]:=zT (zT (zT (zT (zT h rfl) rfl) rfl) rfl) rfl
theorem zLb {base:Nat} {W:World} {gs gm:Nat} {i:InstV} {m:MV} {vm vs vo:Value} (hs:Bk W gs 190 (zS gm i)) (hm:MS base gm vm vs vo m W) (a b:Nat) (ha:i.a=a) (hb:i.b=b) (a8:a < 8) (b8:b < 8) (h1:(m.reg a).is=false) :
  Calls Tryz.prog 111 #[.pointer (some ⟨gs,0,none⟩)] W (Thrown 10 W):=by
 have sL:=hs.lt
 have HS:=zA (fun (W1:World) (h:Below W.heap.size W W1)=>(show W1.cell? ⟨gs,0,none⟩=some (.pointer (some ⟨gm,0,none⟩))∧W1.cell? ⟨gs,2,none⟩=some (.int .i64 a)∧W1.cell? ⟨gs,3,none⟩=some (.int .i64 b) from ⟨(zH h hs).cell 0,((zH h hs).cell 2).trans (by rw [←ha];rfl),((zH h hs).cell 3).trans (by rw [←hb];rfl)⟩))
 have KA:=zA (fun (W1:World) (h:Below W.heap.size W W1)=>zDn (zH h hs) (zH h hm.mB) hm.h8 a a8 h1)
 clear hs hm
 go_enter Tryz.func111,Tryz.ntmps111
 go_upto_region 0 with (fail)
 refine wp_region_held_drew (S:=fun W1=>W1.cell? ⟨gs,0,none⟩=some (.pointer (some ⟨gm,0,none⟩))∧W1.cell? ⟨gs,2,none⟩=some (.int .i64 a)∧W1.cell? ⟨gs,3,none⟩=some (.int .i64 b)) (by kernel_rfl) (HS.out _ (zJ (Below.refl _ _))) (fun hHeld=>?_)
 refine wpAnyH_take (i:=0) (v:=?_) rfl (by kernel_rfl) (by kernel_rfl) (by kernel_rfl) (fun _ _ _ h=>h) (Or.inl ⟨by rfl,?hyT⟩) hHeld ?restT
 case hyT=>(intro w hSw;obtain ⟨r0,r1,r2⟩:=hSw;go_simp;try with_reducible rfl)
 case restT =>
  try simp only [Act.put,zC,zD,zE]
  refine wpAnyH_take (i:=1) (v:=?_) rfl (by kernel_rfl) (by kernel_rfl) (by kernel_rfl) (fun _ _ _ h=>h) (Or.inl ⟨by rfl,?hyT⟩) hHeld ?restT
  case hyT=>(intro w hSw;obtain ⟨r0,r1,r2⟩:=hSw;go_simp;try with_reducible rfl)
  case restT =>
   try simp only [Act.put,zC,zD,zE]
   refine wpAnyH_take (i:=2) (v:=?_) rfl (by kernel_rfl) (by kernel_rfl) (by kernel_rfl) (fun _ _ _ h=>h) (Or.inl ⟨by rfl,?hyT⟩) hHeld ?restT
   case hyT=>(intro w hSw;obtain ⟨r0,r1,r2⟩:=hSw;go_simp;try with_reducible rfl)
   case restT =>
    try simp only [Act.put,zC,zD,zE]
    refine wpAnyH_take (i:=3) (v:=?_) rfl (by kernel_rfl) (by kernel_rfl) (by kernel_rfl) (fun _ _ _ h=>h) (Or.inl ⟨by rfl,?hyT⟩) hHeld ?restT
    case hyT=>(intro w hSw;obtain ⟨r0,r1,r2⟩:=hSw;go_simp;try with_reducible rfl)
    case restT =>
     try simp only [Act.put,zC,zD,zE]
     refine wpAnyH_take (i:=4) (v:=?_) rfl (by kernel_rfl) (by kernel_rfl) (by kernel_rfl) (fun _ _ _ h=>h) (Or.inl ⟨by rfl,?hyT⟩) hHeld ?restT
     case hyT=>(intro w hSw;obtain ⟨r0,r1,r2⟩:=hSw;go_simp;try with_reducible rfl)
     case restT =>
      try simp only [Act.put,zC,zD,zE]
      refine wpAnyH_take (i:=5) (v:=?_) rfl (by kernel_rfl) (by kernel_rfl) (by kernel_rfl) (fun _ _ _ h=>h) (Or.inl ⟨by rfl,?hyT⟩) hHeld ?restT
      case hyT=>(intro w hSw;obtain ⟨r0,r1,r2⟩:=hSw;go_simp;try with_reducible rfl)
      case restT =>
       try simp only [Act.put,zC,zD,zE]
       refine wpAnyH_take (i:=7) (v:=?_) rfl (by kernel_rfl) (by kernel_rfl) (by kernel_rfl) (fun _ _ _ h=>h) (Or.inl ⟨by rfl,?hyT⟩) hHeld ?restT
       case hyT=>(intro w hSw;obtain ⟨r0,r1,r2⟩:=hSw;go_simp;try with_reducible rfl)
       case restT =>
        try simp only [Act.put,zC,zD,zE]
        refine wpAnyH_take (i:=8) (v:=?_) rfl (by kernel_rfl) (by kernel_rfl) (by kernel_rfl) (fun _ _ _ h=>h) (Or.inl ⟨by rfl,?hyT⟩) hHeld ?restT
        case hyT=>(intro w hSw;obtain ⟨r0,r1,r2⟩:=hSw;go_simp;try with_reducible rfl)
        case restT =>
         try simp only [Act.put,zC,zD,zE]
         refine wpAnyH_take (i:=9) (v:=?_) rfl (by kernel_rfl) (by kernel_rfl) (by kernel_rfl) (fun _ _ _ h=>h) (Or.inl ⟨by rfl,?hyT⟩) hHeld ?restT
         case hyT=>(intro w hSw;obtain ⟨r0,r1,r2⟩:=hSw;go_simp;try with_reducible rfl)
         case restT =>
          try simp only [Act.put,zC,zD,zE]
          refine wpAnyH_take (i:=10) (v:=?_) rfl (by kernel_rfl) (by kernel_rfl) (by kernel_rfl) (fun _ _ _ h=>h) (Or.inl ⟨by rfl,?hyT⟩) hHeld ?restT
          case hyT=>(intro w hSw;obtain ⟨r0,r1,r2⟩:=hSw;go_simp;try with_reducible rfl)
          case restT =>
           try simp only [Act.put,zC,zD,zE]
           refine wpAnyH_take (i:=11) (v:=?_) rfl (by kernel_rfl) (by kernel_rfl) (by kernel_rfl) (fun _ _ _ h=>h) (Or.inl ⟨by rfl,?hyT⟩) hHeld ?restT
           case hyT=>(intro w hSw;obtain ⟨r0,r1,r2⟩:=hSw;go_simp;try with_reducible rfl)
           case restT =>
            try simp only [Act.put,zC,zD,zE]
            refine wpAnyH_take (i:=12) (v:=?_) rfl (by kernel_rfl) (by kernel_rfl) (by kernel_rfl) (fun _ _ _ h=>h) (Or.inl ⟨by rfl,?hyT⟩) hHeld ?restT
            case hyT=>(intro w hSw;obtain ⟨r0,r1,r2⟩:=hSw;go_simp;try with_reducible rfl)
            case restT =>
             try simp only [Act.put,zC,zD,zE]
             refine wpAnyH_ready (rs:=[6,14,15]) (by kernel_rfl) (by simp) ?_
             refine AllReadyH.cons rfl (fun K hK=>?_) (AllReadyH.cons rfl (fun K hK=>?_) (AllReadyH.cons rfl (fun K hK=>?_) AllReadyH.nil))
             ·go_simp
              go_wp2_with (go_at_call 138;((with_reducible refine (KA.out _ (by repeat (first | with_reducible exact Below.refl _ _ | with_reducible refine zG ?_ _ | with_reducible refine zJ ?_ | with_reducible refine zK ?_ (by first | omega | (simp;done) | (simp;omega)) _))).mono ?_);rintro e w' ⟨rfl,hbT⟩))
              exact ⟨rfl,Thrown.of (show Below W.heap.size W w' from zI (by repeat (first | with_reducible exact Below.refl _ _ | with_reducible refine zG ?_ _ | with_reducible refine zJ ?_ | with_reducible refine zK ?_ (by first | omega | (simp;done) | (simp;omega)) _)) hbT)⟩
             ·go_simp
              refine hK.out _ _ (HS.out _ (by repeat (first | with_reducible exact Below.refl _ _ | with_reducible refine zG ?_ _ | with_reducible refine zJ ?_ | with_reducible refine zK ?_ (by first | omega | (simp;done) | (simp;omega)) _))) (fun hHeld=>?_)
              clear hK K
              try simp only [Act.put,zC,zD,zE]
              refine wpAnyH_ready (rs:=[6,15]) (by kernel_rfl) (by simp) ?_
              refine AllReadyH.cons rfl (fun K hK=>?_) (AllReadyH.cons rfl (fun K hK=>?_) AllReadyH.nil)
              ·go_simp
               go_wp2_with (go_at_call 138;((with_reducible refine (KA.out _ (by repeat (first | with_reducible exact Below.refl _ _ | with_reducible refine zG ?_ _ | with_reducible refine zJ ?_ | with_reducible refine zK ?_ (by first | omega | (simp;done) | (simp;omega)) _))).mono ?_);rintro e w' ⟨rfl,hbT⟩))
               exact ⟨rfl,Thrown.of (show Below W.heap.size W w' from zI (by repeat (first | with_reducible exact Below.refl _ _ | with_reducible refine zG ?_ _ | with_reducible refine zJ ?_ | with_reducible refine zK ?_ (by first | omega | (simp;done) | (simp;omega)) _)) hbT)⟩
              ·go_simp
               refine hK.out _ _ (HS.out _ (by repeat (first | with_reducible exact Below.refl _ _ | with_reducible refine zG ?_ _ | with_reducible refine zJ ?_ | with_reducible refine zK ?_ (by first | omega | (simp;done) | (simp;omega)) _))) (fun hHeld=>?_)
               clear hK K
               try simp only [Act.put,zC,zD,zE]
               refine wpAnyH_ready (rs:=[6]) (by kernel_rfl) (by simp) ?_
               refine AllReadyH.cons rfl (fun K hK=>?_) AllReadyH.nil
               ·go_simp
                go_wp2_with (go_at_call 138;((with_reducible refine (KA.out _ (by repeat (first | with_reducible exact Below.refl _ _ | with_reducible refine zG ?_ _ | with_reducible refine zJ ?_ | with_reducible refine zK ?_ (by first | omega | (simp;done) | (simp;omega)) _))).mono ?_);rintro e w' ⟨rfl,hbT⟩))
                exact ⟨rfl,Thrown.of (show Below W.heap.size W w' from zI (by repeat (first | with_reducible exact Below.refl _ _ | with_reducible refine zG ?_ _ | with_reducible refine zJ ?_ | with_reducible refine zK ?_ (by first | omega | (simp;done) | (simp;omega)) _)) hbT)⟩
             ·go_simp
              refine hK.out _ _ (HS.out _ (by repeat (first | with_reducible exact Below.refl _ _ | with_reducible refine zG ?_ _ | with_reducible refine zJ ?_ | with_reducible refine zK ?_ (by first | omega | (simp;done) | (simp;omega)) _))) (fun hHeld=>?_)
              clear hK K
              try simp only [Act.put,zC,zD,zE]
              refine wpAnyH_ready (rs:=[6,14]) (by kernel_rfl) (by simp) ?_
              refine AllReadyH.cons rfl (fun K hK=>?_) (AllReadyH.cons rfl (fun K hK=>?_) AllReadyH.nil)
              ·go_simp
               go_wp2_with (go_at_call 138;((with_reducible refine (KA.out _ (by repeat (first | with_reducible exact Below.refl _ _ | with_reducible refine zG ?_ _ | with_reducible refine zJ ?_ | with_reducible refine zK ?_ (by first | omega | (simp;done) | (simp;omega)) _))).mono ?_);rintro e w' ⟨rfl,hbT⟩))
               exact ⟨rfl,Thrown.of (show Below W.heap.size W w' from zI (by repeat (first | with_reducible exact Below.refl _ _ | with_reducible refine zG ?_ _ | with_reducible refine zJ ?_ | with_reducible refine zK ?_ (by first | omega | (simp;done) | (simp;omega)) _)) hbT)⟩
              ·go_simp
               refine hK.out _ _ (HS.out _ (by repeat (first | with_reducible exact Below.refl _ _ | with_reducible refine zG ?_ _ | with_reducible refine zJ ?_ | with_reducible refine zK ?_ (by first | omega | (simp;done) | (simp;omega)) _))) (fun hHeld=>?_)
               clear hK K
               try simp only [Act.put,zC,zD,zE]
               refine wpAnyH_ready (rs:=[6]) (by kernel_rfl) (by simp) ?_
               refine AllReadyH.cons rfl (fun K hK=>?_) AllReadyH.nil
               ·go_simp
                go_wp2_with (go_at_call 138;((with_reducible refine (KA.out _ (by repeat (first | with_reducible exact Below.refl _ _ | with_reducible refine zG ?_ _ | with_reducible refine zJ ?_ | with_reducible refine zK ?_ (by first | omega | (simp;done) | (simp;omega)) _))).mono ?_);rintro e w' ⟨rfl,hbT⟩))
                exact ⟨rfl,Thrown.of (show Below W.heap.size W w' from zI (by repeat (first | with_reducible exact Below.refl _ _ | with_reducible refine zG ?_ _ | with_reducible refine zJ ?_ | with_reducible refine zK ?_ (by first | omega | (simp;done) | (simp;omega)) _)) hbT)⟩
theorem zLa {base:Nat} {W:World} {gs gm:Nat} {i:InstV} {m:MV} {vm vs vo:Value} (hs:Bk W gs 190 (zS gm i)) (hm:MS base gm vm vs vo m W) (a b:Nat) (ha:i.a=a) (hb:i.b=b) (a8:a < 8) (b8:b < 8) (h1:(m.reg a).is=true) (h2:(m.reg b).is=false) :
  Calls Tryz.prog 111 #[.pointer (some ⟨gs,0,none⟩)] W (Thrown 10 W):=by
 have sL:=hs.lt
 have HS:=zA (fun (W1:World) (h:Below W.heap.size W W1)=>(show W1.cell? ⟨gs,0,none⟩=some (.pointer (some ⟨gm,0,none⟩))∧W1.cell? ⟨gs,2,none⟩=some (.int .i64 a)∧W1.cell? ⟨gs,3,none⟩=some (.int .i64 b) from ⟨(zH h hs).cell 0,((zH h hs).cell 2).trans (by rw [←ha];rfl),((zH h hs).cell 3).trans (by rw [←hb];rfl)⟩))
 have KA:=zA (fun (W1:World) (h:Below W.heap.size W W1)=>zAV (zH h hs) (zH h hm.mB) hm.h8 a a8 h1)
 have KB:=zA (fun (W1:World) (h:Below W.heap.size W W1)=>zDn (zH h hs) (zH h hm.mB) hm.h8 b b8 h2)
 clear hs hm
 go_enter Tryz.func111,Tryz.ntmps111
 go_upto_region 0 with (fail)
 refine wp_region_held_drew (S:=fun W1=>W1.cell? ⟨gs,0,none⟩=some (.pointer (some ⟨gm,0,none⟩))∧W1.cell? ⟨gs,2,none⟩=some (.int .i64 a)∧W1.cell? ⟨gs,3,none⟩=some (.int .i64 b)) (by kernel_rfl) (HS.out _ (zJ (Below.refl _ _))) (fun hHeld=>?_)
 refine wpAnyH_take (i:=0) (v:=?_) rfl (by kernel_rfl) (by kernel_rfl) (by kernel_rfl) (fun _ _ _ h=>h) (Or.inl ⟨by rfl,?hyT⟩) hHeld ?restT
 case hyT=>(intro w hSw;obtain ⟨r0,r1,r2⟩:=hSw;go_simp;try with_reducible rfl)
 case restT =>
  try simp only [Act.put,zC,zD,zE]
  refine wpAnyH_take (i:=1) (v:=?_) rfl (by kernel_rfl) (by kernel_rfl) (by kernel_rfl) (fun _ _ _ h=>h) (Or.inl ⟨by rfl,?hyT⟩) hHeld ?restT
  case hyT=>(intro w hSw;obtain ⟨r0,r1,r2⟩:=hSw;go_simp;try with_reducible rfl)
  case restT =>
   try simp only [Act.put,zC,zD,zE]
   refine wpAnyH_take (i:=2) (v:=?_) rfl (by kernel_rfl) (by kernel_rfl) (by kernel_rfl) (fun _ _ _ h=>h) (Or.inl ⟨by rfl,?hyT⟩) hHeld ?restT
   case hyT=>(intro w hSw;obtain ⟨r0,r1,r2⟩:=hSw;go_simp;try with_reducible rfl)
   case restT =>
    try simp only [Act.put,zC,zD,zE]
    refine wpAnyH_take (i:=3) (v:=?_) rfl (by kernel_rfl) (by kernel_rfl) (by kernel_rfl) (fun _ _ _ h=>h) (Or.inl ⟨by rfl,?hyT⟩) hHeld ?restT
    case hyT=>(intro w hSw;obtain ⟨r0,r1,r2⟩:=hSw;go_simp;try with_reducible rfl)
    case restT =>
     try simp only [Act.put,zC,zD,zE]
     refine wpAnyH_take (i:=4) (v:=?_) rfl (by kernel_rfl) (by kernel_rfl) (by kernel_rfl) (fun _ _ _ h=>h) (Or.inl ⟨by rfl,?hyT⟩) hHeld ?restT
     case hyT=>(intro w hSw;obtain ⟨r0,r1,r2⟩:=hSw;go_simp;try with_reducible rfl)
     case restT =>
      try simp only [Act.put,zC,zD,zE]
      refine wpAnyH_take (i:=5) (v:=?_) rfl (by kernel_rfl) (by kernel_rfl) (by kernel_rfl) (fun _ _ _ h=>h) (Or.inl ⟨by rfl,?hyT⟩) hHeld ?restT
      case hyT=>(intro w hSw;obtain ⟨r0,r1,r2⟩:=hSw;go_simp;try with_reducible rfl)
      case restT =>
       try simp only [Act.put,zC,zD,zE]
       refine wpAnyH_take (i:=7) (v:=?_) rfl (by kernel_rfl) (by kernel_rfl) (by kernel_rfl) (fun _ _ _ h=>h) (Or.inl ⟨by rfl,?hyT⟩) hHeld ?restT
       case hyT=>(intro w hSw;obtain ⟨r0,r1,r2⟩:=hSw;go_simp;try with_reducible rfl)
       case restT =>
        try simp only [Act.put,zC,zD,zE]
        refine wpAnyH_take (i:=8) (v:=?_) rfl (by kernel_rfl) (by kernel_rfl) (by kernel_rfl) (fun _ _ _ h=>h) (Or.inl ⟨by rfl,?hyT⟩) hHeld ?restT
        case hyT=>(intro w hSw;obtain ⟨r0,r1,r2⟩:=hSw;go_simp;try with_reducible rfl)
        case restT =>
         try simp only [Act.put,zC,zD,zE]
         refine wpAnyH_take (i:=9) (v:=?_) rfl (by kernel_rfl) (by kernel_rfl) (by kernel_rfl) (fun _ _ _ h=>h) (Or.inl ⟨by rfl,?hyT⟩) hHeld ?restT
         case hyT=>(intro w hSw;obtain ⟨r0,r1,r2⟩:=hSw;go_simp;try with_reducible rfl)
         case restT =>
          try simp only [Act.put,zC,zD,zE]
          refine wpAnyH_take (i:=10) (v:=?_) rfl (by kernel_rfl) (by kernel_rfl) (by kernel_rfl) (fun _ _ _ h=>h) (Or.inl ⟨by rfl,?hyT⟩) hHeld ?restT
          case hyT=>(intro w hSw;obtain ⟨r0,r1,r2⟩:=hSw;go_simp;try with_reducible rfl)
          case restT =>
           try simp only [Act.put,zC,zD,zE]
           refine wpAnyH_take (i:=11) (v:=?_) rfl (by kernel_rfl) (by kernel_rfl) (by kernel_rfl) (fun _ _ _ h=>h) (Or.inl ⟨by rfl,?hyT⟩) hHeld ?restT
           case hyT=>(intro w hSw;obtain ⟨r0,r1,r2⟩:=hSw;go_simp;try with_reducible rfl)
           case restT =>
            try simp only [Act.put,zC,zD,zE]
            refine wpAnyH_take (i:=12) (v:=?_) rfl (by kernel_rfl) (by kernel_rfl) (by kernel_rfl) (fun _ _ _ h=>h) (Or.inl ⟨by rfl,?hyT⟩) hHeld ?restT
            case hyT=>(intro w hSw;obtain ⟨r0,r1,r2⟩:=hSw;go_simp;try with_reducible rfl)
            case restT =>
             try simp only [Act.put,zC,zD,zE]
             refine wpAnyH_ready (rs:=[6,14,15]) (by kernel_rfl) (by simp) ?_
             refine AllReadyH.cons rfl (fun K hK=>?_) (AllReadyH.cons rfl (fun K hK=>?_) (AllReadyH.cons rfl (fun K hK=>?_) AllReadyH.nil))
             ·go_simp
              go_wp2_with (go_at_call 138;((with_reducible refine (KA.out _ (by repeat (first | with_reducible exact Below.refl _ _ | with_reducible refine zG ?_ _ | with_reducible refine zJ ?_ | with_reducible refine zK ?_ (by first | omega | (simp;done) | (simp;omega)) _))).mono ?_);rintro e w2 ⟨rfl,hbT⟩;have HB2:=zA (show Below W.heap.size W w2 from zI (by repeat (first | with_reducible exact Below.refl _ _ | with_reducible refine zG ?_ _ | with_reducible refine zJ ?_ | with_reducible refine zK ?_ (by first | omega | (simp;done) | (simp;omega)) _)) hbT);have sw2:=HB2.out.size;clear hbT))
              refine hK.out _ _ (HS.out _ HB2.out) (fun hHeld=>?_)
              clear hK K
              try simp only [Act.put,zC,zD,zE]
              refine wpAnyH_ready (rs:=[13,14,15]) (by kernel_rfl) (by simp) ?_
              refine AllReadyH.cons rfl (fun K hK=>?_) (AllReadyH.cons rfl (fun K hK=>?_) (AllReadyH.cons rfl (fun K hK=>?_) AllReadyH.nil))
              ·go_simp
               go_wp2_with (go_at_call 138;((with_reducible refine (KB.out _ (by repeat (first | with_reducible exact HB2.out | with_reducible refine zG ?_ _ | with_reducible refine zJ ?_ | with_reducible refine zK ?_ (by first | omega | (simp;done) | (simp;omega)) _))).mono ?_);rintro e w' ⟨rfl,hbT⟩))
               exact ⟨rfl,Thrown.of (show Below W.heap.size W w' from zI (by repeat (first | with_reducible exact HB2.out | with_reducible refine zG ?_ _ | with_reducible refine zJ ?_ | with_reducible refine zK ?_ (by first | omega | (simp;done) | (simp;omega)) _)) hbT)⟩
              ·go_simp
               refine hK.out _ _ (HS.out _ (by repeat (first | with_reducible exact HB2.out | with_reducible refine zG ?_ _ | with_reducible refine zJ ?_ | with_reducible refine zK ?_ (by first | omega | (simp;done) | (simp;omega)) _))) (fun hHeld=>?_)
               clear hK K
               try simp only [Act.put,zC,zD,zE]
               refine wpAnyH_ready (rs:=[13,15]) (by kernel_rfl) (by simp) ?_
               refine AllReadyH.cons rfl (fun K hK=>?_) (AllReadyH.cons rfl (fun K hK=>?_) AllReadyH.nil)
               ·go_simp
                go_wp2_with (go_at_call 138;((with_reducible refine (KB.out _ (by repeat (first | with_reducible exact HB2.out | with_reducible refine zG ?_ _ | with_reducible refine zJ ?_ | with_reducible refine zK ?_ (by first | omega | (simp;done) | (simp;omega)) _))).mono ?_);rintro e w' ⟨rfl,hbT⟩))
                exact ⟨rfl,Thrown.of (show Below W.heap.size W w' from zI (by repeat (first | with_reducible exact HB2.out | with_reducible refine zG ?_ _ | with_reducible refine zJ ?_ | with_reducible refine zK ?_ (by first | omega | (simp;done) | (simp;omega)) _)) hbT)⟩
               ·go_simp
                refine hK.out _ _ (HS.out _ (by repeat (first | with_reducible exact HB2.out | with_reducible refine zG ?_ _ | with_reducible refine zJ ?_ | with_reducible refine zK ?_ (by first | omega | (simp;done) | (simp;omega)) _))) (fun hHeld=>?_)
                clear hK K
                try simp only [Act.put,zC,zD,zE]
                refine wpAnyH_ready (rs:=[13]) (by kernel_rfl) (by simp) ?_
                refine AllReadyH.cons rfl (fun K hK=>?_) AllReadyH.nil
                ·go_simp
                 go_wp2_with (go_at_call 138;((with_reducible refine (KB.out _ (by repeat (first | with_reducible exact HB2.out | with_reducible refine zG ?_ _ | with_reducible refine zJ ?_ | with_reducible refine zK ?_ (by first | omega | (simp;done) | (simp;omega)) _))).mono ?_);rintro e w' ⟨rfl,hbT⟩))
                 exact ⟨rfl,Thrown.of (show Below W.heap.size W w' from zI (by repeat (first | with_reducible exact HB2.out | with_reducible refine zG ?_ _ | with_reducible refine zJ ?_ | with_reducible refine zK ?_ (by first | omega | (simp;done) | (simp;omega)) _)) hbT)⟩
              ·go_simp
               refine hK.out _ _ (HS.out _ (by repeat (first | with_reducible exact HB2.out | with_reducible refine zG ?_ _ | with_reducible refine zJ ?_ | with_reducible refine zK ?_ (by first | omega | (simp;done) | (simp;omega)) _))) (fun hHeld=>?_)
               clear hK K
               try simp only [Act.put,zC,zD,zE]
               refine wpAnyH_ready (rs:=[13,14]) (by kernel_rfl) (by simp) ?_
               refine AllReadyH.cons rfl (fun K hK=>?_) (AllReadyH.cons rfl (fun K hK=>?_) AllReadyH.nil)
               ·go_simp
                go_wp2_with (go_at_call 138;((with_reducible refine (KB.out _ (by repeat (first | with_reducible exact HB2.out | with_reducible refine zG ?_ _ | with_reducible refine zJ ?_ | with_reducible refine zK ?_ (by first | omega | (simp;done) | (simp;omega)) _))).mono ?_);rintro e w' ⟨rfl,hbT⟩))
                exact ⟨rfl,Thrown.of (show Below W.heap.size W w' from zI (by repeat (first | with_reducible exact HB2.out | with_reducible refine zG ?_ _ | with_reducible refine zJ ?_ | with_reducible refine zK ?_ (by first | omega | (simp;done) | (simp;omega)) _)) hbT)⟩
               ·go_simp
                refine hK.out _ _ (HS.out _ (by repeat (first | with_reducible exact HB2.out | with_reducible refine zG ?_ _ | with_reducible refine zJ ?_ | with_reducible refine zK ?_ (by first | omega | (simp;done) | (simp;omega)) _))) (fun hHeld=>?_)
                clear hK K
                try simp only [Act.put,zC,zD,zE]
                refine wpAnyH_ready (rs:=[13]) (by kernel_rfl) (by simp) ?_
                refine AllReadyH.cons rfl (fun K hK=>?_) AllReadyH.nil
                ·go_simp
                 go_wp2_with (go_at_call 138;((with_reducible refine (KB.out _ (by repeat (first | with_reducible exact HB2.out | with_reducible refine zG ?_ _ | with_reducible refine zJ ?_ | with_reducible refine zK ?_ (by first | omega | (simp;done) | (simp;omega)) _))).mono ?_);rintro e w' ⟨rfl,hbT⟩))
                 exact ⟨rfl,Thrown.of (show Below W.heap.size W w' from zI (by repeat (first | with_reducible exact HB2.out | with_reducible refine zG ?_ _ | with_reducible refine zJ ?_ | with_reducible refine zK ?_ (by first | omega | (simp;done) | (simp;omega)) _)) hbT)⟩
             ·go_simp
              refine hK.out _ _ (HS.out _ (by repeat (first | with_reducible exact Below.refl _ _ | with_reducible refine zG ?_ _ | with_reducible refine zJ ?_ | with_reducible refine zK ?_ (by first | omega | (simp;done) | (simp;omega)) _))) (fun hHeld=>?_)
              clear hK K
              try simp only [Act.put,zC,zD,zE]
              refine wpAnyH_ready (rs:=[6,15]) (by kernel_rfl) (by simp) ?_
              refine AllReadyH.cons rfl (fun K hK=>?_) (AllReadyH.cons rfl (fun K hK=>?_) AllReadyH.nil)
              ·go_simp
               go_wp2_with (go_at_call 138;((with_reducible refine (KA.out _ (by repeat (first | with_reducible exact Below.refl _ _ | with_reducible refine zG ?_ _ | with_reducible refine zJ ?_ | with_reducible refine zK ?_ (by first | omega | (simp;done) | (simp;omega)) _))).mono ?_);rintro e w2 ⟨rfl,hbT⟩;have HB2:=zA (show Below W.heap.size W w2 from zI (by repeat (first | with_reducible exact Below.refl _ _ | with_reducible refine zG ?_ _ | with_reducible refine zJ ?_ | with_reducible refine zK ?_ (by first | omega | (simp;done) | (simp;omega)) _)) hbT);have sw2:=HB2.out.size;clear hbT))
               refine hK.out _ _ (HS.out _ HB2.out) (fun hHeld=>?_)
               clear hK K
               try simp only [Act.put,zC,zD,zE]
               refine wpAnyH_ready (rs:=[13,15]) (by kernel_rfl) (by simp) ?_
               refine AllReadyH.cons rfl (fun K hK=>?_) (AllReadyH.cons rfl (fun K hK=>?_) AllReadyH.nil)
               ·go_simp
                go_wp2_with (go_at_call 138;((with_reducible refine (KB.out _ (by repeat (first | with_reducible exact HB2.out | with_reducible refine zG ?_ _ | with_reducible refine zJ ?_ | with_reducible refine zK ?_ (by first | omega | (simp;done) | (simp;omega)) _))).mono ?_);rintro e w' ⟨rfl,hbT⟩))
                exact ⟨rfl,Thrown.of (show Below W.heap.size W w' from zI (by repeat (first | with_reducible exact HB2.out | with_reducible refine zG ?_ _ | with_reducible refine zJ ?_ | with_reducible refine zK ?_ (by first | omega | (simp;done) | (simp;omega)) _)) hbT)⟩
               ·go_simp
                refine hK.out _ _ (HS.out _ (by repeat (first | with_reducible exact HB2.out | with_reducible refine zG ?_ _ | with_reducible refine zJ ?_ | with_reducible refine zK ?_ (by first | omega | (simp;done) | (simp;omega)) _))) (fun hHeld=>?_)
                clear hK K
                try simp only [Act.put,zC,zD,zE]
                refine wpAnyH_ready (rs:=[13]) (by kernel_rfl) (by simp) ?_
                refine AllReadyH.cons rfl (fun K hK=>?_) AllReadyH.nil
                ·go_simp
                 go_wp2_with (go_at_call 138;((with_reducible refine (KB.out _ (by repeat (first | with_reducible exact HB2.out | with_reducible refine zG ?_ _ | with_reducible refine zJ ?_ | with_reducible refine zK ?_ (by first | omega | (simp;done) | (simp;omega)) _))).mono ?_);rintro e w' ⟨rfl,hbT⟩))
                 exact ⟨rfl,Thrown.of (show Below W.heap.size W w' from zI (by repeat (first | with_reducible exact HB2.out | with_reducible refine zG ?_ _ | with_reducible refine zJ ?_ | with_reducible refine zK ?_ (by first | omega | (simp;done) | (simp;omega)) _)) hbT)⟩
              ·go_simp
               refine hK.out _ _ (HS.out _ (by repeat (first | with_reducible exact Below.refl _ _ | with_reducible refine zG ?_ _ | with_reducible refine zJ ?_ | with_reducible refine zK ?_ (by first | omega | (simp;done) | (simp;omega)) _))) (fun hHeld=>?_)
               clear hK K
               try simp only [Act.put,zC,zD,zE]
               refine wpAnyH_ready (rs:=[6]) (by kernel_rfl) (by simp) ?_
               refine AllReadyH.cons rfl (fun K hK=>?_) AllReadyH.nil
               ·go_simp
                go_wp2_with (go_at_call 138;((with_reducible refine (KA.out _ (by repeat (first | with_reducible exact Below.refl _ _ | with_reducible refine zG ?_ _ | with_reducible refine zJ ?_ | with_reducible refine zK ?_ (by first | omega | (simp;done) | (simp;omega)) _))).mono ?_);rintro e w2 ⟨rfl,hbT⟩;have HB2:=zA (show Below W.heap.size W w2 from zI (by repeat (first | with_reducible exact Below.refl _ _ | with_reducible refine zG ?_ _ | with_reducible refine zJ ?_ | with_reducible refine zK ?_ (by first | omega | (simp;done) | (simp;omega)) _)) hbT);have sw2:=HB2.out.size;clear hbT))
                refine hK.out _ _ (HS.out _ HB2.out) (fun hHeld=>?_)
                clear hK K
                try simp only [Act.put,zC,zD,zE]
                refine wpAnyH_ready (rs:=[13]) (by kernel_rfl) (by simp) ?_
                refine AllReadyH.cons rfl (fun K hK=>?_) AllReadyH.nil
                ·go_simp
                 go_wp2_with (go_at_call 138;((with_reducible refine (KB.out _ (by repeat (first | with_reducible exact HB2.out | with_reducible refine zG ?_ _ | with_reducible refine zJ ?_ | with_reducible refine zK ?_ (by first | omega | (simp;done) | (simp;omega)) _))).mono ?_);rintro e w' ⟨rfl,hbT⟩))
                 exact ⟨rfl,Thrown.of (show Below W.heap.size W w' from zI (by repeat (first | with_reducible exact HB2.out | with_reducible refine zG ?_ _ | with_reducible refine zJ ?_ | with_reducible refine zK ?_ (by first | omega | (simp;done) | (simp;omega)) _)) hbT)⟩
             ·go_simp
              refine hK.out _ _ (HS.out _ (by repeat (first | with_reducible exact Below.refl _ _ | with_reducible refine zG ?_ _ | with_reducible refine zJ ?_ | with_reducible refine zK ?_ (by first | omega | (simp;done) | (simp;omega)) _))) (fun hHeld=>?_)
              clear hK K
              try simp only [Act.put,zC,zD,zE]
              refine wpAnyH_ready (rs:=[6,14]) (by kernel_rfl) (by simp) ?_
              refine AllReadyH.cons rfl (fun K hK=>?_) (AllReadyH.cons rfl (fun K hK=>?_) AllReadyH.nil)
              ·go_simp
               go_wp2_with (go_at_call 138;((with_reducible refine (KA.out _ (by repeat (first | with_reducible exact Below.refl _ _ | with_reducible refine zG ?_ _ | with_reducible refine zJ ?_ | with_reducible refine zK ?_ (by first | omega | (simp;done) | (simp;omega)) _))).mono ?_);rintro e w2 ⟨rfl,hbT⟩;have HB2:=zA (show Below W.heap.size W w2 from zI (by repeat (first | with_reducible exact Below.refl _ _ | with_reducible refine zG ?_ _ | with_reducible refine zJ ?_ | with_reducible refine zK ?_ (by first | omega | (simp;done) | (simp;omega)) _)) hbT);have sw2:=HB2.out.size;clear hbT))
               refine hK.out _ _ (HS.out _ HB2.out) (fun hHeld=>?_)
               clear hK K
               try simp only [Act.put,zC,zD,zE]
               refine wpAnyH_ready (rs:=[13,14]) (by kernel_rfl) (by simp) ?_
               refine AllReadyH.cons rfl (fun K hK=>?_) (AllReadyH.cons rfl (fun K hK=>?_) AllReadyH.nil)
               ·go_simp
                go_wp2_with (go_at_call 138;((with_reducible refine (KB.out _ (by repeat (first | with_reducible exact HB2.out | with_reducible refine zG ?_ _ | with_reducible refine zJ ?_ | with_reducible refine zK ?_ (by first | omega | (simp;done) | (simp;omega)) _))).mono ?_);rintro e w' ⟨rfl,hbT⟩))
                exact ⟨rfl,Thrown.of (show Below W.heap.size W w' from zI (by repeat (first | with_reducible exact HB2.out | with_reducible refine zG ?_ _ | with_reducible refine zJ ?_ | with_reducible refine zK ?_ (by first | omega | (simp;done) | (simp;omega)) _)) hbT)⟩
               ·go_simp
                refine hK.out _ _ (HS.out _ (by repeat (first | with_reducible exact HB2.out | with_reducible refine zG ?_ _ | with_reducible refine zJ ?_ | with_reducible refine zK ?_ (by first | omega | (simp;done) | (simp;omega)) _))) (fun hHeld=>?_)
                clear hK K
                try simp only [Act.put,zC,zD,zE]
                refine wpAnyH_ready (rs:=[13]) (by kernel_rfl) (by simp) ?_
                refine AllReadyH.cons rfl (fun K hK=>?_) AllReadyH.nil
                ·go_simp
                 go_wp2_with (go_at_call 138;((with_reducible refine (KB.out _ (by repeat (first | with_reducible exact HB2.out | with_reducible refine zG ?_ _ | with_reducible refine zJ ?_ | with_reducible refine zK ?_ (by first | omega | (simp;done) | (simp;omega)) _))).mono ?_);rintro e w' ⟨rfl,hbT⟩))
                 exact ⟨rfl,Thrown.of (show Below W.heap.size W w' from zI (by repeat (first | with_reducible exact HB2.out | with_reducible refine zG ?_ _ | with_reducible refine zJ ?_ | with_reducible refine zK ?_ (by first | omega | (simp;done) | (simp;omega)) _)) hbT)⟩
              ·go_simp
               refine hK.out _ _ (HS.out _ (by repeat (first | with_reducible exact Below.refl _ _ | with_reducible refine zG ?_ _ | with_reducible refine zJ ?_ | with_reducible refine zK ?_ (by first | omega | (simp;done) | (simp;omega)) _))) (fun hHeld=>?_)
               clear hK K
               try simp only [Act.put,zC,zD,zE]
               refine wpAnyH_ready (rs:=[6]) (by kernel_rfl) (by simp) ?_
               refine AllReadyH.cons rfl (fun K hK=>?_) AllReadyH.nil
               ·go_simp
                go_wp2_with (go_at_call 138;((with_reducible refine (KA.out _ (by repeat (first | with_reducible exact Below.refl _ _ | with_reducible refine zG ?_ _ | with_reducible refine zJ ?_ | with_reducible refine zK ?_ (by first | omega | (simp;done) | (simp;omega)) _))).mono ?_);rintro e w2 ⟨rfl,hbT⟩;have HB2:=zA (show Below W.heap.size W w2 from zI (by repeat (first | with_reducible exact Below.refl _ _ | with_reducible refine zG ?_ _ | with_reducible refine zJ ?_ | with_reducible refine zK ?_ (by first | omega | (simp;done) | (simp;omega)) _)) hbT);have sw2:=HB2.out.size;clear hbT))
                refine hK.out _ _ (HS.out _ HB2.out) (fun hHeld=>?_)
                clear hK K
                try simp only [Act.put,zC,zD,zE]
                refine wpAnyH_ready (rs:=[13]) (by kernel_rfl) (by simp) ?_
                refine AllReadyH.cons rfl (fun K hK=>?_) AllReadyH.nil
                ·go_simp
                 go_wp2_with (go_at_call 138;((with_reducible refine (KB.out _ (by repeat (first | with_reducible exact HB2.out | with_reducible refine zG ?_ _ | with_reducible refine zJ ?_ | with_reducible refine zK ?_ (by first | omega | (simp;done) | (simp;omega)) _))).mono ?_);rintro e w' ⟨rfl,hbT⟩))
                 exact ⟨rfl,Thrown.of (show Below W.heap.size W w' from zI (by repeat (first | with_reducible exact HB2.out | with_reducible refine zG ?_ _ | with_reducible refine zJ ?_ | with_reducible refine zK ?_ (by first | omega | (simp;done) | (simp;omega)) _)) hbT)⟩
end Go.Proofs.YtlpejagkadalbaaGreatDoor
