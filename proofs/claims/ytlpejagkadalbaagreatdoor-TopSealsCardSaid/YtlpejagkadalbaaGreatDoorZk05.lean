import Derived.Test.YtlpejagkadalbaaGreatDoorZk01
import Derived.Test.YtlpejagkadalbaaGreatDoorRows
import Derived.Test.YtlpejagkadalbaaGreatDoorShelf
import Derived.WalkSpells
set_option maxHeartbeats 40000000
set_option maxRecDepth 100000
set_option linter.unusedVariables false
set_option linter.unusedSimpArgs false
namespace Go.Proofs.YtlpejagkadalbaaGreatDoor
section
open Go.RowKit
def Tab (w:World):Prop:=Lib.TabIs Tryz.prog w "strings.asciiSpace" .u8 Lib.asciiSpaceTab
theorem Tab.below {w w':World} (h:Tab w) (hb:Below w.heap.size w w'):Tab w':=by
 unfold Tab Lib.TabIs at h ⊢
 unfold World.var? at h ⊢
 cases hg:Tryz.prog.globalNamed "strings.asciiSpace" with
 | none=>rw [hg] at h;cases h
 | some g =>
  rw [hg] at h
  simp only [Option.bind_some] at h ⊢
  have hlt:g < w.heap.size:=by
   rcases Nat.lt_or_ge g w.heap.size with hlt | hge
   ·exact hlt
   ·rw [Array.getElem?_eq_none hge] at h;cases h
  rw [hb.block g hlt]
  exact h
theorem zH1:(Lib.fields zEf).map (fun l=>Value.string ⟨l.toArray⟩)=(List.range 23).map fun k=>Value.string ⟨(zV k).toArray⟩:=by
 have:Lib.fields zEf=(List.range 23).map zV:=by decide +kernel
 rw [this]
 rfl
theorem zIR (s:ByteArray) (hs:s.data.toList=zEf):∀ (j:Nat) b,s.data.toList[j]?=some b→b.toNat < 128:=by
 intro j b hb
 rw [hs] at hb
 have hall:∀ b∈zEf,b.toNat < 128:=by decide +kernel
 exact hall b (List.mem_of_getElem? hb)
theorem zAL (s:ByteArray) (hs:s.data.toList=zEf) (w:World) (ht:Tab w) :
  Calls Tryz.prog 168 #[.string s] w fun e w'=>e=.returned (.slice (some ⟨w.heap.size,0,none⟩) 23 23)∧Below w.heap.size w w'∧∀ k,k < 23→w'.cell? ⟨w.heap.size,k,none⟩=some (.string ⟨(zV k).toArray⟩):=by
 have hsz:s.size < 4294967281:=by
  have h1:s.size=s.data.toList.length:=rfl
  rw [h1,hs];decide
 refine (Tryz.strings_Fields s w hsz (zIR s hs) ht).mono fun e w' ⟨he,hw⟩=>?_
 have hl:(Lib.fields s.data.toList).length=23:=by rw [hs];decide +kernel
 rw [hl] at he
 refine ⟨he,?_,?_⟩
 ·rw [hw];exact zG (Below.refl _ _) _
 ·intro k hk
  rw [hw,hs,zH1]
  refine (Bk.cell (zM w _ _) k).trans ?_
  rw [List.getElem?_toArray,List.getElem?_map,List.getElem?_range hk]
  rfl
theorem zAD {w:World} {g:Nat} {T:TypeId} {v0 v1 v2 v3:Value} (h:Bk w g T #[v0,v1,v2,v3]) :
  w.cell? ⟨g,0,none⟩=some v0∧w.cell? ⟨g,1,none⟩=some v1∧w.cell? ⟨g,2,none⟩=some v2∧w.cell? ⟨g,3,none⟩=some v3:=⟨h.cell 0,h.cell 1,h.cell 2,h.cell 3⟩
def zIM (w:World) (op:Int) (wd:List UInt8) (ok:Bool) (e:Ending) (w':World):Prop :=
 e=.returned (.tuple #[.agg #[.string ⟨wd.toArray⟩,.bool (ok&&shA op),.bool (ok&&shB op),.int .u8 (if ok then shC op else 0)],.bool ok])∧Below w.heap.size w w'
theorem zNO (w:World) (ht:Tab w):Calls Tryz.prog 135 #[.int .i64 0] w fun e w'=>e=.returned (.tuple #[.agg #[.string ⟨(zV 0).toArray⟩,.bool false,.bool false,.int .u8 0],.bool true])∧Below w.heap.size w w':=by
 have FW:=zA zAL
 have HT:=zA ht
 clear ht
 go_enter Tryz.func135,Tryz.ntmps135
 go_wp2_with (go_at_call 168;((with_reducible refine (FW.out _ (by decide +kernel) _ (HT.out.below (zG (Below.refl _ _) _))).mono ?_);rintro e w1 ⟨rfl,hb1,hc1⟩;have hq:=hc1 0 (by decide);simp only [World.size_alloc] at hq;have hql:=World.block_lt_of_cell? w1 _ hq;have rB:=zH hb1 (zM w 230 #[.string ⟨#[]⟩,.bool false,.bool false,.int .u8 0]);obtain ⟨r0,r1,r2,r3⟩:=zAD rB;have rL:=rB.lt;have rF:=fun i=>Bk.frozen rB i;have HB1:=zA hb1;clear hb1 hc1 rB))
 refine bodyPost_ret (v:=.tuple #[.agg #[.string ⟨(zV 0).toArray⟩,.bool false,.bool false,.int .u8 0],.bool true]) (by simp [results,Tryz.results135,go_sem, *];try rfl) rfl ⟨rfl,?_⟩
 repeat (first | with_reducible exact Below.refl _ _ | with_reducible refine zK ?_ (by first | omega | (simp;done) | (simp;omega)) _ | with_reducible refine zG ?_ _ | with_reducible refine zI ?_ HB1.out)
theorem zNN (w:World) (ht:Tab w):Calls Tryz.prog 135 #[.int .i64 1] w fun e w'=>e=.returned (.tuple #[.agg #[.string ⟨(zV 1).toArray⟩,.bool true,.bool false,.int .u8 110],.bool true])∧Below w.heap.size w w':=by
 have FW:=zA zAL
 have HT:=zA ht
 clear ht
 go_enter Tryz.func135,Tryz.ntmps135
 go_wp2_with (go_at_call 168;((with_reducible refine (FW.out _ (by decide +kernel) _ (HT.out.below (zG (Below.refl _ _) _))).mono ?_);rintro e w1 ⟨rfl,hb1,hc1⟩;have hq:=hc1 1 (by decide);simp only [World.size_alloc] at hq;have hql:=World.block_lt_of_cell? w1 _ hq;have rB:=zH hb1 (zM w 230 #[.string ⟨#[]⟩,.bool false,.bool false,.int .u8 0]);obtain ⟨r0,r1,r2,r3⟩:=zAD rB;have rL:=rB.lt;have rF:=fun i=>Bk.frozen rB i;have HB1:=zA hb1;clear hb1 hc1 rB))
 refine bodyPost_ret (v:=.tuple #[.agg #[.string ⟨(zV 1).toArray⟩,.bool true,.bool false,.int .u8 110],.bool true]) (by simp [results,Tryz.results135,go_sem, *];try rfl) rfl ⟨rfl,?_⟩
 repeat (first | with_reducible exact Below.refl _ _ | with_reducible refine zK ?_ (by first | omega | (simp;done) | (simp;omega)) _ | with_reducible refine zG ?_ _ | with_reducible refine zI ?_ HB1.out)
theorem zNM (w:World) (ht:Tab w):Calls Tryz.prog 135 #[.int .i64 2] w fun e w'=>e=.returned (.tuple #[.agg #[.string ⟨(zV 2).toArray⟩,.bool true,.bool true,.int .u8 0],.bool true])∧Below w.heap.size w w':=by
 have FW:=zA zAL
 have HT:=zA ht
 clear ht
 go_enter Tryz.func135,Tryz.ntmps135
 go_wp2_with (go_at_call 168;((with_reducible refine (FW.out _ (by decide +kernel) _ (HT.out.below (zG (Below.refl _ _) _))).mono ?_);rintro e w1 ⟨rfl,hb1,hc1⟩;have hq:=hc1 2 (by decide);simp only [World.size_alloc] at hq;have hql:=World.block_lt_of_cell? w1 _ hq;have rB:=zH hb1 (zM w 230 #[.string ⟨#[]⟩,.bool false,.bool false,.int .u8 0]);obtain ⟨r0,r1,r2,r3⟩:=zAD rB;have rL:=rB.lt;have rF:=fun i=>Bk.frozen rB i;have HB1:=zA hb1;clear hb1 hc1 rB))
 refine bodyPost_ret (v:=.tuple #[.agg #[.string ⟨(zV 2).toArray⟩,.bool true,.bool true,.int .u8 0],.bool true]) (by simp [results,Tryz.results135,go_sem, *];try rfl) rfl ⟨rfl,?_⟩
 repeat (first | with_reducible exact Below.refl _ _ | with_reducible refine zK ?_ (by first | omega | (simp;done) | (simp;omega)) _ | with_reducible refine zG ?_ _ | with_reducible refine zI ?_ HB1.out)
theorem zNL (w:World) (ht:Tab w):Calls Tryz.prog 135 #[.int .i64 3] w fun e w'=>e=.returned (.tuple #[.agg #[.string ⟨(zV 3).toArray⟩,.bool true,.bool true,.int .u8 114],.bool true])∧Below w.heap.size w w':=by
 have FW:=zA zAL
 have HT:=zA ht
 clear ht
 go_enter Tryz.func135,Tryz.ntmps135
 go_wp2_with (go_at_call 168;((with_reducible refine (FW.out _ (by decide +kernel) _ (HT.out.below (zG (Below.refl _ _) _))).mono ?_);rintro e w1 ⟨rfl,hb1,hc1⟩;have hq:=hc1 3 (by decide);simp only [World.size_alloc] at hq;have hql:=World.block_lt_of_cell? w1 _ hq;have rB:=zH hb1 (zM w 230 #[.string ⟨#[]⟩,.bool false,.bool false,.int .u8 0]);obtain ⟨r0,r1,r2,r3⟩:=zAD rB;have rL:=rB.lt;have rF:=fun i=>Bk.frozen rB i;have HB1:=zA hb1;clear hb1 hc1 rB))
 refine bodyPost_ret (v:=.tuple #[.agg #[.string ⟨(zV 3).toArray⟩,.bool true,.bool true,.int .u8 114],.bool true]) (by simp [results,Tryz.results135,go_sem, *];try rfl) rfl ⟨rfl,?_⟩
 repeat (first | with_reducible exact Below.refl _ _ | with_reducible refine zK ?_ (by first | omega | (simp;done) | (simp;omega)) _ | with_reducible refine zG ?_ _ | with_reducible refine zI ?_ HB1.out)
theorem zNK (w:World) (ht:Tab w):Calls Tryz.prog 135 #[.int .i64 4] w fun e w'=>e=.returned (.tuple #[.agg #[.string ⟨(zV 4).toArray⟩,.bool true,.bool true,.int .u8 114],.bool true])∧Below w.heap.size w w':=by
 have FW:=zA zAL
 have HT:=zA ht
 clear ht
 go_enter Tryz.func135,Tryz.ntmps135
 go_wp2_with (go_at_call 168;((with_reducible refine (FW.out _ (by decide +kernel) _ (HT.out.below (zG (Below.refl _ _) _))).mono ?_);rintro e w1 ⟨rfl,hb1,hc1⟩;have hq:=hc1 4 (by decide);simp only [World.size_alloc] at hq;have hql:=World.block_lt_of_cell? w1 _ hq;have rB:=zH hb1 (zM w 230 #[.string ⟨#[]⟩,.bool false,.bool false,.int .u8 0]);obtain ⟨r0,r1,r2,r3⟩:=zAD rB;have rL:=rB.lt;have rF:=fun i=>Bk.frozen rB i;have HB1:=zA hb1;clear hb1 hc1 rB))
 refine bodyPost_ret (v:=.tuple #[.agg #[.string ⟨(zV 4).toArray⟩,.bool true,.bool true,.int .u8 114],.bool true]) (by simp [results,Tryz.results135,go_sem, *];try rfl) rfl ⟨rfl,?_⟩
 repeat (first | with_reducible exact Below.refl _ _ | with_reducible refine zK ?_ (by first | omega | (simp;done) | (simp;omega)) _ | with_reducible refine zG ?_ _ | with_reducible refine zI ?_ HB1.out)
theorem zNJ (w:World) (ht:Tab w):Calls Tryz.prog 135 #[.int .i64 5] w fun e w'=>e=.returned (.tuple #[.agg #[.string ⟨(zV 5).toArray⟩,.bool true,.bool true,.int .u8 114],.bool true])∧Below w.heap.size w w':=by
 have FW:=zA zAL
 have HT:=zA ht
 clear ht
 go_enter Tryz.func135,Tryz.ntmps135
 go_wp2_with (go_at_call 168;((with_reducible refine (FW.out _ (by decide +kernel) _ (HT.out.below (zG (Below.refl _ _) _))).mono ?_);rintro e w1 ⟨rfl,hb1,hc1⟩;have hq:=hc1 5 (by decide);simp only [World.size_alloc] at hq;have hql:=World.block_lt_of_cell? w1 _ hq;have rB:=zH hb1 (zM w 230 #[.string ⟨#[]⟩,.bool false,.bool false,.int .u8 0]);obtain ⟨r0,r1,r2,r3⟩:=zAD rB;have rL:=rB.lt;have rF:=fun i=>Bk.frozen rB i;have HB1:=zA hb1;clear hb1 hc1 rB))
 refine bodyPost_ret (v:=.tuple #[.agg #[.string ⟨(zV 5).toArray⟩,.bool true,.bool true,.int .u8 114],.bool true]) (by simp [results,Tryz.results135,go_sem, *];try rfl) rfl ⟨rfl,?_⟩
 repeat (first | with_reducible exact Below.refl _ _ | with_reducible refine zK ?_ (by first | omega | (simp;done) | (simp;omega)) _ | with_reducible refine zG ?_ _ | with_reducible refine zI ?_ HB1.out)
theorem zNI (w:World) (ht:Tab w):Calls Tryz.prog 135 #[.int .i64 6] w fun e w'=>e=.returned (.tuple #[.agg #[.string ⟨(zV 6).toArray⟩,.bool true,.bool true,.int .u8 114],.bool true])∧Below w.heap.size w w':=by
 have FW:=zA zAL
 have HT:=zA ht
 clear ht
 go_enter Tryz.func135,Tryz.ntmps135
 go_wp2_with (go_at_call 168;((with_reducible refine (FW.out _ (by decide +kernel) _ (HT.out.below (zG (Below.refl _ _) _))).mono ?_);rintro e w1 ⟨rfl,hb1,hc1⟩;have hq:=hc1 6 (by decide);simp only [World.size_alloc] at hq;have hql:=World.block_lt_of_cell? w1 _ hq;have rB:=zH hb1 (zM w 230 #[.string ⟨#[]⟩,.bool false,.bool false,.int .u8 0]);obtain ⟨r0,r1,r2,r3⟩:=zAD rB;have rL:=rB.lt;have rF:=fun i=>Bk.frozen rB i;have HB1:=zA hb1;clear hb1 hc1 rB))
 refine bodyPost_ret (v:=.tuple #[.agg #[.string ⟨(zV 6).toArray⟩,.bool true,.bool true,.int .u8 114],.bool true]) (by simp [results,Tryz.results135,go_sem, *];try rfl) rfl ⟨rfl,?_⟩
 repeat (first | with_reducible exact Below.refl _ _ | with_reducible refine zK ?_ (by first | omega | (simp;done) | (simp;omega)) _ | with_reducible refine zG ?_ _ | with_reducible refine zI ?_ HB1.out)
theorem zNH (w:World) (ht:Tab w):Calls Tryz.prog 135 #[.int .i64 7] w fun e w'=>e=.returned (.tuple #[.agg #[.string ⟨(zV 7).toArray⟩,.bool true,.bool true,.int .u8 114],.bool true])∧Below w.heap.size w w':=by
 have FW:=zA zAL
 have HT:=zA ht
 clear ht
 go_enter Tryz.func135,Tryz.ntmps135
 go_wp2_with (go_at_call 168;((with_reducible refine (FW.out _ (by decide +kernel) _ (HT.out.below (zG (Below.refl _ _) _))).mono ?_);rintro e w1 ⟨rfl,hb1,hc1⟩;have hq:=hc1 7 (by decide);simp only [World.size_alloc] at hq;have hql:=World.block_lt_of_cell? w1 _ hq;have rB:=zH hb1 (zM w 230 #[.string ⟨#[]⟩,.bool false,.bool false,.int .u8 0]);obtain ⟨r0,r1,r2,r3⟩:=zAD rB;have rL:=rB.lt;have rF:=fun i=>Bk.frozen rB i;have HB1:=zA hb1;clear hb1 hc1 rB))
 refine bodyPost_ret (v:=.tuple #[.agg #[.string ⟨(zV 7).toArray⟩,.bool true,.bool true,.int .u8 114],.bool true]) (by simp [results,Tryz.results135,go_sem, *];try rfl) rfl ⟨rfl,?_⟩
 repeat (first | with_reducible exact Below.refl _ _ | with_reducible refine zK ?_ (by first | omega | (simp;done) | (simp;omega)) _ | with_reducible refine zG ?_ _ | with_reducible refine zI ?_ HB1.out)
theorem zNG (w:World) (ht:Tab w):Calls Tryz.prog 135 #[.int .i64 8] w fun e w'=>e=.returned (.tuple #[.agg #[.string ⟨(zV 8).toArray⟩,.bool false,.bool false,.int .u8 110],.bool true])∧Below w.heap.size w w':=by
 have FW:=zA zAL
 have HT:=zA ht
 clear ht
 go_enter Tryz.func135,Tryz.ntmps135
 go_wp2_with (go_at_call 168;((with_reducible refine (FW.out _ (by decide +kernel) _ (HT.out.below (zG (Below.refl _ _) _))).mono ?_);rintro e w1 ⟨rfl,hb1,hc1⟩;have hq:=hc1 8 (by decide);simp only [World.size_alloc] at hq;have hql:=World.block_lt_of_cell? w1 _ hq;have rB:=zH hb1 (zM w 230 #[.string ⟨#[]⟩,.bool false,.bool false,.int .u8 0]);obtain ⟨r0,r1,r2,r3⟩:=zAD rB;have rL:=rB.lt;have rF:=fun i=>Bk.frozen rB i;have HB1:=zA hb1;clear hb1 hc1 rB))
 refine bodyPost_ret (v:=.tuple #[.agg #[.string ⟨(zV 8).toArray⟩,.bool false,.bool false,.int .u8 110],.bool true]) (by simp [results,Tryz.results135,go_sem, *];try rfl) rfl ⟨rfl,?_⟩
 repeat (first | with_reducible exact Below.refl _ _ | with_reducible refine zK ?_ (by first | omega | (simp;done) | (simp;omega)) _ | with_reducible refine zG ?_ _ | with_reducible refine zI ?_ HB1.out)
theorem zNF (w:World) (ht:Tab w):Calls Tryz.prog 135 #[.int .i64 9] w fun e w'=>e=.returned (.tuple #[.agg #[.string ⟨(zV 9).toArray⟩,.bool true,.bool false,.int .u8 110],.bool true])∧Below w.heap.size w w':=by
 have FW:=zA zAL
 have HT:=zA ht
 clear ht
 go_enter Tryz.func135,Tryz.ntmps135
 go_wp2_with (go_at_call 168;((with_reducible refine (FW.out _ (by decide +kernel) _ (HT.out.below (zG (Below.refl _ _) _))).mono ?_);rintro e w1 ⟨rfl,hb1,hc1⟩;have hq:=hc1 9 (by decide);simp only [World.size_alloc] at hq;have hql:=World.block_lt_of_cell? w1 _ hq;have rB:=zH hb1 (zM w 230 #[.string ⟨#[]⟩,.bool false,.bool false,.int .u8 0]);obtain ⟨r0,r1,r2,r3⟩:=zAD rB;have rL:=rB.lt;have rF:=fun i=>Bk.frozen rB i;have HB1:=zA hb1;clear hb1 hc1 rB))
 refine bodyPost_ret (v:=.tuple #[.agg #[.string ⟨(zV 9).toArray⟩,.bool true,.bool false,.int .u8 110],.bool true]) (by simp [results,Tryz.results135,go_sem, *];try rfl) rfl ⟨rfl,?_⟩
 repeat (first | with_reducible exact Below.refl _ _ | with_reducible refine zK ?_ (by first | omega | (simp;done) | (simp;omega)) _ | with_reducible refine zG ?_ _ | with_reducible refine zI ?_ HB1.out)
theorem zL3 (w:World) (ht:Tab w):Calls Tryz.prog 135 #[.int .i64 10] w fun e w'=>e=.returned (.tuple #[.agg #[.string ⟨(zV 10).toArray⟩,.bool true,.bool true,.int .u8 110],.bool true])∧Below w.heap.size w w':=by
 have FW:=zA zAL
 have HT:=zA ht
 clear ht
 go_enter Tryz.func135,Tryz.ntmps135
 go_wp2_with (go_at_call 168;((with_reducible refine (FW.out _ (by decide +kernel) _ (HT.out.below (zG (Below.refl _ _) _))).mono ?_);rintro e w1 ⟨rfl,hb1,hc1⟩;have hq:=hc1 10 (by decide);simp only [World.size_alloc] at hq;have hql:=World.block_lt_of_cell? w1 _ hq;have rB:=zH hb1 (zM w 230 #[.string ⟨#[]⟩,.bool false,.bool false,.int .u8 0]);obtain ⟨r0,r1,r2,r3⟩:=zAD rB;have rL:=rB.lt;have rF:=fun i=>Bk.frozen rB i;have HB1:=zA hb1;clear hb1 hc1 rB))
 refine bodyPost_ret (v:=.tuple #[.agg #[.string ⟨(zV 10).toArray⟩,.bool true,.bool true,.int .u8 110],.bool true]) (by simp [results,Tryz.results135,go_sem, *];try rfl) rfl ⟨rfl,?_⟩
 repeat (first | with_reducible exact Below.refl _ _ | with_reducible refine zK ?_ (by first | omega | (simp;done) | (simp;omega)) _ | with_reducible refine zG ?_ _ | with_reducible refine zI ?_ HB1.out)
theorem zL2 (w:World) (ht:Tab w):Calls Tryz.prog 135 #[.int .i64 11] w fun e w'=>e=.returned (.tuple #[.agg #[.string ⟨(zV 11).toArray⟩,.bool true,.bool true,.int .u8 110],.bool true])∧Below w.heap.size w w':=by
 have FW:=zA zAL
 have HT:=zA ht
 clear ht
 go_enter Tryz.func135,Tryz.ntmps135
 go_wp2_with (go_at_call 168;((with_reducible refine (FW.out _ (by decide +kernel) _ (HT.out.below (zG (Below.refl _ _) _))).mono ?_);rintro e w1 ⟨rfl,hb1,hc1⟩;have hq:=hc1 11 (by decide);simp only [World.size_alloc] at hq;have hql:=World.block_lt_of_cell? w1 _ hq;have rB:=zH hb1 (zM w 230 #[.string ⟨#[]⟩,.bool false,.bool false,.int .u8 0]);obtain ⟨r0,r1,r2,r3⟩:=zAD rB;have rL:=rB.lt;have rF:=fun i=>Bk.frozen rB i;have HB1:=zA hb1;clear hb1 hc1 rB))
 refine bodyPost_ret (v:=.tuple #[.agg #[.string ⟨(zV 11).toArray⟩,.bool true,.bool true,.int .u8 110],.bool true]) (by simp [results,Tryz.results135,go_sem, *];try rfl) rfl ⟨rfl,?_⟩
 repeat (first | with_reducible exact Below.refl _ _ | with_reducible refine zK ?_ (by first | omega | (simp;done) | (simp;omega)) _ | with_reducible refine zG ?_ _ | with_reducible refine zI ?_ HB1.out)
theorem zL1 (w:World) (ht:Tab w):Calls Tryz.prog 135 #[.int .i64 12] w fun e w'=>e=.returned (.tuple #[.agg #[.string ⟨(zV 12).toArray⟩,.bool true,.bool true,.int .u8 114],.bool true])∧Below w.heap.size w w':=by
 have FW:=zA zAL
 have HT:=zA ht
 clear ht
 go_enter Tryz.func135,Tryz.ntmps135
 go_wp2_with (go_at_call 168;((with_reducible refine (FW.out _ (by decide +kernel) _ (HT.out.below (zG (Below.refl _ _) _))).mono ?_);rintro e w1 ⟨rfl,hb1,hc1⟩;have hq:=hc1 12 (by decide);simp only [World.size_alloc] at hq;have hql:=World.block_lt_of_cell? w1 _ hq;have rB:=zH hb1 (zM w 230 #[.string ⟨#[]⟩,.bool false,.bool false,.int .u8 0]);obtain ⟨r0,r1,r2,r3⟩:=zAD rB;have rL:=rB.lt;have rF:=fun i=>Bk.frozen rB i;have HB1:=zA hb1;clear hb1 hc1 rB))
 refine bodyPost_ret (v:=.tuple #[.agg #[.string ⟨(zV 12).toArray⟩,.bool true,.bool true,.int .u8 114],.bool true]) (by simp [results,Tryz.results135,go_sem, *];try rfl) rfl ⟨rfl,?_⟩
 repeat (first | with_reducible exact Below.refl _ _ | with_reducible refine zK ?_ (by first | omega | (simp;done) | (simp;omega)) _ | with_reducible refine zG ?_ _ | with_reducible refine zI ?_ HB1.out)
theorem zL0 (w:World) (ht:Tab w):Calls Tryz.prog 135 #[.int .i64 13] w fun e w'=>e=.returned (.tuple #[.agg #[.string ⟨(zV 13).toArray⟩,.bool true,.bool true,.int .u8 114],.bool true])∧Below w.heap.size w w':=by
 have FW:=zA zAL
 have HT:=zA ht
 clear ht
 go_enter Tryz.func135,Tryz.ntmps135
 go_wp2_with (go_at_call 168;((with_reducible refine (FW.out _ (by decide +kernel) _ (HT.out.below (zG (Below.refl _ _) _))).mono ?_);rintro e w1 ⟨rfl,hb1,hc1⟩;have hq:=hc1 13 (by decide);simp only [World.size_alloc] at hq;have hql:=World.block_lt_of_cell? w1 _ hq;have rB:=zH hb1 (zM w 230 #[.string ⟨#[]⟩,.bool false,.bool false,.int .u8 0]);obtain ⟨r0,r1,r2,r3⟩:=zAD rB;have rL:=rB.lt;have rF:=fun i=>Bk.frozen rB i;have HB1:=zA hb1;clear hb1 hc1 rB))
 refine bodyPost_ret (v:=.tuple #[.agg #[.string ⟨(zV 13).toArray⟩,.bool true,.bool true,.int .u8 114],.bool true]) (by simp [results,Tryz.results135,go_sem, *];try rfl) rfl ⟨rfl,?_⟩
 repeat (first | with_reducible exact Below.refl _ _ | with_reducible refine zK ?_ (by first | omega | (simp;done) | (simp;omega)) _ | with_reducible refine zG ?_ _ | with_reducible refine zI ?_ HB1.out)
theorem zLz (w:World) (ht:Tab w):Calls Tryz.prog 135 #[.int .i64 14] w fun e w'=>e=.returned (.tuple #[.agg #[.string ⟨(zV 14).toArray⟩,.bool true,.bool true,.int .u8 112],.bool true])∧Below w.heap.size w w':=by
 have FW:=zA zAL
 have HT:=zA ht
 clear ht
 go_enter Tryz.func135,Tryz.ntmps135
 go_wp2_with (go_at_call 168;((with_reducible refine (FW.out _ (by decide +kernel) _ (HT.out.below (zG (Below.refl _ _) _))).mono ?_);rintro e w1 ⟨rfl,hb1,hc1⟩;have hq:=hc1 14 (by decide);simp only [World.size_alloc] at hq;have hql:=World.block_lt_of_cell? w1 _ hq;have rB:=zH hb1 (zM w 230 #[.string ⟨#[]⟩,.bool false,.bool false,.int .u8 0]);obtain ⟨r0,r1,r2,r3⟩:=zAD rB;have rL:=rB.lt;have rF:=fun i=>Bk.frozen rB i;have HB1:=zA hb1;clear hb1 hc1 rB))
 refine bodyPost_ret (v:=.tuple #[.agg #[.string ⟨(zV 14).toArray⟩,.bool true,.bool true,.int .u8 112],.bool true]) (by simp [results,Tryz.results135,go_sem, *];try rfl) rfl ⟨rfl,?_⟩
 repeat (first | with_reducible exact Below.refl _ _ | with_reducible refine zK ?_ (by first | omega | (simp;done) | (simp;omega)) _ | with_reducible refine zG ?_ _ | with_reducible refine zI ?_ HB1.out)
theorem zLy (w:World) (ht:Tab w):Calls Tryz.prog 135 #[.int .i64 15] w fun e w'=>e=.returned (.tuple #[.agg #[.string ⟨(zV 15).toArray⟩,.bool true,.bool true,.int .u8 114],.bool true])∧Below w.heap.size w w':=by
 have FW:=zA zAL
 have HT:=zA ht
 clear ht
 go_enter Tryz.func135,Tryz.ntmps135
 go_wp2_with (go_at_call 168;((with_reducible refine (FW.out _ (by decide +kernel) _ (HT.out.below (zG (Below.refl _ _) _))).mono ?_);rintro e w1 ⟨rfl,hb1,hc1⟩;have hq:=hc1 15 (by decide);simp only [World.size_alloc] at hq;have hql:=World.block_lt_of_cell? w1 _ hq;have rB:=zH hb1 (zM w 230 #[.string ⟨#[]⟩,.bool false,.bool false,.int .u8 0]);obtain ⟨r0,r1,r2,r3⟩:=zAD rB;have rL:=rB.lt;have rF:=fun i=>Bk.frozen rB i;have HB1:=zA hb1;clear hb1 hc1 rB))
 refine bodyPost_ret (v:=.tuple #[.agg #[.string ⟨(zV 15).toArray⟩,.bool true,.bool true,.int .u8 114],.bool true]) (by simp [results,Tryz.results135,go_sem, *];try rfl) rfl ⟨rfl,?_⟩
 repeat (first | with_reducible exact Below.refl _ _ | with_reducible refine zK ?_ (by first | omega | (simp;done) | (simp;omega)) _ | with_reducible refine zG ?_ _ | with_reducible refine zI ?_ HB1.out)
theorem zLx (w:World) (ht:Tab w):Calls Tryz.prog 135 #[.int .i64 16] w fun e w'=>e=.returned (.tuple #[.agg #[.string ⟨(zV 16).toArray⟩,.bool true,.bool true,.int .u8 114],.bool true])∧Below w.heap.size w w':=by
 have FW:=zA zAL
 have HT:=zA ht
 clear ht
 go_enter Tryz.func135,Tryz.ntmps135
 go_wp2_with (go_at_call 168;((with_reducible refine (FW.out _ (by decide +kernel) _ (HT.out.below (zG (Below.refl _ _) _))).mono ?_);rintro e w1 ⟨rfl,hb1,hc1⟩;have hq:=hc1 16 (by decide);simp only [World.size_alloc] at hq;have hql:=World.block_lt_of_cell? w1 _ hq;have rB:=zH hb1 (zM w 230 #[.string ⟨#[]⟩,.bool false,.bool false,.int .u8 0]);obtain ⟨r0,r1,r2,r3⟩:=zAD rB;have rL:=rB.lt;have rF:=fun i=>Bk.frozen rB i;have HB1:=zA hb1;clear hb1 hc1 rB))
 refine bodyPost_ret (v:=.tuple #[.agg #[.string ⟨(zV 16).toArray⟩,.bool true,.bool true,.int .u8 114],.bool true]) (by simp [results,Tryz.results135,go_sem, *];try rfl) rfl ⟨rfl,?_⟩
 repeat (first | with_reducible exact Below.refl _ _ | with_reducible refine zK ?_ (by first | omega | (simp;done) | (simp;omega)) _ | with_reducible refine zG ?_ _ | with_reducible refine zI ?_ HB1.out)
theorem zLw (w:World) (ht:Tab w):Calls Tryz.prog 135 #[.int .i64 17] w fun e w'=>e=.returned (.tuple #[.agg #[.string ⟨(zV 17).toArray⟩,.bool true,.bool true,.int .u8 113],.bool true])∧Below w.heap.size w w':=by
 have FW:=zA zAL
 have HT:=zA ht
 clear ht
 go_enter Tryz.func135,Tryz.ntmps135
 go_wp2_with (go_at_call 168;((with_reducible refine (FW.out _ (by decide +kernel) _ (HT.out.below (zG (Below.refl _ _) _))).mono ?_);rintro e w1 ⟨rfl,hb1,hc1⟩;have hq:=hc1 17 (by decide);simp only [World.size_alloc] at hq;have hql:=World.block_lt_of_cell? w1 _ hq;have rB:=zH hb1 (zM w 230 #[.string ⟨#[]⟩,.bool false,.bool false,.int .u8 0]);obtain ⟨r0,r1,r2,r3⟩:=zAD rB;have rL:=rB.lt;have rF:=fun i=>Bk.frozen rB i;have HB1:=zA hb1;clear hb1 hc1 rB))
 refine bodyPost_ret (v:=.tuple #[.agg #[.string ⟨(zV 17).toArray⟩,.bool true,.bool true,.int .u8 113],.bool true]) (by simp [results,Tryz.results135,go_sem, *];try rfl) rfl ⟨rfl,?_⟩
 repeat (first | with_reducible exact Below.refl _ _ | with_reducible refine zK ?_ (by first | omega | (simp;done) | (simp;omega)) _ | with_reducible refine zG ?_ _ | with_reducible refine zI ?_ HB1.out)
theorem zLv (w:World) (ht:Tab w):Calls Tryz.prog 135 #[.int .i64 18] w fun e w'=>e=.returned (.tuple #[.agg #[.string ⟨(zV 18).toArray⟩,.bool true,.bool true,.int .u8 0],.bool true])∧Below w.heap.size w w':=by
 have FW:=zA zAL
 have HT:=zA ht
 clear ht
 go_enter Tryz.func135,Tryz.ntmps135
 go_wp2_with (go_at_call 168;((with_reducible refine (FW.out _ (by decide +kernel) _ (HT.out.below (zG (Below.refl _ _) _))).mono ?_);rintro e w1 ⟨rfl,hb1,hc1⟩;have hq:=hc1 18 (by decide);simp only [World.size_alloc] at hq;have hql:=World.block_lt_of_cell? w1 _ hq;have rB:=zH hb1 (zM w 230 #[.string ⟨#[]⟩,.bool false,.bool false,.int .u8 0]);obtain ⟨r0,r1,r2,r3⟩:=zAD rB;have rL:=rB.lt;have rF:=fun i=>Bk.frozen rB i;have HB1:=zA hb1;clear hb1 hc1 rB))
 refine bodyPost_ret (v:=.tuple #[.agg #[.string ⟨(zV 18).toArray⟩,.bool true,.bool true,.int .u8 0],.bool true]) (by simp [results,Tryz.results135,go_sem, *];try rfl) rfl ⟨rfl,?_⟩
 repeat (first | with_reducible exact Below.refl _ _ | with_reducible refine zK ?_ (by first | omega | (simp;done) | (simp;omega)) _ | with_reducible refine zG ?_ _ | with_reducible refine zI ?_ HB1.out)
theorem zLu (w:World) (ht:Tab w):Calls Tryz.prog 135 #[.int .i64 19] w fun e w'=>e=.returned (.tuple #[.agg #[.string ⟨(zV 19).toArray⟩,.bool false,.bool false,.int .u8 0],.bool true])∧Below w.heap.size w w':=by
 have FW:=zA zAL
 have HT:=zA ht
 clear ht
 go_enter Tryz.func135,Tryz.ntmps135
 go_wp2_with (go_at_call 168;((with_reducible refine (FW.out _ (by decide +kernel) _ (HT.out.below (zG (Below.refl _ _) _))).mono ?_);rintro e w1 ⟨rfl,hb1,hc1⟩;have hq:=hc1 19 (by decide);simp only [World.size_alloc] at hq;have hql:=World.block_lt_of_cell? w1 _ hq;have rB:=zH hb1 (zM w 230 #[.string ⟨#[]⟩,.bool false,.bool false,.int .u8 0]);obtain ⟨r0,r1,r2,r3⟩:=zAD rB;have rL:=rB.lt;have rF:=fun i=>Bk.frozen rB i;have HB1:=zA hb1;clear hb1 hc1 rB))
 refine bodyPost_ret (v:=.tuple #[.agg #[.string ⟨(zV 19).toArray⟩,.bool false,.bool false,.int .u8 0],.bool true]) (by simp [results,Tryz.results135,go_sem, *];try rfl) rfl ⟨rfl,?_⟩
 repeat (first | with_reducible exact Below.refl _ _ | with_reducible refine zK ?_ (by first | omega | (simp;done) | (simp;omega)) _ | with_reducible refine zG ?_ _ | with_reducible refine zI ?_ HB1.out)
theorem zLt (w:World) (ht:Tab w):Calls Tryz.prog 135 #[.int .i64 20] w fun e w'=>e=.returned (.tuple #[.agg #[.string ⟨(zV 20).toArray⟩,.bool true,.bool false,.int .u8 0],.bool true])∧Below w.heap.size w w':=by
 have FW:=zA zAL
 have HT:=zA ht
 clear ht
 go_enter Tryz.func135,Tryz.ntmps135
 go_wp2_with (go_at_call 168;((with_reducible refine (FW.out _ (by decide +kernel) _ (HT.out.below (zG (Below.refl _ _) _))).mono ?_);rintro e w1 ⟨rfl,hb1,hc1⟩;have hq:=hc1 20 (by decide);simp only [World.size_alloc] at hq;have hql:=World.block_lt_of_cell? w1 _ hq;have rB:=zH hb1 (zM w 230 #[.string ⟨#[]⟩,.bool false,.bool false,.int .u8 0]);obtain ⟨r0,r1,r2,r3⟩:=zAD rB;have rL:=rB.lt;have rF:=fun i=>Bk.frozen rB i;have HB1:=zA hb1;clear hb1 hc1 rB))
 refine bodyPost_ret (v:=.tuple #[.agg #[.string ⟨(zV 20).toArray⟩,.bool true,.bool false,.int .u8 0],.bool true]) (by simp [results,Tryz.results135,go_sem, *];try rfl) rfl ⟨rfl,?_⟩
 repeat (first | with_reducible exact Below.refl _ _ | with_reducible refine zK ?_ (by first | omega | (simp;done) | (simp;omega)) _ | with_reducible refine zG ?_ _ | with_reducible refine zI ?_ HB1.out)
theorem zLs (w:World) (ht:Tab w):Calls Tryz.prog 135 #[.int .i64 21] w fun e w'=>e=.returned (.tuple #[.agg #[.string ⟨(zV 21).toArray⟩,.bool false,.bool false,.int .u8 109],.bool true])∧Below w.heap.size w w':=by
 have FW:=zA zAL
 have HT:=zA ht
 clear ht
 go_enter Tryz.func135,Tryz.ntmps135
 go_wp2_with (go_at_call 168;((with_reducible refine (FW.out _ (by decide +kernel) _ (HT.out.below (zG (Below.refl _ _) _))).mono ?_);rintro e w1 ⟨rfl,hb1,hc1⟩;have hq:=hc1 21 (by decide);simp only [World.size_alloc] at hq;have hql:=World.block_lt_of_cell? w1 _ hq;have rB:=zH hb1 (zM w 230 #[.string ⟨#[]⟩,.bool false,.bool false,.int .u8 0]);obtain ⟨r0,r1,r2,r3⟩:=zAD rB;have rL:=rB.lt;have rF:=fun i=>Bk.frozen rB i;have HB1:=zA hb1;clear hb1 hc1 rB))
 refine bodyPost_ret (v:=.tuple #[.agg #[.string ⟨(zV 21).toArray⟩,.bool false,.bool false,.int .u8 109],.bool true]) (by simp [results,Tryz.results135,go_sem, *];try rfl) rfl ⟨rfl,?_⟩
 repeat (first | with_reducible exact Below.refl _ _ | with_reducible refine zK ?_ (by first | omega | (simp;done) | (simp;omega)) _ | with_reducible refine zG ?_ _ | with_reducible refine zI ?_ HB1.out)
theorem zLr (w:World) (ht:Tab w):Calls Tryz.prog 135 #[.int .i64 22] w fun e w'=>e=.returned (.tuple #[.agg #[.string ⟨(zV 22).toArray⟩,.bool true,.bool false,.int .u8 0],.bool true])∧Below w.heap.size w w':=by
 have FW:=zA zAL
 have HT:=zA ht
 clear ht
 go_enter Tryz.func135,Tryz.ntmps135
 go_wp2_with (go_at_call 168;((with_reducible refine (FW.out _ (by decide +kernel) _ (HT.out.below (zG (Below.refl _ _) _))).mono ?_);rintro e w1 ⟨rfl,hb1,hc1⟩;have hq:=hc1 22 (by decide);simp only [World.size_alloc] at hq;have hql:=World.block_lt_of_cell? w1 _ hq;have rB:=zH hb1 (zM w 230 #[.string ⟨#[]⟩,.bool false,.bool false,.int .u8 0]);obtain ⟨r0,r1,r2,r3⟩:=zAD rB;have rL:=rB.lt;have rF:=fun i=>Bk.frozen rB i;have HB1:=zA hb1;clear hb1 hc1 rB))
 refine bodyPost_ret (v:=.tuple #[.agg #[.string ⟨(zV 22).toArray⟩,.bool true,.bool false,.int .u8 0],.bool true]) (by simp [results,Tryz.results135,go_sem, *];try rfl) rfl ⟨rfl,?_⟩
 repeat (first | with_reducible exact Below.refl _ _ | with_reducible refine zK ?_ (by first | omega | (simp;done) | (simp;omega)) _ | with_reducible refine zG ?_ _ | with_reducible refine zI ?_ HB1.out)
theorem zKZ (op:Int) (h:op < 0) (w:World) (ht:Tab w):Calls Tryz.prog 135 #[.int .i64 op] w fun e w'=>e=.returned (.tuple #[.agg #[.string ⟨([]).toArray⟩,.bool false,.bool false,.int .u8 0],.bool false])∧Below w.heap.size w w':=by
 have FW:=zA zAL
 have HT:=zA ht
 clear ht
 go_enter Tryz.func135,Tryz.ntmps135
 go_wp2_with (go_at_call 168;((with_reducible refine (FW.out _ (by decide +kernel) _ (HT.out.below (zG (Below.refl _ _) _))).mono ?_);rintro e w1 ⟨rfl,hb1,hc1⟩;have rB:=zH hb1 (zM w 230 #[.string ⟨#[]⟩,.bool false,.bool false,.int .u8 0]);obtain ⟨r0,r1,r2,r3⟩:=zAD rB;have rL:=rB.lt;have rF:=fun i=>Bk.frozen rB i;have HB1:=zA hb1;clear hb1 hc1 rB))
 refine bodyPost_ret (v:=.tuple #[.agg #[.string ⟨([]).toArray⟩,.bool false,.bool false,.int .u8 0],.bool false]) (by simp [results,Tryz.results135,go_sem, *];try rfl) rfl ⟨rfl,?_⟩
 repeat (first | with_reducible exact Below.refl _ _ | with_reducible refine zK ?_ (by first | omega | (simp;done) | (simp;omega)) _ | with_reducible refine zG ?_ _ | with_reducible refine zI ?_ HB1.out)
theorem zKa (op:Int) (h:23≤op) (w:World) (ht:Tab w):Calls Tryz.prog 135 #[.int .i64 op] w fun e w'=>e=.returned (.tuple #[.agg #[.string ⟨([]).toArray⟩,.bool false,.bool false,.int .u8 0],.bool false])∧Below w.heap.size w w':=by
 have h0:¬(op < 0):=by omega
 have FW:=zA zAL
 have HT:=zA ht
 clear ht
 go_enter Tryz.func135,Tryz.ntmps135
 go_wp2_with (go_at_call 168;((with_reducible refine (FW.out _ (by decide +kernel) _ (HT.out.below (zG (Below.refl _ _) _))).mono ?_);rintro e w1 ⟨rfl,hb1,hc1⟩;have rB:=zH hb1 (zM w 230 #[.string ⟨#[]⟩,.bool false,.bool false,.int .u8 0]);obtain ⟨r0,r1,r2,r3⟩:=zAD rB;have rL:=rB.lt;have rF:=fun i=>Bk.frozen rB i;have HB1:=zA hb1;clear hb1 hc1 rB))
 refine bodyPost_ret (v:=.tuple #[.agg #[.string ⟨([]).toArray⟩,.bool false,.bool false,.int .u8 0],.bool false]) (by simp [results,Tryz.results135,go_sem, *];try rfl) rfl ⟨rfl,?_⟩
 repeat (first | with_reducible exact Below.refl _ _ | with_reducible refine zK ?_ (by first | omega | (simp;done) | (simp;omega)) _ | with_reducible refine zG ?_ _ | with_reducible refine zI ?_ HB1.out)
theorem zEn (op:Int) (w:World) (ht:Tab w):Calls Tryz.prog 135 #[.int .i64 op] w (zIM w op (if opB op then zV op.toNat else []) (opB op)):=by
 by_cases h0:op < 0
 ·have e:opB op=false:=by unfold opB;simp;omega
  rw [e]
  exact zKZ op h0 w ht
 ·by_cases h1:23≤op
  ·have e:opB op=false:=by unfold opB;simp;omega
   rw [e]
   exact zKa op h1 w ht
  ·obtain ⟨k,hk⟩:=Int.eq_ofNat_of_zero_le (show 0≤op by omega)
   subst hk
   have hk:k < 23:=by omega
   match k,hk with
   | 0,_=>exact zNO w ht
   | 1,_=>exact zNN w ht
   | 2,_=>exact zNM w ht
   | 3,_=>exact zNL w ht
   | 4,_=>exact zNK w ht
   | 5,_=>exact zNJ w ht
   | 6,_=>exact zNI w ht
   | 7,_=>exact zNH w ht
   | 8,_=>exact zNG w ht
   | 9,_=>exact zNF w ht
   | 10,_=>exact zL3 w ht
   | 11,_=>exact zL2 w ht
   | 12,_=>exact zL1 w ht
   | 13,_=>exact zL0 w ht
   | 14,_=>exact zLz w ht
   | 15,_=>exact zLy w ht
   | 16,_=>exact zLx w ht
   | 17,_=>exact zLw w ht
   | 18,_=>exact zLv w ht
   | 19,_=>exact zLu w ht
   | 20,_=>exact zLt w ht
   | 21,_=>exact zLs w ht
   | 22,_=>exact zLr w ht
   | k+23,h=>omega
end
section
open Go.RowKit
theorem zIF (w:World):Calls Tryz.prog 136 #[.int .u8 0] w fun e w'=>e=.returned (.tuple #[.int .i64 (loC 0),.int .i64 (hiC 0)])∧w=w':=by
 go_enter Tryz.func136,Tryz.ntmps136
 go_wp2
 go_ret2
 exact ⟨rfl,rfl⟩
theorem zKJ (w:World):Calls Tryz.prog 136 #[.int .u8 109] w fun e w'=>e=.returned (.tuple #[.int .i64 (loC 109),.int .i64 (hiC 109)])∧w=w':=by
 go_enter Tryz.func136,Tryz.ntmps136
 go_wp2
 go_ret2
 exact ⟨rfl,rfl⟩
theorem zKI (w:World):Calls Tryz.prog 136 #[.int .u8 110] w fun e w'=>e=.returned (.tuple #[.int .i64 (loC 110),.int .i64 (hiC 110)])∧w=w':=by
 go_enter Tryz.func136,Tryz.ntmps136
 go_wp2
 go_ret2
 exact ⟨rfl,rfl⟩
theorem zKH (w:World):Calls Tryz.prog 136 #[.int .u8 112] w fun e w'=>e=.returned (.tuple #[.int .i64 (loC 112),.int .i64 (hiC 112)])∧w=w':=by
 go_enter Tryz.func136,Tryz.ntmps136
 go_wp2
 go_ret2
 exact ⟨rfl,rfl⟩
theorem zKG (w:World):Calls Tryz.prog 136 #[.int .u8 113] w fun e w'=>e=.returned (.tuple #[.int .i64 (loC 113),.int .i64 (hiC 113)])∧w=w':=by
 go_enter Tryz.func136,Tryz.ntmps136
 go_wp2
 go_ret2
 exact ⟨rfl,rfl⟩
theorem zKF (w:World):Calls Tryz.prog 136 #[.int .u8 114] w fun e w'=>e=.returned (.tuple #[.int .i64 (loC 114),.int .i64 (hiC 114)])∧w=w':=by
 go_enter Tryz.func136,Tryz.ntmps136
 go_wp2
 go_ret2
 exact ⟨rfl,rfl⟩
theorem zKb (op:Int):shC op=0∨shC op=109∨shC op=110∨shC op=112∨shC op=113∨shC op=114:=by
 unfold shC
 repeat' split
 all_goals simp
theorem zKE (op:Int) (w:World):Calls Tryz.prog 136 #[.int .u8 (shC op)] w fun e w'=>e=.returned (.tuple #[.int .i64 (loC (shC op)),.int .i64 (hiC (shC op))])∧w=w':=by
 rcases zKb op with h | h | h | h | h | h<;>rw [h]
 ·exact zIF w
 ·exact zKJ w
 ·exact zKI w
 ·exact zKH w
 ·exact zKG w
 ·exact zKF w
theorem zJH (n:Int) (has:Bool) (w:World):Calls Tryz.prog 137 #[.int .i64 n,.bool has] w fun e w'=>e=.returned (.bool (zCn n has))∧w=w':=by
 cases has
 ·have e:zCn n false=(n==0):=by unfold zCn;simp;rfl
  rw [e]
  go_enter Tryz.func137,Tryz.ntmps137
  go_wp2
  go_ret
  exact ⟨rfl,rfl⟩
 ·by_cases h:0≤n
  ·have e:zCn n true=decide (n < 8):=by unfold zCn;simp [h]
   rw [e]
   go_enter Tryz.func137,Tryz.ntmps137
   go_wp2
   go_ret
   exact ⟨rfl,rfl⟩
  ·have e:zCn n true=false:=by unfold zCn;simp;omega
   rw [e]
   go_enter Tryz.func137,Tryz.ntmps137
   go_wp2
   go_ret
   exact ⟨rfl,rfl⟩
theorem zEU (op a b c:Int) (w:World) (ht:Tab w):Calls Tryz.prog 105 #[.agg #[.int .i64 op,.int .i64 a,.int .i64 b,.int .i64 c]] w fun e w'=>e=.returned (.int .i64 (if zAE ⟨op,a,b,c⟩ then 0 else 1))∧Below w.heap.size w w':=by
 obtain ⟨w1,hw1⟩:∃ w1,w1=w.alloc (.cells #[.int .i64 op,.int .i64 a,.int .i64 b,.int .i64 c] 179):=⟨_,rfl⟩
 have hB:Bk w1 w.heap.size 179 #[.int .i64 op,.int .i64 a,.int .i64 b,.int .i64 c]:=by rw [hw1];exact zM _ _ _
 have h1w:Below w.heap.size w w1:=by rw [hw1];exact zG (Below.refl _ _) _
 have p0:=hB.cell 0
 simp only [List.getElem?_toArray,List.getElem?_cons_succ,List.getElem?_cons_zero] at p0
 have q1:∀ x:Later w1,x.val.cell? ⟨w.heap.size,1,none⟩=some (.int .i64 a):=fun x=>(x.bk hB).cell 1
 have q2:∀ x:Later w1,x.val.cell? ⟨w.heap.size,2,none⟩=some (.int .i64 b):=fun x=>(x.bk hB).cell 2
 have q3:∀ x:Later w1,x.val.cell? ⟨w.heap.size,3,none⟩=some (.int .i64 c):=fun x=>(x.bk hB).cell 3
 have qL:∀ x:Later w1,w.heap.size < x.val.heap.size:=fun x=>x.lt hB.lt
 have sh:=zEn op w1 (ht.below h1w)
 unfold zIM at sh
 have e0:zAE ⟨op,a,b,c⟩=(opB op&&(zCn a (shA op)&&(zCn b (shB op)&&decide (loC (shC op)≤c∧c≤hiC (shC op))))):=rfl
 rw [e0]
 have bd:=fun W=>zKE op W
 have ra:=fun W=>zJH a (shA op) W
 have rb:=fun W=>zJH b (shB op) W
 generalize shA op=sa at *
 generalize shB op=sb at *
 generalize loC (shC op)=lo at *
 generalize hiC (shC op)=hi at *
 generalize shC op=sc at *
 generalize zCn a sa=A at *
 generalize zCn b sb=B at *
 generalize (if opB op=true then zV op.toNat else [])=wd at *
 have bd0:=fun W=>zIF W
 have l0:loC 0=0:=rfl
 have h0:hiC 0=0:=rfl
 rw [l0,h0] at bd0
 have HW1:=zA hw1
 have H1W:=zA h1w
 have RA:=zA ra
 have RB:=zA rb
 cases ho:opB op
 ·rw [ho] at sh
  simp only [Bool.false_and,Bool.false_eq_true,if_false] at sh ⊢
  have SH:=zA sh
  have BD:=zA bd0
  clear sh bd bd0 ra rb l0 h0 e0 ho hw1 h1w ht hB
  go_enter Tryz.func105,Tryz.ntmps105
  go_upto_region 1 with (fail)
  rw [←HW1.out]
  go_wp2_with (first
   | (go_at_call 135;((with_reducible refine SH.out.mono ?_);rintro e w' ⟨rfl,hb⟩;obtain ⟨y,rfl⟩:=zZ (Below.refl _ _) hb;clear hb))
   | (go_at_call 136;((with_reducible refine (BD.out _).mono ?_);rintro e w' ⟨rfl,rfl⟩)))
  go_ret
  exact ⟨rfl,zG (zI H1W.out y.ok) _⟩
 ·rw [ho] at sh
  simp only [Bool.true_and,if_true] at sh ⊢
  have SH:=zA sh
  have BD:=zA bd
  clear sh bd bd0 ra rb l0 h0 e0 ho hw1 h1w ht hB
  cases A
  ·simp only [Bool.false_and,Bool.false_eq_true,if_false]
   go_enter Tryz.func105,Tryz.ntmps105
   go_upto_region 1 with (fail)
   rw [←HW1.out]
   go_wp2_with (first
    | (go_at_call 135;((with_reducible refine SH.out.mono ?_);rintro e w' ⟨rfl,hb⟩;obtain ⟨y,rfl⟩:=zZ (Below.refl _ _) hb;clear hb))
    | (go_at_call 136;((with_reducible refine (BD.out _).mono ?_);rintro e w' ⟨rfl,rfl⟩))
    | (go_at_call 137;((with_reducible refine (RA.out _).mono ?_);rintro e w' ⟨rfl,rfl⟩))
    | (go_at_call 137;((with_reducible refine (RB.out _).mono ?_);rintro e w' ⟨rfl,rfl⟩)))
   go_ret
   exact ⟨rfl,zG (zI H1W.out y.ok) _⟩
  ·cases B
   ·simp only [Bool.true_and,Bool.false_and,Bool.false_eq_true,if_false]
    go_enter Tryz.func105,Tryz.ntmps105
    go_upto_region 1 with (fail)
    rw [←HW1.out]
    go_wp2_with (first
     | (go_at_call 135;((with_reducible refine SH.out.mono ?_);rintro e w' ⟨rfl,hb⟩;obtain ⟨y,rfl⟩:=zZ (Below.refl _ _) hb;clear hb))
     | (go_at_call 136;((with_reducible refine (BD.out _).mono ?_);rintro e w' ⟨rfl,rfl⟩))
     | (go_at_call 137;((with_reducible refine (RA.out _).mono ?_);rintro e w' ⟨rfl,rfl⟩))
     | (go_at_call 137;((with_reducible refine (RB.out _).mono ?_);rintro e w' ⟨rfl,rfl⟩)))
    go_ret
    exact ⟨rfl,zG (zI H1W.out y.ok) _⟩
   ·simp only [Bool.true_and]
    by_cases c1:c < lo
    ·have e1:decide (lo≤c∧c≤hi)=false:=by simp;omega
     rw [e1]
     clear e1
     simp only [Bool.false_eq_true,if_false]
     go_enter Tryz.func105,Tryz.ntmps105
     go_upto_region 1 with (fail)
     rw [←HW1.out]
     go_wp2_with (first
      | (go_at_call 135;((with_reducible refine SH.out.mono ?_);rintro e w' ⟨rfl,hb⟩;obtain ⟨y,rfl⟩:=zZ (Below.refl _ _) hb;clear hb))
      | (go_at_call 136;((with_reducible refine (BD.out _).mono ?_);rintro e w' ⟨rfl,rfl⟩))
      | (go_at_call 137;((with_reducible refine (RA.out _).mono ?_);rintro e w' ⟨rfl,rfl⟩))
      | (go_at_call 137;((with_reducible refine (RB.out _).mono ?_);rintro e w' ⟨rfl,rfl⟩)))
     go_ret
     exact ⟨rfl,zG (zI H1W.out y.ok) _⟩
    ·by_cases c2:hi < c
     ·have e1:decide (lo≤c∧c≤hi)=false:=by simp;omega
      rw [e1]
      clear e1
      simp only [Bool.false_eq_true,if_false]
      go_enter Tryz.func105,Tryz.ntmps105
      go_upto_region 1 with (fail)
      rw [←HW1.out]
      go_wp2_with (first
       | (go_at_call 135;((with_reducible refine SH.out.mono ?_);rintro e w' ⟨rfl,hb⟩;obtain ⟨y,rfl⟩:=zZ (Below.refl _ _) hb;clear hb))
       | (go_at_call 136;((with_reducible refine (BD.out _).mono ?_);rintro e w' ⟨rfl,rfl⟩))
       | (go_at_call 137;((with_reducible refine (RA.out _).mono ?_);rintro e w' ⟨rfl,rfl⟩))
       | (go_at_call 137;((with_reducible refine (RB.out _).mono ?_);rintro e w' ⟨rfl,rfl⟩)))
      go_ret
      exact ⟨rfl,zG (zI H1W.out y.ok) _⟩
     ·have e1:decide (lo≤c∧c≤hi)=true:=by simp;omega
      rw [e1]
      clear e1
      simp only [if_true]
      go_enter Tryz.func105,Tryz.ntmps105
      go_upto_region 1 with (fail)
      rw [←HW1.out]
      go_wp2_with (first
       | (go_at_call 135;((with_reducible refine SH.out.mono ?_);rintro e w' ⟨rfl,hb⟩;obtain ⟨y,rfl⟩:=zZ (Below.refl _ _) hb;clear hb))
       | (go_at_call 136;((with_reducible refine (BD.out _).mono ?_);rintro e w' ⟨rfl,rfl⟩))
       | (go_at_call 137;((with_reducible refine (RA.out _).mono ?_);rintro e w' ⟨rfl,rfl⟩))
       | (go_at_call 137;((with_reducible refine (RB.out _).mono ?_);rintro e w' ⟨rfl,rfl⟩)))
      go_ret
      exact ⟨rfl,zG (zI H1W.out y.ok) _⟩
end
section
open Go.RowKit
theorem zCU {op a b c:Int} (h:zAE ⟨op,a,b,c⟩=true):0≤op∧op < 23∧0≤a∧a < 8∧0≤b∧b < 8 ∧ -2048≤c∧c≤2047:=by
 unfold zAE at h
 simp only [Bool.and_eq_true,decide_eq_true_eq] at h
 obtain ⟨h1,h2,h3,h4,h5⟩:=h
 have hr:∀ n has,zCn n has=true→0≤n∧n < 8:=by
  intro n has h
  unfold zCn at h
  cases has
  ·simp at h;omega
  ·simpa using h
 have ha:=hr _ _ h2
 have hb:=hr _ _ h3
 unfold opB at h1
 simp only [decide_eq_true_eq] at h1
 have hlo : -2048≤loC (shC op):=by unfold loC;split<;>omega
 have hhi : hiC (shC op) ≤ 2047 := by unfold hiC;repeat' split
                                      all_goals omega
 omega
theorem zCx (op a b c:Int) (w:World) (ht:Tab w):Calls Tryz.prog 89 #[.agg #[.int .i64 op,.int .i64 a,.int .i64 b,.int .i64 c]] w fun e w'=>e=.returned (.tuple #[.int .i64 (if zAE ⟨op,a,b,c⟩ then zBC ⟨op,a,b,c⟩ else 0),.int .i64 (if zAE ⟨op,a,b,c⟩ then 0 else 1)])∧Below w.heap.size w w':=by
 obtain ⟨w1,hw1⟩:∃ w1,w1=w.alloc (.cells #[.int .i64 op,.int .i64 a,.int .i64 b,.int .i64 c] 179):=⟨_,rfl⟩
 have hB:Bk w1 w.heap.size 179 #[.int .i64 op,.int .i64 a,.int .i64 b,.int .i64 c]:=by rw [hw1];exact zM _ _ _
 have h1w:Below w.heap.size w w1:=by rw [hw1];exact zG (Below.refl _ _) _
 have p0:=hB.cell 0
 have p1:=hB.cell 1
 have p2:=hB.cell 2
 have p3:=hB.cell 3
 simp only [List.getElem?_toArray,List.getElem?_cons_succ,List.getElem?_cons_zero] at p0 p1 p2 p3
 have q0:∀ x:Later w1,x.val.cell? ⟨w.heap.size,0,none⟩=some (.int .i64 op):=fun x=>(x.bk hB).cell 0
 have q1:∀ x:Later w1,x.val.cell? ⟨w.heap.size,1,none⟩=some (.int .i64 a):=fun x=>(x.bk hB).cell 1
 have q2:∀ x:Later w1,x.val.cell? ⟨w.heap.size,2,none⟩=some (.int .i64 b):=fun x=>(x.bk hB).cell 2
 have q3:∀ x:Later w1,x.val.cell? ⟨w.heap.size,3,none⟩=some (.int .i64 c):=fun x=>(x.bk hB).cell 3
 have qL:∀ x:Later w1,w.heap.size < x.val.heap.size:=fun x=>x.lt hB.lt
 have ck:=zEU op a b c w1 (ht.below h1w)
 have HW1:=zA hw1
 have H1W:=zA h1w
 cases hk:zAE ⟨op,a,b,c⟩
 ·rw [hk] at ck
  simp only [Bool.false_eq_true,if_false] at ck ⊢
  have CK:=zA ck
  clear ck hk hw1 h1w ht hB
  go_enter Tryz.func89,Tryz.ntmps89
  go_upto_region 1 with (fail)
  rw [←HW1.out]
  go_wp2_with (go_at_call 105;((with_reducible refine CK.out.mono ?_);rintro e w' ⟨rfl,hb⟩;obtain ⟨y,rfl⟩:=zZ (Below.refl _ _) hb;clear hb))
  go_ret2
  exact ⟨rfl,zI H1W.out y.ok⟩
 ·rw [hk] at ck
  simp only [if_true] at ck ⊢
  obtain ⟨o0,o1,a0,a1,b0,b1,c0,c1⟩:=zCU hk
  have CK:=zA ck
  clear ck hk hw1 h1w ht hB
  go_enter Tryz.func89,Tryz.ntmps89
  go_upto_region 1 with (fail)
  rw [←HW1.out]
  go_wp2_with (go_at_call 105;((with_reducible refine CK.out.mono ?_);rintro e w' ⟨rfl,hb⟩;obtain ⟨y,rfl⟩:=zZ (Below.refl _ _) hb;clear hb))
  go_ret2
  exact ⟨zOJ (zOG (by unfold zBC;simp only;omega)) rfl,zI H1W.out y.ok⟩
theorem zGd (n:Int) (k:Nat) (hk:k < 62) (hn:I64 n):bits .and .i64 n (2 ^ k - 1:Nat)=n % (2 ^ k:Nat):=by
 have hp:0 < 2 ^ k:=Nat.two_pow_pos k
 have hp2:2 ^ k≤2 ^ 62:=Nat.pow_le_pow_right (by omega) (by omega)
 have hm:bv ((2 ^ k - 1:Nat):Int)=BitVec.ofNat 64 (2 ^ k - 1):=by unfold bv;exact BitVec.ofInt_natCast _ _
 rw [zBq,hm]
 have h1:(bv n &&& BitVec.ofNat 64 (2 ^ k - 1)).toNat=(bv n).toNat % 2 ^ k:=by
  rw [BitVec.toNat_and,BitVec.toNat_ofNat,Nat.mod_eq_of_lt (by omega),Nat.and_two_pow_sub_one_eq_mod]
 have h2:(bv n).toNat=(n % 2 ^ 64).toNat:=by unfold bv;rw [BitVec.toNat_ofInt];rfl
 have hl:=Nat.mod_lt (bv n).toNat hp
 rw [BitVec.toInt_eq_toNat_of_lt (by rw [h1];omega),h1,h2,Int.natCast_emod,Int.toNat_of_nonneg (Int.emod_nonneg _ (by decide))]
 refine Int.emod_emod_of_dvd n ?_
 refine ⟨(2 ^ (64 - k):Nat),?_⟩
 have:(2:Nat) ^ 64=2 ^ k*2 ^ (64 - k):=by rw [←Nat.pow_add];congr 1;omega
 exact_mod_cast this
theorem zOj (n:Int) (hn:I64 n):bits .and .i64 n 31=n % 32:=zGd n 5 (by omega) hn
theorem zM5 (n:Int) (hn:I64 n):bits .and .i64 n 7=n % 8:=zGd n 3 (by omega) hn
theorem zLF (n:Int) (hn:I64 n) (w:World) (ht:Tab w):Calls Tryz.prog 108 #[.int .i64 n] w fun e w'=>e=.returned (.tuple #[.agg #[.int .i64 (if zAE (zAp n) then (zAp n).op else 0),.int .i64 (if zAE (zAp n) then (zAp n).a else 0),.int .i64 (if zAE (zAp n) then (zAp n).b else 0),.int .i64 (if zAE (zAp n) then (zAp n).c else 0)],.int .i64 (if zAE (zAp n) then 0 else 5)])∧Below w.heap.size w w':=by
 have h1:=hn.1
 have h2:=hn.2
 have a1:=zOj n hn
 have a2:=zM5 (n / 32) (by constructor<;>omega)
 have a3:=zM5 (n / 256) (by constructor<;>omega)
 obtain ⟨w1,hw1⟩:∃ w1,w1=w.alloc (.cells #[.int .i64 0,.int .i64 0,.int .i64 0,.int .i64 0] 179):=⟨_,rfl⟩
 obtain ⟨w2,hw2⟩:∃ w2,w2=w1.alloc (.cells #[.int .i64 (n % 32),.int .i64 (n / 32 % 8),.int .i64 (n / 256 % 8),.int .i64 (n / 2048 - 2047 - 1)] 179):=⟨_,rfl⟩
 have s1:w1.heap.size=w.heap.size+1:=by rw [hw1,World.size_alloc]
 have hA:Bk w1 w.heap.size 179 #[.int .i64 0,.int .i64 0,.int .i64 0,.int .i64 0]:=by rw [hw1];exact zM _ _ _
 have h1w:Below w.heap.size w w1:=by rw [hw1];exact zG (Below.refl _ _) _
 have hB:Bk w2 (w.heap.size+1) 179 #[.int .i64 (n % 32),.int .i64 (n / 32 % 8),.int .i64 (n / 256 % 8),.int .i64 (n / 2048 - 2047 - 1)]:=by rw [hw2,←s1];exact zM _ _ _
 have h12:Below w1.heap.size w1 w2:=by rw [hw2];exact zG (Below.refl _ _) _
 have hA2:Bk w2 w.heap.size 179 #[.int .i64 0,.int .i64 0,.int .i64 0,.int .i64 0]:=zH h12 hA
 have h2w:Below w.heap.size w w2:=zI h1w h12
 have p0:∀ x:Later w2,x.val.cell? ⟨w.heap.size+1,0,none⟩=some (.int .i64 (n % 32)):=fun x=>(x.bk hB).cell 0
 have p1:∀ x:Later w2,x.val.cell? ⟨w.heap.size+1,1,none⟩=some (.int .i64 (n / 32 % 8)):=fun x=>(x.bk hB).cell 1
 have p2:∀ x:Later w2,x.val.cell? ⟨w.heap.size+1,2,none⟩=some (.int .i64 (n / 256 % 8)):=fun x=>(x.bk hB).cell 2
 have p3:∀ x:Later w2,x.val.cell? ⟨w.heap.size+1,3,none⟩=some (.int .i64 (n / 2048 - 2047 - 1)):=fun x=>(x.bk hB).cell 3
 have q0:∀ x:Later w2,x.val.cell? ⟨w.heap.size,0,none⟩=some (.int .i64 0):=fun x=>(x.bk hA2).cell 0
 have q1:∀ x:Later w2,x.val.cell? ⟨w.heap.size,1,none⟩=some (.int .i64 0):=fun x=>(x.bk hA2).cell 1
 have q2:∀ x:Later w2,x.val.cell? ⟨w.heap.size,2,none⟩=some (.int .i64 0):=fun x=>(x.bk hA2).cell 2
 have q3:∀ x:Later w2,x.val.cell? ⟨w.heap.size,3,none⟩=some (.int .i64 0):=fun x=>(x.bk hA2).cell 3
 have qF:∀ (x:Later w2) i,x.val.frozen? ⟨w.heap.size,i,none⟩=false:=fun x i=>(x.bk hA2).frozen i
 have qL:∀ x:Later w2,w.heap.size < x.val.heap.size:=fun x=>x.lt hA2.lt
 have qM:∀ x:Later w2,w.heap.size+1 < x.val.heap.size:=fun x=>x.lt hB.lt
 have PK:=zCx (n % 32) (n / 32 % 8) (n / 256 % 8) (n / 2048 - 2047 - 1) w2 (ht.below h2w)
 have hu:(⟨n % 32,n / 32 % 8,n / 256 % 8,n / 2048 - 2047 - 1⟩:InstV)=zAp n:=by unfold zAp;ext<;>simp only;omega
 rw [hu,zIh] at PK
 have HW1:=zA hw1
 have HW2:=zA hw2
 have H2W:=zA h2w
 have HA2:=zA hA2
 cases hk:zAE (zAp n)
 ·rw [hk] at PK
  simp only [Bool.false_eq_true,if_false] at PK ⊢
  have CK:=zA PK
  clear PK hk hw1 hw2 h1w h2w h12 ht hB hA hA2 hu hn s1
  go_enter Tryz.func108,Tryz.ntmps108
  go_wp2_with (go_at_call 89;rw [←HW1.out,←HW2.out];((with_reducible refine CK.out.mono ?_);rintro e w' ⟨rfl,hb⟩;obtain ⟨y,rfl⟩:=zZ (Below.refl _ _) hb;clear hb))
  have Z:Bk ((((y.val.setCell ⟨w.heap.size,0,none⟩ (.int .i64 0)).setCell ⟨w.heap.size,1,none⟩ (.int .i64 0)).setCell ⟨w.heap.size,2,none⟩ (.int .i64 0)).setCell ⟨w.heap.size,3,none⟩ (.int .i64 0)) w.heap.size 179 #[.int .i64 0,.int .i64 0,.int .i64 0,.int .i64 0]:=zAg 3 _ (zAg 2 _ (zAg 1 _ (zAg 0 _ (y.bk HA2.out))))
  obtain ⟨z0,z1,z2,z3⟩:=zAD Z
  have zF:=fun i=>Bk.frozen Z i
  have zL:=Z.lt
  refine bodyPost_ret (v:=.tuple #[.agg #[.int .i64 0,.int .i64 0,.int .i64 0,.int .i64 0],.int .i64 5]) (by simp [results,Tryz.results108,go_sem,z0,z1,z2,z3,zL];try rfl) rfl ⟨rfl,zK (zK (zK (zK (zI H2W.out y.ok) (Nat.le_refl _) _) (Nat.le_refl _) _) (Nat.le_refl _) _) (Nat.le_refl _) _⟩
 ·rw [hk] at PK
  simp only [if_true] at PK ⊢
  have CK:=zA PK
  clear PK hk hw1 hw2 h1w h2w h12 ht hB hA hA2 hu hn s1
  have e0:(n != n)=false:=by simp
  go_enter Tryz.func108,Tryz.ntmps108
  go_wp2_with (go_at_call 89;rw [←HW1.out,←HW2.out];((with_reducible refine CK.out.mono ?_);rintro e w' ⟨rfl,hb⟩;obtain ⟨y,rfl⟩:=zZ (Below.refl _ _) hb;clear hb))
  have Z:Bk ((((y.val.setCell ⟨w.heap.size,0,none⟩ (.int .i64 (n % 32))).setCell ⟨w.heap.size,1,none⟩ (.int .i64 (n / 32 % 8))).setCell ⟨w.heap.size,2,none⟩ (.int .i64 (n / 256 % 8))).setCell ⟨w.heap.size,3,none⟩ (.int .i64 (n / 2048 - 2047 - 1))) w.heap.size 179 #[.int .i64 (n % 32),.int .i64 (n / 32 % 8),.int .i64 (n / 256 % 8),.int .i64 (n / 2048 - 2047 - 1)]:=zAg 3 _ (zAg 2 _ (zAg 1 _ (zAg 0 _ (y.bk HA2.out))))
  obtain ⟨z0,z1,z2,z3⟩:=zAD Z
  have zF:=fun i=>Bk.frozen Z i
  have zL:=Z.lt
  refine bodyPost_ret (v:=.tuple #[.agg #[.int .i64 (n % 32),.int .i64 (n / 32 % 8),.int .i64 (n / 256 % 8),.int .i64 (n / 2048 - 2047 - 1)],.int .i64 0]) (by simp [results,Tryz.results108,go_sem,z0,z1,z2,z3,zL];try rfl) rfl ⟨?_,zK (zK (zK (zK (zI H2W.out y.ok) (Nat.le_refl _) _) (Nat.le_refl _) _) (Nat.le_refl _) _) (Nat.le_refl _) _⟩
  unfold zAp
  simp only
  exact congrArg (fun c=>Ending.returned (.tuple #[.agg #[.int .i64 (n % 32),.int .i64 (n / 32 % 8),.int .i64 (n / 256 % 8),.int .i64 c],.int .i64 0])) (by omega)
end
section
open Go.RowKit
end
end Go.Proofs.YtlpejagkadalbaaGreatDoor
