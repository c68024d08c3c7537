/- Seeking: worlds in which the set alone turns; does a key count? -/
import Derived.Test.YtcdcmbehnccicaaReachKey
import Derived.Test.YtcdcmbehnccicaaKeys
import Derived.Deep.RegionHeld3
namespace Go.Proofs.Ytcdcmbehnccicaa
open Go.RowKit
open Go.Maps (Keyed)
set_option linter.unusedVariables false
set_option linter.unusedSimpArgs false
section
variable {b g n : Nat} {W W' W'' w0 : World} {T : TypeId} {cs : Array Value}
abbrev Grw (b : Nat) (W W' : World) : Prop := W.grownBy W' (some b)
theorem grw_refl : Grw b W W := ⟨rfl, rfl, rfl, Nat.le_refl _, fun _ _ _ => rfl⟩
theorem grw_trans (h : Grw b W W') (h' : Grw b W' W'') : Grw b W W'' :=
  ⟨h'.os.trans h.os, h'.tape.trans h.tape, h'.output.trans h.output, Nat.le_trans h.size h'.size, fun i hi hn => (h'.block i (Nat.lt_of_lt_of_le hi h.size) hn).trans (h.block i hi hn)⟩
theorem grw_of (h : Below W.heap.size W W') : Grw b W W' := ⟨h.os, h.tape, h.output, h.size, fun i hi _ => h.block i hi⟩
theorem grw_bk (h : Grw b W W') (hb : Bk W g T cs) (hn : g ≠ b) : Bk W' g T cs := (h.block g hb.lt (fun e => hn (Option.some.inj e))).trans hb
theorem grw_below (h : Grw b W W') (hw : Below w0.heap.size w0 W) (hb : w0.heap.size ≤ b) : Below w0.heap.size w0 W' :=
  ⟨h.os.trans hw.os, h.tape.trans hw.tape, h.output.trans hw.output, Nat.le_trans hw.size h.size, fun i hi => (h.block i (Nat.lt_of_lt_of_le hi hw.size) (fun e => by have := Option.some.inj e; omega)).trans (hw.block i hi)⟩
end
section
variable {gs b : Nat} {d : Bool} {mem : List ValV} {ma : Option Addr} {mc : Nat} {S S' : List KeyV} {W W' : World}
theorem SeekSt.step (h : SeekSt gs b d mem ma mc S W) (hg : Grw b W W') (ho : W'.ownsMap Try.prog 23 (unitElem (H := Unit)) b S'.length (setD S')) (hw : ∀ x ∈ S', x.Ok) : SeekSt gs b d mem ma mc S' W' := by
  refine ⟨grw_bk hg h.bk h.ne, ho, ?_, hw⟩
  rcases Nat.eq_zero_or_pos mem.length with e | hp
  · exact ⟨h.sl.len, h.sl.max, fun hn => absurd hn (by omega)⟩
  · refine h.sl.grown hg fun a e hl he => ?_
    obtain ⟨a', e', _, hv, _⟩ := sl_val h.sl hp
    rw [e] at e'
    injection e' with e'
    subst e'
    obtain ⟨es, c, h1, _⟩ := h.own
    injection he with he
    have : (a.add (0 * 7)).block = b := by rw [el_block]; exact he
    unfold World.cell? at hv
    rw [this, h1] at hv
    cases hv
theorem SeekSt.same (h : SeekSt gs b d mem ma mc S W) (hb : Below W.heap.size W W') : SeekSt gs b d mem ma mc S W' := h.below hb
end
set_option maxHeartbeats 4000000 in
theorem counts_any {gs b : Nat} {d : Bool} {mem : List ValV} {ma : Option Addr} {mc : Nat} {S : List KeyV} {W : World} (h : SeekSt gs b d mem ma mc S W) (p bb l a s : Int) :
    Calls Try.prog 28 #[.pointer (some ⟨gs, 0, none⟩), .agg #[.int .i64 p, .int .i64 bb, .int .i64 l, .int .i64 a, .int .i64 s]] W fun e w' => e = .returned (.bool (countsB d ⟨p, bb, l, a, s⟩)) ∧ Below W.heap.size W w' := by
  have c2 := h.bk.cell 2
  have gL := h.bk.lt
  have e2 : W.cell? ⟨gs, 2, none⟩ = some (.bool d) := c2
  clear c2 h
  unfold countsB
  cases d
  · go_enter Try.func28, Try.ntmps28
    go_wp2
    go_ret
    exact ⟨by simp; rfl, ext_alloc (Below.refl _ _) _⟩
  · go_enter Try.func28, Try.ntmps28
    go_wp2
    go_ret
    exact ⟨by simp, ext_alloc (Below.refl _ _) _⟩
end Go.Proofs.Ytcdcmbehnccicaa
