/- Sweeping as a plain function. -/
import Derived.Test.YtlbhnkbchiklnaaMachMath
namespace Go.Proofs.Ytlbhnkbchiklnaa
open Go.RowKit
set_option linter.unusedVariables false
set_option linter.unusedSimpArgs false
def hitsB (b n : Int) (k : KeyV) : Bool := decide (0 < k.len ∧ 0 < n ∧ k.base < b + n ∧ b < k.base + k.len)
def swK (b n : Int) (k : KeyV) : KeyV := if hitsB b n k then zeroK else k
def swV (b n : Int) (v : ValV) : ValV := if v.is && hitsB b n v.k then zeroV else v
def swF (b n : Int) (f : FrameV) : FrameV := ⟨swK b n f.code, swV b n f.data⟩
def ctK (b n : Int) (k : KeyV) : Int := if hitsB b n k then 1 else 0
def ctV (b n : Int) (v : ValV) : Int := if v.is && hitsB b n v.k then 1 else 0
def ctF (b n : Int) (f : FrameV) : Int := ctK b n f.code + ctV b n f.data
def sumV (b n : Int) : List ValV → Int
  | [] => 0
  | v :: vs => ctV b n v + sumV b n vs
def sumF (b n : Int) : List FrameV → Int
  | [] => 0
  | f :: fs => ctF b n f + sumF b n fs
def swCount (b n : Int) (R : List ValV) (c : KeyV) (mem : List ValV) (stk : List FrameV) : Int := ctK b n c + sumV b n R + sumV b n mem + sumF b n stk
theorem ctK_bd (b n : Int) (k : KeyV) : 0 ≤ ctK b n k ∧ ctK b n k ≤ 1 := by unfold ctK; split <;> omega
theorem ctV_bd (b n : Int) (v : ValV) : 0 ≤ ctV b n v ∧ ctV b n v ≤ 1 := by unfold ctV; split <;> omega
theorem sumV_bd (b n : Int) : ∀ vs : List ValV, 0 ≤ sumV b n vs ∧ sumV b n vs ≤ vs.length
  | [] => by simp [sumV]
  | v :: vs => by
    have := sumV_bd b n vs
    have := ctV_bd b n v
    rw [sumV, List.length_cons]
    omega
theorem sumF_bd (b n : Int) : ∀ vs : List FrameV, 0 ≤ sumF b n vs ∧ sumF b n vs ≤ 2 * vs.length
  | [] => by simp [sumF]
  | v :: vs => by
    have := sumF_bd b n vs
    have := ctV_bd b n v.data
    have := ctK_bd b n v.code
    rw [sumF, List.length_cons]
    unfold ctF
    omega
theorem sumV_snoc (b n : Int) (vs : List ValV) (v : ValV) : sumV b n (vs ++ [v]) = sumV b n vs + ctV b n v := by
  induction vs with
  | nil => simp [sumV]
  | cons x xs ih => rw [List.cons_append, sumV, sumV, ih]; omega
theorem sumF_snoc (b n : Int) (vs : List FrameV) (v : FrameV) : sumF b n (vs ++ [v]) = sumF b n vs + ctF b n v := by
  induction vs with
  | nil => simp [sumF]
  | cons x xs ih => rw [List.cons_append, sumF, sumF, ih]; omega
theorem hits_zero (b n : Int) : hitsB b n zeroK = false := by unfold hitsB zeroK; simp
theorem swK_hits (b n : Int) (k : KeyV) : hitsB b n (swK b n k) = false := by
  unfold swK
  cases h : hitsB b n k
  · simp [h]
  · simp [hits_zero]
theorem swV_hits (b n : Int) (v : ValV) : ((swV b n v).is && hitsB b n (swV b n v).k) = false := by
  unfold swV
  cases h : v.is && hitsB b n v.k
  · simpa using h
  · simp [zeroV]
theorem swK_idem (b n : Int) (k : KeyV) : swK b n (swK b n k) = swK b n k := by rw [show swK b n (swK b n k) = if hitsB b n (swK b n k) then zeroK else swK b n k from rfl, swK_hits]; rfl
theorem swV_idem (b n : Int) (v : ValV) : swV b n (swV b n v) = swV b n v := by rw [show swV b n (swV b n v) = if (swV b n v).is && hitsB b n (swV b n v).k then zeroV else swV b n v from rfl, swV_hits]; rfl
theorem swF_idem (b n : Int) (f : FrameV) : swF b n (swF b n f) = swF b n f := by unfold swF; rw [swK_idem, swV_idem]
theorem ctK_swept (b n : Int) (k : KeyV) : ctK b n (swK b n k) = 0 := by unfold ctK; rw [swK_hits]; rfl
theorem ctV_swept (b n : Int) (v : ValV) : ctV b n (swV b n v) = 0 := by unfold ctV; rw [swV_hits]; rfl
theorem sumV_swept (b n : Int) (vs : List ValV) : sumV b n (vs.map (swV b n)) = 0 := by
  induction vs with
  | nil => rfl
  | cons v vs ih => rw [List.map_cons, sumV, ctV_swept, ih]; rfl
theorem sumF_swept (b n : Int) (vs : List FrameV) : sumF b n (vs.map (swF b n)) = 0 := by
  induction vs with
  | nil => rfl
  | cons v vs ih => rw [List.map_cons, sumF, ih]; unfold ctF swF; simp only; rw [ctK_swept, ctV_swept]; rfl
theorem swCount_swept (b n : Int) (R : List ValV) (c : KeyV) (mem : List ValV) (stk : List FrameV) : swCount b n (R.map (swV b n)) (swK b n c) (mem.map (swV b n)) (stk.map (swF b n)) = 0 := by
  unfold swCount; rw [ctK_swept, sumV_swept, sumV_swept, sumF_swept]; rfl
theorem swK_ok {b n : Int} {k : KeyV} (h : k.Ok) : (swK b n k).Ok := by unfold swK; split; exact zeroK_ok; exact h
theorem zeroV_ok : zeroV.Ok := .inr ⟨rfl, by decide, by decide, rfl⟩
theorem swV_ok {b n : Int} {v : ValV} (h : v.Ok) : (swV b n v).Ok := by unfold swV; split; exact zeroV_ok; exact h
theorem swept_ok {b n : Int} {R : List ValV} {c : KeyV} {mem : List ValV} {stk : List FrameV} {out : List Int} (h : MOk R c mem stk out) : MOk (R.map (swV b n)) (swK b n c) (mem.map (swV b n)) (stk.map (swF b n)) out := by
  refine ⟨fun v hv => ?_, swK_ok h.code, by simpa using h.len, fun v hv => ?_, by simpa using h.deep, fun f hf => ?_, h.told, h.out⟩
  · obtain ⟨x, hx, rfl⟩ := List.mem_map.1 hv; exact swV_ok (h.regs x hx)
  · obtain ⟨x, hx, rfl⟩ := List.mem_map.1 hv; exact swV_ok (h.mem x hx)
  · obtain ⟨x, hx, rfl⟩ := List.mem_map.1 hf; exact ⟨swK_ok (h.stk x hx).1, swV_ok (h.stk x hx).2⟩
/-- Two sweeps in either order. -/
theorem swK_comm (b n d m : Int) (k : KeyV) : swK d m (swK b n k) = swK b n (swK d m k) := by
  unfold swK
  cases h1 : hitsB b n k <;> cases h2 : hitsB d m k <;> simp [h1, h2, hits_zero]
theorem swV_comm (b n d m : Int) (v : ValV) : swV d m (swV b n v) = swV b n (swV d m v) := by
  unfold swV
  cases h1 : v.is && hitsB b n v.k <;> cases h2 : v.is && hitsB d m v.k <;> simp [h1, h2] <;> simp [zeroV]
theorem swF_comm (b n d m : Int) (f : FrameV) : swF d m (swF b n f) = swF b n (swF d m f) := by unfold swF; rw [swK_comm, swV_comm]
theorem ctK_comm (b n d m : Int) (k : KeyV) : ctK b n k + ctK d m (swK b n k) = ctK d m k + ctK b n (swK d m k) := by
  unfold swK ctK
  cases h1 : hitsB b n k <;> cases h2 : hitsB d m k <;> simp [h1, h2, hits_zero]
theorem ctV_comm (b n d m : Int) (v : ValV) : ctV b n v + ctV d m (swV b n v) = ctV d m v + ctV b n (swV d m v) := by
  unfold swV ctV
  cases h1 : v.is && hitsB b n v.k <;> cases h2 : v.is && hitsB d m v.k <;> simp [h1, h2] <;> simp [zeroV]
theorem sumV_comm (b n d m : Int) (vs : List ValV) : sumV b n vs + sumV d m (vs.map (swV b n)) = sumV d m vs + sumV b n (vs.map (swV d m)) := by
  induction vs with
  | nil => rfl
  | cons v vs ih => simp only [List.map_cons, sumV]; have := ctV_comm b n d m v; omega
theorem sumF_comm (b n d m : Int) (vs : List FrameV) : sumF b n vs + sumF d m (vs.map (swF b n)) = sumF d m vs + sumF b n (vs.map (swF d m)) := by
  induction vs with
  | nil => rfl
  | cons v vs ih => simp only [List.map_cons, sumF]; unfold ctF swF; simp only; have h1 := ctK_comm b n d m v.code; have h2 := ctV_comm b n d m v.data; unfold swF at ih; omega
theorem swCount_comm (b n d m : Int) (R : List ValV) (c : KeyV) (mem : List ValV) (stk : List FrameV) :
    swCount b n R c mem stk + swCount d m (R.map (swV b n)) (swK b n c) (mem.map (swV b n)) (stk.map (swF b n)) = swCount d m R c mem stk + swCount b n (R.map (swV d m)) (swK d m c) (mem.map (swV d m)) (stk.map (swF d m)) := by
  have h1 := ctK_comm b n d m c
  have h2 := sumV_comm b n d m R
  have h3 := sumV_comm b n d m mem
  have h4 := sumF_comm b n d m stk
  unfold swCount
  omega
end Go.Proofs.Ytlbhnkbchiklnaa
