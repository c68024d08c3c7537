import Derived.Deep.RegionHeld3
import Derived.Test.YtpjhjefjbkjhkaaGreatDoorPk01
import Derived.WalkKit
import Derived.Lib.Join
import Derived.Lib.LastIndexByte
import Derived.Test.YtpjhjefjbkjhkaaGreatDoorPk00
import Derived.Test.YtpjhjefjbkjhkaaGreatDoorPk26
set_option maxHeartbeats 40000000
set_option maxRecDepth 100000
set_option linter.unusedVariables false
set_option linter.unusedSimpArgs false
namespace Go.Proofs.YtpjhjefjbkjhkaaGreatDoor
open Go.RowKit
theorem step_append_run2 {P : Program} {ops : Array Oper} {o : Oper} {a : Act} {w : World} {K : Act → World → Prop} {Q : Exit → Act → World → Prop} {E : Prop}
  (hg : o.guard = none) (d x : Operand) (dT sT : TypeId) (hop : o.op = Op.call { callee := Callee.builtin Builtin.append, args := #[d, x], argTypes := #[dT, sT] })
  (v u : Value) (hd : a.eval d = v) (hx : a.eval x = u) {v' : Value} {w' : World} (hr : (Builtin.append_ #[dT, sT] o.type #[v, u]).run P w = .ok v' w') (hK : K (a.put o.dst v') w') :
  if Region.wanted o (yielded ops a.tmps) = true then Oper.wp P o a w K Q else E := by
 have hw : Region.wanted o (yielded ops a.tmps) = true := by simp [Region.wanted, hg]
 rw [if_pos hw]
 unfold Oper.wp
 simp [execOp, hop, resolve, invoke, builtin, hd, hx, hr, Result.andThen]
 exact hK
end Go.Proofs.YtpjhjefjbkjhkaaGreatDoor
namespace Go.Proofs.YtpjhjefjbkjhkaaGreatDoor
open Go Go.RowKit
def ba (l : List UInt8) : ByteArray := ⟨l.toArray⟩
theorem ba_back (s : ByteArray) : ba s.data.toList = s := ByteArray.ext (by simp [ba])
structure HoleV where
 line : Int
 at_ : Int
 i : InstV
 name : ByteArray
structure RdV where
 code : List Int
 labels : List NamV
 holes : List HoleV
def rd0 : RdV := ⟨[], [], []⟩
def findA (l : List NamV) (s : ByteArray) : Int :=
 match l.find? (fun x => decide (x.name = s)) with
 | some x => x.at_
 | none => -1
def labelR (r : RdV) (s : ByteArray) : RdV × Int :=
 if isNameB s = false then (r, 3) else if 0 ≤ findA r.labels s then (r, 8) else if r.labels.length = 20 then (r, 9)
 else (⟨r.code, r.labels ++ [⟨s, r.code.length⟩], r.holes⟩, 0)
def wordP : List UInt8 := [119, 111, 114, 100, 32]
def lastSp (s : List UInt8) : Int := Lib.lastIndexByte (ba s) 32
def holeI (s : List UInt8) : InstV × Int := parseF (s.take (lastSp s).toNat ++ [32, 48])
def holeN (s : List UInt8) : ByteArray := ba (s.drop ((lastSp s).toNat + 1))
def holeB (s : List UInt8) : Bool := decide (0 ≤ lastSp s) && isNameB (holeN s) && decide ((holeI s).2 = 0) && (decide ((holeI s).1.op = 8) || decide ((holeI s).1.op = 9))
def numB (l : List UInt8) : Bool := decide (Lib.atoiAll l = .ok (atoiV l)) && decide (Lib.itoa (atoiV l) = l) && num32B (atoiV l)
def cellR (r : RdV) (n : Int) (s : List UInt8) : RdV × Int :=
 if Lib.hasPrefix s wordP = true then
  if numB (s.drop 5) = true then (⟨r.code ++ [atoiV (s.drop 5)], r.labels, r.holes⟩, 0) else (r, 3)
 else if holeB s = true then (⟨r.code ++ [0], r.labels, r.holes ++ [⟨n, r.code.length, (holeI s).1, holeN s⟩]⟩, 0)
 else if (parseF s).2 = 0 then (⟨r.code ++ [packF (parseF s).1], r.labels, r.holes⟩, 0) else (r, 3)
def lineR (r : RdV) (n : Int) (s : List UInt8) : RdV × Int :=
 if 80 < s.length then (r, 2)
 else if Lib.hasSuffix s [58] = true then labelR r (ba (Lib.trimSuffix s [58]))
 else if s = [] then (r, 0)
 else cellR r n s
def linesR (r : RdV) (n : Nat) : List (List UInt8) → RdV × Int × Int
 | [] => (r, 0, 0)
 | s :: l => if (lineR r (n + 1) s).2 = 0 then linesR (lineR r (n + 1) s).1 (n + 1) l else ((lineR r (n + 1) s).1, n + 1, (lineR r (n + 1) s).2)
def HoleV.filled (h : HoleV) (labels : List NamV) : InstV := ⟨h.i.op, h.i.a, h.i.b, findA labels h.name - h.at_⟩
def holesR (labels : List NamV) (code : List Int) : List HoleV → List Int × Int × Int
 | [] => (code, 0, 0)
 | h :: l => if findA labels h.name < 0 then (code, h.line, 7)
  else if instOk (h.filled labels) = true then holesR labels (code.set h.at_.toNat (packF (h.filled labels))) l else (code, h.line, 13)
structure ReadV where
 code : List Int
 labels : List NamV
 line : Int
 er : Int
def readF (text : List UInt8) : ReadV :=
 if 150 < (splitC 10 text).length then ⟨[], [], 0, 2⟩
 else if (linesR rd0 0 (splitC 10 text)).2.2 ≠ 0 then ⟨[], [], (linesR rd0 0 (splitC 10 text)).2.1, (linesR rd0 0 (splitC 10 text)).2.2⟩
 else
  if (holesR (linesR rd0 0 (splitC 10 text)).1.labels (linesR rd0 0 (splitC 10 text)).1.code (linesR rd0 0 (splitC 10 text)).1.holes).2.2 ≠ 0 then ⟨[], [], (holesR (linesR rd0 0 (splitC 10 text)).1.labels (linesR rd0 0 (splitC 10 text)).1.code (linesR rd0 0 (splitC 10 text)).1.holes).2.1, (holesR (linesR rd0 0 (splitC 10 text)).1.labels (linesR rd0 0 (splitC 10 text)).1.code (linesR rd0 0 (splitC 10 text)).1.holes).2.2⟩
  else ⟨(holesR (linesR rd0 0 (splitC 10 text)).1.labels (linesR rd0 0 (splitC 10 text)).1.code (linesR rd0 0 (splitC 10 text)).1.holes).1, (linesR rd0 0 (splitC 10 text)).1.labels, 0, 0⟩
theorem lines_cons (r : RdV) (n : Nat) (s : List UInt8) (l : List (List UInt8)) : linesR r n (s :: l) = if (lineR r (n + 1) s).2 = 0 then linesR (lineR r (n + 1) s).1 (n + 1) l else ((lineR r (n + 1) s).1, n + 1, (lineR r (n + 1) s).2) := rfl
theorem holes_cons (labels : List NamV) (code : List Int) (h : HoleV) (l : List HoleV) : holesR labels code (h :: l) = if findA labels h.name < 0 then (code, h.line, 7) else if instOk (h.filled labels) = true then holesR labels (code.set h.at_.toNat (packF (h.filled labels))) l else (code, h.line, 13) := rfl
theorem lines_app : ∀ (a b : List (List UInt8)) (r : RdV) (n : Nat), (linesR r n a).2.2 = 0 → linesR r n (a ++ b) = linesR (linesR r n a).1 (n + a.length) b
 | [], b, r, n, _ => rfl
 | s :: a, b, r, n, h => by
  rw [List.cons_append, lines_cons, lines_cons]
  rw [lines_cons] at h
  by_cases h0 : (lineR r (n + 1) s).2 = 0
  ·rw [if_pos h0] at h
   rw [if_pos h0, if_pos h0, lines_app a b _ _ h, List.length_cons]
   congr 1; omega
  ·rw [if_neg h0] at h
   exact absurd h h0
theorem lines_bad : ∀ (a b : List (List UInt8)) (r : RdV) (n : Nat), (linesR r n a).2.2 ≠ 0 → linesR r n (a ++ b) = linesR r n a
 | [], b, r, n, h => absurd rfl h
 | s :: a, b, r, n, h => by
  rw [List.cons_append, lines_cons, lines_cons]
  rw [lines_cons] at h
  by_cases h0 : (lineR r (n + 1) s).2 = 0
  ·rw [if_pos h0] at h
   rw [if_pos h0, if_pos h0, lines_bad a b _ _ h]
  ·rw [if_neg h0, if_neg h0]
end Go.Proofs.YtpjhjefjbkjhkaaGreatDoor
namespace Go.Proofs.YtpjhjefjbkjhkaaGreatDoor
open Go Go.RowKit
theorem opK {i : InstV} (h : instOk i = true) : 0 ≤ i.op ∧ i.op.toNat < 23 := by
 have h1 := (instOk_bd (op := i.op) (a := i.a) (b := i.b) (c := i.c) h)
 omega
end Go.Proofs.YtpjhjefjbkjhkaaGreatDoor
namespace Go.Proofs.YtpjhjefjbkjhkaaGreatDoor
open Go Go.RowKit
structure Sim (r r' : RdV) : Prop where
 code : r.code = r'.code
 labels : r.labels = r'.labels
 holes : r.holes.map (fun h => (h.at_, h.i, h.name)) = r'.holes.map (fun h => (h.at_, h.i, h.name))
theorem Sim.refl (r : RdV) : Sim r r := ⟨rfl, rfl, rfl⟩
theorem Sim.line {r r' : RdV} (h : Sim r r') (n n' : Int) (s : List UInt8) : Sim (lineR r n s).1 (lineR r' n' s).1 ∧ (lineR r n s).2 = (lineR r' n' s).2 := by
 obtain ⟨c, l, o⟩ := r
 obtain ⟨c', l', o'⟩ := r'
 obtain ⟨h1, h2, h3⟩ := h
 simp only at h1 h2 h3
 subst h1 h2
 unfold lineR
 split
 ·exact ⟨⟨rfl, rfl, h3⟩, rfl⟩
 split
 ·unfold labelR
  split
  ·exact ⟨⟨rfl, rfl, h3⟩, rfl⟩
  split
  ·exact ⟨⟨rfl, rfl, h3⟩, rfl⟩
  split
  ·exact ⟨⟨rfl, rfl, h3⟩, rfl⟩
  ·exact ⟨⟨rfl, rfl, h3⟩, rfl⟩
 split
 ·exact ⟨⟨rfl, rfl, h3⟩, rfl⟩
 ·unfold cellR
  split
  ·split
   ·exact ⟨⟨rfl, rfl, h3⟩, rfl⟩
   ·exact ⟨⟨rfl, rfl, h3⟩, rfl⟩
  split
  ·refine ⟨⟨rfl, rfl, ?_⟩, rfl⟩
   simp only [List.map_append, h3, List.map_cons, List.map_nil]
  split
  ·exact ⟨⟨rfl, rfl, h3⟩, rfl⟩
  ·exact ⟨⟨rfl, rfl, h3⟩, rfl⟩
theorem holes_len : ∀ (hs : List HoleV) (labels : List NamV) (code : List Int), (holesR labels code hs).1.length = code.length
 | [], _, _ => rfl
 | h :: hs, labels, code => by
  rw [holes_cons]
  split
  ·rfl
  split
  ·rw [holes_len hs]; simp
  ·rfl
end Go.Proofs.YtpjhjefjbkjhkaaGreatDoor
