/- Instructions as plain data: no program in sight. -/
import Derived.Test.YtkcnhagpjnhiiaaDoorMath
namespace Go.Proofs.YtkcnhagpjnhiiaaDoor
open Go.RowKit
set_option linter.unusedVariables false
@[ext] structure InstV where
  op : Int
  a : Int
  b : Int
  c : Int
deriving DecidableEq
def InstV.val (i : InstV) : Value := .agg #[.int .i64 i.op, .int .i64 i.a, .int .i64 i.b, .int .i64 i.c]
def zeroI : InstV := ⟨0, 0, 0, 0⟩
/-- Which of A and B an Op has, and what C is. -/
def shA (op : Int) : Bool := !(op == 0 || op == 19 || op == 8 || op == 21)
def shB (op : Int) : Bool := !(op == 0 || op == 19 || op == 20 || op == 22 || op == 1 || op == 9 || op == 8 || op == 21)
def shC (op : Int) : Int :=
  if op = 0 ∨ op = 19 ∨ op = 20 ∨ op = 22 ∨ op = 2 ∨ op = 18 then 0 else if op = 1 ∨ op = 9 ∨ op = 8 ∨ op = 10 ∨ op = 11 then 110
  else if op = 21 then 109 else if op = 14 then 112 else if op = 17 then 113 else 114
def loC (c : Int) : Int := if c = 110 then -2048 else 0
def hiC (c : Int) : Int := if c = 110 then 2047 else if c = 114 then 7 else if c = 112 then 127 else if c = 113 then 5 else if c = 109 then 255 else 0
def regB (n : Int) (has : Bool) : Bool := if has then decide (0 ≤ n ∧ n < 8) else decide (n = 0)
def opB (op : Int) : Bool := decide (0 ≤ op ∧ op < 23)
def instOk (i : InstV) : Bool := opB i.op && (regB i.a (shA i.op) && (regB i.b (shB i.op) && decide (loC (shC i.op) ≤ i.c ∧ i.c ≤ hiC (shC i.op))))
def packF (i : InstV) : Int := i.op + i.a * 32 + i.b * 256 + (i.c + 2048) * 2048
def unpack (n : Int) : InstV := ⟨n % 32, n / 32 % 8, n / 256 % 8, n / 2048 - 2048⟩
theorem pack_unpack (n : Int) : packF (unpack n) = n := by unfold packF unpack; simp only; omega
/-- The words of the instructions, and each of them. -/
def wordsL : List UInt8 := [104, 97, 108, 116, 32, 115, 101, 116, 32, 99, 111, 112, 121, 32, 97, 100, 100, 32, 115, 117, 98, 32, 109, 117, 108, 32, 100, 105, 118, 32, 108, 101, 115, 115, 32, 106, 117, 109, 112, 32, 105, 102, 32, 108, 111, 97, 100, 32, 115, 116, 111, 114, 101, 32, 109, 111, 118, 101, 32, 110, 97, 114, 114, 111, 119, 32, 100, 114, 111, 112, 32, 115, 101, 97, 108, 32, 111, 112, 101, 110, 32, 97, 115, 107, 32, 99, 97, 108, 108, 32, 98, 97, 99, 107, 32, 104, 101, 114, 101, 32, 99, 108, 101, 97, 114, 32, 116, 101, 108, 108]
def wordL (op : Nat) : List UInt8 := ([[104, 97, 108, 116], [115, 101, 116], [99, 111, 112, 121], [97, 100, 100], [115, 117, 98], [109, 117, 108], [100, 105, 118], [108, 101, 115, 115], [106, 117, 109, 112], [105, 102], [108, 111, 97, 100], [115, 116, 111, 114, 101], [109, 111, 118, 101], [110, 97, 114, 114, 111, 119], [100, 114, 111, 112], [115, 101, 97, 108], [111, 112, 101, 110], [97, 115, 107], [99, 97, 108, 108], [98, 97, 99, 107], [104, 101, 114, 101], [99, 108, 101, 97, 114], [116, 101, 108, 108]] : List (List UInt8)).getD op []
end Go.Proofs.YtkcnhagpjnhiiaaDoor
