/-
  DERIVED: THE SHELF's CONTRACTS AT THIS DUMP, IN PLAIN WORDS (tools/lay-plain.mjs out of 'TrydShelf.lean', which tools/lay-shelf.mjs wrote): THE SAME DECLARATIONS UNDER THE SAME NAMES: 'import', 'namespace', 'open', 'def', 'theorem' AND NOTHING ELSE: no command of the shelf's: FOR A HAND-IN. Each laying: the table of numbers ('.._ren') and one theorem, a field a fact of the dump's own or the kernel's comparison; each contract: ONE APPLICATION.
-/
import Derived.Shelf.Strings.Fields
import Derived.Test.YtmmmmeeepieemaaDoorProg
namespace Go.Proofs
open Go.Shelf
def Tryd.lays157_ren : Go.Shelf.Ren := ⟨fun | 157 => 89 | 229 => 109 | 199 => 110 | 261 => 120 | 311 => 125 | 312 => 126 | n => n, fun | 9 => 9 | 31 => 171 | 3 => 3 | 5 => 5 | 4 => 4 | 119 => 163 | 0 => 0 | 40 => 127 | 152 => 193 | 21 => 21 | 154 => 195 | 51 => 170 | 141 => 197 | 196 => 204 | 193 => 201 | 198 => 207 | 49 => 205 | 194 => 202 | 201 => 210 | 226 => 212 | 46 => 128 | 227 => 213 | n => n, fun | 0 => 3 | 6 => 4 | n => n⟩
theorem Tryd.lays157 : Go.Proofs.Lays.n157 Tryd.prog Tryd.lays157_ren := {
  mixed := by kernel_rfl
  f157 := Tryd.func89.trans (congrArg some (by kernel_rfl))
  f199 := Tryd.func110.trans (congrArg some (by kernel_rfl))
  f229 := Tryd.func109.trans (congrArg some (by kernel_rfl))
  f261 := Tryd.func120.trans (congrArg some (by kernel_rfl))
  f311 := Tryd.func125.trans (congrArg some (by kernel_rfl))
  f312 := Tryd.func126.trans (congrArg some (by kernel_rfl))
  t0 := Tryd.underlying0
  a0 := Tryd.isAgg0
  z0 := Tryd.sizeOf0
  v0 := Tryd.zeroValue0
  t3 := Tryd.underlying3
  a3 := Tryd.isAgg3
  z3 := Tryd.sizeOf3
  v3 := Tryd.zeroValue3
  t4 := Tryd.underlying4
  a4 := Tryd.isAgg4
  z4 := Tryd.sizeOf4
  v4 := Tryd.zeroValue4
  t5 := Tryd.underlying5
  a5 := Tryd.isAgg5
  z5 := Tryd.sizeOf5
  v5 := Tryd.zeroValue5
  t9 := Tryd.underlying9
  a9 := Tryd.isAgg9
  z9 := Tryd.sizeOf9
  v9 := Tryd.zeroValue9
  t21 := Tryd.underlying21
  a21 := Tryd.isAgg21
  z21 := Tryd.sizeOf21
  v21 := Tryd.zeroValue21
  t31 := Tryd.underlying171
  a31 := Tryd.isAgg171
  z31 := Tryd.sizeOf171
  v31 := Tryd.zeroValue171
  t40 := Tryd.underlying127
  a40 := Tryd.isAgg127
  z40 := Tryd.sizeOf127
  v40 := Tryd.zeroValue127
  t46 := Tryd.underlying128
  a46 := Tryd.isAgg128
  z46 := Tryd.sizeOf128
  v46 := Tryd.zeroValue128
  t49 := Tryd.underlying205
  a49 := Tryd.isAgg205
  z49 := Tryd.sizeOf205
  v49 := Tryd.zeroValue205
  t51 := Tryd.underlying170
  a51 := Tryd.isAgg170
  z51 := Tryd.sizeOf170
  v51 := Tryd.zeroValue170
  t119 := Tryd.underlying163
  a119 := Tryd.isAgg163
  z119 := Tryd.sizeOf163
  t141 := Tryd.underlying197
  a141 := Tryd.isAgg197
  z141 := Tryd.sizeOf197
  v141 := Tryd.zeroValue197
  t152 := Tryd.underlying193
  a152 := Tryd.isAgg193
  z152 := Tryd.sizeOf193
  v152 := Tryd.zeroValue193
  t154 := Tryd.underlying195
  a154 := Tryd.isAgg195
  z154 := Tryd.sizeOf195
  v154 := Tryd.zeroValue195
  t193 := Tryd.underlying201
  a193 := Tryd.isAgg201
  z193 := Tryd.sizeOf201
  v193 := Tryd.zeroValue201
  t194 := Tryd.underlying202
  a194 := Tryd.isAgg202
  z194 := Tryd.sizeOf202
  v194 := Tryd.zeroValue202
  t196 := Tryd.underlying204
  a196 := Tryd.isAgg204
  z196 := Tryd.sizeOf204
  v196 := Tryd.zeroValue204
  t198 := Tryd.underlying207
  a198 := Tryd.isAgg207
  z198 := Tryd.sizeOf207
  v198 := Tryd.zeroValue207
  t201 := Tryd.underlying210
  a201 := Tryd.isAgg210
  z201 := Tryd.sizeOf210
  v201 := Tryd.zeroValue210
  t226 := Tryd.underlying212
  a226 := Tryd.isAgg212
  z226 := Tryd.sizeOf212
  v226 := Tryd.zeroValue212
  t227 := Tryd.underlying213
  a227 := Tryd.isAgg213
  z227 := Tryd.sizeOf213
  v227 := Tryd.zeroValue213
  g0 := by kernel_rfl
  g6 := by kernel_rfl }
open Go.RowKit Go.Lib in
/-- strings.Fields, the table by 'Lib.TabIs' (as strings.TrimSpace's contract). 'hg': the table's number, by its name: at a dump 'by kernel_rfl'. (LAID: no walk: one application.) -/
theorem Tryd.strings_Fields (s : ByteArray) (w : World) (hs : s.size < 4294967281) (hascii : ∀ (j : Nat) b, s.data.toList[j]? = some b → b.toNat < 128) (htab : Lib.TabIs Tryd.prog w "strings.asciiSpace" .u8 Lib.asciiSpaceTab) :
    Calls Tryd.prog 89 #[.string s] w fun e w' =>
      e = .returned (.slice (some ⟨w.heap.size, 0, none⟩) (Lib.fields s.data.toList).length (Lib.fields s.data.toList).length) ∧ w' = w.alloc (.cells ((Lib.fields s.data.toList).map fun l => Value.string ⟨l.toArray⟩).toArray 9) := Any.strings_Fields Tryd.lays157 (by kernel_rfl) (by kernel_rfl) s w hs hascii htab
end Go.Proofs
