/-
  DERIVED: THE SHELF's CONTRACTS AT THIS DUMP, IN PLAIN WORDS (tools/lay-plain.mjs out of 'TrydShelf.lean', which tools/lay-shelf.mjs wrote): THE SAME DECLARATIONS UNDER THE SAME NAMES: 'import', 'namespace', 'open', 'def', 'theorem' AND NOTHING ELSE: no command of the shelf's: FOR A HAND-IN. Each laying: the table of numbers ('.._ren') and one theorem, a field a fact of the dump's own or the kernel's comparison; each contract: ONE APPLICATION.
-/
import Derived.Shelf.Strings.Fields
import Derived.Test.YtmffdgeebhpacaaDoorProg
namespace Go.Proofs
open Go.Shelf
def Tryd.lays157_ren : Go.Shelf.Ren := ⟨fun | 157 => 105 | 229 => 134 | 199 => 135 | 261 => 150 | 311 => 156 | 312 => 157 | n => n, fun | 9 => 9 | 31 => 185 | 3 => 3 | 5 => 5 | 4 => 4 | 119 => 208 | 0 => 0 | 40 => 193 | 152 => 225 | 21 => 21 | 154 => 227 | 51 => 205 | 141 => 229 | 196 => 238 | 193 => 235 | 198 => 241 | 49 => 239 | 194 => 236 | 201 => 244 | 226 => 246 | 46 => 147 | 227 => 247 | n => n, fun | 0 => 0 | 6 => 1 | n => n⟩
theorem Tryd.lays157 : Go.Proofs.Lays.n157 Tryd.prog Tryd.lays157_ren := {
  mixed := by kernel_rfl
  f157 := Tryd.func105.trans (congrArg some (by kernel_rfl))
  f199 := Tryd.func135.trans (congrArg some (by kernel_rfl))
  f229 := Tryd.func134.trans (congrArg some (by kernel_rfl))
  f261 := Tryd.func150.trans (congrArg some (by kernel_rfl))
  f311 := Tryd.func156.trans (congrArg some (by kernel_rfl))
  f312 := Tryd.func157.trans (congrArg some (by kernel_rfl))
  t0 := Tryd.underlying0
  a0 := Tryd.isAgg0
  z0 := Tryd.sizeOf0
  v0 := Tryd.zeroValue0
  t3 := Tryd.underlying3
  a3 := Tryd.isAgg3
  z3 := Tryd.sizeOf3
  v3 := Tryd.zeroValue3
  t4 := Tryd.underlying4
  a4 := Tryd.isAgg4
  z4 := Tryd.sizeOf4
  v4 := Tryd.zeroValue4
  t5 := Tryd.underlying5
  a5 := Tryd.isAgg5
  z5 := Tryd.sizeOf5
  v5 := Tryd.zeroValue5
  t9 := Tryd.underlying9
  a9 := Tryd.isAgg9
  z9 := Tryd.sizeOf9
  v9 := Tryd.zeroValue9
  t21 := Tryd.underlying21
  a21 := Tryd.isAgg21
  z21 := Tryd.sizeOf21
  v21 := Tryd.zeroValue21
  t31 := Tryd.underlying185
  a31 := Tryd.isAgg185
  z31 := Tryd.sizeOf185
  v31 := Tryd.zeroValue185
  t40 := Tryd.underlying193
  a40 := Tryd.isAgg193
  z40 := Tryd.sizeOf193
  v40 := Tryd.zeroValue193
  t46 := Tryd.underlying147
  a46 := Tryd.isAgg147
  z46 := Tryd.sizeOf147
  v46 := Tryd.zeroValue147
  t49 := Tryd.underlying239
  a49 := Tryd.isAgg239
  z49 := Tryd.sizeOf239
  v49 := Tryd.zeroValue239
  t51 := Tryd.underlying205
  a51 := Tryd.isAgg205
  z51 := Tryd.sizeOf205
  v51 := Tryd.zeroValue205
  t119 := Tryd.underlying208
  a119 := Tryd.isAgg208
  z119 := Tryd.sizeOf208
  t141 := Tryd.underlying229
  a141 := Tryd.isAgg229
  z141 := Tryd.sizeOf229
  v141 := Tryd.zeroValue229
  t152 := Tryd.underlying225
  a152 := Tryd.isAgg225
  z152 := Tryd.sizeOf225
  v152 := Tryd.zeroValue225
  t154 := Tryd.underlying227
  a154 := Tryd.isAgg227
  z154 := Tryd.sizeOf227
  v154 := Tryd.zeroValue227
  t193 := Tryd.underlying235
  a193 := Tryd.isAgg235
  z193 := Tryd.sizeOf235
  v193 := Tryd.zeroValue235
  t194 := Tryd.underlying236
  a194 := Tryd.isAgg236
  z194 := Tryd.sizeOf236
  v194 := Tryd.zeroValue236
  t196 := Tryd.underlying238
  a196 := Tryd.isAgg238
  z196 := Tryd.sizeOf238
  v196 := Tryd.zeroValue238
  t198 := Tryd.underlying241
  a198 := Tryd.isAgg241
  z198 := Tryd.sizeOf241
  v198 := Tryd.zeroValue241
  t201 := Tryd.underlying244
  a201 := Tryd.isAgg244
  z201 := Tryd.sizeOf244
  v201 := Tryd.zeroValue244
  t226 := Tryd.underlying246
  a226 := Tryd.isAgg246
  z226 := Tryd.sizeOf246
  v226 := Tryd.zeroValue246
  t227 := Tryd.underlying247
  a227 := Tryd.isAgg247
  z227 := Tryd.sizeOf247
  v227 := Tryd.zeroValue247
  g0 := by kernel_rfl
  g6 := by kernel_rfl }
open Go.RowKit Go.Lib in
/-- strings.Fields, the table by 'Lib.TabIs' (as strings.TrimSpace's contract). 'hg': the table's number, by its name: at a dump 'by kernel_rfl'. (LAID: no walk: one application.) -/
theorem Tryd.strings_Fields (s : ByteArray) (w : World) (hs : s.size < 4294967281) (hascii : ∀ (j : Nat) b, s.data.toList[j]? = some b → b.toNat < 128) (htab : Lib.TabIs Tryd.prog w "strings.asciiSpace" .u8 Lib.asciiSpaceTab) :
    Calls Tryd.prog 105 #[.string s] w fun e w' =>
      e = .returned (.slice (some ⟨w.heap.size, 0, none⟩) (Lib.fields s.data.toList).length (Lib.fields s.data.toList).length) ∧ w' = w.alloc (.cells ((Lib.fields s.data.toList).map fun l => Value.string ⟨l.toArray⟩).toArray 9) := Any.strings_Fields Tryd.lays157 (by kernel_rfl) (by kernel_rfl) s w hs hascii htab
end Go.Proofs
