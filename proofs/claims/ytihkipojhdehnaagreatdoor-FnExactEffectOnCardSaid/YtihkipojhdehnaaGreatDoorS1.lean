/-
  DERIVED: THE SHELF's CONTRACTS AT THIS DUMP, IN PLAIN WORDS (tools/lay-plain.mjs out of 'TryzSx.lean', which tools/lay-shelf.mjs wrote): THE SAME DECLARATIONS UNDER THE SAME NAMES: 'import', 'namespace', 'open', 'def', 'theorem' AND NOTHING ELSE: no command of the shelf's: FOR A HAND-IN. Each laying: the table of numbers ('.._ren') and one theorem, a field a fact of the dump's own or the kernel's comparison; each contract: ONE APPLICATION.
-/
import Derived.Shelf.Strings.SlTrimAscii
import Derived.Shelf.Strings.Search1
import Derived.Test.YtihkipojhdehnaaGreatDoorProg

namespace Go.Proofs
open Go.Shelf
def Tryz.lays160_ren : Go.Shelf.Ren := ⟨fun | 160 => 228 | 232 => 236 | 231 => 235 | 227 => 237 | 234 => 239 | 233 => 238 | 236 => 241 | 235 => 240 | 228 => 249 | 271 => 252 | 151 => 251 | 197 => 250 | 120 => 263 | 152 => 262 | 260 => 261 | 137 => 229 | 119 => 266 | 224 => 267 | 225 => 268 | 217 => 242 | 266 => 253 | n => n, fun | 9 => 9 | 4 => 4 | 3 => 3 | 5 => 5 | 117 => 297 | 116 => 296 | 0 => 0 | 124 => 300 | 21 => 21 | 105 => 303 | 46 => 253 | 119 => 311 | 139 => 314 | 138 => 313 | n => n, fun | 3 => 1 | 4 => 2 | n => n⟩
theorem Tryz.lays160 : Go.Proofs.Lays.n160 Tryz.prog Tryz.lays160_ren := {
  mixed := by kernel_rfl
  f119 := Tryz.func266.trans (congrArg some (by kernel_rfl))
  f120 := Tryz.func263.trans (congrArg some (by kernel_rfl))
  f137 := Tryz.func229.trans (congrArg some (by kernel_rfl))
  f151 := Tryz.func251.trans (congrArg some (by kernel_rfl))
  f152 := Tryz.func262.trans (congrArg some (by kernel_rfl))
  f160 := Tryz.func228.trans (congrArg some (by kernel_rfl))
  f197 := Tryz.func250.trans (congrArg some (by kernel_rfl))
  f217 := Tryz.func242.trans (congrArg some (by kernel_rfl))
  f224 := Tryz.func267.trans (congrArg some (by kernel_rfl))
  f225 := Tryz.func268.trans (congrArg some (by kernel_rfl))
  f227 := Tryz.func237.trans (congrArg some (by kernel_rfl))
  f228 := Tryz.func249.trans (congrArg some (by kernel_rfl))
  f231 := Tryz.func235.trans (congrArg some (by kernel_rfl))
  f232 := Tryz.func236.trans (congrArg some (by kernel_rfl))
  f233 := Tryz.func238.trans (congrArg some (by kernel_rfl))
  f234 := Tryz.func239.trans (congrArg some (by kernel_rfl))
  f235 := Tryz.func240.trans (congrArg some (by kernel_rfl))
  f236 := Tryz.func241.trans (congrArg some (by kernel_rfl))
  f260 := Tryz.func261.trans (congrArg some (by kernel_rfl))
  f266 := Tryz.func253.trans (congrArg some (by kernel_rfl))
  f271 := Tryz.func252.trans (congrArg some (by kernel_rfl))
  t0 := Tryz.underlying0
  a0 := Tryz.isAgg0
  z0 := Tryz.sizeOf0
  v0 := Tryz.zeroValue0
  t3 := Tryz.underlying3
  a3 := Tryz.isAgg3
  z3 := Tryz.sizeOf3
  v3 := Tryz.zeroValue3
  t4 := Tryz.underlying4
  a4 := Tryz.isAgg4
  z4 := Tryz.sizeOf4
  v4 := Tryz.zeroValue4
  t5 := Tryz.underlying5
  a5 := Tryz.isAgg5
  z5 := Tryz.sizeOf5
  v5 := Tryz.zeroValue5
  t9 := Tryz.underlying9
  a9 := Tryz.isAgg9
  z9 := Tryz.sizeOf9
  v9 := Tryz.zeroValue9
  t21 := Tryz.underlying21
  a21 := Tryz.isAgg21
  z21 := Tryz.sizeOf21
  v21 := Tryz.zeroValue21
  t46 := Tryz.underlying253
  a46 := Tryz.isAgg253
  z46 := Tryz.sizeOf253
  v46 := Tryz.zeroValue253
  t105 := Tryz.underlying303
  a105 := Tryz.isAgg303
  z105 := Tryz.sizeOf303
  v105 := Tryz.zeroValue303
  t116 := Tryz.underlying296
  a116 := Tryz.isAgg296
  z116 := Tryz.sizeOf296
  t117 := Tryz.underlying297
  a117 := Tryz.isAgg297
  z117 := Tryz.sizeOf297
  v117 := Tryz.zeroValue297
  t119 := Tryz.underlying311
  a119 := Tryz.isAgg311
  z119 := Tryz.sizeOf311
  t124 := Tryz.underlying300
  a124 := Tryz.isAgg300
  z124 := Tryz.sizeOf300
  v124 := Tryz.zeroValue300
  t138 := Tryz.underlying313
  a138 := Tryz.isAgg313
  z138 := Tryz.sizeOf313
  v138 := Tryz.zeroValue313
  t139 := Tryz.underlying314
  a139 := Tryz.isAgg314
  z139 := Tryz.sizeOf314
  v139 := Tryz.zeroValue314
  g3 := by kernel_rfl
  g4 := by kernel_rfl }
open Go.RowKit in
/-- strings.Trim at an ASCII cutset. -/
theorem Tryz.strings_Trim_any (s cutset : ByteArray) (w : World) (hs : s.size ≤ 9223372036854775807) (hcs : cutset.size < 4294967281) (ha : cutset.data.toList.all (fun b => decide (b.toNat < 128)) = true) :
    Calls Tryz.prog 228 #[.string s, .string cutset] w fun e w' => e = .returned (.string ⟨(Lib.trimS s.data.toList cutset.data.toList).toArray⟩) ∧ Below w.heap.size w w' := Any.strings_Trim_laid Tryz.lays160 (by kernel_rfl) s cutset w hs hcs (ascii_of_all ha)
def Tryz.lays137_ren : Go.Shelf.Ren := ⟨fun | 137 => 229 | 217 => 242 | 266 => 253 | n => n, fun | 9 => 9 | 5 => 5 | 3 => 3 | n => n, fun | n => n⟩
theorem Tryz.lays137 : Go.Proofs.Lays.n137 Tryz.prog Tryz.lays137_ren := {
  mixed := by kernel_rfl
  f137 := Tryz.func229.trans (congrArg some (by kernel_rfl))
  f217 := Tryz.func242.trans (congrArg some (by kernel_rfl))
  f266 := Tryz.func253.trans (congrArg some (by kernel_rfl))
  t3 := Tryz.underlying3
  a3 := Tryz.isAgg3
  z3 := Tryz.sizeOf3
  v3 := Tryz.zeroValue3
  t5 := Tryz.underlying5
  a5 := Tryz.isAgg5
  z5 := Tryz.sizeOf5
  v5 := Tryz.zeroValue5
  t9 := Tryz.underlying9
  a9 := Tryz.isAgg9
  z9 := Tryz.sizeOf9
  v9 := Tryz.zeroValue9 }
open Go.RowKit in
/-- strings.IndexByte: the place of the first instance of c in s, or -1. -/
theorem Tryz.strings_IndexByte (s : ByteArray) (c : Int) (w : World) :
    Calls Tryz.prog 229 #[.string s, .int .u8 c] w fun e w' => e = .returned (.int .i64 (Lib.indexByte s.data.toList c.toNat.toUInt8)) ∧ w' = w := Any.strings_IndexByte Tryz.lays137 s c w
end Go.Proofs
