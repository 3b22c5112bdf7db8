/-
  DERIVED: THE SHELF's CONTRACTS AT THIS DUMP, IN PLAIN WORDS (tools/lay-plain.mjs out of 'TryzSx.lean', which tools/lay-shelf.mjs wrote): THE SAME DECLARATIONS UNDER THE SAME NAMES: 'import', 'namespace', 'open', 'def', 'theorem' AND NOTHING ELSE: no command of the shelf's: FOR A HAND-IN. Each laying: the table of numbers ('.._ren') and one theorem, a field a fact of the dump's own or the kernel's comparison; each contract: ONE APPLICATION.
-/
import Derived.Shelf.Strings.SlTrimAscii
import Derived.Shelf.Strings.Search1
import Derived.Test.YtbmbbkjleheokaaGreatDoorProg

namespace Go.Proofs
open Go.Shelf
def Tryz.lays160_ren : Go.Shelf.Ren := ⟨fun | 160 => 197 | 232 => 249 | 231 => 248 | 227 => 250 | 234 => 252 | 233 => 251 | 236 => 254 | 235 => 253 | 228 => 275 | 271 => 278 | 151 => 277 | 197 => 276 | 120 => 291 | 152 => 290 | 260 => 289 | 137 => 198 | 119 => 301 | 224 => 302 | 225 => 303 | 217 => 255 | 266 => 279 | n => n, fun | 9 => 9 | 4 => 4 | 3 => 3 | 5 => 5 | 117 => 318 | 116 => 317 | 0 => 0 | 124 => 321 | 21 => 21 | 105 => 342 | 46 => 338 | 119 => 355 | 139 => 358 | 138 => 357 | n => n, fun | 3 => 1 | 4 => 2 | n => n⟩
theorem Tryz.lays160 : Go.Proofs.Lays.n160 Tryz.prog Tryz.lays160_ren := {
  mixed := by kernel_rfl
  f119 := Tryz.func301.trans (congrArg some (by kernel_rfl))
  f120 := Tryz.func291.trans (congrArg some (by kernel_rfl))
  f137 := Tryz.func198.trans (congrArg some (by kernel_rfl))
  f151 := Tryz.func277.trans (congrArg some (by kernel_rfl))
  f152 := Tryz.func290.trans (congrArg some (by kernel_rfl))
  f160 := Tryz.func197.trans (congrArg some (by kernel_rfl))
  f197 := Tryz.func276.trans (congrArg some (by kernel_rfl))
  f217 := Tryz.func255.trans (congrArg some (by kernel_rfl))
  f224 := Tryz.func302.trans (congrArg some (by kernel_rfl))
  f225 := Tryz.func303.trans (congrArg some (by kernel_rfl))
  f227 := Tryz.func250.trans (congrArg some (by kernel_rfl))
  f228 := Tryz.func275.trans (congrArg some (by kernel_rfl))
  f231 := Tryz.func248.trans (congrArg some (by kernel_rfl))
  f232 := Tryz.func249.trans (congrArg some (by kernel_rfl))
  f233 := Tryz.func251.trans (congrArg some (by kernel_rfl))
  f234 := Tryz.func252.trans (congrArg some (by kernel_rfl))
  f235 := Tryz.func253.trans (congrArg some (by kernel_rfl))
  f236 := Tryz.func254.trans (congrArg some (by kernel_rfl))
  f260 := Tryz.func289.trans (congrArg some (by kernel_rfl))
  f266 := Tryz.func279.trans (congrArg some (by kernel_rfl))
  f271 := Tryz.func278.trans (congrArg some (by kernel_rfl))
  t0 := Tryz.underlying0
  a0 := Tryz.isAgg0
  z0 := Tryz.sizeOf0
  v0 := Tryz.zeroValue0
  t3 := Tryz.underlying3
  a3 := Tryz.isAgg3
  z3 := Tryz.sizeOf3
  v3 := Tryz.zeroValue3
  t4 := Tryz.underlying4
  a4 := Tryz.isAgg4
  z4 := Tryz.sizeOf4
  v4 := Tryz.zeroValue4
  t5 := Tryz.underlying5
  a5 := Tryz.isAgg5
  z5 := Tryz.sizeOf5
  v5 := Tryz.zeroValue5
  t9 := Tryz.underlying9
  a9 := Tryz.isAgg9
  z9 := Tryz.sizeOf9
  v9 := Tryz.zeroValue9
  t21 := Tryz.underlying21
  a21 := Tryz.isAgg21
  z21 := Tryz.sizeOf21
  v21 := Tryz.zeroValue21
  t46 := Tryz.underlying338
  a46 := Tryz.isAgg338
  z46 := Tryz.sizeOf338
  v46 := Tryz.zeroValue338
  t105 := Tryz.underlying342
  a105 := Tryz.isAgg342
  z105 := Tryz.sizeOf342
  v105 := Tryz.zeroValue342
  t116 := Tryz.underlying317
  a116 := Tryz.isAgg317
  z116 := Tryz.sizeOf317
  t117 := Tryz.underlying318
  a117 := Tryz.isAgg318
  z117 := Tryz.sizeOf318
  v117 := Tryz.zeroValue318
  t119 := Tryz.underlying355
  a119 := Tryz.isAgg355
  z119 := Tryz.sizeOf355
  t124 := Tryz.underlying321
  a124 := Tryz.isAgg321
  z124 := Tryz.sizeOf321
  v124 := Tryz.zeroValue321
  t138 := Tryz.underlying357
  a138 := Tryz.isAgg357
  z138 := Tryz.sizeOf357
  v138 := Tryz.zeroValue357
  t139 := Tryz.underlying358
  a139 := Tryz.isAgg358
  z139 := Tryz.sizeOf358
  v139 := Tryz.zeroValue358
  g3 := by kernel_rfl
  g4 := by kernel_rfl }
open Go.RowKit in
theorem Tryz.strings_Trim_any (s cutset : ByteArray) (w : World) (hs : s.size ≤ 9223372036854775807) (hcs : cutset.size < 4294967281) (ha : cutset.data.toList.all (fun b => decide (b.toNat < 128)) = true) :
    Calls Tryz.prog 197 #[.string s, .string cutset] w fun e w' => e = .returned (.string ⟨(Lib.trimS s.data.toList cutset.data.toList).toArray⟩) ∧ Below w.heap.size w w' := Any.strings_Trim_laid Tryz.lays160 (by kernel_rfl) s cutset w hs hcs (ascii_of_all ha)
def Tryz.lays137_ren : Go.Shelf.Ren := ⟨fun | 137 => 198 | 217 => 255 | 266 => 279 | n => n, fun | 9 => 9 | 5 => 5 | 3 => 3 | n => n, fun | n => n⟩
theorem Tryz.lays137 : Go.Proofs.Lays.n137 Tryz.prog Tryz.lays137_ren := {
  mixed := by kernel_rfl
  f137 := Tryz.func198.trans (congrArg some (by kernel_rfl))
  f217 := Tryz.func255.trans (congrArg some (by kernel_rfl))
  f266 := Tryz.func279.trans (congrArg some (by kernel_rfl))
  t3 := Tryz.underlying3
  a3 := Tryz.isAgg3
  z3 := Tryz.sizeOf3
  v3 := Tryz.zeroValue3
  t5 := Tryz.underlying5
  a5 := Tryz.isAgg5
  z5 := Tryz.sizeOf5
  v5 := Tryz.zeroValue5
  t9 := Tryz.underlying9
  a9 := Tryz.isAgg9
  z9 := Tryz.sizeOf9
  v9 := Tryz.zeroValue9 }
open Go.RowKit in
theorem Tryz.strings_IndexByte (s : ByteArray) (c : Int) (w : World) :
    Calls Tryz.prog 198 #[.string s, .int .u8 c] w fun e w' => e = .returned (.int .i64 (Lib.indexByte s.data.toList c.toNat.toUInt8)) ∧ w' = w := Any.strings_IndexByte Tryz.lays137 s c w
end Go.Proofs
