/-
  DERIVED: THE SHELF's CONTRACTS AT THIS DUMP, IN PLAIN WORDS (tools/lay-plain.mjs out of 'TryzSx.lean', which tools/lay-shelf.mjs wrote): THE SAME DECLARATIONS UNDER THE SAME NAMES: 'import', 'namespace', 'open', 'def', 'theorem' AND NOTHING ELSE: no command of the shelf's: FOR A HAND-IN. Each laying: the table of numbers ('.._ren') and one theorem, a field a fact of the dump's own or the kernel's comparison; each contract: ONE APPLICATION.
-/
import Derived.Shelf.Strings.SlTrimAscii
import Derived.Shelf.Strings.Search1
import Derived.Test.YtpiadipmfbjlbaaGreatDoorProg

namespace Go.Proofs
open Go.Shelf
def Tryz.lays160_ren : Go.Shelf.Ren := ⟨fun | 160 => 257 | 232 => 286 | 231 => 285 | 227 => 287 | 234 => 289 | 233 => 288 | 236 => 291 | 235 => 290 | 228 => 304 | 271 => 307 | 151 => 306 | 197 => 305 | 120 => 322 | 152 => 321 | 260 => 320 | 137 => 258 | 119 => 332 | 224 => 333 | 225 => 334 | 217 => 292 | 266 => 308 | n => n, fun | 9 => 9 | 4 => 4 | 3 => 3 | 5 => 5 | 117 => 383 | 116 => 382 | 0 => 0 | 124 => 386 | 21 => 21 | 105 => 395 | 46 => 221 | 119 => 409 | 139 => 412 | 138 => 411 | n => n, fun | 3 => 1 | 4 => 2 | n => n⟩
theorem Tryz.lays160 : Go.Proofs.Lays.n160 Tryz.prog Tryz.lays160_ren := {
  mixed := by kernel_rfl
  f119 := Tryz.func332.trans (congrArg some (by kernel_rfl))
  f120 := Tryz.func322.trans (congrArg some (by kernel_rfl))
  f137 := Tryz.func258.trans (congrArg some (by kernel_rfl))
  f151 := Tryz.func306.trans (congrArg some (by kernel_rfl))
  f152 := Tryz.func321.trans (congrArg some (by kernel_rfl))
  f160 := Tryz.func257.trans (congrArg some (by kernel_rfl))
  f197 := Tryz.func305.trans (congrArg some (by kernel_rfl))
  f217 := Tryz.func292.trans (congrArg some (by kernel_rfl))
  f224 := Tryz.func333.trans (congrArg some (by kernel_rfl))
  f225 := Tryz.func334.trans (congrArg some (by kernel_rfl))
  f227 := Tryz.func287.trans (congrArg some (by kernel_rfl))
  f228 := Tryz.func304.trans (congrArg some (by kernel_rfl))
  f231 := Tryz.func285.trans (congrArg some (by kernel_rfl))
  f232 := Tryz.func286.trans (congrArg some (by kernel_rfl))
  f233 := Tryz.func288.trans (congrArg some (by kernel_rfl))
  f234 := Tryz.func289.trans (congrArg some (by kernel_rfl))
  f235 := Tryz.func290.trans (congrArg some (by kernel_rfl))
  f236 := Tryz.func291.trans (congrArg some (by kernel_rfl))
  f260 := Tryz.func320.trans (congrArg some (by kernel_rfl))
  f266 := Tryz.func308.trans (congrArg some (by kernel_rfl))
  f271 := Tryz.func307.trans (congrArg some (by kernel_rfl))
  t0 := Tryz.underlying0
  a0 := Tryz.isAgg0
  z0 := Tryz.sizeOf0
  v0 := Tryz.zeroValue0
  t3 := Tryz.underlying3
  a3 := Tryz.isAgg3
  z3 := Tryz.sizeOf3
  v3 := Tryz.zeroValue3
  t4 := Tryz.underlying4
  a4 := Tryz.isAgg4
  z4 := Tryz.sizeOf4
  v4 := Tryz.zeroValue4
  t5 := Tryz.underlying5
  a5 := Tryz.isAgg5
  z5 := Tryz.sizeOf5
  v5 := Tryz.zeroValue5
  t9 := Tryz.underlying9
  a9 := Tryz.isAgg9
  z9 := Tryz.sizeOf9
  v9 := Tryz.zeroValue9
  t21 := Tryz.underlying21
  a21 := Tryz.isAgg21
  z21 := Tryz.sizeOf21
  v21 := Tryz.zeroValue21
  t46 := Tryz.underlying221
  a46 := Tryz.isAgg221
  z46 := Tryz.sizeOf221
  v46 := Tryz.zeroValue221
  t105 := Tryz.underlying395
  a105 := Tryz.isAgg395
  z105 := Tryz.sizeOf395
  v105 := Tryz.zeroValue395
  t116 := Tryz.underlying382
  a116 := Tryz.isAgg382
  z116 := Tryz.sizeOf382
  t117 := Tryz.underlying383
  a117 := Tryz.isAgg383
  z117 := Tryz.sizeOf383
  v117 := Tryz.zeroValue383
  t119 := Tryz.underlying409
  a119 := Tryz.isAgg409
  z119 := Tryz.sizeOf409
  t124 := Tryz.underlying386
  a124 := Tryz.isAgg386
  z124 := Tryz.sizeOf386
  v124 := Tryz.zeroValue386
  t138 := Tryz.underlying411
  a138 := Tryz.isAgg411
  z138 := Tryz.sizeOf411
  v138 := Tryz.zeroValue411
  t139 := Tryz.underlying412
  a139 := Tryz.isAgg412
  z139 := Tryz.sizeOf412
  v139 := Tryz.zeroValue412
  g3 := by kernel_rfl
  g4 := by kernel_rfl }
open Go.RowKit in
theorem Tryz.strings_Trim_any (s cutset : ByteArray) (w : World) (hs : s.size ≤ 9223372036854775807) (hcs : cutset.size < 4294967281) (ha : cutset.data.toList.all (fun b => decide (b.toNat < 128)) = true) :
    Calls Tryz.prog 257 #[.string s, .string cutset] w fun e w' => e = .returned (.string ⟨(Lib.trimS s.data.toList cutset.data.toList).toArray⟩) ∧ Below w.heap.size w w' := Any.strings_Trim_laid Tryz.lays160 (by kernel_rfl) s cutset w hs hcs (ascii_of_all ha)
def Tryz.lays137_ren : Go.Shelf.Ren := ⟨fun | 137 => 258 | 217 => 292 | 266 => 308 | n => n, fun | 9 => 9 | 5 => 5 | 3 => 3 | n => n, fun | n => n⟩
theorem Tryz.lays137 : Go.Proofs.Lays.n137 Tryz.prog Tryz.lays137_ren := {
  mixed := by kernel_rfl
  f137 := Tryz.func258.trans (congrArg some (by kernel_rfl))
  f217 := Tryz.func292.trans (congrArg some (by kernel_rfl))
  f266 := Tryz.func308.trans (congrArg some (by kernel_rfl))
  t3 := Tryz.underlying3
  a3 := Tryz.isAgg3
  z3 := Tryz.sizeOf3
  v3 := Tryz.zeroValue3
  t5 := Tryz.underlying5
  a5 := Tryz.isAgg5
  z5 := Tryz.sizeOf5
  v5 := Tryz.zeroValue5
  t9 := Tryz.underlying9
  a9 := Tryz.isAgg9
  z9 := Tryz.sizeOf9
  v9 := Tryz.zeroValue9 }
open Go.RowKit in
theorem Tryz.strings_IndexByte (s : ByteArray) (c : Int) (w : World) :
    Calls Tryz.prog 258 #[.string s, .int .u8 c] w fun e w' => e = .returned (.int .i64 (Lib.indexByte s.data.toList c.toNat.toUInt8)) ∧ w' = w := Any.strings_IndexByte Tryz.lays137 s c w
end Go.Proofs
