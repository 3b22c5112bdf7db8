/-
  DERIVED: THE SHELF's CONTRACTS AT THIS DUMP, IN PLAIN WORDS (tools/lay-plain.mjs out of 'TryzSx.lean', which tools/lay-shelf.mjs wrote): THE SAME DECLARATIONS UNDER THE SAME NAMES: 'import', 'namespace', 'open', 'def', 'theorem' AND NOTHING ELSE: no command of the shelf's: FOR A HAND-IN. Each laying: the table of numbers ('.._ren') and one theorem, a field a fact of the dump's own or the kernel's comparison; each contract: ONE APPLICATION.
-/
import Derived.Shelf.Strings.SlTrimAscii
import Derived.Shelf.Strings.Search1
import Derived.Test.YtflinekphmgbeaaGreatDoorProg
open Option renaming bind_some → jd
open Nat renaming le_refl → je, mul_le_mul_right → jr, le_of_ble_eq_true → jt, lt_of_lt_of_le → jx, succ_mul → jK, zero_add → jZ, add_zero → Ja
open Bool renaming and_eq_true → jf, eq_iff_iff → jm, true_and → jA, not_eq_true' → jJ, not_true → Jb
open Go.Result renaming andThen_ok → jg
open List renaming length_append → jh, getElem?_eq_getElem → ji, mem_cons_of_mem → jo, getElem_mem → jp, append_assoc → jq, length_singleton → js, getElem?_append_left → ju, take_succ_eq_append_getElem → jv, getD_eq_getElem?_getD → jw, mem_cons_self → jy, length_map → jz, getElem?_take → jB, getElem?_append_right → jC, take_length → jD, getElem?_toArray → jE, drop_eq_getElem_cons → jF, eq_nil_of_length_eq_zero → jH, length_take → jI, map_append → jL, all_eq_true → jM, not_mem_nil → jO, getElem_of_mem → jP, length_replicate → jQ, size_toArray → jR, mem_cons → jU, append_nil → jX, ext_getElem → jY
open Go.Sem renaming run_bind → jj, run_pure → jk
open Int renaming toNat_natCast → jn, tdiv_eq_ediv_of_nonneg → jG, mul_nonneg → jS, mul_assoc → jT, mul_le_mul → jV, le_refl → jW
open Array renaming getElem?_append_left → jN

namespace Go.Proofs
open Go.Shelf
def Tryz.lays160_ren : Go.Shelf.Ren := ⟨fun | 160 => 246 | 232 => 271 | 231 => 270 | 227 => 272 | 234 => 274 | 233 => 273 | 236 => 276 | 235 => 275 | 228 => 284 | 271 => 287 | 151 => 286 | 197 => 285 | 120 => 299 | 152 => 298 | 260 => 297 | 137 => 247 | 119 => 307 | 224 => 308 | 225 => 309 | 217 => 277 | 266 => 288 | n => n, fun | 9 => 9 | 4 => 4 | 3 => 3 | 5 => 5 | 117 => 349 | 116 => 348 | 0 => 0 | 124 => 352 | 21 => 21 | 105 => 358 | 46 => 321 | 119 => 370 | 139 => 373 | 138 => 372 | n => n, fun | 3 => 1 | 4 => 2 | n => n⟩
theorem Tryz.lays160 : Go.Proofs.Lays.n160 Tryz.prog Tryz.lays160_ren := {
  mixed := by kernel_rfl
  f119 := Tryz.func307.trans (congrArg some (by kernel_rfl))
  f120 := Tryz.func299.trans (congrArg some (by kernel_rfl))
  f137 := Tryz.func247.trans (congrArg some (by kernel_rfl))
  f151 := Tryz.func286.trans (congrArg some (by kernel_rfl))
  f152 := Tryz.func298.trans (congrArg some (by kernel_rfl))
  f160 := Tryz.func246.trans (congrArg some (by kernel_rfl))
  f197 := Tryz.func285.trans (congrArg some (by kernel_rfl))
  f217 := Tryz.func277.trans (congrArg some (by kernel_rfl))
  f224 := Tryz.func308.trans (congrArg some (by kernel_rfl))
  f225 := Tryz.func309.trans (congrArg some (by kernel_rfl))
  f227 := Tryz.func272.trans (congrArg some (by kernel_rfl))
  f228 := Tryz.func284.trans (congrArg some (by kernel_rfl))
  f231 := Tryz.func270.trans (congrArg some (by kernel_rfl))
  f232 := Tryz.func271.trans (congrArg some (by kernel_rfl))
  f233 := Tryz.func273.trans (congrArg some (by kernel_rfl))
  f234 := Tryz.func274.trans (congrArg some (by kernel_rfl))
  f235 := Tryz.func275.trans (congrArg some (by kernel_rfl))
  f236 := Tryz.func276.trans (congrArg some (by kernel_rfl))
  f260 := Tryz.func297.trans (congrArg some (by kernel_rfl))
  f266 := Tryz.func288.trans (congrArg some (by kernel_rfl))
  f271 := Tryz.func287.trans (congrArg some (by kernel_rfl))
  t0 := Tryz.underlying0
  a0 := Tryz.isAgg0
  z0 := Tryz.sizeOf0
  v0 := Tryz.zeroValue0
  t3 := Tryz.underlying3
  a3 := Tryz.isAgg3
  z3 := Tryz.sizeOf3
  v3 := Tryz.zeroValue3
  t4 := Tryz.underlying4
  a4 := Tryz.isAgg4
  z4 := Tryz.sizeOf4
  v4 := Tryz.zeroValue4
  t5 := Tryz.underlying5
  a5 := Tryz.isAgg5
  z5 := Tryz.sizeOf5
  v5 := Tryz.zeroValue5
  t9 := Tryz.underlying9
  a9 := Tryz.isAgg9
  z9 := Tryz.sizeOf9
  v9 := Tryz.zeroValue9
  t21 := Tryz.underlying21
  a21 := Tryz.isAgg21
  z21 := Tryz.sizeOf21
  v21 := Tryz.zeroValue21
  t46 := Tryz.underlying321
  a46 := Tryz.isAgg321
  z46 := Tryz.sizeOf321
  v46 := Tryz.zeroValue321
  t105 := Tryz.underlying358
  a105 := Tryz.isAgg358
  z105 := Tryz.sizeOf358
  v105 := Tryz.zeroValue358
  t116 := Tryz.underlying348
  a116 := Tryz.isAgg348
  z116 := Tryz.sizeOf348
  t117 := Tryz.underlying349
  a117 := Tryz.isAgg349
  z117 := Tryz.sizeOf349
  v117 := Tryz.zeroValue349
  t119 := Tryz.underlying370
  a119 := Tryz.isAgg370
  z119 := Tryz.sizeOf370
  t124 := Tryz.underlying352
  a124 := Tryz.isAgg352
  z124 := Tryz.sizeOf352
  v124 := Tryz.zeroValue352
  t138 := Tryz.underlying372
  a138 := Tryz.isAgg372
  z138 := Tryz.sizeOf372
  v138 := Tryz.zeroValue372
  t139 := Tryz.underlying373
  a139 := Tryz.isAgg373
  z139 := Tryz.sizeOf373
  v139 := Tryz.zeroValue373
  g3 := by kernel_rfl
  g4 := by kernel_rfl }
open Go.RowKit in
theorem Tryz.strings_Trim_any (s cutset : ByteArray) (w : World) (hs : s.size ≤ 9223372036854775807) (hcs : cutset.size < 4294967281) (ha : cutset.data.toList.all (fun b => decide (b.toNat < 128)) = true) :
    Calls Tryz.prog 246 #[.string s, .string cutset] w fun e w' => e = .returned (.string ⟨(Lib.trimS s.data.toList cutset.data.toList).toArray⟩) ∧ Below w.heap.size w w' := Any.strings_Trim_laid Tryz.lays160 (by kernel_rfl) s cutset w hs hcs (ascii_of_all ha)
def Tryz.lays137_ren : Go.Shelf.Ren := ⟨fun | 137 => 247 | 217 => 277 | 266 => 288 | n => n, fun | 9 => 9 | 5 => 5 | 3 => 3 | n => n, fun | n => n⟩
theorem Tryz.lays137 : Go.Proofs.Lays.n137 Tryz.prog Tryz.lays137_ren := {
  mixed := by kernel_rfl
  f137 := Tryz.func247.trans (congrArg some (by kernel_rfl))
  f217 := Tryz.func277.trans (congrArg some (by kernel_rfl))
  f266 := Tryz.func288.trans (congrArg some (by kernel_rfl))
  t3 := Tryz.underlying3
  a3 := Tryz.isAgg3
  z3 := Tryz.sizeOf3
  v3 := Tryz.zeroValue3
  t5 := Tryz.underlying5
  a5 := Tryz.isAgg5
  z5 := Tryz.sizeOf5
  v5 := Tryz.zeroValue5
  t9 := Tryz.underlying9
  a9 := Tryz.isAgg9
  z9 := Tryz.sizeOf9
  v9 := Tryz.zeroValue9 }
open Go.RowKit in
theorem Tryz.strings_IndexByte (s : ByteArray) (c : Int) (w : World) :
    Calls Tryz.prog 247 #[.string s, .int .u8 c] w fun e w' => e = .returned (.int .i64 (Lib.indexByte s.data.toList c.toNat.toUInt8)) ∧ w' = w := Any.strings_IndexByte Tryz.lays137 s c w
end Go.Proofs
