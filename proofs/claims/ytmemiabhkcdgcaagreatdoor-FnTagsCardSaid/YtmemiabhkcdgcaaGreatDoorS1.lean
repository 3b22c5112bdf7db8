/-
  DERIVED: THE SHELF's CONTRACTS AT THIS DUMP, IN PLAIN WORDS (tools/lay-plain.mjs out of 'TryzSx.lean', which tools/lay-shelf.mjs wrote): THE SAME DECLARATIONS UNDER THE SAME NAMES: 'import', 'namespace', 'open', 'def', 'theorem' AND NOTHING ELSE: no command of the shelf's: FOR A HAND-IN. Each laying: the table of numbers ('.._ren') and one theorem, a field a fact of the dump's own or the kernel's comparison; each contract: ONE APPLICATION.
-/
import Derived.Shelf.Strings.SlTrimAscii
import Derived.Shelf.Strings.Search1
import Derived.Test.YtmemiabhkcdgcaaGreatDoorProg
open Option renaming bind_some → je, map_some → jW
open Nat renaming le_refl → jf, le_of_ble_eq_true → js, mul_le_mul_right → jx, lt_of_lt_of_le → jy, zero_le → jz, succ_mul → jQ, le_trans → jS, add_zero → Jc, zero_add → Jj
open Bool renaming and_eq_true → jg, eq_iff_iff → jm, true_and → jJ, not_eq_true' → jO, and_assoc → Ji, not_true → Jk, false_or → Jl
open Go.Result renaming andThen_ok → jh
open List renaming getElem?_eq_getElem → ji, length_append → jj, length_singleton → jk, mem_cons_of_mem → jo, getElem_mem → jp, mem_cons_self → jq, take_succ_eq_append_getElem → jr, getElem?_take → jt, getElem?_append_left → ju, mem_of_getElem? → jw, getElem?_drop → jA, take_length → jB, getElem?_append_right → jD, drop_eq_getElem_cons → jE, eq_nil_of_length_eq_zero → jF, not_mem_nil → jG, length_map → jH, getElem?_toArray → jI, getD_eq_getElem?_getD → jK, mem_append_left → jL, getElem_of_mem → jM, mem_cons → jN, getElem?_cons_succ → jP, mem_append_right → jR, append_nil → jT, size_toArray → jV, map_append → jX, range_succ → jY, length_take → jZ, length_filter_le → Ja, map_cons → Jb, drop_eq_nil_of_le → Jd, all_eq_true → Je, length_cons → Jf, append_assoc → Jg, ext_getElem → Jh
open Go.Sem renaming run_bind → jl, run_pure → jn
open Int renaming toNat_natCast → jC
open Array renaming getElem?_append_left → jU

namespace Go.Proofs
open Go.Shelf
def Tryz.lays160_ren : Go.Shelf.Ren := ⟨fun | 160 => 243 | 232 => 255 | 231 => 254 | 227 => 256 | 234 => 258 | 233 => 257 | 236 => 260 | 235 => 259 | 228 => 269 | 271 => 272 | 151 => 271 | 197 => 270 | 120 => 283 | 152 => 282 | 260 => 281 | 137 => 244 | 119 => 286 | 224 => 287 | 225 => 288 | 217 => 261 | 266 => 273 | n => n, fun | 9 => 9 | 4 => 4 | 3 => 3 | 5 => 5 | 117 => 318 | 116 => 317 | 0 => 0 | 124 => 321 | 21 => 21 | 105 => 325 | 46 => 261 | 119 => 333 | 139 => 336 | 138 => 335 | n => n, fun | 3 => 1 | 4 => 2 | n => n⟩
theorem Tryz.lays160 : Go.Proofs.Lays.n160 Tryz.prog Tryz.lays160_ren := {
  mixed := by kernel_rfl
  f119 := Tryz.func286.trans (congrArg some (by kernel_rfl))
  f120 := Tryz.func283.trans (congrArg some (by kernel_rfl))
  f137 := Tryz.func244.trans (congrArg some (by kernel_rfl))
  f151 := Tryz.func271.trans (congrArg some (by kernel_rfl))
  f152 := Tryz.func282.trans (congrArg some (by kernel_rfl))
  f160 := Tryz.func243.trans (congrArg some (by kernel_rfl))
  f197 := Tryz.func270.trans (congrArg some (by kernel_rfl))
  f217 := Tryz.func261.trans (congrArg some (by kernel_rfl))
  f224 := Tryz.func287.trans (congrArg some (by kernel_rfl))
  f225 := Tryz.func288.trans (congrArg some (by kernel_rfl))
  f227 := Tryz.func256.trans (congrArg some (by kernel_rfl))
  f228 := Tryz.func269.trans (congrArg some (by kernel_rfl))
  f231 := Tryz.func254.trans (congrArg some (by kernel_rfl))
  f232 := Tryz.func255.trans (congrArg some (by kernel_rfl))
  f233 := Tryz.func257.trans (congrArg some (by kernel_rfl))
  f234 := Tryz.func258.trans (congrArg some (by kernel_rfl))
  f235 := Tryz.func259.trans (congrArg some (by kernel_rfl))
  f236 := Tryz.func260.trans (congrArg some (by kernel_rfl))
  f260 := Tryz.func281.trans (congrArg some (by kernel_rfl))
  f266 := Tryz.func273.trans (congrArg some (by kernel_rfl))
  f271 := Tryz.func272.trans (congrArg some (by kernel_rfl))
  t0 := Tryz.underlying0
  a0 := Tryz.isAgg0
  z0 := Tryz.sizeOf0
  v0 := Tryz.zeroValue0
  t3 := Tryz.underlying3
  a3 := Tryz.isAgg3
  z3 := Tryz.sizeOf3
  v3 := Tryz.zeroValue3
  t4 := Tryz.underlying4
  a4 := Tryz.isAgg4
  z4 := Tryz.sizeOf4
  v4 := Tryz.zeroValue4
  t5 := Tryz.underlying5
  a5 := Tryz.isAgg5
  z5 := Tryz.sizeOf5
  v5 := Tryz.zeroValue5
  t9 := Tryz.underlying9
  a9 := Tryz.isAgg9
  z9 := Tryz.sizeOf9
  v9 := Tryz.zeroValue9
  t21 := Tryz.underlying21
  a21 := Tryz.isAgg21
  z21 := Tryz.sizeOf21
  v21 := Tryz.zeroValue21
  t46 := Tryz.underlying261
  a46 := Tryz.isAgg261
  z46 := Tryz.sizeOf261
  v46 := Tryz.zeroValue261
  t105 := Tryz.underlying325
  a105 := Tryz.isAgg325
  z105 := Tryz.sizeOf325
  v105 := Tryz.zeroValue325
  t116 := Tryz.underlying317
  a116 := Tryz.isAgg317
  z116 := Tryz.sizeOf317
  t117 := Tryz.underlying318
  a117 := Tryz.isAgg318
  z117 := Tryz.sizeOf318
  v117 := Tryz.zeroValue318
  t119 := Tryz.underlying333
  a119 := Tryz.isAgg333
  z119 := Tryz.sizeOf333
  t124 := Tryz.underlying321
  a124 := Tryz.isAgg321
  z124 := Tryz.sizeOf321
  v124 := Tryz.zeroValue321
  t138 := Tryz.underlying335
  a138 := Tryz.isAgg335
  z138 := Tryz.sizeOf335
  v138 := Tryz.zeroValue335
  t139 := Tryz.underlying336
  a139 := Tryz.isAgg336
  z139 := Tryz.sizeOf336
  v139 := Tryz.zeroValue336
  g3 := by kernel_rfl
  g4 := by kernel_rfl }
open Go.RowKit in
theorem Tryz.strings_Trim_any (s cutset : ByteArray) (w : World) (hs : s.size ≤ 9223372036854775807) (hcs : cutset.size < 4294967281) (ha : cutset.data.toList.all (fun b => decide (b.toNat < 128)) = true) :
    Calls Tryz.prog 243 #[.string s, .string cutset] w fun e w' => e = .returned (.string ⟨(Lib.trimS s.data.toList cutset.data.toList).toArray⟩) ∧ Below w.heap.size w w' := Any.strings_Trim_laid Tryz.lays160 (by kernel_rfl) s cutset w hs hcs (ascii_of_all ha)
def Tryz.lays137_ren : Go.Shelf.Ren := ⟨fun | 137 => 244 | 217 => 261 | 266 => 273 | n => n, fun | 9 => 9 | 5 => 5 | 3 => 3 | n => n, fun | n => n⟩
theorem Tryz.lays137 : Go.Proofs.Lays.n137 Tryz.prog Tryz.lays137_ren := {
  mixed := by kernel_rfl
  f137 := Tryz.func244.trans (congrArg some (by kernel_rfl))
  f217 := Tryz.func261.trans (congrArg some (by kernel_rfl))
  f266 := Tryz.func273.trans (congrArg some (by kernel_rfl))
  t3 := Tryz.underlying3
  a3 := Tryz.isAgg3
  z3 := Tryz.sizeOf3
  v3 := Tryz.zeroValue3
  t5 := Tryz.underlying5
  a5 := Tryz.isAgg5
  z5 := Tryz.sizeOf5
  v5 := Tryz.zeroValue5
  t9 := Tryz.underlying9
  a9 := Tryz.isAgg9
  z9 := Tryz.sizeOf9
  v9 := Tryz.zeroValue9 }
open Go.RowKit in
theorem Tryz.strings_IndexByte (s : ByteArray) (c : Int) (w : World) :
    Calls Tryz.prog 244 #[.string s, .int .u8 c] w fun e w' => e = .returned (.int .i64 (Lib.indexByte s.data.toList c.toNat.toUInt8)) ∧ w' = w := Any.strings_IndexByte Tryz.lays137 s c w
end Go.Proofs
