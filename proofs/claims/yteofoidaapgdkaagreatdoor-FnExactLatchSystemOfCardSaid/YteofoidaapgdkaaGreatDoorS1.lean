/-
  DERIVED: THE SHELF's CONTRACTS AT THIS DUMP, IN PLAIN WORDS (tools/lay-plain.mjs out of 'TryzSx.lean', which tools/lay-shelf.mjs wrote): THE SAME DECLARATIONS UNDER THE SAME NAMES: 'import', 'namespace', 'open', 'def', 'theorem' AND NOTHING ELSE: no command of the shelf's: FOR A HAND-IN. Each laying: the table of numbers ('.._ren') and one theorem, a field a fact of the dump's own or the kernel's comparison; each contract: ONE APPLICATION.
-/
import Derived.Shelf.Strings.SlTrimAscii
import Derived.Shelf.Strings.Search1
import Derived.Test.YteofoidaapgdkaaGreatDoorProg
open Option renaming bind_some → jd, some → V, none → U
open Nat renaming le_refl → je, le_of_ble_eq_true → jr, mul_le_mul_right → js, lt_of_lt_of_le → jv, succ_mul → jM, zero_add → Jg
open Bool renaming and_eq_true → jf, eq_iff_iff → jj, not_eq_true' → jD, true_and → jG, not_true → jW
open Go.Result renaming andThen_ok → jg
open List renaming length_append → jh, getElem?_eq_getElem → ji, mem_cons_of_mem → jn, getElem_mem → jo, append_assoc → jp, length_singleton → jt, length_map → ju, getElem?_append_left → jw, mem_cons_self → jx, take_succ_eq_append_getElem → jy, getElem?_take → jz, length_cons → jA, getElem?_append_right → jB, getD_eq_getElem?_getD → jC, getElem?_toArray → jE, map_append → jF, take_length → jH, eq_nil_of_length_eq_zero → jK, drop_eq_getElem_cons → jL, all_eq_true → jN, not_mem_nil → jO, getElem_of_mem → jP, length_replicate → jQ, size_toArray → jR, mem_of_getElem? → jS, mem_append_left → jT, length_nil → jV, append_nil → jX, ext_getElem → jZ, mem_cons → Jb, getElem?_map → Jc, range_succ → Je, length_take → Jf
open Go.Sem renaming run_bind → jk, run_pure → jm
open Int renaming toNat_natCast → jq, tdiv_eq_ediv_of_nonneg → jJ, mul_nonneg → jU, le_refl → jY, mul_assoc → Ja, mul_le_mul → Jd
open Array renaming getElem?_append_left → jI

namespace Go.Proofs
open Go.Shelf
def Tryz.lays160_ren : Go.Shelf.Ren := ⟨fun | 160 => 233 | 232 => 272 | 231 => 271 | 227 => 273 | 234 => 275 | 233 => 274 | 236 => 277 | 235 => 276 | 228 => 302 | 271 => 305 | 151 => 304 | 197 => 303 | 120 => 323 | 152 => 322 | 260 => 321 | 137 => 234 | 119 => 334 | 224 => 335 | 225 => 336 | 217 => 278 | 266 => 306 | n => n, fun | 9 => 9 | 4 => 4 | 3 => 3 | 5 => 5 | 117 => 361 | 116 => 360 | 0 => 0 | 124 => 364 | 21 => 21 | 105 => 389 | 46 => 384 | 119 => 413 | 139 => 416 | 138 => 415 | n => n, fun | 3 => 1 | 4 => 2 | n => n⟩
theorem Tryz.lays160 : Go.Proofs.Lays.n160 Tryz.prog Tryz.lays160_ren := {
  mixed := by kernel_rfl
  f119 := Tryz.func334.trans (congrArg some (by kernel_rfl))
  f120 := Tryz.func323.trans (congrArg some (by kernel_rfl))
  f137 := Tryz.func234.trans (congrArg some (by kernel_rfl))
  f151 := Tryz.func304.trans (congrArg some (by kernel_rfl))
  f152 := Tryz.func322.trans (congrArg some (by kernel_rfl))
  f160 := Tryz.func233.trans (congrArg some (by kernel_rfl))
  f197 := Tryz.func303.trans (congrArg some (by kernel_rfl))
  f217 := Tryz.func278.trans (congrArg some (by kernel_rfl))
  f224 := Tryz.func335.trans (congrArg some (by kernel_rfl))
  f225 := Tryz.func336.trans (congrArg some (by kernel_rfl))
  f227 := Tryz.func273.trans (congrArg some (by kernel_rfl))
  f228 := Tryz.func302.trans (congrArg some (by kernel_rfl))
  f231 := Tryz.func271.trans (congrArg some (by kernel_rfl))
  f232 := Tryz.func272.trans (congrArg some (by kernel_rfl))
  f233 := Tryz.func274.trans (congrArg some (by kernel_rfl))
  f234 := Tryz.func275.trans (congrArg some (by kernel_rfl))
  f235 := Tryz.func276.trans (congrArg some (by kernel_rfl))
  f236 := Tryz.func277.trans (congrArg some (by kernel_rfl))
  f260 := Tryz.func321.trans (congrArg some (by kernel_rfl))
  f266 := Tryz.func306.trans (congrArg some (by kernel_rfl))
  f271 := Tryz.func305.trans (congrArg some (by kernel_rfl))
  t0 := Tryz.underlying0
  a0 := Tryz.isAgg0
  z0 := Tryz.sizeOf0
  v0 := Tryz.zeroValue0
  t3 := Tryz.underlying3
  a3 := Tryz.isAgg3
  z3 := Tryz.sizeOf3
  v3 := Tryz.zeroValue3
  t4 := Tryz.underlying4
  a4 := Tryz.isAgg4
  z4 := Tryz.sizeOf4
  v4 := Tryz.zeroValue4
  t5 := Tryz.underlying5
  a5 := Tryz.isAgg5
  z5 := Tryz.sizeOf5
  v5 := Tryz.zeroValue5
  t9 := Tryz.underlying9
  a9 := Tryz.isAgg9
  z9 := Tryz.sizeOf9
  v9 := Tryz.zeroValue9
  t21 := Tryz.underlying21
  a21 := Tryz.isAgg21
  z21 := Tryz.sizeOf21
  v21 := Tryz.zeroValue21
  t46 := Tryz.underlying384
  a46 := Tryz.isAgg384
  z46 := Tryz.sizeOf384
  v46 := Tryz.zeroValue384
  t105 := Tryz.underlying389
  a105 := Tryz.isAgg389
  z105 := Tryz.sizeOf389
  v105 := Tryz.zeroValue389
  t116 := Tryz.underlying360
  a116 := Tryz.isAgg360
  z116 := Tryz.sizeOf360
  t117 := Tryz.underlying361
  a117 := Tryz.isAgg361
  z117 := Tryz.sizeOf361
  v117 := Tryz.zeroValue361
  t119 := Tryz.underlying413
  a119 := Tryz.isAgg413
  z119 := Tryz.sizeOf413
  t124 := Tryz.underlying364
  a124 := Tryz.isAgg364
  z124 := Tryz.sizeOf364
  v124 := Tryz.zeroValue364
  t138 := Tryz.underlying415
  a138 := Tryz.isAgg415
  z138 := Tryz.sizeOf415
  v138 := Tryz.zeroValue415
  t139 := Tryz.underlying416
  a139 := Tryz.isAgg416
  z139 := Tryz.sizeOf416
  v139 := Tryz.zeroValue416
  g3 := by kernel_rfl
  g4 := by kernel_rfl }
open Go.RowKit in
theorem Tryz.strings_Trim_any (s cutset : ByteArray) (w : World) (hs : s.size ≤ 9223372036854775807) (hcs : cutset.size < 4294967281) (ha : cutset.data.toList.all (fun b => decide (b.toNat < 128)) = true) :
    Calls Tryz.prog 233 #[.string s, .string cutset] w fun e w' => e = .returned (.string ⟨(Lib.trimS s.data.toList cutset.data.toList).toArray⟩) ∧ Below w.heap.size w w' := Any.strings_Trim_laid Tryz.lays160 (by kernel_rfl) s cutset w hs hcs (ascii_of_all ha)
def Tryz.lays137_ren : Go.Shelf.Ren := ⟨fun | 137 => 234 | 217 => 278 | 266 => 306 | n => n, fun | 9 => 9 | 5 => 5 | 3 => 3 | n => n, fun | n => n⟩
theorem Tryz.lays137 : Go.Proofs.Lays.n137 Tryz.prog Tryz.lays137_ren := {
  mixed := by kernel_rfl
  f137 := Tryz.func234.trans (congrArg some (by kernel_rfl))
  f217 := Tryz.func278.trans (congrArg some (by kernel_rfl))
  f266 := Tryz.func306.trans (congrArg some (by kernel_rfl))
  t3 := Tryz.underlying3
  a3 := Tryz.isAgg3
  z3 := Tryz.sizeOf3
  v3 := Tryz.zeroValue3
  t5 := Tryz.underlying5
  a5 := Tryz.isAgg5
  z5 := Tryz.sizeOf5
  v5 := Tryz.zeroValue5
  t9 := Tryz.underlying9
  a9 := Tryz.isAgg9
  z9 := Tryz.sizeOf9
  v9 := Tryz.zeroValue9 }
open Go.RowKit in
theorem Tryz.strings_IndexByte (s : ByteArray) (c : Int) (w : World) :
    Calls Tryz.prog 234 #[.string s, .int .u8 c] w fun e w' => e = .returned (.int .i64 (Lib.indexByte s.data.toList c.toNat.toUInt8)) ∧ w' = w := Any.strings_IndexByte Tryz.lays137 s c w
end Go.Proofs
