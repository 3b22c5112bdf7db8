/-
  DERIVED: THE SHELF's CONTRACTS AT THIS DUMP, IN PLAIN WORDS (tools/lay-plain.mjs out of 'TryzSx.lean', which tools/lay-shelf.mjs wrote): THE SAME DECLARATIONS UNDER THE SAME NAMES: 'import', 'namespace', 'open', 'def', 'theorem' AND NOTHING ELSE: no command of the shelf's: FOR A HAND-IN. Each laying: the table of numbers ('.._ren') and one theorem, a field a fact of the dump's own or the kernel's comparison; each contract: ONE APPLICATION.
-/
import Derived.Shelf.Strings.SlTrimAscii
import Derived.Shelf.Strings.Search1
import Derived.Test.YtbajldmfbhaaoaaGreatDoorProg
open Option renaming bind_some → jd, some → V, none → U
open Nat renaming le_refl → je, le_of_ble_eq_true → jp, mul_le_mul_right → js, lt_of_lt_of_le → jw, succ_mul → jO, zero_add → jW, le_trans → Jb, add_zero → Jh
open Bool renaming and_eq_true → jf, eq_iff_iff → jk, true_and → jx, not_eq_true' → jF, not_true → jV, false_or → Jj
open Go.Result renaming andThen_ok → jg
open List renaming length_append → jh, getElem?_eq_getElem → ji, mem_cons_of_mem → jo, getElem_mem → jq, append_assoc → jr, length_singleton → jt, mem_cons_self → ju, getElem?_append_left → jv, length_map → jy, getElem?_take → jz, take_succ_eq_append_getElem → jB, getElem?_append_right → jC, getD_eq_getElem?_getD → jD, take_length → jG, getElem?_toArray → jH, all_eq_true → jI, size_toArray → jJ, length_replicate → jK, eq_nil_of_length_eq_zero → jL, drop_eq_getElem_cons → jM, map_append → jN, length_take → jP, not_mem_nil → jQ, getElem_of_mem → jR, mem_append_left → jS, append_nil → jU, mem_of_getElem? → jX, mem_cons → Ja, range_succ → Jd, length_cons → Je, ext_getElem → Jf, map_cons → Jg
open Go.Sem renaming run_bind → jj, run_pure → jm
open Int renaming toNat_natCast → jn, tdiv_eq_ediv_of_nonneg → jE, mul_nonneg → jT, le_refl → jY, mul_assoc → jZ, mul_le_mul → Jc, add_zero → Ji
open Array renaming getElem?_append_left → jA

namespace Go.Proofs
open Go.Shelf
def Tryz.lays160_ren : Go.Shelf.Ren := ⟨fun | 160 => 209 | 232 => 261 | 231 => 260 | 227 => 262 | 234 => 264 | 233 => 263 | 236 => 266 | 235 => 265 | 228 => 298 | 271 => 301 | 151 => 300 | 197 => 299 | 120 => 320 | 152 => 319 | 260 => 318 | 137 => 210 | 119 => 329 | 224 => 330 | 225 => 331 | 217 => 267 | 266 => 302 | n => n, fun | 9 => 9 | 4 => 4 | 3 => 3 | 5 => 5 | 117 => 343 | 116 => 342 | 0 => 0 | 124 => 346 | 21 => 21 | 105 => 370 | 46 => 182 | 119 => 395 | 139 => 398 | 138 => 397 | n => n, fun | 3 => 1 | 4 => 2 | n => n⟩
theorem Tryz.lays160 : Go.Proofs.Lays.n160 Tryz.prog Tryz.lays160_ren := {
  mixed := by kernel_rfl
  f119 := Tryz.func329.trans (congrArg some (by kernel_rfl))
  f120 := Tryz.func320.trans (congrArg some (by kernel_rfl))
  f137 := Tryz.func210.trans (congrArg some (by kernel_rfl))
  f151 := Tryz.func300.trans (congrArg some (by kernel_rfl))
  f152 := Tryz.func319.trans (congrArg some (by kernel_rfl))
  f160 := Tryz.func209.trans (congrArg some (by kernel_rfl))
  f197 := Tryz.func299.trans (congrArg some (by kernel_rfl))
  f217 := Tryz.func267.trans (congrArg some (by kernel_rfl))
  f224 := Tryz.func330.trans (congrArg some (by kernel_rfl))
  f225 := Tryz.func331.trans (congrArg some (by kernel_rfl))
  f227 := Tryz.func262.trans (congrArg some (by kernel_rfl))
  f228 := Tryz.func298.trans (congrArg some (by kernel_rfl))
  f231 := Tryz.func260.trans (congrArg some (by kernel_rfl))
  f232 := Tryz.func261.trans (congrArg some (by kernel_rfl))
  f233 := Tryz.func263.trans (congrArg some (by kernel_rfl))
  f234 := Tryz.func264.trans (congrArg some (by kernel_rfl))
  f235 := Tryz.func265.trans (congrArg some (by kernel_rfl))
  f236 := Tryz.func266.trans (congrArg some (by kernel_rfl))
  f260 := Tryz.func318.trans (congrArg some (by kernel_rfl))
  f266 := Tryz.func302.trans (congrArg some (by kernel_rfl))
  f271 := Tryz.func301.trans (congrArg some (by kernel_rfl))
  t0 := Tryz.underlying0
  a0 := Tryz.isAgg0
  z0 := Tryz.sizeOf0
  v0 := Tryz.zeroValue0
  t3 := Tryz.underlying3
  a3 := Tryz.isAgg3
  z3 := Tryz.sizeOf3
  v3 := Tryz.zeroValue3
  t4 := Tryz.underlying4
  a4 := Tryz.isAgg4
  z4 := Tryz.sizeOf4
  v4 := Tryz.zeroValue4
  t5 := Tryz.underlying5
  a5 := Tryz.isAgg5
  z5 := Tryz.sizeOf5
  v5 := Tryz.zeroValue5
  t9 := Tryz.underlying9
  a9 := Tryz.isAgg9
  z9 := Tryz.sizeOf9
  v9 := Tryz.zeroValue9
  t21 := Tryz.underlying21
  a21 := Tryz.isAgg21
  z21 := Tryz.sizeOf21
  v21 := Tryz.zeroValue21
  t46 := Tryz.underlying182
  a46 := Tryz.isAgg182
  z46 := Tryz.sizeOf182
  v46 := Tryz.zeroValue182
  t105 := Tryz.underlying370
  a105 := Tryz.isAgg370
  z105 := Tryz.sizeOf370
  v105 := Tryz.zeroValue370
  t116 := Tryz.underlying342
  a116 := Tryz.isAgg342
  z116 := Tryz.sizeOf342
  t117 := Tryz.underlying343
  a117 := Tryz.isAgg343
  z117 := Tryz.sizeOf343
  v117 := Tryz.zeroValue343
  t119 := Tryz.underlying395
  a119 := Tryz.isAgg395
  z119 := Tryz.sizeOf395
  t124 := Tryz.underlying346
  a124 := Tryz.isAgg346
  z124 := Tryz.sizeOf346
  v124 := Tryz.zeroValue346
  t138 := Tryz.underlying397
  a138 := Tryz.isAgg397
  z138 := Tryz.sizeOf397
  v138 := Tryz.zeroValue397
  t139 := Tryz.underlying398
  a139 := Tryz.isAgg398
  z139 := Tryz.sizeOf398
  v139 := Tryz.zeroValue398
  g3 := by kernel_rfl
  g4 := by kernel_rfl }
open Go.RowKit in
theorem Tryz.strings_Trim_any (s cutset : ByteArray) (w : World) (hs : s.size ≤ 9223372036854775807) (hcs : cutset.size < 4294967281) (ha : cutset.data.toList.all (fun b => decide (b.toNat < 128)) = true) :
    Calls Tryz.prog 209 #[.string s, .string cutset] w fun e w' => e = .returned (.string ⟨(Lib.trimS s.data.toList cutset.data.toList).toArray⟩) ∧ Below w.heap.size w w' := Any.strings_Trim_laid Tryz.lays160 (by kernel_rfl) s cutset w hs hcs (ascii_of_all ha)
def Tryz.lays137_ren : Go.Shelf.Ren := ⟨fun | 137 => 210 | 217 => 267 | 266 => 302 | n => n, fun | 9 => 9 | 5 => 5 | 3 => 3 | n => n, fun | n => n⟩
theorem Tryz.lays137 : Go.Proofs.Lays.n137 Tryz.prog Tryz.lays137_ren := {
  mixed := by kernel_rfl
  f137 := Tryz.func210.trans (congrArg some (by kernel_rfl))
  f217 := Tryz.func267.trans (congrArg some (by kernel_rfl))
  f266 := Tryz.func302.trans (congrArg some (by kernel_rfl))
  t3 := Tryz.underlying3
  a3 := Tryz.isAgg3
  z3 := Tryz.sizeOf3
  v3 := Tryz.zeroValue3
  t5 := Tryz.underlying5
  a5 := Tryz.isAgg5
  z5 := Tryz.sizeOf5
  v5 := Tryz.zeroValue5
  t9 := Tryz.underlying9
  a9 := Tryz.isAgg9
  z9 := Tryz.sizeOf9
  v9 := Tryz.zeroValue9 }
open Go.RowKit in
theorem Tryz.strings_IndexByte (s : ByteArray) (c : Int) (w : World) :
    Calls Tryz.prog 210 #[.string s, .int .u8 c] w fun e w' => e = .returned (.int .i64 (Lib.indexByte s.data.toList c.toNat.toUInt8)) ∧ w' = w := Any.strings_IndexByte Tryz.lays137 s c w
end Go.Proofs
