/-
  DERIVED: THE SHELF's CONTRACTS AT THIS DUMP, IN PLAIN WORDS (tools/lay-plain.mjs out of 'TryzSx.lean', which tools/lay-shelf.mjs wrote): THE SAME DECLARATIONS UNDER THE SAME NAMES: 'import', 'namespace', 'open', 'def', 'theorem' AND NOTHING ELSE: no command of the shelf's: FOR A HAND-IN. Each laying: the table of numbers ('.._ren') and one theorem, a field a fact of the dump's own or the kernel's comparison; each contract: ONE APPLICATION.
-/
import Derived.Shelf.Strings.SlTrimAscii
import Derived.Shelf.Strings.Search1
import Derived.Test.YtmkldekhhkijdaaGreatDoorProg
open Option renaming bind_some → je
open Nat renaming le_refl → jf, le_of_ble_eq_true → js, mul_le_mul_right → jt, lt_of_lt_of_le → jw, zero_le → jB, succ_mul → jJ, le_trans → jV, zero_add → jW
open List renaming length_append → jg, length_singleton → ji, mem_cons_of_mem → jk, getElem?_eq_getElem → jm, mem_cons_self → jq, getElem_mem → jr, mem_of_getElem? → ju, length_cons → jv, getD_eq_getElem?_getD → jx, length_map → jy, not_mem_nil → jA, getElem?_append_left → jD, drop_eq_getElem_cons → jE, getElem?_take → jF, eq_nil_of_length_eq_zero → jG, append_assoc → jI, getElem?_toArray → jK, getElem?_append_right → jL, mem_cons → jM, size_toArray → jO, getElem_of_mem → jQ, append_nil → jR, all_eq_true → jS, take_length → jT
open Bool renaming and_eq_true → jh, eq_iff_iff → jp, true_and → jC, not_eq_true' → jH, not_true → jU
open Go.Result renaming andThen_ok → jj
open Go.Sem renaming run_bind → jl, run_pure → jo
open Int renaming toNat_natCast → jz
open Array renaming length_toList → jN, getElem?_append_left → jP

namespace Go.Proofs
open Go.Shelf
def Tryz.lays160_ren : Go.Shelf.Ren := ⟨fun | 160 => 212 | 232 => 240 | 231 => 239 | 227 => 241 | 234 => 243 | 233 => 242 | 236 => 245 | 235 => 244 | 228 => 259 | 271 => 261 | 151 => 260 | 197 => 169 | 120 => 271 | 152 => 270 | 260 => 205 | 137 => 213 | 119 => 276 | 224 => 208 | 225 => 207 | 217 => 206 | 266 => 235 | n => n, fun | 9 => 9 | 4 => 4 | 3 => 3 | 5 => 5 | 117 => 311 | 116 => 310 | 0 => 0 | 124 => 314 | 21 => 21 | 105 => 233 | 46 => 267 | 119 => 299 | 139 => 302 | 138 => 301 | n => n, fun | 3 => 5 | 4 => 6 | n => n⟩
theorem Tryz.lays160 : Go.Proofs.Lays.n160 Tryz.prog Tryz.lays160_ren := {
  mixed := by kernel_rfl
  f119 := Tryz.func276.trans (congrArg some (by kernel_rfl))
  f120 := Tryz.func271.trans (congrArg some (by kernel_rfl))
  f137 := Tryz.func213.trans (congrArg some (by kernel_rfl))
  f151 := Tryz.func260.trans (congrArg some (by kernel_rfl))
  f152 := Tryz.func270.trans (congrArg some (by kernel_rfl))
  f160 := Tryz.func212.trans (congrArg some (by kernel_rfl))
  f197 := Tryz.func169.trans (congrArg some (by kernel_rfl))
  f217 := Tryz.func206.trans (congrArg some (by kernel_rfl))
  f224 := Tryz.func208.trans (congrArg some (by kernel_rfl))
  f225 := Tryz.func207.trans (congrArg some (by kernel_rfl))
  f227 := Tryz.func241.trans (congrArg some (by kernel_rfl))
  f228 := Tryz.func259.trans (congrArg some (by kernel_rfl))
  f231 := Tryz.func239.trans (congrArg some (by kernel_rfl))
  f232 := Tryz.func240.trans (congrArg some (by kernel_rfl))
  f233 := Tryz.func242.trans (congrArg some (by kernel_rfl))
  f234 := Tryz.func243.trans (congrArg some (by kernel_rfl))
  f235 := Tryz.func244.trans (congrArg some (by kernel_rfl))
  f236 := Tryz.func245.trans (congrArg some (by kernel_rfl))
  f260 := Tryz.func205.trans (congrArg some (by kernel_rfl))
  f266 := Tryz.func235.trans (congrArg some (by kernel_rfl))
  f271 := Tryz.func261.trans (congrArg some (by kernel_rfl))
  t0 := Tryz.underlying0
  a0 := Tryz.isAgg0
  z0 := Tryz.sizeOf0
  v0 := Tryz.zeroValue0
  t3 := Tryz.underlying3
  a3 := Tryz.isAgg3
  z3 := Tryz.sizeOf3
  v3 := Tryz.zeroValue3
  t4 := Tryz.underlying4
  a4 := Tryz.isAgg4
  z4 := Tryz.sizeOf4
  v4 := Tryz.zeroValue4
  t5 := Tryz.underlying5
  a5 := Tryz.isAgg5
  z5 := Tryz.sizeOf5
  v5 := Tryz.zeroValue5
  t9 := Tryz.underlying9
  a9 := Tryz.isAgg9
  z9 := Tryz.sizeOf9
  v9 := Tryz.zeroValue9
  t21 := Tryz.underlying21
  a21 := Tryz.isAgg21
  z21 := Tryz.sizeOf21
  v21 := Tryz.zeroValue21
  t46 := Tryz.underlying267
  a46 := Tryz.isAgg267
  z46 := Tryz.sizeOf267
  v46 := Tryz.zeroValue267
  t105 := Tryz.underlying233
  a105 := Tryz.isAgg233
  z105 := Tryz.sizeOf233
  v105 := Tryz.zeroValue233
  t116 := Tryz.underlying310
  a116 := Tryz.isAgg310
  z116 := Tryz.sizeOf310
  t117 := Tryz.underlying311
  a117 := Tryz.isAgg311
  z117 := Tryz.sizeOf311
  v117 := Tryz.zeroValue311
  t119 := Tryz.underlying299
  a119 := Tryz.isAgg299
  z119 := Tryz.sizeOf299
  t124 := Tryz.underlying314
  a124 := Tryz.isAgg314
  z124 := Tryz.sizeOf314
  v124 := Tryz.zeroValue314
  t138 := Tryz.underlying301
  a138 := Tryz.isAgg301
  z138 := Tryz.sizeOf301
  v138 := Tryz.zeroValue301
  t139 := Tryz.underlying302
  a139 := Tryz.isAgg302
  z139 := Tryz.sizeOf302
  v139 := Tryz.zeroValue302
  g3 := by kernel_rfl
  g4 := by kernel_rfl }
open Go.RowKit in
theorem Tryz.strings_Trim_any (s cutset : ByteArray) (w : World) (hs : s.size ≤ 9223372036854775807) (hcs : cutset.size < 4294967281) (ha : cutset.data.toList.all (fun b => decide (b.toNat < 128)) = true) :
    Calls Tryz.prog 212 #[.string s, .string cutset] w fun e w' => e = .returned (.string ⟨(Lib.trimS s.data.toList cutset.data.toList).toArray⟩) ∧ Below w.heap.size w w' := Any.strings_Trim_laid Tryz.lays160 (by kernel_rfl) s cutset w hs hcs (ascii_of_all ha)
def Tryz.lays137_ren : Go.Shelf.Ren := ⟨fun | 137 => 213 | 217 => 206 | 266 => 235 | n => n, fun | 9 => 9 | 5 => 5 | 3 => 3 | n => n, fun | n => n⟩
theorem Tryz.lays137 : Go.Proofs.Lays.n137 Tryz.prog Tryz.lays137_ren := {
  mixed := by kernel_rfl
  f137 := Tryz.func213.trans (congrArg some (by kernel_rfl))
  f217 := Tryz.func206.trans (congrArg some (by kernel_rfl))
  f266 := Tryz.func235.trans (congrArg some (by kernel_rfl))
  t3 := Tryz.underlying3
  a3 := Tryz.isAgg3
  z3 := Tryz.sizeOf3
  v3 := Tryz.zeroValue3
  t5 := Tryz.underlying5
  a5 := Tryz.isAgg5
  z5 := Tryz.sizeOf5
  v5 := Tryz.zeroValue5
  t9 := Tryz.underlying9
  a9 := Tryz.isAgg9
  z9 := Tryz.sizeOf9
  v9 := Tryz.zeroValue9 }
open Go.RowKit in
theorem Tryz.strings_IndexByte (s : ByteArray) (c : Int) (w : World) :
    Calls Tryz.prog 213 #[.string s, .int .u8 c] w fun e w' => e = .returned (.int .i64 (Lib.indexByte s.data.toList c.toNat.toUInt8)) ∧ w' = w := Any.strings_IndexByte Tryz.lays137 s c w
end Go.Proofs
