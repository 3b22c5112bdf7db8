/-
 DERIVED: THE SHELF's CONTRACTS AT THIS DUMP, IN PLAIN WORDS (tools/lay-plain.mjs out of 'TryzSz.lean', which tools/lay-shelf.mjs wrote): THE SAME DECLARATIONS UNDER THE SAME NAMES: 'import', 'namespace', 'open', 'def', 'theorem' AND NOTHING ELSE: no command of the shelf's: FOR A HAND-IN. Each laying: the table of numbers ('.._ren') and one theorem, a field a fact of the dump's own or the kernel's comparison; each contract: ONE APPLICATION.
-/
import Derived.Shelf.Strconv.Itoa4
import Derived.Lib.AppendIntMem
import Derived.Ground.NamesProg
import Derived.Test.YtmkldekhhkijdaaGreatDoorProg
import Derived.Shelf.Strings.Split
import Derived.Shelf.Strconv.ParseIntPublic10
import Derived.Lib.AtoiErrMem
import Derived.Test.YtmkldekhhkijdaaGreatDoorFw38
import Derived.Sort.Grow
import Derived.Lib.SlicesCompact
import Derived.Laws.StructEq
import Derived.Lib.LaidTab
import Derived.ChangeVars
import Derived.Lib.ItoaNum
import Derived.Lib.ItoaMem
import Derived.Lib.ItoaLen
import Derived.Test.YtmkldekhhkijdaaGreatDoorChecked
import Derived.Test.YtmkldekhhkijdaaGreatDoorS1
open Option renaming bind_some → jd, map_some → jL
open Nat renaming le_refl → je, mul_le_mul_right → jo, le_of_ble_eq_true → jq, lt_of_lt_of_le → jr, succ_mul → jF, zero_le → jP, zero_add → jQ
open Go.Result renaming andThen_ok → jf
open Bool renaming and_eq_true → jg, eq_iff_iff → jl, true_and → jB, not_eq_true' → jJ
open List renaming getElem?_eq_getElem → jh, length_append → ji, length_singleton → jm, mem_cons_of_mem → jn, mem_cons_self → jp, length_cons → js, getElem?_append_left → jt, getElem_mem → ju, getD_eq_getElem?_getD → jv, getElem?_take → jw, drop_eq_getElem_cons → jx, getElem?_append_right → jy, getElem?_toArray → jz, mem_of_getElem? → jA, eq_nil_of_length_eq_zero → jD, append_assoc → jE, size_toArray → jG, length_map → jH, getElem_of_mem → jI, all_eq_true → jK, map_append → jM, not_mem_nil → jN, take_length → jO, map_cons → jR
open Go.Sem renaming run_bind → jj, run_pure → jk
open Int renaming toNat_natCast → jC

namespace Go.Proofs
open Go.Shelf
def Tryz.lays173_ren:Go.Shelf.Ren:=⟨fun|173=>124|246=>156|283=>182|284=>183|285=>184|286=>185|129=>221|317=>220|318=>222|319=>223|320=>224|337=>252|338=>253|n=>n,fun|2=>2|3=>3|9=>9|4=>4|171=>247|0=>0|53=>248|37=>55|5=>5|173=>251|212=>285|51=>286|20=>20|213=>287|46=>267|232=>334|233=>335|n=>n,fun|17=>2|18=>7|19=>8|n=>n⟩
theorem Tryz.lays173:Go.Proofs.LaysM.n173 Tryz.prog Tryz.lays173_ren:={
 mixed:=by kernel_rfl
 f129:=Tryz.func221.trans (congrArg some (by kernel_rfl))
 f173:=Tryz.func124.trans (congrArg some (by kernel_rfl))
 f246:=Tryz.func156.trans (congrArg some (by kernel_rfl))
 f283:=Tryz.func182.trans (congrArg some (by kernel_rfl))
 f284:=Tryz.func183.trans (congrArg some (by kernel_rfl))
 f285:=Tryz.func184.trans (congrArg some (by kernel_rfl))
 f286:=Tryz.func185.trans (congrArg some (by kernel_rfl))
 f317:=Tryz.func220.trans (congrArg some (by kernel_rfl))
 f318:=Tryz.func222.trans (congrArg some (by kernel_rfl))
 f319:=Tryz.func223.trans (congrArg some (by kernel_rfl))
 f320:=Tryz.func224.trans (congrArg some (by kernel_rfl))
 f337:=Tryz.func252.trans (congrArg some (by kernel_rfl))
 f338:=Tryz.func253.trans (congrArg some (by kernel_rfl))
 t0:=Tryz.underlying0
 a0:=Tryz.isAgg0
 z0:=Tryz.sizeOf0
 v0:=Tryz.zeroValue0
 t2:=Tryz.underlying2
 a2:=Tryz.isAgg2
 z2:=Tryz.sizeOf2
 v2:=Tryz.zeroValue2
 t3:=Tryz.underlying3
 a3:=Tryz.isAgg3
 z3:=Tryz.sizeOf3
 v3:=Tryz.zeroValue3
 t4:=Tryz.underlying4
 a4:=Tryz.isAgg4
 z4:=Tryz.sizeOf4
 v4:=Tryz.zeroValue4
 t5:=Tryz.underlying5
 a5:=Tryz.isAgg5
 z5:=Tryz.sizeOf5
 v5:=Tryz.zeroValue5
 t9:=Tryz.underlying9
 a9:=Tryz.isAgg9
 z9:=Tryz.sizeOf9
 v9:=Tryz.zeroValue9
 t20:=Tryz.underlying20
 a20:=Tryz.isAgg20
 z20:=Tryz.sizeOf20
 v20:=Tryz.zeroValue20
 t37:=Tryz.underlying55
 a37:=Tryz.isAgg55
 z37:=Tryz.sizeOf55
 v37:=Tryz.zeroValue55
 t46:=Tryz.underlying267
 a46:=Tryz.isAgg267
 z46:=Tryz.sizeOf267
 v46:=Tryz.zeroValue267
 t51:=Tryz.underlying286
 a51:=Tryz.isAgg286
 z51:=Tryz.sizeOf286
 v51:=Tryz.zeroValue286
 t53:=Tryz.underlying248
 a53:=Tryz.isAgg248
 z53:=Tryz.sizeOf248
 v53:=Tryz.zeroValue248
 t171:=Tryz.underlying247
 a171:=Tryz.isAgg247
 z171:=Tryz.sizeOf247
 v171:=Tryz.zeroValue247
 t173:=Tryz.underlying251
 a173:=Tryz.isAgg251
 z173:=Tryz.sizeOf251
 v173:=Tryz.zeroValue251
 t212:=Tryz.underlying285
 a212:=Tryz.isAgg285
 z212:=Tryz.sizeOf285
 v212:=Tryz.zeroValue285
 t213:=Tryz.underlying287
 a213:=Tryz.isAgg287
 z213:=Tryz.sizeOf287
 t232:=Tryz.underlying334
 a232:=Tryz.isAgg334
 z232:=Tryz.sizeOf334
 v232:=Tryz.zeroValue334
 t233:=Tryz.underlying335
 a233:=Tryz.isAgg335
 z233:=Tryz.sizeOf335
 v233:=Tryz.zeroValue335
 g17:=by kernel_rfl
 g18:=by kernel_rfl
 g19:=by kernel_rfl
 i0:=by kernel_rfl
 i2:=by kernel_rfl
 i3:=by kernel_rfl
 i4:=by kernel_rfl
 i5:=by kernel_rfl
 i9:=by kernel_rfl
 i20:=by kernel_rfl
 i37:=by kernel_rfl
 i46:=by kernel_rfl
 i51:=by kernel_rfl
 i53:=by kernel_rfl
 i171:=by kernel_rfl
 i173:=by kernel_rfl
 i212:=by kernel_rfl
 i232:=by kernel_rfl
 i233:=by kernel_rfl
 m17:=by kernel_rfl
 m18:=by kernel_rfl
 m19:=by kernel_rfl }
open Go.RowKit in
theorem Tryz.strconv_FormatInt_10 (n:Int) (h0:-9223372036854775808≤n) (h1:n≤9223372036854775807) (w:World) (htab:Lib.TabIs Tryz.prog w "internal/strconv.uint64pow10" .u64 Lib.pow10Tab) :
  Calls Tryz.prog 124 #[.int .i64 n,.int .i64 10] w fun e w'=>e=.returned (.string ⟨(Lib.itoa n).toArray⟩)∧∃ k os,w'=Sort.grow (w.drewN k) os:=Any.strconv_FormatInt_10 Tryz.lays173 n h0 h1 w htab
end Go.Proofs


namespace Go.Proofs
open Go.Shelf
def Tryz.lays146_ren:Go.Shelf.Ren:=⟨fun|146=>49|221=>95|268=>139|138=>140|143=>141|195=>168|197=>169|218=>170|219=>171|260=>205|217=>206|225=>207|224=>208|267=>209|266=>235|314=>236|n=>n,fun|9=>9|31=>26|3=>3|4=>4|0=>0|105=>233|21=>21|5=>5|46=>267|119=>299|139=>302|138=>301|146=>303|51=>286|n=>n,fun|1=>1|3=>5|4=>6|n=>n⟩
theorem Tryz.lays146:Go.Proofs.Lays.n146 Tryz.prog Tryz.lays146_ren:={
 mixed:=by kernel_rfl
 f138:=Tryz.func140.trans (congrArg some (by kernel_rfl))
 f143:=Tryz.func141.trans (congrArg some (by kernel_rfl))
 f146:=Tryz.func49.trans (congrArg some (by kernel_rfl))
 f195:=Tryz.func168.trans (congrArg some (by kernel_rfl))
 f197:=Tryz.func169.trans (congrArg some (by kernel_rfl))
 f217:=Tryz.func206.trans (congrArg some (by kernel_rfl))
 f218:=Tryz.func170.trans (congrArg some (by kernel_rfl))
 f219:=Tryz.func171.trans (congrArg some (by kernel_rfl))
 f221:=Tryz.func95.trans (congrArg some (by kernel_rfl))
 f224:=Tryz.func208.trans (congrArg some (by kernel_rfl))
 f225:=Tryz.func207.trans (congrArg some (by kernel_rfl))
 f260:=Tryz.func205.trans (congrArg some (by kernel_rfl))
 f266:=Tryz.func235.trans (congrArg some (by kernel_rfl))
 f267:=Tryz.func209.trans (congrArg some (by kernel_rfl))
 f268:=Tryz.func139.trans (congrArg some (by kernel_rfl))
 f314:=Tryz.func236.trans (congrArg some (by kernel_rfl))
 t0:=Tryz.underlying0
 a0:=Tryz.isAgg0
 z0:=Tryz.sizeOf0
 v0:=Tryz.zeroValue0
 t3:=Tryz.underlying3
 a3:=Tryz.isAgg3
 z3:=Tryz.sizeOf3
 v3:=Tryz.zeroValue3
 t4:=Tryz.underlying4
 a4:=Tryz.isAgg4
 z4:=Tryz.sizeOf4
 v4:=Tryz.zeroValue4
 t5:=Tryz.underlying5
 a5:=Tryz.isAgg5
 z5:=Tryz.sizeOf5
 v5:=Tryz.zeroValue5
 t9:=Tryz.underlying9
 a9:=Tryz.isAgg9
 z9:=Tryz.sizeOf9
 v9:=Tryz.zeroValue9
 t21:=Tryz.underlying21
 a21:=Tryz.isAgg21
 z21:=Tryz.sizeOf21
 v21:=Tryz.zeroValue21
 t31:=Tryz.underlying26
 a31:=Tryz.isAgg26
 z31:=Tryz.sizeOf26
 v31:=Tryz.zeroValue26
 t46:=Tryz.underlying267
 a46:=Tryz.isAgg267
 z46:=Tryz.sizeOf267
 v46:=Tryz.zeroValue267
 t51:=Tryz.underlying286
 a51:=Tryz.isAgg286
 z51:=Tryz.sizeOf286
 v51:=Tryz.zeroValue286
 t105:=Tryz.underlying233
 a105:=Tryz.isAgg233
 z105:=Tryz.sizeOf233
 v105:=Tryz.zeroValue233
 t119:=Tryz.underlying299
 a119:=Tryz.isAgg299
 z119:=Tryz.sizeOf299
 t138:=Tryz.underlying301
 a138:=Tryz.isAgg301
 z138:=Tryz.sizeOf301
 v138:=Tryz.zeroValue301
 t139:=Tryz.underlying302
 a139:=Tryz.isAgg302
 z139:=Tryz.sizeOf302
 v139:=Tryz.zeroValue302
 t146:=Tryz.underlying303
 a146:=Tryz.isAgg303
 z146:=Tryz.sizeOf303
 v146:=Tryz.zeroValue303
 g1:=by kernel_rfl
 g3:=by kernel_rfl
 g4:=by kernel_rfl }
def Tryz.laysC174_ren:Go.Shelf.Ren:=⟨fun|174=>136|247=>166|245=>167|287=>200|279=>201|280=>202|281=>203|282=>204|321=>230|322=>231|316=>232|171=>234|205=>233|243=>258|246=>156|283=>182|284=>183|285=>184|286=>185|129=>221|317=>220|318=>222|319=>223|320=>224|337=>252|338=>253|n=>n,fun|9=>9|3=>3|2=>2|75=>203|85=>204|4=>4|167=>268|5=>5|53=>248|175=>269|46=>267|168=>271|37=>55|0=>0|210=>297|21=>21|127=>324|145=>327|143=>325|171=>247|173=>251|212=>285|51=>286|20=>20|213=>287|232=>334|233=>335|80=>342|n=>n,fun|15=>3|16=>4|17=>2|18=>7|19=>8|n=>n⟩
theorem Tryz.laysC174:Go.Proofs.LaysC.n174 Tryz.prog Tryz.laysC174_ren:={
 mixed:=by kernel_rfl
 f129:=Tryz.func221.trans (congrArg some (by kernel_rfl))
 f171:=Tryz.func234.trans (congrArg some (by kernel_rfl))
 f174:=Tryz.func136.trans (congrArg some (by kernel_rfl))
 f205:=Tryz.func233.trans (congrArg some (by kernel_rfl))
 f243:=Tryz.func258.trans (congrArg some (by kernel_rfl))
 f245:=Tryz.func167.trans (congrArg some (by kernel_rfl))
 f246:=Tryz.func156.trans (congrArg some (by kernel_rfl))
 f247:=Tryz.func166.trans (congrArg some (by kernel_rfl))
 f279:=Tryz.func201.trans (congrArg some (by kernel_rfl))
 f280:=Tryz.func202.trans (congrArg some (by kernel_rfl))
 f281:=Tryz.func203.trans (congrArg some (by kernel_rfl))
 f282:=Tryz.func204.trans (congrArg some (by kernel_rfl))
 f283:=Tryz.func182.trans (congrArg some (by kernel_rfl))
 f284:=Tryz.func183.trans (congrArg some (by kernel_rfl))
 f285:=Tryz.func184.trans (congrArg some (by kernel_rfl))
 f286:=Tryz.func185.trans (congrArg some (by kernel_rfl))
 f287:=Tryz.func200.trans (congrArg some (by kernel_rfl))
 f316:=Tryz.func232.trans (congrArg some (by kernel_rfl))
 f317:=Tryz.func220.trans (congrArg some (by kernel_rfl))
 f318:=Tryz.func222.trans (congrArg some (by kernel_rfl))
 f319:=Tryz.func223.trans (congrArg some (by kernel_rfl))
 f320:=Tryz.func224.trans (congrArg some (by kernel_rfl))
 f321:=Tryz.func230.trans (congrArg some (by kernel_rfl))
 f322:=Tryz.func231.trans (congrArg some (by kernel_rfl))
 f337:=Tryz.func252.trans (congrArg some (by kernel_rfl))
 f338:=Tryz.func253.trans (congrArg some (by kernel_rfl))
 t0:=Tryz.underlying0
 a0:=Tryz.isAgg0
 z0:=Tryz.sizeOf0
 v0:=Tryz.zeroValue0
 t2:=Tryz.underlying2
 a2:=Tryz.isAgg2
 z2:=Tryz.sizeOf2
 v2:=Tryz.zeroValue2
 t3:=Tryz.underlying3
 a3:=Tryz.isAgg3
 z3:=Tryz.sizeOf3
 v3:=Tryz.zeroValue3
 t4:=Tryz.underlying4
 a4:=Tryz.isAgg4
 z4:=Tryz.sizeOf4
 v4:=Tryz.zeroValue4
 t5:=Tryz.underlying5
 a5:=Tryz.isAgg5
 z5:=Tryz.sizeOf5
 v5:=Tryz.zeroValue5
 t9:=Tryz.underlying9
 a9:=Tryz.isAgg9
 z9:=Tryz.sizeOf9
 v9:=Tryz.zeroValue9
 t20:=Tryz.underlying20
 a20:=Tryz.isAgg20
 z20:=Tryz.sizeOf20
 v20:=Tryz.zeroValue20
 t21:=Tryz.underlying21
 a21:=Tryz.isAgg21
 z21:=Tryz.sizeOf21
 v21:=Tryz.zeroValue21
 t37:=Tryz.underlying55
 a37:=Tryz.isAgg55
 z37:=Tryz.sizeOf55
 v37:=Tryz.zeroValue55
 t46:=Tryz.underlying267
 a46:=Tryz.isAgg267
 z46:=Tryz.sizeOf267
 v46:=Tryz.zeroValue267
 t51:=Tryz.underlying286
 a51:=Tryz.isAgg286
 z51:=Tryz.sizeOf286
 v51:=Tryz.zeroValue286
 t53:=Tryz.underlying248
 a53:=Tryz.isAgg248
 z53:=Tryz.sizeOf248
 v53:=Tryz.zeroValue248
 t75:=Tryz.underlying203
 a75:=Tryz.isAgg203
 z75:=Tryz.sizeOf203
 v75:=Tryz.zeroValue203
 t85:=Tryz.underlying204
 a85:=Tryz.isAgg204
 z85:=Tryz.sizeOf204
 v85:=Tryz.zeroValue204
 t127:=Tryz.underlying324
 a127:=Tryz.isAgg324
 z127:=Tryz.sizeOf324
 v127:=Tryz.zeroValue324
 t143:=Tryz.underlying325
 a143:=Tryz.isAgg325
 z143:=Tryz.sizeOf325
 v143:=Tryz.zeroValue325
 t145:=Tryz.underlying327
 a145:=Tryz.isAgg327
 z145:=Tryz.sizeOf327
 v145:=Tryz.zeroValue327
 t167:=Tryz.underlying268
 a167:=Tryz.isAgg268
 z167:=Tryz.sizeOf268
 v167:=Tryz.zeroValue268
 t168:=Tryz.underlying271
 a168:=Tryz.isAgg271
 z168:=Tryz.sizeOf271
 v168:=Tryz.zeroValue271
 t171:=Tryz.underlying247
 a171:=Tryz.isAgg247
 z171:=Tryz.sizeOf247
 v171:=Tryz.zeroValue247
 t173:=Tryz.underlying251
 a173:=Tryz.isAgg251
 z173:=Tryz.sizeOf251
 v173:=Tryz.zeroValue251
 t175:=Tryz.underlying269
 a175:=Tryz.isAgg269
 z175:=Tryz.sizeOf269
 v175:=Tryz.zeroValue269
 t210:=Tryz.underlying297
 a210:=Tryz.isAgg297
 z210:=Tryz.sizeOf297
 v210:=Tryz.zeroValue297
 t212:=Tryz.underlying285
 a212:=Tryz.isAgg285
 z212:=Tryz.sizeOf285
 v212:=Tryz.zeroValue285
 t213:=Tryz.underlying287
 a213:=Tryz.isAgg287
 z213:=Tryz.sizeOf287
 t232:=Tryz.underlying334
 a232:=Tryz.isAgg334
 z232:=Tryz.sizeOf334
 v232:=Tryz.zeroValue334
 t233:=Tryz.underlying335
 a233:=Tryz.isAgg335
 z233:=Tryz.sizeOf335
 v233:=Tryz.zeroValue335
 g15:=by kernel_rfl
 g16:=by kernel_rfl
 g17:=by kernel_rfl
 g18:=by kernel_rfl
 g19:=by kernel_rfl
 t80:=Tryz.underlying342
 a80:=Tryz.isAgg342
 z80:=Tryz.sizeOf342
 v80:=Tryz.zeroValue342
 i0:=by kernel_rfl
 i2:=by kernel_rfl
 i3:=by kernel_rfl
 i4:=by kernel_rfl
 i5:=by kernel_rfl
 i9:=by kernel_rfl
 i20:=by kernel_rfl
 i21:=by kernel_rfl
 i37:=by kernel_rfl
 i46:=by kernel_rfl
 i51:=by kernel_rfl
 i53:=by kernel_rfl
 i75:=by kernel_rfl
 i80:=by kernel_rfl
 i85:=by kernel_rfl
 i127:=by kernel_rfl
 i143:=by kernel_rfl
 i145:=by kernel_rfl
 i167:=by kernel_rfl
 i168:=by kernel_rfl
 i171:=by kernel_rfl
 i173:=by kernel_rfl
 i175:=by kernel_rfl
 i210:=by kernel_rfl
 i212:=by kernel_rfl
 i232:=by kernel_rfl
 i233:=by kernel_rfl
 m15:=by kernel_rfl
 m16:=by kernel_rfl
 m17:=by kernel_rfl
 m18:=by kernel_rfl
 m19:=by kernel_rfl
 c0:=by kernel_rfl
 c2:=by kernel_rfl
 c3:=by kernel_rfl
 c4:=by kernel_rfl
 c5:=by kernel_rfl
 c9:=by kernel_rfl
 c20:=by kernel_rfl
 c21:=by kernel_rfl
 c37:=by kernel_rfl
 c46:=by kernel_rfl
 c51:=by kernel_rfl
 c53:=by kernel_rfl
 c75:=by kernel_rfl
 c80:=by kernel_rfl
 c85:=by kernel_rfl
 c127:=by kernel_rfl
 c143:=by kernel_rfl
 c145:=by kernel_rfl
 c167:=by kernel_rfl
 c168:=by kernel_rfl
 c171:=by kernel_rfl
 c173:=by kernel_rfl
 c175:=by kernel_rfl
 c210:=by kernel_rfl
 c212:=by kernel_rfl
 c213:=by kernel_rfl
 c232:=by kernel_rfl
 c233:=by kernel_rfl }
open Go.RowKit in
theorem Tryz.strings_Split (s sep:ByteArray) (m:Int) (w:World) (hs:s.size<4294967281) (hm:w.cell? ⟨1,0,none⟩=some (.int .i64 m)) (h1:1≤sep.size) :
  Calls Tryz.prog 49 #[.string s,.string sep] w fun e w' =>
   e=.returned (.slice (some ⟨w.heap.size,0,none⟩) (Lib.countB s sep+1) (Lib.countB s sep+1))∧w'=w.alloc (.cells ((Lib.splitB sep 0 (Lib.countB s sep) s).map Value.string).toArray 9):=Any.strings_Split Tryz.lays146 (by kernel_rfl) s sep m w hs hm h1
open Go.RowKit in
theorem Tryz.strconv_ParseInt_ok (s:ByteArray) (hmax:s.size≤9223372036854775806) (v:Int) (h:Lib.parseIntB 64 s.data.toList=.ok v) (w:World) :
  Calls Tryz.prog 136 #[.string s,.int .i64 10,.int .i64 64] w fun e w'=>e=.returned (.tuple #[.int .i64 v,.nilIface])∧Below w.heap.size w w':=(Any.strconv_ParseInt_10_at64_ok Tryz.laysC174 s hmax v h w).mono fun _ _ ⟨he,hw⟩=>⟨he,hw.elim (fun h=>h ▸ Below.refl _ _) fun ⟨_,h⟩=>h ▸ Lib.bytesWorld_below _ _ _⟩
open Go.RowKit in
theorem Tryz.strconv_ParseInt_syntax (s:ByteArray) (hlim:s.size≤281474976710656) (h1:∀ v,Lib.parseIntB 64 s.data.toList=.ok v→False) (h2:Lib.parseIntB 64 s.data.toList=.range→False) (ev:Value) (w:World) (hv:w.cell? ⟨3,0,none⟩=some ev) (hev:ev=.nilIface∨∃ te pe,ev=.iface te pe) :
  Calls Tryz.prog 136 #[.string s,.int .i64 10,.int .i64 64] w fun e w'=>(∃ t pe,e=.returned (.tuple #[.int .i64 (0),.iface t pe]))∧Below w.heap.size w w':=by
 cases h:Lib.parseIntB 64 s.data.toList with
 | ok v => exact (h1 v h).elim
 | range => exact (h2 h).elim
 | _ => exact (Any.strconv_ParseInt_10_at64_syntax Tryz.laysC174 s hlim h ev w hv hev).mono fun _ _ ⟨_,he,_,_,hb⟩=>⟨⟨_,_,he⟩,hb⟩
open Go.RowKit in
theorem Tryz.strconv_ParseInt_range (s:ByteArray) (hlim:s.size≤281474976710656) (h:Lib.parseIntB 64 s.data.toList=.range) (ev:Value) (w:World) (hv:w.cell? ⟨4,0,none⟩=some ev) (hev:ev=.nilIface∨∃ te pe,ev=.iface te pe) :
  Calls Tryz.prog 136 #[.string s,.int .i64 10,.int .i64 64] w fun e w'=>(∃ t pe,e=.returned (.tuple #[.int .i64 (Lib.intSat 64 s.data.toList),.iface t pe]))∧Below w.heap.size w w':=(Any.strconv_ParseInt_10_at64_range Tryz.laysC174 s hlim h ev w hv hev).mono fun _ _ ⟨_,he,_,_,hb⟩=>⟨⟨_,_,he⟩,hb⟩
end Go.Proofs


namespace Go.Fw
open Go
open Go.RowKit (Below)
section
variable {P:Program} {T:Tab} {n:Nat} {Q:Exit→Act→World→Prop} {k:List It} {e:Env} {w0 w w':World} {L L':List Ch}
theorem SH.append (h:SH w0 w L) (hL:SH w w' L') (hD:∀ c,c ∈ L'→∀ b,c.D b→b<w0.heap.size):SH w0 w' (L'++L):=by
 have h':=h.ext hL.below
 refine ⟨h'.below,fun c hc=>?_,fun c hc=>?_,?_⟩
 ·rcases List.mem_append.1 hc with hc|hc
  ·obtain ⟨p,s⟩:=hL.holds c hc
   exact ⟨p,fun b hb=>⟨Nat.le_trans h.below.size (s b hb).1,(s b hb).2⟩⟩
  ·exact h'.holds c hc
 ·rcases List.mem_append.1 hc with hc|hc
  ·exact hD c hc
  ·exact h.elder c hc
 ·refine List.pairwise_append.2 ⟨hL.apart,h.apart,fun c hc d hd b hcb hdb=>?_⟩
  have h1:=((hL.holds c hc).2 b hcb).1
  have h2:=((h.holds d hd).2 b hdb).2
  omega
end
end Go.Fw


namespace Go.Fw
open Go Go.Sort
open Go.RowKit (Below)
section
variable {P:Program} {T:Tab} {n:Nat} {Q:Exit→Act→World→Prop} {k:List It} {e:Env} {w0 w w':World} {L L':List Ch}
end
end Go.Fw


namespace Go.Fw
open Go
open Go.RowKit (Below)
section
variable {w0 w w':World} {L:List Ch} {α:Type} [GoT α]
def RAll (w:World) (A:Nat→Prop):List α→List (Raw α)→Prop
 | [],[]=>True
 | x::xs,r::rs=>GoT.R w A x r.cs∧RAll w A xs rs
 | _,_=>False
theorem RAll.at {A:Nat→Prop}:∀ {xs:List α} {rs:List (Raw α)},RAll w A xs rs→xs.length=rs.length∧∀ (i:Nat) x,xs[i]?=some x→∃ r,rs[i]?=some r∧GoT.R w A x r.cs
 | [],[],_=>⟨rfl,fun i x h=>by simp at h⟩
 | x::xs,[],h=>h.elim
 | [],r::rs,h=>h.elim
 | x::xs,r::rs,h=>by
  obtain ⟨hl,ha⟩:=RAll.at h.2
  refine ⟨by simp [hl],fun i y hy=>?_⟩
  cases i with
  | zero=>simp only [List.getElem?_cons_zero,Option.some.injEq] at hy ⊢;subst hy;exact ⟨r,rfl,h.1⟩
  | succ i=>simp only [List.getElem?_cons_succ] at hy ⊢;exact ha i y hy
end
end Go.Fw


namespace Go.Fw
open Go
end Go.Fw


namespace Go.Fw
open Go
open Go.RowKit (Below)
section
variable {P:Program} {T:Tab} {n:Nat} {Q:Exit→Act→World→Prop} {k:List It} {e:Env} {w0 w:World} {L:List Ch}
variable {α:Type} [GoT α] {S S1:Nat→Prop} {xs ys:List α} {p p':Option Addr} {c c':Nat}
end
section
variable {α β γ:Type}
def Emp (o:Option (List α)):Prop:=∀ r,o=some r→r=[]
theorem Emp.none:Emp (none:Option (List α)):=fun _ h=>by cases h
theorem Emp.noneB {f:β→Option (List α)}:Emp ((Option.none:Option β).bind f):=fun _ h=>by cases h
theorem Emp.nil:Emp (some ([]:List α)):=fun _ h=>(Option.some.inj h).symm
theorem Emp.bif {c:Bool} {a b:Option (List α)} (h1:Emp a) (h2:Emp b):Emp (bif c then a else b):=by cases c<;>assumption
theorem Emp.sub {xs:List β} {lo:Int} {f:List β→Option (List α)} (h:Emp (f [])):Emp ((subS xs lo ((0:Nat):Int)).bind f):=fun r hr=>by
 cases hs:subS xs lo ((0:Nat):Int) with
 | none=>rw [hs] at hr;cases hr
 | some y =>
  rw [hs] at hr
  obtain ⟨_,_,_,e⟩:=qkU hs
  have:y=[]:=by rw [←e];simp
  subst this
  exact h r hr
theorem Emp.subB {xs:List β} {lo:Int} {g:List β→Option γ} {f:γ→Option (List α)} (h:Emp ((g []).bind f)):Emp (((subS xs lo ((0:Nat):Int)).bind g).bind f):=by
 rw [Option.bind_assoc]
 exact Emp.sub (f:=fun y=>(g y).bind f) h
theorem Emp.bind {x:Option β} {f:β→Option (List α)} (h:∀ y,Emp (f y)):Emp (x.bind f):=by
 cases x with
 | none=>exact Emp.noneB
 | some y=>exact h y
end
end Go.Fw


namespace Go.Fw
open Go
section
variable {ε:Type}
variable {ρ σ τ:Type}
end
end Go.Fw


namespace Go.Fw
open Go
end Go.Fw


namespace Go.Fw
open Go
open Go.RowKit (Below)
structure Same where
 w:World
 K:Nat→Prop
instance instSame:GoT Same where
 k:=1
 agg:=false
 zero:=⟨default,fun _=>False⟩
 zc:=[.bool true]
 R w S x cs:=cs=[.bool true]∧∀ b,x.K b→S b∧w.heap[b]?=x.w.heap[b]?
 O w S x cs:=cs=[.bool true]∧∀ b,x.K b→S b∧w.heap[b]?=x.w.heap[b]?
 kpos:=by decide
 noagg _:=rfl
 len h:=by obtain ⟨rfl,_⟩:=h;rfl
 one h:=by obtain ⟨rfl,_⟩:=h;simp [Value.oneCell']
 loc h hs:=⟨h.1,fun b hb=>⟨(h.2 b hb).1,(hs b (h.2 b hb).1).trans (h.2 b hb).2⟩⟩
 mono h hs:=⟨h.1,fun b hb=>⟨hs b (h.2 b hb).1,(h.2 b hb).2⟩⟩
 toR h:=h
 locO h hs:=⟨h.1,fun b hb=>⟨(h.2 b hb).1,(hs b (h.2 b hb).1).trans (h.2 b hb).2⟩⟩
 monoO h hs:=⟨h.1,fun b hb=>⟨hs b (h.2 b hb).1,(h.2 b hb).2⟩⟩
 zO _ _:=⟨rfl,fun _ h=>h.elim⟩
def FS (F:List Ch) (b:Nat):Prop:=∃ d,d ∈ F∧d.S b
abbrev Fr (w0:World) (F:List Ch) (b:Nat):Prop:=FS F b∨old w0 b
abbrev same (w0 w:World) (F:List Ch):Fct:=fct (⟨w,Fr w0 F⟩:Same) [.bool true]
section
variable {P:Program} {T:Tab} {n:Nat} {Q:Exit→Act→World→Prop} {k:List It} {e:Env} {w0 w w':World} {L L' F:List Ch}
theorem SH.frame (L:List Ch) (h:SH w0 w (L++F)):SH w0 w (L++[Ch.grp (Fw.old w0) (FS F) [same w0 w F]]):=by
 have hp:=List.pairwise_append.1 h.apart
 refine ⟨h.below,fun c hc=>?_,fun c hc=>?_,List.pairwise_append.2 ⟨hp.1,List.pairwise_singleton ..,fun c hc d hd b hb=>?_⟩⟩
 ·rcases List.mem_append.1 hc with hc|hc
  ·exact h.holds c (List.mem_append_left _ hc)
  ·obtain rfl:=List.mem_singleton.1 hc
   refine ⟨fun f hf=>?_,fun b hb=>?_⟩
   ·obtain rfl:=List.mem_singleton.1 hf
    exact ⟨rfl,fun b hb=>⟨hb,rfl⟩⟩
   ·obtain ⟨d,hd,hb⟩:=hb
    exact (h.holds d (List.mem_append_right _ hd)).2 b hb
 ·rcases List.mem_append.1 hc with hc|hc
  ·exact h.elder c (List.mem_append_left _ hc)
  ·obtain rfl:=List.mem_singleton.1 hc
   exact fun b hb=>hb
 ·obtain rfl:=List.mem_singleton.1 hd
  rintro ⟨d,hd,hdb⟩
  exact hp.2.2 c hc d hd b hb hdb
variable {α:Type} [GoT α] {x:α} {cs:List Value} {S D:Nat→Prop} {fs:List Fct}
def RetW (P:Program) (f:FuncId) (vs:List Value) (w:World) (J:List Value→World→Prop):Prop :=
 Calls P f vs.toArray w fun e w'=>∃ us,e=.returned (tup us)∧J us w'
theorem qrS {J:List Value→World→Prop} {all:Array Oper} {l:List Oper} {d ty:Nat} {ps:String} {af:Array Edge} {x:Operand} {args:Array Operand} {ats:Array TypeId} {f:FuncId} {fi ca:Array Value} {az vs:List Value}
  (hcall:qer P f) (hc:RetW P f vs w J) (hx:opv e x=some (.func (.func f) fi ca)) (hargs:opvs e args.toList=some az) (hvs:fi.toList++az++ca.toList=vs) (hn:Nat.blt d n=true)
  (hk:∀ w' us,J us w'→Run P n Q (.ops all l::k) ((d,tup us)::e) w'):Run P n Q (.ops all (⟨some d,.call ⟨.value x,args,ats⟩,ty,ps,af,none⟩::l)::k) e w:=by
 subst hvs
 refine qlH (R:=fun v w'=>∃ us,v=tup us∧J us w') rfl rfl hn (fun a ha=>qiq ha hcall hx hargs w) (hc.mono ?_) ?_
 ·rintro e w' ⟨us,rfl,h⟩;exact ⟨_,rfl,us,rfl,h⟩
 ·rintro v w' ⟨us,rfl,h⟩;exact hk w' us h
end
section
open Go.ChangeShapes Go.RowKit
variable {H:Type} {enc:TypeId × Value→H} {P:Program} {w:World} {base:Nat} {spare:Nat→Bool} {held:Bool}
end
end Go.Fw


namespace Go.Fw
open Go
open Go.RowKit (Below)
section
variable {P:Program} {T:Tab} {n:Nat} {Q:Exit→Act→World→Prop} {k:List It} {e:Env} {w0 w w':World} {L:List Ch}
variable {α β:Type} [GoT α] [GoT β] {S Sr Se D:Nat→Prop} {xs ys:List α} {p p':Option Addr} {c c':Nat} {fs:List Fct} {x:α} {cs:List Value}
theorem RAll.loc {A:Nat→Prop}:∀ {xs:List α} {rs:List (Raw α)},RAll w A xs rs→(∀ b,A b→w'.heap[b]?=w.heap[b]?)→RAll w' A xs rs
 | [],[],_,_=>trivial
 | _::_,[],h,_=>h.elim
 | [],_::_,h,_=>h.elim
 | _::_,_::_,h,hb=>⟨GoT.loc h.1 hb,RAll.loc h.2 hb⟩
theorem RAll.mono {A B:Nat→Prop} (hb:∀ b,A b→B b):∀ {xs:List α} {rs:List (Raw α)},RAll w A xs rs→RAll w B xs rs
 | [],[],_=>trivial
 | _::_,[],h=>h.elim
 | [],_::_,h=>h.elim
 | _::_,_::_,h=>⟨GoT.mono h.1 hb,RAll.mono hb h.2⟩
theorem RAll.app {A:Nat→Prop}:∀ {xs:List α} {rs:List (Raw α)} {ys:List α} {qs:List (Raw α)},RAll w A xs rs→RAll w A ys qs→RAll w A (xs++ys) (rs++qs)
 | [],[],_,_,_,h=>h
 | _::_,[],_,_,h,_=>h.elim
 | [],_::_,_,_,h,_=>h.elim
 | _::_,_::_,_,_,h,h'=>⟨h.1,RAll.app h.2 h'⟩
theorem RAll.of {A:Nat→Prop}:∀ {xs:List α} {rs:List (Raw α)},xs.length=rs.length→(∀ (i:Nat) (x:α) (r:Raw α),xs[i]?=some x→rs[i]?=some r→GoT.R w A x r.cs)→RAll w A xs rs
 | [],[],_,_=>trivial
 | _::_,[],h,_=>by cases h
 | [],_::_,h,_=>by cases h
 | x::xs,r::rs,h,ha=>⟨ha 0 x r rfl rfl,RAll.of (by simpa using h) fun i y q hy hq=>ha (i+1) y q (by simpa using hy) (by simpa using hq)⟩
theorem RAll.len {A:Nat→Prop} {rs:List (Raw α)} (h:RAll w A xs rs):xs.length=rs.length:=h.at.1
end
end Go.Fw


namespace Go.Fw
open Go
end Go.Fw


namespace Go.Fw
open Go
open Go.RowKit (Below)
section
variable {P:Program} {T:Tab} {n:Nat} {Q:Exit→Act→World→Prop} {k:List It} {e:Env} {w0 w w':World} {L:List Ch}
end
end Go.Fw


namespace Go.Fw
open Go
open Go.RowKit (Below)
section
variable {P:Program} {T:Tab} {n:Nat} {e:Env} {w:World}
def b3 (a0:Bool) (a1 a2 a3:Int):Array Value:=#[.bool a0,.int .i64 a1,.int .i64 a2,.int .i64 a3]
end
end Go.Fw


namespace Go.Fw
open Go
section
variable {P:Program} {T:Tab} {n:Nat} {e:Env} {w:World}
end
end Go.Fw


namespace Go.Fw
open Go
open Go.RowKit (Below)
section
variable {P:Program} {T:Tab} {n:Nat} {Q:Exit→Act→World→Prop} {k:List It} {e:Env} {w0 w w':World} {L:List Ch}
variable {α β:Type} [GoT α] [GoT β] {S Sr Se D:Nat→Prop} {xs ys:List α} {p p':Option Addr} {c c':Nat} {fs:List Fct} {x:α} {cs:List Value}
end
end Go.Fw


namespace Go.Fw
open Go
open Go.RowKit (Below)
section
variable {w0 w w':World} {L LL F:List Ch} {c:Ch} {fs:List Fct}
end
section
variable {P:Program} {n:Nat} {Q:Exit→Act→World→Prop} {k:List It}
end
end Go.Fw


namespace Go.Fw
open Go
open Go.RowKit (Below)
def exWords:List ByteArray:=[⟨#[]⟩,⟨#[102,97,108,115,101]⟩,⟨#[99,121,99,108,101,115]⟩,⟨#[109,97,120]⟩,⟨#[109,105,110]⟩]
structure GVar (g:Nat) (cs:List Value) where
 ok:Bool
instance gt_GVar {g:Nat} {cs:List Value}:GoT (GVar g cs) where
 k:=1
 agg:=false
 zero:=⟨false⟩
 zc:=[.pointer none]
 R w S x ds:=match x.ok with
  | true=>ds=[.pointer (some ⟨g,0,none⟩)]∧S g∧∃ T fr,w.heap[g]?=some (.cells cs.toArray T fr)
  | false=>ds=[.pointer none]
 O w S x ds:=match x.ok with
  | true=>ds=[.pointer (some ⟨g,0,none⟩)]∧S g∧∃ T fr,w.heap[g]?=some (.cells cs.toArray T fr)
  | false=>ds=[.pointer none]
 kpos:=by decide
 noagg _:=rfl
 len {w S x ds} h:=by
  obtain ⟨b⟩:=x
  cases b with
  | true=>obtain ⟨rfl,_⟩:=h;rfl
  | false=>obtain rfl:ds=_:=h;rfl
 one {w S x ds} h:=by
  obtain ⟨b⟩:=x
  cases b with
  | true=>obtain ⟨rfl,_⟩:=h;simp [Value.oneCell']
  | false=>obtain rfl:ds=_:=h;simp [Value.oneCell']
 loc {w w' S x ds} h hs:=by
  obtain ⟨b⟩:=x
  cases b with
  | true=>obtain ⟨h1,h2,T,fr,h3⟩:=h;exact ⟨h1,h2,T,fr,by rw [hs _ h2];exact h3⟩
  | false=>exact h
 mono {w S S' x ds} h hs:=by
  obtain ⟨b⟩:=x
  cases b with
  | true=>obtain ⟨h1,h2,h3⟩:=h;exact ⟨h1,hs _ h2,h3⟩
  | false=>exact h
 toR h:=h
 locO {w w' S x ds} h hs:=by
  obtain ⟨b⟩:=x
  cases b with
  | true=>obtain ⟨h1,h2,T,fr,h3⟩:=h;exact ⟨h1,h2,T,fr,by rw [hs _ h2];exact h3⟩
  | false=>exact h
 monoO {w S S' x ds} h hs:=by
  obtain ⟨b⟩:=x
  cases b with
  | true=>obtain ⟨h1,h2,h3⟩:=h;exact ⟨h1,hs _ h2,h3⟩
  | false=>exact h
 zO _ _:=rfl
abbrev GV (g:Nat) (cs:List Value) (w:World) (S:Nat→Prop):Prop:=GoT.R w S (⟨true⟩:GVar g cs) [.pointer (some ⟨g,0,none⟩)]
section
variable {P:Program} {T:Tab} {n:Nat} {e:Env} {w:World} {g:Nat} {cs:List Value} {S:Nat→Prop}
theorem GV.heap (h:GV g cs w S):∃ T fr,w.heap[g]?=some (.cells cs.toArray T fr):=h.2.2
theorem GV.mk (T:TypeId) (fr:Nat × Nat) (h:w.heap[g]?=some (.cells cs.toArray T fr)):GV g cs w (Fw.old w) :=
 ⟨rfl,(Array.getElem?_eq_some_iff.1 h).1,T,fr,h⟩
theorem GV.var {nm:String} (h:GV g cs w S) (hg:P.globalNamed nm=some g):w.var? P nm=some cs.toArray:=by
 obtain ⟨T,fr,hh⟩:=h.heap
 unfold World.var?
 rw [hg]
 simp only [jd,hh]
theorem GV.of_var {nm:String} (h:w.var? P nm=some cs.toArray) (hg:P.globalNamed nm=some g):GV g cs w (Fw.old w):=by
 unfold World.var? at h
 rw [hg] at h
 simp only [jd] at h
 split at h
 ·rename_i c T fr hh
  simp only [Option.some.injEq] at h
  subst h
  exact GV.mk T fr hh
 ·cases h
theorem GV.cells (h:GV g cs w S):CellsAt w g 0 cs:=by
 obtain ⟨T,fr,hh⟩:=h.heap
 exact CellsAt.of_block hh (fun j v hj=>by simpa using hj)
theorem qtb (hT:TabOk P T) {x i:Operand} {t ty d el m:Nat} {ps:String} {af:Array Edge} {gd:Option (Nat × Bool)} {te te':TE} {kd:IntKind} {iv:Int}
  (hx:opv e x=some (.pointer (some ⟨g,0,none⟩))) (hi:opv e i=some (.int kd iv)) (hlt:0≤iv∧iv<(m:Int))
  (hte:T.get t=some te∧te.kind=.arr m el) (hel:T.get el=some te') (hm:te'.size=1):Val P n e ⟨some d,.indexAddr t x i,ty,ps,af,gd⟩ w (.pointer (some ⟨g,0+iv.toNat,none⟩)):=by
 have hb:iv=((iv.toNat:Nat):Int):=by omega
 have h:=qqW (P:=P) (T:=T) (n:=n) (e:=e) (w:=w) (o:=0) (iv:=iv.toNat) (sz:=1) (d:=d) (ty:=ty) (ps:=ps) (af:=af) (g:=gd) hT hx (by rw [←hb];exact hi) (by omega) hte hel hm
 rwa [Nat.mul_one] at h
theorem qsY {xs:List ByteArray} {i:Int} {y:ByteArray} (h:idx xs i=some y):(xs.map Value.string)[i.toNat]?=some (.string y):=by
 rw [List.getElem?_map,(qaX h).2.2];rfl
theorem qtd (hT:TabOk P T) {x:Operand} {t ty d j:Nat} {te:TE} {ps:String} {af:Array Edge} {gd:Option (Nat × Bool)} {v:Value}
  (h:GV g cs w S) (hc:cs[j]?=some v) (hx:opv e x=some (.pointer (some ⟨g,0+j,none⟩))) (hte:T.get t=some te) (ha:te.agg=false):Val P n e ⟨some d,.load t x,ty,ps,af,gd⟩ w v :=
 qiV hT h.cells hx hte (by unfold ld;rw [ha];exact hc)
end
def varsRead (P:Program) (ns:List String):Bool:=ns.all fun n=>match P.globalNamed n with
 | none=>true
 | some g=>match P.globals[g]? with
  | none=>true
  | some x=>P.readableRec x.type&&decide (x.type<P.types.size)
section
open Go.ChangeShapes Go.WideShapes Go.ChangeAt Go.RowKit
variable {P:Program} {H:Type} {enc:TypeId × Value→H}
theorem qmL {n:String} {ns:List String} (h:varsRead P (n::ns)=true) {g:Nat} {t:TypeId} (hg:P.globalNamed n=some g) (ht:(P.globals[g]?).map (·.type)=some t):(P.readableRec t=true∧t<P.types.size)∧varsRead P ns=true:=by
 unfold varsRead at h
 rw [List.all_cons,jg] at h
 refine ⟨?_,h.2⟩
 have h1:=h.1
 simp only [hg] at h1
 cases hx:P.globals[g]? with
 | none=>rw [hx] at ht;cases ht
 | some x =>
  rw [hx] at ht
  simp only [hx] at h1
  obtain rfl:x.type=t:=Option.some.inj ht
  simpa using h1
theorem qnm {W W':World} (hb:Below W.heap.size W W') {n:String} {cs:Array Value} (h:W.var? P n=some cs):W'.var? P n=some cs:=by
 unfold World.var? at h ⊢
 cases hg:P.globalNamed n with
 | none=>rw [hg] at h;cases h
 | some g =>
  rw [hg] at h
  simp only [jd] at h ⊢
  have hlt:g<W.heap.size:=by
   cases hh:W.heap[g]? with
   | none=>rw [hh] at h;cases h
   | some o=>exact (Array.getElem?_eq_some_iff.1 hh).1
  rw [hb.block g hlt]
  exact h
theorem qlX (hl:laidOutB P=true) {W W':World} (hb:Below W.heap.size W W'):∀ {ns:List String} {gs:List (DataW H)} {q:List MemPlace},varsRead P ns=true →
  DataW.TrodVars enc P W (fun _=>true) ns gs q→(∀ x ∈ q,x.block<W.heap.size) →
  DataW.TrodVars enc P W' (fun b=>decide (b<W.heap.size)) ns gs q∧DataW.TrodVars enc P W' (fun _=>true) ns gs q:=by
 intro ns
 induction ns with
 | nil =>
  intro gs q _ h _
  obtain ⟨rfl,rfl⟩:=trodVars_none h
  exact ⟨rfl,rfl⟩
 | cons n ns ih =>
  intro gs q hr h hlt
  cases gs with
  | nil=>exact h.elim
  | cons d ds =>
   obtain ⟨g,t,cs,fuel,p,q',h1,h2,h3,h4,hs,rfl⟩:=h
   obtain ⟨⟨r1,r2⟩,hr'⟩:=qmL hr h1 h2
   obtain ⟨i1,i2⟩:=ih hr' hs (fun x hx=>hlt x (by simp [hx]))
   have hlt1:∀ x ∈ p,x.block<W.heap.size:=fun x hx=>hlt x (by simp [hx])
   have hd:DataW.Trod enc P W 0 (fun _=>true) true t (.agg cs) d p:=⟨fuel,by simpa [Value.cells] using h4⟩
   obtain ⟨f1,e1⟩:=Below.trod hl r1 r2 hd hb hlt1
   obtain ⟨f2,e2⟩:=WideElems.Trod_stays hl r1 r2 hd (W':=W') (sp':=fun _=>true) (fun x hx=>hb.same (hlt1 x hx)) (fun _ _=>rfl)
   exact ⟨⟨g,t,cs,f1,p,q',h1,h2,qnm hb h3,by simpa [Value.cells] using e1,i1,rfl⟩,⟨g,t,cs,f2,p,q',h1,h2,qnm hb h3,by simpa [Value.cells] using e2,i2,rfl⟩⟩
theorem qqE {fn:Func} {s:ChangeSpec} {apart fresh handsOn again:Bool} {W W':World} {tb:TypeId} {args:Array Value} {ds gs:List (DataW H)} {p:List MemPlace}
  (hl:laidOutB P=true) (hrr:(fn.params.toList.all fun t=>P.readableRec t&&decide (t<P.types.size))=true) (hres:fn.resultTypes=#[tb]) (htb:P.underlying tb=some .bool) (hvr:varsRead P s.vars=true)
  (hr:(s.fn H (ds++gs)).results=[.lit (.bool true)]) (ha:(s.fn H (ds++gs)).args=ds) (hv:(s.fn H (ds++gs)).vars=gs)
  (hW:DataW.Whole enc P fn.params.toList s.vars apart W args.toList ds gs p) (hb:Below W.heap.size W W') :
  s.post enc P fn apart fresh handsOn again W args (.bool true) W':=by
 have hW0:=hW
 obtain ⟨p0,q0,hA,hV,rfl,hz,hn⟩:=hW
 have hlt:∀ x ∈ p0++q0,x.block<W.heap.size:=fun x hx=>hW0.lt x hx
 obtain ⟨h0',h1'⟩:=qmN hl hb (fun t ht=>by
  have:=List.all_eq_true.1 hrr t ht
  simpa using this) hA (fun x hx=>hlt x (by simp [hx]))
 obtain ⟨v0',v1'⟩:=qlX hl hb hvr hV (fun x hx=>hlt x (by simp [hx]))
 have hR:∀ (b:Nat) (sp:Nat→Bool) (hd:Bool),DataW.TrodAll enc P W' b sp hd fn.resultTypes.toList ((Value.bool true).resultList fn.resultTypes.size) (s.fn H (ds++gs)).results []:=by
  intro b sp hd
  rw [hres,hr]
  exact trodAll_mk1 (shut_bool htb true)
 have hR2:(Value.bool true).resultList fn.resultTypes.size=[.bool true]:=by rw [hres];rfl
 refine ⟨ds,gs,p0++q0,[],p0,q0,hW0,hR _ _ _,?_,?_,hb.frame _,fun _=>?_⟩
 ·rw [ha]
  exact h0'
 ·rw [hv]
  exact v0'
 ·refine ⟨ok_one hres rfl (okWide_bool_mk htb true),.lit (.bool true)::ds,gs,p0++q0,⟨p0,q0,?_,v1',by simp,?_,?_⟩,fun x hx _=>hx⟩
  ·rw [hR2,hres]
   exact ⟨[],p0,shut_bool htb true,h1',by simp⟩
  ·intro b off hm
   rw [hb.frozen (hlt _ hm)]
   exact hz b off hm
  ·intro hap
   exact hn hap
end
section
open Go.ChangeShapes
variable {P:Program} {W:World}
theorem qlJ {L:List (String × DataW Unit)} (h:laidMet P L W) {nm:String} {d:DataW Unit} (hm:(nm,d) ∈ L):∃ g t cs fuel p,P.globalNamed nm=some g∧(P.globals[g]?).map (·.type)=some t∧W.var? P nm=some cs∧DataW.trod (fun _=>()) P W 0 (fun _=>true) false fuel t cs.toList=some (d,p):=by
 obtain ⟨ps,hl,-⟩:=h
 induction L generalizing ps with
 | nil=>cases hm
 | cons x r ih =>
  obtain ⟨g,t,cs,fuel,p,q,h1,h2,h3,h4,hs,_⟩:=hl
  rcases List.mem_cons.1 hm with e|hm
  ·subst e
   exact ⟨g,t,cs,fuel,p,h1,h2,h3,h4⟩
  ·exact ih hm q hs
theorem qmM {H:Type} {enc:TypeId × Value→H} {base:Nat} {sp:Nat→Bool} {held:Bool} {fuel:Nat} {t e:TypeId} {n:Nat} {cs:List Value} {zs:List ByteArray} {p:List MemPlace}
  (ht:P.underlying t=some (.array n e)) (he:P.underlying e=some .string) (hce:P.cellsOf e=1) (hct:P.cellsOf t=n)
  (h:DataW.trod enc P W base sp held fuel t cs=some (.agg (zs.map fun z=>.lit (.string z.data.toList)),p)):cs=zs.map Value.string:=by
 cases fuel with
 | zero=>simp [DataW.trod] at h
 | succ fuel =>
  simp only [DataW.trod,ht,hce,hct,Nat.mul_one] at h
  split at h
  ·rename_i hl
   obtain ⟨xs,hm,hx⟩:=Option.map_eq_some_iff.1 h
   have hxs:xs.map (·.1)=zs.map fun z=>(DataW.lit (.string z.data.toList):DataW H):=by
    have:=congrArg Prod.fst hx
    simpa using this
   have hxl:xs.length=n:=by simpa using Lib.mapM_length hm
   have hzl:zs.length=n:=by
    have:=congrArg List.length hxs
    simp at this
    omega
   apply List.ext_getElem?
   intro i
   by_cases hi:i<n
   ·obtain ⟨b,hb,hf⟩:=Lib.mapM_at hm i i (by simp [hi])
    obtain ⟨z,hc,rfl,_⟩:=DataW.trod_string he hf
    have h1:cs[i]?=some (.string z):=by
     have:=congrArg (·[0]?) hc
     simpa [jw,List.getElem?_drop] using this
    have h2:(xs.map (·.1))[i]?=some (DataW.lit (.string z.data.toList):DataW H):=by simp [hb]
    rw [hxs] at h2
    simp only [List.getElem?_map,Option.map_eq_some_iff,DataW.lit.injEq,Lit.string.injEq] at h2
    obtain ⟨z',hz',e⟩:=h2
    have:z'=z:=by
     apply ByteArray.ext
     exact Array.toList_inj.1 e
    subst this
    simp [h1,hz']
   ·rw [List.getElem?_eq_none (by omega),List.getElem?_eq_none (by simp;omega)]
  ·cases h
end
end Go.Fw


namespace Go.Fw
open Go
open Go.RowKit (Below)
section
variable {P:Program} {T:Tab} {n:Nat} {Q:Exit→Act→World→Prop} {k:List It} {e:Env} {w0 w w':World} {L:List Ch}
end
end Go.Fw


namespace Go.Fw
open Go
open Go.RowKit (Below)
structure GVarE (g:Nat) (p:List Value→Bool) where
 ok:Bool
instance gt_GVarE {g:Nat} {p:List Value→Bool}:GoT (GVarE g p) where
 k:=1
 agg:=false
 zero:=⟨false⟩
 zc:=[.pointer none]
 R w S x ds:=match x.ok with
  | true=>ds=[.pointer (some ⟨g,0,none⟩)]∧S g∧∃ cs T fr,p cs=true∧w.heap[g]?=some (.cells cs.toArray T fr)
  | false=>ds=[.pointer none]
 O w S x ds:=match x.ok with
  | true=>ds=[.pointer (some ⟨g,0,none⟩)]∧S g∧∃ cs T fr,p cs=true∧w.heap[g]?=some (.cells cs.toArray T fr)
  | false=>ds=[.pointer none]
 kpos:=by decide
 noagg _:=rfl
 len {w S x ds} h:=by
  obtain ⟨b⟩:=x
  cases b with
  | true=>obtain ⟨rfl,_⟩:=h;rfl
  | false=>obtain rfl:ds=_:=h;rfl
 one {w S x ds} h:=by
  obtain ⟨b⟩:=x
  cases b with
  | true=>obtain ⟨rfl,_⟩:=h;simp [Value.oneCell']
  | false=>obtain rfl:ds=_:=h;simp [Value.oneCell']
 loc {w w' S x ds} h hs:=by
  obtain ⟨b⟩:=x
  cases b with
  | true=>obtain ⟨h1,h2,cs,T,fr,hp,h3⟩:=h;exact ⟨h1,h2,cs,T,fr,hp,by rw [hs _ h2];exact h3⟩
  | false=>exact h
 mono {w S S' x ds} h hs:=by
  obtain ⟨b⟩:=x
  cases b with
  | true=>obtain ⟨h1,h2,h3⟩:=h;exact ⟨h1,hs _ h2,h3⟩
  | false=>exact h
 toR h:=h
 locO {w w' S x ds} h hs:=by
  obtain ⟨b⟩:=x
  cases b with
  | true=>obtain ⟨h1,h2,cs,T,fr,hp,h3⟩:=h;exact ⟨h1,h2,cs,T,fr,hp,by rw [hs _ h2];exact h3⟩
  | false=>exact h
 monoO {w S S' x ds} h hs:=by
  obtain ⟨b⟩:=x
  cases b with
  | true=>obtain ⟨h1,h2,h3⟩:=h;exact ⟨h1,hs _ h2,h3⟩
  | false=>exact h
 zO _ _:=rfl
abbrev GVE (g:Nat) (p:List Value→Bool) (w:World) (S:Nat→Prop):Prop:=GoT.R w S (⟨true⟩:GVarE g p) [.pointer (some ⟨g,0,none⟩)]
def isIntC:List Value→Bool
 | [.int .i64 _]=>true
 | _=>false
def isErrC:List Value→Bool
 | [.nilIface]=>true
 | [.iface _ _]=>true
 | _=>false
section
variable {P:Program} {T:Tab} {n:Nat} {e:Env} {w:World} {g:Nat} {p:List Value→Bool} {S:Nat→Prop}
theorem GVE.heap (h:GVE g p w S):∃ cs T fr,p cs=true∧w.heap[g]?=some (.cells cs.toArray T fr):=h.2.2
theorem GVE.of_var {nm:String} {cs:List Value} (h:w.var? P nm=some cs.toArray) (hg:P.globalNamed nm=some g) (hp:p cs=true):GVE g p w (Fw.old w):=by
 unfold World.var? at h
 rw [hg] at h
 simp only [jd] at h
 split at h
 ·rename_i c T fr hh
  simp only [Option.some.injEq] at h
  subst h
  exact ⟨rfl,(Array.getElem?_eq_some_iff.1 hh).1,cs,T,fr,hp,hh⟩
 ·cases h
theorem GVE.cell (_h:GVE g p w S) {v:Value} {cs:List Value} (hc:cs[0]?=some v) (hh:∃ T fr,w.heap[g]?=some (.cells cs.toArray T fr)):w.cell? ⟨g,0,none⟩=some v:=by
 obtain ⟨T,fr,hh⟩:=hh
 have:cs.toArray[0]?=some v:=by simpa using hc
 simp only [World.cell?,hh,Option.isSome_none,Bool.false_eq_true,if_false]
 exact this
theorem GVE.int (h:GVE g isIntC w S):∃ m,w.cell? ⟨g,0,none⟩=some (.int .i64 m):=by
 obtain ⟨cs,T,fr,hp,hh⟩:=h.heap
 unfold isIntC at hp
 split at hp
 ·exact ⟨_,h.cell rfl ⟨T,fr,hh⟩⟩
 ·cases hp
theorem GVE.err (h:GVE g isErrC w S):∃ ev,w.cell? ⟨g,0,none⟩=some ev∧(ev=.nilIface∨∃ te pe,ev=.iface te pe):=by
 obtain ⟨cs,T,fr,hp,hh⟩:=h.heap
 unfold isErrC at hp
 split at hp
 ·exact ⟨_,h.cell rfl ⟨T,fr,hh⟩,.inl rfl⟩
 ·exact ⟨_,h.cell rfl ⟨T,fr,hh⟩,.inr ⟨_,_,rfl⟩⟩
 ·cases hp
theorem GV.slR {xs:List ByteArray} (h:GV g (xs.map Value.string) w S) (hl:xs.length≤maxLen):SlR w S xs (some ⟨g,0,none⟩) xs.length:=by
 obtain ⟨T,fr,hh⟩:=h.heap
 refine ⟨je _,hl,.inr ⟨g,0,(xs.map Value.string).toArray,T,fr,rfl,h.2.1,hh,?_,?_⟩⟩
 ·show 0+xs.length*1≤_
  simp
 ·intro i x hx
  refine ⟨[.string x],rfl,fun q v hq=>?_⟩
  cases q with
  | zero =>
   simp only [List.getElem?_cons_zero,Option.some.injEq] at hq
   subst hq
   show (xs.map Value.string).toArray[0+i*1+0]?=some (.string x)
   simp [hx]
  | succ q=>simp at hq
theorem qq5 (hT:TabOk P T) {x:Operand} {t ty d el m:Nat} {ps:String} {af:Array Edge} {gd:Option (Nat × Bool)} {te te':TE}
  (hx:opv e x=some (.pointer (some ⟨g,0,none⟩))) (hte:T.get t=some te∧te.kind=.arr m el) (hel:T.get el=some te'):Val P n e ⟨some d,.slice t x none none none,ty,ps,af,gd⟩ w (.slice (some ⟨g,0,none⟩) m m):=by
 intro a ha
 have hu:=qk0 (hT _ _ hte.1) hte.2
 have hs:=qfV (hT _ _ hel) w
 simp only [execOp,ha.eval hx,Option.map_none,Instr.sliceAt,Instr.sureAddr,jj,jk,run_underlying hu,jf,Instr.sliceBounds,hs,Nat.zero_mul,Nat.sub_zero]
 by_cases h0:m=0
 ·subst h0;simp
 ·simp [h0,Addr.add]
theorem qpk (w:World) (S:Nat→Prop) (xs:List ByteArray):ElemsAt w S xs (xs.map Value.string):=by
 refine ⟨by show (xs.map Value.string).length=xs.length*1;simp,fun i x hx=>⟨[.string x],rfl,fun q v hq=>?_⟩⟩
 cases q with
 | zero =>
  simp only [List.getElem?_cons_zero,Option.some.injEq] at hq
  subst hq
  show (xs.map Value.string)[i*1+0]?=some (.string x)
  simp [hx]
 | succ q=>simp at hq
theorem qrQ {xs:List ByteArray} {t:TypeId} (hl:xs.length≤maxLen):GoVs.Vs (w.alloc (.cells (xs.map Value.string).toArray t)) (fresh w (w.alloc (.cells (xs.map Value.string).toArray t))) xs [.slice (some ⟨w.heap.size,0,none⟩) xs.length xs.length]:=by
 refine ⟨[.slice (some ⟨w.heap.size,0,none⟩) xs.length xs.length],rfl,some ⟨w.heap.size,0,none⟩,xs.length,rfl,?_⟩
 refine SlO.of_elems (w:=w) (S':=Fw.old w) (olds:=xs.map Value.string) (je _) hl ⟨je _,by simp⟩ (heap_alloc_new w _) ?_ (qpk w _ xs) (fun r v hr=>by simpa using hr)
 show (xs.map Value.string).toArray.size=xs.length*1
 simp
def ErrIs (ev:Value) (b:Bool):Prop:=match b with
 | true=>ev=.nilIface
 | false=>∃ te pe,ev=.iface te pe
theorem qmD (d:Nat) {t:TypeId} {ms:Array (String × TypeId)} (hu:P.underlying t=some (.interface ms)) {ev:Value} {b:Bool} (he:ErrIs ev b) (w:World):(Op.equalIn (d+1) t ev .nilIface).run P w=.ok b w:=by
 cases b with
 | true =>
  obtain rfl:ev=.nilIface:=he
  simp [Op.equalIn,run_underlying hu]
 | false =>
  obtain ⟨te,pe,rfl⟩:=he
  simp [Op.equalIn,run_underlying hu]
theorem qsb {t:TypeId} {ms:Array (String × TypeId)} (hu:P.underlying t=some (.interface ms)) {ev:Value} {b:Bool} (he:ErrIs ev b) (w:World):(Op.equal t ev .nilIface).run P w=.ok b w:=by
 simp only [Op.equal,Op.maxDepth]
 exact qmD 9999 hu he w
theorem qqt {t:TypeId} {x:Operand} {ev:Value} {b:Bool} (he:ErrIs ev b) (w:World):(eqGuard .eql t x (.const .nilIface) ev .nilIface).run P w=.ok () w:=by
 cases b with
 | true =>
  obtain rfl:ev=.nilIface:=he
  cases x<;>rfl
 | false =>
  obtain ⟨te,pe,rfl⟩:=he
  cases x<;>rfl
theorem qs5 {x:Operand} {t ty' ty d:Nat} {ps:String} {af:Array Edge} {gd:Option (Nat × Bool)} {ev:Value} {b:Bool} {ms:Array (String × TypeId)}
  (hu:P.underlying t=some (.interface ms)) (hx:opv e x=some ev) (he:ErrIs ev b):Val P n e ⟨some d,.binOp .eql t x (.const .nilIface) ty',ty,ps,af,gd⟩ w (.bool b):=by
 intro a ha
 have hn:a.eval (.const .nilIface)=.nilIface:=rfl
 have hb:(binOp .eql t ev .nilIface).run P w=.ok (.bool b) w:=by
  have hr:=qsb hu he w
  cases b with
  | true =>
   obtain rfl:ev=.nilIface:=he
   simp only [binOp,hr,jj,jf,jk]
  | false =>
   obtain ⟨te,pe,rfl⟩:=he
   simp only [binOp,hr,jj,jf,jk]
 simp only [execOp,ha.eval hx,hn,jj,qqt he,jf,hb,jk]
def Ch.see {α:Type} [GoT α] (w0:World) (S:Nat→Prop) (xs:List α) (p:Option Addr) (c:Nat):Ch where
 S:=S
 D _:=False
 P _:=SlR w0 (Fw.old w0) xs p c
 loc _ _ _ _ hp:=hp
theorem SH.addSee {α:Type} [GoT α] {w0:World} {L:List Ch} {xs:List α} {p:Option Addr} {c:Nat} (h:SH w0 w L) (hs:SlR w0 (Fw.old w0) xs p c):SH w0 w (Ch.see w0 (fun _=>False) xs p c::L) :=
 h.add (Below.refl _ _) hs (fun _ hb=>hb.elim) (fun _ hd=>hd.elim)
theorem SH.seeS {α:Type} [GoT α] {w0:World} {L:List Ch} {xs:List α} {p:Option Addr} {c:Nat} (i:Nat) (h:SH w0 w L) (hi:L[i]?=some (Ch.see w0 S xs p c)):SlR w0 (Fw.old w0) xs p c:=(h.mem hi).1
end
end Go.Fw


namespace Go.Fw
open Go Go.Proofs
open Go.RowKit (Below)
set_option maxRecDepth 100000
def parseN (s:ByteArray):Option (Int × Bool) :=
 if s.size≤281474976710656 then match Lib.parseIntB 64 s.data.toList with
  | .ok v=>some (v,true)
  | .range=>some (Lib.intSat 64 s.data.toList,false)
  | _=>some (0,false)
 else none
theorem qpy {w:World} {s:ByteArray} (h3:GVE 3 isErrC w (old w)) (h4:GVE 4 isErrC w (old w)) {y:Int × Bool} (hy:parseN s=some y) :
  RetW Tryz.prog 136 [.string s,.int .i64 10,.int .i64 64] w fun us w'=>∃ ev,us=[.int .i64 y.1,ev]∧Below w.heap.size w w'∧ErrIs ev y.2:=by
 unfold parseN at hy
 split at hy
 ·rename_i hs
  split at hy
  ·rename_i v hv
   obtain rfl:=Option.some.inj hy
   refine (Tryz.strconv_ParseInt_ok s (by omega) v hv w).mono ?_
   rintro e w' ⟨rfl,hb⟩
   exact ⟨[.int .i64 v,.nilIface],rfl,_,rfl,hb,rfl⟩
  ·rename_i hv
   obtain rfl:=Option.some.inj hy
   obtain ⟨ev,e1,e2⟩:=h4.err
   refine (Tryz.strconv_ParseInt_range s hs hv ev w e1 e2).mono ?_
   rintro e w' ⟨⟨t,pe,rfl⟩,hb⟩
   exact ⟨[.int .i64 (Lib.intSat 64 s.data.toList),.iface t pe],rfl,_,rfl,hb,t,pe,rfl⟩
  ·rename_i h1 h2
   obtain rfl:=Option.some.inj hy
   obtain ⟨ev,e1,e2⟩:=h3.err
   refine (Tryz.strconv_ParseInt_syntax s hs h1 h2 ev w e1 e2).mono ?_
   rintro e w' ⟨⟨t,pe,rfl⟩,hb⟩
   exact ⟨[.int .i64 0,.iface t pe],rfl,_,rfl,hb,t,pe,rfl⟩
 ·cases hy
end Go.Fw


namespace Go.Fw
open Go Go.Proofs
open Go.RowKit (Below)
set_option maxRecDepth 100000
set_option maxHeartbeats 6400000
variable {n:Nat} {w:World} {S:Nat→Prop} {cs1 cs2 cs3 cs4 cs5 cs6 cs7 cs8 cs9:List Value}
structure qM where
 Aq:ByteArray
 Bl:Int
 Bk:Int
 Be:Bool
instance gt_TPin:GoT qM:=isoT (pairT instStr (pairT instInt (pairT instInt instBool))) (fun x=>(x.Aq,x.Bl,x.Bk,x.Be)) ⟨ByteArray.empty,0,0,false⟩ rfl true (fun h=>by cases h)
instance fl_TPin:Flat qM:=qgQ (pairT instStr (pairT instInt (pairT instInt instBool))) (fun x:qM=>(x.Aq,x.Bl,x.Bk,x.Be)) ⟨ByteArray.empty,0,0,false⟩ rfl true (fun h=>by cases h) (qbb _ _ (inferInstanceAs (Flat ByteArray)) (qbb _ _ (inferInstanceAs (Flat Int)) (qbb _ _ (inferInstanceAs (Flat Int)) (inferInstanceAs (Flat Bool)))))
abbrev qkV (x:qM):List Value:=[.string x.Aq,.int .i64 x.Bl,.int .i64 x.Bk,.bool x.Be]
theorem qao {x:qM} {cs:List Value} (h:GoT.R w S x cs):cs=(qkV x):=by
 obtain ⟨_,_,rfl,rfl,⟨_,_,rfl,rfl,⟨_,_,rfl,rfl,rfl⟩⟩⟩:=h
 exact rfl
theorem qcP (x:qM):GoT.R w S x (qkV x):=have h:=pR (rT x.Aq) (pR (rI x.Bl) (pR (rI x.Bk) (rB x.Be)));h
structure qp where
 Bb:(List Int)
 Ba:(List Int)
 Au:(List Int)
instance gt_TTable:GoT qp:=isoT (pairT (@instList Int instInt) (pairT (@instList Int instInt) (@instList Int instInt))) (fun x=>(x.Bb,x.Ba,x.Au)) ⟨[],[],[]⟩ rfl true (fun h=>by cases h)
abbrev qjd (x:qp) (p0 p1 p2:Option Addr) (k0 k1 k2:Nat):List Value:=[.slice p0 (x.Bb).length k0,.slice p1 (x.Ba).length k1,.slice p2 (x.Au).length k2]
theorem qaP {x:qp} {cs:List Value} (h:GoT.R w S x cs):∃ p0 k0 p1 k1 p2 k2,cs=(qjd x p0 p1 p2 k0 k1 k2)∧SlR w S x.Bb p0 k0∧SlR w S x.Ba p1 k1∧SlR w S x.Au p2 k2:=by
 obtain ⟨_,_,rfl,⟨p0,k0,rfl,s0⟩,⟨_,_,rfl,⟨p1,k1,rfl,s1⟩,⟨p2,k2,rfl,s2⟩⟩⟩:=h
 exact ⟨p0,k0,p1,k1,p2,k2,rfl,s0,s1,s2⟩
theorem qgy (x:qp) {p0 p1 p2:Option Addr} {k0 k1 k2:Nat} (s0:SlR w S x.Bb p0 k0) (s1:SlR w S x.Ba p1 k1) (s2:SlR w S x.Au p2 k2):GoT.R w S x (qjd x p0 p1 p2 k0 k1 k2):=have h:=pR (rS s0) (pR (rS s1) (rS s2));h
theorem qnS {w0:World} {L:List Ch} {x:qp} {p0 p1 p2:Option Addr} {l0 k0 l1 k1 l2 k2:Nat} (h:SH w0 w (Ch.own S x [.slice p0 l0 k0,.slice p1 l1 k1,.slice p2 l2 k2]::L)):∃ S0 S1 S2,SH w0 w (Ch.own S2 x.Au [.slice p2 l2 k2]::Ch.own S1 x.Ba [.slice p1 l1 k1]::Ch.own S0 x.Bb [.slice p0 l0 k0]::L):=by
 obtain ⟨hv,ho⟩:=h.headV
 replace ho:GoT.O w S x _:=ho
 obtain ⟨A0,B0,d0,e0,he,o0,ho,a0,b0⟩:=ho
 obtain ⟨q,m,rfl,s0⟩:=o0
 cases he
 replace hv:=hv.push (c:=Ch.own A0 x.Bb [_]) (S2:=B0) ⟨_,_,rfl,s0⟩ (fun _ hd=>hd.elim) a0 b0
 obtain ⟨A1,B1,d1,e1,he,o1,ho,a1,b1⟩:=ho
 obtain ⟨q,m,rfl,s1⟩:=o1
 cases he
 replace hv:=hv.push (c:=Ch.own A1 x.Ba [_]) (S2:=B1) ⟨_,_,rfl,s1⟩ (fun _ hd=>hd.elim) a1 b1
 obtain ⟨q,m,he,s2⟩:=ho
 cases he
 replace hv:=hv.push (c:=Ch.own B1 x.Au [_]) (S2:=(fun _=>False)) ⟨_,_,rfl,s2⟩ (fun _ hd=>hd.elim) (fun b hb=>⟨hb,fun h=>h⟩) (fun _ h=>h.elim)
 exact ⟨A0,A1,B1,hv.sh⟩
theorem qm6 {w0:World} {L:List Ch} (x:qp) {I0 I1 I2:List Nat} {c0 c1 c2:List Value} (h:SH w0 w L) (h0:PO w L I0 x.Bb c0) (h1:PO w L I1 x.Ba c1) (h2:PO w L I2 x.Au c2) (b0:apartB I0 (I1++I2)=true) (b1:apartB I1 I2=true):PO w L (I0++(I1++I2)) x (c0++(c1++c2)) :=
 (qbr h h0 (qbr h h1 h2 b1) b0)
structure qF where
 Ap:Int
 Av:Int
 To:Int
 Bf:Int
 Az:(List qp)
 Bi:(List qp)
instance gt_TArc:GoT qF:=isoT (pairT instInt (pairT instInt (pairT instInt (pairT instInt (pairT (@instList qp gt_TTable) (@instList qp gt_TTable)))))) (fun x=>(x.Ap,x.Av,x.To,x.Bf,x.Az,x.Bi)) ⟨0,0,0,0,[],[]⟩ rfl true (fun h=>by cases h)
abbrev qiW (x:qF) (p0 p1:Option Addr) (k0 k1:Nat):List Value:=[.int .i64 x.Ap,.int .i64 x.Av,.int .i64 x.To,.int .i64 x.Bf,.slice p0 (x.Az).length k0,.slice p1 (x.Bi).length k1]
theorem qak {x:qF} {cs:List Value} (h:GoT.R w S x cs):∃ p0 k0 p1 k1,cs=(qiW x p0 p1 k0 k1)∧SlR w S x.Az p0 k0∧SlR w S x.Bi p1 k1:=by
 obtain ⟨_,_,rfl,rfl,⟨_,_,rfl,rfl,⟨_,_,rfl,rfl,⟨_,_,rfl,rfl,⟨_,_,rfl,⟨p0,k0,rfl,s0⟩,⟨p1,k1,rfl,s1⟩⟩⟩⟩⟩⟩:=h
 exact ⟨p0,k0,p1,k1,rfl,s0,s1⟩
theorem qfF (x:qF) {p0 p1:Option Addr} {k0 k1:Nat} (s0:SlR w S x.Az p0 k0) (s1:SlR w S x.Bi p1 k1):GoT.R w S x (qiW x p0 p1 k0 k1):=have h:=pR (rI x.Ap) (pR (rI x.Av) (pR (rI x.To) (pR (rI x.Bf) (pR (rS s0) (rS s1)))));h
theorem qo4 {w0:World} {L:List Ch} {x:qF} {p0 p1:Option Addr} {l0 k0 l1 k1:Nat} (h:SH w0 w (Ch.own S x [.int .i64 x.Ap,.int .i64 x.Av,.int .i64 x.To,.int .i64 x.Bf,.slice p0 l0 k0,.slice p1 l1 k1]::L)):∃ S0 S1,SH w0 w (Ch.own S1 x.Bi [.slice p1 l1 k1]::Ch.own S0 x.Az [.slice p0 l0 k0]::L):=by
 obtain ⟨hv,ho⟩:=h.headV
 replace ho:GoT.O w S x _:=ho
 obtain ⟨A0,B0,d0,e0,he,o0,ho,a0,b0⟩:=ho
 obtain rfl:=o0
 cases he
 replace hv:=hv.less b0
 obtain ⟨A1,B1,d1,e1,he,o1,ho,a1,b1⟩:=ho
 obtain rfl:=o1
 cases he
 replace hv:=hv.less b1
 obtain ⟨A2,B2,d2,e2,he,o2,ho,a2,b2⟩:=ho
 obtain rfl:=o2
 cases he
 replace hv:=hv.less b2
 obtain ⟨A3,B3,d3,e3,he,o3,ho,a3,b3⟩:=ho
 obtain rfl:=o3
 cases he
 replace hv:=hv.less b3
 obtain ⟨A4,B4,d4,e4,he,o4,ho,a4,b4⟩:=ho
 obtain ⟨q,m,rfl,s0⟩:=o4
 cases he
 replace hv:=hv.push (c:=Ch.own A4 x.Az [_]) (S2:=B4) ⟨_,_,rfl,s0⟩ (fun _ hd=>hd.elim) a4 b4
 obtain ⟨q,m,he,s1⟩:=ho
 cases he
 replace hv:=hv.push (c:=Ch.own B4 x.Bi [_]) (S2:=(fun _=>False)) ⟨_,_,rfl,s1⟩ (fun _ hd=>hd.elim) (fun b hb=>⟨hb,fun h=>h⟩) (fun _ h=>h.elim)
 exact ⟨A4,B4,hv.sh⟩
theorem qpz {w0:World} {L:List Ch} (x:qF) {I0 I1 I2 I3 I4 I5:List Nat} {c0 c1 c2 c3 c4 c5:List Value} (h:SH w0 w L) (h0:PO w L I0 x.Ap c0) (h1:PO w L I1 x.Av c1) (h2:PO w L I2 x.To c2) (h3:PO w L I3 x.Bf c3) (h4:PO w L I4 x.Az c4) (h5:PO w L I5 x.Bi c5) (b0:apartB I0 (I1++(I2++(I3++(I4++I5))))=true) (b1:apartB I1 (I2++(I3++(I4++I5)))=true) (b2:apartB I2 (I3++(I4++I5))=true) (b3:apartB I3 (I4++I5)=true) (b4:apartB I4 I5=true):PO w L (I0++(I1++(I2++(I3++(I4++I5))))) x (c0++(c1++(c2++(c3++(c4++c5))))) :=
 (qbr h h0 (qbr h h1 (qbr h h2 (qbr h h3 (qbr h h4 h5 b4) b3) b2) b1) b0)
structure qn where
 Aq:ByteArray
 Ap:Int
 Am:(List qM)
 Ar:(List qF)
 Ay:(List Int)
 Bo:Int
 Bj:Int
instance gt_TCell:GoT qn:=isoT (pairT instStr (pairT instInt (pairT (@instList qM gt_TPin) (pairT (@instList qF gt_TArc) (pairT (@instList Int instInt) (pairT instInt instInt)))))) (fun x=>(x.Aq,x.Ap,x.Am,x.Ar,x.Ay,x.Bo,x.Bj)) ⟨ByteArray.empty,0,[],[],[],0,0⟩ rfl true (fun h=>by cases h)
abbrev qcV (x:qn) (p0 p1 p2:Option Addr) (k0 k1 k2:Nat):List Value:=[.string x.Aq,.int .i64 x.Ap,.slice p0 (x.Am).length k0,.slice p1 (x.Ar).length k1,.slice p2 (x.Ay).length k2,.int .i64 x.Bo,.int .i64 x.Bj]
theorem qL {x:qn} {cs:List Value} (h:GoT.R w S x cs):∃ p0 k0 p1 k1 p2 k2,cs=(qcV x p0 p1 p2 k0 k1 k2)∧SlR w S x.Am p0 k0∧SlR w S x.Ar p1 k1∧SlR w S x.Ay p2 k2:=by
 obtain ⟨_,_,rfl,rfl,⟨_,_,rfl,rfl,⟨_,_,rfl,⟨p0,k0,rfl,s0⟩,⟨_,_,rfl,⟨p1,k1,rfl,s1⟩,⟨_,_,rfl,⟨p2,k2,rfl,s2⟩,⟨_,_,rfl,rfl,rfl⟩⟩⟩⟩⟩⟩:=h
 exact ⟨p0,k0,p1,k1,p2,k2,rfl,s0,s1,s2⟩
theorem qhE (x:qn) {p0 p1 p2:Option Addr} {k0 k1 k2:Nat} (s0:SlR w S x.Am p0 k0) (s1:SlR w S x.Ar p1 k1) (s2:SlR w S x.Ay p2 k2):GoT.R w S x (qcV x p0 p1 p2 k0 k1 k2):=have h:=pR (rT x.Aq) (pR (rI x.Ap) (pR (rS s0) (pR (rS s1) (pR (rS s2) (pR (rI x.Bo) (rI x.Bj))))));h
theorem qoz {w0:World} {L:List Ch} {x:qn} {p0 p1 p2:Option Addr} {l0 k0 l1 k1 l2 k2:Nat} (h:SH w0 w (Ch.own S x [.string x.Aq,.int .i64 x.Ap,.slice p0 l0 k0,.slice p1 l1 k1,.slice p2 l2 k2,.int .i64 x.Bo,.int .i64 x.Bj]::L)):∃ S0 S1 S2,SH w0 w (Ch.own S2 x.Ay [.slice p2 l2 k2]::Ch.own S1 x.Ar [.slice p1 l1 k1]::Ch.own S0 x.Am [.slice p0 l0 k0]::L):=by
 obtain ⟨hv,ho⟩:=h.headV
 replace ho:GoT.O w S x _:=ho
 obtain ⟨A0,B0,d0,e0,he,o0,ho,a0,b0⟩:=ho
 obtain rfl:=o0
 cases he
 replace hv:=hv.less b0
 obtain ⟨A1,B1,d1,e1,he,o1,ho,a1,b1⟩:=ho
 obtain rfl:=o1
 cases he
 replace hv:=hv.less b1
 obtain ⟨A2,B2,d2,e2,he,o2,ho,a2,b2⟩:=ho
 obtain ⟨q,m,rfl,s0⟩:=o2
 cases he
 replace hv:=hv.push (c:=Ch.own A2 x.Am [_]) (S2:=B2) ⟨_,_,rfl,s0⟩ (fun _ hd=>hd.elim) a2 b2
 obtain ⟨A3,B3,d3,e3,he,o3,ho,a3,b3⟩:=ho
 obtain ⟨q,m,rfl,s1⟩:=o3
 cases he
 replace hv:=hv.push (c:=Ch.own A3 x.Ar [_]) (S2:=B3) ⟨_,_,rfl,s1⟩ (fun _ hd=>hd.elim) a3 b3
 obtain ⟨A4,B4,d4,e4,he,o4,ho,a4,b4⟩:=ho
 obtain ⟨q,m,rfl,s2⟩:=o4
 cases he
 replace hv:=hv.push (c:=Ch.own A4 x.Ay [_]) (S2:=B4) ⟨_,_,rfl,s2⟩ (fun _ hd=>hd.elim) a4 b4
 obtain ⟨A5,B5,d5,e5,he,o5,ho,a5,b5⟩:=ho
 obtain rfl:=o5
 cases he
 replace hv:=hv.less b5
 exact ⟨A2,A3,A4,hv.sh⟩
theorem qoj {w0:World} {L:List Ch} (x:qn) {I0 I1 I2 I3 I4 I5 I6:List Nat} {c0 c1 c2 c3 c4 c5 c6:List Value} (h:SH w0 w L) (h0:PO w L I0 x.Aq c0) (h1:PO w L I1 x.Ap c1) (h2:PO w L I2 x.Am c2) (h3:PO w L I3 x.Ar c3) (h4:PO w L I4 x.Ay c4) (h5:PO w L I5 x.Bo c5) (h6:PO w L I6 x.Bj c6) (b0:apartB I0 (I1++(I2++(I3++(I4++(I5++I6)))))=true) (b1:apartB I1 (I2++(I3++(I4++(I5++I6))))=true) (b2:apartB I2 (I3++(I4++(I5++I6)))=true) (b3:apartB I3 (I4++(I5++I6))=true) (b4:apartB I4 (I5++I6)=true) (b5:apartB I5 I6=true):PO w L (I0++(I1++(I2++(I3++(I4++(I5++I6)))))) x (c0++(c1++(c2++(c3++(c4++(c5++c6)))))) :=
 (qbr h h0 (qbr h h1 (qbr h h2 (qbr h h3 (qbr h h4 (qbr h h5 h6 b5) b4) b3) b2) b1) b0)
structure qh where
 Ai:(List qn)
instance gt_TLibrary:GoT qh:=isoT (@instList qn gt_TCell) (fun x=>x.Ai) ⟨[]⟩ rfl true (fun h=>by cases h)
theorem qU {x:qh} {cs:List Value} (h:GoT.R w S x cs):∃ p0 k0,cs=[.slice p0 (x.Ai).length k0]∧SlR w S x.Ai p0 k0:=by
 obtain ⟨p0,k0,rfl,s0⟩:=h
 exact ⟨p0,k0,rfl,s0⟩
theorem qaV (x:qh) {p0:Option Addr} {k0:Nat} (s0:SlR w S x.Ai p0 k0):GoT.R w S x [.slice p0 (x.Ai).length k0]:=have h:=rS s0;h
theorem ql4 {w0:World} {L:List Ch} {x:qh} {p0:Option Addr} {l0 k0:Nat} (h:SH w0 w (Ch.own S x [.slice p0 l0 k0]::L)):∃ S0,SH w0 w (Ch.own S0 x.Ai [.slice p0 l0 k0]::L):=by
 obtain ⟨hv,ho⟩:=h.headV
 replace ho:GoT.O w S x _:=ho
 obtain ⟨q,m,he,s0⟩:=ho
 cases he
 replace hv:=hv.push (c:=Ch.own S x.Ai [_]) (S2:=(fun _=>False)) ⟨_,_,rfl,s0⟩ (fun _ hd=>hd.elim) (fun b hb=>⟨hb,fun h=>h⟩) (fun _ h=>h.elim)
 exact ⟨S,hv.sh⟩
theorem qoi {w0:World} {L:List Ch} (x:qh) {I0:List Nat} {c0:List Value} (_:SH w0 w L) (h0:PO w L I0 x.Ai c0):PO w L I0 x c0 :=
 h0
structure qd where
 Aq:ByteArray
 Bg:Int
 Af:(List Int)
instance gt_TInstance:GoT qd:=isoT (pairT instStr (pairT instInt (@instList Int instInt))) (fun x=>(x.Aq,x.Bg,x.Af)) ⟨ByteArray.empty,0,[]⟩ rfl true (fun h=>by cases h)
abbrev qgS (x:qd) (p0:Option Addr) (k0:Nat):List Value:=[.string x.Aq,.int .i64 x.Bg,.slice p0 (x.Af).length k0]
theorem qG {x:qd} {cs:List Value} (h:GoT.R w S x cs):∃ p0 k0,cs=(qgS x p0 k0)∧SlR w S x.Af p0 k0:=by
 obtain ⟨_,_,rfl,rfl,⟨_,_,rfl,rfl,⟨p0,k0,rfl,s0⟩⟩⟩:=h
 exact ⟨p0,k0,rfl,s0⟩
theorem qeP (x:qd) {p0:Option Addr} {k0:Nat} (s0:SlR w S x.Af p0 k0):GoT.R w S x (qgS x p0 k0):=have h:=pR (rT x.Aq) (pR (rI x.Bg) (rS s0));h
theorem qlq {w0:World} {L:List Ch} {x:qd} {p0:Option Addr} {l0 k0:Nat} (h:SH w0 w (Ch.own S x [.string x.Aq,.int .i64 x.Bg,.slice p0 l0 k0]::L)):∃ S0,SH w0 w (Ch.own S0 x.Af [.slice p0 l0 k0]::L):=by
 obtain ⟨hv,ho⟩:=h.headV
 replace ho:GoT.O w S x _:=ho
 obtain ⟨A0,B0,d0,e0,he,o0,ho,a0,b0⟩:=ho
 obtain rfl:=o0
 cases he
 replace hv:=hv.less b0
 obtain ⟨A1,B1,d1,e1,he,o1,ho,a1,b1⟩:=ho
 obtain rfl:=o1
 cases he
 replace hv:=hv.less b1
 obtain ⟨q,m,he,s0⟩:=ho
 cases he
 replace hv:=hv.push (c:=Ch.own B1 x.Af [_]) (S2:=(fun _=>False)) ⟨_,_,rfl,s0⟩ (fun _ hd=>hd.elim) (fun b hb=>⟨hb,fun h=>h⟩) (fun _ h=>h.elim)
 exact ⟨B1,hv.sh⟩
theorem qkp {w0:World} {L:List Ch} (x:qd) {I0 I1 I2:List Nat} {c0 c1 c2:List Value} (h:SH w0 w L) (h0:PO w L I0 x.Aq c0) (h1:PO w L I1 x.Bg c1) (h2:PO w L I2 x.Af c2) (b0:apartB I0 (I1++I2)=true) (b1:apartB I1 I2=true):PO w L (I0++(I1++I2)) x (c0++(c1++c2)) :=
 (qbr h h0 (qbr h h1 h2 b1) b0)
structure qy where
 Aq:ByteArray
 Bl:Int
 Bn:Int
instance gt_TPort:GoT qy:=isoT (pairT instStr (pairT instInt instInt)) (fun x=>(x.Aq,x.Bl,x.Bn)) ⟨ByteArray.empty,0,0⟩ rfl true (fun h=>by cases h)
instance fl_TPort:Flat qy:=qgQ (pairT instStr (pairT instInt instInt)) (fun x:qy=>(x.Aq,x.Bl,x.Bn)) ⟨ByteArray.empty,0,0⟩ rfl true (fun h=>by cases h) (qbb _ _ (inferInstanceAs (Flat ByteArray)) (qbb _ _ (inferInstanceAs (Flat Int)) (inferInstanceAs (Flat Int))))
abbrev qlG (x:qy):List Value:=[.string x.Aq,.int .i64 x.Bl,.int .i64 x.Bn]
theorem qah {x:qy} {cs:List Value} (h:GoT.R w S x cs):cs=(qlG x):=by
 obtain ⟨_,_,rfl,rfl,⟨_,_,rfl,rfl,rfl⟩⟩:=h
 exact rfl
theorem qc6 (x:qy):GoT.R w S x (qlG x):=have h:=pR (rT x.Aq) (pR (rI x.Bl) (rI x.Bn));h
structure qc where
 Aa:(List qd)
 Af:(List ByteArray)
 Ac:(List qy)
instance gt_TDesign:GoT qc:=isoT (pairT (@instList qd gt_TInstance) (pairT (@instList ByteArray instStr) (@instList qy gt_TPort))) (fun x=>(x.Aa,x.Af,x.Ac)) ⟨[],[],[]⟩ rfl true (fun h=>by cases h)
abbrev qaD (x:qc) (p0 p1 p2:Option Addr) (k0 k1 k2:Nat):List Value:=[.slice p0 (x.Aa).length k0,.slice p1 (x.Af).length k1,.slice p2 (x.Ac).length k2]
theorem qK {x:qc} {cs:List Value} (h:GoT.R w S x cs):∃ p0 k0 p1 k1 p2 k2,cs=(qaD x p0 p1 p2 k0 k1 k2)∧SlR w S x.Aa p0 k0∧SlR w S x.Af p1 k1∧SlR w S x.Ac p2 k2:=by
 obtain ⟨_,_,rfl,⟨p0,k0,rfl,s0⟩,⟨_,_,rfl,⟨p1,k1,rfl,s1⟩,⟨p2,k2,rfl,s2⟩⟩⟩:=h
 exact ⟨p0,k0,p1,k1,p2,k2,rfl,s0,s1,s2⟩
theorem qai (x:qc) {p0 p1 p2:Option Addr} {k0 k1 k2:Nat} (s0:SlR w S x.Aa p0 k0) (s1:SlR w S x.Af p1 k1) (s2:SlR w S x.Ac p2 k2):GoT.R w S x (qaD x p0 p1 p2 k0 k1 k2):=have h:=pR (rS s0) (pR (rS s1) (rS s2));h
theorem qmV {w0:World} {L:List Ch} {x:qc} {p0 p1 p2:Option Addr} {l0 k0 l1 k1 l2 k2:Nat} (h:SH w0 w (Ch.own S x [.slice p0 l0 k0,.slice p1 l1 k1,.slice p2 l2 k2]::L)):∃ S0 S1 S2,SH w0 w (Ch.own S2 x.Ac [.slice p2 l2 k2]::Ch.own S1 x.Af [.slice p1 l1 k1]::Ch.own S0 x.Aa [.slice p0 l0 k0]::L):=by
 obtain ⟨hv,ho⟩:=h.headV
 replace ho:GoT.O w S x _:=ho
 obtain ⟨A0,B0,d0,e0,he,o0,ho,a0,b0⟩:=ho
 obtain ⟨q,m,rfl,s0⟩:=o0
 cases he
 replace hv:=hv.push (c:=Ch.own A0 x.Aa [_]) (S2:=B0) ⟨_,_,rfl,s0⟩ (fun _ hd=>hd.elim) a0 b0
 obtain ⟨A1,B1,d1,e1,he,o1,ho,a1,b1⟩:=ho
 obtain ⟨q,m,rfl,s1⟩:=o1
 cases he
 replace hv:=hv.push (c:=Ch.own A1 x.Af [_]) (S2:=B1) ⟨_,_,rfl,s1⟩ (fun _ hd=>hd.elim) a1 b1
 obtain ⟨q,m,he,s2⟩:=ho
 cases he
 replace hv:=hv.push (c:=Ch.own B1 x.Ac [_]) (S2:=(fun _=>False)) ⟨_,_,rfl,s2⟩ (fun _ hd=>hd.elim) (fun b hb=>⟨hb,fun h=>h⟩) (fun _ h=>h.elim)
 exact ⟨A0,A1,B1,hv.sh⟩
theorem qpb {w0:World} {L:List Ch} (x:qc) {I0 I1 I2:List Nat} {c0 c1 c2:List Value} (h:SH w0 w L) (h0:PO w L I0 x.Aa c0) (h1:PO w L I1 x.Af c1) (h2:PO w L I2 x.Ac c2) (b0:apartB I0 (I1++I2)=true) (b1:apartB I1 I2=true):PO w L (I0++(I1++I2)) x (c0++(c1++c2)) :=
 (qbr h h0 (qbr h h1 h2 b1) b0)
structure qw where
 Ak:(List Int)
 Bm:(List Int)
 Bk:(List Int)
 Bc:(List Int)
instance gt_TWire:GoT qw:=isoT (pairT (@instList Int instInt) (pairT (@instList Int instInt) (pairT (@instList Int instInt) (@instList Int instInt)))) (fun x=>(x.Ak,x.Bm,x.Bk,x.Bc)) ⟨[],[],[],[]⟩ rfl true (fun h=>by cases h)
abbrev qgi (x:qw) (p0 p1 p2 p3:Option Addr) (k0 k1 k2 k3:Nat):List Value:=[.slice p0 (x.Ak).length k0,.slice p1 (x.Bm).length k1,.slice p2 (x.Bk).length k2,.slice p3 (x.Bc).length k3]
theorem qaU {x:qw} {cs:List Value} (h:GoT.R w S x cs):∃ p0 k0 p1 k1 p2 k2 p3 k3,cs=(qgi x p0 p1 p2 p3 k0 k1 k2 k3)∧SlR w S x.Ak p0 k0∧SlR w S x.Bm p1 k1∧SlR w S x.Bk p2 k2∧SlR w S x.Bc p3 k3:=by
 obtain ⟨_,_,rfl,⟨p0,k0,rfl,s0⟩,⟨_,_,rfl,⟨p1,k1,rfl,s1⟩,⟨_,_,rfl,⟨p2,k2,rfl,s2⟩,⟨p3,k3,rfl,s3⟩⟩⟩⟩:=h
 exact ⟨p0,k0,p1,k1,p2,k2,p3,k3,rfl,s0,s1,s2,s3⟩
theorem qhD (x:qw) {p0 p1 p2 p3:Option Addr} {k0 k1 k2 k3:Nat} (s0:SlR w S x.Ak p0 k0) (s1:SlR w S x.Bm p1 k1) (s2:SlR w S x.Bk p2 k2) (s3:SlR w S x.Bc p3 k3):GoT.R w S x (qgi x p0 p1 p2 p3 k0 k1 k2 k3):=have h:=pR (rS s0) (pR (rS s1) (pR (rS s2) (rS s3)));h
theorem qoL {w0:World} {L:List Ch} {x:qw} {p0 p1 p2 p3:Option Addr} {l0 k0 l1 k1 l2 k2 l3 k3:Nat} (h:SH w0 w (Ch.own S x [.slice p0 l0 k0,.slice p1 l1 k1,.slice p2 l2 k2,.slice p3 l3 k3]::L)):∃ S0 S1 S2 S3,SH w0 w (Ch.own S3 x.Bc [.slice p3 l3 k3]::Ch.own S2 x.Bk [.slice p2 l2 k2]::Ch.own S1 x.Bm [.slice p1 l1 k1]::Ch.own S0 x.Ak [.slice p0 l0 k0]::L):=by
 obtain ⟨hv,ho⟩:=h.headV
 replace ho:GoT.O w S x _:=ho
 obtain ⟨A0,B0,d0,e0,he,o0,ho,a0,b0⟩:=ho
 obtain ⟨q,m,rfl,s0⟩:=o0
 cases he
 replace hv:=hv.push (c:=Ch.own A0 x.Ak [_]) (S2:=B0) ⟨_,_,rfl,s0⟩ (fun _ hd=>hd.elim) a0 b0
 obtain ⟨A1,B1,d1,e1,he,o1,ho,a1,b1⟩:=ho
 obtain ⟨q,m,rfl,s1⟩:=o1
 cases he
 replace hv:=hv.push (c:=Ch.own A1 x.Bm [_]) (S2:=B1) ⟨_,_,rfl,s1⟩ (fun _ hd=>hd.elim) a1 b1
 obtain ⟨A2,B2,d2,e2,he,o2,ho,a2,b2⟩:=ho
 obtain ⟨q,m,rfl,s2⟩:=o2
 cases he
 replace hv:=hv.push (c:=Ch.own A2 x.Bk [_]) (S2:=B2) ⟨_,_,rfl,s2⟩ (fun _ hd=>hd.elim) a2 b2
 obtain ⟨q,m,he,s3⟩:=ho
 cases he
 replace hv:=hv.push (c:=Ch.own B2 x.Bc [_]) (S2:=(fun _=>False)) ⟨_,_,rfl,s3⟩ (fun _ hd=>hd.elim) (fun b hb=>⟨hb,fun h=>h⟩) (fun _ h=>h.elim)
 exact ⟨A0,A1,A2,B2,hv.sh⟩
theorem qoQ {w0:World} {L:List Ch} (x:qw) {I0 I1 I2 I3:List Nat} {c0 c1 c2 c3:List Value} (h:SH w0 w L) (h0:PO w L I0 x.Ak c0) (h1:PO w L I1 x.Bm c1) (h2:PO w L I2 x.Bk c2) (h3:PO w L I3 x.Bc c3) (b0:apartB I0 (I1++(I2++I3))=true) (b1:apartB I1 (I2++I3)=true) (b2:apartB I2 I3=true):PO w L (I0++(I1++(I2++I3))) x (c0++(c1++(c2++c3))) :=
 (qbr h h0 (qbr h h1 (qbr h h2 h3 b2) b1) b0)
structure qm where
 Ah:qh
 Ab:qc
 Aj:(List qw)
instance gt_TBlock:GoT qm:=isoT (pairT gt_TLibrary (pairT gt_TDesign (@instList qw gt_TWire))) (fun x=>(x.Ah,x.Ab,x.Aj)) ⟨(⟨[]⟩:qh),(⟨[],[],[]⟩:qc),[]⟩ rfl true (fun h=>by cases h)
abbrev qaI (x:qm) (p0 p1 p2 p3 p4:Option Addr) (k0 k1 k2 k3 k4:Nat):List Value:=[.slice p0 (x.Ah.Ai).length k0,.slice p1 (x.Ab.Aa).length k1,.slice p2 (x.Ab.Af).length k2,.slice p3 (x.Ab.Ac).length k3,.slice p4 (x.Aj).length k4]
theorem qaa {x:qm} {cs:List Value} (h:GoT.R w S x cs):∃ p0 k0 p1 k1 p2 k2 p3 k3 p4 k4,cs=(qaI x p0 p1 p2 p3 p4 k0 k1 k2 k3 k4)∧SlR w S x.Ah.Ai p0 k0∧SlR w S x.Ab.Aa p1 k1∧SlR w S x.Ab.Af p2 k2∧SlR w S x.Ab.Ac p3 k3∧SlR w S x.Aj p4 k4:=by
 obtain ⟨_,_,rfl,⟨p0,k0,rfl,s0⟩,⟨_,_,rfl,⟨_,_,rfl,⟨p1,k1,rfl,s1⟩,⟨_,_,rfl,⟨p2,k2,rfl,s2⟩,⟨p3,k3,rfl,s3⟩⟩⟩,⟨p4,k4,rfl,s4⟩⟩⟩:=h
 exact ⟨p0,k0,p1,k1,p2,k2,p3,k3,p4,k4,rfl,s0,s1,s2,s3,s4⟩
theorem qpw (x:qm) {p0 p1 p2 p3 p4:Option Addr} {k0 k1 k2 k3 k4:Nat} (s0:SlR w S x.Ah.Ai p0 k0) (s1:SlR w S x.Ab.Aa p1 k1) (s2:SlR w S x.Ab.Af p2 k2) (s3:SlR w S x.Ab.Ac p3 k3) (s4:SlR w S x.Aj p4 k4):GoT.R w S x (qaI x p0 p1 p2 p3 p4 k0 k1 k2 k3 k4):=have h:=pR (qaV x.Ah s0) (pR (qai x.Ab s1 s2 s3) (rS s4));h
theorem qmK {w0:World} {L:List Ch} {x:qm} {p0 p1 p2 p3 p4:Option Addr} {l0 k0 l1 k1 l2 k2 l3 k3 l4 k4:Nat} (h:SH w0 w (Ch.own S x [.slice p0 l0 k0,.slice p1 l1 k1,.slice p2 l2 k2,.slice p3 l3 k3,.slice p4 l4 k4]::L)):∃ S0 S1 S2,SH w0 w (Ch.own S2 x.Aj [.slice p4 l4 k4]::Ch.own S1 x.Ab [.slice p1 l1 k1,.slice p2 l2 k2,.slice p3 l3 k3]::Ch.own S0 x.Ah [.slice p0 l0 k0]::L):=by
 obtain ⟨hv,ho⟩:=h.headV
 replace ho:GoT.O w S x _:=ho
 obtain ⟨A0,B0,d0,e0,he0,o0,ho,a0,b0⟩:=ho
 have hl0:d0.length=1:=GoT.len (GoT.toR o0)
 obtain ⟨rfl,rfl⟩:d0=[.slice p0 l0 k0]∧e0=[.slice p1 l1 k1,.slice p2 l2 k2,.slice p3 l3 k3,.slice p4 l4 k4]:=by
  have:=List.append_inj (show [.slice p0 l0 k0]++[.slice p1 l1 k1,.slice p2 l2 k2,.slice p3 l3 k3,.slice p4 l4 k4]=d0++e0 from he0) (by rw [hl0];rfl)
  exact ⟨this.1.symm,this.2.symm⟩
 replace hv:=hv.push (c:=Ch.own A0 x.Ah [.slice p0 l0 k0]) (S2:=B0) o0 (fun _ hd=>hd.elim) a0 b0
 obtain ⟨A1,B1,d1,e1,he1,o1,ho,a1,b1⟩:=ho
 have hl1:d1.length=3:=GoT.len (GoT.toR o1)
 obtain ⟨rfl,rfl⟩:d1=[.slice p1 l1 k1,.slice p2 l2 k2,.slice p3 l3 k3]∧e1=[.slice p4 l4 k4]:=by
  have:=List.append_inj (show [.slice p1 l1 k1,.slice p2 l2 k2,.slice p3 l3 k3]++[.slice p4 l4 k4]=d1++e1 from he1) (by rw [hl1];rfl)
  exact ⟨this.1.symm,this.2.symm⟩
 replace hv:=hv.push (c:=Ch.own A1 x.Ab [.slice p1 l1 k1,.slice p2 l2 k2,.slice p3 l3 k3]) (S2:=B1) o1 (fun _ hd=>hd.elim) a1 b1
 replace hv:=hv.push (c:=Ch.own B1 x.Aj [.slice p4 l4 k4]) (S2:=(fun _=>False)) ho (fun _ hd=>hd.elim) (fun b hb=>⟨hb,fun h=>h⟩) (fun _ h=>h.elim)
 exact ⟨A0,A1,B1,hv.sh⟩
theorem qqa {w0:World} {L:List Ch} (x:qm) {I0 I1 I2:List Nat} {c0 c1 c2:List Value} (h:SH w0 w L) (h0:PO w L I0 x.Ah c0) (h1:PO w L I1 x.Ab c1) (h2:PO w L I2 x.Aj c2) (b0:apartB I0 (I1++I2)=true) (b1:apartB I1 I2=true):PO w L (I0++(I1++I2)) x (c0++(c1++c2)) :=
 (qbr h h0 (qbr h h1 h2 b1) b0)
structure qf where
 Ap:Int
 Bd:Int
 Av:(List Int)
 As:(List Int)
 To:(List Int)
instance gt_TException:GoT qf:=isoT (pairT instInt (pairT instInt (pairT (@instList Int instInt) (pairT (@instList Int instInt) (@instList Int instInt))))) (fun x=>(x.Ap,x.Bd,x.Av,x.As,x.To)) ⟨0,0,[],[],[]⟩ rfl true (fun h=>by cases h)
abbrev qT (x:qf) (p0 p1 p2:Option Addr) (k0 k1 k2:Nat):List Value:=[.int .i64 x.Ap,.int .i64 x.Bd,.slice p0 (x.Av).length k0,.slice p1 (x.As).length k1,.slice p2 (x.To).length k2]
theorem qaY {x:qf} {cs:List Value} (h:GoT.R w S x cs):∃ p0 k0 p1 k1 p2 k2,cs=(qT x p0 p1 p2 k0 k1 k2)∧SlR w S x.Av p0 k0∧SlR w S x.As p1 k1∧SlR w S x.To p2 k2:=by
 obtain ⟨_,_,rfl,rfl,⟨_,_,rfl,rfl,⟨_,_,rfl,⟨p0,k0,rfl,s0⟩,⟨_,_,rfl,⟨p1,k1,rfl,s1⟩,⟨p2,k2,rfl,s2⟩⟩⟩⟩⟩:=h
 exact ⟨p0,k0,p1,k1,p2,k2,rfl,s0,s1,s2⟩
theorem ql9 (x:qf) {p0 p1 p2:Option Addr} {k0 k1 k2:Nat} (s0:SlR w S x.Av p0 k0) (s1:SlR w S x.As p1 k1) (s2:SlR w S x.To p2 k2):GoT.R w S x (qT x p0 p1 p2 k0 k1 k2):=have h:=pR (rI x.Ap) (pR (rI x.Bd) (pR (rS s0) (pR (rS s1) (rS s2))));h
theorem qkP {w0:World} {L:List Ch} {x:qf} {p0 p1 p2:Option Addr} {l0 k0 l1 k1 l2 k2:Nat} (h:SH w0 w (Ch.own S x [.int .i64 x.Ap,.int .i64 x.Bd,.slice p0 l0 k0,.slice p1 l1 k1,.slice p2 l2 k2]::L)):∃ S0 S1 S2,SH w0 w (Ch.own S2 x.To [.slice p2 l2 k2]::Ch.own S1 x.As [.slice p1 l1 k1]::Ch.own S0 x.Av [.slice p0 l0 k0]::L):=by
 obtain ⟨hv,ho⟩:=h.headV
 replace ho:GoT.O w S x _:=ho
 obtain ⟨A0,B0,d0,e0,he,o0,ho,a0,b0⟩:=ho
 obtain rfl:=o0
 cases he
 replace hv:=hv.less b0
 obtain ⟨A1,B1,d1,e1,he,o1,ho,a1,b1⟩:=ho
 obtain rfl:=o1
 cases he
 replace hv:=hv.less b1
 obtain ⟨A2,B2,d2,e2,he,o2,ho,a2,b2⟩:=ho
 obtain ⟨q,m,rfl,s0⟩:=o2
 cases he
 replace hv:=hv.push (c:=Ch.own A2 x.Av [_]) (S2:=B2) ⟨_,_,rfl,s0⟩ (fun _ hd=>hd.elim) a2 b2
 obtain ⟨A3,B3,d3,e3,he,o3,ho,a3,b3⟩:=ho
 obtain ⟨q,m,rfl,s1⟩:=o3
 cases he
 replace hv:=hv.push (c:=Ch.own A3 x.As [_]) (S2:=B3) ⟨_,_,rfl,s1⟩ (fun _ hd=>hd.elim) a3 b3
 obtain ⟨q,m,he,s2⟩:=ho
 cases he
 replace hv:=hv.push (c:=Ch.own B3 x.To [_]) (S2:=(fun _=>False)) ⟨_,_,rfl,s2⟩ (fun _ hd=>hd.elim) (fun b hb=>⟨hb,fun h=>h⟩) (fun _ h=>h.elim)
 exact ⟨A2,A3,B3,hv.sh⟩
theorem qdT {w0:World} {L:List Ch} (x:qf) {I0 I1 I2 I3 I4:List Nat} {c0 c1 c2 c3 c4:List Value} (h:SH w0 w L) (h0:PO w L I0 x.Ap c0) (h1:PO w L I1 x.Bd c1) (h2:PO w L I2 x.Av c2) (h3:PO w L I3 x.As c3) (h4:PO w L I4 x.To c4) (b0:apartB I0 (I1++(I2++(I3++I4)))=true) (b1:apartB I1 (I2++(I3++I4))=true) (b2:apartB I2 (I3++I4)=true) (b3:apartB I3 I4=true):PO w L (I0++(I1++(I2++(I3++I4)))) x (c0++(c1++(c2++(c3++c4)))) :=
 (qbr h h0 (qbr h h1 (qbr h h2 (qbr h h3 h4 b3) b2) b1) b0)
structure Tplace where
 instance_:Int
 pin:Int
 net:Int
 drives:Bool
instance gt_Tplace:GoT Tplace:=isoT (pairT instInt (pairT instInt (pairT instInt instBool))) (fun x=>(x.instance_,x.pin,x.net,x.drives)) ⟨0,0,0,false⟩ rfl true (fun h=>by cases h)
instance fl_Tplace:Flat Tplace:=qgQ (pairT instInt (pairT instInt (pairT instInt instBool))) (fun x:Tplace=>(x.instance_,x.pin,x.net,x.drives)) ⟨0,0,0,false⟩ rfl true (fun h=>by cases h) (qbb _ _ (inferInstanceAs (Flat Int)) (qbb _ _ (inferInstanceAs (Flat Int)) (qbb _ _ (inferInstanceAs (Flat Int)) (inferInstanceAs (Flat Bool)))))
abbrev qmi (x:Tplace):List Value:=[.int .i64 x.instance_,.int .i64 x.pin,.int .i64 x.net,.bool x.drives]
theorem qdI {x:Tplace} {cs:List Value} (h:GoT.R w S x cs):cs=(qmi x):=by
 obtain ⟨_,_,rfl,rfl,⟨_,_,rfl,rfl,⟨_,_,rfl,rfl,rfl⟩⟩⟩:=h
 exact rfl
theorem qfb (x:Tplace):GoT.R w S x (qmi x):=have h:=pR (rI x.instance_) (pR (rI x.pin) (pR (rI x.net) (rB x.drives)));h
structure qaJ where
 Av:Int
 To:Int
 Ap:Int
 Bq:Int
instance gt_TLink:GoT qaJ:=isoT (pairT instInt (pairT instInt (pairT instInt instInt))) (fun x=>(x.Av,x.To,x.Ap,x.Bq)) ⟨0,0,0,0⟩ rfl true (fun h=>by cases h)
instance fl_TLink:Flat qaJ:=qgQ (pairT instInt (pairT instInt (pairT instInt instInt))) (fun x:qaJ=>(x.Av,x.To,x.Ap,x.Bq)) ⟨0,0,0,0⟩ rfl true (fun h=>by cases h) (qbb _ _ (inferInstanceAs (Flat Int)) (qbb _ _ (inferInstanceAs (Flat Int)) (qbb _ _ (inferInstanceAs (Flat Int)) (inferInstanceAs (Flat Int)))))
abbrev qss (x:qaJ):List Value:=[.int .i64 x.Av,.int .i64 x.To,.int .i64 x.Ap,.int .i64 x.Bq]
theorem qnn (x:qaJ):GoT.R w S x (qss x):=have h:=pR (rI x.Av) (pR (rI x.To) (pR (rI x.Ap) (rI x.Bq)));h
structure Tview where
 Bh:qm
 places:(List Tplace)
 links:(List qaJ)
 loads:(List Int)
 delays:(List (List Int))
 extras:(List Int)
instance gt_Tview:GoT Tview:=isoT (pairT gt_TBlock (pairT (@instList Tplace gt_Tplace) (pairT (@instList qaJ gt_TLink) (pairT (@instList Int instInt) (pairT (@instList (List Int) (@instList Int instInt)) (@instList Int instInt)))))) (fun x=>(x.Bh,x.places,x.links,x.loads,x.delays,x.extras)) ⟨(⟨(⟨[]⟩:qh),(⟨[],[],[]⟩:qc),[]⟩:qm),[],[],[],[],[]⟩ rfl true (fun h=>by cases h)
abbrev qrT (x:Tview) (p0 p1 p2 p3 p4 p5 p6 p7 p8 p9:Option Addr) (k0 k1 k2 k3 k4 k5 k6 k7 k8 k9:Nat):List Value:=[.slice p0 (x.Bh.Ah.Ai).length k0,.slice p1 (x.Bh.Ab.Aa).length k1,.slice p2 (x.Bh.Ab.Af).length k2,.slice p3 (x.Bh.Ab.Ac).length k3,.slice p4 (x.Bh.Aj).length k4,.slice p5 (x.places).length k5,.slice p6 (x.links).length k6,.slice p7 (x.loads).length k7,.slice p8 (x.delays).length k8,.slice p9 (x.extras).length k9]
theorem qke {x:Tview} {cs:List Value} (h:GoT.R w S x cs):∃ p0 k0 p1 k1 p2 k2 p3 k3 p4 k4 p5 k5 p6 k6 p7 k7 p8 k8 p9 k9,cs=(qrT x p0 p1 p2 p3 p4 p5 p6 p7 p8 p9 k0 k1 k2 k3 k4 k5 k6 k7 k8 k9)∧SlR w S x.Bh.Ah.Ai p0 k0∧SlR w S x.Bh.Ab.Aa p1 k1∧SlR w S x.Bh.Ab.Af p2 k2∧SlR w S x.Bh.Ab.Ac p3 k3∧SlR w S x.Bh.Aj p4 k4∧SlR w S x.places p5 k5∧SlR w S x.links p6 k6∧SlR w S x.loads p7 k7∧SlR w S x.delays p8 k8∧SlR w S x.extras p9 k9:=by
 obtain ⟨_,_,rfl,⟨_,_,rfl,⟨p0,k0,rfl,s0⟩,⟨_,_,rfl,⟨_,_,rfl,⟨p1,k1,rfl,s1⟩,⟨_,_,rfl,⟨p2,k2,rfl,s2⟩,⟨p3,k3,rfl,s3⟩⟩⟩,⟨p4,k4,rfl,s4⟩⟩⟩,⟨_,_,rfl,⟨p5,k5,rfl,s5⟩,⟨_,_,rfl,⟨p6,k6,rfl,s6⟩,⟨_,_,rfl,⟨p7,k7,rfl,s7⟩,⟨_,_,rfl,⟨p8,k8,rfl,s8⟩,⟨p9,k9,rfl,s9⟩⟩⟩⟩⟩⟩:=h
 exact ⟨p0,k0,p1,k1,p2,k2,p3,k3,p4,k4,p5,k5,p6,k6,p7,k7,p8,k8,p9,k9,rfl,s0,s1,s2,s3,s4,s5,s6,s7,s8,s9⟩
structure qik where
 e0:ByteArray
 e1:ByteArray
 e2:ByteArray
 e3:ByteArray
 e4:ByteArray
instance gt_TA5_ByteArray:GoT qik:=isoT (pairT instStr (pairT instStr (pairT instStr (pairT instStr instStr)))) (fun x=>(x.e0,x.e1,x.e2,x.e3,x.e4)) ⟨ByteArray.empty,ByteArray.empty,ByteArray.empty,ByteArray.empty,ByteArray.empty⟩ rfl true (fun h=>by cases h)
instance fl_TA5_ByteArray:Flat qik:=qgQ (pairT instStr (pairT instStr (pairT instStr (pairT instStr instStr)))) (fun x:qik=>(x.e0,x.e1,x.e2,x.e3,x.e4)) ⟨ByteArray.empty,ByteArray.empty,ByteArray.empty,ByteArray.empty,ByteArray.empty⟩ rfl true (fun h=>by cases h) (qbb _ _ (inferInstanceAs (Flat ByteArray)) (qbb _ _ (inferInstanceAs (Flat ByteArray)) (qbb _ _ (inferInstanceAs (Flat ByteArray)) (qbb _ _ (inferInstanceAs (Flat ByteArray)) (inferInstanceAs (Flat ByteArray))))))
structure Tl05Place where
 instance_:Int
 pin:Int
 net:Int
 drives:Bool
instance gt_Tl05Place:GoT Tl05Place:=isoT (pairT instInt (pairT instInt (pairT instInt instBool))) (fun x=>(x.instance_,x.pin,x.net,x.drives)) ⟨0,0,0,false⟩ rfl true (fun h=>by cases h)
instance fl_Tl05Place:Flat Tl05Place:=qgQ (pairT instInt (pairT instInt (pairT instInt instBool))) (fun x:Tl05Place=>(x.instance_,x.pin,x.net,x.drives)) ⟨0,0,0,false⟩ rfl true (fun h=>by cases h) (qbb _ _ (inferInstanceAs (Flat Int)) (qbb _ _ (inferInstanceAs (Flat Int)) (qbb _ _ (inferInstanceAs (Flat Int)) (inferInstanceAs (Flat Bool)))))
abbrev qjx (x:Tl05Place):List Value:=[.int .i64 x.instance_,.int .i64 x.pin,.int .i64 x.net,.bool x.drives]
theorem qd9 {x:Tl05Place} {cs:List Value} (h:GoT.R w S x cs):cs=(qjx x):=by
 obtain ⟨_,_,rfl,rfl,⟨_,_,rfl,rfl,⟨_,_,rfl,rfl,rfl⟩⟩⟩:=h
 exact rfl
theorem qeN (x:Tl05Place):GoT.R w S x (qjx x):=have h:=pR (rI x.instance_) (pR (rI x.pin) (pR (rI x.net) (rB x.drives)));h
structure qD where
 e0:Int
 e1:Int
instance gt_TA2_Int:GoT qD:=isoT (pairT instInt instInt) (fun x=>(x.e0,x.e1)) ⟨0,0⟩ rfl true (fun h=>by cases h)
instance fl_TA2_Int:Flat qD:=qgQ (pairT instInt instInt) (fun x:qD=>(x.e0,x.e1)) ⟨0,0⟩ rfl true (fun h=>by cases h) (qbb _ _ (inferInstanceAs (Flat Int)) (inferInstanceAs (Flat Int)))
abbrev qm8 (x:qD):List Value:=[.int .i64 x.e0,.int .i64 x.e1]
theorem qnI {x:qD} {cs:List Value} (h:GoT.R w S x cs):cs=(qm8 x):=by
 obtain ⟨_,_,rfl,rfl,rfl⟩:=h
 exact rfl
theorem qb5 (x:qD):GoT.R w S x (qm8 x):=have h:=pR (rI x.e0) (rI x.e1);h
structure Tl01Source where
 code:(List (IntK .u8))
 at_:Int
 seed:Int
instance gt_Tl01Source:GoT Tl01Source:=isoT (pairT (@instList (IntK .u8) (@gt_IntK .u8)) (pairT instInt instInt)) (fun x=>(x.code,x.at_,x.seed)) ⟨[],0,0⟩ rfl true (fun h=>by cases h)
structure qhd where
 Bp:Int
 Br:Int
instance gt_TSpan:GoT qhd:=isoT (pairT instInt instInt) (fun x=>(x.Bp,x.Br)) ⟨0,0⟩ rfl true (fun h=>by cases h)
instance fl_TSpan:Flat qhd:=qgQ (pairT instInt instInt) (fun x:qhd=>(x.Bp,x.Br)) ⟨0,0⟩ rfl true (fun h=>by cases h) (qbb _ _ (inferInstanceAs (Flat Int)) (inferInstanceAs (Flat Int)))
abbrev qpM (x:qhd):List Value:=[.int .i64 x.Bp,.int .i64 x.Br]
theorem qo9 {x:qhd} {cs:List Value} (h:GoT.R w S x cs):cs=(qpM x):=by
 obtain ⟨_,_,rfl,rfl,rfl⟩:=h
 exact rfl
theorem qnj (x:qhd):GoT.R w S x (qpM x):=have h:=pR (rI x.Bp) (rI x.Br);h
def tab:Tab:=[
 (2,⟨.int .i64,1,8,some (.int .i64 0),[]⟩),
 (3,⟨.int .i64,1,8,some (.int .i64 0),[]⟩),
 (4,⟨.bool,1,1,some (.bool false),[]⟩),
 (5,⟨.int .u8,1,1,some (.int .u8 0),[]⟩),
 (9,⟨.str,1,16,some (.string ByteArray.empty),[]⟩),
 (22,⟨.slice 158,1,24,some (.slice none 0 0),[]⟩),
 (24,⟨.struct,1,24,some (.agg #[.slice none 0 0]),[(0,1,some false)]⟩),
 (25,⟨.slice 160,1,24,some (.slice none 0 0),[]⟩),
 (26,⟨.slice 9,1,24,some (.slice none 0 0),[]⟩),
 (27,⟨.slice 163,1,24,some (.slice none 0 0),[]⟩),
 (29,⟨.struct,3,72,some (.agg #[.slice none 0 0,.slice none 0 0,.slice none 0 0]),[(0,1,some false),(1,1,some false),(2,1,some false)]⟩),
 (30,⟨.slice 103,1,24,some (.slice none 0 0),[]⟩),
 (32,⟨.struct,5,120,some (.agg #[.slice none 0 0,.slice none 0 0,.slice none 0 0,.slice none 0 0,.slice none 0 0]),[(0,1,some true),(1,3,some true),(4,1,some false)]⟩),
 (33,⟨.slice 2,1,24,some (.slice none 0 0),[]⟩),
 (35,⟨.struct,5,88,some (.agg #[.int .i64 0,.int .i64 0,.slice none 0 0,.slice none 0 0,.slice none 0 0]),[(0,1,some false),(1,1,some false),(2,1,some false),(3,1,some false),(4,1,some false)]⟩),
 (39,⟨.slice 169,1,24,some (.slice none 0 0),[]⟩),
 (41,⟨.struct,1,24,some (.agg #[.slice none 0 0]),[(0,1,some false)]⟩),
 (42,⟨.slice 121,1,24,some (.slice none 0 0),[]⟩),
 (43,⟨.slice 172,1,24,some (.slice none 0 0),[]⟩),
 (45,⟨.struct,3,72,some (.agg #[.slice none 0 0,.slice none 0 0,.slice none 0 0]),[(0,1,some false),(1,1,some false),(2,1,some false)]⟩),
 (46,⟨.slice 109,1,24,some (.slice none 0 0),[]⟩),
 (48,⟨.struct,5,120,some (.agg #[.slice none 0 0,.slice none 0 0,.slice none 0 0,.slice none 0 0,.slice none 0 0]),[(0,1,some true),(1,3,some true),(4,1,some false)]⟩),
 (50,⟨.struct,5,88,some (.agg #[.int .i64 0,.int .i64 0,.slice none 0 0,.slice none 0 0,.slice none 0 0]),[(0,1,some false),(1,1,some false),(2,1,some false),(3,1,some false),(4,1,some false)]⟩),
 (55,⟨.slice 5,1,24,some (.slice none 0 0),[]⟩),
 (89,⟨.slice 33,1,24,some (.slice none 0 0),[]⟩),
 (103,⟨.struct,4,96,some (.agg #[.slice none 0 0,.slice none 0 0,.slice none 0 0,.slice none 0 0]),[(0,1,some false),(1,1,some false),(2,1,some false),(3,1,some false)]⟩),
 (109,⟨.struct,4,96,some (.agg #[.slice none 0 0,.slice none 0 0,.slice none 0 0,.slice none 0 0]),[(0,1,some false),(1,1,some false),(2,1,some false),(3,1,some false)]⟩),
 (112,⟨.slice 115,1,24,some (.slice none 0 0),[]⟩),
 (115,⟨.struct,4,32,some (.agg #[.int .i64 0,.int .i64 0,.int .i64 0,.bool false]),[(0,1,some false),(1,1,some false),(2,1,some false),(3,1,some false)]⟩),
 (117,⟨.slice 126,1,24,some (.slice none 0 0),[]⟩),
 (119,⟨.struct,10,240,some (.agg #[.slice none 0 0,.slice none 0 0,.slice none 0 0,.slice none 0 0,.slice none 0 0,.slice none 0 0,.slice none 0 0,.slice none 0 0,.slice none 0 0,.slice none 0 0]),[(0,5,some true),(5,1,some false),(6,1,some false),(7,1,some false),(8,1,some false),(9,1,some false)]⟩),
 (121,⟨.struct,3,48,some (.agg #[.string ByteArray.empty,.int .i64 0,.slice none 0 0]),[(0,1,some false),(1,1,some false),(2,1,some false)]⟩),
 (126,⟨.struct,4,32,some (.agg #[.int .i64 0,.int .i64 0,.int .i64 0,.int .i64 0]),[(0,1,some false),(1,1,some false),(2,1,some false),(3,1,some false)]⟩),
 (131,⟨.arr 5 9,5,80,some (.agg #[.string ByteArray.empty,.string ByteArray.empty,.string ByteArray.empty,.string ByteArray.empty,.string ByteArray.empty]),[]⟩),
 (138,⟨.slice 50,1,24,some (.slice none 0 0),[]⟩),
 (146,⟨.slice 150,1,24,some (.slice none 0 0),[]⟩),
 (150,⟨.struct,4,32,some (.agg #[.int .i64 0,.int .i64 0,.int .i64 0,.bool false]),[(0,1,some false),(1,1,some false),(2,1,some false),(3,1,some false)]⟩),
 (155,⟨.slice 238,1,24,some (.slice none 0 0),[]⟩),
 (156,⟨.slice 242,1,24,some (.slice none 0 0),[]⟩),
 (158,⟨.struct,7,112,some (.agg #[.string ByteArray.empty,.int .i64 0,.slice none 0 0,.slice none 0 0,.slice none 0 0,.int .i64 0,.int .i64 0]),[(0,1,some false),(1,1,some false),(2,1,some false),(3,1,some false),(4,1,some false),(5,1,some false),(6,1,some false)]⟩),
 (160,⟨.struct,3,48,some (.agg #[.string ByteArray.empty,.int .i64 0,.slice none 0 0]),[(0,1,some false),(1,1,some false),(2,1,some false)]⟩),
 (163,⟨.struct,3,32,some (.agg #[.string ByteArray.empty,.int .i64 0,.int .i64 0]),[(0,1,some false),(1,1,some false),(2,1,some false)]⟩),
 (166,⟨.slice 191,1,24,some (.slice none 0 0),[]⟩),
 (167,⟨.slice 183,1,24,some (.slice none 0 0),[]⟩),
 (169,⟨.struct,7,112,some (.agg #[.string ByteArray.empty,.int .i64 0,.slice none 0 0,.slice none 0 0,.slice none 0 0,.int .i64 0,.int .i64 0]),[(0,1,some false),(1,1,some false),(2,1,some false),(3,1,some false),(4,1,some false),(5,1,some false),(6,1,some false)]⟩),
 (172,⟨.struct,3,32,some (.agg #[.string ByteArray.empty,.int .i64 0,.int .i64 0]),[(0,1,some false),(1,1,some false),(2,1,some false)]⟩),
 (176,⟨.slice 3,1,24,some (.slice none 0 0),[]⟩),
 (181,⟨.slice 276,1,24,some (.slice none 0 0),[]⟩),
 (183,⟨.struct,6,80,some (.agg #[.int .i64 0,.int .i64 0,.int .i64 0,.int .i64 0,.slice none 0 0,.slice none 0 0]),[(0,1,some false),(1,1,some false),(2,1,some false),(3,1,some false),(4,1,some false),(5,1,some false)]⟩),
 (184,⟨.slice 186,1,24,some (.slice none 0 0),[]⟩),
 (186,⟨.arr 2 2,2,16,some (.agg #[.int .i64 0,.int .i64 0]),[]⟩),
 (191,⟨.struct,4,40,some (.agg #[.string ByteArray.empty,.int .i64 0,.int .i64 0,.bool false]),[(0,1,some false),(1,1,some false),(2,1,some false),(3,1,some false)]⟩),
 (195,⟨.ptr,1,8,some (.pointer none),[]⟩),
 (225,⟨.struct,3,40,some (.agg #[.slice none 0 0,.int .i64 0,.int .i64 0]),[(0,1,some false),(1,1,some false),(2,1,some false)]⟩),
 (238,⟨.struct,4,40,some (.agg #[.string ByteArray.empty,.int .i64 0,.int .i64 0,.bool false]),[(0,1,some false),(1,1,some false),(2,1,some false),(3,1,some false)]⟩),
 (240,⟨.slice 306,1,24,some (.slice none 0 0),[]⟩),
 (242,⟨.struct,6,80,some (.agg #[.int .i64 0,.int .i64 0,.int .i64 0,.int .i64 0,.slice none 0 0,.slice none 0 0]),[(0,1,some false),(1,1,some false),(2,1,some false),(3,1,some false),(4,1,some false),(5,1,some false)]⟩),
 (267,⟨.int .u64,1,8,some (.int .u64 0),[]⟩),
 (276,⟨.struct,3,72,some (.agg #[.slice none 0 0,.slice none 0 0,.slice none 0 0]),[(0,1,some false),(1,1,some false),(2,1,some false)]⟩),
 (306,⟨.struct,3,72,some (.agg #[.slice none 0 0,.slice none 0 0,.slice none 0 0]),[(0,1,some false),(1,1,some false),(2,1,some false)]⟩),
 (321,⟨.struct,2,16,some (.agg #[.int .i64 0,.int .i64 0]),[(0,1,some false),(1,1,some false)]⟩)]
theorem qb:TabOk Tryz.prog tab:=TabOk.mk (by kernel_rfl)
theorem rp {n:Nat} {Q:Exit→Act→World→Prop} {k:List It} {e:Env} {w:World} {all:Array Oper} {l:List Oper} {op:Op} {d t:Nat} {ps:String} {af:Array Edge} {v:Value}
  (h:pev tab e op=some v) (hn:Nat.blt d n=true) (hk:Run Tryz.prog n Q (.ops all l::k) ((d,v)::e) w):Run Tryz.prog n Q (.ops all (⟨some d,op,t,ps,af,none⟩::l)::k) e w:=r_p qb h hn hk
theorem dp {n:Nat} {Q:Exit→Act→World→Prop} {k:List It} {e:Env} {w:World} {all:Array Oper} {l:List Oper} {op:Op} {d t:Nat} {ps:String} {af:Array Edge} {v:Value}
  (h:pev tab e op=some v) (hn:Nat.blt d n=true) (hk:RunD Tryz.prog n Q k all w l ((d,v)::e)):RunD Tryz.prog n Q k all w (⟨some d,op,t,ps,af,none⟩::l) e:=d_p qb h hn hk
section
variable {P:Program} {n:Nat} {Q:Exit→Act→World→Prop} {k:List It} {e:Env} {w:World}
theorem zSR {i4:Nat} {o5:List Oper} {x3:Code} (h:Run P n Q (.ops o5.toArray o5::.code x3::k) e w):Run P n Q (.code (.seq (.region i4 o5.toArray false) x3)::k) e w:=qfc <| qis h
theorem zKSR {i5:Nat} {o6:List Oper} {x4:Code} (h:Run P n Q (.ops o6.toArray o6::.code x4::k) e w):Run P n Q (.code .skip::.code (.seq (.region i5 o6.toArray false) x4)::k) e w:=qeT <| qfc <| qis h
theorem zNSR {a1:Array Oper} {i5:Nat} {o6:List Oper} {x4:Code} (h:Run P n Q (.ops o6.toArray o6::.code x4::k) e w):Run P n Q (.ops a1 []::.code (.seq (.region i5 o6.toArray false) x4)::k) e w:=qdk <| qfc <| qis h
theorem zKS {x3:Code} {x4:Code} (h:Run P n Q (.code x3::.code x4::k) e w):Run P n Q (.code .skip::.code (.seq x3 x4)::k) e w:=qeT <| qfc h
theorem zNS {a1:Array Oper} {x3:Code} {x4:Code} (h:Run P n Q (.code x3::.code x4::k) e w):Run P n Q (.ops a1 []::.code (.seq x3 x4)::k) e w:=qdk <| qfc h
theorem zNSS {a1:Array Oper} {x5:Code} {x6:Code} {x4:Code} (h:Run P n Q (.code x5::.code x6::.code x4::k) e w):Run P n Q (.ops a1 []::.code (.seq (.seq x5 x6) x4)::k) e w:=qdk <| qfc <| qfc h
theorem zKSB {i5:Nat} {x6:Code} {x4:Code} (h:Run P n Q (.code x6::.blk i5::.code x4::k) e w):Run P n Q (.code .skip::.code (.seq (.block i5 x6) x4)::k) e w:=qeT <| qfc <| ql h
theorem zKSBSR {i5:Nat} {i9:Nat} {o10:List Oper} {x8:Code} {x4:Code} (h:Run P n Q (.ops o10.toArray o10::.code x8::.blk i5::.code x4::k) e w):Run P n Q (.code .skip::.code (.seq (.block i5 (.seq (.region i9 o10.toArray false) x8)) x4)::k) e w:=qeT <| qfc <| ql <| qfc <| qis h
theorem zSS {x4:Code} {x5:Code} {x3:Code} (h:Run P n Q (.code x4::.code x5::.code x3::k) e w):Run P n Q (.code (.seq (.seq x4 x5) x3)::k) e w:=qfc <| qfc h
theorem zKSS {x5:Code} {x6:Code} {x4:Code} (h:Run P n Q (.code x5::.code x6::.code x4::k) e w):Run P n Q (.code .skip::.code (.seq (.seq x5 x6) x4)::k) e w:=qeT <| qfc <| qfc h
end
section
variable {w0 w:World} {L:List Ch} {n:Nat} {Q:Exit→Act→World→Prop} {k k':List It} {e e':Env} {all:Array Oper} {l l':List Oper} {z:List Nat}
theorem X0 (m:Nat) (hh:xs tab n m [] k e [] []=some (k',e',z,z)) (hk:Run Tryz.prog n Q k' e' w):Run Tryz.prog n Q k e w:=((qpE (P:=Tryz.prog) (Q:=Q) (w:=w) qb m _ _ _ _ _ _ _ _ _ (fun _ h=>by cases h) rfl hh).2 rfl).2 hk
theorem Y0 (m:Nat) (hh:xd tab n all m [] l e [] []=some (l',e',z,z)) (hk:RunD Tryz.prog n Q k all w l' e'):RunD Tryz.prog n Q k all w l e:=((qsu (P:=Tryz.prog) (Q:=Q) (k:=k) (w:=w) (all:=all) qb m _ _ _ _ _ _ _ _ _ (fun _ h=>by cases h) rfl hh).2 rfl).2 hk
theorem X1 (m:Nat) (i0:Nat) {b0 t0:Nat} {cs0:List Value} (h:SH w0 w L) (hh:(L[i0]?,xs tab n m [(b0,cs0)] k e [] [])=(some (Ch.box b0 cs0 t0),some (k',e',z,z))) (hk:Run Tryz.prog n Q k' e' w):Run Tryz.prog n Q k e w:=by
 simp only [Prod.mk.injEq] at hh
 exact ((qpE (P:=Tryz.prog) (Q:=Q) (w:=w) qb m _ _ _ _ _ _ _ _ _ (fun p hp=>by
  simp only [List.mem_cons,jN,or_false] at hp
  rcases hp with rfl
  ·exact h.box i0 hh.1) rfl hh.2).2 rfl).2 hk
theorem Y1 (m:Nat) (i0:Nat) {b0 t0:Nat} {cs0:List Value} (h:SH w0 w L) (hh:(L[i0]?,xd tab n all m [(b0,cs0)] l e [] [])=(some (Ch.box b0 cs0 t0),some (l',e',z,z))) (hk:RunD Tryz.prog n Q k all w l' e'):RunD Tryz.prog n Q k all w l e:=by
 simp only [Prod.mk.injEq] at hh
 exact ((qsu (P:=Tryz.prog) (Q:=Q) (k:=k) (w:=w) (all:=all) qb m _ _ _ _ _ _ _ _ _ (fun p hp=>by
  simp only [List.mem_cons,jN,or_false] at hp
  rcases hp with rfl
  ·exact h.box i0 hh.1) rfl hh.2).2 rfl).2 hk
theorem X2 (m:Nat) (i0 i1:Nat) {b0 t0:Nat} {cs0:List Value} {b1 t1:Nat} {cs1:List Value} (h:SH w0 w L) (hh:(L[i0]?,L[i1]?,xs tab n m [(b0,cs0),(b1,cs1)] k e [] [])=(some (Ch.box b0 cs0 t0),some (Ch.box b1 cs1 t1),some (k',e',z,z))) (hk:Run Tryz.prog n Q k' e' w):Run Tryz.prog n Q k e w:=by
 simp only [Prod.mk.injEq] at hh
 exact ((qpE (P:=Tryz.prog) (Q:=Q) (w:=w) qb m _ _ _ _ _ _ _ _ _ (fun p hp=>by
  simp only [List.mem_cons,jN,or_false] at hp
  rcases hp with rfl|rfl
  ·exact h.box i0 hh.1
  ·exact h.box i1 hh.2.1) rfl hh.2.2).2 rfl).2 hk
theorem X3 (m:Nat) (i0 i1 i2:Nat) {b0 t0:Nat} {cs0:List Value} {b1 t1:Nat} {cs1:List Value} {b2 t2:Nat} {cs2:List Value} (h:SH w0 w L) (hh:(L[i0]?,L[i1]?,L[i2]?,xs tab n m [(b0,cs0),(b1,cs1),(b2,cs2)] k e [] [])=(some (Ch.box b0 cs0 t0),some (Ch.box b1 cs1 t1),some (Ch.box b2 cs2 t2),some (k',e',z,z))) (hk:Run Tryz.prog n Q k' e' w):Run Tryz.prog n Q k e w:=by
 simp only [Prod.mk.injEq] at hh
 exact ((qpE (P:=Tryz.prog) (Q:=Q) (w:=w) qb m _ _ _ _ _ _ _ _ _ (fun p hp=>by
  simp only [List.mem_cons,jN,or_false] at hp
  rcases hp with rfl|rfl|rfl
  ·exact h.box i0 hh.1
  ·exact h.box i1 hh.2.1
  ·exact h.box i2 hh.2.2.1) rfl hh.2.2.2).2 rfl).2 hk
end
section
variable {w0 w:World} {L:List Ch} {n:Nat} {Q:Exit→Act→World→Prop} {k:List It} {e:Env} {all:Array Oper} {l:List Oper}
theorem zp1 {op0:Op} {d0 t0:Nat} {s0:String} {f0:Array Edge} {v0:Value} (h:(pev tab (e) op0,Nat.blt d0 n)=(some v0,true)) (hk:Run Tryz.prog n Q (.ops all l::k) ((d0,v0)::e) w):Run Tryz.prog n Q (.ops all (⟨some d0,op0,t0,s0,f0,none⟩::l)::k) e w:=by
 have H:=h
 simp only [Prod.mk.injEq] at H
 exact rp (H.1) (H.2) (hk)
theorem zd1 {op0:Op} {d0 t0:Nat} {s0:String} {f0:Array Edge} {v0:Value} (h:(pev tab (e) op0,Nat.blt d0 n)=(some v0,true)) (hk:RunD Tryz.prog n Q k all w l ((d0,v0)::e)):RunD Tryz.prog n Q k all w (⟨some d0,op0,t0,s0,f0,none⟩::l) e:=by
 have H:=h
 simp only [Prod.mk.injEq] at H
 exact dp (H.1) (H.2) (hk)
theorem zp2 {op0:Op} {d0 t0:Nat} {s0:String} {f0:Array Edge} {v0:Value} {op1:Op} {d1 t1:Nat} {s1:String} {f1:Array Edge} {v1:Value} (h:(pev tab (e) op0,Nat.blt d0 n,pev tab ((d0,v0)::e) op1,Nat.blt d1 n)=(some v0,true,some v1,true)) (hk:Run Tryz.prog n Q (.ops all l::k) ((d1,v1)::(d0,v0)::e) w):Run Tryz.prog n Q (.ops all (⟨some d0,op0,t0,s0,f0,none⟩::⟨some d1,op1,t1,s1,f1,none⟩::l)::k) e w:=by
 have H:=h
 simp only [Prod.mk.injEq] at H
 exact rp (H.1) (H.2.1) (rp (H.2.2.1) (H.2.2.2) (hk))
theorem zd2 {op0:Op} {d0 t0:Nat} {s0:String} {f0:Array Edge} {v0:Value} {op1:Op} {d1 t1:Nat} {s1:String} {f1:Array Edge} {v1:Value} (h:(pev tab (e) op0,Nat.blt d0 n,pev tab ((d0,v0)::e) op1,Nat.blt d1 n)=(some v0,true,some v1,true)) (hk:RunD Tryz.prog n Q k all w l ((d1,v1)::(d0,v0)::e)):RunD Tryz.prog n Q k all w (⟨some d0,op0,t0,s0,f0,none⟩::⟨some d1,op1,t1,s1,f1,none⟩::l) e:=by
 have H:=h
 simp only [Prod.mk.injEq] at H
 exact dp (H.1) (H.2.1) (dp (H.2.2.1) (H.2.2.2) (hk))
theorem zp3 {op0:Op} {d0 t0:Nat} {s0:String} {f0:Array Edge} {v0:Value} {op1:Op} {d1 t1:Nat} {s1:String} {f1:Array Edge} {v1:Value} {op2:Op} {d2 t2:Nat} {s2:String} {f2:Array Edge} {v2:Value} (h:(pev tab (e) op0,Nat.blt d0 n,pev tab ((d0,v0)::e) op1,Nat.blt d1 n,pev tab ((d1,v1)::(d0,v0)::e) op2,Nat.blt d2 n)=(some v0,true,some v1,true,some v2,true)) (hk:Run Tryz.prog n Q (.ops all l::k) ((d2,v2)::(d1,v1)::(d0,v0)::e) w):Run Tryz.prog n Q (.ops all (⟨some d0,op0,t0,s0,f0,none⟩::⟨some d1,op1,t1,s1,f1,none⟩::⟨some d2,op2,t2,s2,f2,none⟩::l)::k) e w:=by
 have H:=h
 simp only [Prod.mk.injEq] at H
 exact rp (H.1) (H.2.1) (rp (H.2.2.1) (H.2.2.2.1) (rp (H.2.2.2.2.1) (H.2.2.2.2.2) (hk)))
theorem zd3 {op0:Op} {d0 t0:Nat} {s0:String} {f0:Array Edge} {v0:Value} {op1:Op} {d1 t1:Nat} {s1:String} {f1:Array Edge} {v1:Value} {op2:Op} {d2 t2:Nat} {s2:String} {f2:Array Edge} {v2:Value} (h:(pev tab (e) op0,Nat.blt d0 n,pev tab ((d0,v0)::e) op1,Nat.blt d1 n,pev tab ((d1,v1)::(d0,v0)::e) op2,Nat.blt d2 n)=(some v0,true,some v1,true,some v2,true)) (hk:RunD Tryz.prog n Q k all w l ((d2,v2)::(d1,v1)::(d0,v0)::e)):RunD Tryz.prog n Q k all w (⟨some d0,op0,t0,s0,f0,none⟩::⟨some d1,op1,t1,s1,f1,none⟩::⟨some d2,op2,t2,s2,f2,none⟩::l) e:=by
 have H:=h
 simp only [Prod.mk.injEq] at H
 exact dp (H.1) (H.2.1) (dp (H.2.2.1) (H.2.2.2.1) (dp (H.2.2.2.2.1) (H.2.2.2.2.2) (hk)))
theorem zp4 {op0:Op} {d0 t0:Nat} {s0:String} {f0:Array Edge} {v0:Value} {op1:Op} {d1 t1:Nat} {s1:String} {f1:Array Edge} {v1:Value} {op2:Op} {d2 t2:Nat} {s2:String} {f2:Array Edge} {v2:Value} {op3:Op} {d3 t3:Nat} {s3:String} {f3:Array Edge} {v3:Value} (h:(pev tab (e) op0,Nat.blt d0 n,pev tab ((d0,v0)::e) op1,Nat.blt d1 n,pev tab ((d1,v1)::(d0,v0)::e) op2,Nat.blt d2 n,pev tab ((d2,v2)::(d1,v1)::(d0,v0)::e) op3,Nat.blt d3 n)=(some v0,true,some v1,true,some v2,true,some v3,true)) (hk:Run Tryz.prog n Q (.ops all l::k) ((d3,v3)::(d2,v2)::(d1,v1)::(d0,v0)::e) w):Run Tryz.prog n Q (.ops all (⟨some d0,op0,t0,s0,f0,none⟩::⟨some d1,op1,t1,s1,f1,none⟩::⟨some d2,op2,t2,s2,f2,none⟩::⟨some d3,op3,t3,s3,f3,none⟩::l)::k) e w:=by
 have H:=h
 simp only [Prod.mk.injEq] at H
 exact rp (H.1) (H.2.1) (rp (H.2.2.1) (H.2.2.2.1) (rp (H.2.2.2.2.1) (H.2.2.2.2.2.1) (rp (H.2.2.2.2.2.2.1) (H.2.2.2.2.2.2.2) (hk))))
theorem zd4 {op0:Op} {d0 t0:Nat} {s0:String} {f0:Array Edge} {v0:Value} {op1:Op} {d1 t1:Nat} {s1:String} {f1:Array Edge} {v1:Value} {op2:Op} {d2 t2:Nat} {s2:String} {f2:Array Edge} {v2:Value} {op3:Op} {d3 t3:Nat} {s3:String} {f3:Array Edge} {v3:Value} (h:(pev tab (e) op0,Nat.blt d0 n,pev tab ((d0,v0)::e) op1,Nat.blt d1 n,pev tab ((d1,v1)::(d0,v0)::e) op2,Nat.blt d2 n,pev tab ((d2,v2)::(d1,v1)::(d0,v0)::e) op3,Nat.blt d3 n)=(some v0,true,some v1,true,some v2,true,some v3,true)) (hk:RunD Tryz.prog n Q k all w l ((d3,v3)::(d2,v2)::(d1,v1)::(d0,v0)::e)):RunD Tryz.prog n Q k all w (⟨some d0,op0,t0,s0,f0,none⟩::⟨some d1,op1,t1,s1,f1,none⟩::⟨some d2,op2,t2,s2,f2,none⟩::⟨some d3,op3,t3,s3,f3,none⟩::l) e:=by
 have H:=h
 simp only [Prod.mk.injEq] at H
 exact dp (H.1) (H.2.1) (dp (H.2.2.1) (H.2.2.2.1) (dp (H.2.2.2.2.1) (H.2.2.2.2.2.1) (dp (H.2.2.2.2.2.2.1) (H.2.2.2.2.2.2.2) (hk))))
theorem zp5 {op0:Op} {d0 t0:Nat} {s0:String} {f0:Array Edge} {v0:Value} {op1:Op} {d1 t1:Nat} {s1:String} {f1:Array Edge} {v1:Value} {op2:Op} {d2 t2:Nat} {s2:String} {f2:Array Edge} {v2:Value} {op3:Op} {d3 t3:Nat} {s3:String} {f3:Array Edge} {v3:Value} {op4:Op} {d4 t4:Nat} {s4:String} {f4:Array Edge} {v4:Value} (h:(pev tab (e) op0,Nat.blt d0 n,pev tab ((d0,v0)::e) op1,Nat.blt d1 n,pev tab ((d1,v1)::(d0,v0)::e) op2,Nat.blt d2 n,pev tab ((d2,v2)::(d1,v1)::(d0,v0)::e) op3,Nat.blt d3 n,pev tab ((d3,v3)::(d2,v2)::(d1,v1)::(d0,v0)::e) op4,Nat.blt d4 n)=(some v0,true,some v1,true,some v2,true,some v3,true,some v4,true)) (hk:Run Tryz.prog n Q (.ops all l::k) ((d4,v4)::(d3,v3)::(d2,v2)::(d1,v1)::(d0,v0)::e) w):Run Tryz.prog n Q (.ops all (⟨some d0,op0,t0,s0,f0,none⟩::⟨some d1,op1,t1,s1,f1,none⟩::⟨some d2,op2,t2,s2,f2,none⟩::⟨some d3,op3,t3,s3,f3,none⟩::⟨some d4,op4,t4,s4,f4,none⟩::l)::k) e w:=by
 have H:=h
 simp only [Prod.mk.injEq] at H
 exact rp (H.1) (H.2.1) (rp (H.2.2.1) (H.2.2.2.1) (rp (H.2.2.2.2.1) (H.2.2.2.2.2.1) (rp (H.2.2.2.2.2.2.1) (H.2.2.2.2.2.2.2.1) (rp (H.2.2.2.2.2.2.2.2.1) (H.2.2.2.2.2.2.2.2.2) (hk)))))
theorem zc (j:Nat) {d t ty:Nat} {x:Operand} {te:TE} {ps:String} {af:Array Edge} {v:Value} {b o:Nat} {cs:List Value} (h:CellsAt w b o cs) (hh:(opv e x,tab.get t,ld te cs j,Nat.blt d n)=(some (.pointer (some ⟨b,o+j,none⟩)),some te,some v,true))
  (hk:Run Tryz.prog n Q (.ops all l::k) ((d,v)::e) w):Run Tryz.prog n Q (.ops all (⟨some d,.load t x,ty,ps,af,none⟩::l)::k) e w:=by
 simp only [Prod.mk.injEq] at hh
 exact r_v (qiV qb h (j:=j) hh.1 hh.2.1 hh.2.2.1) hh.2.2.2 hk
theorem zdc (j:Nat) {d t ty:Nat} {x:Operand} {te:TE} {ps:String} {af:Array Edge} {v:Value} {b o:Nat} {cs:List Value} (h:CellsAt w b o cs) (hh:(opv e x,tab.get t,ld te cs j,Nat.blt d n)=(some (.pointer (some ⟨b,o+j,none⟩)),some te,some v,true))
  (hk:RunD Tryz.prog n Q k all w l ((d,v)::e)):RunD Tryz.prog n Q k all w (⟨some d,.load t x,ty,ps,af,none⟩::l) e:=by
 simp only [Prod.mk.injEq] at hh
 exact d_v (fun _ hb=>qiV qb (h.below hb) (j:=j) hh.1 hh.2.1 hh.2.2.1) hh.2.2.2 hk
theorem zx {x i:Operand} {t ty d el m:Nat} {te te1:TE} {ps:String} {af:Array Edge} {p:Option Addr} {ln c:Nat} {kd:IntKind} {iv:Int} {b o q:Nat} (hp:p=some ⟨b,o,none⟩) (hq:q=o+iv.toNat*m) (hlt:0≤iv∧iv<ln) (hh:(opv e x,opv e i,tab.get t,te.kind,tab.get el,te1.size,Nat.blt d n)=(some (.slice p ln c),some (.int kd iv),some te,TK.slice el,some te1,m,true)) (hk:Run Tryz.prog n Q (.ops all l::k) ((d,.pointer (some ⟨b,q,none⟩))::e) w):Run Tryz.prog n Q (.ops all (⟨some d,.indexAddr t x i,ty,ps,af,none⟩::l)::k) e w:=by
 simp only [Prod.mk.injEq] at hh
 exact r_v (qsL qb hp hq hlt hh.1 hh.2.1 hh.2.2.1 hh.2.2.2.1 hh.2.2.2.2.1 hh.2.2.2.2.2.1) hh.2.2.2.2.2.2 hk
theorem zxe {x i:Operand} {t ty d el m:Nat} {te te1:TE} {ps:String} {af:Array Edge} {p:Option Addr} {ln c:Nat} {kd:IntKind} {iv:Int} {b o q:Nat} {α:Prop} (hp:p=some ⟨b,o,none⟩) (hq:q=o+iv.toNat*m) (hlt:0≤iv∧iv<ln∧α) (hh:(opv e x,opv e i,tab.get t,te.kind,tab.get el,te1.size,Nat.blt d n)=(some (.slice p ln c),some (.int kd iv),some te,TK.slice el,some te1,m,true)) (hk:Run Tryz.prog n Q (.ops all l::k) ((d,.pointer (some ⟨b,q,none⟩))::e) w):Run Tryz.prog n Q (.ops all (⟨some d,.indexAddr t x i,ty,ps,af,none⟩::l)::k) e w:=zx hp hq ⟨hlt.1,hlt.2.1⟩ hh hk
theorem zdx {x i:Operand} {t ty d el m:Nat} {te te1:TE} {ps:String} {af:Array Edge} {p:Option Addr} {ln c:Nat} {kd:IntKind} {iv:Int} {b o q:Nat} (hp:p=some ⟨b,o,none⟩) (hq:q=o+iv.toNat*m) (hlt:0≤iv∧iv<ln) (hh:(opv e x,opv e i,tab.get t,te.kind,tab.get el,te1.size,Nat.blt d n)=(some (.slice p ln c),some (.int kd iv),some te,TK.slice el,some te1,m,true)) (hk:RunD Tryz.prog n Q k all w l ((d,.pointer (some ⟨b,q,none⟩))::e)):RunD Tryz.prog n Q k all w (⟨some d,.indexAddr t x i,ty,ps,af,none⟩::l) e:=by
 simp only [Prod.mk.injEq] at hh
 exact d_v (fun _ _=>qsL qb hp hq hlt hh.1 hh.2.1 hh.2.2.1 hh.2.2.2.1 hh.2.2.2.2.1 hh.2.2.2.2.2.1) hh.2.2.2.2.2.2 hk
theorem zdxe {x i:Operand} {t ty d el m:Nat} {te te1:TE} {ps:String} {af:Array Edge} {p:Option Addr} {ln c:Nat} {kd:IntKind} {iv:Int} {b o q:Nat} {α:Prop} (hp:p=some ⟨b,o,none⟩) (hq:q=o+iv.toNat*m) (hlt:0≤iv∧iv<ln∧α) (hh:(opv e x,opv e i,tab.get t,te.kind,tab.get el,te1.size,Nat.blt d n)=(some (.slice p ln c),some (.int kd iv),some te,TK.slice el,some te1,m,true)) (hk:RunD Tryz.prog n Q k all w l ((d,.pointer (some ⟨b,q,none⟩))::e)):RunD Tryz.prog n Q k all w (⟨some d,.indexAddr t x i,ty,ps,af,none⟩::l) e:=zdx hp hq ⟨hlt.1,hlt.2.1⟩ hh hk
theorem zs (i:Nat) {t ty:Nat} {ps:String} {af:Array Edge} {x v:Operand} {te:TE} {b j:Nat} {cs us cs':List Value} {t':TypeId} {u:Value} {L':List Ch} (h:SH w0 w L)
  (hh:(L[i]?,opv e x,opv e v,cellsL u,tab.get t,Nat.beq us.length te.size,Nat.ble (j+us.length) cs.length,ones us,splN cs j us,setN L i (Ch.box b cs' t'))=(some (Ch.box b cs t'),some (.pointer (some ⟨b,j,none⟩)),some u,us,some te,true,true,true,some cs',some L'))
  (hk:∀ w',SH w0 w' L'→Run Tryz.prog n Q (.ops all l::k) e w'):Run Tryz.prog n Q (.ops all (⟨none,.store t x v,ty,ps,af,none⟩::l)::k) e w:=by
 simp only [Prod.mk.injEq] at hh
 obtain ⟨h1,h2,h3,h4,h5,h6,h7,h8,h9,h10⟩:=hh
 subst h4
 have e1:=qnJ h9
 have e2:=qpI h10
 subst e1 e2
 exact qsc qb i h h1 h2 h3 h5 h6 h7 h8 hk
end
section
variable {P:Program} {fnc:Func} {R:Ending→World→Prop} {n:Nat} {k:List It} {e:Env} {w0 w:World} {ops:Array Oper} {st:List Nat} {fuel:Nat}
theorem M0 (K:Nat) (is:List Nat) {C:World→Prop} {m K0 f f':Nat} {e':Env} {z:List Nat} (hC:C w) (hh:xa tab n ops is [] f e [] []=some (f',e',z,z))
  (hk:RunA Tryz.prog n (bodyPost Tryz.prog fnc R) k ops st C f' (bits m K) e' w) (ho:oka ops st is (bits m K0) (bits m K)=true:=by kernel_rfl):RunA Tryz.prog n (bodyPost Tryz.prog fnc R) k ops st C f (bits m K0) e w:=by
 exact ((qou (C:=C) (w:=w) (P:=Tryz.prog) qb hC is _ _ _ _ _ _ _ _ _ _ _ (fun _ h=>by cases h) rfl hh ho).2 rfl).2 hk
theorem G0 (K:Nat) (is:List Nat) {C:World→Prop} {m K0 f f':Nat} {e':Env} {z:List Nat} {all:Array Oper} (hC:C w) (hh:xa tab n ops is [] f e [] []=some (f',e',z,z))
  (hk:RunA Tryz.prog n (bodyPost Tryz.prog fnc R) k ops st C f' (bits m K) e' w) (ho:oka ops st is (bits m K0) (bits m K)=true:=by kernel_rfl):Run Tryz.prog n (bodyPost Tryz.prog fnc R) (.ops all []::.goal (NextA Tryz.prog n (bodyPost Tryz.prog fnc R) k ops st C f (bits m K0))::k) e w :=
 Ag hC (M0 K is (C:=C) hC hh hk ho)
theorem M1 (K:Nat) (is:List Nat) (i0:Nat) {b0 t0:Nat} {cs0:List Value} {LA:List Ch} {m K0 f f':Nat} {e':Env} {z:List Nat} (hC:SH w0 w LA) (hh:(LA[i0]?,xa tab n ops is [(b0,cs0)] f e [] [])=(some (Ch.box b0 cs0 t0),some (f',e',z,z)))
  (hk:RunA Tryz.prog n (bodyPost Tryz.prog fnc R) k ops st (fun w'=>SH w0 w' LA) f' (bits m K) e' w) (ho:oka ops st is (bits m K0) (bits m K)=true:=by kernel_rfl):RunA Tryz.prog n (bodyPost Tryz.prog fnc R) k ops st (fun w'=>SH w0 w' LA) f (bits m K0) e w:=by
 simp only [Prod.mk.injEq] at hh
 exact ((qou (C:=(fun w'=>SH w0 w' LA)) (w:=w) (P:=Tryz.prog) qb hC is _ _ _ _ _ _ _ _ _ _ _ (fun p hp w1 hw=>by
  simp only [List.mem_cons,jN,or_false] at hp
  rcases hp with rfl
  ·exact SH.box hw i0 hh.1) rfl hh.2 ho).2 rfl).2 hk
theorem M2 (K:Nat) (is:List Nat) (i0 i1:Nat) {b0 t0:Nat} {cs0:List Value} {b1 t1:Nat} {cs1:List Value} {LA:List Ch} {m K0 f f':Nat} {e':Env} {z:List Nat} (hC:SH w0 w LA) (hh:(LA[i0]?,LA[i1]?,xa tab n ops is [(b0,cs0),(b1,cs1)] f e [] [])=(some (Ch.box b0 cs0 t0),some (Ch.box b1 cs1 t1),some (f',e',z,z)))
  (hk:RunA Tryz.prog n (bodyPost Tryz.prog fnc R) k ops st (fun w'=>SH w0 w' LA) f' (bits m K) e' w) (ho:oka ops st is (bits m K0) (bits m K)=true:=by kernel_rfl):RunA Tryz.prog n (bodyPost Tryz.prog fnc R) k ops st (fun w'=>SH w0 w' LA) f (bits m K0) e w:=by
 simp only [Prod.mk.injEq] at hh
 exact ((qou (C:=(fun w'=>SH w0 w' LA)) (w:=w) (P:=Tryz.prog) qb hC is _ _ _ _ _ _ _ _ _ _ _ (fun p hp w1 hw=>by
  simp only [List.mem_cons,jN,or_false] at hp
  rcases hp with rfl|rfl
  ·exact SH.box hw i0 hh.1
  ·exact SH.box hw i1 hh.2.1) rfl hh.2.2 ho).2 rfl).2 hk
theorem M3 (K:Nat) (is:List Nat) (i0 i1 i2:Nat) {b0 t0:Nat} {cs0:List Value} {b1 t1:Nat} {cs1:List Value} {b2 t2:Nat} {cs2:List Value} {LA:List Ch} {m K0 f f':Nat} {e':Env} {z:List Nat} (hC:SH w0 w LA) (hh:(LA[i0]?,LA[i1]?,LA[i2]?,xa tab n ops is [(b0,cs0),(b1,cs1),(b2,cs2)] f e [] [])=(some (Ch.box b0 cs0 t0),some (Ch.box b1 cs1 t1),some (Ch.box b2 cs2 t2),some (f',e',z,z)))
  (hk:RunA Tryz.prog n (bodyPost Tryz.prog fnc R) k ops st (fun w'=>SH w0 w' LA) f' (bits m K) e' w) (ho:oka ops st is (bits m K0) (bits m K)=true:=by kernel_rfl):RunA Tryz.prog n (bodyPost Tryz.prog fnc R) k ops st (fun w'=>SH w0 w' LA) f (bits m K0) e w:=by
 simp only [Prod.mk.injEq] at hh
 exact ((qou (C:=(fun w'=>SH w0 w' LA)) (w:=w) (P:=Tryz.prog) qb hC is _ _ _ _ _ _ _ _ _ _ _ (fun p hp w1 hw=>by
  simp only [List.mem_cons,jN,or_false] at hp
  rcases hp with rfl|rfl|rfl
  ·exact SH.box hw i0 hh.1
  ·exact SH.box hw i1 hh.2.1
  ·exact SH.box hw i2 hh.2.2.1) rfl hh.2.2.2 ho).2 rfl).2 hk
theorem M4 (K:Nat) (is:List Nat) (i0 i1 i2 i3:Nat) {b0 t0:Nat} {cs0:List Value} {b1 t1:Nat} {cs1:List Value} {b2 t2:Nat} {cs2:List Value} {b3 t3:Nat} {cs3:List Value} {LA:List Ch} {m K0 f f':Nat} {e':Env} {z:List Nat} (hC:SH w0 w LA) (hh:(LA[i0]?,LA[i1]?,LA[i2]?,LA[i3]?,xa tab n ops is [(b0,cs0),(b1,cs1),(b2,cs2),(b3,cs3)] f e [] [])=(some (Ch.box b0 cs0 t0),some (Ch.box b1 cs1 t1),some (Ch.box b2 cs2 t2),some (Ch.box b3 cs3 t3),some (f',e',z,z)))
  (hk:RunA Tryz.prog n (bodyPost Tryz.prog fnc R) k ops st (fun w'=>SH w0 w' LA) f' (bits m K) e' w) (ho:oka ops st is (bits m K0) (bits m K)=true:=by kernel_rfl):RunA Tryz.prog n (bodyPost Tryz.prog fnc R) k ops st (fun w'=>SH w0 w' LA) f (bits m K0) e w:=by
 simp only [Prod.mk.injEq] at hh
 exact ((qou (C:=(fun w'=>SH w0 w' LA)) (w:=w) (P:=Tryz.prog) qb hC is _ _ _ _ _ _ _ _ _ _ _ (fun p hp w1 hw=>by
  simp only [List.mem_cons,jN,or_false] at hp
  rcases hp with rfl|rfl|rfl|rfl
  ·exact SH.box hw i0 hh.1
  ·exact SH.box hw i1 hh.2.1
  ·exact SH.box hw i2 hh.2.2.1
  ·exact SH.box hw i3 hh.2.2.2.1) rfl hh.2.2.2.2 ho).2 rfl).2 hk
theorem Aw (i K:Nat) {C:World→Prop} {m K0 d:Nat} {op:Op} {t:Nat} {ps:String} {af:Array Edge} {v:Value} (hv:∀ w',C w'→Val Tryz.prog n e ⟨some d,op,t,ps,af,none⟩ w' v) (hC:C w) (hh:(ops[i]?,Nat.blt d n)=(some (⟨some d,op,t,ps,af,none⟩:Oper),true))
  (hk:RunA Tryz.prog n (bodyPost Tryz.prog fnc R) k ops st C fuel (bits m K) ((d,v)::e) w) (hl:(bits m K0).setIfInBounds i true=bits m K:=by kernel_rfl)
  (hb:(Region.noSelect ops&&Region.free .any ops (bits m K0) i&&(Region.ready .any ops (bits m K0)).contains i&&st.all (fun s=>!(Nat.beq s i)&&waitsB ops i s&&!((bits m K0).getD s true)))=true:=by kernel_rfl) :
  RunA Tryz.prog n (bodyPost Tryz.prog fnc R) k ops st C (fuel+1) (bits m K0) e w:=by
 simp only [Prod.mk.injEq] at hh
 exact qlQ i hh.1 _ hl hb hv hC hh.2 hk
theorem Al (i K j:Nat) {LA:List Ch} {m K0 d t ty b o:Nat} {x:Operand} {te:TE} {ps:String} {af:Array Edge} {v:Value} {cs:List Value} (hc:CellsAt w0 b o cs) (hC:SH w0 w LA)
  (hh:(ops[i]?,opv e x,tab.get t,ld te cs j,Nat.blt d n)=(some (⟨some d,.load t x,ty,ps,af,none⟩:Oper),some (.pointer (some ⟨b,o+j,none⟩)),some te,some v,true))
  (hk:RunA Tryz.prog n (bodyPost Tryz.prog fnc R) k ops st (fun w'=>SH w0 w' LA) fuel (bits m K) ((d,v)::e) w) (hl:(bits m K0).setIfInBounds i true=bits m K:=by kernel_rfl)
  (hb:(Region.noSelect ops&&Region.free .any ops (bits m K0) i&&(Region.ready .any ops (bits m K0)).contains i&&st.all (fun s=>!(Nat.beq s i)&&waitsB ops i s&&!((bits m K0).getD s true)))=true:=by kernel_rfl) :
  RunA Tryz.prog n (bodyPost Tryz.prog fnc R) k ops st (fun w'=>SH w0 w' LA) (fuel+1) (bits m K0) e w:=by
 simp only [Prod.mk.injEq] at hh
 exact qlQ i hh.1 _ hl hb (fun w' hw=>qiV qb (hc.below hw.below) (j:=j) hh.2.1 hh.2.2.1 hh.2.2.2.1) hC hh.2.2.2.2 hk
theorem Ax (i K:Nat) {C:World→Prop} {m K0 d t ty el q:Nat} {x ix:Operand} {te te1:TE} {ps:String} {af:Array Edge} {p:Option Addr} {ln c sz:Nat} {kd:IntKind} {iv:Int} {b o:Nat} (hp:p=some ⟨b,o,none⟩) (hq:q=o+iv.toNat*sz) (hlt:0≤iv∧iv<ln) (hC:C w)
  (hh:(ops[i]?,opv e x,opv e ix,tab.get t,te.kind,tab.get el,te1.size,Nat.blt d n)=(some (⟨some d,.indexAddr t x ix,ty,ps,af,none⟩:Oper),some (.slice p ln c),some (.int kd iv),some te,TK.slice el,some te1,sz,true))
  (hk:RunA Tryz.prog n (bodyPost Tryz.prog fnc R) k ops st C fuel (bits m K) ((d,.pointer (some ⟨b,q,none⟩))::e) w) (hl:(bits m K0).setIfInBounds i true=bits m K:=by kernel_rfl)
  (hb:(Region.noSelect ops&&Region.free .any ops (bits m K0) i&&(Region.ready .any ops (bits m K0)).contains i&&st.all (fun s=>!(Nat.beq s i)&&waitsB ops i s&&!((bits m K0).getD s true)))=true:=by kernel_rfl) :
  RunA Tryz.prog n (bodyPost Tryz.prog fnc R) k ops st C (fuel+1) (bits m K0) e w:=by
 simp only [Prod.mk.injEq] at hh
 exact qlQ i hh.1 _ hl hb (fun w' _=>qsL qb hp hq hlt hh.2.1 hh.2.2.1 hh.2.2.2.1 hh.2.2.2.2.1 hh.2.2.2.2.2.1 hh.2.2.2.2.2.2.1) hC hh.2.2.2.2.2.2.2 hk
theorem Ae (i K:Nat) {C:World→Prop} {m K0 d t ty el q:Nat} {x ix:Operand} {te te1:TE} {ps:String} {af:Array Edge} {p:Option Addr} {ln c sz:Nat} {kd:IntKind} {iv:Int} {b o:Nat} {α:Prop} (hp:p=some ⟨b,o,none⟩) (hq:q=o+iv.toNat*sz) (hlt:0≤iv∧iv<ln∧α) (hC:C w)
  (hh:(ops[i]?,opv e x,opv e ix,tab.get t,te.kind,tab.get el,te1.size,Nat.blt d n)=(some (⟨some d,.indexAddr t x ix,ty,ps,af,none⟩:Oper),some (.slice p ln c),some (.int kd iv),some te,TK.slice el,some te1,sz,true))
  (hk:RunA Tryz.prog n (bodyPost Tryz.prog fnc R) k ops st C fuel (bits m K) ((d,.pointer (some ⟨b,q,none⟩))::e) w) (hl:(bits m K0).setIfInBounds i true=bits m K:=by kernel_rfl)
  (hb:(Region.noSelect ops&&Region.free .any ops (bits m K0) i&&(Region.ready .any ops (bits m K0)).contains i&&st.all (fun s=>!(Nat.beq s i)&&waitsB ops i s&&!((bits m K0).getD s true)))=true:=by kernel_rfl) :
  RunA Tryz.prog n (bodyPost Tryz.prog fnc R) k ops st C (fuel+1) (bits m K0) e w:=Ax i K hp hq ⟨hlt.1,hlt.2.1⟩ hC hh hk hl hb
theorem rb {fn:Func} {L:List Ch} {x r:Bool} (h:SH w0 w L) (hF:some x=some r) (hr:res1 e fn.results.toList=some (.bool x)) :
  Run Tryz.prog n (bodyPost Tryz.prog fn fun e w'=>∃ v,e=.returned v∧Below w0.heap.size w0 w'∧∃ us,v=tup us∧GoVs.Vs w' (fresh w0 w') r us) (.code .ret::k) e w:=qte qb h hF (qpD hr)
theorem ri {fn:Func} {L:List Ch} {x r:Int} (h:SH w0 w L) (hF:some x=some r) (hr:res1 e fn.results.toList=some (.int .i64 x)) :
  Run Tryz.prog n (bodyPost Tryz.prog fn fun e w'=>∃ v,e=.returned v∧Below w0.heap.size w0 w'∧∃ us,v=tup us∧GoVs.Vs w' (fresh w0 w') r us) (.code .ret::k) e w:=qtf qb h hF (qpD hr)
theorem rO {fn:Func} {L:List Ch} {α:Type} [GoT α] {r:α} {S:Nat→Prop} {cs:List Value} (i:Nat) (h:SH w0 w L) (hi:L[i]?=some (Ch.own S r cs)) (hr:ResOk tab e w fn.results.toList [GoT.v α cs]) :
  Run Tryz.prog n (bodyPost Tryz.prog fn fun e w'=>∃ v,e=.returned v∧Below w0.heap.size w0 w'∧∃ us,v=tup us∧GoVs.Vs w' (fresh w0 w') r us) (.code .ret::k) e w:=qW qb _ h hr (PV.done h (qaW (qaC i h hi)))
theorem zV {ρ:Type} [GoVs ρ] {f:FuncId} {fn:Func} {c:Code} {vs:List Value} {r:ρ} (m:Nat) (hf:Tryz.prog.funcs[f]?=some fn) (hh:(fn.body,fn.ntmps,Nat.ble vs.length m)=(some c,m,true))
  (h:SH w w []→Run Tryz.prog m (bodyPost Tryz.prog fn fun e w'=>∃ v,e=.returned v∧Below w.heap.size w w'∧∃ us,v=tup us∧GoVs.Vs w' (fresh w w') r us) [.code c] (argEnv 0 vs) w):RetV Tryz.prog f vs w r:=by
 simp only [Prod.mk.injEq] at hh
 exact qoy hf hh.1 hh.2.1 hh.2.2 h
end
section
variable {w0 w:World} {L:List Ch} {n:Nat} {Q:Exit→Act→World→Prop} {k:List It} {e:Env} {all:Array Oper} {l:List Oper} {d ty:Nat} {ps:String} {af:Array Edge} {x:Operand} {args:Array Operand} {ats:Array TypeId} {f:FuncId} {fi ca:Array Value} {av vs:List Value} {β:Type} {rr:β}
theorem zcI {F:Option Int} {g:Int→Option β} (h:SH w0 w L) (hF:F.bind g=some rr) (hc:∀ {r},F=some r→RetV Tryz.prog f vs w r)
  (hh:(opv e x,opvs e args.toList,fi.toList++av++ca.toList,Nat.blt d n)=(some (.func (.func f) fi ca),some av,vs,true))
  (hk:∀ r w' ,SH w0 w' (L)→g r=some rr→Run Tryz.prog n Q (.ops all l::k) ((d,.int .i64 r)::e) w') (hcall:qer Tryz.prog f:=by exact cA rfl):Run Tryz.prog n Q (.ops all (⟨some d,.call ⟨.value x,args,ats⟩,ty,ps,af,none⟩::l)::k) e w:=by
 obtain ⟨r,hr,hF⟩:=qe hF
 simp only [Prod.mk.injEq] at hh
 exact qnE r h hcall (hc hr) hh.1 hh.2.1 hh.2.2.1 hh.2.2.2 (fun w'  h'=>hk r w'  h' hF)
theorem zcB {F:Option Bool} {g:Bool→Option β} (h:SH w0 w L) (hF:F.bind g=some rr) (hc:∀ {r},F=some r→RetV Tryz.prog f vs w r)
  (hh:(opv e x,opvs e args.toList,fi.toList++av++ca.toList,Nat.blt d n)=(some (.func (.func f) fi ca),some av,vs,true))
  (hk:∀ r w' ,SH w0 w' (L)→g r=some rr→Run Tryz.prog n Q (.ops all l::k) ((d,.bool r)::e) w') (hcall:qer Tryz.prog f:=by exact cA rfl):Run Tryz.prog n Q (.ops all (⟨some d,.call ⟨.value x,args,ats⟩,ty,ps,af,none⟩::l)::k) e w:=by
 obtain ⟨r,hr,hF⟩:=qe hF
 simp only [Prod.mk.injEq] at hh
 exact qsd r h hcall (hc hr) hh.1 hh.2.1 hh.2.2.1 hh.2.2.2 (fun w'  h'=>hk r w'  h' hF)
theorem zcS {F:Option ByteArray} {g:ByteArray→Option β} (h:SH w0 w L) (hF:F.bind g=some rr) (hc:∀ {r},F=some r→RetV Tryz.prog f vs w r)
  (hh:(opv e x,opvs e args.toList,fi.toList++av++ca.toList,Nat.blt d n)=(some (.func (.func f) fi ca),some av,vs,true))
  (hk:∀ r w' ,SH w0 w' (L)→g r=some rr→Run Tryz.prog n Q (.ops all l::k) ((d,.string r)::e) w') (hcall:qer Tryz.prog f:=by exact cA rfl):Run Tryz.prog n Q (.ops all (⟨some d,.call ⟨.value x,args,ats⟩,ty,ps,af,none⟩::l)::k) e w:=by
 obtain ⟨r,hr,hF⟩:=qe hF
 simp only [Prod.mk.injEq] at hh
 exact qiQ r h hcall (hc hr) hh.1 hh.2.1 hh.2.2.1 hh.2.2.2 (fun w'  h'=>hk r w'  h' hF)
theorem zcL {α:Type} [GoT α] {F:Option (List α)} {g:(List α)→Option β} (h:SH w0 w L) (hF:F.bind g=some rr) (hc:∀ {r},F=some r→RetV Tryz.prog f vs w r)
  (hh:(opv e x,opvs e args.toList,fi.toList++av++ca.toList,Nat.blt d n)=(some (.func (.func f) fi ca),some av,vs,true))
  (hk:∀ r w' S p c,SH w0 w' (Ch.own S r [.slice p r.length c]::L)→g r=some rr→Run Tryz.prog n Q (.ops all l::k) ((d,.slice p r.length c)::e) w') (hcall:qer Tryz.prog f:=by exact cA rfl):Run Tryz.prog n Q (.ops all (⟨some d,.call ⟨.value x,args,ats⟩,ty,ps,af,none⟩::l)::k) e w:=by
 obtain ⟨r,hr,hF⟩:=qe hF
 simp only [Prod.mk.injEq] at hh
 exact qnT r h hcall (hc hr) hh.1 hh.2.1 hh.2.2.1 hh.2.2.2 (fun w' S p c h'=>hk r w' S p c h' hF)
theorem zcO {α:Type} [GoT α] {F:Option α} {g:α→Option β} (h:SH w0 w L) (hF:F.bind g=some rr) (hc:∀ {r},F=some r→RetV Tryz.prog f vs w r)
  (hh:(opv e x,opvs e args.toList,fi.toList++av++ca.toList,Nat.blt d n)=(some (.func (.func f) fi ca),some av,vs,true))
  (hk:∀ r w' S cs,SH w0 w' (Ch.own S r cs::L)→g r=some rr→Run Tryz.prog n Q (.ops all l::k) ((d,GoT.v α cs)::e) w') (hcall:qer Tryz.prog f:=by exact cA rfl):Run Tryz.prog n Q (.ops all (⟨some d,.call ⟨.value x,args,ats⟩,ty,ps,af,none⟩::l)::k) e w:=by
 obtain ⟨r,hr,hF⟩:=qe hF
 simp only [Prod.mk.injEq] at hh
 exact qsq r h hcall (hc hr) hh.1 hh.2.1 hh.2.2.1 hh.2.2.2 (fun w' S cs h'=>hk r w' S cs h' hF)
end
def noC:List Nat:=[0,1,170,207,235]
theorem allC:((List.range 278).all fun f=>noC.contains f || callB Tryz.prog f)=true:=by kernel_rfl
theorem cA {f:Nat} (h:(Nat.blt f 278&&!noC.contains f)=true):qer Tryz.prog f:=by
 rw [jg,Nat.blt_eq,jJ] at h
 have:=List.all_eq_true.1 allC f (List.mem_range.2 h.1)
 rw [h.2] at this
 exact qq1 this
theorem cB (f:Nat) (h:(Nat.blt f 278&&!noC.contains f)=true):qer Tryz.prog f:=cA h
def qbu (_:Nat) (a:(List Int)) (left:Int):Option Int :=
 bif decide ((W64 (left-(a.length:Int)))<0) then some (-1) else
 some (W64 (left-(a.length:Int)))
theorem qbl {a:(List Int)} {left:Int} (ha1:GoT.R w (old w) a cs1) {r:Int} (hF:qbu n a left=some r):RetV Tryz.prog 29 [GoT.v (List Int) cs1,.int .i64 left] w r:=by
 obtain ⟨p1,k1,rfl,s1⟩:=ha1
 refine zV 12 Tryz.func29 rfl fun h=>X0 18 rfl (qg rfl hF ?_ ?_)<;>intro hF
 ·exact X0 4 rfl (ri h hF rfl)
 exact X0 6 rfl (ri h hF rfl)
def qhV (_:Nat) (a:qM) (left:Int):Option Int :=
 bif decide ((W64 (left-(a.Aq.size:Int)))<0) then some (-1) else
 some (W64 (left-(a.Aq.size:Int)))
theorem qmP {a:qM} {left:Int} (ha1:GoT.R w (old w) a cs1) {r:Int} (hF:qhV n a left=some r):RetV Tryz.prog 173 [GoT.v qM cs1,.int .i64 left] w r:=by
 obtain rfl:=qao ha1
 refine zV 13 Tryz.func173 rfl fun h=>zSR (qr h rfl rfl fun w1 bb1 h=>X1 17 0 h rfl (qg rfl hF ?_ ?_))<;>intro hF
 ·exact X0 4 rfl (ri h hF rfl)
 exact X0 6 rfl (ri h hF rfl)
def qeg (a:(List qM)):Nat→Int→Int→Option (Flow Int (Int × Int))
 | 0,_,_=>none
 | n+1,i1,i2 =>
  bif decide (i2<(a.length:Int)) then
   (idx a i2).bind fun y1 =>
   (qhV n y1 i1).bind fun r1 =>
   bif decide (r1<0) then some (.ret (-1)) else
   qeg a n r1 (W64 (i2+1))
  else
   some (.nxt (i1,i2))
def qjv (n:Nat) (a:(List qM)) (left:Int):Option Int :=
 bif decide ((W64 (left-(a.length:Int)))<0) then some (-1) else
 (qeg a n (W64 (left-(a.length:Int))) 0).bind fun o=>match o with
 | .ret r=>some r
 | .nxt (i1,_) =>
  some i1
theorem qmo {a:(List qM)} {left:Int} (ha1:GoT.R w (old w) a cs1) {r:Int} (hF:qjv n a left=some r):RetV Tryz.prog 145 [GoT.v (List qM) cs1,.int .i64 left] w r:=by
 obtain ⟨p1,k1,rfl,s1⟩:=ha1
 refine zV 27 Tryz.func145 rfl fun h=>X0 18 rfl (qg rfl hF ?_ ?_)<;>intro hF
 ·exact X0 4 rfl (ri h hF rfl)
 refine X0 6 rfl ?_
 obtain ⟨o1,hF,hK1⟩:=qe hF
 refine ql (rL (fun m e w'=>∃ (i1:Int) (i2:Int),qeg a m i1 i2=some o1∧e=[(0,.slice p1 a.length k1),(1,.int .i64 i1),(5,.int .i64 i2)]∧SH w w' []) n ⟨_,_,hF,rfl,h⟩ rfl ?_)
 rintro m1 e1 w1 ⟨i1,i2,hF,rfl,h⟩
 rcases m1 with _|m1
 ·cases hF
 refine X0 8 rfl (qg rfl hF ?_ ?_)<;>intro hF
 ·refine X0 7 rfl ?_
  obtain ⟨y1,hy1,hF,he1,b1,_,q1,cs2,hp1,hq1,hr1,hc3⟩:=s1.ix hF
  obtain rfl:=qao hr1
  refine zxe hp1 hq1 he1 rfl (zc 0 (hc3.below h.below) rfl (zp1 rfl (zcI h hF (qmP (qcP y1)) rfl fun r1 w2 h hF=>X0 7 rfl (qg rfl hF ?_ ?_))))<;>intro hF
  ·refine X0 4 rfl ?_
   obtain rfl:=qa hF;replace hF:=hK1
   exact ri h hF rfl
  exact X0 7 rfl (rK ⟨_,_,hF,rfl,h⟩ rfl)
 refine qq rfl ?_
 obtain rfl:=qa hF;replace hF:=hK1
 exact X0 5 rfl (ri h hF rfl)
def qf7 (n:Nat) (a:qp) (left:Int):Option Int :=
 (qbu n a.Bb left).bind fun r1 =>
 bif decide (r1<0) then some (-1) else
 (qbu n a.Ba r1).bind fun r2 =>
 bif decide (r2<0) then some (-1) else
 (qbu n a.Au r2).bind fun r3 =>
 bif decide (r3<0) then some (-1) else
 some r3
theorem qlu {a:qp} {left:Int} (ha1:GoT.R w (old w) a cs1) {r:Int} (hF:qf7 n a left=some r):RetV Tryz.prog 237 [GoT.v qp cs1,.int .i64 left] w r:=by
 obtain ⟨p1,k1,p2,k2,p3,k3,rfl,s1,s2,s3⟩:=qaP ha1
 refine zV 24 Tryz.func237 rfl fun h=>zSR (qr h rfl rfl fun w1 bb1 h=>X1 7 0 h rfl (zcI h hF (qbl ⟨_,_,rfl,(h.oldS s1)⟩) rfl fun r1 w2 h hF=>X0 8 rfl (qg rfl hF ?_ ?_)))<;>intro hF
 ·exact X0 4 rfl (ri h hF rfl)
 refine X1 6 0 h rfl (zcI h hF (qbl ⟨_,_,rfl,(h.oldS s2)⟩) rfl fun r2 w3 h hF=>X0 8 rfl (qg rfl hF ?_ ?_))<;>intro hF
 ·exact X0 4 rfl (ri h hF rfl)
 refine X1 6 0 h rfl (zcI h hF (qbl ⟨_,_,rfl,(h.oldS s3)⟩) rfl fun r3 w4 h hF=>X0 8 rfl (qg rfl hF ?_ ?_))<;>intro hF
 ·exact X0 4 rfl (ri h hF rfl)
 exact X0 6 rfl (ri h hF rfl)
def qc2 (a:(List qp)):Nat→Int→Int→Option (Flow Int (Int × Int))
 | 0,_,_=>none
 | n+1,i1,i2 =>
  bif decide (i2<(a.length:Int)) then
   (idx a i2).bind fun y1 =>
   (qf7 n y1 i1).bind fun r1 =>
   bif decide (r1<0) then some (.ret (-1)) else
   qc2 a n r1 (W64 (i2+1))
  else
   some (.nxt (i1,i2))
def qgM (n:Nat) (a:(List qp)) (left:Int):Option Int :=
 bif decide ((W64 (left-(a.length:Int)))<0) then some (-1) else
 (qc2 a n (W64 (left-(a.length:Int))) 0).bind fun o=>match o with
 | .ret r=>some r
 | .nxt (i1,_) =>
  some i1
theorem qio {a:(List qp)} {left:Int} (ha1:GoT.R w (old w) a cs1) {r:Int} (hF:qgM n a left=some r):RetV Tryz.prog 210 [GoT.v (List qp) cs1,.int .i64 left] w r:=by
 obtain ⟨p1,k1,rfl,s1⟩:=ha1
 refine zV 27 Tryz.func210 rfl fun h=>X0 18 rfl (qg rfl hF ?_ ?_)<;>intro hF
 ·exact X0 4 rfl (ri h hF rfl)
 refine X0 6 rfl ?_
 obtain ⟨o1,hF,hK1⟩:=qe hF
 refine ql (rL (fun m e w'=>∃ (i1:Int) (i2:Int),qc2 a m i1 i2=some o1∧e=[(0,.slice p1 a.length k1),(1,.int .i64 i1),(5,.int .i64 i2)]∧SH w w' []) n ⟨_,_,hF,rfl,h⟩ rfl ?_)
 rintro m1 e1 w1 ⟨i1,i2,hF,rfl,h⟩
 rcases m1 with _|m1
 ·cases hF
 refine X0 8 rfl (qg rfl hF ?_ ?_)<;>intro hF
 ·refine X0 7 rfl ?_
  obtain ⟨y1,hy1,hF,he1,b1,_,q1,cs2,hp1,hq1,hr1,hc3⟩:=s1.ix hF
  obtain ⟨p2,k2,p3,k3,p4,k4,rfl,s2,s3,s4⟩:=qaP hr1
  refine zxe hp1 hq1 he1 rfl (zc 0 (hc3.below h.below) rfl (zp1 rfl (zcI h hF (qlu (qgy y1 (h.oldS s2) (h.oldS s3) (h.oldS s4))) rfl fun r1 w2 h hF=>X0 7 rfl (qg rfl hF ?_ ?_))))<;>intro hF
  ·refine X0 4 rfl ?_
   obtain rfl:=qa hF;replace hF:=hK1
   exact ri h hF rfl
  exact X0 7 rfl (rK ⟨_,_,hF,rfl,h⟩ rfl)
 refine qq rfl ?_
 obtain rfl:=qa hF;replace hF:=hK1
 exact X0 5 rfl (ri h hF rfl)
def qhS (n:Nat) (a:qF) (left:Int):Option Int :=
 (qgM n a.Az left).bind fun r1 =>
 bif decide (r1<0) then some (-1) else
 (qgM n a.Bi r1).bind fun r2 =>
 bif decide (r2<0) then some (-1) else
 some r2
theorem qmC {a:qF} {left:Int} (ha1:GoT.R w (old w) a cs1) {r:Int} (hF:qhS n a left=some r):RetV Tryz.prog 174 [GoT.v qF cs1,.int .i64 left] w r:=by
 obtain ⟨p1,k1,p2,k2,rfl,s1,s2⟩:=qak ha1
 refine zV 18 Tryz.func174 rfl fun h=>zSR (qr h rfl rfl fun w1 bb1 h=>X1 7 0 h rfl (zcI h hF (qio ⟨_,_,rfl,(h.oldS s1)⟩) rfl fun r1 w2 h hF=>X0 8 rfl (qg rfl hF ?_ ?_)))<;>intro hF
 ·exact X0 4 rfl (ri h hF rfl)
 refine X1 6 0 h rfl (zcI h hF (qio ⟨_,_,rfl,(h.oldS s2)⟩) rfl fun r2 w3 h hF=>X0 8 rfl (qg rfl hF ?_ ?_))<;>intro hF
 ·exact X0 4 rfl (ri h hF rfl)
 exact X0 6 rfl (ri h hF rfl)
def qd1 (a:(List qF)):Nat→Int→Int→Option (Flow Int (Int × Int))
 | 0,_,_=>none
 | n+1,i1,i2 =>
  bif decide (i2<(a.length:Int)) then
   (idx a i2).bind fun y1 =>
   (qhS n y1 i1).bind fun r1 =>
   bif decide (r1<0) then some (.ret (-1)) else
   qd1 a n r1 (W64 (i2+1))
  else
   some (.nxt (i1,i2))
def qjf (n:Nat) (a:(List qF)) (left:Int):Option Int :=
 bif decide ((W64 (left-(a.length:Int)))<0) then some (-1) else
 (qd1 a n (W64 (left-(a.length:Int))) 0).bind fun o=>match o with
 | .ret r=>some r
 | .nxt (i1,_) =>
  some i1
theorem qlW {a:(List qF)} {left:Int} (ha1:GoT.R w (old w) a cs1) {r:Int} (hF:qjf n a left=some r):RetV Tryz.prog 146 [GoT.v (List qF) cs1,.int .i64 left] w r:=by
 obtain ⟨p1,k1,rfl,s1⟩:=ha1
 refine zV 27 Tryz.func146 rfl fun h=>X0 18 rfl (qg rfl hF ?_ ?_)<;>intro hF
 ·exact X0 4 rfl (ri h hF rfl)
 refine X0 6 rfl ?_
 obtain ⟨o1,hF,hK1⟩:=qe hF
 refine ql (rL (fun m e w'=>∃ (i1:Int) (i2:Int),qd1 a m i1 i2=some o1∧e=[(0,.slice p1 a.length k1),(1,.int .i64 i1),(5,.int .i64 i2)]∧SH w w' []) n ⟨_,_,hF,rfl,h⟩ rfl ?_)
 rintro m1 e1 w1 ⟨i1,i2,hF,rfl,h⟩
 rcases m1 with _|m1
 ·cases hF
 refine X0 8 rfl (qg rfl hF ?_ ?_)<;>intro hF
 ·refine X0 7 rfl ?_
  obtain ⟨y1,hy1,hF,he1,b1,_,q1,cs2,hp1,hq1,hr1,hc3⟩:=s1.ix hF
  obtain ⟨p2,k2,p3,k3,rfl,s2,s3⟩:=qak hr1
  refine zxe hp1 hq1 he1 rfl (zc 0 (hc3.below h.below) rfl (zp1 rfl (zcI h hF (qmC (qfF y1 (h.oldS s2) (h.oldS s3))) rfl fun r1 w2 h hF=>X0 7 rfl (qg rfl hF ?_ ?_))))<;>intro hF
  ·refine X0 4 rfl ?_
   obtain rfl:=qa hF;replace hF:=hK1
   exact ri h hF rfl
  exact X0 7 rfl (rK ⟨_,_,hF,rfl,h⟩ rfl)
 refine qq rfl ?_
 obtain rfl:=qa hF;replace hF:=hK1
 exact X0 5 rfl (ri h hF rfl)
def qgY (n:Nat) (a:qn) (left:Int):Option Int :=
 bif decide ((W64 (left-(a.Aq.size:Int)))<0) then some (-1) else
 (qjv n a.Am (W64 (left-(a.Aq.size:Int)))).bind fun r1 =>
 bif decide (r1<0) then some (-1) else
 (qjf n a.Ar r1).bind fun r2 =>
 bif decide (r2<0) then some (-1) else
 (qbu n a.Ay r2).bind fun r3 =>
 bif decide (r3<0) then some (-1) else
 some r3
theorem qmc {a:qn} {left:Int} (ha1:GoT.R w (old w) a cs1) {r:Int} (hF:qgY n a left=some r):RetV Tryz.prog 102 [GoT.v qn cs1,.int .i64 left] w r:=by
 obtain ⟨p1,k1,p2,k2,p3,k3,rfl,s1,s2,s3⟩:=qL ha1
 refine zV 31 Tryz.func102 rfl fun h=>zSR (qr h rfl rfl fun w1 bb1 h=>X1 17 0 h rfl (qg rfl hF ?_ ?_))<;>intro hF
 ·exact X0 4 rfl (ri h hF rfl)
 refine X1 6 0 h rfl (zcI h hF (qmo ⟨_,_,rfl,(h.oldS s1)⟩) rfl fun r1 w2 h hF=>X0 8 rfl (qg rfl hF ?_ ?_))<;>intro hF
 ·exact X0 4 rfl (ri h hF rfl)
 refine X1 6 0 h rfl (zcI h hF (qlW ⟨_,_,rfl,(h.oldS s2)⟩) rfl fun r2 w3 h hF=>X0 8 rfl (qg rfl hF ?_ ?_))<;>intro hF
 ·exact X0 4 rfl (ri h hF rfl)
 refine X1 6 0 h rfl (zcI h hF (qbl ⟨_,_,rfl,(h.oldS s3)⟩) rfl fun r3 w4 h hF=>X0 8 rfl (qg rfl hF ?_ ?_))<;>intro hF
 ·exact X0 4 rfl (ri h hF rfl)
 exact X0 6 rfl (ri h hF rfl)
def qdz (a:(List qn)):Nat→Int→Int→Option (Flow Int (Int × Int))
 | 0,_,_=>none
 | n+1,i1,i2 =>
  bif decide (i2<(a.length:Int)) then
   (idx a i2).bind fun y1 =>
   (qgY n y1 i1).bind fun r1 =>
   bif decide (r1<0) then some (.ret (-1)) else
   qdz a n r1 (W64 (i2+1))
  else
   some (.nxt (i1,i2))
def qiP (n:Nat) (a:(List qn)) (left:Int):Option Int :=
 bif decide ((W64 (left-(a.length:Int)))<0) then some (-1) else
 (qdz a n (W64 (left-(a.length:Int))) 0).bind fun o=>match o with
 | .ret r=>some r
 | .nxt (i1,_) =>
  some i1
theorem qlt {a:(List qn)} {left:Int} (ha1:GoT.R w (old w) a cs1) {r:Int} (hF:qiP n a left=some r):RetV Tryz.prog 58 [GoT.v (List qn) cs1,.int .i64 left] w r:=by
 obtain ⟨p1,k1,rfl,s1⟩:=ha1
 refine zV 27 Tryz.func58 rfl fun h=>X0 18 rfl (qg rfl hF ?_ ?_)<;>intro hF
 ·exact X0 4 rfl (ri h hF rfl)
 refine X0 6 rfl ?_
 obtain ⟨o1,hF,hK1⟩:=qe hF
 refine ql (rL (fun m e w'=>∃ (i1:Int) (i2:Int),qdz a m i1 i2=some o1∧e=[(0,.slice p1 a.length k1),(1,.int .i64 i1),(5,.int .i64 i2)]∧SH w w' []) n ⟨_,_,hF,rfl,h⟩ rfl ?_)
 rintro m1 e1 w1 ⟨i1,i2,hF,rfl,h⟩
 rcases m1 with _|m1
 ·cases hF
 refine X0 8 rfl (qg rfl hF ?_ ?_)<;>intro hF
 ·refine X0 7 rfl ?_
  obtain ⟨y1,hy1,hF,he1,b1,_,q1,cs2,hp1,hq1,hr1,hc3⟩:=s1.ix hF
  obtain ⟨p2,k2,p3,k3,p4,k4,rfl,s2,s3,s4⟩:=qL hr1
  refine zxe hp1 hq1 he1 rfl (zc 0 (hc3.below h.below) rfl (zp1 rfl (zcI h hF (qmc (qhE y1 (h.oldS s2) (h.oldS s3) (h.oldS s4))) rfl fun r1 w2 h hF=>X0 7 rfl (qg rfl hF ?_ ?_))))<;>intro hF
  ·refine X0 4 rfl ?_
   obtain rfl:=qa hF;replace hF:=hK1
   exact ri h hF rfl
  exact X0 7 rfl (rK ⟨_,_,hF,rfl,h⟩ rfl)
 refine qq rfl ?_
 obtain rfl:=qa hF;replace hF:=hK1
 exact X0 5 rfl (ri h hF rfl)
def qgo (n:Nat) (a:qh) (left:Int):Option Int :=
 (qiP n a.Ai left).bind fun r1 =>
 bif decide (r1<0) then some (-1) else
 some r1
theorem qko {a:qh} {left:Int} (ha1:GoT.R w (old w) a cs1) {r:Int} (hF:qgo n a left=some r):RetV Tryz.prog 26 [GoT.v qh cs1,.int .i64 left] w r:=by
 obtain ⟨p1,k1,rfl,s1⟩:=qU ha1
 refine zV 12 Tryz.func26 rfl fun h=>zSR (qr h rfl rfl fun w1 bb1 h=>X1 7 0 h rfl (zcI h hF (qlt ⟨_,_,rfl,(h.oldS s1)⟩) rfl fun r1 w2 h hF=>X0 8 rfl (qg rfl hF ?_ ?_)))<;>intro hF
 ·exact X0 4 rfl (ri h hF rfl)
 exact X0 6 rfl (ri h hF rfl)
def qeC (n:Nat) (a:qd) (left:Int):Option Int :=
 bif decide ((W64 (left-(a.Aq.size:Int)))<0) then some (-1) else
 (qbu n a.Af (W64 (left-(a.Aq.size:Int)))).bind fun r1 =>
 bif decide (r1<0) then some (-1) else
 some r1
theorem qjY {a:qd} {left:Int} (ha1:GoT.R w (old w) a cs1) {r:Int} (hF:qeC n a left=some r):RetV Tryz.prog 103 [GoT.v qd cs1,.int .i64 left] w r:=by
 obtain ⟨p1,k1,rfl,s1⟩:=qG ha1
 refine zV 19 Tryz.func103 rfl fun h=>zSR (qr h rfl rfl fun w1 bb1 h=>X1 17 0 h rfl (qg rfl hF ?_ ?_))<;>intro hF
 ·exact X0 4 rfl (ri h hF rfl)
 refine X1 6 0 h rfl (zcI h hF (qbl ⟨_,_,rfl,(h.oldS s1)⟩) rfl fun r1 w2 h hF=>X0 8 rfl (qg rfl hF ?_ ?_))<;>intro hF
 ·exact X0 4 rfl (ri h hF rfl)
 exact X0 6 rfl (ri h hF rfl)
def qb0 (a:(List qd)):Nat→Int→Int→Option (Flow Int (Int × Int))
 | 0,_,_=>none
 | n+1,i1,i2 =>
  bif decide (i2<(a.length:Int)) then
   (idx a i2).bind fun y1 =>
   (qeC n y1 i1).bind fun r1 =>
   bif decide (r1<0) then some (.ret (-1)) else
   qb0 a n r1 (W64 (i2+1))
  else
   some (.nxt (i1,i2))
def qgu (n:Nat) (a:(List qd)) (left:Int):Option Int :=
 bif decide ((W64 (left-(a.length:Int)))<0) then some (-1) else
 (qb0 a n (W64 (left-(a.length:Int))) 0).bind fun o=>match o with
 | .ret r=>some r
 | .nxt (i1,_) =>
  some i1
theorem qjL {a:(List qd)} {left:Int} (ha1:GoT.R w (old w) a cs1) {r:Int} (hF:qgu n a left=some r):RetV Tryz.prog 59 [GoT.v (List qd) cs1,.int .i64 left] w r:=by
 obtain ⟨p1,k1,rfl,s1⟩:=ha1
 refine zV 27 Tryz.func59 rfl fun h=>X0 18 rfl (qg rfl hF ?_ ?_)<;>intro hF
 ·exact X0 4 rfl (ri h hF rfl)
 refine X0 6 rfl ?_
 obtain ⟨o1,hF,hK1⟩:=qe hF
 refine ql (rL (fun m e w'=>∃ (i1:Int) (i2:Int),qb0 a m i1 i2=some o1∧e=[(0,.slice p1 a.length k1),(1,.int .i64 i1),(5,.int .i64 i2)]∧SH w w' []) n ⟨_,_,hF,rfl,h⟩ rfl ?_)
 rintro m1 e1 w1 ⟨i1,i2,hF,rfl,h⟩
 rcases m1 with _|m1
 ·cases hF
 refine X0 8 rfl (qg rfl hF ?_ ?_)<;>intro hF
 ·refine X0 7 rfl ?_
  obtain ⟨y1,hy1,hF,he1,b1,_,q1,cs2,hp1,hq1,hr1,hc3⟩:=s1.ix hF
  obtain ⟨p2,k2,rfl,s2⟩:=qG hr1
  refine zxe hp1 hq1 he1 rfl (zc 0 (hc3.below h.below) rfl (zp1 rfl (zcI h hF (qjY (qeP y1 (h.oldS s2))) rfl fun r1 w2 h hF=>X0 7 rfl (qg rfl hF ?_ ?_))))<;>intro hF
  ·refine X0 4 rfl ?_
   obtain rfl:=qa hF;replace hF:=hK1
   exact ri h hF rfl
  exact X0 7 rfl (rK ⟨_,_,hF,rfl,h⟩ rfl)
 refine qq rfl ?_
 obtain rfl:=qa hF;replace hF:=hK1
 exact X0 5 rfl (ri h hF rfl)
def qcz (a:(List ByteArray)):Nat→Int→Int→Option (Flow Int (Int × Int))
 | 0,_,_=>none
 | n+1,i1,i2 =>
  bif decide (i2<(a.length:Int)) then
   (idx a i2).bind fun y1 =>
   bif decide ((W64 (i1-(y1.size:Int)))<0) then some (.ret (-1)) else
   qcz a n (W64 (i1-(y1.size:Int))) (W64 (i2+1))
  else
   some (.nxt (i1,i2))
def qhH (n:Nat) (a:(List ByteArray)) (left:Int):Option Int :=
 bif decide ((W64 (left-(a.length:Int)))<0) then some (-1) else
 (qcz a n (W64 (left-(a.length:Int))) 0).bind fun o=>match o with
 | .ret r=>some r
 | .nxt (i1,_) =>
  some i1
theorem qkr {a:(List ByteArray)} {left:Int} (ha1:GoT.R w (old w) a cs1) {r:Int} (hF:qhH n a left=some r):RetV Tryz.prog 60 [GoT.v (List ByteArray) cs1,.int .i64 left] w r:=by
 obtain ⟨p1,k1,rfl,s1⟩:=ha1
 refine zV 28 Tryz.func60 rfl fun h=>X0 18 rfl (qg rfl hF ?_ ?_)<;>intro hF
 ·exact X0 4 rfl (ri h hF rfl)
 refine X0 6 rfl ?_
 obtain ⟨o1,hF,hK1⟩:=qe hF
 refine ql (rL (fun m e w'=>∃ (i1:Int) (i2:Int),qcz a m i1 i2=some o1∧e=[(0,.slice p1 a.length k1),(1,.int .i64 i1),(5,.int .i64 i2)]∧SH w w' []) n ⟨_,_,hF,rfl,h⟩ rfl ?_)
 rintro m1 e1 w1 ⟨i1,i2,hF,rfl,h⟩
 rcases m1 with _|m1
 ·cases hF
 refine X0 8 rfl (qg rfl hF ?_ ?_)<;>intro hF
 ·refine X0 8 rfl ?_
  obtain ⟨y1,hy1,hF,he1,b1,_,q1,cs2,hp1,hq1,rfl,hc3⟩:=s1.ix hF
  refine zxe hp1 hq1 he1 rfl (zc 0 (hc3.below h.below) rfl (X0 9 rfl (qg rfl hF ?_ ?_)))<;>intro hF
  ·refine X0 4 rfl ?_
   obtain rfl:=qa hF;replace hF:=hK1
   exact ri h hF rfl
  exact X0 7 rfl (rK ⟨_,_,hF,rfl,h⟩ rfl)
 refine qq rfl ?_
 obtain rfl:=qa hF;replace hF:=hK1
 exact X0 5 rfl (ri h hF rfl)
def qg2 (_:Nat) (a:qy) (left:Int):Option Int :=
 bif decide ((W64 (left-(a.Aq.size:Int)))<0) then some (-1) else
 some (W64 (left-(a.Aq.size:Int)))
theorem qlU {a:qy} {left:Int} (ha1:GoT.R w (old w) a cs1) {r:Int} (hF:qg2 n a left=some r):RetV Tryz.prog 104 [GoT.v qy cs1,.int .i64 left] w r:=by
 obtain rfl:=qah ha1
 refine zV 13 Tryz.func104 rfl fun h=>zSR (qr h rfl rfl fun w1 bb1 h=>X1 17 0 h rfl (qg rfl hF ?_ ?_))<;>intro hF
 ·exact X0 4 rfl (ri h hF rfl)
 exact X0 6 rfl (ri h hF rfl)
def qdC (a:(List qy)):Nat→Int→Int→Option (Flow Int (Int × Int))
 | 0,_,_=>none
 | n+1,i1,i2 =>
  bif decide (i2<(a.length:Int)) then
   (idx a i2).bind fun y1 =>
   (qg2 n y1 i1).bind fun r1 =>
   bif decide (r1<0) then some (.ret (-1)) else
   qdC a n r1 (W64 (i2+1))
  else
   some (.nxt (i1,i2))
def qiZ (n:Nat) (a:(List qy)) (left:Int):Option Int :=
 bif decide ((W64 (left-(a.length:Int)))<0) then some (-1) else
 (qdC a n (W64 (left-(a.length:Int))) 0).bind fun o=>match o with
 | .ret r=>some r
 | .nxt (i1,_) =>
  some i1
theorem qlh {a:(List qy)} {left:Int} (ha1:GoT.R w (old w) a cs1) {r:Int} (hF:qiZ n a left=some r):RetV Tryz.prog 61 [GoT.v (List qy) cs1,.int .i64 left] w r:=by
 obtain ⟨p1,k1,rfl,s1⟩:=ha1
 refine zV 27 Tryz.func61 rfl fun h=>X0 18 rfl (qg rfl hF ?_ ?_)<;>intro hF
 ·exact X0 4 rfl (ri h hF rfl)
 refine X0 6 rfl ?_
 obtain ⟨o1,hF,hK1⟩:=qe hF
 refine ql (rL (fun m e w'=>∃ (i1:Int) (i2:Int),qdC a m i1 i2=some o1∧e=[(0,.slice p1 a.length k1),(1,.int .i64 i1),(5,.int .i64 i2)]∧SH w w' []) n ⟨_,_,hF,rfl,h⟩ rfl ?_)
 rintro m1 e1 w1 ⟨i1,i2,hF,rfl,h⟩
 rcases m1 with _|m1
 ·cases hF
 refine X0 8 rfl (qg rfl hF ?_ ?_)<;>intro hF
 ·refine X0 7 rfl ?_
  obtain ⟨y1,hy1,hF,he1,b1,_,q1,cs2,hp1,hq1,hr1,hc3⟩:=s1.ix hF
  obtain rfl:=qah hr1
  refine zxe hp1 hq1 he1 rfl (zc 0 (hc3.below h.below) rfl (zp1 rfl (zcI h hF (qlU (qc6 y1)) rfl fun r1 w2 h hF=>X0 7 rfl (qg rfl hF ?_ ?_))))<;>intro hF
  ·refine X0 4 rfl ?_
   obtain rfl:=qa hF;replace hF:=hK1
   exact ri h hF rfl
  exact X0 7 rfl (rK ⟨_,_,hF,rfl,h⟩ rfl)
 refine qq rfl ?_
 obtain rfl:=qa hF;replace hF:=hK1
 exact X0 5 rfl (ri h hF rfl)
def qgE (n:Nat) (a:qc) (left:Int):Option Int :=
 (qgu n a.Aa left).bind fun r1 =>
 bif decide (r1<0) then some (-1) else
 (qhH n a.Af r1).bind fun r2 =>
 bif decide (r2<0) then some (-1) else
 (qiZ n a.Ac r2).bind fun r3 =>
 bif decide (r3<0) then some (-1) else
 some r3
theorem qkH {a:qc} {left:Int} (ha1:GoT.R w (old w) a cs1) {r:Int} (hF:qgE n a left=some r):RetV Tryz.prog 27 [GoT.v qc cs1,.int .i64 left] w r:=by
 obtain ⟨p1,k1,p2,k2,p3,k3,rfl,s1,s2,s3⟩:=qK ha1
 refine zV 24 Tryz.func27 rfl fun h=>zSR (qr h rfl rfl fun w1 bb1 h=>X1 7 0 h rfl (zcI h hF (qjL ⟨_,_,rfl,(h.oldS s1)⟩) rfl fun r1 w2 h hF=>X0 8 rfl (qg rfl hF ?_ ?_)))<;>intro hF
 ·exact X0 4 rfl (ri h hF rfl)
 refine X1 6 0 h rfl (zcI h hF (qkr ⟨_,_,rfl,(h.oldS s2)⟩) rfl fun r2 w3 h hF=>X0 8 rfl (qg rfl hF ?_ ?_))<;>intro hF
 ·exact X0 4 rfl (ri h hF rfl)
 refine X1 6 0 h rfl (zcI h hF (qlh ⟨_,_,rfl,(h.oldS s3)⟩) rfl fun r3 w4 h hF=>X0 8 rfl (qg rfl hF ?_ ?_))<;>intro hF
 ·exact X0 4 rfl (ri h hF rfl)
 exact X0 6 rfl (ri h hF rfl)
def qgV (n:Nat) (a:qw) (left:Int):Option Int :=
 (qbu n a.Ak left).bind fun r1 =>
 bif decide (r1<0) then some (-1) else
 (qbu n a.Bm r1).bind fun r2 =>
 bif decide (r2<0) then some (-1) else
 (qbu n a.Bk r2).bind fun r3 =>
 bif decide (r3<0) then some (-1) else
 (qbu n a.Bc r3).bind fun r4 =>
 bif decide (r4<0) then some (-1) else
 some r4
theorem ql0 {a:qw} {left:Int} (ha1:GoT.R w (old w) a cs1) {r:Int} (hF:qgV n a left=some r):RetV Tryz.prog 62 [GoT.v qw cs1,.int .i64 left] w r:=by
 obtain ⟨p1,k1,p2,k2,p3,k3,p4,k4,rfl,s1,s2,s3,s4⟩:=qaU ha1
 refine zV 30 Tryz.func62 rfl fun h=>zSR (qr h rfl rfl fun w1 bb1 h=>X1 7 0 h rfl (zcI h hF (qbl ⟨_,_,rfl,(h.oldS s1)⟩) rfl fun r1 w2 h hF=>X0 8 rfl (qg rfl hF ?_ ?_)))<;>intro hF
 ·exact X0 4 rfl (ri h hF rfl)
 refine X1 6 0 h rfl (zcI h hF (qbl ⟨_,_,rfl,(h.oldS s2)⟩) rfl fun r2 w3 h hF=>X0 8 rfl (qg rfl hF ?_ ?_))<;>intro hF
 ·exact X0 4 rfl (ri h hF rfl)
 refine X1 6 0 h rfl (zcI h hF (qbl ⟨_,_,rfl,(h.oldS s3)⟩) rfl fun r3 w4 h hF=>X0 8 rfl (qg rfl hF ?_ ?_))<;>intro hF
 ·exact X0 4 rfl (ri h hF rfl)
 refine X1 6 0 h rfl (zcI h hF (qbl ⟨_,_,rfl,(h.oldS s4)⟩) rfl fun r4 w5 h hF=>X0 8 rfl (qg rfl hF ?_ ?_))<;>intro hF
 ·exact X0 4 rfl (ri h hF rfl)
 exact X0 6 rfl (ri h hF rfl)
def qdv (a:(List qw)):Nat→Int→Int→Option (Flow Int (Int × Int))
 | 0,_,_=>none
 | n+1,i1,i2 =>
  bif decide (i2<(a.length:Int)) then
   (idx a i2).bind fun y1 =>
   (qgV n y1 i1).bind fun r1 =>
   bif decide (r1<0) then some (.ret (-1)) else
   qdv a n r1 (W64 (i2+1))
  else
   some (.nxt (i1,i2))
def qiU (n:Nat) (a:(List qw)) (left:Int):Option Int :=
 bif decide ((W64 (left-(a.length:Int)))<0) then some (-1) else
 (qdv a n (W64 (left-(a.length:Int))) 0).bind fun o=>match o with
 | .ret r=>some r
 | .nxt (i1,_) =>
  some i1
theorem qly {a:(List qw)} {left:Int} (ha1:GoT.R w (old w) a cs1) {r:Int} (hF:qiU n a left=some r):RetV Tryz.prog 28 [GoT.v (List qw) cs1,.int .i64 left] w r:=by
 obtain ⟨p1,k1,rfl,s1⟩:=ha1
 refine zV 27 Tryz.func28 rfl fun h=>X0 18 rfl (qg rfl hF ?_ ?_)<;>intro hF
 ·exact X0 4 rfl (ri h hF rfl)
 refine X0 6 rfl ?_
 obtain ⟨o1,hF,hK1⟩:=qe hF
 refine ql (rL (fun m e w'=>∃ (i1:Int) (i2:Int),qdv a m i1 i2=some o1∧e=[(0,.slice p1 a.length k1),(1,.int .i64 i1),(5,.int .i64 i2)]∧SH w w' []) n ⟨_,_,hF,rfl,h⟩ rfl ?_)
 rintro m1 e1 w1 ⟨i1,i2,hF,rfl,h⟩
 rcases m1 with _|m1
 ·cases hF
 refine X0 8 rfl (qg rfl hF ?_ ?_)<;>intro hF
 ·refine X0 7 rfl ?_
  obtain ⟨y1,hy1,hF,he1,b1,_,q1,cs2,hp1,hq1,hr1,hc3⟩:=s1.ix hF
  obtain ⟨p2,k2,p3,k3,p4,k4,p5,k5,rfl,s2,s3,s4,s5⟩:=qaU hr1
  refine zxe hp1 hq1 he1 rfl (zc 0 (hc3.below h.below) rfl (zp1 rfl (zcI h hF (ql0 (qhD y1 (h.oldS s2) (h.oldS s3) (h.oldS s4) (h.oldS s5))) rfl fun r1 w2 h hF=>X0 7 rfl (qg rfl hF ?_ ?_))))<;>intro hF
  ·refine X0 4 rfl ?_
   obtain rfl:=qa hF;replace hF:=hK1
   exact ri h hF rfl
  exact X0 7 rfl (rK ⟨_,_,hF,rfl,h⟩ rfl)
 refine qq rfl ?_
 obtain rfl:=qa hF;replace hF:=hK1
 exact X0 5 rfl (ri h hF rfl)
def qhr (n:Nat) (a:qm) (left:Int):Option Int :=
 (qgo n (⟨a.Ah.Ai⟩:qh) left).bind fun r1 =>
 bif decide (r1<0) then some (-1) else
 (qgE n (⟨a.Ab.Aa,a.Ab.Af,a.Ab.Ac⟩:qc) r1).bind fun r2 =>
 bif decide (r2<0) then some (-1) else
 (qiU n a.Aj r2).bind fun r3 =>
 bif decide (r3<0) then some (-1) else
 some r3
theorem qlC {a:qm} {left:Int} (ha1:GoT.R w (old w) a cs1) {r:Int} (hF:qhr n a left=some r):RetV Tryz.prog 6 [GoT.v qm cs1,.int .i64 left] w r:=by
 obtain ⟨p1,k1,p2,k2,p3,k3,p4,k4,p5,k5,rfl,s1,s2,s3,s4,s5⟩:=qaa ha1
 refine zV 24 Tryz.func6 rfl fun h=>zSR (qr h rfl rfl fun w1 bb1 h=>X1 7 0 h rfl (zcI h hF (qko (qaV _ (h.oldS s1))) rfl fun r1 w2 h hF=>X0 8 rfl (qg rfl hF ?_ ?_)))<;>intro hF
 ·exact X0 4 rfl (ri h hF rfl)
 refine X1 6 0 h rfl (zcI h hF (qkH (qai _ (h.oldS s2) (h.oldS s3) (h.oldS s4))) rfl fun r2 w3 h hF=>X0 8 rfl (qg rfl hF ?_ ?_))<;>intro hF
 ·exact X0 4 rfl (ri h hF rfl)
 refine X1 6 0 h rfl (zcI h hF (qly ⟨_,_,rfl,(h.oldS s5)⟩) rfl fun r3 w4 h hF=>X0 8 rfl (qg rfl hF ?_ ?_))<;>intro hF
 ·exact X0 4 rfl (ri h hF rfl)
 exact X0 6 rfl (ri h hF rfl)
def qed (a:(List Int)):Nat→(List Int)→Int→Option ((List Int) × Int)
 | 0,_,_=>none
 | n+1,x2,i1 =>
  bif decide (i1<(a.length:Int)) then
   (idx a i1).bind fun y1 =>
   (idx x2 i1).bind fun _ =>
   qed a n (setS x2 i1 y1) (W64 (i1+1))
  else
   some (x2,i1)
def qbh (n:Nat) (a:(List Int)):Option (List Int) :=
 (mkS (a.length:Int) (0:Int)).bind fun x1 =>
 (qed a n x1 0).bind fun o=>match o with
 | (x2,_) =>
  some x2
theorem qbn {a:(List Int)} (ha1:GoT.R w (old w) a cs1) {r:(List Int)} (hF:qbh n a=some r):RetV Tryz.prog 35 [GoT.v (List Int) cs1] w r:=by
 obtain ⟨p1,k1,rfl,s1⟩:=ha1
 refine zV 22 Tryz.func35 rfl fun h=>X0 8 rfl ?_
 obtain ⟨x1,hx1,hF⟩:=qe hF
 obtain ⟨g1,g2,hx1⟩:=qcM hx1
 refine qdY qb Int h rfl rfl rfl rfl rfl rfl rfl rfl rfl g1 g2 hx1 rfl fun w1 S1 p2 h=>X0 7 rfl ?_
 obtain ⟨o1,hF,hK1⟩:=qe hF
 refine ql (rL (fun m e w'=>∃ (x2:(List Int)) (i1:Int),qed a m x2 i1=some o1∧e=[(0,.slice p1 a.length k1),(3,.slice p2 x1.length x1.length),(4,.int .i64 i1)]∧SH w w' [Ch.own S1 (x2:List Int) [.slice p2 x1.length x1.length]]) n ⟨_,_,hF,rfl,h⟩ rfl ?_)
 rintro m1 e1 w2 ⟨x2,i1,hF,rfl,h⟩
 rcases m1 with _|m1
 ·cases hF
 refine X0 8 rfl (qg rfl hF ?_ ?_)<;>intro hF
 ·refine X0 8 rfl ?_
  obtain ⟨y1,hy1,hF,he1,b1,_,q1,cs2,hp1,hq1,rfl,hc2⟩:=s1.ix hF
  refine zxe hp1 hq1 he1 rfl (zc 0 (hc2.below h.below) rfl ?_)
  obtain ⟨y2,hy2,hF,he2,b2,_,q2,cs3,hp2,hq2,rfl,hc3⟩:=(h.sl 0 rfl).1.ix hF
  exact zx hp2 hq2 ⟨he2.1,qI he2.2.1 (h.sl 0 rfl).2⟩ rfl (qbK qb 0 0 y1 h rfl hy2 hp2 hq2 rfl hc3 rfl rfl rfl rfl rfl rfl rfl fun w3 h=>X0 7 rfl (rK ⟨_,_,hF,rfl,h⟩ rfl))
 refine qq rfl ?_
 obtain rfl:=qa hF;replace hF:=hK1
 refine X0 5 rfl ?_
 obtain rfl:=qa hF
 exact rO 0 h rfl ⟨rfl,trivial⟩
def qhW (_:Nat) (a:qM):Option qM :=
 some (⟨a.Aq,a.Bl,a.Bk,a.Be⟩:qM)
theorem qmX {a:qM} (ha1:GoT.R w (old w) a cs1) {r:qM} (hF:qhW n a=some r):RetV Tryz.prog 175 [GoT.v qM cs1] w r:=by
 obtain rfl:=qao ha1
 refine zV 17 Tryz.func175 rfl fun h=>zSR (qr h rfl rfl fun w1 bb1 h=>qB qb h rfl rfl rfl fun w2 bb2 h=>zNSR (qB qb h rfl rfl rfl fun w3 bb3 h=>X1 6 2 h rfl (zs 0 h rfl fun w4 h=>X1 6 2 h rfl (zs 0 h rfl fun w5 h=>X1 6 2 h rfl (zs 0 h rfl fun w6 h=>X1 6 2 h rfl (zs 0 h rfl fun w7 h=>X1 4 0 h rfl (zs 1 h rfl fun w8 h=>qdk ?_)))))))
 obtain rfl:=qa hF
 exact qW qb (ρ:=qM) [GoT.v qM (qkV a)] h ⟨⟨_,_,_,rfl,rfl,h.box 1 rfl,rfl⟩,trivial⟩ (PV.done h (qaW (qu (S:=fun _=>False) (qcP (⟨a.Aq,a.Bl,a.Bk,a.Be⟩:qM)))))
def qfd (a:(List qM)):Nat→(List qM)→Int→Option ((List qM) × Int)
 | 0,_,_=>none
 | n+1,x2,i1 =>
  bif decide (i1<(a.length:Int)) then
   (idx a i1).bind fun y1 =>
   (qhW n y1).bind fun r1 =>
   (idx x2 i1).bind fun _ =>
   qfd a n (setS x2 i1 r1) (W64 (i1+1))
  else
   some (x2,i1)
def qig (n:Nat) (a:(List qM)):Option (List qM) :=
 (mkS (a.length:Int) ((⟨ByteArray.empty,0,0,false⟩:qM):qM)).bind fun x1 =>
 (qfd a n x1 0).bind fun o=>match o with
 | (x2,_) =>
  some x2
theorem qms {a:(List qM)} (ha1:GoT.R w (old w) a cs1) {r:(List qM)} (hF:qig n a=some r):RetV Tryz.prog 147 [GoT.v (List qM) cs1] w r:=by
 obtain ⟨p1,k1,rfl,s1⟩:=ha1
 refine zV 23 Tryz.func147 rfl fun h=>X0 8 rfl ?_
 obtain ⟨x1,hx1,hF⟩:=qe hF
 obtain ⟨g1,g2,hx1⟩:=qcM hx1
 refine qdY qb qM h rfl rfl rfl rfl rfl rfl rfl rfl rfl g1 g2 hx1 rfl fun w1 S1 p2 h=>X0 7 rfl ?_
 obtain ⟨o1,hF,hK1⟩:=qe hF
 refine ql (rL (fun m e w'=>∃ (x2:(List qM)) (i1:Int),qfd a m x2 i1=some o1∧e=[(0,.slice p1 a.length k1),(3,.slice p2 x1.length x1.length),(4,.int .i64 i1)]∧SH w w' [Ch.own S1 (x2:List qM) [.slice p2 x1.length x1.length]]) n ⟨_,_,hF,rfl,h⟩ rfl ?_)
 rintro m1 e1 w2 ⟨x2,i1,hF,rfl,h⟩
 rcases m1 with _|m1
 ·cases hF
 refine X0 8 rfl (qg rfl hF ?_ ?_)<;>intro hF
 ·refine X0 8 rfl ?_
  obtain ⟨y1,hy1,hF,he1,b1,_,q1,cs2,hp1,hq1,hr1,hc2⟩:=s1.ix hF
  obtain rfl:=qao hr1
  refine zxe hp1 hq1 he1 rfl (zc 0 (hc2.below h.below) rfl (zcO h hF (qmX (qcP y1)) rfl fun r1 w3 S2 cs3 h hF=>?_))
  obtain rfl:=qao (h.own 0 rfl)
  obtain ⟨y2,hy2,hF,he2,b2,_,q2,cs4,hp2,hq2,hr3,hc3⟩:=(h.sl 1 rfl).1.ix hF
  obtain rfl:=qao hr3
  refine zx hp2 hq2 ⟨he2.1,qI he2.2.1 (h.sl 1 rfl).2⟩ rfl (qbK qb 1 0 r1 h rfl hy2 hp2 hq2 (qcP y2) hc3 rfl rfl rfl (qcP r1) rfl rfl rfl fun w4 h=>X0 7 rfl ?_)
  replace h:=h.pick [1] rfl
  exact rK ⟨_,_,hF,rfl,h⟩ rfl
 refine qq rfl ?_
 obtain rfl:=qa hF;replace hF:=hK1
 refine X0 5 rfl ?_
 obtain rfl:=qa hF
 exact rO 0 h rfl ⟨rfl,trivial⟩
def qgd (n:Nat) (a:qp):Option qp :=
 (qbh n a.Bb).bind fun r1 =>
 (qbh n a.Ba).bind fun r2 =>
 (qbh n a.Au).bind fun r3 =>
 some (⟨r1,r2,r3⟩:qp)
theorem qlo {a:qp} (ha1:GoT.R w (old w) a cs1) {r:qp} (hF:qgd n a=some r):RetV Tryz.prog 238 [GoT.v qp cs1] w r:=by
 obtain ⟨p1,k1,p2,k2,p3,k3,rfl,s1,s2,s3⟩:=qaP ha1
 refine zV 17 Tryz.func238 rfl fun h=>zSR (qr h rfl rfl fun w1 bb1 h=>qB qb h rfl rfl rfl fun w2 bb2 h=>zNSR (qB qb h rfl rfl rfl fun w3 bb3 h=>X1 5 2 h rfl (zcL h hF (qbn ⟨_,_,rfl,(h.oldS s1)⟩) rfl fun r1 w4 S1 p4 k4 h hF=>zp1 rfl (zs 1 h rfl fun w5 h=>X1 5 3 h rfl (zcL h hF (qbn ⟨_,_,rfl,(h.oldS s2)⟩) rfl fun r2 w6 S2 p5 k5 h hF=>zp1 rfl (zs 2 h rfl fun w7 h=>X1 5 4 h rfl (zcL h hF (qbn ⟨_,_,rfl,(h.oldS s3)⟩) rfl fun r3 w8 S3 p6 k6 h hF=>zp1 rfl (zs 3 h rfl fun w9 h=>X1 4 3 h rfl (zs 4 h rfl fun w10 h=>qdk ?_)))))))))
 obtain rfl:=qa hF
 exact qW qb (ρ:=qp) [GoT.v qp [.slice p4 r1.length k4,.slice p5 r2.length k5,.slice p6 r3.length k6]] h ⟨⟨_,_,_,rfl,rfl,h.box 4 rfl,rfl⟩,trivial⟩ (PV.done h (qaW (qm6 (⟨r1,r2,r3⟩:qp) h (qaC 2 h rfl) (qaC 1 h rfl) (qaC 0 h rfl) (by rfl) (by rfl))))
def qej (a:(List qp)):Nat→(List qp)→Int→Option ((List qp) × Int)
 | 0,_,_=>none
 | n+1,x2,i1 =>
  bif decide (i1<(a.length:Int)) then
   (idx a i1).bind fun y1 =>
   (qgd n y1).bind fun r1 =>
   (idx x2 i1).bind fun _ =>
   qej a n (setS x2 i1 r1) (W64 (i1+1))
  else
   some (x2,i1)
def qfE (n:Nat) (a:(List qp)):Option (List qp) :=
 (mkS (a.length:Int) ((⟨[],[],[]⟩:qp):qp)).bind fun x1 =>
 (qej a n x1 0).bind fun o=>match o with
 | (x2,_) =>
  some x2
theorem qix {a:(List qp)} (ha1:GoT.R w (old w) a cs1) {r:(List qp)} (hF:qfE n a=some r):RetV Tryz.prog 211 [GoT.v (List qp) cs1] w r:=by
 obtain ⟨p1,k1,rfl,s1⟩:=ha1
 refine zV 23 Tryz.func211 rfl fun h=>X0 8 rfl ?_
 obtain ⟨x1,hx1,hF⟩:=qe hF
 obtain ⟨g1,g2,hx1⟩:=qcM hx1
 refine qdY qb qp h rfl rfl rfl rfl rfl rfl rfl rfl rfl g1 g2 hx1 rfl fun w1 S1 p2 h=>X0 7 rfl ?_
 obtain ⟨o1,hF,hK1⟩:=qe hF
 refine ql (rL (fun m e w'=>∃ (S2:Nat→Prop) (x2:(List qp)) (i1:Int),qej a m x2 i1=some o1∧e=[(0,.slice p1 a.length k1),(3,.slice p2 x1.length x1.length),(4,.int .i64 i1)]∧SH w w' [Ch.own S2 (x2:List qp) [.slice p2 x1.length x1.length]]) n ⟨_,_,_,hF,rfl,h⟩ rfl ?_)
 rintro m1 e1 w2 ⟨S2,x2,i1,hF,rfl,h⟩
 rcases m1 with _|m1
 ·cases hF
 refine X0 8 rfl (qg rfl hF ?_ ?_)<;>intro hF
 ·refine X0 8 rfl ?_
  obtain ⟨y1,hy1,hF,he1,b1,_,q1,cs2,hp1,hq1,hr1,hc2⟩:=s1.ix hF
  obtain ⟨p3,k2,p4,k3,p5,k4,rfl,s2,s3,s4⟩:=qaP hr1
  refine zxe hp1 hq1 he1 rfl (zc 0 (hc2.below h.below) rfl (zcO h hF (qlo (qgy y1 (h.oldS s2) (h.oldS s3) (h.oldS s4))) rfl fun r1 w3 S3 cs3 h hF=>?_))
  obtain ⟨p6,k5,p7,k6,p8,k7,rfl,-,-,-⟩:=qaP (h.own 0 rfl)
  obtain ⟨y2,hy2,hF⟩:=qe hF
  have he2:=qaX hy2
  replace h:=h.lrn0 1 rfl
  obtain ⟨b2,o_2,q2,cs4,hp2,hq2,-,hr3,hc3⟩:=(qie (h.lrnO 1 rfl)).1.at hy2
  have hr4:=hr3
  obtain ⟨p9,k8,p10,k9,p11,k10,rfl,s8,s9,s10⟩:=qaP hr3
  replace h:=h.lrnAdd 1 rfl hr4
  refine zx hp2 hq2 ⟨he2.1,qI he2.2.1 (qie (h.lrnO 1 rfl)).2⟩ rfl ?_
  replace h:=h.unlrn 1 rfl
  exact qjr qb r1 h hy2 hp2 hq2 rfl rfl rfl rfl rfl fun w4 S4 h=>X0 7 rfl (rK ⟨_,_,_,hF,rfl,h⟩ rfl)
 refine qq rfl ?_
 obtain rfl:=qa hF;replace hF:=hK1
 refine X0 5 rfl ?_
 obtain rfl:=qa hF
 exact rO 0 h rfl ⟨rfl,trivial⟩
def qhT (n:Nat) (a:qF):Option qF :=
 (qfE n a.Az).bind fun r1 =>
 (qfE n a.Bi).bind fun r2 =>
 some (⟨a.Ap,a.Av,a.To,a.Bf,r1,r2⟩:qF)
theorem qmB {a:qF} (ha1:GoT.R w (old w) a cs1) {r:qF} (hF:qhT n a=some r):RetV Tryz.prog 176 [GoT.v qF cs1] w r:=by
 obtain ⟨p1,k1,p2,k2,rfl,s1,s2⟩:=qak ha1
 refine zV 25 Tryz.func176 rfl fun h=>zSR (qr h rfl rfl fun w1 bb1 h=>qB qb h rfl rfl rfl fun w2 bb2 h=>zNSR (qB qb h rfl rfl rfl fun w3 bb3 h=>X1 6 2 h rfl (zs 0 h rfl fun w4 h=>X1 6 2 h rfl (zs 0 h rfl fun w5 h=>X1 6 2 h rfl (zs 0 h rfl fun w6 h=>X1 6 2 h rfl (zs 0 h rfl fun w7 h=>X1 5 2 h rfl (zcL h hF (qix ⟨_,_,rfl,(h.oldS s1)⟩) rfl fun r1 w8 S1 p3 k3 h hF=>zp1 rfl (zs 1 h rfl fun w9 h=>X1 5 3 h rfl (zcL h hF (qix ⟨_,_,rfl,(h.oldS s2)⟩) rfl fun r2 w10 S2 p4 k4 h hF=>zp1 rfl (zs 2 h rfl fun w11 h=>X1 4 2 h rfl (zs 3 h rfl fun w12 h=>qdk ?_)))))))))))
 obtain rfl:=qa hF
 exact qW qb (ρ:=qF) [GoT.v qF [.int .i64 a.Ap,.int .i64 a.Av,.int .i64 a.To,.int .i64 a.Bf,.slice p3 r1.length k3,.slice p4 r2.length k4]] h ⟨⟨_,_,_,rfl,rfl,h.box 3 rfl,rfl⟩,trivial⟩ (PV.done h (qaW (qpz (⟨a.Ap,a.Av,a.To,a.Bf,r1,r2⟩:qF) h (qu (S:=fun _=>False) rfl) (qu (S:=fun _=>False) rfl) (qu (S:=fun _=>False) rfl) (qu (S:=fun _=>False) rfl) (qaC 1 h rfl) (qaC 0 h rfl) (by rfl) (by rfl) (by rfl) (by rfl) (by rfl))))
def qe5 (a:(List qF)):Nat→(List qF)→Int→Option ((List qF) × Int)
 | 0,_,_=>none
 | n+1,x2,i1 =>
  bif decide (i1<(a.length:Int)) then
   (idx a i1).bind fun y1 =>
   (qhT n y1).bind fun r1 =>
   (idx x2 i1).bind fun _ =>
   qe5 a n (setS x2 i1 r1) (W64 (i1+1))
  else
   some (x2,i1)
def qia (n:Nat) (a:(List qF)):Option (List qF) :=
 (mkS (a.length:Int) ((⟨0,0,0,0,[],[]⟩:qF):qF)).bind fun x1 =>
 (qe5 a n x1 0).bind fun o=>match o with
 | (x2,_) =>
  some x2
theorem qmk {a:(List qF)} (ha1:GoT.R w (old w) a cs1) {r:(List qF)} (hF:qia n a=some r):RetV Tryz.prog 148 [GoT.v (List qF) cs1] w r:=by
 obtain ⟨p1,k1,rfl,s1⟩:=ha1
 refine zV 23 Tryz.func148 rfl fun h=>X0 8 rfl ?_
 obtain ⟨x1,hx1,hF⟩:=qe hF
 obtain ⟨g1,g2,hx1⟩:=qcM hx1
 refine qdY qb qF h rfl rfl rfl rfl rfl rfl rfl rfl rfl g1 g2 hx1 rfl fun w1 S1 p2 h=>X0 7 rfl ?_
 obtain ⟨o1,hF,hK1⟩:=qe hF
 refine ql (rL (fun m e w'=>∃ (S2:Nat→Prop) (x2:(List qF)) (i1:Int),qe5 a m x2 i1=some o1∧e=[(0,.slice p1 a.length k1),(3,.slice p2 x1.length x1.length),(4,.int .i64 i1)]∧SH w w' [Ch.own S2 (x2:List qF) [.slice p2 x1.length x1.length]]) n ⟨_,_,_,hF,rfl,h⟩ rfl ?_)
 rintro m1 e1 w2 ⟨S2,x2,i1,hF,rfl,h⟩
 rcases m1 with _|m1
 ·cases hF
 refine X0 8 rfl (qg rfl hF ?_ ?_)<;>intro hF
 ·refine X0 8 rfl ?_
  obtain ⟨y1,hy1,hF,he1,b1,_,q1,cs2,hp1,hq1,hr1,hc2⟩:=s1.ix hF
  obtain ⟨p3,k2,p4,k3,rfl,s2,s3⟩:=qak hr1
  refine zxe hp1 hq1 he1 rfl (zc 0 (hc2.below h.below) rfl (zcO h hF (qmB (qfF y1 (h.oldS s2) (h.oldS s3))) rfl fun r1 w3 S3 cs3 h hF=>?_))
  obtain ⟨p5,k4,p6,k5,rfl,-,-⟩:=qak (h.own 0 rfl)
  obtain ⟨y2,hy2,hF⟩:=qe hF
  have he2:=qaX hy2
  replace h:=h.lrn0 1 rfl
  obtain ⟨b2,o_2,q2,cs4,hp2,hq2,-,hr3,hc3⟩:=(qie (h.lrnO 1 rfl)).1.at hy2
  have hr4:=hr3
  obtain ⟨p7,k6,p8,k7,rfl,s6,s7⟩:=qak hr3
  replace h:=h.lrnAdd 1 rfl hr4
  refine zx hp2 hq2 ⟨he2.1,qI he2.2.1 (qie (h.lrnO 1 rfl)).2⟩ rfl ?_
  replace h:=h.unlrn 1 rfl
  exact qjr qb r1 h hy2 hp2 hq2 rfl rfl rfl rfl rfl fun w4 S4 h=>X0 7 rfl (rK ⟨_,_,_,hF,rfl,h⟩ rfl)
 refine qq rfl ?_
 obtain rfl:=qa hF;replace hF:=hK1
 refine X0 5 rfl ?_
 obtain rfl:=qa hF
 exact rO 0 h rfl ⟨rfl,trivial⟩
def qg5 (n:Nat) (a:qn):Option qn :=
 (qig n a.Am).bind fun r1 =>
 (qia n a.Ar).bind fun r2 =>
 (qbh n a.Ay).bind fun r3 =>
 some (⟨a.Aq,a.Ap,r1,r2,r3,a.Bo,a.Bj⟩:qn)
theorem qmr {a:qn} (ha1:GoT.R w (old w) a cs1) {r:qn} (hF:qg5 n a=some r):RetV Tryz.prog 106 [GoT.v qn cs1] w r:=by
 obtain ⟨p1,k1,p2,k2,p3,k3,rfl,s1,s2,s3⟩:=qL ha1
 refine zV 29 Tryz.func106 rfl fun h=>zSR (qr h rfl rfl fun w1 bb1 h=>qB qb h rfl rfl rfl fun w2 bb2 h=>zNSR (qB qb h rfl rfl rfl fun w3 bb3 h=>X1 6 2 h rfl (zs 0 h rfl fun w4 h=>X1 6 2 h rfl (zs 0 h rfl fun w5 h=>X1 5 2 h rfl (zcL h hF (qms ⟨_,_,rfl,(h.oldS s1)⟩) rfl fun r1 w6 S1 p4 k4 h hF=>zp1 rfl (zs 1 h rfl fun w7 h=>X1 5 3 h rfl (zcL h hF (qmk ⟨_,_,rfl,(h.oldS s2)⟩) rfl fun r2 w8 S2 p5 k5 h hF=>zp1 rfl (zs 2 h rfl fun w9 h=>X1 5 4 h rfl (zcL h hF (qbn ⟨_,_,rfl,(h.oldS s3)⟩) rfl fun r3 w10 S3 p6 k6 h hF=>zp1 rfl (zs 3 h rfl fun w11 h=>X1 6 5 h rfl (zs 3 h rfl fun w12 h=>X1 6 5 h rfl (zs 3 h rfl fun w13 h=>X1 4 3 h rfl (zs 4 h rfl fun w14 h=>qdk ?_)))))))))))))
 obtain rfl:=qa hF
 exact qW qb (ρ:=qn) [GoT.v qn [.string a.Aq,.int .i64 a.Ap,.slice p4 r1.length k4,.slice p5 r2.length k5,.slice p6 r3.length k6,.int .i64 a.Bo,.int .i64 a.Bj]] h ⟨⟨_,_,_,rfl,rfl,h.box 4 rfl,rfl⟩,trivial⟩ (PV.done h (qaW (qoj (⟨a.Aq,a.Ap,r1,r2,r3,a.Bo,a.Bj⟩:qn) h (qu (S:=fun _=>False) rfl) (qu (S:=fun _=>False) rfl) (qaC 2 h rfl) (qaC 1 h rfl) (qaC 0 h rfl) (qu (S:=fun _=>False) rfl) (qu (S:=fun _=>False) rfl) (by rfl) (by rfl) (by rfl) (by rfl) (by rfl) (by rfl))))
def qeI (a:(List qn)):Nat→(List qn)→Int→Option ((List qn) × Int)
 | 0,_,_=>none
 | n+1,x2,i1 =>
  bif decide (i1<(a.length:Int)) then
   (idx a i1).bind fun y1 =>
   (qg5 n y1).bind fun r1 =>
   (idx x2 i1).bind fun _ =>
   qeI a n (setS x2 i1 r1) (W64 (i1+1))
  else
   some (x2,i1)
def qhu (n:Nat) (a:(List qn)):Option (List qn) :=
 (mkS (a.length:Int) ((⟨ByteArray.empty,0,[],[],[],0,0⟩:qn):qn)).bind fun x1 =>
 (qeI a n x1 0).bind fun o=>match o with
 | (x2,_) =>
  some x2
theorem qlk {a:(List qn)} (ha1:GoT.R w (old w) a cs1) {r:(List qn)} (hF:qhu n a=some r):RetV Tryz.prog 64 [GoT.v (List qn) cs1] w r:=by
 obtain ⟨p1,k1,rfl,s1⟩:=ha1
 refine zV 23 Tryz.func64 rfl fun h=>X0 8 rfl ?_
 obtain ⟨x1,hx1,hF⟩:=qe hF
 obtain ⟨g1,g2,hx1⟩:=qcM hx1
 refine qdY qb qn h rfl rfl rfl rfl rfl rfl rfl rfl rfl g1 g2 hx1 rfl fun w1 S1 p2 h=>X0 7 rfl ?_
 obtain ⟨o1,hF,hK1⟩:=qe hF
 refine ql (rL (fun m e w'=>∃ (S2:Nat→Prop) (x2:(List qn)) (i1:Int),qeI a m x2 i1=some o1∧e=[(0,.slice p1 a.length k1),(3,.slice p2 x1.length x1.length),(4,.int .i64 i1)]∧SH w w' [Ch.own S2 (x2:List qn) [.slice p2 x1.length x1.length]]) n ⟨_,_,_,hF,rfl,h⟩ rfl ?_)
 rintro m1 e1 w2 ⟨S2,x2,i1,hF,rfl,h⟩
 rcases m1 with _|m1
 ·cases hF
 refine X0 8 rfl (qg rfl hF ?_ ?_)<;>intro hF
 ·refine X0 8 rfl ?_
  obtain ⟨y1,hy1,hF,he1,b1,_,q1,cs2,hp1,hq1,hr1,hc2⟩:=s1.ix hF
  obtain ⟨p3,k2,p4,k3,p5,k4,rfl,s2,s3,s4⟩:=qL hr1
  refine zxe hp1 hq1 he1 rfl (zc 0 (hc2.below h.below) rfl (zcO h hF (qmr (qhE y1 (h.oldS s2) (h.oldS s3) (h.oldS s4))) rfl fun r1 w3 S3 cs3 h hF=>?_))
  obtain ⟨p6,k5,p7,k6,p8,k7,rfl,-,-,-⟩:=qL (h.own 0 rfl)
  obtain ⟨y2,hy2,hF⟩:=qe hF
  have he2:=qaX hy2
  replace h:=h.lrn0 1 rfl
  obtain ⟨b2,o_2,q2,cs4,hp2,hq2,-,hr3,hc3⟩:=(qie (h.lrnO 1 rfl)).1.at hy2
  have hr4:=hr3
  obtain ⟨p9,k8,p10,k9,p11,k10,rfl,s8,s9,s10⟩:=qL hr3
  replace h:=h.lrnAdd 1 rfl hr4
  refine zx hp2 hq2 ⟨he2.1,qI he2.2.1 (qie (h.lrnO 1 rfl)).2⟩ rfl ?_
  replace h:=h.unlrn 1 rfl
  exact qjr qb r1 h hy2 hp2 hq2 rfl rfl rfl rfl rfl fun w4 S4 h=>X0 7 rfl (rK ⟨_,_,_,hF,rfl,h⟩ rfl)
 refine qq rfl ?_
 obtain rfl:=qa hF;replace hF:=hK1
 refine X0 5 rfl ?_
 obtain rfl:=qa hF
 exact rO 0 h rfl ⟨rfl,trivial⟩
def qf6 (n:Nat) (a:qh):Option qh :=
 (qhu n a.Ai).bind fun r1 =>
 some (⟨r1⟩:qh)
theorem qkE {a:qh} (ha1:GoT.R w (old w) a cs1) {r:qh} (hF:qf6 n a=some r):RetV Tryz.prog 32 [GoT.v qh cs1] w r:=by
 obtain ⟨p1,k1,rfl,s1⟩:=qU ha1
 refine zV 9 Tryz.func32 rfl fun h=>zSR (qr h rfl rfl fun w1 bb1 h=>qB qb h rfl rfl rfl fun w2 bb2 h=>zNSR (qB qb h rfl rfl rfl fun w3 bb3 h=>X1 5 2 h rfl (zcL h hF (qlk ⟨_,_,rfl,(h.oldS s1)⟩) rfl fun r1 w4 S1 p2 k2 h hF=>zp1 rfl (zs 1 h rfl fun w5 h=>X1 4 1 h rfl (zs 2 h rfl fun w6 h=>qdk ?_)))))
 obtain rfl:=qa hF
 exact qW qb (ρ:=qh) [GoT.v qh [.slice p2 r1.length k2]] h ⟨⟨_,_,_,rfl,rfl,h.box 2 rfl,rfl⟩,trivial⟩ (PV.done h (qaW (qoi (⟨r1⟩:qh) h (qaC 0 h rfl) )))
def qeE (n:Nat) (a:qd):Option qd :=
 (qbh n a.Af).bind fun r1 =>
 some (⟨a.Aq,a.Bg,r1⟩:qd)
theorem qkb {a:qd} (ha1:GoT.R w (old w) a cs1) {r:qd} (hF:qeE n a=some r):RetV Tryz.prog 107 [GoT.v qd cs1] w r:=by
 obtain ⟨p1,k1,rfl,s1⟩:=qG ha1
 refine zV 15 Tryz.func107 rfl fun h=>zSR (qr h rfl rfl fun w1 bb1 h=>qB qb h rfl rfl rfl fun w2 bb2 h=>zNSR (qB qb h rfl rfl rfl fun w3 bb3 h=>X1 6 2 h rfl (zs 0 h rfl fun w4 h=>X1 6 2 h rfl (zs 0 h rfl fun w5 h=>X1 5 2 h rfl (zcL h hF (qbn ⟨_,_,rfl,(h.oldS s1)⟩) rfl fun r1 w6 S1 p2 k2 h hF=>zp1 rfl (zs 1 h rfl fun w7 h=>X1 4 1 h rfl (zs 2 h rfl fun w8 h=>qdk ?_)))))))
 obtain rfl:=qa hF
 exact qW qb (ρ:=qd) [GoT.v qd [.string a.Aq,.int .i64 a.Bg,.slice p2 r1.length k2]] h ⟨⟨_,_,_,rfl,rfl,h.box 2 rfl,rfl⟩,trivial⟩ (PV.done h (qaW (qkp (⟨a.Aq,a.Bg,r1⟩:qd) h (qu (S:=fun _=>False) rfl) (qu (S:=fun _=>False) rfl) (qaC 0 h rfl) (by rfl) (by rfl))))
def qcL (a:(List qd)):Nat→(List qd)→Int→Option ((List qd) × Int)
 | 0,_,_=>none
 | n+1,x2,i1 =>
  bif decide (i1<(a.length:Int)) then
   (idx a i1).bind fun y1 =>
   (qeE n y1).bind fun r1 =>
   (idx x2 i1).bind fun _ =>
   qcL a n (setS x2 i1 r1) (W64 (i1+1))
  else
   some (x2,i1)
def qfp (n:Nat) (a:(List qd)):Option (List qd) :=
 (mkS (a.length:Int) ((⟨ByteArray.empty,0,[]⟩:qd):qd)).bind fun x1 =>
 (qcL a n x1 0).bind fun o=>match o with
 | (x2,_) =>
  some x2
theorem qjS {a:(List qd)} (ha1:GoT.R w (old w) a cs1) {r:(List qd)} (hF:qfp n a=some r):RetV Tryz.prog 65 [GoT.v (List qd) cs1] w r:=by
 obtain ⟨p1,k1,rfl,s1⟩:=ha1
 refine zV 23 Tryz.func65 rfl fun h=>X0 8 rfl ?_
 obtain ⟨x1,hx1,hF⟩:=qe hF
 obtain ⟨g1,g2,hx1⟩:=qcM hx1
 refine qdY qb qd h rfl rfl rfl rfl rfl rfl rfl rfl rfl g1 g2 hx1 rfl fun w1 S1 p2 h=>X0 7 rfl ?_
 obtain ⟨o1,hF,hK1⟩:=qe hF
 refine ql (rL (fun m e w'=>∃ (S2:Nat→Prop) (x2:(List qd)) (i1:Int),qcL a m x2 i1=some o1∧e=[(0,.slice p1 a.length k1),(3,.slice p2 x1.length x1.length),(4,.int .i64 i1)]∧SH w w' [Ch.own S2 (x2:List qd) [.slice p2 x1.length x1.length]]) n ⟨_,_,_,hF,rfl,h⟩ rfl ?_)
 rintro m1 e1 w2 ⟨S2,x2,i1,hF,rfl,h⟩
 rcases m1 with _|m1
 ·cases hF
 refine X0 8 rfl (qg rfl hF ?_ ?_)<;>intro hF
 ·refine X0 8 rfl ?_
  obtain ⟨y1,hy1,hF,he1,b1,_,q1,cs2,hp1,hq1,hr1,hc2⟩:=s1.ix hF
  obtain ⟨p3,k2,rfl,s2⟩:=qG hr1
  refine zxe hp1 hq1 he1 rfl (zc 0 (hc2.below h.below) rfl (zcO h hF (qkb (qeP y1 (h.oldS s2))) rfl fun r1 w3 S3 cs3 h hF=>?_))
  obtain ⟨p4,k3,rfl,-⟩:=qG (h.own 0 rfl)
  obtain ⟨y2,hy2,hF⟩:=qe hF
  have he2:=qaX hy2
  replace h:=h.lrn0 1 rfl
  obtain ⟨b2,o_2,q2,cs4,hp2,hq2,-,hr3,hc3⟩:=(qie (h.lrnO 1 rfl)).1.at hy2
  have hr4:=hr3
  obtain ⟨p5,k4,rfl,s4⟩:=qG hr3
  replace h:=h.lrnAdd 1 rfl hr4
  refine zx hp2 hq2 ⟨he2.1,qI he2.2.1 (qie (h.lrnO 1 rfl)).2⟩ rfl ?_
  replace h:=h.unlrn 1 rfl
  exact qjr qb r1 h hy2 hp2 hq2 rfl rfl rfl rfl rfl fun w4 S4 h=>X0 7 rfl (rK ⟨_,_,_,hF,rfl,h⟩ rfl)
 refine qq rfl ?_
 obtain rfl:=qa hF;replace hF:=hK1
 refine X0 5 rfl ?_
 obtain rfl:=qa hF
 exact rO 0 h rfl ⟨rfl,trivial⟩
def qdQ (a:(List ByteArray)):Nat→(List ByteArray)→Int→Option ((List ByteArray) × Int)
 | 0,_,_=>none
 | n+1,x2,i1 =>
  bif decide (i1<(a.length:Int)) then
   (idx a i1).bind fun y1 =>
   (idx x2 i1).bind fun _ =>
   qdQ a n (setS x2 i1 y1) (W64 (i1+1))
  else
   some (x2,i1)
def qf0 (n:Nat) (a:(List ByteArray)):Option (List ByteArray) :=
 (mkS (a.length:Int) (ByteArray.empty:ByteArray)).bind fun x1 =>
 (qdQ a n x1 0).bind fun o=>match o with
 | (x2,_) =>
  some x2
theorem qkk {a:(List ByteArray)} (ha1:GoT.R w (old w) a cs1) {r:(List ByteArray)} (hF:qf0 n a=some r):RetV Tryz.prog 66 [GoT.v (List ByteArray) cs1] w r:=by
 obtain ⟨p1,k1,rfl,s1⟩:=ha1
 refine zV 22 Tryz.func66 rfl fun h=>X0 8 rfl ?_
 obtain ⟨x1,hx1,hF⟩:=qe hF
 obtain ⟨g1,g2,hx1⟩:=qcM hx1
 refine qdY qb ByteArray h rfl rfl rfl rfl rfl rfl rfl rfl rfl g1 g2 hx1 rfl fun w1 S1 p2 h=>X0 7 rfl ?_
 obtain ⟨o1,hF,hK1⟩:=qe hF
 refine ql (rL (fun m e w'=>∃ (x2:(List ByteArray)) (i1:Int),qdQ a m x2 i1=some o1∧e=[(0,.slice p1 a.length k1),(3,.slice p2 x1.length x1.length),(4,.int .i64 i1)]∧SH w w' [Ch.own S1 (x2:List ByteArray) [.slice p2 x1.length x1.length]]) n ⟨_,_,hF,rfl,h⟩ rfl ?_)
 rintro m1 e1 w2 ⟨x2,i1,hF,rfl,h⟩
 rcases m1 with _|m1
 ·cases hF
 refine X0 8 rfl (qg rfl hF ?_ ?_)<;>intro hF
 ·refine X0 8 rfl ?_
  obtain ⟨y1,hy1,hF,he1,b1,_,q1,cs2,hp1,hq1,rfl,hc2⟩:=s1.ix hF
  refine zxe hp1 hq1 he1 rfl (zc 0 (hc2.below h.below) rfl ?_)
  obtain ⟨y2,hy2,hF,he2,b2,_,q2,cs3,hp2,hq2,rfl,hc3⟩:=(h.sl 0 rfl).1.ix hF
  exact zx hp2 hq2 ⟨he2.1,qI he2.2.1 (h.sl 0 rfl).2⟩ rfl (qbK qb 0 0 y1 h rfl hy2 hp2 hq2 rfl hc3 rfl rfl rfl rfl rfl rfl rfl fun w3 h=>X0 7 rfl (rK ⟨_,_,hF,rfl,h⟩ rfl))
 refine qq rfl ?_
 obtain rfl:=qa hF;replace hF:=hK1
 refine X0 5 rfl ?_
 obtain rfl:=qa hF
 exact rO 0 h rfl ⟨rfl,trivial⟩
def qgR (_:Nat) (a:qy):Option qy :=
 some (⟨a.Aq,a.Bl,a.Bn⟩:qy)
theorem qmA {a:qy} (ha1:GoT.R w (old w) a cs1) {r:qy} (hF:qgR n a=some r):RetV Tryz.prog 108 [GoT.v qy cs1] w r:=by
 obtain rfl:=qah ha1
 refine zV 14 Tryz.func108 rfl fun h=>zSR (qr h rfl rfl fun w1 bb1 h=>qB qb h rfl rfl rfl fun w2 bb2 h=>zNSR (qB qb h rfl rfl rfl fun w3 bb3 h=>X1 6 2 h rfl (zs 0 h rfl fun w4 h=>X1 6 2 h rfl (zs 0 h rfl fun w5 h=>X1 6 2 h rfl (zs 0 h rfl fun w6 h=>X1 4 0 h rfl (zs 1 h rfl fun w7 h=>qdk ?_))))))
 obtain rfl:=qa hF
 exact qW qb (ρ:=qy) [GoT.v qy (qlG a)] h ⟨⟨_,_,_,rfl,rfl,h.box 1 rfl,rfl⟩,trivial⟩ (PV.done h (qaW (qu (S:=fun _=>False) (qc6 (⟨a.Aq,a.Bl,a.Bn⟩:qy)))))
def qeF (a:(List qy)):Nat→(List qy)→Int→Option ((List qy) × Int)
 | 0,_,_=>none
 | n+1,x2,i1 =>
  bif decide (i1<(a.length:Int)) then
   (idx a i1).bind fun y1 =>
   (qgR n y1).bind fun r1 =>
   (idx x2 i1).bind fun _ =>
   qeF a n (setS x2 i1 r1) (W64 (i1+1))
  else
   some (x2,i1)
def qhe (n:Nat) (a:(List qy)):Option (List qy) :=
 (mkS (a.length:Int) ((⟨ByteArray.empty,0,0⟩:qy):qy)).bind fun x1 =>
 (qeF a n x1 0).bind fun o=>match o with
 | (x2,_) =>
  some x2
theorem qlv {a:(List qy)} (ha1:GoT.R w (old w) a cs1) {r:(List qy)} (hF:qhe n a=some r):RetV Tryz.prog 67 [GoT.v (List qy) cs1] w r:=by
 obtain ⟨p1,k1,rfl,s1⟩:=ha1
 refine zV 23 Tryz.func67 rfl fun h=>X0 8 rfl ?_
 obtain ⟨x1,hx1,hF⟩:=qe hF
 obtain ⟨g1,g2,hx1⟩:=qcM hx1
 refine qdY qb qy h rfl rfl rfl rfl rfl rfl rfl rfl rfl g1 g2 hx1 rfl fun w1 S1 p2 h=>X0 7 rfl ?_
 obtain ⟨o1,hF,hK1⟩:=qe hF
 refine ql (rL (fun m e w'=>∃ (x2:(List qy)) (i1:Int),qeF a m x2 i1=some o1∧e=[(0,.slice p1 a.length k1),(3,.slice p2 x1.length x1.length),(4,.int .i64 i1)]∧SH w w' [Ch.own S1 (x2:List qy) [.slice p2 x1.length x1.length]]) n ⟨_,_,hF,rfl,h⟩ rfl ?_)
 rintro m1 e1 w2 ⟨x2,i1,hF,rfl,h⟩
 rcases m1 with _|m1
 ·cases hF
 refine X0 8 rfl (qg rfl hF ?_ ?_)<;>intro hF
 ·refine X0 8 rfl ?_
  obtain ⟨y1,hy1,hF,he1,b1,_,q1,cs2,hp1,hq1,hr1,hc2⟩:=s1.ix hF
  obtain rfl:=qah hr1
  refine zxe hp1 hq1 he1 rfl (zc 0 (hc2.below h.below) rfl (zcO h hF (qmA (qc6 y1)) rfl fun r1 w3 S2 cs3 h hF=>?_))
  obtain rfl:=qah (h.own 0 rfl)
  obtain ⟨y2,hy2,hF,he2,b2,_,q2,cs4,hp2,hq2,hr3,hc3⟩:=(h.sl 1 rfl).1.ix hF
  obtain rfl:=qah hr3
  refine zx hp2 hq2 ⟨he2.1,qI he2.2.1 (h.sl 1 rfl).2⟩ rfl (qbK qb 1 0 r1 h rfl hy2 hp2 hq2 (qc6 y2) hc3 rfl rfl rfl (qc6 r1) rfl rfl rfl fun w4 h=>X0 7 rfl ?_)
  replace h:=h.pick [1] rfl
  exact rK ⟨_,_,hF,rfl,h⟩ rfl
 refine qq rfl ?_
 obtain rfl:=qa hF;replace hF:=hK1
 refine X0 5 rfl ?_
 obtain rfl:=qa hF
 exact rO 0 h rfl ⟨rfl,trivial⟩
def qgJ (n:Nat) (a:qc):Option qc :=
 (qfp n a.Aa).bind fun r1 =>
 (qf0 n a.Af).bind fun r2 =>
 (qhe n a.Ac).bind fun r3 =>
 some (⟨r1,r2,r3⟩:qc)
theorem qk4 {a:qc} (ha1:GoT.R w (old w) a cs1) {r:qc} (hF:qgJ n a=some r):RetV Tryz.prog 33 [GoT.v qc cs1] w r:=by
 obtain ⟨p1,k1,p2,k2,p3,k3,rfl,s1,s2,s3⟩:=qK ha1
 refine zV 17 Tryz.func33 rfl fun h=>zSR (qr h rfl rfl fun w1 bb1 h=>qB qb h rfl rfl rfl fun w2 bb2 h=>zNSR (qB qb h rfl rfl rfl fun w3 bb3 h=>X1 5 2 h rfl (zcL h hF (qjS ⟨_,_,rfl,(h.oldS s1)⟩) rfl fun r1 w4 S1 p4 k4 h hF=>zp1 rfl (zs 1 h rfl fun w5 h=>X1 5 3 h rfl (zcL h hF (qkk ⟨_,_,rfl,(h.oldS s2)⟩) rfl fun r2 w6 S2 p5 k5 h hF=>zp1 rfl (zs 2 h rfl fun w7 h=>X1 5 4 h rfl (zcL h hF (qlv ⟨_,_,rfl,(h.oldS s3)⟩) rfl fun r3 w8 S3 p6 k6 h hF=>zp1 rfl (zs 3 h rfl fun w9 h=>X1 4 3 h rfl (zs 4 h rfl fun w10 h=>qdk ?_)))))))))
 obtain rfl:=qa hF
 exact qW qb (ρ:=qc) [GoT.v qc [.slice p4 r1.length k4,.slice p5 r2.length k5,.slice p6 r3.length k6]] h ⟨⟨_,_,_,rfl,rfl,h.box 4 rfl,rfl⟩,trivial⟩ (PV.done h (qaW (qpb (⟨r1,r2,r3⟩:qc) h (qaC 2 h rfl) (qaC 1 h rfl) (qaC 0 h rfl) (by rfl) (by rfl))))
def qgW (n:Nat) (a:qw):Option qw :=
 (qbh n a.Ak).bind fun r1 =>
 (qbh n a.Bm).bind fun r2 =>
 (qbh n a.Bk).bind fun r3 =>
 (qbh n a.Bc).bind fun r4 =>
 some (⟨r1,r2,r3,r4⟩:qw)
theorem qmt {a:qw} (ha1:GoT.R w (old w) a cs1) {r:qw} (hF:qgW n a=some r):RetV Tryz.prog 68 [GoT.v qw cs1] w r:=by
 obtain ⟨p1,k1,p2,k2,p3,k3,p4,k4,rfl,s1,s2,s3,s4⟩:=qaU ha1
 refine zV 21 Tryz.func68 rfl fun h=>zSR (qr h rfl rfl fun w1 bb1 h=>qB qb h rfl rfl rfl fun w2 bb2 h=>zNSR (qB qb h rfl rfl rfl fun w3 bb3 h=>X1 5 2 h rfl (zcL h hF (qbn ⟨_,_,rfl,(h.oldS s1)⟩) rfl fun r1 w4 S1 p5 k5 h hF=>zp1 rfl (zs 1 h rfl fun w5 h=>X1 5 3 h rfl (zcL h hF (qbn ⟨_,_,rfl,(h.oldS s2)⟩) rfl fun r2 w6 S2 p6 k6 h hF=>zp1 rfl (zs 2 h rfl fun w7 h=>X1 5 4 h rfl (zcL h hF (qbn ⟨_,_,rfl,(h.oldS s3)⟩) rfl fun r3 w8 S3 p7 k7 h hF=>zp1 rfl (zs 3 h rfl fun w9 h=>X1 5 5 h rfl (zcL h hF (qbn ⟨_,_,rfl,(h.oldS s4)⟩) rfl fun r4 w10 S4 p8 k8 h hF=>zp1 rfl (zs 4 h rfl fun w11 h=>X1 4 4 h rfl (zs 5 h rfl fun w12 h=>qdk ?_)))))))))))
 obtain rfl:=qa hF
 exact qW qb (ρ:=qw) [GoT.v qw [.slice p5 r1.length k5,.slice p6 r2.length k6,.slice p7 r3.length k7,.slice p8 r4.length k8]] h ⟨⟨_,_,_,rfl,rfl,h.box 5 rfl,rfl⟩,trivial⟩ (PV.done h (qaW (qoQ (⟨r1,r2,r3,r4⟩:qw) h (qaC 3 h rfl) (qaC 2 h rfl) (qaC 1 h rfl) (qaC 0 h rfl) (by rfl) (by rfl) (by rfl))))
def qeL (a:(List qw)):Nat→(List qw)→Int→Option ((List qw) × Int)
 | 0,_,_=>none
 | n+1,x2,i1 =>
  bif decide (i1<(a.length:Int)) then
   (idx a i1).bind fun y1 =>
   (qgW n y1).bind fun r1 =>
   (idx x2 i1).bind fun _ =>
   qeL a n (setS x2 i1 r1) (W64 (i1+1))
  else
   some (x2,i1)
def qhs (n:Nat) (a:(List qw)):Option (List qw) :=
 (mkS (a.length:Int) ((⟨[],[],[],[]⟩:qw):qw)).bind fun x1 =>
 (qeL a n x1 0).bind fun o=>match o with
 | (x2,_) =>
  some x2
theorem qlr {a:(List qw)} (ha1:GoT.R w (old w) a cs1) {r:(List qw)} (hF:qhs n a=some r):RetV Tryz.prog 34 [GoT.v (List qw) cs1] w r:=by
 obtain ⟨p1,k1,rfl,s1⟩:=ha1
 refine zV 23 Tryz.func34 rfl fun h=>X0 8 rfl ?_
 obtain ⟨x1,hx1,hF⟩:=qe hF
 obtain ⟨g1,g2,hx1⟩:=qcM hx1
 refine qdY qb qw h rfl rfl rfl rfl rfl rfl rfl rfl rfl g1 g2 hx1 rfl fun w1 S1 p2 h=>X0 7 rfl ?_
 obtain ⟨o1,hF,hK1⟩:=qe hF
 refine ql (rL (fun m e w'=>∃ (S2:Nat→Prop) (x2:(List qw)) (i1:Int),qeL a m x2 i1=some o1∧e=[(0,.slice p1 a.length k1),(3,.slice p2 x1.length x1.length),(4,.int .i64 i1)]∧SH w w' [Ch.own S2 (x2:List qw) [.slice p2 x1.length x1.length]]) n ⟨_,_,_,hF,rfl,h⟩ rfl ?_)
 rintro m1 e1 w2 ⟨S2,x2,i1,hF,rfl,h⟩
 rcases m1 with _|m1
 ·cases hF
 refine X0 8 rfl (qg rfl hF ?_ ?_)<;>intro hF
 ·refine X0 8 rfl ?_
  obtain ⟨y1,hy1,hF,he1,b1,_,q1,cs2,hp1,hq1,hr1,hc2⟩:=s1.ix hF
  obtain ⟨p3,k2,p4,k3,p5,k4,p6,k5,rfl,s2,s3,s4,s5⟩:=qaU hr1
  refine zxe hp1 hq1 he1 rfl (zc 0 (hc2.below h.below) rfl (zcO h hF (qmt (qhD y1 (h.oldS s2) (h.oldS s3) (h.oldS s4) (h.oldS s5))) rfl fun r1 w3 S3 cs3 h hF=>?_))
  obtain ⟨p7,k6,p8,k7,p9,k8,p10,k9,rfl,-,-,-,-⟩:=qaU (h.own 0 rfl)
  obtain ⟨y2,hy2,hF⟩:=qe hF
  have he2:=qaX hy2
  replace h:=h.lrn0 1 rfl
  obtain ⟨b2,o_2,q2,cs4,hp2,hq2,-,hr3,hc3⟩:=(qie (h.lrnO 1 rfl)).1.at hy2
  have hr4:=hr3
  obtain ⟨p11,k10,p12,k11,p13,k12,p14,k13,rfl,s10,s11,s12,s13⟩:=qaU hr3
  replace h:=h.lrnAdd 1 rfl hr4
  refine zx hp2 hq2 ⟨he2.1,qI he2.2.1 (qie (h.lrnO 1 rfl)).2⟩ rfl ?_
  replace h:=h.unlrn 1 rfl
  exact qjr qb r1 h hy2 hp2 hq2 rfl rfl rfl rfl rfl fun w4 S4 h=>X0 7 rfl (rK ⟨_,_,_,hF,rfl,h⟩ rfl)
 refine qq rfl ?_
 obtain rfl:=qa hF;replace hF:=hK1
 refine X0 5 rfl ?_
 obtain rfl:=qa hF
 exact rO 0 h rfl ⟨rfl,trivial⟩
def qew (n:Nat) (a:qm):Option qm :=
 (qf6 n (⟨a.Ah.Ai⟩:qh)).bind fun r1 =>
 (qgJ n (⟨a.Ab.Aa,a.Ab.Af,a.Ab.Ac⟩:qc)).bind fun r2 =>
 (qhs n a.Aj).bind fun r3 =>
 some (⟨r1,r2,r3⟩:qm)
theorem qfM {a:qm} (ha1:GoT.R w (old w) a cs1) {r:qm} (hF:qew n a=some r):RetV Tryz.prog 9 [GoT.v qm cs1] w r:=by
 obtain ⟨p1,k1,p2,k2,p3,k3,p4,k4,p5,k5,rfl,s1,s2,s3,s4,s5⟩:=qaa ha1
 refine zV 17 Tryz.func9 rfl fun h=>zSR (qr h rfl rfl fun w1 bb1 h=>qB qb h rfl rfl rfl fun w2 bb2 h=>zNSR (qB qb h rfl rfl rfl fun w3 bb3 h=>X1 5 2 h rfl (zcO h hF (qkE (qaV _ (h.oldS s1))) rfl fun r1 w4 S1 cs2 h hF=>?_)))
 obtain ⟨p6,k6,rfl,-⟩:=qU (h.own 0 rfl)
 refine zp1 rfl (zs 1 h rfl fun w5 h=>X1 5 3 h rfl (zcO h hF (qk4 (qai _ (h.oldS s2) (h.oldS s3) (h.oldS s4))) rfl fun r2 w6 S2 cs3 h hF=>?_))
 obtain ⟨p7,k7,p8,k8,p9,k9,rfl,-,-,-⟩:=qK (h.own 0 rfl)
 refine zp1 rfl (zs 2 h rfl fun w7 h=>X1 5 4 h rfl (zcL h hF (qlr ⟨_,_,rfl,(h.oldS s5)⟩) rfl fun r3 w8 S3 p10 k10 h hF=>zp1 rfl (zs 3 h rfl fun w9 h=>X1 4 3 h rfl (zs 4 h rfl fun w10 h=>qdk ?_))))
 obtain rfl:=qa hF
 exact qW qb (ρ:=qm) [GoT.v qm [.slice p6 r1.Ai.length k6,.slice p7 r2.Aa.length k7,.slice p8 r2.Af.length k8,.slice p9 r2.Ac.length k9,.slice p10 r3.length k10]] h ⟨⟨_,_,_,rfl,rfl,h.box 4 rfl,rfl⟩,trivial⟩ (PV.done h (qaW (qqa (⟨r1,r2,r3⟩:qm) h (qaC 2 h rfl) (qaC 1 h rfl) (qaC 0 h rfl) (by rfl) (by rfl))))
def qee (a:(List Int)) (b:(List Int)):Nat→Int→Option (Flow Bool Int)
 | 0,_=>none
 | n+1,i1 =>
  bif decide (i1<(a.length:Int)) then
   (idx a i1).bind fun y1 =>
   (idx b i1).bind fun y2 =>
   bif (y1 != y2) then some (.ret false) else
   qee a b n (W64 (i1+1))
  else
   some (.nxt i1)
def qaB (n:Nat) (a:(List Int)) (b:(List Int)):Option Bool :=
 bif ((a.length:Int) != (b.length:Int)) then some false else
 (qee a b n 0).bind fun o=>match o with
 | .ret r=>some r
 | .nxt _ =>
  some true
theorem qat {a:(List Int)} {b:(List Int)} (ha1:GoT.R w (old w) a cs1) (ha2:GoT.R w (old w) b cs2) {r:Bool} (hF:qaB n a b=some r):RetV Tryz.prog 43 [GoT.v (List Int) cs1,GoT.v (List Int) cs2] w r:=by
 obtain ⟨p1,k1,rfl,s1⟩:=ha1
 obtain ⟨p2,k2,rfl,s2⟩:=ha2
 refine zV 26 Tryz.func43 rfl fun h=>X0 13 rfl (qg rfl hF ?_ ?_)<;>intro hF
 ·exact X0 4 rfl (rb h hF rfl)
 refine X0 6 rfl ?_
 obtain ⟨o1,hF,hK1⟩:=qe hF
 refine ql (rL (fun m e w'=>∃ (i1:Int),qee a b m i1=some o1∧e=[(0,.slice p1 a.length k1),(1,.slice p2 b.length k2),(5,.int .i64 i1)]∧SH w w' []) n ⟨_,hF,rfl,h⟩ rfl ?_)
 rintro m1 e1 w1 ⟨i1,hF,rfl,h⟩
 rcases m1 with _|m1
 ·cases hF
 refine X0 8 rfl (qg rfl hF ?_ ?_)<;>intro hF
 ·refine X0 4 rfl (rD (zd2 rfl ?_))
  obtain ⟨y1,hy1,hF,he1,b1,_,q1,cs3,hp1,hq1,rfl,hc3⟩:=s1.ix hF
  refine zdxe hp1 hq1 he1 rfl (zdc 0 (hc3.below h.below) rfl (zd2 rfl ?_))
  obtain ⟨y2,hy2,hF,he2,b2,_,q2,cs4,hp2,hq2,rfl,hc4⟩:=s2.ix hF
  refine zdxe hp2 hq2 he2 rfl (zdc 0 (hc4.below h.below) rfl (zd1 rfl (dN h fun w2 h=>qg rfl hF ?_ ?_)))<;>intro hF
  ·refine X0 4 rfl ?_
   obtain rfl:=qa hF;replace hF:=hK1
   exact rb h hF rfl
  exact X0 7 rfl (rK ⟨_,hF,rfl,h⟩ rfl)
 refine qq rfl ?_
 obtain rfl:=qa hF;replace hF:=hK1
 exact X0 4 rfl (rb h hF rfl)
def qhY (_:Nat) (a:qM) (b:qM):Option Bool :=
 bif (a.Aq.toList != b.Aq.toList) then some false else
 bif (a.Bl != b.Bl) then some false else
 bif (a.Bk != b.Bk) then some false else
 bif (!(a.Be==b.Be)) then some false else
 some true
theorem qmY {a:qM} {b:qM} (ha1:GoT.R w (old w) a cs1) (ha2:GoT.R w (old w) b cs2) {r:Bool} (hF:qhY n a b=some r):RetV Tryz.prog 186 [GoT.v qM cs1,GoT.v qM cs2] w r:=by
 obtain rfl:=qao ha1
 obtain rfl:=qao ha2
 refine zV 25 Tryz.func186 rfl fun h=>zSR (qr h rfl rfl fun w1 bb1 h=>qr h rfl rfl fun w2 bb2 h=>X2 11 1 0 h rfl (qg rfl hF ?_ ?_))<;>intro hF
 ·exact X0 4 rfl (rb h hF rfl)
 refine X2 10 1 0 h rfl (qg rfl hF ?_ ?_)<;>intro hF
 ·exact X0 4 rfl (rb h hF rfl)
 refine X2 10 1 0 h rfl (qg rfl hF ?_ ?_)<;>intro hF
 ·exact X0 4 rfl (rb h hF rfl)
 refine X2 10 1 0 h rfl (qg rfl hF ?_ ?_)<;>intro hF
 ·exact X0 4 rfl (rb h hF rfl)
 exact X0 5 rfl (rb h hF rfl)
def qe7 (a:(List qM)) (b:(List qM)):Nat→Int→Option (Flow Bool Int)
 | 0,_=>none
 | n+1,i1 =>
  bif decide (i1<(a.length:Int)) then
   (idx a i1).bind fun y1 =>
   (idx b i1).bind fun y2 =>
   (qhY n y1 y2).bind fun r1 =>
   bif (!r1) then some (.ret false) else
   qe7 a b n (W64 (i1+1))
  else
   some (.nxt i1)
def qh9 (n:Nat) (a:(List qM)) (b:(List qM)):Option Bool :=
 bif ((a.length:Int) != (b.length:Int)) then some false else
 (qe7 a b n 0).bind fun o=>match o with
 | .ret r=>some r
 | .nxt _ =>
  some true
theorem qmd {a:(List qM)} {b:(List qM)} (ha1:GoT.R w (old w) a cs1) (ha2:GoT.R w (old w) b cs2) {r:Bool} (hF:qh9 n a b=some r):RetV Tryz.prog 157 [GoT.v (List qM) cs1,GoT.v (List qM) cs2] w r:=by
 obtain ⟨p1,k1,rfl,s1⟩:=ha1
 obtain ⟨p2,k2,rfl,s2⟩:=ha2
 refine zV 27 Tryz.func157 rfl fun h=>X0 13 rfl (qg rfl hF ?_ ?_)<;>intro hF
 ·exact X0 4 rfl (rb h hF rfl)
 refine X0 6 rfl ?_
 obtain ⟨o1,hF,hK1⟩:=qe hF
 refine ql (rL (fun m e w'=>∃ (i1:Int),qe7 a b m i1=some o1∧e=[(0,.slice p1 a.length k1),(1,.slice p2 b.length k2),(5,.int .i64 i1)]∧SH w w' []) n ⟨_,hF,rfl,h⟩ rfl ?_)
 rintro m1 e1 w1 ⟨i1,hF,rfl,h⟩
 rcases m1 with _|m1
 ·cases hF
 refine X0 8 rfl (qg rfl hF ?_ ?_)<;>intro hF
 ·refine X0 4 rfl (rD (zd2 rfl ?_))
  obtain ⟨y1,hy1,hF,he1,b1,_,q1,cs3,hp1,hq1,hr1,hc3⟩:=s1.ix hF
  obtain rfl:=qao hr1
  refine zdxe hp1 hq1 he1 rfl (zdc 0 (hc3.below h.below) rfl (zd2 rfl ?_))
  obtain ⟨y2,hy2,hF,he2,b2,_,q2,cs4,hp2,hq2,hr2,hc4⟩:=s2.ix hF
  obtain rfl:=qao hr2
  refine zdxe hp2 hq2 he2 rfl (zdc 0 (hc4.below h.below) rfl ?_)
  obtain ⟨r1,hr3,hF⟩:=qe hF
  refine qbk r1 (vsB _) (cB 186 rfl) (fun _ hb=>qmY (qcP y1) (qcP y2) hr3) rfl rfl rfl rfl (zd1 rfl (dN h fun w2 h=>qg rfl hF ?_ ?_))<;>intro hF
  ·refine X0 4 rfl ?_
   obtain rfl:=qa hF;replace hF:=hK1
   exact rb h hF rfl
  exact X0 7 rfl (rK ⟨_,hF,rfl,h⟩ rfl)
 refine qq rfl ?_
 obtain rfl:=qa hF;replace hF:=hK1
 exact X0 4 rfl (rb h hF rfl)
def qf2 (n:Nat) (a:qp) (b:qp):Option Bool :=
 (qaB n a.Bb b.Bb).bind fun r1 =>
 bif (!r1) then some false else
 (qaB n a.Ba b.Ba).bind fun r2 =>
 bif (!r2) then some false else
 (qaB n a.Au b.Au).bind fun r3 =>
 bif (!r3) then some false else
 some true
theorem qlD {a:qp} {b:qp} (ha1:GoT.R w (old w) a cs1) (ha2:GoT.R w (old w) b cs2) {r:Bool} (hF:qf2 n a b=some r):RetV Tryz.prog 254 [GoT.v qp cs1,GoT.v qp cs2] w r:=by
 obtain ⟨p1,k1,p2,k2,p3,k3,rfl,s1,s2,s3⟩:=qaP ha1
 obtain ⟨p4,k4,p5,k5,p6,k6,rfl,s4,s5,s6⟩:=qaP ha2
 refine zV 23 Tryz.func254 rfl fun h=>zSR (qr h rfl rfl fun w1 bb1 h=>qr h rfl rfl fun w2 bb2 h=>X2 9 1 0 h rfl (zcB h hF (qat ⟨_,_,rfl,(h.oldS s1)⟩ ⟨_,_,rfl,(h.oldS s4)⟩) rfl fun r1 w3 h hF=>X0 2 rfl (qg rfl hF ?_ ?_)))<;>intro hF
 ·exact X0 4 rfl (rb h hF rfl)
 refine X2 8 1 0 h rfl (zcB h hF (qat ⟨_,_,rfl,(h.oldS s2)⟩ ⟨_,_,rfl,(h.oldS s5)⟩) rfl fun r2 w4 h hF=>X0 2 rfl (qg rfl hF ?_ ?_))<;>intro hF
 ·exact X0 4 rfl (rb h hF rfl)
 refine X2 8 1 0 h rfl (zcB h hF (qat ⟨_,_,rfl,(h.oldS s3)⟩ ⟨_,_,rfl,(h.oldS s6)⟩) rfl fun r3 w5 h hF=>X0 2 rfl (qg rfl hF ?_ ?_))<;>intro hF
 ·exact X0 4 rfl (rb h hF rfl)
 exact X0 5 rfl (rb h hF rfl)
def qek (a:(List qp)) (b:(List qp)):Nat→Int→Option (Flow Bool Int)
 | 0,_=>none
 | n+1,i1 =>
  bif decide (i1<(a.length:Int)) then
   (idx a i1).bind fun y1 =>
   (idx b i1).bind fun y2 =>
   (qf2 n y1 y2).bind fun r1 =>
   bif (!r1) then some (.ret false) else
   qek a b n (W64 (i1+1))
  else
   some (.nxt i1)
def qfB (n:Nat) (a:(List qp)) (b:(List qp)):Option Bool :=
 bif ((a.length:Int) != (b.length:Int)) then some false else
 (qek a b n 0).bind fun o=>match o with
 | .ret r=>some r
 | .nxt _ =>
  some true
theorem qip {a:(List qp)} {b:(List qp)} (ha1:GoT.R w (old w) a cs1) (ha2:GoT.R w (old w) b cs2) {r:Bool} (hF:qfB n a b=some r):RetV Tryz.prog 225 [GoT.v (List qp) cs1,GoT.v (List qp) cs2] w r:=by
 obtain ⟨p1,k1,rfl,s1⟩:=ha1
 obtain ⟨p2,k2,rfl,s2⟩:=ha2
 refine zV 27 Tryz.func225 rfl fun h=>X0 13 rfl (qg rfl hF ?_ ?_)<;>intro hF
 ·exact X0 4 rfl (rb h hF rfl)
 refine X0 6 rfl ?_
 obtain ⟨o1,hF,hK1⟩:=qe hF
 refine ql (rL (fun m e w'=>∃ (i1:Int),qek a b m i1=some o1∧e=[(0,.slice p1 a.length k1),(1,.slice p2 b.length k2),(5,.int .i64 i1)]∧SH w w' []) n ⟨_,hF,rfl,h⟩ rfl ?_)
 rintro m1 e1 w1 ⟨i1,hF,rfl,h⟩
 rcases m1 with _|m1
 ·cases hF
 refine X0 8 rfl (qg rfl hF ?_ ?_)<;>intro hF
 ·refine X0 4 rfl (rD (zd2 rfl ?_))
  obtain ⟨y1,hy1,hF,he1,b1,_,q1,cs3,hp1,hq1,hr1,hc3⟩:=s1.ix hF
  obtain ⟨p3,k3,p4,k4,p5,k5,rfl,s3,s4,s5⟩:=qaP hr1
  refine zdxe hp1 hq1 he1 rfl (zdc 0 (hc3.below h.below) rfl (zd2 rfl ?_))
  obtain ⟨y2,hy2,hF,he2,b2,_,q2,cs4,hp2,hq2,hr2,hc4⟩:=s2.ix hF
  obtain ⟨p6,k6,p7,k7,p8,k8,rfl,s6,s7,s8⟩:=qaP hr2
  refine zdxe hp2 hq2 he2 rfl (zdc 0 (hc4.below h.below) rfl ?_)
  obtain ⟨r1,hr3,hF⟩:=qe hF
  refine qbk r1 (vsB _) (cB 254 rfl) (fun _ hb=>qlD (qgy y1 ((h.ext hb).oldS s3) ((h.ext hb).oldS s4) ((h.ext hb).oldS s5)) (qgy y2 ((h.ext hb).oldS s6) ((h.ext hb).oldS s7) ((h.ext hb).oldS s8)) hr3) rfl rfl rfl rfl (zd1 rfl (dN h fun w2 h=>qg rfl hF ?_ ?_))<;>intro hF
  ·refine X0 4 rfl ?_
   obtain rfl:=qa hF;replace hF:=hK1
   exact rb h hF rfl
  exact X0 7 rfl (rK ⟨_,hF,rfl,h⟩ rfl)
 refine qq rfl ?_
 obtain rfl:=qa hF;replace hF:=hK1
 exact X0 4 rfl (rb h hF rfl)
def qhK (n:Nat) (a:qF) (b:qF):Option Bool :=
 bif (a.Ap != b.Ap) then some false else
 bif (a.Av != b.Av) then some false else
 bif (a.To != b.To) then some false else
 bif (a.Bf != b.Bf) then some false else
 (qfB n a.Az b.Az).bind fun r1 =>
 bif (!r1) then some false else
 (qfB n a.Bi b.Bi).bind fun r2 =>
 bif (!r2) then some false else
 some true
theorem qmQ {a:qF} {b:qF} (ha1:GoT.R w (old w) a cs1) (ha2:GoT.R w (old w) b cs2) {r:Bool} (hF:qhK n a b=some r):RetV Tryz.prog 187 [GoT.v qF cs1,GoT.v qF cs2] w r:=by
 obtain ⟨p1,k1,p2,k2,rfl,s1,s2⟩:=qak ha1
 obtain ⟨p3,k3,p4,k4,rfl,s3,s4⟩:=qak ha2
 refine zV 37 Tryz.func187 rfl fun h=>zSR (qr h rfl rfl fun w1 bb1 h=>qr h rfl rfl fun w2 bb2 h=>X2 11 1 0 h rfl (qg rfl hF ?_ ?_))<;>intro hF
 ·exact X0 4 rfl (rb h hF rfl)
 refine X2 10 1 0 h rfl (qg rfl hF ?_ ?_)<;>intro hF
 ·exact X0 4 rfl (rb h hF rfl)
 refine X2 10 1 0 h rfl (qg rfl hF ?_ ?_)<;>intro hF
 ·exact X0 4 rfl (rb h hF rfl)
 refine X2 10 1 0 h rfl (qg rfl hF ?_ ?_)<;>intro hF
 ·exact X0 4 rfl (rb h hF rfl)
 refine X2 8 1 0 h rfl (zcB h hF (qip ⟨_,_,rfl,(h.oldS s1)⟩ ⟨_,_,rfl,(h.oldS s3)⟩) rfl fun r1 w3 h hF=>X0 2 rfl (qg rfl hF ?_ ?_))<;>intro hF
 ·exact X0 4 rfl (rb h hF rfl)
 refine X2 8 1 0 h rfl (zcB h hF (qip ⟨_,_,rfl,(h.oldS s2)⟩ ⟨_,_,rfl,(h.oldS s4)⟩) rfl fun r2 w4 h hF=>X0 2 rfl (qg rfl hF ?_ ?_))<;>intro hF
 ·exact X0 4 rfl (rb h hF rfl)
 exact X0 5 rfl (rb h hF rfl)
end Go.Fw


namespace Go.Fw
open Go Go.Proofs
open Go.RowKit (Below)
set_option maxRecDepth 100000
set_option maxHeartbeats 6400000
variable {n:Nat} {w:World} {cs1 cs2 cs3 cs4 cs5 cs6 cs7 cs8 cs9:List Value}
def qe4 (a:(List qF)) (b:(List qF)):Nat→Int→Option (Flow Bool Int)
 | 0,_=>none
 | n+1,i1 =>
  bif decide (i1<(a.length:Int)) then
   (idx a i1).bind fun y1 =>
   (idx b i1).bind fun y2 =>
   (qhK n y1 y2).bind fun r1 =>
   bif (!r1) then some (.ret false) else
   qe4 a b n (W64 (i1+1))
  else
   some (.nxt i1)
def qh8 (n:Nat) (a:(List qF)) (b:(List qF)):Option Bool :=
 bif ((a.length:Int) != (b.length:Int)) then some false else
 (qe4 a b n 0).bind fun o=>match o with
 | .ret r=>some r
 | .nxt _ =>
  some true
theorem ql2 {a:(List qF)} {b:(List qF)} (ha1:GoT.R w (old w) a cs1) (ha2:GoT.R w (old w) b cs2) {r:Bool} (hF:qh8 n a b=some r):RetV Tryz.prog 158 [GoT.v (List qF) cs1,GoT.v (List qF) cs2] w r:=by
 obtain ⟨p1,k1,rfl,s1⟩:=ha1
 obtain ⟨p2,k2,rfl,s2⟩:=ha2
 refine zV 27 Tryz.func158 rfl fun h=>X0 13 rfl (qg rfl hF ?_ ?_)<;>intro hF
 ·exact X0 4 rfl (rb h hF rfl)
 refine X0 6 rfl ?_
 obtain ⟨o1,hF,hK1⟩:=qe hF
 refine ql (rL (fun m e w'=>∃ (i1:Int),qe4 a b m i1=some o1∧e=[(0,.slice p1 a.length k1),(1,.slice p2 b.length k2),(5,.int .i64 i1)]∧SH w w' []) n ⟨_,hF,rfl,h⟩ rfl ?_)
 rintro m1 e1 w1 ⟨i1,hF,rfl,h⟩
 rcases m1 with _|m1
 ·cases hF
 refine X0 8 rfl (qg rfl hF ?_ ?_)<;>intro hF
 ·refine X0 4 rfl (rD (zd2 rfl ?_))
  obtain ⟨y1,hy1,hF,he1,b1,_,q1,cs3,hp1,hq1,hr1,hc3⟩:=s1.ix hF
  obtain ⟨p3,k3,p4,k4,rfl,s3,s4⟩:=qak hr1
  refine zdxe hp1 hq1 he1 rfl (zdc 0 (hc3.below h.below) rfl (zd2 rfl ?_))
  obtain ⟨y2,hy2,hF,he2,b2,_,q2,cs4,hp2,hq2,hr2,hc4⟩:=s2.ix hF
  obtain ⟨p5,k5,p6,k6,rfl,s5,s6⟩:=qak hr2
  refine zdxe hp2 hq2 he2 rfl (zdc 0 (hc4.below h.below) rfl ?_)
  obtain ⟨r1,hr3,hF⟩:=qe hF
  refine qbk r1 (vsB _) (cB 187 rfl) (fun _ hb=>qmQ (qfF y1 ((h.ext hb).oldS s3) ((h.ext hb).oldS s4)) (qfF y2 ((h.ext hb).oldS s5) ((h.ext hb).oldS s6)) hr3) rfl rfl rfl rfl (zd1 rfl (dN h fun w2 h=>qg rfl hF ?_ ?_))<;>intro hF
  ·refine X0 4 rfl ?_
   obtain rfl:=qa hF;replace hF:=hK1
   exact rb h hF rfl
  exact X0 7 rfl (rK ⟨_,hF,rfl,h⟩ rfl)
 refine qq rfl ?_
 obtain rfl:=qa hF;replace hF:=hK1
 exact X0 4 rfl (rb h hF rfl)
def qg4 (n:Nat) (a:qn) (b:qn):Option Bool :=
 bif (a.Aq.toList != b.Aq.toList) then some false else
 bif (a.Ap != b.Ap) then some false else
 (qh9 n a.Am b.Am).bind fun r1 =>
 bif (!r1) then some false else
 (qh8 n a.Ar b.Ar).bind fun r2 =>
 bif (!r2) then some false else
 (qaB n a.Ay b.Ay).bind fun r3 =>
 bif (!r3) then some false else
 bif (a.Bo != b.Bo) then some false else
 bif (a.Bj != b.Bj) then some false else
 some true
theorem qmn {a:qn} {b:qn} (ha1:GoT.R w (old w) a cs1) (ha2:GoT.R w (old w) b cs2) {r:Bool} (hF:qg4 n a b=some r):RetV Tryz.prog 125 [GoT.v qn cs1,GoT.v qn cs2] w r:=by
 obtain ⟨p1,k1,p2,k2,p3,k3,rfl,s1,s2,s3⟩:=qL ha1
 obtain ⟨p4,k4,p5,k5,p6,k6,rfl,s4,s5,s6⟩:=qL ha2
 refine zV 43 Tryz.func125 rfl fun h=>zSR (qr h rfl rfl fun w1 bb1 h=>qr h rfl rfl fun w2 bb2 h=>X2 11 1 0 h rfl (qg rfl hF ?_ ?_))<;>intro hF
 ·exact X0 4 rfl (rb h hF rfl)
 refine X2 10 1 0 h rfl (qg rfl hF ?_ ?_)<;>intro hF
 ·exact X0 4 rfl (rb h hF rfl)
 refine X2 8 1 0 h rfl (zcB h hF (qmd ⟨_,_,rfl,(h.oldS s1)⟩ ⟨_,_,rfl,(h.oldS s4)⟩) rfl fun r1 w3 h hF=>X0 2 rfl (qg rfl hF ?_ ?_))<;>intro hF
 ·exact X0 4 rfl (rb h hF rfl)
 refine X2 8 1 0 h rfl (zcB h hF (ql2 ⟨_,_,rfl,(h.oldS s2)⟩ ⟨_,_,rfl,(h.oldS s5)⟩) rfl fun r2 w4 h hF=>X0 2 rfl (qg rfl hF ?_ ?_))<;>intro hF
 ·exact X0 4 rfl (rb h hF rfl)
 refine X2 8 1 0 h rfl (zcB h hF (qat ⟨_,_,rfl,(h.oldS s3)⟩ ⟨_,_,rfl,(h.oldS s6)⟩) rfl fun r3 w5 h hF=>X0 2 rfl (qg rfl hF ?_ ?_))<;>intro hF
 ·exact X0 4 rfl (rb h hF rfl)
 refine X2 10 1 0 h rfl (qg rfl hF ?_ ?_)<;>intro hF
 ·exact X0 4 rfl (rb h hF rfl)
 refine X2 10 1 0 h rfl (qg rfl hF ?_ ?_)<;>intro hF
 ·exact X0 4 rfl (rb h hF rfl)
 exact X0 5 rfl (rb h hF rfl)
def qeK (a:(List qn)) (b:(List qn)):Nat→Int→Option (Flow Bool Int)
 | 0,_=>none
 | n+1,i1 =>
  bif decide (i1<(a.length:Int)) then
   (idx a i1).bind fun y1 =>
   (idx b i1).bind fun y2 =>
   (qg4 n y1 y2).bind fun r1 =>
   bif (!r1) then some (.ret false) else
   qeK a b n (W64 (i1+1))
  else
   some (.nxt i1)
def qhi (n:Nat) (a:(List qn)) (b:(List qn)):Option Bool :=
 bif ((a.length:Int) != (b.length:Int)) then some false else
 (qeK a b n 0).bind fun o=>match o with
 | .ret r=>some r
 | .nxt _ =>
  some true
theorem qlg {a:(List qn)} {b:(List qn)} (ha1:GoT.R w (old w) a cs1) (ha2:GoT.R w (old w) b cs2) {r:Bool} (hF:qhi n a b=some r):RetV Tryz.prog 82 [GoT.v (List qn) cs1,GoT.v (List qn) cs2] w r:=by
 obtain ⟨p1,k1,rfl,s1⟩:=ha1
 obtain ⟨p2,k2,rfl,s2⟩:=ha2
 refine zV 27 Tryz.func82 rfl fun h=>X0 13 rfl (qg rfl hF ?_ ?_)<;>intro hF
 ·exact X0 4 rfl (rb h hF rfl)
 refine X0 6 rfl ?_
 obtain ⟨o1,hF,hK1⟩:=qe hF
 refine ql (rL (fun m e w'=>∃ (i1:Int),qeK a b m i1=some o1∧e=[(0,.slice p1 a.length k1),(1,.slice p2 b.length k2),(5,.int .i64 i1)]∧SH w w' []) n ⟨_,hF,rfl,h⟩ rfl ?_)
 rintro m1 e1 w1 ⟨i1,hF,rfl,h⟩
 rcases m1 with _|m1
 ·cases hF
 refine X0 8 rfl (qg rfl hF ?_ ?_)<;>intro hF
 ·refine X0 4 rfl (rD (zd2 rfl ?_))
  obtain ⟨y1,hy1,hF,he1,b1,_,q1,cs3,hp1,hq1,hr1,hc3⟩:=s1.ix hF
  obtain ⟨p3,k3,p4,k4,p5,k5,rfl,s3,s4,s5⟩:=qL hr1
  refine zdxe hp1 hq1 he1 rfl (zdc 0 (hc3.below h.below) rfl (zd2 rfl ?_))
  obtain ⟨y2,hy2,hF,he2,b2,_,q2,cs4,hp2,hq2,hr2,hc4⟩:=s2.ix hF
  obtain ⟨p6,k6,p7,k7,p8,k8,rfl,s6,s7,s8⟩:=qL hr2
  refine zdxe hp2 hq2 he2 rfl (zdc 0 (hc4.below h.below) rfl ?_)
  obtain ⟨r1,hr3,hF⟩:=qe hF
  refine qbk r1 (vsB _) (cB 125 rfl) (fun _ hb=>qmn (qhE y1 ((h.ext hb).oldS s3) ((h.ext hb).oldS s4) ((h.ext hb).oldS s5)) (qhE y2 ((h.ext hb).oldS s6) ((h.ext hb).oldS s7) ((h.ext hb).oldS s8)) hr3) rfl rfl rfl rfl (zd1 rfl (dN h fun w2 h=>qg rfl hF ?_ ?_))<;>intro hF
  ·refine X0 4 rfl ?_
   obtain rfl:=qa hF;replace hF:=hK1
   exact rb h hF rfl
  exact X0 7 rfl (rK ⟨_,hF,rfl,h⟩ rfl)
 refine qq rfl ?_
 obtain rfl:=qa hF;replace hF:=hK1
 exact X0 4 rfl (rb h hF rfl)
def qf1 (n:Nat) (a:qh) (b:qh):Option Bool :=
 (qhi n a.Ai b.Ai).bind fun r1 =>
 bif (!r1) then some false else
 some true
theorem qkl {a:qh} {b:qh} (ha1:GoT.R w (old w) a cs1) (ha2:GoT.R w (old w) b cs2) {r:Bool} (hF:qf1 n a b=some r):RetV Tryz.prog 40 [GoT.v qh cs1,GoT.v qh cs2] w r:=by
 obtain ⟨p1,k1,rfl,s1⟩:=qU ha1
 obtain ⟨p2,k2,rfl,s2⟩:=qU ha2
 refine zV 11 Tryz.func40 rfl fun h=>zSR (qr h rfl rfl fun w1 bb1 h=>qr h rfl rfl fun w2 bb2 h=>X2 9 1 0 h rfl (zcB h hF (qlg ⟨_,_,rfl,(h.oldS s1)⟩ ⟨_,_,rfl,(h.oldS s2)⟩) rfl fun r1 w3 h hF=>X0 2 rfl (qg rfl hF ?_ ?_)))<;>intro hF
 ·exact X0 4 rfl (rb h hF rfl)
 exact X0 5 rfl (rb h hF rfl)
def qeG (n:Nat) (a:qd) (b:qd):Option Bool :=
 bif (a.Aq.toList != b.Aq.toList) then some false else
 bif (a.Bg != b.Bg) then some false else
 (qaB n a.Af b.Af).bind fun r1 =>
 bif (!r1) then some false else
 some true
theorem qkd {a:qd} {b:qd} (ha1:GoT.R w (old w) a cs1) (ha2:GoT.R w (old w) b cs2) {r:Bool} (hF:qeG n a b=some r):RetV Tryz.prog 126 [GoT.v qd cs1,GoT.v qd cs2] w r:=by
 obtain ⟨p1,k1,rfl,s1⟩:=qG ha1
 obtain ⟨p2,k2,rfl,s2⟩:=qG ha2
 refine zV 21 Tryz.func126 rfl fun h=>zSR (qr h rfl rfl fun w1 bb1 h=>qr h rfl rfl fun w2 bb2 h=>X2 11 1 0 h rfl (qg rfl hF ?_ ?_))<;>intro hF
 ·exact X0 4 rfl (rb h hF rfl)
 refine X2 10 1 0 h rfl (qg rfl hF ?_ ?_)<;>intro hF
 ·exact X0 4 rfl (rb h hF rfl)
 refine X2 8 1 0 h rfl (zcB h hF (qat ⟨_,_,rfl,(h.oldS s1)⟩ ⟨_,_,rfl,(h.oldS s2)⟩) rfl fun r1 w3 h hF=>X0 2 rfl (qg rfl hF ?_ ?_))<;>intro hF
 ·exact X0 4 rfl (rb h hF rfl)
 exact X0 5 rfl (rb h hF rfl)
def qcO (a:(List qd)) (b:(List qd)):Nat→Int→Option (Flow Bool Int)
 | 0,_=>none
 | n+1,i1 =>
  bif decide (i1<(a.length:Int)) then
   (idx a i1).bind fun y1 =>
   (idx b i1).bind fun y2 =>
   (qeG n y1 y2).bind fun r1 =>
   bif (!r1) then some (.ret false) else
   qcO a b n (W64 (i1+1))
  else
   some (.nxt i1)
def qfn (n:Nat) (a:(List qd)) (b:(List qd)):Option Bool :=
 bif ((a.length:Int) != (b.length:Int)) then some false else
 (qcO a b n 0).bind fun o=>match o with
 | .ret r=>some r
 | .nxt _ =>
  some true
theorem qjO {a:(List qd)} {b:(List qd)} (ha1:GoT.R w (old w) a cs1) (ha2:GoT.R w (old w) b cs2) {r:Bool} (hF:qfn n a b=some r):RetV Tryz.prog 83 [GoT.v (List qd) cs1,GoT.v (List qd) cs2] w r:=by
 obtain ⟨p1,k1,rfl,s1⟩:=ha1
 obtain ⟨p2,k2,rfl,s2⟩:=ha2
 refine zV 27 Tryz.func83 rfl fun h=>X0 13 rfl (qg rfl hF ?_ ?_)<;>intro hF
 ·exact X0 4 rfl (rb h hF rfl)
 refine X0 6 rfl ?_
 obtain ⟨o1,hF,hK1⟩:=qe hF
 refine ql (rL (fun m e w'=>∃ (i1:Int),qcO a b m i1=some o1∧e=[(0,.slice p1 a.length k1),(1,.slice p2 b.length k2),(5,.int .i64 i1)]∧SH w w' []) n ⟨_,hF,rfl,h⟩ rfl ?_)
 rintro m1 e1 w1 ⟨i1,hF,rfl,h⟩
 rcases m1 with _|m1
 ·cases hF
 refine X0 8 rfl (qg rfl hF ?_ ?_)<;>intro hF
 ·refine X0 4 rfl (rD (zd2 rfl ?_))
  obtain ⟨y1,hy1,hF,he1,b1,_,q1,cs3,hp1,hq1,hr1,hc3⟩:=s1.ix hF
  obtain ⟨p3,k3,rfl,s3⟩:=qG hr1
  refine zdxe hp1 hq1 he1 rfl (zdc 0 (hc3.below h.below) rfl (zd2 rfl ?_))
  obtain ⟨y2,hy2,hF,he2,b2,_,q2,cs4,hp2,hq2,hr2,hc4⟩:=s2.ix hF
  obtain ⟨p4,k4,rfl,s4⟩:=qG hr2
  refine zdxe hp2 hq2 he2 rfl (zdc 0 (hc4.below h.below) rfl ?_)
  obtain ⟨r1,hr3,hF⟩:=qe hF
  refine qbk r1 (vsB _) (cB 126 rfl) (fun _ hb=>qkd (qeP y1 ((h.ext hb).oldS s3)) (qeP y2 ((h.ext hb).oldS s4)) hr3) rfl rfl rfl rfl (zd1 rfl (dN h fun w2 h=>qg rfl hF ?_ ?_))<;>intro hF
  ·refine X0 4 rfl ?_
   obtain rfl:=qa hF;replace hF:=hK1
   exact rb h hF rfl
  exact X0 7 rfl (rK ⟨_,hF,rfl,h⟩ rfl)
 refine qq rfl ?_
 obtain rfl:=qa hF;replace hF:=hK1
 exact X0 4 rfl (rb h hF rfl)
def qdR (a:(List ByteArray)) (b:(List ByteArray)):Nat→Int→Option (Flow Bool Int)
 | 0,_=>none
 | n+1,i1 =>
  bif decide (i1<(a.length:Int)) then
   (idx a i1).bind fun y1 =>
   (idx b i1).bind fun y2 =>
   bif (y1.toList != y2.toList) then some (.ret false) else
   qdR a b n (W64 (i1+1))
  else
   some (.nxt i1)
def qgc (n:Nat) (a:(List ByteArray)) (b:(List ByteArray)):Option Bool :=
 bif ((a.length:Int) != (b.length:Int)) then some false else
 (qdR a b n 0).bind fun o=>match o with
 | .ret r=>some r
 | .nxt _ =>
  some true
theorem qkB {a:(List ByteArray)} {b:(List ByteArray)} (ha1:GoT.R w (old w) a cs1) (ha2:GoT.R w (old w) b cs2) {r:Bool} (hF:qgc n a b=some r):RetV Tryz.prog 84 [GoT.v (List ByteArray) cs1,GoT.v (List ByteArray) cs2] w r:=by
 obtain ⟨p1,k1,rfl,s1⟩:=ha1
 obtain ⟨p2,k2,rfl,s2⟩:=ha2
 refine zV 26 Tryz.func84 rfl fun h=>X0 13 rfl (qg rfl hF ?_ ?_)<;>intro hF
 ·exact X0 4 rfl (rb h hF rfl)
 refine X0 6 rfl ?_
 obtain ⟨o1,hF,hK1⟩:=qe hF
 refine ql (rL (fun m e w'=>∃ (i1:Int),qdR a b m i1=some o1∧e=[(0,.slice p1 a.length k1),(1,.slice p2 b.length k2),(5,.int .i64 i1)]∧SH w w' []) n ⟨_,hF,rfl,h⟩ rfl ?_)
 rintro m1 e1 w1 ⟨i1,hF,rfl,h⟩
 rcases m1 with _|m1
 ·cases hF
 refine X0 8 rfl (qg rfl hF ?_ ?_)<;>intro hF
 ·refine X0 4 rfl (rD (zd2 rfl ?_))
  obtain ⟨y1,hy1,hF,he1,b1,_,q1,cs3,hp1,hq1,rfl,hc3⟩:=s1.ix hF
  refine zdxe hp1 hq1 he1 rfl (zdc 0 (hc3.below h.below) rfl (zd2 rfl ?_))
  obtain ⟨y2,hy2,hF,he2,b2,_,q2,cs4,hp2,hq2,rfl,hc4⟩:=s2.ix hF
  refine zdxe hp2 hq2 he2 rfl (zdc 0 (hc4.below h.below) rfl (zd1 rfl (dN h fun w2 h=>qg rfl hF ?_ ?_)))<;>intro hF
  ·refine X0 4 rfl ?_
   obtain rfl:=qa hF;replace hF:=hK1
   exact rb h hF rfl
  exact X0 7 rfl (rK ⟨_,hF,rfl,h⟩ rfl)
 refine qq rfl ?_
 obtain rfl:=qa hF;replace hF:=hK1
 exact X0 4 rfl (rb h hF rfl)
def qgT (_:Nat) (a:qy) (b:qy):Option Bool :=
 bif (a.Aq.toList != b.Aq.toList) then some false else
 bif (a.Bl != b.Bl) then some false else
 bif (a.Bn != b.Bn) then some false else
 some true
theorem qmx {a:qy} {b:qy} (ha1:GoT.R w (old w) a cs1) (ha2:GoT.R w (old w) b cs2) {r:Bool} (hF:qgT n a b=some r):RetV Tryz.prog 127 [GoT.v qy cs1,GoT.v qy cs2] w r:=by
 obtain rfl:=qah ha1
 obtain rfl:=qah ha2
 refine zV 20 Tryz.func127 rfl fun h=>zSR (qr h rfl rfl fun w1 bb1 h=>qr h rfl rfl fun w2 bb2 h=>X2 11 1 0 h rfl (qg rfl hF ?_ ?_))<;>intro hF
 ·exact X0 4 rfl (rb h hF rfl)
 refine X2 10 1 0 h rfl (qg rfl hF ?_ ?_)<;>intro hF
 ·exact X0 4 rfl (rb h hF rfl)
 refine X2 10 1 0 h rfl (qg rfl hF ?_ ?_)<;>intro hF
 ·exact X0 4 rfl (rb h hF rfl)
 exact X0 5 rfl (rb h hF rfl)
def qeJ (a:(List qy)) (b:(List qy)):Nat→Int→Option (Flow Bool Int)
 | 0,_=>none
 | n+1,i1 =>
  bif decide (i1<(a.length:Int)) then
   (idx a i1).bind fun y1 =>
   (idx b i1).bind fun y2 =>
   (qgT n y1 y2).bind fun r1 =>
   bif (!r1) then some (.ret false) else
   qeJ a b n (W64 (i1+1))
  else
   some (.nxt i1)
def qht (n:Nat) (a:(List qy)) (b:(List qy)):Option Bool :=
 bif ((a.length:Int) != (b.length:Int)) then some false else
 (qeJ a b n 0).bind fun o=>match o with
 | .ret r=>some r
 | .nxt _ =>
  some true
theorem qlp {a:(List qy)} {b:(List qy)} (ha1:GoT.R w (old w) a cs1) (ha2:GoT.R w (old w) b cs2) {r:Bool} (hF:qht n a b=some r):RetV Tryz.prog 85 [GoT.v (List qy) cs1,GoT.v (List qy) cs2] w r:=by
 obtain ⟨p1,k1,rfl,s1⟩:=ha1
 obtain ⟨p2,k2,rfl,s2⟩:=ha2
 refine zV 27 Tryz.func85 rfl fun h=>X0 13 rfl (qg rfl hF ?_ ?_)<;>intro hF
 ·exact X0 4 rfl (rb h hF rfl)
 refine X0 6 rfl ?_
 obtain ⟨o1,hF,hK1⟩:=qe hF
 refine ql (rL (fun m e w'=>∃ (i1:Int),qeJ a b m i1=some o1∧e=[(0,.slice p1 a.length k1),(1,.slice p2 b.length k2),(5,.int .i64 i1)]∧SH w w' []) n ⟨_,hF,rfl,h⟩ rfl ?_)
 rintro m1 e1 w1 ⟨i1,hF,rfl,h⟩
 rcases m1 with _|m1
 ·cases hF
 refine X0 8 rfl (qg rfl hF ?_ ?_)<;>intro hF
 ·refine X0 4 rfl (rD (zd2 rfl ?_))
  obtain ⟨y1,hy1,hF,he1,b1,_,q1,cs3,hp1,hq1,hr1,hc3⟩:=s1.ix hF
  obtain rfl:=qah hr1
  refine zdxe hp1 hq1 he1 rfl (zdc 0 (hc3.below h.below) rfl (zd2 rfl ?_))
  obtain ⟨y2,hy2,hF,he2,b2,_,q2,cs4,hp2,hq2,hr2,hc4⟩:=s2.ix hF
  obtain rfl:=qah hr2
  refine zdxe hp2 hq2 he2 rfl (zdc 0 (hc4.below h.below) rfl ?_)
  obtain ⟨r1,hr3,hF⟩:=qe hF
  refine qbk r1 (vsB _) (cB 127 rfl) (fun _ hb=>qmx (qc6 y1) (qc6 y2) hr3) rfl rfl rfl rfl (zd1 rfl (dN h fun w2 h=>qg rfl hF ?_ ?_))<;>intro hF
  ·refine X0 4 rfl ?_
   obtain rfl:=qa hF;replace hF:=hK1
   exact rb h hF rfl
  exact X0 7 rfl (rK ⟨_,hF,rfl,h⟩ rfl)
 refine qq rfl ?_
 obtain rfl:=qa hF;replace hF:=hK1
 exact X0 4 rfl (rb h hF rfl)
def qgH (n:Nat) (a:qc) (b:qc):Option Bool :=
 (qfn n a.Aa b.Aa).bind fun r1 =>
 bif (!r1) then some false else
 (qgc n a.Af b.Af).bind fun r2 =>
 bif (!r2) then some false else
 (qht n a.Ac b.Ac).bind fun r3 =>
 bif (!r3) then some false else
 some true
theorem qk7 {a:qc} {b:qc} (ha1:GoT.R w (old w) a cs1) (ha2:GoT.R w (old w) b cs2) {r:Bool} (hF:qgH n a b=some r):RetV Tryz.prog 41 [GoT.v qc cs1,GoT.v qc cs2] w r:=by
 obtain ⟨p1,k1,p2,k2,p3,k3,rfl,s1,s2,s3⟩:=qK ha1
 obtain ⟨p4,k4,p5,k5,p6,k6,rfl,s4,s5,s6⟩:=qK ha2
 refine zV 23 Tryz.func41 rfl fun h=>zSR (qr h rfl rfl fun w1 bb1 h=>qr h rfl rfl fun w2 bb2 h=>X2 9 1 0 h rfl (zcB h hF (qjO ⟨_,_,rfl,(h.oldS s1)⟩ ⟨_,_,rfl,(h.oldS s4)⟩) rfl fun r1 w3 h hF=>X0 2 rfl (qg rfl hF ?_ ?_)))<;>intro hF
 ·exact X0 4 rfl (rb h hF rfl)
 refine X2 8 1 0 h rfl (zcB h hF (qkB ⟨_,_,rfl,(h.oldS s2)⟩ ⟨_,_,rfl,(h.oldS s5)⟩) rfl fun r2 w4 h hF=>X0 2 rfl (qg rfl hF ?_ ?_))<;>intro hF
 ·exact X0 4 rfl (rb h hF rfl)
 refine X2 8 1 0 h rfl (zcB h hF (qlp ⟨_,_,rfl,(h.oldS s3)⟩ ⟨_,_,rfl,(h.oldS s6)⟩) rfl fun r3 w5 h hF=>X0 2 rfl (qg rfl hF ?_ ?_))<;>intro hF
 ·exact X0 4 rfl (rb h hF rfl)
 exact X0 5 rfl (rb h hF rfl)
def qg0 (n:Nat) (a:qw) (b:qw):Option Bool :=
 (qaB n a.Ak b.Ak).bind fun r1 =>
 bif (!r1) then some false else
 (qaB n a.Bm b.Bm).bind fun r2 =>
 bif (!r2) then some false else
 (qaB n a.Bk b.Bk).bind fun r3 =>
 bif (!r3) then some false else
 (qaB n a.Bc b.Bc).bind fun r4 =>
 bif (!r4) then some false else
 some true
theorem qmz {a:qw} {b:qw} (ha1:GoT.R w (old w) a cs1) (ha2:GoT.R w (old w) b cs2) {r:Bool} (hF:qg0 n a b=some r):RetV Tryz.prog 86 [GoT.v qw cs1,GoT.v qw cs2] w r:=by
 obtain ⟨p1,k1,p2,k2,p3,k3,p4,k4,rfl,s1,s2,s3,s4⟩:=qaU ha1
 obtain ⟨p5,k5,p6,k6,p7,k7,p8,k8,rfl,s5,s6,s7,s8⟩:=qaU ha2
 refine zV 29 Tryz.func86 rfl fun h=>zSR (qr h rfl rfl fun w1 bb1 h=>qr h rfl rfl fun w2 bb2 h=>X2 9 1 0 h rfl (zcB h hF (qat ⟨_,_,rfl,(h.oldS s1)⟩ ⟨_,_,rfl,(h.oldS s5)⟩) rfl fun r1 w3 h hF=>X0 2 rfl (qg rfl hF ?_ ?_)))<;>intro hF
 ·exact X0 4 rfl (rb h hF rfl)
 refine X2 8 1 0 h rfl (zcB h hF (qat ⟨_,_,rfl,(h.oldS s2)⟩ ⟨_,_,rfl,(h.oldS s6)⟩) rfl fun r2 w4 h hF=>X0 2 rfl (qg rfl hF ?_ ?_))<;>intro hF
 ·exact X0 4 rfl (rb h hF rfl)
 refine X2 8 1 0 h rfl (zcB h hF (qat ⟨_,_,rfl,(h.oldS s3)⟩ ⟨_,_,rfl,(h.oldS s7)⟩) rfl fun r3 w5 h hF=>X0 2 rfl (qg rfl hF ?_ ?_))<;>intro hF
 ·exact X0 4 rfl (rb h hF rfl)
 refine X2 8 1 0 h rfl (zcB h hF (qat ⟨_,_,rfl,(h.oldS s4)⟩ ⟨_,_,rfl,(h.oldS s8)⟩) rfl fun r4 w6 h hF=>X0 2 rfl (qg rfl hF ?_ ?_))<;>intro hF
 ·exact X0 4 rfl (rb h hF rfl)
 exact X0 5 rfl (rb h hF rfl)
def qeD (a:(List qw)) (b:(List qw)):Nat→Int→Option (Flow Bool Int)
 | 0,_=>none
 | n+1,i1 =>
  bif decide (i1<(a.length:Int)) then
   (idx a i1).bind fun y1 =>
   (idx b i1).bind fun y2 =>
   (qg0 n y1 y2).bind fun r1 =>
   bif (!r1) then some (.ret false) else
   qeD a b n (W64 (i1+1))
  else
   some (.nxt i1)
def qhm (n:Nat) (a:(List qw)) (b:(List qw)):Option Bool :=
 bif ((a.length:Int) != (b.length:Int)) then some false else
 (qeD a b n 0).bind fun o=>match o with
 | .ret r=>some r
 | .nxt _ =>
  some true
theorem qll {a:(List qw)} {b:(List qw)} (ha1:GoT.R w (old w) a cs1) (ha2:GoT.R w (old w) b cs2) {r:Bool} (hF:qhm n a b=some r):RetV Tryz.prog 42 [GoT.v (List qw) cs1,GoT.v (List qw) cs2] w r:=by
 obtain ⟨p1,k1,rfl,s1⟩:=ha1
 obtain ⟨p2,k2,rfl,s2⟩:=ha2
 refine zV 27 Tryz.func42 rfl fun h=>X0 13 rfl (qg rfl hF ?_ ?_)<;>intro hF
 ·exact X0 4 rfl (rb h hF rfl)
 refine X0 6 rfl ?_
 obtain ⟨o1,hF,hK1⟩:=qe hF
 refine ql (rL (fun m e w'=>∃ (i1:Int),qeD a b m i1=some o1∧e=[(0,.slice p1 a.length k1),(1,.slice p2 b.length k2),(5,.int .i64 i1)]∧SH w w' []) n ⟨_,hF,rfl,h⟩ rfl ?_)
 rintro m1 e1 w1 ⟨i1,hF,rfl,h⟩
 rcases m1 with _|m1
 ·cases hF
 refine X0 8 rfl (qg rfl hF ?_ ?_)<;>intro hF
 ·refine X0 4 rfl (rD (zd2 rfl ?_))
  obtain ⟨y1,hy1,hF,he1,b1,_,q1,cs3,hp1,hq1,hr1,hc3⟩:=s1.ix hF
  obtain ⟨p3,k3,p4,k4,p5,k5,p6,k6,rfl,s3,s4,s5,s6⟩:=qaU hr1
  refine zdxe hp1 hq1 he1 rfl (zdc 0 (hc3.below h.below) rfl (zd2 rfl ?_))
  obtain ⟨y2,hy2,hF,he2,b2,_,q2,cs4,hp2,hq2,hr2,hc4⟩:=s2.ix hF
  obtain ⟨p7,k7,p8,k8,p9,k9,p10,k10,rfl,s7,s8,s9,s10⟩:=qaU hr2
  refine zdxe hp2 hq2 he2 rfl (zdc 0 (hc4.below h.below) rfl ?_)
  obtain ⟨r1,hr3,hF⟩:=qe hF
  refine qbk r1 (vsB _) (cB 86 rfl) (fun _ hb=>qmz (qhD y1 ((h.ext hb).oldS s3) ((h.ext hb).oldS s4) ((h.ext hb).oldS s5) ((h.ext hb).oldS s6)) (qhD y2 ((h.ext hb).oldS s7) ((h.ext hb).oldS s8) ((h.ext hb).oldS s9) ((h.ext hb).oldS s10)) hr3) rfl rfl rfl rfl (zd1 rfl (dN h fun w2 h=>qg rfl hF ?_ ?_))<;>intro hF
  ·refine X0 4 rfl ?_
   obtain rfl:=qa hF;replace hF:=hK1
   exact rb h hF rfl
  exact X0 7 rfl (rK ⟨_,hF,rfl,h⟩ rfl)
 refine qq rfl ?_
 obtain rfl:=qa hF;replace hF:=hK1
 exact X0 4 rfl (rb h hF rfl)
def qhv (n:Nat) (a:qm) (b:qm):Option Bool :=
 (qf1 n (⟨a.Ah.Ai⟩:qh) (⟨b.Ah.Ai⟩:qh)).bind fun r1 =>
 bif (!r1) then some false else
 (qgH n (⟨a.Ab.Aa,a.Ab.Af,a.Ab.Ac⟩:qc) (⟨b.Ab.Aa,b.Ab.Af,b.Ab.Ac⟩:qc)).bind fun r2 =>
 bif (!r2) then some false else
 (qhm n a.Aj b.Aj).bind fun r3 =>
 bif (!r3) then some false else
 some true
theorem qlj {a:qm} {b:qm} (ha1:GoT.R w (old w) a cs1) (ha2:GoT.R w (old w) b cs2) {r:Bool} (hF:qhv n a b=some r):RetV Tryz.prog 12 [GoT.v qm cs1,GoT.v qm cs2] w r:=by
 obtain ⟨p1,k1,p2,k2,p3,k3,p4,k4,p5,k5,rfl,s1,s2,s3,s4,s5⟩:=qaa ha1
 obtain ⟨p6,k6,p7,k7,p8,k8,p9,k9,p10,k10,rfl,s6,s7,s8,s9,s10⟩:=qaa ha2
 refine zV 23 Tryz.func12 rfl fun h=>zSR (qr h rfl rfl fun w1 bb1 h=>qr h rfl rfl fun w2 bb2 h=>X2 9 1 0 h rfl (zcB h hF (qkl (qaV _ (h.oldS s1)) (qaV _ (h.oldS s6))) rfl fun r1 w3 h hF=>X0 2 rfl (qg rfl hF ?_ ?_)))<;>intro hF
 ·exact X0 4 rfl (rb h hF rfl)
 refine X2 8 1 0 h rfl (zcB h hF (qk7 (qai _ (h.oldS s2) (h.oldS s3) (h.oldS s4)) (qai _ (h.oldS s7) (h.oldS s8) (h.oldS s9))) rfl fun r2 w4 h hF=>X0 2 rfl (qg rfl hF ?_ ?_))<;>intro hF
 ·exact X0 4 rfl (rb h hF rfl)
 refine X2 8 1 0 h rfl (zcB h hF (qll ⟨_,_,rfl,(h.oldS s5)⟩ ⟨_,_,rfl,(h.oldS s10)⟩) rfl fun r3 w5 h hF=>X0 2 rfl (qg rfl hF ?_ ?_))<;>intro hF
 ·exact X0 4 rfl (rb h hF rfl)
 exact X0 5 rfl (rb h hF rfl)
def qY (_:Nat) (a_n:Int) (low:Int) (high:Int):Option Bool :=
 bif decide (a_n ≥ low) then some (decide (a_n≤high)) else
 some false
theorem qN {a_n:Int} {low:Int} {high:Int}  {r:Bool} (hF:qY n a_n low high=some r):RetV Tryz.prog 47 [.int .i64 a_n,.int .i64 low,.int .i64 high] w r:=by
 refine zV 15 Tryz.func47 rfl fun h=>X0 10 rfl (qi (t:=10) hF rfl ?_ ?_)<;>intro hF
 ·exact X0 9 rfl (rb h hF rfl)
 exact X0 6 rfl (rb h hF rfl)
def qcK (s:ByteArray):Nat→Int→Option (Flow Bool Int)
 | 0,_=>none
 | n+1,i1 =>
  bif decide (i1<(s.size:Int)) then
   (
    (atS s i1).bind fun y3 =>
    bif decide (y3 ≥ 97) then
     (atS s i1).bind fun y4 =>
     some (decide (y4≤122))
    else
     some false).bind fun b1 =>
   (
    (atS s i1).bind fun y1 =>
    bif decide (y1 ≥ 48) then
     (atS s i1).bind fun y2 =>
     some (decide (y2≤57))
    else
     some false).bind fun b2 =>
   bif (!b1) then
    bif b2 then
     bif (!(decide (i1 > 0))) then some (.ret false) else
     qcK s n (W64 (i1+1))
    else
     some (.ret false)
   else
    qcK s n (W64 (i1+1))
  else
   some (.nxt i1)
def qfv (n:Nat) (s:ByteArray):Option Bool :=
 (qcK s n 0).bind fun o=>match o with
 | .ret r=>some r
 | .nxt _ =>
  bif decide ((s.size:Int) ≥ 1) then some (decide ((s.size:Int)≤8)) else
  some false
theorem qg7 {s:ByteArray}  {r:Bool} (hF:qfv n s=some r):RetV Tryz.prog 165 [.string s] w r:=by
 refine zV 50 Tryz.func165 rfl fun h=>X0 9 rfl ?_
 obtain ⟨o1,hF,hK1⟩:=qe hF
 refine ql (rL (fun m e w'=>∃ (i1:Int),qcK s m i1=some o1∧e=[(0,.string s),(3,.int .i64 i1)]∧SH w w' []) n ⟨_,hF,rfl,h⟩ rfl ?_)
 rintro m1 e1 w1 ⟨i1,hF,rfl,h⟩
 rcases m1 with _|m1
 ·cases hF
 refine X0 8 rfl (qg rfl hF ?_ ?_)<;>intro hF
 ·refine X0 4 rfl ?_
  obtain ⟨KF2,hKF2,o3,hF,hK3⟩:=bindE hF
  refine qbx (fun e w'=>∃ (b1:Bool),KF2 b1=some o1∧e=[(0,.string s),(3,.int .i64 i1),(4,.bool b1)]∧SH w w' []) ?_ ?_
  ·refine X0 3 rfl ?_
   obtain ⟨y3,hx3,hF⟩:=qe hF
   have g3:=qfG hx3
   refine r_v (qfH qb g3 rfl rfl rfl rfl) rfl (zp2 rfl (qi (t:=16) hF rfl ?_ ?_))<;>intro hF
   ·refine X0 5 rfl ?_
    obtain ⟨y4,hx4,hF⟩:=qe hF
    have g4:=qfG hx4
    refine r_v (qfH qb g4 rfl rfl rfl rfl) rfl (X0 5 rfl ?_)
    obtain rfl:=qa hF
    exact rG ⟨_,hK3,rfl,h⟩ rfl
   refine X0 7 rfl ?_
   obtain rfl:=qa hF
   exact rG ⟨_,hK3,rfl,h⟩ rfl
  rintro e3 w3 ⟨b1,hF,rfl,h⟩
  subst hKF2
  refine qfc ?_
  obtain ⟨KF1,hKF1,o2,hF,hK2⟩:=bindE hF
  refine qbx (fun e w'=>∃ (b2:Bool),KF1 b2=some o1∧e=[(0,.string s),(3,.int .i64 i1),(4,.bool b1),(5,.bool b2)]∧SH w w' []) ?_ ?_
  ·refine X0 3 rfl ?_
   obtain ⟨y1,hx1,hF⟩:=qe hF
   have g1:=qfG hx1
   refine r_v (qfH qb g1 rfl rfl rfl rfl) rfl (zp2 rfl (qi (t:=26) hF rfl ?_ ?_))<;>intro hF
   ·refine X0 5 rfl ?_
    obtain ⟨y2,hx2,hF⟩:=qe hF
    have g2:=qfG hx2
    refine r_v (qfH qb g2 rfl rfl rfl rfl) rfl (X0 5 rfl ?_)
    obtain rfl:=qa hF
    exact rG ⟨_,hK2,rfl,h⟩ rfl
   refine X0 7 rfl ?_
   obtain rfl:=qa hF
   exact rG ⟨_,hK2,rfl,h⟩ rfl
  rintro e2 w2 ⟨b2,hF,rfl,h⟩
  subst hKF1
  refine X0 5 rfl (qi (t:=34) hF rfl ?_ ?_)<;>intro hF
  ·refine X0 4 rfl (qi (t:=36) hF rfl ?_ ?_)<;>intro hF
   ·refine X0 10 rfl (qg rfl hF ?_ ?_)<;>intro hF
    ·refine X0 4 rfl ?_
     obtain rfl:=qa hF;replace hF:=hK1
     exact rb h hF rfl
    exact X0 7 rfl (rK ⟨_,hF,rfl,h⟩ rfl)
   refine X0 8 rfl (qdp rfl rfl (X0 4 rfl ?_))
   obtain rfl:=qa hF;replace hF:=hK1
   exact rb h hF rfl
  exact X0 8 rfl (qfi rfl rfl (X0 7 rfl (rK ⟨_,hF,rfl,h⟩ rfl)))
 refine qq rfl ?_
 obtain rfl:=qa hF;replace hF:=hK1
 refine X0 6 rfl (qi (t:=45) hF rfl ?_ ?_)<;>intro hF
 ·exact X0 9 rfl (rb h hF rfl)
 exact X0 6 rfl (rb h hF rfl)
def qdA (a_0:qn) (i2:Int) (y1:qM):Nat→Int→Option (Flow (Int × Bool) Int)
 | 0,_=>none
 | n+1,i3 =>
  bif decide (i3<i2) then
   (idx a_0.Am i3).bind fun y2 =>
   bif (y2.Aq.toList==y1.Aq.toList) then some (.ret (0,false)) else
   qdA a_0 i2 y1 n (W64 (i3+1))
  else
   some (.nxt i3)
def qb1 (a_0:qn):Nat→Int→Int→Option (Flow (Int × Bool) (Int × Int))
 | 0,_,_=>none
 | n+1,i1,i2 =>
  bif decide (i2<(a_0.Am.length:Int)) then
   (idx a_0.Am i2).bind fun y1 =>
   (qdA a_0 i2 y1 n 0).bind fun o=>match o with
   | .ret r=>some (.ret r)
   | .nxt _ =>
    (
     (qfv n y1.Aq).bind fun r1 =>
     bif (!r1) then some true else
     (qY n y1.Bk 0 500).bind fun r2 =>
     some (!r2)).bind fun b4 =>
    bif b4 then some (.ret (0,false)) else
    (
     bif (i2==(W64 ((a_0.Am.length:Int)-1))) then
      bif (y1.Bl != 2) then some true else
      bif (y1.Bk != 0) then some true else
      bif y1.Be then some true else
      bif decide (i2<(W64 ((a_0.Am.length:Int)-1))) then some (y1.Bl != 1) else
      some false
     else
      bif decide (i2<(W64 ((a_0.Am.length:Int)-1))) then some (y1.Bl != 1) else
      some false).bind fun b5 =>
    bif b5 then some (.ret (0,false)) else
    bif y1.Be then qb1 a_0 n (W64 (i1+1)) (W64 (i2+1)) else
    qb1 a_0 n i1 (W64 (i2+1))
  else
   some (.nxt (i1,i2))
def qhp (n:Nat) (a_0:qn):Option (Int × Bool) :=
 (
  bif decide ((a_0.Am.length:Int)<2) then some true else
  some (decide ((a_0.Am.length:Int) > 5))).bind fun b1 =>
 bif b1 then some (0,false) else
 (qb1 a_0 n 0 0).bind fun o=>match o with
 | .ret r=>some r
 | .nxt (i1,_) =>
  some (i1,true)
theorem qlF {a_0:qn} (ha1:GoT.R w (old w) a_0 cs1) {r:(Int × Bool)} (hF:qhp n a_0=some r):RetV Tryz.prog 197 [GoT.v qn cs1] w r:=by
 obtain ⟨p1,k1,p2,k2,p3,k3,rfl,s1,s2,s3⟩:=qL ha1
 refine zV 86 Tryz.func197 rfl fun h=>zSR (qr h rfl rfl fun w1 bb1 h=>X1 12 0 h rfl ?_)
 obtain ⟨KF3,hKF3,o5,hF,hK5⟩:=bindE hF
 refine qbx (fun e w'=>∃ (b1:Bool),KF3 b1=some r∧e=[(1,.pointer (some ⟨bb1,0,none⟩)),(4,.int .i64 (a_0.Am.length:Int)),(17,.bool b1)]∧SH w w' [Ch.box bb1 (qcV a_0 p1 p2 p3 k1 k2 k3) 169]) ?_ ?_
 ·refine X0 4 rfl (qi (t:=14) hF rfl ?_ ?_)<;>intro hF
  ·refine X0 4 rfl ?_
   obtain rfl:=qa hF
   exact rG ⟨_,hK5,rfl,h⟩ rfl
  refine X0 6 rfl ?_
  obtain rfl:=qa hF
  exact rG ⟨_,hK5,rfl,h⟩ rfl
 rintro e5 w11 ⟨b1,hF,rfl,h⟩
 subst hKF3
 refine qg rfl hF ?_ ?_<;>intro hF
 ·refine X0 5 rfl ?_
  obtain rfl:=qa hF
  exact qW qb (ρ:=(Int × Bool)) [GoT.v Int [.int .i64 0],GoT.v Bool [.bool false]] h ⟨rfl,rfl,trivial⟩ (PV.done h (qbT h (qu (S:=fun _=>False) rfl) (qaW (qu (S:=fun _=>False) rfl)) (by rfl)))
 refine X0 10 rfl ?_
 obtain ⟨o1,hF,hK1⟩:=qe hF
 refine ql (rL (fun m e w'=>∃ (i1:Int) (i2:Int),qb1 a_0 m i1 i2=some o1∧e=[(1,.pointer (some ⟨bb1,0,none⟩)),(4,.int .i64 (a_0.Am.length:Int)),(5,.int .i64 i1),(6,.int .i64 i2)]∧SH w w' [Ch.box bb1 (qcV a_0 p1 p2 p3 k1 k2 k3) 169]) n ⟨_,_,hF,rfl,h⟩ rfl ?_)
 rintro m1 e1 w2 ⟨i1,i2,hF,rfl,h⟩
 rcases m1 with _|m1
 ·cases hF
 refine X0 7 rfl (qg rfl hF ?_ ?_)<;>intro hF
 ·refine X1 8 0 h rfl ?_
  obtain ⟨y1,hy1,hF,he1,b2,_,q1,cs2,hp1,hq1,hr1,hc3⟩:=s1.ix hF
  obtain rfl:=qao hr1
  refine zxe hp1 hq1 he1 rfl (zc 0 (hc3.below h.below) rfl (qB qb h rfl rfl rfl fun w3 bb2 h=>zs 0 h rfl fun w4 h=>X0 6 rfl ?_))
  obtain ⟨o2,hF,hK2⟩:=qe hF
  refine ql (rL (fun m e w'=>∃ (i3:Int),qdA a_0 i2 y1 m i3=some o2∧e=[(1,.pointer (some ⟨bb1,0,none⟩)),(4,.int .i64 (a_0.Am.length:Int)),(5,.int .i64 i1),(6,.int .i64 i2),(7,.pointer (some ⟨bb2,0,none⟩)),(8,.int .i64 i3)]∧SH w w' [Ch.box bb2 (qkV y1) 191,Ch.box bb1 (qcV a_0 p1 p2 p3 k1 k2 k3) 169]) m1 ⟨_,hF,rfl,h⟩ rfl ?_)
  rintro m2 e2 w5 ⟨i3,hF,rfl,h⟩
  rcases m2 with _|m2
  ·cases hF
  refine X0 7 rfl (qg rfl hF ?_ ?_)<;>intro hF
  ·refine X0 4 rfl (rD (Y1 2 1 h rfl ?_))
   refine zd1 rfl ?_
   obtain ⟨y2,hy2,hF,he2,b3,_,q2,cs3,hp2,hq2,hr2,hc5⟩:=s1.ix hF
   obtain rfl:=qao hr2
   refine zdxe hp2 hq2 he2 rfl (zd1 rfl (zdc 0 (hc5.below h.below) rfl (Y1 2 0 h rfl ?_)))
   refine zd1 rfl (dN h fun w6 h=>qg rfl hF ?_ ?_)<;>intro hF
   ·refine X0 5 rfl ?_
    obtain rfl:=qa hF;replace hF:=hK2
    obtain rfl:=qa hF;replace hF:=hK1
    obtain rfl:=qa hF
    exact qW qb (ρ:=(Int × Bool)) [GoT.v Int [.int .i64 0],GoT.v Bool [.bool false]] h ⟨rfl,rfl,trivial⟩ (PV.done h (qbT h (qu (S:=fun _=>False) rfl) (qaW (qu (S:=fun _=>False) rfl)) (by rfl)))
   exact X0 7 rfl (rK ⟨_,hF,rfl,h⟩ rfl)
  refine qq rfl ?_
  obtain rfl:=qa hF;replace hF:=hK2
  refine zSS ?_
  obtain ⟨KF2,hKF2,o4,hF,hK4⟩:=bindE hF
  refine qbx (fun e w'=>∃ (b4:Bool),KF2 b4=some o1∧e=[(1,.pointer (some ⟨bb1,0,none⟩)),(4,.int .i64 (a_0.Am.length:Int)),(5,.int .i64 i1),(6,.int .i64 i2),(7,.pointer (some ⟨bb2,0,none⟩)),(51,.bool b4)]∧SH w w' [Ch.box bb2 (qkV y1) 191,Ch.box bb1 (qcV a_0 p1 p2 p3 k1 k2 k3) 169]) ?_ ?_
  ·refine X1 3 0 h rfl (zcB h hF qg7 rfl fun r1 w8 h hF=>zp2 rfl (qi (t:=46) hF rfl ?_ ?_))<;>intro hF
   ·refine X0 6 rfl ?_
    obtain rfl:=qa hF
    exact rG ⟨_,hK4,rfl,h⟩ rfl
   refine X1 5 0 h rfl (zcB h hF qN rfl fun r2 w9 h hF=>X0 4 rfl ?_)
   obtain rfl:=qa hF
   exact rG ⟨_,hK4,rfl,h⟩ rfl
  rintro e4 w10 ⟨b4,hF,rfl,h⟩
  subst hKF2
  refine qg rfl hF ?_ ?_<;>intro hF
  ·refine X0 5 rfl ?_
   obtain rfl:=qa hF;replace hF:=hK1
   obtain rfl:=qa hF
   exact qW qb (ρ:=(Int × Bool)) [GoT.v Int [.int .i64 0],GoT.v Bool [.bool false]] h ⟨rfl,rfl,trivial⟩ (PV.done h (qbT h (qu (S:=fun _=>False) rfl) (qaW (qu (S:=fun _=>False) rfl)) (by rfl)))
  refine zKSS ?_
  obtain ⟨KF1,hKF1,o3,hF,hK3⟩:=bindE hF
  refine qbx (fun e w'=>∃ (b5:Bool),KF1 b5=some o1∧e=[(1,.pointer (some ⟨bb1,0,none⟩)),(4,.int .i64 (a_0.Am.length:Int)),(5,.int .i64 i1),(6,.int .i64 i2),(7,.pointer (some ⟨bb2,0,none⟩)),(80,.bool b5)]∧SH w w' [Ch.box bb2 (qkV y1) 191,Ch.box bb1 (qcV a_0 p1 p2 p3 k1 k2 k3) 169]) ?_ ?_
  ·refine X0 6 rfl (qi (t:=56) hF rfl ?_ ?_)<;>intro hF
   ·refine X1 8 0 h rfl (qi (t:=60) hF rfl ?_ ?_)<;>intro hF
    ·refine X0 24 rfl ?_
     obtain rfl:=qa hF
     exact rG ⟨_,hK3,rfl,h⟩ rfl
    refine X1 10 0 h rfl (qi (t:=65) hF rfl ?_ ?_)<;>intro hF
    ·refine X0 17 rfl ?_
     obtain rfl:=qa hF
     exact rG ⟨_,hK3,rfl,h⟩ rfl
    refine X1 8 0 h rfl (qi (t:=70) hF rfl ?_ ?_)<;>intro hF
    ·refine X0 11 rfl ?_
     obtain rfl:=qa hF
     exact rG ⟨_,hK3,rfl,h⟩ rfl
    refine X0 10 rfl (qi (t:=75) hF rfl ?_ ?_)<;>intro hF
    ·refine X1 10 0 h rfl ?_
     obtain rfl:=qa hF
     exact rG ⟨_,hK3,rfl,h⟩ rfl
    refine X0 7 rfl ?_
    obtain rfl:=qa hF
    exact rG ⟨_,hK3,rfl,h⟩ rfl
   refine X0 24 rfl (qi (t:=75) hF rfl ?_ ?_)<;>intro hF
   ·refine X1 10 0 h rfl ?_
    obtain rfl:=qa hF
    exact rG ⟨_,hK3,rfl,h⟩ rfl
   refine X0 7 rfl ?_
   obtain rfl:=qa hF
   exact rG ⟨_,hK3,rfl,h⟩ rfl
  rintro e3 w7 ⟨b5,hF,rfl,h⟩
  subst hKF1
  refine qg rfl hF ?_ ?_<;>intro hF
  ·refine X0 5 rfl ?_
   obtain rfl:=qa hF;replace hF:=hK1
   obtain rfl:=qa hF
   exact qW qb (ρ:=(Int × Bool)) [GoT.v Int [.int .i64 0],GoT.v Bool [.bool false]] h ⟨rfl,rfl,trivial⟩ (PV.done h (qbT h (qu (S:=fun _=>False) rfl) (qaW (qu (S:=fun _=>False) rfl)) (by rfl)))
  refine X1 6 0 h rfl (qg rfl hF ?_ ?_)<;>intro hF
  ·refine X0 11 rfl ?_
   replace h:=h.pick [1] rfl
   exact rK ⟨_,_,hF,rfl,h⟩ rfl
  refine X0 7 rfl ?_
  replace h:=h.pick [1] rfl
  exact rK ⟨_,_,hF,rfl,h⟩ rfl
 refine qq rfl ?_
 obtain rfl:=qa hF;replace hF:=hK1
 refine X0 6 rfl ?_
 obtain rfl:=qa hF
 exact qW qb (ρ:=(Int × Bool)) [GoT.v Int [.int .i64 i1],GoT.v Bool [.bool true]] h ⟨rfl,rfl,trivial⟩ (PV.done h (qbT h (qu (S:=fun _=>False) rfl) (qaW (qu (S:=fun _=>False) rfl)) (by rfl)))
def qcF (list:(List Int)):Nat→Int→Option (Flow Bool Int)
 | 0,_=>none
 | n+1,i1 =>
  bif decide (i1<(list.length:Int)) then
   (idx list i1).bind fun y1 =>
   (qY n y1 0 100000).bind fun r1 =>
   bif (!r1) then some (.ret false) else
   bif decide (i1 > 0) then
    (idx list (W64 (i1-1))).bind fun y2 =>
    (idx list i1).bind fun y3 =>
    bif decide (y2 ≥ y3) then some (.ret false) else
    qcF list n (W64 (i1+1))
   else
    qcF list n (W64 (i1+1))
  else
   some (.nxt i1)
def qgf (n:Nat) (list:(List Int)):Option Bool :=
 (qcF list n 0).bind fun o=>match o with
 | .ret r=>some r
 | .nxt _ =>
  bif decide ((list.length:Int) ≥ 1) then some (decide ((list.length:Int)≤4)) else
  some false
theorem qi4 {list:(List Int)} (ha1:GoT.R w (old w) list cs1) {r:Bool} (hF:qgf n list=some r):RetV Tryz.prog 275 [GoT.v (List Int) cs1] w r:=by
 obtain ⟨p1,k1,rfl,s1⟩:=ha1
 refine zV 40 Tryz.func275 rfl fun h=>X0 9 rfl ?_
 obtain ⟨o1,hF,hK1⟩:=qe hF
 refine ql (rL (fun m e w'=>∃ (i1:Int),qcF list m i1=some o1∧e=[(0,.slice p1 list.length k1),(3,.int .i64 i1)]∧SH w w' []) n ⟨_,hF,rfl,h⟩ rfl ?_)
 rintro m1 e1 w1 ⟨i1,hF,rfl,h⟩
 rcases m1 with _|m1
 ·cases hF
 refine X0 8 rfl (qg rfl hF ?_ ?_)<;>intro hF
 ·refine X0 4 rfl (rD (zd2 rfl ?_))
  obtain ⟨y1,hy1,hF,he1,b1,_,q1,cs2,hp1,hq1,rfl,hc2⟩:=s1.ix hF
  refine zdxe hp1 hq1 he1 rfl (zdc 0 (hc2.below h.below) rfl ?_)
  obtain ⟨r1,hr2,hF⟩:=qe hF
  refine qbk r1 (vsB _) (cB 47 rfl) (fun _ hb=>qN  hr2) rfl rfl rfl rfl (zd2 rfl (qbm (t:=16) hF rfl ?_ ?_))<;>intro hF
  ·refine Y0 15 rfl (dN h fun w2 h=>qdp rfl rfl (X0 4 rfl ?_))
   obtain rfl:=qa hF;replace hF:=hK1
   exact rb h hF rfl
  refine Y0 6 rfl (qbm (t:=19) hF rfl ?_ ?_)<;>intro hF
  ·refine Y0 7 rfl ?_
   obtain ⟨y2,hy2,hF,he2,b2,_,q2,cs3,hp2,hq2,rfl,hc3⟩:=s1.ix hF
   refine zdxe hp2 hq2 he2 rfl (Y0 1 rfl (zdc 0 (hc3.below h.below) rfl (Y0 5 rfl ?_)))
   obtain ⟨y3,hy3,hF,he3,b3,_,q3,cs4,hp3,hq3,rfl,hc4⟩:=s1.ix hF
   refine zdxe hp3 hq3 he3 rfl (Y0 1 rfl (zdc 0 (hc4.below h.below) rfl (Y0 5 rfl (dN h fun w3 h=>qg rfl hF ?_ ?_))))<;>intro hF
   ·refine X0 4 rfl ?_
    obtain rfl:=qa hF;replace hF:=hK1
    exact rb h hF rfl
   exact X0 7 rfl (rK ⟨_,hF,rfl,h⟩ rfl)
  exact Y0 13 rfl (dN h fun w4 h=>qfi rfl rfl (X0 7 rfl (rK ⟨_,hF,rfl,h⟩ rfl)))
 refine qq rfl ?_
 obtain rfl:=qa hF;replace hF:=hK1
 refine X0 6 rfl (qi (t:=35) hF rfl ?_ ?_)<;>intro hF
 ·exact X0 9 rfl (rb h hF rfl)
 exact X0 6 rfl (rb h hF rfl)
def qdw (t:qp):Nat→Int→Option (Flow Bool Int)
 | 0,_=>none
 | n+1,i1 =>
  bif decide (i1<(t.Au.length:Int)) then
   (idx t.Au i1).bind fun y1 =>
   (qY n y1 (-1000000) 1000000).bind fun r1 =>
   bif (!r1) then some (.ret false) else
   qdw t n (W64 (i1+1))
  else
   some (.nxt i1)
def qho (n:Nat) (t:qp):Option Bool :=
 (
  (qgf n t.Bb).bind fun r2 =>
  bif (!r2) then some true else
  (qgf n t.Ba).bind fun r3 =>
  bif (!r3) then some true else
  some ((t.Au.length:Int) != (W64 ((t.Bb.length:Int)*(t.Ba.length:Int))))).bind fun b1 =>
 bif b1 then some false else
 (qdw t n 0).bind fun o=>match o with
 | .ret r=>some r
 | .nxt _ =>
  some true
theorem qln {t:qp} (ha1:GoT.R w (old w) t cs1) {r:Bool} (hF:qho n t=some r):RetV Tryz.prog 269 [GoT.v qp cs1] w r:=by
 obtain ⟨p1,k1,p2,k2,p3,k3,rfl,s1,s2,s3⟩:=qaP ha1
 refine zV 41 Tryz.func269 rfl fun h=>zSR (qr h rfl rfl fun w1 bb1 h=>X0 4 rfl ?_)
 obtain ⟨KF1,hKF1,o2,hF,hK2⟩:=bindE hF
 refine qbx (fun e w'=>∃ (b1:Bool),KF1 b1=some r∧e=[(1,.pointer (some ⟨bb1,0,none⟩)),(26,.bool b1)]∧SH w w' [Ch.box bb1 (qjd t p1 p2 p3 k1 k2 k3) 276]) ?_ ?_
 ·refine X1 3 0 h rfl (zcB h hF (qi4 ⟨_,_,rfl,(h.oldS s1)⟩) rfl fun r2 w4 h hF=>zp2 rfl (qi (t:=8) hF rfl ?_ ?_))<;>intro hF
  ·refine X0 19 rfl ?_
   obtain rfl:=qa hF
   exact rG ⟨_,hK2,rfl,h⟩ rfl
  refine X1 5 0 h rfl (zcB h hF (qi4 ⟨_,_,rfl,(h.oldS s2)⟩) rfl fun r3 w5 h hF=>X0 4 rfl (qi (t:=14) hF rfl ?_ ?_))<;>intro hF
  ·refine X0 13 rfl ?_
   obtain rfl:=qa hF
   exact rG ⟨_,hK2,rfl,h⟩ rfl
  refine X3 24 0 0 0 h rfl ?_
  obtain rfl:=qa hF
  exact rG ⟨_,hK2,rfl,h⟩ rfl
 rintro e2 w6 ⟨b1,hF,rfl,h⟩
 subst hKF1
 refine qg rfl hF ?_ ?_<;>intro hF
 ·exact X0 4 rfl (rb h hF rfl)
 refine X0 6 rfl ?_
 obtain ⟨o1,hF,hK1⟩:=qe hF
 refine ql (rL (fun m e w'=>∃ (i1:Int),qdw t m i1=some o1∧e=[(1,.pointer (some ⟨bb1,0,none⟩)),(3,.int .i64 i1)]∧SH w w' [Ch.box bb1 (qjd t p1 p2 p3 k1 k2 k3) 276]) n ⟨_,hF,rfl,h⟩ rfl ?_)
 rintro m1 e1 w2 ⟨i1,hF,rfl,h⟩
 rcases m1 with _|m1
 ·cases hF
 refine X1 9 0 h rfl (qg rfl hF ?_ ?_)<;>intro hF
 ·refine X1 8 0 h rfl ?_
  obtain ⟨y1,hy1,hF,he1,b2,_,q1,cs2,hp1,hq1,rfl,hc3⟩:=s3.ix hF
  refine zxe hp1 hq1 he1 rfl (zc 0 (hc3.below h.below) rfl (zcB h hF qN rfl fun r1 w3 h hF=>X0 2 rfl (qg rfl hF ?_ ?_)))<;>intro hF
  ·refine X0 4 rfl ?_
   obtain rfl:=qa hF;replace hF:=hK1
   exact rb h hF rfl
  exact X0 7 rfl (rK ⟨_,hF,rfl,h⟩ rfl)
 refine qq rfl ?_
 obtain rfl:=qa hF;replace hF:=hK1
 exact X0 4 rfl (rb h hF rfl)
def qbZ (t:qp):Nat→Int→Int→Int→Option (Int × Int × Int)
 | 0,_,_,_=>none
 | n+1,i1,i2,i3 =>
  bif decide (i3<(t.Au.length:Int)) then
   (idx t.Au i3).bind fun y3 =>
   (idx t.Au i3).bind fun y4 =>
   qbZ t n (if y3<i1 then y3 else i1) (if y4 > i2 then y4 else i2) (W64 (i3+1))
  else
   some (i1,i2,i3)
def qfh (n:Nat) (t:qp):Option (qhd × Int) :=
 (qho n t).bind fun r1 =>
 bif (!r1) then some ((⟨0,0⟩:qhd),1) else
 (idx t.Au 0).bind fun y1 =>
 (idx t.Au 0).bind fun y2 =>
 (qbZ t n y1 y2 1).bind fun o=>match o with
 | (i1,i2,_) =>
  some ((⟨i1,i2⟩:qhd),0)
theorem qjK {t:qp} (ha1:GoT.R w (old w) t cs1) {r:(qhd × Int)} (hF:qfh n t=some r):RetV Tryz.prog 257 [GoT.v qp cs1] w r:=by
 obtain ⟨p1,k1,p2,k2,p3,k3,rfl,s1,s2,s3⟩:=qaP ha1
 refine zV 45 Tryz.func257 rfl fun h=>zSR (qr h rfl rfl fun w1 bb1 h=>qB qb h rfl rfl rfl fun w2 bb2 h=>X1 6 1 h rfl (zcB h hF (qln (h.old ha1)) rfl fun r1 w3 h hF=>X0 2 rfl (qg rfl hF ?_ ?_)))<;>intro hF
 ·refine zSR (r_v (qb6 qb [] [] rfl rfl rfl rfl rfl rfl rfl rfl) rfl (zs 0 h rfl fun w4 h=>X0 2 rfl ?_))
  obtain rfl:=qa hF
  exact qW qb (ρ:=(qhd × Int)) [GoT.v qhd [.int .i64 0,.int .i64 0],GoT.v Int [.int .i64 1]] h ⟨⟨_,_,_,rfl,rfl,h.box 0 rfl,rfl⟩,rfl,trivial⟩ (PV.done h (qbT h (qu (S:=fun _=>False) (qnj (⟨0,0⟩:qhd))) (qaW (qu (S:=fun _=>False) rfl)) (by rfl)))
 refine zKS (rA [] [1] h rfl fun w5 h=>M1 3 [0,1] 0 (h.pick [1] rfl) rfl ?_)
 obtain ⟨y1,hy1,hF,he1,b1,_,q1,cs2,hp1,hq1,rfl,hc2⟩:=s3.ix hF
 refine Ae 2 7 hp1 hq1 he1 (h.pick [1] rfl) rfl (Al 3 15 0 hc2 (h.pick [1] rfl) rfl (M1 63 [4,5] 0 (h.pick [1] rfl) rfl ?_))
 obtain ⟨y2,hy2,hF,he2,b2,_,q2,cs3,hp2,hq2,rfl,hc3⟩:=s3.ix hF
 refine Ae 6 127 hp2 hq2 he2 (h.pick [1] rfl) rfl (Al 7 255 0 hc3 (h.pick [1] rfl) rfl (Aw 8 511 (fun w' hw=>qb6 qb [0,1] [.tmp 13,.tmp 17] rfl rfl rfl rfl rfl rfl rfl rfl) (h.pick [1] rfl) rfl ?_))
 refine Ao 9 1023 rfl (qB qb h rfl rfl rfl fun w6 bb3 h=>Ag (h.pick [2] rfl) (Ao 10 2047 rfl (zs 0 h rfl fun w7 h=>Ag (h.pick [2] rfl) (Ad (X0 5 rfl ?_)))))
 obtain ⟨o1,hF,hK1⟩:=qe hF
 refine ql (rL (fun m e w'=>∃ (i1:Int) (i2:Int) (i3:Int),qbZ t m i1 i2 i3=some o1∧e=[(1,.pointer (some ⟨bb1,0,none⟩)),(2,.pointer (some ⟨bb2,0,none⟩)),(4,.pointer (some ⟨bb3,0,none⟩)),(5,.int .i64 i3)]∧SH w w' [Ch.box bb3 [.int .i64 i1,.int .i64 i2] 321,Ch.box bb2 [.int .i64 0,.int .i64 0] 321,Ch.box bb1 (qjd t p1 p2 p3 k1 k2 k3) 276]) n ⟨_,_,_,hF,rfl,h⟩ rfl ?_)
 rintro m1 e1 w8 ⟨i1,i2,i3,hF,rfl,h⟩
 rcases m1 with _|m1
 ·cases hF
 refine X1 9 2 h rfl (qg rfl hF ?_ ?_)<;>intro hF
 ·refine X0 4 rfl (rA [9] [0,2] h rfl fun w9 h=>M2 31 [0,1,2,3,4] 0 1 (h.pick [0,2] rfl) rfl ?_)
  obtain ⟨y3,hy3,hF,he3,b3,_,q3,cs4,hp3,hq3,rfl,hc5⟩:=s3.ix hF
  refine Ae 5 63 hp3 hq3 he3 (h.pick [0,2] rfl) rfl (Al 6 127 0 hc5 (h.pick [0,2] rfl) rfl (M0 511 [7,8] (h.pick [0,2] rfl) rfl (Ao 9 1023 rfl (zs 0 h rfl fun w10 h=>qgl (fun hs=>absurd (hs 9 (by decide)) (by decide)) (Ad (rA [9] [0,2] h rfl fun w11 h=>M2 31 [0,1,2,3,4] 0 1 (h.pick [0,2] rfl) rfl ?_))))))
  obtain ⟨y4,hy4,hF,he4,b4,_,q4,cs5,hp4,hq4,rfl,hc6⟩:=s3.ix hF
  exact Ae 5 63 hp4 hq4 he4 (h.pick [0,2] rfl) rfl (Al 6 127 0 hc6 (h.pick [0,2] rfl) rfl (M0 511 [7,8] (h.pick [0,2] rfl) rfl (Ao 9 1023 rfl (zs 0 h rfl fun w12 h=>qgl (fun hs=>absurd (hs 9 (by decide)) (by decide)) (Ad (X0 6 rfl (rK ⟨_,_,_,hF,rfl,h⟩ rfl)))))))
 refine qq rfl ?_
 obtain rfl:=qa hF;replace hF:=hK1
 refine X1 3 0 h rfl (zs 1 h rfl fun w13 h=>X0 2 rfl ?_)
 obtain rfl:=qa hF
 exact qW qb (ρ:=(qhd × Int)) [GoT.v qhd [.int .i64 i1,.int .i64 i2],GoT.v Int [.int .i64 0]] h ⟨⟨_,_,_,rfl,rfl,h.box 1 rfl,rfl⟩,rfl,trivial⟩ (PV.done h (qbT h (qu (S:=fun _=>False) (qnj (⟨i1,i2⟩:qhd))) (qaW (qu (S:=fun _=>False) rfl)) (by rfl)))
def qbQ (list:(List qp)) (positive:Bool):Nat→Int→Option (Flow Bool Int)
 | 0,_=>none
 | n+1,i1 =>
  bif decide (i1<2) then
   (idx list i1).bind fun y1 =>
   (qfh n y1).bind fun o=>match o with
    | (r2,r3) =>
     bif (r3 != 0) then some (.ret false) else
     bif positive then
      bif decide (r2.Bp<0) then some (.ret false) else
      qbQ list positive n (W64 (i1+1))
     else
      qbQ list positive n (W64 (i1+1))
  else
   some (.nxt i1)
def qcq (n:Nat) (list:(List qp)) (positive:Bool):Option Bool :=
 bif ((list.length:Int) != 2) then some false else
 (qbQ list positive n 0).bind fun o=>match o with
 | .ret r=>some r
 | .nxt _ =>
  some true
theorem qdM {list:(List qp)} {positive:Bool} (ha1:GoT.R w (old w) list cs1) {r:Bool} (hF:qcq n list positive=some r):RetV Tryz.prog 229 [GoT.v (List qp) cs1,.bool positive] w r:=by
 obtain ⟨p1,k1,rfl,s1⟩:=ha1
 refine zV 33 Tryz.func229 rfl fun h=>X0 11 rfl (qg rfl hF ?_ ?_)<;>intro hF
 ·exact X0 4 rfl (rb h hF rfl)
 refine X0 6 rfl ?_
 obtain ⟨o1,hF,hK1⟩:=qe hF
 refine ql (rL (fun m e w'=>∃ (i1:Int),qbQ list positive m i1=some o1∧e=[(0,.slice p1 list.length k1),(1,.bool positive),(5,.int .i64 i1)]∧SH w w' []) n ⟨_,hF,rfl,h⟩ rfl ?_)
 rintro m1 e1 w1 ⟨i1,hF,rfl,h⟩
 rcases m1 with _|m1
 ·cases hF
 refine X0 6 rfl (qg rfl hF ?_ ?_)<;>intro hF
 ·refine X0 7 rfl ?_
  obtain ⟨y1,hy1,hF,he1,b1,_,q1,cs2,hp1,hq1,hr1,hc3⟩:=s1.ix hF
  obtain ⟨p2,k2,p3,k3,p4,k4,rfl,s2,s3,s4⟩:=qaP hr1
  refine zxe hp1 hq1 he1 rfl (zc 0 (hc3.below h.below) rfl ?_)
  obtain ⟨r1,hr2,hF⟩:=qe hF
  obtain ⟨r2,r3⟩:=r1
  refine qgB (r2,r3) h (cB 257 rfl) (qjK (qgy y1 (h.oldS s2) (h.oldS s3) (h.oldS s4)) hr2) rfl rfl rfl rfl fun w2 S1 us1 hv1 hr3=>?_
  obtain ⟨S2,S3,cs3,us2,rfl,hv2,hr4⟩:=hv1.cons hr3
  obtain rfl:=qo9 (hv2.sh.own 0 rfl)
  obtain ⟨rfl,h⟩:=hv2.lastI hr4
  refine zp3 rfl (qB qb h rfl rfl rfl fun w3 bb1 h=>zs 0 h rfl fun w4 h=>X0 7 rfl (qi (t:=25) hF rfl ?_ ?_))<;>intro hF
  ·refine X0 8 rfl (qdp rfl rfl (X0 4 rfl ?_))
   obtain rfl:=qa hF;replace hF:=hK1
   exact rb h hF rfl
  refine X0 4 rfl (qi (t:=27) hF rfl ?_ ?_)<;>intro hF
  ·refine X1 10 0 h rfl (qg rfl hF ?_ ?_)<;>intro hF
   ·refine X0 4 rfl ?_
    obtain rfl:=qa hF;replace hF:=hK1
    exact rb h hF rfl
   refine X0 7 rfl ?_
   replace h:=h.pick [] rfl
   exact rK ⟨_,hF,rfl,h⟩ rfl
  refine X0 7 rfl (qfi rfl rfl (X0 7 rfl ?_))
  replace h:=h.pick [] rfl
  exact rK ⟨_,hF,rfl,h⟩ rfl
 refine qq rfl ?_
 obtain rfl:=qa hF;replace hF:=hK1
 exact X0 4 rfl (rb h hF rfl)
def qh4 (n:Nat) (a_0:qn) (a_1:qF):Option Bool :=
 (
  (qY n a_1.Av 0 (W64 ((W64 ((a_0.Am.length:Int)-1))-1))).bind fun r7 =>
  bif (!r7) then some true else
  (qY n a_1.To 0 (W64 ((a_0.Am.length:Int)-1))).bind fun r8 =>
  some (!r8)).bind fun b1 =>
 bif b1 then some false else
 (idx a_0.Am a_1.Av).bind fun y1 =>
 bif (a_1.Ap==1) then
  bif (!y1.Be) then
   bif (a_1.To==(W64 ((a_0.Am.length:Int)-1))) then
    (qY n a_1.Bf 1 3).bind fun r1 =>
    bif r1 then
     (qcq n a_1.Az true).bind fun r2 =>
     bif r2 then
      (qcq n a_1.Bi true).bind fun r3 =>
      some r3
     else
      some false
    else
     some false
   else
    some false
  else
   some false
 else
  (
   bif (a_1.Ap==2) then some (a_1.Ap==2) else
   some (a_1.Ap==3)).bind fun b3 =>
  bif b3 then
   bif y1.Be then
    bif (a_1.To==(W64 ((a_0.Am.length:Int)-1))) then
     bif (a_1.Bf==0) then
      (qcq n a_1.Az true).bind fun r4 =>
      bif r4 then
       (qcq n a_1.Bi true).bind fun r5 =>
       some r5
      else
       some false
     else
      some false
    else
     some false
   else
    some false
  else
   (
    bif (a_1.Ap==4) then some (a_1.Ap==4) else
    some (a_1.Ap==5)).bind fun b4 =>
   bif b4 then
    bif y1.Be then
     bif decide (a_1.To<(W64 ((a_0.Am.length:Int)-1))) then
      (idx a_0.Am a_1.To).bind fun y2 =>
      bif (!y2.Be) then
       bif (a_1.Bf==0) then
        (qcq n a_1.Az false).bind fun r6 =>
        bif r6 then some ((a_1.Bi.length:Int)==0) else
        some false
       else
        some false
      else
       some false
     else
      some false
    else
     some false
   else
    some false
theorem ql1 {a_0:qn} {a_1:qF} (ha1:GoT.R w (old w) a_0 cs1) (ha2:GoT.R w (old w) a_1 cs2) {r:Bool} (hF:qh4 n a_0 a_1=some r):RetV Tryz.prog 198 [GoT.v qn cs1,GoT.v qF cs2] w r:=by
 obtain ⟨p1,k1,p2,k2,p3,k3,rfl,s1,s2,s3⟩:=qL ha1
 obtain ⟨p4,k4,p5,k5,rfl,s4,s5⟩:=qak ha2
 refine zV 119 Tryz.func198 rfl fun h=>zSR (qr h rfl rfl fun w1 bb1 h=>qr h rfl rfl fun w2 bb2 h=>X1 12 1 h rfl ?_)
 obtain ⟨KF3,hKF3,o3,hF,hK3⟩:=bindE hF
 refine qbx (fun e w'=>∃ (b1:Bool),KF3 b1=some r∧e=[(2,.pointer (some ⟨bb1,0,none⟩)),(3,.pointer (some ⟨bb2,0,none⟩)),(5,.int .i64 (W64 ((a_0.Am.length:Int)-1))),(23,.bool b1)]∧SH w w' [Ch.box bb2 (qiW a_1 p4 p5 k4 k5) 183,Ch.box bb1 (qcV a_0 p1 p2 p3 k1 k2 k3) 169]) ?_ ?_
 ·refine X1 5 0 h rfl (zcB h hF qN rfl fun r7 w11 h hF=>zp2 rfl (qi (t:=17) hF rfl ?_ ?_))<;>intro hF
  ·refine X0 7 rfl ?_
   obtain rfl:=qa hF
   exact rG ⟨_,hK3,rfl,h⟩ rfl
  refine X1 7 0 h rfl (zcB h hF qN rfl fun r8 w12 h hF=>X0 4 rfl ?_)
  obtain rfl:=qa hF
  exact rG ⟨_,hK3,rfl,h⟩ rfl
 rintro e3 w13 ⟨b1,hF,rfl,h⟩
 subst hKF3
 refine qg rfl hF ?_ ?_<;>intro hF
 ·exact X0 4 rfl (rb h hF rfl)
 refine X2 7 1 0 h rfl ?_
 obtain ⟨y1,hy1,hF,he1,b2,_,q1,cs3,hp1,hq1,hr1,hc2⟩:=s1.ix hF
 obtain rfl:=qao hr1
 refine zxe hp1 hq1 he1 rfl (zp1 rfl (zc 3 (hc2.below h.below) rfl (X1 14 0 h rfl (qg rfl hF ?_ ?_))))<;>intro hF
 ·refine X0 5 rfl (qi (t:=37) hF rfl ?_ ?_)<;>intro hF
  ·refine X1 10 0 h rfl (qi (t:=43) hF rfl ?_ ?_)<;>intro hF
   ·refine X1 5 0 h rfl (zcB h hF qN rfl fun r1 w3 h hF=>zp2 rfl (qi (t:=48) hF rfl ?_ ?_))<;>intro hF
    ·refine X1 5 0 h rfl (zcB h hF (qdM ⟨_,_,rfl,(h.oldS s4)⟩) rfl fun r2 w4 h hF=>zp2 rfl (qi (t:=53) hF rfl ?_ ?_))<;>intro hF
     ·exact X1 5 0 h rfl (zcB h hF (qdM ⟨_,_,rfl,(h.oldS s5)⟩) rfl fun r3 w5 h hF=>X0 3 rfl (rb h hF rfl))
     exact X0 6 rfl (rb h hF rfl)
    exact X0 11 rfl (rb h hF rfl)
   exact X0 16 rfl (rb h hF rfl)
  exact X0 22 rfl (rb h hF rfl)
 refine X0 6 rfl ?_
 obtain ⟨KF2,hKF2,o2,hF,hK2⟩:=bindE hF
 refine qbx (fun e w'=>∃ (b3:Bool),KF2 b3=some r∧e=[(2,.pointer (some ⟨bb1,0,none⟩)),(3,.pointer (some ⟨bb2,0,none⟩)),(5,.int .i64 (W64 ((a_0.Am.length:Int)-1))),(6,.bool y1.Be),(32,.int .i64 a_1.Ap),(58,.bool b3)]∧SH w w' [Ch.box bb2 (qiW a_1 p4 p5 k4 k5) 183,Ch.box bb1 (qcV a_0 p1 p2 p3 k1 k2 k3) 169]) ?_ ?_
 ·refine qg rfl hF ?_ ?_<;>intro hF
  ·refine qeT ?_
   obtain rfl:=qa hF
   exact rG ⟨_,hK2,rfl,h⟩ rfl
  refine X0 4 rfl ?_
  obtain rfl:=qa hF
  exact rG ⟨_,hK2,rfl,h⟩ rfl
 rintro e2 w10 ⟨b3,hF,rfl,h⟩
 subst hKF2
 refine qg rfl hF ?_ ?_<;>intro hF
 ·refine X0 4 rfl (qi (t:=62) hF rfl ?_ ?_)<;>intro hF
  ·refine X1 10 0 h rfl (qi (t:=68) hF rfl ?_ ?_)<;>intro hF
   ·refine X1 8 0 h rfl (qi (t:=73) hF rfl ?_ ?_)<;>intro hF
    ·refine X1 5 0 h rfl (zcB h hF (qdM ⟨_,_,rfl,(h.oldS s4)⟩) rfl fun r4 w6 h hF=>zp2 rfl (qi (t:=78) hF rfl ?_ ?_))<;>intro hF
     ·exact X1 5 0 h rfl (zcB h hF (qdM ⟨_,_,rfl,(h.oldS s5)⟩) rfl fun r5 w7 h hF=>X0 3 rfl (rb h hF rfl))
     exact X0 6 rfl (rb h hF rfl)
    exact X0 11 rfl (rb h hF rfl)
   exact X0 16 rfl (rb h hF rfl)
  exact X0 22 rfl (rb h hF rfl)
 refine X0 6 rfl ?_
 obtain ⟨KF1,hKF1,o1,hF,hK1⟩:=bindE hF
 refine qbx (fun e w'=>∃ (b4:Bool),KF1 b4=some r∧e=[(2,.pointer (some ⟨bb1,0,none⟩)),(3,.pointer (some ⟨bb2,0,none⟩)),(5,.int .i64 (W64 ((a_0.Am.length:Int)-1))),(6,.bool y1.Be),(83,.bool b4)]∧SH w w' [Ch.box bb2 (qiW a_1 p4 p5 k4 k5) 183,Ch.box bb1 (qcV a_0 p1 p2 p3 k1 k2 k3) 169]) ?_ ?_
 ·refine qg rfl hF ?_ ?_<;>intro hF
  ·refine qeT ?_
   obtain rfl:=qa hF
   exact rG ⟨_,hK1,rfl,h⟩ rfl
  refine X0 4 rfl ?_
  obtain rfl:=qa hF
  exact rG ⟨_,hK1,rfl,h⟩ rfl
 rintro e1 w9 ⟨b4,hF,rfl,h⟩
 subst hKF1
 refine qg rfl hF ?_ ?_<;>intro hF
 ·refine X0 4 rfl (qi (t:=87) hF rfl ?_ ?_)<;>intro hF
  ·refine X1 10 0 h rfl (qi (t:=93) hF rfl ?_ ?_)<;>intro hF
   ·refine X2 9 1 0 h rfl ?_
    obtain ⟨y2,hy2,hF,he2,b5,_,q2,cs4,hp2,hq2,hr7,hc6⟩:=s1.ix hF
    obtain rfl:=qao hr7
    refine zxe hp2 hq2 he2 rfl (X0 3 rfl (zc 3 (hc6.below h.below) rfl (X0 4 rfl (qi (t:=103) hF rfl ?_ ?_))))<;>intro hF
    ·refine X1 8 0 h rfl (qi (t:=108) hF rfl ?_ ?_)<;>intro hF
     ·refine X1 5 0 h rfl (zcB h hF (qdM ⟨_,_,rfl,(h.oldS s4)⟩) rfl fun r6 w8 h hF=>zp2 rfl (qi (t:=113) hF rfl ?_ ?_))<;>intro hF
      ·exact X1 11 0 h rfl (rb h hF rfl)
      exact X0 7 rfl (rb h hF rfl)
     exact X0 12 rfl (rb h hF rfl)
    exact X0 17 rfl (rb h hF rfl)
   exact X0 27 rfl (rb h hF rfl)
  exact X0 33 rfl (rb h hF rfl)
 exact X0 6 rfl (rb h hF rfl)
def qce (c:qn):Nat→(List Int)→Int→Option ((List Int) × Int)
 | 0,_,_=>none
 | n+1,x2,i1 =>
  bif decide (i1<(c.Ar.length:Int)) then
   (idx c.Ar i1).bind fun y1 =>
   (idx x2 y1.Ap).bind fun y2 =>
   (idx x2 y1.Ap).bind fun _ =>
   qce c n (setS x2 y1.Ap (W64 (y2+1))) (W64 (i1+1))
  else
   some (x2,i1)
def qgN (n:Nat) (c:qn):Option (List Int) :=
 (mkS 6 (0:Int)).bind fun x1 =>
 (qce c n x1 0).bind fun o=>match o with
 | (x2,_) =>
  some x2
theorem qk1 {c:qn} (ha1:GoT.R w (old w) c cs1) {r:(List Int)} (hF:qgN n c=some r):RetV Tryz.prog 199 [GoT.v qn cs1] w r:=by
 obtain ⟨p1,k1,p2,k2,p3,k3,rfl,s1,s2,s3⟩:=qL ha1
 refine zV 25 Tryz.func199 rfl fun h=>zSR (qr h rfl rfl fun w1 bb1 h=>X0 4 rfl ?_)
 obtain ⟨x1,hx1,hF⟩:=qe hF
 obtain ⟨g1,g2,hx1⟩:=qcM hx1
 refine qdY qb Int h rfl rfl rfl rfl rfl rfl rfl rfl rfl g1 g2 hx1 rfl fun w2 S1 p4 h=>X0 7 rfl ?_
 obtain ⟨o1,hF,hK1⟩:=qe hF
 refine ql (rL (fun m e w'=>∃ (x2:(List Int)) (i1:Int),qce c m x2 i1=some o1∧e=[(1,.pointer (some ⟨bb1,0,none⟩)),(3,.slice p4 x1.length x1.length),(4,.int .i64 i1)]∧SH w w' [Ch.own S1 (x2:List Int) [.slice p4 x1.length x1.length],Ch.box bb1 (qcV c p1 p2 p3 k1 k2 k3) 169]) n ⟨_,_,hF,rfl,h⟩ rfl ?_)
 rintro m1 e1 w3 ⟨x2,i1,hF,rfl,h⟩
 rcases m1 with _|m1
 ·cases hF
 refine X1 9 1 h rfl (qg rfl hF ?_ ?_)<;>intro hF
 ·refine X1 8 1 h rfl ?_
  obtain ⟨y1,hy1,hF,he1,b1,_,q1,cs2,hp1,hq1,hr1,hc2⟩:=s2.ix hF
  obtain ⟨p5,k4,p6,k5,rfl,s4,s5⟩:=qak hr1
  refine zxe hp1 hq1 he1 rfl (zp1 rfl (zc 0 (hc2.below h.below) rfl ?_))
  obtain ⟨y2,hy2,hF,he2,b2,_,q2,cs3,hp2,hq2,rfl,hc3⟩:=(h.sl 0 rfl).1.ix hF
  refine zx hp2 hq2 ⟨he2.1,qI he2.2.1 (h.sl 0 rfl).2⟩ rfl (zc 0 hc3 rfl (zp1 rfl ?_))
  obtain ⟨y3,hy3,hF,he3,b3,_,q3,cs4,hp3,hq3,rfl,hc4⟩:=(h.sl 0 rfl).1.ix hF
  exact zx hp3 hq3 ⟨he3.1,qI he3.2.1 (h.sl 0 rfl).2⟩ rfl (qbK qb 0 0 (W64 (y2+1)) h rfl hy3 hp3 hq3 rfl hc4 rfl rfl rfl rfl rfl rfl rfl fun w4 h=>X0 7 rfl (rK ⟨_,_,hF,rfl,h⟩ rfl))
 refine qq rfl ?_
 obtain rfl:=qa hF;replace hF:=hK1
 refine X0 5 rfl ?_
 obtain rfl:=qa hF
 exact rO 0 h rfl ⟨rfl,trivial⟩
def qcp (a_0:qn) (i1:Int) (y1:qF):Nat→Int→Option (Flow Bool Int)
 | 0,_=>none
 | n+1,i2 =>
  bif decide (i2<i1) then
   (idx a_0.Ar i2).bind fun y2 =>
   bif (y2.Ap==y1.Ap) then
    (idx a_0.Ar i2).bind fun y3 =>
    bif (y3.Av==y1.Av) then
     (idx a_0.Ar i2).bind fun y4 =>
     bif (y4.To==y1.To) then some (.ret false) else
     qcp a_0 i1 y1 n (W64 (i2+1))
    else
     qcp a_0 i1 y1 n (W64 (i2+1))
   else
    qcp a_0 i1 y1 n (W64 (i2+1))
  else
   some (.nxt i2)
def qd5 (a_0:qn):Nat→Int→Option (Flow Bool Int)
 | 0,_=>none
 | n+1,i3 =>
  bif decide (i3<(a_0.Ay.length:Int)) then
   (idx a_0.Ay i3).bind fun y5 =>
   (qY n y5 0 1).bind fun r6 =>
   bif (!r6) then some (.ret false) else
   qd5 a_0 n (W64 (i3+1))
  else
   some (.nxt i3)
def qei (a_0:qn):Nat→Int→Option (Flow Bool Int)
 | 0,_=>none
 | n+1,i1 =>
  bif decide (i1<(a_0.Ar.length:Int)) then
   (idx a_0.Ar i1).bind fun y1 =>
   (qh4 n a_0 y1).bind fun r4 =>
   bif (!r4) then some (.ret false) else
   (qcp a_0 i1 y1 n 0).bind fun o=>match o with
   | .ret r=>some (.ret r)
   | .nxt _ =>
    qei a_0 n (W64 (i1+1))
  else
   some (.nxt i1)
def qid (n:Nat) (a_0:qn):Option Bool :=
 (qhp n a_0).bind fun o=>match o with
  | (r2,r3) =>
   (
    bif (!r3) then some true else
    (qfv n a_0.Aq).bind fun r7 =>
    bif (!r7) then some true else
    bif decide ((a_0.Ar.length:Int) > 8) then some true else
    (qY n a_0.Bo 0 100000).bind fun r8 =>
    bif (!r8) then some true else
    (qY n a_0.Bj 0 100000).bind fun r9 =>
    some (!r9)).bind fun b1 =>
   bif b1 then some false else
   (qei a_0 n 0).bind fun o=>match o with
   | .ret r=>some r
   | .nxt _ =>
    (qgN n a_0).bind fun r5 =>
    bif (a_0.Ap==1) then
     (qd5 a_0 n 0).bind fun o=>match o with
     | .ret r=>some r
     | .nxt _ =>
      bif (r2==0) then
       (shlS 1 (IntKind.wrap .u64 (W64 ((a_0.Am.length:Int)-1)))).bind fun y6 =>
       some ((a_0.Ay.length:Int)==y6)
      else
       some false
    else
     bif (a_0.Ap==2) then
      bif (r2==1) then
       (idx r5 1).bind fun y7 =>
       bif (y7==0) then
        (idx r5 2).bind fun y8 =>
        (idx r5 3).bind fun y9 =>
        bif (!((decide (y8 > 0))==(decide (y9 > 0)))) then some ((a_0.Ay.length:Int)==0) else
        some false
       else
        some false
      else
       some false
     else
      bif (a_0.Ap==3) then
       bif (r2==1) then
        (idx r5 1).bind fun y10 =>
        bif decide (y10 > 0) then
         (idx r5 2).bind fun y11 =>
         bif decide (y11 > 0) then
          (idx r5 3).bind fun y12 =>
          bif (y12==0) then some ((a_0.Ay.length:Int)==0) else
          some false
         else
          some false
        else
         some false
       else
        some false
      else
       some false
theorem ql8 {a_0:qn} (ha1:GoT.R w (old w) a_0 cs1) {r:Bool} (hF:qid n a_0=some r):RetV Tryz.prog 164 [GoT.v qn cs1] w r:=by
 obtain ⟨p1,k1,p2,k2,p3,k3,rfl,s1,s2,s3⟩:=qL ha1
 refine zV 182 Tryz.func164 rfl fun h=>zSR (qr h rfl rfl fun w1 bb1 h=>X1 5 0 h rfl ?_)
 obtain ⟨r1,hr1,hF⟩:=qe hF
 obtain ⟨r2,r3⟩:=r1
 refine qgB (r2,r3) h (cB 197 rfl) (qlF (h.old ha1) hr1) rfl rfl rfl rfl fun w2 S1 us1 hv1 hr2=>?_
 obtain ⟨S2,us2,rfl,hv2,hr3⟩:=hv1.consI hr2
 obtain ⟨rfl,h⟩:=hv2.lastB hr3
 refine X0 8 rfl ?_
 obtain ⟨KF1,hKF1,o4,hF,hK4⟩:=bindE hF
 refine qbx (fun e w'=>∃ (b1:Bool),KF1 b1=some r∧e=[(1,.pointer (some ⟨bb1,0,none⟩)),(3,.int .i64 r2),(40,.bool b1)]∧SH w w' [Ch.box bb1 (qcV a_0 p1 p2 p3 k1 k2 k3) 169]) ?_ ?_
 ·refine X0 4 rfl (qi (t:=17) hF rfl ?_ ?_)<;>intro hF
  ·refine X0 24 rfl ?_
   obtain rfl:=qa hF
   exact rG ⟨_,hK4,rfl,h⟩ rfl
  refine X1 5 0 h rfl (zcB h hF qg7 rfl fun r7 w18 h hF=>X0 4 rfl (qi (t:=23) hF rfl ?_ ?_))<;>intro hF
  ·refine X0 18 rfl ?_
   obtain rfl:=qa hF
   exact rG ⟨_,hK4,rfl,h⟩ rfl
  refine X1 10 0 h rfl (qi (t:=29) hF rfl ?_ ?_)<;>intro hF
  ·refine X0 12 rfl ?_
   obtain rfl:=qa hF
   exact rG ⟨_,hK4,rfl,h⟩ rfl
  refine X1 5 0 h rfl (zcB h hF qN rfl fun r8 w19 h hF=>X0 4 rfl (qi (t:=35) hF rfl ?_ ?_))<;>intro hF
  ·refine X0 6 rfl ?_
   obtain rfl:=qa hF
   exact rG ⟨_,hK4,rfl,h⟩ rfl
  refine X1 5 0 h rfl (zcB h hF qN rfl fun r9 w20 h hF=>X0 4 rfl ?_)
  obtain rfl:=qa hF
  exact rG ⟨_,hK4,rfl,h⟩ rfl
 rintro e4 w21 ⟨b1,hF,rfl,h⟩
 subst hKF1
 refine qg rfl hF ?_ ?_<;>intro hF
 ·exact X0 4 rfl (rb h hF rfl)
 refine X0 6 rfl ?_
 obtain ⟨o1,hF,hK1⟩:=qe hF
 refine ql (rL (fun m e w'=>∃ (i1:Int),qei a_0 m i1=some o1∧e=[(1,.pointer (some ⟨bb1,0,none⟩)),(3,.int .i64 r2),(5,.int .i64 i1)]∧SH w w' [Ch.box bb1 (qcV a_0 p1 p2 p3 k1 k2 k3) 169]) n ⟨_,hF,rfl,h⟩ rfl ?_)
 rintro m1 e1 w3 ⟨i1,hF,rfl,h⟩
 rcases m1 with _|m1
 ·cases hF
 refine X1 9 0 h rfl (qg rfl hF ?_ ?_)<;>intro hF
 ·refine X1 8 0 h rfl ?_
  obtain ⟨y1,hy1,hF,he1,b2,_,q1,cs2,hp1,hq1,hr5,hc3⟩:=s2.ix hF
  obtain ⟨p4,k4,p5,k5,rfl,s4,s5⟩:=qak hr5
  refine zxe hp1 hq1 he1 rfl (zc 0 (hc3.below h.below) rfl (qB qb h rfl rfl rfl fun w4 bb2 h=>zs 0 h rfl fun w5 h=>X2 6 1 0 h rfl (zcB h hF (ql1 (h.old ha1) (qfF y1 (h.oldS s4) (h.oldS s5))) rfl fun r4 w6 h hF=>X0 2 rfl (qg rfl hF ?_ ?_))))<;>intro hF
  ·refine X0 4 rfl ?_
   obtain rfl:=qa hF;replace hF:=hK1
   exact rb h hF rfl
  refine X0 5 rfl ?_
  obtain ⟨o2,hF,hK2⟩:=qe hF
  refine ql (rL (fun m e w'=>∃ (i2:Int),qcp a_0 i1 y1 m i2=some o2∧e=[(1,.pointer (some ⟨bb1,0,none⟩)),(3,.int .i64 r2),(5,.int .i64 i1),(6,.pointer (some ⟨bb2,0,none⟩)),(7,.int .i64 i2)]∧SH w w' [Ch.box bb2 (qiW y1 p4 p5 k4 k5) 183,Ch.box bb1 (qcV a_0 p1 p2 p3 k1 k2 k3) 169]) m1 ⟨_,hF,rfl,h⟩ rfl ?_)
  rintro m2 e2 w7 ⟨i2,hF,rfl,h⟩
  rcases m2 with _|m2
  ·cases hF
  refine X0 7 rfl (qg rfl hF ?_ ?_)<;>intro hF
  ·refine X0 4 rfl (rD (Y1 2 1 h rfl ?_))
   refine zd1 rfl ?_
   obtain ⟨y2,hy2,hF,he2,b3,_,q2,cs3,hp2,hq2,hr7,hc6⟩:=s2.ix hF
   obtain ⟨p6,k6,p7,k7,rfl,s6,s7⟩:=qak hr7
   refine zdxe hp2 hq2 he2 rfl (zd1 rfl (zdc 0 (hc6.below h.below) rfl (Y1 2 0 h rfl ?_)))
   refine zd2 rfl (qbm (t:=71) hF rfl ?_ ?_)<;>intro hF
   ·refine Y1 4 1 h rfl ?_
    refine Y0 3 rfl ?_
    obtain ⟨y3,hy3,hF,he3,b4,_,q3,cs4,hp3,hq3,hr8,hc7⟩:=s2.ix hF
    obtain ⟨p8,k8,p9,k9,rfl,s8,s9⟩:=qak hr8
    refine zdxe hp3 hq3 he3 rfl (Y0 3 rfl (zdc 1 (hc7.below h.below) rfl (Y1 4 0 h rfl ?_)))
    refine Y0 4 rfl (qbm (t:=82) hF rfl ?_ ?_)<;>intro hF
    ·refine Y1 4 1 h rfl ?_
     refine Y0 3 rfl ?_
     obtain ⟨y4,hy4,hF,he4,b5,_,q4,cs5,hp4,hq4,hr9,hc8⟩:=s2.ix hF
     obtain ⟨p10,k10,p11,k11,rfl,s10,s11⟩:=qak hr9
     refine zdxe hp4 hq4 he4 rfl (Y0 3 rfl (zdc 2 (hc8.below h.below) rfl (Y1 4 0 h rfl ?_)))
     refine Y0 3 rfl (dN h fun w8 h=>qg rfl hF ?_ ?_)<;>intro hF
     ·refine X0 4 rfl ?_
      obtain rfl:=qa hF;replace hF:=hK2
      obtain rfl:=qa hF;replace hF:=hK1
      exact rb h hF rfl
     exact X0 7 rfl (rK ⟨_,hF,rfl,h⟩ rfl)
    exact Y0 10 rfl (dN h fun w9 h=>qfi rfl rfl (X0 7 rfl (rK ⟨_,hF,rfl,h⟩ rfl)))
   exact Y0 21 rfl (dN h fun w10 h=>qfi rfl rfl (X0 7 rfl (rK ⟨_,hF,rfl,h⟩ rfl)))
  refine qq rfl ?_
  obtain rfl:=qa hF;replace hF:=hK2
  refine X0 6 rfl ?_
  replace h:=h.pick [1] rfl
  exact rK ⟨_,hF,rfl,h⟩ rfl
 refine qq rfl ?_
 obtain rfl:=qa hF;replace hF:=hK1
 refine X1 3 0 h rfl (zcL h hF (qk1 (h.old ha1)) rfl fun r5 w11 S4 p12 k12 h hF=>X1 14 1 h rfl (qg rfl hF ?_ ?_))<;>intro hF
 ·refine X0 5 rfl ?_
  obtain ⟨o3,hF,hK3⟩:=qe hF
  refine ql ?_
  replace h:=h.pick [1] rfl
  refine rL (fun m e w'=>∃ (i3:Int),qd5 a_0 m i3=some o3∧e=[(1,.pointer (some ⟨bb1,0,none⟩)),(3,.int .i64 r2),(9,.int .i64 i3)]∧SH w w' [Ch.box bb1 (qcV a_0 p1 p2 p3 k1 k2 k3) 169]) n ⟨_,hF,rfl,h⟩ rfl ?_
  rintro m3 e3 w12 ⟨i3,hF,rfl,h⟩
  rcases m3 with _|m3
  ·cases hF
  refine X1 9 0 h rfl (qg rfl hF ?_ ?_)<;>intro hF
  ·refine X1 8 0 h rfl ?_
   obtain ⟨y5,hy5,hF,he5,b6,_,q5,cs6,hp5,hq5,rfl,hc12⟩:=s3.ix hF
   refine zxe hp5 hq5 he5 rfl (zc 0 (hc12.below h.below) rfl (zcB h hF qN rfl fun r6 w13 h hF=>X0 2 rfl (qg rfl hF ?_ ?_)))<;>intro hF
   ·refine X0 4 rfl ?_
    obtain rfl:=qa hF;replace hF:=hK3
    exact rb h hF rfl
   exact X0 7 rfl (rK ⟨_,hF,rfl,h⟩ rfl)
  refine qq rfl ?_
  obtain rfl:=qa hF;replace hF:=hK3
  refine X0 5 rfl (qi (t:=115) hF rfl ?_ ?_)<;>intro hF
  ·refine X2 17 0 0 h rfl ?_
   obtain ⟨y6,hx1,hF⟩:=qe hF
   obtain ⟨g1,hx1⟩:=qm1 hx1
   refine r_v (qst g1 rfl rfl) rfl ?_
   rw [hx1]
   exact X0 5 rfl (rb h hF rfl)
  exact X0 13 rfl (rb h hF rfl)
 refine X0 5 rfl (qg rfl hF ?_ ?_)<;>intro hF
 ·refine qfc (rD (zd3 rfl (qbm (t:=131) hF rfl ?_ ?_)))<;>intro hF
  ·refine Y0 3 rfl ?_
   obtain ⟨y7,hy6,hF,he6,b7,_,q6,cs7,hp6,hq6,rfl,hc15⟩:=(h.sl 0 rfl).1.ix hF
   refine zdx hp6 hq6 ⟨he6.1,qI he6.2.1 (h.sl 0 rfl).2⟩ rfl (Y0 1 rfl (zdc 0 hc15 rfl (Y0 4 rfl (qbm (t:=137) hF rfl ?_ ?_))))<;>intro hF
   ·refine Y0 3 rfl ?_
    obtain ⟨y8,hy7,hF,he7,b8,_,q7,cs8,hp7,hq7,rfl,hc16⟩:=(h.sl 0 rfl).1.ix hF
    refine zdx hp7 hq7 ⟨he7.1,qI he7.2.1 (h.sl 0 rfl).2⟩ rfl (Y0 1 rfl (zdc 0 hc16 rfl (Y0 5 rfl ?_)))
    obtain ⟨y9,hy8,hF,he8,b9,_,q8,cs9,hp8,hq8,rfl,hc17⟩:=(h.sl 0 rfl).1.ix hF
    refine zdx hp8 hq8 ⟨he8.1,qI he8.2.1 (h.sl 0 rfl).2⟩ rfl (Y0 1 rfl (zdc 0 hc17 rfl (Y0 6 rfl (qbm (t:=148) hF rfl ?_ ?_))))<;>intro hF
    ·refine Y1 4 1 h rfl ?_
     exact Y0 6 rfl (dN h fun w14 h=>rb h hF rfl)
    exact Y0 6 rfl (dN h fun w15 h=>rb h hF rfl)
   exact Y0 17 rfl (dN h fun w16 h=>rb h hF rfl)
  exact Y0 23 rfl (dN h fun w17 h=>rb h hF rfl)
 refine X0 5 rfl (qg rfl hF ?_ ?_)<;>intro hF
 ·refine X0 5 rfl (qi (t:=158) hF rfl ?_ ?_)<;>intro hF
  ·refine X0 3 rfl ?_
   obtain ⟨y10,hy9,hF,he9,b10,_,q9,cs10,hp9,hq9,rfl,hc19⟩:=(h.sl 0 rfl).1.ix hF
   refine zx hp9 hq9 ⟨he9.1,qI he9.2.1 (h.sl 0 rfl).2⟩ rfl (X0 1 rfl (zc 0 hc19 rfl (X0 4 rfl (qi (t:=164) hF rfl ?_ ?_))))<;>intro hF
   ·refine X0 3 rfl ?_
    obtain ⟨y11,hy10,hF,he10,b11,_,q10,cs11,hp10,hq10,rfl,hc20⟩:=(h.sl 0 rfl).1.ix hF
    refine zx hp10 hq10 ⟨he10.1,qI he10.2.1 (h.sl 0 rfl).2⟩ rfl (X0 1 rfl (zc 0 hc20 rfl (X0 4 rfl (qi (t:=170) hF rfl ?_ ?_))))<;>intro hF
    ·refine X0 3 rfl ?_
     obtain ⟨y12,hy11,hF,he11,b12,_,q11,cs12,hp11,hq11,rfl,hc21⟩:=(h.sl 0 rfl).1.ix hF
     refine zx hp11 hq11 ⟨he11.1,qI he11.2.1 (h.sl 0 rfl).2⟩ rfl (X0 1 rfl (zc 0 hc21 rfl (X0 4 rfl (qi (t:=176) hF rfl ?_ ?_))))<;>intro hF
     ·exact X1 11 1 h rfl (rb h hF rfl)
     exact X0 7 rfl (rb h hF rfl)
    exact X0 13 rfl (rb h hF rfl)
   exact X0 19 rfl (rb h hF rfl)
  exact X0 25 rfl (rb h hF rfl)
 exact X0 6 rfl (rb h hF rfl)
def qcD (l:qh) (i1:Int):Nat→Int→Option (Flow Bool Int)
 | 0,_=>none
 | n+1,i2 =>
  bif decide (i2<i1) then
   (idx l.Ai i2).bind fun y2 =>
   (idx l.Ai i1).bind fun y3 =>
   bif (y2.Aq.toList==y3.Aq.toList) then some (.ret false) else
   qcD l i1 n (W64 (i2+1))
  else
   some (.nxt i2)
def qcw (l:qh):Nat→Int→Option (Flow Bool Int)
 | 0,_=>none
 | n+1,i1 =>
  bif decide (i1<(l.Ai.length:Int)) then
   (idx l.Ai i1).bind fun y1 =>
   (qid n y1).bind fun r1 =>
   bif (!r1) then some (.ret false) else
   (qcD l i1 n 0).bind fun o=>match o with
   | .ret r=>some (.ret r)
   | .nxt _ =>
    qcw l n (W64 (i1+1))
  else
   some (.nxt i1)
def qgh (n:Nat) (l:qh):Option Bool :=
 (qcw l n 0).bind fun o=>match o with
 | .ret r=>some r
 | .nxt _ =>
  some (decide ((l.Ai.length:Int)≤8))
theorem qks {l:qh} (ha1:GoT.R w (old w) l cs1) {r:Bool} (hF:qgh n l=some r):RetV Tryz.prog 133 [GoT.v qh cs1] w r:=by
 obtain ⟨p1,k1,rfl,s1⟩:=qU ha1
 refine zV 41 Tryz.func133 rfl fun h=>zSR (qr h rfl rfl fun w1 bb1 h=>X0 7 rfl ?_)
 obtain ⟨o1,hF,hK1⟩:=qe hF
 refine ql (rL (fun m e w'=>∃ (i1:Int),qcw l m i1=some o1∧e=[(1,.pointer (some ⟨bb1,0,none⟩)),(3,.int .i64 i1)]∧SH w w' [Ch.box bb1 [.slice p1 l.Ai.length k1] 41]) n ⟨_,hF,rfl,h⟩ rfl ?_)
 rintro m1 e1 w2 ⟨i1,hF,rfl,h⟩
 rcases m1 with _|m1
 ·cases hF
 refine X1 9 0 h rfl (qg rfl hF ?_ ?_)<;>intro hF
 ·refine X1 9 0 h rfl ?_
  obtain ⟨y1,hy1,hF,he1,b1,_,q1,cs2,hp1,hq1,hr1,hc2⟩:=s1.ix hF
  obtain ⟨p2,k2,p3,k3,p4,k4,rfl,s2,s3,s4⟩:=qL hr1
  refine zxe hp1 hq1 he1 rfl (zc 0 (hc2.below h.below) rfl (zcB h hF (ql8 (qhE y1 (h.oldS s2) (h.oldS s3) (h.oldS s4))) rfl fun r1 w3 h hF=>X0 2 rfl (qg rfl hF ?_ ?_)))<;>intro hF
  ·refine X0 4 rfl ?_
   obtain rfl:=qa hF;replace hF:=hK1
   exact rb h hF rfl
  refine X0 5 rfl ?_
  obtain ⟨o2,hF,hK2⟩:=qe hF
  refine ql (rL (fun m e w'=>∃ (i2:Int),qcD l i1 m i2=some o2∧e=[(1,.pointer (some ⟨bb1,0,none⟩)),(3,.int .i64 i1),(4,.int .i64 i2)]∧SH w w' [Ch.box bb1 [.slice p1 l.Ai.length k1] 41]) m1 ⟨_,hF,rfl,h⟩ rfl ?_)
  rintro m2 e2 w4 ⟨i2,hF,rfl,h⟩
  rcases m2 with _|m2
  ·cases hF
  refine X0 7 rfl (qg rfl hF ?_ ?_)<;>intro hF
  ·refine X0 4 rfl (rD (Y1 2 0 h rfl ?_))
   refine zd1 rfl ?_
   obtain ⟨y2,hy2,hF,he2,b2,_,q2,cs3,hp2,hq2,hr3,hc5⟩:=s1.ix hF
   obtain ⟨p5,k5,p6,k6,p7,k7,rfl,s5,s6,s7⟩:=qL hr3
   refine zdxe hp2 hq2 he2 rfl (zd1 rfl (zdc 0 (hc5.below h.below) rfl (Y1 2 0 h rfl ?_)))
   refine zd1 rfl ?_
   obtain ⟨y3,hy3,hF,he3,b3,_,q3,cs4,hp3,hq3,hr4,hc6⟩:=s1.ix hF
   obtain ⟨p8,k8,p9,k9,p10,k10,rfl,s8,s9,s10⟩:=qL hr4
   refine zdxe hp3 hq3 he3 rfl (zd1 rfl (zdc 0 (hc6.below h.below) rfl (zd1 rfl (dN h fun w5 h=>qg rfl hF ?_ ?_))))<;>intro hF
   ·refine X0 4 rfl ?_
    obtain rfl:=qa hF;replace hF:=hK2
    obtain rfl:=qa hF;replace hF:=hK1
    exact rb h hF rfl
   exact X0 7 rfl (rK ⟨_,hF,rfl,h⟩ rfl)
  refine qq rfl ?_
  obtain rfl:=qa hF;replace hF:=hK2
  exact X0 6 rfl (rK ⟨_,hF,rfl,h⟩ rfl)
 refine qq rfl ?_
 obtain rfl:=qa hF;replace hF:=hK1
 exact X1 8 0 h rfl (rb h hF rfl)
end Go.Fw
