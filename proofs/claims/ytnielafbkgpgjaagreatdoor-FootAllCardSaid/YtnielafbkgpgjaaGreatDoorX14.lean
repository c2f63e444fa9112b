/-
  DERIVED: THE SHELF's CONTRACTS AT THIS DUMP, IN PLAIN WORDS (tools/lay-plain.mjs out of 'TryzShelf.lean', which tools/lay-shelf.mjs wrote): THE SAME DECLARATIONS UNDER THE SAME NAMES: 'import', 'namespace', 'open', 'def', 'theorem' AND NOTHING ELSE: no command of the shelf's: FOR A HAND-IN. Each laying: the table of numbers ('.._ren') and one theorem, a field a fact of the dump's own or the kernel's comparison; each contract: ONE APPLICATION.
-/
import Derived.Shelf.Strings.Builder1
import Derived.Shelf.Strings.Builder2
import Derived.Shelf.Strings.OnBuilder
import Derived.Shelf.Small.Strs
import Derived.Shelf.Small.Wraps
import Derived.Shelf.Strconv.Itoa0
import Derived.Shelf.Strconv.Itoa1
import Derived.Shelf.LaysM
import Derived.Shelf.Strconv.Itoa2
import Derived.Shelf.Strconv.Itoa3
import Derived.Shelf.Strconv.Itoa4
import Derived.Shelf.Strconv.ParseIntEmpty
import Derived.Shelf.Strconv.Clone
import Derived.Shelf.Strconv.SyntaxError
import Derived.Shelf.LaysC
import Derived.Shelf.Strconv.ToError
import Derived.Shelf.Strconv.Lower
import Derived.Shelf.Strconv.ParseUint10
import Derived.Shelf.Strconv.ParseUint10Empty
import Derived.Shelf.Strconv.ParseUint10Any
import Derived.Shelf.Strconv.ParseInt10
import Derived.Shelf.Strconv.RangeError
import Derived.Shelf.Strconv.ToErrorRange
import Derived.Shelf.Strconv.ParseUintEmpty
import Derived.Shelf.Strconv.ParseUint10b64
import Derived.Shelf.Strconv.ParseUint10b32
import Derived.Shelf.Strconv.ParseUint10b16
import Derived.Shelf.Strconv.ParseUint10b8
import Derived.Shelf.Strconv.ParseUint10At
import Derived.Shelf.Strconv.ParseInt10At64
import Derived.Shelf.Strconv.ParseInt10At32
import Derived.Shelf.Strconv.ParseInt10At16
import Derived.Shelf.Strconv.ParseInt10At8
import Derived.Shelf.Strconv.ParseInt10All
import Derived.Shelf.Strconv.ParseIntPublic10
import Derived.Shelf.Strconv.ErrVarParseInt
import Derived.Shelf.Strings.Search1
import Derived.Shelf.Strings.LastIndex
import Derived.Shelf.Strings.Prefix
import Derived.Shelf.Slices.Turned
import Derived.Test.YtnielafbkgpgjaaGreatDoorProg
import Derived.Laws.ComplexArith
import Derived.Test.YtnielafbkgpgjaaGreatDoorX1
set_option linter.all false
set_option maxRecDepth 100000
set_option maxHeartbeats 8000000
namespace Go.Proofs
open Go.Shelf
def Tryz.lays156_ren:Go.Shelf.Ren:=⟨fun|156=>107|165=>140|166=>141|169=>142|240=>169|241=>170|276=>184|277=>185|n=>n,fun|31=>39|9=>9|3=>3|4=>4|0=>0|20=>20|72=>234|76=>238|70=>231|37=>232|75=>237|127=>259|164=>269|5=>5|80=>126|n=>n,fun|n=>n⟩
theorem Tryz.lays156:Go.Proofs.Lays.n156 Tryz.prog Tryz.lays156_ren:={
 mixed:=by kernel_rfl
 f156:=Tryz.func107.trans (congrArg some (by kernel_rfl))
 f165:=Tryz.func140.trans (congrArg some (by kernel_rfl))
 f166:=Tryz.func141.trans (congrArg some (by kernel_rfl))
 f169:=Tryz.func142.trans (congrArg some (by kernel_rfl))
 f240:=Tryz.func169.trans (congrArg some (by kernel_rfl))
 f241:=Tryz.func170.trans (congrArg some (by kernel_rfl))
 f276:=Tryz.func184.trans (congrArg some (by kernel_rfl))
 f277:=Tryz.func185.trans (congrArg some (by kernel_rfl))
 t0:=Tryz.underlying0
 a0:=Tryz.isAgg0
 z0:=Tryz.sizeOf0
 v0:=Tryz.zeroValue0
 t3:=Tryz.underlying3
 a3:=Tryz.isAgg3
 z3:=Tryz.sizeOf3
 v3:=Tryz.zeroValue3
 t4:=Tryz.underlying4
 a4:=Tryz.isAgg4
 z4:=Tryz.sizeOf4
 v4:=Tryz.zeroValue4
 t9:=Tryz.underlying9
 a9:=Tryz.isAgg9
 z9:=Tryz.sizeOf9
 v9:=Tryz.zeroValue9
 t20:=Tryz.underlying20
 a20:=Tryz.isAgg20
 z20:=Tryz.sizeOf20
 v20:=Tryz.zeroValue20
 t31:=Tryz.underlying39
 a31:=Tryz.isAgg39
 z31:=Tryz.sizeOf39
 v31:=Tryz.zeroValue39
 t37:=Tryz.underlying232
 a37:=Tryz.isAgg232
 z37:=Tryz.sizeOf232
 v37:=Tryz.zeroValue232
 t70:=Tryz.underlying231
 a70:=Tryz.isAgg231
 z70:=Tryz.sizeOf231
 v70:=Tryz.zeroValue231
 t72:=Tryz.underlying234
 a72:=Tryz.isAgg234
 z72:=Tryz.sizeOf234
 v72:=Tryz.zeroValue234
 t75:=Tryz.underlying237
 a75:=Tryz.isAgg237
 z75:=Tryz.sizeOf237
 v75:=Tryz.zeroValue237
 t76:=Tryz.underlying238
 a76:=Tryz.isAgg238
 z76:=Tryz.sizeOf238
 v76:=Tryz.zeroValue238
 t127:=Tryz.underlying259
 a127:=Tryz.isAgg259
 z127:=Tryz.sizeOf259
 v127:=Tryz.zeroValue259
 t164:=Tryz.underlying269
 a164:=Tryz.isAgg269
 z164:=Tryz.sizeOf269
 v164:=Tryz.zeroValue269 }
theorem Tryz.Builder_Extra_156:Builder.Extra Tryz.prog Tryz.lays156_ren:={
 sizeBuilder:=by kernel_rfl
 liesBuilder:=by kernel_rfl
 t5:=Tryz.underlying5
 a5:=Tryz.isAgg5
 z5:=Tryz.sizeOf5
 v5:=Tryz.zeroValue5
 infoByte:=by kernel_rfl
 cellsByte:=by kernel_rfl
 sizeByte:=by kernel_rfl
 neB5:=by decide }
open Go.RowKit in
theorem Tryz.strings_Join_none (a:Option Addr) (c:Nat) (sep:ByteArray) (w:World):
 Calls Tryz.prog 107 #[.slice a 0 c,.string sep] w fun e w'=>e = .returned (.string ⟨#[]⟩)/\w' = w:=Any.strings_Join_none Tryz.lays156 Tryz.Builder_Extra_156 a c sep w
open Go.RowKit in
theorem Tryz.strings_Join (bk o c:Nat) (xs:List ByteArray) (sep:ByteArray) (w:World) (hcells:∀ (j:Nat) x,xs[j]? = some x->w.cell? ⟨bk,o+j,none⟩=some (.string x)) (hbk:bk<w.heap.size) (hN:xs.length<=140737488355328) (hcap:xs.length<=c) (hlen:(Lib.join (xs.map (·.data.toList)) sep.data.toList).length<=140737488355328):
 Calls Tryz.prog 107 #[.slice (some ⟨bk,o,none⟩) xs.length c,.string sep] w fun e w'=>e = .returned (.string ⟨(Lib.join (xs.map (·.data.toList)) sep.data.toList).toArray⟩)/\Below w.heap.size w w':=Any.strings_Join Tryz.lays156 Tryz.Builder_Extra_156 bk o c xs sep w hcells hbk hN hcap hlen
def Tryz.lays137_ren:Go.Shelf.Ren:=⟨fun|137=>73|217=>112|266=>144|n=>n,fun|9=>9|5=>5|3=>3|n=>n,fun|n=>n⟩
theorem Tryz.lays137:Go.Proofs.Lays.n137 Tryz.prog Tryz.lays137_ren:={
 mixed:=by kernel_rfl
 f137:=Tryz.func73.trans (congrArg some (by kernel_rfl))
 f217:=Tryz.func112.trans (congrArg some (by kernel_rfl))
 f266:=Tryz.func144.trans (congrArg some (by kernel_rfl))
 t3:=Tryz.underlying3
 a3:=Tryz.isAgg3
 z3:=Tryz.sizeOf3
 v3:=Tryz.zeroValue3
 t5:=Tryz.underlying5
 a5:=Tryz.isAgg5
 z5:=Tryz.sizeOf5
 v5:=Tryz.zeroValue5
 t9:=Tryz.underlying9
 a9:=Tryz.isAgg9
 z9:=Tryz.sizeOf9
 v9:=Tryz.zeroValue9 }
open Go.RowKit in
theorem Tryz.strings_IndexByte (s:ByteArray) (c:Int) (w:World):
 Calls Tryz.prog 73 #[.string s,.int .u8 c] w fun e w'=>e = .returned (.int .i64 (Lib.indexByte s.data.toList c.toNat.toUInt8))/\w' = w:=Any.strings_IndexByte Tryz.lays137 s c w
def Tryz.lays211_ren:Go.Shelf.Ren:=⟨fun|211=>153|207=>173|n=>n,fun|9=>9|4=>4|3=>3|n=>n,fun|n=>n⟩
def Tryz.lays104_ren:Go.Shelf.Ren:=⟨fun|104=>129|211=>153|207=>173|n=>n,fun|9=>9|4=>4|24=>222|3=>3|n=>n,fun|n=>n⟩
theorem Tryz.lays104:Go.Proofs.Lays.n104 Tryz.prog Tryz.lays104_ren:={
 mixed:=by kernel_rfl
 f104:=Tryz.func129.trans (congrArg some (by kernel_rfl))
 f207:=Tryz.func173.trans (congrArg some (by kernel_rfl))
 f211:=Tryz.func153.trans (congrArg some (by kernel_rfl))
 t3:=Tryz.underlying3
 a3:=Tryz.isAgg3
 z3:=Tryz.sizeOf3
 v3:=Tryz.zeroValue3
 t4:=Tryz.underlying4
 a4:=Tryz.isAgg4
 z4:=Tryz.sizeOf4
 v4:=Tryz.zeroValue4
 t9:=Tryz.underlying9
 a9:=Tryz.isAgg9
 z9:=Tryz.sizeOf9
 v9:=Tryz.zeroValue9
 t24:=Tryz.underlying222
 a24:=Tryz.isAgg222
 z24:=Tryz.sizeOf222
 v24:=Tryz.zeroValue222 }
open Go.RowKit in
theorem Tryz.strings_CutSuffix (s p:ByteArray) (w:World) (hs:s.size<=9223372036854775807):
 Calls Tryz.prog 129 #[.string s,.string p] w fun e w'=>e = .returned (.tuple #[.string ⟨(Lib.trimSuffix s.data.toList p.data.toList).toArray⟩,.bool (Lib.hasSuffix s.data.toList p.data.toList)])/\w' = w:=Any.strings_CutSuffix Tryz.lays104 s p w hs
def Tryz.lays215_ren:Go.Shelf.Ren:=⟨fun|215=>80|n=>n,fun|3=>3|4=>4|n=>n,fun|n=>n⟩
def Tryz.lays122_ren:Go.Shelf.Ren:=⟨fun|122=>55|215=>80|n=>n,fun|3=>3|4=>4|n=>n,fun|n=>n⟩
theorem Tryz.lays122:Go.Proofs.Lays.n122 Tryz.prog Tryz.lays122_ren:={
 mixed:=by kernel_rfl
 f122:=Tryz.func55.trans (congrArg some (by kernel_rfl))
 f215:=Tryz.func80.trans (congrArg some (by kernel_rfl))
 t3:=Tryz.underlying3
 a3:=Tryz.isAgg3
 z3:=Tryz.sizeOf3
 v3:=Tryz.zeroValue3
 t4:=Tryz.underlying4
 a4:=Tryz.isAgg4
 z4:=Tryz.sizeOf4
 v4:=Tryz.zeroValue4 }
open Go.RowKit in
theorem Tryz.cmp_Compare_int (x y:Int) (w:World):
 Calls Tryz.prog 55 #[.int .i64 x,.int .i64 y] w fun e w'=>e = .returned (.int .i64 (Lib.compareInt x y))/\w' = w:=Any.cmp_Compare_int Tryz.lays122 x y w
def Tryz.laysM246_ren:Go.Shelf.Ren:=⟨fun|246=>139|283=>165|284=>166|285=>167|286=>168|129=>128|317=>180|318=>181|319=>182|320=>183|337=>199|338=>200|n=>n,fun|2=>2|3=>3|9=>9|4=>4|171=>255|0=>0|53=>61|37=>232|5=>5|173=>257|212=>267|51=>220|20=>20|213=>268|46=>178|232=>291|233=>292|n=>n,fun|17=>3|18=>9|19=>10|n=>n⟩
def Tryz.laysM243_ren:Go.Shelf.Ren:=⟨fun|243=>105|246=>139|283=>165|284=>166|285=>167|286=>168|129=>128|317=>180|318=>181|319=>182|320=>183|337=>199|338=>200|n=>n,fun|3=>3|9=>9|2=>2|4=>4|171=>255|0=>0|53=>61|37=>232|5=>5|173=>257|212=>267|51=>220|20=>20|213=>268|46=>178|232=>291|233=>292|n=>n,fun|17=>3|18=>9|19=>10|n=>n⟩
def Tryz.laysM171_ren:Go.Shelf.Ren:=⟨fun|171=>69|243=>105|246=>139|283=>165|284=>166|285=>167|286=>168|129=>128|317=>180|318=>181|319=>182|320=>183|337=>199|338=>200|n=>n,fun|3=>3|9=>9|2=>2|4=>4|171=>255|0=>0|53=>61|37=>232|5=>5|173=>257|212=>267|51=>220|20=>20|213=>268|46=>178|232=>291|233=>292|n=>n,fun|17=>3|18=>9|19=>10|n=>n⟩
theorem Tryz.laysM171:Go.Proofs.LaysM.n171 Tryz.prog Tryz.laysM171_ren:={
 mixed:=by kernel_rfl
 f129:=Tryz.func128.trans (congrArg some (by kernel_rfl))
 f171:=Tryz.func69.trans (congrArg some (by kernel_rfl))
 f243:=Tryz.func105.trans (congrArg some (by kernel_rfl))
 f246:=Tryz.func139.trans (congrArg some (by kernel_rfl))
 f283:=Tryz.func165.trans (congrArg some (by kernel_rfl))
 f284:=Tryz.func166.trans (congrArg some (by kernel_rfl))
 f285:=Tryz.func167.trans (congrArg some (by kernel_rfl))
 f286:=Tryz.func168.trans (congrArg some (by kernel_rfl))
 f317:=Tryz.func180.trans (congrArg some (by kernel_rfl))
 f318:=Tryz.func181.trans (congrArg some (by kernel_rfl))
 f319:=Tryz.func182.trans (congrArg some (by kernel_rfl))
 f320:=Tryz.func183.trans (congrArg some (by kernel_rfl))
 f337:=Tryz.func199.trans (congrArg some (by kernel_rfl))
 f338:=Tryz.func200.trans (congrArg some (by kernel_rfl))
 t0:=Tryz.underlying0
 a0:=Tryz.isAgg0
 z0:=Tryz.sizeOf0
 v0:=Tryz.zeroValue0
 t2:=Tryz.underlying2
 a2:=Tryz.isAgg2
 z2:=Tryz.sizeOf2
 v2:=Tryz.zeroValue2
 t3:=Tryz.underlying3
 a3:=Tryz.isAgg3
 z3:=Tryz.sizeOf3
 v3:=Tryz.zeroValue3
 t4:=Tryz.underlying4
 a4:=Tryz.isAgg4
 z4:=Tryz.sizeOf4
 v4:=Tryz.zeroValue4
 t5:=Tryz.underlying5
 a5:=Tryz.isAgg5
 z5:=Tryz.sizeOf5
 v5:=Tryz.zeroValue5
 t9:=Tryz.underlying9
 a9:=Tryz.isAgg9
 z9:=Tryz.sizeOf9
 v9:=Tryz.zeroValue9
 t20:=Tryz.underlying20
 a20:=Tryz.isAgg20
 z20:=Tryz.sizeOf20
 v20:=Tryz.zeroValue20
 t37:=Tryz.underlying232
 a37:=Tryz.isAgg232
 z37:=Tryz.sizeOf232
 v37:=Tryz.zeroValue232
 t46:=Tryz.underlying178
 a46:=Tryz.isAgg178
 z46:=Tryz.sizeOf178
 v46:=Tryz.zeroValue178
 t51:=Tryz.underlying220
 a51:=Tryz.isAgg220
 z51:=Tryz.sizeOf220
 v51:=Tryz.zeroValue220
 t53:=Tryz.underlying61
 a53:=Tryz.isAgg61
 z53:=Tryz.sizeOf61
 v53:=Tryz.zeroValue61
 t171:=Tryz.underlying255
 a171:=Tryz.isAgg255
 z171:=Tryz.sizeOf255
 v171:=Tryz.zeroValue255
 t173:=Tryz.underlying257
 a173:=Tryz.isAgg257
 z173:=Tryz.sizeOf257
 v173:=Tryz.zeroValue257
 t212:=Tryz.underlying267
 a212:=Tryz.isAgg267
 z212:=Tryz.sizeOf267
 v212:=Tryz.zeroValue267
 t213:=Tryz.underlying268
 a213:=Tryz.isAgg268
 z213:=Tryz.sizeOf268
 t232:=Tryz.underlying291
 a232:=Tryz.isAgg291
 z232:=Tryz.sizeOf291
 v232:=Tryz.zeroValue291
 t233:=Tryz.underlying292
 a233:=Tryz.isAgg292
 z233:=Tryz.sizeOf292
 v233:=Tryz.zeroValue292
 g17:=by kernel_rfl
 g18:=by kernel_rfl
 g19:=by kernel_rfl
 i0:=by kernel_rfl
 i2:=by kernel_rfl
 i3:=by kernel_rfl
 i4:=by kernel_rfl
 i5:=by kernel_rfl
 i9:=by kernel_rfl
 i20:=by kernel_rfl
 i37:=by kernel_rfl
 i46:=by kernel_rfl
 i51:=by kernel_rfl
 i53:=by kernel_rfl
 i171:=by kernel_rfl
 i173:=by kernel_rfl
 i212:=by kernel_rfl
 i232:=by kernel_rfl
 i233:=by kernel_rfl
 m17:=by kernel_rfl
 m18:=by kernel_rfl
 m19:=by kernel_rfl }
open Go.RowKit Go.Sort Go.Lib in
theorem Tryz.strconv_Itoa (n:Int) (h0:-9223372036854775808<=n) (h1:n<=9223372036854775807) (w:World) (htab:Lib.TabIs Tryz.prog w "internal/strconv.uint64pow10" .u64 Lib.pow10Tab):
 Calls Tryz.prog 69 #[.int .i64 n] w fun e w'=>e = .returned (.string ⟨(Lib.itoa n).toArray⟩)/\∃ k os,w' = grow (w.drewN k) os:=Any.strconv_Itoa Tryz.laysM171 n h0 h1 w htab
def Tryz.laysM173_ren:Go.Shelf.Ren:=⟨fun|173=>155|246=>139|283=>165|284=>166|285=>167|286=>168|129=>128|317=>180|318=>181|319=>182|320=>183|337=>199|338=>200|n=>n,fun|2=>2|3=>3|9=>9|4=>4|171=>255|0=>0|53=>61|37=>232|5=>5|173=>257|212=>267|51=>220|20=>20|213=>268|46=>178|232=>291|233=>292|n=>n,fun|17=>3|18=>9|19=>10|n=>n⟩
theorem Tryz.laysM173:Go.Proofs.LaysM.n173 Tryz.prog Tryz.laysM173_ren:={
 mixed:=by kernel_rfl
 f129:=Tryz.func128.trans (congrArg some (by kernel_rfl))
 f173:=Tryz.func155.trans (congrArg some (by kernel_rfl))
 f246:=Tryz.func139.trans (congrArg some (by kernel_rfl))
 f283:=Tryz.func165.trans (congrArg some (by kernel_rfl))
 f284:=Tryz.func166.trans (congrArg some (by kernel_rfl))
 f285:=Tryz.func167.trans (congrArg some (by kernel_rfl))
 f286:=Tryz.func168.trans (congrArg some (by kernel_rfl))
 f317:=Tryz.func180.trans (congrArg some (by kernel_rfl))
 f318:=Tryz.func181.trans (congrArg some (by kernel_rfl))
 f319:=Tryz.func182.trans (congrArg some (by kernel_rfl))
 f320:=Tryz.func183.trans (congrArg some (by kernel_rfl))
 f337:=Tryz.func199.trans (congrArg some (by kernel_rfl))
 f338:=Tryz.func200.trans (congrArg some (by kernel_rfl))
 t0:=Tryz.underlying0
 a0:=Tryz.isAgg0
 z0:=Tryz.sizeOf0
 v0:=Tryz.zeroValue0
 t2:=Tryz.underlying2
 a2:=Tryz.isAgg2
 z2:=Tryz.sizeOf2
 v2:=Tryz.zeroValue2
 t3:=Tryz.underlying3
 a3:=Tryz.isAgg3
 z3:=Tryz.sizeOf3
 v3:=Tryz.zeroValue3
 t4:=Tryz.underlying4
 a4:=Tryz.isAgg4
 z4:=Tryz.sizeOf4
 v4:=Tryz.zeroValue4
 t5:=Tryz.underlying5
 a5:=Tryz.isAgg5
 z5:=Tryz.sizeOf5
 v5:=Tryz.zeroValue5
 t9:=Tryz.underlying9
 a9:=Tryz.isAgg9
 z9:=Tryz.sizeOf9
 v9:=Tryz.zeroValue9
 t20:=Tryz.underlying20
 a20:=Tryz.isAgg20
 z20:=Tryz.sizeOf20
 v20:=Tryz.zeroValue20
 t37:=Tryz.underlying232
 a37:=Tryz.isAgg232
 z37:=Tryz.sizeOf232
 v37:=Tryz.zeroValue232
 t46:=Tryz.underlying178
 a46:=Tryz.isAgg178
 z46:=Tryz.sizeOf178
 v46:=Tryz.zeroValue178
 t51:=Tryz.underlying220
 a51:=Tryz.isAgg220
 z51:=Tryz.sizeOf220
 v51:=Tryz.zeroValue220
 t53:=Tryz.underlying61
 a53:=Tryz.isAgg61
 z53:=Tryz.sizeOf61
 v53:=Tryz.zeroValue61
 t171:=Tryz.underlying255
 a171:=Tryz.isAgg255
 z171:=Tryz.sizeOf255
 v171:=Tryz.zeroValue255
 t173:=Tryz.underlying257
 a173:=Tryz.isAgg257
 z173:=Tryz.sizeOf257
 v173:=Tryz.zeroValue257
 t212:=Tryz.underlying267
 a212:=Tryz.isAgg267
 z212:=Tryz.sizeOf267
 v212:=Tryz.zeroValue267
 t213:=Tryz.underlying268
 a213:=Tryz.isAgg268
 z213:=Tryz.sizeOf268
 t232:=Tryz.underlying291
 a232:=Tryz.isAgg291
 z232:=Tryz.sizeOf291
 v232:=Tryz.zeroValue291
 t233:=Tryz.underlying292
 a233:=Tryz.isAgg292
 z233:=Tryz.sizeOf292
 v233:=Tryz.zeroValue292
 g17:=by kernel_rfl
 g18:=by kernel_rfl
 g19:=by kernel_rfl
 i0:=by kernel_rfl
 i2:=by kernel_rfl
 i3:=by kernel_rfl
 i4:=by kernel_rfl
 i5:=by kernel_rfl
 i9:=by kernel_rfl
 i20:=by kernel_rfl
 i37:=by kernel_rfl
 i46:=by kernel_rfl
 i51:=by kernel_rfl
 i53:=by kernel_rfl
 i171:=by kernel_rfl
 i173:=by kernel_rfl
 i212:=by kernel_rfl
 i232:=by kernel_rfl
 i233:=by kernel_rfl
 m17:=by kernel_rfl
 m18:=by kernel_rfl
 m19:=by kernel_rfl }
open Go.RowKit Go.Sort Go.Lib in
theorem Tryz.strconv_FormatInt_10 (n:Int) (h0:-9223372036854775808<=n) (h1:n<=9223372036854775807) (w:World) (htab:Lib.TabIs Tryz.prog w "internal/strconv.uint64pow10" .u64 Lib.pow10Tab):
 Calls Tryz.prog 155 #[.int .i64 n,.int .i64 10] w fun e w'=>e = .returned (.string ⟨(Lib.itoa n).toArray⟩)/\∃ k os,w' = grow (w.drewN k) os:=Any.strconv_FormatInt_10 Tryz.laysM173 n h0 h1 w htab
def Tryz.laysC245_ren:Go.Shelf.Ren:=⟨fun|245=>175|279=>189|280=>190|281=>191|282=>192|316=>204|171=>69|205=>205|243=>105|246=>139|283=>165|284=>166|285=>167|286=>168|129=>128|317=>180|318=>181|319=>182|320=>183|337=>199|338=>200|n=>n,fun|9=>9|3=>3|75=>237|167=>273|4=>4|168=>276|210=>286|37=>232|0=>0|127=>259|145=>295|143=>293|2=>2|171=>255|53=>61|5=>5|173=>257|212=>267|51=>220|20=>20|213=>268|46=>178|232=>291|233=>292|80=>126|n=>n,fun|15=>6|16=>7|17=>3|18=>9|19=>10|n=>n⟩
def Tryz.laysC174_ren:Go.Shelf.Ren:=⟨fun|174=>154|247=>174|245=>175|287=>188|279=>189|280=>190|281=>191|282=>192|321=>202|322=>203|316=>204|171=>69|205=>205|243=>105|246=>139|283=>165|284=>166|285=>167|286=>168|129=>128|317=>180|318=>181|319=>182|320=>183|337=>199|338=>200|n=>n,fun|9=>9|3=>3|2=>2|75=>237|85=>249|4=>4|167=>273|5=>5|53=>61|175=>274|46=>178|168=>276|37=>232|0=>0|210=>286|21=>21|127=>259|145=>295|143=>293|171=>255|173=>257|212=>267|51=>220|20=>20|213=>268|232=>291|233=>292|80=>126|n=>n,fun|15=>6|16=>7|17=>3|18=>9|19=>10|n=>n⟩
theorem Tryz.laysC174:Go.Proofs.LaysC.n174 Tryz.prog Tryz.laysC174_ren:={
 mixed:=by kernel_rfl
 f129:=Tryz.func128.trans (congrArg some (by kernel_rfl))
 f171:=Tryz.func69.trans (congrArg some (by kernel_rfl))
 f174:=Tryz.func154.trans (congrArg some (by kernel_rfl))
 f205:=Tryz.func205.trans (congrArg some (by kernel_rfl))
 f243:=Tryz.func105.trans (congrArg some (by kernel_rfl))
 f245:=Tryz.func175.trans (congrArg some (by kernel_rfl))
 f246:=Tryz.func139.trans (congrArg some (by kernel_rfl))
 f247:=Tryz.func174.trans (congrArg some (by kernel_rfl))
 f279:=Tryz.func189.trans (congrArg some (by kernel_rfl))
 f280:=Tryz.func190.trans (congrArg some (by kernel_rfl))
 f281:=Tryz.func191.trans (congrArg some (by kernel_rfl))
 f282:=Tryz.func192.trans (congrArg some (by kernel_rfl))
 f283:=Tryz.func165.trans (congrArg some (by kernel_rfl))
 f284:=Tryz.func166.trans (congrArg some (by kernel_rfl))
 f285:=Tryz.func167.trans (congrArg some (by kernel_rfl))
 f286:=Tryz.func168.trans (congrArg some (by kernel_rfl))
 f287:=Tryz.func188.trans (congrArg some (by kernel_rfl))
 f316:=Tryz.func204.trans (congrArg some (by kernel_rfl))
 f317:=Tryz.func180.trans (congrArg some (by kernel_rfl))
 f318:=Tryz.func181.trans (congrArg some (by kernel_rfl))
 f319:=Tryz.func182.trans (congrArg some (by kernel_rfl))
 f320:=Tryz.func183.trans (congrArg some (by kernel_rfl))
 f321:=Tryz.func202.trans (congrArg some (by kernel_rfl))
 f322:=Tryz.func203.trans (congrArg some (by kernel_rfl))
 f337:=Tryz.func199.trans (congrArg some (by kernel_rfl))
 f338:=Tryz.func200.trans (congrArg some (by kernel_rfl))
 t0:=Tryz.underlying0
 a0:=Tryz.isAgg0
 z0:=Tryz.sizeOf0
 v0:=Tryz.zeroValue0
 t2:=Tryz.underlying2
 a2:=Tryz.isAgg2
 z2:=Tryz.sizeOf2
 v2:=Tryz.zeroValue2
 t3:=Tryz.underlying3
 a3:=Tryz.isAgg3
 z3:=Tryz.sizeOf3
 v3:=Tryz.zeroValue3
 t4:=Tryz.underlying4
 a4:=Tryz.isAgg4
 z4:=Tryz.sizeOf4
 v4:=Tryz.zeroValue4
 t5:=Tryz.underlying5
 a5:=Tryz.isAgg5
 z5:=Tryz.sizeOf5
 v5:=Tryz.zeroValue5
 t9:=Tryz.underlying9
 a9:=Tryz.isAgg9
 z9:=Tryz.sizeOf9
 v9:=Tryz.zeroValue9
 t20:=Tryz.underlying20
 a20:=Tryz.isAgg20
 z20:=Tryz.sizeOf20
 v20:=Tryz.zeroValue20
 t21:=Tryz.underlying21
 a21:=Tryz.isAgg21
 z21:=Tryz.sizeOf21
 v21:=Tryz.zeroValue21
 t37:=Tryz.underlying232
 a37:=Tryz.isAgg232
 z37:=Tryz.sizeOf232
 v37:=Tryz.zeroValue232
 t46:=Tryz.underlying178
 a46:=Tryz.isAgg178
 z46:=Tryz.sizeOf178
 v46:=Tryz.zeroValue178
 t51:=Tryz.underlying220
 a51:=Tryz.isAgg220
 z51:=Tryz.sizeOf220
 v51:=Tryz.zeroValue220
 t53:=Tryz.underlying61
 a53:=Tryz.isAgg61
 z53:=Tryz.sizeOf61
 v53:=Tryz.zeroValue61
 t75:=Tryz.underlying237
 a75:=Tryz.isAgg237
 z75:=Tryz.sizeOf237
 v75:=Tryz.zeroValue237
 t85:=Tryz.underlying249
 a85:=Tryz.isAgg249
 z85:=Tryz.sizeOf249
 v85:=Tryz.zeroValue249
 t127:=Tryz.underlying259
 a127:=Tryz.isAgg259
 z127:=Tryz.sizeOf259
 v127:=Tryz.zeroValue259
 t143:=Tryz.underlying293
 a143:=Tryz.isAgg293
 z143:=Tryz.sizeOf293
 v143:=Tryz.zeroValue293
 t145:=Tryz.underlying295
 a145:=Tryz.isAgg295
 z145:=Tryz.sizeOf295
 v145:=Tryz.zeroValue295
 t167:=Tryz.underlying273
 a167:=Tryz.isAgg273
 z167:=Tryz.sizeOf273
 v167:=Tryz.zeroValue273
 t168:=Tryz.underlying276
 a168:=Tryz.isAgg276
 z168:=Tryz.sizeOf276
 v168:=Tryz.zeroValue276
 t171:=Tryz.underlying255
 a171:=Tryz.isAgg255
 z171:=Tryz.sizeOf255
 v171:=Tryz.zeroValue255
 t173:=Tryz.underlying257
 a173:=Tryz.isAgg257
 z173:=Tryz.sizeOf257
 v173:=Tryz.zeroValue257
 t175:=Tryz.underlying274
 a175:=Tryz.isAgg274
 z175:=Tryz.sizeOf274
 v175:=Tryz.zeroValue274
 t210:=Tryz.underlying286
 a210:=Tryz.isAgg286
 z210:=Tryz.sizeOf286
 v210:=Tryz.zeroValue286
 t212:=Tryz.underlying267
 a212:=Tryz.isAgg267
 z212:=Tryz.sizeOf267
 v212:=Tryz.zeroValue267
 t213:=Tryz.underlying268
 a213:=Tryz.isAgg268
 z213:=Tryz.sizeOf268
 t232:=Tryz.underlying291
 a232:=Tryz.isAgg291
 z232:=Tryz.sizeOf291
 v232:=Tryz.zeroValue291
 t233:=Tryz.underlying292
 a233:=Tryz.isAgg292
 z233:=Tryz.sizeOf292
 v233:=Tryz.zeroValue292
 g15:=by kernel_rfl
 g16:=by kernel_rfl
 g17:=by kernel_rfl
 g18:=by kernel_rfl
 g19:=by kernel_rfl
 t80:=Tryz.underlying126
 a80:=Tryz.isAgg126
 z80:=Tryz.sizeOf126
 v80:=Tryz.zeroValue126
 i0:=by kernel_rfl
 i2:=by kernel_rfl
 i3:=by kernel_rfl
 i4:=by kernel_rfl
 i5:=by kernel_rfl
 i9:=by kernel_rfl
 i20:=by kernel_rfl
 i21:=by kernel_rfl
 i37:=by kernel_rfl
 i46:=by kernel_rfl
 i51:=by kernel_rfl
 i53:=by kernel_rfl
 i75:=by kernel_rfl
 i80:=by kernel_rfl
 i85:=by kernel_rfl
 i127:=by kernel_rfl
 i143:=by kernel_rfl
 i145:=by kernel_rfl
 i167:=by kernel_rfl
 i168:=by kernel_rfl
 i171:=by kernel_rfl
 i173:=by kernel_rfl
 i175:=by kernel_rfl
 i210:=by kernel_rfl
 i212:=by kernel_rfl
 i232:=by kernel_rfl
 i233:=by kernel_rfl
 m15:=by kernel_rfl
 m16:=by kernel_rfl
 m17:=by kernel_rfl
 m18:=by kernel_rfl
 m19:=by kernel_rfl
 c0:=by kernel_rfl
 c2:=by kernel_rfl
 c3:=by kernel_rfl
 c4:=by kernel_rfl
 c5:=by kernel_rfl
 c9:=by kernel_rfl
 c20:=by kernel_rfl
 c21:=by kernel_rfl
 c37:=by kernel_rfl
 c46:=by kernel_rfl
 c51:=by kernel_rfl
 c53:=by kernel_rfl
 c75:=by kernel_rfl
 c80:=by kernel_rfl
 c85:=by kernel_rfl
 c127:=by kernel_rfl
 c143:=by kernel_rfl
 c145:=by kernel_rfl
 c167:=by kernel_rfl
 c168:=by kernel_rfl
 c171:=by kernel_rfl
 c173:=by kernel_rfl
 c175:=by kernel_rfl
 c210:=by kernel_rfl
 c212:=by kernel_rfl
 c213:=by kernel_rfl
 c232:=by kernel_rfl
 c233:=by kernel_rfl }
open Go.RowKit in
theorem Tryz.strconv_ParseInt_10_at32_ok (s:ByteArray) (hmax:s.size<=9223372036854775806) (v:Int) (h:Lib.parseIntB 32 s.data.toList = .ok v) (w:World):
 Calls Tryz.prog 154 #[.string s,.int .i64 10,.int .i64 32] w fun e w'=>e = .returned (.tuple #[.int .i64 v,.nilIface])/\(w' = w∨∃ t,w' = Lib.bytesWorld w 5 t):=Any.strconv_ParseInt_10_at32_ok Tryz.laysC174 s hmax v h w
open Go.RowKit in
theorem Tryz.strconv_ParseInt_10_at32_range (s:ByteArray) (hlim:s.size<=281474976710656) (h:Lib.parseIntB 32 s.data.toList = .range) (ev:Value) (w:World) (hv:w.cell? ⟨7,0,none⟩=some ev) (hev:ev = .nilIface∨∃ te pe,ev = .iface te pe):
 Calls Tryz.prog 154 #[.string s,.int .i64 10,.int .i64 32] w fun e w'=>∃ N,e = .returned (.tuple #[.int .i64 (Lib.intSat 32 s.data.toList),.iface 276 (.pointer (some ⟨N,0,none⟩))])/\w.heap.size<=N/\w'.heap[N]? = some (.cells #[.string ⟨#[80,97,114,115,101,73,110,116]⟩,.string s,ev] 286 (0,0))/\Below w.heap.size w w':=Any.strconv_ParseInt_10_at32_range Tryz.laysC174 s hlim h ev w hv hev
def Tryz.lays222_ren:Go.Shelf.Ren:=⟨fun|222=>157|n=>n,fun|9=>9|5=>5|3=>3|4=>4|n=>n,fun|n=>n⟩
def Tryz.lays149_ren:Go.Shelf.Ren:=⟨fun|149=>131|222=>157|n=>n,fun|9=>9|5=>5|3=>3|4=>4|n=>n,fun|n=>n⟩
theorem Tryz.lays149:Go.Proofs.Lays.n149 Tryz.prog Tryz.lays149_ren:={
 mixed:=by kernel_rfl
 f149:=Tryz.func131.trans (congrArg some (by kernel_rfl))
 f222:=Tryz.func157.trans (congrArg some (by kernel_rfl))
 t3:=Tryz.underlying3
 a3:=Tryz.isAgg3
 z3:=Tryz.sizeOf3
 v3:=Tryz.zeroValue3
 t4:=Tryz.underlying4
 a4:=Tryz.isAgg4
 z4:=Tryz.sizeOf4
 v4:=Tryz.zeroValue4
 t5:=Tryz.underlying5
 a5:=Tryz.isAgg5
 z5:=Tryz.sizeOf5
 v5:=Tryz.zeroValue5
 t9:=Tryz.underlying9
 a9:=Tryz.isAgg9
 z9:=Tryz.sizeOf9
 v9:=Tryz.zeroValue9 }
open Go.RowKit Go.Lib in
theorem Tryz.strings_LastIndexByte (s:ByteArray) (c:Int) (hs:s.size<4611686018427387904) (w:World):
 Calls Tryz.prog 131 #[.string s,.int .u8 c] w fun e w'=>e = .returned (.int .i64 (Lib.lastIndexByte s c))/\w' = w:=Any.strings_LastIndexByte Tryz.lays149 s c hs w
def Tryz.lays99_ren:Go.Shelf.Ren:=⟨fun|99=>72|206=>111|n=>n,fun|9=>9|4=>4|3=>3|n=>n,fun|n=>n⟩
theorem Tryz.lays99:Go.Proofs.Lays.n99 Tryz.prog Tryz.lays99_ren:={
 mixed:=by kernel_rfl
 f99:=Tryz.func72.trans (congrArg some (by kernel_rfl))
 f206:=Tryz.func111.trans (congrArg some (by kernel_rfl))
 t3:=Tryz.underlying3
 a3:=Tryz.isAgg3
 z3:=Tryz.sizeOf3
 v3:=Tryz.zeroValue3
 t4:=Tryz.underlying4
 a4:=Tryz.isAgg4
 z4:=Tryz.sizeOf4
 v4:=Tryz.zeroValue4
 t9:=Tryz.underlying9
 a9:=Tryz.isAgg9
 z9:=Tryz.sizeOf9
 v9:=Tryz.zeroValue9 }
open Go.RowKit Go.Lib in
theorem Tryz.strings_HasPrefix (s p:ByteArray) (w:World):
 Calls Tryz.prog 72 #[.string s,.string p] w fun e w'=>e = .returned (.bool (Lib.hasPrefix s.data.toList p.data.toList))/\w' = w:=Any.strings_HasPrefix Tryz.lays99 s p w
end Go.Proofs
namespace Go.Awp
open Go Ieee
theorem log2_eq {n l:Nat} (h1:2 ^ l<=n) (h2:n<2 ^ (l+1)):n.log2=l:=by
 have h0:n≠0:=by have:=Nat.two_pow_pos l;omega
 have a:=(Nat.le_log2 h0).2 h1;have b:=(Nat.log2_lt h0).2 h2;omega
theorem qD {n:Nat} (h:n≠0) (k:Nat):(n*2 ^ k).log2=n.log2+k:=by
 have h1:=Nat.log2_self_le h;have h2:n<2 ^ (n.log2+1):=(Nat.log2_lt h).1 (Nat.lt_succ_self _);apply log2_eq
 ·rw[Nat.pow_add];exact Nat.mul_le_mul_right _ h1
 ·rw[show n.log2+k+1=(n.log2+1)+k by omega,Nat.pow_add];exact Nat.mul_lt_mul_of_pos_right h2 (Nat.two_pow_pos k)
def rg (n:Nat):Nat:=(n.log2+1022)*2 ^ 52+n*2 ^ (52 - n.log2)
def fw (s:Bool) (n:Nat):Nat:=double.word s (if n=0 then 0 else rg n)
def sgn (s:Bool) (n:Nat):Int:=if s then -(n:Int) else n
theorem zl (way:Toward) (neg:Bool) (q k:Nat) (hk:k<=(q*2 ^ k).log2+2):way.cut neg (q*2 ^ k) k=q:=by
 have hp:=Nat.two_pow_pos k;simp only[Toward.cut,Nat.min_eq_left hk,Nat.one_shiftLeft,Nat.mul_div_left _ hp,Nat.mul_mod_left];cases way<;>simp
theorem yZ {n:Nat} (h0:n≠0) (h:n<2 ^ 53):n.log2<=52/\2 ^ 52<=n*2 ^ (52 - n.log2)/\n*2 ^ (52 - n.log2)<2 ^ 53:=by
 have hl:n.log2<=52:=by have:=(Nat.log2_lt h0).2 h;omega
 have h1:=Nat.log2_self_le h0;have h2:n<2 ^ (n.log2+1):=(Nat.log2_lt h0).1 (Nat.lt_succ_self _);refine⟨hl,?_,?_⟩
 ·calc 2 ^ 52=2 ^ n.log2*2 ^ (52 - n.log2):=by rw[<- Nat.pow_add];congr 1;omega
   _<=_:=Nat.mul_le_mul_right _ h1
 ·calc n*2 ^ (52 - n.log2)<2 ^ (n.log2+1)*2 ^ (52 - n.log2):=Nat.mul_lt_mul_of_pos_right h2 (Nat.two_pow_pos _)
   _=2 ^ 53:=by rw[<- Nat.pow_add];congr 1;omega
theorem ue (s:Bool) (n k:Nat) (h:n<2 ^ 53):double.nearest s (n*2 ^ k) (-(k:Int))=fw s n:=by
 by_cases h0:n=0
 ·subst h0;simp[Format.nearest,fw]
 have hm:n*2 ^ k≠0:=Nat.mul_ne_zero h0 (Nat.ne_of_gt (Nat.two_pow_pos k));obtain⟨hl,hx1,hx2⟩:=yZ h0 h;rw[Format.nearest,if_neg hm,qD h0,fw,if_neg h0];have e1:max (-(k:Int)+((n.log2+k:Nat):Int) - ((double.fractionBits:Nat):Int)) double.leastPlace=(n.log2:Int) - 52:=by
  have a:double.leastPlace = -1074:=by decide
  have b:double.fractionBits=52:=rfl;rw[a,b];omega
 simp only[e1];have e2:((n.log2:Int) - 52 - double.leastPlace).toNat=n.log2+1022:=by
  have a:double.leastPlace = -1074:=by decide
  rw[a];omega
 have e3:double.binade=2 ^ 52:=rfl;have e4:double.infRung=2047*2 ^ 52:=by decide
 rw[e2,e3,e4];have kept:Toward.even.cut s ((n*2 ^ k) <<< (-(k:Int) - ((n.log2:Int) - 52)).toNat) ((n.log2:Int) - 52 - -(k:Int)).toNat=n*2 ^ (52 - n.log2):=by
  by_cases hk:k+n.log2<=52
  ·have a:(-(k:Int) - ((n.log2:Int) - 52)).toNat=52 - n.log2 - k:=by omega
   have b:((n.log2:Int) - 52 - -(k:Int)).toNat=0:=by omega
   rw[a,b,Nat.shiftLeft_eq,Nat.mul_assoc,<- Nat.pow_add,show k+(52 - n.log2 - k)=52 - n.log2 by omega];have:=zl .even s (n*2 ^ (52 - n.log2)) 0 (by omega);simpa using this
  ·have a:(-(k:Int) - ((n.log2:Int) - 52)).toNat=0:=by omega
   have b:((n.log2:Int) - 52 - -(k:Int)).toNat=k+n.log2 - 52:=by omega
   rw[a,b,Nat.shiftLeft_zero];have e:n*2 ^ k=n*2 ^ (52 - n.log2)*2 ^ (k+n.log2 - 52):=by
    rw[Nat.mul_assoc,<- Nat.pow_add];congr 2;omega
   rw[e];refine zl .even s _ _ ?_;rw[<- e,qD h0];omega
 rw[kept];congr 1;rw[rg,Nat.min_eq_left];simp only[Nat.reducePow] at *;omega
theorem Ud (s:Bool) (n k:Nat) (h:n<2 ^ 53):double.write (.number s (n*2 ^ k) (-(k:Int)))=fw s n:=ue s n k h
theorem read_gen (f:Format) (w rung:Nat) (s:Bool) (h1:w % f.signWeight=rung) (h2:(w / f.signWeight % 2 == 1)=s) (h3:¬ rung<f.binade) (h4:rung<f.infRung):
 f.read w = .number s (f.binade+rung % f.binade) (f.leastPlace+(rung / f.binade - 1:Nat)):=by
 unfold Format.read;simp only[h1,h2,if_neg h3,if_pos h4]
theorem read_null (s:Bool) (k:Nat) (hk:k=1074):double.read (fw s 0) = .number s (0*2 ^ k) (-(k:Int)):=by
 rw[Nat.zero_mul];subst hk;cases s<;>decide
theorem Yl (s:Bool) (n:Nat) (h:n<2 ^ 53):∃ k:Nat,double.read (fw s n) = .number s (n*2 ^ k) (-(k:Int)):=by
 have e1:double.signWeight=2 ^ 63:=rfl;have e2:double.binade=2 ^ 52:=rfl;have e3:double.infRung=2047*2 ^ 52:=by decide
 have e4:double.leastPlace = -1074:=by decide
 by_cases h0:n=0
 ·subst h0;exact⟨1074,read_null s 1074 rfl⟩
 obtain⟨hl,hx1,hx2⟩:=yZ h0 h;refine⟨52 - n.log2,?_⟩;have hr:rg n=(n.log2+1022)*2 ^ 52+n*2 ^ (52 - n.log2):=rfl;revert hx1 hx2 hr;generalize n*2 ^ (52 - n.log2)=x;intro hx1 hx2 hr;have hlt:rg n<2 ^ 63:=by simp only[Nat.reducePow] at *;omega
 have hw:(if s then 2 ^ 63+rg n else rg n) % 2 ^ 63=rg n:=by cases s<;>simp only[Nat.reducePow] at *<;>simp<;>omega
 have hs:((if s then 2 ^ 63+rg n else rg n) / 2 ^ 63 % 2 == 1)=s:=by
  cases s
  ·simp only[Nat.reducePow] at *;simp;omega
  ·simp only[Nat.reducePow] at *;simp;omega
 have hword:fw s n=if s then 2 ^ 63+rg n else rg n:=by rw[fw,if_neg h0,Format.word,e1]
 have h3:¬ rg n<double.binade:=by rw[e2];simp only[Nat.reducePow] at *;omega
 have h4:rg n<double.infRung:=by rw[e3];simp only[Nat.reducePow] at *;omega
 refine (read_gen double (fw s n) (rg n) s (by rw[hword,e1];exact hw) (by rw[hword,e1];exact hs) h3 h4).trans ?_;have g1:double.binade+rg n % double.binade=x:=by rw[e2];simp only[Nat.reducePow] at *;omega
 have g2:double.leastPlace+((rg n / double.binade - 1:Nat):Int) = -((52 - n.log2:Nat):Int):=by rw[e2,e4];simp only[Nat.reducePow] at *;omega
 rw[g1,g2]
theorem YZ (s:Bool) (n k up:Nat):signed s (n*2 ^ k) up=sgn s n*((2 ^ (k+up):Nat):Int):=by
 cases s<;>simp[signed,sgn,Nat.shiftLeft_eq,Nat.pow_add,Nat.mul_assoc,Int.neg_mul]
theorem QRq (t:Int):sgn (decide (t<0)) t.natAbs=t:=by
 simp only[sgn];split<;>rename_i h<;>simp at h<;>omega
def fsum (s t:Bool) (z:Int):Nat:=fw (if z=0 then s&&t else decide (z<0)) z.natAbs
theorem ux (s t:Bool) (n m k j:Nat) (h:(sgn s n+sgn t m).natAbs<2 ^ 53):
 ((Datum.number s (n*2 ^ k) (-(k:Int))).sum (.number t (m*2 ^ j) (-(j:Int)))).map double.write=some (fsum s t (sgn s n+sgn t m)):=by
 have key:∀ b:Nat,k<=b->j<=b->min (-(k:Int)) (-(j:Int)) = -(b:Int)->
  ((Datum.number s (n*2 ^ k) (-(k:Int))).sum (.number t (m*2 ^ j) (-(j:Int)))).map double.write=some (fsum s t (sgn s n+sgn t m)):=by
  intro b hk hj hb;simp only[Datum.sum,hb,Option.map_some,Option.some.injEq];have a1:(-(k:Int) - -(b:Int)).toNat=b - k:=by omega
  have a2:(-(j:Int) - -(b:Int)).toNat=b - j:=by omega
  rw[a1,a2,YZ,YZ,show k+(b - k)=b by omega,show j+(b - j)=b by omega,<- Int.add_mul];generalize sgn s n+sgn t m=z at h ⊢;have hp:(0:Int)<((2 ^ b:Nat):Int):=by have:=Nat.two_pow_pos b;omega
  have z0:(z*((2 ^ b:Nat):Int)=0)↔z=0:=by
   constructor
   ·intro e;rcases Int.mul_eq_zero.1 e with e|e
    ·exact e
    ·omega
   ·intro e;simp[e]
  have zn:(z*((2 ^ b:Nat):Int)<0)↔z<0:=by
   constructor
   ·intro e;exact Int.lt_of_not_ge fun g=>by have:=Int.mul_nonneg g (Int.le_of_lt hp);omega
   ·intro e;exact Int.mul_neg_of_neg_of_pos e hp
  simp only[z0,zn,Int.natAbs_mul,Int.natAbs_natCast];exact Ud _ _ _ h
 rcases Nat.le_total k j with hk|hk
 ·exact key j hk (Nat.le_refl _) (by omega)
 ·exact key k (Nat.le_refl _) hk (by omega)
theorem add_whole (s t:Bool) (n m:Nat) (hn:n<2 ^ 53) (hm:m<2 ^ 53) (h:(sgn s n+sgn t m).natAbs<2 ^ 53):
 double.add (fw s n) (fw t m)=some (fsum s t (sgn s n+sgn t m)):=by
 obtain⟨k,hk⟩:=Yl s n hn;obtain⟨j,hj⟩:=Yl t m hm;rw[Format.add,hk,hj];exact ux _ _ _ _ _ _ h
theorem sub_whole (s t:Bool) (n m:Nat) (hn:n<2 ^ 53) (hm:m<2 ^ 53) (h:(sgn s n - sgn t m).natAbs<2 ^ 53):
 double.sub (fw s n) (fw t m)=some (fsum s (!t) (sgn s n - sgn t m)):=by
 obtain⟨k,hk⟩:=Yl s n hn;obtain⟨j,hj⟩:=Yl t m hm;rw[Format.sub,hk,hj];have e:sgn s n - sgn t m=sgn s n+sgn (!t) m:=by cases t<;>simp[sgn]<;>omega
 rw[e] at h ⊢;exact ux _ _ _ _ _ _ h
theorem Qrz (s t:Bool) (n m:Nat) (hn:n<2 ^ 53) (hm:m<2 ^ 53):double.order (fw s n) (fw t m)=some (compare (sgn s n) (sgn t m)):=by
 obtain⟨k,hk⟩:=Yl s n hn;obtain⟨j,hj⟩:=Yl t m hm;rw[Format.order,hk,hj];have key:∀ b:Nat,k<=b->j<=b->min (-(k:Int)) (-(j:Int)) = -(b:Int)->
  (Datum.number s (n*2 ^ k) (-(k:Int))).order (.number t (m*2 ^ j) (-(j:Int)))=some (compare (sgn s n) (sgn t m)):=by
  intro b hk hj hb;simp only[Datum.order,hb,Option.some.injEq];have a1:(-(k:Int) - -(b:Int)).toNat=b - k:=by omega
  have a2:(-(j:Int) - -(b:Int)).toNat=b - j:=by omega
  rw[a1,a2,YZ,YZ,show k+(b - k)=b by omega,show j+(b - j)=b by omega];have hp:(0:Int)<((2 ^ b:Nat):Int):=by have:=Nat.two_pow_pos b;omega
  generalize sgn s n=x;generalize sgn t m=y;simp only[compare,compareOfLessAndEq];have l:(x*((2 ^ b:Nat):Int)<y*((2 ^ b:Nat):Int))↔x<y:=
   ⟨fun e=>Int.lt_of_mul_lt_mul_right e (Int.le_of_lt hp),fun e=>Int.mul_lt_mul_of_pos_right e hp⟩
  have q:(x*((2 ^ b:Nat):Int)=y*((2 ^ b:Nat):Int))↔x=y:=
   ⟨fun e=>Int.eq_of_mul_eq_mul_right (by omega) e,fun e=>by rw[e]⟩
  simp only[l,q]
 rcases Nat.le_total k j with hk'|hk'
 ·exact key j hk' (Nat.le_refl _) (by omega)
 ·exact key k (Nat.le_refl _) hk' (by omega)
theorem zx (s:Bool) (n:Nat) (hn:n<2 ^ 53) (way:Toward):(double.read (fw s n)).integral way = .number s n 0:=by
 obtain⟨k,hk⟩:=Yl s n hn;rw[hk,Datum.integral];congr 1;have a:(-(k:Int)).toNat=0:=by omega
 have b:(- -(k:Int)).toNat=k:=by omega
 rw[a,b,Nat.shiftLeft_zero];by_cases h0:n=0
 ·subst h0;simp[Toward.cut];cases way<;>simp
 ·exact zl way s n k (by rw[qD h0];omega)
def fz (n:Int):Nat:=fw (decide (n<0)) n.natAbs
def QV (n:Int):Prop:=-4503599627370495<=n/\n<=4503599627370495
theorem QV.lt {n:Int} (h:QV n):n.natAbs<2 ^ 53:=by unfold QV at h;simp only[Nat.reducePow];omega
theorem Jx (n:Int):sgn (decide (n<0)) n.natAbs=n:=QRq n
theorem vh {a b:Int} (ha:QV a) (hb:QV b):floatBits .add .f64 (fz a) (fz b)=some (fz (a+b)):=by
 show double.add _ _=_;unfold fz;have h:(sgn (decide (a<0)) a.natAbs+sgn (decide (b<0)) b.natAbs).natAbs<2 ^ 53:=by
  rw[Jx,Jx];unfold QV at ha hb;simp only[Nat.reducePow];omega
 rw[add_whole _ _ _ _ ha.lt hb.lt h,Jx,Jx,fsum];congr 2;split
 ·rename_i e;have:¬ (a<0/\b<0):=by omega
  by_cases h1:a<0<;>by_cases h2:b<0<;>simp_all
  all_goals omega
 ·rfl
theorem yY {a b:Int} (ha:QV a) (hb:QV b):floatBits .sub .f64 (fz a) (fz b)=some (fz (a - b)):=by
 show double.sub _ _=_;unfold fz;have h:(sgn (decide (a<0)) a.natAbs - sgn (decide (b<0)) b.natAbs).natAbs<2 ^ 53:=by
  rw[Jx,Jx];unfold QV at ha hb;simp only[Nat.reducePow];omega
 rw[sub_whole _ _ _ _ ha.lt hb.lt h,Jx,Jx,fsum];congr 2;split
 ·rename_i e;by_cases h1:a<0<;>by_cases h2:b<0<;>simp_all
  all_goals omega
 ·rfl
theorem QAz {a b:Int} (ha:QV a) (hb:QV b):FloatKind.f64.format.order (fz a) (fz b)=some (compare a b):=by
 show double.order _ _=_;unfold fz;rw[Qrz _ _ _ _ ha.lt hb.lt,Jx,Jx]
theorem uX {a b:Int} (ha:QV a) (hb:QV b):(FloatKind.f64.format.order (fz a) (fz b) == some .eq)=decide (a=b):=by
 rw[QAz ha hb];simp only[compare,compareOfLessAndEq];by_cases h:a<b
 ·have:a≠b:=by omega
  simp[h,this]
 ·by_cases h2:a=b<;>simp[h,h2]
theorem QBq {a b:Int} (ha:QV a) (hb:QV b):(FloatKind.f64.format.order (fz a) (fz b) != some .eq)=decide (a≠b):=by
 have:=uX ha hb;unfold bne;rw[this];by_cases h:a=b<;>simp[h]
theorem fz_lt {a b:Int} (ha:QV a) (hb:QV b):(FloatKind.f64.format.order (fz a) (fz b) == some .lt)=decide (a<b):=by
 rw[QAz ha hb];simp only[compare,compareOfLessAndEq];by_cases h:a<b
 ·simp[h]
 ·by_cases h2:a=b
  ·subst h2;simp
  ·simp[h,h2]
theorem Xi {n:Int} (h:QV n):FloatKind.f64.nearest n=fz n:=by
 have:=Ud (decide (n<0)) n.natAbs 0 h.lt;unfold FloatKind.nearest fz;rw[<- this];simp;rfl
theorem ZQ {n:Int} (h:QV n):floatToIntVal .f64 (fz n) .i64=some n:=by
 have h1:=zx (decide (n<0)) n.natAbs h.lt .zero;unfold floatToIntVal;have:(FloatKind.f64.decode (fz n)).toInt .zero=some n:=by
  have e:(FloatKind.f64.decode (fz n)).integral .zero = .number (decide (n<0)) n.natAbs 0:=h1;unfold Datum.toInt;rw[e];have:=YZ (decide (n<0)) n.natAbs 0 0;simp only[Nat.pow_zero,Nat.mul_one,Nat.add_zero,Jx] at this;simp only[this];simp
 rw[this];unfold QV at h;simp only;rw[if_pos];exact⟨by show (-9223372036854775808:Int)<=n;omega,by show n<=(9223372036854775807:Int);omega⟩
theorem WZ:fz 0=0:=by decide
end Go.Awp
