/-
  DERIVED: THE SHELF's CONTRACTS AT THIS DUMP, IN PLAIN WORDS (tools/lay-plain.mjs out of 'YtpmnbcdjoomgcaaDoorShelf.lean', which tools/lay-shelf.mjs wrote): THE SAME DECLARATIONS UNDER THE SAME NAMES: 'import', 'namespace', 'open', 'def', 'theorem' AND NOTHING ELSE: no command of the shelf's: FOR A HAND-IN. Each laying: the table of numbers ('.._ren') and one theorem, a field a fact of the dump's own or the kernel's comparison; each contract: ONE APPLICATION.
-/
import Derived.Shelf.Strings.Builder1
import Derived.Shelf.Small.Strs
import Derived.Shelf.Strconv.Itoa0
import Derived.Shelf.Strconv.Itoa1
import Derived.Shelf.LaysM
import Derived.Shelf.Strconv.Itoa2
import Derived.Shelf.Strconv.Itoa3
import Derived.Shelf.Strings.Search1
import Derived.Test.YtpmnbcdjoomgcaaDoorProg
set_option linter.unusedVariables false
set_option linter.unusedSimpArgs false
namespace Go.Proofs
open Go.Shelf
def Tryd.lays137_ren:Go.Shelf.Ren:=⟨fun|137=>104|217=>112|266=>119|n=>n,fun|9=>9|5=>5|3=>3|n=>n,fun|n=>n⟩
theorem Tryd.lays137:Go.Proofs.Lays.n137 Tryd.prog Tryd.lays137_ren:={
 mixed:=by kernel_rfl
 f137:=Tryd.func104.trans (congrArg some (by kernel_rfl))
 f217:=Tryd.func112.trans (congrArg some (by kernel_rfl))
 f266:=Tryd.func119.trans (congrArg some (by kernel_rfl))
 t3:=Tryd.underlying3
 a3:=Tryd.isAgg3
 z3:=Tryd.sizeOf3
 v3:=Tryd.zeroValue3
 t5:=Tryd.underlying5
 a5:=Tryd.isAgg5
 z5:=Tryd.sizeOf5
 v5:=Tryd.zeroValue5
 t9:=Tryd.underlying9
 a9:=Tryd.isAgg9
 z9:=Tryd.sizeOf9
 v9:=Tryd.zeroValue9 }
open Go.RowKit in
theorem Tryd.strings_IndexByte(s:ByteArray)(c:Int)(w:World):
 Calls Tryd.prog 104 #[.string s,.int .u8 c] w fun e w'=>e=.returned (.int .i64 (Lib.indexByte s.data.toList c.toNat.toUInt8))/\w'=w:=Any.strings_IndexByte Tryd.lays137 s c w
def Tryd.laysM171_ren:Go.Shelf.Ren:=⟨fun|171=>62|243=>100|246=>110|283=>115|284=>116|285=>117|286=>118|129=>121|317=>120|318=>122|319=>123|320=>124|337=>125|338=>126|n=>n,fun|3=>3|9=>9|2=>2|4=>4|171=>158|0=>0|53=>159|37=>81|5=>5|173=>162|212=>165|51=>166|20=>20|213=>167|46=>168|232=>171|233=>172|n=>n,fun|17=>1|18=>3|19=>4|n=>n⟩
theorem Tryd.laysM171:Go.Proofs.LaysM.n171 Tryd.prog Tryd.laysM171_ren:={
 mixed:=by kernel_rfl
 f129:=Tryd.func121.trans (congrArg some (by kernel_rfl))
 f171:=Tryd.func62.trans (congrArg some (by kernel_rfl))
 f243:=Tryd.func100.trans (congrArg some (by kernel_rfl))
 f246:=Tryd.func110.trans (congrArg some (by kernel_rfl))
 f283:=Tryd.func115.trans (congrArg some (by kernel_rfl))
 f284:=Tryd.func116.trans (congrArg some (by kernel_rfl))
 f285:=Tryd.func117.trans (congrArg some (by kernel_rfl))
 f286:=Tryd.func118.trans (congrArg some (by kernel_rfl))
 f317:=Tryd.func120.trans (congrArg some (by kernel_rfl))
 f318:=Tryd.func122.trans (congrArg some (by kernel_rfl))
 f319:=Tryd.func123.trans (congrArg some (by kernel_rfl))
 f320:=Tryd.func124.trans (congrArg some (by kernel_rfl))
 f337:=Tryd.func125.trans (congrArg some (by kernel_rfl))
 f338:=Tryd.func126.trans (congrArg some (by kernel_rfl))
 t0:=Tryd.underlying0
 a0:=Tryd.isAgg0
 z0:=Tryd.sizeOf0
 v0:=Tryd.zeroValue0
 t2:=Tryd.underlying2
 a2:=Tryd.isAgg2
 z2:=Tryd.sizeOf2
 v2:=Tryd.zeroValue2
 t3:=Tryd.underlying3
 a3:=Tryd.isAgg3
 z3:=Tryd.sizeOf3
 v3:=Tryd.zeroValue3
 t4:=Tryd.underlying4
 a4:=Tryd.isAgg4
 z4:=Tryd.sizeOf4
 v4:=Tryd.zeroValue4
 t5:=Tryd.underlying5
 a5:=Tryd.isAgg5
 z5:=Tryd.sizeOf5
 v5:=Tryd.zeroValue5
 t9:=Tryd.underlying9
 a9:=Tryd.isAgg9
 z9:=Tryd.sizeOf9
 v9:=Tryd.zeroValue9
 t20:=Tryd.underlying20
 a20:=Tryd.isAgg20
 z20:=Tryd.sizeOf20
 v20:=Tryd.zeroValue20
 t37:=Tryd.underlying81
 a37:=Tryd.isAgg81
 z37:=Tryd.sizeOf81
 v37:=Tryd.zeroValue81
 t46:=Tryd.underlying168
 a46:=Tryd.isAgg168
 z46:=Tryd.sizeOf168
 v46:=Tryd.zeroValue168
 t51:=Tryd.underlying166
 a51:=Tryd.isAgg166
 z51:=Tryd.sizeOf166
 v51:=Tryd.zeroValue166
 t53:=Tryd.underlying159
 a53:=Tryd.isAgg159
 z53:=Tryd.sizeOf159
 v53:=Tryd.zeroValue159
 t171:=Tryd.underlying158
 a171:=Tryd.isAgg158
 z171:=Tryd.sizeOf158
 v171:=Tryd.zeroValue158
 t173:=Tryd.underlying162
 a173:=Tryd.isAgg162
 z173:=Tryd.sizeOf162
 v173:=Tryd.zeroValue162
 t212:=Tryd.underlying165
 a212:=Tryd.isAgg165
 z212:=Tryd.sizeOf165
 v212:=Tryd.zeroValue165
 t213:=Tryd.underlying167
 a213:=Tryd.isAgg167
 z213:=Tryd.sizeOf167
 t232:=Tryd.underlying171
 a232:=Tryd.isAgg171
 z232:=Tryd.sizeOf171
 v232:=Tryd.zeroValue171
 t233:=Tryd.underlying172
 a233:=Tryd.isAgg172
 z233:=Tryd.sizeOf172
 v233:=Tryd.zeroValue172
 g17:=by kernel_rfl
 g18:=by kernel_rfl
 g19:=by kernel_rfl
 i0:=by kernel_rfl
 i2:=by kernel_rfl
 i3:=by kernel_rfl
 i4:=by kernel_rfl
 i5:=by kernel_rfl
 i9:=by kernel_rfl
 i20:=by kernel_rfl
 i37:=by kernel_rfl
 i46:=by kernel_rfl
 i51:=by kernel_rfl
 i53:=by kernel_rfl
 i171:=by kernel_rfl
 i173:=by kernel_rfl
 i212:=by kernel_rfl
 i232:=by kernel_rfl
 i233:=by kernel_rfl
 m17:=by kernel_rfl
 m18:=by kernel_rfl
 m19:=by kernel_rfl }
open Go.RowKit Go.Sort Go.Lib in
theorem Tryd.strconv_Itoa(n:Int)(h0: -9223372036854775808<=n)(h1:n<=9223372036854775807)(w:World)(htab:Lib.TabIs Tryd.prog w "internal/strconv.uint64pow10" .u64 Lib.pow10Tab):
 Calls Tryd.prog 62 #[.int .i64 n] w fun e w'=>e=.returned (.string ⟨(Lib.itoa n).toArray⟩)/\∃k os,w'=grow (w.drewN k) os:=Any.strconv_Itoa Tryd.laysM171 n h0 h1 w htab
end Go.Proofs
