/-
 DERIVED: THE SHELF's CONTRACTS AT THIS DUMP, IN PLAIN WORDS (tools/lay-plain.mjs out of 'TrydShelf.lean', which tools/lay-shelf.mjs wrote): THE SAME DECLARATIONS UNDER THE SAME NAMES: 'import', 'namespace', 'open', 'def', 'theorem' AND NOTHING ELSE: no command of the shelf's: FOR A HAND-IN. Each laying: the table of numbers ('.._ren') and one theorem, a field a fact of the dump's own or the kernel's comparison; each contract: ONE APPLICATION.
-/
import Derived.Shelf.Strings.Builder1
import Derived.Shelf.Strings.Builder2
import Derived.Shelf.Strings.Trim
import Derived.Shelf.Small.Utf8
import Derived.Shelf.Small.Strs
import Derived.Shelf.Strings.BuilderF
import Derived.Shelf.Strings.Search1
import Derived.Shelf.Strings.Prefix
import Derived.Shelf.Unicode.Decode
import Derived.Shelf.Strings.Runes
import Derived.Shelf.Strings.AsciiSet
import Derived.Shelf.Bits.Mul64
import Derived.Shelf.Strings.Repeat
import Derived.Shelf.Unicode.DecodeSlow
import Derived.Shelf.Unicode.DecodeAny
import Derived.Shelf.Unicode.DecodeLast
import Derived.Test.YtnlfghpgfjlblaaDoorProg
namespace Go.Proofs
open Go.Shelf
def Tryd.lays160_ren:Go.Shelf.Ren:=⟨fun|160=>55|232=>63|231=>62|227=>64|234=>66|233=>65|236=>68|235=>67|228=>70|271=>73|151=>72|197=>71|120=>76|152=>75|260=>74|137=>77|119=>78|224=>79|225=>80|217=>81|266=>82|n=>n,fun|9=>9|4=>4|3=>3|5=>5|117=>105|116=>104|0=>0|124=>108|21=>21|105=>111|46=>40|119=>115|139=>118|138=>117|n=>n,fun|3=>1|4=>2|n=>n⟩
theorem Tryd.lays160:Go.Proofs.Lays.n160 Tryd.prog Tryd.lays160_ren:= {
 mixed:=by kernel_rfl
 f119:=Tryd.func78.trans (congrArg some (by kernel_rfl))
 f120:=Tryd.func76.trans (congrArg some (by kernel_rfl))
 f137:=Tryd.func77.trans (congrArg some (by kernel_rfl))
 f151:=Tryd.func72.trans (congrArg some (by kernel_rfl))
 f152:=Tryd.func75.trans (congrArg some (by kernel_rfl))
 f160:=Tryd.func55.trans (congrArg some (by kernel_rfl))
 f197:=Tryd.func71.trans (congrArg some (by kernel_rfl))
 f217:=Tryd.func81.trans (congrArg some (by kernel_rfl))
 f224:=Tryd.func79.trans (congrArg some (by kernel_rfl))
 f225:=Tryd.func80.trans (congrArg some (by kernel_rfl))
 f227:=Tryd.func64.trans (congrArg some (by kernel_rfl))
 f228:=Tryd.func70.trans (congrArg some (by kernel_rfl))
 f231:=Tryd.func62.trans (congrArg some (by kernel_rfl))
 f232:=Tryd.func63.trans (congrArg some (by kernel_rfl))
 f233:=Tryd.func65.trans (congrArg some (by kernel_rfl))
 f234:=Tryd.func66.trans (congrArg some (by kernel_rfl))
 f235:=Tryd.func67.trans (congrArg some (by kernel_rfl))
 f236:=Tryd.func68.trans (congrArg some (by kernel_rfl))
 f260:=Tryd.func74.trans (congrArg some (by kernel_rfl))
 f266:=Tryd.func82.trans (congrArg some (by kernel_rfl))
 f271:=Tryd.func73.trans (congrArg some (by kernel_rfl))
 t0:=Tryd.underlying0
 a0:=Tryd.isAgg0
 z0:=Tryd.sizeOf0
 v0:=Tryd.zeroValue0
 t3:=Tryd.underlying3
 a3:=Tryd.isAgg3
 z3:=Tryd.sizeOf3
 v3:=Tryd.zeroValue3
 t4:=Tryd.underlying4
 a4:=Tryd.isAgg4
 z4:=Tryd.sizeOf4
 v4:=Tryd.zeroValue4
 t5:=Tryd.underlying5
 a5:=Tryd.isAgg5
 z5:=Tryd.sizeOf5
 v5:=Tryd.zeroValue5
 t9:=Tryd.underlying9
 a9:=Tryd.isAgg9
 z9:=Tryd.sizeOf9
 v9:=Tryd.zeroValue9
 t21:=Tryd.underlying21
 a21:=Tryd.isAgg21
 z21:=Tryd.sizeOf21
 v21:=Tryd.zeroValue21
 t46:=Tryd.underlying40
 a46:=Tryd.isAgg40
 z46:=Tryd.sizeOf40
 v46:=Tryd.zeroValue40
 t105:=Tryd.underlying111
 a105:=Tryd.isAgg111
 z105:=Tryd.sizeOf111
 v105:=Tryd.zeroValue111
 t116:=Tryd.underlying104
 a116:=Tryd.isAgg104
 z116:=Tryd.sizeOf104
 t117:=Tryd.underlying105
 a117:=Tryd.isAgg105
 z117:=Tryd.sizeOf105
 v117:=Tryd.zeroValue105
 t119:=Tryd.underlying115
 a119:=Tryd.isAgg115
 z119:=Tryd.sizeOf115
 t124:=Tryd.underlying108
 a124:=Tryd.isAgg108
 z124:=Tryd.sizeOf108
 v124:=Tryd.zeroValue108
 t138:=Tryd.underlying117
 a138:=Tryd.isAgg117
 z138:=Tryd.sizeOf117
 v138:=Tryd.zeroValue117
 t139:=Tryd.underlying118
 a139:=Tryd.isAgg118
 z139:=Tryd.sizeOf118
 v139:=Tryd.zeroValue118
 g3:=by kernel_rfl
 g4:=by kernel_rfl}
def Tryd.lays105_ren:Go.Shelf.Ren:=⟨fun|105=>45|212=>52|99=>15|165=>53|166=>26|170=>54|169=>33|263=>59|264=>60|206=>34|240=>41|241=>61|276=>51|277=>69|n=>n,fun|9=>9|3=>3|4=>4|20=>20|0=>0|46=>40|109=>92|5=>5|72=>63|76=>66|51=>97|146=>98|53=>51|148=>100|70=>61|37=>22|75=>65|127=>84|164=>90|80=>75|n=>n,fun|n=>n⟩
theorem Tryd.lays105:Go.Proofs.Lays.n105 Tryd.prog Tryd.lays105_ren:= {
 mixed:=by kernel_rfl
 f99:=Tryd.func15.trans (congrArg some (by kernel_rfl))
 f105:=Tryd.func45.trans (congrArg some (by kernel_rfl))
 f165:=Tryd.func53.trans (congrArg some (by kernel_rfl))
 f166:=Tryd.func26.trans (congrArg some (by kernel_rfl))
 f169:=Tryd.func33.trans (congrArg some (by kernel_rfl))
 f170:=Tryd.func54.trans (congrArg some (by kernel_rfl))
 f206:=Tryd.func34.trans (congrArg some (by kernel_rfl))
 f212:=Tryd.func52.trans (congrArg some (by kernel_rfl))
 f240:=Tryd.func41.trans (congrArg some (by kernel_rfl))
 f241:=Tryd.func61.trans (congrArg some (by kernel_rfl))
 f263:=Tryd.func59.trans (congrArg some (by kernel_rfl))
 f264:=Tryd.func60.trans (congrArg some (by kernel_rfl))
 f276:=Tryd.func51.trans (congrArg some (by kernel_rfl))
 f277:=Tryd.func69.trans (congrArg some (by kernel_rfl))
 t0:=Tryd.underlying0
 a0:=Tryd.isAgg0
 z0:=Tryd.sizeOf0
 v0:=Tryd.zeroValue0
 t3:=Tryd.underlying3
 a3:=Tryd.isAgg3
 z3:=Tryd.sizeOf3
 v3:=Tryd.zeroValue3
 t4:=Tryd.underlying4
 a4:=Tryd.isAgg4
 z4:=Tryd.sizeOf4
 v4:=Tryd.zeroValue4
 t5:=Tryd.underlying5
 a5:=Tryd.isAgg5
 z5:=Tryd.sizeOf5
 v5:=Tryd.zeroValue5
 t9:=Tryd.underlying9
 a9:=Tryd.isAgg9
 z9:=Tryd.sizeOf9
 v9:=Tryd.zeroValue9
 t20:=Tryd.underlying20
 a20:=Tryd.isAgg20
 z20:=Tryd.sizeOf20
 v20:=Tryd.zeroValue20
 t37:=Tryd.underlying22
 a37:=Tryd.isAgg22
 z37:=Tryd.sizeOf22
 v37:=Tryd.zeroValue22
 t46:=Tryd.underlying40
 a46:=Tryd.isAgg40
 z46:=Tryd.sizeOf40
 v46:=Tryd.zeroValue40
 t51:=Tryd.underlying97
 a51:=Tryd.isAgg97
 z51:=Tryd.sizeOf97
 v51:=Tryd.zeroValue97
 t53:=Tryd.underlying51
 a53:=Tryd.isAgg51
 z53:=Tryd.sizeOf51
 v53:=Tryd.zeroValue51
 t70:=Tryd.underlying61
 a70:=Tryd.isAgg61
 z70:=Tryd.sizeOf61
 v70:=Tryd.zeroValue61
 t72:=Tryd.underlying63
 a72:=Tryd.isAgg63
 z72:=Tryd.sizeOf63
 v72:=Tryd.zeroValue63
 t75:=Tryd.underlying65
 a75:=Tryd.isAgg65
 z75:=Tryd.sizeOf65
 v75:=Tryd.zeroValue65
 t76:=Tryd.underlying66
 a76:=Tryd.isAgg66
 z76:=Tryd.sizeOf66
 v76:=Tryd.zeroValue66
 t109:=Tryd.underlying92
 a109:=Tryd.isAgg92
 z109:=Tryd.sizeOf92
 v109:=Tryd.zeroValue92
 t127:=Tryd.underlying84
 a127:=Tryd.isAgg84
 z127:=Tryd.sizeOf84
 v127:=Tryd.zeroValue84
 t146:=Tryd.underlying98
 a146:=Tryd.isAgg98
 z146:=Tryd.sizeOf98
 v146:=Tryd.zeroValue98
 t148:=Tryd.underlying100
 a148:=Tryd.isAgg100
 z148:=Tryd.sizeOf100
 v148:=Tryd.zeroValue100
 t164:=Tryd.underlying90
 a164:=Tryd.isAgg90
 z164:=Tryd.sizeOf90
 v164:=Tryd.zeroValue90}
theorem Tryd.Builder_Extra_105:Builder.Extra Tryd.prog Tryd.lays105_ren:= {
 sizeBuilder:=by kernel_rfl
 liesBuilder:=by kernel_rfl
 t5:=Tryd.underlying5
 a5:=Tryd.isAgg5
 z5:=Tryd.sizeOf5
 v5:=Tryd.zeroValue5
 infoByte:=by kernel_rfl
 cellsByte:=by kernel_rfl
 sizeByte:=by kernel_rfl
 neB5:=by decide}
open Go.RowKit Go.Lib in
theorem Tryd.strings_Repeat_main (s:ByteArray) (c:Nat) (w:World) (hc2:2≤c) (hc:c≤9223372036854775807) (hlen:s.size*c≤140737488355328) (h0:0<s.size):
  Calls Tryd.prog 45 #[.string s,.int .i64 c] w fun e w'=>e= .returned (.string ⟨(Lib.repeatL s.data.toList c).toArray⟩)∧Below w.heap.size w w':=Any.strings_Repeat_main Tryd.lays105 Tryd.Builder_Extra_105 s c w hc2 hc hlen h0
open Go.RowKit Go.Lib in
theorem Tryd.strings_Repeat_zero (s:ByteArray) (w:World):
  Calls Tryd.prog 45 #[.string s,.int .i64 0] w fun e w'=>e= .returned (.string ⟨#[]⟩)∧w'=w:=Any.strings_Repeat_zero Tryd.lays105 s w
open Go.RowKit Go.Lib in
theorem Tryd.strings_Repeat_one (s:ByteArray) (w:World):
  Calls Tryd.prog 45 #[.string s,.int .i64 1] w fun e w'=>e= .returned (.string s)∧w'=w:=Any.strings_Repeat_one Tryd.lays105 s w
end Go.Proofs
