/- Part of a proof that a law returns true for every input. No condition. -/
import Derived.Ground.NamesProg
import Derived.Shelf.Lays
import Derived.Shelf.Strings.BuilderX
import Derived.Shelf.LaysC
import Derived.Shelf.LaysM
import Derived.Shelf.Strings.Prefix
import Derived.Shelf.Strconv.ParseIntPublic10
import Derived.Shelf.Strconv.Itoa4
import Derived.WalkKit
import Derived.BigCall
import Derived.Test.YtlkabaochkgkdaaGreatDoorUHD
import Derived.Shelf.Strings.OnBuilder
import Derived.Test.YtlkabaochkgkdaaGreatDoorFwM
import Derived.Test.YtlkabaochkgkdaaGreatDoorC3
namespace Go.Proofs.YtlkabaochkgkdaaGreatDoor
open Go Go.c_ Go.eU Go.Shelf
set_option maxRecDepth 100000
def Tryz.azM:Go.Shelf.Ren:=⟨λ|173=>174|246=>189|283=>198|284=>199|285=>200|286=>201|129=>206|317=>205|318=>207|319=>208|320=>209|337=>210|338=>211|n=>n,λ|2=>2|3=>3|9=>9|4=>4|171=>239|0=>0|53=>227|37=>106|5=>5|173=>242|212=>255|51=>223|20=>20|213=>256|46=>211|232=>260|233=>261|n=>n,λ|17=>5|18=>6|19=>7|n=>n⟩
theorem Tryz.Rc:Go.Proofs.Lays.n173 Tryz.prog Tryz.azM:={
 mixed:=by kernel_rfl
 f129:=Tryz.func206.trans (congrArg some (by kernel_rfl))
 f173:=Tryz.func174.trans (congrArg some (by kernel_rfl))
 f246:=Tryz.func189.trans (congrArg some (by kernel_rfl))
 f283:=Tryz.func198.trans (congrArg some (by kernel_rfl))
 f284:=Tryz.func199.trans (congrArg some (by kernel_rfl))
 f285:=Tryz.func200.trans (congrArg some (by kernel_rfl))
 f286:=Tryz.func201.trans (congrArg some (by kernel_rfl))
 f317:=Tryz.func205.trans (congrArg some (by kernel_rfl))
 f318:=Tryz.func207.trans (congrArg some (by kernel_rfl))
 f319:=Tryz.func208.trans (congrArg some (by kernel_rfl))
 f320:=Tryz.func209.trans (congrArg some (by kernel_rfl))
 f337:=Tryz.func210.trans (congrArg some (by kernel_rfl))
 f338:=Tryz.func211.trans (congrArg some (by kernel_rfl))
 t0:=Tryz.underlying0
 a0:=Tryz.isAgg0
 z0:=Tryz.sizeOf0
 v0:=Tryz.zeroValue0
 t2:=Tryz.underlying2
 a2:=Tryz.isAgg2
 z2:=Tryz.sizeOf2
 v2:=Tryz.zeroValue2
 t3:=Tryz.underlying3
 a3:=Tryz.isAgg3
 z3:=Tryz.sizeOf3
 v3:=Tryz.zeroValue3
 t4:=Tryz.underlying4
 a4:=Tryz.isAgg4
 z4:=Tryz.sizeOf4
 v4:=Tryz.zeroValue4
 t5:=Tryz.underlying5
 a5:=Tryz.isAgg5
 z5:=Tryz.sizeOf5
 v5:=Tryz.zeroValue5
 t9:=Tryz.underlying9
 a9:=Tryz.isAgg9
 z9:=Tryz.sizeOf9
 v9:=Tryz.zeroValue9
 t20:=Tryz.underlying20
 a20:=Tryz.isAgg20
 z20:=Tryz.sizeOf20
 v20:=Tryz.zeroValue20
 t37:=Tryz.underlying106
 a37:=Tryz.isAgg106
 z37:=Tryz.sizeOf106
 v37:=Tryz.zeroValue106
 t46:=Tryz.underlying211
 a46:=Tryz.isAgg211
 z46:=Tryz.sizeOf211
 v46:=Tryz.zeroValue211
 t51:=Tryz.underlying223
 a51:=Tryz.isAgg223
 z51:=Tryz.sizeOf223
 v51:=Tryz.zeroValue223
 t53:=Tryz.underlying227
 a53:=Tryz.isAgg227
 z53:=Tryz.sizeOf227
 v53:=Tryz.zeroValue227
 t171:=Tryz.underlying239
 a171:=Tryz.isAgg239
 z171:=Tryz.sizeOf239
 v171:=Tryz.zeroValue239
 t173:=Tryz.underlying242
 a173:=Tryz.isAgg242
 z173:=Tryz.sizeOf242
 v173:=Tryz.zeroValue242
 t212:=Tryz.underlying255
 a212:=Tryz.isAgg255
 z212:=Tryz.sizeOf255
 v212:=Tryz.zeroValue255
 t213:=Tryz.underlying256
 a213:=Tryz.isAgg256
 z213:=Tryz.sizeOf256
 t232:=Tryz.underlying260
 a232:=Tryz.isAgg260
 z232:=Tryz.sizeOf260
 v232:=Tryz.zeroValue260
 t233:=Tryz.underlying261
 a233:=Tryz.isAgg261
 z233:=Tryz.sizeOf261
 v233:=Tryz.zeroValue261
 g17:=by kernel_rfl
 g18:=by kernel_rfl
 g19:=by kernel_rfl}
def Tryz.Rd:Go.Shelf.Ren:=⟨λ|156=>165|165=>178|166=>179|169=>180|240=>191|241=>192|276=>202|277=>203|n=>n,λ|31=>25|9=>9|3=>3|4=>4|0=>0|20=>20|72=>218|76=>220|70=>216|37=>106|75=>202|127=>233|164=>248|5=>5|80=>222|n=>n,λ|n=>n⟩
theorem Tryz.JU:Go.Proofs.Lays.n156 Tryz.prog Tryz.Rd:={
 mixed:=by kernel_rfl
 f156:=Tryz.func165.trans (congrArg some (by kernel_rfl))
 f165:=Tryz.func178.trans (congrArg some (by kernel_rfl))
 f166:=Tryz.func179.trans (congrArg some (by kernel_rfl))
 f169:=Tryz.func180.trans (congrArg some (by kernel_rfl))
 f240:=Tryz.func191.trans (congrArg some (by kernel_rfl))
 f241:=Tryz.func192.trans (congrArg some (by kernel_rfl))
 f276:=Tryz.func202.trans (congrArg some (by kernel_rfl))
 f277:=Tryz.func203.trans (congrArg some (by kernel_rfl))
 t0:=Tryz.underlying0
 a0:=Tryz.isAgg0
 z0:=Tryz.sizeOf0
 v0:=Tryz.zeroValue0
 t3:=Tryz.underlying3
 a3:=Tryz.isAgg3
 z3:=Tryz.sizeOf3
 v3:=Tryz.zeroValue3
 t4:=Tryz.underlying4
 a4:=Tryz.isAgg4
 z4:=Tryz.sizeOf4
 v4:=Tryz.zeroValue4
 t9:=Tryz.underlying9
 a9:=Tryz.isAgg9
 z9:=Tryz.sizeOf9
 v9:=Tryz.zeroValue9
 t20:=Tryz.underlying20
 a20:=Tryz.isAgg20
 z20:=Tryz.sizeOf20
 v20:=Tryz.zeroValue20
 t31:=Tryz.underlying25
 a31:=Tryz.isAgg25
 z31:=Tryz.sizeOf25
 v31:=Tryz.zeroValue25
 t37:=Tryz.underlying106
 a37:=Tryz.isAgg106
 z37:=Tryz.sizeOf106
 v37:=Tryz.zeroValue106
 t70:=Tryz.underlying216
 a70:=Tryz.isAgg216
 z70:=Tryz.sizeOf216
 v70:=Tryz.zeroValue216
 t72:=Tryz.underlying218
 a72:=Tryz.isAgg218
 z72:=Tryz.sizeOf218
 v72:=Tryz.zeroValue218
 t75:=Tryz.underlying202
 a75:=Tryz.isAgg202
 z75:=Tryz.sizeOf202
 v75:=Tryz.zeroValue202
 t76:=Tryz.underlying220
 a76:=Tryz.isAgg220
 z76:=Tryz.sizeOf220
 v76:=Tryz.zeroValue220
 t127:=Tryz.underlying233
 a127:=Tryz.isAgg233
 z127:=Tryz.sizeOf233
 v127:=Tryz.zeroValue233
 t164:=Tryz.underlying248
 a164:=Tryz.isAgg248
 z164:=Tryz.sizeOf248
 v164:=Tryz.zeroValue248}
theorem Tryz.Re:Builder.Extra Tryz.prog Tryz.Rd:={
 sizeBuilder:=by kernel_rfl
 liesBuilder:=by kernel_rfl
 t5:=Tryz.underlying5
 a5:=Tryz.isAgg5
 z5:=Tryz.sizeOf5
 v5:=Tryz.zeroValue5
 infoByte:=by kernel_rfl
 cellsByte:=by kernel_rfl
 sizeByte:=by kernel_rfl
 neB5:=by decide}
def Tryz.azN:Go.Shelf.Ren:=⟨λ|101=>158|208=>171|206=>183|n=>n,λ|9=>9|4=>4|3=>3|n=>n,λ|n=>n⟩
theorem Tryz.JV:Go.Proofs.Lays.n101 Tryz.prog Tryz.azN:={
 mixed:=by kernel_rfl
 f101:=Tryz.func158.trans (congrArg some (by kernel_rfl))
 f206:=Tryz.func183.trans (congrArg some (by kernel_rfl))
 f208:=Tryz.func171.trans (congrArg some (by kernel_rfl))
 t3:=Tryz.underlying3
 a3:=Tryz.isAgg3
 z3:=Tryz.sizeOf3
 v3:=Tryz.zeroValue3
 t4:=Tryz.underlying4
 a4:=Tryz.isAgg4
 z4:=Tryz.sizeOf4
 v4:=Tryz.zeroValue4
 t9:=Tryz.underlying9
 a9:=Tryz.isAgg9
 z9:=Tryz.sizeOf9
 v9:=Tryz.zeroValue9}
def Tryz.azO:Go.Shelf.Ren:=⟨λ|174=>159|247=>172|245=>173|287=>184|279=>185|280=>186|281=>187|282=>188|321=>193|322=>194|316=>195|171=>197|205=>196|243=>204|246=>189|283=>198|284=>199|285=>200|286=>201|129=>206|317=>205|318=>207|319=>208|320=>209|337=>210|338=>211|n=>n,λ|9=>9|3=>3|2=>2|75=>202|85=>203|4=>4|167=>226|5=>5|53=>227|175=>228|46=>211|168=>230|37=>106|0=>0|210=>237|21=>21|127=>233|145=>253|143=>251|171=>239|173=>242|212=>255|51=>223|20=>20|213=>256|232=>260|233=>261|80=>222|n=>n,λ|15=>1|16=>2|17=>5|18=>6|19=>7|n=>n⟩
theorem Tryz.Rf:Go.Proofs.LaysC.n174 Tryz.prog Tryz.azO:={
 mixed:=by kernel_rfl
 f129:=Tryz.func206.trans (congrArg some (by kernel_rfl))
 f171:=Tryz.func197.trans (congrArg some (by kernel_rfl))
 f174:=Tryz.func159.trans (congrArg some (by kernel_rfl))
 f205:=Tryz.func196.trans (congrArg some (by kernel_rfl))
 f243:=Tryz.func204.trans (congrArg some (by kernel_rfl))
 f245:=Tryz.func173.trans (congrArg some (by kernel_rfl))
 f246:=Tryz.func189.trans (congrArg some (by kernel_rfl))
 f247:=Tryz.func172.trans (congrArg some (by kernel_rfl))
 f279:=Tryz.func185.trans (congrArg some (by kernel_rfl))
 f280:=Tryz.func186.trans (congrArg some (by kernel_rfl))
 f281:=Tryz.func187.trans (congrArg some (by kernel_rfl))
 f282:=Tryz.func188.trans (congrArg some (by kernel_rfl))
 f283:=Tryz.func198.trans (congrArg some (by kernel_rfl))
 f284:=Tryz.func199.trans (congrArg some (by kernel_rfl))
 f285:=Tryz.func200.trans (congrArg some (by kernel_rfl))
 f286:=Tryz.func201.trans (congrArg some (by kernel_rfl))
 f287:=Tryz.func184.trans (congrArg some (by kernel_rfl))
 f316:=Tryz.func195.trans (congrArg some (by kernel_rfl))
 f317:=Tryz.func205.trans (congrArg some (by kernel_rfl))
 f318:=Tryz.func207.trans (congrArg some (by kernel_rfl))
 f319:=Tryz.func208.trans (congrArg some (by kernel_rfl))
 f320:=Tryz.func209.trans (congrArg some (by kernel_rfl))
 f321:=Tryz.func193.trans (congrArg some (by kernel_rfl))
 f322:=Tryz.func194.trans (congrArg some (by kernel_rfl))
 f337:=Tryz.func210.trans (congrArg some (by kernel_rfl))
 f338:=Tryz.func211.trans (congrArg some (by kernel_rfl))
 t0:=Tryz.underlying0
 a0:=Tryz.isAgg0
 z0:=Tryz.sizeOf0
 v0:=Tryz.zeroValue0
 t2:=Tryz.underlying2
 a2:=Tryz.isAgg2
 z2:=Tryz.sizeOf2
 v2:=Tryz.zeroValue2
 t3:=Tryz.underlying3
 a3:=Tryz.isAgg3
 z3:=Tryz.sizeOf3
 v3:=Tryz.zeroValue3
 t4:=Tryz.underlying4
 a4:=Tryz.isAgg4
 z4:=Tryz.sizeOf4
 v4:=Tryz.zeroValue4
 t5:=Tryz.underlying5
 a5:=Tryz.isAgg5
 z5:=Tryz.sizeOf5
 v5:=Tryz.zeroValue5
 t9:=Tryz.underlying9
 a9:=Tryz.isAgg9
 z9:=Tryz.sizeOf9
 v9:=Tryz.zeroValue9
 t20:=Tryz.underlying20
 a20:=Tryz.isAgg20
 z20:=Tryz.sizeOf20
 v20:=Tryz.zeroValue20
 t21:=Tryz.underlying21
 a21:=Tryz.isAgg21
 z21:=Tryz.sizeOf21
 v21:=Tryz.zeroValue21
 t37:=Tryz.underlying106
 a37:=Tryz.isAgg106
 z37:=Tryz.sizeOf106
 v37:=Tryz.zeroValue106
 t46:=Tryz.underlying211
 a46:=Tryz.isAgg211
 z46:=Tryz.sizeOf211
 v46:=Tryz.zeroValue211
 t51:=Tryz.underlying223
 a51:=Tryz.isAgg223
 z51:=Tryz.sizeOf223
 v51:=Tryz.zeroValue223
 t53:=Tryz.underlying227
 a53:=Tryz.isAgg227
 z53:=Tryz.sizeOf227
 v53:=Tryz.zeroValue227
 t75:=Tryz.underlying202
 a75:=Tryz.isAgg202
 z75:=Tryz.sizeOf202
 v75:=Tryz.zeroValue202
 t85:=Tryz.underlying203
 a85:=Tryz.isAgg203
 z85:=Tryz.sizeOf203
 v85:=Tryz.zeroValue203
 t127:=Tryz.underlying233
 a127:=Tryz.isAgg233
 z127:=Tryz.sizeOf233
 v127:=Tryz.zeroValue233
 t143:=Tryz.underlying251
 a143:=Tryz.isAgg251
 z143:=Tryz.sizeOf251
 v143:=Tryz.zeroValue251
 t145:=Tryz.underlying253
 a145:=Tryz.isAgg253
 z145:=Tryz.sizeOf253
 v145:=Tryz.zeroValue253
 t167:=Tryz.underlying226
 a167:=Tryz.isAgg226
 z167:=Tryz.sizeOf226
 v167:=Tryz.zeroValue226
 t168:=Tryz.underlying230
 a168:=Tryz.isAgg230
 z168:=Tryz.sizeOf230
 v168:=Tryz.zeroValue230
 t171:=Tryz.underlying239
 a171:=Tryz.isAgg239
 z171:=Tryz.sizeOf239
 v171:=Tryz.zeroValue239
 t173:=Tryz.underlying242
 a173:=Tryz.isAgg242
 z173:=Tryz.sizeOf242
 v173:=Tryz.zeroValue242
 t175:=Tryz.underlying228
 a175:=Tryz.isAgg228
 z175:=Tryz.sizeOf228
 v175:=Tryz.zeroValue228
 t210:=Tryz.underlying237
 a210:=Tryz.isAgg237
 z210:=Tryz.sizeOf237
 v210:=Tryz.zeroValue237
 t212:=Tryz.underlying255
 a212:=Tryz.isAgg255
 z212:=Tryz.sizeOf255
 v212:=Tryz.zeroValue255
 t213:=Tryz.underlying256
 a213:=Tryz.isAgg256
 z213:=Tryz.sizeOf256
 t232:=Tryz.underlying260
 a232:=Tryz.isAgg260
 z232:=Tryz.sizeOf260
 v232:=Tryz.zeroValue260
 t233:=Tryz.underlying261
 a233:=Tryz.isAgg261
 z233:=Tryz.sizeOf261
 v233:=Tryz.zeroValue261
 g15:=by kernel_rfl
 g16:=by kernel_rfl
 g17:=by kernel_rfl
 g18:=by kernel_rfl
 g19:=by kernel_rfl
 t80:=Tryz.underlying222
 a80:=Tryz.isAgg222
 z80:=Tryz.sizeOf222
 v80:=Tryz.zeroValue222
 i0:=by kernel_rfl
 i2:=by kernel_rfl
 i3:=by kernel_rfl
 i4:=by kernel_rfl
 i5:=by kernel_rfl
 i9:=by kernel_rfl
 i20:=by kernel_rfl
 i21:=by kernel_rfl
 i37:=by kernel_rfl
 i46:=by kernel_rfl
 i51:=by kernel_rfl
 i53:=by kernel_rfl
 i75:=by kernel_rfl
 i80:=by kernel_rfl
 i85:=by kernel_rfl
 i127:=by kernel_rfl
 i143:=by kernel_rfl
 i145:=by kernel_rfl
 i167:=by kernel_rfl
 i168:=by kernel_rfl
 i171:=by kernel_rfl
 i173:=by kernel_rfl
 i175:=by kernel_rfl
 i210:=by kernel_rfl
 i212:=by kernel_rfl
 i232:=by kernel_rfl
 i233:=by kernel_rfl
 m15:=by kernel_rfl
 m16:=by kernel_rfl
 m17:=by kernel_rfl
 m18:=by kernel_rfl
 m19:=by kernel_rfl
 c0:=by kernel_rfl
 c2:=by kernel_rfl
 c3:=by kernel_rfl
 c4:=by kernel_rfl
 c5:=by kernel_rfl
 c9:=by kernel_rfl
 c20:=by kernel_rfl
 c21:=by kernel_rfl
 c37:=by kernel_rfl
 c46:=by kernel_rfl
 c51:=by kernel_rfl
 c53:=by kernel_rfl
 c75:=by kernel_rfl
 c80:=by kernel_rfl
 c85:=by kernel_rfl
 c127:=by kernel_rfl
 c143:=by kernel_rfl
 c145:=by kernel_rfl
 c167:=by kernel_rfl
 c168:=by kernel_rfl
 c171:=by kernel_rfl
 c173:=by kernel_rfl
 c175:=by kernel_rfl
 c210:=by kernel_rfl
 c212:=by kernel_rfl
 c213:=by kernel_rfl
 c232:=by kernel_rfl
 c233:=by kernel_rfl}
def Tryz.azP:Go.Shelf.Ren:=⟨λ|173=>174|246=>189|283=>198|284=>199|285=>200|286=>201|129=>206|317=>205|318=>207|319=>208|320=>209|337=>210|338=>211|n=>n,λ|2=>2|3=>3|9=>9|4=>4|171=>239|0=>0|53=>227|37=>106|5=>5|173=>242|212=>255|51=>223|20=>20|213=>256|46=>211|232=>260|233=>261|n=>n,λ|17=>5|18=>6|19=>7|n=>n⟩
theorem Tryz.azQ:Go.Proofs.LaysM.n173 Tryz.prog Tryz.azP:={
 mixed:=by kernel_rfl
 f129:=Tryz.func206.trans (congrArg some (by kernel_rfl))
 f173:=Tryz.func174.trans (congrArg some (by kernel_rfl))
 f246:=Tryz.func189.trans (congrArg some (by kernel_rfl))
 f283:=Tryz.func198.trans (congrArg some (by kernel_rfl))
 f284:=Tryz.func199.trans (congrArg some (by kernel_rfl))
 f285:=Tryz.func200.trans (congrArg some (by kernel_rfl))
 f286:=Tryz.func201.trans (congrArg some (by kernel_rfl))
 f317:=Tryz.func205.trans (congrArg some (by kernel_rfl))
 f318:=Tryz.func207.trans (congrArg some (by kernel_rfl))
 f319:=Tryz.func208.trans (congrArg some (by kernel_rfl))
 f320:=Tryz.func209.trans (congrArg some (by kernel_rfl))
 f337:=Tryz.func210.trans (congrArg some (by kernel_rfl))
 f338:=Tryz.func211.trans (congrArg some (by kernel_rfl))
 t0:=Tryz.underlying0
 a0:=Tryz.isAgg0
 z0:=Tryz.sizeOf0
 v0:=Tryz.zeroValue0
 t2:=Tryz.underlying2
 a2:=Tryz.isAgg2
 z2:=Tryz.sizeOf2
 v2:=Tryz.zeroValue2
 t3:=Tryz.underlying3
 a3:=Tryz.isAgg3
 z3:=Tryz.sizeOf3
 v3:=Tryz.zeroValue3
 t4:=Tryz.underlying4
 a4:=Tryz.isAgg4
 z4:=Tryz.sizeOf4
 v4:=Tryz.zeroValue4
 t5:=Tryz.underlying5
 a5:=Tryz.isAgg5
 z5:=Tryz.sizeOf5
 v5:=Tryz.zeroValue5
 t9:=Tryz.underlying9
 a9:=Tryz.isAgg9
 z9:=Tryz.sizeOf9
 v9:=Tryz.zeroValue9
 t20:=Tryz.underlying20
 a20:=Tryz.isAgg20
 z20:=Tryz.sizeOf20
 v20:=Tryz.zeroValue20
 t37:=Tryz.underlying106
 a37:=Tryz.isAgg106
 z37:=Tryz.sizeOf106
 v37:=Tryz.zeroValue106
 t46:=Tryz.underlying211
 a46:=Tryz.isAgg211
 z46:=Tryz.sizeOf211
 v46:=Tryz.zeroValue211
 t51:=Tryz.underlying223
 a51:=Tryz.isAgg223
 z51:=Tryz.sizeOf223
 v51:=Tryz.zeroValue223
 t53:=Tryz.underlying227
 a53:=Tryz.isAgg227
 z53:=Tryz.sizeOf227
 v53:=Tryz.zeroValue227
 t171:=Tryz.underlying239
 a171:=Tryz.isAgg239
 z171:=Tryz.sizeOf239
 v171:=Tryz.zeroValue239
 t173:=Tryz.underlying242
 a173:=Tryz.isAgg242
 z173:=Tryz.sizeOf242
 v173:=Tryz.zeroValue242
 t212:=Tryz.underlying255
 a212:=Tryz.isAgg255
 z212:=Tryz.sizeOf255
 v212:=Tryz.zeroValue255
 t213:=Tryz.underlying256
 a213:=Tryz.isAgg256
 z213:=Tryz.sizeOf256
 t232:=Tryz.underlying260
 a232:=Tryz.isAgg260
 z232:=Tryz.sizeOf260
 v232:=Tryz.zeroValue260
 t233:=Tryz.underlying261
 a233:=Tryz.isAgg261
 z233:=Tryz.sizeOf261
 v233:=Tryz.zeroValue261
 g17:=by kernel_rfl
 g18:=by kernel_rfl
 g19:=by kernel_rfl
 i0:=by kernel_rfl
 i2:=by kernel_rfl
 i3:=by kernel_rfl
 i4:=by kernel_rfl
 i5:=by kernel_rfl
 i9:=by kernel_rfl
 i20:=by kernel_rfl
 i37:=by kernel_rfl
 i46:=by kernel_rfl
 i51:=by kernel_rfl
 i53:=by kernel_rfl
 i171:=by kernel_rfl
 i173:=by kernel_rfl
 i212:=by kernel_rfl
 i232:=by kernel_rfl
 i233:=by kernel_rfl
 m17:=by kernel_rfl
 m18:=by kernel_rfl
 m19:=by kernel_rfl}
theorem azR:One bd (λx=>.string ⟨⟨x⟩⟩):=⟨λ_=>rfl,λw F x cs S=>by unfold bd;rw[ax]⟩
theorem azS (n:Nat) (h:n<100):Lib.decDigits n=pF n:=by
 unfold Lib.decDigits pF;by_cases ag:n<10
 .rw[dif_pos ag,if_pos ag]
 .rw[dif_neg ag,if_neg ag];unfold Lib.decDigits;rw[dif_pos (by omega)];rfl
theorem azT (a0 R:Int) (r:List UInt8) (h:AH a0 R=some r):bk aF 174 [.int .i64 a0,.int .i64 R] (.str r) []:=by
 unfold AH at h;split at h
 .rename_i hl;obtain⟨ba,ag,rfl⟩:=hl;cases h;refine bk.strs rfl (enters_of Tryz.Rc.f173 (by kernel_rfl) rfl) λw F X S vs oo aS=>?_;obtain⟨v0,v1,rfl⟩:∃v0 v1,vs=[v0,v1]:=by
   match vs,oo with
   |[x,y],_=>exact⟨x,y,rfl⟩
  have g0:v0= .int .i64 a0:=nI (aS.dF 0);have g1:v1= .int .i64 10:=nI (aS.dF 1);subst g0 g1;have:=Any.strconv_FormatInt_10_small Tryz.Rc a0.toNat (by omega) w;rw[azS _ (by omega),show((a0.toNat:Nat):Int)=a0 from Int.toNat_of_nonneg ba]at this;exact this.mono λe aL ⟨he,hw⟩=>⟨he,hw▸RowKit.Below.refl _ _⟩
 .cases h
theorem azU (a0:List (List UInt8)) (R r:List UInt8) (h:strings_Join a0 R=some r):bk aF 165 [.slice (a0.map bd),.str R] (.str r) []:=by
 unfold strings_Join at h;split at h
 .rename_i hl;cases h;refine bk.strs rfl (enters_of Tryz.JU.f156 (by kernel_rfl) rfl) λw F X S vs oo aS=>?_;obtain⟨v0,v1,rfl⟩:∃v0 v1,vs=[v0,v1]:=by
   match vs,oo with
   |[x,y],_=>exact⟨x,y,rfl⟩
  have ag:v1= .string ⟨⟨R⟩⟩:=mZ (aS.dF 1);subst ag;rcases YE aS (u:=0) azR rfl with⟨rfl,a,c,aT⟩|⟨b,o,cap,aT,ad,aq,aw⟩
  .have aT:v0= .slice a 0 c:=aT;subst aT;exact(Any.strings_Join_none Tryz.JU Tryz.Re a c ⟨⟨R⟩⟩ w).mono λe aL ⟨he,hw⟩=>⟨he,hw▸RowKit.Below.refl _ _⟩
  .have aT:v0= .slice (some ⟨b,o,none⟩) a0.length cap:=aT;subst aT;have aX:(a0.map λx=>(⟨⟨x⟩⟩:ByteArray)).map (·.data.toList)=a0:=by rw[List.map_map];exact List.map_id _
   have:=Any.strings_Join Tryz.JU Tryz.Re b o cap (a0.map λx=>⟨⟨x⟩⟩) ⟨⟨R⟩⟩ w (λj x cH=>by
    rw[List.getElem?_map]at cH;obtain⟨y,hy,rfl⟩:=Option.map_eq_some_iff.1 cH;exact aw j y hy) ad (by rw[List.length_map];exact hl.1) (by rw[List.length_map];exact aq) (by rw[aX];exact hl.2)
   rw[aX,List.length_map]at this;exact this
 .cases h
section
open Go.RowKit
set_option maxHeartbeats 4000000
theorem azV (n:Int) (ba: -9223372036854775808<=n) (ag:n<=9223372036854775807) (w:World) (FJ:Lib.TabIs Tryz.prog w "internal/strconv.uint64pow10" .u64 Lib.pow10Tab):
  Calls Tryz.prog 160 #[.int .i64 n] w λe aL=>e= .returned (.string ⟨(Lib.itoa n).toArray⟩)/\∃k os,aL=Sort.grow (w.drewN k) os:=by
 go_enter Tryz.func160,Tryz.ntmps160
 go_wp2_with (go_at_call 174;refine(Any.strconv_FormatInt_10 Tryz.azQ n ba ag _ FJ).mono ?_;rintro e aL ⟨rfl,k,os,rfl⟩)
 go_ret
 exact⟨rfl,k,os,rfl⟩
theorem azW {P:Program} {w aL:World} {name:String} {k:IntKind} {hn:List Int} (h:Lib.TabIs P w name k hn) (ad:Below w.heap.size w aL):Lib.TabIs P aL name k hn:=by
 unfold Lib.TabIs World.var? at*;cases hg:P.globalNamed name with
 |none=>simp[hg]at h
 |some g=>
  simp only[hg,Option.bind_some]at h⊢;have e6:g<w.heap.size:=by
   rcases Nat.lt_or_ge g w.heap.size with bt|bt
   .exact bt
   .rw[Array.getElem?_eq_none bt]at h;simp at h
  rw[ad.block g e6];exact h
theorem Rg {w aL:World} (h:Below w.heap.size w aL) (k:Nat) (os:Array Obj):Below w.heap.size w (Sort.grow (aL.drewN k) os) where
 os:=h.os
 tape:=h.tape
 output:=h.output
 size:=Nat.le_trans h.size (by simp[Sort.grow,World.drewN])
 block:=λb ad=>by
  have:=h.block b ad;rw[<-this];show(aL.heap++os)[b]? =_;rw[Array.getElem?_append_left (Nat.lt_of_lt_of_le ad h.size)]
theorem azX (s:List UInt8) (hl:¬(Lib.trimPrefix s [45]).length<=18) (w:World):
  Calls Tryz.prog 144 #[.string ⟨⟨s⟩⟩] w λe aL=>e= .returned (.tuple #[.int .i64 0,.bool false])/\Below w.heap.size w aL:=by
 go_enter Tryz.func144,Tryz.ntmps144
 go_wp2_with (go_at_call 158;refine(Any.strings_TrimPrefix Tryz.JV ⟨⟨s⟩⟩ ⟨#[45]⟩ _).mono ?_;rintro e aL ⟨rfl,rfl⟩)
 go_ret2
 exact⟨rfl,Below.refl _ _⟩
theorem azY (s:List UInt8) (hl:(Lib.trimPrefix s [45]).length<=18) (ae:s.length<=1000) (au:Lib.parseIntB 64 s=Lib.parseIntB 64 []) (aP:Value) (w:World) (aT:w.cell? ⟨1,0,none⟩=some aP) (azZ:aP= .nilIface\/∃GS GU,aP= .iface GS GU):
  Calls Tryz.prog 144 #[.string ⟨⟨s⟩⟩] w λe aL=>e= .returned (.tuple #[.int .i64 0,.bool false])/\Below w.heap.size w aL:=by
 go_enter Tryz.func144,Tryz.ntmps144
 go_wp2_with (first|(go_at_call 158;refine(Any.strings_TrimPrefix Tryz.JV ⟨⟨s⟩⟩ ⟨#[45]⟩ _).mono ?_;rintro e aL ⟨rfl,rfl⟩)|(go_at_call 159;refine(Any.strconv_ParseInt_10_at64_syntax Tryz.Rf ⟨⟨s⟩⟩ (Nat.le_trans ae (by decide)) au aP _ aT azZ).mono ?_))
 rintro e zC ⟨N,rfl,-,-,ad⟩
 go_wp2
 go_ret2
 exact⟨rfl,ad⟩
theorem az0 (s:List UInt8) (hl:(Lib.trimPrefix s [45]).length<=18) (ae:s.length<=1000) (v:Int) (au:Lib.parseIntB 64 s= .ok v) (ba: -9223372036854775808<=v) (ag:v<=9223372036854775807) (w:World) (FJ:Lib.TabIs Tryz.prog w "internal/strconv.uint64pow10" .u64 Lib.pow10Tab):
  Calls Tryz.prog 144 #[.string ⟨⟨s⟩⟩] w λe aL=>e= .returned (.tuple #[.int .i64 (q0 s).1,.bool (q0 s).2])/\Below w.heap.size w aL:=by
 go_enter Tryz.func144,Tryz.ntmps144
 go_wp2_with (first|(go_at_call 158;refine(Any.strings_TrimPrefix Tryz.JV ⟨⟨s⟩⟩ ⟨#[45]⟩ _).mono ?_;rintro e aL ⟨rfl,rfl⟩)|(go_at_call 159;refine(Any.strconv_ParseInt_10_at64_ok Tryz.Rf ⟨⟨s⟩⟩ (Nat.le_trans ae (by decide)) v au _).mono ?_))
 rintro e zC ⟨rfl,ad⟩;have az1:Lib.TabIs Tryz.prog zC "internal/strconv.uint64pow10" .u64 Lib.pow10Tab:=by
  rcases ad with rfl|⟨t,rfl⟩
  .exact FJ
  .exact azW FJ (Lib.bytesWorld_below _ _ _)
 have CN:Below aL.heap.size aL zC:=by
  rcases ad with rfl|⟨t,rfl⟩
  .exact Below.refl _ _
  .exact Lib.bytesWorld_below _ _ _
 clear ad
 go_wp2_with (go_at_call 160;refine(azV v ba ag _ az1).mono ?_;rintro e aL ⟨rfl,k,os,rfl⟩)
 all_goals go_ret2
 all_goals (rename_i h)
 .have e:q0 s=(0,false):=by
   unfold q0;rw[au];simp only;rw[if_neg (by intro e;simp[e]at h)]
  rw[e];exact⟨rfl,Rg CN _ _⟩
 .have e:q0 s=(v,true):=by
   unfold q0;rw[au];simp only;rw[if_pos (by simpa using h)]
  rw[e];exact⟨rfl,Rg CN _ _⟩
theorem az2 (s:List UInt8):(Lib.trimPrefix s [45]).length=(if s.head? =some 45 then s.tail else s).length:=by
 unfold Lib.trimPrefix Lib.hasPrefix;cases s with
 |nil=>rfl
 |cons c r=>
  by_cases h:c=45
  .subst h;rw[if_pos (show(45::r).head? =some 45 from rfl),if_pos (by simp[List.isPrefixOf])];rfl
  .rw[if_neg (show¬(c::r).head? =some 45 from λe=>h (Option.some.inj e)),if_neg (by simp[List.isPrefixOf];exact λe=>h e.symm)]
theorem az3 (s:List UInt8) (w:World) (hg:rq w λ_=>False):
  Calls Tryz.prog 144 #[.string ⟨⟨s⟩⟩] w λe aL=>e= .returned (.tuple #[.int .i64 (iH s).1,.bool (iH s).2])/\Below w.heap.size w aL:=by
 have bj:=az2 s;by_cases hl:(Lib.trimPrefix s [45]).length<=18
 .have ae:s.length<=1000:=by
   rw[bj]at hl;split at hl
   .rw[List.length_tail]at hl;omega
   .omega
  obtain⟨ag,ah⟩:=az4 s (by rw[<-bj];exact hl);rw[<-ah];rcases au:Lib.parseIntB 64 s with v|_|_
  rotate_left
  .have e:q0 s=(0,false):=by unfold q0;rw[au]
   obtain⟨_,_,o,g1,aP,cs,ty,fr,g2,g3,g4⟩:=hg (1,GR) (by simp[GW]);rw[e];refine azY s hl ae au aP w ?_ g4;simp only[World.cell?,g1,g2];simpa using g3
  .exact(ag au).elim
  .have ad:=Lib.parseIntB_bounds au;obtain⟨_,_,o,g1,ty,fr,g2⟩:=hg (5,GV) (by simp[GW]);refine az0 s hl ae v au (by have:=ad.1;simp at this;omega) (by have:=ad.2;simp at this;omega) w ?_;unfold Lib.TabIs World.var?;rw[show Tryz.prog.globalNamed "internal/strconv.uint64pow10" =some 5 by kernel_rfl];simp only[Option.bind_some,g1,g2,Lib.pow10Tab,List.map_map];rfl
 .have e:iH s=(0,false):=by
   rw[bj]at hl;unfold iH;split<;>rename_i h
   .rw[if_pos h]at hl;unfold mN;rw[if_neg (λbt=>hl bt.2.1)]
   .rw[if_neg h]at hl;unfold mN;rw[if_neg (λbt=>hl bt.2.1)]
  rw[e];exact azX s hl w
theorem az5 (a0:List UInt8) (r:Int×Bool) (h:EL a0=some r):bk aF 144 [.str a0] (.tuple [.int .i64 r.1,.bool r.2]) []:=by
 obtain rfl:iH a0=r:=Option.some.inj h;refine bk.below (v:=.tuple #[.int .i64 (iH a0).1,.bool (iH a0).2]) rfl (enters_of Tryz.func144 (by kernel_rfl) rfl) rfl
  ⟨_,rfl,rfl,λk d x aj aw=>?_⟩ (λw F=>?_) λw F X S vs oo aS=>?_
 .rcases k with _|_|k
  .simp at aj aw;subst aj aw;exact⟨rfl,λvs=>by simp,rfl⟩
  .simp at aj aw;subst aj aw;exact⟨rfl,λvs=>by simp,rfl⟩
  .simp at aj
 .simp only[cz,iv];rw[ax,bm];refine⟨[.int .i64 (iH a0).1],[.bool (iH a0).2],λ_=>False,λ_=>False,rfl,by rw[ax],?_,λ_ h=>h,λ_ h=>h,λ_ h=>h.elim⟩;rw[bm];exact⟨[.bool (iH a0).2],[],λ_=>False,λ_=>False,rfl,by rw[ax],by rw[bm],λ_ h=>h,λ_ h=>h,λ_ h=>h.elim⟩
 .obtain⟨v0,rfl⟩:∃v0,vs=[v0]:=by
   match vs,oo with
   |[x],_=>exact⟨x,rfl⟩
  have g0:v0= .string ⟨⟨a0⟩⟩:=mZ (aS.dF 0);subst g0;exact az3 a0 w (aS.hj.next (Nat.le_refl _) (λ_ _ _=>rfl) λ_ h=>h.elim)
end
end Go.Proofs.YtlkabaochkgkdaaGreatDoor
