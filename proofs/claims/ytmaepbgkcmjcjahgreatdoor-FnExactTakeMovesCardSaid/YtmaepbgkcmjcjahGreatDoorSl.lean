/- Part of a proof that a law returns true for every input. No condition. -/
import Derived.Ground.NamesProg
import Derived.Shelf.Lays
import Derived.Shelf.Strings.BuilderX
import Derived.Shelf.LaysC
import Derived.Shelf.LaysM
import Derived.Shelf.Strings.Prefix
import Derived.Shelf.Strconv.ParseIntPublic10
import Derived.Shelf.Strconv.Itoa4
import Derived.WalkKit
import Derived.BigCall
import Derived.Test.YtmaepbgkcmjcjahGreatDoorUV1x
import Derived.Shelf.Strings.OnBuilder
import Derived.Test.YtmaepbgkcmjcjahGreatDoorFwM
import Derived.Test.YtmaepbgkcmjcjahGreatDoorC3
namespace Go.Proofs.YtmaepbgkcmjcjahGreatDoor
open List Option Go.IntKind Nat Or
open Go Go.ei Go.k6 Go.Shelf
set_option maxRecDepth 100000
def Tryz.amT:Go.Shelf.Ren:=⟨λ|173=>147|246=>181|283=>214|284=>215|285=>216|286=>217|129=>243|317=>242|318=>244|319=>245|320=>246|337=>260|338=>261|n=>n,λ|2=>2|3=>3|9=>9|4=>4|171=>269|0=>0|53=>270|37=>134|5=>5|173=>273|212=>296|51=>286|20=>20|213=>297|46=>265|232=>318|233=>319|n=>n,λ|17=>1|18=>6|19=>7|n=>n⟩
theorem Tryz.ayD:Go.Proofs.Lays.n173 Tryz.prog Tryz.amT:={
 mixed:=by kernel_rfl
 f129:=Tryz.func243.trans (congrArg some (by kernel_rfl))
 f173:=Tryz.func147.trans (congrArg some (by kernel_rfl))
 f246:=Tryz.func181.trans (congrArg some (by kernel_rfl))
 f283:=Tryz.func214.trans (congrArg some (by kernel_rfl))
 f284:=Tryz.func215.trans (congrArg some (by kernel_rfl))
 f285:=Tryz.func216.trans (congrArg some (by kernel_rfl))
 f286:=Tryz.func217.trans (congrArg some (by kernel_rfl))
 f317:=Tryz.func242.trans (congrArg some (by kernel_rfl))
 f318:=Tryz.func244.trans (congrArg some (by kernel_rfl))
 f319:=Tryz.func245.trans (congrArg some (by kernel_rfl))
 f320:=Tryz.func246.trans (congrArg some (by kernel_rfl))
 f337:=Tryz.func260.trans (congrArg some (by kernel_rfl))
 f338:=Tryz.func261.trans (congrArg some (by kernel_rfl))
 t0:=Tryz.underlying0
 a0:=Tryz.isAgg0
 z0:=Tryz.sizeOf0
 v0:=Tryz.zeroValue0
 t2:=Tryz.underlying2
 a2:=Tryz.isAgg2
 z2:=Tryz.sizeOf2
 v2:=Tryz.zeroValue2
 t3:=Tryz.underlying3
 a3:=Tryz.isAgg3
 z3:=Tryz.sizeOf3
 v3:=Tryz.zeroValue3
 t4:=Tryz.underlying4
 a4:=Tryz.isAgg4
 z4:=Tryz.sizeOf4
 v4:=Tryz.zeroValue4
 t5:=Tryz.underlying5
 a5:=Tryz.isAgg5
 z5:=Tryz.sizeOf5
 v5:=Tryz.zeroValue5
 t9:=Tryz.underlying9
 a9:=Tryz.isAgg9
 z9:=Tryz.sizeOf9
 v9:=Tryz.zeroValue9
 t20:=Tryz.underlying20
 a20:=Tryz.isAgg20
 z20:=Tryz.sizeOf20
 v20:=Tryz.zeroValue20
 t37:=Tryz.underlying134
 a37:=Tryz.isAgg134
 z37:=Tryz.sizeOf134
 v37:=Tryz.zeroValue134
 t46:=Tryz.underlying265
 a46:=Tryz.isAgg265
 z46:=Tryz.sizeOf265
 v46:=Tryz.zeroValue265
 t51:=Tryz.underlying286
 a51:=Tryz.isAgg286
 z51:=Tryz.sizeOf286
 v51:=Tryz.zeroValue286
 t53:=Tryz.underlying270
 a53:=Tryz.isAgg270
 z53:=Tryz.sizeOf270
 v53:=Tryz.zeroValue270
 t171:=Tryz.underlying269
 a171:=Tryz.isAgg269
 z171:=Tryz.sizeOf269
 v171:=Tryz.zeroValue269
 t173:=Tryz.underlying273
 a173:=Tryz.isAgg273
 z173:=Tryz.sizeOf273
 v173:=Tryz.zeroValue273
 t212:=Tryz.underlying296
 a212:=Tryz.isAgg296
 z212:=Tryz.sizeOf296
 v212:=Tryz.zeroValue296
 t213:=Tryz.underlying297
 a213:=Tryz.isAgg297
 z213:=Tryz.sizeOf297
 t232:=Tryz.underlying318
 a232:=Tryz.isAgg318
 z232:=Tryz.sizeOf318
 v232:=Tryz.zeroValue318
 t233:=Tryz.underlying319
 a233:=Tryz.isAgg319
 z233:=Tryz.sizeOf319
 v233:=Tryz.zeroValue319
 g17:=by kernel_rfl
 g18:=by kernel_rfl
 g19:=by kernel_rfl}
def Tryz.Zv:Go.Shelf.Ren:=⟨λ|156=>149|165=>183|166=>184|169=>185|240=>219|241=>220|276=>248|277=>249|n=>n,λ|31=>25|9=>9|3=>3|4=>4|0=>0|20=>20|72=>238|76=>240|70=>236|37=>134|75=>231|127=>275|164=>300|5=>5|80=>242|n=>n,λ|n=>n⟩
theorem Tryz.RI:Go.Proofs.Lays.n156 Tryz.prog Tryz.Zv:={
 mixed:=by kernel_rfl
 f156:=Tryz.func149.trans (congrArg some (by kernel_rfl))
 f165:=Tryz.func183.trans (congrArg some (by kernel_rfl))
 f166:=Tryz.func184.trans (congrArg some (by kernel_rfl))
 f169:=Tryz.func185.trans (congrArg some (by kernel_rfl))
 f240:=Tryz.func219.trans (congrArg some (by kernel_rfl))
 f241:=Tryz.func220.trans (congrArg some (by kernel_rfl))
 f276:=Tryz.func248.trans (congrArg some (by kernel_rfl))
 f277:=Tryz.func249.trans (congrArg some (by kernel_rfl))
 t0:=Tryz.underlying0
 a0:=Tryz.isAgg0
 z0:=Tryz.sizeOf0
 v0:=Tryz.zeroValue0
 t3:=Tryz.underlying3
 a3:=Tryz.isAgg3
 z3:=Tryz.sizeOf3
 v3:=Tryz.zeroValue3
 t4:=Tryz.underlying4
 a4:=Tryz.isAgg4
 z4:=Tryz.sizeOf4
 v4:=Tryz.zeroValue4
 t9:=Tryz.underlying9
 a9:=Tryz.isAgg9
 z9:=Tryz.sizeOf9
 v9:=Tryz.zeroValue9
 t20:=Tryz.underlying20
 a20:=Tryz.isAgg20
 z20:=Tryz.sizeOf20
 v20:=Tryz.zeroValue20
 t31:=Tryz.underlying25
 a31:=Tryz.isAgg25
 z31:=Tryz.sizeOf25
 v31:=Tryz.zeroValue25
 t37:=Tryz.underlying134
 a37:=Tryz.isAgg134
 z37:=Tryz.sizeOf134
 v37:=Tryz.zeroValue134
 t70:=Tryz.underlying236
 a70:=Tryz.isAgg236
 z70:=Tryz.sizeOf236
 v70:=Tryz.zeroValue236
 t72:=Tryz.underlying238
 a72:=Tryz.isAgg238
 z72:=Tryz.sizeOf238
 v72:=Tryz.zeroValue238
 t75:=Tryz.underlying231
 a75:=Tryz.isAgg231
 z75:=Tryz.sizeOf231
 v75:=Tryz.zeroValue231
 t76:=Tryz.underlying240
 a76:=Tryz.isAgg240
 z76:=Tryz.sizeOf240
 v76:=Tryz.zeroValue240
 t127:=Tryz.underlying275
 a127:=Tryz.isAgg275
 z127:=Tryz.sizeOf275
 v127:=Tryz.zeroValue275
 t164:=Tryz.underlying300
 a164:=Tryz.isAgg300
 z164:=Tryz.sizeOf300
 v164:=Tryz.zeroValue300}
theorem Tryz.Zw:Builder.Extra Tryz.prog Tryz.Zv:={
 sizeBuilder:=by kernel_rfl
 liesBuilder:=by kernel_rfl
 t5:=Tryz.underlying5
 a5:=Tryz.isAgg5
 z5:=Tryz.sizeOf5
 v5:=Tryz.zeroValue5
 infoByte:=by kernel_rfl
 cellsByte:=by kernel_rfl
 sizeByte:=by kernel_rfl
 neB5:=by decide}
def Tryz.amU:Go.Shelf.Ren:=⟨λ|101=>175|208=>208|206=>235|n=>n,λ|9=>9|4=>4|3=>3|n=>n,λ|n=>n⟩
theorem Tryz.RJ:Go.Proofs.Lays.n101 Tryz.prog Tryz.amU:={
 mixed:=by kernel_rfl
 f101:=Tryz.func175.trans (congrArg some (by kernel_rfl))
 f206:=Tryz.func235.trans (congrArg some (by kernel_rfl))
 f208:=Tryz.func208.trans (congrArg some (by kernel_rfl))
 t3:=Tryz.underlying3
 a3:=Tryz.isAgg3
 z3:=Tryz.sizeOf3
 v3:=Tryz.zeroValue3
 t4:=Tryz.underlying4
 a4:=Tryz.isAgg4
 z4:=Tryz.sizeOf4
 v4:=Tryz.zeroValue4
 t9:=Tryz.underlying9
 a9:=Tryz.isAgg9
 z9:=Tryz.sizeOf9
 v9:=Tryz.zeroValue9}
def Tryz.amV:Go.Shelf.Ren:=⟨λ|174=>176|247=>209|245=>210|287=>236|279=>237|280=>238|281=>239|282=>240|321=>255|322=>256|316=>257|171=>259|205=>258|243=>263|246=>181|283=>214|284=>215|285=>216|286=>217|129=>243|317=>242|318=>244|319=>245|320=>246|337=>260|338=>261|n=>n,λ|9=>9|3=>3|2=>2|75=>231|85=>232|4=>4|167=>289|5=>5|53=>270|175=>290|46=>265|168=>292|37=>134|0=>0|210=>308|21=>21|127=>275|145=>317|143=>315|171=>269|173=>273|212=>296|51=>286|20=>20|213=>297|232=>318|233=>319|80=>242|n=>n,λ|15=>2|16=>3|17=>1|18=>6|19=>7|n=>n⟩
theorem Tryz.Zx:Go.Proofs.LaysC.n174 Tryz.prog Tryz.amV:={
 mixed:=by kernel_rfl
 f129:=Tryz.func243.trans (congrArg some (by kernel_rfl))
 f171:=Tryz.func259.trans (congrArg some (by kernel_rfl))
 f174:=Tryz.func176.trans (congrArg some (by kernel_rfl))
 f205:=Tryz.func258.trans (congrArg some (by kernel_rfl))
 f243:=Tryz.func263.trans (congrArg some (by kernel_rfl))
 f245:=Tryz.func210.trans (congrArg some (by kernel_rfl))
 f246:=Tryz.func181.trans (congrArg some (by kernel_rfl))
 f247:=Tryz.func209.trans (congrArg some (by kernel_rfl))
 f279:=Tryz.func237.trans (congrArg some (by kernel_rfl))
 f280:=Tryz.func238.trans (congrArg some (by kernel_rfl))
 f281:=Tryz.func239.trans (congrArg some (by kernel_rfl))
 f282:=Tryz.func240.trans (congrArg some (by kernel_rfl))
 f283:=Tryz.func214.trans (congrArg some (by kernel_rfl))
 f284:=Tryz.func215.trans (congrArg some (by kernel_rfl))
 f285:=Tryz.func216.trans (congrArg some (by kernel_rfl))
 f286:=Tryz.func217.trans (congrArg some (by kernel_rfl))
 f287:=Tryz.func236.trans (congrArg some (by kernel_rfl))
 f316:=Tryz.func257.trans (congrArg some (by kernel_rfl))
 f317:=Tryz.func242.trans (congrArg some (by kernel_rfl))
 f318:=Tryz.func244.trans (congrArg some (by kernel_rfl))
 f319:=Tryz.func245.trans (congrArg some (by kernel_rfl))
 f320:=Tryz.func246.trans (congrArg some (by kernel_rfl))
 f321:=Tryz.func255.trans (congrArg some (by kernel_rfl))
 f322:=Tryz.func256.trans (congrArg some (by kernel_rfl))
 f337:=Tryz.func260.trans (congrArg some (by kernel_rfl))
 f338:=Tryz.func261.trans (congrArg some (by kernel_rfl))
 t0:=Tryz.underlying0
 a0:=Tryz.isAgg0
 z0:=Tryz.sizeOf0
 v0:=Tryz.zeroValue0
 t2:=Tryz.underlying2
 a2:=Tryz.isAgg2
 z2:=Tryz.sizeOf2
 v2:=Tryz.zeroValue2
 t3:=Tryz.underlying3
 a3:=Tryz.isAgg3
 z3:=Tryz.sizeOf3
 v3:=Tryz.zeroValue3
 t4:=Tryz.underlying4
 a4:=Tryz.isAgg4
 z4:=Tryz.sizeOf4
 v4:=Tryz.zeroValue4
 t5:=Tryz.underlying5
 a5:=Tryz.isAgg5
 z5:=Tryz.sizeOf5
 v5:=Tryz.zeroValue5
 t9:=Tryz.underlying9
 a9:=Tryz.isAgg9
 z9:=Tryz.sizeOf9
 v9:=Tryz.zeroValue9
 t20:=Tryz.underlying20
 a20:=Tryz.isAgg20
 z20:=Tryz.sizeOf20
 v20:=Tryz.zeroValue20
 t21:=Tryz.underlying21
 a21:=Tryz.isAgg21
 z21:=Tryz.sizeOf21
 v21:=Tryz.zeroValue21
 t37:=Tryz.underlying134
 a37:=Tryz.isAgg134
 z37:=Tryz.sizeOf134
 v37:=Tryz.zeroValue134
 t46:=Tryz.underlying265
 a46:=Tryz.isAgg265
 z46:=Tryz.sizeOf265
 v46:=Tryz.zeroValue265
 t51:=Tryz.underlying286
 a51:=Tryz.isAgg286
 z51:=Tryz.sizeOf286
 v51:=Tryz.zeroValue286
 t53:=Tryz.underlying270
 a53:=Tryz.isAgg270
 z53:=Tryz.sizeOf270
 v53:=Tryz.zeroValue270
 t75:=Tryz.underlying231
 a75:=Tryz.isAgg231
 z75:=Tryz.sizeOf231
 v75:=Tryz.zeroValue231
 t85:=Tryz.underlying232
 a85:=Tryz.isAgg232
 z85:=Tryz.sizeOf232
 v85:=Tryz.zeroValue232
 t127:=Tryz.underlying275
 a127:=Tryz.isAgg275
 z127:=Tryz.sizeOf275
 v127:=Tryz.zeroValue275
 t143:=Tryz.underlying315
 a143:=Tryz.isAgg315
 z143:=Tryz.sizeOf315
 v143:=Tryz.zeroValue315
 t145:=Tryz.underlying317
 a145:=Tryz.isAgg317
 z145:=Tryz.sizeOf317
 v145:=Tryz.zeroValue317
 t167:=Tryz.underlying289
 a167:=Tryz.isAgg289
 z167:=Tryz.sizeOf289
 v167:=Tryz.zeroValue289
 t168:=Tryz.underlying292
 a168:=Tryz.isAgg292
 z168:=Tryz.sizeOf292
 v168:=Tryz.zeroValue292
 t171:=Tryz.underlying269
 a171:=Tryz.isAgg269
 z171:=Tryz.sizeOf269
 v171:=Tryz.zeroValue269
 t173:=Tryz.underlying273
 a173:=Tryz.isAgg273
 z173:=Tryz.sizeOf273
 v173:=Tryz.zeroValue273
 t175:=Tryz.underlying290
 a175:=Tryz.isAgg290
 z175:=Tryz.sizeOf290
 v175:=Tryz.zeroValue290
 t210:=Tryz.underlying308
 a210:=Tryz.isAgg308
 z210:=Tryz.sizeOf308
 v210:=Tryz.zeroValue308
 t212:=Tryz.underlying296
 a212:=Tryz.isAgg296
 z212:=Tryz.sizeOf296
 v212:=Tryz.zeroValue296
 t213:=Tryz.underlying297
 a213:=Tryz.isAgg297
 z213:=Tryz.sizeOf297
 t232:=Tryz.underlying318
 a232:=Tryz.isAgg318
 z232:=Tryz.sizeOf318
 v232:=Tryz.zeroValue318
 t233:=Tryz.underlying319
 a233:=Tryz.isAgg319
 z233:=Tryz.sizeOf319
 v233:=Tryz.zeroValue319
 g15:=by kernel_rfl
 g16:=by kernel_rfl
 g17:=by kernel_rfl
 g18:=by kernel_rfl
 g19:=by kernel_rfl
 t80:=Tryz.underlying242
 a80:=Tryz.isAgg242
 z80:=Tryz.sizeOf242
 v80:=Tryz.zeroValue242
 i0:=by kernel_rfl
 i2:=by kernel_rfl
 i3:=by kernel_rfl
 i4:=by kernel_rfl
 i5:=by kernel_rfl
 i9:=by kernel_rfl
 i20:=by kernel_rfl
 i21:=by kernel_rfl
 i37:=by kernel_rfl
 i46:=by kernel_rfl
 i51:=by kernel_rfl
 i53:=by kernel_rfl
 i75:=by kernel_rfl
 i80:=by kernel_rfl
 i85:=by kernel_rfl
 i127:=by kernel_rfl
 i143:=by kernel_rfl
 i145:=by kernel_rfl
 i167:=by kernel_rfl
 i168:=by kernel_rfl
 i171:=by kernel_rfl
 i173:=by kernel_rfl
 i175:=by kernel_rfl
 i210:=by kernel_rfl
 i212:=by kernel_rfl
 i232:=by kernel_rfl
 i233:=by kernel_rfl
 m15:=by kernel_rfl
 m16:=by kernel_rfl
 m17:=by kernel_rfl
 m18:=by kernel_rfl
 m19:=by kernel_rfl
 c0:=by kernel_rfl
 c2:=by kernel_rfl
 c3:=by kernel_rfl
 c4:=by kernel_rfl
 c5:=by kernel_rfl
 c9:=by kernel_rfl
 c20:=by kernel_rfl
 c21:=by kernel_rfl
 c37:=by kernel_rfl
 c46:=by kernel_rfl
 c51:=by kernel_rfl
 c53:=by kernel_rfl
 c75:=by kernel_rfl
 c80:=by kernel_rfl
 c85:=by kernel_rfl
 c127:=by kernel_rfl
 c143:=by kernel_rfl
 c145:=by kernel_rfl
 c167:=by kernel_rfl
 c168:=by kernel_rfl
 c171:=by kernel_rfl
 c173:=by kernel_rfl
 c175:=by kernel_rfl
 c210:=by kernel_rfl
 c212:=by kernel_rfl
 c213:=by kernel_rfl
 c232:=by kernel_rfl
 c233:=by kernel_rfl}
def Tryz.amW:Go.Shelf.Ren:=⟨λ|173=>147|246=>181|283=>214|284=>215|285=>216|286=>217|129=>243|317=>242|318=>244|319=>245|320=>246|337=>260|338=>261|n=>n,λ|2=>2|3=>3|9=>9|4=>4|171=>269|0=>0|53=>270|37=>134|5=>5|173=>273|212=>296|51=>286|20=>20|213=>297|46=>265|232=>318|233=>319|n=>n,λ|17=>1|18=>6|19=>7|n=>n⟩
theorem Tryz.RK:Go.Proofs.LaysM.n173 Tryz.prog Tryz.amW:={
 mixed:=by kernel_rfl
 f129:=Tryz.func243.trans (congrArg some (by kernel_rfl))
 f173:=Tryz.func147.trans (congrArg some (by kernel_rfl))
 f246:=Tryz.func181.trans (congrArg some (by kernel_rfl))
 f283:=Tryz.func214.trans (congrArg some (by kernel_rfl))
 f284:=Tryz.func215.trans (congrArg some (by kernel_rfl))
 f285:=Tryz.func216.trans (congrArg some (by kernel_rfl))
 f286:=Tryz.func217.trans (congrArg some (by kernel_rfl))
 f317:=Tryz.func242.trans (congrArg some (by kernel_rfl))
 f318:=Tryz.func244.trans (congrArg some (by kernel_rfl))
 f319:=Tryz.func245.trans (congrArg some (by kernel_rfl))
 f320:=Tryz.func246.trans (congrArg some (by kernel_rfl))
 f337:=Tryz.func260.trans (congrArg some (by kernel_rfl))
 f338:=Tryz.func261.trans (congrArg some (by kernel_rfl))
 t0:=Tryz.underlying0
 a0:=Tryz.isAgg0
 z0:=Tryz.sizeOf0
 v0:=Tryz.zeroValue0
 t2:=Tryz.underlying2
 a2:=Tryz.isAgg2
 z2:=Tryz.sizeOf2
 v2:=Tryz.zeroValue2
 t3:=Tryz.underlying3
 a3:=Tryz.isAgg3
 z3:=Tryz.sizeOf3
 v3:=Tryz.zeroValue3
 t4:=Tryz.underlying4
 a4:=Tryz.isAgg4
 z4:=Tryz.sizeOf4
 v4:=Tryz.zeroValue4
 t5:=Tryz.underlying5
 a5:=Tryz.isAgg5
 z5:=Tryz.sizeOf5
 v5:=Tryz.zeroValue5
 t9:=Tryz.underlying9
 a9:=Tryz.isAgg9
 z9:=Tryz.sizeOf9
 v9:=Tryz.zeroValue9
 t20:=Tryz.underlying20
 a20:=Tryz.isAgg20
 z20:=Tryz.sizeOf20
 v20:=Tryz.zeroValue20
 t37:=Tryz.underlying134
 a37:=Tryz.isAgg134
 z37:=Tryz.sizeOf134
 v37:=Tryz.zeroValue134
 t46:=Tryz.underlying265
 a46:=Tryz.isAgg265
 z46:=Tryz.sizeOf265
 v46:=Tryz.zeroValue265
 t51:=Tryz.underlying286
 a51:=Tryz.isAgg286
 z51:=Tryz.sizeOf286
 v51:=Tryz.zeroValue286
 t53:=Tryz.underlying270
 a53:=Tryz.isAgg270
 z53:=Tryz.sizeOf270
 v53:=Tryz.zeroValue270
 t171:=Tryz.underlying269
 a171:=Tryz.isAgg269
 z171:=Tryz.sizeOf269
 v171:=Tryz.zeroValue269
 t173:=Tryz.underlying273
 a173:=Tryz.isAgg273
 z173:=Tryz.sizeOf273
 v173:=Tryz.zeroValue273
 t212:=Tryz.underlying296
 a212:=Tryz.isAgg296
 z212:=Tryz.sizeOf296
 v212:=Tryz.zeroValue296
 t213:=Tryz.underlying297
 a213:=Tryz.isAgg297
 z213:=Tryz.sizeOf297
 t232:=Tryz.underlying318
 a232:=Tryz.isAgg318
 z232:=Tryz.sizeOf318
 v232:=Tryz.zeroValue318
 t233:=Tryz.underlying319
 a233:=Tryz.isAgg319
 z233:=Tryz.sizeOf319
 v233:=Tryz.zeroValue319
 g17:=by kernel_rfl
 g18:=by kernel_rfl
 g19:=by kernel_rfl
 i0:=by kernel_rfl
 i2:=by kernel_rfl
 i3:=by kernel_rfl
 i4:=by kernel_rfl
 i5:=by kernel_rfl
 i9:=by kernel_rfl
 i20:=by kernel_rfl
 i37:=by kernel_rfl
 i46:=by kernel_rfl
 i51:=by kernel_rfl
 i53:=by kernel_rfl
 i171:=by kernel_rfl
 i173:=by kernel_rfl
 i212:=by kernel_rfl
 i232:=by kernel_rfl
 i233:=by kernel_rfl
 m17:=by kernel_rfl
 m18:=by kernel_rfl
 m19:=by kernel_rfl}
theorem amX:One aN (λx=>.string ⟨⟨x⟩⟩):=⟨λ_=>rfl,λw F x cs S=>by unfold aN;rw[az]⟩
theorem Zy (n:Nat):yq n=Lib.decDigits n:=by
 induction n using Nat.strongRecOn with
 |_ n ih=>
  rw[yq,Lib.decDigits];by_cases h:n<10
  .rw[dif_pos h,dif_pos h]
  .rw[dif_neg h,dif_neg h,ih (n/10) (by omega)]
theorem amY (n:Int):G3 n=Lib.itoa n:=by
 unfold G3 Lib.itoa;rw[Zy,Zy]
theorem amZ {w:World} (hg:uf w λ_=>False):Lib.TabIs Tryz.prog w "internal/strconv.uint64pow10" .u64 Lib.pow10Tab:=by
 obtain⟨_,_,o,g1,ty,fr,g2⟩:=hg (1,IC) (by simp[ID]);unfold Lib.TabIs World.var?;rw[show Tryz.prog.globalNamed "internal/strconv.uint64pow10" =some 1 by kernel_rfl];simp only[bind_some,g1,g2,Lib.pow10Tab,List.map_map];rfl
theorem am0 {w:World} (k:Nat) (os:Array Obj):RowKit.Below w.heap.size w (Sort.grow (w.drewN k) os) where
 os:=rfl
 tape:=rfl
 output:=rfl
 size:=by simp[Sort.grow,World.drewN]
 block:=λb ab=>by
  show(w.heap++os)[b]? =_;rw[Array.getElem?_append_left ab]
theorem am1 (a0 J:Int) (r:azc) (h:C8 a0 J=some r):aX ah 147 [.int .i64 a0,.int .i64 J] (.str r) []:=by
 unfold C8 at h;split at h
 .rename_i hl;obtain⟨bc,ad,rfl⟩:=hl;cases h;refine aX.strs rfl (enters_of Tryz.RK.f173 (by kernel_rfl) rfl) λw F X S vs p4 aS=>?_;obtain⟨v0,v1,rfl⟩:∃v0 v1,vs=[v0,v1]:=by
   match vs,p4 with
   |[x,y],_=>exact⟨x,y,rfl⟩
  have g0:v0= .int .i64 a0:=qH (aS.eu 0);have g1:v1= .int .i64 10:=qH (aS.eu 1);subst g0 g1;rw[amY];refine(Any.strconv_FormatInt_10 Tryz.RK a0 bc ad w (amZ (aS.gw.next (Nat.le_refl _) (λ_ _ _=>rfl) λ_ h=>h.elim))).mono ?_;rintro e aP ⟨rfl,k,os,rfl⟩;exact⟨rfl,am0 k os⟩
 .cases h
theorem am2 (a0:azb) (J r:azc) (h:strings_Join a0 J=some r):aX ah 149 [.slice (a0.map aN),.str J] (.str r) []:=by
 unfold strings_Join at h;split at h
 .rename_i hl;cases h;refine aX.strs rfl (enters_of Tryz.RI.f156 (by kernel_rfl) rfl) λw F X S vs p4 aS=>?_;obtain⟨v0,v1,rfl⟩:∃v0 v1,vs=[v0,v1]:=by
   match vs,p4 with
   |[x,y],_=>exact⟨x,y,rfl⟩
  have ad:v1= .string ⟨⟨J⟩⟩:=pt (aS.eu 1);subst ad;rcases ah4 aS (u:=0) amX rfl with⟨rfl,a,c,aF⟩|⟨b,o,cap,aF,ab,au,aq⟩
  .have aF:v0= .slice a 0 c:=aF;subst aF;exact(Any.strings_Join_none Tryz.RI Tryz.Zw a c ⟨⟨J⟩⟩ w).mono λe aP ⟨he,hw⟩=>⟨he,hw▸RowKit.Below.refl _ _⟩
  .have aF:v0= .slice (some ⟨b,o,none⟩) a0.length cap:=aF;subst aF;have aR:(a0.map λx=>(⟨⟨x⟩⟩:ByteArray)).map (·.data.toList)=a0:=by rw[List.map_map];exact List.map_id _
   have:=Any.strings_Join Tryz.RI Tryz.Zw b o cap (a0.map λx=>⟨⟨x⟩⟩) ⟨⟨J⟩⟩ w (λj x bG=>by
    rw[getElem?_map]at bG;obtain⟨y,hy,rfl⟩:=map_eq_some_iff.1 bG;exact aq j y hy) ab (by rw[length_map];exact hl.1) (by rw[length_map];exact au) (by rw[aR];exact hl.2)
   rw[aR,length_map]at this;exact this
 .cases h
section
open Go.RowKit
set_option maxHeartbeats 4000000
theorem am3 (n:Int) (bc: -9223372036854775808<=n) (ad:n<=9223372036854775807) (w:World) (Lp:Lib.TabIs Tryz.prog w "internal/strconv.uint64pow10" .u64 Lib.pow10Tab):
  Calls Tryz.prog 101 #[.int .i64 n] w λe aP=>e= .returned (.string ⟨(Lib.itoa n).toArray⟩)/\∃k os,aP=Sort.grow (w.drewN k) os:=by
 go_enter Tryz.func101,Tryz.ntmps101
 go_wp2_with (go_at_call 147;refine(Any.strconv_FormatInt_10 Tryz.RK n bc ad _ Lp).mono ?_;rintro e aP ⟨rfl,k,os,rfl⟩)
 go_ret
 exact⟨rfl,k,os,rfl⟩
theorem am4 {P:Program} {w aP:World} {name:String} {k:IntKind} {fw:aze} (h:Lib.TabIs P w name k fw) (ab:Below w.heap.size w aP):Lib.TabIs P aP name k fw:=by
 unfold Lib.TabIs World.var? at*;cases hg:P.globalNamed name with
 |none=>simp[hg]at h
 |some g=>
  simp only[hg,bind_some]at h⊢;have eN:g<w.heap.size:=by
   rcases Nat.lt_or_ge g w.heap.size with bF|bF
   .exact bF
   .rw[Array.getElem?_eq_none bF]at h;simp at h
  rw[ab.block g eN];exact h
theorem Zz {w aP:World} (h:Below w.heap.size w aP) (k:Nat) (os:Array Obj):Below w.heap.size w (Sort.grow (aP.drewN k) os) where
 os:=h.os
 tape:=h.tape
 output:=h.output
 size:=Nat.le_trans h.size (by simp[Sort.grow,World.drewN])
 block:=λb ab=>by
  have:=h.block b ab;rw[<-this];show(aP.heap++os)[b]? =_;rw[Array.getElem?_append_left (Nat.lt_of_lt_of_le ab h.size)]
theorem am5 (s:azc) (hl:¬(Lib.trimPrefix s [45]).length<=18) (w:World):
  Calls Tryz.prog 141 #[.string ⟨⟨s⟩⟩] w λe aP=>e= .returned (.tuple #[.int .i64 0,.bool false])/\Below w.heap.size w aP:=by
 go_enter Tryz.func141,Tryz.ntmps141
 go_wp2_with (go_at_call 175;refine(Any.strings_TrimPrefix Tryz.RJ ⟨⟨s⟩⟩ ⟨#[45]⟩ _).mono ?_;rintro e aP ⟨rfl,rfl⟩)
 go_ret2
 exact⟨rfl,Below.refl _ _⟩
theorem am6 (s:azc) (hl:(Lib.trimPrefix s [45]).length<=18) (aa:s.length<=1000) (ax:Lib.parseIntB 64 s=Lib.parseIntB 64 []) (bx:Value) (w:World) (aF:w.cell? ⟨2,0,none⟩=some bx) (am7:bx= .nilIface\/∃MM MN,bx= .iface MM MN):
  Calls Tryz.prog 141 #[.string ⟨⟨s⟩⟩] w λe aP=>e= .returned (.tuple #[.int .i64 0,.bool false])/\Below w.heap.size w aP:=by
 go_enter Tryz.func141,Tryz.ntmps141
 go_wp2_with (first|(go_at_call 175;refine(Any.strings_TrimPrefix Tryz.RJ ⟨⟨s⟩⟩ ⟨#[45]⟩ _).mono ?_;rintro e aP ⟨rfl,rfl⟩)|(go_at_call 176;refine(Any.strconv_ParseInt_10_at64_syntax Tryz.Zx ⟨⟨s⟩⟩ (Nat.le_trans aa (by decide)) ax bx _ aF am7).mono ?_))
 rintro e FI ⟨N,rfl,-,-,ab⟩
 go_wp2
 go_ret2
 exact⟨rfl,ab⟩
theorem am8 (s:azc) (hl:(Lib.trimPrefix s [45]).length<=18) (aa:s.length<=1000) (v:Int) (ax:Lib.parseIntB 64 s= .ok v) (bc: -9223372036854775808<=v) (ad:v<=9223372036854775807) (w:World) (Lp:Lib.TabIs Tryz.prog w "internal/strconv.uint64pow10" .u64 Lib.pow10Tab):
  Calls Tryz.prog 141 #[.string ⟨⟨s⟩⟩] w λe aP=>e= .returned (.tuple #[.int .i64 (vv s).1,.bool (vv s).2])/\Below w.heap.size w aP:=by
 go_enter Tryz.func141,Tryz.ntmps141
 go_wp2_with (first|(go_at_call 175;refine(Any.strings_TrimPrefix Tryz.RJ ⟨⟨s⟩⟩ ⟨#[45]⟩ _).mono ?_;rintro e aP ⟨rfl,rfl⟩)|(go_at_call 176;refine(Any.strconv_ParseInt_10_at64_ok Tryz.Zx ⟨⟨s⟩⟩ (Nat.le_trans aa (by decide)) v ax _).mono ?_))
 rintro e FI ⟨rfl,ab⟩;have am9:Lib.TabIs Tryz.prog FI "internal/strconv.uint64pow10" .u64 Lib.pow10Tab:=by
  rcases ab with rfl|⟨t,rfl⟩
  .exact Lp
  .exact am4 Lp (Lib.bytesWorld_below _ _ _)
 have Jx:Below aP.heap.size aP FI:=by
  rcases ab with rfl|⟨t,rfl⟩
  .exact Below.refl _ _
  .exact Lib.bytesWorld_below _ _ _
 clear ab
 go_wp2_with (go_at_call 101;refine(am3 v bc ad _ am9).mono ?_;rintro e aP ⟨rfl,k,os,rfl⟩)
 all_goals go_ret2
 all_goals (rename_i h)
 .have e:vv s=(0,false):=by
   unfold vv;rw[ax];simp only;rw[if_neg (by intro e;simp[e]at h)]
  rw[e];exact⟨rfl,Zz Jx _ _⟩
 .have e:vv s=(v,true):=by
   unfold vv;rw[ax];simp only;rw[if_pos (by simpa using h)]
  rw[e];exact⟨rfl,Zz Jx _ _⟩
theorem am_ (s:azc):(Lib.trimPrefix s [45]).length=(if s.head? =some 45 then s.tail else s).length:=by
 unfold Lib.trimPrefix Lib.hasPrefix;cases s with
 |nil=>rfl
 |cons c r=>
  by_cases h:c=45
  .subst h;rw[if_pos (show(45::r).head? =some 45 from rfl),if_pos (by simp[isPrefixOf])];rfl
  .rw[if_neg (show¬(c::r).head? =some 45 from λe=>h (some.inj e)),if_neg (by simp[isPrefixOf];exact λe=>h e.symm)]
theorem ana (s:azc) (w:World) (hg:uf w λ_=>False):
  Calls Tryz.prog 141 #[.string ⟨⟨s⟩⟩] w λe aP=>e= .returned (.tuple #[.int .i64 (kq s).1,.bool (kq s).2])/\Below w.heap.size w aP:=by
 have bb:=am_ s;by_cases hl:(Lib.trimPrefix s [45]).length<=18
 .have aa:s.length<=1000:=by
   rw[bb]at hl;split at hl
   .rw[length_tail]at hl;omega
   .omega
  obtain⟨ad,ag⟩:=anb s (by rw[<-bb];exact hl);rw[<-ag];rcases ax:Lib.parseIntB 64 s with v|_|_
  rotate_left
  .have e:vv s=(0,false):=by unfold vv;rw[ax]
   obtain⟨_,_,o,g1,bx,cs,ty,fr,g2,g3,g4⟩:=hg (2,ML) (by simp[ID]);rw[e];refine am6 s hl aa ax bx w ?_ g4;simp only[World.cell?,g1,g2];simpa using g3
  .exact(ad ax).elim
  .have ab:=Lib.parseIntB_bounds ax;obtain⟨_,_,o,g1,ty,fr,g2⟩:=hg (1,IC) (by simp[ID]);refine am8 s hl aa v ax (by have:=ab.1;simp at this;omega) (by have:=ab.2;simp at this;omega) w ?_;unfold Lib.TabIs World.var?;rw[show Tryz.prog.globalNamed "internal/strconv.uint64pow10" =some 1 by kernel_rfl];simp only[bind_some,g1,g2,Lib.pow10Tab,List.map_map];rfl
 .have e:kq s=(0,false):=by
   rw[bb]at hl;unfold kq;split<;>rename_i h
   .rw[if_pos h]at hl;unfold qj;rw[if_neg (λbF=>hl bF.2.1)]
   .rw[if_neg h]at hl;unfold qj;rw[if_neg (λbF=>hl bF.2.1)]
  rw[e];exact am5 s hl w
theorem anc (a0:azc) (r:Int×Bool) (h:KW a0=some r):aX ah 141 [.str a0] (.tuple [.int .i64 r.1,.bool r.2]) []:=by
 obtain rfl:kq a0=r:=some.inj h;refine aX.below (v:=.tuple #[.int .i64 (kq a0).1,.bool (kq a0).2]) rfl (enters_of Tryz.func141 (by kernel_rfl) rfl) rfl
  ⟨_,rfl,rfl,λk d x ao aq=>?_⟩ (λw F=>?_) λw F X S vs p4 aS=>?_
 .rcases k with _|_|k
  .simp at ao aq;subst ao aq;exact⟨rfl,λvs=>by simp,rfl⟩
  .simp at ao aq;subst ao aq;exact⟨rfl,λvs=>by simp,rfl⟩
  .simp at ao
 .simp only[c_,jF];rw[az,bA];refine⟨[.int .i64 (kq a0).1],[.bool (kq a0).2],λ_=>False,λ_=>False,rfl,by rw[az],?_,λ_ h=>h,λ_ h=>h,λ_ h=>h.elim⟩;rw[bA];exact⟨[.bool (kq a0).2],[],λ_=>False,λ_=>False,rfl,by rw[az],by rw[bA],λ_ h=>h,λ_ h=>h,λ_ h=>h.elim⟩
 .obtain⟨v0,rfl⟩:∃v0,vs=[v0]:=by
   match vs,p4 with
   |[x],_=>exact⟨x,rfl⟩
  have g0:v0= .string ⟨⟨a0⟩⟩:=pt (aS.eu 0);subst g0;exact ana a0 w (aS.gw.next (Nat.le_refl _) (λ_ _ _=>rfl) λ_ h=>h.elim)
end
end Go.Proofs.YtmaepbgkcmjcjahGreatDoor
