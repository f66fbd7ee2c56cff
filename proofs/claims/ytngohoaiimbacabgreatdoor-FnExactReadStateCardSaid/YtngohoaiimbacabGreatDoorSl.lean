/- Part of a proof that a law returns true for every input. No condition. -/
import Derived.Ground.NamesProg
import Derived.Shelf.Lays
import Derived.Shelf.Strings.BuilderX
import Derived.Shelf.LaysC
import Derived.Shelf.LaysM
import Derived.Shelf.Strings.FieldsFuncAny
import Derived.Shelf.Strings.Prefix
import Derived.Shelf.Strconv.ParseIntPublic10
import Derived.Shelf.Strconv.Itoa4
import Derived.WalkKit
import Derived.BigCall
import Derived.Test.YtngohoaiimbacabGreatDoorUV0x
import Derived.Shelf.Strings.OnBuilder
import Derived.Test.YtngohoaiimbacabGreatDoorFwY
import Derived.Lib.SpaceUEq
import Derived.Test.YtngohoaiimbacabGreatDoorFwM
import Derived.Test.YtngohoaiimbacabGreatDoorC3
namespace Go.Proofs.YtngohoaiimbacabGreatDoor
open List Option Go.IntKind Nat Or
open Go Go.c_ Go.lV Go.Shelf
set_option maxRecDepth 100000
def Tryz.YQ:Go.Shelf.Ren:=⟨λ|173=>96|246=>133|283=>168|284=>169|285=>170|286=>171|129=>192|317=>191|318=>193|319=>194|320=>195|337=>206|338=>207|n=>n,λ|2=>2|3=>3|9=>9|4=>4|171=>214|0=>0|53=>174|37=>151|5=>5|173=>217|212=>245|51=>238|20=>20|213=>246|46=>177|232=>261|233=>262|n=>n,λ|17=>5|18=>6|19=>7|n=>n⟩
theorem Tryz.ahd:Go.Proofs.Lays.n173 Tryz.prog Tryz.YQ:={
 mixed:=by kernel_rfl
 f129:=Tryz.func192.trans (congrArg some (by kernel_rfl))
 f173:=Tryz.func96.trans (congrArg some (by kernel_rfl))
 f246:=Tryz.func133.trans (congrArg some (by kernel_rfl))
 f283:=Tryz.func168.trans (congrArg some (by kernel_rfl))
 f284:=Tryz.func169.trans (congrArg some (by kernel_rfl))
 f285:=Tryz.func170.trans (congrArg some (by kernel_rfl))
 f286:=Tryz.func171.trans (congrArg some (by kernel_rfl))
 f317:=Tryz.func191.trans (congrArg some (by kernel_rfl))
 f318:=Tryz.func193.trans (congrArg some (by kernel_rfl))
 f319:=Tryz.func194.trans (congrArg some (by kernel_rfl))
 f320:=Tryz.func195.trans (congrArg some (by kernel_rfl))
 f337:=Tryz.func206.trans (congrArg some (by kernel_rfl))
 f338:=Tryz.func207.trans (congrArg some (by kernel_rfl))
 t0:=Tryz.underlying0
 a0:=Tryz.isAgg0
 z0:=Tryz.sizeOf0
 v0:=Tryz.zeroValue0
 t2:=Tryz.underlying2
 a2:=Tryz.isAgg2
 z2:=Tryz.sizeOf2
 v2:=Tryz.zeroValue2
 t3:=Tryz.underlying3
 a3:=Tryz.isAgg3
 z3:=Tryz.sizeOf3
 v3:=Tryz.zeroValue3
 t4:=Tryz.underlying4
 a4:=Tryz.isAgg4
 z4:=Tryz.sizeOf4
 v4:=Tryz.zeroValue4
 t5:=Tryz.underlying5
 a5:=Tryz.isAgg5
 z5:=Tryz.sizeOf5
 v5:=Tryz.zeroValue5
 t9:=Tryz.underlying9
 a9:=Tryz.isAgg9
 z9:=Tryz.sizeOf9
 v9:=Tryz.zeroValue9
 t20:=Tryz.underlying20
 a20:=Tryz.isAgg20
 z20:=Tryz.sizeOf20
 v20:=Tryz.zeroValue20
 t37:=Tryz.underlying151
 a37:=Tryz.isAgg151
 z37:=Tryz.sizeOf151
 v37:=Tryz.zeroValue151
 t46:=Tryz.underlying177
 a46:=Tryz.isAgg177
 z46:=Tryz.sizeOf177
 v46:=Tryz.zeroValue177
 t51:=Tryz.underlying238
 a51:=Tryz.isAgg238
 z51:=Tryz.sizeOf238
 v51:=Tryz.zeroValue238
 t53:=Tryz.underlying174
 a53:=Tryz.isAgg174
 z53:=Tryz.sizeOf174
 v53:=Tryz.zeroValue174
 t171:=Tryz.underlying214
 a171:=Tryz.isAgg214
 z171:=Tryz.sizeOf214
 v171:=Tryz.zeroValue214
 t173:=Tryz.underlying217
 a173:=Tryz.isAgg217
 z173:=Tryz.sizeOf217
 v173:=Tryz.zeroValue217
 t212:=Tryz.underlying245
 a212:=Tryz.isAgg245
 z212:=Tryz.sizeOf245
 v212:=Tryz.zeroValue245
 t213:=Tryz.underlying246
 a213:=Tryz.isAgg246
 z213:=Tryz.sizeOf246
 t232:=Tryz.underlying261
 a232:=Tryz.isAgg261
 z232:=Tryz.sizeOf261
 v232:=Tryz.zeroValue261
 t233:=Tryz.underlying262
 a233:=Tryz.isAgg262
 z233:=Tryz.sizeOf262
 v233:=Tryz.zeroValue262
 g17:=by kernel_rfl
 g18:=by kernel_rfl
 g19:=by kernel_rfl}
def Tryz.Nz:Go.Shelf.Ren:=⟨λ|156=>103|165=>138|166=>139|169=>140|240=>175|241=>176|276=>196|277=>197|n=>n,λ|31=>25|9=>9|3=>3|4=>4|0=>0|20=>20|72=>190|76=>192|70=>188|37=>151|75=>104|127=>222|164=>249|5=>5|80=>194|n=>n,λ|n=>n⟩
theorem Tryz.Hl:Go.Proofs.Lays.n156 Tryz.prog Tryz.Nz:={
 mixed:=by kernel_rfl
 f156:=Tryz.func103.trans (congrArg some (by kernel_rfl))
 f165:=Tryz.func138.trans (congrArg some (by kernel_rfl))
 f166:=Tryz.func139.trans (congrArg some (by kernel_rfl))
 f169:=Tryz.func140.trans (congrArg some (by kernel_rfl))
 f240:=Tryz.func175.trans (congrArg some (by kernel_rfl))
 f241:=Tryz.func176.trans (congrArg some (by kernel_rfl))
 f276:=Tryz.func196.trans (congrArg some (by kernel_rfl))
 f277:=Tryz.func197.trans (congrArg some (by kernel_rfl))
 t0:=Tryz.underlying0
 a0:=Tryz.isAgg0
 z0:=Tryz.sizeOf0
 v0:=Tryz.zeroValue0
 t3:=Tryz.underlying3
 a3:=Tryz.isAgg3
 z3:=Tryz.sizeOf3
 v3:=Tryz.zeroValue3
 t4:=Tryz.underlying4
 a4:=Tryz.isAgg4
 z4:=Tryz.sizeOf4
 v4:=Tryz.zeroValue4
 t9:=Tryz.underlying9
 a9:=Tryz.isAgg9
 z9:=Tryz.sizeOf9
 v9:=Tryz.zeroValue9
 t20:=Tryz.underlying20
 a20:=Tryz.isAgg20
 z20:=Tryz.sizeOf20
 v20:=Tryz.zeroValue20
 t31:=Tryz.underlying25
 a31:=Tryz.isAgg25
 z31:=Tryz.sizeOf25
 v31:=Tryz.zeroValue25
 t37:=Tryz.underlying151
 a37:=Tryz.isAgg151
 z37:=Tryz.sizeOf151
 v37:=Tryz.zeroValue151
 t70:=Tryz.underlying188
 a70:=Tryz.isAgg188
 z70:=Tryz.sizeOf188
 v70:=Tryz.zeroValue188
 t72:=Tryz.underlying190
 a72:=Tryz.isAgg190
 z72:=Tryz.sizeOf190
 v72:=Tryz.zeroValue190
 t75:=Tryz.underlying104
 a75:=Tryz.isAgg104
 z75:=Tryz.sizeOf104
 v75:=Tryz.zeroValue104
 t76:=Tryz.underlying192
 a76:=Tryz.isAgg192
 z76:=Tryz.sizeOf192
 v76:=Tryz.zeroValue192
 t127:=Tryz.underlying222
 a127:=Tryz.isAgg222
 z127:=Tryz.sizeOf222
 v127:=Tryz.zeroValue222
 t164:=Tryz.underlying249
 a164:=Tryz.isAgg249
 z164:=Tryz.sizeOf249
 v164:=Tryz.zeroValue249}
theorem Tryz.NA:Builder.Extra Tryz.prog Tryz.Nz:={
 sizeBuilder:=by kernel_rfl
 liesBuilder:=by kernel_rfl
 t5:=Tryz.underlying5
 a5:=Tryz.isAgg5
 z5:=Tryz.sizeOf5
 v5:=Tryz.zeroValue5
 infoByte:=by kernel_rfl
 cellsByte:=by kernel_rfl
 sizeByte:=by kernel_rfl
 neB5:=by decide}
def Tryz.YR:Go.Shelf.Ren:=⟨λ|101=>56|208=>93|206=>127|n=>n,λ|9=>9|4=>4|3=>3|n=>n,λ|n=>n⟩
theorem Tryz.Hm:Go.Proofs.Lays.n101 Tryz.prog Tryz.YR:={
 mixed:=by kernel_rfl
 f101:=Tryz.func56.trans (congrArg some (by kernel_rfl))
 f206:=Tryz.func127.trans (congrArg some (by kernel_rfl))
 f208:=Tryz.func93.trans (congrArg some (by kernel_rfl))
 t3:=Tryz.underlying3
 a3:=Tryz.isAgg3
 z3:=Tryz.sizeOf3
 v3:=Tryz.zeroValue3
 t4:=Tryz.underlying4
 a4:=Tryz.isAgg4
 z4:=Tryz.sizeOf4
 v4:=Tryz.zeroValue4
 t9:=Tryz.underlying9
 a9:=Tryz.isAgg9
 z9:=Tryz.sizeOf9
 v9:=Tryz.zeroValue9}
def Tryz.YS:Go.Shelf.Ren:=⟨λ|174=>57|247=>94|245=>95|287=>128|279=>129|280=>130|281=>131|282=>132|321=>163|322=>164|316=>165|171=>167|205=>166|243=>190|246=>133|283=>168|284=>169|285=>170|286=>171|129=>192|317=>191|318=>193|319=>194|320=>195|337=>206|338=>207|n=>n,λ|9=>9|3=>3|2=>2|75=>104|85=>105|4=>4|167=>173|5=>5|53=>174|175=>175|46=>177|168=>178|37=>151|0=>0|210=>212|21=>21|127=>222|145=>243|143=>241|171=>214|173=>217|212=>245|51=>238|20=>20|213=>246|232=>261|233=>262|80=>194|n=>n,λ|15=>1|16=>2|17=>5|18=>6|19=>7|n=>n⟩
theorem Tryz.NB:Go.Proofs.LaysC.n174 Tryz.prog Tryz.YS:={
 mixed:=by kernel_rfl
 f129:=Tryz.func192.trans (congrArg some (by kernel_rfl))
 f171:=Tryz.func167.trans (congrArg some (by kernel_rfl))
 f174:=Tryz.func57.trans (congrArg some (by kernel_rfl))
 f205:=Tryz.func166.trans (congrArg some (by kernel_rfl))
 f243:=Tryz.func190.trans (congrArg some (by kernel_rfl))
 f245:=Tryz.func95.trans (congrArg some (by kernel_rfl))
 f246:=Tryz.func133.trans (congrArg some (by kernel_rfl))
 f247:=Tryz.func94.trans (congrArg some (by kernel_rfl))
 f279:=Tryz.func129.trans (congrArg some (by kernel_rfl))
 f280:=Tryz.func130.trans (congrArg some (by kernel_rfl))
 f281:=Tryz.func131.trans (congrArg some (by kernel_rfl))
 f282:=Tryz.func132.trans (congrArg some (by kernel_rfl))
 f283:=Tryz.func168.trans (congrArg some (by kernel_rfl))
 f284:=Tryz.func169.trans (congrArg some (by kernel_rfl))
 f285:=Tryz.func170.trans (congrArg some (by kernel_rfl))
 f286:=Tryz.func171.trans (congrArg some (by kernel_rfl))
 f287:=Tryz.func128.trans (congrArg some (by kernel_rfl))
 f316:=Tryz.func165.trans (congrArg some (by kernel_rfl))
 f317:=Tryz.func191.trans (congrArg some (by kernel_rfl))
 f318:=Tryz.func193.trans (congrArg some (by kernel_rfl))
 f319:=Tryz.func194.trans (congrArg some (by kernel_rfl))
 f320:=Tryz.func195.trans (congrArg some (by kernel_rfl))
 f321:=Tryz.func163.trans (congrArg some (by kernel_rfl))
 f322:=Tryz.func164.trans (congrArg some (by kernel_rfl))
 f337:=Tryz.func206.trans (congrArg some (by kernel_rfl))
 f338:=Tryz.func207.trans (congrArg some (by kernel_rfl))
 t0:=Tryz.underlying0
 a0:=Tryz.isAgg0
 z0:=Tryz.sizeOf0
 v0:=Tryz.zeroValue0
 t2:=Tryz.underlying2
 a2:=Tryz.isAgg2
 z2:=Tryz.sizeOf2
 v2:=Tryz.zeroValue2
 t3:=Tryz.underlying3
 a3:=Tryz.isAgg3
 z3:=Tryz.sizeOf3
 v3:=Tryz.zeroValue3
 t4:=Tryz.underlying4
 a4:=Tryz.isAgg4
 z4:=Tryz.sizeOf4
 v4:=Tryz.zeroValue4
 t5:=Tryz.underlying5
 a5:=Tryz.isAgg5
 z5:=Tryz.sizeOf5
 v5:=Tryz.zeroValue5
 t9:=Tryz.underlying9
 a9:=Tryz.isAgg9
 z9:=Tryz.sizeOf9
 v9:=Tryz.zeroValue9
 t20:=Tryz.underlying20
 a20:=Tryz.isAgg20
 z20:=Tryz.sizeOf20
 v20:=Tryz.zeroValue20
 t21:=Tryz.underlying21
 a21:=Tryz.isAgg21
 z21:=Tryz.sizeOf21
 v21:=Tryz.zeroValue21
 t37:=Tryz.underlying151
 a37:=Tryz.isAgg151
 z37:=Tryz.sizeOf151
 v37:=Tryz.zeroValue151
 t46:=Tryz.underlying177
 a46:=Tryz.isAgg177
 z46:=Tryz.sizeOf177
 v46:=Tryz.zeroValue177
 t51:=Tryz.underlying238
 a51:=Tryz.isAgg238
 z51:=Tryz.sizeOf238
 v51:=Tryz.zeroValue238
 t53:=Tryz.underlying174
 a53:=Tryz.isAgg174
 z53:=Tryz.sizeOf174
 v53:=Tryz.zeroValue174
 t75:=Tryz.underlying104
 a75:=Tryz.isAgg104
 z75:=Tryz.sizeOf104
 v75:=Tryz.zeroValue104
 t85:=Tryz.underlying105
 a85:=Tryz.isAgg105
 z85:=Tryz.sizeOf105
 v85:=Tryz.zeroValue105
 t127:=Tryz.underlying222
 a127:=Tryz.isAgg222
 z127:=Tryz.sizeOf222
 v127:=Tryz.zeroValue222
 t143:=Tryz.underlying241
 a143:=Tryz.isAgg241
 z143:=Tryz.sizeOf241
 v143:=Tryz.zeroValue241
 t145:=Tryz.underlying243
 a145:=Tryz.isAgg243
 z145:=Tryz.sizeOf243
 v145:=Tryz.zeroValue243
 t167:=Tryz.underlying173
 a167:=Tryz.isAgg173
 z167:=Tryz.sizeOf173
 v167:=Tryz.zeroValue173
 t168:=Tryz.underlying178
 a168:=Tryz.isAgg178
 z168:=Tryz.sizeOf178
 v168:=Tryz.zeroValue178
 t171:=Tryz.underlying214
 a171:=Tryz.isAgg214
 z171:=Tryz.sizeOf214
 v171:=Tryz.zeroValue214
 t173:=Tryz.underlying217
 a173:=Tryz.isAgg217
 z173:=Tryz.sizeOf217
 v173:=Tryz.zeroValue217
 t175:=Tryz.underlying175
 a175:=Tryz.isAgg175
 z175:=Tryz.sizeOf175
 v175:=Tryz.zeroValue175
 t210:=Tryz.underlying212
 a210:=Tryz.isAgg212
 z210:=Tryz.sizeOf212
 v210:=Tryz.zeroValue212
 t212:=Tryz.underlying245
 a212:=Tryz.isAgg245
 z212:=Tryz.sizeOf245
 v212:=Tryz.zeroValue245
 t213:=Tryz.underlying246
 a213:=Tryz.isAgg246
 z213:=Tryz.sizeOf246
 t232:=Tryz.underlying261
 a232:=Tryz.isAgg261
 z232:=Tryz.sizeOf261
 v232:=Tryz.zeroValue261
 t233:=Tryz.underlying262
 a233:=Tryz.isAgg262
 z233:=Tryz.sizeOf262
 v233:=Tryz.zeroValue262
 g15:=by kernel_rfl
 g16:=by kernel_rfl
 g17:=by kernel_rfl
 g18:=by kernel_rfl
 g19:=by kernel_rfl
 t80:=Tryz.underlying194
 a80:=Tryz.isAgg194
 z80:=Tryz.sizeOf194
 v80:=Tryz.zeroValue194
 i0:=by kernel_rfl
 i2:=by kernel_rfl
 i3:=by kernel_rfl
 i4:=by kernel_rfl
 i5:=by kernel_rfl
 i9:=by kernel_rfl
 i20:=by kernel_rfl
 i21:=by kernel_rfl
 i37:=by kernel_rfl
 i46:=by kernel_rfl
 i51:=by kernel_rfl
 i53:=by kernel_rfl
 i75:=by kernel_rfl
 i80:=by kernel_rfl
 i85:=by kernel_rfl
 i127:=by kernel_rfl
 i143:=by kernel_rfl
 i145:=by kernel_rfl
 i167:=by kernel_rfl
 i168:=by kernel_rfl
 i171:=by kernel_rfl
 i173:=by kernel_rfl
 i175:=by kernel_rfl
 i210:=by kernel_rfl
 i212:=by kernel_rfl
 i232:=by kernel_rfl
 i233:=by kernel_rfl
 m15:=by kernel_rfl
 m16:=by kernel_rfl
 m17:=by kernel_rfl
 m18:=by kernel_rfl
 m19:=by kernel_rfl
 c0:=by kernel_rfl
 c2:=by kernel_rfl
 c3:=by kernel_rfl
 c4:=by kernel_rfl
 c5:=by kernel_rfl
 c9:=by kernel_rfl
 c20:=by kernel_rfl
 c21:=by kernel_rfl
 c37:=by kernel_rfl
 c46:=by kernel_rfl
 c51:=by kernel_rfl
 c53:=by kernel_rfl
 c75:=by kernel_rfl
 c80:=by kernel_rfl
 c85:=by kernel_rfl
 c127:=by kernel_rfl
 c143:=by kernel_rfl
 c145:=by kernel_rfl
 c167:=by kernel_rfl
 c168:=by kernel_rfl
 c171:=by kernel_rfl
 c173:=by kernel_rfl
 c175:=by kernel_rfl
 c210:=by kernel_rfl
 c212:=by kernel_rfl
 c213:=by kernel_rfl
 c232:=by kernel_rfl
 c233:=by kernel_rfl}
def Tryz.YT:Go.Shelf.Ren:=⟨λ|173=>96|246=>133|283=>168|284=>169|285=>170|286=>171|129=>192|317=>191|318=>193|319=>194|320=>195|337=>206|338=>207|n=>n,λ|2=>2|3=>3|9=>9|4=>4|171=>214|0=>0|53=>174|37=>151|5=>5|173=>217|212=>245|51=>238|20=>20|213=>246|46=>177|232=>261|233=>262|n=>n,λ|17=>5|18=>6|19=>7|n=>n⟩
theorem Tryz.Hn:Go.Proofs.LaysM.n173 Tryz.prog Tryz.YT:={
 mixed:=by kernel_rfl
 f129:=Tryz.func192.trans (congrArg some (by kernel_rfl))
 f173:=Tryz.func96.trans (congrArg some (by kernel_rfl))
 f246:=Tryz.func133.trans (congrArg some (by kernel_rfl))
 f283:=Tryz.func168.trans (congrArg some (by kernel_rfl))
 f284:=Tryz.func169.trans (congrArg some (by kernel_rfl))
 f285:=Tryz.func170.trans (congrArg some (by kernel_rfl))
 f286:=Tryz.func171.trans (congrArg some (by kernel_rfl))
 f317:=Tryz.func191.trans (congrArg some (by kernel_rfl))
 f318:=Tryz.func193.trans (congrArg some (by kernel_rfl))
 f319:=Tryz.func194.trans (congrArg some (by kernel_rfl))
 f320:=Tryz.func195.trans (congrArg some (by kernel_rfl))
 f337:=Tryz.func206.trans (congrArg some (by kernel_rfl))
 f338:=Tryz.func207.trans (congrArg some (by kernel_rfl))
 t0:=Tryz.underlying0
 a0:=Tryz.isAgg0
 z0:=Tryz.sizeOf0
 v0:=Tryz.zeroValue0
 t2:=Tryz.underlying2
 a2:=Tryz.isAgg2
 z2:=Tryz.sizeOf2
 v2:=Tryz.zeroValue2
 t3:=Tryz.underlying3
 a3:=Tryz.isAgg3
 z3:=Tryz.sizeOf3
 v3:=Tryz.zeroValue3
 t4:=Tryz.underlying4
 a4:=Tryz.isAgg4
 z4:=Tryz.sizeOf4
 v4:=Tryz.zeroValue4
 t5:=Tryz.underlying5
 a5:=Tryz.isAgg5
 z5:=Tryz.sizeOf5
 v5:=Tryz.zeroValue5
 t9:=Tryz.underlying9
 a9:=Tryz.isAgg9
 z9:=Tryz.sizeOf9
 v9:=Tryz.zeroValue9
 t20:=Tryz.underlying20
 a20:=Tryz.isAgg20
 z20:=Tryz.sizeOf20
 v20:=Tryz.zeroValue20
 t37:=Tryz.underlying151
 a37:=Tryz.isAgg151
 z37:=Tryz.sizeOf151
 v37:=Tryz.zeroValue151
 t46:=Tryz.underlying177
 a46:=Tryz.isAgg177
 z46:=Tryz.sizeOf177
 v46:=Tryz.zeroValue177
 t51:=Tryz.underlying238
 a51:=Tryz.isAgg238
 z51:=Tryz.sizeOf238
 v51:=Tryz.zeroValue238
 t53:=Tryz.underlying174
 a53:=Tryz.isAgg174
 z53:=Tryz.sizeOf174
 v53:=Tryz.zeroValue174
 t171:=Tryz.underlying214
 a171:=Tryz.isAgg214
 z171:=Tryz.sizeOf214
 v171:=Tryz.zeroValue214
 t173:=Tryz.underlying217
 a173:=Tryz.isAgg217
 z173:=Tryz.sizeOf217
 v173:=Tryz.zeroValue217
 t212:=Tryz.underlying245
 a212:=Tryz.isAgg245
 z212:=Tryz.sizeOf245
 v212:=Tryz.zeroValue245
 t213:=Tryz.underlying246
 a213:=Tryz.isAgg246
 z213:=Tryz.sizeOf246
 t232:=Tryz.underlying261
 a232:=Tryz.isAgg261
 z232:=Tryz.sizeOf261
 v232:=Tryz.zeroValue261
 t233:=Tryz.underlying262
 a233:=Tryz.isAgg262
 z233:=Tryz.sizeOf262
 v233:=Tryz.zeroValue262
 g17:=by kernel_rfl
 g18:=by kernel_rfl
 g19:=by kernel_rfl
 i0:=by kernel_rfl
 i2:=by kernel_rfl
 i3:=by kernel_rfl
 i4:=by kernel_rfl
 i5:=by kernel_rfl
 i9:=by kernel_rfl
 i20:=by kernel_rfl
 i37:=by kernel_rfl
 i46:=by kernel_rfl
 i51:=by kernel_rfl
 i53:=by kernel_rfl
 i171:=by kernel_rfl
 i173:=by kernel_rfl
 i212:=by kernel_rfl
 i232:=by kernel_rfl
 i233:=by kernel_rfl
 m17:=by kernel_rfl
 m18:=by kernel_rfl
 m19:=by kernel_rfl}
def Tryz.NC:Go.Shelf.Ren:=⟨λ|229=>53|n=>n,λ|9=>9|40=>100|31=>25|152=>136|3=>3|0=>0|4=>4|21=>21|154=>138|n=>n,λ|n=>n⟩
theorem Tryz.ND:Go.Proofs.Lays.n229 Tryz.prog Tryz.NC:={
 mixed:=by kernel_rfl
 f229:=Tryz.func53.trans (congrArg some (by kernel_rfl))
 t0:=Tryz.underlying0
 a0:=Tryz.isAgg0
 z0:=Tryz.sizeOf0
 v0:=Tryz.zeroValue0
 t3:=Tryz.underlying3
 a3:=Tryz.isAgg3
 z3:=Tryz.sizeOf3
 v3:=Tryz.zeroValue3
 t4:=Tryz.underlying4
 a4:=Tryz.isAgg4
 z4:=Tryz.sizeOf4
 v4:=Tryz.zeroValue4
 t9:=Tryz.underlying9
 a9:=Tryz.isAgg9
 z9:=Tryz.sizeOf9
 v9:=Tryz.zeroValue9
 t21:=Tryz.underlying21
 a21:=Tryz.isAgg21
 z21:=Tryz.sizeOf21
 v21:=Tryz.zeroValue21
 t31:=Tryz.underlying25
 a31:=Tryz.isAgg25
 z31:=Tryz.sizeOf25
 v31:=Tryz.zeroValue25
 t40:=Tryz.underlying100
 a40:=Tryz.isAgg100
 z40:=Tryz.sizeOf100
 v40:=Tryz.zeroValue100
 t152:=Tryz.underlying136
 a152:=Tryz.isAgg136
 z152:=Tryz.sizeOf136
 v152:=Tryz.zeroValue136
 t154:=Tryz.underlying138
 a154:=Tryz.isAgg138
 z154:=Tryz.sizeOf138
 v154:=Tryz.zeroValue138}
theorem YU:One bn (λx=>.string ⟨⟨x⟩⟩):=⟨λ_=>rfl,λw F x cs S=>by unfold bn;rw[au]⟩
theorem NF (n:Nat):tu n=Lib.decDigits n:=by
 induction n using Nat.strongRecOn with
 |_ n ih=>
  rw[tu,Lib.decDigits];by_cases h:n<10
  .rw[dif_pos h,dif_pos h]
  .rw[dif_neg h,dif_neg h,ih (n/10) (by omega)]
theorem YV (n:Int):BJ n=Lib.itoa n:=by
 unfold BJ Lib.itoa;rw[NF,NF]
theorem YW {w:World} (hg:o2 w λ_=>False):Lib.TabIs Tryz.prog w "internal/strconv.uint64pow10" .u64 Lib.pow10Tab:=by
 obtain⟨_,_,o,g1,ty,fr,g2⟩:=hg (5,zu) (by simp[zv]);unfold Lib.TabIs World.var?;rw[show Tryz.prog.globalNamed "internal/strconv.uint64pow10" =some 5 by kernel_rfl];simp only[bind_some,g1,g2,Lib.pow10Tab,List.map_map];rfl
theorem YX {w:World} (k:Nat) (os:Array Obj):RowKit.Below w.heap.size w (Sort.grow (w.drewN k) os) where
 os:=rfl
 tape:=rfl
 output:=rfl
 size:=by simp[Sort.grow,World.drewN]
 block:=λb R=>by
  show(w.heap++os)[b]? =_;rw[Array.getElem?_append_left R]
theorem YY (a0 J:Int) (r:aht) (h:yw a0 J=some r):aX al 96 [.int .i64 a0,.int .i64 J] (.str r) []:=by
 unfold yw at h;split at h
 .rename_i hl;obtain⟨aV,ab,rfl⟩:=hl;cases h;refine aX.strs rfl (enters_of Tryz.Hn.f173 (by kernel_rfl) rfl) λw F X S vs mX aH=>?_;obtain⟨v0,v1,rfl⟩:∃v0 v1,vs=[v0,v1]:=by
   match vs,mX with
   |[x,y],_=>exact⟨x,y,rfl⟩
  have g0:v0= .int .i64 a0:=mR (aH.cW 0);have g1:v1= .int .i64 10:=mR (aH.cW 1);subst g0 g1;rw[YV];refine(Any.strconv_FormatInt_10 Tryz.Hn a0 aV ab w (YW (aH.fW.next (Nat.le_refl _) (λ_ _ _=>rfl) λ_ h=>h.elim))).mono ?_;rintro e aD ⟨rfl,k,os,rfl⟩;exact⟨rfl,YX k os⟩
 .cases h
theorem YZ (a0:nq) (J r:aht) (h:strings_Join a0 J=some r):aX al 103 [.slice (a0.map bn),.str J] (.str r) []:=by
 unfold strings_Join at h;split at h
 .rename_i hl;cases h;refine aX.strs rfl (enters_of Tryz.Hl.f156 (by kernel_rfl) rfl) λw F X S vs mX aH=>?_;obtain⟨v0,v1,rfl⟩:∃v0 v1,vs=[v0,v1]:=by
   match vs,mX with
   |[x,y],_=>exact⟨x,y,rfl⟩
  have ab:v1= .string ⟨⟨J⟩⟩:=lN (aH.cW 1);subst ab;rcases Vl aH (u:=0) YU rfl with⟨rfl,a,c,aI⟩|⟨b,o,cap,aI,R,ai,ar⟩
  .have aI:v0= .slice a 0 c:=aI;subst aI;exact(Any.strings_Join_none Tryz.Hl Tryz.NA a c ⟨⟨J⟩⟩ w).mono λe aD ⟨he,hw⟩=>⟨he,hw▸RowKit.Below.refl _ _⟩
  .have aI:v0= .slice (some ⟨b,o,none⟩) a0.length cap:=aI;subst aI;have aP:(a0.map λx=>(⟨⟨x⟩⟩:ByteArray)).map (·.data.toList)=a0:=by rw[List.map_map];exact List.map_id _
   have:=Any.strings_Join Tryz.Hl Tryz.NA b o cap (a0.map λx=>⟨⟨x⟩⟩) ⟨⟨J⟩⟩ w (λj x bQ=>by
    rw[getElem?_map]at bQ;obtain⟨y,hy,rfl⟩:=map_eq_some_iff.1 bQ;exact ar j y hy) R (by rw[length_map];exact hl.1) (by rw[length_map];exact ai) (by rw[aP];exact hl.2)
   rw[aP,length_map]at this;exact this
 .cases h
section
open Go.RowKit
set_option maxHeartbeats 4000000
theorem Y0 (n:Int) (aV: -9223372036854775808<=n) (ab:n<=9223372036854775807) (w:World) (Cc:Lib.TabIs Tryz.prog w "internal/strconv.uint64pow10" .u64 Lib.pow10Tab):
  Calls Tryz.prog 58 #[.int .i64 n] w λe aD=>e= .returned (.string ⟨(Lib.itoa n).toArray⟩)/\∃k os,aD=Sort.grow (w.drewN k) os:=by
 go_enter Tryz.func58,Tryz.ntmps58
 go_wp2_with (go_at_call 96;refine(Any.strconv_FormatInt_10 Tryz.Hn n aV ab _ Cc).mono ?_;rintro e aD ⟨rfl,k,os,rfl⟩)
 go_ret
 exact⟨rfl,k,os,rfl⟩
theorem Y1 {P:Program} {w aD:World} {name:String} {k:IntKind} {dn:ahv} (h:Lib.TabIs P w name k dn) (R:Below w.heap.size w aD):Lib.TabIs P aD name k dn:=by
 unfold Lib.TabIs World.var? at*;cases hg:P.globalNamed name with
 |none=>simp[hg]at h
 |some g=>
  simp only[hg,bind_some]at h⊢;have ei:g<w.heap.size:=by
   rcases Nat.lt_or_ge g w.heap.size with bc|bc
   .exact bc
   .rw[Array.getElem?_eq_none bc]at h;simp at h
  rw[R.block g ei];exact h
theorem NG {w aD:World} (h:Below w.heap.size w aD) (k:Nat) (os:Array Obj):Below w.heap.size w (Sort.grow (aD.drewN k) os) where
 os:=h.os
 tape:=h.tape
 output:=h.output
 size:=Nat.le_trans h.size (by simp[Sort.grow,World.drewN])
 block:=λb R=>by
  have:=h.block b R;rw[<-this];show(aD.heap++os)[b]? =_;rw[Array.getElem?_append_left (Nat.lt_of_lt_of_le R h.size)]
theorem Y2 (s:aht) (hl:¬(Lib.trimPrefix s [45]).length<=18) (w:World):
  Calls Tryz.prog 27 #[.string ⟨⟨s⟩⟩] w λe aD=>e= .returned (.tuple #[.int .i64 0,.bool false])/\Below w.heap.size w aD:=by
 go_enter Tryz.func27,Tryz.ntmps27
 go_wp2_with (go_at_call 56;refine(Any.strings_TrimPrefix Tryz.Hm ⟨⟨s⟩⟩ ⟨#[45]⟩ _).mono ?_;rintro e aD ⟨rfl,rfl⟩)
 go_ret2
 exact⟨rfl,Below.refl _ _⟩
theorem Y3 (s:aht) (hl:(Lib.trimPrefix s [45]).length<=18) (U:s.length<=1000) (an:Lib.parseIntB 64 s=Lib.parseIntB 64 []) (bj:Value) (w:World) (aI:w.cell? ⟨1,0,none⟩=some bj) (Y4:bj= .nilIface\/∃Db Dc,bj= .iface Db Dc):
  Calls Tryz.prog 27 #[.string ⟨⟨s⟩⟩] w λe aD=>e= .returned (.tuple #[.int .i64 0,.bool false])/\Below w.heap.size w aD:=by
 go_enter Tryz.func27,Tryz.ntmps27
 go_wp2_with (first|(go_at_call 56;refine(Any.strings_TrimPrefix Tryz.Hm ⟨⟨s⟩⟩ ⟨#[45]⟩ _).mono ?_;rintro e aD ⟨rfl,rfl⟩)|(go_at_call 57;refine(Any.strconv_ParseInt_10_at64_syntax Tryz.NB ⟨⟨s⟩⟩ (Nat.le_trans U (by decide)) an bj _ aI Y4).mono ?_))
 rintro e xq ⟨N,rfl,-,-,R⟩
 go_wp2
 go_ret2
 exact⟨rfl,R⟩
theorem Y5 (s:aht) (hl:(Lib.trimPrefix s [45]).length<=18) (U:s.length<=1000) (v:Int) (an:Lib.parseIntB 64 s= .ok v) (aV: -9223372036854775808<=v) (ab:v<=9223372036854775807) (w:World) (Cc:Lib.TabIs Tryz.prog w "internal/strconv.uint64pow10" .u64 Lib.pow10Tab):
  Calls Tryz.prog 27 #[.string ⟨⟨s⟩⟩] w λe aD=>e= .returned (.tuple #[.int .i64 (pO s).1,.bool (pO s).2])/\Below w.heap.size w aD:=by
 go_enter Tryz.func27,Tryz.ntmps27
 go_wp2_with (first|(go_at_call 56;refine(Any.strings_TrimPrefix Tryz.Hm ⟨⟨s⟩⟩ ⟨#[45]⟩ _).mono ?_;rintro e aD ⟨rfl,rfl⟩)|(go_at_call 57;refine(Any.strconv_ParseInt_10_at64_ok Tryz.NB ⟨⟨s⟩⟩ (Nat.le_trans U (by decide)) v an _).mono ?_))
 rintro e xq ⟨rfl,R⟩;have Y6:Lib.TabIs Tryz.prog xq "internal/strconv.uint64pow10" .u64 Lib.pow10Tab:=by
  rcases R with rfl|⟨t,rfl⟩
  .exact Cc
  .exact Y1 Cc (Lib.bytesWorld_below _ _ _)
 have Aw:Below aD.heap.size aD xq:=by
  rcases R with rfl|⟨t,rfl⟩
  .exact Below.refl _ _
  .exact Lib.bytesWorld_below _ _ _
 clear R
 go_wp2_with (go_at_call 58;refine(Y0 v aV ab _ Y6).mono ?_;rintro e aD ⟨rfl,k,os,rfl⟩)
 all_goals go_ret2
 all_goals (rename_i h)
 .have e:pO s=(0,false):=by
   unfold pO;rw[an];simp only;rw[if_neg (by intro e;simp[e]at h)]
  rw[e];exact⟨rfl,NG Aw _ _⟩
 .have e:pO s=(v,true):=by
   unfold pO;rw[an];simp only;rw[if_pos (by simpa using h)]
  rw[e];exact⟨rfl,NG Aw _ _⟩
theorem Y7 (s:aht):(Lib.trimPrefix s [45]).length=(if s.head? =some 45 then s.tail else s).length:=by
 unfold Lib.trimPrefix Lib.hasPrefix;cases s with
 |nil=>rfl
 |cons c r=>
  by_cases h:c=45
  .subst h;rw[if_pos (show(45::r).head? =some 45 from rfl),if_pos (by simp[isPrefixOf])];rfl
  .rw[if_neg (show¬(c::r).head? =some 45 from λe=>h (some.inj e)),if_neg (by simp[isPrefixOf];exact λe=>h e.symm)]
theorem Y8 (s:aht) (w:World) (hg:o2 w λ_=>False):
  Calls Tryz.prog 27 #[.string ⟨⟨s⟩⟩] w λe aD=>e= .returned (.tuple #[.int .i64 (fi s).1,.bool (fi s).2])/\Below w.heap.size w aD:=by
 have aY:=Y7 s;by_cases hl:(Lib.trimPrefix s [45]).length<=18
 .have U:s.length<=1000:=by
   rw[aY]at hl;split at hl
   .rw[length_tail]at hl;omega
   .omega
  obtain⟨ab,ad⟩:=Y9 s (by rw[<-aY];exact hl);rw[<-ad];rcases an:Lib.parseIntB 64 s with v|_|_
  rotate_left
  .have e:pO s=(0,false):=by unfold pO;rw[an]
   obtain⟨_,_,o,g1,bj,cs,ty,fr,g2,g3,g4⟩:=hg (1,Da) (by simp[zv]);rw[e];refine Y3 s hl U an bj w ?_ g4;simp only[World.cell?,g1,g2];simpa using g3
  .exact(ab an).elim
  .have R:=Lib.parseIntB_bounds an;obtain⟨_,_,o,g1,ty,fr,g2⟩:=hg (5,zu) (by simp[zv]);refine Y5 s hl U v an (by have:=R.1;simp at this;omega) (by have:=R.2;simp at this;omega) w ?_;unfold Lib.TabIs World.var?;rw[show Tryz.prog.globalNamed "internal/strconv.uint64pow10" =some 5 by kernel_rfl];simp only[bind_some,g1,g2,Lib.pow10Tab,List.map_map];rfl
 .have e:fi s=(0,false):=by
   rw[aY]at hl;unfold fi;split<;>rename_i h
   .rw[if_pos h]at hl;unfold lZ;rw[if_neg (λbc=>hl bc.2.1)]
   .rw[if_neg h]at hl;unfold lZ;rw[if_neg (λbc=>hl bc.2.1)]
  rw[e];exact Y2 s hl w
theorem Y_ (a0:aht) (r:Int×Bool) (h:vo a0=some r):aX al 27 [.str a0] (.tuple [.int .i64 r.1,.bool r.2]) []:=by
 obtain rfl:fi a0=r:=some.inj h;refine aX.below (v:=.tuple #[.int .i64 (fi a0).1,.bool (fi a0).2]) rfl (enters_of Tryz.func27 (by kernel_rfl) rfl) rfl
  ⟨_,rfl,rfl,λk d x ae ar=>?_⟩ (λw F=>?_) λw F X S vs mX aH=>?_
 .rcases k with _|_|k
  .simp at ae ar;subst ae ar;exact⟨rfl,λvs=>by simp,rfl⟩
  .simp at ae ar;subst ae ar;exact⟨rfl,λvs=>by simp,rfl⟩
  .simp at ae
 .simp only[b8,hs];rw[au,aZ];refine⟨[.int .i64 (fi a0).1],[.bool (fi a0).2],λ_=>False,λ_=>False,rfl,by rw[au],?_,λ_ h=>h,λ_ h=>h,λ_ h=>h.elim⟩;rw[aZ];exact⟨[.bool (fi a0).2],[],λ_=>False,λ_=>False,rfl,by rw[au],by rw[aZ],λ_ h=>h,λ_ h=>h,λ_ h=>h.elim⟩
 .obtain⟨v0,rfl⟩:∃v0,vs=[v0]:=by
   match vs,mX with
   |[x],_=>exact⟨x,rfl⟩
  have g0:v0= .string ⟨⟨a0⟩⟩:=lN (aH.cW 0);subst g0;exact Y8 a0 w (aH.fW.next (Nat.le_refl _) (λ_ _ _=>rfl) λ_ h=>h.elim)
end
section
open Go.Proofs Go.RowKit Go.Lib
theorem NH:∀(x c y:aht),(∀b∈x,b≠32)->k3 c (x++y)=k3 (c++x) y
 |[],c,y,_=>by simp
 |b::x,c,y,h=>by
  rw[cons_append,k3,if_neg (h b (by simp)),NH x (c++[b]) y λff R=>h ff (by simp[R])];simp
theorem Za (n h5 iC gA iE:Nat):((decodeN n h5 iC gA iE).1=32->h5=32/\(decodeN n h5 iC gA iE).2=1)/\((decodeN n h5 iC gA iE).1≠32->h5≠32):=by
 unfold decodeN
 repeat' split
 all_goals (refine⟨λh=>?_,λh=>?_⟩<;>dsimp only at h⊢<;>omega)
theorem Zb (l:aht) (a b:Nat):(⟨⟨l⟩⟩:ByteArray).extract a b=⟨⟨(l.take b).drop a⟩⟩:=by
 apply ByteArray.ext;apply Array.ext';simp[ByteArray.data_extract,drop_take]
theorem Cd (l:aht) (i:Nat) (h:i<l.length):(⟨⟨l⟩⟩:ByteArray).get! i=l[i]:=by
 show l.toArray[i]! =_;rw[getElem!_pos _ i (by simpa using h)];simp
theorem Zc (l:aht):∀(f pos:Nat) (st:Option Nat) (acc:List (Nat×Nat)) (c:aht),l.length<=pos+f->pos<=l.length->(st=none->c=[])->(∀a,st=some a->a<pos/\c=(l.take pos).drop a)->
  ((closeSpans ⟨⟨l⟩⟩ (spansFromP (λr=>r==32) ⟨⟨l⟩⟩ f pos st acc)).map λx=>(l.take x.2).drop x.1)=(acc.map λx=>(l.take x.2).drop x.1)++k3 c (l.drop pos):=by
 intro f;induction f with
 |zero=>
  intro pos st acc c ab ad aC aW;obtain rfl:pos=l.length:=by omega
  rw[drop_length];cases st with
  |none=>rw[aC rfl];simp[spansFromP,closeSpans,k3]
  |some a=>
   obtain⟨bu,rfl⟩:=aW a rfl;have cO:¬(l.take l.length).drop a=[]:=λe=>by have:=congrArg length e;simp at this;omega
   simp only[spansFromP,closeSpans,k3,if_neg cO,map_append,map_cons,map_nil];rfl
 |succ f ih=>
  intro pos st acc c ab ad aC aW;by_cases ei:pos<l.length
  .have Zd:pos<(⟨⟨l⟩⟩:ByteArray).size:=ei;have ae:=decode_at ⟨⟨l⟩⟩ pos;have aU:(⟨⟨l⟩⟩:ByteArray).size-pos=l.length-pos:=rfl;rw[aU,Cd l pos ei]at ae;obtain⟨fA,fp⟩:=Za (l.length-pos) l[pos].toNat ((⟨⟨l⟩⟩:ByteArray).get! (pos+1)).toNat ((⟨⟨l⟩⟩:ByteArray).get! (pos+2)).toNat ((⟨⟨l⟩⟩:ByteArray).get! (pos+3)).toNat;obtain⟨gX,hv,mv,rm⟩:=decodeN_conts (l.length-pos) l[pos].toNat ((⟨⟨l⟩⟩:ByteArray).get! (pos+1)).toNat ((⟨⟨l⟩⟩:ByteArray).get! (pos+2)).toNat ((⟨⟨l⟩⟩:ByteArray).get! (pos+3)).toNat;have uz:=decodeN_ge1 (l.length-pos) l[pos].toNat ((⟨⟨l⟩⟩:ByteArray).get! (pos+1)).toNat ((⟨⟨l⟩⟩:ByteArray).get! (pos+2)).toNat ((⟨⟨l⟩⟩:ByteArray).get! (pos+3)).toNat;have z6:=decodeN_le_n' (l.length-pos) l[pos].toNat ((⟨⟨l⟩⟩:ByteArray).get! (pos+1)).toNat ((⟨⟨l⟩⟩:ByteArray).get! (pos+2)).toNat ((⟨⟨l⟩⟩:ByteArray).get! (pos+3)).toNat (by omega);rw[<-ae]at fA fp gX hv mv rm uz z6;obtain⟨jS,fo⟩:∃jS,(Utf8.decode ⟨⟨l⟩⟩ pos).1=jS:=⟨_,rfl⟩
   obtain⟨K,hK⟩:∃K,(Utf8.decode ⟨⟨l⟩⟩ pos).2=K:=⟨_,rfl⟩
   rw[fo]at fA fp;rw[hK]at fA gX hv mv rm uz z6;simp only[spansFromP,if_pos Zd,fo,hK];have fE:l.drop pos=l[pos]::l.drop (pos+1):=drop_eq_getElem_cons ei;by_cases aH:jS=32
   .obtain⟨R,rfl⟩:=fA aH;have R:l[pos]=32:=UInt8.toNat_inj.1 R;rw[if_pos (by simpa using aH),fE,k3,if_pos R];cases st with
    |none=>
     rw[if_pos (aC rfl)];exact ih (pos+1) none acc [] (by omega) (by omega) (λ_=>rfl) (λa h=>by cases h)
    |some a=>
     obtain⟨bu,rfl⟩:=aW a rfl;rw[if_neg (λe=>by have:=congrArg length e;simp at this;omega)];refine(ih (pos+1) none (acc++[(a,pos)]) [] (by omega) (by omega) (λ_=>rfl) (λa h=>by cases h)).trans ?_;rw[map_append,append_assoc];rfl
   .have R:l[pos]≠32:=λe=>fp aH (by rw[e];rfl);have ar:∀b∈(l.drop pos).take K,b≠32:=by
     intro b Ze e;obtain⟨j,bQ,rfl⟩:=mem_iff_getElem.1 Ze;have KF:j<K:=by simp at bQ;omega
     have w9:pos+j<l.length:=by simp at bQ;omega
     rw[getElem_take,getElem_drop]at e;have g:j=0\/j=1\/j=2\/j=3:=by omega
     rcases g with rfl|rfl|rfl|rfl
     .exact R e
     .have:=(gX (by omega)).1;rw[Cd l _ w9,e]at this;revert this;decide
     .have:=(hv (by omega)).1;rw[Cd l _ w9,e]at this;revert this;decide
     .have:=(mv (by omega)).1;rw[Cd l _ w9,e]at this;revert this;decide
    have aP:l.drop pos=(l.drop pos).take K++l.drop (pos+K):=by rw[<-drop_drop,take_append_drop]
    rw[if_neg (by simpa using aH),aP,NH _ _ _ ar];have aT:∀a,a<=pos->(l.take pos).drop a++(l.drop pos).take K=(l.take (pos+K)).drop a:=λa bM=>by
     rw[take_add,drop_append_of_le_length (by simp;omega)]
    cases st with
    |none=>
     rw[aC rfl];have aR:[]++(l.drop pos).take K=(l.take (pos+K)).drop pos:=by
      have z:(l.take pos).drop pos=[]:=drop_eq_nil_of_le (by rw[length_take];omega);rw[<-aT pos (Nat.le_refl _),z]
     exact ih (pos+K) (some pos) acc _ (by omega) (by omega) (λh=>by cases h) (λa h=>by cases h;exact⟨by omega,aR⟩)
    |some a=>
     obtain⟨bu,rfl⟩:=aW a rfl;exact ih (pos+K) (some a) acc _ (by omega) (by omega) (λh=>by cases h) (λb h=>by cases h;exact⟨by omega,aT a (by omega)⟩)
  .obtain rfl:pos=l.length:=by omega
   rw[drop_length,spansFromP_end _ _ _ _ _ _ (show¬l.length<(⟨⟨l⟩⟩:ByteArray).size from ei)];cases st with
   |none=>rw[aC rfl];simp[closeSpans,k3]
   |some a=>
    obtain⟨bu,rfl⟩:=aW a rfl;have cO:¬(l.take l.length).drop a=[]:=λe=>by have:=congrArg length e;simp at this;omega
    simp only[closeSpans,k3,if_neg cO,map_append,map_cons,map_nil];rfl
theorem Zf (l:aht):goFieldsP (λr=>r==32) ⟨⟨l⟩⟩=(k3 [] l).map λx=>⟨⟨x⟩⟩:=by
 have h:=Zc l l.length 0 none [] [] (by omega) (by omega) (λ_=>rfl) (λa h=>by cases h);rw[map_nil,nil_append,drop_zero]at h;rw[<-h,List.map_map];exact map_congr_left λx _=>Zb l x.1 x.2
theorem Zg (W:World) (x:Nat):FnGives Tryz.prog 54 #[] #[encR x] (.bool (x==32)) W:=by
 unfold FnGives;show Calls Tryz.prog 54 #[.int .i32 (x:Int)] W _
 go_enter Tryz.func54,Tryz.ntmps54
 go_wp2
 go_ret
 refine⟨?_,0,rfl⟩;have:((x:Int)==32)=(x==32):=by rw[Bool.eq_iff_iff];simp;omega
 simp[this]
theorem Zh (a0:aht) (r:nq) (h:strings_FieldsFunc a0=some r):aX al 53 [.str a0,.fn 54 []] (.ao 1 (r.map bn)) []:=by
 unfold strings_FieldsFunc at h;split at h
 .rename_i hl;cases h;refine aX.Vr (C:=al) (enc:=λx=>.string ⟨⟨x⟩⟩) (T:=(Tryz.NC).t 9) (k3 [] a0) rfl (λ_=>rfl) (λw F x S=>by unfold bn;rw[au]) (enters_of Tryz.ND.f229 (by kernel_rfl) rfl) λw F X S vs mX aH=>?_;obtain⟨v0,v1,rfl⟩:∃v0 v1,vs=[v0,v1]:=by
   match vs,mX with
   |[x,y],_=>exact⟨x,y,rfl⟩
  have aV:v0= .string ⟨⟨a0⟩⟩:=lN (aH.cW 0);have ab:v1= .func (.func 54) #[] #[]:=Vs (aH.cW 1);subst aV ab;have NI:=Any.strings_FieldsFunc Tryz.ND 54 #[] (enters_of Tryz.func54 (by kernel_rfl) rfl) (λr=>r==32) ⟨⟨a0⟩⟩ w hl (λW x _=>Zg W x) (by kernel_rfl) (by kernel_rfl);rw[Zf,length_map,List.map_map]at NI;exact NI
 .cases h
end
end Go.Proofs.YtngohoaiimbacabGreatDoor
