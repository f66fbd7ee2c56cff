/- Part of a proof that a law returns true for every input. No condition. -/
import Derived.Ground.NamesProg
import Derived.Shelf.Lays
import Derived.Shelf.Strings.BuilderX
import Derived.Shelf.LaysC
import Derived.Shelf.LaysM
import Derived.Shelf.Strings.Prefix
import Derived.Shelf.Strconv.ParseIntPublic10
import Derived.Shelf.Strconv.Itoa4
import Derived.WalkKit
import Derived.BigCall
import Derived.Test.YtmaepbgkcmjcjajGreatDoorUV1x
import Derived.Shelf.Strings.OnBuilder
import Derived.Test.YtmaepbgkcmjcjajGreatDoorFwM
import Derived.Test.YtmaepbgkcmjcjajGreatDoorC3
namespace Go.Proofs.YtmaepbgkcmjcjajGreatDoor
open List Option Go.IntKind Nat Or
open Go Go.ep Go.ld Go.Shelf
set_option maxRecDepth 100000
def Tryz.amY:Go.Shelf.Ren:=⟨λ|173=>177|246=>208|283=>237|284=>238|285=>239|286=>240|129=>255|317=>254|318=>256|319=>257|320=>258|337=>267|338=>268|n=>n,λ|2=>2|3=>3|9=>9|4=>4|171=>289|0=>0|53=>290|37=>121|5=>5|173=>293|212=>307|51=>297|20=>20|213=>308|46=>285|232=>326|233=>327|n=>n,λ|17=>1|18=>6|19=>7|n=>n⟩
theorem Tryz.ay2:Go.Proofs.Lays.n173 Tryz.prog Tryz.amY:={
 mixed:=by kernel_rfl
 f129:=Tryz.func255.trans (congrArg some (by kernel_rfl))
 f173:=Tryz.func177.trans (congrArg some (by kernel_rfl))
 f246:=Tryz.func208.trans (congrArg some (by kernel_rfl))
 f283:=Tryz.func237.trans (congrArg some (by kernel_rfl))
 f284:=Tryz.func238.trans (congrArg some (by kernel_rfl))
 f285:=Tryz.func239.trans (congrArg some (by kernel_rfl))
 f286:=Tryz.func240.trans (congrArg some (by kernel_rfl))
 f317:=Tryz.func254.trans (congrArg some (by kernel_rfl))
 f318:=Tryz.func256.trans (congrArg some (by kernel_rfl))
 f319:=Tryz.func257.trans (congrArg some (by kernel_rfl))
 f320:=Tryz.func258.trans (congrArg some (by kernel_rfl))
 f337:=Tryz.func267.trans (congrArg some (by kernel_rfl))
 f338:=Tryz.func268.trans (congrArg some (by kernel_rfl))
 t0:=Tryz.underlying0
 a0:=Tryz.isAgg0
 z0:=Tryz.sizeOf0
 v0:=Tryz.zeroValue0
 t2:=Tryz.underlying2
 a2:=Tryz.isAgg2
 z2:=Tryz.sizeOf2
 v2:=Tryz.zeroValue2
 t3:=Tryz.underlying3
 a3:=Tryz.isAgg3
 z3:=Tryz.sizeOf3
 v3:=Tryz.zeroValue3
 t4:=Tryz.underlying4
 a4:=Tryz.isAgg4
 z4:=Tryz.sizeOf4
 v4:=Tryz.zeroValue4
 t5:=Tryz.underlying5
 a5:=Tryz.isAgg5
 z5:=Tryz.sizeOf5
 v5:=Tryz.zeroValue5
 t9:=Tryz.underlying9
 a9:=Tryz.isAgg9
 z9:=Tryz.sizeOf9
 v9:=Tryz.zeroValue9
 t20:=Tryz.underlying20
 a20:=Tryz.isAgg20
 z20:=Tryz.sizeOf20
 v20:=Tryz.zeroValue20
 t37:=Tryz.underlying121
 a37:=Tryz.isAgg121
 z37:=Tryz.sizeOf121
 v37:=Tryz.zeroValue121
 t46:=Tryz.underlying285
 a46:=Tryz.isAgg285
 z46:=Tryz.sizeOf285
 v46:=Tryz.zeroValue285
 t51:=Tryz.underlying297
 a51:=Tryz.isAgg297
 z51:=Tryz.sizeOf297
 v51:=Tryz.zeroValue297
 t53:=Tryz.underlying290
 a53:=Tryz.isAgg290
 z53:=Tryz.sizeOf290
 v53:=Tryz.zeroValue290
 t171:=Tryz.underlying289
 a171:=Tryz.isAgg289
 z171:=Tryz.sizeOf289
 v171:=Tryz.zeroValue289
 t173:=Tryz.underlying293
 a173:=Tryz.isAgg293
 z173:=Tryz.sizeOf293
 v173:=Tryz.zeroValue293
 t212:=Tryz.underlying307
 a212:=Tryz.isAgg307
 z212:=Tryz.sizeOf307
 v212:=Tryz.zeroValue307
 t213:=Tryz.underlying308
 a213:=Tryz.isAgg308
 z213:=Tryz.sizeOf308
 t232:=Tryz.underlying326
 a232:=Tryz.isAgg326
 z232:=Tryz.sizeOf326
 v232:=Tryz.zeroValue326
 t233:=Tryz.underlying327
 a233:=Tryz.isAgg327
 z233:=Tryz.sizeOf327
 v233:=Tryz.zeroValue327
 g17:=by kernel_rfl
 g18:=by kernel_rfl
 g19:=by kernel_rfl}
def Tryz.Zf:Go.Shelf.Ren:=⟨λ|156=>179|165=>210|166=>211|169=>212|240=>242|241=>243|276=>260|277=>261|n=>n,λ|31=>25|9=>9|3=>3|4=>4|0=>0|20=>20|72=>264|76=>266|70=>262|37=>121|75=>257|127=>295|164=>311|5=>5|80=>268|n=>n,λ|n=>n⟩
theorem Tryz.RF:Go.Proofs.Lays.n156 Tryz.prog Tryz.Zf:={
 mixed:=by kernel_rfl
 f156:=Tryz.func179.trans (congrArg some (by kernel_rfl))
 f165:=Tryz.func210.trans (congrArg some (by kernel_rfl))
 f166:=Tryz.func211.trans (congrArg some (by kernel_rfl))
 f169:=Tryz.func212.trans (congrArg some (by kernel_rfl))
 f240:=Tryz.func242.trans (congrArg some (by kernel_rfl))
 f241:=Tryz.func243.trans (congrArg some (by kernel_rfl))
 f276:=Tryz.func260.trans (congrArg some (by kernel_rfl))
 f277:=Tryz.func261.trans (congrArg some (by kernel_rfl))
 t0:=Tryz.underlying0
 a0:=Tryz.isAgg0
 z0:=Tryz.sizeOf0
 v0:=Tryz.zeroValue0
 t3:=Tryz.underlying3
 a3:=Tryz.isAgg3
 z3:=Tryz.sizeOf3
 v3:=Tryz.zeroValue3
 t4:=Tryz.underlying4
 a4:=Tryz.isAgg4
 z4:=Tryz.sizeOf4
 v4:=Tryz.zeroValue4
 t9:=Tryz.underlying9
 a9:=Tryz.isAgg9
 z9:=Tryz.sizeOf9
 v9:=Tryz.zeroValue9
 t20:=Tryz.underlying20
 a20:=Tryz.isAgg20
 z20:=Tryz.sizeOf20
 v20:=Tryz.zeroValue20
 t31:=Tryz.underlying25
 a31:=Tryz.isAgg25
 z31:=Tryz.sizeOf25
 v31:=Tryz.zeroValue25
 t37:=Tryz.underlying121
 a37:=Tryz.isAgg121
 z37:=Tryz.sizeOf121
 v37:=Tryz.zeroValue121
 t70:=Tryz.underlying262
 a70:=Tryz.isAgg262
 z70:=Tryz.sizeOf262
 v70:=Tryz.zeroValue262
 t72:=Tryz.underlying264
 a72:=Tryz.isAgg264
 z72:=Tryz.sizeOf264
 v72:=Tryz.zeroValue264
 t75:=Tryz.underlying257
 a75:=Tryz.isAgg257
 z75:=Tryz.sizeOf257
 v75:=Tryz.zeroValue257
 t76:=Tryz.underlying266
 a76:=Tryz.isAgg266
 z76:=Tryz.sizeOf266
 v76:=Tryz.zeroValue266
 t127:=Tryz.underlying295
 a127:=Tryz.isAgg295
 z127:=Tryz.sizeOf295
 v127:=Tryz.zeroValue295
 t164:=Tryz.underlying311
 a164:=Tryz.isAgg311
 z164:=Tryz.sizeOf311
 v164:=Tryz.zeroValue311}
theorem Tryz.Zg:Builder.Extra Tryz.prog Tryz.Zf:={
 sizeBuilder:=by kernel_rfl
 liesBuilder:=by kernel_rfl
 t5:=Tryz.underlying5
 a5:=Tryz.isAgg5
 z5:=Tryz.sizeOf5
 v5:=Tryz.zeroValue5
 infoByte:=by kernel_rfl
 cellsByte:=by kernel_rfl
 sizeByte:=by kernel_rfl
 neB5:=by decide}
def Tryz.amZ:Go.Shelf.Ren:=⟨λ|101=>202|208=>231|206=>247|n=>n,λ|9=>9|4=>4|3=>3|n=>n,λ|n=>n⟩
theorem Tryz.RG:Go.Proofs.Lays.n101 Tryz.prog Tryz.amZ:={
 mixed:=by kernel_rfl
 f101:=Tryz.func202.trans (congrArg some (by kernel_rfl))
 f206:=Tryz.func247.trans (congrArg some (by kernel_rfl))
 f208:=Tryz.func231.trans (congrArg some (by kernel_rfl))
 t3:=Tryz.underlying3
 a3:=Tryz.isAgg3
 z3:=Tryz.sizeOf3
 v3:=Tryz.zeroValue3
 t4:=Tryz.underlying4
 a4:=Tryz.isAgg4
 z4:=Tryz.sizeOf4
 v4:=Tryz.zeroValue4
 t9:=Tryz.underlying9
 a9:=Tryz.isAgg9
 z9:=Tryz.sizeOf9
 v9:=Tryz.zeroValue9}
def Tryz.am0:Go.Shelf.Ren:=⟨λ|174=>203|247=>232|245=>233|287=>248|279=>249|280=>250|281=>251|282=>252|321=>262|322=>263|316=>264|171=>266|205=>265|243=>270|246=>208|283=>237|284=>238|285=>239|286=>240|129=>255|317=>254|318=>256|319=>257|320=>258|337=>267|338=>268|n=>n,λ|9=>9|3=>3|2=>2|75=>257|85=>258|4=>4|167=>300|5=>5|53=>290|175=>301|46=>285|168=>303|37=>121|0=>0|210=>316|21=>21|127=>295|145=>325|143=>323|171=>289|173=>293|212=>307|51=>297|20=>20|213=>308|232=>326|233=>327|80=>268|n=>n,λ|15=>2|16=>3|17=>1|18=>6|19=>7|n=>n⟩
theorem Tryz.Zh:Go.Proofs.LaysC.n174 Tryz.prog Tryz.am0:={
 mixed:=by kernel_rfl
 f129:=Tryz.func255.trans (congrArg some (by kernel_rfl))
 f171:=Tryz.func266.trans (congrArg some (by kernel_rfl))
 f174:=Tryz.func203.trans (congrArg some (by kernel_rfl))
 f205:=Tryz.func265.trans (congrArg some (by kernel_rfl))
 f243:=Tryz.func270.trans (congrArg some (by kernel_rfl))
 f245:=Tryz.func233.trans (congrArg some (by kernel_rfl))
 f246:=Tryz.func208.trans (congrArg some (by kernel_rfl))
 f247:=Tryz.func232.trans (congrArg some (by kernel_rfl))
 f279:=Tryz.func249.trans (congrArg some (by kernel_rfl))
 f280:=Tryz.func250.trans (congrArg some (by kernel_rfl))
 f281:=Tryz.func251.trans (congrArg some (by kernel_rfl))
 f282:=Tryz.func252.trans (congrArg some (by kernel_rfl))
 f283:=Tryz.func237.trans (congrArg some (by kernel_rfl))
 f284:=Tryz.func238.trans (congrArg some (by kernel_rfl))
 f285:=Tryz.func239.trans (congrArg some (by kernel_rfl))
 f286:=Tryz.func240.trans (congrArg some (by kernel_rfl))
 f287:=Tryz.func248.trans (congrArg some (by kernel_rfl))
 f316:=Tryz.func264.trans (congrArg some (by kernel_rfl))
 f317:=Tryz.func254.trans (congrArg some (by kernel_rfl))
 f318:=Tryz.func256.trans (congrArg some (by kernel_rfl))
 f319:=Tryz.func257.trans (congrArg some (by kernel_rfl))
 f320:=Tryz.func258.trans (congrArg some (by kernel_rfl))
 f321:=Tryz.func262.trans (congrArg some (by kernel_rfl))
 f322:=Tryz.func263.trans (congrArg some (by kernel_rfl))
 f337:=Tryz.func267.trans (congrArg some (by kernel_rfl))
 f338:=Tryz.func268.trans (congrArg some (by kernel_rfl))
 t0:=Tryz.underlying0
 a0:=Tryz.isAgg0
 z0:=Tryz.sizeOf0
 v0:=Tryz.zeroValue0
 t2:=Tryz.underlying2
 a2:=Tryz.isAgg2
 z2:=Tryz.sizeOf2
 v2:=Tryz.zeroValue2
 t3:=Tryz.underlying3
 a3:=Tryz.isAgg3
 z3:=Tryz.sizeOf3
 v3:=Tryz.zeroValue3
 t4:=Tryz.underlying4
 a4:=Tryz.isAgg4
 z4:=Tryz.sizeOf4
 v4:=Tryz.zeroValue4
 t5:=Tryz.underlying5
 a5:=Tryz.isAgg5
 z5:=Tryz.sizeOf5
 v5:=Tryz.zeroValue5
 t9:=Tryz.underlying9
 a9:=Tryz.isAgg9
 z9:=Tryz.sizeOf9
 v9:=Tryz.zeroValue9
 t20:=Tryz.underlying20
 a20:=Tryz.isAgg20
 z20:=Tryz.sizeOf20
 v20:=Tryz.zeroValue20
 t21:=Tryz.underlying21
 a21:=Tryz.isAgg21
 z21:=Tryz.sizeOf21
 v21:=Tryz.zeroValue21
 t37:=Tryz.underlying121
 a37:=Tryz.isAgg121
 z37:=Tryz.sizeOf121
 v37:=Tryz.zeroValue121
 t46:=Tryz.underlying285
 a46:=Tryz.isAgg285
 z46:=Tryz.sizeOf285
 v46:=Tryz.zeroValue285
 t51:=Tryz.underlying297
 a51:=Tryz.isAgg297
 z51:=Tryz.sizeOf297
 v51:=Tryz.zeroValue297
 t53:=Tryz.underlying290
 a53:=Tryz.isAgg290
 z53:=Tryz.sizeOf290
 v53:=Tryz.zeroValue290
 t75:=Tryz.underlying257
 a75:=Tryz.isAgg257
 z75:=Tryz.sizeOf257
 v75:=Tryz.zeroValue257
 t85:=Tryz.underlying258
 a85:=Tryz.isAgg258
 z85:=Tryz.sizeOf258
 v85:=Tryz.zeroValue258
 t127:=Tryz.underlying295
 a127:=Tryz.isAgg295
 z127:=Tryz.sizeOf295
 v127:=Tryz.zeroValue295
 t143:=Tryz.underlying323
 a143:=Tryz.isAgg323
 z143:=Tryz.sizeOf323
 v143:=Tryz.zeroValue323
 t145:=Tryz.underlying325
 a145:=Tryz.isAgg325
 z145:=Tryz.sizeOf325
 v145:=Tryz.zeroValue325
 t167:=Tryz.underlying300
 a167:=Tryz.isAgg300
 z167:=Tryz.sizeOf300
 v167:=Tryz.zeroValue300
 t168:=Tryz.underlying303
 a168:=Tryz.isAgg303
 z168:=Tryz.sizeOf303
 v168:=Tryz.zeroValue303
 t171:=Tryz.underlying289
 a171:=Tryz.isAgg289
 z171:=Tryz.sizeOf289
 v171:=Tryz.zeroValue289
 t173:=Tryz.underlying293
 a173:=Tryz.isAgg293
 z173:=Tryz.sizeOf293
 v173:=Tryz.zeroValue293
 t175:=Tryz.underlying301
 a175:=Tryz.isAgg301
 z175:=Tryz.sizeOf301
 v175:=Tryz.zeroValue301
 t210:=Tryz.underlying316
 a210:=Tryz.isAgg316
 z210:=Tryz.sizeOf316
 v210:=Tryz.zeroValue316
 t212:=Tryz.underlying307
 a212:=Tryz.isAgg307
 z212:=Tryz.sizeOf307
 v212:=Tryz.zeroValue307
 t213:=Tryz.underlying308
 a213:=Tryz.isAgg308
 z213:=Tryz.sizeOf308
 t232:=Tryz.underlying326
 a232:=Tryz.isAgg326
 z232:=Tryz.sizeOf326
 v232:=Tryz.zeroValue326
 t233:=Tryz.underlying327
 a233:=Tryz.isAgg327
 z233:=Tryz.sizeOf327
 v233:=Tryz.zeroValue327
 g15:=by kernel_rfl
 g16:=by kernel_rfl
 g17:=by kernel_rfl
 g18:=by kernel_rfl
 g19:=by kernel_rfl
 t80:=Tryz.underlying268
 a80:=Tryz.isAgg268
 z80:=Tryz.sizeOf268
 v80:=Tryz.zeroValue268
 i0:=by kernel_rfl
 i2:=by kernel_rfl
 i3:=by kernel_rfl
 i4:=by kernel_rfl
 i5:=by kernel_rfl
 i9:=by kernel_rfl
 i20:=by kernel_rfl
 i21:=by kernel_rfl
 i37:=by kernel_rfl
 i46:=by kernel_rfl
 i51:=by kernel_rfl
 i53:=by kernel_rfl
 i75:=by kernel_rfl
 i80:=by kernel_rfl
 i85:=by kernel_rfl
 i127:=by kernel_rfl
 i143:=by kernel_rfl
 i145:=by kernel_rfl
 i167:=by kernel_rfl
 i168:=by kernel_rfl
 i171:=by kernel_rfl
 i173:=by kernel_rfl
 i175:=by kernel_rfl
 i210:=by kernel_rfl
 i212:=by kernel_rfl
 i232:=by kernel_rfl
 i233:=by kernel_rfl
 m15:=by kernel_rfl
 m16:=by kernel_rfl
 m17:=by kernel_rfl
 m18:=by kernel_rfl
 m19:=by kernel_rfl
 c0:=by kernel_rfl
 c2:=by kernel_rfl
 c3:=by kernel_rfl
 c4:=by kernel_rfl
 c5:=by kernel_rfl
 c9:=by kernel_rfl
 c20:=by kernel_rfl
 c21:=by kernel_rfl
 c37:=by kernel_rfl
 c46:=by kernel_rfl
 c51:=by kernel_rfl
 c53:=by kernel_rfl
 c75:=by kernel_rfl
 c80:=by kernel_rfl
 c85:=by kernel_rfl
 c127:=by kernel_rfl
 c143:=by kernel_rfl
 c145:=by kernel_rfl
 c167:=by kernel_rfl
 c168:=by kernel_rfl
 c171:=by kernel_rfl
 c173:=by kernel_rfl
 c175:=by kernel_rfl
 c210:=by kernel_rfl
 c212:=by kernel_rfl
 c213:=by kernel_rfl
 c232:=by kernel_rfl
 c233:=by kernel_rfl}
def Tryz.am1:Go.Shelf.Ren:=⟨λ|173=>177|246=>208|283=>237|284=>238|285=>239|286=>240|129=>255|317=>254|318=>256|319=>257|320=>258|337=>267|338=>268|n=>n,λ|2=>2|3=>3|9=>9|4=>4|171=>289|0=>0|53=>290|37=>121|5=>5|173=>293|212=>307|51=>297|20=>20|213=>308|46=>285|232=>326|233=>327|n=>n,λ|17=>1|18=>6|19=>7|n=>n⟩
theorem Tryz.RH:Go.Proofs.LaysM.n173 Tryz.prog Tryz.am1:={
 mixed:=by kernel_rfl
 f129:=Tryz.func255.trans (congrArg some (by kernel_rfl))
 f173:=Tryz.func177.trans (congrArg some (by kernel_rfl))
 f246:=Tryz.func208.trans (congrArg some (by kernel_rfl))
 f283:=Tryz.func237.trans (congrArg some (by kernel_rfl))
 f284:=Tryz.func238.trans (congrArg some (by kernel_rfl))
 f285:=Tryz.func239.trans (congrArg some (by kernel_rfl))
 f286:=Tryz.func240.trans (congrArg some (by kernel_rfl))
 f317:=Tryz.func254.trans (congrArg some (by kernel_rfl))
 f318:=Tryz.func256.trans (congrArg some (by kernel_rfl))
 f319:=Tryz.func257.trans (congrArg some (by kernel_rfl))
 f320:=Tryz.func258.trans (congrArg some (by kernel_rfl))
 f337:=Tryz.func267.trans (congrArg some (by kernel_rfl))
 f338:=Tryz.func268.trans (congrArg some (by kernel_rfl))
 t0:=Tryz.underlying0
 a0:=Tryz.isAgg0
 z0:=Tryz.sizeOf0
 v0:=Tryz.zeroValue0
 t2:=Tryz.underlying2
 a2:=Tryz.isAgg2
 z2:=Tryz.sizeOf2
 v2:=Tryz.zeroValue2
 t3:=Tryz.underlying3
 a3:=Tryz.isAgg3
 z3:=Tryz.sizeOf3
 v3:=Tryz.zeroValue3
 t4:=Tryz.underlying4
 a4:=Tryz.isAgg4
 z4:=Tryz.sizeOf4
 v4:=Tryz.zeroValue4
 t5:=Tryz.underlying5
 a5:=Tryz.isAgg5
 z5:=Tryz.sizeOf5
 v5:=Tryz.zeroValue5
 t9:=Tryz.underlying9
 a9:=Tryz.isAgg9
 z9:=Tryz.sizeOf9
 v9:=Tryz.zeroValue9
 t20:=Tryz.underlying20
 a20:=Tryz.isAgg20
 z20:=Tryz.sizeOf20
 v20:=Tryz.zeroValue20
 t37:=Tryz.underlying121
 a37:=Tryz.isAgg121
 z37:=Tryz.sizeOf121
 v37:=Tryz.zeroValue121
 t46:=Tryz.underlying285
 a46:=Tryz.isAgg285
 z46:=Tryz.sizeOf285
 v46:=Tryz.zeroValue285
 t51:=Tryz.underlying297
 a51:=Tryz.isAgg297
 z51:=Tryz.sizeOf297
 v51:=Tryz.zeroValue297
 t53:=Tryz.underlying290
 a53:=Tryz.isAgg290
 z53:=Tryz.sizeOf290
 v53:=Tryz.zeroValue290
 t171:=Tryz.underlying289
 a171:=Tryz.isAgg289
 z171:=Tryz.sizeOf289
 v171:=Tryz.zeroValue289
 t173:=Tryz.underlying293
 a173:=Tryz.isAgg293
 z173:=Tryz.sizeOf293
 v173:=Tryz.zeroValue293
 t212:=Tryz.underlying307
 a212:=Tryz.isAgg307
 z212:=Tryz.sizeOf307
 v212:=Tryz.zeroValue307
 t213:=Tryz.underlying308
 a213:=Tryz.isAgg308
 z213:=Tryz.sizeOf308
 t232:=Tryz.underlying326
 a232:=Tryz.isAgg326
 z232:=Tryz.sizeOf326
 v232:=Tryz.zeroValue326
 t233:=Tryz.underlying327
 a233:=Tryz.isAgg327
 z233:=Tryz.sizeOf327
 v233:=Tryz.zeroValue327
 g17:=by kernel_rfl
 g18:=by kernel_rfl
 g19:=by kernel_rfl
 i0:=by kernel_rfl
 i2:=by kernel_rfl
 i3:=by kernel_rfl
 i4:=by kernel_rfl
 i5:=by kernel_rfl
 i9:=by kernel_rfl
 i20:=by kernel_rfl
 i37:=by kernel_rfl
 i46:=by kernel_rfl
 i51:=by kernel_rfl
 i53:=by kernel_rfl
 i171:=by kernel_rfl
 i173:=by kernel_rfl
 i212:=by kernel_rfl
 i232:=by kernel_rfl
 i233:=by kernel_rfl
 m17:=by kernel_rfl
 m18:=by kernel_rfl
 m19:=by kernel_rfl}
theorem am2:One aV (λx=>.string ⟨⟨x⟩⟩):=⟨λ_=>rfl,λw F x cs S=>by unfold aV;rw[aB]⟩
theorem Zi (n:Nat):yp n=Lib.decDigits n:=by
 induction n using Nat.strongRecOn with
 |_ n ih=>
  rw[yp,Lib.decDigits];by_cases h:n<10
  .rw[dif_pos h,dif_pos h]
  .rw[dif_neg h,dif_neg h,ih (n/10) (by omega)]
theorem am3 (n:Int):GL n=Lib.itoa n:=by
 unfold GL Lib.itoa;rw[Zi,Zi]
theorem am4 {w:World} (hg:ua w λ_=>False):Lib.TabIs Tryz.prog w "internal/strconv.uint64pow10" .u64 Lib.pow10Tab:=by
 obtain⟨_,_,o,g1,ty,fr,g2⟩:=hg (1,Ip) (by simp[Iq]);unfold Lib.TabIs World.var?;rw[show Tryz.prog.globalNamed "internal/strconv.uint64pow10" =some 1 by kernel_rfl];simp only[bind_some,g1,g2,Lib.pow10Tab,List.map_map];rfl
theorem am5 {w:World} (k:Nat) (os:Array Obj):RowKit.Below w.heap.size w (Sort.grow (w.drewN k) os) where
 os:=rfl
 tape:=rfl
 output:=rfl
 size:=by simp[Sort.grow,World.drewN]
 block:=λb ab=>by
  show(w.heap++os)[b]? =_;rw[Array.getElem?_append_left ab]
theorem am6 (a0 J:Int) (r:azq) (h:CX a0 J=some r):aZ ah 177 [.int .i64 a0,.int .i64 J] (.str r) []:=by
 unfold CX at h;split at h
 .rename_i hl;obtain⟨a_,ad,rfl⟩:=hl;cases h;refine aZ.strs rfl (enters_of Tryz.RH.f173 (by kernel_rfl) rfl) λw F X S vs nc aR=>?_;obtain⟨v0,v1,rfl⟩:∃v0 v1,vs=[v0,v1]:=by
   match vs,nc with
   |[x,y],_=>exact⟨x,y,rfl⟩
  have g0:v0= .int .i64 a0:=qy (aR.eB 0);have g1:v1= .int .i64 10:=qy (aR.eB 1);subst g0 g1;rw[am3];refine(Any.strconv_FormatInt_10 Tryz.RH a0 a_ ad w (am4 (aR.gz.next (Nat.le_refl _) (λ_ _ _=>rfl) λ_ h=>h.elim))).mono ?_;rintro e aO ⟨rfl,k,os,rfl⟩;exact⟨rfl,am5 k os⟩
 .cases h
theorem am7 (a0:azp) (J r:azq) (h:strings_Join a0 J=some r):aZ ah 179 [.slice (a0.map aV),.str J] (.str r) []:=by
 unfold strings_Join at h;split at h
 .rename_i hl;cases h;refine aZ.strs rfl (enters_of Tryz.RF.f156 (by kernel_rfl) rfl) λw F X S vs nc aR=>?_;obtain⟨v0,v1,rfl⟩:∃v0 v1,vs=[v0,v1]:=by
   match vs,nc with
   |[x,y],_=>exact⟨x,y,rfl⟩
  have ad:v1= .string ⟨⟨J⟩⟩:=pk (aR.eB 1);subst ad;rcases ah4 aR (u:=0) am2 rfl with⟨rfl,a,c,aJ⟩|⟨b,o,cap,aJ,ab,au,ao⟩
  .have aJ:v0= .slice a 0 c:=aJ;subst aJ;exact(Any.strings_Join_none Tryz.RF Tryz.Zg a c ⟨⟨J⟩⟩ w).mono λe aO ⟨he,hw⟩=>⟨he,hw▸RowKit.Below.refl _ _⟩
  .have aJ:v0= .slice (some ⟨b,o,none⟩) a0.length cap:=aJ;subst aJ;have aP:(a0.map λx=>(⟨⟨x⟩⟩:ByteArray)).map (·.data.toList)=a0:=by rw[List.map_map];exact List.map_id _
   have:=Any.strings_Join Tryz.RF Tryz.Zg b o cap (a0.map λx=>⟨⟨x⟩⟩) ⟨⟨J⟩⟩ w (λj x bQ=>by
    rw[getElem?_map]at bQ;obtain⟨y,hy,rfl⟩:=map_eq_some_iff.1 bQ;exact ao j y hy) ab (by rw[length_map];exact hl.1) (by rw[length_map];exact au) (by rw[aP];exact hl.2)
   rw[aP,length_map]at this;exact this
 .cases h
section
open Go.RowKit
set_option maxHeartbeats 4000000
theorem am8 (n:Int) (a_: -9223372036854775808<=n) (ad:n<=9223372036854775807) (w:World) (Ls:Lib.TabIs Tryz.prog w "internal/strconv.uint64pow10" .u64 Lib.pow10Tab):
  Calls Tryz.prog 135 #[.int .i64 n] w λe aO=>e= .returned (.string ⟨(Lib.itoa n).toArray⟩)/\∃k os,aO=Sort.grow (w.drewN k) os:=by
 go_enter Tryz.func135,Tryz.ntmps135
 go_wp2_with (go_at_call 177;refine(Any.strconv_FormatInt_10 Tryz.RH n a_ ad _ Ls).mono ?_;rintro e aO ⟨rfl,k,os,rfl⟩)
 go_ret
 exact⟨rfl,k,os,rfl⟩
theorem am9 {P:Program} {w aO:World} {name:String} {k:IntKind} {fB:azs} (h:Lib.TabIs P w name k fB) (ab:Below w.heap.size w aO):Lib.TabIs P aO name k fB:=by
 unfold Lib.TabIs World.var? at*;cases hg:P.globalNamed name with
 |none=>simp[hg]at h
 |some g=>
  simp only[hg,bind_some]at h⊢;have eQ:g<w.heap.size:=by
   rcases Nat.lt_or_ge g w.heap.size with bI|bI
   .exact bI
   .rw[Array.getElem?_eq_none bI]at h;simp at h
  rw[ab.block g eQ];exact h
theorem Zj {w aO:World} (h:Below w.heap.size w aO) (k:Nat) (os:Array Obj):Below w.heap.size w (Sort.grow (aO.drewN k) os) where
 os:=h.os
 tape:=h.tape
 output:=h.output
 size:=Nat.le_trans h.size (by simp[Sort.grow,World.drewN])
 block:=λb ab=>by
  have:=h.block b ab;rw[<-this];show(aO.heap++os)[b]? =_;rw[Array.getElem?_append_left (Nat.lt_of_lt_of_le ab h.size)]
theorem am_ (s:azq) (hl:¬(Lib.trimPrefix s [45]).length<=18) (w:World):
  Calls Tryz.prog 172 #[.string ⟨⟨s⟩⟩] w λe aO=>e= .returned (.tuple #[.int .i64 0,.bool false])/\Below w.heap.size w aO:=by
 go_enter Tryz.func172,Tryz.ntmps172
 go_wp2_with (go_at_call 202;refine(Any.strings_TrimPrefix Tryz.RG ⟨⟨s⟩⟩ ⟨#[45]⟩ _).mono ?_;rintro e aO ⟨rfl,rfl⟩)
 go_ret2
 exact⟨rfl,Below.refl _ _⟩
theorem ana (s:azq) (hl:(Lib.trimPrefix s [45]).length<=18) (aa:s.length<=1000) (ay:Lib.parseIntB 64 s=Lib.parseIntB 64 []) (bA:Value) (w:World) (aJ:w.cell? ⟨2,0,none⟩=some bA) (anb:bA= .nilIface\/∃MQ MR,bA= .iface MQ MR):
  Calls Tryz.prog 172 #[.string ⟨⟨s⟩⟩] w λe aO=>e= .returned (.tuple #[.int .i64 0,.bool false])/\Below w.heap.size w aO:=by
 go_enter Tryz.func172,Tryz.ntmps172
 go_wp2_with (first|(go_at_call 202;refine(Any.strings_TrimPrefix Tryz.RG ⟨⟨s⟩⟩ ⟨#[45]⟩ _).mono ?_;rintro e aO ⟨rfl,rfl⟩)|(go_at_call 203;refine(Any.strconv_ParseInt_10_at64_syntax Tryz.Zh ⟨⟨s⟩⟩ (Nat.le_trans aa (by decide)) ay bA _ aJ anb).mono ?_))
 rintro e Fy ⟨N,rfl,-,-,ab⟩
 go_wp2
 go_ret2
 exact⟨rfl,ab⟩
theorem anc (s:azq) (hl:(Lib.trimPrefix s [45]).length<=18) (aa:s.length<=1000) (v:Int) (ay:Lib.parseIntB 64 s= .ok v) (a_: -9223372036854775808<=v) (ad:v<=9223372036854775807) (w:World) (Ls:Lib.TabIs Tryz.prog w "internal/strconv.uint64pow10" .u64 Lib.pow10Tab):
  Calls Tryz.prog 172 #[.string ⟨⟨s⟩⟩] w λe aO=>e= .returned (.tuple #[.int .i64 (vk s).1,.bool (vk s).2])/\Below w.heap.size w aO:=by
 go_enter Tryz.func172,Tryz.ntmps172
 go_wp2_with (first|(go_at_call 202;refine(Any.strings_TrimPrefix Tryz.RG ⟨⟨s⟩⟩ ⟨#[45]⟩ _).mono ?_;rintro e aO ⟨rfl,rfl⟩)|(go_at_call 203;refine(Any.strconv_ParseInt_10_at64_ok Tryz.Zh ⟨⟨s⟩⟩ (Nat.le_trans aa (by decide)) v ay _).mono ?_))
 rintro e Fy ⟨rfl,ab⟩;have ane:Lib.TabIs Tryz.prog Fy "internal/strconv.uint64pow10" .u64 Lib.pow10Tab:=by
  rcases ab with rfl|⟨t,rfl⟩
  .exact Ls
  .exact am9 Ls (Lib.bytesWorld_below _ _ _)
 have Jk:Below aO.heap.size aO Fy:=by
  rcases ab with rfl|⟨t,rfl⟩
  .exact Below.refl _ _
  .exact Lib.bytesWorld_below _ _ _
 clear ab
 go_wp2_with (go_at_call 135;refine(am8 v a_ ad _ ane).mono ?_;rintro e aO ⟨rfl,k,os,rfl⟩)
 all_goals go_ret2
 all_goals (rename_i h)
 .have e:vk s=(0,false):=by
   unfold vk;rw[ay];simp only;rw[if_neg (by intro e;simp[e]at h)]
  rw[e];exact⟨rfl,Zj Jk _ _⟩
 .have e:vk s=(v,true):=by
   unfold vk;rw[ay];simp only;rw[if_pos (by simpa using h)]
  rw[e];exact⟨rfl,Zj Jk _ _⟩
theorem anf (s:azq):(Lib.trimPrefix s [45]).length=(if s.head? =some 45 then s.tail else s).length:=by
 unfold Lib.trimPrefix Lib.hasPrefix;cases s with
 |nil=>rfl
 |cons c r=>
  by_cases h:c=45
  .subst h;rw[if_pos (show(45::r).head? =some 45 from rfl),if_pos (by simp[isPrefixOf])];rfl
  .rw[if_neg (show¬(c::r).head? =some 45 from λe=>h (some.inj e)),if_neg (by simp[isPrefixOf];exact λe=>h e.symm)]
theorem ang (s:azq) (w:World) (hg:ua w λ_=>False):
  Calls Tryz.prog 172 #[.string ⟨⟨s⟩⟩] w λe aO=>e= .returned (.tuple #[.int .i64 (jv s).1,.bool (jv s).2])/\Below w.heap.size w aO:=by
 have a8:=anf s;by_cases hl:(Lib.trimPrefix s [45]).length<=18
 .have aa:s.length<=1000:=by
   rw[a8]at hl;split at hl
   .rw[length_tail]at hl;omega
   .omega
  obtain⟨ad,af⟩:=anh s (by rw[<-a8];exact hl);rw[<-af];rcases ay:Lib.parseIntB 64 s with v|_|_
  rotate_left
  .have e:vk s=(0,false):=by unfold vk;rw[ay]
   obtain⟨_,_,o,g1,bA,cs,ty,fr,g2,g3,g4⟩:=hg (2,MP) (by simp[Iq]);rw[e];refine ana s hl aa ay bA w ?_ g4;simp only[World.cell?,g1,g2];simpa using g3
  .exact(ad ay).elim
  .have ab:=Lib.parseIntB_bounds ay;obtain⟨_,_,o,g1,ty,fr,g2⟩:=hg (1,Ip) (by simp[Iq]);refine anc s hl aa v ay (by have:=ab.1;simp at this;omega) (by have:=ab.2;simp at this;omega) w ?_;unfold Lib.TabIs World.var?;rw[show Tryz.prog.globalNamed "internal/strconv.uint64pow10" =some 1 by kernel_rfl];simp only[bind_some,g1,g2,Lib.pow10Tab,List.map_map];rfl
 .have e:jv s=(0,false):=by
   rw[a8]at hl;unfold jv;split<;>rename_i h
   .rw[if_pos h]at hl;unfold o3;rw[if_neg (λbI=>hl bI.2.1)]
   .rw[if_neg h]at hl;unfold o3;rw[if_neg (λbI=>hl bI.2.1)]
  rw[e];exact am_ s hl w
theorem ani (a0:azq) (r:Int×Bool) (h:KL a0=some r):aZ ah 172 [.str a0] (.tuple [.int .i64 r.1,.bool r.2]) []:=by
 obtain rfl:jv a0=r:=some.inj h;refine aZ.below (v:=.tuple #[.int .i64 (jv a0).1,.bool (jv a0).2]) rfl (enters_of Tryz.func172 (by kernel_rfl) rfl) rfl
  ⟨_,rfl,rfl,λk d x aq ao=>?_⟩ (λw F=>?_) λw F X S vs nc aR=>?_
 .rcases k with _|_|k
  .simp at aq ao;subst aq ao;exact⟨rfl,λvs=>by simp,rfl⟩
  .simp at aq ao;subst aq ao;exact⟨rfl,λvs=>by simp,rfl⟩
  .simp at aq
 .simp only[dd,jO];rw[aB,bz];refine⟨[.int .i64 (jv a0).1],[.bool (jv a0).2],λ_=>False,λ_=>False,rfl,by rw[aB],?_,λ_ h=>h,λ_ h=>h,λ_ h=>h.elim⟩;rw[bz];exact⟨[.bool (jv a0).2],[],λ_=>False,λ_=>False,rfl,by rw[aB],by rw[bz],λ_ h=>h,λ_ h=>h,λ_ h=>h.elim⟩
 .obtain⟨v0,rfl⟩:∃v0,vs=[v0]:=by
   match vs,nc with
   |[x],_=>exact⟨x,rfl⟩
  have g0:v0= .string ⟨⟨a0⟩⟩:=pk (aR.eB 0);subst g0;exact ang a0 w (aR.gz.next (Nat.le_refl _) (λ_ _ _=>rfl) λ_ h=>h.elim)
end
end Go.Proofs.YtmaepbgkcmjcjajGreatDoor
