/- Part of a proof that a law returns true for every input. No condition. -/
import Derived.Ground.NamesProg
import Derived.Shelf.Lays
import Derived.Shelf.Strings.BuilderX
import Derived.Shelf.LaysC
import Derived.Shelf.LaysM
import Derived.Shelf.Strings.Prefix
import Derived.Shelf.Strconv.ParseIntPublic10
import Derived.Shelf.Strconv.Itoa4
import Derived.WalkKit
import Derived.BigCall
import Derived.Test.YtipllbfpaepajaaGreatDoorUHD
import Derived.Shelf.Strings.OnBuilder
import Derived.Test.YtipllbfpaepajaaGreatDoorFwM
import Derived.Test.YtipllbfpaepajaaGreatDoorC3
namespace Go.Proofs.YtipllbfpaepajaaGreatDoor
open Go Go.b9 Go.e3 Go.Shelf
set_option maxRecDepth 100000
def Tryz.U3:Go.Shelf.Ren:=⟨fun|173=>185|246=>226|283=>260|284=>261|285=>262|286=>263|129=>282|317=>281|318=>283|319=>284|320=>285|337=>293|338=>294|n=>n,fun|2=>2|3=>3|9=>9|4=>4|171=>306|0=>0|53=>307|37=>143|5=>5|173=>310|212=>325|51=>326|20=>20|213=>327|46=>274|232=>345|233=>346|n=>n,fun|17=>1|18=>6|19=>7|n=>n⟩
theorem Tryz.ES:Go.Proofs.Lays.n173 Tryz.prog Tryz.U3:={
 mixed:=by kernel_rfl
 f129:=Tryz.func282.trans (congrArg some (by kernel_rfl))
 f173:=Tryz.func185.trans (congrArg some (by kernel_rfl))
 f246:=Tryz.func226.trans (congrArg some (by kernel_rfl))
 f283:=Tryz.func260.trans (congrArg some (by kernel_rfl))
 f284:=Tryz.func261.trans (congrArg some (by kernel_rfl))
 f285:=Tryz.func262.trans (congrArg some (by kernel_rfl))
 f286:=Tryz.func263.trans (congrArg some (by kernel_rfl))
 f317:=Tryz.func281.trans (congrArg some (by kernel_rfl))
 f318:=Tryz.func283.trans (congrArg some (by kernel_rfl))
 f319:=Tryz.func284.trans (congrArg some (by kernel_rfl))
 f320:=Tryz.func285.trans (congrArg some (by kernel_rfl))
 f337:=Tryz.func293.trans (congrArg some (by kernel_rfl))
 f338:=Tryz.func294.trans (congrArg some (by kernel_rfl))
 t0:=Tryz.underlying0
 a0:=Tryz.isAgg0
 z0:=Tryz.sizeOf0
 v0:=Tryz.zeroValue0
 t2:=Tryz.underlying2
 a2:=Tryz.isAgg2
 z2:=Tryz.sizeOf2
 v2:=Tryz.zeroValue2
 t3:=Tryz.underlying3
 a3:=Tryz.isAgg3
 z3:=Tryz.sizeOf3
 v3:=Tryz.zeroValue3
 t4:=Tryz.underlying4
 a4:=Tryz.isAgg4
 z4:=Tryz.sizeOf4
 v4:=Tryz.zeroValue4
 t5:=Tryz.underlying5
 a5:=Tryz.isAgg5
 z5:=Tryz.sizeOf5
 v5:=Tryz.zeroValue5
 t9:=Tryz.underlying9
 a9:=Tryz.isAgg9
 z9:=Tryz.sizeOf9
 v9:=Tryz.zeroValue9
 t20:=Tryz.underlying20
 a20:=Tryz.isAgg20
 z20:=Tryz.sizeOf20
 v20:=Tryz.zeroValue20
 t37:=Tryz.underlying143
 a37:=Tryz.isAgg143
 z37:=Tryz.sizeOf143
 v37:=Tryz.zeroValue143
 t46:=Tryz.underlying274
 a46:=Tryz.isAgg274
 z46:=Tryz.sizeOf274
 v46:=Tryz.zeroValue274
 t51:=Tryz.underlying326
 a51:=Tryz.isAgg326
 z51:=Tryz.sizeOf326
 v51:=Tryz.zeroValue326
 t53:=Tryz.underlying307
 a53:=Tryz.isAgg307
 z53:=Tryz.sizeOf307
 v53:=Tryz.zeroValue307
 t171:=Tryz.underlying306
 a171:=Tryz.isAgg306
 z171:=Tryz.sizeOf306
 v171:=Tryz.zeroValue306
 t173:=Tryz.underlying310
 a173:=Tryz.isAgg310
 z173:=Tryz.sizeOf310
 v173:=Tryz.zeroValue310
 t212:=Tryz.underlying325
 a212:=Tryz.isAgg325
 z212:=Tryz.sizeOf325
 v212:=Tryz.zeroValue325
 t213:=Tryz.underlying327
 a213:=Tryz.isAgg327
 z213:=Tryz.sizeOf327
 t232:=Tryz.underlying345
 a232:=Tryz.isAgg345
 z232:=Tryz.sizeOf345
 v232:=Tryz.zeroValue345
 t233:=Tryz.underlying346
 a233:=Tryz.isAgg346
 z233:=Tryz.sizeOf346
 v233:=Tryz.zeroValue346
 g17:=by kernel_rfl
 g18:=by kernel_rfl
 g19:=by kernel_rfl}
def Tryz.ET:Go.Shelf.Ren:=⟨fun|156=>117|165=>173|166=>174|169=>175|240=>217|241=>218|276=>250|277=>251|n=>n,fun|31=>22|9=>9|3=>3|4=>4|0=>0|20=>20|72=>233|76=>237|70=>231|37=>143|75=>236|127=>271|164=>300|5=>5|80=>239|n=>n,fun|n=>n⟩
theorem Tryz.zp:Go.Proofs.Lays.n156 Tryz.prog Tryz.ET:={
 mixed:=by kernel_rfl
 f156:=Tryz.func117.trans (congrArg some (by kernel_rfl))
 f165:=Tryz.func173.trans (congrArg some (by kernel_rfl))
 f166:=Tryz.func174.trans (congrArg some (by kernel_rfl))
 f169:=Tryz.func175.trans (congrArg some (by kernel_rfl))
 f240:=Tryz.func217.trans (congrArg some (by kernel_rfl))
 f241:=Tryz.func218.trans (congrArg some (by kernel_rfl))
 f276:=Tryz.func250.trans (congrArg some (by kernel_rfl))
 f277:=Tryz.func251.trans (congrArg some (by kernel_rfl))
 t0:=Tryz.underlying0
 a0:=Tryz.isAgg0
 z0:=Tryz.sizeOf0
 v0:=Tryz.zeroValue0
 t3:=Tryz.underlying3
 a3:=Tryz.isAgg3
 z3:=Tryz.sizeOf3
 v3:=Tryz.zeroValue3
 t4:=Tryz.underlying4
 a4:=Tryz.isAgg4
 z4:=Tryz.sizeOf4
 v4:=Tryz.zeroValue4
 t9:=Tryz.underlying9
 a9:=Tryz.isAgg9
 z9:=Tryz.sizeOf9
 v9:=Tryz.zeroValue9
 t20:=Tryz.underlying20
 a20:=Tryz.isAgg20
 z20:=Tryz.sizeOf20
 v20:=Tryz.zeroValue20
 t31:=Tryz.underlying22
 a31:=Tryz.isAgg22
 z31:=Tryz.sizeOf22
 v31:=Tryz.zeroValue22
 t37:=Tryz.underlying143
 a37:=Tryz.isAgg143
 z37:=Tryz.sizeOf143
 v37:=Tryz.zeroValue143
 t70:=Tryz.underlying231
 a70:=Tryz.isAgg231
 z70:=Tryz.sizeOf231
 v70:=Tryz.zeroValue231
 t72:=Tryz.underlying233
 a72:=Tryz.isAgg233
 z72:=Tryz.sizeOf233
 v72:=Tryz.zeroValue233
 t75:=Tryz.underlying236
 a75:=Tryz.isAgg236
 z75:=Tryz.sizeOf236
 v75:=Tryz.zeroValue236
 t76:=Tryz.underlying237
 a76:=Tryz.isAgg237
 z76:=Tryz.sizeOf237
 v76:=Tryz.zeroValue237
 t127:=Tryz.underlying271
 a127:=Tryz.isAgg271
 z127:=Tryz.sizeOf271
 v127:=Tryz.zeroValue271
 t164:=Tryz.underlying300
 a164:=Tryz.isAgg300
 z164:=Tryz.sizeOf300
 v164:=Tryz.zeroValue300}
theorem Tryz.EU:Builder.Extra Tryz.prog Tryz.ET:={
 sizeBuilder:=by kernel_rfl
 liesBuilder:=by kernel_rfl
 t5:=Tryz.underlying5
 a5:=Tryz.isAgg5
 z5:=Tryz.sizeOf5
 v5:=Tryz.zeroValue5
 infoByte:=by kernel_rfl
 cellsByte:=by kernel_rfl
 sizeByte:=by kernel_rfl
 neB5:=by decide}
def Tryz.U4:Go.Shelf.Ren:=⟨fun|101=>224|208=>257|206=>275|n=>n,fun|9=>9|4=>4|3=>3|n=>n,fun|n=>n⟩
theorem Tryz.zq:Go.Proofs.Lays.n101 Tryz.prog Tryz.U4:={
 mixed:=by kernel_rfl
 f101:=Tryz.func224.trans (congrArg some (by kernel_rfl))
 f206:=Tryz.func275.trans (congrArg some (by kernel_rfl))
 f208:=Tryz.func257.trans (congrArg some (by kernel_rfl))
 t3:=Tryz.underlying3
 a3:=Tryz.isAgg3
 z3:=Tryz.sizeOf3
 v3:=Tryz.zeroValue3
 t4:=Tryz.underlying4
 a4:=Tryz.isAgg4
 z4:=Tryz.sizeOf4
 v4:=Tryz.zeroValue4
 t9:=Tryz.underlying9
 a9:=Tryz.isAgg9
 z9:=Tryz.sizeOf9
 v9:=Tryz.zeroValue9}
def Tryz.U5:Go.Shelf.Ren:=⟨fun|174=>225|247=>258|245=>259|287=>276|279=>277|280=>278|281=>279|282=>280|321=>288|322=>289|316=>290|171=>292|205=>291|243=>296|246=>226|283=>260|284=>261|285=>262|286=>263|129=>282|317=>281|318=>283|319=>284|320=>285|337=>293|338=>294|n=>n,fun|9=>9|3=>3|2=>2|75=>236|85=>277|4=>4|167=>318|5=>5|53=>307|175=>319|46=>274|168=>321|37=>143|0=>0|210=>339|21=>21|127=>271|145=>344|143=>342|171=>306|173=>310|212=>325|51=>326|20=>20|213=>327|232=>345|233=>346|80=>239|n=>n,fun|15=>4|16=>5|17=>1|18=>6|19=>7|n=>n⟩
theorem Tryz.EV:Go.Proofs.LaysC.n174 Tryz.prog Tryz.U5:={
 mixed:=by kernel_rfl
 f129:=Tryz.func282.trans (congrArg some (by kernel_rfl))
 f171:=Tryz.func292.trans (congrArg some (by kernel_rfl))
 f174:=Tryz.func225.trans (congrArg some (by kernel_rfl))
 f205:=Tryz.func291.trans (congrArg some (by kernel_rfl))
 f243:=Tryz.func296.trans (congrArg some (by kernel_rfl))
 f245:=Tryz.func259.trans (congrArg some (by kernel_rfl))
 f246:=Tryz.func226.trans (congrArg some (by kernel_rfl))
 f247:=Tryz.func258.trans (congrArg some (by kernel_rfl))
 f279:=Tryz.func277.trans (congrArg some (by kernel_rfl))
 f280:=Tryz.func278.trans (congrArg some (by kernel_rfl))
 f281:=Tryz.func279.trans (congrArg some (by kernel_rfl))
 f282:=Tryz.func280.trans (congrArg some (by kernel_rfl))
 f283:=Tryz.func260.trans (congrArg some (by kernel_rfl))
 f284:=Tryz.func261.trans (congrArg some (by kernel_rfl))
 f285:=Tryz.func262.trans (congrArg some (by kernel_rfl))
 f286:=Tryz.func263.trans (congrArg some (by kernel_rfl))
 f287:=Tryz.func276.trans (congrArg some (by kernel_rfl))
 f316:=Tryz.func290.trans (congrArg some (by kernel_rfl))
 f317:=Tryz.func281.trans (congrArg some (by kernel_rfl))
 f318:=Tryz.func283.trans (congrArg some (by kernel_rfl))
 f319:=Tryz.func284.trans (congrArg some (by kernel_rfl))
 f320:=Tryz.func285.trans (congrArg some (by kernel_rfl))
 f321:=Tryz.func288.trans (congrArg some (by kernel_rfl))
 f322:=Tryz.func289.trans (congrArg some (by kernel_rfl))
 f337:=Tryz.func293.trans (congrArg some (by kernel_rfl))
 f338:=Tryz.func294.trans (congrArg some (by kernel_rfl))
 t0:=Tryz.underlying0
 a0:=Tryz.isAgg0
 z0:=Tryz.sizeOf0
 v0:=Tryz.zeroValue0
 t2:=Tryz.underlying2
 a2:=Tryz.isAgg2
 z2:=Tryz.sizeOf2
 v2:=Tryz.zeroValue2
 t3:=Tryz.underlying3
 a3:=Tryz.isAgg3
 z3:=Tryz.sizeOf3
 v3:=Tryz.zeroValue3
 t4:=Tryz.underlying4
 a4:=Tryz.isAgg4
 z4:=Tryz.sizeOf4
 v4:=Tryz.zeroValue4
 t5:=Tryz.underlying5
 a5:=Tryz.isAgg5
 z5:=Tryz.sizeOf5
 v5:=Tryz.zeroValue5
 t9:=Tryz.underlying9
 a9:=Tryz.isAgg9
 z9:=Tryz.sizeOf9
 v9:=Tryz.zeroValue9
 t20:=Tryz.underlying20
 a20:=Tryz.isAgg20
 z20:=Tryz.sizeOf20
 v20:=Tryz.zeroValue20
 t21:=Tryz.underlying21
 a21:=Tryz.isAgg21
 z21:=Tryz.sizeOf21
 v21:=Tryz.zeroValue21
 t37:=Tryz.underlying143
 a37:=Tryz.isAgg143
 z37:=Tryz.sizeOf143
 v37:=Tryz.zeroValue143
 t46:=Tryz.underlying274
 a46:=Tryz.isAgg274
 z46:=Tryz.sizeOf274
 v46:=Tryz.zeroValue274
 t51:=Tryz.underlying326
 a51:=Tryz.isAgg326
 z51:=Tryz.sizeOf326
 v51:=Tryz.zeroValue326
 t53:=Tryz.underlying307
 a53:=Tryz.isAgg307
 z53:=Tryz.sizeOf307
 v53:=Tryz.zeroValue307
 t75:=Tryz.underlying236
 a75:=Tryz.isAgg236
 z75:=Tryz.sizeOf236
 v75:=Tryz.zeroValue236
 t85:=Tryz.underlying277
 a85:=Tryz.isAgg277
 z85:=Tryz.sizeOf277
 v85:=Tryz.zeroValue277
 t127:=Tryz.underlying271
 a127:=Tryz.isAgg271
 z127:=Tryz.sizeOf271
 v127:=Tryz.zeroValue271
 t143:=Tryz.underlying342
 a143:=Tryz.isAgg342
 z143:=Tryz.sizeOf342
 v143:=Tryz.zeroValue342
 t145:=Tryz.underlying344
 a145:=Tryz.isAgg344
 z145:=Tryz.sizeOf344
 v145:=Tryz.zeroValue344
 t167:=Tryz.underlying318
 a167:=Tryz.isAgg318
 z167:=Tryz.sizeOf318
 v167:=Tryz.zeroValue318
 t168:=Tryz.underlying321
 a168:=Tryz.isAgg321
 z168:=Tryz.sizeOf321
 v168:=Tryz.zeroValue321
 t171:=Tryz.underlying306
 a171:=Tryz.isAgg306
 z171:=Tryz.sizeOf306
 v171:=Tryz.zeroValue306
 t173:=Tryz.underlying310
 a173:=Tryz.isAgg310
 z173:=Tryz.sizeOf310
 v173:=Tryz.zeroValue310
 t175:=Tryz.underlying319
 a175:=Tryz.isAgg319
 z175:=Tryz.sizeOf319
 v175:=Tryz.zeroValue319
 t210:=Tryz.underlying339
 a210:=Tryz.isAgg339
 z210:=Tryz.sizeOf339
 v210:=Tryz.zeroValue339
 t212:=Tryz.underlying325
 a212:=Tryz.isAgg325
 z212:=Tryz.sizeOf325
 v212:=Tryz.zeroValue325
 t213:=Tryz.underlying327
 a213:=Tryz.isAgg327
 z213:=Tryz.sizeOf327
 t232:=Tryz.underlying345
 a232:=Tryz.isAgg345
 z232:=Tryz.sizeOf345
 v232:=Tryz.zeroValue345
 t233:=Tryz.underlying346
 a233:=Tryz.isAgg346
 z233:=Tryz.sizeOf346
 v233:=Tryz.zeroValue346
 g15:=by kernel_rfl
 g16:=by kernel_rfl
 g17:=by kernel_rfl
 g18:=by kernel_rfl
 g19:=by kernel_rfl
 t80:=Tryz.underlying239
 a80:=Tryz.isAgg239
 z80:=Tryz.sizeOf239
 v80:=Tryz.zeroValue239
 i0:=by kernel_rfl
 i2:=by kernel_rfl
 i3:=by kernel_rfl
 i4:=by kernel_rfl
 i5:=by kernel_rfl
 i9:=by kernel_rfl
 i20:=by kernel_rfl
 i21:=by kernel_rfl
 i37:=by kernel_rfl
 i46:=by kernel_rfl
 i51:=by kernel_rfl
 i53:=by kernel_rfl
 i75:=by kernel_rfl
 i80:=by kernel_rfl
 i85:=by kernel_rfl
 i127:=by kernel_rfl
 i143:=by kernel_rfl
 i145:=by kernel_rfl
 i167:=by kernel_rfl
 i168:=by kernel_rfl
 i171:=by kernel_rfl
 i173:=by kernel_rfl
 i175:=by kernel_rfl
 i210:=by kernel_rfl
 i212:=by kernel_rfl
 i232:=by kernel_rfl
 i233:=by kernel_rfl
 m15:=by kernel_rfl
 m16:=by kernel_rfl
 m17:=by kernel_rfl
 m18:=by kernel_rfl
 m19:=by kernel_rfl
 c0:=by kernel_rfl
 c2:=by kernel_rfl
 c3:=by kernel_rfl
 c4:=by kernel_rfl
 c5:=by kernel_rfl
 c9:=by kernel_rfl
 c20:=by kernel_rfl
 c21:=by kernel_rfl
 c37:=by kernel_rfl
 c46:=by kernel_rfl
 c51:=by kernel_rfl
 c53:=by kernel_rfl
 c75:=by kernel_rfl
 c80:=by kernel_rfl
 c85:=by kernel_rfl
 c127:=by kernel_rfl
 c143:=by kernel_rfl
 c145:=by kernel_rfl
 c167:=by kernel_rfl
 c168:=by kernel_rfl
 c171:=by kernel_rfl
 c173:=by kernel_rfl
 c175:=by kernel_rfl
 c210:=by kernel_rfl
 c212:=by kernel_rfl
 c213:=by kernel_rfl
 c232:=by kernel_rfl
 c233:=by kernel_rfl}
def Tryz.U6:Go.Shelf.Ren:=⟨fun|173=>185|246=>226|283=>260|284=>261|285=>262|286=>263|129=>282|317=>281|318=>283|319=>284|320=>285|337=>293|338=>294|n=>n,fun|2=>2|3=>3|9=>9|4=>4|171=>306|0=>0|53=>307|37=>143|5=>5|173=>310|212=>325|51=>326|20=>20|213=>327|46=>274|232=>345|233=>346|n=>n,fun|17=>1|18=>6|19=>7|n=>n⟩
theorem Tryz.U7:Go.Proofs.LaysM.n173 Tryz.prog Tryz.U6:={
 mixed:=by kernel_rfl
 f129:=Tryz.func282.trans (congrArg some (by kernel_rfl))
 f173:=Tryz.func185.trans (congrArg some (by kernel_rfl))
 f246:=Tryz.func226.trans (congrArg some (by kernel_rfl))
 f283:=Tryz.func260.trans (congrArg some (by kernel_rfl))
 f284:=Tryz.func261.trans (congrArg some (by kernel_rfl))
 f285:=Tryz.func262.trans (congrArg some (by kernel_rfl))
 f286:=Tryz.func263.trans (congrArg some (by kernel_rfl))
 f317:=Tryz.func281.trans (congrArg some (by kernel_rfl))
 f318:=Tryz.func283.trans (congrArg some (by kernel_rfl))
 f319:=Tryz.func284.trans (congrArg some (by kernel_rfl))
 f320:=Tryz.func285.trans (congrArg some (by kernel_rfl))
 f337:=Tryz.func293.trans (congrArg some (by kernel_rfl))
 f338:=Tryz.func294.trans (congrArg some (by kernel_rfl))
 t0:=Tryz.underlying0
 a0:=Tryz.isAgg0
 z0:=Tryz.sizeOf0
 v0:=Tryz.zeroValue0
 t2:=Tryz.underlying2
 a2:=Tryz.isAgg2
 z2:=Tryz.sizeOf2
 v2:=Tryz.zeroValue2
 t3:=Tryz.underlying3
 a3:=Tryz.isAgg3
 z3:=Tryz.sizeOf3
 v3:=Tryz.zeroValue3
 t4:=Tryz.underlying4
 a4:=Tryz.isAgg4
 z4:=Tryz.sizeOf4
 v4:=Tryz.zeroValue4
 t5:=Tryz.underlying5
 a5:=Tryz.isAgg5
 z5:=Tryz.sizeOf5
 v5:=Tryz.zeroValue5
 t9:=Tryz.underlying9
 a9:=Tryz.isAgg9
 z9:=Tryz.sizeOf9
 v9:=Tryz.zeroValue9
 t20:=Tryz.underlying20
 a20:=Tryz.isAgg20
 z20:=Tryz.sizeOf20
 v20:=Tryz.zeroValue20
 t37:=Tryz.underlying143
 a37:=Tryz.isAgg143
 z37:=Tryz.sizeOf143
 v37:=Tryz.zeroValue143
 t46:=Tryz.underlying274
 a46:=Tryz.isAgg274
 z46:=Tryz.sizeOf274
 v46:=Tryz.zeroValue274
 t51:=Tryz.underlying326
 a51:=Tryz.isAgg326
 z51:=Tryz.sizeOf326
 v51:=Tryz.zeroValue326
 t53:=Tryz.underlying307
 a53:=Tryz.isAgg307
 z53:=Tryz.sizeOf307
 v53:=Tryz.zeroValue307
 t171:=Tryz.underlying306
 a171:=Tryz.isAgg306
 z171:=Tryz.sizeOf306
 v171:=Tryz.zeroValue306
 t173:=Tryz.underlying310
 a173:=Tryz.isAgg310
 z173:=Tryz.sizeOf310
 v173:=Tryz.zeroValue310
 t212:=Tryz.underlying325
 a212:=Tryz.isAgg325
 z212:=Tryz.sizeOf325
 v212:=Tryz.zeroValue325
 t213:=Tryz.underlying327
 a213:=Tryz.isAgg327
 z213:=Tryz.sizeOf327
 t232:=Tryz.underlying345
 a232:=Tryz.isAgg345
 z232:=Tryz.sizeOf345
 v232:=Tryz.zeroValue345
 t233:=Tryz.underlying346
 a233:=Tryz.isAgg346
 z233:=Tryz.sizeOf346
 v233:=Tryz.zeroValue346
 g17:=by kernel_rfl
 g18:=by kernel_rfl
 g19:=by kernel_rfl
 i0:=by kernel_rfl
 i2:=by kernel_rfl
 i3:=by kernel_rfl
 i4:=by kernel_rfl
 i5:=by kernel_rfl
 i9:=by kernel_rfl
 i20:=by kernel_rfl
 i37:=by kernel_rfl
 i46:=by kernel_rfl
 i51:=by kernel_rfl
 i53:=by kernel_rfl
 i171:=by kernel_rfl
 i173:=by kernel_rfl
 i212:=by kernel_rfl
 i232:=by kernel_rfl
 i233:=by kernel_rfl
 m17:=by kernel_rfl
 m18:=by kernel_rfl
 m19:=by kernel_rfl}
theorem U8:One bg (fun x=>.string ⟨⟨x⟩⟩):=⟨fun _=>rfl,fun w F x cs S=>by unfold bg;rw[al]⟩
theorem U9 (n:Nat) (h:n<100):Lib.decDigits n=lp n:=by
 unfold Lib.decDigits lp
 by_cases aa:n<10
 ·rw[dif_pos aa,if_pos aa]
 ·rw[dif_neg aa,if_neg aa]
  unfold Lib.decDigits
  rw[dif_pos (by omega)];rfl
theorem U_ (a0 ah:Int) (r:List UInt8) (h:tB a0 ah=some r):br aS 185 [.int .i64 a0,.int .i64 ah] (.str r) []:=by
 unfold tB at h
 split at h
 ·rename_i aJ
  obtain⟨bz,aa,rfl⟩:=aJ
  cases h
  refine br.strs rfl (enters_of Tryz.ES.f173 (by kernel_rfl) rfl) fun w F X S vs kp aC=> ?_
  obtain⟨v0,v1,rfl⟩:∃v0 v1,vs=[v0,v1]:=by
   match vs,kp with
   |[x,y],_=>exact⟨x,y,rfl⟩
  have g0:v0= .int .i64 a0:=jV (aC.cd 0)
  have g1:v1= .int .i64 10:=jV (aC.cd 1)
  subst g0 g1
  have:=Any.strconv_FormatInt_10_small Tryz.ES a0.toNat (by omega) w
  rw[U9 _ (by omega),show((a0.toNat:Nat):Int)=a0 from Int.toNat_of_nonneg bz]at this
  exact this.mono fun e aw ⟨he,hw⟩=>⟨he,hw▸RowKit.Below.refl _ _⟩
 ·cases h
theorem Va (a0:List (List UInt8)) (ah r:List UInt8) (h:strings_Join a0 ah=some r):br aS 117 [.slice (a0.map bg),.str ah] (.str r) []:=by
 unfold strings_Join at h
 split at h
 ·rename_i aJ
  cases h
  refine br.strs rfl (enters_of Tryz.zp.f156 (by kernel_rfl) rfl) fun w F X S vs kp aC=> ?_
  obtain⟨v0,v1,rfl⟩:∃v0 v1,vs=[v0,v1]:=by
   match vs,kp with
   |[x,y],_=>exact⟨x,y,rfl⟩
  have aa:v1= .string ⟨⟨ah⟩⟩:=jo (aC.cd 1)
  subst aa
  rcases Lx aC (u:=0) U8 rfl with⟨rfl,a,c,aE⟩|⟨b,o,cap,aE,R,ai,ao⟩
  ·have aE:v0= .slice a 0 c:=aE
   subst aE
   exact(Any.strings_Join_none Tryz.zp Tryz.EU a c ⟨⟨ah⟩⟩ w).mono fun e aw ⟨he,hw⟩=>⟨he,hw▸RowKit.Below.refl _ _⟩
  ·have aE:v0= .slice (some ⟨b,o,none⟩) a0.length cap:=aE
   subst aE
   have aF:(a0.map fun x=>(⟨⟨x⟩⟩:ByteArray)).map (·.data.toList)=a0:=by rw[List.map_map];exact List.map_id _
   have:=Any.strings_Join Tryz.zp Tryz.EU b o cap (a0.map fun x=>⟨⟨x⟩⟩) ⟨⟨ah⟩⟩ w (fun j x bY=>by
    rw[List.getElem?_map]at bY
    obtain⟨y,hy,rfl⟩:=Option.map_eq_some_iff.1 bY
    exact ao j y hy) R (by rw[List.length_map];exact aJ.1) (by rw[List.length_map];exact ai) (by rw[aF];exact aJ.2)
   rw[aF,List.length_map]at this
   exact this
 ·cases h
section
open Go.RowKit
set_option maxHeartbeats 4000000
theorem Vb (n:Int) (bz: -9223372036854775808≤n) (aa:n≤9223372036854775807) (w:World) (wj:Lib.TabIs Tryz.prog w "internal/strconv.uint64pow10" .u64 Lib.pow10Tab):
  Calls Tryz.prog 141 #[.int .i64 n] w fun e aw=>e= .returned (.string ⟨(Lib.itoa n).toArray⟩)∧∃k os,aw=Sort.grow (w.drewN k) os:=by
 go_enter Tryz.func141,Tryz.ntmps141
 go_wp2_with (go_at_call 185;refine(Any.strconv_FormatInt_10 Tryz.U7 n bz aa _ wj).mono ?_;rintro e aw ⟨rfl,k,os,rfl⟩)
 go_ret
 exact⟨rfl,k,os,rfl⟩
theorem Vc {P:Program} {w aw:World} {name:String} {k:IntKind} {eB:List Int} (h:Lib.TabIs P w name k eB) (R:Below w.heap.size w aw):Lib.TabIs P aw name k eB:=by
 unfold Lib.TabIs World.var? at*
 cases hg:P.globalNamed name with
 |none=>simp[hg]at h
 |some g=>
  simp only[hg,Option.bind_some]at h⊢
  have cY:g<w.heap.size:=by
   rcases Nat.lt_or_ge g w.heap.size with aQ|aQ
   ·exact aQ
   ·rw[Array.getElem?_eq_none aQ]at h;simp at h
  rw[R.block g cY]
  exact h
theorem EW {w aw:World} (h:Below w.heap.size w aw) (k:Nat) (os:Array Obj):Below w.heap.size w (Sort.grow (aw.drewN k) os) where
 os:=h.os
 tape:=h.tape
 output:=h.output
 size:=Nat.le_trans h.size (by simp[Sort.grow,World.drewN])
 block:=fun b R=>by
  have:=h.block b R
  rw[←this]
  show(aw.heap++os)[b]? =_
  rw[Array.getElem?_append_left (Nat.lt_of_lt_of_le R h.size)]
theorem Vd (s:List UInt8) (aJ:¬(Lib.trimPrefix s [45]).length≤18) (w:World):
  Calls Tryz.prog 183 #[.string ⟨⟨s⟩⟩] w fun e aw=>e= .returned (.tuple #[.int .i64 0,.bool false])∧Below w.heap.size w aw:=by
 go_enter Tryz.func183,Tryz.ntmps183
 go_wp2_with (go_at_call 224;refine(Any.strings_TrimPrefix Tryz.zq ⟨⟨s⟩⟩ ⟨#[45]⟩ _).mono ?_;rintro e aw ⟨rfl,rfl⟩)
 go_ret2
 exact⟨rfl,Below.refl _ _⟩
theorem Ve (s:List UInt8) (aJ:(Lib.trimPrefix s [45]).length≤18) (U:s.length≤1000) (ak:Lib.parseIntB 64 s=Lib.parseIntB 64 []) (az:Value) (w:World) (aE:w.cell? ⟨4,0,none⟩=some az) (Vf:az= .nilIface∨∃w6 w7,az= .iface w6 w7):
  Calls Tryz.prog 183 #[.string ⟨⟨s⟩⟩] w fun e aw=>e= .returned (.tuple #[.int .i64 0,.bool false])∧Below w.heap.size w aw:=by
 go_enter Tryz.func183,Tryz.ntmps183
 go_wp2_with (first|(go_at_call 224;refine(Any.strings_TrimPrefix Tryz.zq ⟨⟨s⟩⟩ ⟨#[45]⟩ _).mono ?_;rintro e aw ⟨rfl,rfl⟩)|(go_at_call 225;refine(Any.strconv_ParseInt_10_at64_syntax Tryz.EV ⟨⟨s⟩⟩ (Nat.le_trans U (by decide)) ak az _ aE Vf).mono ?_))
 rintro e tb ⟨N,rfl,-,-,R⟩
 go_wp2
 go_ret2
 exact⟨rfl,R⟩
theorem Vg (s:List UInt8) (aJ:(Lib.trimPrefix s [45]).length≤18) (U:s.length≤1000) (v:Int) (ak:Lib.parseIntB 64 s= .ok v) (bz: -9223372036854775808≤v) (aa:v≤9223372036854775807) (w:World) (wj:Lib.TabIs Tryz.prog w "internal/strconv.uint64pow10" .u64 Lib.pow10Tab):
  Calls Tryz.prog 183 #[.string ⟨⟨s⟩⟩] w fun e aw=>e= .returned (.tuple #[.int .i64 (mI s).1,.bool (mI s).2])∧Below w.heap.size w aw:=by
 go_enter Tryz.func183,Tryz.ntmps183
 go_wp2_with (first|(go_at_call 224;refine(Any.strings_TrimPrefix Tryz.zq ⟨⟨s⟩⟩ ⟨#[45]⟩ _).mono ?_;rintro e aw ⟨rfl,rfl⟩)|(go_at_call 225;refine(Any.strconv_ParseInt_10_at64_ok Tryz.EV ⟨⟨s⟩⟩ (Nat.le_trans U (by decide)) v ak _).mono ?_))
 rintro e tb ⟨rfl,R⟩
 have Vh:Lib.TabIs Tryz.prog tb "internal/strconv.uint64pow10" .u64 Lib.pow10Tab:=by
  rcases R with rfl|⟨t,rfl⟩
  ·exact wj
  ·exact Vc wj (Lib.bytesWorld_below _ _ _)
 have vb:Below aw.heap.size aw tb:=by
  rcases R with rfl|⟨t,rfl⟩
  ·exact Below.refl _ _
  ·exact Lib.bytesWorld_below _ _ _
 clear R
 go_wp2_with (go_at_call 141;refine(Vb v bz aa _ Vh).mono ?_;rintro e aw ⟨rfl,k,os,rfl⟩)
 all_goals go_ret2
 all_goals (rename_i h)
 ·have e:mI s=(0,false):=by
   unfold mI
   rw[ak]
   simp only
   rw[if_neg (by intro e;simp[e]at h)]
  rw[e]
  exact⟨rfl,EW vb _ _⟩
 ·have e:mI s=(v,true):=by
   unfold mI
   rw[ak]
   simp only
   rw[if_pos (by simpa using h)]
  rw[e]
  exact⟨rfl,EW vb _ _⟩
theorem Vi (s:List UInt8):(Lib.trimPrefix s [45]).length=(if s.head? =some 45 then s.tail else s).length:=by
 unfold Lib.trimPrefix Lib.hasPrefix
 cases s with
 |nil=>rfl
 |cons c r=>
  by_cases h:c=45
  ·subst h
   rw[if_pos (show(45::r).head? =some 45 from rfl),if_pos (by simp[List.isPrefixOf])]
   rfl
  ·rw[if_neg (show¬(c::r).head? =some 45 from fun e=>h (Option.some.inj e)),if_neg (by simp[List.isPrefixOf];exact fun e=>h e.symm)]
theorem Vj (s:List UInt8) (w:World) (hg:mZ w fun _=>False):
  Calls Tryz.prog 183 #[.string ⟨⟨s⟩⟩] w fun e aw=>e= .returned (.tuple #[.int .i64 (fu s).1,.bool (fu s).2])∧Below w.heap.size w aw:=by
 have aN:=Vi s
 by_cases aJ:(Lib.trimPrefix s [45]).length≤18
 ·have U:s.length≤1000:=by
   rw[aN]at aJ
   split at aJ
   ·rw[List.length_tail]at aJ;omega
   ·omega
  obtain⟨aa,ad⟩:=Vk s (by rw[←aN];exact aJ)
  rw[←ad]
  rcases ak:Lib.parseIntB 64 s with v|_|_
  rotate_left
  ·have e:mI s=(0,false):=by unfold mI;rw[ak]
   obtain⟨_,_,o,g1,az,cs,ty,fr,g2,g3,g4⟩:=hg (4,w5) (by simp[w9])
   rw[e]
   refine Ve s aJ U ak az w ?_ g4
   simp only[World.cell?,g1,g2]
   simpa using g3
  ·exact(aa ak).elim
  ·have R:=Lib.parseIntB_bounds ak
   obtain⟨_,_,o,g1,ty,fr,g2⟩:=hg (1,w8) (by simp[w9])
   refine Vg s aJ U v ak (by have:=R.1;simp at this;omega) (by have:=R.2;simp at this;omega) w ?_
   unfold Lib.TabIs World.var?
   rw[show Tryz.prog.globalNamed "internal/strconv.uint64pow10" =some 1 by kernel_rfl]
   simp only[Option.bind_some,g1,g2,Lib.pow10Tab,List.map_map]
   rfl
 ·have e:fu s=(0,false):=by
   rw[aN]at aJ
   unfold fu
   split<;>rename_i h
   ·rw[if_pos h]at aJ
    unfold jb
    rw[if_neg (fun aQ=>aJ aQ.2.1)]
   ·rw[if_neg h]at aJ
    unfold jb
    rw[if_neg (fun aQ=>aJ aQ.2.1)]
  rw[e]
  exact Vd s aJ w
theorem Vl (a0:List UInt8) (r:Int×Bool) (h:vK a0=some r):br aS 183 [.str a0] (.tuple [.int .i64 r.1,.bool r.2]) []:=by
 obtain rfl:fu a0=r:=Option.some.inj h
 refine br.below (v:=.tuple #[.int .i64 (fu a0).1,.bool (fu a0).2]) rfl (enters_of Tryz.func183 (by kernel_rfl) rfl) rfl
  ⟨_,rfl,rfl,fun k d x ae ao=> ?_⟩ (fun w F=> ?_) fun w F X S vs kp aC=> ?_
 ·rcases k with _|_|k
  ·simp at ae ao;subst ae ao;exact⟨rfl,fun vs=>by simp,rfl⟩
  ·simp at ae ao;subst ae ao;exact⟨rfl,fun vs=>by simp,rfl⟩
  ·simp at ae
 ·simp only[bw,fl]
  rw[al,aM]
  refine⟨[.int .i64 (fu a0).1],[.bool (fu a0).2],fun _=>False,fun _=>False,rfl,by rw[al],?_,fun _ h=>h,fun _ h=>h,fun _ h=>h.elim⟩
  rw[aM]
  exact⟨[.bool (fu a0).2],[],fun _=>False,fun _=>False,rfl,by rw[al],by rw[aM],fun _ h=>h,fun _ h=>h,fun _ h=>h.elim⟩
 ·obtain⟨v0,rfl⟩:∃v0,vs=[v0]:=by
   match vs,kp with
   |[x],_=>exact⟨x,rfl⟩
  have g0:v0= .string ⟨⟨a0⟩⟩:=jo (aC.cd 0)
  subst g0
  exact Vj a0 w (aC.eN.next (Nat.le_refl _) (fun _ _ _=>rfl) fun _ h=>h.elim)
end
end Go.Proofs.YtipllbfpaepajaaGreatDoor
