/- Part of a proof that a law returns true for every input. No condition. -/
import Derived.Ground.NamesProg
import Derived.Shelf.Lays
import Derived.Shelf.Strings.BuilderX
import Derived.Shelf.LaysC
import Derived.Shelf.LaysM
import Derived.Shelf.Strings.Prefix
import Derived.Shelf.Strconv.ParseIntPublic10
import Derived.Shelf.Strconv.Itoa4
import Derived.WalkKit
import Derived.BigCall
import Derived.Test.YtmaepbgkcmjcjaiGreatDoorUV0x
import Derived.Shelf.Strings.OnBuilder
import Derived.Test.YtmaepbgkcmjcjaiGreatDoorFwM
import Derived.Test.YtmaepbgkcmjcjaiGreatDoorC3
namespace Go.Proofs.YtmaepbgkcmjcjaiGreatDoor
open List Option Go.IntKind Nat
open Go Go.eg Go.l_ Go.Shelf
set_option maxRecDepth 100000
def Tryz.amG:Go.Shelf.Ren:=⟨λ|173=>117|246=>164|283=>196|284=>197|285=>198|286=>199|129=>232|317=>231|318=>233|319=>234|320=>235|337=>260|338=>261|n=>n,λ|2=>2|3=>3|9=>9|4=>4|171=>262|0=>0|53=>263|37=>163|5=>5|173=>266|212=>295|51=>296|20=>20|213=>297|46=>162|232=>332|233=>333|n=>n,λ|17=>1|18=>6|19=>7|n=>n⟩
theorem Tryz.ayC:Go.Proofs.Lays.n173 Tryz.prog Tryz.amG:={
 mixed:=by kernel_rfl
 f129:=Tryz.func232.trans (congrArg some (by kernel_rfl))
 f173:=Tryz.func117.trans (congrArg some (by kernel_rfl))
 f246:=Tryz.func164.trans (congrArg some (by kernel_rfl))
 f283:=Tryz.func196.trans (congrArg some (by kernel_rfl))
 f284:=Tryz.func197.trans (congrArg some (by kernel_rfl))
 f285:=Tryz.func198.trans (congrArg some (by kernel_rfl))
 f286:=Tryz.func199.trans (congrArg some (by kernel_rfl))
 f317:=Tryz.func231.trans (congrArg some (by kernel_rfl))
 f318:=Tryz.func233.trans (congrArg some (by kernel_rfl))
 f319:=Tryz.func234.trans (congrArg some (by kernel_rfl))
 f320:=Tryz.func235.trans (congrArg some (by kernel_rfl))
 f337:=Tryz.func260.trans (congrArg some (by kernel_rfl))
 f338:=Tryz.func261.trans (congrArg some (by kernel_rfl))
 t0:=Tryz.underlying0
 a0:=Tryz.isAgg0
 z0:=Tryz.sizeOf0
 v0:=Tryz.zeroValue0
 t2:=Tryz.underlying2
 a2:=Tryz.isAgg2
 z2:=Tryz.sizeOf2
 v2:=Tryz.zeroValue2
 t3:=Tryz.underlying3
 a3:=Tryz.isAgg3
 z3:=Tryz.sizeOf3
 v3:=Tryz.zeroValue3
 t4:=Tryz.underlying4
 a4:=Tryz.isAgg4
 z4:=Tryz.sizeOf4
 v4:=Tryz.zeroValue4
 t5:=Tryz.underlying5
 a5:=Tryz.isAgg5
 z5:=Tryz.sizeOf5
 v5:=Tryz.zeroValue5
 t9:=Tryz.underlying9
 a9:=Tryz.isAgg9
 z9:=Tryz.sizeOf9
 v9:=Tryz.zeroValue9
 t20:=Tryz.underlying20
 a20:=Tryz.isAgg20
 z20:=Tryz.sizeOf20
 v20:=Tryz.zeroValue20
 t37:=Tryz.underlying163
 a37:=Tryz.isAgg163
 z37:=Tryz.sizeOf163
 v37:=Tryz.zeroValue163
 t46:=Tryz.underlying162
 a46:=Tryz.isAgg162
 z46:=Tryz.sizeOf162
 v46:=Tryz.zeroValue162
 t51:=Tryz.underlying296
 a51:=Tryz.isAgg296
 z51:=Tryz.sizeOf296
 v51:=Tryz.zeroValue296
 t53:=Tryz.underlying263
 a53:=Tryz.isAgg263
 z53:=Tryz.sizeOf263
 v53:=Tryz.zeroValue263
 t171:=Tryz.underlying262
 a171:=Tryz.isAgg262
 z171:=Tryz.sizeOf262
 v171:=Tryz.zeroValue262
 t173:=Tryz.underlying266
 a173:=Tryz.isAgg266
 z173:=Tryz.sizeOf266
 v173:=Tryz.zeroValue266
 t212:=Tryz.underlying295
 a212:=Tryz.isAgg295
 z212:=Tryz.sizeOf295
 v212:=Tryz.zeroValue295
 t213:=Tryz.underlying297
 a213:=Tryz.isAgg297
 z213:=Tryz.sizeOf297
 t232:=Tryz.underlying332
 a232:=Tryz.isAgg332
 z232:=Tryz.sizeOf332
 v232:=Tryz.zeroValue332
 t233:=Tryz.underlying333
 a233:=Tryz.isAgg333
 z233:=Tryz.sizeOf333
 v233:=Tryz.zeroValue333
 g17:=by kernel_rfl
 g18:=by kernel_rfl
 g19:=by kernel_rfl}
def Tryz.YO:Go.Shelf.Ren:=⟨λ|156=>161|165=>193|166=>194|169=>195|240=>229|241=>230|276=>258|277=>259|n=>n,λ|31=>25|9=>9|3=>3|4=>4|0=>0|20=>20|72=>256|76=>258|70=>254|37=>163|75=>249|127=>293|164=>317|5=>5|80=>260|n=>n,λ|n=>n⟩
theorem Tryz.Q4:Go.Proofs.Lays.n156 Tryz.prog Tryz.YO:={
 mixed:=by kernel_rfl
 f156:=Tryz.func161.trans (congrArg some (by kernel_rfl))
 f165:=Tryz.func193.trans (congrArg some (by kernel_rfl))
 f166:=Tryz.func194.trans (congrArg some (by kernel_rfl))
 f169:=Tryz.func195.trans (congrArg some (by kernel_rfl))
 f240:=Tryz.func229.trans (congrArg some (by kernel_rfl))
 f241:=Tryz.func230.trans (congrArg some (by kernel_rfl))
 f276:=Tryz.func258.trans (congrArg some (by kernel_rfl))
 f277:=Tryz.func259.trans (congrArg some (by kernel_rfl))
 t0:=Tryz.underlying0
 a0:=Tryz.isAgg0
 z0:=Tryz.sizeOf0
 v0:=Tryz.zeroValue0
 t3:=Tryz.underlying3
 a3:=Tryz.isAgg3
 z3:=Tryz.sizeOf3
 v3:=Tryz.zeroValue3
 t4:=Tryz.underlying4
 a4:=Tryz.isAgg4
 z4:=Tryz.sizeOf4
 v4:=Tryz.zeroValue4
 t9:=Tryz.underlying9
 a9:=Tryz.isAgg9
 z9:=Tryz.sizeOf9
 v9:=Tryz.zeroValue9
 t20:=Tryz.underlying20
 a20:=Tryz.isAgg20
 z20:=Tryz.sizeOf20
 v20:=Tryz.zeroValue20
 t31:=Tryz.underlying25
 a31:=Tryz.isAgg25
 z31:=Tryz.sizeOf25
 v31:=Tryz.zeroValue25
 t37:=Tryz.underlying163
 a37:=Tryz.isAgg163
 z37:=Tryz.sizeOf163
 v37:=Tryz.zeroValue163
 t70:=Tryz.underlying254
 a70:=Tryz.isAgg254
 z70:=Tryz.sizeOf254
 v70:=Tryz.zeroValue254
 t72:=Tryz.underlying256
 a72:=Tryz.isAgg256
 z72:=Tryz.sizeOf256
 v72:=Tryz.zeroValue256
 t75:=Tryz.underlying249
 a75:=Tryz.isAgg249
 z75:=Tryz.sizeOf249
 v75:=Tryz.zeroValue249
 t76:=Tryz.underlying258
 a76:=Tryz.isAgg258
 z76:=Tryz.sizeOf258
 v76:=Tryz.zeroValue258
 t127:=Tryz.underlying293
 a127:=Tryz.isAgg293
 z127:=Tryz.sizeOf293
 v127:=Tryz.zeroValue293
 t164:=Tryz.underlying317
 a164:=Tryz.isAgg317
 z164:=Tryz.sizeOf317
 v164:=Tryz.zeroValue317}
theorem Tryz.YP:Builder.Extra Tryz.prog Tryz.YO:={
 sizeBuilder:=by kernel_rfl
 liesBuilder:=by kernel_rfl
 t5:=Tryz.underlying5
 a5:=Tryz.isAgg5
 z5:=Tryz.sizeOf5
 v5:=Tryz.zeroValue5
 infoByte:=by kernel_rfl
 cellsByte:=by kernel_rfl
 sizeByte:=by kernel_rfl
 neB5:=by decide}
def Tryz.amH:Go.Shelf.Ren:=⟨λ|101=>186|208=>222|206=>250|n=>n,λ|9=>9|4=>4|3=>3|n=>n,λ|n=>n⟩
theorem Tryz.Q5:Go.Proofs.Lays.n101 Tryz.prog Tryz.amH:={
 mixed:=by kernel_rfl
 f101:=Tryz.func186.trans (congrArg some (by kernel_rfl))
 f206:=Tryz.func250.trans (congrArg some (by kernel_rfl))
 f208:=Tryz.func222.trans (congrArg some (by kernel_rfl))
 t3:=Tryz.underlying3
 a3:=Tryz.isAgg3
 z3:=Tryz.sizeOf3
 v3:=Tryz.zeroValue3
 t4:=Tryz.underlying4
 a4:=Tryz.isAgg4
 z4:=Tryz.sizeOf4
 v4:=Tryz.zeroValue4
 t9:=Tryz.underlying9
 a9:=Tryz.isAgg9
 z9:=Tryz.sizeOf9
 v9:=Tryz.zeroValue9}
def Tryz.amI:Go.Shelf.Ren:=⟨λ|174=>187|247=>223|245=>224|287=>251|279=>252|280=>253|281=>254|282=>255|321=>267|322=>268|316=>269|171=>271|205=>270|243=>273|246=>164|283=>196|284=>197|285=>198|286=>199|129=>232|317=>231|318=>233|319=>234|320=>235|337=>260|338=>261|n=>n,λ|9=>9|3=>3|2=>2|75=>249|85=>250|4=>4|167=>311|5=>5|53=>263|175=>312|46=>162|168=>314|37=>163|0=>0|210=>326|21=>21|127=>293|145=>336|143=>334|171=>262|173=>266|212=>295|51=>296|20=>20|213=>297|232=>332|233=>333|80=>260|n=>n,λ|15=>2|16=>3|17=>1|18=>6|19=>7|n=>n⟩
theorem Tryz.YQ:Go.Proofs.LaysC.n174 Tryz.prog Tryz.amI:={
 mixed:=by kernel_rfl
 f129:=Tryz.func232.trans (congrArg some (by kernel_rfl))
 f171:=Tryz.func271.trans (congrArg some (by kernel_rfl))
 f174:=Tryz.func187.trans (congrArg some (by kernel_rfl))
 f205:=Tryz.func270.trans (congrArg some (by kernel_rfl))
 f243:=Tryz.func273.trans (congrArg some (by kernel_rfl))
 f245:=Tryz.func224.trans (congrArg some (by kernel_rfl))
 f246:=Tryz.func164.trans (congrArg some (by kernel_rfl))
 f247:=Tryz.func223.trans (congrArg some (by kernel_rfl))
 f279:=Tryz.func252.trans (congrArg some (by kernel_rfl))
 f280:=Tryz.func253.trans (congrArg some (by kernel_rfl))
 f281:=Tryz.func254.trans (congrArg some (by kernel_rfl))
 f282:=Tryz.func255.trans (congrArg some (by kernel_rfl))
 f283:=Tryz.func196.trans (congrArg some (by kernel_rfl))
 f284:=Tryz.func197.trans (congrArg some (by kernel_rfl))
 f285:=Tryz.func198.trans (congrArg some (by kernel_rfl))
 f286:=Tryz.func199.trans (congrArg some (by kernel_rfl))
 f287:=Tryz.func251.trans (congrArg some (by kernel_rfl))
 f316:=Tryz.func269.trans (congrArg some (by kernel_rfl))
 f317:=Tryz.func231.trans (congrArg some (by kernel_rfl))
 f318:=Tryz.func233.trans (congrArg some (by kernel_rfl))
 f319:=Tryz.func234.trans (congrArg some (by kernel_rfl))
 f320:=Tryz.func235.trans (congrArg some (by kernel_rfl))
 f321:=Tryz.func267.trans (congrArg some (by kernel_rfl))
 f322:=Tryz.func268.trans (congrArg some (by kernel_rfl))
 f337:=Tryz.func260.trans (congrArg some (by kernel_rfl))
 f338:=Tryz.func261.trans (congrArg some (by kernel_rfl))
 t0:=Tryz.underlying0
 a0:=Tryz.isAgg0
 z0:=Tryz.sizeOf0
 v0:=Tryz.zeroValue0
 t2:=Tryz.underlying2
 a2:=Tryz.isAgg2
 z2:=Tryz.sizeOf2
 v2:=Tryz.zeroValue2
 t3:=Tryz.underlying3
 a3:=Tryz.isAgg3
 z3:=Tryz.sizeOf3
 v3:=Tryz.zeroValue3
 t4:=Tryz.underlying4
 a4:=Tryz.isAgg4
 z4:=Tryz.sizeOf4
 v4:=Tryz.zeroValue4
 t5:=Tryz.underlying5
 a5:=Tryz.isAgg5
 z5:=Tryz.sizeOf5
 v5:=Tryz.zeroValue5
 t9:=Tryz.underlying9
 a9:=Tryz.isAgg9
 z9:=Tryz.sizeOf9
 v9:=Tryz.zeroValue9
 t20:=Tryz.underlying20
 a20:=Tryz.isAgg20
 z20:=Tryz.sizeOf20
 v20:=Tryz.zeroValue20
 t21:=Tryz.underlying21
 a21:=Tryz.isAgg21
 z21:=Tryz.sizeOf21
 v21:=Tryz.zeroValue21
 t37:=Tryz.underlying163
 a37:=Tryz.isAgg163
 z37:=Tryz.sizeOf163
 v37:=Tryz.zeroValue163
 t46:=Tryz.underlying162
 a46:=Tryz.isAgg162
 z46:=Tryz.sizeOf162
 v46:=Tryz.zeroValue162
 t51:=Tryz.underlying296
 a51:=Tryz.isAgg296
 z51:=Tryz.sizeOf296
 v51:=Tryz.zeroValue296
 t53:=Tryz.underlying263
 a53:=Tryz.isAgg263
 z53:=Tryz.sizeOf263
 v53:=Tryz.zeroValue263
 t75:=Tryz.underlying249
 a75:=Tryz.isAgg249
 z75:=Tryz.sizeOf249
 v75:=Tryz.zeroValue249
 t85:=Tryz.underlying250
 a85:=Tryz.isAgg250
 z85:=Tryz.sizeOf250
 v85:=Tryz.zeroValue250
 t127:=Tryz.underlying293
 a127:=Tryz.isAgg293
 z127:=Tryz.sizeOf293
 v127:=Tryz.zeroValue293
 t143:=Tryz.underlying334
 a143:=Tryz.isAgg334
 z143:=Tryz.sizeOf334
 v143:=Tryz.zeroValue334
 t145:=Tryz.underlying336
 a145:=Tryz.isAgg336
 z145:=Tryz.sizeOf336
 v145:=Tryz.zeroValue336
 t167:=Tryz.underlying311
 a167:=Tryz.isAgg311
 z167:=Tryz.sizeOf311
 v167:=Tryz.zeroValue311
 t168:=Tryz.underlying314
 a168:=Tryz.isAgg314
 z168:=Tryz.sizeOf314
 v168:=Tryz.zeroValue314
 t171:=Tryz.underlying262
 a171:=Tryz.isAgg262
 z171:=Tryz.sizeOf262
 v171:=Tryz.zeroValue262
 t173:=Tryz.underlying266
 a173:=Tryz.isAgg266
 z173:=Tryz.sizeOf266
 v173:=Tryz.zeroValue266
 t175:=Tryz.underlying312
 a175:=Tryz.isAgg312
 z175:=Tryz.sizeOf312
 v175:=Tryz.zeroValue312
 t210:=Tryz.underlying326
 a210:=Tryz.isAgg326
 z210:=Tryz.sizeOf326
 v210:=Tryz.zeroValue326
 t212:=Tryz.underlying295
 a212:=Tryz.isAgg295
 z212:=Tryz.sizeOf295
 v212:=Tryz.zeroValue295
 t213:=Tryz.underlying297
 a213:=Tryz.isAgg297
 z213:=Tryz.sizeOf297
 t232:=Tryz.underlying332
 a232:=Tryz.isAgg332
 z232:=Tryz.sizeOf332
 v232:=Tryz.zeroValue332
 t233:=Tryz.underlying333
 a233:=Tryz.isAgg333
 z233:=Tryz.sizeOf333
 v233:=Tryz.zeroValue333
 g15:=by kernel_rfl
 g16:=by kernel_rfl
 g17:=by kernel_rfl
 g18:=by kernel_rfl
 g19:=by kernel_rfl
 t80:=Tryz.underlying260
 a80:=Tryz.isAgg260
 z80:=Tryz.sizeOf260
 v80:=Tryz.zeroValue260
 i0:=by kernel_rfl
 i2:=by kernel_rfl
 i3:=by kernel_rfl
 i4:=by kernel_rfl
 i5:=by kernel_rfl
 i9:=by kernel_rfl
 i20:=by kernel_rfl
 i21:=by kernel_rfl
 i37:=by kernel_rfl
 i46:=by kernel_rfl
 i51:=by kernel_rfl
 i53:=by kernel_rfl
 i75:=by kernel_rfl
 i80:=by kernel_rfl
 i85:=by kernel_rfl
 i127:=by kernel_rfl
 i143:=by kernel_rfl
 i145:=by kernel_rfl
 i167:=by kernel_rfl
 i168:=by kernel_rfl
 i171:=by kernel_rfl
 i173:=by kernel_rfl
 i175:=by kernel_rfl
 i210:=by kernel_rfl
 i212:=by kernel_rfl
 i232:=by kernel_rfl
 i233:=by kernel_rfl
 m15:=by kernel_rfl
 m16:=by kernel_rfl
 m17:=by kernel_rfl
 m18:=by kernel_rfl
 m19:=by kernel_rfl
 c0:=by kernel_rfl
 c2:=by kernel_rfl
 c3:=by kernel_rfl
 c4:=by kernel_rfl
 c5:=by kernel_rfl
 c9:=by kernel_rfl
 c20:=by kernel_rfl
 c21:=by kernel_rfl
 c37:=by kernel_rfl
 c46:=by kernel_rfl
 c51:=by kernel_rfl
 c53:=by kernel_rfl
 c75:=by kernel_rfl
 c80:=by kernel_rfl
 c85:=by kernel_rfl
 c127:=by kernel_rfl
 c143:=by kernel_rfl
 c145:=by kernel_rfl
 c167:=by kernel_rfl
 c168:=by kernel_rfl
 c171:=by kernel_rfl
 c173:=by kernel_rfl
 c175:=by kernel_rfl
 c210:=by kernel_rfl
 c212:=by kernel_rfl
 c213:=by kernel_rfl
 c232:=by kernel_rfl
 c233:=by kernel_rfl}
def Tryz.amJ:Go.Shelf.Ren:=⟨λ|173=>117|246=>164|283=>196|284=>197|285=>198|286=>199|129=>232|317=>231|318=>233|319=>234|320=>235|337=>260|338=>261|n=>n,λ|2=>2|3=>3|9=>9|4=>4|171=>262|0=>0|53=>263|37=>163|5=>5|173=>266|212=>295|51=>296|20=>20|213=>297|46=>162|232=>332|233=>333|n=>n,λ|17=>1|18=>6|19=>7|n=>n⟩
theorem Tryz.Q6:Go.Proofs.LaysM.n173 Tryz.prog Tryz.amJ:={
 mixed:=by kernel_rfl
 f129:=Tryz.func232.trans (congrArg some (by kernel_rfl))
 f173:=Tryz.func117.trans (congrArg some (by kernel_rfl))
 f246:=Tryz.func164.trans (congrArg some (by kernel_rfl))
 f283:=Tryz.func196.trans (congrArg some (by kernel_rfl))
 f284:=Tryz.func197.trans (congrArg some (by kernel_rfl))
 f285:=Tryz.func198.trans (congrArg some (by kernel_rfl))
 f286:=Tryz.func199.trans (congrArg some (by kernel_rfl))
 f317:=Tryz.func231.trans (congrArg some (by kernel_rfl))
 f318:=Tryz.func233.trans (congrArg some (by kernel_rfl))
 f319:=Tryz.func234.trans (congrArg some (by kernel_rfl))
 f320:=Tryz.func235.trans (congrArg some (by kernel_rfl))
 f337:=Tryz.func260.trans (congrArg some (by kernel_rfl))
 f338:=Tryz.func261.trans (congrArg some (by kernel_rfl))
 t0:=Tryz.underlying0
 a0:=Tryz.isAgg0
 z0:=Tryz.sizeOf0
 v0:=Tryz.zeroValue0
 t2:=Tryz.underlying2
 a2:=Tryz.isAgg2
 z2:=Tryz.sizeOf2
 v2:=Tryz.zeroValue2
 t3:=Tryz.underlying3
 a3:=Tryz.isAgg3
 z3:=Tryz.sizeOf3
 v3:=Tryz.zeroValue3
 t4:=Tryz.underlying4
 a4:=Tryz.isAgg4
 z4:=Tryz.sizeOf4
 v4:=Tryz.zeroValue4
 t5:=Tryz.underlying5
 a5:=Tryz.isAgg5
 z5:=Tryz.sizeOf5
 v5:=Tryz.zeroValue5
 t9:=Tryz.underlying9
 a9:=Tryz.isAgg9
 z9:=Tryz.sizeOf9
 v9:=Tryz.zeroValue9
 t20:=Tryz.underlying20
 a20:=Tryz.isAgg20
 z20:=Tryz.sizeOf20
 v20:=Tryz.zeroValue20
 t37:=Tryz.underlying163
 a37:=Tryz.isAgg163
 z37:=Tryz.sizeOf163
 v37:=Tryz.zeroValue163
 t46:=Tryz.underlying162
 a46:=Tryz.isAgg162
 z46:=Tryz.sizeOf162
 v46:=Tryz.zeroValue162
 t51:=Tryz.underlying296
 a51:=Tryz.isAgg296
 z51:=Tryz.sizeOf296
 v51:=Tryz.zeroValue296
 t53:=Tryz.underlying263
 a53:=Tryz.isAgg263
 z53:=Tryz.sizeOf263
 v53:=Tryz.zeroValue263
 t171:=Tryz.underlying262
 a171:=Tryz.isAgg262
 z171:=Tryz.sizeOf262
 v171:=Tryz.zeroValue262
 t173:=Tryz.underlying266
 a173:=Tryz.isAgg266
 z173:=Tryz.sizeOf266
 v173:=Tryz.zeroValue266
 t212:=Tryz.underlying295
 a212:=Tryz.isAgg295
 z212:=Tryz.sizeOf295
 v212:=Tryz.zeroValue295
 t213:=Tryz.underlying297
 a213:=Tryz.isAgg297
 z213:=Tryz.sizeOf297
 t232:=Tryz.underlying332
 a232:=Tryz.isAgg332
 z232:=Tryz.sizeOf332
 v232:=Tryz.zeroValue332
 t233:=Tryz.underlying333
 a233:=Tryz.isAgg333
 z233:=Tryz.sizeOf333
 v233:=Tryz.zeroValue333
 g17:=by kernel_rfl
 g18:=by kernel_rfl
 g19:=by kernel_rfl
 i0:=by kernel_rfl
 i2:=by kernel_rfl
 i3:=by kernel_rfl
 i4:=by kernel_rfl
 i5:=by kernel_rfl
 i9:=by kernel_rfl
 i20:=by kernel_rfl
 i37:=by kernel_rfl
 i46:=by kernel_rfl
 i51:=by kernel_rfl
 i53:=by kernel_rfl
 i171:=by kernel_rfl
 i173:=by kernel_rfl
 i212:=by kernel_rfl
 i232:=by kernel_rfl
 i233:=by kernel_rfl
 m17:=by kernel_rfl
 m18:=by kernel_rfl
 m19:=by kernel_rfl}
theorem amK:One aX (λx=>.string ⟨⟨x⟩⟩):=⟨λ_=>rfl,λw F x cs S=>by unfold aX;rw[aA]⟩
theorem YR (n:Nat):nt n=Lib.decDigits n:=by
 induction n using Nat.strongRecOn with
 |_ n ih=>
  rw[nt,Lib.decDigits];by_cases h:n<10
  .rw[dif_pos h,dif_pos h]
  .rw[dif_neg h,dif_neg h,ih (n/10) (by omega)]
theorem amL (n:Int):uP n=Lib.itoa n:=by
 unfold uP Lib.itoa;rw[YR,YR]
theorem amM {w:World} (hg:tJ w λ_=>False):Lib.TabIs Tryz.prog w "internal/strconv.uint64pow10" .u64 Lib.pow10Tab:=by
 obtain⟨_,_,o,g1,ty,fr,g2⟩:=hg (1,HT) (by simp[HU]);unfold Lib.TabIs World.var?;rw[show Tryz.prog.globalNamed "internal/strconv.uint64pow10" =some 1 by kernel_rfl];simp only[bind_some,g1,g2,Lib.pow10Tab,List.map_map];rfl
theorem amN {w:World} (k:Nat) (os:Array Obj):RowKit.Below w.heap.size w (Sort.grow (w.drewN k) os) where
 os:=rfl
 tape:=rfl
 output:=rfl
 size:=by simp[Sort.grow,World.drewN]
 block:=λb ab=>by
  show(w.heap++os)[b]? =_;rw[Array.getElem?_append_left ab]
theorem amO (a0 J:Int) (r:azc) (h:zS a0 J=some r):aV af 117 [.int .i64 a0,.int .i64 J] (.str r) []:=by
 unfold zS at h;split at h
 .rename_i aC;obtain⟨a7,ad,rfl⟩:=aC;cases h;refine aV.strs rfl (enters_of Tryz.Q6.f173 (by kernel_rfl) rfl) λw F X S vs oF aT=>?_;obtain⟨v0,v1,rfl⟩:∃v0 v1,vs=[v0,v1]:=by
   match vs,oF with
   |[x,y],_=>exact⟨x,y,rfl⟩
  have g0:v0= .int .i64 a0:=qg (aT.ey 0);have g1:v1= .int .i64 10:=qg (aT.ey 1);subst g0 g1;rw[amL];refine(Any.strconv_FormatInt_10 Tryz.Q6 a0 a7 ad w (amM (aT.gU.next (Nat.le_refl _) (λ_ _ _=>rfl) λ_ h=>h.elim))).mono ?_;rintro e aL ⟨rfl,k,os,rfl⟩;exact⟨rfl,amN k os⟩
 .cases h
theorem amP (a0:azb) (J r:azc) (h:strings_Join a0 J=some r):aV af 161 [.slice (a0.map aX),.str J] (.str r) []:=by
 unfold strings_Join at h;split at h
 .rename_i aC;cases h;refine aV.strs rfl (enters_of Tryz.Q4.f156 (by kernel_rfl) rfl) λw F X S vs oF aT=>?_;obtain⟨v0,v1,rfl⟩:∃v0 v1,vs=[v0,v1]:=by
   match vs,oF with
   |[x,y],_=>exact⟨x,y,rfl⟩
  have ad:v1= .string ⟨⟨J⟩⟩:=o5 (aT.ey 1);subst ad;rcases ahL aT (u:=0) amK rfl with⟨rfl,a,c,aF⟩|⟨b,o,cap,aF,ab,ar,an⟩
  .have aF:v0= .slice a 0 c:=aF;subst aF;exact(Any.strings_Join_none Tryz.Q4 Tryz.YP a c ⟨⟨J⟩⟩ w).mono λe aL ⟨he,hw⟩=>⟨he,hw▸RowKit.Below.refl _ _⟩
  .have aF:v0= .slice (some ⟨b,o,none⟩) a0.length cap:=aF;subst aF;have aO:(a0.map λx=>(⟨⟨x⟩⟩:ByteArray)).map (·.data.toList)=a0:=by rw[List.map_map];exact List.map_id _
   have:=Any.strings_Join Tryz.Q4 Tryz.YP b o cap (a0.map λx=>⟨⟨x⟩⟩) ⟨⟨J⟩⟩ w (λj x bJ=>by
    rw[getElem?_map]at bJ;obtain⟨y,hy,rfl⟩:=map_eq_some_iff.1 bJ;exact an j y hy) ab (by rw[length_map];exact aC.1) (by rw[length_map];exact ar) (by rw[aO];exact aC.2)
   rw[aO,length_map]at this;exact this
 .cases h
section
open Go.RowKit
set_option maxHeartbeats 4000000
theorem amQ (n:Int) (a7: -9223372036854775808<=n) (ad:n<=9223372036854775807) (w:World) (K0:Lib.TabIs Tryz.prog w "internal/strconv.uint64pow10" .u64 Lib.pow10Tab):
  Calls Tryz.prog 77 #[.int .i64 n] w λe aL=>e= .returned (.string ⟨(Lib.itoa n).toArray⟩)/\∃k os,aL=Sort.grow (w.drewN k) os:=by
 go_enter Tryz.func77,Tryz.ntmps77
 go_wp2_with (go_at_call 117;refine(Any.strconv_FormatInt_10 Tryz.Q6 n a7 ad _ K0).mono ?_;rintro e aL ⟨rfl,k,os,rfl⟩)
 go_ret
 exact⟨rfl,k,os,rfl⟩
theorem amR {P:Program} {w aL:World} {name:String} {k:IntKind} {fe:aze} (h:Lib.TabIs P w name k fe) (ab:Below w.heap.size w aL):Lib.TabIs P aL name k fe:=by
 unfold Lib.TabIs World.var? at*;cases hg:P.globalNamed name with
 |none=>simp[hg]at h
 |some g=>
  simp only[hg,bind_some]at h⊢;have er:g<w.heap.size:=by
   rcases Nat.lt_or_ge g w.heap.size with bD|bD
   .exact bD
   .rw[Array.getElem?_eq_none bD]at h;simp at h
  rw[ab.block g er];exact h
theorem YS {w aL:World} (h:Below w.heap.size w aL) (k:Nat) (os:Array Obj):Below w.heap.size w (Sort.grow (aL.drewN k) os) where
 os:=h.os
 tape:=h.tape
 output:=h.output
 size:=Nat.le_trans h.size (by simp[Sort.grow,World.drewN])
 block:=λb ab=>by
  have:=h.block b ab;rw[<-this];show(aL.heap++os)[b]? =_;rw[Array.getElem?_append_left (Nat.lt_of_lt_of_le ab h.size)]
theorem amS (s:azc) (aC:¬(Lib.trimPrefix s [45]).length<=18) (w:World):
  Calls Tryz.prog 154 #[.string ⟨⟨s⟩⟩] w λe aL=>e= .returned (.tuple #[.int .i64 0,.bool false])/\Below w.heap.size w aL:=by
 go_enter Tryz.func154,Tryz.ntmps154
 go_wp2_with (go_at_call 186;refine(Any.strings_TrimPrefix Tryz.Q5 ⟨⟨s⟩⟩ ⟨#[45]⟩ _).mono ?_;rintro e aL ⟨rfl,rfl⟩)
 go_ret2
 exact⟨rfl,Below.refl _ _⟩
theorem amT (s:azc) (aC:(Lib.trimPrefix s [45]).length<=18) (aa:s.length<=1000) (ay:Lib.parseIntB 64 s=Lib.parseIntB 64 []) (bt:Value) (w:World) (aF:w.cell? ⟨2,0,none⟩=some bt) (amU:bt= .nilIface\/∃Mo Mp,bt= .iface Mo Mp):
  Calls Tryz.prog 154 #[.string ⟨⟨s⟩⟩] w λe aL=>e= .returned (.tuple #[.int .i64 0,.bool false])/\Below w.heap.size w aL:=by
 go_enter Tryz.func154,Tryz.ntmps154
 go_wp2_with (first|(go_at_call 186;refine(Any.strings_TrimPrefix Tryz.Q5 ⟨⟨s⟩⟩ ⟨#[45]⟩ _).mono ?_;rintro e aL ⟨rfl,rfl⟩)|(go_at_call 187;refine(Any.strconv_ParseInt_10_at64_syntax Tryz.YQ ⟨⟨s⟩⟩ (Nat.le_trans aa (by decide)) ay bt _ aF amU).mono ?_))
 rintro e E9 ⟨N,rfl,-,-,ab⟩
 go_wp2
 go_ret2
 exact⟨rfl,ab⟩
theorem amV (s:azc) (aC:(Lib.trimPrefix s [45]).length<=18) (aa:s.length<=1000) (v:Int) (ay:Lib.parseIntB 64 s= .ok v) (a7: -9223372036854775808<=v) (ad:v<=9223372036854775807) (w:World) (K0:Lib.TabIs Tryz.prog w "internal/strconv.uint64pow10" .u64 Lib.pow10Tab):
  Calls Tryz.prog 154 #[.string ⟨⟨s⟩⟩] w λe aL=>e= .returned (.tuple #[.int .i64 (u7 s).1,.bool (u7 s).2])/\Below w.heap.size w aL:=by
 go_enter Tryz.func154,Tryz.ntmps154
 go_wp2_with (first|(go_at_call 186;refine(Any.strings_TrimPrefix Tryz.Q5 ⟨⟨s⟩⟩ ⟨#[45]⟩ _).mono ?_;rintro e aL ⟨rfl,rfl⟩)|(go_at_call 187;refine(Any.strconv_ParseInt_10_at64_ok Tryz.YQ ⟨⟨s⟩⟩ (Nat.le_trans aa (by decide)) v ay _).mono ?_))
 rintro e E9 ⟨rfl,ab⟩;have amW:Lib.TabIs Tryz.prog E9 "internal/strconv.uint64pow10" .u64 Lib.pow10Tab:=by
  rcases ab with rfl|⟨t,rfl⟩
  .exact K0
  .exact amR K0 (Lib.bytesWorld_below _ _ _)
 have IU:Below aL.heap.size aL E9:=by
  rcases ab with rfl|⟨t,rfl⟩
  .exact Below.refl _ _
  .exact Lib.bytesWorld_below _ _ _
 clear ab
 go_wp2_with (go_at_call 77;refine(amQ v a7 ad _ amW).mono ?_;rintro e aL ⟨rfl,k,os,rfl⟩)
 all_goals go_ret2
 all_goals (rename_i h)
 .have e:u7 s=(0,false):=by
   unfold u7;rw[ay];simp only;rw[if_neg (by intro e;simp[e]at h)]
  rw[e];exact⟨rfl,YS IU _ _⟩
 .have e:u7 s=(v,true):=by
   unfold u7;rw[ay];simp only;rw[if_pos (by simpa using h)]
  rw[e];exact⟨rfl,YS IU _ _⟩
theorem amX (s:azc):(Lib.trimPrefix s [45]).length=(if s.head? =some 45 then s.tail else s).length:=by
 unfold Lib.trimPrefix Lib.hasPrefix;cases s with
 |nil=>rfl
 |cons c r=>
  by_cases h:c=45
  .subst h;rw[if_pos (show(45::r).head? =some 45 from rfl),if_pos (by simp[isPrefixOf])];rfl
  .rw[if_neg (show¬(c::r).head? =some 45 from λe=>h (some.inj e)),if_neg (by simp[isPrefixOf];exact λe=>h e.symm)]
theorem amY (s:azc) (w:World) (hg:tJ w λ_=>False):
  Calls Tryz.prog 154 #[.string ⟨⟨s⟩⟩] w λe aL=>e= .returned (.tuple #[.int .i64 (iX s).1,.bool (iX s).2])/\Below w.heap.size w aL:=by
 have aY:=amX s;by_cases aC:(Lib.trimPrefix s [45]).length<=18
 .have aa:s.length<=1000:=by
   rw[aY]at aC;split at aC
   .rw[length_tail]at aC;omega
   .omega
  obtain⟨ad,ae⟩:=amZ s (by rw[<-aY];exact aC);rw[<-ae];rcases ay:Lib.parseIntB 64 s with v|_|_
  rotate_left
  .have e:u7 s=(0,false):=by unfold u7;rw[ay]
   obtain⟨_,_,o,g1,bt,cs,ty,fr,g2,g3,g4⟩:=hg (2,Mn) (by simp[HU]);rw[e];refine amT s aC aa ay bt w ?_ g4;simp only[World.cell?,g1,g2];simpa using g3
  .exact(ad ay).elim
  .have ab:=Lib.parseIntB_bounds ay;obtain⟨_,_,o,g1,ty,fr,g2⟩:=hg (1,HT) (by simp[HU]);refine amV s aC aa v ay (by have:=ab.1;simp at this;omega) (by have:=ab.2;simp at this;omega) w ?_;unfold Lib.TabIs World.var?;rw[show Tryz.prog.globalNamed "internal/strconv.uint64pow10" =some 1 by kernel_rfl];simp only[bind_some,g1,g2,Lib.pow10Tab,List.map_map];rfl
 .have e:iX s=(0,false):=by
   rw[aY]at aC;unfold iX;split<;>rename_i h
   .rw[if_pos h]at aC;unfold oP;rw[if_neg (λbD=>aC bD.2.1)]
   .rw[if_neg h]at aC;unfold oP;rw[if_neg (λbD=>aC bD.2.1)]
  rw[e];exact amS s aC w
theorem am0 (a0:azc) (r:Int×Bool) (h:Kn a0=some r):aV af 154 [.str a0] (.tuple [.int .i64 r.1,.bool r.2]) []:=by
 obtain rfl:iX a0=r:=some.inj h;refine aV.below (v:=.tuple #[.int .i64 (iX a0).1,.bool (iX a0).2]) rfl (enters_of Tryz.func154 (by kernel_rfl) rfl) rfl
  ⟨_,rfl,rfl,λk d x ao an=>?_⟩ (λw F=>?_) λw F X S vs oF aT=>?_
 .rcases k with _|_|k
  .simp at ao an;subst ao an;exact⟨rfl,λvs=>by simp,rfl⟩
  .simp at ao an;subst ao an;exact⟨rfl,λvs=>by simp,rfl⟩
  .simp at ao
 .simp only[dd,jb];rw[aA,bA];refine⟨[.int .i64 (iX a0).1],[.bool (iX a0).2],λ_=>False,λ_=>False,rfl,by rw[aA],?_,λ_ h=>h,λ_ h=>h,λ_ h=>h.elim⟩;rw[bA];exact⟨[.bool (iX a0).2],[],λ_=>False,λ_=>False,rfl,by rw[aA],by rw[bA],λ_ h=>h,λ_ h=>h,λ_ h=>h.elim⟩
 .obtain⟨v0,rfl⟩:∃v0,vs=[v0]:=by
   match vs,oF with
   |[x],_=>exact⟨x,rfl⟩
  have g0:v0= .string ⟨⟨a0⟩⟩:=o5 (aT.ey 0);subst g0;exact amY a0 w (aT.gU.next (Nat.le_refl _) (λ_ _ _=>rfl) λ_ h=>h.elim)
end
end Go.Proofs.YtmaepbgkcmjcjaiGreatDoor
