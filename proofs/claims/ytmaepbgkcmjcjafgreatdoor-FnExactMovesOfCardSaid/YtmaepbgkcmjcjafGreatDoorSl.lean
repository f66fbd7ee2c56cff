/- Part of a proof that a law returns true for every input. No condition. -/
import Derived.Ground.NamesProg
import Derived.Shelf.Lays
import Derived.Shelf.Strings.BuilderX
import Derived.Shelf.LaysC
import Derived.Shelf.LaysM
import Derived.Shelf.Strings.Prefix
import Derived.Shelf.Strconv.ParseIntPublic10
import Derived.Shelf.Strconv.Itoa4
import Derived.WalkKit
import Derived.BigCall
import Derived.Test.YtmaepbgkcmjcjafGreatDoorUV1x
import Derived.Shelf.Strings.OnBuilder
import Derived.Test.YtmaepbgkcmjcjafGreatDoorFwM
import Derived.Test.YtmaepbgkcmjcjafGreatDoorC3
namespace Go.Proofs.YtmaepbgkcmjcjafGreatDoor
open List Option Go.IntKind Nat
open Go Go.eg Go.kX Go.Shelf
set_option maxRecDepth 100000
def Tryz.amh:Go.Shelf.Ren:=⟨λ|173=>150|246=>184|283=>217|284=>218|285=>219|286=>220|129=>246|317=>245|318=>247|319=>248|320=>249|337=>263|338=>264|n=>n,λ|2=>2|3=>3|9=>9|4=>4|171=>272|0=>0|53=>273|37=>134|5=>5|173=>276|212=>299|51=>289|20=>20|213=>300|46=>268|232=>321|233=>322|n=>n,λ|17=>1|18=>6|19=>7|n=>n⟩
theorem Tryz.axN:Go.Proofs.Lays.n173 Tryz.prog Tryz.amh:={
 mixed:=by kernel_rfl
 f129:=Tryz.func246.trans (congrArg some (by kernel_rfl))
 f173:=Tryz.func150.trans (congrArg some (by kernel_rfl))
 f246:=Tryz.func184.trans (congrArg some (by kernel_rfl))
 f283:=Tryz.func217.trans (congrArg some (by kernel_rfl))
 f284:=Tryz.func218.trans (congrArg some (by kernel_rfl))
 f285:=Tryz.func219.trans (congrArg some (by kernel_rfl))
 f286:=Tryz.func220.trans (congrArg some (by kernel_rfl))
 f317:=Tryz.func245.trans (congrArg some (by kernel_rfl))
 f318:=Tryz.func247.trans (congrArg some (by kernel_rfl))
 f319:=Tryz.func248.trans (congrArg some (by kernel_rfl))
 f320:=Tryz.func249.trans (congrArg some (by kernel_rfl))
 f337:=Tryz.func263.trans (congrArg some (by kernel_rfl))
 f338:=Tryz.func264.trans (congrArg some (by kernel_rfl))
 t0:=Tryz.underlying0
 a0:=Tryz.isAgg0
 z0:=Tryz.sizeOf0
 v0:=Tryz.zeroValue0
 t2:=Tryz.underlying2
 a2:=Tryz.isAgg2
 z2:=Tryz.sizeOf2
 v2:=Tryz.zeroValue2
 t3:=Tryz.underlying3
 a3:=Tryz.isAgg3
 z3:=Tryz.sizeOf3
 v3:=Tryz.zeroValue3
 t4:=Tryz.underlying4
 a4:=Tryz.isAgg4
 z4:=Tryz.sizeOf4
 v4:=Tryz.zeroValue4
 t5:=Tryz.underlying5
 a5:=Tryz.isAgg5
 z5:=Tryz.sizeOf5
 v5:=Tryz.zeroValue5
 t9:=Tryz.underlying9
 a9:=Tryz.isAgg9
 z9:=Tryz.sizeOf9
 v9:=Tryz.zeroValue9
 t20:=Tryz.underlying20
 a20:=Tryz.isAgg20
 z20:=Tryz.sizeOf20
 v20:=Tryz.zeroValue20
 t37:=Tryz.underlying134
 a37:=Tryz.isAgg134
 z37:=Tryz.sizeOf134
 v37:=Tryz.zeroValue134
 t46:=Tryz.underlying268
 a46:=Tryz.isAgg268
 z46:=Tryz.sizeOf268
 v46:=Tryz.zeroValue268
 t51:=Tryz.underlying289
 a51:=Tryz.isAgg289
 z51:=Tryz.sizeOf289
 v51:=Tryz.zeroValue289
 t53:=Tryz.underlying273
 a53:=Tryz.isAgg273
 z53:=Tryz.sizeOf273
 v53:=Tryz.zeroValue273
 t171:=Tryz.underlying272
 a171:=Tryz.isAgg272
 z171:=Tryz.sizeOf272
 v171:=Tryz.zeroValue272
 t173:=Tryz.underlying276
 a173:=Tryz.isAgg276
 z173:=Tryz.sizeOf276
 v173:=Tryz.zeroValue276
 t212:=Tryz.underlying299
 a212:=Tryz.isAgg299
 z212:=Tryz.sizeOf299
 v212:=Tryz.zeroValue299
 t213:=Tryz.underlying300
 a213:=Tryz.isAgg300
 z213:=Tryz.sizeOf300
 t232:=Tryz.underlying321
 a232:=Tryz.isAgg321
 z232:=Tryz.sizeOf321
 v232:=Tryz.zeroValue321
 t233:=Tryz.underlying322
 a233:=Tryz.isAgg322
 z233:=Tryz.sizeOf322
 v233:=Tryz.zeroValue322
 g17:=by kernel_rfl
 g18:=by kernel_rfl
 g19:=by kernel_rfl}
def Tryz.YC:Go.Shelf.Ren:=⟨λ|156=>152|165=>186|166=>187|169=>188|240=>222|241=>223|276=>251|277=>252|n=>n,λ|31=>25|9=>9|3=>3|4=>4|0=>0|20=>20|72=>241|76=>243|70=>239|37=>134|75=>234|127=>278|164=>303|5=>5|80=>245|n=>n,λ|n=>n⟩
theorem Tryz.Q3:Go.Proofs.Lays.n156 Tryz.prog Tryz.YC:={
 mixed:=by kernel_rfl
 f156:=Tryz.func152.trans (congrArg some (by kernel_rfl))
 f165:=Tryz.func186.trans (congrArg some (by kernel_rfl))
 f166:=Tryz.func187.trans (congrArg some (by kernel_rfl))
 f169:=Tryz.func188.trans (congrArg some (by kernel_rfl))
 f240:=Tryz.func222.trans (congrArg some (by kernel_rfl))
 f241:=Tryz.func223.trans (congrArg some (by kernel_rfl))
 f276:=Tryz.func251.trans (congrArg some (by kernel_rfl))
 f277:=Tryz.func252.trans (congrArg some (by kernel_rfl))
 t0:=Tryz.underlying0
 a0:=Tryz.isAgg0
 z0:=Tryz.sizeOf0
 v0:=Tryz.zeroValue0
 t3:=Tryz.underlying3
 a3:=Tryz.isAgg3
 z3:=Tryz.sizeOf3
 v3:=Tryz.zeroValue3
 t4:=Tryz.underlying4
 a4:=Tryz.isAgg4
 z4:=Tryz.sizeOf4
 v4:=Tryz.zeroValue4
 t9:=Tryz.underlying9
 a9:=Tryz.isAgg9
 z9:=Tryz.sizeOf9
 v9:=Tryz.zeroValue9
 t20:=Tryz.underlying20
 a20:=Tryz.isAgg20
 z20:=Tryz.sizeOf20
 v20:=Tryz.zeroValue20
 t31:=Tryz.underlying25
 a31:=Tryz.isAgg25
 z31:=Tryz.sizeOf25
 v31:=Tryz.zeroValue25
 t37:=Tryz.underlying134
 a37:=Tryz.isAgg134
 z37:=Tryz.sizeOf134
 v37:=Tryz.zeroValue134
 t70:=Tryz.underlying239
 a70:=Tryz.isAgg239
 z70:=Tryz.sizeOf239
 v70:=Tryz.zeroValue239
 t72:=Tryz.underlying241
 a72:=Tryz.isAgg241
 z72:=Tryz.sizeOf241
 v72:=Tryz.zeroValue241
 t75:=Tryz.underlying234
 a75:=Tryz.isAgg234
 z75:=Tryz.sizeOf234
 v75:=Tryz.zeroValue234
 t76:=Tryz.underlying243
 a76:=Tryz.isAgg243
 z76:=Tryz.sizeOf243
 v76:=Tryz.zeroValue243
 t127:=Tryz.underlying278
 a127:=Tryz.isAgg278
 z127:=Tryz.sizeOf278
 v127:=Tryz.zeroValue278
 t164:=Tryz.underlying303
 a164:=Tryz.isAgg303
 z164:=Tryz.sizeOf303
 v164:=Tryz.zeroValue303}
theorem Tryz.YD:Builder.Extra Tryz.prog Tryz.YC:={
 sizeBuilder:=by kernel_rfl
 liesBuilder:=by kernel_rfl
 t5:=Tryz.underlying5
 a5:=Tryz.isAgg5
 z5:=Tryz.sizeOf5
 v5:=Tryz.zeroValue5
 infoByte:=by kernel_rfl
 cellsByte:=by kernel_rfl
 sizeByte:=by kernel_rfl
 neB5:=by decide}
def Tryz.ami:Go.Shelf.Ren:=⟨λ|101=>178|208=>211|206=>238|n=>n,λ|9=>9|4=>4|3=>3|n=>n,λ|n=>n⟩
theorem Tryz.Q4:Go.Proofs.Lays.n101 Tryz.prog Tryz.ami:={
 mixed:=by kernel_rfl
 f101:=Tryz.func178.trans (congrArg some (by kernel_rfl))
 f206:=Tryz.func238.trans (congrArg some (by kernel_rfl))
 f208:=Tryz.func211.trans (congrArg some (by kernel_rfl))
 t3:=Tryz.underlying3
 a3:=Tryz.isAgg3
 z3:=Tryz.sizeOf3
 v3:=Tryz.zeroValue3
 t4:=Tryz.underlying4
 a4:=Tryz.isAgg4
 z4:=Tryz.sizeOf4
 v4:=Tryz.zeroValue4
 t9:=Tryz.underlying9
 a9:=Tryz.isAgg9
 z9:=Tryz.sizeOf9
 v9:=Tryz.zeroValue9}
def Tryz.amj:Go.Shelf.Ren:=⟨λ|174=>179|247=>212|245=>213|287=>239|279=>240|280=>241|281=>242|282=>243|321=>258|322=>259|316=>260|171=>262|205=>261|243=>266|246=>184|283=>217|284=>218|285=>219|286=>220|129=>246|317=>245|318=>247|319=>248|320=>249|337=>263|338=>264|n=>n,λ|9=>9|3=>3|2=>2|75=>234|85=>235|4=>4|167=>292|5=>5|53=>273|175=>293|46=>268|168=>295|37=>134|0=>0|210=>311|21=>21|127=>278|145=>320|143=>318|171=>272|173=>276|212=>299|51=>289|20=>20|213=>300|232=>321|233=>322|80=>245|n=>n,λ|15=>2|16=>3|17=>1|18=>6|19=>7|n=>n⟩
theorem Tryz.YE:Go.Proofs.LaysC.n174 Tryz.prog Tryz.amj:={
 mixed:=by kernel_rfl
 f129:=Tryz.func246.trans (congrArg some (by kernel_rfl))
 f171:=Tryz.func262.trans (congrArg some (by kernel_rfl))
 f174:=Tryz.func179.trans (congrArg some (by kernel_rfl))
 f205:=Tryz.func261.trans (congrArg some (by kernel_rfl))
 f243:=Tryz.func266.trans (congrArg some (by kernel_rfl))
 f245:=Tryz.func213.trans (congrArg some (by kernel_rfl))
 f246:=Tryz.func184.trans (congrArg some (by kernel_rfl))
 f247:=Tryz.func212.trans (congrArg some (by kernel_rfl))
 f279:=Tryz.func240.trans (congrArg some (by kernel_rfl))
 f280:=Tryz.func241.trans (congrArg some (by kernel_rfl))
 f281:=Tryz.func242.trans (congrArg some (by kernel_rfl))
 f282:=Tryz.func243.trans (congrArg some (by kernel_rfl))
 f283:=Tryz.func217.trans (congrArg some (by kernel_rfl))
 f284:=Tryz.func218.trans (congrArg some (by kernel_rfl))
 f285:=Tryz.func219.trans (congrArg some (by kernel_rfl))
 f286:=Tryz.func220.trans (congrArg some (by kernel_rfl))
 f287:=Tryz.func239.trans (congrArg some (by kernel_rfl))
 f316:=Tryz.func260.trans (congrArg some (by kernel_rfl))
 f317:=Tryz.func245.trans (congrArg some (by kernel_rfl))
 f318:=Tryz.func247.trans (congrArg some (by kernel_rfl))
 f319:=Tryz.func248.trans (congrArg some (by kernel_rfl))
 f320:=Tryz.func249.trans (congrArg some (by kernel_rfl))
 f321:=Tryz.func258.trans (congrArg some (by kernel_rfl))
 f322:=Tryz.func259.trans (congrArg some (by kernel_rfl))
 f337:=Tryz.func263.trans (congrArg some (by kernel_rfl))
 f338:=Tryz.func264.trans (congrArg some (by kernel_rfl))
 t0:=Tryz.underlying0
 a0:=Tryz.isAgg0
 z0:=Tryz.sizeOf0
 v0:=Tryz.zeroValue0
 t2:=Tryz.underlying2
 a2:=Tryz.isAgg2
 z2:=Tryz.sizeOf2
 v2:=Tryz.zeroValue2
 t3:=Tryz.underlying3
 a3:=Tryz.isAgg3
 z3:=Tryz.sizeOf3
 v3:=Tryz.zeroValue3
 t4:=Tryz.underlying4
 a4:=Tryz.isAgg4
 z4:=Tryz.sizeOf4
 v4:=Tryz.zeroValue4
 t5:=Tryz.underlying5
 a5:=Tryz.isAgg5
 z5:=Tryz.sizeOf5
 v5:=Tryz.zeroValue5
 t9:=Tryz.underlying9
 a9:=Tryz.isAgg9
 z9:=Tryz.sizeOf9
 v9:=Tryz.zeroValue9
 t20:=Tryz.underlying20
 a20:=Tryz.isAgg20
 z20:=Tryz.sizeOf20
 v20:=Tryz.zeroValue20
 t21:=Tryz.underlying21
 a21:=Tryz.isAgg21
 z21:=Tryz.sizeOf21
 v21:=Tryz.zeroValue21
 t37:=Tryz.underlying134
 a37:=Tryz.isAgg134
 z37:=Tryz.sizeOf134
 v37:=Tryz.zeroValue134
 t46:=Tryz.underlying268
 a46:=Tryz.isAgg268
 z46:=Tryz.sizeOf268
 v46:=Tryz.zeroValue268
 t51:=Tryz.underlying289
 a51:=Tryz.isAgg289
 z51:=Tryz.sizeOf289
 v51:=Tryz.zeroValue289
 t53:=Tryz.underlying273
 a53:=Tryz.isAgg273
 z53:=Tryz.sizeOf273
 v53:=Tryz.zeroValue273
 t75:=Tryz.underlying234
 a75:=Tryz.isAgg234
 z75:=Tryz.sizeOf234
 v75:=Tryz.zeroValue234
 t85:=Tryz.underlying235
 a85:=Tryz.isAgg235
 z85:=Tryz.sizeOf235
 v85:=Tryz.zeroValue235
 t127:=Tryz.underlying278
 a127:=Tryz.isAgg278
 z127:=Tryz.sizeOf278
 v127:=Tryz.zeroValue278
 t143:=Tryz.underlying318
 a143:=Tryz.isAgg318
 z143:=Tryz.sizeOf318
 v143:=Tryz.zeroValue318
 t145:=Tryz.underlying320
 a145:=Tryz.isAgg320
 z145:=Tryz.sizeOf320
 v145:=Tryz.zeroValue320
 t167:=Tryz.underlying292
 a167:=Tryz.isAgg292
 z167:=Tryz.sizeOf292
 v167:=Tryz.zeroValue292
 t168:=Tryz.underlying295
 a168:=Tryz.isAgg295
 z168:=Tryz.sizeOf295
 v168:=Tryz.zeroValue295
 t171:=Tryz.underlying272
 a171:=Tryz.isAgg272
 z171:=Tryz.sizeOf272
 v171:=Tryz.zeroValue272
 t173:=Tryz.underlying276
 a173:=Tryz.isAgg276
 z173:=Tryz.sizeOf276
 v173:=Tryz.zeroValue276
 t175:=Tryz.underlying293
 a175:=Tryz.isAgg293
 z175:=Tryz.sizeOf293
 v175:=Tryz.zeroValue293
 t210:=Tryz.underlying311
 a210:=Tryz.isAgg311
 z210:=Tryz.sizeOf311
 v210:=Tryz.zeroValue311
 t212:=Tryz.underlying299
 a212:=Tryz.isAgg299
 z212:=Tryz.sizeOf299
 v212:=Tryz.zeroValue299
 t213:=Tryz.underlying300
 a213:=Tryz.isAgg300
 z213:=Tryz.sizeOf300
 t232:=Tryz.underlying321
 a232:=Tryz.isAgg321
 z232:=Tryz.sizeOf321
 v232:=Tryz.zeroValue321
 t233:=Tryz.underlying322
 a233:=Tryz.isAgg322
 z233:=Tryz.sizeOf322
 v233:=Tryz.zeroValue322
 g15:=by kernel_rfl
 g16:=by kernel_rfl
 g17:=by kernel_rfl
 g18:=by kernel_rfl
 g19:=by kernel_rfl
 t80:=Tryz.underlying245
 a80:=Tryz.isAgg245
 z80:=Tryz.sizeOf245
 v80:=Tryz.zeroValue245
 i0:=by kernel_rfl
 i2:=by kernel_rfl
 i3:=by kernel_rfl
 i4:=by kernel_rfl
 i5:=by kernel_rfl
 i9:=by kernel_rfl
 i20:=by kernel_rfl
 i21:=by kernel_rfl
 i37:=by kernel_rfl
 i46:=by kernel_rfl
 i51:=by kernel_rfl
 i53:=by kernel_rfl
 i75:=by kernel_rfl
 i80:=by kernel_rfl
 i85:=by kernel_rfl
 i127:=by kernel_rfl
 i143:=by kernel_rfl
 i145:=by kernel_rfl
 i167:=by kernel_rfl
 i168:=by kernel_rfl
 i171:=by kernel_rfl
 i173:=by kernel_rfl
 i175:=by kernel_rfl
 i210:=by kernel_rfl
 i212:=by kernel_rfl
 i232:=by kernel_rfl
 i233:=by kernel_rfl
 m15:=by kernel_rfl
 m16:=by kernel_rfl
 m17:=by kernel_rfl
 m18:=by kernel_rfl
 m19:=by kernel_rfl
 c0:=by kernel_rfl
 c2:=by kernel_rfl
 c3:=by kernel_rfl
 c4:=by kernel_rfl
 c5:=by kernel_rfl
 c9:=by kernel_rfl
 c20:=by kernel_rfl
 c21:=by kernel_rfl
 c37:=by kernel_rfl
 c46:=by kernel_rfl
 c51:=by kernel_rfl
 c53:=by kernel_rfl
 c75:=by kernel_rfl
 c80:=by kernel_rfl
 c85:=by kernel_rfl
 c127:=by kernel_rfl
 c143:=by kernel_rfl
 c145:=by kernel_rfl
 c167:=by kernel_rfl
 c168:=by kernel_rfl
 c171:=by kernel_rfl
 c173:=by kernel_rfl
 c175:=by kernel_rfl
 c210:=by kernel_rfl
 c212:=by kernel_rfl
 c213:=by kernel_rfl
 c232:=by kernel_rfl
 c233:=by kernel_rfl}
def Tryz.amk:Go.Shelf.Ren:=⟨λ|173=>150|246=>184|283=>217|284=>218|285=>219|286=>220|129=>246|317=>245|318=>247|319=>248|320=>249|337=>263|338=>264|n=>n,λ|2=>2|3=>3|9=>9|4=>4|171=>272|0=>0|53=>273|37=>134|5=>5|173=>276|212=>299|51=>289|20=>20|213=>300|46=>268|232=>321|233=>322|n=>n,λ|17=>1|18=>6|19=>7|n=>n⟩
theorem Tryz.Q5:Go.Proofs.LaysM.n173 Tryz.prog Tryz.amk:={
 mixed:=by kernel_rfl
 f129:=Tryz.func246.trans (congrArg some (by kernel_rfl))
 f173:=Tryz.func150.trans (congrArg some (by kernel_rfl))
 f246:=Tryz.func184.trans (congrArg some (by kernel_rfl))
 f283:=Tryz.func217.trans (congrArg some (by kernel_rfl))
 f284:=Tryz.func218.trans (congrArg some (by kernel_rfl))
 f285:=Tryz.func219.trans (congrArg some (by kernel_rfl))
 f286:=Tryz.func220.trans (congrArg some (by kernel_rfl))
 f317:=Tryz.func245.trans (congrArg some (by kernel_rfl))
 f318:=Tryz.func247.trans (congrArg some (by kernel_rfl))
 f319:=Tryz.func248.trans (congrArg some (by kernel_rfl))
 f320:=Tryz.func249.trans (congrArg some (by kernel_rfl))
 f337:=Tryz.func263.trans (congrArg some (by kernel_rfl))
 f338:=Tryz.func264.trans (congrArg some (by kernel_rfl))
 t0:=Tryz.underlying0
 a0:=Tryz.isAgg0
 z0:=Tryz.sizeOf0
 v0:=Tryz.zeroValue0
 t2:=Tryz.underlying2
 a2:=Tryz.isAgg2
 z2:=Tryz.sizeOf2
 v2:=Tryz.zeroValue2
 t3:=Tryz.underlying3
 a3:=Tryz.isAgg3
 z3:=Tryz.sizeOf3
 v3:=Tryz.zeroValue3
 t4:=Tryz.underlying4
 a4:=Tryz.isAgg4
 z4:=Tryz.sizeOf4
 v4:=Tryz.zeroValue4
 t5:=Tryz.underlying5
 a5:=Tryz.isAgg5
 z5:=Tryz.sizeOf5
 v5:=Tryz.zeroValue5
 t9:=Tryz.underlying9
 a9:=Tryz.isAgg9
 z9:=Tryz.sizeOf9
 v9:=Tryz.zeroValue9
 t20:=Tryz.underlying20
 a20:=Tryz.isAgg20
 z20:=Tryz.sizeOf20
 v20:=Tryz.zeroValue20
 t37:=Tryz.underlying134
 a37:=Tryz.isAgg134
 z37:=Tryz.sizeOf134
 v37:=Tryz.zeroValue134
 t46:=Tryz.underlying268
 a46:=Tryz.isAgg268
 z46:=Tryz.sizeOf268
 v46:=Tryz.zeroValue268
 t51:=Tryz.underlying289
 a51:=Tryz.isAgg289
 z51:=Tryz.sizeOf289
 v51:=Tryz.zeroValue289
 t53:=Tryz.underlying273
 a53:=Tryz.isAgg273
 z53:=Tryz.sizeOf273
 v53:=Tryz.zeroValue273
 t171:=Tryz.underlying272
 a171:=Tryz.isAgg272
 z171:=Tryz.sizeOf272
 v171:=Tryz.zeroValue272
 t173:=Tryz.underlying276
 a173:=Tryz.isAgg276
 z173:=Tryz.sizeOf276
 v173:=Tryz.zeroValue276
 t212:=Tryz.underlying299
 a212:=Tryz.isAgg299
 z212:=Tryz.sizeOf299
 v212:=Tryz.zeroValue299
 t213:=Tryz.underlying300
 a213:=Tryz.isAgg300
 z213:=Tryz.sizeOf300
 t232:=Tryz.underlying321
 a232:=Tryz.isAgg321
 z232:=Tryz.sizeOf321
 v232:=Tryz.zeroValue321
 t233:=Tryz.underlying322
 a233:=Tryz.isAgg322
 z233:=Tryz.sizeOf322
 v233:=Tryz.zeroValue322
 g17:=by kernel_rfl
 g18:=by kernel_rfl
 g19:=by kernel_rfl
 i0:=by kernel_rfl
 i2:=by kernel_rfl
 i3:=by kernel_rfl
 i4:=by kernel_rfl
 i5:=by kernel_rfl
 i9:=by kernel_rfl
 i20:=by kernel_rfl
 i37:=by kernel_rfl
 i46:=by kernel_rfl
 i51:=by kernel_rfl
 i53:=by kernel_rfl
 i171:=by kernel_rfl
 i173:=by kernel_rfl
 i212:=by kernel_rfl
 i232:=by kernel_rfl
 i233:=by kernel_rfl
 m17:=by kernel_rfl
 m18:=by kernel_rfl
 m19:=by kernel_rfl}
theorem aml:One bm (λx=>.string ⟨⟨x⟩⟩):=⟨λ_=>rfl,λw F x cs S=>by unfold bm;rw[aB]⟩
theorem YF (n:Nat):xS n=Lib.decDigits n:=by
 induction n using Nat.strongRecOn with
 |_ n ih=>
  rw[xS,Lib.decDigits];by_cases h:n<10
  .rw[dif_pos h,dif_pos h]
  .rw[dif_neg h,dif_neg h,ih (n/10) (by omega)]
theorem amm (n:Int):Gb n=Lib.itoa n:=by
 unfold Gb Lib.itoa;rw[YF,YF]
theorem amn {w:World} (hg:tx w λ_=>False):Lib.TabIs Tryz.prog w "internal/strconv.uint64pow10" .u64 Lib.pow10Tab:=by
 obtain⟨_,_,o,g1,ty,fr,g2⟩:=hg (1,HR) (by simp[HS]);unfold Lib.TabIs World.var?;rw[show Tryz.prog.globalNamed "internal/strconv.uint64pow10" =some 1 by kernel_rfl];simp only[bind_some,g1,g2,Lib.pow10Tab,List.map_map];rfl
theorem amo {w:World} (k:Nat) (os:Array Obj):RowKit.Below w.heap.size w (Sort.grow (w.drewN k) os) where
 os:=rfl
 tape:=rfl
 output:=rfl
 size:=by simp[Sort.grow,World.drewN]
 block:=λb aa=>by
  show(w.heap++os)[b]? =_;rw[Array.getElem?_append_left aa]
theorem amp (a0 J:Int) (r:ayc) (h:Cm a0 J=some r):aW ah 150 [.int .i64 a0,.int .i64 J] (.str r) []:=by
 unfold Cm at h;split at h
 .rename_i hl;obtain⟨a_,ad,rfl⟩:=hl;cases h;refine aW.strs rfl (enters_of Tryz.Q5.f173 (by kernel_rfl) rfl) λw F X S vs si aQ=>?_;obtain⟨v0,v1,rfl⟩:∃v0 v1,vs=[v0,v1]:=by
   match vs,si with
   |[x,y],_=>exact⟨x,y,rfl⟩
  have g0:v0= .int .i64 a0:=qf (aQ.el 0);have g1:v1= .int .i64 10:=qf (aQ.el 1);subst g0 g1;rw[amm];refine(Any.strconv_FormatInt_10 Tryz.Q5 a0 a_ ad w (amn (aQ.gq.next (Nat.le_refl _) (λ_ _ _=>rfl) λ_ h=>h.elim))).mono ?_;rintro e aN ⟨rfl,k,os,rfl⟩;exact⟨rfl,amo k os⟩
 .cases h
theorem amq (a0:ayb) (J r:ayc) (h:strings_Join a0 J=some r):aW ah 152 [.slice (a0.map bm),.str J] (.str r) []:=by
 unfold strings_Join at h;split at h
 .rename_i hl;cases h;refine aW.strs rfl (enters_of Tryz.Q3.f156 (by kernel_rfl) rfl) λw F X S vs si aQ=>?_;obtain⟨v0,v1,rfl⟩:∃v0 v1,vs=[v0,v1]:=by
   match vs,si with
   |[x,y],_=>exact⟨x,y,rfl⟩
  have ad:v1= .string ⟨⟨J⟩⟩:=o9 (aQ.el 1);subst ad;rcases ahw aQ (u:=0) aml rfl with⟨rfl,a,c,aJ⟩|⟨b,o,cap,aJ,aa,ar,ao⟩
  .have aJ:v0= .slice a 0 c:=aJ;subst aJ;exact(Any.strings_Join_none Tryz.Q3 Tryz.YD a c ⟨⟨J⟩⟩ w).mono λe aN ⟨he,hw⟩=>⟨he,hw▸RowKit.Below.refl _ _⟩
  .have aJ:v0= .slice (some ⟨b,o,none⟩) a0.length cap:=aJ;subst aJ;have aP:(a0.map λx=>(⟨⟨x⟩⟩:ByteArray)).map (·.data.toList)=a0:=by rw[List.map_map];exact List.map_id _
   have:=Any.strings_Join Tryz.Q3 Tryz.YD b o cap (a0.map λx=>⟨⟨x⟩⟩) ⟨⟨J⟩⟩ w (λj x bF=>by
    rw[getElem?_map]at bF;obtain⟨y,hy,rfl⟩:=map_eq_some_iff.1 bF;exact ao j y hy) aa (by rw[length_map];exact hl.1) (by rw[length_map];exact ar) (by rw[aP];exact hl.2)
   rw[aP,length_map]at this;exact this
 .cases h
section
open Go.RowKit
set_option maxHeartbeats 4000000
theorem amr (n:Int) (a_: -9223372036854775808<=n) (ad:n<=9223372036854775807) (w:World) (KM:Lib.TabIs Tryz.prog w "internal/strconv.uint64pow10" .u64 Lib.pow10Tab):
  Calls Tryz.prog 101 #[.int .i64 n] w λe aN=>e= .returned (.string ⟨(Lib.itoa n).toArray⟩)/\∃k os,aN=Sort.grow (w.drewN k) os:=by
 go_enter Tryz.func101,Tryz.ntmps101
 go_wp2_with (go_at_call 150;refine(Any.strconv_FormatInt_10 Tryz.Q5 n a_ ad _ KM).mono ?_;rintro e aN ⟨rfl,k,os,rfl⟩)
 go_ret
 exact⟨rfl,k,os,rfl⟩
theorem ams {P:Program} {w aN:World} {name:String} {k:IntKind} {fs:aye} (h:Lib.TabIs P w name k fs) (aa:Below w.heap.size w aN):Lib.TabIs P aN name k fs:=by
 unfold Lib.TabIs World.var? at*;cases hg:P.globalNamed name with
 |none=>simp[hg]at h
 |some g=>
  simp only[hg,bind_some]at h⊢;have eI:g<w.heap.size:=by
   rcases Nat.lt_or_ge g w.heap.size with bC|bC
   .exact bC
   .rw[Array.getElem?_eq_none bC]at h;simp at h
  rw[aa.block g eI];exact h
theorem YG {w aN:World} (h:Below w.heap.size w aN) (k:Nat) (os:Array Obj):Below w.heap.size w (Sort.grow (aN.drewN k) os) where
 os:=h.os
 tape:=h.tape
 output:=h.output
 size:=Nat.le_trans h.size (by simp[Sort.grow,World.drewN])
 block:=λb aa=>by
  have:=h.block b aa;rw[<-this];show(aN.heap++os)[b]? =_;rw[Array.getElem?_append_left (Nat.lt_of_lt_of_le aa h.size)]
theorem amt (s:ayc) (hl:¬(Lib.trimPrefix s [45]).length<=18) (w:World):
  Calls Tryz.prog 144 #[.string ⟨⟨s⟩⟩] w λe aN=>e= .returned (.tuple #[.int .i64 0,.bool false])/\Below w.heap.size w aN:=by
 go_enter Tryz.func144,Tryz.ntmps144
 go_wp2_with (go_at_call 178;refine(Any.strings_TrimPrefix Tryz.Q4 ⟨⟨s⟩⟩ ⟨#[45]⟩ _).mono ?_;rintro e aN ⟨rfl,rfl⟩)
 go_ret2
 exact⟨rfl,Below.refl _ _⟩
theorem amu (s:ayc) (hl:(Lib.trimPrefix s [45]).length<=18) (ab:s.length<=1000) (ax:Lib.parseIntB 64 s=Lib.parseIntB 64 []) (bu:Value) (w:World) (aJ:w.cell? ⟨2,0,none⟩=some bu) (amv:bu= .nilIface\/∃L8 L9,bu= .iface L8 L9):
  Calls Tryz.prog 144 #[.string ⟨⟨s⟩⟩] w λe aN=>e= .returned (.tuple #[.int .i64 0,.bool false])/\Below w.heap.size w aN:=by
 go_enter Tryz.func144,Tryz.ntmps144
 go_wp2_with (first|(go_at_call 178;refine(Any.strings_TrimPrefix Tryz.Q4 ⟨⟨s⟩⟩ ⟨#[45]⟩ _).mono ?_;rintro e aN ⟨rfl,rfl⟩)|(go_at_call 179;refine(Any.strconv_ParseInt_10_at64_syntax Tryz.YE ⟨⟨s⟩⟩ (Nat.le_trans ab (by decide)) ax bu _ aJ amv).mono ?_))
 rintro e ET ⟨N,rfl,-,-,aa⟩
 go_wp2
 go_ret2
 exact⟨rfl,aa⟩
theorem amw (s:ayc) (hl:(Lib.trimPrefix s [45]).length<=18) (ab:s.length<=1000) (v:Int) (ax:Lib.parseIntB 64 s= .ok v) (a_: -9223372036854775808<=v) (ad:v<=9223372036854775807) (w:World) (KM:Lib.TabIs Tryz.prog w "internal/strconv.uint64pow10" .u64 Lib.pow10Tab):
  Calls Tryz.prog 144 #[.string ⟨⟨s⟩⟩] w λe aN=>e= .returned (.tuple #[.int .i64 (uS s).1,.bool (uS s).2])/\Below w.heap.size w aN:=by
 go_enter Tryz.func144,Tryz.ntmps144
 go_wp2_with (first|(go_at_call 178;refine(Any.strings_TrimPrefix Tryz.Q4 ⟨⟨s⟩⟩ ⟨#[45]⟩ _).mono ?_;rintro e aN ⟨rfl,rfl⟩)|(go_at_call 179;refine(Any.strconv_ParseInt_10_at64_ok Tryz.YE ⟨⟨s⟩⟩ (Nat.le_trans ab (by decide)) v ax _).mono ?_))
 rintro e ET ⟨rfl,aa⟩;have amx:Lib.TabIs Tryz.prog ET "internal/strconv.uint64pow10" .u64 Lib.pow10Tab:=by
  rcases aa with rfl|⟨t,rfl⟩
  .exact KM
  .exact ams KM (Lib.bytesWorld_below _ _ _)
 have IP:Below aN.heap.size aN ET:=by
  rcases aa with rfl|⟨t,rfl⟩
  .exact Below.refl _ _
  .exact Lib.bytesWorld_below _ _ _
 clear aa
 go_wp2_with (go_at_call 101;refine(amr v a_ ad _ amx).mono ?_;rintro e aN ⟨rfl,k,os,rfl⟩)
 all_goals go_ret2
 all_goals (rename_i h)
 .have e:uS s=(0,false):=by
   unfold uS;rw[ax];simp only;rw[if_neg (by intro e;simp[e]at h)]
  rw[e];exact⟨rfl,YG IP _ _⟩
 .have e:uS s=(v,true):=by
   unfold uS;rw[ax];simp only;rw[if_pos (by simpa using h)]
  rw[e];exact⟨rfl,YG IP _ _⟩
theorem amy (s:ayc):(Lib.trimPrefix s [45]).length=(if s.head? =some 45 then s.tail else s).length:=by
 unfold Lib.trimPrefix Lib.hasPrefix;cases s with
 |nil=>rfl
 |cons c r=>
  by_cases h:c=45
  .subst h;rw[if_pos (show(45::r).head? =some 45 from rfl),if_pos (by simp[isPrefixOf])];rfl
  .rw[if_neg (show¬(c::r).head? =some 45 from λe=>h (some.inj e)),if_neg (by simp[isPrefixOf];exact λe=>h e.symm)]
theorem amz (s:ayc) (w:World) (hg:tx w λ_=>False):
  Calls Tryz.prog 144 #[.string ⟨⟨s⟩⟩] w λe aN=>e= .returned (.tuple #[.int .i64 (j9 s).1,.bool (j9 s).2])/\Below w.heap.size w aN:=by
 have ba:=amy s;by_cases hl:(Lib.trimPrefix s [45]).length<=18
 .have ab:s.length<=1000:=by
   rw[ba]at hl;split at hl
   .rw[length_tail]at hl;omega
   .omega
  obtain⟨ad,af⟩:=amA s (by rw[<-ba];exact hl);rw[<-af];rcases ax:Lib.parseIntB 64 s with v|_|_
  rotate_left
  .have e:uS s=(0,false):=by unfold uS;rw[ax]
   obtain⟨_,_,o,g1,bu,cs,ty,fr,g2,g3,g4⟩:=hg (2,L7) (by simp[HS]);rw[e];refine amu s hl ab ax bu w ?_ g4;simp only[World.cell?,g1,g2];simpa using g3
  .exact(ad ax).elim
  .have aa:=Lib.parseIntB_bounds ax;obtain⟨_,_,o,g1,ty,fr,g2⟩:=hg (1,HR) (by simp[HS]);refine amw s hl ab v ax (by have:=aa.1;simp at this;omega) (by have:=aa.2;simp at this;omega) w ?_;unfold Lib.TabIs World.var?;rw[show Tryz.prog.globalNamed "internal/strconv.uint64pow10" =some 1 by kernel_rfl];simp only[bind_some,g1,g2,Lib.pow10Tab,List.map_map];rfl
 .have e:j9 s=(0,false):=by
   rw[ba]at hl;unfold j9;split<;>rename_i h
   .rw[if_pos h]at hl;unfold pY;rw[if_neg (λbC=>hl bC.2.1)]
   .rw[if_neg h]at hl;unfold pY;rw[if_neg (λbC=>hl bC.2.1)]
  rw[e];exact amt s hl w
theorem amB (a0:ayc) (r:Int×Bool) (h:Kg a0=some r):aW ah 144 [.str a0] (.tuple [.int .i64 r.1,.bool r.2]) []:=by
 obtain rfl:j9 a0=r:=some.inj h;refine aW.below (v:=.tuple #[.int .i64 (j9 a0).1,.bool (j9 a0).2]) rfl (enters_of Tryz.func144 (by kernel_rfl) rfl) rfl
  ⟨_,rfl,rfl,λk d x an ao=>?_⟩ (λw F=>?_) λw F X S vs si aQ=>?_
 .rcases k with _|_|k
  .simp at an ao;subst an ao;exact⟨rfl,λvs=>by simp,rfl⟩
  .simp at an ao;subst an ao;exact⟨rfl,λvs=>by simp,rfl⟩
  .simp at an
 .simp only[cT,jx];rw[aB,bt];refine⟨[.int .i64 (j9 a0).1],[.bool (j9 a0).2],λ_=>False,λ_=>False,rfl,by rw[aB],?_,λ_ h=>h,λ_ h=>h,λ_ h=>h.elim⟩;rw[bt];exact⟨[.bool (j9 a0).2],[],λ_=>False,λ_=>False,rfl,by rw[aB],by rw[bt],λ_ h=>h,λ_ h=>h,λ_ h=>h.elim⟩
 .obtain⟨v0,rfl⟩:∃v0,vs=[v0]:=by
   match vs,si with
   |[x],_=>exact⟨x,rfl⟩
  have g0:v0= .string ⟨⟨a0⟩⟩:=o9 (aQ.el 0);subst g0;exact amz a0 w (aQ.gq.next (Nat.le_refl _) (λ_ _ _=>rfl) λ_ h=>h.elim)
end
end Go.Proofs.YtmaepbgkcmjcjafGreatDoor
