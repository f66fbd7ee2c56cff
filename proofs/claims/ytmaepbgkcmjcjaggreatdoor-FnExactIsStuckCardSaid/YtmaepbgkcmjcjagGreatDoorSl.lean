/- Part of a proof that a law returns true for every input. No condition. -/
import Derived.Ground.NamesProg
import Derived.Shelf.Lays
import Derived.Shelf.Strings.BuilderX
import Derived.Shelf.LaysC
import Derived.Shelf.LaysM
import Derived.Shelf.Strings.Prefix
import Derived.Shelf.Strconv.ParseIntPublic10
import Derived.Shelf.Strconv.Itoa4
import Derived.WalkKit
import Derived.BigCall
import Derived.Test.YtmaepbgkcmjcjagGreatDoorUV0x
import Derived.Shelf.Strings.OnBuilder
import Derived.Test.YtmaepbgkcmjcjagGreatDoorFwM
import Derived.Test.YtmaepbgkcmjcjagGreatDoorC3
namespace Go.Proofs.YtmaepbgkcmjcjagGreatDoor
open List Option Go.IntKind Nat
open Go Go.ef Go.lZ Go.Shelf
set_option maxRecDepth 100000
def Tryz.akG:Go.Shelf.Ren:=⟨λ|173=>145|246=>176|283=>206|284=>207|285=>208|286=>209|129=>232|317=>231|318=>233|319=>234|320=>235|337=>247|338=>248|n=>n,λ|2=>2|3=>3|9=>9|4=>4|171=>268|0=>0|53=>269|37=>220|5=>5|173=>272|212=>290|51=>280|20=>20|213=>291|46=>263|232=>310|233=>311|n=>n,λ|17=>1|18=>6|19=>7|n=>n⟩
theorem Tryz.avA:Go.Proofs.Lays.n173 Tryz.prog Tryz.akG:={
 mixed:=by kernel_rfl
 f129:=Tryz.func232.trans (congrArg some (by kernel_rfl))
 f173:=Tryz.func145.trans (congrArg some (by kernel_rfl))
 f246:=Tryz.func176.trans (congrArg some (by kernel_rfl))
 f283:=Tryz.func206.trans (congrArg some (by kernel_rfl))
 f284:=Tryz.func207.trans (congrArg some (by kernel_rfl))
 f285:=Tryz.func208.trans (congrArg some (by kernel_rfl))
 f286:=Tryz.func209.trans (congrArg some (by kernel_rfl))
 f317:=Tryz.func231.trans (congrArg some (by kernel_rfl))
 f318:=Tryz.func233.trans (congrArg some (by kernel_rfl))
 f319:=Tryz.func234.trans (congrArg some (by kernel_rfl))
 f320:=Tryz.func235.trans (congrArg some (by kernel_rfl))
 f337:=Tryz.func247.trans (congrArg some (by kernel_rfl))
 f338:=Tryz.func248.trans (congrArg some (by kernel_rfl))
 t0:=Tryz.underlying0
 a0:=Tryz.isAgg0
 z0:=Tryz.sizeOf0
 v0:=Tryz.zeroValue0
 t2:=Tryz.underlying2
 a2:=Tryz.isAgg2
 z2:=Tryz.sizeOf2
 v2:=Tryz.zeroValue2
 t3:=Tryz.underlying3
 a3:=Tryz.isAgg3
 z3:=Tryz.sizeOf3
 v3:=Tryz.zeroValue3
 t4:=Tryz.underlying4
 a4:=Tryz.isAgg4
 z4:=Tryz.sizeOf4
 v4:=Tryz.zeroValue4
 t5:=Tryz.underlying5
 a5:=Tryz.isAgg5
 z5:=Tryz.sizeOf5
 v5:=Tryz.zeroValue5
 t9:=Tryz.underlying9
 a9:=Tryz.isAgg9
 z9:=Tryz.sizeOf9
 v9:=Tryz.zeroValue9
 t20:=Tryz.underlying20
 a20:=Tryz.isAgg20
 z20:=Tryz.sizeOf20
 v20:=Tryz.zeroValue20
 t37:=Tryz.underlying220
 a37:=Tryz.isAgg220
 z37:=Tryz.sizeOf220
 v37:=Tryz.zeroValue220
 t46:=Tryz.underlying263
 a46:=Tryz.isAgg263
 z46:=Tryz.sizeOf263
 v46:=Tryz.zeroValue263
 t51:=Tryz.underlying280
 a51:=Tryz.isAgg280
 z51:=Tryz.sizeOf280
 v51:=Tryz.zeroValue280
 t53:=Tryz.underlying269
 a53:=Tryz.isAgg269
 z53:=Tryz.sizeOf269
 v53:=Tryz.zeroValue269
 t171:=Tryz.underlying268
 a171:=Tryz.isAgg268
 z171:=Tryz.sizeOf268
 v171:=Tryz.zeroValue268
 t173:=Tryz.underlying272
 a173:=Tryz.isAgg272
 z173:=Tryz.sizeOf272
 v173:=Tryz.zeroValue272
 t212:=Tryz.underlying290
 a212:=Tryz.isAgg290
 z212:=Tryz.sizeOf290
 v212:=Tryz.zeroValue290
 t213:=Tryz.underlying291
 a213:=Tryz.isAgg291
 z213:=Tryz.sizeOf291
 t232:=Tryz.underlying310
 a232:=Tryz.isAgg310
 z232:=Tryz.sizeOf310
 v232:=Tryz.zeroValue310
 t233:=Tryz.underlying311
 a233:=Tryz.isAgg311
 z233:=Tryz.sizeOf311
 v233:=Tryz.zeroValue311
 g17:=by kernel_rfl
 g18:=by kernel_rfl
 g19:=by kernel_rfl}
def Tryz.Xm:Go.Shelf.Ren:=⟨λ|156=>147|165=>178|166=>179|169=>180|240=>211|241=>212|276=>237|277=>238|n=>n,λ|31=>25|9=>9|3=>3|4=>4|0=>0|20=>20|72=>240|76=>242|70=>238|37=>220|75=>233|127=>274|164=>294|5=>5|80=>244|n=>n,λ|n=>n⟩
theorem Tryz.P0:Go.Proofs.Lays.n156 Tryz.prog Tryz.Xm:={
 mixed:=by kernel_rfl
 f156:=Tryz.func147.trans (congrArg some (by kernel_rfl))
 f165:=Tryz.func178.trans (congrArg some (by kernel_rfl))
 f166:=Tryz.func179.trans (congrArg some (by kernel_rfl))
 f169:=Tryz.func180.trans (congrArg some (by kernel_rfl))
 f240:=Tryz.func211.trans (congrArg some (by kernel_rfl))
 f241:=Tryz.func212.trans (congrArg some (by kernel_rfl))
 f276:=Tryz.func237.trans (congrArg some (by kernel_rfl))
 f277:=Tryz.func238.trans (congrArg some (by kernel_rfl))
 t0:=Tryz.underlying0
 a0:=Tryz.isAgg0
 z0:=Tryz.sizeOf0
 v0:=Tryz.zeroValue0
 t3:=Tryz.underlying3
 a3:=Tryz.isAgg3
 z3:=Tryz.sizeOf3
 v3:=Tryz.zeroValue3
 t4:=Tryz.underlying4
 a4:=Tryz.isAgg4
 z4:=Tryz.sizeOf4
 v4:=Tryz.zeroValue4
 t9:=Tryz.underlying9
 a9:=Tryz.isAgg9
 z9:=Tryz.sizeOf9
 v9:=Tryz.zeroValue9
 t20:=Tryz.underlying20
 a20:=Tryz.isAgg20
 z20:=Tryz.sizeOf20
 v20:=Tryz.zeroValue20
 t31:=Tryz.underlying25
 a31:=Tryz.isAgg25
 z31:=Tryz.sizeOf25
 v31:=Tryz.zeroValue25
 t37:=Tryz.underlying220
 a37:=Tryz.isAgg220
 z37:=Tryz.sizeOf220
 v37:=Tryz.zeroValue220
 t70:=Tryz.underlying238
 a70:=Tryz.isAgg238
 z70:=Tryz.sizeOf238
 v70:=Tryz.zeroValue238
 t72:=Tryz.underlying240
 a72:=Tryz.isAgg240
 z72:=Tryz.sizeOf240
 v72:=Tryz.zeroValue240
 t75:=Tryz.underlying233
 a75:=Tryz.isAgg233
 z75:=Tryz.sizeOf233
 v75:=Tryz.zeroValue233
 t76:=Tryz.underlying242
 a76:=Tryz.isAgg242
 z76:=Tryz.sizeOf242
 v76:=Tryz.zeroValue242
 t127:=Tryz.underlying274
 a127:=Tryz.isAgg274
 z127:=Tryz.sizeOf274
 v127:=Tryz.zeroValue274
 t164:=Tryz.underlying294
 a164:=Tryz.isAgg294
 z164:=Tryz.sizeOf294
 v164:=Tryz.zeroValue294}
theorem Tryz.Xn:Builder.Extra Tryz.prog Tryz.Xm:={
 sizeBuilder:=by kernel_rfl
 liesBuilder:=by kernel_rfl
 t5:=Tryz.underlying5
 a5:=Tryz.isAgg5
 z5:=Tryz.sizeOf5
 v5:=Tryz.zeroValue5
 infoByte:=by kernel_rfl
 cellsByte:=by kernel_rfl
 sizeByte:=by kernel_rfl
 neB5:=by decide}
def Tryz.akH:Go.Shelf.Ren:=⟨λ|101=>170|208=>200|206=>224|n=>n,λ|9=>9|4=>4|3=>3|n=>n,λ|n=>n⟩
theorem Tryz.P1:Go.Proofs.Lays.n101 Tryz.prog Tryz.akH:={
 mixed:=by kernel_rfl
 f101:=Tryz.func170.trans (congrArg some (by kernel_rfl))
 f206:=Tryz.func224.trans (congrArg some (by kernel_rfl))
 f208:=Tryz.func200.trans (congrArg some (by kernel_rfl))
 t3:=Tryz.underlying3
 a3:=Tryz.isAgg3
 z3:=Tryz.sizeOf3
 v3:=Tryz.zeroValue3
 t4:=Tryz.underlying4
 a4:=Tryz.isAgg4
 z4:=Tryz.sizeOf4
 v4:=Tryz.zeroValue4
 t9:=Tryz.underlying9
 a9:=Tryz.isAgg9
 z9:=Tryz.sizeOf9
 v9:=Tryz.zeroValue9}
def Tryz.akI:Go.Shelf.Ren:=⟨λ|174=>171|247=>201|245=>202|287=>225|279=>226|280=>227|281=>228|282=>229|321=>242|322=>243|316=>244|171=>246|205=>245|243=>250|246=>176|283=>206|284=>207|285=>208|286=>209|129=>232|317=>231|318=>233|319=>234|320=>235|337=>247|338=>248|n=>n,λ|9=>9|3=>3|2=>2|75=>233|85=>234|4=>4|167=>283|5=>5|53=>269|175=>284|46=>263|168=>286|37=>220|0=>0|210=>300|21=>21|127=>274|145=>309|143=>307|171=>268|173=>272|212=>290|51=>280|20=>20|213=>291|232=>310|233=>311|80=>244|n=>n,λ|15=>2|16=>3|17=>1|18=>6|19=>7|n=>n⟩
theorem Tryz.Xo:Go.Proofs.LaysC.n174 Tryz.prog Tryz.akI:={
 mixed:=by kernel_rfl
 f129:=Tryz.func232.trans (congrArg some (by kernel_rfl))
 f171:=Tryz.func246.trans (congrArg some (by kernel_rfl))
 f174:=Tryz.func171.trans (congrArg some (by kernel_rfl))
 f205:=Tryz.func245.trans (congrArg some (by kernel_rfl))
 f243:=Tryz.func250.trans (congrArg some (by kernel_rfl))
 f245:=Tryz.func202.trans (congrArg some (by kernel_rfl))
 f246:=Tryz.func176.trans (congrArg some (by kernel_rfl))
 f247:=Tryz.func201.trans (congrArg some (by kernel_rfl))
 f279:=Tryz.func226.trans (congrArg some (by kernel_rfl))
 f280:=Tryz.func227.trans (congrArg some (by kernel_rfl))
 f281:=Tryz.func228.trans (congrArg some (by kernel_rfl))
 f282:=Tryz.func229.trans (congrArg some (by kernel_rfl))
 f283:=Tryz.func206.trans (congrArg some (by kernel_rfl))
 f284:=Tryz.func207.trans (congrArg some (by kernel_rfl))
 f285:=Tryz.func208.trans (congrArg some (by kernel_rfl))
 f286:=Tryz.func209.trans (congrArg some (by kernel_rfl))
 f287:=Tryz.func225.trans (congrArg some (by kernel_rfl))
 f316:=Tryz.func244.trans (congrArg some (by kernel_rfl))
 f317:=Tryz.func231.trans (congrArg some (by kernel_rfl))
 f318:=Tryz.func233.trans (congrArg some (by kernel_rfl))
 f319:=Tryz.func234.trans (congrArg some (by kernel_rfl))
 f320:=Tryz.func235.trans (congrArg some (by kernel_rfl))
 f321:=Tryz.func242.trans (congrArg some (by kernel_rfl))
 f322:=Tryz.func243.trans (congrArg some (by kernel_rfl))
 f337:=Tryz.func247.trans (congrArg some (by kernel_rfl))
 f338:=Tryz.func248.trans (congrArg some (by kernel_rfl))
 t0:=Tryz.underlying0
 a0:=Tryz.isAgg0
 z0:=Tryz.sizeOf0
 v0:=Tryz.zeroValue0
 t2:=Tryz.underlying2
 a2:=Tryz.isAgg2
 z2:=Tryz.sizeOf2
 v2:=Tryz.zeroValue2
 t3:=Tryz.underlying3
 a3:=Tryz.isAgg3
 z3:=Tryz.sizeOf3
 v3:=Tryz.zeroValue3
 t4:=Tryz.underlying4
 a4:=Tryz.isAgg4
 z4:=Tryz.sizeOf4
 v4:=Tryz.zeroValue4
 t5:=Tryz.underlying5
 a5:=Tryz.isAgg5
 z5:=Tryz.sizeOf5
 v5:=Tryz.zeroValue5
 t9:=Tryz.underlying9
 a9:=Tryz.isAgg9
 z9:=Tryz.sizeOf9
 v9:=Tryz.zeroValue9
 t20:=Tryz.underlying20
 a20:=Tryz.isAgg20
 z20:=Tryz.sizeOf20
 v20:=Tryz.zeroValue20
 t21:=Tryz.underlying21
 a21:=Tryz.isAgg21
 z21:=Tryz.sizeOf21
 v21:=Tryz.zeroValue21
 t37:=Tryz.underlying220
 a37:=Tryz.isAgg220
 z37:=Tryz.sizeOf220
 v37:=Tryz.zeroValue220
 t46:=Tryz.underlying263
 a46:=Tryz.isAgg263
 z46:=Tryz.sizeOf263
 v46:=Tryz.zeroValue263
 t51:=Tryz.underlying280
 a51:=Tryz.isAgg280
 z51:=Tryz.sizeOf280
 v51:=Tryz.zeroValue280
 t53:=Tryz.underlying269
 a53:=Tryz.isAgg269
 z53:=Tryz.sizeOf269
 v53:=Tryz.zeroValue269
 t75:=Tryz.underlying233
 a75:=Tryz.isAgg233
 z75:=Tryz.sizeOf233
 v75:=Tryz.zeroValue233
 t85:=Tryz.underlying234
 a85:=Tryz.isAgg234
 z85:=Tryz.sizeOf234
 v85:=Tryz.zeroValue234
 t127:=Tryz.underlying274
 a127:=Tryz.isAgg274
 z127:=Tryz.sizeOf274
 v127:=Tryz.zeroValue274
 t143:=Tryz.underlying307
 a143:=Tryz.isAgg307
 z143:=Tryz.sizeOf307
 v143:=Tryz.zeroValue307
 t145:=Tryz.underlying309
 a145:=Tryz.isAgg309
 z145:=Tryz.sizeOf309
 v145:=Tryz.zeroValue309
 t167:=Tryz.underlying283
 a167:=Tryz.isAgg283
 z167:=Tryz.sizeOf283
 v167:=Tryz.zeroValue283
 t168:=Tryz.underlying286
 a168:=Tryz.isAgg286
 z168:=Tryz.sizeOf286
 v168:=Tryz.zeroValue286
 t171:=Tryz.underlying268
 a171:=Tryz.isAgg268
 z171:=Tryz.sizeOf268
 v171:=Tryz.zeroValue268
 t173:=Tryz.underlying272
 a173:=Tryz.isAgg272
 z173:=Tryz.sizeOf272
 v173:=Tryz.zeroValue272
 t175:=Tryz.underlying284
 a175:=Tryz.isAgg284
 z175:=Tryz.sizeOf284
 v175:=Tryz.zeroValue284
 t210:=Tryz.underlying300
 a210:=Tryz.isAgg300
 z210:=Tryz.sizeOf300
 v210:=Tryz.zeroValue300
 t212:=Tryz.underlying290
 a212:=Tryz.isAgg290
 z212:=Tryz.sizeOf290
 v212:=Tryz.zeroValue290
 t213:=Tryz.underlying291
 a213:=Tryz.isAgg291
 z213:=Tryz.sizeOf291
 t232:=Tryz.underlying310
 a232:=Tryz.isAgg310
 z232:=Tryz.sizeOf310
 v232:=Tryz.zeroValue310
 t233:=Tryz.underlying311
 a233:=Tryz.isAgg311
 z233:=Tryz.sizeOf311
 v233:=Tryz.zeroValue311
 g15:=by kernel_rfl
 g16:=by kernel_rfl
 g17:=by kernel_rfl
 g18:=by kernel_rfl
 g19:=by kernel_rfl
 t80:=Tryz.underlying244
 a80:=Tryz.isAgg244
 z80:=Tryz.sizeOf244
 v80:=Tryz.zeroValue244
 i0:=by kernel_rfl
 i2:=by kernel_rfl
 i3:=by kernel_rfl
 i4:=by kernel_rfl
 i5:=by kernel_rfl
 i9:=by kernel_rfl
 i20:=by kernel_rfl
 i21:=by kernel_rfl
 i37:=by kernel_rfl
 i46:=by kernel_rfl
 i51:=by kernel_rfl
 i53:=by kernel_rfl
 i75:=by kernel_rfl
 i80:=by kernel_rfl
 i85:=by kernel_rfl
 i127:=by kernel_rfl
 i143:=by kernel_rfl
 i145:=by kernel_rfl
 i167:=by kernel_rfl
 i168:=by kernel_rfl
 i171:=by kernel_rfl
 i173:=by kernel_rfl
 i175:=by kernel_rfl
 i210:=by kernel_rfl
 i212:=by kernel_rfl
 i232:=by kernel_rfl
 i233:=by kernel_rfl
 m15:=by kernel_rfl
 m16:=by kernel_rfl
 m17:=by kernel_rfl
 m18:=by kernel_rfl
 m19:=by kernel_rfl
 c0:=by kernel_rfl
 c2:=by kernel_rfl
 c3:=by kernel_rfl
 c4:=by kernel_rfl
 c5:=by kernel_rfl
 c9:=by kernel_rfl
 c20:=by kernel_rfl
 c21:=by kernel_rfl
 c37:=by kernel_rfl
 c46:=by kernel_rfl
 c51:=by kernel_rfl
 c53:=by kernel_rfl
 c75:=by kernel_rfl
 c80:=by kernel_rfl
 c85:=by kernel_rfl
 c127:=by kernel_rfl
 c143:=by kernel_rfl
 c145:=by kernel_rfl
 c167:=by kernel_rfl
 c168:=by kernel_rfl
 c171:=by kernel_rfl
 c173:=by kernel_rfl
 c175:=by kernel_rfl
 c210:=by kernel_rfl
 c212:=by kernel_rfl
 c213:=by kernel_rfl
 c232:=by kernel_rfl
 c233:=by kernel_rfl}
def Tryz.akJ:Go.Shelf.Ren:=⟨λ|173=>145|246=>176|283=>206|284=>207|285=>208|286=>209|129=>232|317=>231|318=>233|319=>234|320=>235|337=>247|338=>248|n=>n,λ|2=>2|3=>3|9=>9|4=>4|171=>268|0=>0|53=>269|37=>220|5=>5|173=>272|212=>290|51=>280|20=>20|213=>291|46=>263|232=>310|233=>311|n=>n,λ|17=>1|18=>6|19=>7|n=>n⟩
theorem Tryz.P2:Go.Proofs.LaysM.n173 Tryz.prog Tryz.akJ:={
 mixed:=by kernel_rfl
 f129:=Tryz.func232.trans (congrArg some (by kernel_rfl))
 f173:=Tryz.func145.trans (congrArg some (by kernel_rfl))
 f246:=Tryz.func176.trans (congrArg some (by kernel_rfl))
 f283:=Tryz.func206.trans (congrArg some (by kernel_rfl))
 f284:=Tryz.func207.trans (congrArg some (by kernel_rfl))
 f285:=Tryz.func208.trans (congrArg some (by kernel_rfl))
 f286:=Tryz.func209.trans (congrArg some (by kernel_rfl))
 f317:=Tryz.func231.trans (congrArg some (by kernel_rfl))
 f318:=Tryz.func233.trans (congrArg some (by kernel_rfl))
 f319:=Tryz.func234.trans (congrArg some (by kernel_rfl))
 f320:=Tryz.func235.trans (congrArg some (by kernel_rfl))
 f337:=Tryz.func247.trans (congrArg some (by kernel_rfl))
 f338:=Tryz.func248.trans (congrArg some (by kernel_rfl))
 t0:=Tryz.underlying0
 a0:=Tryz.isAgg0
 z0:=Tryz.sizeOf0
 v0:=Tryz.zeroValue0
 t2:=Tryz.underlying2
 a2:=Tryz.isAgg2
 z2:=Tryz.sizeOf2
 v2:=Tryz.zeroValue2
 t3:=Tryz.underlying3
 a3:=Tryz.isAgg3
 z3:=Tryz.sizeOf3
 v3:=Tryz.zeroValue3
 t4:=Tryz.underlying4
 a4:=Tryz.isAgg4
 z4:=Tryz.sizeOf4
 v4:=Tryz.zeroValue4
 t5:=Tryz.underlying5
 a5:=Tryz.isAgg5
 z5:=Tryz.sizeOf5
 v5:=Tryz.zeroValue5
 t9:=Tryz.underlying9
 a9:=Tryz.isAgg9
 z9:=Tryz.sizeOf9
 v9:=Tryz.zeroValue9
 t20:=Tryz.underlying20
 a20:=Tryz.isAgg20
 z20:=Tryz.sizeOf20
 v20:=Tryz.zeroValue20
 t37:=Tryz.underlying220
 a37:=Tryz.isAgg220
 z37:=Tryz.sizeOf220
 v37:=Tryz.zeroValue220
 t46:=Tryz.underlying263
 a46:=Tryz.isAgg263
 z46:=Tryz.sizeOf263
 v46:=Tryz.zeroValue263
 t51:=Tryz.underlying280
 a51:=Tryz.isAgg280
 z51:=Tryz.sizeOf280
 v51:=Tryz.zeroValue280
 t53:=Tryz.underlying269
 a53:=Tryz.isAgg269
 z53:=Tryz.sizeOf269
 v53:=Tryz.zeroValue269
 t171:=Tryz.underlying268
 a171:=Tryz.isAgg268
 z171:=Tryz.sizeOf268
 v171:=Tryz.zeroValue268
 t173:=Tryz.underlying272
 a173:=Tryz.isAgg272
 z173:=Tryz.sizeOf272
 v173:=Tryz.zeroValue272
 t212:=Tryz.underlying290
 a212:=Tryz.isAgg290
 z212:=Tryz.sizeOf290
 v212:=Tryz.zeroValue290
 t213:=Tryz.underlying291
 a213:=Tryz.isAgg291
 z213:=Tryz.sizeOf291
 t232:=Tryz.underlying310
 a232:=Tryz.isAgg310
 z232:=Tryz.sizeOf310
 v232:=Tryz.zeroValue310
 t233:=Tryz.underlying311
 a233:=Tryz.isAgg311
 z233:=Tryz.sizeOf311
 v233:=Tryz.zeroValue311
 g17:=by kernel_rfl
 g18:=by kernel_rfl
 g19:=by kernel_rfl
 i0:=by kernel_rfl
 i2:=by kernel_rfl
 i3:=by kernel_rfl
 i4:=by kernel_rfl
 i5:=by kernel_rfl
 i9:=by kernel_rfl
 i20:=by kernel_rfl
 i37:=by kernel_rfl
 i46:=by kernel_rfl
 i51:=by kernel_rfl
 i53:=by kernel_rfl
 i171:=by kernel_rfl
 i173:=by kernel_rfl
 i212:=by kernel_rfl
 i232:=by kernel_rfl
 i233:=by kernel_rfl
 m17:=by kernel_rfl
 m18:=by kernel_rfl
 m19:=by kernel_rfl}
theorem akK:One aW (λx=>.string ⟨⟨x⟩⟩):=⟨λ_=>rfl,λw F x cs S=>by unfold aW;rw[aA]⟩
theorem Xp (n:Nat):xq n=Lib.decDigits n:=by
 induction n using Nat.strongRecOn with
 |_ n ih=>
  rw[xq,Lib.decDigits];by_cases h:n<10
  .rw[dif_pos h,dif_pos h]
  .rw[dif_neg h,dif_neg h,ih (n/10) (by omega)]
theorem akL (n:Int):FD n=Lib.itoa n:=by
 unfold FD Lib.itoa;rw[Xp,Xp]
theorem akM {w:World} (hg:tj w λ_=>False):Lib.TabIs Tryz.prog w "internal/strconv.uint64pow10" .u64 Lib.pow10Tab:=by
 obtain⟨_,_,o,g1,ty,fr,g2⟩:=hg (1,Ha) (by simp[Hb]);unfold Lib.TabIs World.var?;rw[show Tryz.prog.globalNamed "internal/strconv.uint64pow10" =some 1 by kernel_rfl];simp only[bind_some,g1,g2,Lib.pow10Tab,List.map_map];rfl
theorem akN {w:World} (k:Nat) (os:Array Obj):RowKit.Below w.heap.size w (Sort.grow (w.drewN k) os) where
 os:=rfl
 tape:=rfl
 output:=rfl
 size:=by simp[Sort.grow,World.drewN]
 block:=λb ab=>by
  show(w.heap++os)[b]? =_;rw[Array.getElem?_append_left ab]
theorem akO (a0 J:Int) (r:axa) (h:B4 a0 J=some r):aV ah 145 [.int .i64 a0,.int .i64 J] (.str r) []:=by
 unfold B4 at h;split at h
 .rename_i aC;obtain⟨bb,ad,rfl⟩:=aC;cases h;refine aV.strs rfl (enters_of Tryz.P2.f173 (by kernel_rfl) rfl) λw F X S vs r3 aQ=>?_;obtain⟨v0,v1,rfl⟩:∃v0 v1,vs=[v0,v1]:=by
   match vs,r3 with
   |[x,y],_=>exact⟨x,y,rfl⟩
  have g0:v0= .int .i64 a0:=p4 (aQ.ew 0);have g1:v1= .int .i64 10:=p4 (aQ.ew 1);subst g0 g1;rw[akL];refine(Any.strconv_FormatInt_10 Tryz.P2 a0 bb ad w (akM (aQ.gS.next (Nat.le_refl _) (λ_ _ _=>rfl) λ_ h=>h.elim))).mono ?_;rintro e aL ⟨rfl,k,os,rfl⟩;exact⟨rfl,akN k os⟩
 .cases h
theorem akP (a0:awZ) (J r:axa) (h:strings_Join a0 J=some r):aV ah 147 [.slice (a0.map aW),.str J] (.str r) []:=by
 unfold strings_Join at h;split at h
 .rename_i aC;cases h;refine aV.strs rfl (enters_of Tryz.P0.f156 (by kernel_rfl) rfl) λw F X S vs r3 aQ=>?_;obtain⟨v0,v1,rfl⟩:∃v0 v1,vs=[v0,v1]:=by
   match vs,r3 with
   |[x,y],_=>exact⟨x,y,rfl⟩
  have ad:v1= .string ⟨⟨J⟩⟩:=oT (aQ.ew 1);subst ad;rcases agd aQ (u:=0) akK rfl with⟨rfl,a,c,aE⟩|⟨b,o,cap,aE,ab,ar,an⟩
  .have aE:v0= .slice a 0 c:=aE;subst aE;exact(Any.strings_Join_none Tryz.P0 Tryz.Xn a c ⟨⟨J⟩⟩ w).mono λe aL ⟨he,hw⟩=>⟨he,hw▸RowKit.Below.refl _ _⟩
  .have aE:v0= .slice (some ⟨b,o,none⟩) a0.length cap:=aE;subst aE;have aN:(a0.map λx=>(⟨⟨x⟩⟩:ByteArray)).map (·.data.toList)=a0:=by rw[List.map_map];exact List.map_id _
   have:=Any.strings_Join Tryz.P0 Tryz.Xn b o cap (a0.map λx=>⟨⟨x⟩⟩) ⟨⟨J⟩⟩ w (λj x bE=>by
    rw[getElem?_map]at bE;obtain⟨y,hy,rfl⟩:=map_eq_some_iff.1 bE;exact an j y hy) ab (by rw[length_map];exact aC.1) (by rw[length_map];exact ar) (by rw[aN];exact aC.2)
   rw[aN,length_map]at this;exact this
 .cases h
section
open Go.RowKit
set_option maxHeartbeats 4000000
theorem akQ (n:Int) (bb: -9223372036854775808<=n) (ad:n<=9223372036854775807) (w:World) (JV:Lib.TabIs Tryz.prog w "internal/strconv.uint64pow10" .u64 Lib.pow10Tab):
  Calls Tryz.prog 107 #[.int .i64 n] w λe aL=>e= .returned (.string ⟨(Lib.itoa n).toArray⟩)/\∃k os,aL=Sort.grow (w.drewN k) os:=by
 go_enter Tryz.func107,Tryz.ntmps107
 go_wp2_with (go_at_call 145;refine(Any.strconv_FormatInt_10 Tryz.P2 n bb ad _ JV).mono ?_;rintro e aL ⟨rfl,k,os,rfl⟩)
 go_ret
 exact⟨rfl,k,os,rfl⟩
theorem akR {P:Program} {w aL:World} {name:String} {k:IntKind} {fc:axc} (h:Lib.TabIs P w name k fc) (ab:Below w.heap.size w aL):Lib.TabIs P aL name k fc:=by
 unfold Lib.TabIs World.var? at*;cases hg:P.globalNamed name with
 |none=>simp[hg]at h
 |some g=>
  simp only[hg,bind_some]at h⊢;have eB:g<w.heap.size:=by
   rcases Nat.lt_or_ge g w.heap.size with bB|bB
   .exact bB
   .rw[Array.getElem?_eq_none bB]at h;simp at h
  rw[ab.block g eB];exact h
theorem Xq {w aL:World} (h:Below w.heap.size w aL) (k:Nat) (os:Array Obj):Below w.heap.size w (Sort.grow (aL.drewN k) os) where
 os:=h.os
 tape:=h.tape
 output:=h.output
 size:=Nat.le_trans h.size (by simp[Sort.grow,World.drewN])
 block:=λb ab=>by
  have:=h.block b ab;rw[<-this];show(aL.heap++os)[b]? =_;rw[Array.getElem?_append_left (Nat.lt_of_lt_of_le ab h.size)]
theorem akS (s:axa) (aC:¬(Lib.trimPrefix s [45]).length<=18) (w:World):
  Calls Tryz.prog 139 #[.string ⟨⟨s⟩⟩] w λe aL=>e= .returned (.tuple #[.int .i64 0,.bool false])/\Below w.heap.size w aL:=by
 go_enter Tryz.func139,Tryz.ntmps139
 go_wp2_with (go_at_call 170;refine(Any.strings_TrimPrefix Tryz.P1 ⟨⟨s⟩⟩ ⟨#[45]⟩ _).mono ?_;rintro e aL ⟨rfl,rfl⟩)
 go_ret2
 exact⟨rfl,Below.refl _ _⟩
theorem akT (s:axa) (aC:(Lib.trimPrefix s [45]).length<=18) (aa:s.length<=1000) (ax:Lib.parseIntB 64 s=Lib.parseIntB 64 []) (bw:Value) (w:World) (aE:w.cell? ⟨2,0,none⟩=some bw) (akU:bw= .nilIface\/∃Lo Lp,bw= .iface Lo Lp):
  Calls Tryz.prog 139 #[.string ⟨⟨s⟩⟩] w λe aL=>e= .returned (.tuple #[.int .i64 0,.bool false])/\Below w.heap.size w aL:=by
 go_enter Tryz.func139,Tryz.ntmps139
 go_wp2_with (first|(go_at_call 170;refine(Any.strings_TrimPrefix Tryz.P1 ⟨⟨s⟩⟩ ⟨#[45]⟩ _).mono ?_;rintro e aL ⟨rfl,rfl⟩)|(go_at_call 171;refine(Any.strconv_ParseInt_10_at64_syntax Tryz.Xo ⟨⟨s⟩⟩ (Nat.le_trans aa (by decide)) ax bw _ aE akU).mono ?_))
 rintro e El ⟨N,rfl,-,-,ab⟩
 go_wp2
 go_ret2
 exact⟨rfl,ab⟩
theorem akV (s:axa) (aC:(Lib.trimPrefix s [45]).length<=18) (aa:s.length<=1000) (v:Int) (ax:Lib.parseIntB 64 s= .ok v) (bb: -9223372036854775808<=v) (ad:v<=9223372036854775807) (w:World) (JV:Lib.TabIs Tryz.prog w "internal/strconv.uint64pow10" .u64 Lib.pow10Tab):
  Calls Tryz.prog 139 #[.string ⟨⟨s⟩⟩] w λe aL=>e= .returned (.tuple #[.int .i64 (uE s).1,.bool (uE s).2])/\Below w.heap.size w aL:=by
 go_enter Tryz.func139,Tryz.ntmps139
 go_wp2_with (first|(go_at_call 170;refine(Any.strings_TrimPrefix Tryz.P1 ⟨⟨s⟩⟩ ⟨#[45]⟩ _).mono ?_;rintro e aL ⟨rfl,rfl⟩)|(go_at_call 171;refine(Any.strconv_ParseInt_10_at64_ok Tryz.Xo ⟨⟨s⟩⟩ (Nat.le_trans aa (by decide)) v ax _).mono ?_))
 rintro e El ⟨rfl,ab⟩;have akW:Lib.TabIs Tryz.prog El "internal/strconv.uint64pow10" .u64 Lib.pow10Tab:=by
  rcases ab with rfl|⟨t,rfl⟩
  .exact JV
  .exact akR JV (Lib.bytesWorld_below _ _ _)
 have H2:Below aL.heap.size aL El:=by
  rcases ab with rfl|⟨t,rfl⟩
  .exact Below.refl _ _
  .exact Lib.bytesWorld_below _ _ _
 clear ab
 go_wp2_with (go_at_call 107;refine(akQ v bb ad _ akW).mono ?_;rintro e aL ⟨rfl,k,os,rfl⟩)
 all_goals go_ret2
 all_goals (rename_i h)
 .have e:uE s=(0,false):=by
   unfold uE;rw[ax];simp only;rw[if_neg (by intro e;simp[e]at h)]
  rw[e];exact⟨rfl,Xq H2 _ _⟩
 .have e:uE s=(v,true):=by
   unfold uE;rw[ax];simp only;rw[if_pos (by simpa using h)]
  rw[e];exact⟨rfl,Xq H2 _ _⟩
theorem akX (s:axa):(Lib.trimPrefix s [45]).length=(if s.head? =some 45 then s.tail else s).length:=by
 unfold Lib.trimPrefix Lib.hasPrefix;cases s with
 |nil=>rfl
 |cons c r=>
  by_cases h:c=45
  .subst h;rw[if_pos (show(45::r).head? =some 45 from rfl),if_pos (by simp[isPrefixOf])];rfl
  .rw[if_neg (show¬(c::r).head? =some 45 from λe=>h (some.inj e)),if_neg (by simp[isPrefixOf];exact λe=>h e.symm)]
theorem akY (s:axa) (w:World) (hg:tj w λ_=>False):
  Calls Tryz.prog 139 #[.string ⟨⟨s⟩⟩] w λe aL=>e= .returned (.tuple #[.int .i64 (jV s).1,.bool (jV s).2])/\Below w.heap.size w aL:=by
 have aZ:=akX s;by_cases aC:(Lib.trimPrefix s [45]).length<=18
 .have aa:s.length<=1000:=by
   rw[aZ]at aC;split at aC
   .rw[length_tail]at aC;omega
   .omega
  obtain⟨ad,ae⟩:=akZ s (by rw[<-aZ];exact aC);rw[<-ae];rcases ax:Lib.parseIntB 64 s with v|_|_
  rotate_left
  .have e:uE s=(0,false):=by unfold uE;rw[ax]
   obtain⟨_,_,o,g1,bw,cs,ty,fr,g2,g3,g4⟩:=hg (2,Ln) (by simp[Hb]);rw[e];refine akT s aC aa ax bw w ?_ g4;simp only[World.cell?,g1,g2];simpa using g3
  .exact(ad ax).elim
  .have ab:=Lib.parseIntB_bounds ax;obtain⟨_,_,o,g1,ty,fr,g2⟩:=hg (1,Ha) (by simp[Hb]);refine akV s aC aa v ax (by have:=ab.1;simp at this;omega) (by have:=ab.2;simp at this;omega) w ?_;unfold Lib.TabIs World.var?;rw[show Tryz.prog.globalNamed "internal/strconv.uint64pow10" =some 1 by kernel_rfl];simp only[bind_some,g1,g2,Lib.pow10Tab,List.map_map];rfl
 .have e:jV s=(0,false):=by
   rw[aZ]at aC;unfold jV;split<;>rename_i h
   .rw[if_pos h]at aC;unfold pL;rw[if_neg (λbB=>aC bB.2.1)]
   .rw[if_neg h]at aC;unfold pL;rw[if_neg (λbB=>aC bB.2.1)]
  rw[e];exact akS s aC w
theorem ak0 (a0:axa) (r:Int×Bool) (h:Jx a0=some r):aV ah 139 [.str a0] (.tuple [.int .i64 r.1,.bool r.2]) []:=by
 obtain rfl:jV a0=r:=some.inj h;refine aV.below (v:=.tuple #[.int .i64 (jV a0).1,.bool (jV a0).2]) rfl (enters_of Tryz.func139 (by kernel_rfl) rfl) rfl
  ⟨_,rfl,rfl,λk d x al an=>?_⟩ (λw F=>?_) λw F X S vs r3 aQ=>?_
 .rcases k with _|_|k
  .simp at al an;subst al an;exact⟨rfl,λvs=>by simp,rfl⟩
  .simp at al an;subst al an;exact⟨rfl,λvs=>by simp,rfl⟩
  .simp at al
 .simp only[c8,je];rw[aA,bx];refine⟨[.int .i64 (jV a0).1],[.bool (jV a0).2],λ_=>False,λ_=>False,rfl,by rw[aA],?_,λ_ h=>h,λ_ h=>h,λ_ h=>h.elim⟩;rw[bx];exact⟨[.bool (jV a0).2],[],λ_=>False,λ_=>False,rfl,by rw[aA],by rw[bx],λ_ h=>h,λ_ h=>h,λ_ h=>h.elim⟩
 .obtain⟨v0,rfl⟩:∃v0,vs=[v0]:=by
   match vs,r3 with
   |[x],_=>exact⟨x,rfl⟩
  have g0:v0= .string ⟨⟨a0⟩⟩:=oT (aQ.ew 0);subst g0;exact akY a0 w (aQ.gS.next (Nat.le_refl _) (λ_ _ _=>rfl) λ_ h=>h.elim)
end
end Go.Proofs.YtmaepbgkcmjcjagGreatDoor
