/- Part of a proof that a law returns true for every input. No condition. -/
import Derived.Shelf.SlGeneric
import Derived.Ground.SlsfProg
import Derived.Shelf.SlLaysF
import Derived.Ground.NamesProg
import Derived.Shelf.Lays
import Derived.Shelf.Strings.BuilderX
import Derived.Shelf.LaysC
import Derived.Shelf.LaysM
import Derived.Shelf.Strings.Prefix
import Derived.Shelf.Strconv.ParseIntPublic10
import Derived.Shelf.Strconv.Itoa4
import Derived.WalkKit
import Derived.BigCall
import Derived.Test.YtcmimclaknmnbaaGreatDoorUV1x
import Derived.Shelf.Strings.OnBuilder
import Derived.Test.YtcmimclaknmnbaaGreatDoorFwQ
import Derived.Test.YtcmimclaknmnbaaGreatDoorFwX
import Derived.Test.YtcmimclaknmnbaaGreatDoorUV0x
import Derived.Shelf.SlSortCmp.NoneTotal
import Derived.Shelf.SlSortCmp.Whole1
import Derived.Deep.LoopGhost
import Derived.Deep.Draws
import Derived.Lib.Walk
import Derived.Sort.WalkB12
import Derived.Lib.SliceRun
import Derived.Lib.SlicesS
import Derived.Shelf.RegionOpenPlain
import Derived.Test.YtcmimclaknmnbaaGreatDoorFwM
import Derived.Test.YtcmimclaknmnbaaGreatDoorC3
namespace Go.Proofs.YtcmimclaknmnbaaGreatDoor
open List Option Go.IntKind Nat Or
open Go Go.cC Go.lT Go.Shelf
set_option maxRecDepth 100000
def Tryz.aeV:Go.Shelf.Ren:=⟨λ|173=>152|246=>168|283=>182|284=>183|285=>184|286=>185|129=>136|317=>197|318=>198|319=>199|320=>200|337=>206|338=>207|n=>n,λ|2=>2|3=>3|9=>9|4=>4|171=>207|0=>0|53=>164|37=>92|5=>5|173=>209|212=>223|51=>162|20=>20|213=>224|46=>120|232=>238|233=>239|n=>n,λ|17=>1|18=>6|19=>7|n=>n⟩
theorem Tryz.ann:Go.Proofs.Lays.n173 Tryz.prog Tryz.aeV:={
 mixed:=by kernel_rfl
 f129:=Tryz.func136.trans (congrArg some (by kernel_rfl))
 f173:=Tryz.func152.trans (congrArg some (by kernel_rfl))
 f246:=Tryz.func168.trans (congrArg some (by kernel_rfl))
 f283:=Tryz.func182.trans (congrArg some (by kernel_rfl))
 f284:=Tryz.func183.trans (congrArg some (by kernel_rfl))
 f285:=Tryz.func184.trans (congrArg some (by kernel_rfl))
 f286:=Tryz.func185.trans (congrArg some (by kernel_rfl))
 f317:=Tryz.func197.trans (congrArg some (by kernel_rfl))
 f318:=Tryz.func198.trans (congrArg some (by kernel_rfl))
 f319:=Tryz.func199.trans (congrArg some (by kernel_rfl))
 f320:=Tryz.func200.trans (congrArg some (by kernel_rfl))
 f337:=Tryz.func206.trans (congrArg some (by kernel_rfl))
 f338:=Tryz.func207.trans (congrArg some (by kernel_rfl))
 t0:=Tryz.underlying0
 a0:=Tryz.isAgg0
 z0:=Tryz.sizeOf0
 v0:=Tryz.zeroValue0
 t2:=Tryz.underlying2
 a2:=Tryz.isAgg2
 z2:=Tryz.sizeOf2
 v2:=Tryz.zeroValue2
 t3:=Tryz.underlying3
 a3:=Tryz.isAgg3
 z3:=Tryz.sizeOf3
 v3:=Tryz.zeroValue3
 t4:=Tryz.underlying4
 a4:=Tryz.isAgg4
 z4:=Tryz.sizeOf4
 v4:=Tryz.zeroValue4
 t5:=Tryz.underlying5
 a5:=Tryz.isAgg5
 z5:=Tryz.sizeOf5
 v5:=Tryz.zeroValue5
 t9:=Tryz.underlying9
 a9:=Tryz.isAgg9
 z9:=Tryz.sizeOf9
 v9:=Tryz.zeroValue9
 t20:=Tryz.underlying20
 a20:=Tryz.isAgg20
 z20:=Tryz.sizeOf20
 v20:=Tryz.zeroValue20
 t37:=Tryz.underlying92
 a37:=Tryz.isAgg92
 z37:=Tryz.sizeOf92
 v37:=Tryz.zeroValue92
 t46:=Tryz.underlying120
 a46:=Tryz.isAgg120
 z46:=Tryz.sizeOf120
 v46:=Tryz.zeroValue120
 t51:=Tryz.underlying162
 a51:=Tryz.isAgg162
 z51:=Tryz.sizeOf162
 v51:=Tryz.zeroValue162
 t53:=Tryz.underlying164
 a53:=Tryz.isAgg164
 z53:=Tryz.sizeOf164
 v53:=Tryz.zeroValue164
 t171:=Tryz.underlying207
 a171:=Tryz.isAgg207
 z171:=Tryz.sizeOf207
 v171:=Tryz.zeroValue207
 t173:=Tryz.underlying209
 a173:=Tryz.isAgg209
 z173:=Tryz.sizeOf209
 v173:=Tryz.zeroValue209
 t212:=Tryz.underlying223
 a212:=Tryz.isAgg223
 z212:=Tryz.sizeOf223
 v212:=Tryz.zeroValue223
 t213:=Tryz.underlying224
 a213:=Tryz.isAgg224
 z213:=Tryz.sizeOf224
 t232:=Tryz.underlying238
 a232:=Tryz.isAgg238
 z232:=Tryz.sizeOf238
 v232:=Tryz.zeroValue238
 t233:=Tryz.underlying239
 a233:=Tryz.isAgg239
 z233:=Tryz.sizeOf239
 v233:=Tryz.zeroValue239
 g17:=by kernel_rfl
 g18:=by kernel_rfl
 g19:=by kernel_rfl}
def Tryz.R_:Go.Shelf.Ren:=⟨λ|156=>126|165=>153|166=>154|169=>155|240=>169|241=>170|276=>186|277=>187|n=>n,λ|31=>26|9=>9|3=>3|4=>4|0=>0|20=>20|72=>180|76=>184|70=>178|37=>92|75=>183|127=>198|164=>211|5=>5|80=>186|n=>n,λ|n=>n⟩
theorem Tryz.KO:Go.Proofs.Lays.n156 Tryz.prog Tryz.R_:={
 mixed:=by kernel_rfl
 f156:=Tryz.func126.trans (congrArg some (by kernel_rfl))
 f165:=Tryz.func153.trans (congrArg some (by kernel_rfl))
 f166:=Tryz.func154.trans (congrArg some (by kernel_rfl))
 f169:=Tryz.func155.trans (congrArg some (by kernel_rfl))
 f240:=Tryz.func169.trans (congrArg some (by kernel_rfl))
 f241:=Tryz.func170.trans (congrArg some (by kernel_rfl))
 f276:=Tryz.func186.trans (congrArg some (by kernel_rfl))
 f277:=Tryz.func187.trans (congrArg some (by kernel_rfl))
 t0:=Tryz.underlying0
 a0:=Tryz.isAgg0
 z0:=Tryz.sizeOf0
 v0:=Tryz.zeroValue0
 t3:=Tryz.underlying3
 a3:=Tryz.isAgg3
 z3:=Tryz.sizeOf3
 v3:=Tryz.zeroValue3
 t4:=Tryz.underlying4
 a4:=Tryz.isAgg4
 z4:=Tryz.sizeOf4
 v4:=Tryz.zeroValue4
 t9:=Tryz.underlying9
 a9:=Tryz.isAgg9
 z9:=Tryz.sizeOf9
 v9:=Tryz.zeroValue9
 t20:=Tryz.underlying20
 a20:=Tryz.isAgg20
 z20:=Tryz.sizeOf20
 v20:=Tryz.zeroValue20
 t31:=Tryz.underlying26
 a31:=Tryz.isAgg26
 z31:=Tryz.sizeOf26
 v31:=Tryz.zeroValue26
 t37:=Tryz.underlying92
 a37:=Tryz.isAgg92
 z37:=Tryz.sizeOf92
 v37:=Tryz.zeroValue92
 t70:=Tryz.underlying178
 a70:=Tryz.isAgg178
 z70:=Tryz.sizeOf178
 v70:=Tryz.zeroValue178
 t72:=Tryz.underlying180
 a72:=Tryz.isAgg180
 z72:=Tryz.sizeOf180
 v72:=Tryz.zeroValue180
 t75:=Tryz.underlying183
 a75:=Tryz.isAgg183
 z75:=Tryz.sizeOf183
 v75:=Tryz.zeroValue183
 t76:=Tryz.underlying184
 a76:=Tryz.isAgg184
 z76:=Tryz.sizeOf184
 v76:=Tryz.zeroValue184
 t127:=Tryz.underlying198
 a127:=Tryz.isAgg198
 z127:=Tryz.sizeOf198
 v127:=Tryz.zeroValue198
 t164:=Tryz.underlying211
 a164:=Tryz.isAgg211
 z164:=Tryz.sizeOf211
 v164:=Tryz.zeroValue211}
theorem Tryz.Sa:Builder.Extra Tryz.prog Tryz.R_:={
 sizeBuilder:=by kernel_rfl
 liesBuilder:=by kernel_rfl
 t5:=Tryz.underlying5
 a5:=Tryz.isAgg5
 z5:=Tryz.sizeOf5
 v5:=Tryz.zeroValue5
 infoByte:=by kernel_rfl
 cellsByte:=by kernel_rfl
 sizeByte:=by kernel_rfl
 neB5:=by decide}
def Tryz.aeW:Go.Shelf.Ren:=⟨λ|101=>162|208=>176|206=>190|n=>n,λ|9=>9|4=>4|3=>3|n=>n,λ|n=>n⟩
theorem Tryz.KP:Go.Proofs.Lays.n101 Tryz.prog Tryz.aeW:={
 mixed:=by kernel_rfl
 f101:=Tryz.func162.trans (congrArg some (by kernel_rfl))
 f206:=Tryz.func190.trans (congrArg some (by kernel_rfl))
 f208:=Tryz.func176.trans (congrArg some (by kernel_rfl))
 t3:=Tryz.underlying3
 a3:=Tryz.isAgg3
 z3:=Tryz.sizeOf3
 v3:=Tryz.zeroValue3
 t4:=Tryz.underlying4
 a4:=Tryz.isAgg4
 z4:=Tryz.sizeOf4
 v4:=Tryz.zeroValue4
 t9:=Tryz.underlying9
 a9:=Tryz.isAgg9
 z9:=Tryz.sizeOf9
 v9:=Tryz.zeroValue9}
def Tryz.aeX:Go.Shelf.Ren:=⟨λ|174=>163|247=>177|245=>178|287=>191|279=>192|280=>193|281=>194|282=>195|321=>201|322=>202|316=>203|171=>205|205=>204|243=>208|246=>168|283=>182|284=>183|285=>184|286=>185|129=>136|317=>197|318=>198|319=>199|320=>200|337=>206|338=>207|n=>n,λ|9=>9|3=>3|2=>2|75=>183|85=>194|4=>4|167=>216|5=>5|53=>164|175=>217|46=>120|168=>219|37=>92|0=>0|210=>229|21=>21|127=>198|145=>237|143=>235|171=>207|173=>209|212=>223|51=>162|20=>20|213=>224|232=>238|233=>239|80=>186|n=>n,λ|15=>2|16=>3|17=>1|18=>6|19=>7|n=>n⟩
theorem Tryz.Sb:Go.Proofs.LaysC.n174 Tryz.prog Tryz.aeX:={
 mixed:=by kernel_rfl
 f129:=Tryz.func136.trans (congrArg some (by kernel_rfl))
 f171:=Tryz.func205.trans (congrArg some (by kernel_rfl))
 f174:=Tryz.func163.trans (congrArg some (by kernel_rfl))
 f205:=Tryz.func204.trans (congrArg some (by kernel_rfl))
 f243:=Tryz.func208.trans (congrArg some (by kernel_rfl))
 f245:=Tryz.func178.trans (congrArg some (by kernel_rfl))
 f246:=Tryz.func168.trans (congrArg some (by kernel_rfl))
 f247:=Tryz.func177.trans (congrArg some (by kernel_rfl))
 f279:=Tryz.func192.trans (congrArg some (by kernel_rfl))
 f280:=Tryz.func193.trans (congrArg some (by kernel_rfl))
 f281:=Tryz.func194.trans (congrArg some (by kernel_rfl))
 f282:=Tryz.func195.trans (congrArg some (by kernel_rfl))
 f283:=Tryz.func182.trans (congrArg some (by kernel_rfl))
 f284:=Tryz.func183.trans (congrArg some (by kernel_rfl))
 f285:=Tryz.func184.trans (congrArg some (by kernel_rfl))
 f286:=Tryz.func185.trans (congrArg some (by kernel_rfl))
 f287:=Tryz.func191.trans (congrArg some (by kernel_rfl))
 f316:=Tryz.func203.trans (congrArg some (by kernel_rfl))
 f317:=Tryz.func197.trans (congrArg some (by kernel_rfl))
 f318:=Tryz.func198.trans (congrArg some (by kernel_rfl))
 f319:=Tryz.func199.trans (congrArg some (by kernel_rfl))
 f320:=Tryz.func200.trans (congrArg some (by kernel_rfl))
 f321:=Tryz.func201.trans (congrArg some (by kernel_rfl))
 f322:=Tryz.func202.trans (congrArg some (by kernel_rfl))
 f337:=Tryz.func206.trans (congrArg some (by kernel_rfl))
 f338:=Tryz.func207.trans (congrArg some (by kernel_rfl))
 t0:=Tryz.underlying0
 a0:=Tryz.isAgg0
 z0:=Tryz.sizeOf0
 v0:=Tryz.zeroValue0
 t2:=Tryz.underlying2
 a2:=Tryz.isAgg2
 z2:=Tryz.sizeOf2
 v2:=Tryz.zeroValue2
 t3:=Tryz.underlying3
 a3:=Tryz.isAgg3
 z3:=Tryz.sizeOf3
 v3:=Tryz.zeroValue3
 t4:=Tryz.underlying4
 a4:=Tryz.isAgg4
 z4:=Tryz.sizeOf4
 v4:=Tryz.zeroValue4
 t5:=Tryz.underlying5
 a5:=Tryz.isAgg5
 z5:=Tryz.sizeOf5
 v5:=Tryz.zeroValue5
 t9:=Tryz.underlying9
 a9:=Tryz.isAgg9
 z9:=Tryz.sizeOf9
 v9:=Tryz.zeroValue9
 t20:=Tryz.underlying20
 a20:=Tryz.isAgg20
 z20:=Tryz.sizeOf20
 v20:=Tryz.zeroValue20
 t21:=Tryz.underlying21
 a21:=Tryz.isAgg21
 z21:=Tryz.sizeOf21
 v21:=Tryz.zeroValue21
 t37:=Tryz.underlying92
 a37:=Tryz.isAgg92
 z37:=Tryz.sizeOf92
 v37:=Tryz.zeroValue92
 t46:=Tryz.underlying120
 a46:=Tryz.isAgg120
 z46:=Tryz.sizeOf120
 v46:=Tryz.zeroValue120
 t51:=Tryz.underlying162
 a51:=Tryz.isAgg162
 z51:=Tryz.sizeOf162
 v51:=Tryz.zeroValue162
 t53:=Tryz.underlying164
 a53:=Tryz.isAgg164
 z53:=Tryz.sizeOf164
 v53:=Tryz.zeroValue164
 t75:=Tryz.underlying183
 a75:=Tryz.isAgg183
 z75:=Tryz.sizeOf183
 v75:=Tryz.zeroValue183
 t85:=Tryz.underlying194
 a85:=Tryz.isAgg194
 z85:=Tryz.sizeOf194
 v85:=Tryz.zeroValue194
 t127:=Tryz.underlying198
 a127:=Tryz.isAgg198
 z127:=Tryz.sizeOf198
 v127:=Tryz.zeroValue198
 t143:=Tryz.underlying235
 a143:=Tryz.isAgg235
 z143:=Tryz.sizeOf235
 v143:=Tryz.zeroValue235
 t145:=Tryz.underlying237
 a145:=Tryz.isAgg237
 z145:=Tryz.sizeOf237
 v145:=Tryz.zeroValue237
 t167:=Tryz.underlying216
 a167:=Tryz.isAgg216
 z167:=Tryz.sizeOf216
 v167:=Tryz.zeroValue216
 t168:=Tryz.underlying219
 a168:=Tryz.isAgg219
 z168:=Tryz.sizeOf219
 v168:=Tryz.zeroValue219
 t171:=Tryz.underlying207
 a171:=Tryz.isAgg207
 z171:=Tryz.sizeOf207
 v171:=Tryz.zeroValue207
 t173:=Tryz.underlying209
 a173:=Tryz.isAgg209
 z173:=Tryz.sizeOf209
 v173:=Tryz.zeroValue209
 t175:=Tryz.underlying217
 a175:=Tryz.isAgg217
 z175:=Tryz.sizeOf217
 v175:=Tryz.zeroValue217
 t210:=Tryz.underlying229
 a210:=Tryz.isAgg229
 z210:=Tryz.sizeOf229
 v210:=Tryz.zeroValue229
 t212:=Tryz.underlying223
 a212:=Tryz.isAgg223
 z212:=Tryz.sizeOf223
 v212:=Tryz.zeroValue223
 t213:=Tryz.underlying224
 a213:=Tryz.isAgg224
 z213:=Tryz.sizeOf224
 t232:=Tryz.underlying238
 a232:=Tryz.isAgg238
 z232:=Tryz.sizeOf238
 v232:=Tryz.zeroValue238
 t233:=Tryz.underlying239
 a233:=Tryz.isAgg239
 z233:=Tryz.sizeOf239
 v233:=Tryz.zeroValue239
 g15:=by kernel_rfl
 g16:=by kernel_rfl
 g17:=by kernel_rfl
 g18:=by kernel_rfl
 g19:=by kernel_rfl
 t80:=Tryz.underlying186
 a80:=Tryz.isAgg186
 z80:=Tryz.sizeOf186
 v80:=Tryz.zeroValue186
 i0:=by kernel_rfl
 i2:=by kernel_rfl
 i3:=by kernel_rfl
 i4:=by kernel_rfl
 i5:=by kernel_rfl
 i9:=by kernel_rfl
 i20:=by kernel_rfl
 i21:=by kernel_rfl
 i37:=by kernel_rfl
 i46:=by kernel_rfl
 i51:=by kernel_rfl
 i53:=by kernel_rfl
 i75:=by kernel_rfl
 i80:=by kernel_rfl
 i85:=by kernel_rfl
 i127:=by kernel_rfl
 i143:=by kernel_rfl
 i145:=by kernel_rfl
 i167:=by kernel_rfl
 i168:=by kernel_rfl
 i171:=by kernel_rfl
 i173:=by kernel_rfl
 i175:=by kernel_rfl
 i210:=by kernel_rfl
 i212:=by kernel_rfl
 i232:=by kernel_rfl
 i233:=by kernel_rfl
 m15:=by kernel_rfl
 m16:=by kernel_rfl
 m17:=by kernel_rfl
 m18:=by kernel_rfl
 m19:=by kernel_rfl
 c0:=by kernel_rfl
 c2:=by kernel_rfl
 c3:=by kernel_rfl
 c4:=by kernel_rfl
 c5:=by kernel_rfl
 c9:=by kernel_rfl
 c20:=by kernel_rfl
 c21:=by kernel_rfl
 c37:=by kernel_rfl
 c46:=by kernel_rfl
 c51:=by kernel_rfl
 c53:=by kernel_rfl
 c75:=by kernel_rfl
 c80:=by kernel_rfl
 c85:=by kernel_rfl
 c127:=by kernel_rfl
 c143:=by kernel_rfl
 c145:=by kernel_rfl
 c167:=by kernel_rfl
 c168:=by kernel_rfl
 c171:=by kernel_rfl
 c173:=by kernel_rfl
 c175:=by kernel_rfl
 c210:=by kernel_rfl
 c212:=by kernel_rfl
 c213:=by kernel_rfl
 c232:=by kernel_rfl
 c233:=by kernel_rfl}
def Tryz.aeY:Go.Shelf.Ren:=⟨λ|173=>152|246=>168|283=>182|284=>183|285=>184|286=>185|129=>136|317=>197|318=>198|319=>199|320=>200|337=>206|338=>207|n=>n,λ|2=>2|3=>3|9=>9|4=>4|171=>207|0=>0|53=>164|37=>92|5=>5|173=>209|212=>223|51=>162|20=>20|213=>224|46=>120|232=>238|233=>239|n=>n,λ|17=>1|18=>6|19=>7|n=>n⟩
theorem Tryz.KQ:Go.Proofs.LaysM.n173 Tryz.prog Tryz.aeY:={
 mixed:=by kernel_rfl
 f129:=Tryz.func136.trans (congrArg some (by kernel_rfl))
 f173:=Tryz.func152.trans (congrArg some (by kernel_rfl))
 f246:=Tryz.func168.trans (congrArg some (by kernel_rfl))
 f283:=Tryz.func182.trans (congrArg some (by kernel_rfl))
 f284:=Tryz.func183.trans (congrArg some (by kernel_rfl))
 f285:=Tryz.func184.trans (congrArg some (by kernel_rfl))
 f286:=Tryz.func185.trans (congrArg some (by kernel_rfl))
 f317:=Tryz.func197.trans (congrArg some (by kernel_rfl))
 f318:=Tryz.func198.trans (congrArg some (by kernel_rfl))
 f319:=Tryz.func199.trans (congrArg some (by kernel_rfl))
 f320:=Tryz.func200.trans (congrArg some (by kernel_rfl))
 f337:=Tryz.func206.trans (congrArg some (by kernel_rfl))
 f338:=Tryz.func207.trans (congrArg some (by kernel_rfl))
 t0:=Tryz.underlying0
 a0:=Tryz.isAgg0
 z0:=Tryz.sizeOf0
 v0:=Tryz.zeroValue0
 t2:=Tryz.underlying2
 a2:=Tryz.isAgg2
 z2:=Tryz.sizeOf2
 v2:=Tryz.zeroValue2
 t3:=Tryz.underlying3
 a3:=Tryz.isAgg3
 z3:=Tryz.sizeOf3
 v3:=Tryz.zeroValue3
 t4:=Tryz.underlying4
 a4:=Tryz.isAgg4
 z4:=Tryz.sizeOf4
 v4:=Tryz.zeroValue4
 t5:=Tryz.underlying5
 a5:=Tryz.isAgg5
 z5:=Tryz.sizeOf5
 v5:=Tryz.zeroValue5
 t9:=Tryz.underlying9
 a9:=Tryz.isAgg9
 z9:=Tryz.sizeOf9
 v9:=Tryz.zeroValue9
 t20:=Tryz.underlying20
 a20:=Tryz.isAgg20
 z20:=Tryz.sizeOf20
 v20:=Tryz.zeroValue20
 t37:=Tryz.underlying92
 a37:=Tryz.isAgg92
 z37:=Tryz.sizeOf92
 v37:=Tryz.zeroValue92
 t46:=Tryz.underlying120
 a46:=Tryz.isAgg120
 z46:=Tryz.sizeOf120
 v46:=Tryz.zeroValue120
 t51:=Tryz.underlying162
 a51:=Tryz.isAgg162
 z51:=Tryz.sizeOf162
 v51:=Tryz.zeroValue162
 t53:=Tryz.underlying164
 a53:=Tryz.isAgg164
 z53:=Tryz.sizeOf164
 v53:=Tryz.zeroValue164
 t171:=Tryz.underlying207
 a171:=Tryz.isAgg207
 z171:=Tryz.sizeOf207
 v171:=Tryz.zeroValue207
 t173:=Tryz.underlying209
 a173:=Tryz.isAgg209
 z173:=Tryz.sizeOf209
 v173:=Tryz.zeroValue209
 t212:=Tryz.underlying223
 a212:=Tryz.isAgg223
 z212:=Tryz.sizeOf223
 v212:=Tryz.zeroValue223
 t213:=Tryz.underlying224
 a213:=Tryz.isAgg224
 z213:=Tryz.sizeOf224
 t232:=Tryz.underlying238
 a232:=Tryz.isAgg238
 z232:=Tryz.sizeOf238
 v232:=Tryz.zeroValue238
 t233:=Tryz.underlying239
 a233:=Tryz.isAgg239
 z233:=Tryz.sizeOf239
 v233:=Tryz.zeroValue239
 g17:=by kernel_rfl
 g18:=by kernel_rfl
 g19:=by kernel_rfl
 i0:=by kernel_rfl
 i2:=by kernel_rfl
 i3:=by kernel_rfl
 i4:=by kernel_rfl
 i5:=by kernel_rfl
 i9:=by kernel_rfl
 i20:=by kernel_rfl
 i37:=by kernel_rfl
 i46:=by kernel_rfl
 i51:=by kernel_rfl
 i53:=by kernel_rfl
 i171:=by kernel_rfl
 i173:=by kernel_rfl
 i212:=by kernel_rfl
 i232:=by kernel_rfl
 i233:=by kernel_rfl
 m17:=by kernel_rfl
 m18:=by kernel_rfl
 m19:=by kernel_rfl}
def Tryz.aeZ:Go.Shelf.Ren:=⟨λ|6=>57|15=>92|14=>91|28=>135|29=>136|20=>127|21=>128|22=>129|23=>130|24=>131|25=>132|26=>133|27=>134|46=>156|47=>157|48=>158|49=>159|50=>160|57=>171|n=>n,λ|22=>29|24=>22|25=>87|3=>3|39=>120|0=>0|53=>162|55=>164|4=>4|46=>155|45=>154|50=>159|5=>5|9=>9|66=>187|70=>191|76=>199|77=>200|n=>n,λ|n=>n⟩
theorem Tryz.KR:Go.Proofs.SlLaysF.n6 Tryz.prog Tryz.aeZ:={
 mixed:=by kernel_rfl
 f6:=⟨Tryz.f57.name,by decide,Tryz.func57.trans (congrArg some (by kernel_rfl))⟩
 f14:=⟨Tryz.f91.name,by decide,Tryz.func91.trans (congrArg some (by kernel_rfl))⟩
 f15:=Tryz.func92.trans (congrArg some (by kernel_rfl))
 f20:=⟨Tryz.f127.name,by decide,Tryz.func127.trans (congrArg some (by kernel_rfl))⟩
 f21:=⟨Tryz.f128.name,by decide,Tryz.func128.trans (congrArg some (by kernel_rfl))⟩
 f22:=⟨Tryz.f129.name,by decide,Tryz.func129.trans (congrArg some (by kernel_rfl))⟩
 f23:=⟨Tryz.f130.name,by decide,Tryz.func130.trans (congrArg some (by kernel_rfl))⟩
 f24:=⟨Tryz.f131.name,by decide,Tryz.func131.trans (congrArg some (by kernel_rfl))⟩
 f25:=⟨Tryz.f132.name,by decide,Tryz.func132.trans (congrArg some (by kernel_rfl))⟩
 f26:=⟨Tryz.f133.name,by decide,Tryz.func133.trans (congrArg some (by kernel_rfl))⟩
 f27:=⟨Tryz.f134.name,by decide,Tryz.func134.trans (congrArg some (by kernel_rfl))⟩
 f28:=Tryz.func135.trans (congrArg some (by kernel_rfl))
 f29:=Tryz.func136.trans (congrArg some (by kernel_rfl))
 f46:=⟨Tryz.f156.name,by decide,Tryz.func156.trans (congrArg some (by kernel_rfl))⟩
 f47:=Tryz.func157.trans (congrArg some (by kernel_rfl))
 f48:=Tryz.func158.trans (congrArg some (by kernel_rfl))
 f49:=⟨Tryz.f159.name,by decide,Tryz.func159.trans (congrArg some (by kernel_rfl))⟩
 f50:=⟨Tryz.f160.name,by decide,Tryz.func160.trans (congrArg some (by kernel_rfl))⟩
 f57:=⟨Tryz.f171.name,by decide,Tryz.func171.trans (congrArg some (by kernel_rfl))⟩
 t0:=Tryz.underlying0
 a0:=Tryz.isAgg0
 z0:=Tryz.sizeOf0
 v0:=Tryz.zeroValue0
 t3:=Tryz.underlying3
 a3:=Tryz.isAgg3
 z3:=Tryz.sizeOf3
 v3:=Tryz.zeroValue3
 t4:=Tryz.underlying4
 a4:=Tryz.isAgg4
 z4:=Tryz.sizeOf4
 v4:=Tryz.zeroValue4
 t5:=Tryz.underlying5
 a5:=Tryz.isAgg5
 z5:=Tryz.sizeOf5
 v5:=Tryz.zeroValue5
 t9:=Tryz.underlying9
 a9:=Tryz.isAgg9
 z9:=Tryz.sizeOf9
 v9:=Tryz.zeroValue9
 t22:=Tryz.underlying29
 a22:=Tryz.isAgg29
 z22:=Tryz.sizeOf29
 v22:=Tryz.zeroValue29
 a24:=Tryz.isAgg22
 z24:=Tryz.sizeOf22
 t25:=Tryz.underlying87
 a25:=Tryz.isAgg87
 z25:=Tryz.sizeOf87
 v25:=Tryz.zeroValue87
 t39:=Tryz.underlying120
 a39:=Tryz.isAgg120
 z39:=Tryz.sizeOf120
 v39:=Tryz.zeroValue120
 t45:=Tryz.underlying154
 a45:=Tryz.isAgg154
 z45:=Tryz.sizeOf154
 v45:=Tryz.zeroValue154
 t46:=Tryz.underlying155
 a46:=Tryz.isAgg155
 z46:=Tryz.sizeOf155
 v46:=Tryz.zeroValue155
 t50:=Tryz.underlying159
 a50:=Tryz.isAgg159
 z50:=Tryz.sizeOf159
 v50:=Tryz.zeroValue159
 t53:=Tryz.underlying162
 a53:=Tryz.isAgg162
 z53:=Tryz.sizeOf162
 v53:=Tryz.zeroValue162
 t55:=Tryz.underlying164
 a55:=Tryz.isAgg164
 z55:=Tryz.sizeOf164
 v55:=Tryz.zeroValue164
 t66:=Tryz.underlying187
 a66:=Tryz.isAgg187
 z66:=Tryz.sizeOf187
 v66:=Tryz.zeroValue187
 t70:=Tryz.underlying191
 a70:=Tryz.isAgg191
 z70:=Tryz.sizeOf191
 v70:=Tryz.zeroValue191
 t76:=Tryz.underlying199
 a76:=Tryz.isAgg199
 z76:=Tryz.sizeOf199
 v76:=Tryz.zeroValue199
 t77:=Tryz.underlying200
 a77:=Tryz.isAgg200
 z77:=Tryz.sizeOf200
 v77:=Tryz.zeroValue200}
theorem ae0:One b3 (λx=>.string ⟨⟨x⟩⟩):=⟨λ_=>rfl,λw F x cs S=>by unfold b3;rw[ar]⟩
theorem Sc (n:Nat):wG n=Lib.decDigits n:=by
 induction n using Nat.strongRecOn with
 |_ n ih=>
  rw[wG,Lib.decDigits];by_cases h:n<10
  .rw[dif_pos h,dif_pos h]
  .rw[dif_neg h,dif_neg h,ih (n/10) (by omega)]
theorem ae1 (n:Int):E2 n=Lib.itoa n:=by
 unfold E2 Lib.itoa;rw[Sc,Sc]
theorem ae2 {w:World} (hg:rf w λ_=>False):Lib.TabIs Tryz.prog w "internal/strconv.uint64pow10" .u64 Lib.pow10Tab:=by
 obtain⟨_,_,o,g1,ty,fr,g2⟩:=hg (1,CY) (by simp[CZ]);unfold Lib.TabIs World.var?;rw[show Tryz.prog.globalNamed "internal/strconv.uint64pow10" =some 1 by kernel_rfl];simp only[bind_some,g1,g2,Lib.pow10Tab,List.map_map];rfl
theorem ae3 {w:World} (k:Nat) (os:Array Obj):RowKit.Below w.heap.size w (Sort.grow (w.drewN k) os) where
 os:=rfl
 tape:=rfl
 output:=rfl
 size:=by simp[Sort.grow,World.drewN]
 block:=λb R=>by
  show(w.heap++os)[b]? =_;rw[Array.getElem?_append_left R]
theorem ae4 (a0 J:Int) (r:anR) (h:BL a0 J=some r):aY ao 152 [.int .i64 a0,.int .i64 J] (.str r) []:=by
 unfold BL at h;split at h
 .rename_i hl;obtain⟨ba,h1,rfl⟩:=hl;cases h;refine aY.strs rfl (enters_of Tryz.KQ.f173 (by kernel_rfl) rfl) λw F X S vs jT ax=>?_;obtain⟨v0,v1,rfl⟩:∃v0 v1,vs=[v0,v1]:=by
   match vs,jT with
   |[x,y],_=>exact⟨x,y,rfl⟩
  have g0:v0= .int .i64 a0:=oq (ax.cD 0);have g1:v1= .int .i64 10:=oq (ax.cD 1);subst g0 g1;rw[ae1];refine(Any.strconv_FormatInt_10 Tryz.KQ a0 ba h1 w (ae2 (ax.e4.next (Nat.le_refl _) (λ_ _ _=>rfl) λ_ h=>h.elim))).mono ?_;rintro e aq ⟨rfl,k,os,rfl⟩;exact⟨rfl,ae3 k os⟩
 .cases h
theorem ae5 (a0:anQ) (J r:anR) (h:strings_Join a0 J=some r):aY ao 126 [.slice (a0.map b3),.str J] (.str r) []:=by
 unfold strings_Join at h;split at h
 .rename_i hl;cases h;refine aY.strs rfl (enters_of Tryz.KO.f156 (by kernel_rfl) rfl) λw F X S vs jT ax=>?_;obtain⟨v0,v1,rfl⟩:∃v0 v1,vs=[v0,v1]:=by
   match vs,jT with
   |[x,y],_=>exact⟨x,y,rfl⟩
  have h1:v1= .string ⟨⟨J⟩⟩:=nx (ax.cD 1);subst h1;rcases aar ax (u:=0) ae0 rfl with⟨rfl,a,c,aD⟩|⟨b,o,cap,aD,R,ai,ag⟩
  .have aD:v0= .slice a 0 c:=aD;subst aD;exact(Any.strings_Join_none Tryz.KO Tryz.Sa a c ⟨⟨J⟩⟩ w).mono λe aq ⟨he,hw⟩=>⟨he,hw▸RowKit.Below.refl _ _⟩
  .have aD:v0= .slice (some ⟨b,o,none⟩) a0.length cap:=aD;subst aD;have aI:(a0.map λx=>(⟨⟨x⟩⟩:ByteArray)).map (·.data.toList)=a0:=by rw[List.map_map];exact List.map_id _
   have:=Any.strings_Join Tryz.KO Tryz.Sa b o cap (a0.map λx=>⟨⟨x⟩⟩) ⟨⟨J⟩⟩ w (λj x bo=>by
    rw[getElem?_map]at bo;obtain⟨y,hy,rfl⟩:=map_eq_some_iff.1 bo;exact ag j y hy) R (by rw[length_map];exact hl.1) (by rw[length_map];exact ai) (by rw[aI];exact hl.2)
   rw[aI,length_map]at this;exact this
 .cases h
section
open Go.RowKit
set_option maxHeartbeats 4000000
theorem ae6 (n:Int) (ba: -9223372036854775808<=n) (h1:n<=9223372036854775807) (w:World) (Fx:Lib.TabIs Tryz.prog w "internal/strconv.uint64pow10" .u64 Lib.pow10Tab):
  Calls Tryz.prog 125 #[.int .i64 n] w λe aq=>e= .returned (.string ⟨(Lib.itoa n).toArray⟩)/\∃k os,aq=Sort.grow (w.drewN k) os:=by
 go_enter Tryz.func125,Tryz.ntmps125
 go_wp2_with (go_at_call 152;refine(Any.strconv_FormatInt_10 Tryz.KQ n ba h1 _ Fx).mono ?_;rintro e aq ⟨rfl,k,os,rfl⟩)
 go_ret
 exact⟨rfl,k,os,rfl⟩
theorem ae7 {P:Program} {w aq:World} {name:String} {k:IntKind} {dX:anT} (h:Lib.TabIs P w name k dX) (R:Below w.heap.size w aq):Lib.TabIs P aq name k dX:=by
 unfold Lib.TabIs World.var? at*;cases hg:P.globalNamed name with
 |none=>simp[hg]at h
 |some g=>
  simp only[hg,bind_some]at h⊢;have cp:g<w.heap.size:=by
   rcases Nat.lt_or_ge g w.heap.size with bn|bn
   .exact bn
   .rw[Array.getElem?_eq_none bn]at h;simp at h
  rw[R.block g cp];exact h
theorem Sd {w aq:World} (h:Below w.heap.size w aq) (k:Nat) (os:Array Obj):Below w.heap.size w (Sort.grow (aq.drewN k) os) where
 os:=h.os
 tape:=h.tape
 output:=h.output
 size:=Nat.le_trans h.size (by simp[Sort.grow,World.drewN])
 block:=λb R=>by
  have:=h.block b R;rw[<-this];show(aq.heap++os)[b]? =_;rw[Array.getElem?_append_left (Nat.lt_of_lt_of_le R h.size)]
theorem ae8 (s:anR) (hl:¬(Lib.trimPrefix s [45]).length<=18) (w:World):
  Calls Tryz.prog 145 #[.string ⟨⟨s⟩⟩] w λe aq=>e= .returned (.tuple #[.int .i64 0,.bool false])/\Below w.heap.size w aq:=by
 go_enter Tryz.func145,Tryz.ntmps145
 go_wp2_with (go_at_call 162;refine(Any.strings_TrimPrefix Tryz.KP ⟨⟨s⟩⟩ ⟨#[45]⟩ _).mono ?_;rintro e aq ⟨rfl,rfl⟩)
 go_ret2
 exact⟨rfl,Below.refl _ _⟩
theorem ae9 (s:anR) (hl:(Lib.trimPrefix s [45]).length<=18) (U:s.length<=1000) (al:Lib.parseIntB 64 s=Lib.parseIntB 64 []) (a6:Value) (w:World) (aD:w.cell? ⟨2,0,none⟩=some a6) (ae_:a6= .nilIface\/∃GC GD,a6= .iface GC GD):
  Calls Tryz.prog 145 #[.string ⟨⟨s⟩⟩] w λe aq=>e= .returned (.tuple #[.int .i64 0,.bool false])/\Below w.heap.size w aq:=by
 go_enter Tryz.func145,Tryz.ntmps145
 go_wp2_with (first|(go_at_call 162;refine(Any.strings_TrimPrefix Tryz.KP ⟨⟨s⟩⟩ ⟨#[45]⟩ _).mono ?_;rintro e aq ⟨rfl,rfl⟩)|(go_at_call 163;refine(Any.strconv_ParseInt_10_at64_syntax Tryz.Sb ⟨⟨s⟩⟩ (Nat.le_trans U (by decide)) al a6 _ aD ae_).mono ?_))
 rintro e AW ⟨N,rfl,-,-,R⟩
 go_wp2
 go_ret2
 exact⟨rfl,R⟩
theorem afa (s:anR) (hl:(Lib.trimPrefix s [45]).length<=18) (U:s.length<=1000) (v:Int) (al:Lib.parseIntB 64 s= .ok v) (ba: -9223372036854775808<=v) (h1:v<=9223372036854775807) (w:World) (Fx:Lib.TabIs Tryz.prog w "internal/strconv.uint64pow10" .u64 Lib.pow10Tab):
  Calls Tryz.prog 145 #[.string ⟨⟨s⟩⟩] w λe aq=>e= .returned (.tuple #[.int .i64 (sb s).1,.bool (sb s).2])/\Below w.heap.size w aq:=by
 go_enter Tryz.func145,Tryz.ntmps145
 go_wp2_with (first|(go_at_call 162;refine(Any.strings_TrimPrefix Tryz.KP ⟨⟨s⟩⟩ ⟨#[45]⟩ _).mono ?_;rintro e aq ⟨rfl,rfl⟩)|(go_at_call 163;refine(Any.strconv_ParseInt_10_at64_ok Tryz.Sb ⟨⟨s⟩⟩ (Nat.le_trans U (by decide)) v al _).mono ?_))
 rintro e AW ⟨rfl,R⟩;have afb:Lib.TabIs Tryz.prog AW "internal/strconv.uint64pow10" .u64 Lib.pow10Tab:=by
  rcases R with rfl|⟨t,rfl⟩
  .exact Fx
  .exact ae7 Fx (Lib.bytesWorld_below _ _ _)
 have DS:Below aq.heap.size aq AW:=by
  rcases R with rfl|⟨t,rfl⟩
  .exact Below.refl _ _
  .exact Lib.bytesWorld_below _ _ _
 clear R
 go_wp2_with (go_at_call 125;refine(ae6 v ba h1 _ afb).mono ?_;rintro e aq ⟨rfl,k,os,rfl⟩)
 all_goals go_ret2
 all_goals (rename_i h)
 .have e:sb s=(0,false):=by
   unfold sb;rw[al];simp only;rw[if_neg (by intro e;simp[e]at h)]
  rw[e];exact⟨rfl,Sd DS _ _⟩
 .have e:sb s=(v,true):=by
   unfold sb;rw[al];simp only;rw[if_pos (by simpa using h)]
  rw[e];exact⟨rfl,Sd DS _ _⟩
theorem afc (s:anR):(Lib.trimPrefix s [45]).length=(if s.head? =some 45 then s.tail else s).length:=by
 unfold Lib.trimPrefix Lib.hasPrefix;cases s with
 |nil=>rfl
 |cons c r=>
  by_cases h:c=45
  .subst h;rw[if_pos (show(45::r).head? =some 45 from rfl),if_pos (by simp[isPrefixOf])];rfl
  .rw[if_neg (show¬(c::r).head? =some 45 from λe=>h (some.inj e)),if_neg (by simp[isPrefixOf];exact λe=>h e.symm)]
theorem afd (s:anR) (w:World) (hg:rf w λ_=>False):
  Calls Tryz.prog 145 #[.string ⟨⟨s⟩⟩] w λe aq=>e= .returned (.tuple #[.int .i64 (hU s).1,.bool (hU s).2])/\Below w.heap.size w aq:=by
 have aL:=afc s;by_cases hl:(Lib.trimPrefix s [45]).length<=18
 .have U:s.length<=1000:=by
   rw[aL]at hl;split at hl
   .rw[length_tail]at hl;omega
   .omega
  obtain⟨h1,ab⟩:=afe s (by rw[<-aL];exact hl);rw[<-ab];rcases al:Lib.parseIntB 64 s with v|_|_
  rotate_left
  .have e:sb s=(0,false):=by unfold sb;rw[al]
   obtain⟨_,_,o,g1,a6,cs,ty,fr,g2,g3,g4⟩:=hg (2,GB) (by simp[CZ]);rw[e];refine ae9 s hl U al a6 w ?_ g4;simp only[World.cell?,g1,g2];simpa using g3
  .exact(h1 al).elim
  .have R:=Lib.parseIntB_bounds al;obtain⟨_,_,o,g1,ty,fr,g2⟩:=hg (1,CY) (by simp[CZ]);refine afa s hl U v al (by have:=R.1;simp at this;omega) (by have:=R.2;simp at this;omega) w ?_;unfold Lib.TabIs World.var?;rw[show Tryz.prog.globalNamed "internal/strconv.uint64pow10" =some 1 by kernel_rfl];simp only[bind_some,g1,g2,Lib.pow10Tab,List.map_map];rfl
 .have e:hU s=(0,false):=by
   rw[aL]at hl;unfold hU;split<;>rename_i h
   .rw[if_pos h]at hl;unfold nf;rw[if_neg (λbn=>hl bn.2.1)]
   .rw[if_neg h]at hl;unfold nf;rw[if_neg (λbn=>hl bn.2.1)]
  rw[e];exact ae8 s hl w
theorem aff (a0:anR) (r:Int×Bool) (h:E0 a0=some r):aY ao 145 [.str a0] (.tuple [.int .i64 r.1,.bool r.2]) []:=by
 obtain rfl:hU a0=r:=some.inj h;refine aY.below (v:=.tuple #[.int .i64 (hU a0).1,.bool (hU a0).2]) rfl (enters_of Tryz.func145 (by kernel_rfl) rfl) rfl
  ⟨_,rfl,rfl,λk d x ae ag=>?_⟩ (λw F=>?_) λw F X S vs jT ax=>?_
 .rcases k with _|_|k
  .simp at ae ag;subst ae ag;exact⟨rfl,λvs=>by simp,rfl⟩
  .simp at ae ag;subst ae ag;exact⟨rfl,λvs=>by simp,rfl⟩
  .simp at ae
 .simp only[bZ,gX];rw[ar,aW];refine⟨[.int .i64 (hU a0).1],[.bool (hU a0).2],λ_=>False,λ_=>False,rfl,by rw[ar],?_,λ_ h=>h,λ_ h=>h,λ_ h=>h.elim⟩;rw[aW];exact⟨[.bool (hU a0).2],[],λ_=>False,λ_=>False,rfl,by rw[ar],by rw[aW],λ_ h=>h,λ_ h=>h,λ_ h=>h.elim⟩
 .obtain⟨v0,rfl⟩:∃v0,vs=[v0]:=by
   match vs,jT with
   |[x],_=>exact⟨x,rfl⟩
  have g0:v0= .string ⟨⟨a0⟩⟩:=nx (ax.cD 0);subst g0;exact afd a0 w (ax.e4.next (Nat.le_refl _) (λ_ _ _=>rfl) λ_ h=>h.elim)
end
section
open Go.Proofs Go.Lib Go.RowKit Go.Sort
theorem Fy {α:Type} {e:α->I} {enc:α->Value} (he:One e enc) {w:World} {F:Nat->Prop} {S:Nat->Prop} {xs:List α} {v:Value} (h1:c7 (.slice (xs.map e)) v) (ab:ar w F (.slice (xs.map e)) (bZ v) S):
  ∃p c,v= .slice p xs.length c/\∀(j:Nat) x,xs[j]? =some x->∃b o,p=some ⟨b,o,none⟩/\w.cell? ⟨b,o+j,none⟩=some (enc x):=by
 have aD:bZ v=[v]:=by
  revert h1;cases v<;>intro h1<;>first|rfl|(cases h1)
 rw[aD,ar]at ab;rcases ab with⟨ay,a,c,aT,_⟩|⟨b,o,cap,eh,sz,ay,aT,bp,bX,bM,dy,hG⟩
 .have ag:xs=[]:=by simpa using ay
  subst ag;exact⟨a,c,by simpa using aT,λj x bo=>by simp at bo⟩
 .refine⟨some ⟨b,o,none⟩,cap,by simpa using ay,λj x bo=>⟨b,o,rfl,dy j _ ?_⟩⟩;have aI:=QI he _ _ _ hG;rw[aI,getElem?_map,bo];rfl
theorem Fz:One aG (Value.int .i64):=⟨λ_=>rfl,λw F x cs S=>by unfold aG;rw[ar]⟩
theorem afg (x:Int) (w:World):Calls Tryz.prog 137 #[.int .i64 x] w λe aq=>e= .returned (.bool false)/\aq=w:=by
 go_enter Tryz.func137,Tryz.ntmps137
 go_wp2
 go_ret
 exact⟨by simp,rfl⟩
theorem afh (x y:Int) (w:World):Calls Tryz.prog 93 #[.int .i64 x,.int .i64 y] w λe aq=>e= .returned (.int .i64 (if x<y then-1 else if y<x then 1 else 0))/\aq=w:=by
 have bL:∀args w,(callFunc 137 args).run Tryz.prog w= .ok (.enter 137 args) w:=enters_of Tryz.func137 (by kernel_rfl) rfl
 go_enter Tryz.func93,Tryz.ntmps93
 go_wp2_with (go_at_fn 137;refine(afg _ _).mono ?_;rintro e aq ⟨rfl,hw⟩;rw[hw])
 all_goals (go_ret;refine⟨?_,rfl⟩;(repeat' split)<;>first|rfl|(exfalso;omega))
theorem afi (xs ys:anT) (eF fk:Option Addr) (c d:Nat) (w:World) (aN:xs.length<=1099511627776) (hm:ys.length<=1099511627776)
  (rB:∀(j:Nat) x,xs[j]? =some x->∃b o,eF=some ⟨b,o,none⟩/\w.cell? ⟨b,o+j,none⟩=some (.int .i64 x)) (oV:∀(j:Nat) x,ys[j]? =some x->∃b o,fk=some ⟨b,o,none⟩/\w.cell? ⟨b,o+j,none⟩=some (.int .i64 x)):
  Calls Tryz.prog 58 #[.slice eF xs.length c,.slice fk ys.length d] w λe aq=>e= .returned (.int .i64 (c_ xs ys))/\aq=w:=by
 have ano:∀args w,(callFunc 93 args).run Tryz.prog w= .ok (.enter 93 args) w:=enters_of Tryz.func93 (by kernel_rfl) rfl;obtain⟨n,w2⟩:∃n,xs.length=n:=⟨_,rfl⟩
 obtain⟨m,w3⟩:∃m,ys.length=m:=⟨_,rfl⟩
 rw[w2]at aN⊢;rw[w3]at hm⊢;have L:Aside (xs.length=n/\ys.length=m):=⟨w2,w3⟩
 have qY:Aside (∀(j:Nat) x,xs[j]? =some x->∃b o,eF=some ⟨b,o,none⟩/\w.cell? ⟨b,o+j,none⟩=some (.int .i64 x)):=rB;have sc:Aside (∀(j:Nat) x,ys[j]? =some x->∃b o,fk=some ⟨b,o,none⟩/\w.cell? ⟨b,o+j,none⟩=some (.int .i64 x)):=oV;clear w2 w3 rB oV
 go_enter Tryz.func58,Tryz.ntmps58
 go_wp2
 go_loopg [11] n (λg tc wr=>∃k:Nat,k<=n/\n-k<=g/\tc= .int .i64 k/\wr=w/\k<=m/\Aside (c_ xs ys=c_ (xs.drop k) (ys.drop k)))
 case atStart=>exact⟨0,zero_le _,by omega,rfl,rfl,zero_le _,by simp[Aside]⟩
 case round=>
  obtain⟨k,hk,hg,rfl,rfl,IW,A⟩:=hrel;by_cases cp:k<n
  .by_cases z8:k<m
   .have qa:k<xs.length:=by rw[L.out.1];exact cp
    have td:k<ys.length:=by rw[L.out.2];exact z8
    obtain⟨ik,lg,wb,g1⟩:=qY.out k _ (getElem?_eq_getElem qa);obtain⟨gJ,mR,ri,g2⟩:=sc.out k _ (getElem?_eq_getElem td);subst wb ri;have Se:c_ (xs.drop k) (ys.drop k)=(if xs[k]<ys[k]then-1 else if ys[k]<xs[k]then 1 else c_ (xs.drop (k+1)) (ys.drop (k+1))):=by
     rw[drop_eq_getElem_cons qa,drop_eq_getElem_cons td,c_]
    have la:Aside (c_ xs ys=(if xs[k]<ys[k]then-1 else if ys[k]<xs[k]then 1 else c_ (xs.drop (k+1)) (ys.drop (k+1)))):=A.out.trans Se;clear A Se qY sc L;generalize xs[k]=x at g1 la;generalize ys[k]=y at g2 la;clear qa td;have zi:=afh x y;by_cases h1:x<y
    .rw[if_pos h1]at zi;have er:Aside (c_ xs ys= -1):=by have:=la.out;rwa [if_pos h1]at this
     clear la h1
     go_wp2_with (go_at_fn 93;refine(zi _).mono ?_;rintro e aq ⟨rfl,hw⟩;rw[hw])
     go_ret
     exact⟨(by rw[er.out]<;>rfl),rfl⟩
    .by_cases ab:y<x
     .rw[if_neg h1,if_pos ab]at zi;have er:Aside (c_ xs ys=1):=by have:=la.out;rwa [if_neg h1,if_pos ab]at this
      clear la h1 ab
      go_wp2_with (go_at_fn 93;refine(zi _).mono ?_;rintro e aq ⟨rfl,hw⟩;rw[hw])
      go_ret
      exact⟨(by rw[er.out]<;>rfl),rfl⟩
     .rw[if_neg h1,if_neg ab]at zi;have er:Aside (c_ xs ys=c_ (xs.drop (k+1)) (ys.drop (k+1))):=by have:=la.out;rwa [if_neg h1,if_neg ab]at this
      clear la h1 ab
      go_wp2_with (go_at_fn 93;refine(zi _).mono ?_;rintro e aq ⟨rfl,hw⟩;rw[hw])
      go_roundg (n-(k+1))
      case measure=>omega
      case rel=>exact⟨k+1,by omega,by omega,by go_num,rfl,by omega,er⟩
   .have afj:k=m:=by omega
    subst afj;have er:Aside (c_ xs ys=1):=by
     have qa:k<xs.length:=by rw[L.out.1];exact cp
     have:=A.out;rw[drop_eq_getElem_cons qa,show ys.drop k=[]from drop_of_length_le (by rw[L.out.2];exact Nat.le_refl _)]at this;exact this
    have qa:k<xs.length:=by rw[L.out.1];exact cp
    obtain⟨ik,lg,wb,g1⟩:=qY.out k _ (getElem?_eq_getElem qa);subst wb;clear A qY sc L;generalize xs[k]=x at g1;clear qa
    go_wp2
    go_ret
    exact⟨(by rw[er.out]<;>rfl),rfl⟩
  .have KS:k=n:=by omega
   subst KS;by_cases z8:k<m
   .have er:Aside (c_ xs ys= -1):=by
     have td:k<ys.length:=by rw[L.out.2];exact z8
     have:=A.out;rw[drop_eq_getElem_cons td,show xs.drop k=[]from drop_of_length_le (by rw[L.out.1];exact Nat.le_refl _)]at this;exact this
    have afk:(k:Int)<(m:Int):=by omega
    clear A qY sc L
    go_wp2
    go_ret
    exact⟨(by rw[er.out]<;>rfl),rfl⟩
   .have er:Aside (c_ xs ys=0):=by
     have:=A.out;rw[drop_of_length_le (by rw[L.out.1];exact Nat.le_refl _),drop_of_length_le (by rw[L.out.2];omega)]at this;exact this
    have afk:¬(k:Int)<(m:Int):=by omega
    clear A qY sc L
    go_wp2
    go_ret
    exact⟨(by rw[er.out]<;>rfl),rfl⟩
theorem afl (xs ys:anT) (ag:pr xs=true) (hy:pr ys=true):yf ao 58 [.slice (xs.map aG),.slice (ys.map aG)] (.int .i64 (c_ xs ys)):=by
 intro W F vs a8 hlen h;obtain⟨v0,v1,rfl⟩:∃v0 v1,vs=[v0,v1]:=by
  match vs,hlen with
  |[x,y],_=>exact⟨x,y,rfl⟩
 obtain⟨_,J,a2⟩:=h 0 _ _ rfl rfl;obtain⟨_,ik,gJ⟩:=h 1 _ _ rfl rfl;obtain⟨eF,c1,rfl,eH⟩:=Fy Fz J a2;obtain⟨fk,c2,rfl,eB⟩:=Fy Fz ik gJ;simp only[pr,decide_eq_true_eq]at ag hy;refine(afi xs ys eF fk c1 c2 W ag hy eH eB).mono ?_;rintro e aq ⟨rfl,rfl⟩;exact⟨rfl,0,#[],by rw[grow_empty];rfl⟩
abbrev te:={p:anT//pr p=true}
theorem afm:SWO (λx y:te=>decide (c_ x.1 y.1<0)) where
 irrefl x:=by simp[(uM (a:=x.1) (b:=x.1)).2 rfl]
 trans x y z h1 ab:=by
  simp only[decide_eq_true_eq]at h1 ab⊢;have ay:=w4 (a:=x.1) (b:=y.1) (c:=z.1) (by omega) (by omega);have aT:c_ x.1 z.1≠0:=λe=>by
   have e:=uM.1 e;have bp:=qb x.1 y.1;rw[<-e]at ab;omega
  omega
 ntrans x y z h1 ab:=by
  simp only[decide_eq_false_iff_not]at h1 ab⊢;have J:=qb x.1 y.1;have a2:=qb y.1 z.1;have a3:=qb x.1 z.1;have:=w4 (a:=z.1) (b:=y.1) (c:=x.1) (by omega) (by omega);omega
theorem zj (x:anT):(cO x).share= .slice (x.map aG):=by rw[zh];rfl
theorem afn (a0 r:List anT) (h:yY a0=some r):aY ao 57 [.ah 1 (a0.map cO),.fn 58 []] (.tuple []) [.ah 1 (r.map cO),.hole]:=by
 unfold yY at h;split at h
 .rename_i hl;obtain⟨cp,ja⟩:=hl;have ax:=some.inj h;have R:∀p∈a0,pr p=true:=λp al=>List.all_eq_true.1 ja p al;let xs:List te:=a0.pmap Subtype.mk R
  have km:xs.map Subtype.val=a0:=by simp[xs,List.map_pmap]
  let ys:=xs.mergeSort λx y=>decide (c_ x.1 y.1<=0)
  have pb:ys.map Subtype.val=r:=by
   rw[<-ax,<-km];exact map_mergeSort λa _ b _=>rfl
  have HK:∀a b c:te,decide (c_ a.1 b.1<=0)=true->decide (c_ b.1 c.1<=0)=true->decide (c_ a.1 c.1<=0)=true:=λa b c h1 ab=>by
   simp only[decide_eq_true_eq]at h1 ab⊢;exact w4 h1 ab
  have afo:∀a b:te,(decide (c_ a.1 b.1<=0)||decide (c_ b.1 a.1<=0))=true:=λa b=>by
   have:=qb a.1 b.1;simp only[Bool.or_eq_true,decide_eq_true_eq];omega
  have:=aY.abg (C:=ao) (f:=57) (g:=58) (λargs w=>Tryz.KR.f6.enters rfl args w) (e:=λp:te=>cO p.1) (λ_=>rfl)
   (λp=>⟨_,zj p.1⟩) (λx y=>c_ x.1 y.1) (λx y=>by rw[zj,zj];exact afl x.1 y.1 x.2 y.2) afm xs ys
   (by rw[<-km,length_map]at cp;exact cp)
   (λa cap w=>AnyF.slices_SortFunc_none {Tryz.KR with} a cap _ w)
   (λdX al U=>by
    refine Perm.eq_of_pairwise (le:=λa b=>c_ a.1 b.1<=0) (λa b _ _ h1 ab=>Subtype.ext (uM.1 (by have:=qb a.1 b.1;omega))) (U.imp λ{a b} h=>by have:=qb a.1 b.1;omega) ?_ (al.trans (mergeSort_perm xs _).symm);exact(pairwise_mergeSort HK afo xs).imp λ{a b} h=>by simpa using h)
   (λenc h1 Be hO w b cap d rY hH hblk dr=>Any.slices_SortFunc Tryz.KR enc h1 Be hO 58 #[] b 0 cap d w (enters_of Tryz.func58 (by kernel_rfl) rfl) rY hH hblk dr)
  rw[show xs.map (λp=>cO p.1)=a0.map cO by rw[<-km,List.map_map];rfl,show ys.map (λp=>cO p.1)=r.map cO by rw[<-pb,List.map_map];rfl]at this;exact this
 .cases h
end
section
open Go.Proofs Go.Lib Go.RowKit Go.Sort
theorem SW.set {enc:Nat->Value} {w0 W:World} {b:Nat} {dk:Array Nat} (h:SW enc w0 b 0 dk W) (hblk:b<w0.heap.size) (i:Nat) (ak:i<dk.size) (x:Nat):SW enc w0 b 0 (dk.setIfInBounds i x) (W.setCell ⟨b,0+i,none⟩ (enc x)):=by
 obtain⟨n,os,rfl⟩:=h;refine⟨n,os,?_⟩;unfold sortWorld;rw[<-putRow_grow enc (Sort.ahead w0 n) os b 0 dk hblk,putRow_set enc _ b 0 dk i x ak,putRow_grow enc (Sort.ahead w0 n) os b 0 _ hblk]
theorem SW.Sf {enc:Nat->Value} {w0:World} {b:Nat} (hblk:b<w0.heap.size) (z:Nat):∀(m k:Nat) (dk:Array Nat) (W:World),SW enc w0 b 0 dk W->k+m<=dk.size->
  ∃uN,uN.size=dk.size/\(∀j,j<k->uN[j]! =dk[j]!)/\SW enc w0 b 0 uN (W.setCells b (0+k) (replicate m (enc z)))
 |0,k,dk,W,h,_=>⟨dk,rfl,λ_ _=>rfl,h⟩
 |m+1,k,dk,W,h,hk=>by
  have h1:=SW.set h hblk k (by omega) z;obtain⟨uN,g1,g2,g3⟩:=SW.Sf hblk z m (k+1) _ _ h1 (by rw[Array.size_setIfInBounds];omega);refine⟨uN,by simpa using g1,λj bo=>?_,?_⟩
  .rw[g2 j (by omega),getElem!_pos _ j (by simp;omega),getElem!_pos dk j (by omega),Array.getElem_setIfInBounds,if_neg (by omega)]
  .rw[replicate_succ];simp only[World.setCells];rw[show 0+k+1=0+(k+1) by omega];exact g3
set_option maxHeartbeats 4000000 in
set_option maxRecDepth 1000000 in
theorem afp (w:World) (b n cap:Nat) (enc:Nat->Value) (hO:OneCell enc) (same:Nat->Nat->Bool) (g:Nat) (anp:∀args w,(callFunc g args).run Tryz.prog w= .ok (.enter g args) w)
  (rY:Ba Tryz.prog g enc same b n w) (hH:Holds enc w b 0 (Array.range n)) (hblk:b<w.heap.size) (aN:n<=4611686018427387904) (xv:n<=cap) (Sg:cap<=9223372036854775807) (bC:enc n= .slice none 0 0) (ab:2<=n):
  Calls Tryz.prog 59 #[.slice (some ⟨b,0,none⟩) n cap,.func (.func g) #[] #[]] w λe aq=>e= .returned (.slice (some ⟨b,0,none⟩) (hQ same n).length cap)/\
   ∃dk,dk.size=n/\(∀j,j<(hQ same n).length->dk[j]! =(hQ same n)[j]!)/\SW enc w b 0 dk aq:=by
 have mixed:Tryz.prog.follows Departure.mixedOrders=true:=by kernel_rfl
 have er:Row1 enc w b 0 (Array.range n):=⟨hO,hH,hblk⟩
 have Sh:Aside (Ba Tryz.prog g enc same b n w):=rY;have qZ:Aside (Row1 enc w b 0 (Array.range n)):=er;have cR:Aside (SW enc w b 0 (Array.range n) w):=⟨0,#[],by
  rw[sortWorld,grow_empty];exact(putRow_self enc w b 0 _ hH).symm⟩
 clear rY hH er;have afq:=hO.cells;simp only[Value.cells]at afq;have nj:=hO.store Tryz.prog
 go_enter Tryz.func59,Tryz.ntmps59
 go_wp2
 go_loopg [5] n (λgk pX wr=>∃k:Nat,1<=k/\k<=n/\n-k<=gk/\pX= .int .i64 k/\Aside (SW enc w b 0 (Array.range n) wr)/\Aside (∀j,j<k->lo same j=true))
 case atStart=>exact⟨1,Nat.le_refl _,by omega,by omega,rfl,cR,λj bo=>by rw[show j=0 by omega];rfl⟩
 case round=>
  clear cR;obtain⟨k,A0,hk,hg,rfl,bR,A⟩:=hrel;by_cases cp:k<n
  .obtain⟨ed,afr⟩:∃ed,k=ed+1:=⟨k-1,by omega⟩
   subst afr;have en:=bR.out.cl qZ.out (by simp) (ed+1) (by simpa using cp);have l2:=bR.out.cl qZ.out (by simp) ed (by simp;omega);rw[uj _ _ cp]at en;rw[uj _ _ (by omega)]at l2;simp only[Nat.zero_add]at en l2;have ai:=SW.Q8 bR.out Sh.out (by simp) (ed+1) ed cp (by omega);have Si:((ed:Int)+1).toNat=ed+1:=by omega
   have Sj:(0:Int)<=(ed:Int)+1:=by omega
   have afs:(ed:Int)+1<(n:Int):=by omega
   have Sk:i64.wrap ((ed:Int)+1)=(ed:Int)+1:=by rw[wrap_i64];omega
   have Sl:(0:Int)<=(ed:Int):=by omega
   have Sm:(ed:Int)<(n:Int):=by omega
   have rc:i64.wrap (ed:Int)=(ed:Int):=by rw[wrap_i64];omega
   cases uO:same (ed+1) ed with
   |true=>
    rw[uO]at ai
    go_wp2_with fail
    go_quiet_grown (first|(go_at_fn g;refine Calls.grown_of (ai _ _)))
    have cH:Aside (SW enc w b 0 (Array.range n) (grow (wr.drewN nq) osq)):=bR.out.grown nq osq;clear en l2 ai bR Si Sj Sk Sl Sm rc;generalize grow (wr.drewN nq) osq=mz at cH⊢;clear nq osq;have Sp:Aside (nN same n (ed+1+1) (ed+1) (Array.range n)):=nN.start A.out (by
     unfold lo;rw[show ed+1-1=ed from rfl,uO];simp) cp
    clear uO A
    go_wp2
    go_loopg [5,7] n (λgk pX aft wr=>∃(dC b2:Nat) (dk:Array Nat),pX= .int .i64 dC/\aft= .int .i64 b2/\1<=b2/\ed+1+b2<=n/\n-(ed+1+b2)<=gk/\dk.size=n/\Aside (SW enc w b 0 dk wr)/\Aside (nN same n (ed+1+b2) dC dk))
    case atStart=>exact⟨ed+1,1,Array.range n,rfl,rfl,Nat.le_refl _,by omega,by omega,by simp,cH,Sp⟩
    case round=>
     clear cH Sp;obtain⟨dC,b2,dk,rfl,rfl,h1,hle,anq,gA,kH,q0⟩:=hrel;by_cases B7:ed+1+b2<n
     .obtain⟨gU,afu⟩:∃gU,b2=gU+1:=⟨b2-1,by omega⟩
      subst afu;have vj:=q0.out.lt;have en:=kH.out.cl qZ.out (by simpa using gA) (ed+1+(gU+1)) (by omega);have l2:=kH.out.cl qZ.out (by simpa using gA) (ed+1+gU) (by omega);rw[q0.out.high _ (by omega) B7]at en;rw[q0.out.high _ (by omega) (by omega)]at l2;simp only[Nat.zero_add]at en l2;have ai:=SW.Q8 kH.out Sh.out gA (ed+1+(gU+1)) (ed+1+gU) B7 (by omega);have Si:((gU:Int)+1).toNat=gU+1:=by omega
      have Sj:(0:Int)<=(gU:Int)+1:=by omega
      have afs:(gU:Int)+1<((n-(ed+1):Nat):Int):=by omega
      have Sk:i64.wrap ((gU:Int)+1)=(gU:Int)+1:=by rw[wrap_i64];omega
      have Sl:(0:Int)<=(gU:Int):=by omega
      have Sm:(gU:Int)<((n-(ed+1):Nat):Int):=by omega
      have rc:i64.wrap (gU:Int)=(gU:Int):=by rw[wrap_i64];omega
      have pM:lo same (ed+1+(gU+1))= !same (ed+1+(gU+1)) (ed+1+gU):=by
       unfold lo;rw[show ed+1+(gU+1)-1=ed+1+gU from by omega];simp
      generalize uO:same (ed+1+(gU+1)) (ed+1+gU)=sm at ai pM;clear uO;have Sq:Aside (lo same (ed+1+(gU+1))= !sm):=pM;clear pM;cases sm with
      |true=>
       go_wp2_with fail
       go_quiet_grown (first|(go_at_fn g;refine Calls.grown_of (ai _ _)))
       have ou:Aside (SW enc w b 0 dk (grow (wr.drewN nq) osq)):=kH.out.grown nq osq;clear en l2 ai kH;generalize grow (wr.drewN nq) osq=mA at ou⊢;clear nq osq;have KT:Aside (nN same n (ed+1+(gU+1+1)) dC dk):=nN.skip q0.out B7 Sq.out;clear q0
       go_wp2
       go_roundg (n-(ed+1+(gU+1+1)))
       case measure=>omega
       case rel=>exact⟨dC,gU+1+1,dk,rfl,by go_num,by omega,by omega,Nat.le_refl _,gA,ou,KT⟩
      |false=>
       go_wp2_with fail
       go_quiet_grown (first|(go_at_fn g;refine Calls.grown_of (ai _ _)))
       have ou:Aside (SW enc w b 0 dk (grow (wr.drewN nq) osq)):=kH.out.grown nq osq;clear en l2 ai kH;generalize grow (wr.drewN nq) osq=mA at ou⊢;clear nq osq;have KT:Aside (nN same n (ed+1+(gU+1+1)) (dC+1) (dk.setIfInBounds dC (ed+1+(gU+1)))):=nN.keep q0.out B7 Sq.out;have afv:Aside (SW enc w b 0 (dk.setIfInBounds dC (ed+1+(gU+1))) (mA.setCell ⟨b,dC,none⟩ (enc (ed+1+(gU+1))))):=by
        have:=SW.set ou.out qZ.out.hblk dC (by omega) (ed+1+(gU+1));rw[Nat.zero_add]at this;exact this
       have c1:=ou.out.c1 qZ.out (by simpa using gA) (ed+1+(gU+1)) (by omega);rw[q0.out.high _ (by omega) B7,Nat.zero_add]at c1;have fB:=ou.out.c1 qZ.out (by simpa using gA) dC (by omega);have afw:=ou.out.f1 qZ.out (by simpa using gA) dC (by omega);rw[Nat.zero_add]at fB afw;clear q0 ou;have b4:(0:Int)<=(dC:Int):=by omega
       have afx:(dC:Int)<(n:Int):=by omega
       have FA:i64.wrap (dC:Int)=(dC:Int):=by rw[wrap_i64];omega
       go_wp2
       go_roundg (n-(ed+1+(gU+1+1)))
       case measure=>omega
       case rel=>exact⟨dC+1,gU+1+1,_,by go_num,by go_num,by omega,by omega,Nat.le_refl _,by simpa using gA,afv,KT⟩
     .have KU:ed+1+b2=n:=by omega
      have vj:=q0.out.lt;have nM:∀ty,(Builtin.clear_ #[29] ty #[.slice (some ⟨b,dC,none⟩) (n-dC) (cap-dC)]).run Tryz.prog wr= .ok (.tuple #[]) (wr.setCells b dC (replicate (n-dC) (enc n))):=λty=>by
       rw[bC];exact Lib.run_clear_slice wr 29 22 ty (.slice none 0 0) Tryz.underlying29 (λw=>Tryz.zeroValue22 w) rfl rfl b dC _ _ (by omega)
        (λj bo=>by have:=kH.out.c1 qZ.out (by simpa using gA) (dC+j) (by omega);rw[Nat.zero_add]at this;rw[this];rfl)
        (λj bo=>by have:=kH.out.f1 qZ.out (by simpa using gA) (dC+j) (by omega);rw[Nat.zero_add]at this;exact this)
      obtain⟨uN,g1,g2,g3⟩:=SW.Sf qZ.out.hblk n (n-dC) dC dk wr kH.out (by omega);rw[Nat.zero_add]at g3;have afy:Aside (SW enc w b 0 uN (wr.setCells b dC (replicate (n-dC) (enc n)))):=g3;clear g3;have b4:(0:Int)<=(dC:Int):=by omega
      have afx:(dC:Int)<=(n:Int):=by omega
      have FA:i64.wrap (dC:Int)=(dC:Int):=by rw[wrap_i64];omega
      go_wp2
      go_ret
      have Sr:=q0.out.low;have hlen:=q0.out.len;rw[KU]at Sr hlen;refine⟨by rw[hlen];rfl,uN,by omega,λj bo=>?_,by have:=afy.out;rw[bC]at this;exact this⟩;rw[hlen]at bo;rw[g2 j bo,Sr j bo]
   |false=>
    rw[uO]at ai
    go_wp2_with fail
    go_quiet_grown (first|(go_at_fn g;refine Calls.grown_of (ai _ _)))
    have cH:Aside (SW enc w b 0 (Array.range n) (grow (wr.drewN nq) osq)):=bR.out.grown nq osq;clear en l2 ai bR;generalize grow (wr.drewN nq) osq=mz at cH⊢;clear nq osq;have la:Aside (∀j,j<ed+1+1->lo same j=true):=λj bo=>by
     by_cases e:j=ed+1
     .subst e;unfold lo;rw[show ed+1-1=ed from rfl,uO];simp
     .exact A.out j (by omega)
    clear A uO
    go_wp2
    go_roundg (n-(ed+1+1))
    case measure=>omega
    case rel=>exact⟨ed+1+1,by omega,by omega,Nat.le_refl _,by go_num,cH,la⟩
  .have:k=n:=by omega
   subst this;have vj:Aside ((hQ same k).length=k/\hQ same k=range k):=⟨by rw[II A.out];simp,II A.out⟩
   go_wp2
   go_ret
   refine⟨by rw[vj.out.1];rfl,Array.range k,by simp,λj bo=>?_,bR.out⟩;rw[vj.out.1]at bo;rw[vj.out.2,uj _ _ bo,getElem!_pos (range k) j (by simpa using bo)];simp
set_option maxHeartbeats 1000000 in
theorem afz (a:Option Addr) (n cap:Nat) (w:World) (g:Nat) (ab:n<2):Calls Tryz.prog 59 #[.slice a n cap,.func (.func g) #[] #[]] w λe aq=>e= .returned (.slice a n cap)/\aq=w:=by
 have NO:(n:Int)<2:=by omega
 go_enter Tryz.func59,Tryz.ntmps59
 go_wp2
 go_ret
 exact⟨rfl,rfl⟩
end
section
open Go.Proofs Go.Lib Go.RowKit Go.Sort
theorem Ss {α β:Type} (f:α->β) (aI:β->β->Bool) (aM:α->α->Bool) (he:∀x y,aI (f x) (f y)=aM x y):∀(l:List α) (p:α),qQ aI (f p) (l.map f)=(qI aM p l).map f
 |[],_=>rfl
 |x::l,p=>by
  simp only[map_cons,qQ,qI,he,Ss f aI aM he l x];split<;>rfl
theorem afA {α β:Type} (f:α->β) (aI:β->β->Bool) (aM:α->α->Bool) (he:∀x y,aI (f x) (f y)=aM x y):∀(l:List α),uG aI (l.map f)=(kU aM l).map f
 |[]=>rfl
 |x::l=>by simp only[map_cons,uG,kU,Ss f aI aM he l x]
theorem afB (xs ys:anT) (eF fk:Option Addr) (c d:Nat) (w:World) (aN:xs.length<=1099511627776) (hm:ys.length<=1099511627776)
  (rB:∀(j:Nat) x,xs[j]? =some x->∃b o,eF=some ⟨b,o,none⟩/\w.cell? ⟨b,o+j,none⟩=some (.int .i64 x)) (oV:∀(j:Nat) x,ys[j]? =some x->∃b o,fk=some ⟨b,o,none⟩/\w.cell? ⟨b,o+j,none⟩=some (.int .i64 x)):
  Calls Tryz.prog 60 #[.slice eF xs.length c,.slice fk ys.length d] w λe aq=>e= .returned (.bool (xs==ys))/\∃q,aq=w.drewN q:=by
 have mixed:Tryz.prog.follows Departure.mixedOrders=true:=by kernel_rfl
 obtain⟨n,w2⟩:∃n,xs.length=n:=⟨_,rfl⟩
 obtain⟨m,w3⟩:∃m,ys.length=m:=⟨_,rfl⟩
 rw[w2]at aN⊢;rw[w3]at hm⊢;have L:Aside (xs.length=n/\ys.length=m):=⟨w2,w3⟩
 have qY:Aside (∀(j:Nat) x,xs[j]? =some x->∃b o,eF=some ⟨b,o,none⟩/\w.cell? ⟨b,o+j,none⟩=some (.int .i64 x)):=rB;have sc:Aside (∀(j:Nat) x,ys[j]? =some x->∃b o,fk=some ⟨b,o,none⟩/\w.cell? ⟨b,o+j,none⟩=some (.int .i64 x)):=oV;clear w2 w3 rB oV;by_cases St:n=m
 .subst St
  go_enter Tryz.func60,Tryz.ntmps60
  go_wp2
  go_loopg [13] n (λg afC wr=>∃k q:Nat,k<=n/\n-k<=g/\afC= .int .i64 k/\wr=w.drewN q/\Aside ((xs==ys)=(xs.drop k==ys.drop k)))
  case atStart=>exact⟨0,0,zero_le _,by omega,rfl,rfl,by simp[Aside]⟩
  case round=>
   obtain⟨k,q,hk,hg,rfl,rfl,A⟩:=hrel;by_cases cp:k<n
   .have qa:k<xs.length:=by rw[L.out.1];exact cp
    have td:k<ys.length:=by rw[L.out.2];exact cp
    obtain⟨ik,lg,wb,g1⟩:=qY.out k _ (getElem?_eq_getElem qa);obtain⟨gJ,mR,ri,g2⟩:=sc.out k _ (getElem?_eq_getElem td);subst wb ri;have la:Aside ((xs==ys)=((xs[k]==ys[k])&&(xs.drop (k+1)==ys.drop (k+1)))):=by
     have:=A.out
     rwa [drop_eq_getElem_cons qa,drop_eq_getElem_cons td,cons_beq_cons]at this
    clear A qY sc L;generalize xs[k]=x at g1 la;generalize ys[k]=y at g2 la;clear qa td;by_cases KV:x=y
    .subst KV;have er:Aside ((xs==ys)=(xs.drop (k+1)==ys.drop (k+1))):=by have:=la.out;rw[beq_self_eq_true,Bool.true_and]at this;exact this
     clear la
     go_wp2_with fail
     go_region_o
     go_wp2
     go_roundg (n-(k+1))
     case measure=>omega
     case rel=>exact⟨k+1,q+1,by omega,by omega,by go_num,rfl,er⟩
    .have er:Aside ((xs==ys)=false):=by
      have:=la.out
      rwa [show(x==y)=false by simpa using KV,Bool.false_and]at this
     clear la
     go_wp2_with fail
     go_region_o
     go_wp2
     go_ret
     exact⟨(by rw[er.out]<;>rfl),q+1,rfl⟩
   .have KS:k=n:=by omega
    subst KS;have er:Aside ((xs==ys)=true):=by
     have:=A.out;rw[drop_of_length_le (by rw[L.out.1];exact Nat.le_refl _),drop_of_length_le (by rw[L.out.2];exact Nat.le_refl _)]at this;exact this
    clear A qY sc L
    go_wp2
    go_ret
    exact⟨(by rw[er.out]<;>rfl),q,rfl⟩
 .have anr:¬(n:Int)=(m:Int):=by omega
  have er:Aside ((xs==ys)=false):=by
   rw[Aside,beq_eq_false_iff_ne];intro h;exact St (by rw[<-L.out.1,<-L.out.2,h])
  clear qY sc L
  go_enter Tryz.func60,Tryz.ntmps60
  go_wp2
  go_ret
  exact⟨(by rw[er.out]<;>rfl),0,rfl⟩
theorem afD (xs ys:anT) (ag:pr xs=true) (hy:pr ys=true):yf ao 60 [.slice (xs.map aG),.slice (ys.map aG)] (.bool (xs==ys)):=by
 intro W F vs a8 hlen h;obtain⟨v0,v1,rfl⟩:∃v0 v1,vs=[v0,v1]:=by
  match vs,hlen with
  |[x,y],_=>exact⟨x,y,rfl⟩
 obtain⟨_,J,a2⟩:=h 0 _ _ rfl rfl;obtain⟨_,ik,gJ⟩:=h 1 _ _ rfl rfl;obtain⟨eF,c1,rfl,eH⟩:=Fy Fz J a2;obtain⟨fk,c2,rfl,eB⟩:=Fy Fz ik gJ;simp only[pr,decide_eq_true_eq]at ag hy;refine(afB xs ys eF fk c1 c2 W ag hy eH eB).mono ?_;rintro e aq ⟨rfl,q,rfl⟩;exact⟨rfl,q,#[],by rw[grow_empty]⟩
theorem afE (a0 r:List anT) (h:yZ a0=some r):aY ao 59 [.ah 1 (a0.map cO),.fn 60 []] (.ah 1 (r.map cO)) [.hole,.hole]:=by
 unfold yZ at h;split at h
 .rename_i hl;obtain⟨cp,ja⟩:=hl;have ax:=some.inj h;have R:∀p∈a0,pr p=true:=λp al=>List.all_eq_true.1 ja p al;let xs:List te:=a0.pmap Subtype.mk R
  have km:xs.map Subtype.val=a0:=by simp[xs,List.map_pmap]
  have pb:(kU (λx y:te=>(x.1==y.1)) xs).map Subtype.val=r:=by
   rw[<-ax,<-km];exact(afA Subtype.val _ _ (λx y=>rfl) xs).symm
  have:=aY.abn (C:=ao) (f:=59) (g:=60) (enters_of Tryz.func59 (by kernel_rfl) rfl) (e:=λp:te=>cO p.1) (λ_=>rfl)
   (λp=>⟨_,zj p.1⟩) (λx y=>(x.1==y.1)) (λx y=>by rw[zj,zj];exact afD x.1 y.1 x.2 y.2) xs (by rw[<-km,length_map]at cp;exact cp)
   (λa n cap w ab=>afz a n cap w 60 ab)
   (λenc h1 same w b n cap rY hH hblk aN xv Sg bC ab=>afp w b n cap enc h1 same 60 (enters_of Tryz.func60 (by kernel_rfl) rfl) rY hH hblk aN xv Sg bC ab)
  rw[show xs.map (λp=>cO p.1)=a0.map cO by rw[<-km,List.map_map];rfl,show(kU (λx y:te=>(x.1==y.1)) xs).map (λp=>cO p.1)=r.map cO by rw[<-pb,List.map_map];rfl]at this;exact this
 .cases h
end
end Go.Proofs.YtcmimclaknmnbaaGreatDoor
