/- Part of a proof that a law returns true for every input. No condition. -/
import Derived.Ground.NamesProg
import Derived.Shelf.Lays
import Derived.Shelf.Strings.BuilderX
import Derived.Shelf.LaysC
import Derived.Shelf.LaysM
import Derived.Shelf.Strings.Prefix
import Derived.Shelf.Strconv.ParseIntPublic10
import Derived.Shelf.Strconv.Itoa4
import Derived.WalkKit
import Derived.BigCall
import Derived.Test.YtikimdcnadipbaaGreatDoorUHD
import Derived.Shelf.Strings.OnBuilder
import Derived.Test.YtikimdcnadipbaaGreatDoorFwN
import Derived.Test.YtikimdcnadipbaaGreatDoorFwM
import Derived.Test.YtikimdcnadipbaaGreatDoorC4
namespace Go.Proofs.YtikimdcnadipbaaGreatDoor
open Go Go.bZ Go.eL Go.Shelf
set_option maxRecDepth 100000
def Tryz.Uy:Go.Shelf.Ren:=⟨fun|173=>111|246=>134|283=>147|284=>148|285=>149|286=>150|129=>157|317=>156|318=>158|319=>159|320=>160|337=>168|338=>169|n=>n,fun|2=>2|3=>3|9=>9|4=>4|171=>186|0=>0|53=>187|37=>71|5=>5|173=>190|212=>196|51=>197|20=>20|213=>198|46=>171|232=>211|233=>212|n=>n,fun|17=>0|18=>2|19=>3|n=>n⟩
theorem Tryz.YN:Go.Proofs.Lays.n173 Tryz.prog Tryz.Uy:={
 mixed:=by kernel_rfl
 f129:=Tryz.func157.trans (congrArg some (by kernel_rfl))
 f173:=Tryz.func111.trans (congrArg some (by kernel_rfl))
 f246:=Tryz.func134.trans (congrArg some (by kernel_rfl))
 f283:=Tryz.func147.trans (congrArg some (by kernel_rfl))
 f284:=Tryz.func148.trans (congrArg some (by kernel_rfl))
 f285:=Tryz.func149.trans (congrArg some (by kernel_rfl))
 f286:=Tryz.func150.trans (congrArg some (by kernel_rfl))
 f317:=Tryz.func156.trans (congrArg some (by kernel_rfl))
 f318:=Tryz.func158.trans (congrArg some (by kernel_rfl))
 f319:=Tryz.func159.trans (congrArg some (by kernel_rfl))
 f320:=Tryz.func160.trans (congrArg some (by kernel_rfl))
 f337:=Tryz.func168.trans (congrArg some (by kernel_rfl))
 f338:=Tryz.func169.trans (congrArg some (by kernel_rfl))
 t0:=Tryz.underlying0
 a0:=Tryz.isAgg0
 z0:=Tryz.sizeOf0
 v0:=Tryz.zeroValue0
 t2:=Tryz.underlying2
 a2:=Tryz.isAgg2
 z2:=Tryz.sizeOf2
 v2:=Tryz.zeroValue2
 t3:=Tryz.underlying3
 a3:=Tryz.isAgg3
 z3:=Tryz.sizeOf3
 v3:=Tryz.zeroValue3
 t4:=Tryz.underlying4
 a4:=Tryz.isAgg4
 z4:=Tryz.sizeOf4
 v4:=Tryz.zeroValue4
 t5:=Tryz.underlying5
 a5:=Tryz.isAgg5
 z5:=Tryz.sizeOf5
 v5:=Tryz.zeroValue5
 t9:=Tryz.underlying9
 a9:=Tryz.isAgg9
 z9:=Tryz.sizeOf9
 v9:=Tryz.zeroValue9
 t20:=Tryz.underlying20
 a20:=Tryz.isAgg20
 z20:=Tryz.sizeOf20
 v20:=Tryz.zeroValue20
 t37:=Tryz.underlying71
 a37:=Tryz.isAgg71
 z37:=Tryz.sizeOf71
 v37:=Tryz.zeroValue71
 t46:=Tryz.underlying171
 a46:=Tryz.isAgg171
 z46:=Tryz.sizeOf171
 v46:=Tryz.zeroValue171
 t51:=Tryz.underlying197
 a51:=Tryz.isAgg197
 z51:=Tryz.sizeOf197
 v51:=Tryz.zeroValue197
 t53:=Tryz.underlying187
 a53:=Tryz.isAgg187
 z53:=Tryz.sizeOf187
 v53:=Tryz.zeroValue187
 t171:=Tryz.underlying186
 a171:=Tryz.isAgg186
 z171:=Tryz.sizeOf186
 v171:=Tryz.zeroValue186
 t173:=Tryz.underlying190
 a173:=Tryz.isAgg190
 z173:=Tryz.sizeOf190
 v173:=Tryz.zeroValue190
 t212:=Tryz.underlying196
 a212:=Tryz.isAgg196
 z212:=Tryz.sizeOf196
 v212:=Tryz.zeroValue196
 t213:=Tryz.underlying198
 a213:=Tryz.isAgg198
 z213:=Tryz.sizeOf198
 t232:=Tryz.underlying211
 a232:=Tryz.isAgg211
 z232:=Tryz.sizeOf211
 v232:=Tryz.zeroValue211
 t233:=Tryz.underlying212
 a233:=Tryz.isAgg212
 z233:=Tryz.sizeOf212
 v233:=Tryz.zeroValue212
 g17:=by kernel_rfl
 g18:=by kernel_rfl
 g19:=by kernel_rfl}
def Tryz.EP:Go.Shelf.Ren:=⟨fun|156=>103|165=>130|166=>42|169=>43|240=>76|241=>139|276=>112|277=>151|n=>n,fun|31=>138|9=>9|3=>3|4=>4|0=>0|20=>20|72=>73|76=>78|70=>70|37=>71|75=>77|127=>118|164=>146|5=>5|80=>80|n=>n,fun|n=>n⟩
theorem Tryz.zf:Go.Proofs.Lays.n156 Tryz.prog Tryz.EP:={
 mixed:=by kernel_rfl
 f156:=Tryz.func103.trans (congrArg some (by kernel_rfl))
 f165:=Tryz.func130.trans (congrArg some (by kernel_rfl))
 f166:=Tryz.func42.trans (congrArg some (by kernel_rfl))
 f169:=Tryz.func43.trans (congrArg some (by kernel_rfl))
 f240:=Tryz.func76.trans (congrArg some (by kernel_rfl))
 f241:=Tryz.func139.trans (congrArg some (by kernel_rfl))
 f276:=Tryz.func112.trans (congrArg some (by kernel_rfl))
 f277:=Tryz.func151.trans (congrArg some (by kernel_rfl))
 t0:=Tryz.underlying0
 a0:=Tryz.isAgg0
 z0:=Tryz.sizeOf0
 v0:=Tryz.zeroValue0
 t3:=Tryz.underlying3
 a3:=Tryz.isAgg3
 z3:=Tryz.sizeOf3
 v3:=Tryz.zeroValue3
 t4:=Tryz.underlying4
 a4:=Tryz.isAgg4
 z4:=Tryz.sizeOf4
 v4:=Tryz.zeroValue4
 t9:=Tryz.underlying9
 a9:=Tryz.isAgg9
 z9:=Tryz.sizeOf9
 v9:=Tryz.zeroValue9
 t20:=Tryz.underlying20
 a20:=Tryz.isAgg20
 z20:=Tryz.sizeOf20
 v20:=Tryz.zeroValue20
 t31:=Tryz.underlying138
 a31:=Tryz.isAgg138
 z31:=Tryz.sizeOf138
 v31:=Tryz.zeroValue138
 t37:=Tryz.underlying71
 a37:=Tryz.isAgg71
 z37:=Tryz.sizeOf71
 v37:=Tryz.zeroValue71
 t70:=Tryz.underlying70
 a70:=Tryz.isAgg70
 z70:=Tryz.sizeOf70
 v70:=Tryz.zeroValue70
 t72:=Tryz.underlying73
 a72:=Tryz.isAgg73
 z72:=Tryz.sizeOf73
 v72:=Tryz.zeroValue73
 t75:=Tryz.underlying77
 a75:=Tryz.isAgg77
 z75:=Tryz.sizeOf77
 v75:=Tryz.zeroValue77
 t76:=Tryz.underlying78
 a76:=Tryz.isAgg78
 z76:=Tryz.sizeOf78
 v76:=Tryz.zeroValue78
 t127:=Tryz.underlying118
 a127:=Tryz.isAgg118
 z127:=Tryz.sizeOf118
 v127:=Tryz.zeroValue118
 t164:=Tryz.underlying146
 a164:=Tryz.isAgg146
 z164:=Tryz.sizeOf146
 v164:=Tryz.zeroValue146}
theorem Tryz.ER:Builder.Extra Tryz.prog Tryz.EP:={
 sizeBuilder:=by kernel_rfl
 liesBuilder:=by kernel_rfl
 t5:=Tryz.underlying5
 a5:=Tryz.isAgg5
 z5:=Tryz.sizeOf5
 v5:=Tryz.zeroValue5
 infoByte:=by kernel_rfl
 cellsByte:=by kernel_rfl
 sizeByte:=by kernel_rfl
 neB5:=by decide}
def Tryz.Uz:Go.Shelf.Ren:=⟨fun|101=>162|208=>174|206=>182|n=>n,fun|9=>9|4=>4|3=>3|n=>n,fun|n=>n⟩
theorem Tryz.zg:Go.Proofs.Lays.n101 Tryz.prog Tryz.Uz:={
 mixed:=by kernel_rfl
 f101:=Tryz.func162.trans (congrArg some (by kernel_rfl))
 f206:=Tryz.func182.trans (congrArg some (by kernel_rfl))
 f208:=Tryz.func174.trans (congrArg some (by kernel_rfl))
 t3:=Tryz.underlying3
 a3:=Tryz.isAgg3
 z3:=Tryz.sizeOf3
 v3:=Tryz.zeroValue3
 t4:=Tryz.underlying4
 a4:=Tryz.isAgg4
 z4:=Tryz.sizeOf4
 v4:=Tryz.zeroValue4
 t9:=Tryz.underlying9
 a9:=Tryz.isAgg9
 z9:=Tryz.sizeOf9
 v9:=Tryz.zeroValue9}
def Tryz.UA:Go.Shelf.Ren:=⟨fun|174=>163|247=>175|245=>176|287=>183|279=>184|280=>185|281=>186|282=>187|321=>189|322=>190|316=>191|171=>193|205=>192|243=>194|246=>134|283=>147|284=>148|285=>149|286=>150|129=>157|317=>156|318=>158|319=>159|320=>160|337=>168|338=>169|n=>n,fun|9=>9|3=>3|2=>2|75=>77|85=>202|4=>4|167=>215|5=>5|53=>187|175=>216|46=>171|168=>218|37=>71|0=>0|210=>224|21=>21|127=>118|145=>232|143=>230|171=>186|173=>190|212=>196|51=>197|20=>20|213=>198|232=>211|233=>212|80=>80|n=>n,fun|15=>4|16=>5|17=>0|18=>2|19=>3|n=>n⟩
theorem Tryz.ES:Go.Proofs.LaysC.n174 Tryz.prog Tryz.UA:={
 mixed:=by kernel_rfl
 f129:=Tryz.func157.trans (congrArg some (by kernel_rfl))
 f171:=Tryz.func193.trans (congrArg some (by kernel_rfl))
 f174:=Tryz.func163.trans (congrArg some (by kernel_rfl))
 f205:=Tryz.func192.trans (congrArg some (by kernel_rfl))
 f243:=Tryz.func194.trans (congrArg some (by kernel_rfl))
 f245:=Tryz.func176.trans (congrArg some (by kernel_rfl))
 f246:=Tryz.func134.trans (congrArg some (by kernel_rfl))
 f247:=Tryz.func175.trans (congrArg some (by kernel_rfl))
 f279:=Tryz.func184.trans (congrArg some (by kernel_rfl))
 f280:=Tryz.func185.trans (congrArg some (by kernel_rfl))
 f281:=Tryz.func186.trans (congrArg some (by kernel_rfl))
 f282:=Tryz.func187.trans (congrArg some (by kernel_rfl))
 f283:=Tryz.func147.trans (congrArg some (by kernel_rfl))
 f284:=Tryz.func148.trans (congrArg some (by kernel_rfl))
 f285:=Tryz.func149.trans (congrArg some (by kernel_rfl))
 f286:=Tryz.func150.trans (congrArg some (by kernel_rfl))
 f287:=Tryz.func183.trans (congrArg some (by kernel_rfl))
 f316:=Tryz.func191.trans (congrArg some (by kernel_rfl))
 f317:=Tryz.func156.trans (congrArg some (by kernel_rfl))
 f318:=Tryz.func158.trans (congrArg some (by kernel_rfl))
 f319:=Tryz.func159.trans (congrArg some (by kernel_rfl))
 f320:=Tryz.func160.trans (congrArg some (by kernel_rfl))
 f321:=Tryz.func189.trans (congrArg some (by kernel_rfl))
 f322:=Tryz.func190.trans (congrArg some (by kernel_rfl))
 f337:=Tryz.func168.trans (congrArg some (by kernel_rfl))
 f338:=Tryz.func169.trans (congrArg some (by kernel_rfl))
 t0:=Tryz.underlying0
 a0:=Tryz.isAgg0
 z0:=Tryz.sizeOf0
 v0:=Tryz.zeroValue0
 t2:=Tryz.underlying2
 a2:=Tryz.isAgg2
 z2:=Tryz.sizeOf2
 v2:=Tryz.zeroValue2
 t3:=Tryz.underlying3
 a3:=Tryz.isAgg3
 z3:=Tryz.sizeOf3
 v3:=Tryz.zeroValue3
 t4:=Tryz.underlying4
 a4:=Tryz.isAgg4
 z4:=Tryz.sizeOf4
 v4:=Tryz.zeroValue4
 t5:=Tryz.underlying5
 a5:=Tryz.isAgg5
 z5:=Tryz.sizeOf5
 v5:=Tryz.zeroValue5
 t9:=Tryz.underlying9
 a9:=Tryz.isAgg9
 z9:=Tryz.sizeOf9
 v9:=Tryz.zeroValue9
 t20:=Tryz.underlying20
 a20:=Tryz.isAgg20
 z20:=Tryz.sizeOf20
 v20:=Tryz.zeroValue20
 t21:=Tryz.underlying21
 a21:=Tryz.isAgg21
 z21:=Tryz.sizeOf21
 v21:=Tryz.zeroValue21
 t37:=Tryz.underlying71
 a37:=Tryz.isAgg71
 z37:=Tryz.sizeOf71
 v37:=Tryz.zeroValue71
 t46:=Tryz.underlying171
 a46:=Tryz.isAgg171
 z46:=Tryz.sizeOf171
 v46:=Tryz.zeroValue171
 t51:=Tryz.underlying197
 a51:=Tryz.isAgg197
 z51:=Tryz.sizeOf197
 v51:=Tryz.zeroValue197
 t53:=Tryz.underlying187
 a53:=Tryz.isAgg187
 z53:=Tryz.sizeOf187
 v53:=Tryz.zeroValue187
 t75:=Tryz.underlying77
 a75:=Tryz.isAgg77
 z75:=Tryz.sizeOf77
 v75:=Tryz.zeroValue77
 t85:=Tryz.underlying202
 a85:=Tryz.isAgg202
 z85:=Tryz.sizeOf202
 v85:=Tryz.zeroValue202
 t127:=Tryz.underlying118
 a127:=Tryz.isAgg118
 z127:=Tryz.sizeOf118
 v127:=Tryz.zeroValue118
 t143:=Tryz.underlying230
 a143:=Tryz.isAgg230
 z143:=Tryz.sizeOf230
 v143:=Tryz.zeroValue230
 t145:=Tryz.underlying232
 a145:=Tryz.isAgg232
 z145:=Tryz.sizeOf232
 v145:=Tryz.zeroValue232
 t167:=Tryz.underlying215
 a167:=Tryz.isAgg215
 z167:=Tryz.sizeOf215
 v167:=Tryz.zeroValue215
 t168:=Tryz.underlying218
 a168:=Tryz.isAgg218
 z168:=Tryz.sizeOf218
 v168:=Tryz.zeroValue218
 t171:=Tryz.underlying186
 a171:=Tryz.isAgg186
 z171:=Tryz.sizeOf186
 v171:=Tryz.zeroValue186
 t173:=Tryz.underlying190
 a173:=Tryz.isAgg190
 z173:=Tryz.sizeOf190
 v173:=Tryz.zeroValue190
 t175:=Tryz.underlying216
 a175:=Tryz.isAgg216
 z175:=Tryz.sizeOf216
 v175:=Tryz.zeroValue216
 t210:=Tryz.underlying224
 a210:=Tryz.isAgg224
 z210:=Tryz.sizeOf224
 v210:=Tryz.zeroValue224
 t212:=Tryz.underlying196
 a212:=Tryz.isAgg196
 z212:=Tryz.sizeOf196
 v212:=Tryz.zeroValue196
 t213:=Tryz.underlying198
 a213:=Tryz.isAgg198
 z213:=Tryz.sizeOf198
 t232:=Tryz.underlying211
 a232:=Tryz.isAgg211
 z232:=Tryz.sizeOf211
 v232:=Tryz.zeroValue211
 t233:=Tryz.underlying212
 a233:=Tryz.isAgg212
 z233:=Tryz.sizeOf212
 v233:=Tryz.zeroValue212
 g15:=by kernel_rfl
 g16:=by kernel_rfl
 g17:=by kernel_rfl
 g18:=by kernel_rfl
 g19:=by kernel_rfl
 t80:=Tryz.underlying80
 a80:=Tryz.isAgg80
 z80:=Tryz.sizeOf80
 v80:=Tryz.zeroValue80
 i0:=by kernel_rfl
 i2:=by kernel_rfl
 i3:=by kernel_rfl
 i4:=by kernel_rfl
 i5:=by kernel_rfl
 i9:=by kernel_rfl
 i20:=by kernel_rfl
 i21:=by kernel_rfl
 i37:=by kernel_rfl
 i46:=by kernel_rfl
 i51:=by kernel_rfl
 i53:=by kernel_rfl
 i75:=by kernel_rfl
 i80:=by kernel_rfl
 i85:=by kernel_rfl
 i127:=by kernel_rfl
 i143:=by kernel_rfl
 i145:=by kernel_rfl
 i167:=by kernel_rfl
 i168:=by kernel_rfl
 i171:=by kernel_rfl
 i173:=by kernel_rfl
 i175:=by kernel_rfl
 i210:=by kernel_rfl
 i212:=by kernel_rfl
 i232:=by kernel_rfl
 i233:=by kernel_rfl
 m15:=by kernel_rfl
 m16:=by kernel_rfl
 m17:=by kernel_rfl
 m18:=by kernel_rfl
 m19:=by kernel_rfl
 c0:=by kernel_rfl
 c2:=by kernel_rfl
 c3:=by kernel_rfl
 c4:=by kernel_rfl
 c5:=by kernel_rfl
 c9:=by kernel_rfl
 c20:=by kernel_rfl
 c21:=by kernel_rfl
 c37:=by kernel_rfl
 c46:=by kernel_rfl
 c51:=by kernel_rfl
 c53:=by kernel_rfl
 c75:=by kernel_rfl
 c80:=by kernel_rfl
 c85:=by kernel_rfl
 c127:=by kernel_rfl
 c143:=by kernel_rfl
 c145:=by kernel_rfl
 c167:=by kernel_rfl
 c168:=by kernel_rfl
 c171:=by kernel_rfl
 c173:=by kernel_rfl
 c175:=by kernel_rfl
 c210:=by kernel_rfl
 c212:=by kernel_rfl
 c213:=by kernel_rfl
 c232:=by kernel_rfl
 c233:=by kernel_rfl}
def Tryz.UB:Go.Shelf.Ren:=⟨fun|173=>111|246=>134|283=>147|284=>148|285=>149|286=>150|129=>157|317=>156|318=>158|319=>159|320=>160|337=>168|338=>169|n=>n,fun|2=>2|3=>3|9=>9|4=>4|171=>186|0=>0|53=>187|37=>71|5=>5|173=>190|212=>196|51=>197|20=>20|213=>198|46=>171|232=>211|233=>212|n=>n,fun|17=>0|18=>2|19=>3|n=>n⟩
theorem Tryz.zh:Go.Proofs.LaysM.n173 Tryz.prog Tryz.UB:={
 mixed:=by kernel_rfl
 f129:=Tryz.func157.trans (congrArg some (by kernel_rfl))
 f173:=Tryz.func111.trans (congrArg some (by kernel_rfl))
 f246:=Tryz.func134.trans (congrArg some (by kernel_rfl))
 f283:=Tryz.func147.trans (congrArg some (by kernel_rfl))
 f284:=Tryz.func148.trans (congrArg some (by kernel_rfl))
 f285:=Tryz.func149.trans (congrArg some (by kernel_rfl))
 f286:=Tryz.func150.trans (congrArg some (by kernel_rfl))
 f317:=Tryz.func156.trans (congrArg some (by kernel_rfl))
 f318:=Tryz.func158.trans (congrArg some (by kernel_rfl))
 f319:=Tryz.func159.trans (congrArg some (by kernel_rfl))
 f320:=Tryz.func160.trans (congrArg some (by kernel_rfl))
 f337:=Tryz.func168.trans (congrArg some (by kernel_rfl))
 f338:=Tryz.func169.trans (congrArg some (by kernel_rfl))
 t0:=Tryz.underlying0
 a0:=Tryz.isAgg0
 z0:=Tryz.sizeOf0
 v0:=Tryz.zeroValue0
 t2:=Tryz.underlying2
 a2:=Tryz.isAgg2
 z2:=Tryz.sizeOf2
 v2:=Tryz.zeroValue2
 t3:=Tryz.underlying3
 a3:=Tryz.isAgg3
 z3:=Tryz.sizeOf3
 v3:=Tryz.zeroValue3
 t4:=Tryz.underlying4
 a4:=Tryz.isAgg4
 z4:=Tryz.sizeOf4
 v4:=Tryz.zeroValue4
 t5:=Tryz.underlying5
 a5:=Tryz.isAgg5
 z5:=Tryz.sizeOf5
 v5:=Tryz.zeroValue5
 t9:=Tryz.underlying9
 a9:=Tryz.isAgg9
 z9:=Tryz.sizeOf9
 v9:=Tryz.zeroValue9
 t20:=Tryz.underlying20
 a20:=Tryz.isAgg20
 z20:=Tryz.sizeOf20
 v20:=Tryz.zeroValue20
 t37:=Tryz.underlying71
 a37:=Tryz.isAgg71
 z37:=Tryz.sizeOf71
 v37:=Tryz.zeroValue71
 t46:=Tryz.underlying171
 a46:=Tryz.isAgg171
 z46:=Tryz.sizeOf171
 v46:=Tryz.zeroValue171
 t51:=Tryz.underlying197
 a51:=Tryz.isAgg197
 z51:=Tryz.sizeOf197
 v51:=Tryz.zeroValue197
 t53:=Tryz.underlying187
 a53:=Tryz.isAgg187
 z53:=Tryz.sizeOf187
 v53:=Tryz.zeroValue187
 t171:=Tryz.underlying186
 a171:=Tryz.isAgg186
 z171:=Tryz.sizeOf186
 v171:=Tryz.zeroValue186
 t173:=Tryz.underlying190
 a173:=Tryz.isAgg190
 z173:=Tryz.sizeOf190
 v173:=Tryz.zeroValue190
 t212:=Tryz.underlying196
 a212:=Tryz.isAgg196
 z212:=Tryz.sizeOf196
 v212:=Tryz.zeroValue196
 t213:=Tryz.underlying198
 a213:=Tryz.isAgg198
 z213:=Tryz.sizeOf198
 t232:=Tryz.underlying211
 a232:=Tryz.isAgg211
 z232:=Tryz.sizeOf211
 v232:=Tryz.zeroValue211
 t233:=Tryz.underlying212
 a233:=Tryz.isAgg212
 z233:=Tryz.sizeOf212
 v233:=Tryz.zeroValue212
 g17:=by kernel_rfl
 g18:=by kernel_rfl
 g19:=by kernel_rfl
 i0:=by kernel_rfl
 i2:=by kernel_rfl
 i3:=by kernel_rfl
 i4:=by kernel_rfl
 i5:=by kernel_rfl
 i9:=by kernel_rfl
 i20:=by kernel_rfl
 i37:=by kernel_rfl
 i46:=by kernel_rfl
 i51:=by kernel_rfl
 i53:=by kernel_rfl
 i171:=by kernel_rfl
 i173:=by kernel_rfl
 i212:=by kernel_rfl
 i232:=by kernel_rfl
 i233:=by kernel_rfl
 m17:=by kernel_rfl
 m18:=by kernel_rfl
 m19:=by kernel_rfl}
def Tryz.ET:Go.Shelf.Ren:=⟨fun|166=>42|240=>76|276=>112|n=>n,fun|0=>0|3=>3|4=>4|5=>5|9=>9|20=>20|37=>71|70=>70|72=>73|75=>77|80=>80|164=>146|n=>n,fun|n=>n⟩
theorem Tryz.EU:Go.Proofs.Lays.n166 Tryz.prog Tryz.ET:={
 mixed:=by kernel_rfl
 f166:=Tryz.func42.trans (congrArg some (by kernel_rfl))
 f240:=Tryz.func76.trans (congrArg some (by kernel_rfl))
 f276:=Tryz.func112.trans (congrArg some (by kernel_rfl))
 t0:=Tryz.underlying0
 a0:=Tryz.isAgg0
 z0:=Tryz.sizeOf0
 v0:=Tryz.zeroValue0
 t3:=Tryz.underlying3
 a3:=Tryz.isAgg3
 z3:=Tryz.sizeOf3
 v3:=Tryz.zeroValue3
 t4:=Tryz.underlying4
 a4:=Tryz.isAgg4
 z4:=Tryz.sizeOf4
 v4:=Tryz.zeroValue4
 t9:=Tryz.underlying9
 a9:=Tryz.isAgg9
 z9:=Tryz.sizeOf9
 v9:=Tryz.zeroValue9
 t20:=Tryz.underlying20
 a20:=Tryz.isAgg20
 z20:=Tryz.sizeOf20
 v20:=Tryz.zeroValue20
 t37:=Tryz.underlying71
 a37:=Tryz.isAgg71
 z37:=Tryz.sizeOf71
 v37:=Tryz.zeroValue71
 t70:=Tryz.underlying70
 a70:=Tryz.isAgg70
 z70:=Tryz.sizeOf70
 v70:=Tryz.zeroValue70
 t72:=Tryz.underlying73
 a72:=Tryz.isAgg73
 z72:=Tryz.sizeOf73
 v72:=Tryz.zeroValue73
 t75:=Tryz.underlying77
 a75:=Tryz.isAgg77
 z75:=Tryz.sizeOf77
 v75:=Tryz.zeroValue77
 t164:=Tryz.underlying146
 a164:=Tryz.isAgg146
 z164:=Tryz.sizeOf146
 v164:=Tryz.zeroValue146}
theorem Tryz.UC:Builder.Extra Tryz.prog Tryz.ET:={
 sizeBuilder:=by kernel_rfl
 liesBuilder:=by kernel_rfl
 t5:=Tryz.underlying5
 a5:=Tryz.isAgg5
 z5:=Tryz.sizeOf5
 v5:=Tryz.zeroValue5
 infoByte:=by kernel_rfl
 cellsByte:=by kernel_rfl
 sizeByte:=by kernel_rfl
 neB5:=by decide}
def Tryz.EV:Go.Shelf.Ren:=⟨fun|169=>43|n=>n,fun|0=>0|3=>3|5=>5|9=>9|37=>71|70=>70|72=>73|127=>118|n=>n,fun|n=>n⟩
theorem Tryz.EW:Go.Proofs.Lays.n169 Tryz.prog Tryz.EV:={
 mixed:=by kernel_rfl
 f169:=Tryz.func43.trans (congrArg some (by kernel_rfl))
 t0:=Tryz.underlying0
 a0:=Tryz.isAgg0
 z0:=Tryz.sizeOf0
 v0:=Tryz.zeroValue0
 t3:=Tryz.underlying3
 a3:=Tryz.isAgg3
 z3:=Tryz.sizeOf3
 v3:=Tryz.zeroValue3
 t9:=Tryz.underlying9
 a9:=Tryz.isAgg9
 z9:=Tryz.sizeOf9
 v9:=Tryz.zeroValue9
 t37:=Tryz.underlying71
 a37:=Tryz.isAgg71
 z37:=Tryz.sizeOf71
 v37:=Tryz.zeroValue71
 t70:=Tryz.underlying70
 a70:=Tryz.isAgg70
 z70:=Tryz.sizeOf70
 v70:=Tryz.zeroValue70
 t72:=Tryz.underlying73
 a72:=Tryz.isAgg73
 z72:=Tryz.sizeOf73
 v72:=Tryz.zeroValue73
 t127:=Tryz.underlying118
 a127:=Tryz.isAgg118
 z127:=Tryz.sizeOf118
 v127:=Tryz.zeroValue118}
theorem Tryz.UD:Builder.Extra Tryz.prog Tryz.EV:={
 sizeBuilder:=by kernel_rfl
 liesBuilder:=by kernel_rfl
 t5:=Tryz.underlying5
 a5:=Tryz.isAgg5
 z5:=Tryz.sizeOf5
 v5:=Tryz.zeroValue5
 infoByte:=by kernel_rfl
 cellsByte:=by kernel_rfl
 sizeByte:=by kernel_rfl
 neB5:=by decide}
theorem UE:One bW (fun x=>.string ⟨⟨x⟩⟩):=⟨fun _=>rfl,fun w F x cs S=>by unfold bW;rw[ak]⟩
theorem EX (n:Nat):h9 n=Lib.decDigits n:=by
 induction n using Nat.strongRecOn with
 |_ n ih=>
  rw[h9,Lib.decDigits]
  by_cases h:n<10
  ·rw[dif_pos h,dif_pos h]
  ·rw[dif_neg h,dif_neg h,ih (n/10) (by omega)]
theorem UF (n:Int):fb n=Lib.itoa n:=by
 unfold fb Lib.itoa
 rw[EX,EX]
theorem UG {w:World} (hg:lY w fun _=>False):Lib.TabIs Tryz.prog w "internal/strconv.uint64pow10" .u64 Lib.pow10Tab:=by
 obtain⟨_,_,o,g1,ty,fr,g2⟩:=hg (0,t_) (by simp[ua])
 unfold Lib.TabIs World.var?
 rw[show Tryz.prog.globalNamed "internal/strconv.uint64pow10" =some 0 by kernel_rfl]
 simp only[Option.bind_some,g1,g2,Lib.pow10Tab,List.map_map]
 rfl
theorem UH {w:World} (k:Nat) (os:Array Obj):RowKit.Below w.heap.size w (Sort.grow (w.drewN k) os) where
 os:=rfl
 tape:=rfl
 output:=rfl
 size:=by simp[Sort.grow,World.drewN]
 block:=fun b J=>by
  show(w.heap++os)[b]? =_
  rw[Array.getElem?_append_left J]
theorem UI (a0 aA:Int) (r:List UInt8) (h:rm a0 aA=some r):bj aO 111 [.int .i64 a0,.int .i64 aA] (.str r) []:=by
 unfold rm at h
 split at h
 ·rename_i aI
  obtain⟨bl,aa,rfl⟩:=aI
  cases h
  refine bj.strs rfl (enters_of Tryz.zh.f173 (by kernel_rfl) rfl) fun w F X S vs iv aC=> ?_
  obtain⟨v0,v1,rfl⟩:∃v0 v1,vs=[v0,v1]:=by
   match vs,iv with
   |[x,y],_=>exact⟨x,y,rfl⟩
  have g0:v0= .int .i64 a0:=jN (aC.b2 0)
  have g1:v1= .int .i64 10:=jN (aC.b2 1)
  subst g0 g1
  rw[UF]
  refine(Any.strconv_FormatInt_10 Tryz.zh a0 bl aa w (UG (aC.dW.next (Nat.le_refl _) (fun _ _ _=>rfl) fun _ h=>h.elim))).mono ?_
  rintro e ar ⟨rfl,k,os,rfl⟩
  exact⟨rfl,UH k os⟩
 ·cases h
theorem UJ (a0:List (List UInt8)) (aA r:List UInt8) (h:strings_Join a0 aA=some r):bj aO 103 [.slice (a0.map bW),.str aA] (.str r) []:=by
 unfold strings_Join at h
 split at h
 ·rename_i aI
  cases h
  refine bj.strs rfl (enters_of Tryz.zf.f156 (by kernel_rfl) rfl) fun w F X S vs iv aC=> ?_
  obtain⟨v0,v1,rfl⟩:∃v0 v1,vs=[v0,v1]:=by
   match vs,iv with
   |[x,y],_=>exact⟨x,y,rfl⟩
  have aa:v1= .string ⟨⟨aA⟩⟩:=iM (aC.b2 1)
  subst aa
  rcases Lu aC (u:=0) UE rfl with⟨rfl,a,c,aD⟩|⟨b,o,cap,aD,J,af,ai⟩
  ·have aD:v0= .slice a 0 c:=aD
   subst aD
   exact(Any.strings_Join_none Tryz.zf Tryz.ER a c ⟨⟨aA⟩⟩ w).mono fun e ar ⟨he,hw⟩=>⟨he,hw▸RowKit.Below.refl _ _⟩
  ·have aD:v0= .slice (some ⟨b,o,none⟩) a0.length cap:=aD
   subst aD
   have aF:(a0.map fun x=>(⟨⟨x⟩⟩:ByteArray)).map (·.data.toList)=a0:=by rw[List.map_map];exact List.map_id _
   have:=Any.strings_Join Tryz.zf Tryz.ER b o cap (a0.map fun x=>⟨⟨x⟩⟩) ⟨⟨aA⟩⟩ w (fun j x bE=>by
    rw[List.getElem?_map]at bE
    obtain⟨y,hy,rfl⟩:=Option.map_eq_some_iff.1 bE
    exact ai j y hy) J (by rw[List.length_map];exact aI.1) (by rw[List.length_map];exact af) (by rw[aF];exact aI.2)
   rw[aF,List.length_map]at this
   exact this
 ·cases h
theorem UK (a0 aA r:List UInt8) (h:tk a0 aA=some r):bj aO 42 [.b9 (.dM 73 5 a0),.str aA] .hole [.b9 (.dM 73 5 r),.hole]:=by
 unfold tk at h
 split at h
 ·rename_i aI
  cases h
  refine bj.LN rfl (enters_of Tryz.EU.f166 (by kernel_rfl) rfl) fun w b a v J br=> ?_
  exact Lz Tryz.EU Tryz.UC b a v (Lib.byteCells a0) ⟨⟨aA⟩⟩ w J br (by rw[Lib.byteCells_length];exact aI)
 ·cases h
theorem UL (a0 r:List UInt8) (h:vT a0=some r):bj aO 43 [.b9 (.dM 73 5 a0)] (.str r) [.hole]:=by
 cases h
 refine bj.LP rfl (enters_of Tryz.EW.f169 (by kernel_rfl) rfl) fun w b a v J=> ?_
 exact LL Tryz.EW Tryz.UD b a v a0 w J
section
open Go.RowKit
set_option maxHeartbeats 4000000
theorem UM (n:Int) (bl: -9223372036854775808≤n) (aa:n≤9223372036854775807) (w:World) (v7:Lib.TabIs Tryz.prog w "internal/strconv.uint64pow10" .u64 Lib.pow10Tab):
  Calls Tryz.prog 75 #[.int .i64 n] w fun e ar=>e= .returned (.string ⟨(Lib.itoa n).toArray⟩)∧∃k os,ar=Sort.grow (w.drewN k) os:=by
 go_enter Tryz.func75,Tryz.ntmps75
 go_wp2_with (go_at_call 111;refine(Any.strconv_FormatInt_10 Tryz.zh n bl aa _ v7).mono ?_;rintro e ar ⟨rfl,k,os,rfl⟩)
 go_ret
 exact⟨rfl,k,os,rfl⟩
theorem UN {P:Program} {w ar:World} {name:String} {k:IntKind} {el:List Int} (h:Lib.TabIs P w name k el) (J:Below w.heap.size w ar):Lib.TabIs P ar name k el:=by
 unfold Lib.TabIs World.var? at*
 cases hg:P.globalNamed name with
 |none=>simp[hg]at h
 |some g=>
  simp only[hg,Option.bind_some]at h⊢
  have cJ:g<w.heap.size:=by
   rcases Nat.lt_or_ge g w.heap.size with aT|aT
   ·exact aT
   ·rw[Array.getElem?_eq_none aT]at h;simp at h
  rw[J.block g cJ]
  exact h
theorem EY {w ar:World} (h:Below w.heap.size w ar) (k:Nat) (os:Array Obj):Below w.heap.size w (Sort.grow (ar.drewN k) os) where
 os:=h.os
 tape:=h.tape
 output:=h.output
 size:=Nat.le_trans h.size (by simp[Sort.grow,World.drewN])
 block:=fun b J=>by
  have:=h.block b J
  rw[←this]
  show(ar.heap++os)[b]? =_
  rw[Array.getElem?_append_left (Nat.lt_of_lt_of_le J h.size)]
theorem UO (s:List UInt8) (aI:¬(Lib.trimPrefix s [45]).length≤18) (w:World):
  Calls Tryz.prog 153 #[.string ⟨⟨s⟩⟩] w fun e ar=>e= .returned (.tuple #[.int .i64 0,.bool false])∧Below w.heap.size w ar:=by
 go_enter Tryz.func153,Tryz.ntmps153
 go_wp2_with (go_at_call 162;refine(Any.strings_TrimPrefix Tryz.zg ⟨⟨s⟩⟩ ⟨#[45]⟩ _).mono ?_;rintro e ar ⟨rfl,rfl⟩)
 go_ret2
 exact⟨rfl,Below.refl _ _⟩
theorem UP (s:List UInt8) (aI:(Lib.trimPrefix s [45]).length≤18) (U:s.length≤1000) (ah:Lib.parseIntB 64 s=Lib.parseIntB 64 []) (az:Value) (w:World) (aD:w.cell? ⟨4,0,none⟩=some az) (UQ:az= .nilIface∨∃wY wZ,az= .iface wY wZ):
  Calls Tryz.prog 153 #[.string ⟨⟨s⟩⟩] w fun e ar=>e= .returned (.tuple #[.int .i64 0,.bool false])∧Below w.heap.size w ar:=by
 go_enter Tryz.func153,Tryz.ntmps153
 go_wp2_with (first|(go_at_call 162;refine(Any.strings_TrimPrefix Tryz.zg ⟨⟨s⟩⟩ ⟨#[45]⟩ _).mono ?_;rintro e ar ⟨rfl,rfl⟩)|(go_at_call 163;refine(Any.strconv_ParseInt_10_at64_syntax Tryz.ES ⟨⟨s⟩⟩ (Nat.le_trans U (by decide)) ah az _ aD UQ).mono ?_))
 rintro e sU ⟨N,rfl,-,-,J⟩
 go_wp2
 go_ret2
 exact⟨rfl,J⟩
theorem UR (s:List UInt8) (aI:(Lib.trimPrefix s [45]).length≤18) (U:s.length≤1000) (v:Int) (ah:Lib.parseIntB 64 s= .ok v) (bl: -9223372036854775808≤v) (aa:v≤9223372036854775807) (w:World) (v7:Lib.TabIs Tryz.prog w "internal/strconv.uint64pow10" .u64 Lib.pow10Tab):
  Calls Tryz.prog 153 #[.string ⟨⟨s⟩⟩] w fun e ar=>e= .returned (.tuple #[.int .i64 (mF s).1,.bool (mF s).2])∧Below w.heap.size w ar:=by
 go_enter Tryz.func153,Tryz.ntmps153
 go_wp2_with (first|(go_at_call 162;refine(Any.strings_TrimPrefix Tryz.zg ⟨⟨s⟩⟩ ⟨#[45]⟩ _).mono ?_;rintro e ar ⟨rfl,rfl⟩)|(go_at_call 163;refine(Any.strconv_ParseInt_10_at64_ok Tryz.ES ⟨⟨s⟩⟩ (Nat.le_trans U (by decide)) v ah _).mono ?_))
 rintro e sU ⟨rfl,J⟩
 have US:Lib.TabIs Tryz.prog sU "internal/strconv.uint64pow10" .u64 Lib.pow10Tab:=by
  rcases J with rfl|⟨t,rfl⟩
  ·exact v7
  ·exact UN v7 (Lib.bytesWorld_below _ _ _)
 have u0:Below ar.heap.size ar sU:=by
  rcases J with rfl|⟨t,rfl⟩
  ·exact Below.refl _ _
  ·exact Lib.bytesWorld_below _ _ _
 clear J
 go_wp2_with (go_at_call 75;refine(UM v bl aa _ US).mono ?_;rintro e ar ⟨rfl,k,os,rfl⟩)
 all_goals go_ret2
 all_goals (rename_i h)
 ·have e:mF s=(0,false):=by
   unfold mF
   rw[ah]
   simp only
   rw[if_neg (by intro e;simp[e]at h)]
  rw[e]
  exact⟨rfl,EY u0 _ _⟩
 ·have e:mF s=(v,true):=by
   unfold mF
   rw[ah]
   simp only
   rw[if_pos (by simpa using h)]
  rw[e]
  exact⟨rfl,EY u0 _ _⟩
theorem UT (s:List UInt8):(Lib.trimPrefix s [45]).length=(if s.head? =some 45 then s.tail else s).length:=by
 unfold Lib.trimPrefix Lib.hasPrefix
 cases s with
 |nil=>rfl
 |cons c r=>
  by_cases h:c=45
  ·subst h
   rw[if_pos (show(45::r).head? =some 45 from rfl),if_pos (by simp[List.isPrefixOf])]
   rfl
  ·rw[if_neg (show¬(c::r).head? =some 45 from fun e=>h (Option.some.inj e)),if_neg (by simp[List.isPrefixOf];exact fun e=>h e.symm)]
theorem UU (s:List UInt8) (w:World) (hg:lY w fun _=>False):
  Calls Tryz.prog 153 #[.string ⟨⟨s⟩⟩] w fun e ar=>e= .returned (.tuple #[.int .i64 (fm s).1,.bool (fm s).2])∧Below w.heap.size w ar:=by
 have aK:=UT s
 by_cases aI:(Lib.trimPrefix s [45]).length≤18
 ·have U:s.length≤1000:=by
   rw[aK]at aI
   split at aI
   ·rw[List.length_tail]at aI;omega
   ·omega
  obtain⟨aa,ab⟩:=UW s (by rw[←aK];exact aI)
  rw[←ab]
  rcases ah:Lib.parseIntB 64 s with v|_|_
  rotate_left
  ·have e:mF s=(0,false):=by unfold mF;rw[ah]
   obtain⟨_,_,o,g1,az,cs,ty,fr,g2,g3,g4⟩:=hg (4,wX) (by simp[ua])
   rw[e]
   refine UP s aI U ah az w ?_ g4
   simp only[World.cell?,g1,g2]
   simpa using g3
  ·exact(aa ah).elim
  ·have J:=Lib.parseIntB_bounds ah
   obtain⟨_,_,o,g1,ty,fr,g2⟩:=hg (0,t_) (by simp[ua])
   refine UR s aI U v ah (by have:=J.1;simp at this;omega) (by have:=J.2;simp at this;omega) w ?_
   unfold Lib.TabIs World.var?
   rw[show Tryz.prog.globalNamed "internal/strconv.uint64pow10" =some 0 by kernel_rfl]
   simp only[Option.bind_some,g1,g2,Lib.pow10Tab,List.map_map]
   rfl
 ·have e:fm s=(0,false):=by
   rw[aK]at aI
   unfold fm
   split<;>rename_i h
   ·rw[if_pos h]at aI
    unfold iY
    rw[if_neg (fun aT=>aI aT.2.1)]
   ·rw[if_neg h]at aI
    unfold iY
    rw[if_neg (fun aT=>aI aT.2.1)]
  rw[e]
  exact UO s aI w
theorem UX (a0:List UInt8) (r:Int×Bool) (h:vE a0=some r):bj aO 153 [.str a0] (.tuple [.int .i64 r.1,.bool r.2]) []:=by
 obtain rfl:fm a0=r:=Option.some.inj h
 refine bj.below (v:=.tuple #[.int .i64 (fm a0).1,.bool (fm a0).2]) rfl (enters_of Tryz.func153 (by kernel_rfl) rfl) rfl
  ⟨_,rfl,rfl,fun k d x ae ai=> ?_⟩ (fun w F=> ?_) fun w F X S vs iv aC=> ?_
 ·rcases k with _|_|k
  ·simp at ae ai;subst ae ai;exact⟨rfl,fun vs=>by simp,rfl⟩
  ·simp at ae ai;subst ae ai;exact⟨rfl,fun vs=>by simp,rfl⟩
  ·simp at ae
 ·simp only[bs,ff]
  rw[ak,aL]
  refine⟨[.int .i64 (fm a0).1],[.bool (fm a0).2],fun _=>False,fun _=>False,rfl,by rw[ak],?_,fun _ h=>h,fun _ h=>h,fun _ h=>h.elim⟩
  rw[aL]
  exact⟨[.bool (fm a0).2],[],fun _=>False,fun _=>False,rfl,by rw[ak],by rw[aL],fun _ h=>h,fun _ h=>h,fun _ h=>h.elim⟩
 ·obtain⟨v0,rfl⟩:∃v0,vs=[v0]:=by
   match vs,iv with
   |[x],_=>exact⟨x,rfl⟩
  have g0:v0= .string ⟨⟨a0⟩⟩:=iM (aC.b2 0)
  subst g0
  exact UU a0 w (aC.dW.next (Nat.le_refl _) (fun _ _ _=>rfl) fun _ h=>h.elim)
end
end Go.Proofs.YtikimdcnadipbaaGreatDoor
