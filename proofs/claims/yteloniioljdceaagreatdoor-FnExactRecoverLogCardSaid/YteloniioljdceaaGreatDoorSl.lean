/- Part of a proof that a law returns true for every input. No condition. -/
import Derived.Ground.NamesProg
import Derived.Shelf.Lays
import Derived.Shelf.Strings.BuilderX
import Derived.Shelf.LaysC
import Derived.Shelf.LaysM
import Derived.Shelf.Strings.Prefix
import Derived.Shelf.Strconv.ParseIntPublic10
import Derived.Shelf.Strconv.Itoa4
import Derived.WalkKit
import Derived.BigCall
import Derived.Test.YteloniioljdceaaGreatDoorUV0x
import Derived.Shelf.Strings.OnBuilder
import Derived.Test.YteloniioljdceaaGreatDoorFwW
import Derived.Deep.WholeRow
import Derived.OwnWalk
import Derived.OwnWalkIn
import Derived.LoopIn
import Derived.Shelf.Abstract
import Derived.TacticsIn
import Derived.RegionIn
import Derived.Shelf.RegionOpen
import Derived.Test.YteloniioljdceaaGreatDoorFwM
import Derived.Test.YteloniioljdceaaGreatDoorC4
namespace Go.Proofs.YteloniioljdceaaGreatDoor
open List Option Go.IntKind Nat Or
open Go Go.ca Go.lh Go.Shelf
set_option maxRecDepth 100000
def Tryz.Mq:Go.Shelf.Ren:=⟨λ|173=>130|246=>146|283=>157|284=>158|285=>159|286=>160|129=>173|317=>172|318=>174|319=>175|320=>176|337=>188|338=>189|n=>n,λ|2=>2|3=>3|9=>9|4=>4|171=>190|0=>0|53=>191|37=>98|5=>5|173=>194|212=>207|51=>208|20=>20|213=>209|46=>183|232=>230|233=>231|n=>n,λ|17=>1|18=>6|19=>7|n=>n⟩
theorem Tryz.Re:Go.Proofs.Lays.n173 Tryz.prog Tryz.Mq:={
 mixed:=by kernel_rfl
 f129:=Tryz.func173.trans (congrArg some (by kernel_rfl))
 f173:=Tryz.func130.trans (congrArg some (by kernel_rfl))
 f246:=Tryz.func146.trans (congrArg some (by kernel_rfl))
 f283:=Tryz.func157.trans (congrArg some (by kernel_rfl))
 f284:=Tryz.func158.trans (congrArg some (by kernel_rfl))
 f285:=Tryz.func159.trans (congrArg some (by kernel_rfl))
 f286:=Tryz.func160.trans (congrArg some (by kernel_rfl))
 f317:=Tryz.func172.trans (congrArg some (by kernel_rfl))
 f318:=Tryz.func174.trans (congrArg some (by kernel_rfl))
 f319:=Tryz.func175.trans (congrArg some (by kernel_rfl))
 f320:=Tryz.func176.trans (congrArg some (by kernel_rfl))
 f337:=Tryz.func188.trans (congrArg some (by kernel_rfl))
 f338:=Tryz.func189.trans (congrArg some (by kernel_rfl))
 t0:=Tryz.underlying0
 a0:=Tryz.isAgg0
 z0:=Tryz.sizeOf0
 v0:=Tryz.zeroValue0
 t2:=Tryz.underlying2
 a2:=Tryz.isAgg2
 z2:=Tryz.sizeOf2
 v2:=Tryz.zeroValue2
 t3:=Tryz.underlying3
 a3:=Tryz.isAgg3
 z3:=Tryz.sizeOf3
 v3:=Tryz.zeroValue3
 t4:=Tryz.underlying4
 a4:=Tryz.isAgg4
 z4:=Tryz.sizeOf4
 v4:=Tryz.zeroValue4
 t5:=Tryz.underlying5
 a5:=Tryz.isAgg5
 z5:=Tryz.sizeOf5
 v5:=Tryz.zeroValue5
 t9:=Tryz.underlying9
 a9:=Tryz.isAgg9
 z9:=Tryz.sizeOf9
 v9:=Tryz.zeroValue9
 t20:=Tryz.underlying20
 a20:=Tryz.isAgg20
 z20:=Tryz.sizeOf20
 v20:=Tryz.zeroValue20
 t37:=Tryz.underlying98
 a37:=Tryz.isAgg98
 z37:=Tryz.sizeOf98
 v37:=Tryz.zeroValue98
 t46:=Tryz.underlying183
 a46:=Tryz.isAgg183
 z46:=Tryz.sizeOf183
 v46:=Tryz.zeroValue183
 t51:=Tryz.underlying208
 a51:=Tryz.isAgg208
 z51:=Tryz.sizeOf208
 v51:=Tryz.zeroValue208
 t53:=Tryz.underlying191
 a53:=Tryz.isAgg191
 z53:=Tryz.sizeOf191
 v53:=Tryz.zeroValue191
 t171:=Tryz.underlying190
 a171:=Tryz.isAgg190
 z171:=Tryz.sizeOf190
 v171:=Tryz.zeroValue190
 t173:=Tryz.underlying194
 a173:=Tryz.isAgg194
 z173:=Tryz.sizeOf194
 v173:=Tryz.zeroValue194
 t212:=Tryz.underlying207
 a212:=Tryz.isAgg207
 z212:=Tryz.sizeOf207
 v212:=Tryz.zeroValue207
 t213:=Tryz.underlying209
 a213:=Tryz.isAgg209
 z213:=Tryz.sizeOf209
 t232:=Tryz.underlying230
 a232:=Tryz.isAgg230
 z232:=Tryz.sizeOf230
 v232:=Tryz.zeroValue230
 t233:=Tryz.underlying231
 a233:=Tryz.isAgg231
 z233:=Tryz.sizeOf231
 v233:=Tryz.zeroValue231
 g17:=by kernel_rfl
 g18:=by kernel_rfl
 g19:=by kernel_rfl}
def Tryz.D6:Go.Shelf.Ren:=⟨λ|156=>98|165=>131|166=>132|169=>133|240=>147|241=>148|276=>161|277=>162|n=>n,λ|31=>128|9=>9|3=>3|4=>4|0=>0|20=>20|72=>168|76=>172|70=>166|37=>98|75=>171|127=>181|164=>196|5=>5|80=>174|n=>n,λ|n=>n⟩
theorem Tryz.yM:Go.Proofs.Lays.n156 Tryz.prog Tryz.D6:={
 mixed:=by kernel_rfl
 f156:=Tryz.func98.trans (congrArg some (by kernel_rfl))
 f165:=Tryz.func131.trans (congrArg some (by kernel_rfl))
 f166:=Tryz.func132.trans (congrArg some (by kernel_rfl))
 f169:=Tryz.func133.trans (congrArg some (by kernel_rfl))
 f240:=Tryz.func147.trans (congrArg some (by kernel_rfl))
 f241:=Tryz.func148.trans (congrArg some (by kernel_rfl))
 f276:=Tryz.func161.trans (congrArg some (by kernel_rfl))
 f277:=Tryz.func162.trans (congrArg some (by kernel_rfl))
 t0:=Tryz.underlying0
 a0:=Tryz.isAgg0
 z0:=Tryz.sizeOf0
 v0:=Tryz.zeroValue0
 t3:=Tryz.underlying3
 a3:=Tryz.isAgg3
 z3:=Tryz.sizeOf3
 v3:=Tryz.zeroValue3
 t4:=Tryz.underlying4
 a4:=Tryz.isAgg4
 z4:=Tryz.sizeOf4
 v4:=Tryz.zeroValue4
 t9:=Tryz.underlying9
 a9:=Tryz.isAgg9
 z9:=Tryz.sizeOf9
 v9:=Tryz.zeroValue9
 t20:=Tryz.underlying20
 a20:=Tryz.isAgg20
 z20:=Tryz.sizeOf20
 v20:=Tryz.zeroValue20
 t31:=Tryz.underlying128
 a31:=Tryz.isAgg128
 z31:=Tryz.sizeOf128
 v31:=Tryz.zeroValue128
 t37:=Tryz.underlying98
 a37:=Tryz.isAgg98
 z37:=Tryz.sizeOf98
 v37:=Tryz.zeroValue98
 t70:=Tryz.underlying166
 a70:=Tryz.isAgg166
 z70:=Tryz.sizeOf166
 v70:=Tryz.zeroValue166
 t72:=Tryz.underlying168
 a72:=Tryz.isAgg168
 z72:=Tryz.sizeOf168
 v72:=Tryz.zeroValue168
 t75:=Tryz.underlying171
 a75:=Tryz.isAgg171
 z75:=Tryz.sizeOf171
 v75:=Tryz.zeroValue171
 t76:=Tryz.underlying172
 a76:=Tryz.isAgg172
 z76:=Tryz.sizeOf172
 v76:=Tryz.zeroValue172
 t127:=Tryz.underlying181
 a127:=Tryz.isAgg181
 z127:=Tryz.sizeOf181
 v127:=Tryz.zeroValue181
 t164:=Tryz.underlying196
 a164:=Tryz.isAgg196
 z164:=Tryz.sizeOf196
 v164:=Tryz.zeroValue196}
theorem Tryz.D7:Builder.Extra Tryz.prog Tryz.D6:={
 sizeBuilder:=by kernel_rfl
 liesBuilder:=by kernel_rfl
 t5:=Tryz.underlying5
 a5:=Tryz.isAgg5
 z5:=Tryz.sizeOf5
 v5:=Tryz.zeroValue5
 infoByte:=by kernel_rfl
 cellsByte:=by kernel_rfl
 sizeByte:=by kernel_rfl
 neB5:=by decide}
def Tryz.Mr:Go.Shelf.Ren:=⟨λ|101=>154|208=>168|206=>181|n=>n,λ|9=>9|4=>4|3=>3|n=>n,λ|n=>n⟩
theorem Tryz.yN:Go.Proofs.Lays.n101 Tryz.prog Tryz.Mr:={
 mixed:=by kernel_rfl
 f101:=Tryz.func154.trans (congrArg some (by kernel_rfl))
 f206:=Tryz.func181.trans (congrArg some (by kernel_rfl))
 f208:=Tryz.func168.trans (congrArg some (by kernel_rfl))
 t3:=Tryz.underlying3
 a3:=Tryz.isAgg3
 z3:=Tryz.sizeOf3
 v3:=Tryz.zeroValue3
 t4:=Tryz.underlying4
 a4:=Tryz.isAgg4
 z4:=Tryz.sizeOf4
 v4:=Tryz.zeroValue4
 t9:=Tryz.underlying9
 a9:=Tryz.isAgg9
 z9:=Tryz.sizeOf9
 v9:=Tryz.zeroValue9}
def Tryz.Ms:Go.Shelf.Ren:=⟨λ|174=>155|247=>169|245=>170|287=>182|279=>183|280=>184|281=>185|282=>186|321=>191|322=>192|316=>193|171=>195|205=>194|243=>196|246=>146|283=>157|284=>158|285=>159|286=>160|129=>173|317=>172|318=>174|319=>175|320=>176|337=>188|338=>189|n=>n,λ|9=>9|3=>3|2=>2|75=>171|85=>186|4=>4|167=>212|5=>5|53=>191|175=>213|46=>183|168=>215|37=>98|0=>0|210=>228|21=>21|127=>181|145=>234|143=>232|171=>190|173=>194|212=>207|51=>208|20=>20|213=>209|232=>230|233=>231|80=>174|n=>n,λ|15=>4|16=>5|17=>1|18=>6|19=>7|n=>n⟩
theorem Tryz.D8:Go.Proofs.LaysC.n174 Tryz.prog Tryz.Ms:={
 mixed:=by kernel_rfl
 f129:=Tryz.func173.trans (congrArg some (by kernel_rfl))
 f171:=Tryz.func195.trans (congrArg some (by kernel_rfl))
 f174:=Tryz.func155.trans (congrArg some (by kernel_rfl))
 f205:=Tryz.func194.trans (congrArg some (by kernel_rfl))
 f243:=Tryz.func196.trans (congrArg some (by kernel_rfl))
 f245:=Tryz.func170.trans (congrArg some (by kernel_rfl))
 f246:=Tryz.func146.trans (congrArg some (by kernel_rfl))
 f247:=Tryz.func169.trans (congrArg some (by kernel_rfl))
 f279:=Tryz.func183.trans (congrArg some (by kernel_rfl))
 f280:=Tryz.func184.trans (congrArg some (by kernel_rfl))
 f281:=Tryz.func185.trans (congrArg some (by kernel_rfl))
 f282:=Tryz.func186.trans (congrArg some (by kernel_rfl))
 f283:=Tryz.func157.trans (congrArg some (by kernel_rfl))
 f284:=Tryz.func158.trans (congrArg some (by kernel_rfl))
 f285:=Tryz.func159.trans (congrArg some (by kernel_rfl))
 f286:=Tryz.func160.trans (congrArg some (by kernel_rfl))
 f287:=Tryz.func182.trans (congrArg some (by kernel_rfl))
 f316:=Tryz.func193.trans (congrArg some (by kernel_rfl))
 f317:=Tryz.func172.trans (congrArg some (by kernel_rfl))
 f318:=Tryz.func174.trans (congrArg some (by kernel_rfl))
 f319:=Tryz.func175.trans (congrArg some (by kernel_rfl))
 f320:=Tryz.func176.trans (congrArg some (by kernel_rfl))
 f321:=Tryz.func191.trans (congrArg some (by kernel_rfl))
 f322:=Tryz.func192.trans (congrArg some (by kernel_rfl))
 f337:=Tryz.func188.trans (congrArg some (by kernel_rfl))
 f338:=Tryz.func189.trans (congrArg some (by kernel_rfl))
 t0:=Tryz.underlying0
 a0:=Tryz.isAgg0
 z0:=Tryz.sizeOf0
 v0:=Tryz.zeroValue0
 t2:=Tryz.underlying2
 a2:=Tryz.isAgg2
 z2:=Tryz.sizeOf2
 v2:=Tryz.zeroValue2
 t3:=Tryz.underlying3
 a3:=Tryz.isAgg3
 z3:=Tryz.sizeOf3
 v3:=Tryz.zeroValue3
 t4:=Tryz.underlying4
 a4:=Tryz.isAgg4
 z4:=Tryz.sizeOf4
 v4:=Tryz.zeroValue4
 t5:=Tryz.underlying5
 a5:=Tryz.isAgg5
 z5:=Tryz.sizeOf5
 v5:=Tryz.zeroValue5
 t9:=Tryz.underlying9
 a9:=Tryz.isAgg9
 z9:=Tryz.sizeOf9
 v9:=Tryz.zeroValue9
 t20:=Tryz.underlying20
 a20:=Tryz.isAgg20
 z20:=Tryz.sizeOf20
 v20:=Tryz.zeroValue20
 t21:=Tryz.underlying21
 a21:=Tryz.isAgg21
 z21:=Tryz.sizeOf21
 v21:=Tryz.zeroValue21
 t37:=Tryz.underlying98
 a37:=Tryz.isAgg98
 z37:=Tryz.sizeOf98
 v37:=Tryz.zeroValue98
 t46:=Tryz.underlying183
 a46:=Tryz.isAgg183
 z46:=Tryz.sizeOf183
 v46:=Tryz.zeroValue183
 t51:=Tryz.underlying208
 a51:=Tryz.isAgg208
 z51:=Tryz.sizeOf208
 v51:=Tryz.zeroValue208
 t53:=Tryz.underlying191
 a53:=Tryz.isAgg191
 z53:=Tryz.sizeOf191
 v53:=Tryz.zeroValue191
 t75:=Tryz.underlying171
 a75:=Tryz.isAgg171
 z75:=Tryz.sizeOf171
 v75:=Tryz.zeroValue171
 t85:=Tryz.underlying186
 a85:=Tryz.isAgg186
 z85:=Tryz.sizeOf186
 v85:=Tryz.zeroValue186
 t127:=Tryz.underlying181
 a127:=Tryz.isAgg181
 z127:=Tryz.sizeOf181
 v127:=Tryz.zeroValue181
 t143:=Tryz.underlying232
 a143:=Tryz.isAgg232
 z143:=Tryz.sizeOf232
 v143:=Tryz.zeroValue232
 t145:=Tryz.underlying234
 a145:=Tryz.isAgg234
 z145:=Tryz.sizeOf234
 v145:=Tryz.zeroValue234
 t167:=Tryz.underlying212
 a167:=Tryz.isAgg212
 z167:=Tryz.sizeOf212
 v167:=Tryz.zeroValue212
 t168:=Tryz.underlying215
 a168:=Tryz.isAgg215
 z168:=Tryz.sizeOf215
 v168:=Tryz.zeroValue215
 t171:=Tryz.underlying190
 a171:=Tryz.isAgg190
 z171:=Tryz.sizeOf190
 v171:=Tryz.zeroValue190
 t173:=Tryz.underlying194
 a173:=Tryz.isAgg194
 z173:=Tryz.sizeOf194
 v173:=Tryz.zeroValue194
 t175:=Tryz.underlying213
 a175:=Tryz.isAgg213
 z175:=Tryz.sizeOf213
 v175:=Tryz.zeroValue213
 t210:=Tryz.underlying228
 a210:=Tryz.isAgg228
 z210:=Tryz.sizeOf228
 v210:=Tryz.zeroValue228
 t212:=Tryz.underlying207
 a212:=Tryz.isAgg207
 z212:=Tryz.sizeOf207
 v212:=Tryz.zeroValue207
 t213:=Tryz.underlying209
 a213:=Tryz.isAgg209
 z213:=Tryz.sizeOf209
 t232:=Tryz.underlying230
 a232:=Tryz.isAgg230
 z232:=Tryz.sizeOf230
 v232:=Tryz.zeroValue230
 t233:=Tryz.underlying231
 a233:=Tryz.isAgg231
 z233:=Tryz.sizeOf231
 v233:=Tryz.zeroValue231
 g15:=by kernel_rfl
 g16:=by kernel_rfl
 g17:=by kernel_rfl
 g18:=by kernel_rfl
 g19:=by kernel_rfl
 t80:=Tryz.underlying174
 a80:=Tryz.isAgg174
 z80:=Tryz.sizeOf174
 v80:=Tryz.zeroValue174
 i0:=by kernel_rfl
 i2:=by kernel_rfl
 i3:=by kernel_rfl
 i4:=by kernel_rfl
 i5:=by kernel_rfl
 i9:=by kernel_rfl
 i20:=by kernel_rfl
 i21:=by kernel_rfl
 i37:=by kernel_rfl
 i46:=by kernel_rfl
 i51:=by kernel_rfl
 i53:=by kernel_rfl
 i75:=by kernel_rfl
 i80:=by kernel_rfl
 i85:=by kernel_rfl
 i127:=by kernel_rfl
 i143:=by kernel_rfl
 i145:=by kernel_rfl
 i167:=by kernel_rfl
 i168:=by kernel_rfl
 i171:=by kernel_rfl
 i173:=by kernel_rfl
 i175:=by kernel_rfl
 i210:=by kernel_rfl
 i212:=by kernel_rfl
 i232:=by kernel_rfl
 i233:=by kernel_rfl
 m15:=by kernel_rfl
 m16:=by kernel_rfl
 m17:=by kernel_rfl
 m18:=by kernel_rfl
 m19:=by kernel_rfl
 c0:=by kernel_rfl
 c2:=by kernel_rfl
 c3:=by kernel_rfl
 c4:=by kernel_rfl
 c5:=by kernel_rfl
 c9:=by kernel_rfl
 c20:=by kernel_rfl
 c21:=by kernel_rfl
 c37:=by kernel_rfl
 c46:=by kernel_rfl
 c51:=by kernel_rfl
 c53:=by kernel_rfl
 c75:=by kernel_rfl
 c80:=by kernel_rfl
 c85:=by kernel_rfl
 c127:=by kernel_rfl
 c143:=by kernel_rfl
 c145:=by kernel_rfl
 c167:=by kernel_rfl
 c168:=by kernel_rfl
 c171:=by kernel_rfl
 c173:=by kernel_rfl
 c175:=by kernel_rfl
 c210:=by kernel_rfl
 c212:=by kernel_rfl
 c213:=by kernel_rfl
 c232:=by kernel_rfl
 c233:=by kernel_rfl}
def Tryz.Mt:Go.Shelf.Ren:=⟨λ|173=>130|246=>146|283=>157|284=>158|285=>159|286=>160|129=>173|317=>172|318=>174|319=>175|320=>176|337=>188|338=>189|n=>n,λ|2=>2|3=>3|9=>9|4=>4|171=>190|0=>0|53=>191|37=>98|5=>5|173=>194|212=>207|51=>208|20=>20|213=>209|46=>183|232=>230|233=>231|n=>n,λ|17=>1|18=>6|19=>7|n=>n⟩
theorem Tryz.yO:Go.Proofs.LaysM.n173 Tryz.prog Tryz.Mt:={
 mixed:=by kernel_rfl
 f129:=Tryz.func173.trans (congrArg some (by kernel_rfl))
 f173:=Tryz.func130.trans (congrArg some (by kernel_rfl))
 f246:=Tryz.func146.trans (congrArg some (by kernel_rfl))
 f283:=Tryz.func157.trans (congrArg some (by kernel_rfl))
 f284:=Tryz.func158.trans (congrArg some (by kernel_rfl))
 f285:=Tryz.func159.trans (congrArg some (by kernel_rfl))
 f286:=Tryz.func160.trans (congrArg some (by kernel_rfl))
 f317:=Tryz.func172.trans (congrArg some (by kernel_rfl))
 f318:=Tryz.func174.trans (congrArg some (by kernel_rfl))
 f319:=Tryz.func175.trans (congrArg some (by kernel_rfl))
 f320:=Tryz.func176.trans (congrArg some (by kernel_rfl))
 f337:=Tryz.func188.trans (congrArg some (by kernel_rfl))
 f338:=Tryz.func189.trans (congrArg some (by kernel_rfl))
 t0:=Tryz.underlying0
 a0:=Tryz.isAgg0
 z0:=Tryz.sizeOf0
 v0:=Tryz.zeroValue0
 t2:=Tryz.underlying2
 a2:=Tryz.isAgg2
 z2:=Tryz.sizeOf2
 v2:=Tryz.zeroValue2
 t3:=Tryz.underlying3
 a3:=Tryz.isAgg3
 z3:=Tryz.sizeOf3
 v3:=Tryz.zeroValue3
 t4:=Tryz.underlying4
 a4:=Tryz.isAgg4
 z4:=Tryz.sizeOf4
 v4:=Tryz.zeroValue4
 t5:=Tryz.underlying5
 a5:=Tryz.isAgg5
 z5:=Tryz.sizeOf5
 v5:=Tryz.zeroValue5
 t9:=Tryz.underlying9
 a9:=Tryz.isAgg9
 z9:=Tryz.sizeOf9
 v9:=Tryz.zeroValue9
 t20:=Tryz.underlying20
 a20:=Tryz.isAgg20
 z20:=Tryz.sizeOf20
 v20:=Tryz.zeroValue20
 t37:=Tryz.underlying98
 a37:=Tryz.isAgg98
 z37:=Tryz.sizeOf98
 v37:=Tryz.zeroValue98
 t46:=Tryz.underlying183
 a46:=Tryz.isAgg183
 z46:=Tryz.sizeOf183
 v46:=Tryz.zeroValue183
 t51:=Tryz.underlying208
 a51:=Tryz.isAgg208
 z51:=Tryz.sizeOf208
 v51:=Tryz.zeroValue208
 t53:=Tryz.underlying191
 a53:=Tryz.isAgg191
 z53:=Tryz.sizeOf191
 v53:=Tryz.zeroValue191
 t171:=Tryz.underlying190
 a171:=Tryz.isAgg190
 z171:=Tryz.sizeOf190
 v171:=Tryz.zeroValue190
 t173:=Tryz.underlying194
 a173:=Tryz.isAgg194
 z173:=Tryz.sizeOf194
 v173:=Tryz.zeroValue194
 t212:=Tryz.underlying207
 a212:=Tryz.isAgg207
 z212:=Tryz.sizeOf207
 v212:=Tryz.zeroValue207
 t213:=Tryz.underlying209
 a213:=Tryz.isAgg209
 z213:=Tryz.sizeOf209
 t232:=Tryz.underlying230
 a232:=Tryz.isAgg230
 z232:=Tryz.sizeOf230
 v232:=Tryz.zeroValue230
 t233:=Tryz.underlying231
 a233:=Tryz.isAgg231
 z233:=Tryz.sizeOf231
 v233:=Tryz.zeroValue231
 g17:=by kernel_rfl
 g18:=by kernel_rfl
 g19:=by kernel_rfl
 i0:=by kernel_rfl
 i2:=by kernel_rfl
 i3:=by kernel_rfl
 i4:=by kernel_rfl
 i5:=by kernel_rfl
 i9:=by kernel_rfl
 i20:=by kernel_rfl
 i37:=by kernel_rfl
 i46:=by kernel_rfl
 i51:=by kernel_rfl
 i53:=by kernel_rfl
 i171:=by kernel_rfl
 i173:=by kernel_rfl
 i212:=by kernel_rfl
 i232:=by kernel_rfl
 i233:=by kernel_rfl
 m17:=by kernel_rfl
 m18:=by kernel_rfl
 m19:=by kernel_rfl}
theorem Mu:One cL (λx=>.string ⟨⟨x⟩⟩):=⟨λ_=>rfl,λw F x cs S=>by unfold cL;rw[ah]⟩
theorem D9 (n:Nat):hN n=Lib.decDigits n:=by
 induction n using Nat.strongRecOn with
 |_ n ih=>
  rw[hN,Lib.decDigits];by_cases h:n<10
  .rw[dif_pos h,dif_pos h]
  .rw[dif_neg h,dif_neg h,ih (n/10) (by omega)]
theorem Mv (n:Int):eV n=Lib.itoa n:=by
 unfold eV Lib.itoa;rw[D9,D9]
theorem Mw {w:World} (hg:gz w λ_=>False):Lib.TabIs Tryz.prog w "internal/strconv.uint64pow10" .u64 Lib.pow10Tab:=by
 obtain⟨_,_,o,g1,ty,fr,g2⟩:=hg (1,tw) (by simp[tx]);unfold Lib.TabIs World.var?;rw[show Tryz.prog.globalNamed "internal/strconv.uint64pow10" =some 1 by kernel_rfl];simp only[bind_some,g1,g2,Lib.pow10Tab,List.map_map];rfl
theorem Mx {w:World} (k:Nat) (os:Array Obj):RowKit.Below w.heap.size w (Sort.grow (w.drewN k) os) where
 os:=rfl
 tape:=rfl
 output:=rfl
 size:=by simp[Sort.grow,World.drewN]
 block:=λb J=>by
  show(w.heap++os)[b]? =_;rw[Array.getElem?_append_left J]
theorem My (a0 aw:Int) (r:RD) (h:qL a0 aw=some r):bf aF 130 [.int .i64 a0,.int .i64 aw] (.str r) []:=by
 unfold qL at h;split at h
 .rename_i hl;obtain⟨bj,U,rfl⟩:=hl;cases h;refine bf.strs rfl (enters_of Tryz.yO.f173 (by kernel_rfl) rfl) λw F X S vs iW ax=>?_;obtain⟨v0,v1,rfl⟩:∃v0 v1,vs=[v0,v1]:=by
   match vs,iW with
   |[x,y],_=>exact⟨x,y,rfl⟩
  have g0:v0= .int .i64 a0:=jJ (ax.b9 0);have g1:v1= .int .i64 10:=jJ (ax.b9 1);subst g0 g1;rw[Mv];refine(Any.strconv_FormatInt_10 Tryz.yO a0 bj U w (Mw (ax.ef.next (Nat.le_refl _) (λ_ _ _=>rfl) λ_ h=>h.elim))).mono ?_;rintro e an ⟨rfl,k,os,rfl⟩;exact⟨rfl,Mx k os⟩
 .cases h
theorem Mz (a0:RC) (aw r:RD) (h:strings_Join a0 aw=some r):bf aF 98 [.slice (a0.map cL),.str aw] (.str r) []:=by
 unfold strings_Join at h;split at h
 .rename_i hl;cases h;refine bf.strs rfl (enters_of Tryz.yM.f156 (by kernel_rfl) rfl) λw F X S vs iW ax=>?_;obtain⟨v0,v1,rfl⟩:∃v0 v1,vs=[v0,v1]:=by
   match vs,iW with
   |[x,y],_=>exact⟨x,y,rfl⟩
  have U:v1= .string ⟨⟨aw⟩⟩:=iv (ax.b9 1);subst U;rcases Le ax (u:=0) Mu rfl with⟨rfl,a,c,az⟩|⟨b,o,cap,az,J,ae,ak⟩
  .have az:v0= .slice a 0 c:=az;subst az;exact(Any.strings_Join_none Tryz.yM Tryz.D7 a c ⟨⟨aw⟩⟩ w).mono λe an ⟨he,hw⟩=>⟨he,hw▸RowKit.Below.refl _ _⟩
  .have az:v0= .slice (some ⟨b,o,none⟩) a0.length cap:=az;subst az;have aD:(a0.map λx=>(⟨⟨x⟩⟩:ByteArray)).map (·.data.toList)=a0:=by rw[List.map_map];exact List.map_id _
   have:=Any.strings_Join Tryz.yM Tryz.D7 b o cap (a0.map λx=>⟨⟨x⟩⟩) ⟨⟨aw⟩⟩ w (λj x bE=>by
    rw[getElem?_map]at bE;obtain⟨y,hy,rfl⟩:=map_eq_some_iff.1 bE;exact ak j y hy) J (by rw[length_map];exact hl.1) (by rw[length_map];exact ae) (by rw[aD];exact hl.2)
   rw[aD,length_map]at this;exact this
 .cases h
section
open Go.RowKit
set_option maxHeartbeats 4000000
theorem MA (n:Int) (bj: -9223372036854775808<=n) (U:n<=9223372036854775807) (w:World) (vi:Lib.TabIs Tryz.prog w "internal/strconv.uint64pow10" .u64 Lib.pow10Tab):
  Calls Tryz.prog 97 #[.int .i64 n] w λe an=>e= .returned (.string ⟨(Lib.itoa n).toArray⟩)/\∃k os,an=Sort.grow (w.drewN k) os:=by
 go_enter Tryz.func97,Tryz.ntmps97
 go_wp2_with (go_at_call 130;refine(Any.strconv_FormatInt_10 Tryz.yO n bj U _ vi).mono ?_;rintro e an ⟨rfl,k,os,rfl⟩)
 go_ret
 exact⟨rfl,k,os,rfl⟩
theorem MB {P:Program} {w an:World} {name:String} {k:IntKind} {dP:RF} (h:Lib.TabIs P w name k dP) (J:Below w.heap.size w an):Lib.TabIs P an name k dP:=by
 unfold Lib.TabIs World.var? at*;cases hg:P.globalNamed name with
 |none=>simp[hg]at h
 |some g=>
  simp only[hg,bind_some]at h⊢;have cq:g<w.heap.size:=by
   rcases Nat.lt_or_ge g w.heap.size with aN|aN
   .exact aN
   .rw[Array.getElem?_eq_none aN]at h;simp at h
  rw[J.block g cq];exact h
theorem D_ {w an:World} (h:Below w.heap.size w an) (k:Nat) (os:Array Obj):Below w.heap.size w (Sort.grow (an.drewN k) os) where
 os:=h.os
 tape:=h.tape
 output:=h.output
 size:=Nat.le_trans h.size (by simp[Sort.grow,World.drewN])
 block:=λb J=>by
  have:=h.block b J;rw[<-this];show(an.heap++os)[b]? =_;rw[Array.getElem?_append_left (Nat.lt_of_lt_of_le J h.size)]
theorem MC (s:RD) (hl:¬(Lib.trimPrefix s [45]).length<=18) (w:World):
  Calls Tryz.prog 140 #[.string ⟨⟨s⟩⟩] w λe an=>e= .returned (.tuple #[.int .i64 0,.bool false])/\Below w.heap.size w an:=by
 go_enter Tryz.func140,Tryz.ntmps140
 go_wp2_with (go_at_call 154;refine(Any.strings_TrimPrefix Tryz.yN ⟨⟨s⟩⟩ ⟨#[45]⟩ _).mono ?_;rintro e an ⟨rfl,rfl⟩)
 go_ret2
 exact⟨rfl,Below.refl _ _⟩
theorem MD (s:RD) (hl:(Lib.trimPrefix s [45]).length<=18) (R:s.length<=1000) (af:Lib.parseIntB 64 s=Lib.parseIntB 64 []) (aP:Value) (w:World) (az:w.cell? ⟨4,0,none⟩=some aP) (ME:aP= .nilIface\/∃wu q_,aP= .iface wu q_):
  Calls Tryz.prog 140 #[.string ⟨⟨s⟩⟩] w λe an=>e= .returned (.tuple #[.int .i64 0,.bool false])/\Below w.heap.size w an:=by
 go_enter Tryz.func140,Tryz.ntmps140
 go_wp2_with (first|(go_at_call 154;refine(Any.strings_TrimPrefix Tryz.yN ⟨⟨s⟩⟩ ⟨#[45]⟩ _).mono ?_;rintro e an ⟨rfl,rfl⟩)|(go_at_call 155;refine(Any.strconv_ParseInt_10_at64_syntax Tryz.D8 ⟨⟨s⟩⟩ (Nat.le_trans R (by decide)) af aP _ az ME).mono ?_))
 rintro e gF ⟨N,rfl,-,-,J⟩
 go_wp2
 go_ret2
 exact⟨rfl,J⟩
theorem MF (s:RD) (hl:(Lib.trimPrefix s [45]).length<=18) (R:s.length<=1000) (v:Int) (af:Lib.parseIntB 64 s= .ok v) (bj: -9223372036854775808<=v) (U:v<=9223372036854775807) (w:World) (vi:Lib.TabIs Tryz.prog w "internal/strconv.uint64pow10" .u64 Lib.pow10Tab):
  Calls Tryz.prog 140 #[.string ⟨⟨s⟩⟩] w λe an=>e= .returned (.tuple #[.int .i64 (mb s).1,.bool (mb s).2])/\Below w.heap.size w an:=by
 go_enter Tryz.func140,Tryz.ntmps140
 go_wp2_with (first|(go_at_call 154;refine(Any.strings_TrimPrefix Tryz.yN ⟨⟨s⟩⟩ ⟨#[45]⟩ _).mono ?_;rintro e an ⟨rfl,rfl⟩)|(go_at_call 155;refine(Any.strconv_ParseInt_10_at64_ok Tryz.D8 ⟨⟨s⟩⟩ (Nat.le_trans R (by decide)) v af _).mono ?_))
 rintro e gF ⟨rfl,J⟩;have MG:Lib.TabIs Tryz.prog gF "internal/strconv.uint64pow10" .u64 Lib.pow10Tab:=by
  rcases J with rfl|⟨t,rfl⟩
  .exact vi
  .exact MB vi (Lib.bytesWorld_below _ _ _)
 have qj:Below an.heap.size an gF:=by
  rcases J with rfl|⟨t,rfl⟩
  .exact Below.refl _ _
  .exact Lib.bytesWorld_below _ _ _
 clear J
 go_wp2_with (go_at_call 97;refine(MA v bj U _ MG).mono ?_;rintro e an ⟨rfl,k,os,rfl⟩)
 all_goals go_ret2
 all_goals (rename_i h)
 .have e:mb s=(0,false):=by
   unfold mb;rw[af];simp only;rw[if_neg (by intro e;simp[e]at h)]
  rw[e];exact⟨rfl,D_ qj _ _⟩
 .have e:mb s=(v,true):=by
   unfold mb;rw[af];simp only;rw[if_pos (by simpa using h)]
  rw[e];exact⟨rfl,D_ qj _ _⟩
theorem MH (s:RD):(Lib.trimPrefix s [45]).length=(if s.head? =some 45 then s.tail else s).length:=by
 unfold Lib.trimPrefix Lib.hasPrefix;cases s with
 |nil=>rfl
 |cons c r=>
  by_cases h:c=45
  .subst h;rw[if_pos (show(45::r).head? =some 45 from rfl),if_pos (by simp[isPrefixOf])];rfl
  .rw[if_neg (show¬(c::r).head? =some 45 from λe=>h (some.inj e)),if_neg (by simp[isPrefixOf];exact λe=>h e.symm)]
theorem MI (s:RD) (w:World) (hg:gz w λ_=>False):
  Calls Tryz.prog 140 #[.string ⟨⟨s⟩⟩] w λe an=>e= .returned (.tuple #[.int .i64 (dA s).1,.bool (dA s).2])/\Below w.heap.size w an:=by
 have aI:=MH s;by_cases hl:(Lib.trimPrefix s [45]).length<=18
 .have R:s.length<=1000:=by
   rw[aI]at hl;split at hl
   .rw[length_tail]at hl;omega
   .omega
  obtain⟨U,ab⟩:=MJ s (by rw[<-aI];exact hl);rw[<-ab];rcases af:Lib.parseIntB 64 s with v|_|_
  rotate_left
  .have e:mb s=(0,false):=by unfold mb;rw[af]
   obtain⟨_,_,o,g1,aP,cs,ty,fr,g2,g3,g4⟩:=hg (4,wt) (by simp[tx]);rw[e];refine MD s hl R af aP w ?_ g4;simp only[World.cell?,g1,g2];simpa using g3
  .exact(U af).elim
  .have J:=Lib.parseIntB_bounds af;obtain⟨_,_,o,g1,ty,fr,g2⟩:=hg (1,tw) (by simp[tx]);refine MF s hl R v af (by have:=J.1;simp at this;omega) (by have:=J.2;simp at this;omega) w ?_;unfold Lib.TabIs World.var?;rw[show Tryz.prog.globalNamed "internal/strconv.uint64pow10" =some 1 by kernel_rfl];simp only[bind_some,g1,g2,Lib.pow10Tab,List.map_map];rfl
 .have e:dA s=(0,false):=by
   rw[aI]at hl;unfold dA;split<;>rename_i h
   .rw[if_pos h]at hl;unfold hM;rw[if_neg (λaN=>hl aN.2.1)]
   .rw[if_neg h]at hl;unfold hM;rw[if_neg (λaN=>hl aN.2.1)]
  rw[e];exact MC s hl w
theorem MK (a0:RD) (r:Int×Bool) (h:u4 a0=some r):bf aF 140 [.str a0] (.tuple [.int .i64 r.1,.bool r.2]) []:=by
 obtain rfl:dA a0=r:=some.inj h;refine bf.below (v:=.tuple #[.int .i64 (dA a0).1,.bool (dA a0).2]) rfl (enters_of Tryz.func140 (by kernel_rfl) rfl) rfl
  ⟨_,rfl,rfl,λk d x ad ak=>?_⟩ (λw F=>?_) λw F X S vs iW ax=>?_
 .rcases k with _|_|k
  .simp at ad ak;subst ad ak;exact⟨rfl,λvs=>by simp,rfl⟩
  .simp at ad ak;subst ad ak;exact⟨rfl,λvs=>by simp,rfl⟩
  .simp at ad
 .simp only[bn,eG];rw[ah,aH];refine⟨[.int .i64 (dA a0).1],[.bool (dA a0).2],λ_=>False,λ_=>False,rfl,by rw[ah],?_,λ_ h=>h,λ_ h=>h,λ_ h=>h.elim⟩;rw[aH];exact⟨[.bool (dA a0).2],[],λ_=>False,λ_=>False,rfl,by rw[ah],by rw[aH],λ_ h=>h,λ_ h=>h,λ_ h=>h.elim⟩
 .obtain⟨v0,rfl⟩:∃v0,vs=[v0]:=by
   match vs,iW with
   |[x],_=>exact⟨x,rfl⟩
  have g0:v0= .string ⟨⟨a0⟩⟩:=iv (ax.b9 0);subst g0;exact MI a0 w (ax.ef.next (Nat.le_refl _) (λ_ _ _=>rfl) λ_ h=>h.elim)
end
section
open Go.RowKit
theorem ML (s:ByteArray) (w:World):Calls Tryz.prog 67 #[.string s] w λe an=>e= .returned (.func (.func 105) #[] #[.pointer (some ⟨w.heap.size,0,none⟩)])/\an=w.alloc (.cells #[.string s] 9):=by
 go_enter Tryz.func67,Tryz.ntmps67
 go_wp2
 go_ret
 exact⟨rfl,rfl⟩
def e6 (t:RD):RD×RD:=if 0<=e5 t 10 then(t.take ((e5 t 10).toNat+1),t.drop ((e5 t 10).toNat+1))else(t,[])
theorem yP:∀(t:RD) (c:UInt8),-1<=e5 t c/\e5 t c<t.length
 |[],_=>⟨by simp[e5],by simp[e5]⟩
 |b::t,c=>by
  have h:=yP t c;simp only[e5,length_cons];split
  .omega
  .split
   .omega
   .omega
theorem Ea (l:RD) (a b:Nat):(⟨⟨l⟩⟩:ByteArray).extract a b=⟨⟨(l.take b).drop a⟩⟩:=by
 apply ByteArray.ext;simp[ByteArray.data_extract,drop_take]
noncomputable def vj (sB:Nat) (w:World):Nat:=match w.cell? ⟨sB,0,none⟩with
 |some (.string s)=>s.data.toList.length
 |_=>0
set_option maxHeartbeats 4000000 in
theorem MM (lg:∀(a0:RD) (aw:UInt8) (r:Int),qG a0 aw=some r->bf aF 106 [.str a0,.int .u8 (aw.toNat:Int)] (.int .i64 r) [])
  (n sB:Nat) (t0:RD) (aI:t0.length<=1048576) (w:World) (yk:w.heap[sB]? =some (.cells #[.string ⟨⟨t0⟩⟩] 9 (0,0))):
  DP (n+2) Tryz.prog 105 #[.pointer (some ⟨sB,0,none⟩)] sB (λo=>∃s,o= .cells #[.string s] 9 (0,0)) (λt=>t≠[]) (λt=>.string ⟨⟨(e6 t).1⟩⟩) (λt=>(e6 t).2) t0 [] w:=by
 intro l mO so W vk Eb Rf ym Ec bj;refine callsIn_of_wp Tryz.func105 rfl trivial ?_ rfl;simp only[Tryz.ntmps105,List.size_toArray,length_cons,length_nil,reduceAdd,reduceSub,Array.replicate_succ,Array.replicate_zero,push_toArray,append_toArray,nil_append,cons_append];have J:W.heap[sB]? =some (.cells #[.string ⟨⟨t0⟩⟩] 9 (0,0)):=(vk sB (Array.getElem?_eq_some_iff.1 yk).1).trans yk
 gi_wp2
 gi_loopw [3,4,5,6,7,8,9,10,11,12,13,14,15,16,17,18,19,20,21,22,23,24] (λ_ _ _ _ _ _ _ _ _ _ _ _ _ _ _ _ _ _ _ _ _ _ wr=>∃t:RD,mO t wr/\wr.heap[sB]? =some (.cells #[.string ⟨⟨t⟩⟩] 9 (0,0))/\t.length<=1048576) (λ_ _ _ _ _ _ _ _ _ _ _ _ _ _ _ _ _ _ _ _ _ _ wr=>vj sB wr)
 case atStart=>exact⟨t0,bj,J,aI⟩
 case round=>
  obtain⟨t,bE,jN,hl⟩:=hrel;have oy:wr.cell? ⟨sB,0,none⟩=some (.string ⟨⟨t⟩⟩):=Boxed.cell jN;have Ed:wr.frozen? ⟨sB,0,none⟩=false:=Boxed.frozen jN;have mixed:Tryz.prog.follows Departure.mixedOrders=true:=by kernel_rfl
  have ku:Calls Tryz.prog 106 #[.string ⟨⟨t⟩⟩,.int .u8 10] wr λe an=>e= .returned (.int .i64 (e5 t 10))/\Kept (λ_=>False) wr an:=by
   have:=uM (C:=aF) (g:=106) (enters_of Tryz.func106 (by kernel_rfl) rfl) (aa:=[.str t,.int .u8 (((10:UInt8).toNat:Nat):Int)]) (vs:=[.string ⟨⟨t⟩⟩,.int .u8 10]) (w:=wr) rfl (λi a v a1 az=>by
    match i,a1,az with
    |0,a1,az=>cases a1;cases az;exact⟨rfl,rfl,rfl⟩
    |1,a1,az=>cases a1;cases az;exact⟨rfl,rfl,rfl⟩
    |_+2,a1,az=>cases a1) rfl (lg t 10 (e5 t 10) rfl) (ym _ _ bE)
   refine Calls.mono this ?_;rintro e an ⟨⟨v,F,S,rfl,U,ab⟩,ag⟩;have az:bn v=[v]:=eb U;rw[az,ah]at ab;cases ab;exact⟨rfl,ag⟩
  have Rg:=yP t 10;have qU:∀an,Kept (λ_=>False) wr an->an.heap[sB]? =some (.cells #[.string ⟨⟨t⟩⟩] 9 (0,0)):=λan ag=>(ag.old sB (Boxed.lt jN) (λh=>h)).trans jN;have Ee:∀gF,gF.heap[sB]? =some (.cells #[.string ⟨⟨(e6 t).2⟩⟩] 9 (0,0))->t≠[]->vj sB gF<vj sB wr:=λgF U bT=>by
   simp only[vj,Boxed.cell U,Boxed.cell jN];have:t.length≠0:=λe=>bT (length_eq_zero_iff.1 e);unfold e6;split<;>simp<;>omega
  have Ef:(e6 t).2.length<=1048576:=by
   unfold e6;split<;>simp<;>omega
  by_cases Eg:0<=e5 t 10
  .obtain⟨k,lY⟩:∃k:Nat,e5 t 10=k:=⟨(e5 t 10).toNat,by omega⟩
   have yQ:k<t.length:=by omega
   have Rh:k+1<=t.length:=yQ;have bT:t≠[]:=λe=>by rw[e]at yQ;simp at yQ
   have aD:(⟨⟨t⟩⟩:ByteArray).extract 0 (k+1)=⟨⟨(e6 t).1⟩⟩:=by rw[Ea,e6,if_pos Eg,lY];rfl
   have aG:(⟨⟨t⟩⟩:ByteArray).extract (k+1) t.length=⟨⟨(e6 t).2⟩⟩:=by rw[Ea,e6,if_pos Eg,lY,take_length];rfl
   rw[lY]at ku
   gi_wp2_with (first
    |(refine⟨trivial,?_⟩;gi_at_call 106;refine(callsIn_wide.2 ku).mono ?_;rintro e an ⟨rfl,ag⟩
      have sT:an.cell? ⟨sB,0,none⟩=some (.string ⟨⟨t⟩⟩):=Boxed.cell (qU _ ag);have yR:an.frozen? ⟨sB,0,none⟩=false:=Boxed.frozen (qU _ ag))
    |gi_region)
   obtain⟨e3,mY⟩:∃e3,e3=(an.setCell ⟨sB,0,none⟩ (.string ⟨⟨(e6 t).2⟩⟩)).drew:=⟨_,rfl⟩
   have lo:e3.heap[sB]? =some (.cells #[.string ⟨⟨(e6 t).2⟩⟩] 9 (0,0)):=by rw[mY];exact Boxed.set _ (qU _ ag)
   have j_:Kept (λb=>b=sB) wr e3:=by rw[mY];exact((ag.mono λ_ _ h=>h.elim).trans (Kept.setCell (K:=λb=>b=sB) _ _ rfl)).trans (Kept.drew _ _)
   rw[<-mY];clear mY sT yR oy Ed;obtain⟨f1,uE,MN,MO,oC,yS⟩:=Ec t e3 bT (Eb _ _ _ bE j_) ⟨_,lo,_,rfl⟩;rw[oC]
   gi_wp2
   refine yS.mono ?_;rintro e MP (⟨rfl,yT,sU⟩|⟨rfl,yU⟩)
   .gi_wp2
    go_roundw
    case rel=>exact⟨_,yT,sU.trans lo,Ef⟩
    case measure=>exact Ee _ (sU.trans lo) bT
   .gi_wp2
    refine bodyPost_ret (results_none rfl _ _ _) rfl ?_;exact⟨⟨_,rfl⟩,.inr yU⟩
  .have lY:e5 t 10= -1:=by omega
   rw[lY]at ku
   gi_wp2_with (refine⟨trivial,?_⟩;gi_at_call 106;refine(callsIn_wide.2 ku).mono ?_;rintro e an ⟨rfl,ag⟩
                have sT:an.cell? ⟨sB,0,none⟩=some (.string ⟨⟨t⟩⟩):=Boxed.cell (qU _ ag);have yR:an.frozen? ⟨sB,0,none⟩=false:=Boxed.frozen (qU _ ag))
   .have bT:t≠[]:=λe=>by subst e;simp at*
    have aD:e6 t=(t,[]):=by rw[e6,if_neg (by omega)]
    obtain⟨e3,mY⟩:∃e3,e3=an.setCell ⟨sB,0,none⟩ (.string ⟨#[]⟩):=⟨_,rfl⟩
    have lo:e3.heap[sB]? =some (.cells #[.string ⟨⟨(e6 t).2⟩⟩] 9 (0,0)):=by rw[mY,aD];exact Boxed.set _ (qU _ ag)
    have j_:Kept (λb=>b=sB) wr e3:=by rw[mY];exact(ag.mono λ_ _ h=>h.elim).trans (Kept.setCell (K:=λb=>b=sB) _ _ rfl)
    rw[<-mY];clear mY sT yR oy Ed;have Eh:=Ec t e3 bT (Eb _ _ _ bE j_) ⟨_,lo,_,rfl⟩;rw[show(e6 t).1=t by rw[aD]]at Eh;obtain⟨f1,uE,MN,MO,oC,yS⟩:=Eh;rw[oC]
    gi_wp2
    refine yS.mono ?_;rintro e MP (⟨rfl,yT,sU⟩|⟨rfl,yU⟩)
    .gi_wp2
     go_roundw
     case rel=>exact⟨_,yT,sU.trans lo,Ef⟩
     case measure=>exact Ee _ (sU.trans lo) bT
    .gi_wp2
     refine bodyPost_ret (results_none rfl _ _ _) rfl ?_;exact⟨⟨_,rfl⟩,.inr yU⟩
   .have aI:t=[]:=by
     rename_i h;exact length_eq_zero_iff.1 (by omega)
    go_end0
    exact⟨⟨_,rfl⟩,.inl (aI▸bE)⟩
def iJ (x:aX):RJ:=[.int .i64 x.Choice,.int .i64 x.bP,.int .i64 x.Second,.string ⟨⟨x.Label⟩⟩]
structure lp (w:World) (v:Value) (o:RM) (z c:Int) (W:World):Prop where
 eE:Boxed W w.heap.size 42 v
 row:W.ownsRow w.heap.size 69 4 v o.length (o.flatMap iJ)
 vl:∀g,v.ownBlock=some g->g≠w.heap.size+3/\g≠w.heap.size+4/\g≠w.heap.size+5
 e0:Boxed W (w.heap.size+1) 3 (.int .i64 z)
 dW:Boxed W (w.heap.size+2) 2 (.int .i64 c)
 old:∀b,b<w.heap.size->W.heap[b]? =w.heap[b]?
 sz:w.heap.size+4<=W.heap.size
 os:W.os=w.os
 tape:W.tape=w.tape
 out:Out W w
theorem yV {W da:World} {base:Nat} {e:TypeId} {size:Nat} {v:Value} {k:Nat} {xs:RJ} (h:W.ownsRow base e size v k xs) (ag:∀g,v.ownBlock=some g->da.heap[g]? =W.heap[g]?):da.ownsRow base e size v k xs:=by
 refine⟨h.1,?_⟩;rcases h.2 with aT|⟨g,cap,cur,az,J,hg,rest⟩
 .exact .inl aT
 .exact .inr ⟨g,cap,cur,az,J,(ag g (by rw[az];rfl)).trans hg,rest⟩
theorem sV {W:World} {base:Nat} {e:TypeId} {size:Nat} {v:Value} {k:Nat} {xs:RJ} (h:W.ownsRow base e size v k xs) {g:Nat} (hg:v.ownBlock=some g):base<=g/\g<W.heap.size/\∃cur,W.heap[g]? =some (.cells cur e (0,0)):=by
 rcases h.2 with⟨rfl,_⟩|⟨x6,cap,cur,rfl,J,er,rest⟩
 .cases hg
 .cases hg;exact⟨J,(Array.getElem?_eq_some_iff.1 er).1,cur,er⟩
theorem lp.kept {w:World} {v:Value} {o:RM} {z c:Int} {W da:World} (h:lp w v o z c W) (ag:Kept (λb=>b=w.heap.size+3\/b=w.heap.size+4\/b=w.heap.size+5) W da):lp w v o z c da where
 eE:=(ag.old _ (by have:=h.sz;omega) (by omega)).trans h.eE
 row:=yV h.row λg hg=>ag.old g (sV h.row hg).2.1 (by have:=h.vl g hg;omega)
 vl:=h.vl
 e0:=(ag.old _ (by have:=h.sz;omega) (by omega)).trans h.e0
 dW:=(ag.old _ (by have:=h.sz;omega) (by omega)).trans h.dW
 old:=λb J=>(ag.old b (by have:=h.sz;omega) (by omega)).trans (h.old b J)
 sz:=Nat.le_trans h.sz ag.size
 os:=ag.os.trans h.os
 tape:=ag.tape.trans h.tape
 out:=ag.out.trans h.out
theorem MQ {k:Nat} {t:RD} {o:RM} {z c:Int} {r:RM×Int} (h:jz k t o z c=some r) (bT:t≠[]) (hl:t.length<=1048576):
  ∃b5 u e g,strings_TrimSuffix (e6 t).1 [10]=some u/\pk u=some e/\pn e.1 c=some g/\
   (if e.2=false\/g.1≠(e6 t).1\/o.length=60 then some (o,z)else jz b5 (e6 t).2 (o++[e.1]) (i64.wrap (z+(e6 t).1.length)) g.2)=some r:=by
 cases k with
 |zero=>cases h
 |succ k=>
  rw[jz,if_neg bT]at h;obtain⟨i,aC,h⟩:=aU h;have aC:i=e5 t 10:=(jc aC).symm▸rfl;obtain⟨l,mc,h⟩:=aU h;have MR:l=e6 t:=by
   have J:=yP t 10;subst aC;unfold e6;split at mc
   .rename_i bj;rw[if_pos bj];obtain⟨x,ak,mc⟩:=aU mc;obtain⟨y,hy,mc⟩:=aU mc;rw[jc mc];unfold c8 at ak hy;rw[if_pos (by omega)]at ak hy;rw[<-some.inj ak,<-some.inj hy,show(e5 t 10+1).toNat=(e5 t 10).toNat+1 by omega];simp
   .rename_i bj;rw[if_neg bj];exact jc mc
  subst MR;obtain⟨u,hu,h⟩:=aU h;obtain⟨e,he,h⟩:=aU h;obtain⟨g,hg,h⟩:=aU h;exact⟨k,u,e,g,hu,he,hg,h⟩
theorem vm {w:World} {F S:Nat->Prop} {k:IntKind} {n:Int} {ds:RL} {cs:RJ} (h:aH w F (.int k n::ds) cs S):∃c2 b0,cs= .int k n::c2/\aH w F ds c2 b0:=by
 rw[aH]at h;obtain⟨bb,c2,bg,b0,rfl,U,ab,_⟩:=h;rw[ah]at U;subst U;exact⟨c2,b0,rfl,ab⟩
theorem Ei {w:World} {F S:Nat->Prop} {s:RD} {ds:RL} {cs:RJ} (h:aH w F (.str s::ds) cs S):∃c2 b0,cs= .string ⟨⟨s⟩⟩::c2/\aH w F ds c2 b0:=by
 rw[aH]at h;obtain⟨bb,c2,bg,b0,rfl,U,ab,_⟩:=h;rw[ah]at U;subst U;exact⟨c2,b0,rfl,ab⟩
theorem MS {w:World} {F S:Nat->Prop} {x:aX} {cs:RJ} (h:ah w F (bS x) cs S):cs=iJ x:=by
 simp only[bS]at h;rw[ah]at h;obtain⟨bb,_,aD,U⟩:=vm h;obtain⟨c2,_,aG,ab⟩:=vm U;obtain⟨c3,_,aJ,ay⟩:=vm ab;obtain⟨c4,_,bp,aQ⟩:=Ei ay;rw[aH]at aQ;rw[aD,aG,aJ,bp,aQ];rfl
theorem Ej {w:World} {F:Nat->Prop} (x:aX):ah w F (bS x) (iJ x) (λ_=>False):=by
 simp only[bS];rw[ah];have n:∀b:Nat,False->False:=λ_ h=>h;refine(?_:aH w F ([.int .i64 x.Choice,.int .i64 x.bP,.int .i64 x.Second,.str x.Label]) ([.int .i64 x.Choice]++([.int .i64 x.bP]++([.int .i64 x.Second]++([.string ⟨⟨x.Label⟩⟩]++[])))) (λ_=>False));simp only[aH];exact⟨_,_,λ_=>False,λ_=>False,rfl,by rw[ah],⟨_,_,λ_=>False,λ_=>False,rfl,by rw[ah],⟨_,_,λ_=>False,λ_=>False,rfl,by rw[ah],⟨_,_,λ_=>False,λ_=>False,rfl,by rw[ah],rfl,n,n,λ_ h=>h.elim⟩,n,n,λ_ h=>h.elim⟩,n,n,λ_ h=>h.elim⟩,n,n,λ_ h=>h.elim⟩
theorem Ek {w:World} {F:Nat->Prop}:∀(o:RM),aH w F (o.map bS) (o.flatMap iJ) (λ_=>False)
 |[]=>by rw[map_nil,aH];rfl
 |x::o=>by
  rw[map_cons,aH];exact⟨_,_,λ_=>False,λ_=>False,flatMap_cons ..,Ej x,Ek o,λ_ h=>h,λ_ h=>h,λ_ h=>h.elim⟩
theorem El {d e:I} {v:Value} (U:b7 (.tuple [d,e]) v):∃a b,v= .tuple #[a,b]/\eS d a/\eS e b:=by
 obtain⟨arr,rfl,R,ag⟩:=U;have R:arr.size=2:=R;refine⟨arr[0],arr[1],?_,(ag 0 d arr[0] rfl (by simp)).1,(ag 1 e arr[1] rfl (by simp)).1⟩;congr 1;apply Array.ext
 .simp[R]
 .intro i U ab
  match i,ab with
  |0,_=>rfl
  |1,_=>rfl
theorem MT {w:World} {F S:Nat->Prop} {x:aX} {b:Bool} {v:Value} (U:b7 (.tuple [bS x,.bool b]) v) (ab:ah w F (.tuple [bS x,.bool b]) (bn v) S):
  v= .tuple #[.agg #[.int .i64 x.Choice,.int .i64 x.bP,.int .i64 x.Second,.string ⟨⟨x.Label⟩⟩],.bool b]:=by
 obtain⟨p,q,rfl,g1,g2⟩:=El U;obtain⟨arr,rfl⟩:∃arr,p= .agg arr:=by simpa only[bS,eS]using g1
 have b2:eG q=[q]:=(tJ (d:=.bool b) g2 (λ_ h=>by cases h)).symm.trans (eb g2);have pQ:bn (.tuple #[.agg arr,q])=arr.toList++[q]:=by
  show [Value.agg arr,q].flatMap eG=_;rw[flatMap_cons,flatMap_cons,b2];rfl
 rw[pQ,ah,aH]at ab;obtain⟨bb,c2,bg,b0,he,ei,b8,_⟩:=ab;rw[aH]at b8;obtain⟨c3,c4,Ha,wQ,rfl,ga,dy,_⟩:=b8;rw[ah]at ga;rw[aH]at dy;subst ga dy;have ae:=MS ei;subst ae;obtain⟨aD,aG⟩:=append_inj' he rfl;have aJ:q= .bool b:=by simpa using aG
 have bp:arr=(iJ x).toArray:=by rw[<-aD]
 rw[aJ,bp];rfl
theorem MU {w:World} {F S:Nat->Prop} {s:RD} {c:Int} {v:Value} (U:b7 (.tuple [.str s,.int .i64 c]) v) (ab:ah w F (.tuple [.str s,.int .i64 c]) (bn v) S):
  v= .tuple #[.string ⟨⟨s⟩⟩,.int .i64 c]:=by
 obtain⟨p,q,rfl,g1,g2⟩:=El U;have af:eG p=[p]:=(tJ (d:=.str s) g1 (λ_ h=>by cases h)).symm.trans (eb g1);have b2:eG q=[q]:=(tJ (d:=.int .i64 c) g2 (λ_ h=>by cases h)).symm.trans (eb g2);have pQ:bn (.tuple #[p,q])=[p,q]:=by simp[bn,af,b2]
 rw[pQ,ah]at ab;obtain⟨bb,_,aD,ab⟩:=Ei ab;obtain⟨c2,_,aG,ab⟩:=vm ab;rw[aH]at ab;subst ab aG;have:=aD;simp only[cons.injEq,and_true]at this;rw[this.1,this.2]
theorem MV (x:aX) (w:World):(bS x).tree=true/\b7 (bS x) (.agg #[.int .i64 x.Choice,.int .i64 x.bP,.int .i64 x.Second,.string ⟨⟨x.Label⟩⟩])/\ah w (λ_=>False) (bS x) (bn (.agg #[.int .i64 x.Choice,.int .i64 x.bP,.int .i64 x.Second,.string ⟨⟨x.Label⟩⟩])) (λ_=>False):=
 ⟨rfl,⟨_,rfl⟩,Ej x⟩
theorem MW {w W pq gW:World} {v:Value} {o:RM} {z c:Int} {g6 mZ:Nat} {x:aX} (c6:lp w v o z c W) (cz:Kept (λ_=>False) W pq)
  (sr:∃o,W.heap[w.heap.size+3]? =some o/\∃s,o= .cells #[.string s] 9 (0,0)) (yW:W.heap[w.heap.size+4]? =some (.deferred (some []))) (gp:∃r,W.heap[w.heap.size+5]? =some (.loop r))
  (cv:Boxed gW w.heap.size 42 v) (ek:Boxed gW (w.heap.size+1) 3 (.int .i64 z)) (dx:Boxed gW (w.heap.size+2) 2 (.int .i64 c))
  (sW:gW.ownsRow w.heap.size 69 4 (.slice (some ⟨g6,0,none⟩) (o.length+1) mZ) (o.length+1) (o.flatMap iJ++iJ x)) (me:pq.grownBy gW v.ownBlock) (iu gc:Int):
  lp w (.slice (some ⟨g6,0,none⟩) (o.length+1) mZ) (o++[x]) iu gc (((gW.setCell ⟨w.heap.size,0,none⟩ (.slice (some ⟨g6,0,none⟩) (o.length+1) mZ)).setCell ⟨w.heap.size+1,0,none⟩ (.int .i64 iu)).setCell ⟨w.heap.size+2,0,none⟩ (.int .i64 gc))/\
  ∀b,b=w.heap.size+3\/b=w.heap.size+4\/b=w.heap.size+5->(((gW.setCell ⟨w.heap.size,0,none⟩ (.slice (some ⟨g6,0,none⟩) (o.length+1) mZ)).setCell ⟨w.heap.size+1,0,none⟩ (.int .i64 iu)).setCell ⟨w.heap.size+2,0,none⟩ (.int .i64 gc)).heap[b]? =W.heap[b]? :=by
 obtain⟨cf,lo,pW,rfl⟩:=sr;obtain⟨Ri,Em⟩:=gp;have dm:=(Array.getElem?_eq_some_iff.1 Em).1;have sX:∀b,b<W.heap.size->some b≠v.ownBlock->gW.heap[b]? =W.heap[b]? :=λb J bT=>
  (me.block b (Nat.lt_of_lt_of_le J cz.size) bT).trans (cz.old b J (λh=>h))
 have vn:∀b,b=w.heap.size+3\/b=w.heap.size+4\/b=w.heap.size+5->some b≠v.ownBlock:=λb J e=>by
  have:=c6.vl b e.symm;omega
 have kc:∀b,b≠w.heap.size->b≠w.heap.size+1->b≠w.heap.size+2->(((gW.setCell ⟨w.heap.size,0,none⟩ (.slice (some ⟨g6,0,none⟩) (o.length+1) mZ)).setCell ⟨w.heap.size+1,0,none⟩ (.int .i64 iu)).setCell ⟨w.heap.size+2,0,none⟩ (.int .i64 gc)).heap[b]? =gW.heap[b]? :=λb bj U ab=>
  (Below.heap_setCell _ _ _ b ab).trans ((Below.heap_setCell _ _ _ b U).trans (Below.heap_setCell _ _ _ b bj))
 obtain⟨Rj,Rk,Rl,kI⟩:=sV sW (g:=g6) rfl;have iD:g6≠w.heap.size:=λe=>by subst e;rw[show gW.heap[w.heap.size]? =_ from cv]at kI;cases kI
 have MX:g6≠w.heap.size+1:=λe=>by subst e;rw[show gW.heap[w.heap.size+1]? =_ from ek]at kI;cases kI
 have MY:g6≠w.heap.size+2:=λe=>by subst e;rw[show gW.heap[w.heap.size+2]? =_ from dx]at kI;cases kI
 have MZ:g6≠w.heap.size+3:=λe=>by subst e;rw[sX _ (by omega) (vn _ (by omega)),lo]at kI;cases kI
 have M0:g6≠w.heap.size+4:=λe=>by subst e;rw[sX _ (by omega) (vn _ (by omega)),yW]at kI;cases kI
 have M1:g6≠w.heap.size+5:=λe=>by subst e;rw[sX _ (by omega) (vn _ (by omega)),Em]at kI;cases kI
 have e0:∀{W:World} {B b:Nat} {t:TypeId} {u:Value} (v:Value),Boxed W B t u->B≠b->Boxed (W.setCell ⟨b,0,none⟩ v) B t u:=λv h bT=>(Below.heap_setCell _ _ _ _ bT).trans h;refine⟨⟨?_,?_,λg hg=>?_,?_,?_,λb J=>?_,?_,?_,?_,?_⟩,λb J=>?_⟩
 .exact e0 _ (e0 _ (Boxed.set _ cv) (by omega)) (by omega)
 .have:(o++[x]).flatMap iJ=o.flatMap iJ++iJ x:=by simp
  rw[this,length_append];exact yV sW λg hg=>by cases hg;exact kc _ iD MX MY
 .cases hg;exact⟨MZ,M0,M1⟩
 .exact e0 _ (Boxed.set _ (e0 _ ek (by omega))) (by omega)
 .exact Boxed.set _ (e0 _ (e0 _ dx (by omega)) (by omega))
 .rw[kc b (by omega) (by omega) (by omega),sX b (by omega) (λe=>by have:=sV c6.row e.symm;omega)];exact c6.old b J
 .have U:=cz.size;have ab:=me.size;have ay:=(KeepsWalks.setCell gW ⟨w.heap.size,0,none⟩ (.slice (some ⟨g6,0,none⟩) (o.length+1) mZ)).size;have aQ:=(KeepsWalks.setCell (gW.setCell ⟨w.heap.size,0,none⟩ (.slice (some ⟨g6,0,none⟩) (o.length+1) mZ)) ⟨w.heap.size+1,0,none⟩ (.int .i64 iu)).size;have bc:=(KeepsWalks.setCell ((gW.setCell ⟨w.heap.size,0,none⟩ (.slice (some ⟨g6,0,none⟩) (o.length+1) mZ)).setCell ⟨w.heap.size+1,0,none⟩ (.int .i64 iu)) ⟨w.heap.size+2,0,none⟩ (.int .i64 gc)).size;omega
 .exact me.os.trans (cz.os.trans c6.os)
 .exact me.tape.trans (cz.tape.trans c6.tape)
 .exact⟨me.output.trans (cz.out.1.trans c6.out.1),λh=>by cases h⟩
 .rw[kc b (by omega) (by omega) (by omega),sX b (by omega) (vn b J)]
theorem M3 {t:RD} (h:t.length<=1048576):(e6 t).2.length<=1048576:=by
 unfold e6;split<;>simp<;>omega
theorem En {w W:World} {F X:Nat->Prop} {S:Nat->Nat->Prop} {a0:RD} {o:RM} {z c:Int} {na:Option Addr} {pr:Nat} {Eo:Value}
  (ax:aZ w F X F S (cM [.str a0]) (dJ [Eo]) w) (c6:lp w (.slice na o.length pr) o z c W):
  ∃v,Ending.returned (.tuple #[.slice na o.length pr,.int .i64 z])=Ending.returned v/\∃a8 aB,aZ w F X a8 aB (cM [.tuple [.aE 4 (o.map bS),.int .i64 z]]) (dJ [v,Eo]) (W.drew.putObj (w.heap.size+1+1+1+1) (.deferred none)):=by
 have ag:Kept (λb=>b=w.heap.size+3\/b=w.heap.size+4\/b=w.heap.size+5) W (W.drew.putObj (w.heap.size+1+1+1+1) (.deferred none)):=(Kept.drew _ _).trans (Kept.putObj _ (.inr (.inl (by omega))));have nb:=c6.kept ag;generalize W.drew.putObj (w.heap.size+1+1+1+1) (.deferred none)=da at nb;have cq:=λg hg=>sV nb.row (g:=g) hg;refine⟨_,rfl,F,λt b=>t=0/\(Value.slice na o.length pr).ownBlock=some b,?_⟩;refine {eK:=λ_ h=>h,eY:=λ_ h=>.inl h,dk:=λb J=>Nat.lt_of_lt_of_le (ax.dk b J) (by have:=nb.sz;omega),c1:=λt b h=>(cq b h.2).2.1,dN:=λt b h aL=>?_,du:=λt u b bT U ab=>bT (U.1.trans ab.1.symm),ck:=λt b h=>.inr (cq b h.2).1,b9:=λt=>?_,old:=λb J _=>nb.old b J,size:=by have:=nb.sz;omega,os:=nb.os,tape:=nb.tape,output:=nb.out,ef:=ax.ef}
 .have:=ax.dk b aL;have:=(cq b h.2).1;omega
 .match t with
  |0=>
   refine(ar.bx rfl).2 ⟨⟨_,rfl,rfl,?_⟩,?_⟩
   .intro k d x ad ak
    match k,ad,ak with
    |0,ad,ak=>cases ad;cases ak;exact⟨rfl,(λ_ h=>by cases h),rfl⟩
    |1,ad,ak=>cases ad;cases ak;exact⟨rfl,(λ_ h=>by cases h),rfl⟩
    |_+2,ad,ak=>cases ad
   .show ah da F (.tuple [.aE 4 (o.map bS),.int .i64 z]) [.slice na o.length pr,.int .i64 z] _;rw[ah,aH];refine⟨[.slice na o.length pr],[.int .i64 z],λb=>(Value.slice na o.length pr).ownBlock=some b,λ_=>False,rfl,?_,?_,λb h=>⟨rfl,h⟩,λb h=>h.elim,λb _ h=>h⟩
    .rw[ah];rcases nb.row.2 with⟨az,bj⟩|⟨g,cap,cur,az,J,hg,U,ab,ay,aQ⟩
     .have ba:o=[]:=length_eq_zero_iff.1 bj;subst ba;simp only[Value.slice.injEq]at az;obtain⟨rfl,_,rfl⟩:=az;exact .inl ⟨rfl,_,rfl⟩
     .simp only[Value.slice.injEq]at az;obtain⟨rfl,_,rfl⟩:=az;refine .inr ⟨g,pr,cur,69,(0,0),λ_=>False,by rw[length_map],rfl,hg,λo _ h=>by omega,by rw[length_map];exact U,ab,ay,λd ad=>?_,?_,λ_ h=>h.elim,λh=>h⟩
      .obtain⟨x,_,rfl⟩:=mem_map.1 ad;rfl
      .rw[length_map,aQ];exact Ek o
    .rw[aH];exact⟨_,_,λ_=>False,λ_=>False,rfl,by rw[ah],by rw[aH],λ_ h=>h,λ_ h=>h,λ_ h=>h.elim⟩
  |t+1=>
   show ar da F _ _ .hole _ _;rw[ar];trivial
theorem yX {w W:World} {X:Nat->Prop} (h:gz w X) (ba:∀b,b<w.heap.size->W.heap[b]? =w.heap[b]?) (R:w.heap.size<=W.heap.size):gz W (λ_=>False):=by
 intro p af;obtain⟨U,ab,o,ay,aQ⟩:=h p af;exact⟨Nat.lt_of_lt_of_le U R,λh=>h,o,(ba _ U).trans ay,aQ⟩
theorem Rm (dD:World) (a b c:Int) (s:ByteArray):(storeCells ⟨dD.heap.size,0,none⟩ [.int .i64 a,.int .i64 b,.int .i64 c,.string s] 0).run Tryz.prog (dD.alloc (.cells #[.int .i64 0,.int .i64 0,.int .i64 0,.string ⟨#[]⟩] 69))=
  .ok () (dD.alloc (.cells #[.int .i64 a,.int .i64 b,.int .i64 c,.string s] 69)):=
 run_storeCells_new (P:=Tryz.prog) dD 69 #[.int .i64 0,.int .i64 0,.int .i64 0,.string ⟨#[]⟩] #[.int .i64 a,.int .i64 b,.int .i64 c,.string s] (by kernel_rfl) rfl (by simp[Value.oneCell'])
theorem Rn (dD:World) (a b c:Int) (s:ByteArray):(loadCellsFrom ⟨dD.heap.size,0,none⟩ 0 4 #[]).run Tryz.prog (dD.alloc (.cells #[.int .i64 a,.int .i64 b,.int .i64 c,.string s] 69))=
  .ok #[.int .i64 a,.int .i64 b,.int .i64 c,.string s] (dD.alloc (.cells #[.int .i64 a,.int .i64 b,.int .i64 c,.string s] 69)):=
 run_loadCellsFrom_new (P:=Tryz.prog) dD 69 #[.int .i64 a,.int .i64 b,.int .i64 c,.string s] 4 rfl
theorem vo (ρ:Operand->Value) (o:Oper) (l:Nat) (dD:World) (u v:Operand) (a b c:Int) (s:ByteArray) (ba:o.op= .store 69 u v) (hu:ρ u= .pointer (some ⟨dD.heap.size,0,none⟩)) (az:ρ v= .agg #[.int .i64 a,.int .i64 b,.int .i64 c,.string s]):
  (Oper.semAt (some l) ρ o).run Tryz.prog (dD.alloc (.cells #[.int .i64 0,.int .i64 0,.int .i64 0,.string ⟨#[]⟩] 69))= .ok .skip (dD.alloc (.cells #[.int .i64 a,.int .i64 b,.int .i64 c,.string s] 69)):=by
 rw[Oper.semAt_eq _ _ _ (λc h=>by rw[ba]at h;cases h)];simp only[execOp,ba,hu,az,Sem.run_bind,run_storeAt_new (P:=Tryz.prog) dD 69 #[.int .i64 0,.int .i64 0,.int .i64 0,.string ⟨#[]⟩] #[.int .i64 a,.int .i64 b,.int .i64 c,.string s] (by kernel_rfl) rfl (by simp[Value.oneCell']),Result.andThen,Sem.run_pure]
theorem sY (ρ:Operand->Value) (o:Oper) (l:Nat) (W:World) (eH:Nat) (u:Operand) (a b c:Int) (s:ByteArray) (cP:W.heap[eH]? =some (.cells #[.int .i64 a,.int .i64 b,.int .i64 c,.string s] 69 (0,0))) (ba:o.op= .load 69 u) (hu:ρ u= .pointer (some ⟨eH,0,none⟩)):
  (Oper.semAt (some l) ρ o).run Tryz.prog W= .ok (.value (.agg #[.int .i64 a,.int .i64 b,.int .i64 c,.string s])) W:=by
 rw[Oper.semAt_eq _ _ _ (λc h=>by rw[ba]at h;cases h)];simp only[execOp,ba,hu,Sem.run_bind,Instr.loadAt,Instr.sureAddr,Sem.run_pure,Result.andThen,run_loadVar_row W eH 69 69 #[.int .i64 a,.int .i64 b,.int .i64 c,.string s] (0,0) _ cP Tryz.underlying69 rfl (by kernel_rfl)]
theorem vp {W lX dD:World} (bA:Kept (λ_=>False) W lX) (bN:Kept (λ_=>False) lX dD) (a b c:Int) (s:ByteArray):
  Kept (λ_=>False) W (dD.alloc (.cells #[.int .i64 a,.int .i64 b,.int .i64 c,.string s] 69))/\(dD.alloc (.cells #[.int .i64 a,.int .i64 b,.int .i64 c,.string s] 69)).heap[dD.heap.size]? =some (.cells #[.int .i64 a,.int .i64 b,.int .i64 c,.string s] 69 (0,0))/\W.heap.size<=dD.heap.size:=
 ⟨(bA.trans bN).trans (Kept.alloc _ _ _),World.alloc_heap_new _ _,(bA.trans bN).size⟩
theorem hO {W da:World} {B:Nat} {t:TypeId} {v:Value} (h:Boxed W B t v) (k:Kept (λ_=>False) W da):Boxed da B t v:=(k.old B (Boxed.lt h) (λh=>h)).trans h
theorem yY {W:World} {base:Nat} {e:TypeId} {size:Nat} {v:Value} {k:Nat} {xs:RJ} (h:W.ownsRow base e size v k xs):∃a c,v= .slice a k c:=by
 rcases h.2 with⟨rfl,rfl⟩|⟨g,cap,cur,rfl,_⟩
 .exact⟨_,_,rfl⟩
 .exact⟨_,_,rfl⟩
theorem Ep:(Tryz.prog.info? 69).map (λi=>(i.zero,i.size,i.bytes))=some (some (.agg #[.int .i64 0,.int .i64 0,.int .i64 0,.string ⟨#[]⟩]),4,40):=by kernel_rfl
theorem M4 (ρ:Operand->Value) (o:Oper) (l:Nat) (W:World) (u:Operand) (a b c:Int) (s:ByteArray) (ba:o.op= .buildSlice 42 1 #[(0,u)]) (hu:ρ u= .agg #[.int .i64 a,.int .i64 b,.int .i64 c,.string s]):
  (Oper.semAt (some l) ρ o).run Tryz.prog W= .ok (.value (.slice (some ⟨W.heap.size,0,none⟩) 1 1)) (W.alloc (.cells #[.int .i64 a,.int .i64 b,.int .i64 c,.string s] 69)):=by
 obtain⟨i,aC,bj,U,ab⟩:=Go.info_parts Ep;rw[Oper.semAt_eq _ _ _ (λc h=>by rw[ba]at h;cases h)];have R:(sizeOf 69).run Tryz.prog W= .ok 4 W:=by simp[sizeOf,typeInfo,aC,U]
 have bt:(zeroValue 69).run Tryz.prog W= .ok (.agg #[.int .i64 0,.int .i64 0,.int .i64 0,.string ⟨#[]⟩]) W:=by simp[zeroValue,typeInfo,aC,bj]
 simp only[execOp,ba,Sem.run_bind,Instr.buildSlice,run_underlying Tryz.underlying42 W,R,bt,Sem.run_pure,Result.andThen,List.size_toArray];simp[hu,newRow,Value.cells,Instr.fill,bt,Sem.run_bind,Result.andThen];have e:∀z:Array Value,z= #[Value.int i64 0,Value.int i64 0,Value.int i64 0,Value.string ⟨#[]⟩]->(((z.setIfInBounds 0 (Value.int i64 a)).setIfInBounds 1 (Value.int i64 b)).setIfInBounds 2 (Value.int i64 c)).setIfInBounds 3 (Value.string s)= #[Value.int i64 a,Value.int i64 b,Value.int i64 c,Value.string s]:=λz h=>by subst h;rfl
 rw[e _ (by kernel_rfl)]
theorem M5 {W:World} {ec:Nat} (x:aX) (h:W.heap[ec]? =some (.cells #[.int .i64 x.Choice,.int .i64 x.bP,.int .i64 x.Second,.string ⟨⟨x.Label⟩⟩] 69 (0,0))):∀j u,(iJ x)[j]? =some u->W.cell? ((⟨ec,0,none⟩:Addr).add j)=some u:=by
 intro j u bE;rw[Addr.add_lit,cell_of_row _ _ _ _ _ _ h,Nat.zero_add];simpa [iJ]using bE
theorem M6 {W da:World} {B:Nat} {o:Obj} (h:W.heap[B]? =some o) (k:Kept (λ_=>False) W da):da.heap[B]? =some o:=(k.old B (Array.getElem?_eq_some_iff.1 h).1 (λh=>h)).trans h
theorem M7 {w W da:World} {v:Value} {o:RM} {z c:Int} (h:lp w v o z c W) (k:Kept (λ_=>False) W da):da.ownsRow w.heap.size 69 4 v o.length (o.flatMap iJ):=
 yV h.row λg hg=>k.old g (sV h.row hg).2.1 (λh=>h)
theorem M8 (x:aX):∀u∈iJ x,Value.oneCell' u=true:=by
 intro u hu;simp only[iJ,mem_cons,not_mem_nil,or_false]at hu;rcases hu with rfl|rfl|rfl|rfl<;>rfl
theorem M9 {o:RM} (h:o.length<=60):o.length+1<=maxLen:=by unfold maxLen;omega
theorem M_ {o:RM} (h:o.length<=60):(o.length+1)*40<=140737488355328:=by omega
theorem Na {w W da:World} {v:Value} {o:RM} {z c:Int} (h:lp w v o z c W) (k:Kept (λ_=>False) W da):w.heap.size<=da.heap.size:=by
 have:=h.sz;have:=k.size;omega
theorem yZ {W pq gW:World} {B base:Nat} {t e:TypeId} {u v:Value} {size k:Nat} {xs:RJ} (h:Boxed W B t u) (cz:Kept (λ_=>False) W pq) (hg:pq.grownBy gW v.ownBlock) (r:pq.ownsRow base e size v k xs) (rj:t≠e):Boxed gW B t u:=
 (hO h cz).kept hg ((hO h cz).not_row rj r)
theorem kJ (f:FuncId):Fence.wide.fn f:=trivial
theorem oc {A B:World} (ag:Kept (λ_=>False) A B) (h:gz A (λ_=>False)):gz B (λ_=>False):=yX h (λb J=>ag.old b J (λh=>h)) ag.size
set_option maxHeartbeats 4000000 in
theorem Nb (lg:∀(a0:RD) (aw:UInt8) (r:Int),qG a0 aw=some r->bf aF 106 [.str a0,.int .u8 (aw.toNat:Int)] (.int .i64 r) [])
  (gP:∀(a0 aw r:RD),strings_TrimSuffix a0 aw=some r->bf aF 69 [.str a0,.str aw] (.str r) [])
  (mF:∀(a0:RD) (r:aX×Bool),pk a0=some r->bf aF 68 [.str a0] (.tuple [bS r.1,.bool r.2]) [])
  (jo:∀(a0:aX) (aw:Int) (r:RD×Int),pn a0 aw=some r->bf aF 70 [bS a0,.int .i64 aw] (.tuple [.str r.1,.int .i64 r.2]) [])
  (a0:RD) (r:RM×Int) (h:qR a0=some r):bf aF 40 [.str a0] (.tuple [.aE 4 (r.1.map bS),.int .i64 r.2]) []:=by
 unfold qR at h;split at h;case isFalse=>cases h
 rename_i a1;intro w F X S vs iW ax;obtain⟨v0,rfl⟩:∃v0,vs=[v0]:=by
  match vs,iW with
  |[x],_=>exact⟨x,rfl⟩
 have hc:v0= .string ⟨⟨a0⟩⟩:=iv (ax.b9 0);subst hc;refine .inl ⟨enters_of Tryz.func40 (by kernel_rfl) rfl _ _,?_⟩;show Calls Tryz.prog 40 #[.string ⟨⟨a0⟩⟩] w _;refine(callsIn_wide (n:=5)).1 ?_;refine callsIn_of_wp_marks Tryz.func40 rfl trivial ?_ rfl;simp only[Tryz.ntmps40,List.size_toArray,length_cons,length_nil,reduceAdd,reduceSub,Array.replicate_succ,Array.replicate_zero,push_toArray,append_toArray,nil_append,cons_append];have vq:∀(W:World) (x u:RD),gz W (λ_=>False)->strings_TrimSuffix x [10]=some u->Calls Tryz.prog 69 #[.string ⟨⟨x⟩⟩,.string ⟨#[10]⟩] W λe an=>e= .returned (.string ⟨⟨u⟩⟩)/\Kept (λ_=>False) W an:=by
  intro W x u hg hu;have:=uM (C:=aF) (g:=69) (enters_of Tryz.func69 (by kernel_rfl) rfl) (aa:=[.str x,.str [10]]) (vs:=[.string ⟨⟨x⟩⟩,.string ⟨#[10]⟩]) (w:=W) rfl (λi a v a1 az=>by
   match i,a1,az with
   |0,a1,az=>cases a1;cases az;exact⟨rfl,rfl,rfl⟩
   |1,a1,az=>cases a1;cases az;exact⟨rfl,rfl,rfl⟩
   |_+2,a1,az=>cases a1) rfl (gP x [10] u hu) hg
  refine Calls.mono this ?_;rintro e an ⟨⟨v,F,S,rfl,U,ab⟩,ag⟩;have az:bn v=[v]:=eb U;rw[az,ah]at ab;cases ab;exact⟨rfl,ag⟩
 have vr:∀(W:World) (x:RD) (u:aX×Bool),gz W (λ_=>False)->pk x=some u->Calls Tryz.prog 68 #[.string ⟨⟨x⟩⟩] W λe an=>e= .returned (.tuple #[.agg #[.int .i64 u.1.Choice,.int .i64 u.1.bP,.int .i64 u.1.Second,.string ⟨⟨u.1.Label⟩⟩],.bool u.2])/\Kept (λ_=>False) W an:=by
  intro W x u hg hu;have:=uM (C:=aF) (g:=68) (enters_of Tryz.func68 (by kernel_rfl) rfl) (aa:=[.str x]) (vs:=[.string ⟨⟨x⟩⟩]) (w:=W) rfl (λi a v a1 az=>by
   match i,a1,az with
   |0,a1,az=>cases a1;cases az;exact⟨rfl,rfl,rfl⟩
   |_+1,a1,az=>cases a1) rfl (mF x u hu) hg
  refine Calls.mono this ?_;rintro e an ⟨⟨v,F,S,rfl,U,ab⟩,ag⟩;exact⟨by rw[MT U ab],ag⟩
 have vt:∀(W:World) (x:aX) (c:Int) (u:RD×Int),gz W (λ_=>False)->pn x c=some u->Calls Tryz.prog 70 #[.agg #[.int .i64 x.Choice,.int .i64 x.bP,.int .i64 x.Second,.string ⟨⟨x.Label⟩⟩],.int .i64 c] W λe an=>e= .returned (.tuple #[.string ⟨⟨u.1⟩⟩,.int .i64 u.2])/\Kept (λ_=>False) W an:=by
  intro W x c u hg hu;have:=uM (C:=aF) (g:=70) (enters_of Tryz.func70 (by kernel_rfl) rfl) (aa:=[bS x,.int .i64 c]) (vs:=[.agg #[.int .i64 x.Choice,.int .i64 x.bP,.int .i64 x.Second,.string ⟨⟨x.Label⟩⟩],.int .i64 c]) (w:=W) rfl (λi a v a1 az=>by
   match i,a1,az with
   |0,a1,az=>cases a1;cases az;exact MV x W
   |1,a1,az=>cases a1;cases az;exact⟨rfl,rfl,rfl⟩
   |_+2,a1,az=>cases a1) rfl (jo x c u hu) hg
  refine Calls.mono this ?_;rintro e an ⟨⟨v,F,S,rfl,U,ab⟩,ag⟩;exact⟨by rw[MU U ab],ag⟩
 gi_wp2_with (refine⟨trivial,?_⟩;gi_at_call 67;refine(callsIn_wide.2 (ML _ _)).mono ?_;rintro e an ⟨rfl,rfl⟩)
 simp only[Nat.add_assoc,reduceAdd];obtain⟨o4,vu⟩:∃o4,o4=(((w.alloc (Obj.cells #[Value.slice none 0 0] 42)).alloc (Obj.cells #[Value.int i64 0] 3)).alloc (Obj.cells #[Value.int i64 65535] 2)).alloc (Obj.cells #[Value.string ⟨⟨a0⟩⟩] 9):=⟨_,rfl⟩
 have fL:o4.heap.size=w.heap.size+4:=by rw[vu];simp
 have lo:o4.heap[w.heap.size+3]? =some (.cells #[.string ⟨⟨a0⟩⟩] 9 (0,0)):=by
  rw[vu];have:=World.alloc_heap_new (((w.alloc (Obj.cells #[Value.slice none 0 0] 42)).alloc (Obj.cells #[Value.int i64 0] 3)).alloc (Obj.cells #[Value.int i64 65535] 2)) (Obj.cells #[Value.string ⟨⟨a0⟩⟩] 9);simpa [World.size_alloc]using this
 have Nc:lp w (.slice none 0 0) [] 0 65535 o4:=by
  rw[vu];refine⟨?_,⟨rfl,.inl ⟨rfl,rfl⟩⟩,λg hg=>(by cases hg),?_,?_,?_,(by simp),rfl,rfl,Out.refl _⟩
  .exact(((Boxed.new w 42 _).alloc _).alloc _).alloc _
  .have:=((Boxed.new (w.alloc (Obj.cells #[Value.slice none 0 0] 42)) 3 (Value.int i64 0)).alloc (Obj.cells #[Value.int i64 65535] 2)).alloc (Obj.cells #[Value.string ⟨⟨a0⟩⟩] 9);simpa [World.size_alloc]using this
  .have:=(Boxed.new ((w.alloc (Obj.cells #[Value.slice none 0 0] 42)).alloc (Obj.cells #[Value.int i64 0] 3)) 2 (Value.int i64 65535)).alloc (Obj.cells #[Value.string ⟨⟨a0⟩⟩] 9);simpa [World.size_alloc]using this
  .intro b J;have k:Kept (λ_=>False) w ((((w.alloc (Obj.cells #[Value.slice none 0 0] 42)).alloc (Obj.cells #[Value.int i64 0] 3)).alloc (Obj.cells #[Value.int i64 65535] 2)).alloc (Obj.cells #[Value.string ⟨⟨a0⟩⟩] 9)):=(((Kept.alloc _ _ _).trans (Kept.alloc _ _ _)).trans (Kept.alloc _ _ _)).trans (Kept.alloc _ _ _);exact k.old b J (λh=>h)
 rw[<-vu];refine Ll (gf:=105) (lb:= #[Value.pointer (some ⟨w.heap.size+3,0,none⟩)]) rfl (enters_of Tryz.func105 (by kernel_rfl) rfl) (sB:=w.heap.size+3) (by omega) rfl (MM lg 2 _ a0 a1 _ lo)
  (λt W=>∃k o z c v,jz k t o z c=some r/\o.length<=60/\t.length<=1048576/\lp w v o z c W)
  (λc W=>c= .exit 0/\∃c v,lp w v r.1 r.2 c W) ?_ ?_ ?_ ⟨_,_,_,_,_,h,by simp,a1,Nc⟩
  (λt=>{tmps:= #[Value.string ⟨⟨a0⟩⟩,undef,Value.slice none 0 0,Value.int i64 0,Value.pointer (some ⟨w.heap.size,0,none⟩),Value.pointer (some ⟨w.heap.size+1,0,none⟩),Value.pointer (some ⟨w.heap.size+2,0,none⟩),Value.string ⟨⟨(e6 t).1⟩⟩,undef,undef,undef,undef,Value.string ⟨⟨a0⟩⟩,Value.func (Fn.func 105) #[] #[Value.pointer (some ⟨w.heap.size+3,0,none⟩)],Value.string ⟨⟨(e6 t).1⟩⟩,undef,undef,undef,undef,undef,undef,undef,undef,undef,undef,undef,undef,undef,undef,undef,undef,undef,undef,undef,undef,undef,undef,undef,undef,undef,undef,undef,undef,undef,undef,undef,undef,undef,undef,undef],defers:=[]}) ?assign ?body ?done ?stop
 .rw[fL];rintro t A B ⟨k,o,z,c,v,g1,g2,g3,g4⟩ ag;exact⟨k,o,z,c,v,g1,g2,g3,g4.kept ag⟩
 .rw[fL];rintro t A B ⟨ae,c,v,g4⟩ ag;exact⟨ae,c,v,g4.kept ag⟩
 .rintro t W ⟨k,o,z,c,v,g1,g2,g3,g4⟩;exact yX ax.ef g4.old (by have:=g4.sz;omega)
 case assign=>
  intro l x W K hK
  gi_wp2_with (rw[Oper.semAt_eq _ _ _ (λc h=>by cases h)];go_simp;try go_bits)
  exact hK
 case body=>
  rw[fL];rintro l t W bT ⟨k,o,z,c,v,nL,ba,mf,c6⟩ sr yW gp;obtain⟨b5,u,e,g,hu,he,vv,k1⟩:=MQ nL bT mf;have iD:gz W (λ_=>False):=yX ax.ef c6.old (by have:=c6.sz;omega);obtain⟨x,b⟩:=e;obtain⟨gs,gc⟩:=g;obtain⟨na,bn,rfl⟩:=yY c6.row;obtain⟨i0,Er,tG,Nd,Nf⟩:=info_parts Ep;cases b
  .gi_wp2_with (first|((with_reducible refine And.intro (kJ 69) ?_);gi_at_call 69;refine CallsIn.inRound l (CallsIn.mono (callsIn_wide.2 (vq _ _ _ iD hu)) ?_);rintro e lX ⟨rfl,bA⟩)|((with_reducible refine And.intro (kJ 68) ?_);gi_at_call 68;refine CallsIn.inRound l (CallsIn.mono (callsIn_wide.2 (vr _ _ _ (oc bA iD) he)) ?_);rintro e dD ⟨rfl,bN⟩)|(rw[vo _ _ l dD _ _ _ _ _ _ rfl rfl rfl];obtain⟨bO,cP,pt⟩:=vp bA bN x.Choice x.bP x.Second ⟨⟨x.Label⟩⟩;generalize dD.alloc (.cells #[.int .i64 x.Choice,.int .i64 x.bP,.int .i64 x.Second,.string ⟨⟨x.Label⟩⟩] 69)=e3 at bO cP⊢;generalize dD.heap.size=eH at cP pt⊢;have c2:=Boxed.cell (hO c6.dW bO);have f2:=Boxed.frozen (hO c6.dW bO))|(rw[sY _ _ l e3 eH _ _ _ _ _ cP rfl rfl])|((with_reducible refine And.intro (kJ 70) ?_);gi_at_call 70;refine CallsIn.inRound l (CallsIn.mono (callsIn_wide.2 (vt _ _ _ _ (oc bO iD) vv)) ?_);rintro e j0 ⟨rfl,bL⟩;clear c2 f2;have c0:=Boxed.cell (hO c6.eE (bO.trans bL));have f0:=Boxed.frozen (hO c6.eE (bO.trans bL)))|((rw[Oper.semAt_eq _ _ _ (λc h=>by cases h)]);go_simp;try go_bits))
   exact⟨(bO.trans bL).old _ (by obtain⟨r,h⟩:=gp;have:=(Array.getElem?_eq_some_iff.1 h).1;omega) (λh=>h),(bO.trans bL).old _ (by obtain⟨r,h⟩:=gp;exact(Array.getElem?_eq_some_iff.1 h).1) (λh=>h),rfl,c,_,by rw[if_pos (.inl (by first|rfl|trivial))]at k1;obtain rfl:=jc k1;exact c6.kept ((bO.trans bL).mono λ_ _ h=>h.elim)⟩
  by_cases rG:gs=(e6 t).1;case neg=>
   gi_wp2_with (first|((with_reducible refine And.intro (kJ 69) ?_);gi_at_call 69;refine CallsIn.inRound l (CallsIn.mono (callsIn_wide.2 (vq _ _ _ iD hu)) ?_);rintro e lX ⟨rfl,bA⟩)|((with_reducible refine And.intro (kJ 68) ?_);gi_at_call 68;refine CallsIn.inRound l (CallsIn.mono (callsIn_wide.2 (vr _ _ _ (oc bA iD) he)) ?_);rintro e dD ⟨rfl,bN⟩)|(rw[vo _ _ l dD _ _ _ _ _ _ rfl rfl rfl];obtain⟨bO,cP,pt⟩:=vp bA bN x.Choice x.bP x.Second ⟨⟨x.Label⟩⟩;generalize dD.alloc (.cells #[.int .i64 x.Choice,.int .i64 x.bP,.int .i64 x.Second,.string ⟨⟨x.Label⟩⟩] 69)=e3 at bO cP⊢;generalize dD.heap.size=eH at cP pt⊢;have c2:=Boxed.cell (hO c6.dW bO);have f2:=Boxed.frozen (hO c6.dW bO))|(rw[sY _ _ l e3 eH _ _ _ _ _ cP rfl rfl])|((with_reducible refine And.intro (kJ 70) ?_);gi_at_call 70;refine CallsIn.inRound l (CallsIn.mono (callsIn_wide.2 (vt _ _ _ _ (oc bO iD) vv)) ?_);rintro e j0 ⟨rfl,bL⟩;clear c2 f2;have c0:=Boxed.cell (hO c6.eE (bO.trans bL));have f0:=Boxed.frozen (hO c6.eE (bO.trans bL)))|((rw[Oper.semAt_eq _ _ _ (λc h=>by cases h)]);go_simp;try go_bits))
   exact⟨(bO.trans bL).old _ (by obtain⟨r,h⟩:=gp;have:=(Array.getElem?_eq_some_iff.1 h).1;omega) (λh=>h),(bO.trans bL).old _ (by obtain⟨r,h⟩:=gp;exact(Array.getElem?_eq_some_iff.1 h).1) (λh=>h),rfl,c,_,by rw[if_pos (.inr (.inl rG))]at k1;obtain rfl:=jc k1;exact c6.kept ((bO.trans bL).mono λ_ _ h=>h.elim)⟩
  subst rG;by_cases od:o.length=60
  .gi_wp2_with (first|((with_reducible refine And.intro (kJ 69) ?_);gi_at_call 69;refine CallsIn.inRound l (CallsIn.mono (callsIn_wide.2 (vq _ _ _ iD hu)) ?_);rintro e lX ⟨rfl,bA⟩)|((with_reducible refine And.intro (kJ 68) ?_);gi_at_call 68;refine CallsIn.inRound l (CallsIn.mono (callsIn_wide.2 (vr _ _ _ (oc bA iD) he)) ?_);rintro e dD ⟨rfl,bN⟩)|(rw[vo _ _ l dD _ _ _ _ _ _ rfl rfl rfl];obtain⟨bO,cP,pt⟩:=vp bA bN x.Choice x.bP x.Second ⟨⟨x.Label⟩⟩;generalize dD.alloc (.cells #[.int .i64 x.Choice,.int .i64 x.bP,.int .i64 x.Second,.string ⟨⟨x.Label⟩⟩] 69)=e3 at bO cP⊢;generalize dD.heap.size=eH at cP pt⊢;have c2:=Boxed.cell (hO c6.dW bO);have f2:=Boxed.frozen (hO c6.dW bO))|(rw[sY _ _ l e3 eH _ _ _ _ _ cP rfl rfl])|((with_reducible refine And.intro (kJ 70) ?_);gi_at_call 70;refine CallsIn.inRound l (CallsIn.mono (callsIn_wide.2 (vt _ _ _ _ (oc bO iD) vv)) ?_);rintro e j0 ⟨rfl,bL⟩;clear c2 f2;have c0:=Boxed.cell (hO c6.eE (bO.trans bL));have f0:=Boxed.frozen (hO c6.eE (bO.trans bL)))|((rw[Oper.semAt_eq _ _ _ (λc h=>by cases h)]);go_simp;try go_bits))
   exact⟨(bO.trans bL).old _ (by obtain⟨r,h⟩:=gp;have:=(Array.getElem?_eq_some_iff.1 h).1;omega) (λh=>h),(bO.trans bL).old _ (by obtain⟨r,h⟩:=gp;exact(Array.getElem?_eq_some_iff.1 h).1) (λh=>h),rfl,c,_,by rw[if_pos (.inr (.inr od))]at k1;obtain rfl:=jc k1;exact c6.kept ((bO.trans bL).mono λ_ _ h=>h.elim)⟩
  .have Ng:((o.length:Int)==60)=false:=by
    simp only[beq_eq_false_iff_ne];omega
   gi_wp2_with (first|((with_reducible refine And.intro (kJ 69) ?_);gi_at_call 69;refine CallsIn.inRound l (CallsIn.mono (callsIn_wide.2 (vq _ _ _ iD hu)) ?_);rintro e lX ⟨rfl,bA⟩)|((with_reducible refine And.intro (kJ 68) ?_);gi_at_call 68;refine CallsIn.inRound l (CallsIn.mono (callsIn_wide.2 (vr _ _ _ (oc bA iD) he)) ?_);rintro e dD ⟨rfl,bN⟩)|(rw[vo _ _ l dD _ _ _ _ _ _ rfl rfl rfl];obtain⟨bO,cP,pt⟩:=vp bA bN x.Choice x.bP x.Second ⟨⟨x.Label⟩⟩;generalize dD.alloc (.cells #[.int .i64 x.Choice,.int .i64 x.bP,.int .i64 x.Second,.string ⟨⟨x.Label⟩⟩] 69)=e3 at bO cP⊢;generalize dD.heap.size=eH at cP pt⊢;have c2:=Boxed.cell (hO c6.dW bO);have f2:=Boxed.frozen (hO c6.dW bO))|(rw[sY _ _ l e3 eH _ _ _ _ _ cP rfl rfl])|((with_reducible refine And.intro (kJ 70) ?_);gi_at_call 70;refine CallsIn.inRound l (CallsIn.mono (callsIn_wide.2 (vt _ _ _ _ (oc bO iD) vv)) ?_);rintro e j0 ⟨rfl,bL⟩;clear c2 f2;have c0:=Boxed.cell (hO c6.eE (bO.trans bL));have f0:=Boxed.frozen (hO c6.eE (bO.trans bL));have Nh:j0.heap[eH]? =some (.cells #[.int .i64 x.Choice,.int .i64 x.bP,.int .i64 x.Second,.string ⟨⟨x.Label⟩⟩] 69 (0,0)):=M6 cP bL)|(rw[sY _ _ l j0 eH _ _ _ _ _ Nh rfl rfl])|(rw[M4 _ _ l j0 _ _ _ _ _ rfl rfl];have cz:Kept (λ_=>False) W (j0.alloc (.cells #[.int .i64 x.Choice,.int .i64 x.bP,.int .i64 x.Second,.string ⟨⟨x.Label⟩⟩] 69)):=(bO.trans bL).trans (Kept.alloc _ _ _);have fD:=World.alloc_heap_new j0 (.cells #[.int .i64 x.Choice,.int .i64 x.bP,.int .i64 x.Second,.string ⟨⟨x.Label⟩⟩] 69);generalize j0.alloc (.cells #[.int .i64 x.Choice,.int .i64 x.bP,.int .i64 x.Second,.string ⟨⟨x.Label⟩⟩] 69)=pq at cz fD⊢;generalize j0.heap.size=ec at fD⊢;have eZ:=M7 c6 cz;have c5:=M5 x fD;clear c0 f0)|(gi_at_builtin;refine wpListIn_append_own _ rfl _ _ 42 rfl w.heap.size 69 i0 _ 4 40 Tryz.underlying42 Er tG Nd Nf rfl (by decide) _ _ _ rfl eZ ⟨ec,0,none⟩ 1 1 (iJ x) rfl rfl c5 (M8 x) (M9 ba) (M_ ba) (Na c6 cz) ?_;intro v6 gW sW me Ni;clear Ni;obtain⟨g6,mZ,rfl⟩:=ownsRow_succ sW;have cv:=yZ c6.eE cz me eZ (by decide);have ek:=yZ c6.e0 cz me eZ (by decide);have dx:=yZ c6.dW cz me eZ (by decide);have c0:=Boxed.cell cv;have f0:=Boxed.frozen cv;have bb:=Boxed.cell ek;have f1:=Boxed.frozen ek;have c2:=Boxed.cell dx;have f2:=Boxed.frozen dx)|(simp only[Ng])|((rw[Oper.semAt_eq _ _ _ (λc h=>by cases h)]);go_simp;try go_bits))
   rw[if_neg (by rintro(h|h|h);cases h;exact h rfl;exact od h)]at k1;rw[show i64.wrap (z+(e6 t).1.length)=wrap64 (z+(e6 t).1.length) by simp only[wrap_i64,wrap64]]at k1;obtain⟨wW,y0⟩:=MW (x:=x) c6 cz sr yW gp cv ek dx sW me (wrap64 (z+(e6 t).1.length)) gc;refine⟨y0 _ (.inl rfl),y0 _ (.inr (.inl rfl)),y0 _ (.inr (.inr rfl)),?_⟩;exact⟨b5,o++[x],_,gc,k1,by simp;omega,M3 mf,_,wW⟩
 case done=>
  rintro W ⟨k,o,z,c,v,nL,ba,mf,c6⟩ hK;obtain rfl:r=(o,z):=by
   cases k with
   |zero=>cases nL
   |succ k=>rw[jz,if_pos rfl]at nL;exact jc nL
  have mixed:Tryz.prog.follows Departure.mixedOrders=true:=by kernel_rfl
  obtain⟨na,bn,rfl⟩:=yY c6.row;have c0:=Boxed.cell c6.eE;have bb:=Boxed.cell c6.e0
  gi_wp2_with gi_region
  have y1:W.drew.heap[w.heap.size+1+1+1+1]? =some (.deferred (some [])):=by rw[fL]at hK;exact hK
  refine⟨by simp,.inl ⟨_,_,rfl,run_takeDeferred y1,?_⟩⟩;exact⟨_,results_tmp2 (t:=2) (u:=3) rfl _ _ _,En ax c6⟩
 case stop=>
  rintro c0 W ⟨rfl,c,v,c6⟩ hK;have mixed:Tryz.prog.follows Departure.mixedOrders=true:=by kernel_rfl
  obtain⟨o,z⟩:=r;obtain⟨na,bn,rfl⟩:=yY c6.row;have c0:=Boxed.cell c6.eE;have bb:=Boxed.cell c6.e0
  gi_wp2_with gi_region
  have y1:W.drew.heap[w.heap.size+1+1+1+1]? =some (.deferred (some [])):=by rw[fL]at hK;exact hK
  refine⟨by simp,.inl ⟨_,_,rfl,run_takeDeferred y1,?_⟩⟩;exact⟨_,results_tmp2 (t:=2) (u:=3) rfl _ _ _,En ax c6⟩
end
end Go.Proofs.YteloniioljdceaaGreatDoor
