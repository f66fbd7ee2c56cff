/- Part of a proof that a law returns true for every input. No condition. -/
import Derived.Ground.NamesProg
import Derived.Shelf.Lays
import Derived.Shelf.Strings.BuilderX
import Derived.Shelf.LaysC
import Derived.Shelf.LaysM
import Derived.Shelf.Strings.Prefix
import Derived.Shelf.Strconv.ParseIntPublic10
import Derived.Shelf.Strconv.Itoa4
import Derived.WalkKit
import Derived.BigCall
import Derived.Test.YtocllehpepigpaaGreatDoorUHD
import Derived.Shelf.Strings.OnBuilder
import Derived.Test.YtocllehpepigpaaGreatDoorFwM
import Derived.Test.YtocllehpepigpaaGreatDoorC3
namespace Go.Proofs.YtocllehpepigpaaGreatDoor
open Go Go.cI Go.gB Go.Shelf
set_option maxRecDepth 100000
def Tryz.aha:Go.Shelf.Ren:=⟨fun|173=>127|246=>143|283=>152|284=>153|285=>154|286=>155|129=>160|317=>159|318=>161|319=>162|320=>163|337=>164|338=>165|n=>n,fun|2=>2|3=>3|9=>9|4=>4|171=>182|0=>0|53=>169|37=>158|5=>5|173=>185|212=>198|51=>165|20=>20|213=>199|46=>151|232=>203|233=>204|n=>n,fun|17=>5|18=>6|19=>7|n=>n⟩
theorem Tryz.Ji:Go.Proofs.Lays.n173 Tryz.prog Tryz.aha:={
 mixed:=by kernel_rfl
 f129:=Tryz.func160.trans (congrArg some (by kernel_rfl))
 f173:=Tryz.func127.trans (congrArg some (by kernel_rfl))
 f246:=Tryz.func143.trans (congrArg some (by kernel_rfl))
 f283:=Tryz.func152.trans (congrArg some (by kernel_rfl))
 f284:=Tryz.func153.trans (congrArg some (by kernel_rfl))
 f285:=Tryz.func154.trans (congrArg some (by kernel_rfl))
 f286:=Tryz.func155.trans (congrArg some (by kernel_rfl))
 f317:=Tryz.func159.trans (congrArg some (by kernel_rfl))
 f318:=Tryz.func161.trans (congrArg some (by kernel_rfl))
 f319:=Tryz.func162.trans (congrArg some (by kernel_rfl))
 f320:=Tryz.func163.trans (congrArg some (by kernel_rfl))
 f337:=Tryz.func164.trans (congrArg some (by kernel_rfl))
 f338:=Tryz.func165.trans (congrArg some (by kernel_rfl))
 t0:=Tryz.underlying0
 a0:=Tryz.isAgg0
 z0:=Tryz.sizeOf0
 v0:=Tryz.zeroValue0
 t2:=Tryz.underlying2
 a2:=Tryz.isAgg2
 z2:=Tryz.sizeOf2
 v2:=Tryz.zeroValue2
 t3:=Tryz.underlying3
 a3:=Tryz.isAgg3
 z3:=Tryz.sizeOf3
 v3:=Tryz.zeroValue3
 t4:=Tryz.underlying4
 a4:=Tryz.isAgg4
 z4:=Tryz.sizeOf4
 v4:=Tryz.zeroValue4
 t5:=Tryz.underlying5
 a5:=Tryz.isAgg5
 z5:=Tryz.sizeOf5
 v5:=Tryz.zeroValue5
 t9:=Tryz.underlying9
 a9:=Tryz.isAgg9
 z9:=Tryz.sizeOf9
 v9:=Tryz.zeroValue9
 t20:=Tryz.underlying20
 a20:=Tryz.isAgg20
 z20:=Tryz.sizeOf20
 v20:=Tryz.zeroValue20
 t37:=Tryz.underlying158
 a37:=Tryz.isAgg158
 z37:=Tryz.sizeOf158
 v37:=Tryz.zeroValue158
 t46:=Tryz.underlying151
 a46:=Tryz.isAgg151
 z46:=Tryz.sizeOf151
 v46:=Tryz.zeroValue151
 t51:=Tryz.underlying165
 a51:=Tryz.isAgg165
 z51:=Tryz.sizeOf165
 v51:=Tryz.zeroValue165
 t53:=Tryz.underlying169
 a53:=Tryz.isAgg169
 z53:=Tryz.sizeOf169
 v53:=Tryz.zeroValue169
 t171:=Tryz.underlying182
 a171:=Tryz.isAgg182
 z171:=Tryz.sizeOf182
 v171:=Tryz.zeroValue182
 t173:=Tryz.underlying185
 a173:=Tryz.isAgg185
 z173:=Tryz.sizeOf185
 v173:=Tryz.zeroValue185
 t212:=Tryz.underlying198
 a212:=Tryz.isAgg198
 z212:=Tryz.sizeOf198
 v212:=Tryz.zeroValue198
 t213:=Tryz.underlying199
 a213:=Tryz.isAgg199
 z213:=Tryz.sizeOf199
 t232:=Tryz.underlying203
 a232:=Tryz.isAgg203
 z232:=Tryz.sizeOf203
 v232:=Tryz.zeroValue203
 t233:=Tryz.underlying204
 a233:=Tryz.isAgg204
 z233:=Tryz.sizeOf204
 v233:=Tryz.zeroValue204
 g17:=by kernel_rfl
 g18:=by kernel_rfl
 g19:=by kernel_rfl}
def Tryz.Jj:Go.Shelf.Ren:=⟨fun|156=>119|165=>132|166=>133|169=>134|240=>145|241=>146|276=>156|277=>157|n=>n,fun|31=>22|9=>9|3=>3|4=>4|0=>0|20=>20|72=>160|76=>162|70=>157|37=>158|75=>141|127=>175|164=>191|5=>5|80=>164|n=>n,fun|n=>n⟩
theorem Tryz.C_:Go.Proofs.Lays.n156 Tryz.prog Tryz.Jj:={
 mixed:=by kernel_rfl
 f156:=Tryz.func119.trans (congrArg some (by kernel_rfl))
 f165:=Tryz.func132.trans (congrArg some (by kernel_rfl))
 f166:=Tryz.func133.trans (congrArg some (by kernel_rfl))
 f169:=Tryz.func134.trans (congrArg some (by kernel_rfl))
 f240:=Tryz.func145.trans (congrArg some (by kernel_rfl))
 f241:=Tryz.func146.trans (congrArg some (by kernel_rfl))
 f276:=Tryz.func156.trans (congrArg some (by kernel_rfl))
 f277:=Tryz.func157.trans (congrArg some (by kernel_rfl))
 t0:=Tryz.underlying0
 a0:=Tryz.isAgg0
 z0:=Tryz.sizeOf0
 v0:=Tryz.zeroValue0
 t3:=Tryz.underlying3
 a3:=Tryz.isAgg3
 z3:=Tryz.sizeOf3
 v3:=Tryz.zeroValue3
 t4:=Tryz.underlying4
 a4:=Tryz.isAgg4
 z4:=Tryz.sizeOf4
 v4:=Tryz.zeroValue4
 t9:=Tryz.underlying9
 a9:=Tryz.isAgg9
 z9:=Tryz.sizeOf9
 v9:=Tryz.zeroValue9
 t20:=Tryz.underlying20
 a20:=Tryz.isAgg20
 z20:=Tryz.sizeOf20
 v20:=Tryz.zeroValue20
 t31:=Tryz.underlying22
 a31:=Tryz.isAgg22
 z31:=Tryz.sizeOf22
 v31:=Tryz.zeroValue22
 t37:=Tryz.underlying158
 a37:=Tryz.isAgg158
 z37:=Tryz.sizeOf158
 v37:=Tryz.zeroValue158
 t70:=Tryz.underlying157
 a70:=Tryz.isAgg157
 z70:=Tryz.sizeOf157
 v70:=Tryz.zeroValue157
 t72:=Tryz.underlying160
 a72:=Tryz.isAgg160
 z72:=Tryz.sizeOf160
 v72:=Tryz.zeroValue160
 t75:=Tryz.underlying141
 a75:=Tryz.isAgg141
 z75:=Tryz.sizeOf141
 v75:=Tryz.zeroValue141
 t76:=Tryz.underlying162
 a76:=Tryz.isAgg162
 z76:=Tryz.sizeOf162
 v76:=Tryz.zeroValue162
 t127:=Tryz.underlying175
 a127:=Tryz.isAgg175
 z127:=Tryz.sizeOf175
 v127:=Tryz.zeroValue175
 t164:=Tryz.underlying191
 a164:=Tryz.isAgg191
 z164:=Tryz.sizeOf191
 v164:=Tryz.zeroValue191}
theorem Tryz.Jk:Builder.Extra Tryz.prog Tryz.Jj:={
 sizeBuilder:=by kernel_rfl
 liesBuilder:=by kernel_rfl
 t5:=Tryz.underlying5
 a5:=Tryz.isAgg5
 z5:=Tryz.sizeOf5
 v5:=Tryz.zeroValue5
 infoByte:=by kernel_rfl
 cellsByte:=by kernel_rfl
 sizeByte:=by kernel_rfl
 neB5:=by decide}
def Tryz.ahb:Go.Shelf.Ren:=⟨fun|101=>109|208=>124|206=>137|n=>n,fun|9=>9|4=>4|3=>3|n=>n,fun|n=>n⟩
theorem Tryz.Da:Go.Proofs.Lays.n101 Tryz.prog Tryz.ahb:={
 mixed:=by kernel_rfl
 f101:=Tryz.func109.trans (congrArg some (by kernel_rfl))
 f206:=Tryz.func137.trans (congrArg some (by kernel_rfl))
 f208:=Tryz.func124.trans (congrArg some (by kernel_rfl))
 t3:=Tryz.underlying3
 a3:=Tryz.isAgg3
 z3:=Tryz.sizeOf3
 v3:=Tryz.zeroValue3
 t4:=Tryz.underlying4
 a4:=Tryz.isAgg4
 z4:=Tryz.sizeOf4
 v4:=Tryz.zeroValue4
 t9:=Tryz.underlying9
 a9:=Tryz.isAgg9
 z9:=Tryz.sizeOf9
 v9:=Tryz.zeroValue9}
def Tryz.ahc:Go.Shelf.Ren:=⟨fun|174=>110|247=>125|245=>126|287=>138|279=>139|280=>140|281=>141|282=>142|321=>147|322=>148|316=>149|171=>151|205=>150|243=>158|246=>143|283=>152|284=>153|285=>154|286=>155|129=>160|317=>159|318=>161|319=>162|320=>163|337=>164|338=>165|n=>n,fun|9=>9|3=>3|2=>2|75=>141|85=>142|4=>4|167=>168|5=>5|53=>169|175=>170|46=>151|168=>172|37=>158|0=>0|210=>179|21=>21|127=>175|145=>196|143=>194|171=>182|173=>185|212=>198|51=>165|20=>20|213=>199|232=>203|233=>204|80=>164|n=>n,fun|15=>1|16=>2|17=>5|18=>6|19=>7|n=>n⟩
theorem Tryz.Jl:Go.Proofs.LaysC.n174 Tryz.prog Tryz.ahc:={
 mixed:=by kernel_rfl
 f129:=Tryz.func160.trans (congrArg some (by kernel_rfl))
 f171:=Tryz.func151.trans (congrArg some (by kernel_rfl))
 f174:=Tryz.func110.trans (congrArg some (by kernel_rfl))
 f205:=Tryz.func150.trans (congrArg some (by kernel_rfl))
 f243:=Tryz.func158.trans (congrArg some (by kernel_rfl))
 f245:=Tryz.func126.trans (congrArg some (by kernel_rfl))
 f246:=Tryz.func143.trans (congrArg some (by kernel_rfl))
 f247:=Tryz.func125.trans (congrArg some (by kernel_rfl))
 f279:=Tryz.func139.trans (congrArg some (by kernel_rfl))
 f280:=Tryz.func140.trans (congrArg some (by kernel_rfl))
 f281:=Tryz.func141.trans (congrArg some (by kernel_rfl))
 f282:=Tryz.func142.trans (congrArg some (by kernel_rfl))
 f283:=Tryz.func152.trans (congrArg some (by kernel_rfl))
 f284:=Tryz.func153.trans (congrArg some (by kernel_rfl))
 f285:=Tryz.func154.trans (congrArg some (by kernel_rfl))
 f286:=Tryz.func155.trans (congrArg some (by kernel_rfl))
 f287:=Tryz.func138.trans (congrArg some (by kernel_rfl))
 f316:=Tryz.func149.trans (congrArg some (by kernel_rfl))
 f317:=Tryz.func159.trans (congrArg some (by kernel_rfl))
 f318:=Tryz.func161.trans (congrArg some (by kernel_rfl))
 f319:=Tryz.func162.trans (congrArg some (by kernel_rfl))
 f320:=Tryz.func163.trans (congrArg some (by kernel_rfl))
 f321:=Tryz.func147.trans (congrArg some (by kernel_rfl))
 f322:=Tryz.func148.trans (congrArg some (by kernel_rfl))
 f337:=Tryz.func164.trans (congrArg some (by kernel_rfl))
 f338:=Tryz.func165.trans (congrArg some (by kernel_rfl))
 t0:=Tryz.underlying0
 a0:=Tryz.isAgg0
 z0:=Tryz.sizeOf0
 v0:=Tryz.zeroValue0
 t2:=Tryz.underlying2
 a2:=Tryz.isAgg2
 z2:=Tryz.sizeOf2
 v2:=Tryz.zeroValue2
 t3:=Tryz.underlying3
 a3:=Tryz.isAgg3
 z3:=Tryz.sizeOf3
 v3:=Tryz.zeroValue3
 t4:=Tryz.underlying4
 a4:=Tryz.isAgg4
 z4:=Tryz.sizeOf4
 v4:=Tryz.zeroValue4
 t5:=Tryz.underlying5
 a5:=Tryz.isAgg5
 z5:=Tryz.sizeOf5
 v5:=Tryz.zeroValue5
 t9:=Tryz.underlying9
 a9:=Tryz.isAgg9
 z9:=Tryz.sizeOf9
 v9:=Tryz.zeroValue9
 t20:=Tryz.underlying20
 a20:=Tryz.isAgg20
 z20:=Tryz.sizeOf20
 v20:=Tryz.zeroValue20
 t21:=Tryz.underlying21
 a21:=Tryz.isAgg21
 z21:=Tryz.sizeOf21
 v21:=Tryz.zeroValue21
 t37:=Tryz.underlying158
 a37:=Tryz.isAgg158
 z37:=Tryz.sizeOf158
 v37:=Tryz.zeroValue158
 t46:=Tryz.underlying151
 a46:=Tryz.isAgg151
 z46:=Tryz.sizeOf151
 v46:=Tryz.zeroValue151
 t51:=Tryz.underlying165
 a51:=Tryz.isAgg165
 z51:=Tryz.sizeOf165
 v51:=Tryz.zeroValue165
 t53:=Tryz.underlying169
 a53:=Tryz.isAgg169
 z53:=Tryz.sizeOf169
 v53:=Tryz.zeroValue169
 t75:=Tryz.underlying141
 a75:=Tryz.isAgg141
 z75:=Tryz.sizeOf141
 v75:=Tryz.zeroValue141
 t85:=Tryz.underlying142
 a85:=Tryz.isAgg142
 z85:=Tryz.sizeOf142
 v85:=Tryz.zeroValue142
 t127:=Tryz.underlying175
 a127:=Tryz.isAgg175
 z127:=Tryz.sizeOf175
 v127:=Tryz.zeroValue175
 t143:=Tryz.underlying194
 a143:=Tryz.isAgg194
 z143:=Tryz.sizeOf194
 v143:=Tryz.zeroValue194
 t145:=Tryz.underlying196
 a145:=Tryz.isAgg196
 z145:=Tryz.sizeOf196
 v145:=Tryz.zeroValue196
 t167:=Tryz.underlying168
 a167:=Tryz.isAgg168
 z167:=Tryz.sizeOf168
 v167:=Tryz.zeroValue168
 t168:=Tryz.underlying172
 a168:=Tryz.isAgg172
 z168:=Tryz.sizeOf172
 v168:=Tryz.zeroValue172
 t171:=Tryz.underlying182
 a171:=Tryz.isAgg182
 z171:=Tryz.sizeOf182
 v171:=Tryz.zeroValue182
 t173:=Tryz.underlying185
 a173:=Tryz.isAgg185
 z173:=Tryz.sizeOf185
 v173:=Tryz.zeroValue185
 t175:=Tryz.underlying170
 a175:=Tryz.isAgg170
 z175:=Tryz.sizeOf170
 v175:=Tryz.zeroValue170
 t210:=Tryz.underlying179
 a210:=Tryz.isAgg179
 z210:=Tryz.sizeOf179
 v210:=Tryz.zeroValue179
 t212:=Tryz.underlying198
 a212:=Tryz.isAgg198
 z212:=Tryz.sizeOf198
 v212:=Tryz.zeroValue198
 t213:=Tryz.underlying199
 a213:=Tryz.isAgg199
 z213:=Tryz.sizeOf199
 t232:=Tryz.underlying203
 a232:=Tryz.isAgg203
 z232:=Tryz.sizeOf203
 v232:=Tryz.zeroValue203
 t233:=Tryz.underlying204
 a233:=Tryz.isAgg204
 z233:=Tryz.sizeOf204
 v233:=Tryz.zeroValue204
 g15:=by kernel_rfl
 g16:=by kernel_rfl
 g17:=by kernel_rfl
 g18:=by kernel_rfl
 g19:=by kernel_rfl
 t80:=Tryz.underlying164
 a80:=Tryz.isAgg164
 z80:=Tryz.sizeOf164
 v80:=Tryz.zeroValue164
 i0:=by kernel_rfl
 i2:=by kernel_rfl
 i3:=by kernel_rfl
 i4:=by kernel_rfl
 i5:=by kernel_rfl
 i9:=by kernel_rfl
 i20:=by kernel_rfl
 i21:=by kernel_rfl
 i37:=by kernel_rfl
 i46:=by kernel_rfl
 i51:=by kernel_rfl
 i53:=by kernel_rfl
 i75:=by kernel_rfl
 i80:=by kernel_rfl
 i85:=by kernel_rfl
 i127:=by kernel_rfl
 i143:=by kernel_rfl
 i145:=by kernel_rfl
 i167:=by kernel_rfl
 i168:=by kernel_rfl
 i171:=by kernel_rfl
 i173:=by kernel_rfl
 i175:=by kernel_rfl
 i210:=by kernel_rfl
 i212:=by kernel_rfl
 i232:=by kernel_rfl
 i233:=by kernel_rfl
 m15:=by kernel_rfl
 m16:=by kernel_rfl
 m17:=by kernel_rfl
 m18:=by kernel_rfl
 m19:=by kernel_rfl
 c0:=by kernel_rfl
 c2:=by kernel_rfl
 c3:=by kernel_rfl
 c4:=by kernel_rfl
 c5:=by kernel_rfl
 c9:=by kernel_rfl
 c20:=by kernel_rfl
 c21:=by kernel_rfl
 c37:=by kernel_rfl
 c46:=by kernel_rfl
 c51:=by kernel_rfl
 c53:=by kernel_rfl
 c75:=by kernel_rfl
 c80:=by kernel_rfl
 c85:=by kernel_rfl
 c127:=by kernel_rfl
 c143:=by kernel_rfl
 c145:=by kernel_rfl
 c167:=by kernel_rfl
 c168:=by kernel_rfl
 c171:=by kernel_rfl
 c173:=by kernel_rfl
 c175:=by kernel_rfl
 c210:=by kernel_rfl
 c212:=by kernel_rfl
 c213:=by kernel_rfl
 c232:=by kernel_rfl
 c233:=by kernel_rfl}
def Tryz.ahd:Go.Shelf.Ren:=⟨fun|173=>127|246=>143|283=>152|284=>153|285=>154|286=>155|129=>160|317=>159|318=>161|319=>162|320=>163|337=>164|338=>165|n=>n,fun|2=>2|3=>3|9=>9|4=>4|171=>182|0=>0|53=>169|37=>158|5=>5|173=>185|212=>198|51=>165|20=>20|213=>199|46=>151|232=>203|233=>204|n=>n,fun|17=>5|18=>6|19=>7|n=>n⟩
theorem Tryz.ahe:Go.Proofs.LaysM.n173 Tryz.prog Tryz.ahd:={
 mixed:=by kernel_rfl
 f129:=Tryz.func160.trans (congrArg some (by kernel_rfl))
 f173:=Tryz.func127.trans (congrArg some (by kernel_rfl))
 f246:=Tryz.func143.trans (congrArg some (by kernel_rfl))
 f283:=Tryz.func152.trans (congrArg some (by kernel_rfl))
 f284:=Tryz.func153.trans (congrArg some (by kernel_rfl))
 f285:=Tryz.func154.trans (congrArg some (by kernel_rfl))
 f286:=Tryz.func155.trans (congrArg some (by kernel_rfl))
 f317:=Tryz.func159.trans (congrArg some (by kernel_rfl))
 f318:=Tryz.func161.trans (congrArg some (by kernel_rfl))
 f319:=Tryz.func162.trans (congrArg some (by kernel_rfl))
 f320:=Tryz.func163.trans (congrArg some (by kernel_rfl))
 f337:=Tryz.func164.trans (congrArg some (by kernel_rfl))
 f338:=Tryz.func165.trans (congrArg some (by kernel_rfl))
 t0:=Tryz.underlying0
 a0:=Tryz.isAgg0
 z0:=Tryz.sizeOf0
 v0:=Tryz.zeroValue0
 t2:=Tryz.underlying2
 a2:=Tryz.isAgg2
 z2:=Tryz.sizeOf2
 v2:=Tryz.zeroValue2
 t3:=Tryz.underlying3
 a3:=Tryz.isAgg3
 z3:=Tryz.sizeOf3
 v3:=Tryz.zeroValue3
 t4:=Tryz.underlying4
 a4:=Tryz.isAgg4
 z4:=Tryz.sizeOf4
 v4:=Tryz.zeroValue4
 t5:=Tryz.underlying5
 a5:=Tryz.isAgg5
 z5:=Tryz.sizeOf5
 v5:=Tryz.zeroValue5
 t9:=Tryz.underlying9
 a9:=Tryz.isAgg9
 z9:=Tryz.sizeOf9
 v9:=Tryz.zeroValue9
 t20:=Tryz.underlying20
 a20:=Tryz.isAgg20
 z20:=Tryz.sizeOf20
 v20:=Tryz.zeroValue20
 t37:=Tryz.underlying158
 a37:=Tryz.isAgg158
 z37:=Tryz.sizeOf158
 v37:=Tryz.zeroValue158
 t46:=Tryz.underlying151
 a46:=Tryz.isAgg151
 z46:=Tryz.sizeOf151
 v46:=Tryz.zeroValue151
 t51:=Tryz.underlying165
 a51:=Tryz.isAgg165
 z51:=Tryz.sizeOf165
 v51:=Tryz.zeroValue165
 t53:=Tryz.underlying169
 a53:=Tryz.isAgg169
 z53:=Tryz.sizeOf169
 v53:=Tryz.zeroValue169
 t171:=Tryz.underlying182
 a171:=Tryz.isAgg182
 z171:=Tryz.sizeOf182
 v171:=Tryz.zeroValue182
 t173:=Tryz.underlying185
 a173:=Tryz.isAgg185
 z173:=Tryz.sizeOf185
 v173:=Tryz.zeroValue185
 t212:=Tryz.underlying198
 a212:=Tryz.isAgg198
 z212:=Tryz.sizeOf198
 v212:=Tryz.zeroValue198
 t213:=Tryz.underlying199
 a213:=Tryz.isAgg199
 z213:=Tryz.sizeOf199
 t232:=Tryz.underlying203
 a232:=Tryz.isAgg203
 z232:=Tryz.sizeOf203
 v232:=Tryz.zeroValue203
 t233:=Tryz.underlying204
 a233:=Tryz.isAgg204
 z233:=Tryz.sizeOf204
 v233:=Tryz.zeroValue204
 g17:=by kernel_rfl
 g18:=by kernel_rfl
 g19:=by kernel_rfl
 i0:=by kernel_rfl
 i2:=by kernel_rfl
 i3:=by kernel_rfl
 i4:=by kernel_rfl
 i5:=by kernel_rfl
 i9:=by kernel_rfl
 i20:=by kernel_rfl
 i37:=by kernel_rfl
 i46:=by kernel_rfl
 i51:=by kernel_rfl
 i53:=by kernel_rfl
 i171:=by kernel_rfl
 i173:=by kernel_rfl
 i212:=by kernel_rfl
 i232:=by kernel_rfl
 i233:=by kernel_rfl
 m17:=by kernel_rfl
 m18:=by kernel_rfl
 m19:=by kernel_rfl}
theorem ahf:One a1 (fun x=>.string ⟨⟨x⟩⟩):=⟨fun _=>rfl,fun w F x cs S=>by unfold a1;rw[ak]⟩
theorem ahg (n:Nat) (h:n<100):Lib.decDigits n=nO n:=by
 unfold Lib.decDigits nO
 by_cases ad:n<10
 ·rw[dif_pos ad,if_pos ad]
 ·rw[dif_neg ad,if_neg ad]
  unfold Lib.decDigits
  rw[dif_pos (by omega)];rfl
theorem ahh (a0 ab:Int) (r:List UInt8) (h:vS a0 ab=some r):bh aN 127 [.int .i64 a0,.int .i64 ab] (.str r) []:=by
 unfold vS at h
 split at h
 ·rename_i aO
  obtain⟨bm,ad,rfl⟩:=aO
  cases h
  refine bh.strs rfl (enters_of Tryz.Ji.f173 (by kernel_rfl) rfl) fun w F X S vs mJ aH=> ?_
  obtain⟨v0,v1,rfl⟩:∃v0 v1,vs=[v0,v1]:=by
   match vs,mJ with
   |[x,y],_=>exact⟨x,y,rfl⟩
  have g0:v0= .int .i64 a0:=l_ (aH.cN 0)
  have g1:v1= .int .i64 10:=l_ (aH.cN 1)
  subst g0 g1
  have:=Any.strconv_FormatInt_10_small Tryz.Ji a0.toNat (by omega) w
  rw[ahg _ (by omega),show((a0.toNat:Nat):Int)=a0 from Int.toNat_of_nonneg bm]at this
  exact this.mono fun e aA ⟨he,hw⟩=>⟨he,hw▸RowKit.Below.refl _ _⟩
 ·cases h
theorem ahi (a0:List (List UInt8)) (ab r:List UInt8) (h:strings_Join a0 ab=some r):bh aN 119 [.slice (a0.map a1),.str ab] (.str r) []:=by
 unfold strings_Join at h
 split at h
 ·rename_i aO
  cases h
  refine bh.strs rfl (enters_of Tryz.C_.f156 (by kernel_rfl) rfl) fun w F X S vs mJ aH=> ?_
  obtain⟨v0,v1,rfl⟩:∃v0 v1,vs=[v0,v1]:=by
   match vs,mJ with
   |[x,y],_=>exact⟨x,y,rfl⟩
  have ad:v1= .string ⟨⟨ab⟩⟩:=lE (aH.cN 1)
  subst ad
  rcases PU aH (u:=0) ahf rfl with⟨rfl,a,c,aI⟩|⟨b,o,cap,aI,U,aj,ai⟩
  ·have aI:v0= .slice a 0 c:=aI
   subst aI
   exact(Any.strings_Join_none Tryz.C_ Tryz.Jk a c ⟨⟨ab⟩⟩ w).mono fun e aA ⟨he,hw⟩=>⟨he,hw▸RowKit.Below.refl _ _⟩
  ·have aI:v0= .slice (some ⟨b,o,none⟩) a0.length cap:=aI
   subst aI
   have aT:(a0.map fun x=>(⟨⟨x⟩⟩:ByteArray)).map (·.data.toList)=a0:=by rw[List.map_map];exact List.map_id _
   have:=Any.strings_Join Tryz.C_ Tryz.Jk b o cap (a0.map fun x=>⟨⟨x⟩⟩) ⟨⟨ab⟩⟩ w (fun j x b6=>by
    rw[List.getElem?_map]at b6
    obtain⟨y,hy,rfl⟩:=Option.map_eq_some_iff.1 b6
    exact ai j y hy) U (by rw[List.length_map];exact aO.1) (by rw[List.length_map];exact aj) (by rw[aT];exact aO.2)
   rw[aT,List.length_map]at this
   exact this
 ·cases h
section
open Go.RowKit
set_option maxHeartbeats 4000000
theorem ahj (n:Int) (bm: -9223372036854775808≤n) (ad:n≤9223372036854775807) (w:World) (zE:Lib.TabIs Tryz.prog w "internal/strconv.uint64pow10" .u64 Lib.pow10Tab):
  Calls Tryz.prog 111 #[.int .i64 n] w fun e aA=>e= .returned (.string ⟨(Lib.itoa n).toArray⟩)∧∃k os,aA=Sort.grow (w.drewN k) os:=by
 go_enter Tryz.func111,Tryz.ntmps111
 go_wp2_with (go_at_call 127;refine(Any.strconv_FormatInt_10 Tryz.ahe n bm ad _ zE).mono ?_;rintro e aA ⟨rfl,k,os,rfl⟩)
 go_ret
 exact⟨rfl,k,os,rfl⟩
theorem ahk {P:Program} {w aA:World} {name:String} {k:IntKind} {fT:List Int} (h:Lib.TabIs P w name k fT) (U:Below w.heap.size w aA):Lib.TabIs P aA name k fT:=by
 unfold Lib.TabIs World.var? at*
 cases hg:P.globalNamed name with
 |none=>simp[hg]at h
 |some g=>
  simp only[hg,Option.bind_some]at h⊢
  have d_:g<w.heap.size:=by
   rcases Nat.lt_or_ge g w.heap.size with bb|bb
   ·exact bb
   ·rw[Array.getElem?_eq_none bb]at h;simp at h
  rw[U.block g d_]
  exact h
theorem Jm {w aA:World} (h:Below w.heap.size w aA) (k:Nat) (os:Array Obj):Below w.heap.size w (Sort.grow (aA.drewN k) os) where
 os:=h.os
 tape:=h.tape
 output:=h.output
 size:=Nat.le_trans h.size (by simp[Sort.grow,World.drewN])
 block:=fun b U=>by
  have:=h.block b U
  rw[←this]
  show(aA.heap++os)[b]? =_
  rw[Array.getElem?_append_left (Nat.lt_of_lt_of_le U h.size)]
theorem ahl (s:List UInt8) (aO:¬(Lib.trimPrefix s [45]).length≤18) (w:World):
  Calls Tryz.prog 102 #[.string ⟨⟨s⟩⟩] w fun e aA=>e= .returned (.tuple #[.int .i64 0,.bool false])∧Below w.heap.size w aA:=by
 go_enter Tryz.func102,Tryz.ntmps102
 go_wp2_with (go_at_call 109;refine(Any.strings_TrimPrefix Tryz.Da ⟨⟨s⟩⟩ ⟨#[45]⟩ _).mono ?_;rintro e aA ⟨rfl,rfl⟩)
 go_ret2
 exact⟨rfl,Below.refl _ _⟩
theorem ahm (s:List UInt8) (aO:(Lib.trimPrefix s [45]).length≤18) (aa:s.length≤1000) (ao:Lib.parseIntB 64 s=Lib.parseIntB 64 []) (aE:Value) (w:World) (aI:w.cell? ⟨1,0,none⟩=some aE) (ahn:aE= .nilIface∨∃AA AB,aE= .iface AA AB):
  Calls Tryz.prog 102 #[.string ⟨⟨s⟩⟩] w fun e aA=>e= .returned (.tuple #[.int .i64 0,.bool false])∧Below w.heap.size w aA:=by
 go_enter Tryz.func102,Tryz.ntmps102
 go_wp2_with (first|(go_at_call 109;refine(Any.strings_TrimPrefix Tryz.Da ⟨⟨s⟩⟩ ⟨#[45]⟩ _).mono ?_;rintro e aA ⟨rfl,rfl⟩)|(go_at_call 110;refine(Any.strconv_ParseInt_10_at64_syntax Tryz.Jl ⟨⟨s⟩⟩ (Nat.le_trans aa (by decide)) ao aE _ aI ahn).mono ?_))
 rintro e vo ⟨N,rfl,-,-,U⟩
 go_wp2
 go_ret2
 exact⟨rfl,U⟩
theorem aho (s:List UInt8) (aO:(Lib.trimPrefix s [45]).length≤18) (aa:s.length≤1000) (v:Int) (ao:Lib.parseIntB 64 s= .ok v) (bm: -9223372036854775808≤v) (ad:v≤9223372036854775807) (w:World) (zE:Lib.TabIs Tryz.prog w "internal/strconv.uint64pow10" .u64 Lib.pow10Tab):
  Calls Tryz.prog 102 #[.string ⟨⟨s⟩⟩] w fun e aA=>e= .returned (.tuple #[.int .i64 (oX s).1,.bool (oX s).2])∧Below w.heap.size w aA:=by
 go_enter Tryz.func102,Tryz.ntmps102
 go_wp2_with (first|(go_at_call 109;refine(Any.strings_TrimPrefix Tryz.Da ⟨⟨s⟩⟩ ⟨#[45]⟩ _).mono ?_;rintro e aA ⟨rfl,rfl⟩)|(go_at_call 110;refine(Any.strconv_ParseInt_10_at64_ok Tryz.Jl ⟨⟨s⟩⟩ (Nat.le_trans aa (by decide)) v ao _).mono ?_))
 rintro e vo ⟨rfl,U⟩
 have ahp:Lib.TabIs Tryz.prog vo "internal/strconv.uint64pow10" .u64 Lib.pow10Tab:=by
  rcases U with rfl|⟨t,rfl⟩
  ·exact zE
  ·exact ahk zE (Lib.bytesWorld_below _ _ _)
 have xM:Below aA.heap.size aA vo:=by
  rcases U with rfl|⟨t,rfl⟩
  ·exact Below.refl _ _
  ·exact Lib.bytesWorld_below _ _ _
 clear U
 go_wp2_with (go_at_call 111;refine(ahj v bm ad _ ahp).mono ?_;rintro e aA ⟨rfl,k,os,rfl⟩)
 all_goals go_ret2
 all_goals (rename_i h)
 ·have e:oX s=(0,false):=by
   unfold oX
   rw[ao]
   simp only
   rw[if_neg (by intro e;simp[e]at h)]
  rw[e]
  exact⟨rfl,Jm xM _ _⟩
 ·have e:oX s=(v,true):=by
   unfold oX
   rw[ao]
   simp only
   rw[if_pos (by simpa using h)]
  rw[e]
  exact⟨rfl,Jm xM _ _⟩
theorem ahq (s:List UInt8):(Lib.trimPrefix s [45]).length=(if s.head? =some 45 then s.tail else s).length:=by
 unfold Lib.trimPrefix Lib.hasPrefix
 cases s with
 |nil=>rfl
 |cons c r=>
  by_cases h:c=45
  ·subst h
   rw[if_pos (show(45::r).head? =some 45 from rfl),if_pos (by simp[List.isPrefixOf])]
   rfl
  ·rw[if_neg (show¬(c::r).head? =some 45 from fun e=>h (Option.some.inj e)),if_neg (by simp[List.isPrefixOf];exact fun e=>h e.symm)]
theorem ahr (s:List UInt8) (w:World) (hg:o3 w fun _=>False):
  Calls Tryz.prog 102 #[.string ⟨⟨s⟩⟩] w fun e aA=>e= .returned (.tuple #[.int .i64 (hA s).1,.bool (hA s).2])∧Below w.heap.size w aA:=by
 have aY:=ahq s
 by_cases aO:(Lib.trimPrefix s [45]).length≤18
 ·have aa:s.length≤1000:=by
   rw[aY]at aO
   split at aO
   ·rw[List.length_tail]at aO;omega
   ·omega
  obtain⟨ad,ag⟩:=ahs s (by rw[←aY];exact aO)
  rw[←ag]
  rcases ao:Lib.parseIntB 64 s with v|_|_
  rotate_left
  ·have e:oX s=(0,false):=by unfold oX;rw[ao]
   obtain⟨_,_,o,g1,aE,cs,ty,fr,g2,g3,g4⟩:=hg (1,Az) (by simp[AE])
   rw[e]
   refine ahm s aO aa ao aE w ?_ g4
   simp only[World.cell?,g1,g2]
   simpa using g3
  ·exact(ad ao).elim
  ·have U:=Lib.parseIntB_bounds ao
   obtain⟨_,_,o,g1,ty,fr,g2⟩:=hg (5,AD) (by simp[AE])
   refine aho s aO aa v ao (by have:=U.1;simp at this;omega) (by have:=U.2;simp at this;omega) w ?_
   unfold Lib.TabIs World.var?
   rw[show Tryz.prog.globalNamed "internal/strconv.uint64pow10" =some 5 by kernel_rfl]
   simp only[Option.bind_some,g1,g2,Lib.pow10Tab,List.map_map]
   rfl
 ·have e:hA s=(0,false):=by
   rw[aY]at aO
   unfold hA
   split<;>rename_i h
   ·rw[if_pos h]at aO
    unfold lp
    rw[if_neg (fun bb=>aO bb.2.1)]
   ·rw[if_neg h]at aO
    unfold lp
    rw[if_neg (fun bb=>aO bb.2.1)]
  rw[e]
  exact ahl s aO w
theorem aht (a0:List UInt8) (r:Int×Bool) (h:yQ a0=some r):bh aN 102 [.str a0] (.tuple [.int .i64 r.1,.bool r.2]) []:=by
 obtain rfl:hA a0=r:=Option.some.inj h
 refine bh.below (v:=.tuple #[.int .i64 (hA a0).1,.bool (hA a0).2]) rfl (enters_of Tryz.func102 (by kernel_rfl) rfl) rfl
  ⟨_,rfl,rfl,fun k d x ah ai=> ?_⟩ (fun w F=> ?_) fun w F X S vs mJ aH=> ?_
 ·rcases k with _|_|k
  ·simp at ah ai;subst ah ai;exact⟨rfl,fun vs=>by simp,rfl⟩
  ·simp at ah ai;subst ah ai;exact⟨rfl,fun vs=>by simp,rfl⟩
  ·simp at ah
 ·simp only[bU,hp]
  rw[ak,aW]
  refine⟨[.int .i64 (hA a0).1],[.bool (hA a0).2],fun _=>False,fun _=>False,rfl,by rw[ak],?_,fun _ h=>h,fun _ h=>h,fun _ h=>h.elim⟩
  rw[aW]
  exact⟨[.bool (hA a0).2],[],fun _=>False,fun _=>False,rfl,by rw[ak],by rw[aW],fun _ h=>h,fun _ h=>h,fun _ h=>h.elim⟩
 ·obtain⟨v0,rfl⟩:∃v0,vs=[v0]:=by
   match vs,mJ with
   |[x],_=>exact⟨x,rfl⟩
  have g0:v0= .string ⟨⟨a0⟩⟩:=lE (aH.cN 0)
  subst g0
  exact ahr a0 w (aH.gn.next (Nat.le_refl _) (fun _ _ _=>rfl) fun _ h=>h.elim)
end
end Go.Proofs.YtocllehpepigpaaGreatDoor
