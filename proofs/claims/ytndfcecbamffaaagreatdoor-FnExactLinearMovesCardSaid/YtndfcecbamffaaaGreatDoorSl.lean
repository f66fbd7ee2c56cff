/- Part of a proof that a law returns true for every input. No condition. -/
import Derived.Ground.NamesProg
import Derived.Shelf.Lays
import Derived.Shelf.Strings.BuilderX
import Derived.Shelf.Strings.OnBuilder
import Derived.Shelf.Strconv.Itoa4
import Derived.Test.YtndfcecbamffaaaGreatDoorFwM
import Derived.Test.YtndfcecbamffaaaGreatDoorC3
namespace Go.Proofs.YtndfcecbamffaaaGreatDoor
open List Option Go.IntKind Nat Or
open Go Go.cG Go.mY Go.Shelf
set_option maxRecDepth 100000
def Tryz.Wt:Go.Shelf.Ren:=⟨λ|173=>102|246=>111|283=>114|284=>115|285=>116|286=>117|129=>121|317=>120|318=>122|319=>123|320=>124|337=>125|338=>126|n=>n,λ|2=>2|3=>3|9=>9|4=>4|171=>147|0=>0|53=>148|37=>85|5=>5|173=>151|212=>158|51=>159|20=>20|213=>160|46=>162|232=>165|233=>166|n=>n,λ|17=>0|18=>2|19=>3|n=>n⟩
theorem Tryz.LM:Go.Proofs.Lays.n173 Tryz.prog Tryz.Wt:={
 mixed:=by kernel_rfl
 f129:=Tryz.func121.trans (congrArg some (by kernel_rfl))
 f173:=Tryz.func102.trans (congrArg some (by kernel_rfl))
 f246:=Tryz.func111.trans (congrArg some (by kernel_rfl))
 f283:=Tryz.func114.trans (congrArg some (by kernel_rfl))
 f284:=Tryz.func115.trans (congrArg some (by kernel_rfl))
 f285:=Tryz.func116.trans (congrArg some (by kernel_rfl))
 f286:=Tryz.func117.trans (congrArg some (by kernel_rfl))
 f317:=Tryz.func120.trans (congrArg some (by kernel_rfl))
 f318:=Tryz.func122.trans (congrArg some (by kernel_rfl))
 f319:=Tryz.func123.trans (congrArg some (by kernel_rfl))
 f320:=Tryz.func124.trans (congrArg some (by kernel_rfl))
 f337:=Tryz.func125.trans (congrArg some (by kernel_rfl))
 f338:=Tryz.func126.trans (congrArg some (by kernel_rfl))
 t0:=Tryz.underlying0
 a0:=Tryz.isAgg0
 z0:=Tryz.sizeOf0
 v0:=Tryz.zeroValue0
 t2:=Tryz.underlying2
 a2:=Tryz.isAgg2
 z2:=Tryz.sizeOf2
 v2:=Tryz.zeroValue2
 t3:=Tryz.underlying3
 a3:=Tryz.isAgg3
 z3:=Tryz.sizeOf3
 v3:=Tryz.zeroValue3
 t4:=Tryz.underlying4
 a4:=Tryz.isAgg4
 z4:=Tryz.sizeOf4
 v4:=Tryz.zeroValue4
 t5:=Tryz.underlying5
 a5:=Tryz.isAgg5
 z5:=Tryz.sizeOf5
 v5:=Tryz.zeroValue5
 t9:=Tryz.underlying9
 a9:=Tryz.isAgg9
 z9:=Tryz.sizeOf9
 v9:=Tryz.zeroValue9
 t20:=Tryz.underlying20
 a20:=Tryz.isAgg20
 z20:=Tryz.sizeOf20
 v20:=Tryz.zeroValue20
 t37:=Tryz.underlying85
 a37:=Tryz.isAgg85
 z37:=Tryz.sizeOf85
 v37:=Tryz.zeroValue85
 t46:=Tryz.underlying162
 a46:=Tryz.isAgg162
 z46:=Tryz.sizeOf162
 v46:=Tryz.zeroValue162
 t51:=Tryz.underlying159
 a51:=Tryz.isAgg159
 z51:=Tryz.sizeOf159
 v51:=Tryz.zeroValue159
 t53:=Tryz.underlying148
 a53:=Tryz.isAgg148
 z53:=Tryz.sizeOf148
 v53:=Tryz.zeroValue148
 t171:=Tryz.underlying147
 a171:=Tryz.isAgg147
 z171:=Tryz.sizeOf147
 v171:=Tryz.zeroValue147
 t173:=Tryz.underlying151
 a173:=Tryz.isAgg151
 z173:=Tryz.sizeOf151
 v173:=Tryz.zeroValue151
 t212:=Tryz.underlying158
 a212:=Tryz.isAgg158
 z212:=Tryz.sizeOf158
 v212:=Tryz.zeroValue158
 t213:=Tryz.underlying160
 a213:=Tryz.isAgg160
 z213:=Tryz.sizeOf160
 t232:=Tryz.underlying165
 a232:=Tryz.isAgg165
 z232:=Tryz.sizeOf165
 v232:=Tryz.zeroValue165
 t233:=Tryz.underlying166
 a233:=Tryz.isAgg166
 z233:=Tryz.sizeOf166
 v233:=Tryz.zeroValue166
 g17:=by kernel_rfl
 g18:=by kernel_rfl
 g19:=by kernel_rfl}
def Tryz.LN:Go.Shelf.Ren:=⟨λ|156=>81|165=>103|166=>104|169=>105|240=>112|241=>113|276=>118|277=>119|n=>n,λ|31=>106|9=>9|3=>3|4=>4|0=>0|20=>20|72=>135|76=>139|70=>133|37=>85|75=>138|127=>146|164=>153|5=>5|80=>141|n=>n,λ|n=>n⟩
theorem Tryz.E1:Go.Proofs.Lays.n156 Tryz.prog Tryz.LN:={
 mixed:=by kernel_rfl
 f156:=Tryz.func81.trans (congrArg some (by kernel_rfl))
 f165:=Tryz.func103.trans (congrArg some (by kernel_rfl))
 f166:=Tryz.func104.trans (congrArg some (by kernel_rfl))
 f169:=Tryz.func105.trans (congrArg some (by kernel_rfl))
 f240:=Tryz.func112.trans (congrArg some (by kernel_rfl))
 f241:=Tryz.func113.trans (congrArg some (by kernel_rfl))
 f276:=Tryz.func118.trans (congrArg some (by kernel_rfl))
 f277:=Tryz.func119.trans (congrArg some (by kernel_rfl))
 t0:=Tryz.underlying0
 a0:=Tryz.isAgg0
 z0:=Tryz.sizeOf0
 v0:=Tryz.zeroValue0
 t3:=Tryz.underlying3
 a3:=Tryz.isAgg3
 z3:=Tryz.sizeOf3
 v3:=Tryz.zeroValue3
 t4:=Tryz.underlying4
 a4:=Tryz.isAgg4
 z4:=Tryz.sizeOf4
 v4:=Tryz.zeroValue4
 t9:=Tryz.underlying9
 a9:=Tryz.isAgg9
 z9:=Tryz.sizeOf9
 v9:=Tryz.zeroValue9
 t20:=Tryz.underlying20
 a20:=Tryz.isAgg20
 z20:=Tryz.sizeOf20
 v20:=Tryz.zeroValue20
 t31:=Tryz.underlying106
 a31:=Tryz.isAgg106
 z31:=Tryz.sizeOf106
 v31:=Tryz.zeroValue106
 t37:=Tryz.underlying85
 a37:=Tryz.isAgg85
 z37:=Tryz.sizeOf85
 v37:=Tryz.zeroValue85
 t70:=Tryz.underlying133
 a70:=Tryz.isAgg133
 z70:=Tryz.sizeOf133
 v70:=Tryz.zeroValue133
 t72:=Tryz.underlying135
 a72:=Tryz.isAgg135
 z72:=Tryz.sizeOf135
 v72:=Tryz.zeroValue135
 t75:=Tryz.underlying138
 a75:=Tryz.isAgg138
 z75:=Tryz.sizeOf138
 v75:=Tryz.zeroValue138
 t76:=Tryz.underlying139
 a76:=Tryz.isAgg139
 z76:=Tryz.sizeOf139
 v76:=Tryz.zeroValue139
 t127:=Tryz.underlying146
 a127:=Tryz.isAgg146
 z127:=Tryz.sizeOf146
 v127:=Tryz.zeroValue146
 t164:=Tryz.underlying153
 a164:=Tryz.isAgg153
 z164:=Tryz.sizeOf153
 v164:=Tryz.zeroValue153}
theorem Tryz.LO:Builder.Extra Tryz.prog Tryz.LN:={
 sizeBuilder:=by kernel_rfl
 liesBuilder:=by kernel_rfl
 t5:=Tryz.underlying5
 a5:=Tryz.isAgg5
 z5:=Tryz.sizeOf5
 v5:=Tryz.zeroValue5
 infoByte:=by kernel_rfl
 cellsByte:=by kernel_rfl
 sizeByte:=by kernel_rfl
 neB5:=by decide}
theorem Wu:One kT (λx=>.string ⟨⟨x⟩⟩):=⟨λ_=>rfl,λw F x cs S=>by unfold kT;rw[al]⟩
theorem Wv (n:Nat) (h:n<100):Lib.decDigits n=k3 n:=by
 unfold Lib.decDigits k3;by_cases R:n<10
 .rw[dif_pos R,if_pos R]
 .rw[dif_neg R,if_neg R];unfold Lib.decDigits;rw[dif_pos (by omega)];rfl
theorem Ww (a0 aa:Int) (r:aca) (h:xK a0 aa=some r):bb ay 102 [.int .i64 a0,.int .i64 aa] (.str r) []:=by
 unfold xK at h;split at h
 .rename_i hl;obtain⟨bg,R,rfl⟩:=hl;cases h;refine bb.strs rfl (enters_of Tryz.LM.f173 (by kernel_rfl) rfl) λw F X S vs nF aD=>?_;obtain⟨v0,v1,rfl⟩:∃v0 v1,vs=[v0,v1]:=by
   match vs,nF with
   |[x,y],_=>exact⟨x,y,rfl⟩
  have g0:v0= .int .i64 a0:=mJ (aD.cz 0);have g1:v1= .int .i64 10:=mJ (aD.cz 1);subst g0 g1;have:=Any.strconv_FormatInt_10_small Tryz.LM a0.toNat (by omega) w;rw[Wv _ (by omega),show((a0.toNat:Nat):Int)=a0 from Int.toNat_of_nonneg bg]at this;exact this.mono λe au ⟨he,hw⟩=>⟨he,hw▸RowKit.Below.refl _ _⟩
 .cases h
theorem Wx (a0:nq) (aa r:aca) (h:strings_Join a0 aa=some r):bb ay 81 [.slice (a0.map kT),.str aa] (.str r) []:=by
 unfold strings_Join at h;split at h
 .rename_i hl;cases h;refine bb.strs rfl (enters_of Tryz.E1.f156 (by kernel_rfl) rfl) λw F X S vs nF aD=>?_;obtain⟨v0,v1,rfl⟩:∃v0 v1,vs=[v0,v1]:=by
   match vs,nF with
   |[x,y],_=>exact⟨x,y,rfl⟩
  have R:v1= .string ⟨⟨aa⟩⟩:=mK (aD.cz 1);subst R;rcases SB aD (u:=0) Wu rfl with⟨rfl,a,c,aE⟩|⟨b,o,cap,aE,I,aj,ae⟩
  .have aE:v0= .slice a 0 c:=aE;subst aE;exact(Any.strings_Join_none Tryz.E1 Tryz.LO a c ⟨⟨aa⟩⟩ w).mono λe au ⟨he,hw⟩=>⟨he,hw▸RowKit.Below.refl _ _⟩
  .have aE:v0= .slice (some ⟨b,o,none⟩) a0.length cap:=aE;subst aE;have aH:(a0.map λx=>(⟨⟨x⟩⟩:ByteArray)).map (·.data.toList)=a0:=by rw[List.map_map];exact List.map_id _
   have:=Any.strings_Join Tryz.E1 Tryz.LO b o cap (a0.map λx=>⟨⟨x⟩⟩) ⟨⟨aa⟩⟩ w (λaB x cp=>by
    rw[getElem?_map]at cp;obtain⟨y,a6,rfl⟩:=map_eq_some_iff.1 cp;exact ae aB y a6) I (by rw[length_map];exact hl.1) (by rw[length_map];exact aj) (by rw[aH];exact hl.2)
   rw[aH,length_map]at this;exact this
 .cases h
end Go.Proofs.YtndfcecbamffaaaGreatDoor
