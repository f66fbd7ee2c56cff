/- Part of a proof that a law returns true for every input. No condition. -/
import Derived.Shelf.SlGeneric
import Derived.Ground.SlgnProg
import Derived.Shelf.SlLaysN
import Derived.Shelf.SlLaysNS
import Derived.Shelf.SortG.Plain
import Derived.Shelf.SortG.SortNone
import Derived.Shelf.SlicesG.CompactI
import Derived.Test.YtndfcecbamffaaaGreatFwM
import Derived.Test.YtndfcecbamffaaaGreatC5
namespace Go.Proofs.YtndfcecbamffaaaGreat
open List Option Go.IntKind Nat Or
open Go Go.cW Go.mn Go.Shelf
set_option maxRecDepth 100000
def Tryz.VT:Go.Shelf.Ren:=⟨λ|53=>103|64=>147|63=>146|78=>183|79=>184|70=>174|71=>175|72=>176|73=>177|74=>178|75=>179|59=>180|76=>181|77=>182|88=>188|89=>189|90=>190|91=>191|92=>192|68=>193|96=>194|n=>n,λ|22=>22|23=>2|3=>3|51=>165|0=>0|67=>194|69=>196|4=>4|61=>186|60=>185|44=>191|5=>5|9=>9|75=>198|79=>202|83=>204|84=>205|n=>n,λ|n=>n⟩
theorem Tryz.E3:Go.Proofs.SlLaysN.n53 Tryz.prog Tryz.VT:={
 mixed:=by kernel_rfl
 f53:=⟨Tryz.f103.name,by decide,Tryz.func103.trans (congrArg some (by kernel_rfl))⟩
 f59:=⟨Tryz.f180.name,by decide,Tryz.func180.trans (congrArg some (by kernel_rfl))⟩
 f63:=⟨Tryz.f146.name,by decide,Tryz.func146.trans (congrArg some (by kernel_rfl))⟩
 f64:=Tryz.func147.trans (congrArg some (by kernel_rfl))
 f68:=⟨Tryz.f193.name,by decide,Tryz.func193.trans (congrArg some (by kernel_rfl))⟩
 f70:=⟨Tryz.f174.name,by decide,Tryz.func174.trans (congrArg some (by kernel_rfl))⟩
 f71:=⟨Tryz.f175.name,by decide,Tryz.func175.trans (congrArg some (by kernel_rfl))⟩
 f72:=⟨Tryz.f176.name,by decide,Tryz.func176.trans (congrArg some (by kernel_rfl))⟩
 f73:=⟨Tryz.f177.name,by decide,Tryz.func177.trans (congrArg some (by kernel_rfl))⟩
 f74:=⟨Tryz.f178.name,by decide,Tryz.func178.trans (congrArg some (by kernel_rfl))⟩
 f75:=⟨Tryz.f179.name,by decide,Tryz.func179.trans (congrArg some (by kernel_rfl))⟩
 f76:=⟨Tryz.f181.name,by decide,Tryz.func181.trans (congrArg some (by kernel_rfl))⟩
 f77:=⟨Tryz.f182.name,by decide,Tryz.func182.trans (congrArg some (by kernel_rfl))⟩
 f78:=Tryz.func183.trans (congrArg some (by kernel_rfl))
 f79:=Tryz.func184.trans (congrArg some (by kernel_rfl))
 f88:=⟨Tryz.f188.name,by decide,Tryz.func188.trans (congrArg some (by kernel_rfl))⟩
 f89:=Tryz.func189.trans (congrArg some (by kernel_rfl))
 f90:=Tryz.func190.trans (congrArg some (by kernel_rfl))
 f91:=⟨Tryz.f191.name,by decide,Tryz.func191.trans (congrArg some (by kernel_rfl))⟩
 f92:=⟨Tryz.f192.name,by decide,Tryz.func192.trans (congrArg some (by kernel_rfl))⟩
 f96:=⟨Tryz.f194.name,by decide,Tryz.func194.trans (congrArg some (by kernel_rfl))⟩
 t0:=Tryz.underlying0
 a0:=Tryz.isAgg0
 z0:=Tryz.sizeOf0
 v0:=Tryz.zeroValue0
 t3:=Tryz.underlying3
 a3:=Tryz.isAgg3
 z3:=Tryz.sizeOf3
 v3:=Tryz.zeroValue3
 t4:=Tryz.underlying4
 a4:=Tryz.isAgg4
 z4:=Tryz.sizeOf4
 v4:=Tryz.zeroValue4
 t5:=Tryz.underlying5
 a5:=Tryz.isAgg5
 z5:=Tryz.sizeOf5
 v5:=Tryz.zeroValue5
 t9:=Tryz.underlying9
 a9:=Tryz.isAgg9
 z9:=Tryz.sizeOf9
 v9:=Tryz.zeroValue9
 t22:=Tryz.underlying22
 a22:=Tryz.isAgg22
 z22:=Tryz.sizeOf22
 v22:=Tryz.zeroValue22
 t23:=Tryz.underlying2
 a23:=Tryz.isAgg2
 z23:=Tryz.sizeOf2
 v23:=Tryz.zeroValue2
 t44:=Tryz.underlying191
 a44:=Tryz.isAgg191
 z44:=Tryz.sizeOf191
 v44:=Tryz.zeroValue191
 t51:=Tryz.underlying165
 a51:=Tryz.isAgg165
 z51:=Tryz.sizeOf165
 v51:=Tryz.zeroValue165
 t60:=Tryz.underlying185
 a60:=Tryz.isAgg185
 z60:=Tryz.sizeOf185
 v60:=Tryz.zeroValue185
 t61:=Tryz.underlying186
 a61:=Tryz.isAgg186
 z61:=Tryz.sizeOf186
 v61:=Tryz.zeroValue186
 t67:=Tryz.underlying194
 a67:=Tryz.isAgg194
 z67:=Tryz.sizeOf194
 v67:=Tryz.zeroValue194
 t69:=Tryz.underlying196
 a69:=Tryz.isAgg196
 z69:=Tryz.sizeOf196
 v69:=Tryz.zeroValue196
 t75:=Tryz.underlying198
 a75:=Tryz.isAgg198
 z75:=Tryz.sizeOf198
 v75:=Tryz.zeroValue198
 t79:=Tryz.underlying202
 a79:=Tryz.isAgg202
 z79:=Tryz.sizeOf202
 v79:=Tryz.zeroValue202
 t83:=Tryz.underlying204
 a83:=Tryz.isAgg204
 z83:=Tryz.sizeOf204
 v83:=Tryz.zeroValue204
 t84:=Tryz.underlying205
 a84:=Tryz.isAgg205
 z84:=Tryz.sizeOf205
 v84:=Tryz.zeroValue205}
def Tryz.VU:Go.Shelf.Ren:=⟨λ|43=>144|n=>n,λ|22=>22|23=>2|3=>3|4=>4|0=>0|n=>n,λ|n=>n⟩
theorem Tryz.E4:Go.Proofs.SlLaysN.n43 Tryz.prog Tryz.VU:={
 mixed:=by kernel_rfl
 f43:=⟨Tryz.f144.name,by decide,Tryz.func144.trans (congrArg some (by kernel_rfl))⟩
 t0:=Tryz.underlying0
 a0:=Tryz.isAgg0
 z0:=Tryz.sizeOf0
 v0:=Tryz.zeroValue0
 t3:=Tryz.underlying3
 a3:=Tryz.isAgg3
 z3:=Tryz.sizeOf3
 v3:=Tryz.zeroValue3
 t4:=Tryz.underlying4
 a4:=Tryz.isAgg4
 z4:=Tryz.sizeOf4
 v4:=Tryz.zeroValue4
 t22:=Tryz.underlying22
 a22:=Tryz.isAgg22
 z22:=Tryz.sizeOf22
 v22:=Tryz.zeroValue22
 t23:=Tryz.underlying2
 a23:=Tryz.isAgg2
 z23:=Tryz.sizeOf2
 v23:=Tryz.zeroValue2
 i23:=by kernel_rfl}
theorem Lq:One aC (Value.int .i64):=⟨λ_=>rfl,λw F x cs S=>by unfold aC;rw[ai]⟩
theorem VV (a r:abH) (h:rb a=some r):bx az 103 [.ad 1 (a.map aC)] (.tuple []) [.ad 1 (r.map aC)]:=by
 unfold rb at h;split at h
 .rename_i hl;cases h;exact bx.SV (C:=az) (f:=103) Lq (λargs w=>Tryz.E3.f53.enters rfl args w) a _ (length_mergeSort a) (λx w=>AnyG.slices_Sort_int_none Tryz.E3 x 0 w) (λw b cap hB J=>AnyG.slices_Sort_int Tryz.E3 b 0 cap a w hB J hl)
 .cases h
theorem VW (a r:abH) (h:Al a=some r):bx az 144 [.ad 1 (a.map aC)] (.ad 1 (r.map aC)) [.hole]:=by
 cases h;rw[<-K1 a];have hle:(Lib.compact a).length<=a.length:=by rw[K1];exact K0 none a
 refine bx.SW (C:=az) (f:=144) Lq (λargs w=>Tryz.E4.f43.enters rfl args w) a (Lib.compact a) (replicate (a.length-(Lib.compact a).length) (0:Int)) (by simp only[length_append,length_replicate];omega) (λx w=>AnyG.slices_Compact_int_empty Tryz.E4 x 0 w) (λw b cap hB J aj hm=>?_);refine(AnyG.slices_Compact_int Tryz.E4 b 0 cap a w hB (Nat.le_trans aj (by simpa [maxLen]using hm)) aj).mono ?_;rintro e ax ⟨rfl,q,cp⟩;exact⟨rfl,q,#[],by rw[Sort.grow_empty];exact cp⟩
end Go.Proofs.YtndfcecbamffaaaGreat
