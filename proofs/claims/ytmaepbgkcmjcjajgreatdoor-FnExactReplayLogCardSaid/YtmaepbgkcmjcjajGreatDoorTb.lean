/- Part of a proof that a law returns true for every input. No condition. -/
import Derived.Test.YtmaepbgkcmjcjajGreatDoorProg
import Derived.KernelRfl
import Derived.Test.YtmaepbgkcmjcjajGreatDoorFwF
namespace Go.Proofs.YtmaepbgkcmjcjajGreatDoor
open Go.ep
def T:TypeId->hW
 |1=>⟨.fn,1,8,.hole⟩
 |2=>⟨.int .i64,1,8,(.int .i64 0)⟩
 |3=>⟨.int .i64,1,8,(.int .i64 0)⟩
 |4=>⟨.bool,1,1,(.bool false)⟩
 |5=>⟨.int .u8,1,1,(.int .u8 0)⟩
 |9=>⟨.str,1,16,(.str [])⟩
 |22=>⟨.slice 85,1,24,.bf⟩
 |23=>⟨.slice 88,1,24,.bf⟩
 |24=>⟨.slice 91,1,24,.bf⟩
 |25=>⟨.slice 9,1,24,.bf⟩
 |27=>⟨.struct [(22,0),(23,1),(24,2),(25,3),(25,4)],5,120,(.agg [.bf,.bf,.bf,.bf,.bf])⟩
 |28=>⟨.slice 55,1,24,.bf⟩
 |31=>⟨.slice 71,1,24,.bf⟩
 |34=>⟨.slice 103,1,24,.bf⟩
 |35=>⟨.slice 105,1,24,.bf⟩
 |36=>⟨.slice 107,1,24,.bf⟩
 |38=>⟨.struct [(34,0),(35,1),(36,2),(25,3),(25,4)],5,120,(.agg [.bf,.bf,.bf,.bf,.bf])⟩
 |40=>⟨.slice 64,1,24,.bf⟩
 |55=>⟨.struct [(2,0),(2,1),(2,2),(9,3)],4,40,(.agg [(.int .i64 0),(.int .i64 0),(.int .i64 0),(.str [])])⟩
 |57=>⟨.ptr 38,1,8,.eA⟩
 |64=>⟨.struct [(2,0),(2,1),(2,2),(9,3)],4,40,(.agg [(.int .i64 0),(.int .i64 0),(.int .i64 0),(.str [])])⟩
 |69=>⟨.slice 2,1,24,.bf⟩
 |71=>⟨.struct [(2,0),(2,1),(69,2)],3,40,(.agg [(.int .i64 0),(.int .i64 0),.bf])⟩
 |83=>⟨.slice 164,1,24,.bf⟩
 |85=>⟨.struct [(9,0),(2,1),(83,2)],3,48,(.agg [(.str []),(.int .i64 0),.bf])⟩
 |88=>⟨.struct [(2,0),(69,1)],2,32,(.agg [(.int .i64 0),.bf])⟩
 |89=>⟨.fn,1,8,.hole⟩
 |91=>⟨.struct [(9,0),(9,1),(9,2)],3,48,(.agg [(.str []),(.str []),(.str [])])⟩
 |94=>⟨.ptr 64,1,8,.eA⟩
 |96=>⟨.slice 100,1,24,.bf⟩
 |100=>⟨.struct [(9,0),(2,1),(2,2),(31,3)],4,56,(.agg [(.str []),(.int .i64 0),(.int .i64 0),.bf])⟩
 |101=>⟨.slice 159,1,24,.bf⟩
 |103=>⟨.struct [(9,0),(2,1),(101,2)],3,48,(.agg [(.str []),(.int .i64 0),.bf])⟩
 |105=>⟨.struct [(2,0),(69,1)],2,32,(.agg [(.int .i64 0),.bf])⟩
 |107=>⟨.struct [(9,0),(9,1),(9,2)],3,48,(.agg [(.str []),(.str []),(.str [])])⟩
 |112=>⟨.fn,1,8,.hole⟩
 |121=>⟨.slice 5,1,24,.bf⟩
 |125=>⟨.fn,1,8,.hole⟩
 |129=>⟨.slice 130,1,24,.bf⟩
 |130=>⟨.slice 135,1,24,.bf⟩
 |133=>⟨.ptr 71,1,8,.eA⟩
 |135=>⟨.struct [(9,0),(71,1)],4,56,(.agg [(.str []),(.agg [(.int .i64 0),(.int .i64 0),.bf])])⟩
 |145=>⟨.fn,1,8,.hole⟩
 |147=>⟨.ptr 150,1,8,.eA⟩
 |148=>⟨.map 9 4,1,8,(.cj .kv)⟩
 |150=>⟨.struct [(38,0),(31,5),(96,6),(148,7)],8,176,(.agg [(.agg [.bf,.bf,.bf,.bf,.bf]),.bf,.bf,(.cj .kv)])⟩
 |157=>⟨.slice 200,1,24,.bf⟩
 |159=>⟨.struct [(2,0),(2,1),(9,2),(157,3)],4,56,(.agg [(.int .i64 0),(.int .i64 0),(.str []),.bf])⟩
 |162=>⟨.slice 239,1,24,.bf⟩
 |164=>⟨.struct [(2,0),(2,1),(9,2),(162,3)],4,56,(.agg [(.int .i64 0),(.int .i64 0),(.str []),.bf])⟩
 |167=>⟨.ptr 103,1,8,.eA⟩
 |180=>⟨.fn,1,8,.hole⟩
 |181=>⟨.fn,1,8,.hole⟩
 |182=>⟨.ptr 184,1,8,.eA⟩
 |184=>⟨.struct [(34,0),(130,1),(148,2)],3,56,(.agg [.bf,.bf,(.cj .kv)])⟩
 |195=>⟨.fn,1,8,.hole⟩
 |200=>⟨.slice 237,1,24,.bf⟩
 |216=>⟨.fn,1,8,.hole⟩
 |219=>⟨.slice 223,1,24,.bf⟩
 |223=>⟨.struct [(2,0),(4,1)],2,16,(.agg [(.int .i64 0),(.bool false)])⟩
 |225=>⟨.fn,1,8,.hole⟩
 |237=>⟨.struct [(2,0),(2,1)],2,16,(.agg [(.int .i64 0),(.int .i64 0)])⟩
 |239=>⟨.slice 277,1,24,.bf⟩
 |241=>⟨.ptr 159,1,8,.eA⟩
 |248=>⟨.fn,1,8,.hole⟩
 |250=>⟨.fn,1,8,.hole⟩
 |253=>⟨.ptr 283,1,8,.eA⟩
 |271=>⟨.ptr 237,1,8,.eA⟩
 |277=>⟨.struct [(2,0),(2,1)],2,16,(.agg [(.int .i64 0),(.int .i64 0)])⟩
 |281=>⟨.slice 253,1,24,.bf⟩
 |283=>⟨.struct [(237,0),(281,2)],3,40,(.agg [(.agg [(.int .i64 0),(.int .i64 0)]),.bf])⟩
 |_=>⟨.other,0,0,.hole⟩
theorem ah_:∀t,Ui Tryz.prog t (T t):=by
 intro t;unfold T;split
 .exact .inr ⟨Tryz.t1,_,_,by kernel_rfl,rfl,rfl,rfl,(λcs h=>by cases h),Tryz.underlying1,trivial⟩
 .exact .inr ⟨Tryz.t2,_,_,by kernel_rfl,rfl,rfl,rfl,(λcs h=>by cases h;rfl),Tryz.underlying2,rfl⟩
 .exact .inr ⟨Tryz.t3,_,_,by kernel_rfl,rfl,rfl,rfl,(λcs h=>by cases h;rfl),Tryz.underlying3,rfl⟩
 .exact .inr ⟨Tryz.t4,_,_,by kernel_rfl,rfl,rfl,rfl,(λcs h=>by cases h;rfl),Tryz.underlying4,trivial⟩
 .exact .inr ⟨Tryz.t5,_,_,by kernel_rfl,rfl,rfl,rfl,(λcs h=>by cases h;rfl),Tryz.underlying5,rfl⟩
 .exact .inr ⟨Tryz.t9,_,_,by kernel_rfl,rfl,rfl,rfl,(λcs h=>by cases h;rfl),Tryz.underlying9,trivial⟩
 .exact .inr ⟨Tryz.t22,_,_,by kernel_rfl,rfl,rfl,rfl,(λcs h=>by cases h;rfl),Tryz.underlying22,rfl⟩
 .exact .inr ⟨Tryz.t23,_,_,by kernel_rfl,rfl,rfl,rfl,(λcs h=>by cases h;rfl),Tryz.underlying23,rfl⟩
 .exact .inr ⟨Tryz.t24,_,_,by kernel_rfl,rfl,rfl,rfl,(λcs h=>by cases h;rfl),Tryz.underlying24,rfl⟩
 .exact .inr ⟨Tryz.t25,_,_,by kernel_rfl,rfl,rfl,rfl,(λcs h=>by cases h;rfl),Tryz.underlying25,rfl⟩
 .exact .inr ⟨Tryz.t27,_,_,by kernel_rfl,rfl,rfl,rfl,(λcs h=>by cases h;rfl),Tryz.underlying27,rfl⟩
 .exact .inr ⟨Tryz.t28,_,_,by kernel_rfl,rfl,rfl,rfl,(λcs h=>by cases h;rfl),Tryz.underlying28,rfl⟩
 .exact .inr ⟨Tryz.t31,_,_,by kernel_rfl,rfl,rfl,rfl,(λcs h=>by cases h;rfl),Tryz.underlying31,rfl⟩
 .exact .inr ⟨Tryz.t34,_,_,by kernel_rfl,rfl,rfl,rfl,(λcs h=>by cases h;rfl),Tryz.underlying34,rfl⟩
 .exact .inr ⟨Tryz.t35,_,_,by kernel_rfl,rfl,rfl,rfl,(λcs h=>by cases h;rfl),Tryz.underlying35,rfl⟩
 .exact .inr ⟨Tryz.t36,_,_,by kernel_rfl,rfl,rfl,rfl,(λcs h=>by cases h;rfl),Tryz.underlying36,rfl⟩
 .exact .inr ⟨Tryz.t38,_,_,by kernel_rfl,rfl,rfl,rfl,(λcs h=>by cases h;rfl),Tryz.underlying38,rfl⟩
 .exact .inr ⟨Tryz.t40,_,_,by kernel_rfl,rfl,rfl,rfl,(λcs h=>by cases h;rfl),Tryz.underlying40,rfl⟩
 .exact .inr ⟨Tryz.t55,_,_,by kernel_rfl,rfl,rfl,rfl,(λcs h=>by cases h;rfl),Tryz.underlying55,rfl⟩
 .exact .inr ⟨Tryz.t57,_,_,by kernel_rfl,rfl,rfl,rfl,(λcs h=>by cases h;rfl),Tryz.underlying57,rfl⟩
 .exact .inr ⟨Tryz.t64,_,_,by kernel_rfl,rfl,rfl,rfl,(λcs h=>by cases h;rfl),Tryz.underlying64,rfl⟩
 .exact .inr ⟨Tryz.t69,_,_,by kernel_rfl,rfl,rfl,rfl,(λcs h=>by cases h;rfl),Tryz.underlying69,rfl⟩
 .exact .inr ⟨Tryz.t71,_,_,by kernel_rfl,rfl,rfl,rfl,(λcs h=>by cases h;rfl),Tryz.underlying71,rfl⟩
 .exact .inr ⟨Tryz.t83,_,_,by kernel_rfl,rfl,rfl,rfl,(λcs h=>by cases h;rfl),Tryz.underlying83,rfl⟩
 .exact .inr ⟨Tryz.t85,_,_,by kernel_rfl,rfl,rfl,rfl,(λcs h=>by cases h;rfl),Tryz.underlying85,rfl⟩
 .exact .inr ⟨Tryz.t88,_,_,by kernel_rfl,rfl,rfl,rfl,(λcs h=>by cases h;rfl),Tryz.underlying88,rfl⟩
 .exact .inr ⟨Tryz.t89,_,_,by kernel_rfl,rfl,rfl,rfl,(λcs h=>by cases h),Tryz.underlying89,trivial⟩
 .exact .inr ⟨Tryz.t91,_,_,by kernel_rfl,rfl,rfl,rfl,(λcs h=>by cases h;rfl),Tryz.underlying91,rfl⟩
 .exact .inr ⟨Tryz.t94,_,_,by kernel_rfl,rfl,rfl,rfl,(λcs h=>by cases h;rfl),Tryz.underlying94,rfl⟩
 .exact .inr ⟨Tryz.t96,_,_,by kernel_rfl,rfl,rfl,rfl,(λcs h=>by cases h;rfl),Tryz.underlying96,rfl⟩
 .exact .inr ⟨Tryz.t100,_,_,by kernel_rfl,rfl,rfl,rfl,(λcs h=>by cases h;rfl),Tryz.underlying100,rfl⟩
 .exact .inr ⟨Tryz.t101,_,_,by kernel_rfl,rfl,rfl,rfl,(λcs h=>by cases h;rfl),Tryz.underlying101,rfl⟩
 .exact .inr ⟨Tryz.t103,_,_,by kernel_rfl,rfl,rfl,rfl,(λcs h=>by cases h;rfl),Tryz.underlying103,rfl⟩
 .exact .inr ⟨Tryz.t105,_,_,by kernel_rfl,rfl,rfl,rfl,(λcs h=>by cases h;rfl),Tryz.underlying105,rfl⟩
 .exact .inr ⟨Tryz.t107,_,_,by kernel_rfl,rfl,rfl,rfl,(λcs h=>by cases h;rfl),Tryz.underlying107,rfl⟩
 .exact .inr ⟨Tryz.t112,_,_,by kernel_rfl,rfl,rfl,rfl,(λcs h=>by cases h),Tryz.underlying112,trivial⟩
 .exact .inr ⟨Tryz.t121,_,_,by kernel_rfl,rfl,rfl,rfl,(λcs h=>by cases h;rfl),Tryz.underlying121,rfl⟩
 .exact .inr ⟨Tryz.t125,_,_,by kernel_rfl,rfl,rfl,rfl,(λcs h=>by cases h),Tryz.underlying125,trivial⟩
 .exact .inr ⟨Tryz.t129,_,_,by kernel_rfl,rfl,rfl,rfl,(λcs h=>by cases h;rfl),Tryz.underlying129,rfl⟩
 .exact .inr ⟨Tryz.t130,_,_,by kernel_rfl,rfl,rfl,rfl,(λcs h=>by cases h;rfl),Tryz.underlying130,rfl⟩
 .exact .inr ⟨Tryz.t133,_,_,by kernel_rfl,rfl,rfl,rfl,(λcs h=>by cases h;rfl),Tryz.underlying133,rfl⟩
 .exact .inr ⟨Tryz.t135,_,_,by kernel_rfl,rfl,rfl,rfl,(λcs h=>by cases h;rfl),Tryz.underlying135,rfl⟩
 .exact .inr ⟨Tryz.t145,_,_,by kernel_rfl,rfl,rfl,rfl,(λcs h=>by cases h),Tryz.underlying145,trivial⟩
 .exact .inr ⟨Tryz.t147,_,_,by kernel_rfl,rfl,rfl,rfl,(λcs h=>by cases h;rfl),Tryz.underlying147,rfl⟩
 .exact .inr ⟨Tryz.t148,_,_,by kernel_rfl,rfl,rfl,rfl,(λcs h=>by cases h;rfl),Tryz.underlying148,⟨rfl,rfl⟩⟩
 .exact .inr ⟨Tryz.t150,_,_,by kernel_rfl,rfl,rfl,rfl,(λcs h=>by cases h;rfl),Tryz.underlying150,rfl⟩
 .exact .inr ⟨Tryz.t157,_,_,by kernel_rfl,rfl,rfl,rfl,(λcs h=>by cases h;rfl),Tryz.underlying157,rfl⟩
 .exact .inr ⟨Tryz.t159,_,_,by kernel_rfl,rfl,rfl,rfl,(λcs h=>by cases h;rfl),Tryz.underlying159,rfl⟩
 .exact .inr ⟨Tryz.t162,_,_,by kernel_rfl,rfl,rfl,rfl,(λcs h=>by cases h;rfl),Tryz.underlying162,rfl⟩
 .exact .inr ⟨Tryz.t164,_,_,by kernel_rfl,rfl,rfl,rfl,(λcs h=>by cases h;rfl),Tryz.underlying164,rfl⟩
 .exact .inr ⟨Tryz.t167,_,_,by kernel_rfl,rfl,rfl,rfl,(λcs h=>by cases h;rfl),Tryz.underlying167,rfl⟩
 .exact .inr ⟨Tryz.t180,_,_,by kernel_rfl,rfl,rfl,rfl,(λcs h=>by cases h),Tryz.underlying180,trivial⟩
 .exact .inr ⟨Tryz.t181,_,_,by kernel_rfl,rfl,rfl,rfl,(λcs h=>by cases h),Tryz.underlying181,trivial⟩
 .exact .inr ⟨Tryz.t182,_,_,by kernel_rfl,rfl,rfl,rfl,(λcs h=>by cases h;rfl),Tryz.underlying182,rfl⟩
 .exact .inr ⟨Tryz.t184,_,_,by kernel_rfl,rfl,rfl,rfl,(λcs h=>by cases h;rfl),Tryz.underlying184,rfl⟩
 .exact .inr ⟨Tryz.t195,_,_,by kernel_rfl,rfl,rfl,rfl,(λcs h=>by cases h),Tryz.underlying195,trivial⟩
 .exact .inr ⟨Tryz.t200,_,_,by kernel_rfl,rfl,rfl,rfl,(λcs h=>by cases h;rfl),Tryz.underlying200,rfl⟩
 .exact .inr ⟨Tryz.t216,_,_,by kernel_rfl,rfl,rfl,rfl,(λcs h=>by cases h),Tryz.underlying216,trivial⟩
 .exact .inr ⟨Tryz.t219,_,_,by kernel_rfl,rfl,rfl,rfl,(λcs h=>by cases h;rfl),Tryz.underlying219,rfl⟩
 .exact .inr ⟨Tryz.t223,_,_,by kernel_rfl,rfl,rfl,rfl,(λcs h=>by cases h;rfl),Tryz.underlying223,rfl⟩
 .exact .inr ⟨Tryz.t225,_,_,by kernel_rfl,rfl,rfl,rfl,(λcs h=>by cases h),Tryz.underlying225,trivial⟩
 .exact .inr ⟨Tryz.t237,_,_,by kernel_rfl,rfl,rfl,rfl,(λcs h=>by cases h;rfl),Tryz.underlying237,rfl⟩
 .exact .inr ⟨Tryz.t239,_,_,by kernel_rfl,rfl,rfl,rfl,(λcs h=>by cases h;rfl),Tryz.underlying239,rfl⟩
 .exact .inr ⟨Tryz.t241,_,_,by kernel_rfl,rfl,rfl,rfl,(λcs h=>by cases h;rfl),Tryz.underlying241,rfl⟩
 .exact .inr ⟨Tryz.t248,_,_,by kernel_rfl,rfl,rfl,rfl,(λcs h=>by cases h),Tryz.underlying248,trivial⟩
 .exact .inr ⟨Tryz.t250,_,_,by kernel_rfl,rfl,rfl,rfl,(λcs h=>by cases h),Tryz.underlying250,trivial⟩
 .exact .inr ⟨Tryz.t253,_,_,by kernel_rfl,rfl,rfl,rfl,(λcs h=>by cases h;rfl),Tryz.underlying253,rfl⟩
 .exact .inr ⟨Tryz.t271,_,_,by kernel_rfl,rfl,rfl,rfl,(λcs h=>by cases h;rfl),Tryz.underlying271,rfl⟩
 .exact .inr ⟨Tryz.t277,_,_,by kernel_rfl,rfl,rfl,rfl,(λcs h=>by cases h;rfl),Tryz.underlying277,rfl⟩
 .exact .inr ⟨Tryz.t281,_,_,by kernel_rfl,rfl,rfl,rfl,(λcs h=>by cases h;rfl),Tryz.underlying281,rfl⟩
 .exact .inr ⟨Tryz.t283,_,_,by kernel_rfl,rfl,rfl,rfl,(λcs h=>by cases h;rfl),Tryz.underlying283,rfl⟩
 .exact .inl ⟨_,_,_,_,rfl,rfl⟩
noncomputable def ah:cx:=⟨Tryz.prog,T,λ_=>[]⟩
theorem O3:ah.fN:=⟨ah_,by kernel_rfl⟩
theorem axO:ah.T 1=⟨.fn,1,8,.hole⟩:=rfl
theorem aia:ah.T 2=⟨.int .i64,1,8,(.int .i64 0)⟩:=rfl
theorem axP:ah.T 3=⟨.int .i64,1,8,(.int .i64 0)⟩:=rfl
theorem aib:ah.T 4=⟨.bool,1,1,(.bool false)⟩:=rfl
theorem aic:ah.T 5=⟨.int .u8,1,1,(.int .u8 0)⟩:=rfl
theorem aid:ah.T 9=⟨.str,1,16,(.str [])⟩:=rfl
theorem aie:ah.T 22=⟨.slice 85,1,24,.bf⟩:=rfl
theorem aif:ah.T 23=⟨.slice 88,1,24,.bf⟩:=rfl
theorem aih:ah.T 24=⟨.slice 91,1,24,.bf⟩:=rfl
theorem aii:ah.T 25=⟨.slice 9,1,24,.bf⟩:=rfl
theorem aij:ah.T 27=⟨.struct [(22,0),(23,1),(24,2),(25,3),(25,4)],5,120,(.agg [.bf,.bf,.bf,.bf,.bf])⟩:=rfl
theorem aik:ah.T 28=⟨.slice 55,1,24,.bf⟩:=rfl
theorem ail:ah.T 31=⟨.slice 71,1,24,.bf⟩:=rfl
theorem aim:ah.T 34=⟨.slice 103,1,24,.bf⟩:=rfl
theorem ain:ah.T 35=⟨.slice 105,1,24,.bf⟩:=rfl
theorem aio:ah.T 36=⟨.slice 107,1,24,.bf⟩:=rfl
theorem aip:ah.T 38=⟨.struct [(34,0),(35,1),(36,2),(25,3),(25,4)],5,120,(.agg [.bf,.bf,.bf,.bf,.bf])⟩:=rfl
theorem aiq:ah.T 40=⟨.slice 64,1,24,.bf⟩:=rfl
theorem air:ah.T 55=⟨.struct [(2,0),(2,1),(2,2),(9,3)],4,40,(.agg [(.int .i64 0),(.int .i64 0),(.int .i64 0),(.str [])])⟩:=rfl
theorem axQ:ah.T 57=⟨.ptr 38,1,8,.eA⟩:=rfl
theorem ais:ah.T 64=⟨.struct [(2,0),(2,1),(2,2),(9,3)],4,40,(.agg [(.int .i64 0),(.int .i64 0),(.int .i64 0),(.str [])])⟩:=rfl
theorem ait:ah.T 69=⟨.slice 2,1,24,.bf⟩:=rfl
theorem aiu:ah.T 71=⟨.struct [(2,0),(2,1),(69,2)],3,40,(.agg [(.int .i64 0),(.int .i64 0),.bf])⟩:=rfl
theorem aiv:ah.T 83=⟨.slice 164,1,24,.bf⟩:=rfl
theorem aiw:ah.T 85=⟨.struct [(9,0),(2,1),(83,2)],3,48,(.agg [(.str []),(.int .i64 0),.bf])⟩:=rfl
theorem aix:ah.T 88=⟨.struct [(2,0),(69,1)],2,32,(.agg [(.int .i64 0),.bf])⟩:=rfl
theorem axR:ah.T 89=⟨.fn,1,8,.hole⟩:=rfl
theorem aiy:ah.T 91=⟨.struct [(9,0),(9,1),(9,2)],3,48,(.agg [(.str []),(.str []),(.str [])])⟩:=rfl
theorem axS:ah.T 94=⟨.ptr 64,1,8,.eA⟩:=rfl
theorem aiz:ah.T 96=⟨.slice 100,1,24,.bf⟩:=rfl
theorem aiA:ah.T 100=⟨.struct [(9,0),(2,1),(2,2),(31,3)],4,56,(.agg [(.str []),(.int .i64 0),(.int .i64 0),.bf])⟩:=rfl
theorem aiB:ah.T 101=⟨.slice 159,1,24,.bf⟩:=rfl
theorem aiC:ah.T 103=⟨.struct [(9,0),(2,1),(101,2)],3,48,(.agg [(.str []),(.int .i64 0),.bf])⟩:=rfl
theorem aiD:ah.T 105=⟨.struct [(2,0),(69,1)],2,32,(.agg [(.int .i64 0),.bf])⟩:=rfl
theorem aiE:ah.T 107=⟨.struct [(9,0),(9,1),(9,2)],3,48,(.agg [(.str []),(.str []),(.str [])])⟩:=rfl
theorem axT:ah.T 112=⟨.fn,1,8,.hole⟩:=rfl
theorem aiF:ah.T 121=⟨.slice 5,1,24,.bf⟩:=rfl
theorem axU:ah.T 125=⟨.fn,1,8,.hole⟩:=rfl
theorem aiG:ah.T 129=⟨.slice 130,1,24,.bf⟩:=rfl
theorem aiH:ah.T 130=⟨.slice 135,1,24,.bf⟩:=rfl
theorem axV:ah.T 133=⟨.ptr 71,1,8,.eA⟩:=rfl
theorem aiI:ah.T 135=⟨.struct [(9,0),(71,1)],4,56,(.agg [(.str []),(.agg [(.int .i64 0),(.int .i64 0),.bf])])⟩:=rfl
theorem axW:ah.T 145=⟨.fn,1,8,.hole⟩:=rfl
theorem axX:ah.T 147=⟨.ptr 150,1,8,.eA⟩:=rfl
theorem aiJ:ah.T 148=⟨.map 9 4,1,8,(.cj .kv)⟩:=rfl
theorem aiK:ah.T 150=⟨.struct [(38,0),(31,5),(96,6),(148,7)],8,176,(.agg [(.agg [.bf,.bf,.bf,.bf,.bf]),.bf,.bf,(.cj .kv)])⟩:=rfl
theorem aiL:ah.T 157=⟨.slice 200,1,24,.bf⟩:=rfl
theorem aiM:ah.T 159=⟨.struct [(2,0),(2,1),(9,2),(157,3)],4,56,(.agg [(.int .i64 0),(.int .i64 0),(.str []),.bf])⟩:=rfl
theorem aiN:ah.T 162=⟨.slice 239,1,24,.bf⟩:=rfl
theorem aiO:ah.T 164=⟨.struct [(2,0),(2,1),(9,2),(162,3)],4,56,(.agg [(.int .i64 0),(.int .i64 0),(.str []),.bf])⟩:=rfl
theorem axY:ah.T 167=⟨.ptr 103,1,8,.eA⟩:=rfl
theorem axZ:ah.T 180=⟨.fn,1,8,.hole⟩:=rfl
theorem ax0:ah.T 181=⟨.fn,1,8,.hole⟩:=rfl
theorem ax1:ah.T 182=⟨.ptr 184,1,8,.eA⟩:=rfl
theorem aiP:ah.T 184=⟨.struct [(34,0),(130,1),(148,2)],3,56,(.agg [.bf,.bf,(.cj .kv)])⟩:=rfl
theorem ax2:ah.T 195=⟨.fn,1,8,.hole⟩:=rfl
theorem aiQ:ah.T 200=⟨.slice 237,1,24,.bf⟩:=rfl
theorem ax3:ah.T 216=⟨.fn,1,8,.hole⟩:=rfl
theorem aiR:ah.T 219=⟨.slice 223,1,24,.bf⟩:=rfl
theorem aiS:ah.T 223=⟨.struct [(2,0),(4,1)],2,16,(.agg [(.int .i64 0),(.bool false)])⟩:=rfl
theorem ax4:ah.T 225=⟨.fn,1,8,.hole⟩:=rfl
theorem aiT:ah.T 237=⟨.struct [(2,0),(2,1)],2,16,(.agg [(.int .i64 0),(.int .i64 0)])⟩:=rfl
theorem aiU:ah.T 239=⟨.slice 277,1,24,.bf⟩:=rfl
theorem ax5:ah.T 241=⟨.ptr 159,1,8,.eA⟩:=rfl
theorem aiV:ah.T 248=⟨.fn,1,8,.hole⟩:=rfl
theorem ax6:ah.T 250=⟨.fn,1,8,.hole⟩:=rfl
theorem aiW:ah.T 253=⟨.ptr 283,1,8,.eA⟩:=rfl
theorem ax7:ah.T 271=⟨.ptr 237,1,8,.eA⟩:=rfl
theorem aiX:ah.T 277=⟨.struct [(2,0),(2,1)],2,16,(.agg [(.int .i64 0),(.int .i64 0)])⟩:=rfl
theorem aiY:ah.T 281=⟨.slice 253,1,24,.bf⟩:=rfl
theorem aiZ:ah.T 283=⟨.struct [(237,0),(281,2)],3,40,(.agg [(.agg [(.int .i64 0),(.int .i64 0)]),.bf])⟩:=rfl
end Go.Proofs.YtmaepbgkcmjcjajGreatDoor
