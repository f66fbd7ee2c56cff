/- Part of a proof that a law returns true for every input. No condition. -/
import Derived.Test.YtlkabaochkgkdaaGreatDoorProg
import Derived.KernelRfl
import Derived.Test.YtlkabaochkgkdaaGreatDoorFwF
namespace Go.Proofs.YtlkabaochkgkdaaGreatDoor
open Go.c_
def T:TypeId->hb
 |2=>⟨.int .i64,1,8,(.int .i64 0)⟩
 |3=>⟨.int .i64,1,8,(.int .i64 0)⟩
 |4=>⟨.bool,1,1,(.bool false)⟩
 |5=>⟨.int .u8,1,1,(.int .u8 0)⟩
 |9=>⟨.str,1,16,(.str [])⟩
 |22=>⟨.slice 79,1,24,.bz⟩
 |23=>⟨.slice 82,1,24,.bz⟩
 |24=>⟨.slice 85,1,24,.bz⟩
 |25=>⟨.slice 9,1,24,.bz⟩
 |27=>⟨.struct [(22,0),(23,1),(24,2),(25,3),(25,4)],5,120,(.agg [.bz,.bz,.bz,.bz,.bz])⟩
 |28=>⟨.slice 55,1,24,.bz⟩
 |31=>⟨.slice 2,1,24,.bz⟩
 |34=>⟨.slice 91,1,24,.bz⟩
 |35=>⟨.slice 93,1,24,.bz⟩
 |36=>⟨.slice 95,1,24,.bz⟩
 |38=>⟨.struct [(34,0),(35,1),(36,2),(25,3),(25,4)],5,120,(.agg [.bz,.bz,.bz,.bz,.bz])⟩
 |40=>⟨.slice 59,1,24,.bz⟩
 |55=>⟨.struct [(2,0),(2,1),(2,2),(9,3)],4,40,(.agg [(.int .i64 0),(.int .i64 0),(.int .i64 0),(.str [])])⟩
 |57=>⟨.ptr 38,1,8,.dS⟩
 |59=>⟨.struct [(2,0),(2,1),(2,2),(9,3)],4,40,(.agg [(.int .i64 0),(.int .i64 0),(.int .i64 0),(.str [])])⟩
 |71=>⟨.fn,1,8,.hole⟩
 |77=>⟨.slice 126,1,24,.bz⟩
 |79=>⟨.struct [(9,0),(2,1),(77,2)],3,48,(.agg [(.str []),(.int .i64 0),.bz])⟩
 |82=>⟨.struct [(2,0),(31,1)],2,32,(.agg [(.int .i64 0),.bz])⟩
 |85=>⟨.struct [(9,0),(9,1),(9,2)],3,48,(.agg [(.str []),(.str []),(.str [])])⟩
 |88=>⟨.ptr 59,1,8,.dS⟩
 |89=>⟨.slice 121,1,24,.bz⟩
 |91=>⟨.struct [(9,0),(2,1),(89,2)],3,48,(.agg [(.str []),(.int .i64 0),.bz])⟩
 |93=>⟨.struct [(2,0),(31,1)],2,32,(.agg [(.int .i64 0),.bz])⟩
 |95=>⟨.struct [(9,0),(9,1),(9,2)],3,48,(.agg [(.str []),(.str []),(.str [])])⟩
 |96=>⟨.fn,1,8,.hole⟩
 |100=>⟨.fn,1,8,.hole⟩
 |106=>⟨.slice 5,1,24,.bz⟩
 |113=>⟨.fn,1,8,.hole⟩
 |116=>⟨.fn,1,8,.hole⟩
 |119=>⟨.slice 144,1,24,.bz⟩
 |121=>⟨.struct [(2,0),(2,1),(9,2),(119,3)],4,56,(.agg [(.int .i64 0),(.int .i64 0),(.str []),.bz])⟩
 |124=>⟨.slice 178,1,24,.bz⟩
 |126=>⟨.struct [(2,0),(2,1),(9,2),(124,3)],4,56,(.agg [(.int .i64 0),(.int .i64 0),(.str []),.bz])⟩
 |129=>⟨.ptr 91,1,8,.dS⟩
 |135=>⟨.fn,1,8,.hole⟩
 |139=>⟨.fn,1,8,.hole⟩
 |144=>⟨.slice 176,1,24,.bz⟩
 |155=>⟨.fn,1,8,.hole⟩
 |158=>⟨.slice 162,1,24,.bz⟩
 |162=>⟨.struct [(2,0),(4,1)],2,16,(.agg [(.int .i64 0),(.bool false)])⟩
 |164=>⟨.fn,1,8,.hole⟩
 |176=>⟨.struct [(2,0),(2,1)],2,16,(.agg [(.int .i64 0),(.int .i64 0)])⟩
 |178=>⟨.slice 199,1,24,.bz⟩
 |180=>⟨.ptr 121,1,8,.dS⟩
 |186=>⟨.fn,1,8,.hole⟩
 |188=>⟨.fn,1,8,.hole⟩
 |196=>⟨.ptr 176,1,8,.dS⟩
 |199=>⟨.struct [(2,0),(2,1)],2,16,(.agg [(.int .i64 0),(.int .i64 0)])⟩
 |_=>⟨.other,0,0,.hole⟩
theorem YK:∀t,Le Tryz.prog t (T t):=by
 intro t;unfold T;split
 .exact .inr ⟨Tryz.t2,_,_,by kernel_rfl,rfl,rfl,rfl,(λcs h=>by cases h;rfl),Tryz.underlying2,rfl⟩
 .exact .inr ⟨Tryz.t3,_,_,by kernel_rfl,rfl,rfl,rfl,(λcs h=>by cases h;rfl),Tryz.underlying3,rfl⟩
 .exact .inr ⟨Tryz.t4,_,_,by kernel_rfl,rfl,rfl,rfl,(λcs h=>by cases h;rfl),Tryz.underlying4,trivial⟩
 .exact .inr ⟨Tryz.t5,_,_,by kernel_rfl,rfl,rfl,rfl,(λcs h=>by cases h;rfl),Tryz.underlying5,rfl⟩
 .exact .inr ⟨Tryz.t9,_,_,by kernel_rfl,rfl,rfl,rfl,(λcs h=>by cases h;rfl),Tryz.underlying9,trivial⟩
 .exact .inr ⟨Tryz.t22,_,_,by kernel_rfl,rfl,rfl,rfl,(λcs h=>by cases h;rfl),Tryz.underlying22,rfl⟩
 .exact .inr ⟨Tryz.t23,_,_,by kernel_rfl,rfl,rfl,rfl,(λcs h=>by cases h;rfl),Tryz.underlying23,rfl⟩
 .exact .inr ⟨Tryz.t24,_,_,by kernel_rfl,rfl,rfl,rfl,(λcs h=>by cases h;rfl),Tryz.underlying24,rfl⟩
 .exact .inr ⟨Tryz.t25,_,_,by kernel_rfl,rfl,rfl,rfl,(λcs h=>by cases h;rfl),Tryz.underlying25,rfl⟩
 .exact .inr ⟨Tryz.t27,_,_,by kernel_rfl,rfl,rfl,rfl,(λcs h=>by cases h;rfl),Tryz.underlying27,rfl⟩
 .exact .inr ⟨Tryz.t28,_,_,by kernel_rfl,rfl,rfl,rfl,(λcs h=>by cases h;rfl),Tryz.underlying28,rfl⟩
 .exact .inr ⟨Tryz.t31,_,_,by kernel_rfl,rfl,rfl,rfl,(λcs h=>by cases h;rfl),Tryz.underlying31,rfl⟩
 .exact .inr ⟨Tryz.t34,_,_,by kernel_rfl,rfl,rfl,rfl,(λcs h=>by cases h;rfl),Tryz.underlying34,rfl⟩
 .exact .inr ⟨Tryz.t35,_,_,by kernel_rfl,rfl,rfl,rfl,(λcs h=>by cases h;rfl),Tryz.underlying35,rfl⟩
 .exact .inr ⟨Tryz.t36,_,_,by kernel_rfl,rfl,rfl,rfl,(λcs h=>by cases h;rfl),Tryz.underlying36,rfl⟩
 .exact .inr ⟨Tryz.t38,_,_,by kernel_rfl,rfl,rfl,rfl,(λcs h=>by cases h;rfl),Tryz.underlying38,rfl⟩
 .exact .inr ⟨Tryz.t40,_,_,by kernel_rfl,rfl,rfl,rfl,(λcs h=>by cases h;rfl),Tryz.underlying40,rfl⟩
 .exact .inr ⟨Tryz.t55,_,_,by kernel_rfl,rfl,rfl,rfl,(λcs h=>by cases h;rfl),Tryz.underlying55,rfl⟩
 .exact .inr ⟨Tryz.t57,_,_,by kernel_rfl,rfl,rfl,rfl,(λcs h=>by cases h;rfl),Tryz.underlying57,rfl⟩
 .exact .inr ⟨Tryz.t59,_,_,by kernel_rfl,rfl,rfl,rfl,(λcs h=>by cases h;rfl),Tryz.underlying59,rfl⟩
 .exact .inr ⟨Tryz.t71,_,_,by kernel_rfl,rfl,rfl,rfl,(λcs h=>by cases h),Tryz.underlying71,trivial⟩
 .exact .inr ⟨Tryz.t77,_,_,by kernel_rfl,rfl,rfl,rfl,(λcs h=>by cases h;rfl),Tryz.underlying77,rfl⟩
 .exact .inr ⟨Tryz.t79,_,_,by kernel_rfl,rfl,rfl,rfl,(λcs h=>by cases h;rfl),Tryz.underlying79,rfl⟩
 .exact .inr ⟨Tryz.t82,_,_,by kernel_rfl,rfl,rfl,rfl,(λcs h=>by cases h;rfl),Tryz.underlying82,rfl⟩
 .exact .inr ⟨Tryz.t85,_,_,by kernel_rfl,rfl,rfl,rfl,(λcs h=>by cases h;rfl),Tryz.underlying85,rfl⟩
 .exact .inr ⟨Tryz.t88,_,_,by kernel_rfl,rfl,rfl,rfl,(λcs h=>by cases h;rfl),Tryz.underlying88,rfl⟩
 .exact .inr ⟨Tryz.t89,_,_,by kernel_rfl,rfl,rfl,rfl,(λcs h=>by cases h;rfl),Tryz.underlying89,rfl⟩
 .exact .inr ⟨Tryz.t91,_,_,by kernel_rfl,rfl,rfl,rfl,(λcs h=>by cases h;rfl),Tryz.underlying91,rfl⟩
 .exact .inr ⟨Tryz.t93,_,_,by kernel_rfl,rfl,rfl,rfl,(λcs h=>by cases h;rfl),Tryz.underlying93,rfl⟩
 .exact .inr ⟨Tryz.t95,_,_,by kernel_rfl,rfl,rfl,rfl,(λcs h=>by cases h;rfl),Tryz.underlying95,rfl⟩
 .exact .inr ⟨Tryz.t96,_,_,by kernel_rfl,rfl,rfl,rfl,(λcs h=>by cases h),Tryz.underlying96,trivial⟩
 .exact .inr ⟨Tryz.t100,_,_,by kernel_rfl,rfl,rfl,rfl,(λcs h=>by cases h),Tryz.underlying100,trivial⟩
 .exact .inr ⟨Tryz.t106,_,_,by kernel_rfl,rfl,rfl,rfl,(λcs h=>by cases h;rfl),Tryz.underlying106,rfl⟩
 .exact .inr ⟨Tryz.t113,_,_,by kernel_rfl,rfl,rfl,rfl,(λcs h=>by cases h),Tryz.underlying113,trivial⟩
 .exact .inr ⟨Tryz.t116,_,_,by kernel_rfl,rfl,rfl,rfl,(λcs h=>by cases h),Tryz.underlying116,trivial⟩
 .exact .inr ⟨Tryz.t119,_,_,by kernel_rfl,rfl,rfl,rfl,(λcs h=>by cases h;rfl),Tryz.underlying119,rfl⟩
 .exact .inr ⟨Tryz.t121,_,_,by kernel_rfl,rfl,rfl,rfl,(λcs h=>by cases h;rfl),Tryz.underlying121,rfl⟩
 .exact .inr ⟨Tryz.t124,_,_,by kernel_rfl,rfl,rfl,rfl,(λcs h=>by cases h;rfl),Tryz.underlying124,rfl⟩
 .exact .inr ⟨Tryz.t126,_,_,by kernel_rfl,rfl,rfl,rfl,(λcs h=>by cases h;rfl),Tryz.underlying126,rfl⟩
 .exact .inr ⟨Tryz.t129,_,_,by kernel_rfl,rfl,rfl,rfl,(λcs h=>by cases h;rfl),Tryz.underlying129,rfl⟩
 .exact .inr ⟨Tryz.t135,_,_,by kernel_rfl,rfl,rfl,rfl,(λcs h=>by cases h),Tryz.underlying135,trivial⟩
 .exact .inr ⟨Tryz.t139,_,_,by kernel_rfl,rfl,rfl,rfl,(λcs h=>by cases h),Tryz.underlying139,trivial⟩
 .exact .inr ⟨Tryz.t144,_,_,by kernel_rfl,rfl,rfl,rfl,(λcs h=>by cases h;rfl),Tryz.underlying144,rfl⟩
 .exact .inr ⟨Tryz.t155,_,_,by kernel_rfl,rfl,rfl,rfl,(λcs h=>by cases h),Tryz.underlying155,trivial⟩
 .exact .inr ⟨Tryz.t158,_,_,by kernel_rfl,rfl,rfl,rfl,(λcs h=>by cases h;rfl),Tryz.underlying158,rfl⟩
 .exact .inr ⟨Tryz.t162,_,_,by kernel_rfl,rfl,rfl,rfl,(λcs h=>by cases h;rfl),Tryz.underlying162,rfl⟩
 .exact .inr ⟨Tryz.t164,_,_,by kernel_rfl,rfl,rfl,rfl,(λcs h=>by cases h),Tryz.underlying164,trivial⟩
 .exact .inr ⟨Tryz.t176,_,_,by kernel_rfl,rfl,rfl,rfl,(λcs h=>by cases h;rfl),Tryz.underlying176,rfl⟩
 .exact .inr ⟨Tryz.t178,_,_,by kernel_rfl,rfl,rfl,rfl,(λcs h=>by cases h;rfl),Tryz.underlying178,rfl⟩
 .exact .inr ⟨Tryz.t180,_,_,by kernel_rfl,rfl,rfl,rfl,(λcs h=>by cases h;rfl),Tryz.underlying180,rfl⟩
 .exact .inr ⟨Tryz.t186,_,_,by kernel_rfl,rfl,rfl,rfl,(λcs h=>by cases h),Tryz.underlying186,trivial⟩
 .exact .inr ⟨Tryz.t188,_,_,by kernel_rfl,rfl,rfl,rfl,(λcs h=>by cases h),Tryz.underlying188,trivial⟩
 .exact .inr ⟨Tryz.t196,_,_,by kernel_rfl,rfl,rfl,rfl,(λcs h=>by cases h;rfl),Tryz.underlying196,rfl⟩
 .exact .inr ⟨Tryz.t199,_,_,by kernel_rfl,rfl,rfl,rfl,(λcs h=>by cases h;rfl),Tryz.underlying199,rfl⟩
 .exact .inl ⟨_,_,_,_,rfl,rfl⟩
noncomputable def aF:cl:=⟨Tryz.prog,T,λ_=>[]⟩
theorem Jb:aF.fc:=⟨YK,by kernel_rfl⟩
theorem el:aF.T 2=⟨.int .i64,1,8,(.int .i64 0)⟩:=rfl
theorem aHw:aF.T 3=⟨.int .i64,1,8,(.int .i64 0)⟩:=rfl
theorem s9:aF.T 4=⟨.bool,1,1,(.bool false)⟩:=rfl
theorem YL:aF.T 5=⟨.int .u8,1,1,(.int .u8 0)⟩:=rfl
theorem eL:aF.T 9=⟨.str,1,16,(.str [])⟩:=rfl
theorem xp:aF.T 22=⟨.slice 79,1,24,.bz⟩:=rfl
theorem xq:aF.T 23=⟨.slice 82,1,24,.bz⟩:=rfl
theorem xr:aF.T 24=⟨.slice 85,1,24,.bz⟩:=rfl
theorem n0:aF.T 25=⟨.slice 9,1,24,.bz⟩:=rfl
theorem Jc:aF.T 27=⟨.struct [(22,0),(23,1),(24,2),(25,3),(25,4)],5,120,(.agg [.bz,.bz,.bz,.bz,.bz])⟩:=rfl
theorem CZ:aF.T 28=⟨.slice 55,1,24,.bz⟩:=rfl
theorem jd:aF.T 31=⟨.slice 2,1,24,.bz⟩:=rfl
theorem oz:aF.T 34=⟨.slice 91,1,24,.bz⟩:=rfl
theorem pc:aF.T 35=⟨.slice 93,1,24,.bz⟩:=rfl
theorem qT:aF.T 36=⟨.slice 95,1,24,.bz⟩:=rfl
theorem xt:aF.T 38=⟨.struct [(34,0),(35,1),(36,2),(25,3),(25,4)],5,120,(.agg [.bz,.bz,.bz,.bz,.bz])⟩:=rfl
theorem s_:aF.T 40=⟨.slice 59,1,24,.bz⟩:=rfl
theorem C0:aF.T 55=⟨.struct [(2,0),(2,1),(2,2),(9,3)],4,40,(.agg [(.int .i64 0),(.int .i64 0),(.int .i64 0),(.str [])])⟩:=rfl
theorem aHx:aF.T 57=⟨.ptr 38,1,8,.dS⟩:=rfl
theorem qU:aF.T 59=⟨.struct [(2,0),(2,1),(2,2),(9,3)],4,40,(.agg [(.int .i64 0),(.int .i64 0),(.int .i64 0),(.str [])])⟩:=rfl
theorem aHy:aF.T 71=⟨.fn,1,8,.hole⟩:=rfl
theorem rS:aF.T 77=⟨.slice 126,1,24,.bz⟩:=rfl
theorem xu:aF.T 79=⟨.struct [(9,0),(2,1),(77,2)],3,48,(.agg [(.str []),(.int .i64 0),.bz])⟩:=rfl
theorem xv:aF.T 82=⟨.struct [(2,0),(31,1)],2,32,(.agg [(.int .i64 0),.bz])⟩:=rfl
theorem xw:aF.T 85=⟨.struct [(9,0),(9,1),(9,2)],3,48,(.agg [(.str []),(.str []),(.str [])])⟩:=rfl
theorem aHz:aF.T 88=⟨.ptr 59,1,8,.dS⟩:=rfl
theorem kQ:aF.T 89=⟨.slice 121,1,24,.bz⟩:=rfl
theorem mK:aF.T 91=⟨.struct [(9,0),(2,1),(89,2)],3,48,(.agg [(.str []),(.int .i64 0),.bz])⟩:=rfl
theorem oA:aF.T 93=⟨.struct [(2,0),(31,1)],2,32,(.agg [(.int .i64 0),.bz])⟩:=rfl
theorem n1:aF.T 95=⟨.struct [(9,0),(9,1),(9,2)],3,48,(.agg [(.str []),(.str []),(.str [])])⟩:=rfl
theorem aHA:aF.T 96=⟨.fn,1,8,.hole⟩:=rfl
theorem aHB:aF.T 100=⟨.fn,1,8,.hole⟩:=rfl
theorem YM:aF.T 106=⟨.slice 5,1,24,.bz⟩:=rfl
theorem aHC:aF.T 113=⟨.fn,1,8,.hole⟩:=rfl
theorem aHD:aF.T 116=⟨.fn,1,8,.hole⟩:=rfl
theorem hK:aF.T 119=⟨.slice 144,1,24,.bz⟩:=rfl
theorem je:aF.T 121=⟨.struct [(2,0),(2,1),(9,2),(119,3)],4,56,(.agg [(.int .i64 0),(.int .i64 0),(.str []),.bz])⟩:=rfl
theorem pd:aF.T 124=⟨.slice 178,1,24,.bz⟩:=rfl
theorem rT:aF.T 126=⟨.struct [(2,0),(2,1),(9,2),(124,3)],4,56,(.agg [(.int .i64 0),(.int .i64 0),(.str []),.bz])⟩:=rfl
theorem aHE:aF.T 129=⟨.ptr 91,1,8,.dS⟩:=rfl
theorem aHF:aF.T 135=⟨.fn,1,8,.hole⟩:=rfl
theorem aHG:aF.T 139=⟨.fn,1,8,.hole⟩:=rfl
theorem gW:aF.T 144=⟨.slice 176,1,24,.bz⟩:=rfl
theorem aHH:aF.T 155=⟨.fn,1,8,.hole⟩:=rfl
theorem zK:aF.T 158=⟨.slice 162,1,24,.bz⟩:=rfl
theorem ta:aF.T 162=⟨.struct [(2,0),(4,1)],2,16,(.agg [(.int .i64 0),(.bool false)])⟩:=rfl
theorem aHI:aF.T 164=⟨.fn,1,8,.hole⟩:=rfl
theorem gJ:aF.T 176=⟨.struct [(2,0),(2,1)],2,16,(.agg [(.int .i64 0),(.int .i64 0)])⟩:=rfl
theorem nk:aF.T 178=⟨.slice 199,1,24,.bz⟩:=rfl
theorem aHJ:aF.T 180=⟨.ptr 121,1,8,.dS⟩:=rfl
theorem O0:aF.T 186=⟨.fn,1,8,.hole⟩:=rfl
theorem aHK:aF.T 188=⟨.fn,1,8,.hole⟩:=rfl
theorem aHL:aF.T 196=⟨.ptr 176,1,8,.dS⟩:=rfl
theorem nm:aF.T 199=⟨.struct [(2,0),(2,1)],2,16,(.agg [(.int .i64 0),(.int .i64 0)])⟩:=rfl
end Go.Proofs.YtlkabaochkgkdaaGreatDoor
