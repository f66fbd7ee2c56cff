/- Part of a proof that a law returns true for every input. No condition. -/
import Derived.Test.YtmaenemdkobeeaaGreatProg
import Derived.KernelRfl
import Derived.Test.YtmaenemdkobeeaaGreatFwF
namespace Go.Proofs.YtmaenemdkobeeaaGreat
open Go.ek
def T:TypeId->hr
 |1=>⟨.fn,1,8,.hole⟩
 |2=>⟨.int .i64,1,8,(.int .i64 0)⟩
 |3=>⟨.int .i64,1,8,(.int .i64 0)⟩
 |4=>⟨.bool,1,1,(.bool false)⟩
 |5=>⟨.int .u8,1,1,(.int .u8 0)⟩
 |9=>⟨.str,1,16,(.str [])⟩
 |22=>⟨.slice 78,1,24,.au⟩
 |23=>⟨.slice 80,1,24,.au⟩
 |24=>⟨.slice 83,1,24,.au⟩
 |25=>⟨.slice 9,1,24,.au⟩
 |27=>⟨.struct [(22,0),(23,1),(24,2),(25,3),(25,4)],5,120,(.agg [.au,.au,.au,.au,.au])⟩
 |29=>⟨.slice 2,1,24,.au⟩
 |30=>⟨.slice 100,1,24,.au⟩
 |32=>⟨.struct [(2,0),(29,1),(30,2)],3,56,(.agg [(.int .i64 0),.au,.au])⟩
 |35=>⟨.slice 92,1,24,.au⟩
 |36=>⟨.slice 63,1,24,.au⟩
 |37=>⟨.slice 106,1,24,.au⟩
 |39=>⟨.struct [(35,0),(36,1),(37,2),(25,3),(25,4)],5,120,(.agg [.au,.au,.au,.au,.au])⟩
 |51=>⟨.ptr 39,1,8,.eh⟩
 |63=>⟨.struct [(2,0),(29,1)],2,32,(.agg [(.int .i64 0),.au])⟩
 |76=>⟨.slice 164,1,24,.au⟩
 |78=>⟨.struct [(9,0),(2,1),(76,2)],3,48,(.agg [(.str []),(.int .i64 0),.au])⟩
 |80=>⟨.struct [(2,0),(29,1)],2,32,(.agg [(.int .i64 0),.au])⟩
 |83=>⟨.struct [(9,0),(9,1),(9,2)],3,48,(.agg [(.str []),(.str []),(.str [])])⟩
 |85=>⟨.slice 29,1,24,.au⟩
 |89=>⟨.ptr 92,1,8,.eh⟩
 |90=>⟨.slice 131,1,24,.au⟩
 |92=>⟨.struct [(9,0),(2,1),(90,2)],3,48,(.agg [(.str []),(.int .i64 0),.au])⟩
 |96=>⟨.fn,1,8,.hole⟩
 |97=>⟨.slice 134,1,24,.au⟩
 |98=>⟨.slice 97,1,24,.au⟩
 |100=>⟨.struct [(29,0),(97,1),(9,2),(98,3),(98,4)],5,112,(.agg [.au,.au,(.str []),.au,.au])⟩
 |103=>⟨.ptr 32,1,8,.eh⟩
 |106=>⟨.struct [(9,0),(9,1),(9,2)],3,48,(.agg [(.str []),(.str []),(.str [])])⟩
 |109=>⟨.ptr 112,1,8,.eh⟩
 |112=>⟨.struct [(39,0),(85,5),(32,6)],9,200,(.agg [(.agg [.au,.au,.au,.au,.au]),.au,(.agg [(.int .i64 0),.au,.au])])⟩
 |116=>⟨.struct [(29,0),(98,1)],2,48,(.agg [.au,.au])⟩
 |128=>⟨.fn,1,8,.hole⟩
 |129=>⟨.fn,1,8,.hole⟩
 |131=>⟨.struct [(2,0),(2,1),(9,2),(98,3)],4,56,(.agg [(.int .i64 0),(.int .i64 0),(.str []),.au])⟩
 |134=>⟨.struct [(2,0),(2,1)],2,16,(.agg [(.int .i64 0),(.int .i64 0)])⟩
 |135=>⟨.fn,1,8,.hole⟩
 |139=>⟨.fn,1,8,.hole⟩
 |140=>⟨.ptr 100,1,8,.eh⟩
 |145=>⟨.fn,1,8,.hole⟩
 |146=>⟨.slice 149,1,24,.au⟩
 |149=>⟨.struct [(2,0),(4,1)],2,16,(.agg [(.int .i64 0),(.bool false)])⟩
 |151=>⟨.fn,1,8,.hole⟩
 |155=>⟨.fn,1,8,.hole⟩
 |156=>⟨.fn,1,8,.hole⟩
 |160=>⟨.slice 5,1,24,.au⟩
 |162=>⟨.slice 209,1,24,.au⟩
 |164=>⟨.struct [(2,0),(2,1),(9,2),(162,3)],4,56,(.agg [(.int .i64 0),(.int .i64 0),(.str []),.au])⟩
 |177=>⟨.fn,1,8,.hole⟩
 |178=>⟨.fn,1,8,.hole⟩
 |181=>⟨.fn,1,8,.hole⟩
 |186=>⟨.fn,1,8,.hole⟩
 |194=>⟨.ptr 134,1,8,.eh⟩
 |198=>⟨.fn,1,8,.hole⟩
 |209=>⟨.slice 221,1,24,.au⟩
 |211=>⟨.ptr 131,1,8,.eh⟩
 |218=>⟨.slice 98,1,24,.au⟩
 |221=>⟨.struct [(2,0),(2,1)],2,16,(.agg [(.int .i64 0),(.int .i64 0)])⟩
 |_=>⟨.other,0,0,.hole⟩
theorem acp:∀t,PM Tryz.prog t (T t):=by
 intro t;unfold T;split
 .exact .inr ⟨Tryz.t1,_,_,by kernel_rfl,rfl,rfl,rfl,(λcs h=>by cases h),Tryz.underlying1,trivial⟩
 .exact .inr ⟨Tryz.t2,_,_,by kernel_rfl,rfl,rfl,rfl,(λcs h=>by cases h;rfl),Tryz.underlying2,rfl⟩
 .exact .inr ⟨Tryz.t3,_,_,by kernel_rfl,rfl,rfl,rfl,(λcs h=>by cases h;rfl),Tryz.underlying3,rfl⟩
 .exact .inr ⟨Tryz.t4,_,_,by kernel_rfl,rfl,rfl,rfl,(λcs h=>by cases h;rfl),Tryz.underlying4,trivial⟩
 .exact .inr ⟨Tryz.t5,_,_,by kernel_rfl,rfl,rfl,rfl,(λcs h=>by cases h;rfl),Tryz.underlying5,rfl⟩
 .exact .inr ⟨Tryz.t9,_,_,by kernel_rfl,rfl,rfl,rfl,(λcs h=>by cases h;rfl),Tryz.underlying9,trivial⟩
 .exact .inr ⟨Tryz.t22,_,_,by kernel_rfl,rfl,rfl,rfl,(λcs h=>by cases h;rfl),Tryz.underlying22,rfl⟩
 .exact .inr ⟨Tryz.t23,_,_,by kernel_rfl,rfl,rfl,rfl,(λcs h=>by cases h;rfl),Tryz.underlying23,rfl⟩
 .exact .inr ⟨Tryz.t24,_,_,by kernel_rfl,rfl,rfl,rfl,(λcs h=>by cases h;rfl),Tryz.underlying24,rfl⟩
 .exact .inr ⟨Tryz.t25,_,_,by kernel_rfl,rfl,rfl,rfl,(λcs h=>by cases h;rfl),Tryz.underlying25,rfl⟩
 .exact .inr ⟨Tryz.t27,_,_,by kernel_rfl,rfl,rfl,rfl,(λcs h=>by cases h;rfl),Tryz.underlying27,rfl⟩
 .exact .inr ⟨Tryz.t29,_,_,by kernel_rfl,rfl,rfl,rfl,(λcs h=>by cases h;rfl),Tryz.underlying29,rfl⟩
 .exact .inr ⟨Tryz.t30,_,_,by kernel_rfl,rfl,rfl,rfl,(λcs h=>by cases h;rfl),Tryz.underlying30,rfl⟩
 .exact .inr ⟨Tryz.t32,_,_,by kernel_rfl,rfl,rfl,rfl,(λcs h=>by cases h;rfl),Tryz.underlying32,rfl⟩
 .exact .inr ⟨Tryz.t35,_,_,by kernel_rfl,rfl,rfl,rfl,(λcs h=>by cases h;rfl),Tryz.underlying35,rfl⟩
 .exact .inr ⟨Tryz.t36,_,_,by kernel_rfl,rfl,rfl,rfl,(λcs h=>by cases h;rfl),Tryz.underlying36,rfl⟩
 .exact .inr ⟨Tryz.t37,_,_,by kernel_rfl,rfl,rfl,rfl,(λcs h=>by cases h;rfl),Tryz.underlying37,rfl⟩
 .exact .inr ⟨Tryz.t39,_,_,by kernel_rfl,rfl,rfl,rfl,(λcs h=>by cases h;rfl),Tryz.underlying39,rfl⟩
 .exact .inr ⟨Tryz.t51,_,_,by kernel_rfl,rfl,rfl,rfl,(λcs h=>by cases h;rfl),Tryz.underlying51,rfl⟩
 .exact .inr ⟨Tryz.t63,_,_,by kernel_rfl,rfl,rfl,rfl,(λcs h=>by cases h;rfl),Tryz.underlying63,rfl⟩
 .exact .inr ⟨Tryz.t76,_,_,by kernel_rfl,rfl,rfl,rfl,(λcs h=>by cases h;rfl),Tryz.underlying76,rfl⟩
 .exact .inr ⟨Tryz.t78,_,_,by kernel_rfl,rfl,rfl,rfl,(λcs h=>by cases h;rfl),Tryz.underlying78,rfl⟩
 .exact .inr ⟨Tryz.t80,_,_,by kernel_rfl,rfl,rfl,rfl,(λcs h=>by cases h;rfl),Tryz.underlying80,rfl⟩
 .exact .inr ⟨Tryz.t83,_,_,by kernel_rfl,rfl,rfl,rfl,(λcs h=>by cases h;rfl),Tryz.underlying83,rfl⟩
 .exact .inr ⟨Tryz.t85,_,_,by kernel_rfl,rfl,rfl,rfl,(λcs h=>by cases h;rfl),Tryz.underlying85,rfl⟩
 .exact .inr ⟨Tryz.t89,_,_,by kernel_rfl,rfl,rfl,rfl,(λcs h=>by cases h;rfl),Tryz.underlying89,rfl⟩
 .exact .inr ⟨Tryz.t90,_,_,by kernel_rfl,rfl,rfl,rfl,(λcs h=>by cases h;rfl),Tryz.underlying90,rfl⟩
 .exact .inr ⟨Tryz.t92,_,_,by kernel_rfl,rfl,rfl,rfl,(λcs h=>by cases h;rfl),Tryz.underlying92,rfl⟩
 .exact .inr ⟨Tryz.t96,_,_,by kernel_rfl,rfl,rfl,rfl,(λcs h=>by cases h),Tryz.underlying96,trivial⟩
 .exact .inr ⟨Tryz.t97,_,_,by kernel_rfl,rfl,rfl,rfl,(λcs h=>by cases h;rfl),Tryz.underlying97,rfl⟩
 .exact .inr ⟨Tryz.t98,_,_,by kernel_rfl,rfl,rfl,rfl,(λcs h=>by cases h;rfl),Tryz.underlying98,rfl⟩
 .exact .inr ⟨Tryz.t100,_,_,by kernel_rfl,rfl,rfl,rfl,(λcs h=>by cases h;rfl),Tryz.underlying100,rfl⟩
 .exact .inr ⟨Tryz.t103,_,_,by kernel_rfl,rfl,rfl,rfl,(λcs h=>by cases h;rfl),Tryz.underlying103,rfl⟩
 .exact .inr ⟨Tryz.t106,_,_,by kernel_rfl,rfl,rfl,rfl,(λcs h=>by cases h;rfl),Tryz.underlying106,rfl⟩
 .exact .inr ⟨Tryz.t109,_,_,by kernel_rfl,rfl,rfl,rfl,(λcs h=>by cases h;rfl),Tryz.underlying109,rfl⟩
 .exact .inr ⟨Tryz.t112,_,_,by kernel_rfl,rfl,rfl,rfl,(λcs h=>by cases h;rfl),Tryz.underlying112,rfl⟩
 .exact .inr ⟨Tryz.t116,_,_,by kernel_rfl,rfl,rfl,rfl,(λcs h=>by cases h;rfl),Tryz.underlying116,rfl⟩
 .exact .inr ⟨Tryz.t128,_,_,by kernel_rfl,rfl,rfl,rfl,(λcs h=>by cases h),Tryz.underlying128,trivial⟩
 .exact .inr ⟨Tryz.t129,_,_,by kernel_rfl,rfl,rfl,rfl,(λcs h=>by cases h),Tryz.underlying129,trivial⟩
 .exact .inr ⟨Tryz.t131,_,_,by kernel_rfl,rfl,rfl,rfl,(λcs h=>by cases h;rfl),Tryz.underlying131,rfl⟩
 .exact .inr ⟨Tryz.t134,_,_,by kernel_rfl,rfl,rfl,rfl,(λcs h=>by cases h;rfl),Tryz.underlying134,rfl⟩
 .exact .inr ⟨Tryz.t135,_,_,by kernel_rfl,rfl,rfl,rfl,(λcs h=>by cases h),Tryz.underlying135,trivial⟩
 .exact .inr ⟨Tryz.t139,_,_,by kernel_rfl,rfl,rfl,rfl,(λcs h=>by cases h),Tryz.underlying139,trivial⟩
 .exact .inr ⟨Tryz.t140,_,_,by kernel_rfl,rfl,rfl,rfl,(λcs h=>by cases h;rfl),Tryz.underlying140,rfl⟩
 .exact .inr ⟨Tryz.t145,_,_,by kernel_rfl,rfl,rfl,rfl,(λcs h=>by cases h),Tryz.underlying145,trivial⟩
 .exact .inr ⟨Tryz.t146,_,_,by kernel_rfl,rfl,rfl,rfl,(λcs h=>by cases h;rfl),Tryz.underlying146,rfl⟩
 .exact .inr ⟨Tryz.t149,_,_,by kernel_rfl,rfl,rfl,rfl,(λcs h=>by cases h;rfl),Tryz.underlying149,rfl⟩
 .exact .inr ⟨Tryz.t151,_,_,by kernel_rfl,rfl,rfl,rfl,(λcs h=>by cases h),Tryz.underlying151,trivial⟩
 .exact .inr ⟨Tryz.t155,_,_,by kernel_rfl,rfl,rfl,rfl,(λcs h=>by cases h),Tryz.underlying155,trivial⟩
 .exact .inr ⟨Tryz.t156,_,_,by kernel_rfl,rfl,rfl,rfl,(λcs h=>by cases h),Tryz.underlying156,trivial⟩
 .exact .inr ⟨Tryz.t160,_,_,by kernel_rfl,rfl,rfl,rfl,(λcs h=>by cases h;rfl),Tryz.underlying160,rfl⟩
 .exact .inr ⟨Tryz.t162,_,_,by kernel_rfl,rfl,rfl,rfl,(λcs h=>by cases h;rfl),Tryz.underlying162,rfl⟩
 .exact .inr ⟨Tryz.t164,_,_,by kernel_rfl,rfl,rfl,rfl,(λcs h=>by cases h;rfl),Tryz.underlying164,rfl⟩
 .exact .inr ⟨Tryz.t177,_,_,by kernel_rfl,rfl,rfl,rfl,(λcs h=>by cases h),Tryz.underlying177,trivial⟩
 .exact .inr ⟨Tryz.t178,_,_,by kernel_rfl,rfl,rfl,rfl,(λcs h=>by cases h),Tryz.underlying178,trivial⟩
 .exact .inr ⟨Tryz.t181,_,_,by kernel_rfl,rfl,rfl,rfl,(λcs h=>by cases h),Tryz.underlying181,trivial⟩
 .exact .inr ⟨Tryz.t186,_,_,by kernel_rfl,rfl,rfl,rfl,(λcs h=>by cases h),Tryz.underlying186,trivial⟩
 .exact .inr ⟨Tryz.t194,_,_,by kernel_rfl,rfl,rfl,rfl,(λcs h=>by cases h;rfl),Tryz.underlying194,rfl⟩
 .exact .inr ⟨Tryz.t198,_,_,by kernel_rfl,rfl,rfl,rfl,(λcs h=>by cases h),Tryz.underlying198,trivial⟩
 .exact .inr ⟨Tryz.t209,_,_,by kernel_rfl,rfl,rfl,rfl,(λcs h=>by cases h;rfl),Tryz.underlying209,rfl⟩
 .exact .inr ⟨Tryz.t211,_,_,by kernel_rfl,rfl,rfl,rfl,(λcs h=>by cases h;rfl),Tryz.underlying211,rfl⟩
 .exact .inr ⟨Tryz.t218,_,_,by kernel_rfl,rfl,rfl,rfl,(λcs h=>by cases h;rfl),Tryz.underlying218,rfl⟩
 .exact .inr ⟨Tryz.t221,_,_,by kernel_rfl,rfl,rfl,rfl,(λcs h=>by cases h;rfl),Tryz.underlying221,rfl⟩
 .exact .inl ⟨_,_,_,_,rfl,rfl⟩
noncomputable def ah:ch:=⟨Tryz.prog,T,λ_=>[]⟩
theorem KU:ah.fI:=⟨acp,by kernel_rfl⟩
theorem apR:ah.T 1=⟨.fn,1,8,.hole⟩:=rfl
theorem acq:ah.T 2=⟨.int .i64,1,8,(.int .i64 0)⟩:=rfl
theorem acr:ah.T 3=⟨.int .i64,1,8,(.int .i64 0)⟩:=rfl
theorem acs:ah.T 4=⟨.bool,1,1,(.bool false)⟩:=rfl
theorem acu:ah.T 5=⟨.int .u8,1,1,(.int .u8 0)⟩:=rfl
theorem acv:ah.T 9=⟨.str,1,16,(.str [])⟩:=rfl
theorem acw:ah.T 22=⟨.slice 78,1,24,.au⟩:=rfl
theorem acx:ah.T 23=⟨.slice 80,1,24,.au⟩:=rfl
theorem acy:ah.T 24=⟨.slice 83,1,24,.au⟩:=rfl
theorem acz:ah.T 25=⟨.slice 9,1,24,.au⟩:=rfl
theorem acA:ah.T 27=⟨.struct [(22,0),(23,1),(24,2),(25,3),(25,4)],5,120,(.agg [.au,.au,.au,.au,.au])⟩:=rfl
theorem acB:ah.T 29=⟨.slice 2,1,24,.au⟩:=rfl
theorem acC:ah.T 30=⟨.slice 100,1,24,.au⟩:=rfl
theorem acD:ah.T 32=⟨.struct [(2,0),(29,1),(30,2)],3,56,(.agg [(.int .i64 0),.au,.au])⟩:=rfl
theorem acE:ah.T 35=⟨.slice 92,1,24,.au⟩:=rfl
theorem acF:ah.T 36=⟨.slice 63,1,24,.au⟩:=rfl
theorem acG:ah.T 37=⟨.slice 106,1,24,.au⟩:=rfl
theorem acH:ah.T 39=⟨.struct [(35,0),(36,1),(37,2),(25,3),(25,4)],5,120,(.agg [.au,.au,.au,.au,.au])⟩:=rfl
theorem apS:ah.T 51=⟨.ptr 39,1,8,.eh⟩:=rfl
theorem acI:ah.T 63=⟨.struct [(2,0),(29,1)],2,32,(.agg [(.int .i64 0),.au])⟩:=rfl
theorem acJ:ah.T 76=⟨.slice 164,1,24,.au⟩:=rfl
theorem acK:ah.T 78=⟨.struct [(9,0),(2,1),(76,2)],3,48,(.agg [(.str []),(.int .i64 0),.au])⟩:=rfl
theorem acL:ah.T 80=⟨.struct [(2,0),(29,1)],2,32,(.agg [(.int .i64 0),.au])⟩:=rfl
theorem acM:ah.T 83=⟨.struct [(9,0),(9,1),(9,2)],3,48,(.agg [(.str []),(.str []),(.str [])])⟩:=rfl
theorem acN:ah.T 85=⟨.slice 29,1,24,.au⟩:=rfl
theorem apT:ah.T 89=⟨.ptr 92,1,8,.eh⟩:=rfl
theorem acO:ah.T 90=⟨.slice 131,1,24,.au⟩:=rfl
theorem acP:ah.T 92=⟨.struct [(9,0),(2,1),(90,2)],3,48,(.agg [(.str []),(.int .i64 0),.au])⟩:=rfl
theorem apU:ah.T 96=⟨.fn,1,8,.hole⟩:=rfl
theorem acQ:ah.T 97=⟨.slice 134,1,24,.au⟩:=rfl
theorem acR:ah.T 98=⟨.slice 97,1,24,.au⟩:=rfl
theorem acS:ah.T 100=⟨.struct [(29,0),(97,1),(9,2),(98,3),(98,4)],5,112,(.agg [.au,.au,(.str []),.au,.au])⟩:=rfl
theorem apV:ah.T 103=⟨.ptr 32,1,8,.eh⟩:=rfl
theorem acT:ah.T 106=⟨.struct [(9,0),(9,1),(9,2)],3,48,(.agg [(.str []),(.str []),(.str [])])⟩:=rfl
theorem acU:ah.T 109=⟨.ptr 112,1,8,.eh⟩:=rfl
theorem acV:ah.T 112=⟨.struct [(39,0),(85,5),(32,6)],9,200,(.agg [(.agg [.au,.au,.au,.au,.au]),.au,(.agg [(.int .i64 0),.au,.au])])⟩:=rfl
theorem acW:ah.T 116=⟨.struct [(29,0),(98,1)],2,48,(.agg [.au,.au])⟩:=rfl
theorem apW:ah.T 128=⟨.fn,1,8,.hole⟩:=rfl
theorem apX:ah.T 129=⟨.fn,1,8,.hole⟩:=rfl
theorem acX:ah.T 131=⟨.struct [(2,0),(2,1),(9,2),(98,3)],4,56,(.agg [(.int .i64 0),(.int .i64 0),(.str []),.au])⟩:=rfl
theorem acY:ah.T 134=⟨.struct [(2,0),(2,1)],2,16,(.agg [(.int .i64 0),(.int .i64 0)])⟩:=rfl
theorem apY:ah.T 135=⟨.fn,1,8,.hole⟩:=rfl
theorem apZ:ah.T 139=⟨.fn,1,8,.hole⟩:=rfl
theorem ap0:ah.T 140=⟨.ptr 100,1,8,.eh⟩:=rfl
theorem ap1:ah.T 145=⟨.fn,1,8,.hole⟩:=rfl
theorem acZ:ah.T 146=⟨.slice 149,1,24,.au⟩:=rfl
theorem ac0:ah.T 149=⟨.struct [(2,0),(4,1)],2,16,(.agg [(.int .i64 0),(.bool false)])⟩:=rfl
theorem ap2:ah.T 151=⟨.fn,1,8,.hole⟩:=rfl
theorem ap3:ah.T 155=⟨.fn,1,8,.hole⟩:=rfl
theorem ap4:ah.T 156=⟨.fn,1,8,.hole⟩:=rfl
theorem ac1:ah.T 160=⟨.slice 5,1,24,.au⟩:=rfl
theorem ac2:ah.T 162=⟨.slice 209,1,24,.au⟩:=rfl
theorem ac3:ah.T 164=⟨.struct [(2,0),(2,1),(9,2),(162,3)],4,56,(.agg [(.int .i64 0),(.int .i64 0),(.str []),.au])⟩:=rfl
theorem ap5:ah.T 177=⟨.fn,1,8,.hole⟩:=rfl
theorem ac4:ah.T 178=⟨.fn,1,8,.hole⟩:=rfl
theorem ap6:ah.T 181=⟨.fn,1,8,.hole⟩:=rfl
theorem ap7:ah.T 186=⟨.fn,1,8,.hole⟩:=rfl
theorem ap8:ah.T 194=⟨.ptr 134,1,8,.eh⟩:=rfl
theorem ap9:ah.T 198=⟨.fn,1,8,.hole⟩:=rfl
theorem ac5:ah.T 209=⟨.slice 221,1,24,.au⟩:=rfl
theorem ap_:ah.T 211=⟨.ptr 131,1,8,.eh⟩:=rfl
theorem ac6:ah.T 218=⟨.slice 98,1,24,.au⟩:=rfl
theorem ac7:ah.T 221=⟨.struct [(2,0),(2,1)],2,16,(.agg [(.int .i64 0),(.int .i64 0)])⟩:=rfl
end Go.Proofs.YtmaenemdkobeeaaGreat
