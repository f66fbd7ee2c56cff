/- Part of a proof that a law returns true for every input. No condition. -/
import Derived.Test.YtngohoaiimbacabGreatDoorProg
import Derived.KernelRfl
import Derived.Test.YtngohoaiimbacabGreatDoorFwF
namespace Go.Proofs.YtngohoaiimbacabGreatDoor
open Go.c_
def T:TypeId->gg
 |2=>⟨.int .i64,1,8,(.int .i64 0)⟩
 |3=>⟨.int .i64,1,8,(.int .i64 0)⟩
 |4=>⟨.bool,1,1,(.bool false)⟩
 |5=>⟨.int .u8,1,1,(.int .u8 0)⟩
 |9=>⟨.str,1,16,(.str [])⟩
 |22=>⟨.slice 80,1,24,.bf⟩
 |23=>⟨.slice 83,1,24,.bf⟩
 |24=>⟨.slice 86,1,24,.bf⟩
 |25=>⟨.slice 9,1,24,.bf⟩
 |27=>⟨.struct [(22,0),(23,1),(24,2),(25,3),(25,4)],5,120,(.agg [.bf,.bf,.bf,.bf,.bf])⟩
 |29=>⟨.slice 52,1,24,.bf⟩
 |32=>⟨.slice 90,1,24,.bf⟩
 |33=>⟨.slice 94,1,24,.bf⟩
 |34=>⟨.slice 96,1,24,.bf⟩
 |36=>⟨.struct [(32,0),(33,1),(34,2),(25,3),(25,4)],5,120,(.agg [.bf,.bf,.bf,.bf,.bf])⟩
 |48=>⟨.ptr 36,1,8,.dr⟩
 |50=>⟨.slice 2,1,24,.bf⟩
 |52=>⟨.struct [(2,0),(2,1),(50,2)],3,40,(.agg [(.int .i64 0),(.int .i64 0),.bf])⟩
 |78=>⟨.slice 156,1,24,.bf⟩
 |80=>⟨.struct [(9,0),(2,1),(78,2)],3,48,(.agg [(.str []),(.int .i64 0),.bf])⟩
 |83=>⟨.struct [(2,0),(50,1)],2,32,(.agg [(.int .i64 0),.bf])⟩
 |86=>⟨.struct [(9,0),(9,1),(9,2)],3,48,(.agg [(.str []),(.str []),(.str [])])⟩
 |88=>⟨.slice 128,1,24,.bf⟩
 |90=>⟨.struct [(9,0),(2,1),(88,2)],3,48,(.agg [(.str []),(.int .i64 0),.bf])⟩
 |92=>⟨.ptr 52,1,8,.dr⟩
 |94=>⟨.struct [(2,0),(50,1)],2,32,(.agg [(.int .i64 0),.bf])⟩
 |96=>⟨.struct [(9,0),(9,1),(9,2)],3,48,(.agg [(.str []),(.str []),(.str [])])⟩
 |100=>⟨.fn,1,8,.hole⟩
 |111=>⟨.fn,1,8,.hole⟩
 |122=>⟨.fn,1,8,.hole⟩
 |126=>⟨.slice 197,1,24,.bf⟩
 |128=>⟨.struct [(2,0),(2,1),(9,2),(126,3)],4,56,(.agg [(.int .i64 0),(.int .i64 0),(.str []),.bf])⟩
 |130=>⟨.ptr 90,1,8,.dr⟩
 |135=>⟨.fn,1,8,.hole⟩
 |144=>⟨.fn,1,8,.hole⟩
 |147=>⟨.fn,1,8,.hole⟩
 |151=>⟨.slice 5,1,24,.bf⟩
 |154=>⟨.slice 227,1,24,.bf⟩
 |156=>⟨.struct [(2,0),(2,1),(9,2),(154,3)],4,56,(.agg [(.int .i64 0),(.int .i64 0),(.str []),.bf])⟩
 |167=>⟨.fn,1,8,.hole⟩
 |172=>⟨.fn,1,8,.hole⟩
 |184=>⟨.struct [(2,0),(4,1)],2,16,(.agg [(.int .i64 0),(.bool false)])⟩
 |185=>⟨.slice 184,1,24,.bf⟩
 |197=>⟨.slice 225,1,24,.bf⟩
 |202=>⟨.ptr 128,1,8,.dr⟩
 |219=>⟨.fn,1,8,.hole⟩
 |225=>⟨.struct [(2,0),(2,1)],2,16,(.agg [(.int .i64 0),(.int .i64 0)])⟩
 |227=>⟨.slice 257,1,24,.bf⟩
 |233=>⟨.fn,1,8,.hole⟩
 |254=>⟨.ptr 225,1,8,.dr⟩
 |257=>⟨.struct [(2,0),(2,1)],2,16,(.agg [(.int .i64 0),(.int .i64 0)])⟩
 |_=>⟨.other,0,0,.hole⟩
theorem Vt:∀t,I8 Tryz.prog t (T t):=by
 intro t;unfold T;split
 .exact .inr ⟨Tryz.t2,_,_,by kernel_rfl,rfl,rfl,rfl,(λcs h=>by cases h;rfl),Tryz.underlying2,rfl⟩
 .exact .inr ⟨Tryz.t3,_,_,by kernel_rfl,rfl,rfl,rfl,(λcs h=>by cases h;rfl),Tryz.underlying3,rfl⟩
 .exact .inr ⟨Tryz.t4,_,_,by kernel_rfl,rfl,rfl,rfl,(λcs h=>by cases h;rfl),Tryz.underlying4,trivial⟩
 .exact .inr ⟨Tryz.t5,_,_,by kernel_rfl,rfl,rfl,rfl,(λcs h=>by cases h;rfl),Tryz.underlying5,rfl⟩
 .exact .inr ⟨Tryz.t9,_,_,by kernel_rfl,rfl,rfl,rfl,(λcs h=>by cases h;rfl),Tryz.underlying9,trivial⟩
 .exact .inr ⟨Tryz.t22,_,_,by kernel_rfl,rfl,rfl,rfl,(λcs h=>by cases h;rfl),Tryz.underlying22,rfl⟩
 .exact .inr ⟨Tryz.t23,_,_,by kernel_rfl,rfl,rfl,rfl,(λcs h=>by cases h;rfl),Tryz.underlying23,rfl⟩
 .exact .inr ⟨Tryz.t24,_,_,by kernel_rfl,rfl,rfl,rfl,(λcs h=>by cases h;rfl),Tryz.underlying24,rfl⟩
 .exact .inr ⟨Tryz.t25,_,_,by kernel_rfl,rfl,rfl,rfl,(λcs h=>by cases h;rfl),Tryz.underlying25,rfl⟩
 .exact .inr ⟨Tryz.t27,_,_,by kernel_rfl,rfl,rfl,rfl,(λcs h=>by cases h;rfl),Tryz.underlying27,rfl⟩
 .exact .inr ⟨Tryz.t29,_,_,by kernel_rfl,rfl,rfl,rfl,(λcs h=>by cases h;rfl),Tryz.underlying29,rfl⟩
 .exact .inr ⟨Tryz.t32,_,_,by kernel_rfl,rfl,rfl,rfl,(λcs h=>by cases h;rfl),Tryz.underlying32,rfl⟩
 .exact .inr ⟨Tryz.t33,_,_,by kernel_rfl,rfl,rfl,rfl,(λcs h=>by cases h;rfl),Tryz.underlying33,rfl⟩
 .exact .inr ⟨Tryz.t34,_,_,by kernel_rfl,rfl,rfl,rfl,(λcs h=>by cases h;rfl),Tryz.underlying34,rfl⟩
 .exact .inr ⟨Tryz.t36,_,_,by kernel_rfl,rfl,rfl,rfl,(λcs h=>by cases h;rfl),Tryz.underlying36,rfl⟩
 .exact .inr ⟨Tryz.t48,_,_,by kernel_rfl,rfl,rfl,rfl,(λcs h=>by cases h;rfl),Tryz.underlying48,rfl⟩
 .exact .inr ⟨Tryz.t50,_,_,by kernel_rfl,rfl,rfl,rfl,(λcs h=>by cases h;rfl),Tryz.underlying50,rfl⟩
 .exact .inr ⟨Tryz.t52,_,_,by kernel_rfl,rfl,rfl,rfl,(λcs h=>by cases h;rfl),Tryz.underlying52,rfl⟩
 .exact .inr ⟨Tryz.t78,_,_,by kernel_rfl,rfl,rfl,rfl,(λcs h=>by cases h;rfl),Tryz.underlying78,rfl⟩
 .exact .inr ⟨Tryz.t80,_,_,by kernel_rfl,rfl,rfl,rfl,(λcs h=>by cases h;rfl),Tryz.underlying80,rfl⟩
 .exact .inr ⟨Tryz.t83,_,_,by kernel_rfl,rfl,rfl,rfl,(λcs h=>by cases h;rfl),Tryz.underlying83,rfl⟩
 .exact .inr ⟨Tryz.t86,_,_,by kernel_rfl,rfl,rfl,rfl,(λcs h=>by cases h;rfl),Tryz.underlying86,rfl⟩
 .exact .inr ⟨Tryz.t88,_,_,by kernel_rfl,rfl,rfl,rfl,(λcs h=>by cases h;rfl),Tryz.underlying88,rfl⟩
 .exact .inr ⟨Tryz.t90,_,_,by kernel_rfl,rfl,rfl,rfl,(λcs h=>by cases h;rfl),Tryz.underlying90,rfl⟩
 .exact .inr ⟨Tryz.t92,_,_,by kernel_rfl,rfl,rfl,rfl,(λcs h=>by cases h;rfl),Tryz.underlying92,rfl⟩
 .exact .inr ⟨Tryz.t94,_,_,by kernel_rfl,rfl,rfl,rfl,(λcs h=>by cases h;rfl),Tryz.underlying94,rfl⟩
 .exact .inr ⟨Tryz.t96,_,_,by kernel_rfl,rfl,rfl,rfl,(λcs h=>by cases h;rfl),Tryz.underlying96,rfl⟩
 .exact .inr ⟨Tryz.t100,_,_,by kernel_rfl,rfl,rfl,rfl,(λcs h=>by cases h),Tryz.underlying100,trivial⟩
 .exact .inr ⟨Tryz.t111,_,_,by kernel_rfl,rfl,rfl,rfl,(λcs h=>by cases h),Tryz.underlying111,trivial⟩
 .exact .inr ⟨Tryz.t122,_,_,by kernel_rfl,rfl,rfl,rfl,(λcs h=>by cases h),Tryz.underlying122,trivial⟩
 .exact .inr ⟨Tryz.t126,_,_,by kernel_rfl,rfl,rfl,rfl,(λcs h=>by cases h;rfl),Tryz.underlying126,rfl⟩
 .exact .inr ⟨Tryz.t128,_,_,by kernel_rfl,rfl,rfl,rfl,(λcs h=>by cases h;rfl),Tryz.underlying128,rfl⟩
 .exact .inr ⟨Tryz.t130,_,_,by kernel_rfl,rfl,rfl,rfl,(λcs h=>by cases h;rfl),Tryz.underlying130,rfl⟩
 .exact .inr ⟨Tryz.t135,_,_,by kernel_rfl,rfl,rfl,rfl,(λcs h=>by cases h),Tryz.underlying135,trivial⟩
 .exact .inr ⟨Tryz.t144,_,_,by kernel_rfl,rfl,rfl,rfl,(λcs h=>by cases h),Tryz.underlying144,trivial⟩
 .exact .inr ⟨Tryz.t147,_,_,by kernel_rfl,rfl,rfl,rfl,(λcs h=>by cases h),Tryz.underlying147,trivial⟩
 .exact .inr ⟨Tryz.t151,_,_,by kernel_rfl,rfl,rfl,rfl,(λcs h=>by cases h;rfl),Tryz.underlying151,rfl⟩
 .exact .inr ⟨Tryz.t154,_,_,by kernel_rfl,rfl,rfl,rfl,(λcs h=>by cases h;rfl),Tryz.underlying154,rfl⟩
 .exact .inr ⟨Tryz.t156,_,_,by kernel_rfl,rfl,rfl,rfl,(λcs h=>by cases h;rfl),Tryz.underlying156,rfl⟩
 .exact .inr ⟨Tryz.t167,_,_,by kernel_rfl,rfl,rfl,rfl,(λcs h=>by cases h),Tryz.underlying167,trivial⟩
 .exact .inr ⟨Tryz.t172,_,_,by kernel_rfl,rfl,rfl,rfl,(λcs h=>by cases h),Tryz.underlying172,trivial⟩
 .exact .inr ⟨Tryz.t184,_,_,by kernel_rfl,rfl,rfl,rfl,(λcs h=>by cases h;rfl),Tryz.underlying184,rfl⟩
 .exact .inr ⟨Tryz.t185,_,_,by kernel_rfl,rfl,rfl,rfl,(λcs h=>by cases h;rfl),Tryz.underlying185,rfl⟩
 .exact .inr ⟨Tryz.t197,_,_,by kernel_rfl,rfl,rfl,rfl,(λcs h=>by cases h;rfl),Tryz.underlying197,rfl⟩
 .exact .inr ⟨Tryz.t202,_,_,by kernel_rfl,rfl,rfl,rfl,(λcs h=>by cases h;rfl),Tryz.underlying202,rfl⟩
 .exact .inr ⟨Tryz.t219,_,_,by kernel_rfl,rfl,rfl,rfl,(λcs h=>by cases h),Tryz.underlying219,trivial⟩
 .exact .inr ⟨Tryz.t225,_,_,by kernel_rfl,rfl,rfl,rfl,(λcs h=>by cases h;rfl),Tryz.underlying225,rfl⟩
 .exact .inr ⟨Tryz.t227,_,_,by kernel_rfl,rfl,rfl,rfl,(λcs h=>by cases h;rfl),Tryz.underlying227,rfl⟩
 .exact .inr ⟨Tryz.t233,_,_,by kernel_rfl,rfl,rfl,rfl,(λcs h=>by cases h),Tryz.underlying233,trivial⟩
 .exact .inr ⟨Tryz.t254,_,_,by kernel_rfl,rfl,rfl,rfl,(λcs h=>by cases h;rfl),Tryz.underlying254,rfl⟩
 .exact .inr ⟨Tryz.t257,_,_,by kernel_rfl,rfl,rfl,rfl,(λcs h=>by cases h;rfl),Tryz.underlying257,rfl⟩
 .exact .inl ⟨_,_,_,_,rfl,rfl⟩
noncomputable def al:bW:=⟨Tryz.prog,T,λ_=>[]⟩
theorem Fk:al.eF:=⟨Vt,by kernel_rfl⟩
theorem Vu:al.T 2=⟨.int .i64,1,8,(.int .i64 0)⟩:=rfl
theorem agm:al.T 3=⟨.int .i64,1,8,(.int .i64 0)⟩:=rfl
theorem Vv:al.T 4=⟨.bool,1,1,(.bool false)⟩:=rfl
theorem Vw:al.T 5=⟨.int .u8,1,1,(.int .u8 0)⟩:=rfl
theorem Vx:al.T 9=⟨.str,1,16,(.str [])⟩:=rfl
theorem Vy:al.T 22=⟨.slice 80,1,24,.bf⟩:=rfl
theorem Vz:al.T 23=⟨.slice 83,1,24,.bf⟩:=rfl
theorem VA:al.T 24=⟨.slice 86,1,24,.bf⟩:=rfl
theorem VB:al.T 25=⟨.slice 9,1,24,.bf⟩:=rfl
theorem VC:al.T 27=⟨.struct [(22,0),(23,1),(24,2),(25,3),(25,4)],5,120,(.agg [.bf,.bf,.bf,.bf,.bf])⟩:=rfl
theorem VD:al.T 29=⟨.slice 52,1,24,.bf⟩:=rfl
theorem VE:al.T 32=⟨.slice 90,1,24,.bf⟩:=rfl
theorem VF:al.T 33=⟨.slice 94,1,24,.bf⟩:=rfl
theorem VG:al.T 34=⟨.slice 96,1,24,.bf⟩:=rfl
theorem VH:al.T 36=⟨.struct [(32,0),(33,1),(34,2),(25,3),(25,4)],5,120,(.agg [.bf,.bf,.bf,.bf,.bf])⟩:=rfl
theorem agn:al.T 48=⟨.ptr 36,1,8,.dr⟩:=rfl
theorem VI:al.T 50=⟨.slice 2,1,24,.bf⟩:=rfl
theorem VJ:al.T 52=⟨.struct [(2,0),(2,1),(50,2)],3,40,(.agg [(.int .i64 0),(.int .i64 0),.bf])⟩:=rfl
theorem VK:al.T 78=⟨.slice 156,1,24,.bf⟩:=rfl
theorem VL:al.T 80=⟨.struct [(9,0),(2,1),(78,2)],3,48,(.agg [(.str []),(.int .i64 0),.bf])⟩:=rfl
theorem VM:al.T 83=⟨.struct [(2,0),(50,1)],2,32,(.agg [(.int .i64 0),.bf])⟩:=rfl
theorem VN:al.T 86=⟨.struct [(9,0),(9,1),(9,2)],3,48,(.agg [(.str []),(.str []),(.str [])])⟩:=rfl
theorem VO:al.T 88=⟨.slice 128,1,24,.bf⟩:=rfl
theorem VP:al.T 90=⟨.struct [(9,0),(2,1),(88,2)],3,48,(.agg [(.str []),(.int .i64 0),.bf])⟩:=rfl
theorem ago:al.T 92=⟨.ptr 52,1,8,.dr⟩:=rfl
theorem VQ:al.T 94=⟨.struct [(2,0),(50,1)],2,32,(.agg [(.int .i64 0),.bf])⟩:=rfl
theorem VR:al.T 96=⟨.struct [(9,0),(9,1),(9,2)],3,48,(.agg [(.str []),(.str []),(.str [])])⟩:=rfl
theorem agp:al.T 100=⟨.fn,1,8,.hole⟩:=rfl
theorem agq:al.T 111=⟨.fn,1,8,.hole⟩:=rfl
theorem agr:al.T 122=⟨.fn,1,8,.hole⟩:=rfl
theorem VS:al.T 126=⟨.slice 197,1,24,.bf⟩:=rfl
theorem VT:al.T 128=⟨.struct [(2,0),(2,1),(9,2),(126,3)],4,56,(.agg [(.int .i64 0),(.int .i64 0),(.str []),.bf])⟩:=rfl
theorem ags:al.T 130=⟨.ptr 90,1,8,.dr⟩:=rfl
theorem agt:al.T 135=⟨.fn,1,8,.hole⟩:=rfl
theorem agu:al.T 144=⟨.fn,1,8,.hole⟩:=rfl
theorem agv:al.T 147=⟨.fn,1,8,.hole⟩:=rfl
theorem VU:al.T 151=⟨.slice 5,1,24,.bf⟩:=rfl
theorem VV:al.T 154=⟨.slice 227,1,24,.bf⟩:=rfl
theorem VW:al.T 156=⟨.struct [(2,0),(2,1),(9,2),(154,3)],4,56,(.agg [(.int .i64 0),(.int .i64 0),(.str []),.bf])⟩:=rfl
theorem agw:al.T 167=⟨.fn,1,8,.hole⟩:=rfl
theorem agx:al.T 172=⟨.fn,1,8,.hole⟩:=rfl
theorem VX:al.T 184=⟨.struct [(2,0),(4,1)],2,16,(.agg [(.int .i64 0),(.bool false)])⟩:=rfl
theorem VY:al.T 185=⟨.slice 184,1,24,.bf⟩:=rfl
theorem VZ:al.T 197=⟨.slice 225,1,24,.bf⟩:=rfl
theorem agy:al.T 202=⟨.ptr 128,1,8,.dr⟩:=rfl
theorem V0:al.T 219=⟨.fn,1,8,.hole⟩:=rfl
theorem V1:al.T 225=⟨.struct [(2,0),(2,1)],2,16,(.agg [(.int .i64 0),(.int .i64 0)])⟩:=rfl
theorem V2:al.T 227=⟨.slice 257,1,24,.bf⟩:=rfl
theorem agz:al.T 233=⟨.fn,1,8,.hole⟩:=rfl
theorem agA:al.T 254=⟨.ptr 225,1,8,.dr⟩:=rfl
theorem V3:al.T 257=⟨.struct [(2,0),(2,1)],2,16,(.agg [(.int .i64 0),(.int .i64 0)])⟩:=rfl
end Go.Proofs.YtngohoaiimbacabGreatDoor
