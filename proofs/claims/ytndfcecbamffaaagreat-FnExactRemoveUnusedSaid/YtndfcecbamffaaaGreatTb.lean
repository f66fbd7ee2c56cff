/- Part of a proof that a law returns true for every input. No condition. -/
import Derived.Test.YtndfcecbamffaaaGreatProg
import Derived.KernelRfl
import Derived.Test.YtndfcecbamffaaaGreatFwF
namespace Go.Proofs.YtndfcecbamffaaaGreat
open Go.cW
def T:TypeId->fu
 |2=>⟨.int .i64,1,8,(.int .i64 0)⟩
 |3=>⟨.int .i64,1,8,(.int .i64 0)⟩
 |4=>⟨.bool,1,1,(.bool false)⟩
 |5=>⟨.int .u8,1,1,(.int .u8 0)⟩
 |9=>⟨.str,1,16,(.str [])⟩
 |22=>⟨.slice 2,1,24,.aJ⟩
 |23=>⟨.slice 83,1,24,.aJ⟩
 |25=>⟨.struct [(2,0),(22,1),(23,2)],3,56,(.agg [(.int .i64 0),.aJ,.aJ])⟩
 |27=>⟨.slice 62,1,24,.aJ⟩
 |29=>⟨.struct [(2,0),(22,1),(27,2)],3,56,(.agg [(.int .i64 0),.aJ,.aJ])⟩
 |49=>⟨.ptr 29,1,8,.c8⟩
 |50=>⟨.slice 4,1,24,.aJ⟩
 |59=>⟨.slice 102,1,24,.aJ⟩
 |60=>⟨.slice 59,1,24,.aJ⟩
 |62=>⟨.struct [(22,0),(59,1),(9,2),(60,3),(60,4)],5,112,(.agg [.aJ,.aJ,(.str []),.aJ,.aJ])⟩
 |64=>⟨.fn,1,8,.hole⟩
 |75=>⟨.fn,1,8,.hole⟩
 |79=>⟨.fn,1,8,.hole⟩
 |80=>⟨.slice 173,1,24,.aJ⟩
 |81=>⟨.slice 80,1,24,.aJ⟩
 |83=>⟨.struct [(22,0),(80,1),(9,2),(81,3),(81,4)],5,112,(.agg [.aJ,.aJ,(.str []),.aJ,.aJ])⟩
 |87=>⟨.ptr 62,1,8,.c8⟩
 |94=>⟨.fn,1,8,.hole⟩
 |95=>⟨.fn,1,8,.hole⟩
 |100=>⟨.fn,1,8,.hole⟩
 |102=>⟨.struct [(2,0),(2,1)],2,16,(.agg [(.int .i64 0),(.int .i64 0)])⟩
 |108=>⟨.fn,1,8,.hole⟩
 |119=>⟨.fn,1,8,.hole⟩
 |129=>⟨.slice 5,1,24,.aJ⟩
 |132=>⟨.fn,1,8,.hole⟩
 |161=>⟨.slice 60,1,24,.aJ⟩
 |167=>⟨.ptr 102,1,8,.c8⟩
 |173=>⟨.struct [(2,0),(2,1)],2,16,(.agg [(.int .i64 0),(.int .i64 0)])⟩
 |_=>⟨.other,0,0,.hole⟩
theorem Tm:∀t,G1 Tryz.prog t (T t):=by
 intro t;unfold T;split
 .exact .inr ⟨Tryz.t2,_,_,by kernel_rfl,rfl,rfl,rfl,(λcs h=>by cases h;rfl),Tryz.underlying2,rfl⟩
 .exact .inr ⟨Tryz.t3,_,_,by kernel_rfl,rfl,rfl,rfl,(λcs h=>by cases h;rfl),Tryz.underlying3,rfl⟩
 .exact .inr ⟨Tryz.t4,_,_,by kernel_rfl,rfl,rfl,rfl,(λcs h=>by cases h;rfl),Tryz.underlying4,trivial⟩
 .exact .inr ⟨Tryz.t5,_,_,by kernel_rfl,rfl,rfl,rfl,(λcs h=>by cases h;rfl),Tryz.underlying5,rfl⟩
 .exact .inr ⟨Tryz.t9,_,_,by kernel_rfl,rfl,rfl,rfl,(λcs h=>by cases h;rfl),Tryz.underlying9,trivial⟩
 .exact .inr ⟨Tryz.t22,_,_,by kernel_rfl,rfl,rfl,rfl,(λcs h=>by cases h;rfl),Tryz.underlying22,rfl⟩
 .exact .inr ⟨Tryz.t23,_,_,by kernel_rfl,rfl,rfl,rfl,(λcs h=>by cases h;rfl),Tryz.underlying23,rfl⟩
 .exact .inr ⟨Tryz.t25,_,_,by kernel_rfl,rfl,rfl,rfl,(λcs h=>by cases h;rfl),Tryz.underlying25,rfl⟩
 .exact .inr ⟨Tryz.t27,_,_,by kernel_rfl,rfl,rfl,rfl,(λcs h=>by cases h;rfl),Tryz.underlying27,rfl⟩
 .exact .inr ⟨Tryz.t29,_,_,by kernel_rfl,rfl,rfl,rfl,(λcs h=>by cases h;rfl),Tryz.underlying29,rfl⟩
 .exact .inr ⟨Tryz.t49,_,_,by kernel_rfl,rfl,rfl,rfl,(λcs h=>by cases h;rfl),Tryz.underlying49,rfl⟩
 .exact .inr ⟨Tryz.t50,_,_,by kernel_rfl,rfl,rfl,rfl,(λcs h=>by cases h;rfl),Tryz.underlying50,rfl⟩
 .exact .inr ⟨Tryz.t59,_,_,by kernel_rfl,rfl,rfl,rfl,(λcs h=>by cases h;rfl),Tryz.underlying59,rfl⟩
 .exact .inr ⟨Tryz.t60,_,_,by kernel_rfl,rfl,rfl,rfl,(λcs h=>by cases h;rfl),Tryz.underlying60,rfl⟩
 .exact .inr ⟨Tryz.t62,_,_,by kernel_rfl,rfl,rfl,rfl,(λcs h=>by cases h;rfl),Tryz.underlying62,rfl⟩
 .exact .inr ⟨Tryz.t64,_,_,by kernel_rfl,rfl,rfl,rfl,(λcs h=>by cases h),Tryz.underlying64,trivial⟩
 .exact .inr ⟨Tryz.t75,_,_,by kernel_rfl,rfl,rfl,rfl,(λcs h=>by cases h),Tryz.underlying75,trivial⟩
 .exact .inr ⟨Tryz.t79,_,_,by kernel_rfl,rfl,rfl,rfl,(λcs h=>by cases h),Tryz.underlying79,trivial⟩
 .exact .inr ⟨Tryz.t80,_,_,by kernel_rfl,rfl,rfl,rfl,(λcs h=>by cases h;rfl),Tryz.underlying80,rfl⟩
 .exact .inr ⟨Tryz.t81,_,_,by kernel_rfl,rfl,rfl,rfl,(λcs h=>by cases h;rfl),Tryz.underlying81,rfl⟩
 .exact .inr ⟨Tryz.t83,_,_,by kernel_rfl,rfl,rfl,rfl,(λcs h=>by cases h;rfl),Tryz.underlying83,rfl⟩
 .exact .inr ⟨Tryz.t87,_,_,by kernel_rfl,rfl,rfl,rfl,(λcs h=>by cases h;rfl),Tryz.underlying87,rfl⟩
 .exact .inr ⟨Tryz.t94,_,_,by kernel_rfl,rfl,rfl,rfl,(λcs h=>by cases h),Tryz.underlying94,trivial⟩
 .exact .inr ⟨Tryz.t95,_,_,by kernel_rfl,rfl,rfl,rfl,(λcs h=>by cases h),Tryz.underlying95,trivial⟩
 .exact .inr ⟨Tryz.t100,_,_,by kernel_rfl,rfl,rfl,rfl,(λcs h=>by cases h),Tryz.underlying100,trivial⟩
 .exact .inr ⟨Tryz.t102,_,_,by kernel_rfl,rfl,rfl,rfl,(λcs h=>by cases h;rfl),Tryz.underlying102,rfl⟩
 .exact .inr ⟨Tryz.t108,_,_,by kernel_rfl,rfl,rfl,rfl,(λcs h=>by cases h),Tryz.underlying108,trivial⟩
 .exact .inr ⟨Tryz.t119,_,_,by kernel_rfl,rfl,rfl,rfl,(λcs h=>by cases h),Tryz.underlying119,trivial⟩
 .exact .inr ⟨Tryz.t129,_,_,by kernel_rfl,rfl,rfl,rfl,(λcs h=>by cases h;rfl),Tryz.underlying129,rfl⟩
 .exact .inr ⟨Tryz.t132,_,_,by kernel_rfl,rfl,rfl,rfl,(λcs h=>by cases h),Tryz.underlying132,trivial⟩
 .exact .inr ⟨Tryz.t161,_,_,by kernel_rfl,rfl,rfl,rfl,(λcs h=>by cases h;rfl),Tryz.underlying161,rfl⟩
 .exact .inr ⟨Tryz.t167,_,_,by kernel_rfl,rfl,rfl,rfl,(λcs h=>by cases h;rfl),Tryz.underlying167,rfl⟩
 .exact .inr ⟨Tryz.t173,_,_,by kernel_rfl,rfl,rfl,rfl,(λcs h=>by cases h;rfl),Tryz.underlying173,rfl⟩
 .exact .inl ⟨_,_,_,_,rfl,rfl⟩
noncomputable def az:bI:=⟨Tryz.prog,T,λ_=>[]⟩
theorem K5:az.Ok:=⟨Tm,by kernel_rfl⟩
theorem Tn:az.T 2=⟨.int .i64,1,8,(.int .i64 0)⟩:=rfl
theorem To:az.T 3=⟨.int .i64,1,8,(.int .i64 0)⟩:=rfl
theorem Tp:az.T 4=⟨.bool,1,1,(.bool false)⟩:=rfl
theorem Tq:az.T 5=⟨.int .u8,1,1,(.int .u8 0)⟩:=rfl
theorem Tr:az.T 9=⟨.str,1,16,(.str [])⟩:=rfl
theorem Ts:az.T 22=⟨.slice 2,1,24,.aJ⟩:=rfl
theorem Tt:az.T 23=⟨.slice 83,1,24,.aJ⟩:=rfl
theorem Tu:az.T 25=⟨.struct [(2,0),(22,1),(23,2)],3,56,(.agg [(.int .i64 0),.aJ,.aJ])⟩:=rfl
theorem Tv:az.T 27=⟨.slice 62,1,24,.aJ⟩:=rfl
theorem Tw:az.T 29=⟨.struct [(2,0),(22,1),(27,2)],3,56,(.agg [(.int .i64 0),.aJ,.aJ])⟩:=rfl
theorem aaP:az.T 49=⟨.ptr 29,1,8,.c8⟩:=rfl
theorem Tx:az.T 50=⟨.slice 4,1,24,.aJ⟩:=rfl
theorem Ty:az.T 59=⟨.slice 102,1,24,.aJ⟩:=rfl
theorem Tz:az.T 60=⟨.slice 59,1,24,.aJ⟩:=rfl
theorem TA:az.T 62=⟨.struct [(22,0),(59,1),(9,2),(60,3),(60,4)],5,112,(.agg [.aJ,.aJ,(.str []),.aJ,.aJ])⟩:=rfl
theorem TB:az.T 64=⟨.fn,1,8,.hole⟩:=rfl
theorem aaQ:az.T 75=⟨.fn,1,8,.hole⟩:=rfl
theorem aaR:az.T 79=⟨.fn,1,8,.hole⟩:=rfl
theorem TC:az.T 80=⟨.slice 173,1,24,.aJ⟩:=rfl
theorem TD:az.T 81=⟨.slice 80,1,24,.aJ⟩:=rfl
theorem TE:az.T 83=⟨.struct [(22,0),(80,1),(9,2),(81,3),(81,4)],5,112,(.agg [.aJ,.aJ,(.str []),.aJ,.aJ])⟩:=rfl
theorem aaS:az.T 87=⟨.ptr 62,1,8,.c8⟩:=rfl
theorem aaT:az.T 94=⟨.fn,1,8,.hole⟩:=rfl
theorem aaU:az.T 95=⟨.fn,1,8,.hole⟩:=rfl
theorem aaV:az.T 100=⟨.fn,1,8,.hole⟩:=rfl
theorem TF:az.T 102=⟨.struct [(2,0),(2,1)],2,16,(.agg [(.int .i64 0),(.int .i64 0)])⟩:=rfl
theorem aaW:az.T 108=⟨.fn,1,8,.hole⟩:=rfl
theorem aaX:az.T 119=⟨.fn,1,8,.hole⟩:=rfl
theorem TG:az.T 129=⟨.slice 5,1,24,.aJ⟩:=rfl
theorem aaY:az.T 132=⟨.fn,1,8,.hole⟩:=rfl
theorem TH:az.T 161=⟨.slice 60,1,24,.aJ⟩:=rfl
theorem aaZ:az.T 167=⟨.ptr 102,1,8,.c8⟩:=rfl
theorem TI:az.T 173=⟨.struct [(2,0),(2,1)],2,16,(.agg [(.int .i64 0),(.int .i64 0)])⟩:=rfl
end Go.Proofs.YtndfcecbamffaaaGreat
