/- Part of a proof that a law returns true for every input. No condition. -/
import Derived.Test.YtndfcecbamffaaaGreatProg
import Derived.KernelRfl
import Derived.Test.YtndfcecbamffaaaGreatFwF
namespace Go.Proofs.YtndfcecbamffaaaGreat
open Go.c3
def T:TypeId->fW
 |2=>⟨.int .i64,1,8,(.int .i64 0)⟩
 |3=>⟨.int .i64,1,8,(.int .i64 0)⟩
 |4=>⟨.bool,1,1,(.bool false)⟩
 |5=>⟨.int .u8,1,1,(.int .u8 0)⟩
 |9=>⟨.str,1,16,(.str [])⟩
 |22=>⟨.slice 2,1,24,.aN⟩
 |23=>⟨.slice 83,1,24,.aN⟩
 |25=>⟨.struct [(2,0),(22,1),(23,2)],3,56,(.agg [(.int .i64 0),.aN,.aN])⟩
 |27=>⟨.slice 62,1,24,.aN⟩
 |29=>⟨.struct [(2,0),(22,1),(27,2)],3,56,(.agg [(.int .i64 0),.aN,.aN])⟩
 |36=>⟨.fn,1,8,.hole⟩
 |49=>⟨.ptr 29,1,8,.db⟩
 |50=>⟨.slice 4,1,24,.aN⟩
 |59=>⟨.slice 102,1,24,.aN⟩
 |60=>⟨.slice 59,1,24,.aN⟩
 |62=>⟨.struct [(22,0),(59,1),(9,2),(60,3),(60,4)],5,112,(.agg [.aN,.aN,(.str []),.aN,.aN])⟩
 |64=>⟨.fn,1,8,.hole⟩
 |69=>⟨.struct [(9,0),(9,1),(9,2)],3,48,(.agg [(.str []),(.str []),(.str [])])⟩
 |70=>⟨.struct [(9,0),(9,1),(9,2)],3,48,(.agg [(.str []),(.str []),(.str [])])⟩
 |73=>⟨.fn,1,8,.hole⟩
 |75=>⟨.fn,1,8,.hole⟩
 |77=>⟨.fn,1,8,.hole⟩
 |79=>⟨.fn,1,8,.hole⟩
 |80=>⟨.slice 173,1,24,.aN⟩
 |81=>⟨.slice 80,1,24,.aN⟩
 |83=>⟨.struct [(22,0),(80,1),(9,2),(81,3),(81,4)],5,112,(.agg [.aN,.aN,(.str []),.aN,.aN])⟩
 |87=>⟨.ptr 62,1,8,.db⟩
 |94=>⟨.fn,1,8,.hole⟩
 |95=>⟨.fn,1,8,.hole⟩
 |98=>⟨.ptr 105,1,8,.db⟩
 |102=>⟨.struct [(2,0),(2,1)],2,16,(.agg [(.int .i64 0),(.int .i64 0)])⟩
 |103=>⟨.slice 98,1,24,.aN⟩
 |105=>⟨.struct [(102,0),(103,2)],3,40,(.agg [(.agg [(.int .i64 0),(.int .i64 0)]),.aN])⟩
 |108=>⟨.fn,1,8,.hole⟩
 |119=>⟨.fn,1,8,.hole⟩
 |129=>⟨.slice 5,1,24,.aN⟩
 |132=>⟨.fn,1,8,.hole⟩
 |161=>⟨.slice 60,1,24,.aN⟩
 |167=>⟨.ptr 102,1,8,.db⟩
 |173=>⟨.struct [(2,0),(2,1)],2,16,(.agg [(.int .i64 0),(.int .i64 0)])⟩
 |_=>⟨.other,0,0,.hole⟩
theorem UR:∀t,Ic Tryz.prog t (T t):=by
 intro t;unfold T;split
 .exact .inr ⟨Tryz.t2,_,_,by kernel_rfl,rfl,rfl,rfl,(λcs h=>by cases h;rfl),Tryz.underlying2,rfl⟩
 .exact .inr ⟨Tryz.t3,_,_,by kernel_rfl,rfl,rfl,rfl,(λcs h=>by cases h;rfl),Tryz.underlying3,rfl⟩
 .exact .inr ⟨Tryz.t4,_,_,by kernel_rfl,rfl,rfl,rfl,(λcs h=>by cases h;rfl),Tryz.underlying4,trivial⟩
 .exact .inr ⟨Tryz.t5,_,_,by kernel_rfl,rfl,rfl,rfl,(λcs h=>by cases h;rfl),Tryz.underlying5,rfl⟩
 .exact .inr ⟨Tryz.t9,_,_,by kernel_rfl,rfl,rfl,rfl,(λcs h=>by cases h;rfl),Tryz.underlying9,trivial⟩
 .exact .inr ⟨Tryz.t22,_,_,by kernel_rfl,rfl,rfl,rfl,(λcs h=>by cases h;rfl),Tryz.underlying22,rfl⟩
 .exact .inr ⟨Tryz.t23,_,_,by kernel_rfl,rfl,rfl,rfl,(λcs h=>by cases h;rfl),Tryz.underlying23,rfl⟩
 .exact .inr ⟨Tryz.t25,_,_,by kernel_rfl,rfl,rfl,rfl,(λcs h=>by cases h;rfl),Tryz.underlying25,rfl⟩
 .exact .inr ⟨Tryz.t27,_,_,by kernel_rfl,rfl,rfl,rfl,(λcs h=>by cases h;rfl),Tryz.underlying27,rfl⟩
 .exact .inr ⟨Tryz.t29,_,_,by kernel_rfl,rfl,rfl,rfl,(λcs h=>by cases h;rfl),Tryz.underlying29,rfl⟩
 .exact .inr ⟨Tryz.t36,_,_,by kernel_rfl,rfl,rfl,rfl,(λcs h=>by cases h),Tryz.underlying36,trivial⟩
 .exact .inr ⟨Tryz.t49,_,_,by kernel_rfl,rfl,rfl,rfl,(λcs h=>by cases h;rfl),Tryz.underlying49,rfl⟩
 .exact .inr ⟨Tryz.t50,_,_,by kernel_rfl,rfl,rfl,rfl,(λcs h=>by cases h;rfl),Tryz.underlying50,rfl⟩
 .exact .inr ⟨Tryz.t59,_,_,by kernel_rfl,rfl,rfl,rfl,(λcs h=>by cases h;rfl),Tryz.underlying59,rfl⟩
 .exact .inr ⟨Tryz.t60,_,_,by kernel_rfl,rfl,rfl,rfl,(λcs h=>by cases h;rfl),Tryz.underlying60,rfl⟩
 .exact .inr ⟨Tryz.t62,_,_,by kernel_rfl,rfl,rfl,rfl,(λcs h=>by cases h;rfl),Tryz.underlying62,rfl⟩
 .exact .inr ⟨Tryz.t64,_,_,by kernel_rfl,rfl,rfl,rfl,(λcs h=>by cases h),Tryz.underlying64,trivial⟩
 .exact .inr ⟨Tryz.t69,_,_,by kernel_rfl,rfl,rfl,rfl,(λcs h=>by cases h;rfl),Tryz.underlying69,rfl⟩
 .exact .inr ⟨Tryz.t70,_,_,by kernel_rfl,rfl,rfl,rfl,(λcs h=>by cases h;rfl),Tryz.underlying70,rfl⟩
 .exact .inr ⟨Tryz.t73,_,_,by kernel_rfl,rfl,rfl,rfl,(λcs h=>by cases h),Tryz.underlying73,trivial⟩
 .exact .inr ⟨Tryz.t75,_,_,by kernel_rfl,rfl,rfl,rfl,(λcs h=>by cases h),Tryz.underlying75,trivial⟩
 .exact .inr ⟨Tryz.t77,_,_,by kernel_rfl,rfl,rfl,rfl,(λcs h=>by cases h),Tryz.underlying77,trivial⟩
 .exact .inr ⟨Tryz.t79,_,_,by kernel_rfl,rfl,rfl,rfl,(λcs h=>by cases h),Tryz.underlying79,trivial⟩
 .exact .inr ⟨Tryz.t80,_,_,by kernel_rfl,rfl,rfl,rfl,(λcs h=>by cases h;rfl),Tryz.underlying80,rfl⟩
 .exact .inr ⟨Tryz.t81,_,_,by kernel_rfl,rfl,rfl,rfl,(λcs h=>by cases h;rfl),Tryz.underlying81,rfl⟩
 .exact .inr ⟨Tryz.t83,_,_,by kernel_rfl,rfl,rfl,rfl,(λcs h=>by cases h;rfl),Tryz.underlying83,rfl⟩
 .exact .inr ⟨Tryz.t87,_,_,by kernel_rfl,rfl,rfl,rfl,(λcs h=>by cases h;rfl),Tryz.underlying87,rfl⟩
 .exact .inr ⟨Tryz.t94,_,_,by kernel_rfl,rfl,rfl,rfl,(λcs h=>by cases h),Tryz.underlying94,trivial⟩
 .exact .inr ⟨Tryz.t95,_,_,by kernel_rfl,rfl,rfl,rfl,(λcs h=>by cases h),Tryz.underlying95,trivial⟩
 .exact .inr ⟨Tryz.t98,_,_,by kernel_rfl,rfl,rfl,rfl,(λcs h=>by cases h;rfl),Tryz.underlying98,rfl⟩
 .exact .inr ⟨Tryz.t102,_,_,by kernel_rfl,rfl,rfl,rfl,(λcs h=>by cases h;rfl),Tryz.underlying102,rfl⟩
 .exact .inr ⟨Tryz.t103,_,_,by kernel_rfl,rfl,rfl,rfl,(λcs h=>by cases h;rfl),Tryz.underlying103,rfl⟩
 .exact .inr ⟨Tryz.t105,_,_,by kernel_rfl,rfl,rfl,rfl,(λcs h=>by cases h;rfl),Tryz.underlying105,rfl⟩
 .exact .inr ⟨Tryz.t108,_,_,by kernel_rfl,rfl,rfl,rfl,(λcs h=>by cases h),Tryz.underlying108,trivial⟩
 .exact .inr ⟨Tryz.t119,_,_,by kernel_rfl,rfl,rfl,rfl,(λcs h=>by cases h),Tryz.underlying119,trivial⟩
 .exact .inr ⟨Tryz.t129,_,_,by kernel_rfl,rfl,rfl,rfl,(λcs h=>by cases h;rfl),Tryz.underlying129,rfl⟩
 .exact .inr ⟨Tryz.t132,_,_,by kernel_rfl,rfl,rfl,rfl,(λcs h=>by cases h),Tryz.underlying132,trivial⟩
 .exact .inr ⟨Tryz.t161,_,_,by kernel_rfl,rfl,rfl,rfl,(λcs h=>by cases h;rfl),Tryz.underlying161,rfl⟩
 .exact .inr ⟨Tryz.t167,_,_,by kernel_rfl,rfl,rfl,rfl,(λcs h=>by cases h;rfl),Tryz.underlying167,rfl⟩
 .exact .inr ⟨Tryz.t173,_,_,by kernel_rfl,rfl,rfl,rfl,(λcs h=>by cases h;rfl),Tryz.underlying173,rfl⟩
 .exact .inl ⟨_,_,_,_,rfl,rfl⟩
noncomputable def aq:bH:=⟨Tryz.prog,T,λ_=>[]⟩
theorem AF:aq.dL:=⟨UR,by kernel_rfl⟩
theorem EY:aq.T 2=⟨.int .i64,1,8,(.int .i64 0)⟩:=rfl
theorem US:aq.T 3=⟨.int .i64,1,8,(.int .i64 0)⟩:=rfl
theorem UT:aq.T 4=⟨.bool,1,1,(.bool false)⟩:=rfl
theorem UU:aq.T 5=⟨.int .u8,1,1,(.int .u8 0)⟩:=rfl
theorem UW:aq.T 9=⟨.str,1,16,(.str [])⟩:=rfl
theorem UX:aq.T 22=⟨.slice 2,1,24,.aN⟩:=rfl
theorem UY:aq.T 23=⟨.slice 83,1,24,.aN⟩:=rfl
theorem UZ:aq.T 25=⟨.struct [(2,0),(22,1),(23,2)],3,56,(.agg [(.int .i64 0),.aN,.aN])⟩:=rfl
theorem U0:aq.T 27=⟨.slice 62,1,24,.aN⟩:=rfl
theorem U1:aq.T 29=⟨.struct [(2,0),(22,1),(27,2)],3,56,(.agg [(.int .i64 0),.aN,.aN])⟩:=rfl
theorem ad4:aq.T 36=⟨.fn,1,8,.hole⟩:=rfl
theorem ad5:aq.T 49=⟨.ptr 29,1,8,.db⟩:=rfl
theorem U2:aq.T 50=⟨.slice 4,1,24,.aN⟩:=rfl
theorem U3:aq.T 59=⟨.slice 102,1,24,.aN⟩:=rfl
theorem U4:aq.T 60=⟨.slice 59,1,24,.aN⟩:=rfl
theorem U5:aq.T 62=⟨.struct [(22,0),(59,1),(9,2),(60,3),(60,4)],5,112,(.agg [.aN,.aN,(.str []),.aN,.aN])⟩:=rfl
theorem U6:aq.T 64=⟨.fn,1,8,.hole⟩:=rfl
theorem ad6:aq.T 69=⟨.struct [(9,0),(9,1),(9,2)],3,48,(.agg [(.str []),(.str []),(.str [])])⟩:=rfl
theorem ad7:aq.T 70=⟨.struct [(9,0),(9,1),(9,2)],3,48,(.agg [(.str []),(.str []),(.str [])])⟩:=rfl
theorem ad8:aq.T 73=⟨.fn,1,8,.hole⟩:=rfl
theorem ad9:aq.T 75=⟨.fn,1,8,.hole⟩:=rfl
theorem ad_:aq.T 77=⟨.fn,1,8,.hole⟩:=rfl
theorem aea:aq.T 79=⟨.fn,1,8,.hole⟩:=rfl
theorem U7:aq.T 80=⟨.slice 173,1,24,.aN⟩:=rfl
theorem U8:aq.T 81=⟨.slice 80,1,24,.aN⟩:=rfl
theorem U9:aq.T 83=⟨.struct [(22,0),(80,1),(9,2),(81,3),(81,4)],5,112,(.agg [.aN,.aN,(.str []),.aN,.aN])⟩:=rfl
theorem aeb:aq.T 87=⟨.ptr 62,1,8,.db⟩:=rfl
theorem aec:aq.T 94=⟨.fn,1,8,.hole⟩:=rfl
theorem aed:aq.T 95=⟨.fn,1,8,.hole⟩:=rfl
theorem U_:aq.T 98=⟨.ptr 105,1,8,.db⟩:=rfl
theorem EZ:aq.T 102=⟨.struct [(2,0),(2,1)],2,16,(.agg [(.int .i64 0),(.int .i64 0)])⟩:=rfl
theorem Va:aq.T 103=⟨.slice 98,1,24,.aN⟩:=rfl
theorem Vb:aq.T 105=⟨.struct [(102,0),(103,2)],3,40,(.agg [(.agg [(.int .i64 0),(.int .i64 0)]),.aN])⟩:=rfl
theorem aee:aq.T 108=⟨.fn,1,8,.hole⟩:=rfl
theorem aef:aq.T 119=⟨.fn,1,8,.hole⟩:=rfl
theorem Vc:aq.T 129=⟨.slice 5,1,24,.aN⟩:=rfl
theorem aeg:aq.T 132=⟨.fn,1,8,.hole⟩:=rfl
theorem Vd:aq.T 161=⟨.slice 60,1,24,.aN⟩:=rfl
theorem aeh:aq.T 167=⟨.ptr 102,1,8,.db⟩:=rfl
theorem Ve:aq.T 173=⟨.struct [(2,0),(2,1)],2,16,(.agg [(.int .i64 0),(.int .i64 0)])⟩:=rfl
end Go.Proofs.YtndfcecbamffaaaGreat
