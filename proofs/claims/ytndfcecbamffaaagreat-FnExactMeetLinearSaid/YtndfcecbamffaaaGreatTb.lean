/- Part of a proof that a law returns true for every input. No condition. -/
import Derived.Test.YtndfcecbamffaaaGreatProg
import Derived.KernelRfl
import Derived.Test.YtndfcecbamffaaaGreatFwF
namespace Go.Proofs.YtndfcecbamffaaaGreat
open Go.dD
def T:TypeId->gD
 |1=>⟨.fn,1,8,.hole⟩
 |2=>⟨.int .i64,1,8,(.int .i64 0)⟩
 |3=>⟨.int .i64,1,8,(.int .i64 0)⟩
 |4=>⟨.bool,1,1,(.bool false)⟩
 |5=>⟨.int .u8,1,1,(.int .u8 0)⟩
 |9=>⟨.str,1,16,(.str [])⟩
 |22=>⟨.slice 2,1,24,.ah⟩
 |23=>⟨.slice 83,1,24,.ah⟩
 |25=>⟨.struct [(2,0),(22,1),(23,2)],3,56,(.agg [(.int .i64 0),.ah,.ah])⟩
 |27=>⟨.slice 62,1,24,.ah⟩
 |29=>⟨.struct [(2,0),(22,1),(27,2)],3,56,(.agg [(.int .i64 0),.ah,.ah])⟩
 |38=>⟨.slice 70,1,24,.ah⟩
 |42=>⟨.slice 74,1,24,.ah⟩
 |49=>⟨.ptr 29,1,8,.dM⟩
 |59=>⟨.slice 102,1,24,.ah⟩
 |60=>⟨.slice 59,1,24,.ah⟩
 |62=>⟨.struct [(22,0),(59,1),(9,2),(60,3),(60,4)],5,112,(.agg [.ah,.ah,(.str []),.ah,.ah])⟩
 |64=>⟨.fn,1,8,.hole⟩
 |70=>⟨.struct [(9,0),(9,1),(9,2)],3,48,(.agg [(.str []),(.str []),(.str [])])⟩
 |74=>⟨.struct [(9,0),(9,1),(9,2)],3,48,(.agg [(.str []),(.str []),(.str [])])⟩
 |75=>⟨.fn,1,8,.hole⟩
 |80=>⟨.slice 173,1,24,.ah⟩
 |81=>⟨.slice 80,1,24,.ah⟩
 |83=>⟨.struct [(22,0),(80,1),(9,2),(81,3),(81,4)],5,112,(.agg [.ah,.ah,(.str []),.ah,.ah])⟩
 |87=>⟨.ptr 62,1,8,.dM⟩
 |94=>⟨.fn,1,8,.hole⟩
 |95=>⟨.fn,1,8,.hole⟩
 |102=>⟨.struct [(2,0),(2,1)],2,16,(.agg [(.int .i64 0),(.int .i64 0)])⟩
 |108=>⟨.fn,1,8,.hole⟩
 |119=>⟨.fn,1,8,.hole⟩
 |120=>⟨.slice 225,1,24,.ah⟩
 |121=>⟨.slice 227,1,24,.ah⟩
 |122=>⟨.slice 9,1,24,.ah⟩
 |124=>⟨.struct [(120,0),(121,1),(42,2),(122,3),(122,4)],5,120,(.agg [.ah,.ah,.ah,.ah,.ah])⟩
 |129=>⟨.slice 5,1,24,.ah⟩
 |132=>⟨.fn,1,8,.hole⟩
 |135=>⟨.fn,1,8,.hole⟩
 |138=>⟨.fn,1,8,.hole⟩
 |139=>⟨.fn,1,8,.hole⟩
 |140=>⟨.fn,1,8,.hole⟩
 |141=>⟨.fn,1,8,.hole⟩
 |161=>⟨.slice 60,1,24,.ah⟩
 |167=>⟨.ptr 102,1,8,.dM⟩
 |171=>⟨.fn,1,8,.hole⟩
 |173=>⟨.struct [(2,0),(2,1)],2,16,(.agg [(.int .i64 0),(.int .i64 0)])⟩
 |181=>⟨.slice 22,1,24,.ah⟩
 |223=>⟨.slice 230,1,24,.ah⟩
 |225=>⟨.struct [(9,0),(2,1),(223,2)],3,48,(.agg [(.str []),(.int .i64 0),.ah])⟩
 |227=>⟨.struct [(2,0),(22,1)],2,32,(.agg [(.int .i64 0),.ah])⟩
 |230=>⟨.struct [(2,0),(2,1),(9,2),(60,3)],4,56,(.agg [(.int .i64 0),(.int .i64 0),(.str []),.ah])⟩
 |_=>⟨.other,0,0,.hole⟩
theorem W_:∀t,JV Tryz.prog t (T t):=by
 intro t;unfold T;split
 .exact .inr ⟨Tryz.t1,_,_,by kernel_rfl,rfl,rfl,rfl,(λcs h=>by cases h),Tryz.underlying1,trivial⟩
 .exact .inr ⟨Tryz.t2,_,_,by kernel_rfl,rfl,rfl,rfl,(λcs h=>by cases h;rfl),Tryz.underlying2,rfl⟩
 .exact .inr ⟨Tryz.t3,_,_,by kernel_rfl,rfl,rfl,rfl,(λcs h=>by cases h;rfl),Tryz.underlying3,rfl⟩
 .exact .inr ⟨Tryz.t4,_,_,by kernel_rfl,rfl,rfl,rfl,(λcs h=>by cases h;rfl),Tryz.underlying4,trivial⟩
 .exact .inr ⟨Tryz.t5,_,_,by kernel_rfl,rfl,rfl,rfl,(λcs h=>by cases h;rfl),Tryz.underlying5,rfl⟩
 .exact .inr ⟨Tryz.t9,_,_,by kernel_rfl,rfl,rfl,rfl,(λcs h=>by cases h;rfl),Tryz.underlying9,trivial⟩
 .exact .inr ⟨Tryz.t22,_,_,by kernel_rfl,rfl,rfl,rfl,(λcs h=>by cases h;rfl),Tryz.underlying22,rfl⟩
 .exact .inr ⟨Tryz.t23,_,_,by kernel_rfl,rfl,rfl,rfl,(λcs h=>by cases h;rfl),Tryz.underlying23,rfl⟩
 .exact .inr ⟨Tryz.t25,_,_,by kernel_rfl,rfl,rfl,rfl,(λcs h=>by cases h;rfl),Tryz.underlying25,rfl⟩
 .exact .inr ⟨Tryz.t27,_,_,by kernel_rfl,rfl,rfl,rfl,(λcs h=>by cases h;rfl),Tryz.underlying27,rfl⟩
 .exact .inr ⟨Tryz.t29,_,_,by kernel_rfl,rfl,rfl,rfl,(λcs h=>by cases h;rfl),Tryz.underlying29,rfl⟩
 .exact .inr ⟨Tryz.t38,_,_,by kernel_rfl,rfl,rfl,rfl,(λcs h=>by cases h;rfl),Tryz.underlying38,rfl⟩
 .exact .inr ⟨Tryz.t42,_,_,by kernel_rfl,rfl,rfl,rfl,(λcs h=>by cases h;rfl),Tryz.underlying42,rfl⟩
 .exact .inr ⟨Tryz.t49,_,_,by kernel_rfl,rfl,rfl,rfl,(λcs h=>by cases h;rfl),Tryz.underlying49,rfl⟩
 .exact .inr ⟨Tryz.t59,_,_,by kernel_rfl,rfl,rfl,rfl,(λcs h=>by cases h;rfl),Tryz.underlying59,rfl⟩
 .exact .inr ⟨Tryz.t60,_,_,by kernel_rfl,rfl,rfl,rfl,(λcs h=>by cases h;rfl),Tryz.underlying60,rfl⟩
 .exact .inr ⟨Tryz.t62,_,_,by kernel_rfl,rfl,rfl,rfl,(λcs h=>by cases h;rfl),Tryz.underlying62,rfl⟩
 .exact .inr ⟨Tryz.t64,_,_,by kernel_rfl,rfl,rfl,rfl,(λcs h=>by cases h),Tryz.underlying64,trivial⟩
 .exact .inr ⟨Tryz.t70,_,_,by kernel_rfl,rfl,rfl,rfl,(λcs h=>by cases h;rfl),Tryz.underlying70,rfl⟩
 .exact .inr ⟨Tryz.t74,_,_,by kernel_rfl,rfl,rfl,rfl,(λcs h=>by cases h;rfl),Tryz.underlying74,rfl⟩
 .exact .inr ⟨Tryz.t75,_,_,by kernel_rfl,rfl,rfl,rfl,(λcs h=>by cases h),Tryz.underlying75,trivial⟩
 .exact .inr ⟨Tryz.t80,_,_,by kernel_rfl,rfl,rfl,rfl,(λcs h=>by cases h;rfl),Tryz.underlying80,rfl⟩
 .exact .inr ⟨Tryz.t81,_,_,by kernel_rfl,rfl,rfl,rfl,(λcs h=>by cases h;rfl),Tryz.underlying81,rfl⟩
 .exact .inr ⟨Tryz.t83,_,_,by kernel_rfl,rfl,rfl,rfl,(λcs h=>by cases h;rfl),Tryz.underlying83,rfl⟩
 .exact .inr ⟨Tryz.t87,_,_,by kernel_rfl,rfl,rfl,rfl,(λcs h=>by cases h;rfl),Tryz.underlying87,rfl⟩
 .exact .inr ⟨Tryz.t94,_,_,by kernel_rfl,rfl,rfl,rfl,(λcs h=>by cases h),Tryz.underlying94,trivial⟩
 .exact .inr ⟨Tryz.t95,_,_,by kernel_rfl,rfl,rfl,rfl,(λcs h=>by cases h),Tryz.underlying95,trivial⟩
 .exact .inr ⟨Tryz.t102,_,_,by kernel_rfl,rfl,rfl,rfl,(λcs h=>by cases h;rfl),Tryz.underlying102,rfl⟩
 .exact .inr ⟨Tryz.t108,_,_,by kernel_rfl,rfl,rfl,rfl,(λcs h=>by cases h),Tryz.underlying108,trivial⟩
 .exact .inr ⟨Tryz.t119,_,_,by kernel_rfl,rfl,rfl,rfl,(λcs h=>by cases h),Tryz.underlying119,trivial⟩
 .exact .inr ⟨Tryz.t120,_,_,by kernel_rfl,rfl,rfl,rfl,(λcs h=>by cases h;rfl),Tryz.underlying120,rfl⟩
 .exact .inr ⟨Tryz.t121,_,_,by kernel_rfl,rfl,rfl,rfl,(λcs h=>by cases h;rfl),Tryz.underlying121,rfl⟩
 .exact .inr ⟨Tryz.t122,_,_,by kernel_rfl,rfl,rfl,rfl,(λcs h=>by cases h;rfl),Tryz.underlying122,rfl⟩
 .exact .inr ⟨Tryz.t124,_,_,by kernel_rfl,rfl,rfl,rfl,(λcs h=>by cases h;rfl),Tryz.underlying124,rfl⟩
 .exact .inr ⟨Tryz.t129,_,_,by kernel_rfl,rfl,rfl,rfl,(λcs h=>by cases h;rfl),Tryz.underlying129,rfl⟩
 .exact .inr ⟨Tryz.t132,_,_,by kernel_rfl,rfl,rfl,rfl,(λcs h=>by cases h),Tryz.underlying132,trivial⟩
 .exact .inr ⟨Tryz.t135,_,_,by kernel_rfl,rfl,rfl,rfl,(λcs h=>by cases h),Tryz.underlying135,trivial⟩
 .exact .inr ⟨Tryz.t138,_,_,by kernel_rfl,rfl,rfl,rfl,(λcs h=>by cases h),Tryz.underlying138,trivial⟩
 .exact .inr ⟨Tryz.t139,_,_,by kernel_rfl,rfl,rfl,rfl,(λcs h=>by cases h),Tryz.underlying139,trivial⟩
 .exact .inr ⟨Tryz.t140,_,_,by kernel_rfl,rfl,rfl,rfl,(λcs h=>by cases h),Tryz.underlying140,trivial⟩
 .exact .inr ⟨Tryz.t141,_,_,by kernel_rfl,rfl,rfl,rfl,(λcs h=>by cases h),Tryz.underlying141,trivial⟩
 .exact .inr ⟨Tryz.t161,_,_,by kernel_rfl,rfl,rfl,rfl,(λcs h=>by cases h;rfl),Tryz.underlying161,rfl⟩
 .exact .inr ⟨Tryz.t167,_,_,by kernel_rfl,rfl,rfl,rfl,(λcs h=>by cases h;rfl),Tryz.underlying167,rfl⟩
 .exact .inr ⟨Tryz.t171,_,_,by kernel_rfl,rfl,rfl,rfl,(λcs h=>by cases h),Tryz.underlying171,trivial⟩
 .exact .inr ⟨Tryz.t173,_,_,by kernel_rfl,rfl,rfl,rfl,(λcs h=>by cases h;rfl),Tryz.underlying173,rfl⟩
 .exact .inr ⟨Tryz.t181,_,_,by kernel_rfl,rfl,rfl,rfl,(λcs h=>by cases h;rfl),Tryz.underlying181,rfl⟩
 .exact .inr ⟨Tryz.t223,_,_,by kernel_rfl,rfl,rfl,rfl,(λcs h=>by cases h;rfl),Tryz.underlying223,rfl⟩
 .exact .inr ⟨Tryz.t225,_,_,by kernel_rfl,rfl,rfl,rfl,(λcs h=>by cases h;rfl),Tryz.underlying225,rfl⟩
 .exact .inr ⟨Tryz.t227,_,_,by kernel_rfl,rfl,rfl,rfl,(λcs h=>by cases h;rfl),Tryz.underlying227,rfl⟩
 .exact .inr ⟨Tryz.t230,_,_,by kernel_rfl,rfl,rfl,rfl,(λcs h=>by cases h;rfl),Tryz.underlying230,rfl⟩
 .exact .inl ⟨_,_,_,_,rfl,rfl⟩
noncomputable def aj:bV:=⟨Tryz.prog,T,λ_=>[]⟩
theorem Gu:aj.eN:=⟨W_,by kernel_rfl⟩
theorem agv:aj.T 1=⟨.fn,1,8,.hole⟩:=rfl
theorem Xa:aj.T 2=⟨.int .i64,1,8,(.int .i64 0)⟩:=rfl
theorem Xb:aj.T 3=⟨.int .i64,1,8,(.int .i64 0)⟩:=rfl
theorem agw:aj.T 4=⟨.bool,1,1,(.bool false)⟩:=rfl
theorem Xc:aj.T 5=⟨.int .u8,1,1,(.int .u8 0)⟩:=rfl
theorem Xd:aj.T 9=⟨.str,1,16,(.str [])⟩:=rfl
theorem Xe:aj.T 22=⟨.slice 2,1,24,.ah⟩:=rfl
theorem Xf:aj.T 23=⟨.slice 83,1,24,.ah⟩:=rfl
theorem Xg:aj.T 25=⟨.struct [(2,0),(22,1),(23,2)],3,56,(.agg [(.int .i64 0),.ah,.ah])⟩:=rfl
theorem Xh:aj.T 27=⟨.slice 62,1,24,.ah⟩:=rfl
theorem Xi:aj.T 29=⟨.struct [(2,0),(22,1),(27,2)],3,56,(.agg [(.int .i64 0),.ah,.ah])⟩:=rfl
theorem Xj:aj.T 38=⟨.slice 70,1,24,.ah⟩:=rfl
theorem Xk:aj.T 42=⟨.slice 74,1,24,.ah⟩:=rfl
theorem agx:aj.T 49=⟨.ptr 29,1,8,.dM⟩:=rfl
theorem Xl:aj.T 59=⟨.slice 102,1,24,.ah⟩:=rfl
theorem Xm:aj.T 60=⟨.slice 59,1,24,.ah⟩:=rfl
theorem Xn:aj.T 62=⟨.struct [(22,0),(59,1),(9,2),(60,3),(60,4)],5,112,(.agg [.ah,.ah,(.str []),.ah,.ah])⟩:=rfl
theorem Xo:aj.T 64=⟨.fn,1,8,.hole⟩:=rfl
theorem Xp:aj.T 70=⟨.struct [(9,0),(9,1),(9,2)],3,48,(.agg [(.str []),(.str []),(.str [])])⟩:=rfl
theorem Xq:aj.T 74=⟨.struct [(9,0),(9,1),(9,2)],3,48,(.agg [(.str []),(.str []),(.str [])])⟩:=rfl
theorem agy:aj.T 75=⟨.fn,1,8,.hole⟩:=rfl
theorem Xr:aj.T 80=⟨.slice 173,1,24,.ah⟩:=rfl
theorem Xs:aj.T 81=⟨.slice 80,1,24,.ah⟩:=rfl
theorem Xt:aj.T 83=⟨.struct [(22,0),(80,1),(9,2),(81,3),(81,4)],5,112,(.agg [.ah,.ah,(.str []),.ah,.ah])⟩:=rfl
theorem agz:aj.T 87=⟨.ptr 62,1,8,.dM⟩:=rfl
theorem agA:aj.T 94=⟨.fn,1,8,.hole⟩:=rfl
theorem agB:aj.T 95=⟨.fn,1,8,.hole⟩:=rfl
theorem Xu:aj.T 102=⟨.struct [(2,0),(2,1)],2,16,(.agg [(.int .i64 0),(.int .i64 0)])⟩:=rfl
theorem agC:aj.T 108=⟨.fn,1,8,.hole⟩:=rfl
theorem agD:aj.T 119=⟨.fn,1,8,.hole⟩:=rfl
theorem Xv:aj.T 120=⟨.slice 225,1,24,.ah⟩:=rfl
theorem Xw:aj.T 121=⟨.slice 227,1,24,.ah⟩:=rfl
theorem Xx:aj.T 122=⟨.slice 9,1,24,.ah⟩:=rfl
theorem Xy:aj.T 124=⟨.struct [(120,0),(121,1),(42,2),(122,3),(122,4)],5,120,(.agg [.ah,.ah,.ah,.ah,.ah])⟩:=rfl
theorem Xz:aj.T 129=⟨.slice 5,1,24,.ah⟩:=rfl
theorem agE:aj.T 132=⟨.fn,1,8,.hole⟩:=rfl
theorem agF:aj.T 135=⟨.fn,1,8,.hole⟩:=rfl
theorem agG:aj.T 138=⟨.fn,1,8,.hole⟩:=rfl
theorem agH:aj.T 139=⟨.fn,1,8,.hole⟩:=rfl
theorem agI:aj.T 140=⟨.fn,1,8,.hole⟩:=rfl
theorem agJ:aj.T 141=⟨.fn,1,8,.hole⟩:=rfl
theorem XA:aj.T 161=⟨.slice 60,1,24,.ah⟩:=rfl
theorem agK:aj.T 167=⟨.ptr 102,1,8,.dM⟩:=rfl
theorem agL:aj.T 171=⟨.fn,1,8,.hole⟩:=rfl
theorem XB:aj.T 173=⟨.struct [(2,0),(2,1)],2,16,(.agg [(.int .i64 0),(.int .i64 0)])⟩:=rfl
theorem XC:aj.T 181=⟨.slice 22,1,24,.ah⟩:=rfl
theorem XD:aj.T 223=⟨.slice 230,1,24,.ah⟩:=rfl
theorem XE:aj.T 225=⟨.struct [(9,0),(2,1),(223,2)],3,48,(.agg [(.str []),(.int .i64 0),.ah])⟩:=rfl
theorem XF:aj.T 227=⟨.struct [(2,0),(22,1)],2,32,(.agg [(.int .i64 0),.ah])⟩:=rfl
theorem XG:aj.T 230=⟨.struct [(2,0),(2,1),(9,2),(60,3)],4,56,(.agg [(.int .i64 0),(.int .i64 0),(.str []),.ah])⟩:=rfl
end Go.Proofs.YtndfcecbamffaaaGreat
