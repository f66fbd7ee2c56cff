/- Part of a proof that a law returns true for every input. No condition. -/
import Derived.Test.YtocllehpepigpaaGreatDoorProg
import Derived.KernelRfl
import Derived.Test.YtocllehpepigpaaGreatDoorFwF
namespace Go.Proofs.YtocllehpepigpaaGreatDoor
open Go.cI
def T:TypeId→fS
 |2=>⟨.int .i64,1,8,(.int .i64 0)⟩
 |3=>⟨.int .i64,1,8,(.int .i64 0)⟩
 |4=>⟨.bool,1,1,(.bool false)⟩
 |5=>⟨.int .u8,1,1,(.int .u8 0)⟩
 |9=>⟨.str,1,16,(.str [])⟩
 |22=>⟨.slice 9,1,24,.bk⟩
 |23=>⟨.slice 70,1,24,.bk⟩
 |24=>⟨.slice 30,1,24,.bk⟩
 |26=>⟨.struct [(22,0),(23,1),(24,2)],3,72,(.agg [.bk,.bk,.bk])⟩
 |27=>⟨.slice 72,1,24,.bk⟩
 |28=>⟨.slice 75,1,24,.bk⟩
 |30=>⟨.struct [(2,0),(2,1),(2,2),(27,3),(28,4)],5,72,(.agg [(.int .i64 0),(.int .i64 0),(.int .i64 0),.bk,.bk])⟩
 |34=>⟨.slice 82,1,24,.bk⟩
 |35=>⟨.slice 41,1,24,.bk⟩
 |37=>⟨.struct [(22,0),(34,1),(35,2)],3,72,(.agg [.bk,.bk,.bk])⟩
 |39=>⟨.slice 88,1,24,.bk⟩
 |41=>⟨.struct [(2,0),(2,1),(2,2),(27,3),(39,4)],5,72,(.agg [(.int .i64 0),(.int .i64 0),(.int .i64 0),.bk,.bk])⟩
 |52=>⟨.ptr 37,1,8,.cS⟩
 |54=>⟨.ptr 41,1,8,.cS⟩
 |68=>⟨.slice 114,1,24,.bk⟩
 |70=>⟨.struct [(2,0),(2,1),(22,2),(68,3)],4,64,(.agg [(.int .i64 0),(.int .i64 0),.bk,.bk])⟩
 |72=>⟨.slice 2,1,24,.bk⟩
 |75=>⟨.struct [(2,0),(2,1),(9,2),(4,3)],4,40,(.agg [(.int .i64 0),(.int .i64 0),(.str []),(.bool false)])⟩
 |79=>⟨.ptr 82,1,8,.cS⟩
 |80=>⟨.slice 100,1,24,.bk⟩
 |82=>⟨.struct [(2,0),(2,1),(22,2),(80,3)],4,64,(.agg [(.int .i64 0),(.int .i64 0),.bk,.bk])⟩
 |84=>⟨.fn,1,8,.hole⟩
 |88=>⟨.struct [(2,0),(2,1),(9,2),(4,3)],4,40,(.agg [(.int .i64 0),(.int .i64 0),(.str []),(.bool false)])⟩
 |100=>⟨.struct [(2,0),(2,1),(2,2)],3,24,(.agg [(.int .i64 0),(.int .i64 0),(.int .i64 0)])⟩
 |102=>⟨.ptr 100,1,8,.cS⟩
 |105=>⟨.ptr 88,1,8,.cS⟩
 |114=>⟨.struct [(2,0),(2,1),(2,2)],3,24,(.agg [(.int .i64 0),(.int .i64 0),(.int .i64 0)])⟩
 |130=>⟨.slice 3,1,24,.bk⟩
 |_=>⟨.other,0,0,.hole⟩
theorem P0:∀t,Ef Tryz.prog t (T t):=by
 intro t
 unfold T
 split
 ·exact .inr ⟨Tryz.t2,_,_,by kernel_rfl,rfl,rfl,rfl,(fun cs h=>by cases h;rfl),Tryz.underlying2,rfl⟩
 ·exact .inr ⟨Tryz.t3,_,_,by kernel_rfl,rfl,rfl,rfl,(fun cs h=>by cases h;rfl),Tryz.underlying3,rfl⟩
 ·exact .inr ⟨Tryz.t4,_,_,by kernel_rfl,rfl,rfl,rfl,(fun cs h=>by cases h;rfl),Tryz.underlying4,trivial⟩
 ·exact .inr ⟨Tryz.t5,_,_,by kernel_rfl,rfl,rfl,rfl,(fun cs h=>by cases h;rfl),Tryz.underlying5,rfl⟩
 ·exact .inr ⟨Tryz.t9,_,_,by kernel_rfl,rfl,rfl,rfl,(fun cs h=>by cases h;rfl),Tryz.underlying9,trivial⟩
 ·exact .inr ⟨Tryz.t22,_,_,by kernel_rfl,rfl,rfl,rfl,(fun cs h=>by cases h;rfl),Tryz.underlying22,rfl⟩
 ·exact .inr ⟨Tryz.t23,_,_,by kernel_rfl,rfl,rfl,rfl,(fun cs h=>by cases h;rfl),Tryz.underlying23,rfl⟩
 ·exact .inr ⟨Tryz.t24,_,_,by kernel_rfl,rfl,rfl,rfl,(fun cs h=>by cases h;rfl),Tryz.underlying24,rfl⟩
 ·exact .inr ⟨Tryz.t26,_,_,by kernel_rfl,rfl,rfl,rfl,(fun cs h=>by cases h;rfl),Tryz.underlying26,rfl⟩
 ·exact .inr ⟨Tryz.t27,_,_,by kernel_rfl,rfl,rfl,rfl,(fun cs h=>by cases h;rfl),Tryz.underlying27,rfl⟩
 ·exact .inr ⟨Tryz.t28,_,_,by kernel_rfl,rfl,rfl,rfl,(fun cs h=>by cases h;rfl),Tryz.underlying28,rfl⟩
 ·exact .inr ⟨Tryz.t30,_,_,by kernel_rfl,rfl,rfl,rfl,(fun cs h=>by cases h;rfl),Tryz.underlying30,rfl⟩
 ·exact .inr ⟨Tryz.t34,_,_,by kernel_rfl,rfl,rfl,rfl,(fun cs h=>by cases h;rfl),Tryz.underlying34,rfl⟩
 ·exact .inr ⟨Tryz.t35,_,_,by kernel_rfl,rfl,rfl,rfl,(fun cs h=>by cases h;rfl),Tryz.underlying35,rfl⟩
 ·exact .inr ⟨Tryz.t37,_,_,by kernel_rfl,rfl,rfl,rfl,(fun cs h=>by cases h;rfl),Tryz.underlying37,rfl⟩
 ·exact .inr ⟨Tryz.t39,_,_,by kernel_rfl,rfl,rfl,rfl,(fun cs h=>by cases h;rfl),Tryz.underlying39,rfl⟩
 ·exact .inr ⟨Tryz.t41,_,_,by kernel_rfl,rfl,rfl,rfl,(fun cs h=>by cases h;rfl),Tryz.underlying41,rfl⟩
 ·exact .inr ⟨Tryz.t52,_,_,by kernel_rfl,rfl,rfl,rfl,(fun cs h=>by cases h;rfl),Tryz.underlying52,rfl⟩
 ·exact .inr ⟨Tryz.t54,_,_,by kernel_rfl,rfl,rfl,rfl,(fun cs h=>by cases h;rfl),Tryz.underlying54,rfl⟩
 ·exact .inr ⟨Tryz.t68,_,_,by kernel_rfl,rfl,rfl,rfl,(fun cs h=>by cases h;rfl),Tryz.underlying68,rfl⟩
 ·exact .inr ⟨Tryz.t70,_,_,by kernel_rfl,rfl,rfl,rfl,(fun cs h=>by cases h;rfl),Tryz.underlying70,rfl⟩
 ·exact .inr ⟨Tryz.t72,_,_,by kernel_rfl,rfl,rfl,rfl,(fun cs h=>by cases h;rfl),Tryz.underlying72,rfl⟩
 ·exact .inr ⟨Tryz.t75,_,_,by kernel_rfl,rfl,rfl,rfl,(fun cs h=>by cases h;rfl),Tryz.underlying75,rfl⟩
 ·exact .inr ⟨Tryz.t79,_,_,by kernel_rfl,rfl,rfl,rfl,(fun cs h=>by cases h;rfl),Tryz.underlying79,rfl⟩
 ·exact .inr ⟨Tryz.t80,_,_,by kernel_rfl,rfl,rfl,rfl,(fun cs h=>by cases h;rfl),Tryz.underlying80,rfl⟩
 ·exact .inr ⟨Tryz.t82,_,_,by kernel_rfl,rfl,rfl,rfl,(fun cs h=>by cases h;rfl),Tryz.underlying82,rfl⟩
 ·exact .inr ⟨Tryz.t84,_,_,by kernel_rfl,rfl,rfl,rfl,(fun cs h=>by cases h),Tryz.underlying84,trivial⟩
 ·exact .inr ⟨Tryz.t88,_,_,by kernel_rfl,rfl,rfl,rfl,(fun cs h=>by cases h;rfl),Tryz.underlying88,rfl⟩
 ·exact .inr ⟨Tryz.t100,_,_,by kernel_rfl,rfl,rfl,rfl,(fun cs h=>by cases h;rfl),Tryz.underlying100,rfl⟩
 ·exact .inr ⟨Tryz.t102,_,_,by kernel_rfl,rfl,rfl,rfl,(fun cs h=>by cases h;rfl),Tryz.underlying102,rfl⟩
 ·exact .inr ⟨Tryz.t105,_,_,by kernel_rfl,rfl,rfl,rfl,(fun cs h=>by cases h;rfl),Tryz.underlying105,rfl⟩
 ·exact .inr ⟨Tryz.t114,_,_,by kernel_rfl,rfl,rfl,rfl,(fun cs h=>by cases h;rfl),Tryz.underlying114,rfl⟩
 ·exact .inr ⟨Tryz.t130,_,_,by kernel_rfl,rfl,rfl,rfl,(fun cs h=>by cases h;rfl),Tryz.underlying130,rfl⟩
 ·exact .inl ⟨_,_,_,_,rfl,rfl⟩
noncomputable def aN:bS:=⟨Tryz.prog,T,fun _=>[]⟩
theorem P1:aN.en:=⟨P0,by kernel_rfl⟩
theorem eJ:aN.T 2=⟨.int .i64,1,8,(.int .i64 0)⟩:=rfl
theorem HK:aN.T 3=⟨.int .i64,1,8,(.int .i64 0)⟩:=rfl
theorem kW:aN.T 4=⟨.bool,1,1,(.bool false)⟩:=rfl
theorem al8:aN.T 5=⟨.int .u8,1,1,(.int .u8 0)⟩:=rfl
theorem fq:aN.T 9=⟨.str,1,16,(.str [])⟩:=rfl
theorem lR:aN.T 22=⟨.slice 9,1,24,.bk⟩:=rfl
theorem th:aN.T 23=⟨.slice 70,1,24,.bk⟩:=rfl
theorem ti:aN.T 24=⟨.slice 30,1,24,.bk⟩:=rfl
theorem CF:aN.T 26=⟨.struct [(22,0),(23,1),(24,2)],3,72,(.agg [.bk,.bk,.bk])⟩:=rfl
theorem kX:aN.T 27=⟨.slice 72,1,24,.bk⟩:=rfl
theorem oT:aN.T 28=⟨.slice 75,1,24,.bk⟩:=rfl
theorem rF:aN.T 30=⟨.struct [(2,0),(2,1),(2,2),(27,3),(28,4)],5,72,(.agg [(.int .i64 0),(.int .i64 0),(.int .i64 0),.bk,.bk])⟩:=rfl
theorem px:aN.T 34=⟨.slice 82,1,24,.bk⟩:=rfl
theorem py:aN.T 35=⟨.slice 41,1,24,.bk⟩:=rfl
theorem xS:aN.T 37=⟨.struct [(22,0),(34,1),(35,2)],3,72,(.agg [.bk,.bk,.bk])⟩:=rfl
theorem lS:aN.T 39=⟨.slice 88,1,24,.bk⟩:=rfl
theorem ob:aN.T 41=⟨.struct [(2,0),(2,1),(2,2),(27,3),(39,4)],5,72,(.agg [(.int .i64 0),(.int .i64 0),(.int .i64 0),.bk,.bk])⟩:=rfl
theorem al9:aN.T 52=⟨.ptr 37,1,8,.cS⟩:=rfl
theorem al_:aN.T 54=⟨.ptr 41,1,8,.cS⟩:=rfl
theorem pz:aN.T 68=⟨.slice 114,1,24,.bk⟩:=rfl
theorem tj:aN.T 70=⟨.struct [(2,0),(2,1),(22,2),(68,3)],4,64,(.agg [(.int .i64 0),(.int .i64 0),.bk,.bk])⟩:=rfl
theorem ie:aN.T 72=⟨.slice 2,1,24,.bk⟩:=rfl
theorem oU:aN.T 75=⟨.struct [(2,0),(2,1),(9,2),(4,3)],4,40,(.agg [(.int .i64 0),(.int .i64 0),(.str []),(.bool false)])⟩:=rfl
theorem ama:aN.T 79=⟨.ptr 82,1,8,.cS⟩:=rfl
theorem lT:aN.T 80=⟨.slice 100,1,24,.bk⟩:=rfl
theorem oV:aN.T 82=⟨.struct [(2,0),(2,1),(22,2),(80,3)],4,64,(.agg [(.int .i64 0),(.int .i64 0),.bk,.bk])⟩:=rfl
theorem amb:aN.T 84=⟨.fn,1,8,.hole⟩:=rfl
theorem lo:aN.T 88=⟨.struct [(2,0),(2,1),(9,2),(4,3)],4,40,(.agg [(.int .i64 0),(.int .i64 0),(.str []),(.bool false)])⟩:=rfl
theorem jC:aN.T 100=⟨.struct [(2,0),(2,1),(2,2)],3,24,(.agg [(.int .i64 0),(.int .i64 0),(.int .i64 0)])⟩:=rfl
theorem amc:aN.T 102=⟨.ptr 100,1,8,.cS⟩:=rfl
theorem amd:aN.T 105=⟨.ptr 88,1,8,.cS⟩:=rfl
theorem pA:aN.T 114=⟨.struct [(2,0),(2,1),(2,2)],3,24,(.agg [(.int .i64 0),(.int .i64 0),(.int .i64 0)])⟩:=rfl
theorem HL:aN.T 130=⟨.slice 3,1,24,.bk⟩:=rfl
end Go.Proofs.YtocllehpepigpaaGreatDoor
