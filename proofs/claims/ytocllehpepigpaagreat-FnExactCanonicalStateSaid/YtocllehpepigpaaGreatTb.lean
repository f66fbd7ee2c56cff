/- Part of a proof that a law returns true for every input. No condition. -/
import Derived.Test.YtocllehpepigpaaGreatProg
import Derived.KernelRfl
import Derived.Test.YtocllehpepigpaaGreatFwF
namespace Go.Proofs.YtocllehpepigpaaGreat
open Go.cZ
def T:TypeId→gS
 |2=>⟨.int .i64,1,8,(.int .i64 0)⟩
 |3=>⟨.int .i64,1,8,(.int .i64 0)⟩
 |4=>⟨.bool,1,1,(.bool false)⟩
 |5=>⟨.int .u8,1,1,(.int .u8 0)⟩
 |9=>⟨.str,1,16,(.str [])⟩
 |22=>⟨.slice 109,1,24,.bk⟩
 |23=>⟨.slice 111,1,24,.bk⟩
 |24=>⟨.slice 114,1,24,.bk⟩
 |25=>⟨.slice 9,1,24,.bk⟩
 |27=>⟨.struct [(22,0),(23,1),(24,2),(25,3),(25,4)],5,120,(.agg [.bk,.bk,.bk,.bk,.bk])⟩
 |28=>⟨.slice 73,1,24,.bk⟩
 |31=>⟨.slice 82,1,24,.bk⟩
 |34=>⟨.slice 121,1,24,.bk⟩
 |35=>⟨.slice 100,1,24,.bk⟩
 |36=>⟨.slice 124,1,24,.bk⟩
 |38=>⟨.struct [(34,0),(35,1),(36,2),(25,3),(25,4)],5,120,(.agg [.bk,.bk,.bk,.bk,.bk])⟩
 |46=>⟨.slice 2,1,24,.bk⟩
 |73=>⟨.struct [(2,0),(2,1),(46,2)],3,40,(.agg [(.int .i64 0),(.int .i64 0),.bk])⟩
 |75=>⟨.ptr 38,1,8,.dI⟩
 |82=>⟨.struct [(2,0),(2,1),(46,2)],3,40,(.agg [(.int .i64 0),(.int .i64 0),.bk])⟩
 |87=>⟨.fn,1,8,.hole⟩
 |100=>⟨.struct [(2,0),(46,1)],2,32,(.agg [(.int .i64 0),.bk])⟩
 |107=>⟨.slice 220,1,24,.bk⟩
 |109=>⟨.struct [(9,0),(2,1),(107,2)],3,48,(.agg [(.str []),(.int .i64 0),.bk])⟩
 |111=>⟨.struct [(2,0),(46,1)],2,32,(.agg [(.int .i64 0),.bk])⟩
 |114=>⟨.struct [(9,0),(9,1),(9,2)],3,48,(.agg [(.str []),(.str []),(.str [])])⟩
 |117=>⟨.ptr 82,1,8,.dI⟩
 |119=>⟨.slice 178,1,24,.bk⟩
 |121=>⟨.struct [(9,0),(2,1),(119,2)],3,48,(.agg [(.str []),(.int .i64 0),.bk])⟩
 |124=>⟨.struct [(9,0),(9,1),(9,2)],3,48,(.agg [(.str []),(.str []),(.str [])])⟩
 |128=>⟨.fn,1,8,.hole⟩
 |140=>⟨.ptr 121,1,8,.dI⟩
 |145=>⟨.slice 196,1,24,.bk⟩
 |146=>⟨.slice 145,1,24,.bk⟩
 |158=>⟨.fn,1,8,.hole⟩
 |178=>⟨.struct [(2,0),(2,1),(9,2),(146,3)],4,56,(.agg [(.int .i64 0),(.int .i64 0),(.str []),.bk])⟩
 |183=>⟨.struct [(2,0),(4,1)],2,16,(.agg [(.int .i64 0),(.bool false)])⟩
 |184=>⟨.slice 183,1,24,.bk⟩
 |187=>⟨.fn,1,8,.hole⟩
 |193=>⟨.slice 5,1,24,.bk⟩
 |196=>⟨.struct [(2,0),(2,1)],2,16,(.agg [(.int .i64 0),(.int .i64 0)])⟩
 |204=>⟨.fn,1,8,.hole⟩
 |209=>⟨.fn,1,8,.hole⟩
 |216=>⟨.fn,1,8,.hole⟩
 |218=>⟨.slice 301,1,24,.bk⟩
 |220=>⟨.struct [(2,0),(2,1),(9,2),(218,3)],4,56,(.agg [(.int .i64 0),(.int .i64 0),(.str []),.bk])⟩
 |224=>⟨.fn,1,8,.hole⟩
 |239=>⟨.slice 3,1,24,.bk⟩
 |249=>⟨.fn,1,8,.hole⟩
 |256=>⟨.fn,1,8,.hole⟩
 |258=>⟨.fn,1,8,.hole⟩
 |270=>⟨.ptr 178,1,8,.dI⟩
 |280=>⟨.ptr 196,1,8,.dI⟩
 |283=>⟨.fn,1,8,.hole⟩
 |288=>⟨.fn,1,8,.hole⟩
 |301=>⟨.slice 316,1,24,.bk⟩
 |316=>⟨.struct [(2,0),(2,1)],2,16,(.agg [(.int .i64 0),(.int .i64 0)])⟩
 |_=>⟨.other,0,0,.hole⟩
theorem W9:∀t,Jn Tryz.prog t (T t):=by
 intro t
 unfold T
 split
 ·exact .inr ⟨Tryz.t2,_,_,by kernel_rfl,rfl,rfl,rfl,(fun cs h=>by cases h;rfl),Tryz.underlying2,rfl⟩
 ·exact .inr ⟨Tryz.t3,_,_,by kernel_rfl,rfl,rfl,rfl,(fun cs h=>by cases h;rfl),Tryz.underlying3,rfl⟩
 ·exact .inr ⟨Tryz.t4,_,_,by kernel_rfl,rfl,rfl,rfl,(fun cs h=>by cases h;rfl),Tryz.underlying4,trivial⟩
 ·exact .inr ⟨Tryz.t5,_,_,by kernel_rfl,rfl,rfl,rfl,(fun cs h=>by cases h;rfl),Tryz.underlying5,rfl⟩
 ·exact .inr ⟨Tryz.t9,_,_,by kernel_rfl,rfl,rfl,rfl,(fun cs h=>by cases h;rfl),Tryz.underlying9,trivial⟩
 ·exact .inr ⟨Tryz.t22,_,_,by kernel_rfl,rfl,rfl,rfl,(fun cs h=>by cases h;rfl),Tryz.underlying22,rfl⟩
 ·exact .inr ⟨Tryz.t23,_,_,by kernel_rfl,rfl,rfl,rfl,(fun cs h=>by cases h;rfl),Tryz.underlying23,rfl⟩
 ·exact .inr ⟨Tryz.t24,_,_,by kernel_rfl,rfl,rfl,rfl,(fun cs h=>by cases h;rfl),Tryz.underlying24,rfl⟩
 ·exact .inr ⟨Tryz.t25,_,_,by kernel_rfl,rfl,rfl,rfl,(fun cs h=>by cases h;rfl),Tryz.underlying25,rfl⟩
 ·exact .inr ⟨Tryz.t27,_,_,by kernel_rfl,rfl,rfl,rfl,(fun cs h=>by cases h;rfl),Tryz.underlying27,rfl⟩
 ·exact .inr ⟨Tryz.t28,_,_,by kernel_rfl,rfl,rfl,rfl,(fun cs h=>by cases h;rfl),Tryz.underlying28,rfl⟩
 ·exact .inr ⟨Tryz.t31,_,_,by kernel_rfl,rfl,rfl,rfl,(fun cs h=>by cases h;rfl),Tryz.underlying31,rfl⟩
 ·exact .inr ⟨Tryz.t34,_,_,by kernel_rfl,rfl,rfl,rfl,(fun cs h=>by cases h;rfl),Tryz.underlying34,rfl⟩
 ·exact .inr ⟨Tryz.t35,_,_,by kernel_rfl,rfl,rfl,rfl,(fun cs h=>by cases h;rfl),Tryz.underlying35,rfl⟩
 ·exact .inr ⟨Tryz.t36,_,_,by kernel_rfl,rfl,rfl,rfl,(fun cs h=>by cases h;rfl),Tryz.underlying36,rfl⟩
 ·exact .inr ⟨Tryz.t38,_,_,by kernel_rfl,rfl,rfl,rfl,(fun cs h=>by cases h;rfl),Tryz.underlying38,rfl⟩
 ·exact .inr ⟨Tryz.t46,_,_,by kernel_rfl,rfl,rfl,rfl,(fun cs h=>by cases h;rfl),Tryz.underlying46,rfl⟩
 ·exact .inr ⟨Tryz.t73,_,_,by kernel_rfl,rfl,rfl,rfl,(fun cs h=>by cases h;rfl),Tryz.underlying73,rfl⟩
 ·exact .inr ⟨Tryz.t75,_,_,by kernel_rfl,rfl,rfl,rfl,(fun cs h=>by cases h;rfl),Tryz.underlying75,rfl⟩
 ·exact .inr ⟨Tryz.t82,_,_,by kernel_rfl,rfl,rfl,rfl,(fun cs h=>by cases h;rfl),Tryz.underlying82,rfl⟩
 ·exact .inr ⟨Tryz.t87,_,_,by kernel_rfl,rfl,rfl,rfl,(fun cs h=>by cases h),Tryz.underlying87,trivial⟩
 ·exact .inr ⟨Tryz.t100,_,_,by kernel_rfl,rfl,rfl,rfl,(fun cs h=>by cases h;rfl),Tryz.underlying100,rfl⟩
 ·exact .inr ⟨Tryz.t107,_,_,by kernel_rfl,rfl,rfl,rfl,(fun cs h=>by cases h;rfl),Tryz.underlying107,rfl⟩
 ·exact .inr ⟨Tryz.t109,_,_,by kernel_rfl,rfl,rfl,rfl,(fun cs h=>by cases h;rfl),Tryz.underlying109,rfl⟩
 ·exact .inr ⟨Tryz.t111,_,_,by kernel_rfl,rfl,rfl,rfl,(fun cs h=>by cases h;rfl),Tryz.underlying111,rfl⟩
 ·exact .inr ⟨Tryz.t114,_,_,by kernel_rfl,rfl,rfl,rfl,(fun cs h=>by cases h;rfl),Tryz.underlying114,rfl⟩
 ·exact .inr ⟨Tryz.t117,_,_,by kernel_rfl,rfl,rfl,rfl,(fun cs h=>by cases h;rfl),Tryz.underlying117,rfl⟩
 ·exact .inr ⟨Tryz.t119,_,_,by kernel_rfl,rfl,rfl,rfl,(fun cs h=>by cases h;rfl),Tryz.underlying119,rfl⟩
 ·exact .inr ⟨Tryz.t121,_,_,by kernel_rfl,rfl,rfl,rfl,(fun cs h=>by cases h;rfl),Tryz.underlying121,rfl⟩
 ·exact .inr ⟨Tryz.t124,_,_,by kernel_rfl,rfl,rfl,rfl,(fun cs h=>by cases h;rfl),Tryz.underlying124,rfl⟩
 ·exact .inr ⟨Tryz.t128,_,_,by kernel_rfl,rfl,rfl,rfl,(fun cs h=>by cases h),Tryz.underlying128,trivial⟩
 ·exact .inr ⟨Tryz.t140,_,_,by kernel_rfl,rfl,rfl,rfl,(fun cs h=>by cases h;rfl),Tryz.underlying140,rfl⟩
 ·exact .inr ⟨Tryz.t145,_,_,by kernel_rfl,rfl,rfl,rfl,(fun cs h=>by cases h;rfl),Tryz.underlying145,rfl⟩
 ·exact .inr ⟨Tryz.t146,_,_,by kernel_rfl,rfl,rfl,rfl,(fun cs h=>by cases h;rfl),Tryz.underlying146,rfl⟩
 ·exact .inr ⟨Tryz.t158,_,_,by kernel_rfl,rfl,rfl,rfl,(fun cs h=>by cases h),Tryz.underlying158,trivial⟩
 ·exact .inr ⟨Tryz.t178,_,_,by kernel_rfl,rfl,rfl,rfl,(fun cs h=>by cases h;rfl),Tryz.underlying178,rfl⟩
 ·exact .inr ⟨Tryz.t183,_,_,by kernel_rfl,rfl,rfl,rfl,(fun cs h=>by cases h;rfl),Tryz.underlying183,rfl⟩
 ·exact .inr ⟨Tryz.t184,_,_,by kernel_rfl,rfl,rfl,rfl,(fun cs h=>by cases h;rfl),Tryz.underlying184,rfl⟩
 ·exact .inr ⟨Tryz.t187,_,_,by kernel_rfl,rfl,rfl,rfl,(fun cs h=>by cases h),Tryz.underlying187,trivial⟩
 ·exact .inr ⟨Tryz.t193,_,_,by kernel_rfl,rfl,rfl,rfl,(fun cs h=>by cases h;rfl),Tryz.underlying193,rfl⟩
 ·exact .inr ⟨Tryz.t196,_,_,by kernel_rfl,rfl,rfl,rfl,(fun cs h=>by cases h;rfl),Tryz.underlying196,rfl⟩
 ·exact .inr ⟨Tryz.t204,_,_,by kernel_rfl,rfl,rfl,rfl,(fun cs h=>by cases h),Tryz.underlying204,trivial⟩
 ·exact .inr ⟨Tryz.t209,_,_,by kernel_rfl,rfl,rfl,rfl,(fun cs h=>by cases h),Tryz.underlying209,trivial⟩
 ·exact .inr ⟨Tryz.t216,_,_,by kernel_rfl,rfl,rfl,rfl,(fun cs h=>by cases h),Tryz.underlying216,trivial⟩
 ·exact .inr ⟨Tryz.t218,_,_,by kernel_rfl,rfl,rfl,rfl,(fun cs h=>by cases h;rfl),Tryz.underlying218,rfl⟩
 ·exact .inr ⟨Tryz.t220,_,_,by kernel_rfl,rfl,rfl,rfl,(fun cs h=>by cases h;rfl),Tryz.underlying220,rfl⟩
 ·exact .inr ⟨Tryz.t224,_,_,by kernel_rfl,rfl,rfl,rfl,(fun cs h=>by cases h),Tryz.underlying224,trivial⟩
 ·exact .inr ⟨Tryz.t239,_,_,by kernel_rfl,rfl,rfl,rfl,(fun cs h=>by cases h;rfl),Tryz.underlying239,rfl⟩
 ·exact .inr ⟨Tryz.t249,_,_,by kernel_rfl,rfl,rfl,rfl,(fun cs h=>by cases h),Tryz.underlying249,trivial⟩
 ·exact .inr ⟨Tryz.t256,_,_,by kernel_rfl,rfl,rfl,rfl,(fun cs h=>by cases h),Tryz.underlying256,trivial⟩
 ·exact .inr ⟨Tryz.t258,_,_,by kernel_rfl,rfl,rfl,rfl,(fun cs h=>by cases h),Tryz.underlying258,trivial⟩
 ·exact .inr ⟨Tryz.t270,_,_,by kernel_rfl,rfl,rfl,rfl,(fun cs h=>by cases h;rfl),Tryz.underlying270,rfl⟩
 ·exact .inr ⟨Tryz.t280,_,_,by kernel_rfl,rfl,rfl,rfl,(fun cs h=>by cases h;rfl),Tryz.underlying280,rfl⟩
 ·exact .inr ⟨Tryz.t283,_,_,by kernel_rfl,rfl,rfl,rfl,(fun cs h=>by cases h),Tryz.underlying283,trivial⟩
 ·exact .inr ⟨Tryz.t288,_,_,by kernel_rfl,rfl,rfl,rfl,(fun cs h=>by cases h),Tryz.underlying288,trivial⟩
 ·exact .inr ⟨Tryz.t301,_,_,by kernel_rfl,rfl,rfl,rfl,(fun cs h=>by cases h;rfl),Tryz.underlying301,rfl⟩
 ·exact .inr ⟨Tryz.t316,_,_,by kernel_rfl,rfl,rfl,rfl,(fun cs h=>by cases h;rfl),Tryz.underlying316,rfl⟩
 ·exact .inl ⟨_,_,_,_,rfl,rfl⟩
noncomputable def aB:cw:=⟨Tryz.prog,T,fun _=>[]⟩
theorem Hp:aB.Ok:=⟨W9,by kernel_rfl⟩
theorem eg:aB.T 2=⟨.int .i64,1,8,(.int .i64 0)⟩:=rfl
theorem Nf:aB.T 3=⟨.int .i64,1,8,(.int .i64 0)⟩:=rfl
theorem qd:aB.T 4=⟨.bool,1,1,(.bool false)⟩:=rfl
theorem W_:aB.T 5=⟨.int .u8,1,1,(.int .u8 0)⟩:=rfl
theorem eI:aB.T 9=⟨.str,1,16,(.str [])⟩:=rfl
theorem tw:aB.T 22=⟨.slice 109,1,24,.bk⟩:=rfl
theorem tx:aB.T 23=⟨.slice 111,1,24,.bk⟩:=rfl
theorem tz:aB.T 24=⟨.slice 114,1,24,.bk⟩:=rfl
theorem k4:aB.T 25=⟨.slice 9,1,24,.bk⟩:=rfl
theorem B0:aB.T 27=⟨.struct [(22,0),(23,1),(24,2),(25,3),(25,4)],5,120,(.agg [.bk,.bk,.bk,.bk,.bk])⟩:=rfl
theorem B1:aB.T 28=⟨.slice 73,1,24,.bk⟩:=rfl
theorem q1:aB.T 31=⟨.slice 82,1,24,.bk⟩:=rfl
theorem nj:aB.T 34=⟨.slice 121,1,24,.bk⟩:=rfl
theorem oG:aB.T 35=⟨.slice 100,1,24,.bk⟩:=rfl
theorem qe:aB.T 36=⟨.slice 124,1,24,.bk⟩:=rfl
theorem wv:aB.T 38=⟨.struct [(34,0),(35,1),(36,2),(25,3),(25,4)],5,120,(.agg [.bk,.bk,.bk,.bk,.bk])⟩:=rfl
theorem hU:aB.T 46=⟨.slice 2,1,24,.bk⟩:=rfl
theorem B2:aB.T 73=⟨.struct [(2,0),(2,1),(46,2)],3,40,(.agg [(.int .i64 0),(.int .i64 0),.bk])⟩:=rfl
theorem aD1:aB.T 75=⟨.ptr 38,1,8,.dI⟩:=rfl
theorem k5:aB.T 82=⟨.struct [(2,0),(2,1),(46,2)],3,40,(.agg [(.int .i64 0),(.int .i64 0),.bk])⟩:=rfl
theorem aD2:aB.T 87=⟨.fn,1,8,.hole⟩:=rfl
theorem nO:aB.T 100=⟨.struct [(2,0),(46,1)],2,32,(.agg [(.int .i64 0),.bk])⟩:=rfl
theorem qf:aB.T 107=⟨.slice 220,1,24,.bk⟩:=rfl
theorem tA:aB.T 109=⟨.struct [(9,0),(2,1),(107,2)],3,48,(.agg [(.str []),(.int .i64 0),.bk])⟩:=rfl
theorem tB:aB.T 111=⟨.struct [(2,0),(46,1)],2,32,(.agg [(.int .i64 0),.bk])⟩:=rfl
theorem tC:aB.T 114=⟨.struct [(9,0),(9,1),(9,2)],3,48,(.agg [(.str []),(.str []),(.str [])])⟩:=rfl
theorem aD3:aB.T 117=⟨.ptr 82,1,8,.dI⟩:=rfl
theorem jw:aB.T 119=⟨.slice 178,1,24,.bk⟩:=rfl
theorem kG:aB.T 121=⟨.struct [(9,0),(2,1),(119,2)],3,48,(.agg [(.str []),(.int .i64 0),.bk])⟩:=rfl
theorem nk:aB.T 124=⟨.struct [(9,0),(9,1),(9,2)],3,48,(.agg [(.str []),(.str []),(.str [])])⟩:=rfl
theorem aD4:aB.T 128=⟨.fn,1,8,.hole⟩:=rfl
theorem aD5:aB.T 140=⟨.ptr 121,1,8,.dI⟩:=rfl
theorem gh:aB.T 145=⟨.slice 196,1,24,.bk⟩:=rfl
theorem gR:aB.T 146=⟨.slice 145,1,24,.bk⟩:=rfl
theorem aD6:aB.T 158=⟨.fn,1,8,.hole⟩:=rfl
theorem hZ:aB.T 178=⟨.struct [(2,0),(2,1),(9,2),(146,3)],4,56,(.agg [(.int .i64 0),(.int .i64 0),(.str []),.bk])⟩:=rfl
theorem qg:aB.T 183=⟨.struct [(2,0),(4,1)],2,16,(.agg [(.int .i64 0),(.bool false)])⟩:=rfl
theorem tD:aB.T 184=⟨.slice 183,1,24,.bk⟩:=rfl
theorem aD7:aB.T 187=⟨.fn,1,8,.hole⟩:=rfl
theorem Xa:aB.T 193=⟨.slice 5,1,24,.bk⟩:=rfl
theorem fS:aB.T 196=⟨.struct [(2,0),(2,1)],2,16,(.agg [(.int .i64 0),(.int .i64 0)])⟩:=rfl
theorem aD8:aB.T 204=⟨.fn,1,8,.hole⟩:=rfl
theorem aD9:aB.T 209=⟨.fn,1,8,.hole⟩:=rfl
theorem aD_:aB.T 216=⟨.fn,1,8,.hole⟩:=rfl
theorem nP:aB.T 218=⟨.slice 301,1,24,.bk⟩:=rfl
theorem qh:aB.T 220=⟨.struct [(2,0),(2,1),(9,2),(218,3)],4,56,(.agg [(.int .i64 0),(.int .i64 0),(.str []),.bk])⟩:=rfl
theorem Ng:aB.T 224=⟨.fn,1,8,.hole⟩:=rfl
theorem Nh:aB.T 239=⟨.slice 3,1,24,.bk⟩:=rfl
theorem aEa:aB.T 249=⟨.fn,1,8,.hole⟩:=rfl
theorem aEb:aB.T 256=⟨.fn,1,8,.hole⟩:=rfl
theorem aEc:aB.T 258=⟨.fn,1,8,.hole⟩:=rfl
theorem aEd:aB.T 270=⟨.ptr 178,1,8,.dI⟩:=rfl
theorem aEe:aB.T 280=⟨.ptr 196,1,8,.dI⟩:=rfl
theorem aEf:aB.T 283=⟨.fn,1,8,.hole⟩:=rfl
theorem aEg:aB.T 288=⟨.fn,1,8,.hole⟩:=rfl
theorem mf:aB.T 301=⟨.slice 316,1,24,.bk⟩:=rfl
theorem mg:aB.T 316=⟨.struct [(2,0),(2,1)],2,16,(.agg [(.int .i64 0),(.int .i64 0)])⟩:=rfl
end Go.Proofs.YtocllehpepigpaaGreat
