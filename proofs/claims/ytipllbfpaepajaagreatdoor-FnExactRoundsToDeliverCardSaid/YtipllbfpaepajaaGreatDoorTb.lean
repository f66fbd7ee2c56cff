/- Part of a proof that a law returns true for every input. No condition. -/
import Derived.Test.YtipllbfpaepajaaGreatDoorProg
import Derived.KernelRfl
import Derived.Test.YtipllbfpaepajaaGreatDoorFwF
namespace Go.Proofs.YtipllbfpaepajaaGreatDoor
open Go.b9
def T:TypeId→ez
 |1=>⟨.fn,1,8,.hole⟩
 |2=>⟨.int .i64,1,8,(.int .i64 0)⟩
 |3=>⟨.int .i64,1,8,(.int .i64 0)⟩
 |4=>⟨.bool,1,1,(.bool false)⟩
 |5=>⟨.int .u8,1,1,(.int .u8 0)⟩
 |9=>⟨.str,1,16,(.str [])⟩
 |22=>⟨.slice 9,1,24,.bH⟩
 |23=>⟨.slice 2,1,24,.bH⟩
 |37=>⟨.fn,1,8,.hole⟩
 |81=>⟨.ptr 94,1,8,.cn⟩
 |84=>⟨.ptr 96,1,8,.cn⟩
 |94=>⟨.struct [(2,0),(2,1),(2,2),(2,3),(2,4),(2,5)],6,48,(.agg [(.int .i64 0),(.int .i64 0),(.int .i64 0),(.int .i64 0),(.int .i64 0),(.int .i64 0)])⟩
 |96=>⟨.struct [(2,0),(2,1),(2,2),(2,3),(2,4)],5,40,(.agg [(.int .i64 0),(.int .i64 0),(.int .i64 0),(.int .i64 0),(.int .i64 0)])⟩
 |132=>⟨.fn,1,8,.hole⟩
 |_=>⟨.other,0,0,.hole⟩
theorem LD:∀t,AE Tryz.prog t (T t):=by
 intro t
 unfold T
 split
 ·exact .inr ⟨Tryz.t1,_,_,by kernel_rfl,rfl,rfl,rfl,(fun cs h=>by cases h),Tryz.underlying1,trivial⟩
 ·exact .inr ⟨Tryz.t2,_,_,by kernel_rfl,rfl,rfl,rfl,(fun cs h=>by cases h;rfl),Tryz.underlying2,rfl⟩
 ·exact .inr ⟨Tryz.t3,_,_,by kernel_rfl,rfl,rfl,rfl,(fun cs h=>by cases h;rfl),Tryz.underlying3,rfl⟩
 ·exact .inr ⟨Tryz.t4,_,_,by kernel_rfl,rfl,rfl,rfl,(fun cs h=>by cases h;rfl),Tryz.underlying4,trivial⟩
 ·exact .inr ⟨Tryz.t5,_,_,by kernel_rfl,rfl,rfl,rfl,(fun cs h=>by cases h;rfl),Tryz.underlying5,rfl⟩
 ·exact .inr ⟨Tryz.t9,_,_,by kernel_rfl,rfl,rfl,rfl,(fun cs h=>by cases h;rfl),Tryz.underlying9,trivial⟩
 ·exact .inr ⟨Tryz.t22,_,_,by kernel_rfl,rfl,rfl,rfl,(fun cs h=>by cases h;rfl),Tryz.underlying22,rfl⟩
 ·exact .inr ⟨Tryz.t23,_,_,by kernel_rfl,rfl,rfl,rfl,(fun cs h=>by cases h;rfl),Tryz.underlying23,rfl⟩
 ·exact .inr ⟨Tryz.t37,_,_,by kernel_rfl,rfl,rfl,rfl,(fun cs h=>by cases h),Tryz.underlying37,trivial⟩
 ·exact .inr ⟨Tryz.t81,_,_,by kernel_rfl,rfl,rfl,rfl,(fun cs h=>by cases h;rfl),Tryz.underlying81,rfl⟩
 ·exact .inr ⟨Tryz.t84,_,_,by kernel_rfl,rfl,rfl,rfl,(fun cs h=>by cases h;rfl),Tryz.underlying84,rfl⟩
 ·exact .inr ⟨Tryz.t94,_,_,by kernel_rfl,rfl,rfl,rfl,(fun cs h=>by cases h;rfl),Tryz.underlying94,rfl⟩
 ·exact .inr ⟨Tryz.t96,_,_,by kernel_rfl,rfl,rfl,rfl,(fun cs h=>by cases h;rfl),Tryz.underlying96,rfl⟩
 ·exact .inr ⟨Tryz.t132,_,_,by kernel_rfl,rfl,rfl,rfl,(fun cs h=>by cases h),Tryz.underlying132,trivial⟩
 ·exact .inl ⟨_,_,_,_,rfl,rfl⟩
noncomputable def aS:bq:=⟨Tryz.prog,T,fun _=>[]⟩
theorem LF:aS.db:=⟨LD,by kernel_rfl⟩
theorem Y_:aS.T 1=⟨.fn,1,8,.hole⟩:=rfl
theorem fO:aS.T 2=⟨.int .i64,1,8,(.int .i64 0)⟩:=rfl
theorem Za:aS.T 3=⟨.int .i64,1,8,(.int .i64 0)⟩:=rfl
theorem Zb:aS.T 4=⟨.bool,1,1,(.bool false)⟩:=rfl
theorem Zc:aS.T 5=⟨.int .u8,1,1,(.int .u8 0)⟩:=rfl
theorem fJ:aS.T 9=⟨.str,1,16,(.str [])⟩:=rfl
theorem jD:aS.T 22=⟨.slice 9,1,24,.bH⟩:=rfl
theorem tf:aS.T 23=⟨.slice 2,1,24,.bH⟩:=rfl
theorem Zd:aS.T 37=⟨.fn,1,8,.hole⟩:=rfl
theorem Ze:aS.T 81=⟨.ptr 94,1,8,.cn⟩:=rfl
theorem Zf:aS.T 84=⟨.ptr 96,1,8,.cn⟩:=rfl
theorem mD:aS.T 94=⟨.struct [(2,0),(2,1),(2,2),(2,3),(2,4),(2,5)],6,48,(.agg [(.int .i64 0),(.int .i64 0),(.int .i64 0),(.int .i64 0),(.int .i64 0),(.int .i64 0)])⟩:=rfl
theorem j6:aS.T 96=⟨.struct [(2,0),(2,1),(2,2),(2,3),(2,4)],5,40,(.agg [(.int .i64 0),(.int .i64 0),(.int .i64 0),(.int .i64 0),(.int .i64 0)])⟩:=rfl
theorem Zg:aS.T 132=⟨.fn,1,8,.hole⟩:=rfl
end Go.Proofs.YtipllbfpaepajaaGreatDoor
