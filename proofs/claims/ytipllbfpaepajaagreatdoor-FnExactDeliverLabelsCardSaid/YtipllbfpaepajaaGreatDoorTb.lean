/- Part of a proof that a law returns true for every input. No condition. -/
import Derived.Test.YtipllbfpaepajaaGreatDoorProg
import Derived.KernelRfl
import Derived.Test.YtipllbfpaepajaaGreatDoorFwF
namespace Go.Proofs.YtipllbfpaepajaaGreatDoor
open Go.ca
def T:TypeId→eC
 |1=>⟨.fn,1,8,.hole⟩
 |2=>⟨.int .i64,1,8,(.int .i64 0)⟩
 |3=>⟨.int .i64,1,8,(.int .i64 0)⟩
 |4=>⟨.bool,1,1,(.bool false)⟩
 |5=>⟨.int .u8,1,1,(.int .u8 0)⟩
 |9=>⟨.str,1,16,(.str [])⟩
 |22=>⟨.slice 9,1,24,.bD⟩
 |23=>⟨.slice 2,1,24,.bD⟩
 |37=>⟨.fn,1,8,.hole⟩
 |81=>⟨.ptr 94,1,8,.ct⟩
 |84=>⟨.ptr 96,1,8,.ct⟩
 |94=>⟨.struct [(2,0),(2,1),(2,2),(2,3),(2,4),(2,5)],6,48,(.agg [(.int .i64 0),(.int .i64 0),(.int .i64 0),(.int .i64 0),(.int .i64 0),(.int .i64 0)])⟩
 |96=>⟨.struct [(2,0),(2,1),(2,2),(2,3),(2,4)],5,40,(.agg [(.int .i64 0),(.int .i64 0),(.int .i64 0),(.int .i64 0),(.int .i64 0)])⟩
 |132=>⟨.fn,1,8,.hole⟩
 |143=>⟨.slice 5,1,24,.bD⟩
 |_=>⟨.other,0,0,.hole⟩
theorem MJ:∀t,Bn Tryz.prog t (T t):=by
 intro t
 unfold T
 split
 ·exact .inr ⟨Tryz.t1,_,_,by kernel_rfl,rfl,rfl,rfl,(fun cs h=>by cases h),Tryz.underlying1,trivial⟩
 ·exact .inr ⟨Tryz.t2,_,_,by kernel_rfl,rfl,rfl,rfl,(fun cs h=>by cases h;rfl),Tryz.underlying2,rfl⟩
 ·exact .inr ⟨Tryz.t3,_,_,by kernel_rfl,rfl,rfl,rfl,(fun cs h=>by cases h;rfl),Tryz.underlying3,rfl⟩
 ·exact .inr ⟨Tryz.t4,_,_,by kernel_rfl,rfl,rfl,rfl,(fun cs h=>by cases h;rfl),Tryz.underlying4,trivial⟩
 ·exact .inr ⟨Tryz.t5,_,_,by kernel_rfl,rfl,rfl,rfl,(fun cs h=>by cases h;rfl),Tryz.underlying5,rfl⟩
 ·exact .inr ⟨Tryz.t9,_,_,by kernel_rfl,rfl,rfl,rfl,(fun cs h=>by cases h;rfl),Tryz.underlying9,trivial⟩
 ·exact .inr ⟨Tryz.t22,_,_,by kernel_rfl,rfl,rfl,rfl,(fun cs h=>by cases h;rfl),Tryz.underlying22,rfl⟩
 ·exact .inr ⟨Tryz.t23,_,_,by kernel_rfl,rfl,rfl,rfl,(fun cs h=>by cases h;rfl),Tryz.underlying23,rfl⟩
 ·exact .inr ⟨Tryz.t37,_,_,by kernel_rfl,rfl,rfl,rfl,(fun cs h=>by cases h),Tryz.underlying37,trivial⟩
 ·exact .inr ⟨Tryz.t81,_,_,by kernel_rfl,rfl,rfl,rfl,(fun cs h=>by cases h;rfl),Tryz.underlying81,rfl⟩
 ·exact .inr ⟨Tryz.t84,_,_,by kernel_rfl,rfl,rfl,rfl,(fun cs h=>by cases h;rfl),Tryz.underlying84,rfl⟩
 ·exact .inr ⟨Tryz.t94,_,_,by kernel_rfl,rfl,rfl,rfl,(fun cs h=>by cases h;rfl),Tryz.underlying94,rfl⟩
 ·exact .inr ⟨Tryz.t96,_,_,by kernel_rfl,rfl,rfl,rfl,(fun cs h=>by cases h;rfl),Tryz.underlying96,rfl⟩
 ·exact .inr ⟨Tryz.t132,_,_,by kernel_rfl,rfl,rfl,rfl,(fun cs h=>by cases h),Tryz.underlying132,trivial⟩
 ·exact .inr ⟨Tryz.t143,_,_,by kernel_rfl,rfl,rfl,rfl,(fun cs h=>by cases h;rfl),Tryz.underlying143,rfl⟩
 ·exact .inl ⟨_,_,_,_,rfl,rfl⟩
noncomputable def aP:bt:=⟨Tryz.prog,T,fun _=>[]⟩
theorem MK:aP.dn:=⟨MJ,by kernel_rfl⟩
theorem abI:aP.T 1=⟨.fn,1,8,.hole⟩:=rfl
theorem fJ:aP.T 2=⟨.int .i64,1,8,(.int .i64 0)⟩:=rfl
theorem abJ:aP.T 3=⟨.int .i64,1,8,(.int .i64 0)⟩:=rfl
theorem abK:aP.T 4=⟨.bool,1,1,(.bool false)⟩:=rfl
theorem ML:aP.T 5=⟨.int .u8,1,1,(.int .u8 0)⟩:=rfl
theorem hc:aP.T 9=⟨.str,1,16,(.str [])⟩:=rfl
theorem nj:aP.T 22=⟨.slice 9,1,24,.bD⟩:=rfl
theorem tN:aP.T 23=⟨.slice 2,1,24,.bD⟩:=rfl
theorem abL:aP.T 37=⟨.fn,1,8,.hole⟩:=rfl
theorem abM:aP.T 81=⟨.ptr 94,1,8,.ct⟩:=rfl
theorem abN:aP.T 84=⟨.ptr 96,1,8,.ct⟩:=rfl
theorem mv:aP.T 94=⟨.struct [(2,0),(2,1),(2,2),(2,3),(2,4),(2,5)],6,48,(.agg [(.int .i64 0),(.int .i64 0),(.int .i64 0),(.int .i64 0),(.int .i64 0),(.int .i64 0)])⟩:=rfl
theorem jD:aP.T 96=⟨.struct [(2,0),(2,1),(2,2),(2,3),(2,4)],5,40,(.agg [(.int .i64 0),(.int .i64 0),(.int .i64 0),(.int .i64 0),(.int .i64 0)])⟩:=rfl
theorem abO:aP.T 132=⟨.fn,1,8,.hole⟩:=rfl
theorem MM:aP.T 143=⟨.slice 5,1,24,.bD⟩:=rfl
end Go.Proofs.YtipllbfpaepajaaGreatDoor
