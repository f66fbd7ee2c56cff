/- Part of a proof that a law returns true for every input. No condition. -/
import Derived.Test.YtikimdcnadipbaaGreatDoorProg
import Derived.KernelRfl
import Derived.Test.YtikimdcnadipbaaGreatDoorFwF
namespace Go.Proofs.YtikimdcnadipbaaGreatDoor
open Go.bZ
def T:TypeId→ee
 |2=>⟨.int .i64,1,8,(.int .i64 0)⟩
 |3=>⟨.int .i64,1,8,(.int .i64 0)⟩
 |4=>⟨.bool,1,1,(.bool false)⟩
 |5=>⟨.int .u8,1,1,(.int .u8 0)⟩
 |9=>⟨.str,1,16,(.str [])⟩
 |22=>⟨.slice 2,1,24,.bu⟩
 |42=>⟨.slice 66,1,24,.bu⟩
 |45=>⟨.slice 68,1,24,.bu⟩
 |66=>⟨.struct [(2,0),(2,1),(2,2),(9,3)],4,40,(.agg [(.int .i64 0),(.int .i64 0),(.int .i64 0),(.str [])])⟩
 |68=>⟨.struct [(2,0),(2,1),(2,2),(9,3)],4,40,(.agg [(.int .i64 0),(.int .i64 0),(.int .i64 0),(.str [])])⟩
 |71=>⟨.slice 5,1,24,.bu⟩
 |73=>⟨(.dP 5),2,32,(.agg [.cw,.bu])⟩
 |99=>⟨.fn,1,8,.hole⟩
 |111=>⟨.ptr 68,1,8,.cw⟩
 |115=>⟨.fn,1,8,.hole⟩
 |138=>⟨.slice 9,1,24,.bu⟩
 |_=>⟨.other,0,0,.hole⟩
theorem LW:∀t,Ar Tryz.prog t (T t):=by
 intro t
 unfold T
 split
 ·exact .inr ⟨Tryz.t2,_,_,by kernel_rfl,rfl,rfl,rfl,(fun cs h=>by cases h;rfl),Tryz.underlying2,rfl⟩
 ·exact .inr ⟨Tryz.t3,_,_,by kernel_rfl,rfl,rfl,rfl,(fun cs h=>by cases h;rfl),Tryz.underlying3,rfl⟩
 ·exact .inr ⟨Tryz.t4,_,_,by kernel_rfl,rfl,rfl,rfl,(fun cs h=>by cases h;rfl),Tryz.underlying4,trivial⟩
 ·exact .inr ⟨Tryz.t5,_,_,by kernel_rfl,rfl,rfl,rfl,(fun cs h=>by cases h;rfl),Tryz.underlying5,rfl⟩
 ·exact .inr ⟨Tryz.t9,_,_,by kernel_rfl,rfl,rfl,rfl,(fun cs h=>by cases h;rfl),Tryz.underlying9,trivial⟩
 ·exact .inr ⟨Tryz.t22,_,_,by kernel_rfl,rfl,rfl,rfl,(fun cs h=>by cases h;rfl),Tryz.underlying22,rfl⟩
 ·exact .inr ⟨Tryz.t42,_,_,by kernel_rfl,rfl,rfl,rfl,(fun cs h=>by cases h;rfl),Tryz.underlying42,rfl⟩
 ·exact .inr ⟨Tryz.t45,_,_,by kernel_rfl,rfl,rfl,rfl,(fun cs h=>by cases h;rfl),Tryz.underlying45,rfl⟩
 ·exact .inr ⟨Tryz.t66,_,_,by kernel_rfl,rfl,rfl,rfl,(fun cs h=>by cases h;rfl),Tryz.underlying66,rfl⟩
 ·exact .inr ⟨Tryz.t68,_,_,by kernel_rfl,rfl,rfl,rfl,(fun cs h=>by cases h;rfl),Tryz.underlying68,rfl⟩
 ·exact .inr ⟨Tryz.t71,_,_,by kernel_rfl,rfl,rfl,rfl,(fun cs h=>by cases h;rfl),Tryz.underlying71,rfl⟩
 ·exact .inr ⟨Tryz.t73,_,_,by kernel_rfl,rfl,rfl,rfl,(fun cs h=>by cases h;rfl),Tryz.underlying73,trivial⟩
 ·exact .inr ⟨Tryz.t99,_,_,by kernel_rfl,rfl,rfl,rfl,(fun cs h=>by cases h),Tryz.underlying99,trivial⟩
 ·exact .inr ⟨Tryz.t111,_,_,by kernel_rfl,rfl,rfl,rfl,(fun cs h=>by cases h;rfl),Tryz.underlying111,rfl⟩
 ·exact .inr ⟨Tryz.t115,_,_,by kernel_rfl,rfl,rfl,rfl,(fun cs h=>by cases h),Tryz.underlying115,trivial⟩
 ·exact .inr ⟨Tryz.t138,_,_,by kernel_rfl,rfl,rfl,rfl,(fun cs h=>by cases h;rfl),Tryz.underlying138,rfl⟩
 ·exact .inl ⟨_,_,_,_,rfl,rfl⟩
noncomputable def aO:bm:=⟨Tryz.prog,T,fun _=>[]⟩
theorem LX:aO.db:=⟨LW,by kernel_rfl⟩
theorem h2:aO.T 2=⟨.int .i64,1,8,(.int .i64 0)⟩:=rfl
theorem YB:aO.T 3=⟨.int .i64,1,8,(.int .i64 0)⟩:=rfl
theorem YC:aO.T 4=⟨.bool,1,1,(.bool false)⟩:=rfl
theorem u9:aO.T 5=⟨.int .u8,1,1,(.int .u8 0)⟩:=rfl
theorem eU:aO.T 9=⟨.str,1,16,(.str [])⟩:=rfl
theorem mx:aO.T 22=⟨.slice 2,1,24,.bu⟩:=rfl
theorem u_:aO.T 42=⟨.slice 66,1,24,.bu⟩:=rfl
theorem ot:aO.T 45=⟨.slice 68,1,24,.bu⟩:=rfl
theorem va:aO.T 66=⟨.struct [(2,0),(2,1),(2,2),(9,3)],4,40,(.agg [(.int .i64 0),(.int .i64 0),(.int .i64 0),(.str [])])⟩:=rfl
theorem k7:aO.T 68=⟨.struct [(2,0),(2,1),(2,2),(9,3)],4,40,(.agg [(.int .i64 0),(.int .i64 0),(.int .i64 0),(.str [])])⟩:=rfl
theorem vb:aO.T 71=⟨.slice 5,1,24,.bu⟩:=rfl
theorem LY:aO.T 73=⟨(.dP 5),2,32,(.agg [.cw,.bu])⟩:=rfl
theorem YD:aO.T 99=⟨.fn,1,8,.hole⟩:=rfl
theorem YE:aO.T 111=⟨.ptr 68,1,8,.cw⟩:=rfl
theorem YF:aO.T 115=⟨.fn,1,8,.hole⟩:=rfl
theorem my:aO.T 138=⟨.slice 9,1,24,.bu⟩:=rfl
end Go.Proofs.YtikimdcnadipbaaGreatDoor
