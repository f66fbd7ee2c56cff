/- Part of a proof that a law returns true for every input. No condition. -/
import Derived.Test.YtpddiknnnoomoaaProg
import Derived.KernelRfl
import Derived.Test.YtpddiknnnoomoaaFwF
namespace Go.Proofs.Ytpddiknnnoomoaa
open Go.bZ
def T:TypeId→dR
 |2=>⟨.int .i64,1,8,(.int .i64 0)⟩
 |3=>⟨.int .i64,1,8,(.int .i64 0)⟩
 |4=>⟨.bool,1,1,(.bool false)⟩
 |5=>⟨.int .u8,1,1,(.int .u8 0)⟩
 |9=>⟨.str,1,16,(.str [])⟩
 |22=>⟨.slice 35,1,24,.bt⟩
 |28=>⟨.slice 30,1,24,.bt⟩
 |30=>⟨.struct [(9,0),(9,1)],2,32,(.agg [(.str []),(.str [])])⟩
 |35=>⟨.struct [(9,0),(9,1)],2,32,(.agg [(.str []),(.str [])])⟩
 |62=>⟨.fn,1,8,.hole⟩
 |100=>⟨.int .u64,1,8,(.int .u64 0)⟩
 |103=>⟨.slice 5,1,24,.bt⟩
 |_=>⟨.other,0,0,.hole⟩
theorem I6:∀t,yd Try.prog t (T t):=by
 intro t
 unfold T
 split
 ·exact .inr ⟨Try.t2,_,_,by kernel_rfl,rfl,rfl,rfl,(fun cs h=>by cases h;rfl),Try.underlying2,rfl⟩
 ·exact .inr ⟨Try.t3,_,_,by kernel_rfl,rfl,rfl,rfl,(fun cs h=>by cases h;rfl),Try.underlying3,rfl⟩
 ·exact .inr ⟨Try.t4,_,_,by kernel_rfl,rfl,rfl,rfl,(fun cs h=>by cases h;rfl),Try.underlying4,trivial⟩
 ·exact .inr ⟨Try.t5,_,_,by kernel_rfl,rfl,rfl,rfl,(fun cs h=>by cases h;rfl),Try.underlying5,rfl⟩
 ·exact .inr ⟨Try.t9,_,_,by kernel_rfl,rfl,rfl,rfl,(fun cs h=>by cases h;rfl),Try.underlying9,trivial⟩
 ·exact .inr ⟨Try.t22,_,_,by kernel_rfl,rfl,rfl,rfl,(fun cs h=>by cases h;rfl),Try.underlying22,rfl⟩
 ·exact .inr ⟨Try.t28,_,_,by kernel_rfl,rfl,rfl,rfl,(fun cs h=>by cases h;rfl),Try.underlying28,rfl⟩
 ·exact .inr ⟨Try.t30,_,_,by kernel_rfl,rfl,rfl,rfl,(fun cs h=>by cases h;rfl),Try.underlying30,rfl⟩
 ·exact .inr ⟨Try.t35,_,_,by kernel_rfl,rfl,rfl,rfl,(fun cs h=>by cases h;rfl),Try.underlying35,rfl⟩
 ·exact .inr ⟨Try.t62,_,_,by kernel_rfl,rfl,rfl,rfl,(fun cs h=>by cases h),Try.underlying62,trivial⟩
 ·exact .inr ⟨Try.t100,_,_,by kernel_rfl,rfl,rfl,rfl,(fun cs h=>by cases h;rfl),Try.underlying100,rfl⟩
 ·exact .inr ⟨Try.t103,_,_,by kernel_rfl,rfl,rfl,rfl,(fun cs h=>by cases h;rfl),Try.underlying103,rfl⟩
 ·exact .inl ⟨_,_,_,_,rfl,rfl⟩
noncomputable def aZ:bo:=⟨Try.prog,T,fun _=>[]⟩
theorem I7:aZ.c5:=⟨I6,by kernel_rfl⟩
theorem RQ:aZ.T 2=⟨.int .i64,1,8,(.int .i64 0)⟩:=rfl
theorem RR:aZ.T 3=⟨.int .i64,1,8,(.int .i64 0)⟩:=rfl
theorem RS:aZ.T 4=⟨.bool,1,1,(.bool false)⟩:=rfl
theorem I8:aZ.T 5=⟨.int .u8,1,1,(.int .u8 0)⟩:=rfl
theorem fy:aZ.T 9=⟨.str,1,16,(.str [])⟩:=rfl
theorem r8:aZ.T 22=⟨.slice 35,1,24,.bt⟩:=rfl
theorem tI:aZ.T 28=⟨.slice 30,1,24,.bt⟩:=rfl
theorem r9:aZ.T 30=⟨.struct [(9,0),(9,1)],2,32,(.agg [(.str []),(.str [])])⟩:=rfl
theorem nN:aZ.T 35=⟨.struct [(9,0),(9,1)],2,32,(.agg [(.str []),(.str [])])⟩:=rfl
theorem RT:aZ.T 62=⟨.fn,1,8,.hole⟩:=rfl
theorem RU:aZ.T 100=⟨.int .u64,1,8,(.int .u64 0)⟩:=rfl
theorem I9:aZ.T 103=⟨.slice 5,1,24,.bt⟩:=rfl
end Go.Proofs.Ytpddiknnnoomoaa
