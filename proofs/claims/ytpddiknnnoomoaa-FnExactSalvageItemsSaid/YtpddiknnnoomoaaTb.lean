/- Part of a proof that a law returns true for every input. No condition. -/
import Derived.Test.YtpddiknnnoomoaaProg
import Derived.KernelRfl
import Derived.Test.YtpddiknnnoomoaaFwF
namespace Go.Proofs.Ytpddiknnnoomoaa
open Go.bV
def T:TypeId→dR
 |2=>⟨.int .i64,1,8,(.int .i64 0)⟩
 |3=>⟨.int .i64,1,8,(.int .i64 0)⟩
 |4=>⟨.bool,1,1,(.bool false)⟩
 |5=>⟨.int .u8,1,1,(.int .u8 0)⟩
 |9=>⟨.str,1,16,(.str [])⟩
 |22=>⟨.slice 35,1,24,.bG⟩
 |35=>⟨.struct [(9,0),(9,1)],2,32,(.agg [(.str []),(.str [])])⟩
 |62=>⟨.fn,1,8,.hole⟩
 |96=>⟨.ptr 98,1,8,.ck⟩
 |98=>⟨.struct [(9,0),(4,1)],2,24,(.agg [(.str []),(.bool false)])⟩
 |100=>⟨.int .u64,1,8,(.int .u64 0)⟩
 |103=>⟨.slice 5,1,24,.bG⟩
 |_=>⟨.other,0,0,.hole⟩
theorem HD:∀t,xw Try.prog t (T t):=by
 intro t
 unfold T
 split
 ·exact .inr ⟨Try.t2,_,_,by kernel_rfl,rfl,rfl,rfl,(fun cs h=>by cases h;rfl),Try.underlying2,rfl⟩
 ·exact .inr ⟨Try.t3,_,_,by kernel_rfl,rfl,rfl,rfl,(fun cs h=>by cases h;rfl),Try.underlying3,rfl⟩
 ·exact .inr ⟨Try.t4,_,_,by kernel_rfl,rfl,rfl,rfl,(fun cs h=>by cases h;rfl),Try.underlying4,trivial⟩
 ·exact .inr ⟨Try.t5,_,_,by kernel_rfl,rfl,rfl,rfl,(fun cs h=>by cases h;rfl),Try.underlying5,rfl⟩
 ·exact .inr ⟨Try.t9,_,_,by kernel_rfl,rfl,rfl,rfl,(fun cs h=>by cases h;rfl),Try.underlying9,trivial⟩
 ·exact .inr ⟨Try.t22,_,_,by kernel_rfl,rfl,rfl,rfl,(fun cs h=>by cases h;rfl),Try.underlying22,rfl⟩
 ·exact .inr ⟨Try.t35,_,_,by kernel_rfl,rfl,rfl,rfl,(fun cs h=>by cases h;rfl),Try.underlying35,rfl⟩
 ·exact .inr ⟨Try.t62,_,_,by kernel_rfl,rfl,rfl,rfl,(fun cs h=>by cases h),Try.underlying62,trivial⟩
 ·exact .inr ⟨Try.t96,_,_,by kernel_rfl,rfl,rfl,rfl,(fun cs h=>by cases h;rfl),Try.underlying96,rfl⟩
 ·exact .inr ⟨Try.t98,_,_,by kernel_rfl,rfl,rfl,rfl,(fun cs h=>by cases h;rfl),Try.underlying98,rfl⟩
 ·exact .inr ⟨Try.t100,_,_,by kernel_rfl,rfl,rfl,rfl,(fun cs h=>by cases h;rfl),Try.underlying100,rfl⟩
 ·exact .inr ⟨Try.t103,_,_,by kernel_rfl,rfl,rfl,rfl,(fun cs h=>by cases h;rfl),Try.underlying103,rfl⟩
 ·exact .inl ⟨_,_,_,_,rfl,rfl⟩
noncomputable def a1:bq:=⟨Try.prog,T,fun _=>[]⟩
theorem HE:a1.cY:=⟨HD,by kernel_rfl⟩
theorem PU:a1.T 2=⟨.int .i64,1,8,(.int .i64 0)⟩:=rfl
theorem PV:a1.T 3=⟨.int .i64,1,8,(.int .i64 0)⟩:=rfl
theorem k9:a1.T 4=⟨.bool,1,1,(.bool false)⟩:=rfl
theorem HF:a1.T 5=⟨.int .u8,1,1,(.int .u8 0)⟩:=rfl
theorem dF:a1.T 9=⟨.str,1,16,(.str [])⟩:=rfl
theorem A6:a1.T 22=⟨.slice 35,1,24,.bG⟩:=rfl
theorem hB:a1.T 35=⟨.struct [(9,0),(9,1)],2,32,(.agg [(.str []),(.str [])])⟩:=rfl
theorem PW:a1.T 62=⟨.fn,1,8,.hole⟩:=rfl
theorem PX:a1.T 96=⟨.ptr 98,1,8,.ck⟩:=rfl
theorem k_:a1.T 98=⟨.struct [(9,0),(4,1)],2,24,(.agg [(.str []),(.bool false)])⟩:=rfl
theorem PY:a1.T 100=⟨.int .u64,1,8,(.int .u64 0)⟩:=rfl
theorem HG:a1.T 103=⟨.slice 5,1,24,.bG⟩:=rfl
end Go.Proofs.Ytpddiknnnoomoaa
