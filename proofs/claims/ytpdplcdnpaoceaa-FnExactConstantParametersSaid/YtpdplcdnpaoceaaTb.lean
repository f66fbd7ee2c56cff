/- Part of a proof that a law returns true for every input. No condition. -/
import Derived.Test.YtpdplcdnpaoceaaProg
import Derived.KernelRfl
import Derived.Test.YtpdplcdnpaoceaaFwF
namespace Go.Proofs.Ytpdplcdnpaoceaa
open Go.cM
def T:TypeId->eU
 |2=>⟨.int .i64,1,8,(.int .i64 0)⟩
 |3=>⟨.int .i64,1,8,(.int .i64 0)⟩
 |4=>⟨.bool,1,1,(.bool false)⟩
 |5=>⟨.int .u8,1,1,(.int .u8 0)⟩
 |9=>⟨.str,1,16,(.str [])⟩
 |22=>⟨.slice 2,1,24,.a5⟩
 |23=>⟨.slice 70,1,24,.a5⟩
 |25=>⟨.struct [(2,0),(22,1),(23,2)],3,56,(.agg [(.int .i64 0),.a5,.a5])⟩
 |27=>⟨.slice 47,1,24,.a5⟩
 |29=>⟨.struct [(2,0),(22,1),(27,2)],3,56,(.agg [(.int .i64 0),.a5,.a5])⟩
 |42=>⟨.ptr 29,1,8,.cJ⟩
 |44=>⟨.slice 76,1,24,.a5⟩
 |45=>⟨.slice 44,1,24,.a5⟩
 |47=>⟨.struct [(22,0),(44,1),(9,2),(45,3),(45,4)],5,112,(.agg [.a5,.a5,(.str []),.a5,.a5])⟩
 |49=>⟨.ptr 47,1,8,.cJ⟩
 |51=>⟨.fn,1,8,.hole⟩
 |57=>⟨.fn,1,8,.hole⟩
 |63=>⟨.slice 4,1,24,.a5⟩
 |64=>⟨.fn,1,8,.hole⟩
 |67=>⟨.slice 120,1,24,.a5⟩
 |68=>⟨.slice 67,1,24,.a5⟩
 |70=>⟨.struct [(22,0),(67,1),(9,2),(68,3),(68,4)],5,112,(.agg [.a5,.a5,(.str []),.a5,.a5])⟩
 |76=>⟨.struct [(2,0),(2,1)],2,16,(.agg [(.int .i64 0),(.int .i64 0)])⟩
 |79=>⟨.fn,1,8,.hole⟩
 |80=>⟨.fn,1,8,.hole⟩
 |82=>⟨.fn,1,8,.hole⟩
 |89=>⟨.ptr 95,1,8,.cJ⟩
 |90=>⟨.fn,1,8,.hole⟩
 |93=>⟨.slice 89,1,24,.a5⟩
 |95=>⟨.struct [(76,0),(93,2)],3,40,(.agg [(.agg [(.int .i64 0),(.int .i64 0)]),.a5])⟩
 |107=>⟨.fn,1,8,.hole⟩
 |110=>⟨.slice 5,1,24,.a5⟩
 |117=>⟨.ptr 76,1,8,.cJ⟩
 |120=>⟨.struct [(2,0),(2,1)],2,16,(.agg [(.int .i64 0),(.int .i64 0)])⟩
 |131=>⟨.slice 45,1,24,.a5⟩
 |_=>⟨.other,0,0,.hole⟩
theorem Pg:∀t,Dw Try.prog t (T t):=by
 intro t;unfold T;split
 .exact .inr ⟨Try.t2,_,_,by kernel_rfl,rfl,rfl,rfl,(λcs h=>by cases h;rfl),Try.underlying2,rfl⟩
 .exact .inr ⟨Try.t3,_,_,by kernel_rfl,rfl,rfl,rfl,(λcs h=>by cases h;rfl),Try.underlying3,rfl⟩
 .exact .inr ⟨Try.t4,_,_,by kernel_rfl,rfl,rfl,rfl,(λcs h=>by cases h;rfl),Try.underlying4,trivial⟩
 .exact .inr ⟨Try.t5,_,_,by kernel_rfl,rfl,rfl,rfl,(λcs h=>by cases h;rfl),Try.underlying5,rfl⟩
 .exact .inr ⟨Try.t9,_,_,by kernel_rfl,rfl,rfl,rfl,(λcs h=>by cases h;rfl),Try.underlying9,trivial⟩
 .exact .inr ⟨Try.t22,_,_,by kernel_rfl,rfl,rfl,rfl,(λcs h=>by cases h;rfl),Try.underlying22,rfl⟩
 .exact .inr ⟨Try.t23,_,_,by kernel_rfl,rfl,rfl,rfl,(λcs h=>by cases h;rfl),Try.underlying23,rfl⟩
 .exact .inr ⟨Try.t25,_,_,by kernel_rfl,rfl,rfl,rfl,(λcs h=>by cases h;rfl),Try.underlying25,rfl⟩
 .exact .inr ⟨Try.t27,_,_,by kernel_rfl,rfl,rfl,rfl,(λcs h=>by cases h;rfl),Try.underlying27,rfl⟩
 .exact .inr ⟨Try.t29,_,_,by kernel_rfl,rfl,rfl,rfl,(λcs h=>by cases h;rfl),Try.underlying29,rfl⟩
 .exact .inr ⟨Try.t42,_,_,by kernel_rfl,rfl,rfl,rfl,(λcs h=>by cases h;rfl),Try.underlying42,rfl⟩
 .exact .inr ⟨Try.t44,_,_,by kernel_rfl,rfl,rfl,rfl,(λcs h=>by cases h;rfl),Try.underlying44,rfl⟩
 .exact .inr ⟨Try.t45,_,_,by kernel_rfl,rfl,rfl,rfl,(λcs h=>by cases h;rfl),Try.underlying45,rfl⟩
 .exact .inr ⟨Try.t47,_,_,by kernel_rfl,rfl,rfl,rfl,(λcs h=>by cases h;rfl),Try.underlying47,rfl⟩
 .exact .inr ⟨Try.t49,_,_,by kernel_rfl,rfl,rfl,rfl,(λcs h=>by cases h;rfl),Try.underlying49,rfl⟩
 .exact .inr ⟨Try.t51,_,_,by kernel_rfl,rfl,rfl,rfl,(λcs h=>by cases h),Try.underlying51,trivial⟩
 .exact .inr ⟨Try.t57,_,_,by kernel_rfl,rfl,rfl,rfl,(λcs h=>by cases h),Try.underlying57,trivial⟩
 .exact .inr ⟨Try.t63,_,_,by kernel_rfl,rfl,rfl,rfl,(λcs h=>by cases h;rfl),Try.underlying63,rfl⟩
 .exact .inr ⟨Try.t64,_,_,by kernel_rfl,rfl,rfl,rfl,(λcs h=>by cases h),Try.underlying64,trivial⟩
 .exact .inr ⟨Try.t67,_,_,by kernel_rfl,rfl,rfl,rfl,(λcs h=>by cases h;rfl),Try.underlying67,rfl⟩
 .exact .inr ⟨Try.t68,_,_,by kernel_rfl,rfl,rfl,rfl,(λcs h=>by cases h;rfl),Try.underlying68,rfl⟩
 .exact .inr ⟨Try.t70,_,_,by kernel_rfl,rfl,rfl,rfl,(λcs h=>by cases h;rfl),Try.underlying70,rfl⟩
 .exact .inr ⟨Try.t76,_,_,by kernel_rfl,rfl,rfl,rfl,(λcs h=>by cases h;rfl),Try.underlying76,rfl⟩
 .exact .inr ⟨Try.t79,_,_,by kernel_rfl,rfl,rfl,rfl,(λcs h=>by cases h),Try.underlying79,trivial⟩
 .exact .inr ⟨Try.t80,_,_,by kernel_rfl,rfl,rfl,rfl,(λcs h=>by cases h),Try.underlying80,trivial⟩
 .exact .inr ⟨Try.t82,_,_,by kernel_rfl,rfl,rfl,rfl,(λcs h=>by cases h),Try.underlying82,trivial⟩
 .exact .inr ⟨Try.t89,_,_,by kernel_rfl,rfl,rfl,rfl,(λcs h=>by cases h;rfl),Try.underlying89,rfl⟩
 .exact .inr ⟨Try.t90,_,_,by kernel_rfl,rfl,rfl,rfl,(λcs h=>by cases h),Try.underlying90,trivial⟩
 .exact .inr ⟨Try.t93,_,_,by kernel_rfl,rfl,rfl,rfl,(λcs h=>by cases h;rfl),Try.underlying93,rfl⟩
 .exact .inr ⟨Try.t95,_,_,by kernel_rfl,rfl,rfl,rfl,(λcs h=>by cases h;rfl),Try.underlying95,rfl⟩
 .exact .inr ⟨Try.t107,_,_,by kernel_rfl,rfl,rfl,rfl,(λcs h=>by cases h),Try.underlying107,trivial⟩
 .exact .inr ⟨Try.t110,_,_,by kernel_rfl,rfl,rfl,rfl,(λcs h=>by cases h;rfl),Try.underlying110,rfl⟩
 .exact .inr ⟨Try.t117,_,_,by kernel_rfl,rfl,rfl,rfl,(λcs h=>by cases h;rfl),Try.underlying117,rfl⟩
 .exact .inr ⟨Try.t120,_,_,by kernel_rfl,rfl,rfl,rfl,(λcs h=>by cases h;rfl),Try.underlying120,rfl⟩
 .exact .inr ⟨Try.t131,_,_,by kernel_rfl,rfl,rfl,rfl,(λcs h=>by cases h;rfl),Try.underlying131,rfl⟩
 .exact .inl ⟨_,_,_,_,rfl,rfl⟩
noncomputable def ay:bA:=⟨Try.prog,T,λ_=>[]⟩
theorem Hq:ay.dm:=⟨Pg,by kernel_rfl⟩
theorem A8:ay.T 2=⟨.int .i64,1,8,(.int .i64 0)⟩:=rfl
theorem Ph:ay.T 3=⟨.int .i64,1,8,(.int .i64 0)⟩:=rfl
theorem Pj:ay.T 4=⟨.bool,1,1,(.bool false)⟩:=rfl
theorem Pk:ay.T 5=⟨.int .u8,1,1,(.int .u8 0)⟩:=rfl
theorem Pl:ay.T 9=⟨.str,1,16,(.str [])⟩:=rfl
theorem Pm:ay.T 22=⟨.slice 2,1,24,.a5⟩:=rfl
theorem Pn:ay.T 23=⟨.slice 70,1,24,.a5⟩:=rfl
theorem Po:ay.T 25=⟨.struct [(2,0),(22,1),(23,2)],3,56,(.agg [(.int .i64 0),.a5,.a5])⟩:=rfl
theorem Pp:ay.T 27=⟨.slice 47,1,24,.a5⟩:=rfl
theorem Pq:ay.T 29=⟨.struct [(2,0),(22,1),(27,2)],3,56,(.agg [(.int .i64 0),.a5,.a5])⟩:=rfl
theorem Wo:ay.T 42=⟨.ptr 29,1,8,.cJ⟩:=rfl
theorem Pr:ay.T 44=⟨.slice 76,1,24,.a5⟩:=rfl
theorem Ps:ay.T 45=⟨.slice 44,1,24,.a5⟩:=rfl
theorem Pt:ay.T 47=⟨.struct [(22,0),(44,1),(9,2),(45,3),(45,4)],5,112,(.agg [.a5,.a5,(.str []),.a5,.a5])⟩:=rfl
theorem Wp:ay.T 49=⟨.ptr 47,1,8,.cJ⟩:=rfl
theorem Wq:ay.T 51=⟨.fn,1,8,.hole⟩:=rfl
theorem Wr:ay.T 57=⟨.fn,1,8,.hole⟩:=rfl
theorem Pu:ay.T 63=⟨.slice 4,1,24,.a5⟩:=rfl
theorem Ws:ay.T 64=⟨.fn,1,8,.hole⟩:=rfl
theorem Pv:ay.T 67=⟨.slice 120,1,24,.a5⟩:=rfl
theorem Pw:ay.T 68=⟨.slice 67,1,24,.a5⟩:=rfl
theorem Px:ay.T 70=⟨.struct [(22,0),(67,1),(9,2),(68,3),(68,4)],5,112,(.agg [.a5,.a5,(.str []),.a5,.a5])⟩:=rfl
theorem A9:ay.T 76=⟨.struct [(2,0),(2,1)],2,16,(.agg [(.int .i64 0),(.int .i64 0)])⟩:=rfl
theorem Wt:ay.T 79=⟨.fn,1,8,.hole⟩:=rfl
theorem Wu:ay.T 80=⟨.fn,1,8,.hole⟩:=rfl
theorem Wv:ay.T 82=⟨.fn,1,8,.hole⟩:=rfl
theorem Py:ay.T 89=⟨.ptr 95,1,8,.cJ⟩:=rfl
theorem Ww:ay.T 90=⟨.fn,1,8,.hole⟩:=rfl
theorem Pz:ay.T 93=⟨.slice 89,1,24,.a5⟩:=rfl
theorem PA:ay.T 95=⟨.struct [(76,0),(93,2)],3,40,(.agg [(.agg [(.int .i64 0),(.int .i64 0)]),.a5])⟩:=rfl
theorem Wx:ay.T 107=⟨.fn,1,8,.hole⟩:=rfl
theorem PB:ay.T 110=⟨.slice 5,1,24,.a5⟩:=rfl
theorem Wy:ay.T 117=⟨.ptr 76,1,8,.cJ⟩:=rfl
theorem PC:ay.T 120=⟨.struct [(2,0),(2,1)],2,16,(.agg [(.int .i64 0),(.int .i64 0)])⟩:=rfl
theorem PD:ay.T 131=⟨.slice 45,1,24,.a5⟩:=rfl
end Go.Proofs.Ytpdplcdnpaoceaa
