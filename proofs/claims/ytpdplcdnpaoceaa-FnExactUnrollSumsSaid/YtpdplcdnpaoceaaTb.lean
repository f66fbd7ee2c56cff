/- Part of a proof that a law returns true for every input. No condition. -/
import Derived.Test.YtpdplcdnpaoceaaProg
import Derived.KernelRfl
import Derived.Test.YtpdplcdnpaoceaaFwF
namespace Go.Proofs.Ytpdplcdnpaoceaa
open Go.cV
def T:TypeId->e4
 |2=>⟨.int .i64,1,8,(.int .i64 0)⟩
 |3=>⟨.int .i64,1,8,(.int .i64 0)⟩
 |4=>⟨.bool,1,1,(.bool false)⟩
 |5=>⟨.int .u8,1,1,(.int .u8 0)⟩
 |9=>⟨.str,1,16,(.str [])⟩
 |22=>⟨.slice 2,1,24,.aK⟩
 |23=>⟨.slice 70,1,24,.aK⟩
 |25=>⟨.struct [(2,0),(22,1),(23,2)],3,56,(.agg [(.int .i64 0),.aK,.aK])⟩
 |27=>⟨.slice 47,1,24,.aK⟩
 |29=>⟨.struct [(2,0),(22,1),(27,2)],3,56,(.agg [(.int .i64 0),.aK,.aK])⟩
 |32=>⟨.fn,1,8,.hole⟩
 |34=>⟨.fn,1,8,.hole⟩
 |42=>⟨.ptr 29,1,8,.cW⟩
 |44=>⟨.slice 76,1,24,.aK⟩
 |45=>⟨.slice 44,1,24,.aK⟩
 |47=>⟨.struct [(22,0),(44,1),(9,2),(45,3),(45,4)],5,112,(.agg [.aK,.aK,(.str []),.aK,.aK])⟩
 |49=>⟨.ptr 47,1,8,.cW⟩
 |51=>⟨.fn,1,8,.hole⟩
 |53=>⟨.fn,1,8,.hole⟩
 |57=>⟨.fn,1,8,.hole⟩
 |58=>⟨.fn,1,8,.hole⟩
 |59=>⟨.fn,1,8,.hole⟩
 |67=>⟨.slice 120,1,24,.aK⟩
 |68=>⟨.slice 67,1,24,.aK⟩
 |70=>⟨.struct [(22,0),(67,1),(9,2),(68,3),(68,4)],5,112,(.agg [.aK,.aK,(.str []),.aK,.aK])⟩
 |76=>⟨.struct [(2,0),(2,1)],2,16,(.agg [(.int .i64 0),(.int .i64 0)])⟩
 |79=>⟨.fn,1,8,.hole⟩
 |80=>⟨.fn,1,8,.hole⟩
 |82=>⟨.fn,1,8,.hole⟩
 |107=>⟨.fn,1,8,.hole⟩
 |110=>⟨.slice 5,1,24,.aK⟩
 |117=>⟨.ptr 76,1,8,.cW⟩
 |120=>⟨.struct [(2,0),(2,1)],2,16,(.agg [(.int .i64 0),(.int .i64 0)])⟩
 |131=>⟨.slice 45,1,24,.aK⟩
 |_=>⟨.other,0,0,.hole⟩
theorem Oe:∀t,CG Try.prog t (T t):=by
 intro t;unfold T;split
 .exact .inr ⟨Try.t2,_,_,by kernel_rfl,rfl,rfl,rfl,(λcs h=>by cases h;rfl),Try.underlying2,rfl⟩
 .exact .inr ⟨Try.t3,_,_,by kernel_rfl,rfl,rfl,rfl,(λcs h=>by cases h;rfl),Try.underlying3,rfl⟩
 .exact .inr ⟨Try.t4,_,_,by kernel_rfl,rfl,rfl,rfl,(λcs h=>by cases h;rfl),Try.underlying4,trivial⟩
 .exact .inr ⟨Try.t5,_,_,by kernel_rfl,rfl,rfl,rfl,(λcs h=>by cases h;rfl),Try.underlying5,rfl⟩
 .exact .inr ⟨Try.t9,_,_,by kernel_rfl,rfl,rfl,rfl,(λcs h=>by cases h;rfl),Try.underlying9,trivial⟩
 .exact .inr ⟨Try.t22,_,_,by kernel_rfl,rfl,rfl,rfl,(λcs h=>by cases h;rfl),Try.underlying22,rfl⟩
 .exact .inr ⟨Try.t23,_,_,by kernel_rfl,rfl,rfl,rfl,(λcs h=>by cases h;rfl),Try.underlying23,rfl⟩
 .exact .inr ⟨Try.t25,_,_,by kernel_rfl,rfl,rfl,rfl,(λcs h=>by cases h;rfl),Try.underlying25,rfl⟩
 .exact .inr ⟨Try.t27,_,_,by kernel_rfl,rfl,rfl,rfl,(λcs h=>by cases h;rfl),Try.underlying27,rfl⟩
 .exact .inr ⟨Try.t29,_,_,by kernel_rfl,rfl,rfl,rfl,(λcs h=>by cases h;rfl),Try.underlying29,rfl⟩
 .exact .inr ⟨Try.t32,_,_,by kernel_rfl,rfl,rfl,rfl,(λcs h=>by cases h),Try.underlying32,trivial⟩
 .exact .inr ⟨Try.t34,_,_,by kernel_rfl,rfl,rfl,rfl,(λcs h=>by cases h),Try.underlying34,trivial⟩
 .exact .inr ⟨Try.t42,_,_,by kernel_rfl,rfl,rfl,rfl,(λcs h=>by cases h;rfl),Try.underlying42,rfl⟩
 .exact .inr ⟨Try.t44,_,_,by kernel_rfl,rfl,rfl,rfl,(λcs h=>by cases h;rfl),Try.underlying44,rfl⟩
 .exact .inr ⟨Try.t45,_,_,by kernel_rfl,rfl,rfl,rfl,(λcs h=>by cases h;rfl),Try.underlying45,rfl⟩
 .exact .inr ⟨Try.t47,_,_,by kernel_rfl,rfl,rfl,rfl,(λcs h=>by cases h;rfl),Try.underlying47,rfl⟩
 .exact .inr ⟨Try.t49,_,_,by kernel_rfl,rfl,rfl,rfl,(λcs h=>by cases h;rfl),Try.underlying49,rfl⟩
 .exact .inr ⟨Try.t51,_,_,by kernel_rfl,rfl,rfl,rfl,(λcs h=>by cases h),Try.underlying51,trivial⟩
 .exact .inr ⟨Try.t53,_,_,by kernel_rfl,rfl,rfl,rfl,(λcs h=>by cases h),Try.underlying53,trivial⟩
 .exact .inr ⟨Try.t57,_,_,by kernel_rfl,rfl,rfl,rfl,(λcs h=>by cases h),Try.underlying57,trivial⟩
 .exact .inr ⟨Try.t58,_,_,by kernel_rfl,rfl,rfl,rfl,(λcs h=>by cases h),Try.underlying58,trivial⟩
 .exact .inr ⟨Try.t59,_,_,by kernel_rfl,rfl,rfl,rfl,(λcs h=>by cases h),Try.underlying59,trivial⟩
 .exact .inr ⟨Try.t67,_,_,by kernel_rfl,rfl,rfl,rfl,(λcs h=>by cases h;rfl),Try.underlying67,rfl⟩
 .exact .inr ⟨Try.t68,_,_,by kernel_rfl,rfl,rfl,rfl,(λcs h=>by cases h;rfl),Try.underlying68,rfl⟩
 .exact .inr ⟨Try.t70,_,_,by kernel_rfl,rfl,rfl,rfl,(λcs h=>by cases h;rfl),Try.underlying70,rfl⟩
 .exact .inr ⟨Try.t76,_,_,by kernel_rfl,rfl,rfl,rfl,(λcs h=>by cases h;rfl),Try.underlying76,rfl⟩
 .exact .inr ⟨Try.t79,_,_,by kernel_rfl,rfl,rfl,rfl,(λcs h=>by cases h),Try.underlying79,trivial⟩
 .exact .inr ⟨Try.t80,_,_,by kernel_rfl,rfl,rfl,rfl,(λcs h=>by cases h),Try.underlying80,trivial⟩
 .exact .inr ⟨Try.t82,_,_,by kernel_rfl,rfl,rfl,rfl,(λcs h=>by cases h),Try.underlying82,trivial⟩
 .exact .inr ⟨Try.t107,_,_,by kernel_rfl,rfl,rfl,rfl,(λcs h=>by cases h),Try.underlying107,trivial⟩
 .exact .inr ⟨Try.t110,_,_,by kernel_rfl,rfl,rfl,rfl,(λcs h=>by cases h;rfl),Try.underlying110,rfl⟩
 .exact .inr ⟨Try.t117,_,_,by kernel_rfl,rfl,rfl,rfl,(λcs h=>by cases h;rfl),Try.underlying117,rfl⟩
 .exact .inr ⟨Try.t120,_,_,by kernel_rfl,rfl,rfl,rfl,(λcs h=>by cases h;rfl),Try.underlying120,rfl⟩
 .exact .inr ⟨Try.t131,_,_,by kernel_rfl,rfl,rfl,rfl,(λcs h=>by cases h;rfl),Try.underlying131,rfl⟩
 .exact .inl ⟨_,_,_,_,rfl,rfl⟩
noncomputable def aA:bI:=⟨Try.prog,T,λ_=>[]⟩
theorem AB:aA.dx:=⟨Oe,by kernel_rfl⟩
theorem Of:aA.T 2=⟨.int .i64,1,8,(.int .i64 0)⟩:=rfl
theorem Og:aA.T 3=⟨.int .i64,1,8,(.int .i64 0)⟩:=rfl
theorem Us:aA.T 4=⟨.bool,1,1,(.bool false)⟩:=rfl
theorem Oh:aA.T 5=⟨.int .u8,1,1,(.int .u8 0)⟩:=rfl
theorem Oi:aA.T 9=⟨.str,1,16,(.str [])⟩:=rfl
theorem Oj:aA.T 22=⟨.slice 2,1,24,.aK⟩:=rfl
theorem Ok:aA.T 23=⟨.slice 70,1,24,.aK⟩:=rfl
theorem Ol:aA.T 25=⟨.struct [(2,0),(22,1),(23,2)],3,56,(.agg [(.int .i64 0),.aK,.aK])⟩:=rfl
theorem Om:aA.T 27=⟨.slice 47,1,24,.aK⟩:=rfl
theorem On:aA.T 29=⟨.struct [(2,0),(22,1),(27,2)],3,56,(.agg [(.int .i64 0),.aK,.aK])⟩:=rfl
theorem Ut:aA.T 32=⟨.fn,1,8,.hole⟩:=rfl
theorem Uu:aA.T 34=⟨.fn,1,8,.hole⟩:=rfl
theorem Uv:aA.T 42=⟨.ptr 29,1,8,.cW⟩:=rfl
theorem Oo:aA.T 44=⟨.slice 76,1,24,.aK⟩:=rfl
theorem Oq:aA.T 45=⟨.slice 44,1,24,.aK⟩:=rfl
theorem Ot:aA.T 47=⟨.struct [(22,0),(44,1),(9,2),(45,3),(45,4)],5,112,(.agg [.aK,.aK,(.str []),.aK,.aK])⟩:=rfl
theorem Uw:aA.T 49=⟨.ptr 47,1,8,.cW⟩:=rfl
theorem Ux:aA.T 51=⟨.fn,1,8,.hole⟩:=rfl
theorem Uy:aA.T 53=⟨.fn,1,8,.hole⟩:=rfl
theorem Uz:aA.T 57=⟨.fn,1,8,.hole⟩:=rfl
theorem Ou:aA.T 58=⟨.fn,1,8,.hole⟩:=rfl
theorem UA:aA.T 59=⟨.fn,1,8,.hole⟩:=rfl
theorem Ov:aA.T 67=⟨.slice 120,1,24,.aK⟩:=rfl
theorem Ow:aA.T 68=⟨.slice 67,1,24,.aK⟩:=rfl
theorem Ox:aA.T 70=⟨.struct [(22,0),(67,1),(9,2),(68,3),(68,4)],5,112,(.agg [.aK,.aK,(.str []),.aK,.aK])⟩:=rfl
theorem Oy:aA.T 76=⟨.struct [(2,0),(2,1)],2,16,(.agg [(.int .i64 0),(.int .i64 0)])⟩:=rfl
theorem UB:aA.T 79=⟨.fn,1,8,.hole⟩:=rfl
theorem UC:aA.T 80=⟨.fn,1,8,.hole⟩:=rfl
theorem UD:aA.T 82=⟨.fn,1,8,.hole⟩:=rfl
theorem UE:aA.T 107=⟨.fn,1,8,.hole⟩:=rfl
theorem Oz:aA.T 110=⟨.slice 5,1,24,.aK⟩:=rfl
theorem UF:aA.T 117=⟨.ptr 76,1,8,.cW⟩:=rfl
theorem OA:aA.T 120=⟨.struct [(2,0),(2,1)],2,16,(.agg [(.int .i64 0),(.int .i64 0)])⟩:=rfl
theorem OB:aA.T 131=⟨.slice 45,1,24,.aK⟩:=rfl
end Go.Proofs.Ytpdplcdnpaoceaa
