/- Part of a proof that a law returns true for every input. No condition. -/
import Derived.Test.YteloniioljdceaaGreatDoorProg
import Derived.KernelRfl
import Derived.Test.YteloniioljdceaaGreatDoorFwF
namespace Go.Proofs.YteloniioljdceaaGreatDoor
open Go.ca
def T:TypeId->ea
 |2=>⟨.int .i64,1,8,(.int .i64 0)⟩
 |3=>⟨.int .i64,1,8,(.int .i64 0)⟩
 |4=>⟨.bool,1,1,(.bool false)⟩
 |5=>⟨.int .u8,1,1,(.int .u8 0)⟩
 |9=>⟨.str,1,16,(.str [])⟩
 |22=>⟨.slice 2,1,24,.bz⟩
 |42=>⟨.slice 69,1,24,.bz⟩
 |69=>⟨.struct [(2,0),(2,1),(2,2),(9,3)],4,40,(.agg [(.int .i64 0),(.int .i64 0),(.int .i64 0),(.str [])])⟩
 |87=>⟨.fn,1,8,.hole⟩
 |98=>⟨.slice 5,1,24,.bz⟩
 |128=>⟨.slice 9,1,24,.bz⟩
 |139=>⟨.ptr 69,1,8,.cu⟩
 |_=>⟨.other,0,0,.hole⟩
theorem Lr:∀t,Ah Tryz.prog t (T t):=by
 intro t;unfold T;split
 .exact .inr ⟨Tryz.t2,_,_,by kernel_rfl,rfl,rfl,rfl,(λcs h=>by cases h;rfl),Tryz.underlying2,rfl⟩
 .exact .inr ⟨Tryz.t3,_,_,by kernel_rfl,rfl,rfl,rfl,(λcs h=>by cases h;rfl),Tryz.underlying3,rfl⟩
 .exact .inr ⟨Tryz.t4,_,_,by kernel_rfl,rfl,rfl,rfl,(λcs h=>by cases h;rfl),Tryz.underlying4,trivial⟩
 .exact .inr ⟨Tryz.t5,_,_,by kernel_rfl,rfl,rfl,rfl,(λcs h=>by cases h;rfl),Tryz.underlying5,rfl⟩
 .exact .inr ⟨Tryz.t9,_,_,by kernel_rfl,rfl,rfl,rfl,(λcs h=>by cases h;rfl),Tryz.underlying9,trivial⟩
 .exact .inr ⟨Tryz.t22,_,_,by kernel_rfl,rfl,rfl,rfl,(λcs h=>by cases h;rfl),Tryz.underlying22,rfl⟩
 .exact .inr ⟨Tryz.t42,_,_,by kernel_rfl,rfl,rfl,rfl,(λcs h=>by cases h;rfl),Tryz.underlying42,rfl⟩
 .exact .inr ⟨Tryz.t69,_,_,by kernel_rfl,rfl,rfl,rfl,(λcs h=>by cases h;rfl),Tryz.underlying69,rfl⟩
 .exact .inr ⟨Tryz.t87,_,_,by kernel_rfl,rfl,rfl,rfl,(λcs h=>by cases h),Tryz.underlying87,trivial⟩
 .exact .inr ⟨Tryz.t98,_,_,by kernel_rfl,rfl,rfl,rfl,(λcs h=>by cases h;rfl),Tryz.underlying98,rfl⟩
 .exact .inr ⟨Tryz.t128,_,_,by kernel_rfl,rfl,rfl,rfl,(λcs h=>by cases h;rfl),Tryz.underlying128,rfl⟩
 .exact .inr ⟨Tryz.t139,_,_,by kernel_rfl,rfl,rfl,rfl,(λcs h=>by cases h;rfl),Tryz.underlying139,rfl⟩
 .exact .inl ⟨_,_,_,_,rfl,rfl⟩
noncomputable def aF:bl:=⟨Tryz.prog,T,λ_=>[]⟩
theorem Ls:aF.cS:=⟨Lr,by kernel_rfl⟩
theorem Lt:aF.T 2=⟨.int .i64,1,8,(.int .i64 0)⟩:=rfl
theorem Q5:aF.T 3=⟨.int .i64,1,8,(.int .i64 0)⟩:=rfl
theorem Q6:aF.T 4=⟨.bool,1,1,(.bool false)⟩:=rfl
theorem Lu:aF.T 5=⟨.int .u8,1,1,(.int .u8 0)⟩:=rfl
theorem Lv:aF.T 9=⟨.str,1,16,(.str [])⟩:=rfl
theorem Lw:aF.T 22=⟨.slice 2,1,24,.bz⟩:=rfl
theorem Lx:aF.T 42=⟨.slice 69,1,24,.bz⟩:=rfl
theorem Ly:aF.T 69=⟨.struct [(2,0),(2,1),(2,2),(9,3)],4,40,(.agg [(.int .i64 0),(.int .i64 0),(.int .i64 0),(.str [])])⟩:=rfl
theorem Q7:aF.T 87=⟨.fn,1,8,.hole⟩:=rfl
theorem Lz:aF.T 98=⟨.slice 5,1,24,.bz⟩:=rfl
theorem LA:aF.T 128=⟨.slice 9,1,24,.bz⟩:=rfl
theorem Q8:aF.T 139=⟨.ptr 69,1,8,.cu⟩:=rfl
end Go.Proofs.YteloniioljdceaaGreatDoor
