/- Part of a proof that a law returns true for every input. No condition. -/
import Derived.Test.YtcmimclaknmnbaaGreatDoorProg
import Derived.KernelRfl
import Derived.Test.YtcmimclaknmnbaaGreatDoorFwF
namespace Go.Proofs.YtcmimclaknmnbaaGreatDoor
open Go.cC
def T:TypeId->gr
 |2=>⟨.int .i64,1,8,(.int .i64 0)⟩
 |3=>⟨.int .i64,1,8,(.int .i64 0)⟩
 |4=>⟨.bool,1,1,(.bool false)⟩
 |5=>⟨.int .u8,1,1,(.int .u8 0)⟩
 |9=>⟨.str,1,16,(.str [])⟩
 |22=>⟨.slice 2,1,24,.bd⟩
 |23=>⟨.slice 66,1,24,.bd⟩
 |25=>⟨.struct [(2,0),(22,1),(23,2)],3,56,(.agg [(.int .i64 0),.bd,.bd])⟩
 |26=>⟨.slice 9,1,24,.bd⟩
 |29=>⟨.slice 22,1,24,.bd⟩
 |32=>⟨.slice 74,1,24,.bd⟩
 |34=>⟨.struct [(2,0),(22,1),(32,2)],3,56,(.agg [(.int .i64 0),.bd,.bd])⟩
 |46=>⟨.ptr 34,1,8,.dq⟩
 |49=>⟨.slice 52,1,24,.bd⟩
 |51=>⟨.struct [(9,0),(22,1)],2,40,(.agg [(.str []),.bd])⟩
 |52=>⟨.struct [(9,0),(22,1)],2,40,(.agg [(.str []),.bd])⟩
 |58=>⟨.fn,1,8,.hole⟩
 |63=>⟨.slice 138,1,24,.bd⟩
 |64=>⟨.slice 63,1,24,.bd⟩
 |66=>⟨.struct [(22,0),(63,1),(9,2),(64,3),(64,4)],5,112,(.agg [.bd,.bd,(.str []),.bd,.bd])⟩
 |70=>⟨.ptr 74,1,8,.dq⟩
 |71=>⟨.slice 125,1,24,.bd⟩
 |72=>⟨.slice 71,1,24,.bd⟩
 |74=>⟨.struct [(22,0),(71,1),(9,2),(72,3),(72,4)],5,112,(.agg [.bd,.bd,(.str []),.bd,.bd])⟩
 |75=>⟨.fn,1,8,.hole⟩
 |80=>⟨.fn,1,8,.hole⟩
 |82=>⟨.fn,1,8,.hole⟩
 |83=>⟨.fn,1,8,.hole⟩
 |87=>⟨.fn,1,8,.hole⟩
 |92=>⟨.slice 5,1,24,.bd⟩
 |108=>⟨.fn,1,8,.hole⟩
 |112=>⟨.map 9 4,1,8,(.cc .re)⟩
 |117=>⟨.fn,1,8,.hole⟩
 |120=>⟨.int .u64,1,8,(.int .u64 0)⟩
 |121=>⟨.fn,1,8,.hole⟩
 |125=>⟨.struct [(2,0),(2,1)],2,16,(.agg [(.int .i64 0),(.int .i64 0)])⟩
 |127=>⟨.ptr 125,1,8,.dq⟩
 |138=>⟨.struct [(2,0),(2,1)],2,16,(.agg [(.int .i64 0),(.int .i64 0)])⟩
 |148=>⟨.ptr 176,1,8,.dq⟩
 |154=>⟨.int .i64,1,8,(.int .i64 0)⟩
 |162=>⟨.int .u32,1,4,(.int .u32 0)⟩
 |164=>⟨.int .u64,1,8,(.int .u64 0)⟩
 |168=>⟨.slice 72,1,24,.bd⟩
 |174=>⟨.slice 148,1,24,.bd⟩
 |176=>⟨.struct [(125,0),(174,2)],3,40,(.agg [(.agg [(.int .i64 0),(.int .i64 0)]),.bd])⟩
 |191=>⟨.ptr 3,1,8,.dq⟩
 |_=>⟨.other,0,0,.hole⟩
theorem abB:∀t,MU Tryz.prog t (T t):=by
 intro t;unfold T;split
 .exact .inr ⟨Tryz.t2,_,_,by kernel_rfl,rfl,rfl,rfl,(λcs h=>by cases h;rfl),Tryz.underlying2,rfl⟩
 .exact .inr ⟨Tryz.t3,_,_,by kernel_rfl,rfl,rfl,rfl,(λcs h=>by cases h;rfl),Tryz.underlying3,rfl⟩
 .exact .inr ⟨Tryz.t4,_,_,by kernel_rfl,rfl,rfl,rfl,(λcs h=>by cases h;rfl),Tryz.underlying4,trivial⟩
 .exact .inr ⟨Tryz.t5,_,_,by kernel_rfl,rfl,rfl,rfl,(λcs h=>by cases h;rfl),Tryz.underlying5,rfl⟩
 .exact .inr ⟨Tryz.t9,_,_,by kernel_rfl,rfl,rfl,rfl,(λcs h=>by cases h;rfl),Tryz.underlying9,trivial⟩
 .exact .inr ⟨Tryz.t22,_,_,by kernel_rfl,rfl,rfl,rfl,(λcs h=>by cases h;rfl),Tryz.underlying22,rfl⟩
 .exact .inr ⟨Tryz.t23,_,_,by kernel_rfl,rfl,rfl,rfl,(λcs h=>by cases h;rfl),Tryz.underlying23,rfl⟩
 .exact .inr ⟨Tryz.t25,_,_,by kernel_rfl,rfl,rfl,rfl,(λcs h=>by cases h;rfl),Tryz.underlying25,rfl⟩
 .exact .inr ⟨Tryz.t26,_,_,by kernel_rfl,rfl,rfl,rfl,(λcs h=>by cases h;rfl),Tryz.underlying26,rfl⟩
 .exact .inr ⟨Tryz.t29,_,_,by kernel_rfl,rfl,rfl,rfl,(λcs h=>by cases h;rfl),Tryz.underlying29,rfl⟩
 .exact .inr ⟨Tryz.t32,_,_,by kernel_rfl,rfl,rfl,rfl,(λcs h=>by cases h;rfl),Tryz.underlying32,rfl⟩
 .exact .inr ⟨Tryz.t34,_,_,by kernel_rfl,rfl,rfl,rfl,(λcs h=>by cases h;rfl),Tryz.underlying34,rfl⟩
 .exact .inr ⟨Tryz.t46,_,_,by kernel_rfl,rfl,rfl,rfl,(λcs h=>by cases h;rfl),Tryz.underlying46,rfl⟩
 .exact .inr ⟨Tryz.t49,_,_,by kernel_rfl,rfl,rfl,rfl,(λcs h=>by cases h;rfl),Tryz.underlying49,rfl⟩
 .exact .inr ⟨Tryz.t51,_,_,by kernel_rfl,rfl,rfl,rfl,(λcs h=>by cases h;rfl),Tryz.underlying51,rfl⟩
 .exact .inr ⟨Tryz.t52,_,_,by kernel_rfl,rfl,rfl,rfl,(λcs h=>by cases h;rfl),Tryz.underlying52,rfl⟩
 .exact .inr ⟨Tryz.t58,_,_,by kernel_rfl,rfl,rfl,rfl,(λcs h=>by cases h),Tryz.underlying58,trivial⟩
 .exact .inr ⟨Tryz.t63,_,_,by kernel_rfl,rfl,rfl,rfl,(λcs h=>by cases h;rfl),Tryz.underlying63,rfl⟩
 .exact .inr ⟨Tryz.t64,_,_,by kernel_rfl,rfl,rfl,rfl,(λcs h=>by cases h;rfl),Tryz.underlying64,rfl⟩
 .exact .inr ⟨Tryz.t66,_,_,by kernel_rfl,rfl,rfl,rfl,(λcs h=>by cases h;rfl),Tryz.underlying66,rfl⟩
 .exact .inr ⟨Tryz.t70,_,_,by kernel_rfl,rfl,rfl,rfl,(λcs h=>by cases h;rfl),Tryz.underlying70,rfl⟩
 .exact .inr ⟨Tryz.t71,_,_,by kernel_rfl,rfl,rfl,rfl,(λcs h=>by cases h;rfl),Tryz.underlying71,rfl⟩
 .exact .inr ⟨Tryz.t72,_,_,by kernel_rfl,rfl,rfl,rfl,(λcs h=>by cases h;rfl),Tryz.underlying72,rfl⟩
 .exact .inr ⟨Tryz.t74,_,_,by kernel_rfl,rfl,rfl,rfl,(λcs h=>by cases h;rfl),Tryz.underlying74,rfl⟩
 .exact .inr ⟨Tryz.t75,_,_,by kernel_rfl,rfl,rfl,rfl,(λcs h=>by cases h),Tryz.underlying75,trivial⟩
 .exact .inr ⟨Tryz.t80,_,_,by kernel_rfl,rfl,rfl,rfl,(λcs h=>by cases h),Tryz.underlying80,trivial⟩
 .exact .inr ⟨Tryz.t82,_,_,by kernel_rfl,rfl,rfl,rfl,(λcs h=>by cases h),Tryz.underlying82,trivial⟩
 .exact .inr ⟨Tryz.t83,_,_,by kernel_rfl,rfl,rfl,rfl,(λcs h=>by cases h),Tryz.underlying83,trivial⟩
 .exact .inr ⟨Tryz.t87,_,_,by kernel_rfl,rfl,rfl,rfl,(λcs h=>by cases h),Tryz.underlying87,trivial⟩
 .exact .inr ⟨Tryz.t92,_,_,by kernel_rfl,rfl,rfl,rfl,(λcs h=>by cases h;rfl),Tryz.underlying92,rfl⟩
 .exact .inr ⟨Tryz.t108,_,_,by kernel_rfl,rfl,rfl,rfl,(λcs h=>by cases h),Tryz.underlying108,trivial⟩
 .exact .inr ⟨Tryz.t112,_,_,by kernel_rfl,rfl,rfl,rfl,(λcs h=>by cases h;rfl),Tryz.underlying112,⟨rfl,rfl⟩⟩
 .exact .inr ⟨Tryz.t117,_,_,by kernel_rfl,rfl,rfl,rfl,(λcs h=>by cases h),Tryz.underlying117,trivial⟩
 .exact .inr ⟨Tryz.t120,_,_,by kernel_rfl,rfl,rfl,rfl,(λcs h=>by cases h;rfl),Tryz.underlying120,rfl⟩
 .exact .inr ⟨Tryz.t121,_,_,by kernel_rfl,rfl,rfl,rfl,(λcs h=>by cases h),Tryz.underlying121,trivial⟩
 .exact .inr ⟨Tryz.t125,_,_,by kernel_rfl,rfl,rfl,rfl,(λcs h=>by cases h;rfl),Tryz.underlying125,rfl⟩
 .exact .inr ⟨Tryz.t127,_,_,by kernel_rfl,rfl,rfl,rfl,(λcs h=>by cases h;rfl),Tryz.underlying127,rfl⟩
 .exact .inr ⟨Tryz.t138,_,_,by kernel_rfl,rfl,rfl,rfl,(λcs h=>by cases h;rfl),Tryz.underlying138,rfl⟩
 .exact .inr ⟨Tryz.t148,_,_,by kernel_rfl,rfl,rfl,rfl,(λcs h=>by cases h;rfl),Tryz.underlying148,rfl⟩
 .exact .inr ⟨Tryz.t154,_,_,by kernel_rfl,rfl,rfl,rfl,(λcs h=>by cases h;rfl),Tryz.underlying154,rfl⟩
 .exact .inr ⟨Tryz.t162,_,_,by kernel_rfl,rfl,rfl,rfl,(λcs h=>by cases h;rfl),Tryz.underlying162,rfl⟩
 .exact .inr ⟨Tryz.t164,_,_,by kernel_rfl,rfl,rfl,rfl,(λcs h=>by cases h;rfl),Tryz.underlying164,rfl⟩
 .exact .inr ⟨Tryz.t168,_,_,by kernel_rfl,rfl,rfl,rfl,(λcs h=>by cases h;rfl),Tryz.underlying168,rfl⟩
 .exact .inr ⟨Tryz.t174,_,_,by kernel_rfl,rfl,rfl,rfl,(λcs h=>by cases h;rfl),Tryz.underlying174,rfl⟩
 .exact .inr ⟨Tryz.t176,_,_,by kernel_rfl,rfl,rfl,rfl,(λcs h=>by cases h;rfl),Tryz.underlying176,rfl⟩
 .exact .inr ⟨Tryz.t191,_,_,by kernel_rfl,rfl,rfl,rfl,(λcs h=>by cases h;rfl),Tryz.underlying191,rfl⟩
 .exact .inl ⟨_,_,_,_,rfl,rfl⟩
noncomputable def ao:bx:=⟨Tryz.prog,T,λ_=>[]⟩
theorem yi:ao.Ok:=⟨abB,by kernel_rfl⟩
theorem abC:ao.T 2=⟨.int .i64,1,8,(.int .i64 0)⟩:=rfl
theorem abD:ao.T 3=⟨.int .i64,1,8,(.int .i64 0)⟩:=rfl
theorem amG:ao.T 4=⟨.bool,1,1,(.bool false)⟩:=rfl
theorem abE:ao.T 5=⟨.int .u8,1,1,(.int .u8 0)⟩:=rfl
theorem abF:ao.T 9=⟨.str,1,16,(.str [])⟩:=rfl
theorem abG:ao.T 22=⟨.slice 2,1,24,.bd⟩:=rfl
theorem abH:ao.T 23=⟨.slice 66,1,24,.bd⟩:=rfl
theorem abI:ao.T 25=⟨.struct [(2,0),(22,1),(23,2)],3,56,(.agg [(.int .i64 0),.bd,.bd])⟩:=rfl
theorem abJ:ao.T 26=⟨.slice 9,1,24,.bd⟩:=rfl
theorem abK:ao.T 29=⟨.slice 22,1,24,.bd⟩:=rfl
theorem abL:ao.T 32=⟨.slice 74,1,24,.bd⟩:=rfl
theorem abM:ao.T 34=⟨.struct [(2,0),(22,1),(32,2)],3,56,(.agg [(.int .i64 0),.bd,.bd])⟩:=rfl
theorem amH:ao.T 46=⟨.ptr 34,1,8,.dq⟩:=rfl
theorem abN:ao.T 49=⟨.slice 52,1,24,.bd⟩:=rfl
theorem amI:ao.T 51=⟨.struct [(9,0),(22,1)],2,40,(.agg [(.str []),.bd])⟩:=rfl
theorem abO:ao.T 52=⟨.struct [(9,0),(22,1)],2,40,(.agg [(.str []),.bd])⟩:=rfl
theorem amJ:ao.T 58=⟨.fn,1,8,.hole⟩:=rfl
theorem abP:ao.T 63=⟨.slice 138,1,24,.bd⟩:=rfl
theorem abQ:ao.T 64=⟨.slice 63,1,24,.bd⟩:=rfl
theorem abR:ao.T 66=⟨.struct [(22,0),(63,1),(9,2),(64,3),(64,4)],5,112,(.agg [.bd,.bd,(.str []),.bd,.bd])⟩:=rfl
theorem amK:ao.T 70=⟨.ptr 74,1,8,.dq⟩:=rfl
theorem abS:ao.T 71=⟨.slice 125,1,24,.bd⟩:=rfl
theorem abT:ao.T 72=⟨.slice 71,1,24,.bd⟩:=rfl
theorem abU:ao.T 74=⟨.struct [(22,0),(71,1),(9,2),(72,3),(72,4)],5,112,(.agg [.bd,.bd,(.str []),.bd,.bd])⟩:=rfl
theorem amL:ao.T 75=⟨.fn,1,8,.hole⟩:=rfl
theorem amM:ao.T 80=⟨.fn,1,8,.hole⟩:=rfl
theorem amN:ao.T 82=⟨.fn,1,8,.hole⟩:=rfl
theorem amO:ao.T 83=⟨.fn,1,8,.hole⟩:=rfl
theorem amP:ao.T 87=⟨.fn,1,8,.hole⟩:=rfl
theorem abV:ao.T 92=⟨.slice 5,1,24,.bd⟩:=rfl
theorem amQ:ao.T 108=⟨.fn,1,8,.hole⟩:=rfl
theorem abW:ao.T 112=⟨.map 9 4,1,8,(.cc .re)⟩:=rfl
theorem abX:ao.T 117=⟨.fn,1,8,.hole⟩:=rfl
theorem amR:ao.T 120=⟨.int .u64,1,8,(.int .u64 0)⟩:=rfl
theorem amS:ao.T 121=⟨.fn,1,8,.hole⟩:=rfl
theorem abY:ao.T 125=⟨.struct [(2,0),(2,1)],2,16,(.agg [(.int .i64 0),(.int .i64 0)])⟩:=rfl
theorem amT:ao.T 127=⟨.ptr 125,1,8,.dq⟩:=rfl
theorem abZ:ao.T 138=⟨.struct [(2,0),(2,1)],2,16,(.agg [(.int .i64 0),(.int .i64 0)])⟩:=rfl
theorem ab0:ao.T 148=⟨.ptr 176,1,8,.dq⟩:=rfl
theorem amU:ao.T 154=⟨.int .i64,1,8,(.int .i64 0)⟩:=rfl
theorem amV:ao.T 162=⟨.int .u32,1,4,(.int .u32 0)⟩:=rfl
theorem amW:ao.T 164=⟨.int .u64,1,8,(.int .u64 0)⟩:=rfl
theorem ab1:ao.T 168=⟨.slice 72,1,24,.bd⟩:=rfl
theorem ab2:ao.T 174=⟨.slice 148,1,24,.bd⟩:=rfl
theorem ab3:ao.T 176=⟨.struct [(125,0),(174,2)],3,40,(.agg [(.agg [(.int .i64 0),(.int .i64 0)]),.bd])⟩:=rfl
theorem amX:ao.T 191=⟨.ptr 3,1,8,.dq⟩:=rfl
end Go.Proofs.YtcmimclaknmnbaaGreatDoor
