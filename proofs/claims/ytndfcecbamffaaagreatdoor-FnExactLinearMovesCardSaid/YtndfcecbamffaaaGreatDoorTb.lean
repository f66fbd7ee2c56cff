/- Part of a proof that a law returns true for every input. No condition. -/
import Derived.Test.YtndfcecbamffaaaGreatDoorProg
import Derived.KernelRfl
import Derived.Test.YtndfcecbamffaaaGreatDoorFwF
namespace Go.Proofs.YtndfcecbamffaaaGreatDoor
open Go.cG
def T:TypeId->fv
 |2=>⟨.int .i64,1,8,(.int .i64 0)⟩
 |3=>⟨.int .i64,1,8,(.int .i64 0)⟩
 |4=>⟨.bool,1,1,(.bool false)⟩
 |5=>⟨.int .u8,1,1,(.int .u8 0)⟩
 |9=>⟨.str,1,16,(.str [])⟩
 |22=>⟨.slice 2,1,24,.bc⟩
 |23=>⟨.slice 61,1,24,.bc⟩
 |25=>⟨.struct [(2,0),(22,1),(23,2)],3,56,(.agg [(.int .i64 0),.bc,.bc])⟩
 |27=>⟨.slice 53,1,24,.bc⟩
 |30=>⟨.slice 68,1,24,.bc⟩
 |32=>⟨.struct [(2,0),(22,1),(30,2)],3,56,(.agg [(.int .i64 0),.bc,.bc])⟩
 |43=>⟨.fn,1,8,.hole⟩
 |44=>⟨.ptr 32,1,8,.c6⟩
 |47=>⟨.fn,1,8,.hole⟩
 |49=>⟨.fn,1,8,.hole⟩
 |53=>⟨.struct [(9,0),(22,1)],2,40,(.agg [(.str []),.bc])⟩
 |58=>⟨.slice 120,1,24,.bc⟩
 |59=>⟨.slice 58,1,24,.bc⟩
 |61=>⟨.struct [(22,0),(58,1),(9,2),(59,3),(59,4)],5,112,(.agg [.bc,.bc,(.str []),.bc,.bc])⟩
 |64=>⟨.ptr 68,1,8,.c6⟩
 |65=>⟨.slice 112,1,24,.bc⟩
 |66=>⟨.slice 65,1,24,.bc⟩
 |68=>⟨.struct [(22,0),(65,1),(9,2),(66,3),(66,4)],5,112,(.agg [.bc,.bc,(.str []),.bc,.bc])⟩
 |69=>⟨.fn,1,8,.hole⟩
 |74=>⟨.fn,1,8,.hole⟩
 |75=>⟨.fn,1,8,.hole⟩
 |76=>⟨.map 9 4,1,8,(.b3 .rZ)⟩
 |81=>⟨.fn,1,8,.hole⟩
 |85=>⟨.slice 5,1,24,.bc⟩
 |100=>⟨.fn,1,8,.hole⟩
 |102=>⟨.ptr 131,1,8,.c6⟩
 |106=>⟨.slice 9,1,24,.bc⟩
 |112=>⟨.struct [(2,0),(2,1)],2,16,(.agg [(.int .i64 0),(.int .i64 0)])⟩
 |114=>⟨.ptr 112,1,8,.c6⟩
 |120=>⟨.struct [(2,0),(2,1)],2,16,(.agg [(.int .i64 0),(.int .i64 0)])⟩
 |127=>⟨.slice 22,1,24,.bc⟩
 |129=>⟨.slice 102,1,24,.bc⟩
 |131=>⟨.struct [(112,0),(129,2)],3,40,(.agg [(.agg [(.int .i64 0),(.int .i64 0)]),.bc])⟩
 |144=>⟨.slice 66,1,24,.bc⟩
 |_=>⟨.other,0,0,.hole⟩
theorem Tk:∀t,GN Tryz.prog t (T t):=by
 intro t;unfold T;split
 .exact .inr ⟨Tryz.t2,_,_,by kernel_rfl,rfl,rfl,rfl,(λcs h=>by cases h;rfl),Tryz.underlying2,rfl⟩
 .exact .inr ⟨Tryz.t3,_,_,by kernel_rfl,rfl,rfl,rfl,(λcs h=>by cases h;rfl),Tryz.underlying3,rfl⟩
 .exact .inr ⟨Tryz.t4,_,_,by kernel_rfl,rfl,rfl,rfl,(λcs h=>by cases h;rfl),Tryz.underlying4,trivial⟩
 .exact .inr ⟨Tryz.t5,_,_,by kernel_rfl,rfl,rfl,rfl,(λcs h=>by cases h;rfl),Tryz.underlying5,rfl⟩
 .exact .inr ⟨Tryz.t9,_,_,by kernel_rfl,rfl,rfl,rfl,(λcs h=>by cases h;rfl),Tryz.underlying9,trivial⟩
 .exact .inr ⟨Tryz.t22,_,_,by kernel_rfl,rfl,rfl,rfl,(λcs h=>by cases h;rfl),Tryz.underlying22,rfl⟩
 .exact .inr ⟨Tryz.t23,_,_,by kernel_rfl,rfl,rfl,rfl,(λcs h=>by cases h;rfl),Tryz.underlying23,rfl⟩
 .exact .inr ⟨Tryz.t25,_,_,by kernel_rfl,rfl,rfl,rfl,(λcs h=>by cases h;rfl),Tryz.underlying25,rfl⟩
 .exact .inr ⟨Tryz.t27,_,_,by kernel_rfl,rfl,rfl,rfl,(λcs h=>by cases h;rfl),Tryz.underlying27,rfl⟩
 .exact .inr ⟨Tryz.t30,_,_,by kernel_rfl,rfl,rfl,rfl,(λcs h=>by cases h;rfl),Tryz.underlying30,rfl⟩
 .exact .inr ⟨Tryz.t32,_,_,by kernel_rfl,rfl,rfl,rfl,(λcs h=>by cases h;rfl),Tryz.underlying32,rfl⟩
 .exact .inr ⟨Tryz.t43,_,_,by kernel_rfl,rfl,rfl,rfl,(λcs h=>by cases h),Tryz.underlying43,trivial⟩
 .exact .inr ⟨Tryz.t44,_,_,by kernel_rfl,rfl,rfl,rfl,(λcs h=>by cases h;rfl),Tryz.underlying44,rfl⟩
 .exact .inr ⟨Tryz.t47,_,_,by kernel_rfl,rfl,rfl,rfl,(λcs h=>by cases h),Tryz.underlying47,trivial⟩
 .exact .inr ⟨Tryz.t49,_,_,by kernel_rfl,rfl,rfl,rfl,(λcs h=>by cases h),Tryz.underlying49,trivial⟩
 .exact .inr ⟨Tryz.t53,_,_,by kernel_rfl,rfl,rfl,rfl,(λcs h=>by cases h;rfl),Tryz.underlying53,rfl⟩
 .exact .inr ⟨Tryz.t58,_,_,by kernel_rfl,rfl,rfl,rfl,(λcs h=>by cases h;rfl),Tryz.underlying58,rfl⟩
 .exact .inr ⟨Tryz.t59,_,_,by kernel_rfl,rfl,rfl,rfl,(λcs h=>by cases h;rfl),Tryz.underlying59,rfl⟩
 .exact .inr ⟨Tryz.t61,_,_,by kernel_rfl,rfl,rfl,rfl,(λcs h=>by cases h;rfl),Tryz.underlying61,rfl⟩
 .exact .inr ⟨Tryz.t64,_,_,by kernel_rfl,rfl,rfl,rfl,(λcs h=>by cases h;rfl),Tryz.underlying64,rfl⟩
 .exact .inr ⟨Tryz.t65,_,_,by kernel_rfl,rfl,rfl,rfl,(λcs h=>by cases h;rfl),Tryz.underlying65,rfl⟩
 .exact .inr ⟨Tryz.t66,_,_,by kernel_rfl,rfl,rfl,rfl,(λcs h=>by cases h;rfl),Tryz.underlying66,rfl⟩
 .exact .inr ⟨Tryz.t68,_,_,by kernel_rfl,rfl,rfl,rfl,(λcs h=>by cases h;rfl),Tryz.underlying68,rfl⟩
 .exact .inr ⟨Tryz.t69,_,_,by kernel_rfl,rfl,rfl,rfl,(λcs h=>by cases h),Tryz.underlying69,trivial⟩
 .exact .inr ⟨Tryz.t74,_,_,by kernel_rfl,rfl,rfl,rfl,(λcs h=>by cases h),Tryz.underlying74,trivial⟩
 .exact .inr ⟨Tryz.t75,_,_,by kernel_rfl,rfl,rfl,rfl,(λcs h=>by cases h),Tryz.underlying75,trivial⟩
 .exact .inr ⟨Tryz.t76,_,_,by kernel_rfl,rfl,rfl,rfl,(λcs h=>by cases h;rfl),Tryz.underlying76,⟨rfl,rfl⟩⟩
 .exact .inr ⟨Tryz.t81,_,_,by kernel_rfl,rfl,rfl,rfl,(λcs h=>by cases h),Tryz.underlying81,trivial⟩
 .exact .inr ⟨Tryz.t85,_,_,by kernel_rfl,rfl,rfl,rfl,(λcs h=>by cases h;rfl),Tryz.underlying85,rfl⟩
 .exact .inr ⟨Tryz.t100,_,_,by kernel_rfl,rfl,rfl,rfl,(λcs h=>by cases h),Tryz.underlying100,trivial⟩
 .exact .inr ⟨Tryz.t102,_,_,by kernel_rfl,rfl,rfl,rfl,(λcs h=>by cases h;rfl),Tryz.underlying102,rfl⟩
 .exact .inr ⟨Tryz.t106,_,_,by kernel_rfl,rfl,rfl,rfl,(λcs h=>by cases h;rfl),Tryz.underlying106,rfl⟩
 .exact .inr ⟨Tryz.t112,_,_,by kernel_rfl,rfl,rfl,rfl,(λcs h=>by cases h;rfl),Tryz.underlying112,rfl⟩
 .exact .inr ⟨Tryz.t114,_,_,by kernel_rfl,rfl,rfl,rfl,(λcs h=>by cases h;rfl),Tryz.underlying114,rfl⟩
 .exact .inr ⟨Tryz.t120,_,_,by kernel_rfl,rfl,rfl,rfl,(λcs h=>by cases h;rfl),Tryz.underlying120,rfl⟩
 .exact .inr ⟨Tryz.t127,_,_,by kernel_rfl,rfl,rfl,rfl,(λcs h=>by cases h;rfl),Tryz.underlying127,rfl⟩
 .exact .inr ⟨Tryz.t129,_,_,by kernel_rfl,rfl,rfl,rfl,(λcs h=>by cases h;rfl),Tryz.underlying129,rfl⟩
 .exact .inr ⟨Tryz.t131,_,_,by kernel_rfl,rfl,rfl,rfl,(λcs h=>by cases h;rfl),Tryz.underlying131,rfl⟩
 .exact .inr ⟨Tryz.t144,_,_,by kernel_rfl,rfl,rfl,rfl,(λcs h=>by cases h;rfl),Tryz.underlying144,rfl⟩
 .exact .inl ⟨_,_,_,_,rfl,rfl⟩
noncomputable def ay:bz:=⟨Tryz.prog,T,λ_=>[]⟩
theorem uW:ay.du:=⟨Tk,by kernel_rfl⟩
theorem Tl:ay.T 2=⟨.int .i64,1,8,(.int .i64 0)⟩:=rfl
theorem Tm:ay.T 3=⟨.int .i64,1,8,(.int .i64 0)⟩:=rfl
theorem abb:ay.T 4=⟨.bool,1,1,(.bool false)⟩:=rfl
theorem Tn:ay.T 5=⟨.int .u8,1,1,(.int .u8 0)⟩:=rfl
theorem To:ay.T 9=⟨.str,1,16,(.str [])⟩:=rfl
theorem Tp:ay.T 22=⟨.slice 2,1,24,.bc⟩:=rfl
theorem Tq:ay.T 23=⟨.slice 61,1,24,.bc⟩:=rfl
theorem Tr:ay.T 25=⟨.struct [(2,0),(22,1),(23,2)],3,56,(.agg [(.int .i64 0),.bc,.bc])⟩:=rfl
theorem Ts:ay.T 27=⟨.slice 53,1,24,.bc⟩:=rfl
theorem Tt:ay.T 30=⟨.slice 68,1,24,.bc⟩:=rfl
theorem Tu:ay.T 32=⟨.struct [(2,0),(22,1),(30,2)],3,56,(.agg [(.int .i64 0),.bc,.bc])⟩:=rfl
theorem abc:ay.T 43=⟨.fn,1,8,.hole⟩:=rfl
theorem abd:ay.T 44=⟨.ptr 32,1,8,.c6⟩:=rfl
theorem abe:ay.T 47=⟨.fn,1,8,.hole⟩:=rfl
theorem abf:ay.T 49=⟨.fn,1,8,.hole⟩:=rfl
theorem Tv:ay.T 53=⟨.struct [(9,0),(22,1)],2,40,(.agg [(.str []),.bc])⟩:=rfl
theorem Tw:ay.T 58=⟨.slice 120,1,24,.bc⟩:=rfl
theorem Tx:ay.T 59=⟨.slice 58,1,24,.bc⟩:=rfl
theorem Ty:ay.T 61=⟨.struct [(22,0),(58,1),(9,2),(59,3),(59,4)],5,112,(.agg [.bc,.bc,(.str []),.bc,.bc])⟩:=rfl
theorem abg:ay.T 64=⟨.ptr 68,1,8,.c6⟩:=rfl
theorem Tz:ay.T 65=⟨.slice 112,1,24,.bc⟩:=rfl
theorem TA:ay.T 66=⟨.slice 65,1,24,.bc⟩:=rfl
theorem TB:ay.T 68=⟨.struct [(22,0),(65,1),(9,2),(66,3),(66,4)],5,112,(.agg [.bc,.bc,(.str []),.bc,.bc])⟩:=rfl
theorem abh:ay.T 69=⟨.fn,1,8,.hole⟩:=rfl
theorem abj:ay.T 74=⟨.fn,1,8,.hole⟩:=rfl
theorem abk:ay.T 75=⟨.fn,1,8,.hole⟩:=rfl
theorem TC:ay.T 76=⟨.map 9 4,1,8,(.b3 .rZ)⟩:=rfl
theorem TD:ay.T 81=⟨.fn,1,8,.hole⟩:=rfl
theorem TE:ay.T 85=⟨.slice 5,1,24,.bc⟩:=rfl
theorem abl:ay.T 100=⟨.fn,1,8,.hole⟩:=rfl
theorem TF:ay.T 102=⟨.ptr 131,1,8,.c6⟩:=rfl
theorem TG:ay.T 106=⟨.slice 9,1,24,.bc⟩:=rfl
theorem TH:ay.T 112=⟨.struct [(2,0),(2,1)],2,16,(.agg [(.int .i64 0),(.int .i64 0)])⟩:=rfl
theorem abm:ay.T 114=⟨.ptr 112,1,8,.c6⟩:=rfl
theorem TI:ay.T 120=⟨.struct [(2,0),(2,1)],2,16,(.agg [(.int .i64 0),(.int .i64 0)])⟩:=rfl
theorem TJ:ay.T 127=⟨.slice 22,1,24,.bc⟩:=rfl
theorem TK:ay.T 129=⟨.slice 102,1,24,.bc⟩:=rfl
theorem TL:ay.T 131=⟨.struct [(112,0),(129,2)],3,40,(.agg [(.agg [(.int .i64 0),(.int .i64 0)]),.bc])⟩:=rfl
theorem TM:ay.T 144=⟨.slice 66,1,24,.bc⟩:=rfl
end Go.Proofs.YtndfcecbamffaaaGreatDoor
