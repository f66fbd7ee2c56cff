/- Part of a proof that a law returns true for every input. No condition. -/
import Derived.Test.YtmaepbgkcmjcjahGreatDoorProg
import Derived.KernelRfl
import Derived.Test.YtmaepbgkcmjcjahGreatDoorFwF
namespace Go.Proofs.YtmaepbgkcmjcjahGreatDoor
open Go.ei
def T:TypeId->hP
 |1=>⟨.fn,1,8,.hole⟩
 |2=>⟨.int .i64,1,8,(.int .i64 0)⟩
 |3=>⟨.int .i64,1,8,(.int .i64 0)⟩
 |4=>⟨.bool,1,1,(.bool false)⟩
 |5=>⟨.int .u8,1,1,(.int .u8 0)⟩
 |9=>⟨.str,1,16,(.str [])⟩
 |22=>⟨.slice 87,1,24,.bd⟩
 |23=>⟨.slice 90,1,24,.bd⟩
 |24=>⟨.slice 93,1,24,.bd⟩
 |25=>⟨.slice 9,1,24,.bd⟩
 |27=>⟨.struct [(22,0),(23,1),(24,2),(25,3),(25,4)],5,120,(.agg [.bd,.bd,.bd,.bd,.bd])⟩
 |28=>⟨.slice 57,1,24,.bd⟩
 |29=>⟨.slice 2,1,24,.bd⟩
 |32=>⟨.slice 71,1,24,.bd⟩
 |35=>⟨.slice 110,1,24,.bd⟩
 |36=>⟨.slice 112,1,24,.bd⟩
 |37=>⟨.slice 114,1,24,.bd⟩
 |39=>⟨.struct [(35,0),(36,1),(37,2),(25,3),(25,4)],5,120,(.agg [.bd,.bd,.bd,.bd,.bd])⟩
 |57=>⟨.struct [(2,0),(2,1),(29,2)],3,40,(.agg [(.int .i64 0),(.int .i64 0),.bd])⟩
 |59=>⟨.ptr 39,1,8,.ez⟩
 |61=>⟨.slice 66,1,24,.bd⟩
 |66=>⟨.struct [(9,0),(2,1),(2,2),(32,3)],4,56,(.agg [(.str []),(.int .i64 0),(.int .i64 0),.bd])⟩
 |71=>⟨.struct [(2,0),(2,1),(29,2)],3,40,(.agg [(.int .i64 0),(.int .i64 0),.bd])⟩
 |85=>⟨.slice 175,1,24,.bd⟩
 |87=>⟨.struct [(9,0),(2,1),(85,2)],3,48,(.agg [(.str []),(.int .i64 0),.bd])⟩
 |90=>⟨.struct [(2,0),(29,1)],2,32,(.agg [(.int .i64 0),.bd])⟩
 |93=>⟨.struct [(9,0),(9,1),(9,2)],3,48,(.agg [(.str []),(.str []),(.str [])])⟩
 |96=>⟨.slice 97,1,24,.bd⟩
 |97=>⟨.slice 102,1,24,.bd⟩
 |100=>⟨.ptr 71,1,8,.ez⟩
 |102=>⟨.struct [(9,0),(71,1)],4,56,(.agg [(.str []),(.agg [(.int .i64 0),(.int .i64 0),.bd])])⟩
 |108=>⟨.slice 149,1,24,.bd⟩
 |110=>⟨.struct [(9,0),(2,1),(108,2)],3,48,(.agg [(.str []),(.int .i64 0),.bd])⟩
 |112=>⟨.struct [(2,0),(29,1)],2,32,(.agg [(.int .i64 0),.bd])⟩
 |114=>⟨.struct [(9,0),(9,1),(9,2)],3,48,(.agg [(.str []),(.str []),(.str [])])⟩
 |119=>⟨.fn,1,8,.hole⟩
 |121=>⟨.ptr 124,1,8,.ez⟩
 |122=>⟨.map 9 4,1,8,(.ck .ky)⟩
 |124=>⟨.struct [(39,0),(32,5),(61,6),(122,7)],8,176,(.agg [(.agg [.bd,.bd,.bd,.bd,.bd]),.bd,.bd,(.ck .ky)])⟩
 |127=>⟨.fn,1,8,.hole⟩
 |131=>⟨.fn,1,8,.hole⟩
 |134=>⟨.slice 5,1,24,.bd⟩
 |147=>⟨.slice 185,1,24,.bd⟩
 |149=>⟨.struct [(2,0),(2,1),(9,2),(147,3)],4,56,(.agg [(.int .i64 0),(.int .i64 0),(.str []),.bd])⟩
 |151=>⟨.struct [(2,0),(4,1)],2,16,(.agg [(.int .i64 0),(.bool false)])⟩
 |152=>⟨.slice 151,1,24,.bd⟩
 |155=>⟨.ptr 157,1,8,.ez⟩
 |157=>⟨.struct [(35,0),(97,1),(122,2)],3,56,(.agg [.bd,.bd,(.ck .ky)])⟩
 |170=>⟨.fn,1,8,.hole⟩
 |173=>⟨.slice 247,1,24,.bd⟩
 |175=>⟨.struct [(2,0),(2,1),(9,2),(173,3)],4,56,(.agg [(.int .i64 0),(.int .i64 0),(.str []),.bd])⟩
 |180=>⟨.ptr 110,1,8,.ez⟩
 |185=>⟨.slice 245,1,24,.bd⟩
 |195=>⟨.fn,1,8,.hole⟩
 |196=>⟨.fn,1,8,.hole⟩
 |198=>⟨.fn,1,8,.hole⟩
 |199=>⟨.fn,1,8,.hole⟩
 |209=>⟨.fn,1,8,.hole⟩
 |216=>⟨.ptr 149,1,8,.ez⟩
 |226=>⟨.ptr 263,1,8,.ez⟩
 |229=>⟨.fn,1,8,.hole⟩
 |245=>⟨.struct [(2,0),(2,1)],2,16,(.agg [(.int .i64 0),(.int .i64 0)])⟩
 |247=>⟨.slice 282,1,24,.bd⟩
 |255=>⟨.fn,1,8,.hole⟩
 |261=>⟨.slice 226,1,24,.bd⟩
 |263=>⟨.struct [(245,0),(261,2)],3,40,(.agg [(.agg [(.int .i64 0),(.int .i64 0)]),.bd])⟩
 |280=>⟨.ptr 245,1,8,.ez⟩
 |282=>⟨.struct [(2,0),(2,1)],2,16,(.agg [(.int .i64 0),(.int .i64 0)])⟩
 |285=>⟨.fn,1,8,.hole⟩
 |_=>⟨.other,0,0,.hole⟩
theorem ah_:∀t,Uy Tryz.prog t (T t):=by
 intro t;unfold T;split
 .exact .inr ⟨Tryz.t1,_,_,by kernel_rfl,rfl,rfl,rfl,(λcs h=>by cases h),Tryz.underlying1,trivial⟩
 .exact .inr ⟨Tryz.t2,_,_,by kernel_rfl,rfl,rfl,rfl,(λcs h=>by cases h;rfl),Tryz.underlying2,rfl⟩
 .exact .inr ⟨Tryz.t3,_,_,by kernel_rfl,rfl,rfl,rfl,(λcs h=>by cases h;rfl),Tryz.underlying3,rfl⟩
 .exact .inr ⟨Tryz.t4,_,_,by kernel_rfl,rfl,rfl,rfl,(λcs h=>by cases h;rfl),Tryz.underlying4,trivial⟩
 .exact .inr ⟨Tryz.t5,_,_,by kernel_rfl,rfl,rfl,rfl,(λcs h=>by cases h;rfl),Tryz.underlying5,rfl⟩
 .exact .inr ⟨Tryz.t9,_,_,by kernel_rfl,rfl,rfl,rfl,(λcs h=>by cases h;rfl),Tryz.underlying9,trivial⟩
 .exact .inr ⟨Tryz.t22,_,_,by kernel_rfl,rfl,rfl,rfl,(λcs h=>by cases h;rfl),Tryz.underlying22,rfl⟩
 .exact .inr ⟨Tryz.t23,_,_,by kernel_rfl,rfl,rfl,rfl,(λcs h=>by cases h;rfl),Tryz.underlying23,rfl⟩
 .exact .inr ⟨Tryz.t24,_,_,by kernel_rfl,rfl,rfl,rfl,(λcs h=>by cases h;rfl),Tryz.underlying24,rfl⟩
 .exact .inr ⟨Tryz.t25,_,_,by kernel_rfl,rfl,rfl,rfl,(λcs h=>by cases h;rfl),Tryz.underlying25,rfl⟩
 .exact .inr ⟨Tryz.t27,_,_,by kernel_rfl,rfl,rfl,rfl,(λcs h=>by cases h;rfl),Tryz.underlying27,rfl⟩
 .exact .inr ⟨Tryz.t28,_,_,by kernel_rfl,rfl,rfl,rfl,(λcs h=>by cases h;rfl),Tryz.underlying28,rfl⟩
 .exact .inr ⟨Tryz.t29,_,_,by kernel_rfl,rfl,rfl,rfl,(λcs h=>by cases h;rfl),Tryz.underlying29,rfl⟩
 .exact .inr ⟨Tryz.t32,_,_,by kernel_rfl,rfl,rfl,rfl,(λcs h=>by cases h;rfl),Tryz.underlying32,rfl⟩
 .exact .inr ⟨Tryz.t35,_,_,by kernel_rfl,rfl,rfl,rfl,(λcs h=>by cases h;rfl),Tryz.underlying35,rfl⟩
 .exact .inr ⟨Tryz.t36,_,_,by kernel_rfl,rfl,rfl,rfl,(λcs h=>by cases h;rfl),Tryz.underlying36,rfl⟩
 .exact .inr ⟨Tryz.t37,_,_,by kernel_rfl,rfl,rfl,rfl,(λcs h=>by cases h;rfl),Tryz.underlying37,rfl⟩
 .exact .inr ⟨Tryz.t39,_,_,by kernel_rfl,rfl,rfl,rfl,(λcs h=>by cases h;rfl),Tryz.underlying39,rfl⟩
 .exact .inr ⟨Tryz.t57,_,_,by kernel_rfl,rfl,rfl,rfl,(λcs h=>by cases h;rfl),Tryz.underlying57,rfl⟩
 .exact .inr ⟨Tryz.t59,_,_,by kernel_rfl,rfl,rfl,rfl,(λcs h=>by cases h;rfl),Tryz.underlying59,rfl⟩
 .exact .inr ⟨Tryz.t61,_,_,by kernel_rfl,rfl,rfl,rfl,(λcs h=>by cases h;rfl),Tryz.underlying61,rfl⟩
 .exact .inr ⟨Tryz.t66,_,_,by kernel_rfl,rfl,rfl,rfl,(λcs h=>by cases h;rfl),Tryz.underlying66,rfl⟩
 .exact .inr ⟨Tryz.t71,_,_,by kernel_rfl,rfl,rfl,rfl,(λcs h=>by cases h;rfl),Tryz.underlying71,rfl⟩
 .exact .inr ⟨Tryz.t85,_,_,by kernel_rfl,rfl,rfl,rfl,(λcs h=>by cases h;rfl),Tryz.underlying85,rfl⟩
 .exact .inr ⟨Tryz.t87,_,_,by kernel_rfl,rfl,rfl,rfl,(λcs h=>by cases h;rfl),Tryz.underlying87,rfl⟩
 .exact .inr ⟨Tryz.t90,_,_,by kernel_rfl,rfl,rfl,rfl,(λcs h=>by cases h;rfl),Tryz.underlying90,rfl⟩
 .exact .inr ⟨Tryz.t93,_,_,by kernel_rfl,rfl,rfl,rfl,(λcs h=>by cases h;rfl),Tryz.underlying93,rfl⟩
 .exact .inr ⟨Tryz.t96,_,_,by kernel_rfl,rfl,rfl,rfl,(λcs h=>by cases h;rfl),Tryz.underlying96,rfl⟩
 .exact .inr ⟨Tryz.t97,_,_,by kernel_rfl,rfl,rfl,rfl,(λcs h=>by cases h;rfl),Tryz.underlying97,rfl⟩
 .exact .inr ⟨Tryz.t100,_,_,by kernel_rfl,rfl,rfl,rfl,(λcs h=>by cases h;rfl),Tryz.underlying100,rfl⟩
 .exact .inr ⟨Tryz.t102,_,_,by kernel_rfl,rfl,rfl,rfl,(λcs h=>by cases h;rfl),Tryz.underlying102,rfl⟩
 .exact .inr ⟨Tryz.t108,_,_,by kernel_rfl,rfl,rfl,rfl,(λcs h=>by cases h;rfl),Tryz.underlying108,rfl⟩
 .exact .inr ⟨Tryz.t110,_,_,by kernel_rfl,rfl,rfl,rfl,(λcs h=>by cases h;rfl),Tryz.underlying110,rfl⟩
 .exact .inr ⟨Tryz.t112,_,_,by kernel_rfl,rfl,rfl,rfl,(λcs h=>by cases h;rfl),Tryz.underlying112,rfl⟩
 .exact .inr ⟨Tryz.t114,_,_,by kernel_rfl,rfl,rfl,rfl,(λcs h=>by cases h;rfl),Tryz.underlying114,rfl⟩
 .exact .inr ⟨Tryz.t119,_,_,by kernel_rfl,rfl,rfl,rfl,(λcs h=>by cases h),Tryz.underlying119,trivial⟩
 .exact .inr ⟨Tryz.t121,_,_,by kernel_rfl,rfl,rfl,rfl,(λcs h=>by cases h;rfl),Tryz.underlying121,rfl⟩
 .exact .inr ⟨Tryz.t122,_,_,by kernel_rfl,rfl,rfl,rfl,(λcs h=>by cases h;rfl),Tryz.underlying122,⟨rfl,rfl⟩⟩
 .exact .inr ⟨Tryz.t124,_,_,by kernel_rfl,rfl,rfl,rfl,(λcs h=>by cases h;rfl),Tryz.underlying124,rfl⟩
 .exact .inr ⟨Tryz.t127,_,_,by kernel_rfl,rfl,rfl,rfl,(λcs h=>by cases h),Tryz.underlying127,trivial⟩
 .exact .inr ⟨Tryz.t131,_,_,by kernel_rfl,rfl,rfl,rfl,(λcs h=>by cases h),Tryz.underlying131,trivial⟩
 .exact .inr ⟨Tryz.t134,_,_,by kernel_rfl,rfl,rfl,rfl,(λcs h=>by cases h;rfl),Tryz.underlying134,rfl⟩
 .exact .inr ⟨Tryz.t147,_,_,by kernel_rfl,rfl,rfl,rfl,(λcs h=>by cases h;rfl),Tryz.underlying147,rfl⟩
 .exact .inr ⟨Tryz.t149,_,_,by kernel_rfl,rfl,rfl,rfl,(λcs h=>by cases h;rfl),Tryz.underlying149,rfl⟩
 .exact .inr ⟨Tryz.t151,_,_,by kernel_rfl,rfl,rfl,rfl,(λcs h=>by cases h;rfl),Tryz.underlying151,rfl⟩
 .exact .inr ⟨Tryz.t152,_,_,by kernel_rfl,rfl,rfl,rfl,(λcs h=>by cases h;rfl),Tryz.underlying152,rfl⟩
 .exact .inr ⟨Tryz.t155,_,_,by kernel_rfl,rfl,rfl,rfl,(λcs h=>by cases h;rfl),Tryz.underlying155,rfl⟩
 .exact .inr ⟨Tryz.t157,_,_,by kernel_rfl,rfl,rfl,rfl,(λcs h=>by cases h;rfl),Tryz.underlying157,rfl⟩
 .exact .inr ⟨Tryz.t170,_,_,by kernel_rfl,rfl,rfl,rfl,(λcs h=>by cases h),Tryz.underlying170,trivial⟩
 .exact .inr ⟨Tryz.t173,_,_,by kernel_rfl,rfl,rfl,rfl,(λcs h=>by cases h;rfl),Tryz.underlying173,rfl⟩
 .exact .inr ⟨Tryz.t175,_,_,by kernel_rfl,rfl,rfl,rfl,(λcs h=>by cases h;rfl),Tryz.underlying175,rfl⟩
 .exact .inr ⟨Tryz.t180,_,_,by kernel_rfl,rfl,rfl,rfl,(λcs h=>by cases h;rfl),Tryz.underlying180,rfl⟩
 .exact .inr ⟨Tryz.t185,_,_,by kernel_rfl,rfl,rfl,rfl,(λcs h=>by cases h;rfl),Tryz.underlying185,rfl⟩
 .exact .inr ⟨Tryz.t195,_,_,by kernel_rfl,rfl,rfl,rfl,(λcs h=>by cases h),Tryz.underlying195,trivial⟩
 .exact .inr ⟨Tryz.t196,_,_,by kernel_rfl,rfl,rfl,rfl,(λcs h=>by cases h),Tryz.underlying196,trivial⟩
 .exact .inr ⟨Tryz.t198,_,_,by kernel_rfl,rfl,rfl,rfl,(λcs h=>by cases h),Tryz.underlying198,trivial⟩
 .exact .inr ⟨Tryz.t199,_,_,by kernel_rfl,rfl,rfl,rfl,(λcs h=>by cases h),Tryz.underlying199,trivial⟩
 .exact .inr ⟨Tryz.t209,_,_,by kernel_rfl,rfl,rfl,rfl,(λcs h=>by cases h),Tryz.underlying209,trivial⟩
 .exact .inr ⟨Tryz.t216,_,_,by kernel_rfl,rfl,rfl,rfl,(λcs h=>by cases h;rfl),Tryz.underlying216,rfl⟩
 .exact .inr ⟨Tryz.t226,_,_,by kernel_rfl,rfl,rfl,rfl,(λcs h=>by cases h;rfl),Tryz.underlying226,rfl⟩
 .exact .inr ⟨Tryz.t229,_,_,by kernel_rfl,rfl,rfl,rfl,(λcs h=>by cases h),Tryz.underlying229,trivial⟩
 .exact .inr ⟨Tryz.t245,_,_,by kernel_rfl,rfl,rfl,rfl,(λcs h=>by cases h;rfl),Tryz.underlying245,rfl⟩
 .exact .inr ⟨Tryz.t247,_,_,by kernel_rfl,rfl,rfl,rfl,(λcs h=>by cases h;rfl),Tryz.underlying247,rfl⟩
 .exact .inr ⟨Tryz.t255,_,_,by kernel_rfl,rfl,rfl,rfl,(λcs h=>by cases h),Tryz.underlying255,trivial⟩
 .exact .inr ⟨Tryz.t261,_,_,by kernel_rfl,rfl,rfl,rfl,(λcs h=>by cases h;rfl),Tryz.underlying261,rfl⟩
 .exact .inr ⟨Tryz.t263,_,_,by kernel_rfl,rfl,rfl,rfl,(λcs h=>by cases h;rfl),Tryz.underlying263,rfl⟩
 .exact .inr ⟨Tryz.t280,_,_,by kernel_rfl,rfl,rfl,rfl,(λcs h=>by cases h;rfl),Tryz.underlying280,rfl⟩
 .exact .inr ⟨Tryz.t282,_,_,by kernel_rfl,rfl,rfl,rfl,(λcs h=>by cases h;rfl),Tryz.underlying282,rfl⟩
 .exact .inr ⟨Tryz.t285,_,_,by kernel_rfl,rfl,rfl,rfl,(λcs h=>by cases h),Tryz.underlying285,trivial⟩
 .exact .inl ⟨_,_,_,_,rfl,rfl⟩
noncomputable def ah:cy:=⟨Tryz.prog,T,λ_=>[]⟩
theorem O2:ah.fK:=⟨ah_,by kernel_rfl⟩
theorem axw:ah.T 1=⟨.fn,1,8,.hole⟩:=rfl
theorem aia:ah.T 2=⟨.int .i64,1,8,(.int .i64 0)⟩:=rfl
theorem axx:ah.T 3=⟨.int .i64,1,8,(.int .i64 0)⟩:=rfl
theorem aib:ah.T 4=⟨.bool,1,1,(.bool false)⟩:=rfl
theorem aic:ah.T 5=⟨.int .u8,1,1,(.int .u8 0)⟩:=rfl
theorem aid:ah.T 9=⟨.str,1,16,(.str [])⟩:=rfl
theorem aie:ah.T 22=⟨.slice 87,1,24,.bd⟩:=rfl
theorem aif:ah.T 23=⟨.slice 90,1,24,.bd⟩:=rfl
theorem aih:ah.T 24=⟨.slice 93,1,24,.bd⟩:=rfl
theorem aii:ah.T 25=⟨.slice 9,1,24,.bd⟩:=rfl
theorem aij:ah.T 27=⟨.struct [(22,0),(23,1),(24,2),(25,3),(25,4)],5,120,(.agg [.bd,.bd,.bd,.bd,.bd])⟩:=rfl
theorem aik:ah.T 28=⟨.slice 57,1,24,.bd⟩:=rfl
theorem ail:ah.T 29=⟨.slice 2,1,24,.bd⟩:=rfl
theorem aim:ah.T 32=⟨.slice 71,1,24,.bd⟩:=rfl
theorem ain:ah.T 35=⟨.slice 110,1,24,.bd⟩:=rfl
theorem aio:ah.T 36=⟨.slice 112,1,24,.bd⟩:=rfl
theorem aip:ah.T 37=⟨.slice 114,1,24,.bd⟩:=rfl
theorem aiq:ah.T 39=⟨.struct [(35,0),(36,1),(37,2),(25,3),(25,4)],5,120,(.agg [.bd,.bd,.bd,.bd,.bd])⟩:=rfl
theorem air:ah.T 57=⟨.struct [(2,0),(2,1),(29,2)],3,40,(.agg [(.int .i64 0),(.int .i64 0),.bd])⟩:=rfl
theorem axy:ah.T 59=⟨.ptr 39,1,8,.ez⟩:=rfl
theorem ais:ah.T 61=⟨.slice 66,1,24,.bd⟩:=rfl
theorem ait:ah.T 66=⟨.struct [(9,0),(2,1),(2,2),(32,3)],4,56,(.agg [(.str []),(.int .i64 0),(.int .i64 0),.bd])⟩:=rfl
theorem aiu:ah.T 71=⟨.struct [(2,0),(2,1),(29,2)],3,40,(.agg [(.int .i64 0),(.int .i64 0),.bd])⟩:=rfl
theorem aiv:ah.T 85=⟨.slice 175,1,24,.bd⟩:=rfl
theorem aiw:ah.T 87=⟨.struct [(9,0),(2,1),(85,2)],3,48,(.agg [(.str []),(.int .i64 0),.bd])⟩:=rfl
theorem aix:ah.T 90=⟨.struct [(2,0),(29,1)],2,32,(.agg [(.int .i64 0),.bd])⟩:=rfl
theorem aiy:ah.T 93=⟨.struct [(9,0),(9,1),(9,2)],3,48,(.agg [(.str []),(.str []),(.str [])])⟩:=rfl
theorem aiz:ah.T 96=⟨.slice 97,1,24,.bd⟩:=rfl
theorem aiA:ah.T 97=⟨.slice 102,1,24,.bd⟩:=rfl
theorem axz:ah.T 100=⟨.ptr 71,1,8,.ez⟩:=rfl
theorem aiB:ah.T 102=⟨.struct [(9,0),(71,1)],4,56,(.agg [(.str []),(.agg [(.int .i64 0),(.int .i64 0),.bd])])⟩:=rfl
theorem aiC:ah.T 108=⟨.slice 149,1,24,.bd⟩:=rfl
theorem aiD:ah.T 110=⟨.struct [(9,0),(2,1),(108,2)],3,48,(.agg [(.str []),(.int .i64 0),.bd])⟩:=rfl
theorem aiE:ah.T 112=⟨.struct [(2,0),(29,1)],2,32,(.agg [(.int .i64 0),.bd])⟩:=rfl
theorem aiF:ah.T 114=⟨.struct [(9,0),(9,1),(9,2)],3,48,(.agg [(.str []),(.str []),(.str [])])⟩:=rfl
theorem axA:ah.T 119=⟨.fn,1,8,.hole⟩:=rfl
theorem axB:ah.T 121=⟨.ptr 124,1,8,.ez⟩:=rfl
theorem aiG:ah.T 122=⟨.map 9 4,1,8,(.ck .ky)⟩:=rfl
theorem aiH:ah.T 124=⟨.struct [(39,0),(32,5),(61,6),(122,7)],8,176,(.agg [(.agg [.bd,.bd,.bd,.bd,.bd]),.bd,.bd,(.ck .ky)])⟩:=rfl
theorem axC:ah.T 127=⟨.fn,1,8,.hole⟩:=rfl
theorem axD:ah.T 131=⟨.fn,1,8,.hole⟩:=rfl
theorem aiI:ah.T 134=⟨.slice 5,1,24,.bd⟩:=rfl
theorem aiJ:ah.T 147=⟨.slice 185,1,24,.bd⟩:=rfl
theorem aiK:ah.T 149=⟨.struct [(2,0),(2,1),(9,2),(147,3)],4,56,(.agg [(.int .i64 0),(.int .i64 0),(.str []),.bd])⟩:=rfl
theorem aiL:ah.T 151=⟨.struct [(2,0),(4,1)],2,16,(.agg [(.int .i64 0),(.bool false)])⟩:=rfl
theorem aiM:ah.T 152=⟨.slice 151,1,24,.bd⟩:=rfl
theorem axE:ah.T 155=⟨.ptr 157,1,8,.ez⟩:=rfl
theorem aiN:ah.T 157=⟨.struct [(35,0),(97,1),(122,2)],3,56,(.agg [.bd,.bd,(.ck .ky)])⟩:=rfl
theorem axF:ah.T 170=⟨.fn,1,8,.hole⟩:=rfl
theorem aiO:ah.T 173=⟨.slice 247,1,24,.bd⟩:=rfl
theorem aiP:ah.T 175=⟨.struct [(2,0),(2,1),(9,2),(173,3)],4,56,(.agg [(.int .i64 0),(.int .i64 0),(.str []),.bd])⟩:=rfl
theorem axG:ah.T 180=⟨.ptr 110,1,8,.ez⟩:=rfl
theorem aiQ:ah.T 185=⟨.slice 245,1,24,.bd⟩:=rfl
theorem axH:ah.T 195=⟨.fn,1,8,.hole⟩:=rfl
theorem aiR:ah.T 196=⟨.fn,1,8,.hole⟩:=rfl
theorem axI:ah.T 198=⟨.fn,1,8,.hole⟩:=rfl
theorem axJ:ah.T 199=⟨.fn,1,8,.hole⟩:=rfl
theorem axK:ah.T 209=⟨.fn,1,8,.hole⟩:=rfl
theorem axL:ah.T 216=⟨.ptr 149,1,8,.ez⟩:=rfl
theorem aiS:ah.T 226=⟨.ptr 263,1,8,.ez⟩:=rfl
theorem axM:ah.T 229=⟨.fn,1,8,.hole⟩:=rfl
theorem aiT:ah.T 245=⟨.struct [(2,0),(2,1)],2,16,(.agg [(.int .i64 0),(.int .i64 0)])⟩:=rfl
theorem aiU:ah.T 247=⟨.slice 282,1,24,.bd⟩:=rfl
theorem axN:ah.T 255=⟨.fn,1,8,.hole⟩:=rfl
theorem aiV:ah.T 261=⟨.slice 226,1,24,.bd⟩:=rfl
theorem aiW:ah.T 263=⟨.struct [(245,0),(261,2)],3,40,(.agg [(.agg [(.int .i64 0),(.int .i64 0)]),.bd])⟩:=rfl
theorem axO:ah.T 280=⟨.ptr 245,1,8,.ez⟩:=rfl
theorem aiX:ah.T 282=⟨.struct [(2,0),(2,1)],2,16,(.agg [(.int .i64 0),(.int .i64 0)])⟩:=rfl
theorem axP:ah.T 285=⟨.fn,1,8,.hole⟩:=rfl
end Go.Proofs.YtmaepbgkcmjcjahGreatDoor
