/- Part of a proof that a law returns true for every input. No condition. -/
import Derived.Test.YtmaepbgkcmjcjaiGreatDoorProg
import Derived.KernelRfl
import Derived.Test.YtmaepbgkcmjcjaiGreatDoorFwF
namespace Go.Proofs.YtmaepbgkcmjcjaiGreatDoor
open Go.eg
def T:TypeId->hB
 |1=>⟨.fn,1,8,.hole⟩
 |2=>⟨.int .i64,1,8,(.int .i64 0)⟩
 |3=>⟨.int .i64,1,8,(.int .i64 0)⟩
 |4=>⟨.bool,1,1,(.bool false)⟩
 |5=>⟨.int .u8,1,1,(.int .u8 0)⟩
 |9=>⟨.str,1,16,(.str [])⟩
 |22=>⟨.slice 91,1,24,.a8⟩
 |23=>⟨.slice 94,1,24,.a8⟩
 |24=>⟨.slice 97,1,24,.a8⟩
 |25=>⟨.slice 9,1,24,.a8⟩
 |27=>⟨.struct [(22,0),(23,1),(24,2),(25,3),(25,4)],5,120,(.agg [.a8,.a8,.a8,.a8,.a8])⟩
 |28=>⟨.slice 56,1,24,.a8⟩
 |29=>⟨.slice 59,1,24,.a8⟩
 |35=>⟨.slice 123,1,24,.a8⟩
 |36=>⟨.slice 125,1,24,.a8⟩
 |37=>⟨.slice 127,1,24,.a8⟩
 |39=>⟨.struct [(35,0),(36,1),(37,2),(25,3),(25,4)],5,120,(.agg [.a8,.a8,.a8,.a8,.a8])⟩
 |41=>⟨.slice 72,1,24,.a8⟩
 |43=>⟨.slice 74,1,24,.a8⟩
 |54=>⟨.slice 2,1,24,.a8⟩
 |56=>⟨.struct [(2,0),(2,1),(54,2)],3,40,(.agg [(.int .i64 0),(.int .i64 0),.a8])⟩
 |59=>⟨.struct [(2,0),(2,1),(2,2),(9,3)],4,40,(.agg [(.int .i64 0),(.int .i64 0),(.int .i64 0),(.str [])])⟩
 |61=>⟨.ptr 39,1,8,.eh⟩
 |64=>⟨.slice 117,1,24,.a8⟩
 |66=>⟨.fn,1,8,.hole⟩
 |72=>⟨.struct [(2,0),(2,1),(54,2)],3,40,(.agg [(.int .i64 0),(.int .i64 0),.a8])⟩
 |74=>⟨.struct [(2,0),(2,1),(2,2),(9,3)],4,40,(.agg [(.int .i64 0),(.int .i64 0),(.int .i64 0),(.str [])])⟩
 |77=>⟨.struct [(2,0),(2,1)],2,16,(.agg [(.int .i64 0),(.int .i64 0)])⟩
 |79=>⟨.fn,1,8,.hole⟩
 |89=>⟨.slice 197,1,24,.a8⟩
 |91=>⟨.struct [(9,0),(2,1),(89,2)],3,48,(.agg [(.str []),(.int .i64 0),.a8])⟩
 |94=>⟨.struct [(2,0),(54,1)],2,32,(.agg [(.int .i64 0),.a8])⟩
 |97=>⟨.struct [(9,0),(9,1),(9,2)],3,48,(.agg [(.str []),(.str []),(.str [])])⟩
 |103=>⟨.ptr 74,1,8,.eh⟩
 |104=>⟨.slice 105,1,24,.a8⟩
 |105=>⟨.slice 110,1,24,.a8⟩
 |108=>⟨.ptr 72,1,8,.eh⟩
 |110=>⟨.struct [(9,0),(72,1)],4,56,(.agg [(.str []),(.agg [(.int .i64 0),(.int .i64 0),.a8])])⟩
 |117=>⟨.struct [(9,0),(2,1),(2,2),(41,3)],4,56,(.agg [(.str []),(.int .i64 0),(.int .i64 0),.a8])⟩
 |121=>⟨.slice 170,1,24,.a8⟩
 |123=>⟨.struct [(9,0),(2,1),(121,2)],3,48,(.agg [(.str []),(.int .i64 0),.a8])⟩
 |125=>⟨.struct [(2,0),(54,1)],2,32,(.agg [(.int .i64 0),.a8])⟩
 |127=>⟨.struct [(9,0),(9,1),(9,2)],3,48,(.agg [(.str []),(.str []),(.str [])])⟩
 |133=>⟨.fn,1,8,.hole⟩
 |135=>⟨.fn,1,8,.hole⟩
 |136=>⟨.ptr 139,1,8,.eh⟩
 |137=>⟨.map 9 4,1,8,(.b9 .kc)⟩
 |139=>⟨.struct [(39,0),(41,5),(64,6),(137,7)],8,176,(.agg [(.agg [.a8,.a8,.a8,.a8,.a8]),.a8,.a8,(.b9 .kc)])⟩
 |143=>⟨.fn,1,8,.hole⟩
 |147=>⟨.fn,1,8,.hole⟩
 |163=>⟨.slice 5,1,24,.a8⟩
 |168=>⟨.slice 207,1,24,.a8⟩
 |170=>⟨.struct [(2,0),(2,1),(9,2),(168,3)],4,56,(.agg [(.int .i64 0),(.int .i64 0),(.str []),.a8])⟩
 |172=>⟨.struct [(2,0),(4,1)],2,16,(.agg [(.int .i64 0),(.bool false)])⟩
 |173=>⟨.slice 172,1,24,.a8⟩
 |177=>⟨.ptr 179,1,8,.eh⟩
 |179=>⟨.struct [(35,0),(105,1),(137,2)],3,56,(.agg [.a8,.a8,(.b9 .kc)])⟩
 |195=>⟨.slice 270,1,24,.a8⟩
 |197=>⟨.struct [(2,0),(2,1),(9,2),(195,3)],4,56,(.agg [(.int .i64 0),(.int .i64 0),(.str []),.a8])⟩
 |202=>⟨.ptr 123,1,8,.eh⟩
 |207=>⟨.slice 274,1,24,.a8⟩
 |212=>⟨.fn,1,8,.hole⟩
 |216=>⟨.fn,1,8,.hole⟩
 |217=>⟨.fn,1,8,.hole⟩
 |220=>⟨.fn,1,8,.hole⟩
 |229=>⟨.fn,1,8,.hole⟩
 |234=>⟨.ptr 170,1,8,.eh⟩
 |244=>⟨.ptr 288,1,8,.eh⟩
 |270=>⟨.slice 306,1,24,.a8⟩
 |274=>⟨.struct [(2,0),(2,1)],2,16,(.agg [(.int .i64 0),(.int .i64 0)])⟩
 |280=>⟨.fn,1,8,.hole⟩
 |286=>⟨.slice 244,1,24,.a8⟩
 |288=>⟨.struct [(274,0),(286,2)],3,40,(.agg [(.agg [(.int .i64 0),(.int .i64 0)]),.a8])⟩
 |304=>⟨.ptr 274,1,8,.eh⟩
 |306=>⟨.struct [(2,0),(2,1)],2,16,(.agg [(.int .i64 0),(.int .i64 0)])⟩
 |308=>⟨.fn,1,8,.hole⟩
 |_=>⟨.other,0,0,.hole⟩
theorem ahR:∀t,TR Tryz.prog t (T t):=by
 intro t;unfold T;split
 .exact .inr ⟨Tryz.t1,_,_,by kernel_rfl,rfl,rfl,rfl,(λcs h=>by cases h),Tryz.underlying1,trivial⟩
 .exact .inr ⟨Tryz.t2,_,_,by kernel_rfl,rfl,rfl,rfl,(λcs h=>by cases h;rfl),Tryz.underlying2,rfl⟩
 .exact .inr ⟨Tryz.t3,_,_,by kernel_rfl,rfl,rfl,rfl,(λcs h=>by cases h;rfl),Tryz.underlying3,rfl⟩
 .exact .inr ⟨Tryz.t4,_,_,by kernel_rfl,rfl,rfl,rfl,(λcs h=>by cases h;rfl),Tryz.underlying4,trivial⟩
 .exact .inr ⟨Tryz.t5,_,_,by kernel_rfl,rfl,rfl,rfl,(λcs h=>by cases h;rfl),Tryz.underlying5,rfl⟩
 .exact .inr ⟨Tryz.t9,_,_,by kernel_rfl,rfl,rfl,rfl,(λcs h=>by cases h;rfl),Tryz.underlying9,trivial⟩
 .exact .inr ⟨Tryz.t22,_,_,by kernel_rfl,rfl,rfl,rfl,(λcs h=>by cases h;rfl),Tryz.underlying22,rfl⟩
 .exact .inr ⟨Tryz.t23,_,_,by kernel_rfl,rfl,rfl,rfl,(λcs h=>by cases h;rfl),Tryz.underlying23,rfl⟩
 .exact .inr ⟨Tryz.t24,_,_,by kernel_rfl,rfl,rfl,rfl,(λcs h=>by cases h;rfl),Tryz.underlying24,rfl⟩
 .exact .inr ⟨Tryz.t25,_,_,by kernel_rfl,rfl,rfl,rfl,(λcs h=>by cases h;rfl),Tryz.underlying25,rfl⟩
 .exact .inr ⟨Tryz.t27,_,_,by kernel_rfl,rfl,rfl,rfl,(λcs h=>by cases h;rfl),Tryz.underlying27,rfl⟩
 .exact .inr ⟨Tryz.t28,_,_,by kernel_rfl,rfl,rfl,rfl,(λcs h=>by cases h;rfl),Tryz.underlying28,rfl⟩
 .exact .inr ⟨Tryz.t29,_,_,by kernel_rfl,rfl,rfl,rfl,(λcs h=>by cases h;rfl),Tryz.underlying29,rfl⟩
 .exact .inr ⟨Tryz.t35,_,_,by kernel_rfl,rfl,rfl,rfl,(λcs h=>by cases h;rfl),Tryz.underlying35,rfl⟩
 .exact .inr ⟨Tryz.t36,_,_,by kernel_rfl,rfl,rfl,rfl,(λcs h=>by cases h;rfl),Tryz.underlying36,rfl⟩
 .exact .inr ⟨Tryz.t37,_,_,by kernel_rfl,rfl,rfl,rfl,(λcs h=>by cases h;rfl),Tryz.underlying37,rfl⟩
 .exact .inr ⟨Tryz.t39,_,_,by kernel_rfl,rfl,rfl,rfl,(λcs h=>by cases h;rfl),Tryz.underlying39,rfl⟩
 .exact .inr ⟨Tryz.t41,_,_,by kernel_rfl,rfl,rfl,rfl,(λcs h=>by cases h;rfl),Tryz.underlying41,rfl⟩
 .exact .inr ⟨Tryz.t43,_,_,by kernel_rfl,rfl,rfl,rfl,(λcs h=>by cases h;rfl),Tryz.underlying43,rfl⟩
 .exact .inr ⟨Tryz.t54,_,_,by kernel_rfl,rfl,rfl,rfl,(λcs h=>by cases h;rfl),Tryz.underlying54,rfl⟩
 .exact .inr ⟨Tryz.t56,_,_,by kernel_rfl,rfl,rfl,rfl,(λcs h=>by cases h;rfl),Tryz.underlying56,rfl⟩
 .exact .inr ⟨Tryz.t59,_,_,by kernel_rfl,rfl,rfl,rfl,(λcs h=>by cases h;rfl),Tryz.underlying59,rfl⟩
 .exact .inr ⟨Tryz.t61,_,_,by kernel_rfl,rfl,rfl,rfl,(λcs h=>by cases h;rfl),Tryz.underlying61,rfl⟩
 .exact .inr ⟨Tryz.t64,_,_,by kernel_rfl,rfl,rfl,rfl,(λcs h=>by cases h;rfl),Tryz.underlying64,rfl⟩
 .exact .inr ⟨Tryz.t66,_,_,by kernel_rfl,rfl,rfl,rfl,(λcs h=>by cases h),Tryz.underlying66,trivial⟩
 .exact .inr ⟨Tryz.t72,_,_,by kernel_rfl,rfl,rfl,rfl,(λcs h=>by cases h;rfl),Tryz.underlying72,rfl⟩
 .exact .inr ⟨Tryz.t74,_,_,by kernel_rfl,rfl,rfl,rfl,(λcs h=>by cases h;rfl),Tryz.underlying74,rfl⟩
 .exact .inr ⟨Tryz.t77,_,_,by kernel_rfl,rfl,rfl,rfl,(λcs h=>by cases h;rfl),Tryz.underlying77,rfl⟩
 .exact .inr ⟨Tryz.t79,_,_,by kernel_rfl,rfl,rfl,rfl,(λcs h=>by cases h),Tryz.underlying79,trivial⟩
 .exact .inr ⟨Tryz.t89,_,_,by kernel_rfl,rfl,rfl,rfl,(λcs h=>by cases h;rfl),Tryz.underlying89,rfl⟩
 .exact .inr ⟨Tryz.t91,_,_,by kernel_rfl,rfl,rfl,rfl,(λcs h=>by cases h;rfl),Tryz.underlying91,rfl⟩
 .exact .inr ⟨Tryz.t94,_,_,by kernel_rfl,rfl,rfl,rfl,(λcs h=>by cases h;rfl),Tryz.underlying94,rfl⟩
 .exact .inr ⟨Tryz.t97,_,_,by kernel_rfl,rfl,rfl,rfl,(λcs h=>by cases h;rfl),Tryz.underlying97,rfl⟩
 .exact .inr ⟨Tryz.t103,_,_,by kernel_rfl,rfl,rfl,rfl,(λcs h=>by cases h;rfl),Tryz.underlying103,rfl⟩
 .exact .inr ⟨Tryz.t104,_,_,by kernel_rfl,rfl,rfl,rfl,(λcs h=>by cases h;rfl),Tryz.underlying104,rfl⟩
 .exact .inr ⟨Tryz.t105,_,_,by kernel_rfl,rfl,rfl,rfl,(λcs h=>by cases h;rfl),Tryz.underlying105,rfl⟩
 .exact .inr ⟨Tryz.t108,_,_,by kernel_rfl,rfl,rfl,rfl,(λcs h=>by cases h;rfl),Tryz.underlying108,rfl⟩
 .exact .inr ⟨Tryz.t110,_,_,by kernel_rfl,rfl,rfl,rfl,(λcs h=>by cases h;rfl),Tryz.underlying110,rfl⟩
 .exact .inr ⟨Tryz.t117,_,_,by kernel_rfl,rfl,rfl,rfl,(λcs h=>by cases h;rfl),Tryz.underlying117,rfl⟩
 .exact .inr ⟨Tryz.t121,_,_,by kernel_rfl,rfl,rfl,rfl,(λcs h=>by cases h;rfl),Tryz.underlying121,rfl⟩
 .exact .inr ⟨Tryz.t123,_,_,by kernel_rfl,rfl,rfl,rfl,(λcs h=>by cases h;rfl),Tryz.underlying123,rfl⟩
 .exact .inr ⟨Tryz.t125,_,_,by kernel_rfl,rfl,rfl,rfl,(λcs h=>by cases h;rfl),Tryz.underlying125,rfl⟩
 .exact .inr ⟨Tryz.t127,_,_,by kernel_rfl,rfl,rfl,rfl,(λcs h=>by cases h;rfl),Tryz.underlying127,rfl⟩
 .exact .inr ⟨Tryz.t133,_,_,by kernel_rfl,rfl,rfl,rfl,(λcs h=>by cases h),Tryz.underlying133,trivial⟩
 .exact .inr ⟨Tryz.t135,_,_,by kernel_rfl,rfl,rfl,rfl,(λcs h=>by cases h),Tryz.underlying135,trivial⟩
 .exact .inr ⟨Tryz.t136,_,_,by kernel_rfl,rfl,rfl,rfl,(λcs h=>by cases h;rfl),Tryz.underlying136,rfl⟩
 .exact .inr ⟨Tryz.t137,_,_,by kernel_rfl,rfl,rfl,rfl,(λcs h=>by cases h;rfl),Tryz.underlying137,⟨rfl,rfl⟩⟩
 .exact .inr ⟨Tryz.t139,_,_,by kernel_rfl,rfl,rfl,rfl,(λcs h=>by cases h;rfl),Tryz.underlying139,rfl⟩
 .exact .inr ⟨Tryz.t143,_,_,by kernel_rfl,rfl,rfl,rfl,(λcs h=>by cases h),Tryz.underlying143,trivial⟩
 .exact .inr ⟨Tryz.t147,_,_,by kernel_rfl,rfl,rfl,rfl,(λcs h=>by cases h),Tryz.underlying147,trivial⟩
 .exact .inr ⟨Tryz.t163,_,_,by kernel_rfl,rfl,rfl,rfl,(λcs h=>by cases h;rfl),Tryz.underlying163,rfl⟩
 .exact .inr ⟨Tryz.t168,_,_,by kernel_rfl,rfl,rfl,rfl,(λcs h=>by cases h;rfl),Tryz.underlying168,rfl⟩
 .exact .inr ⟨Tryz.t170,_,_,by kernel_rfl,rfl,rfl,rfl,(λcs h=>by cases h;rfl),Tryz.underlying170,rfl⟩
 .exact .inr ⟨Tryz.t172,_,_,by kernel_rfl,rfl,rfl,rfl,(λcs h=>by cases h;rfl),Tryz.underlying172,rfl⟩
 .exact .inr ⟨Tryz.t173,_,_,by kernel_rfl,rfl,rfl,rfl,(λcs h=>by cases h;rfl),Tryz.underlying173,rfl⟩
 .exact .inr ⟨Tryz.t177,_,_,by kernel_rfl,rfl,rfl,rfl,(λcs h=>by cases h;rfl),Tryz.underlying177,rfl⟩
 .exact .inr ⟨Tryz.t179,_,_,by kernel_rfl,rfl,rfl,rfl,(λcs h=>by cases h;rfl),Tryz.underlying179,rfl⟩
 .exact .inr ⟨Tryz.t195,_,_,by kernel_rfl,rfl,rfl,rfl,(λcs h=>by cases h;rfl),Tryz.underlying195,rfl⟩
 .exact .inr ⟨Tryz.t197,_,_,by kernel_rfl,rfl,rfl,rfl,(λcs h=>by cases h;rfl),Tryz.underlying197,rfl⟩
 .exact .inr ⟨Tryz.t202,_,_,by kernel_rfl,rfl,rfl,rfl,(λcs h=>by cases h;rfl),Tryz.underlying202,rfl⟩
 .exact .inr ⟨Tryz.t207,_,_,by kernel_rfl,rfl,rfl,rfl,(λcs h=>by cases h;rfl),Tryz.underlying207,rfl⟩
 .exact .inr ⟨Tryz.t212,_,_,by kernel_rfl,rfl,rfl,rfl,(λcs h=>by cases h),Tryz.underlying212,trivial⟩
 .exact .inr ⟨Tryz.t216,_,_,by kernel_rfl,rfl,rfl,rfl,(λcs h=>by cases h),Tryz.underlying216,trivial⟩
 .exact .inr ⟨Tryz.t217,_,_,by kernel_rfl,rfl,rfl,rfl,(λcs h=>by cases h),Tryz.underlying217,trivial⟩
 .exact .inr ⟨Tryz.t220,_,_,by kernel_rfl,rfl,rfl,rfl,(λcs h=>by cases h),Tryz.underlying220,trivial⟩
 .exact .inr ⟨Tryz.t229,_,_,by kernel_rfl,rfl,rfl,rfl,(λcs h=>by cases h),Tryz.underlying229,trivial⟩
 .exact .inr ⟨Tryz.t234,_,_,by kernel_rfl,rfl,rfl,rfl,(λcs h=>by cases h;rfl),Tryz.underlying234,rfl⟩
 .exact .inr ⟨Tryz.t244,_,_,by kernel_rfl,rfl,rfl,rfl,(λcs h=>by cases h;rfl),Tryz.underlying244,rfl⟩
 .exact .inr ⟨Tryz.t270,_,_,by kernel_rfl,rfl,rfl,rfl,(λcs h=>by cases h;rfl),Tryz.underlying270,rfl⟩
 .exact .inr ⟨Tryz.t274,_,_,by kernel_rfl,rfl,rfl,rfl,(λcs h=>by cases h;rfl),Tryz.underlying274,rfl⟩
 .exact .inr ⟨Tryz.t280,_,_,by kernel_rfl,rfl,rfl,rfl,(λcs h=>by cases h),Tryz.underlying280,trivial⟩
 .exact .inr ⟨Tryz.t286,_,_,by kernel_rfl,rfl,rfl,rfl,(λcs h=>by cases h;rfl),Tryz.underlying286,rfl⟩
 .exact .inr ⟨Tryz.t288,_,_,by kernel_rfl,rfl,rfl,rfl,(λcs h=>by cases h;rfl),Tryz.underlying288,rfl⟩
 .exact .inr ⟨Tryz.t304,_,_,by kernel_rfl,rfl,rfl,rfl,(λcs h=>by cases h;rfl),Tryz.underlying304,rfl⟩
 .exact .inr ⟨Tryz.t306,_,_,by kernel_rfl,rfl,rfl,rfl,(λcs h=>by cases h;rfl),Tryz.underlying306,rfl⟩
 .exact .inr ⟨Tryz.t308,_,_,by kernel_rfl,rfl,rfl,rfl,(λcs h=>by cases h),Tryz.underlying308,trivial⟩
 .exact .inl ⟨_,_,_,_,rfl,rfl⟩
noncomputable def af:cl:=⟨Tryz.prog,T,λ_=>[]⟩
theorem Ov:af.fH:=⟨ahR,by kernel_rfl⟩
theorem axk:af.T 1=⟨.fn,1,8,.hole⟩:=rfl
theorem ahS:af.T 2=⟨.int .i64,1,8,(.int .i64 0)⟩:=rfl
theorem axl:af.T 3=⟨.int .i64,1,8,(.int .i64 0)⟩:=rfl
theorem ahT:af.T 4=⟨.bool,1,1,(.bool false)⟩:=rfl
theorem ahU:af.T 5=⟨.int .u8,1,1,(.int .u8 0)⟩:=rfl
theorem ahV:af.T 9=⟨.str,1,16,(.str [])⟩:=rfl
theorem ahW:af.T 22=⟨.slice 91,1,24,.a8⟩:=rfl
theorem ahX:af.T 23=⟨.slice 94,1,24,.a8⟩:=rfl
theorem ahY:af.T 24=⟨.slice 97,1,24,.a8⟩:=rfl
theorem ahZ:af.T 25=⟨.slice 9,1,24,.a8⟩:=rfl
theorem ah0:af.T 27=⟨.struct [(22,0),(23,1),(24,2),(25,3),(25,4)],5,120,(.agg [.a8,.a8,.a8,.a8,.a8])⟩:=rfl
theorem ah1:af.T 28=⟨.slice 56,1,24,.a8⟩:=rfl
theorem ah2:af.T 29=⟨.slice 59,1,24,.a8⟩:=rfl
theorem ah3:af.T 35=⟨.slice 123,1,24,.a8⟩:=rfl
theorem ah4:af.T 36=⟨.slice 125,1,24,.a8⟩:=rfl
theorem ah5:af.T 37=⟨.slice 127,1,24,.a8⟩:=rfl
theorem ah6:af.T 39=⟨.struct [(35,0),(36,1),(37,2),(25,3),(25,4)],5,120,(.agg [.a8,.a8,.a8,.a8,.a8])⟩:=rfl
theorem ah7:af.T 41=⟨.slice 72,1,24,.a8⟩:=rfl
theorem ah8:af.T 43=⟨.slice 74,1,24,.a8⟩:=rfl
theorem ah9:af.T 54=⟨.slice 2,1,24,.a8⟩:=rfl
theorem ah_:af.T 56=⟨.struct [(2,0),(2,1),(54,2)],3,40,(.agg [(.int .i64 0),(.int .i64 0),.a8])⟩:=rfl
theorem aia:af.T 59=⟨.struct [(2,0),(2,1),(2,2),(9,3)],4,40,(.agg [(.int .i64 0),(.int .i64 0),(.int .i64 0),(.str [])])⟩:=rfl
theorem axm:af.T 61=⟨.ptr 39,1,8,.eh⟩:=rfl
theorem aib:af.T 64=⟨.slice 117,1,24,.a8⟩:=rfl
theorem axn:af.T 66=⟨.fn,1,8,.hole⟩:=rfl
theorem aic:af.T 72=⟨.struct [(2,0),(2,1),(54,2)],3,40,(.agg [(.int .i64 0),(.int .i64 0),.a8])⟩:=rfl
theorem aid:af.T 74=⟨.struct [(2,0),(2,1),(2,2),(9,3)],4,40,(.agg [(.int .i64 0),(.int .i64 0),(.int .i64 0),(.str [])])⟩:=rfl
theorem aie:af.T 77=⟨.struct [(2,0),(2,1)],2,16,(.agg [(.int .i64 0),(.int .i64 0)])⟩:=rfl
theorem axo:af.T 79=⟨.fn,1,8,.hole⟩:=rfl
theorem aif:af.T 89=⟨.slice 197,1,24,.a8⟩:=rfl
theorem aih:af.T 91=⟨.struct [(9,0),(2,1),(89,2)],3,48,(.agg [(.str []),(.int .i64 0),.a8])⟩:=rfl
theorem aii:af.T 94=⟨.struct [(2,0),(54,1)],2,32,(.agg [(.int .i64 0),.a8])⟩:=rfl
theorem aij:af.T 97=⟨.struct [(9,0),(9,1),(9,2)],3,48,(.agg [(.str []),(.str []),(.str [])])⟩:=rfl
theorem axp:af.T 103=⟨.ptr 74,1,8,.eh⟩:=rfl
theorem aik:af.T 104=⟨.slice 105,1,24,.a8⟩:=rfl
theorem ail:af.T 105=⟨.slice 110,1,24,.a8⟩:=rfl
theorem axq:af.T 108=⟨.ptr 72,1,8,.eh⟩:=rfl
theorem aim:af.T 110=⟨.struct [(9,0),(72,1)],4,56,(.agg [(.str []),(.agg [(.int .i64 0),(.int .i64 0),.a8])])⟩:=rfl
theorem ain:af.T 117=⟨.struct [(9,0),(2,1),(2,2),(41,3)],4,56,(.agg [(.str []),(.int .i64 0),(.int .i64 0),.a8])⟩:=rfl
theorem aio:af.T 121=⟨.slice 170,1,24,.a8⟩:=rfl
theorem aip:af.T 123=⟨.struct [(9,0),(2,1),(121,2)],3,48,(.agg [(.str []),(.int .i64 0),.a8])⟩:=rfl
theorem aiq:af.T 125=⟨.struct [(2,0),(54,1)],2,32,(.agg [(.int .i64 0),.a8])⟩:=rfl
theorem air:af.T 127=⟨.struct [(9,0),(9,1),(9,2)],3,48,(.agg [(.str []),(.str []),(.str [])])⟩:=rfl
theorem axr:af.T 133=⟨.fn,1,8,.hole⟩:=rfl
theorem axs:af.T 135=⟨.fn,1,8,.hole⟩:=rfl
theorem axt:af.T 136=⟨.ptr 139,1,8,.eh⟩:=rfl
theorem ais:af.T 137=⟨.map 9 4,1,8,(.b9 .kc)⟩:=rfl
theorem ait:af.T 139=⟨.struct [(39,0),(41,5),(64,6),(137,7)],8,176,(.agg [(.agg [.a8,.a8,.a8,.a8,.a8]),.a8,.a8,(.b9 .kc)])⟩:=rfl
theorem axu:af.T 143=⟨.fn,1,8,.hole⟩:=rfl
theorem axv:af.T 147=⟨.fn,1,8,.hole⟩:=rfl
theorem aiu:af.T 163=⟨.slice 5,1,24,.a8⟩:=rfl
theorem aiv:af.T 168=⟨.slice 207,1,24,.a8⟩:=rfl
theorem aiw:af.T 170=⟨.struct [(2,0),(2,1),(9,2),(168,3)],4,56,(.agg [(.int .i64 0),(.int .i64 0),(.str []),.a8])⟩:=rfl
theorem aix:af.T 172=⟨.struct [(2,0),(4,1)],2,16,(.agg [(.int .i64 0),(.bool false)])⟩:=rfl
theorem aiy:af.T 173=⟨.slice 172,1,24,.a8⟩:=rfl
theorem axw:af.T 177=⟨.ptr 179,1,8,.eh⟩:=rfl
theorem aiz:af.T 179=⟨.struct [(35,0),(105,1),(137,2)],3,56,(.agg [.a8,.a8,(.b9 .kc)])⟩:=rfl
theorem aiA:af.T 195=⟨.slice 270,1,24,.a8⟩:=rfl
theorem aiB:af.T 197=⟨.struct [(2,0),(2,1),(9,2),(195,3)],4,56,(.agg [(.int .i64 0),(.int .i64 0),(.str []),.a8])⟩:=rfl
theorem axx:af.T 202=⟨.ptr 123,1,8,.eh⟩:=rfl
theorem aiC:af.T 207=⟨.slice 274,1,24,.a8⟩:=rfl
theorem axy:af.T 212=⟨.fn,1,8,.hole⟩:=rfl
theorem axz:af.T 216=⟨.fn,1,8,.hole⟩:=rfl
theorem aiD:af.T 217=⟨.fn,1,8,.hole⟩:=rfl
theorem axA:af.T 220=⟨.fn,1,8,.hole⟩:=rfl
theorem axB:af.T 229=⟨.fn,1,8,.hole⟩:=rfl
theorem axC:af.T 234=⟨.ptr 170,1,8,.eh⟩:=rfl
theorem aiE:af.T 244=⟨.ptr 288,1,8,.eh⟩:=rfl
theorem aiF:af.T 270=⟨.slice 306,1,24,.a8⟩:=rfl
theorem aiG:af.T 274=⟨.struct [(2,0),(2,1)],2,16,(.agg [(.int .i64 0),(.int .i64 0)])⟩:=rfl
theorem axD:af.T 280=⟨.fn,1,8,.hole⟩:=rfl
theorem aiH:af.T 286=⟨.slice 244,1,24,.a8⟩:=rfl
theorem aiI:af.T 288=⟨.struct [(274,0),(286,2)],3,40,(.agg [(.agg [(.int .i64 0),(.int .i64 0)]),.a8])⟩:=rfl
theorem axE:af.T 304=⟨.ptr 274,1,8,.eh⟩:=rfl
theorem aiJ:af.T 306=⟨.struct [(2,0),(2,1)],2,16,(.agg [(.int .i64 0),(.int .i64 0)])⟩:=rfl
theorem axF:af.T 308=⟨.fn,1,8,.hole⟩:=rfl
end Go.Proofs.YtmaepbgkcmjcjaiGreatDoor
