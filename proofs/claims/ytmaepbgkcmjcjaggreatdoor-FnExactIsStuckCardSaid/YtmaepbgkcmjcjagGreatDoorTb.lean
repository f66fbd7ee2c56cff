/- Part of a proof that a law returns true for every input. No condition. -/
import Derived.Test.YtmaepbgkcmjcjagGreatDoorProg
import Derived.KernelRfl
import Derived.Test.YtmaepbgkcmjcjagGreatDoorFwF
namespace Go.Proofs.YtmaepbgkcmjcjagGreatDoor
open Go.ef
def T:TypeId->hA
 |1=>⟨.fn,1,8,.hole⟩
 |2=>⟨.int .i64,1,8,(.int .i64 0)⟩
 |3=>⟨.int .i64,1,8,(.int .i64 0)⟩
 |4=>⟨.bool,1,1,(.bool false)⟩
 |5=>⟨.int .u8,1,1,(.int .u8 0)⟩
 |9=>⟨.str,1,16,(.str [])⟩
 |22=>⟨.slice 72,1,24,.a8⟩
 |23=>⟨.slice 75,1,24,.a8⟩
 |24=>⟨.slice 78,1,24,.a8⟩
 |25=>⟨.slice 9,1,24,.a8⟩
 |27=>⟨.struct [(22,0),(23,1),(24,2),(25,3),(25,4)],5,120,(.agg [.a8,.a8,.a8,.a8,.a8])⟩
 |28=>⟨.slice 50,1,24,.a8⟩
 |32=>⟨.slice 99,1,24,.a8⟩
 |33=>⟨.slice 101,1,24,.a8⟩
 |34=>⟨.slice 103,1,24,.a8⟩
 |36=>⟨.struct [(32,0),(33,1),(34,2),(25,3),(25,4)],5,120,(.agg [.a8,.a8,.a8,.a8,.a8])⟩
 |38=>⟨.slice 60,1,24,.a8⟩
 |48=>⟨.slice 2,1,24,.a8⟩
 |50=>⟨.struct [(2,0),(2,1),(48,2)],3,40,(.agg [(.int .i64 0),(.int .i64 0),.a8])⟩
 |52=>⟨.ptr 36,1,8,.en⟩
 |53=>⟨.slice 95,1,24,.a8⟩
 |60=>⟨.struct [(2,0),(2,1),(48,2)],3,40,(.agg [(.int .i64 0),(.int .i64 0),.a8])⟩
 |67=>⟨.fn,1,8,.hole⟩
 |70=>⟨.slice 138,1,24,.a8⟩
 |72=>⟨.struct [(9,0),(2,1),(70,2)],3,48,(.agg [(.str []),(.int .i64 0),.a8])⟩
 |75=>⟨.struct [(2,0),(48,1)],2,32,(.agg [(.int .i64 0),.a8])⟩
 |78=>⟨.struct [(9,0),(9,1),(9,2)],3,48,(.agg [(.str []),(.str []),(.str [])])⟩
 |82=>⟨.slice 83,1,24,.a8⟩
 |83=>⟨.slice 88,1,24,.a8⟩
 |86=>⟨.ptr 60,1,8,.en⟩
 |88=>⟨.struct [(9,0),(60,1)],4,56,(.agg [(.str []),(.agg [(.int .i64 0),(.int .i64 0),.a8])])⟩
 |95=>⟨.struct [(9,0),(2,1),(2,2),(38,3)],4,56,(.agg [(.str []),(.int .i64 0),(.int .i64 0),.a8])⟩
 |97=>⟨.slice 145,1,24,.a8⟩
 |99=>⟨.struct [(9,0),(2,1),(97,2)],3,48,(.agg [(.str []),(.int .i64 0),.a8])⟩
 |101=>⟨.struct [(2,0),(48,1)],2,32,(.agg [(.int .i64 0),.a8])⟩
 |103=>⟨.struct [(9,0),(9,1),(9,2)],3,48,(.agg [(.str []),(.str []),(.str [])])⟩
 |124=>⟨.fn,1,8,.hole⟩
 |125=>⟨.ptr 128,1,8,.en⟩
 |126=>⟨.map 9 4,1,8,(.b4 .j2)⟩
 |128=>⟨.struct [(36,0),(38,5),(53,6),(126,7)],8,176,(.agg [(.agg [.a8,.a8,.a8,.a8,.a8]),.a8,.a8,(.b4 .j2)])⟩
 |136=>⟨.slice 212,1,24,.a8⟩
 |138=>⟨.struct [(2,0),(2,1),(9,2),(136,3)],4,56,(.agg [(.int .i64 0),(.int .i64 0),(.str []),.a8])⟩
 |143=>⟨.slice 153,1,24,.a8⟩
 |145=>⟨.struct [(2,0),(2,1),(9,2),(143,3)],4,56,(.agg [(.int .i64 0),(.int .i64 0),(.str []),.a8])⟩
 |147=>⟨.ptr 99,1,8,.en⟩
 |149=>⟨.fn,1,8,.hole⟩
 |153=>⟨.slice 216,1,24,.a8⟩
 |165=>⟨.struct [(2,0),(4,1)],2,16,(.agg [(.int .i64 0),(.bool false)])⟩
 |166=>⟨.slice 165,1,24,.a8⟩
 |168=>⟨.ptr 170,1,8,.en⟩
 |170=>⟨.struct [(32,0),(83,1),(126,2)],3,56,(.agg [.a8,.a8,(.b4 .j2)])⟩
 |189=>⟨.ptr 145,1,8,.en⟩
 |190=>⟨.fn,1,8,.hole⟩
 |195=>⟨.fn,1,8,.hole⟩
 |196=>⟨.fn,1,8,.hole⟩
 |199=>⟨.fn,1,8,.hole⟩
 |209=>⟨.fn,1,8,.hole⟩
 |212=>⟨.slice 251,1,24,.a8⟩
 |216=>⟨.struct [(2,0),(2,1)],2,16,(.agg [(.int .i64 0),(.int .i64 0)])⟩
 |218=>⟨.fn,1,8,.hole⟩
 |220=>⟨.slice 5,1,24,.a8⟩
 |228=>⟨.ptr 261,1,8,.en⟩
 |249=>⟨.ptr 216,1,8,.en⟩
 |251=>⟨.struct [(2,0),(2,1)],2,16,(.agg [(.int .i64 0),(.int .i64 0)])⟩
 |253=>⟨.fn,1,8,.hole⟩
 |259=>⟨.slice 228,1,24,.a8⟩
 |261=>⟨.struct [(216,0),(259,2)],3,40,(.agg [(.agg [(.int .i64 0),(.int .i64 0)]),.a8])⟩
 |279=>⟨.fn,1,8,.hole⟩
 |_=>⟨.other,0,0,.hole⟩
theorem agk:∀t,Ss Tryz.prog t (T t):=by
 intro t;unfold T;split
 .exact .inr ⟨Tryz.t1,_,_,by kernel_rfl,rfl,rfl,rfl,(λcs h=>by cases h),Tryz.underlying1,trivial⟩
 .exact .inr ⟨Tryz.t2,_,_,by kernel_rfl,rfl,rfl,rfl,(λcs h=>by cases h;rfl),Tryz.underlying2,rfl⟩
 .exact .inr ⟨Tryz.t3,_,_,by kernel_rfl,rfl,rfl,rfl,(λcs h=>by cases h;rfl),Tryz.underlying3,rfl⟩
 .exact .inr ⟨Tryz.t4,_,_,by kernel_rfl,rfl,rfl,rfl,(λcs h=>by cases h;rfl),Tryz.underlying4,trivial⟩
 .exact .inr ⟨Tryz.t5,_,_,by kernel_rfl,rfl,rfl,rfl,(λcs h=>by cases h;rfl),Tryz.underlying5,rfl⟩
 .exact .inr ⟨Tryz.t9,_,_,by kernel_rfl,rfl,rfl,rfl,(λcs h=>by cases h;rfl),Tryz.underlying9,trivial⟩
 .exact .inr ⟨Tryz.t22,_,_,by kernel_rfl,rfl,rfl,rfl,(λcs h=>by cases h;rfl),Tryz.underlying22,rfl⟩
 .exact .inr ⟨Tryz.t23,_,_,by kernel_rfl,rfl,rfl,rfl,(λcs h=>by cases h;rfl),Tryz.underlying23,rfl⟩
 .exact .inr ⟨Tryz.t24,_,_,by kernel_rfl,rfl,rfl,rfl,(λcs h=>by cases h;rfl),Tryz.underlying24,rfl⟩
 .exact .inr ⟨Tryz.t25,_,_,by kernel_rfl,rfl,rfl,rfl,(λcs h=>by cases h;rfl),Tryz.underlying25,rfl⟩
 .exact .inr ⟨Tryz.t27,_,_,by kernel_rfl,rfl,rfl,rfl,(λcs h=>by cases h;rfl),Tryz.underlying27,rfl⟩
 .exact .inr ⟨Tryz.t28,_,_,by kernel_rfl,rfl,rfl,rfl,(λcs h=>by cases h;rfl),Tryz.underlying28,rfl⟩
 .exact .inr ⟨Tryz.t32,_,_,by kernel_rfl,rfl,rfl,rfl,(λcs h=>by cases h;rfl),Tryz.underlying32,rfl⟩
 .exact .inr ⟨Tryz.t33,_,_,by kernel_rfl,rfl,rfl,rfl,(λcs h=>by cases h;rfl),Tryz.underlying33,rfl⟩
 .exact .inr ⟨Tryz.t34,_,_,by kernel_rfl,rfl,rfl,rfl,(λcs h=>by cases h;rfl),Tryz.underlying34,rfl⟩
 .exact .inr ⟨Tryz.t36,_,_,by kernel_rfl,rfl,rfl,rfl,(λcs h=>by cases h;rfl),Tryz.underlying36,rfl⟩
 .exact .inr ⟨Tryz.t38,_,_,by kernel_rfl,rfl,rfl,rfl,(λcs h=>by cases h;rfl),Tryz.underlying38,rfl⟩
 .exact .inr ⟨Tryz.t48,_,_,by kernel_rfl,rfl,rfl,rfl,(λcs h=>by cases h;rfl),Tryz.underlying48,rfl⟩
 .exact .inr ⟨Tryz.t50,_,_,by kernel_rfl,rfl,rfl,rfl,(λcs h=>by cases h;rfl),Tryz.underlying50,rfl⟩
 .exact .inr ⟨Tryz.t52,_,_,by kernel_rfl,rfl,rfl,rfl,(λcs h=>by cases h;rfl),Tryz.underlying52,rfl⟩
 .exact .inr ⟨Tryz.t53,_,_,by kernel_rfl,rfl,rfl,rfl,(λcs h=>by cases h;rfl),Tryz.underlying53,rfl⟩
 .exact .inr ⟨Tryz.t60,_,_,by kernel_rfl,rfl,rfl,rfl,(λcs h=>by cases h;rfl),Tryz.underlying60,rfl⟩
 .exact .inr ⟨Tryz.t67,_,_,by kernel_rfl,rfl,rfl,rfl,(λcs h=>by cases h),Tryz.underlying67,trivial⟩
 .exact .inr ⟨Tryz.t70,_,_,by kernel_rfl,rfl,rfl,rfl,(λcs h=>by cases h;rfl),Tryz.underlying70,rfl⟩
 .exact .inr ⟨Tryz.t72,_,_,by kernel_rfl,rfl,rfl,rfl,(λcs h=>by cases h;rfl),Tryz.underlying72,rfl⟩
 .exact .inr ⟨Tryz.t75,_,_,by kernel_rfl,rfl,rfl,rfl,(λcs h=>by cases h;rfl),Tryz.underlying75,rfl⟩
 .exact .inr ⟨Tryz.t78,_,_,by kernel_rfl,rfl,rfl,rfl,(λcs h=>by cases h;rfl),Tryz.underlying78,rfl⟩
 .exact .inr ⟨Tryz.t82,_,_,by kernel_rfl,rfl,rfl,rfl,(λcs h=>by cases h;rfl),Tryz.underlying82,rfl⟩
 .exact .inr ⟨Tryz.t83,_,_,by kernel_rfl,rfl,rfl,rfl,(λcs h=>by cases h;rfl),Tryz.underlying83,rfl⟩
 .exact .inr ⟨Tryz.t86,_,_,by kernel_rfl,rfl,rfl,rfl,(λcs h=>by cases h;rfl),Tryz.underlying86,rfl⟩
 .exact .inr ⟨Tryz.t88,_,_,by kernel_rfl,rfl,rfl,rfl,(λcs h=>by cases h;rfl),Tryz.underlying88,rfl⟩
 .exact .inr ⟨Tryz.t95,_,_,by kernel_rfl,rfl,rfl,rfl,(λcs h=>by cases h;rfl),Tryz.underlying95,rfl⟩
 .exact .inr ⟨Tryz.t97,_,_,by kernel_rfl,rfl,rfl,rfl,(λcs h=>by cases h;rfl),Tryz.underlying97,rfl⟩
 .exact .inr ⟨Tryz.t99,_,_,by kernel_rfl,rfl,rfl,rfl,(λcs h=>by cases h;rfl),Tryz.underlying99,rfl⟩
 .exact .inr ⟨Tryz.t101,_,_,by kernel_rfl,rfl,rfl,rfl,(λcs h=>by cases h;rfl),Tryz.underlying101,rfl⟩
 .exact .inr ⟨Tryz.t103,_,_,by kernel_rfl,rfl,rfl,rfl,(λcs h=>by cases h;rfl),Tryz.underlying103,rfl⟩
 .exact .inr ⟨Tryz.t124,_,_,by kernel_rfl,rfl,rfl,rfl,(λcs h=>by cases h),Tryz.underlying124,trivial⟩
 .exact .inr ⟨Tryz.t125,_,_,by kernel_rfl,rfl,rfl,rfl,(λcs h=>by cases h;rfl),Tryz.underlying125,rfl⟩
 .exact .inr ⟨Tryz.t126,_,_,by kernel_rfl,rfl,rfl,rfl,(λcs h=>by cases h;rfl),Tryz.underlying126,⟨rfl,rfl⟩⟩
 .exact .inr ⟨Tryz.t128,_,_,by kernel_rfl,rfl,rfl,rfl,(λcs h=>by cases h;rfl),Tryz.underlying128,rfl⟩
 .exact .inr ⟨Tryz.t136,_,_,by kernel_rfl,rfl,rfl,rfl,(λcs h=>by cases h;rfl),Tryz.underlying136,rfl⟩
 .exact .inr ⟨Tryz.t138,_,_,by kernel_rfl,rfl,rfl,rfl,(λcs h=>by cases h;rfl),Tryz.underlying138,rfl⟩
 .exact .inr ⟨Tryz.t143,_,_,by kernel_rfl,rfl,rfl,rfl,(λcs h=>by cases h;rfl),Tryz.underlying143,rfl⟩
 .exact .inr ⟨Tryz.t145,_,_,by kernel_rfl,rfl,rfl,rfl,(λcs h=>by cases h;rfl),Tryz.underlying145,rfl⟩
 .exact .inr ⟨Tryz.t147,_,_,by kernel_rfl,rfl,rfl,rfl,(λcs h=>by cases h;rfl),Tryz.underlying147,rfl⟩
 .exact .inr ⟨Tryz.t149,_,_,by kernel_rfl,rfl,rfl,rfl,(λcs h=>by cases h),Tryz.underlying149,trivial⟩
 .exact .inr ⟨Tryz.t153,_,_,by kernel_rfl,rfl,rfl,rfl,(λcs h=>by cases h;rfl),Tryz.underlying153,rfl⟩
 .exact .inr ⟨Tryz.t165,_,_,by kernel_rfl,rfl,rfl,rfl,(λcs h=>by cases h;rfl),Tryz.underlying165,rfl⟩
 .exact .inr ⟨Tryz.t166,_,_,by kernel_rfl,rfl,rfl,rfl,(λcs h=>by cases h;rfl),Tryz.underlying166,rfl⟩
 .exact .inr ⟨Tryz.t168,_,_,by kernel_rfl,rfl,rfl,rfl,(λcs h=>by cases h;rfl),Tryz.underlying168,rfl⟩
 .exact .inr ⟨Tryz.t170,_,_,by kernel_rfl,rfl,rfl,rfl,(λcs h=>by cases h;rfl),Tryz.underlying170,rfl⟩
 .exact .inr ⟨Tryz.t189,_,_,by kernel_rfl,rfl,rfl,rfl,(λcs h=>by cases h;rfl),Tryz.underlying189,rfl⟩
 .exact .inr ⟨Tryz.t190,_,_,by kernel_rfl,rfl,rfl,rfl,(λcs h=>by cases h),Tryz.underlying190,trivial⟩
 .exact .inr ⟨Tryz.t195,_,_,by kernel_rfl,rfl,rfl,rfl,(λcs h=>by cases h),Tryz.underlying195,trivial⟩
 .exact .inr ⟨Tryz.t196,_,_,by kernel_rfl,rfl,rfl,rfl,(λcs h=>by cases h),Tryz.underlying196,trivial⟩
 .exact .inr ⟨Tryz.t199,_,_,by kernel_rfl,rfl,rfl,rfl,(λcs h=>by cases h),Tryz.underlying199,trivial⟩
 .exact .inr ⟨Tryz.t209,_,_,by kernel_rfl,rfl,rfl,rfl,(λcs h=>by cases h),Tryz.underlying209,trivial⟩
 .exact .inr ⟨Tryz.t212,_,_,by kernel_rfl,rfl,rfl,rfl,(λcs h=>by cases h;rfl),Tryz.underlying212,rfl⟩
 .exact .inr ⟨Tryz.t216,_,_,by kernel_rfl,rfl,rfl,rfl,(λcs h=>by cases h;rfl),Tryz.underlying216,rfl⟩
 .exact .inr ⟨Tryz.t218,_,_,by kernel_rfl,rfl,rfl,rfl,(λcs h=>by cases h),Tryz.underlying218,trivial⟩
 .exact .inr ⟨Tryz.t220,_,_,by kernel_rfl,rfl,rfl,rfl,(λcs h=>by cases h;rfl),Tryz.underlying220,rfl⟩
 .exact .inr ⟨Tryz.t228,_,_,by kernel_rfl,rfl,rfl,rfl,(λcs h=>by cases h;rfl),Tryz.underlying228,rfl⟩
 .exact .inr ⟨Tryz.t249,_,_,by kernel_rfl,rfl,rfl,rfl,(λcs h=>by cases h;rfl),Tryz.underlying249,rfl⟩
 .exact .inr ⟨Tryz.t251,_,_,by kernel_rfl,rfl,rfl,rfl,(λcs h=>by cases h;rfl),Tryz.underlying251,rfl⟩
 .exact .inr ⟨Tryz.t253,_,_,by kernel_rfl,rfl,rfl,rfl,(λcs h=>by cases h),Tryz.underlying253,trivial⟩
 .exact .inr ⟨Tryz.t259,_,_,by kernel_rfl,rfl,rfl,rfl,(λcs h=>by cases h;rfl),Tryz.underlying259,rfl⟩
 .exact .inr ⟨Tryz.t261,_,_,by kernel_rfl,rfl,rfl,rfl,(λcs h=>by cases h;rfl),Tryz.underlying261,rfl⟩
 .exact .inr ⟨Tryz.t279,_,_,by kernel_rfl,rfl,rfl,rfl,(λcs h=>by cases h),Tryz.underlying279,trivial⟩
 .exact .inl ⟨_,_,_,_,rfl,rfl⟩
noncomputable def ah:cj:=⟨Tryz.prog,T,λ_=>[]⟩
theorem Nv:ah.fz:=⟨agk,by kernel_rfl⟩
theorem aur:ah.T 1=⟨.fn,1,8,.hole⟩:=rfl
theorem agl:ah.T 2=⟨.int .i64,1,8,(.int .i64 0)⟩:=rfl
theorem aus:ah.T 3=⟨.int .i64,1,8,(.int .i64 0)⟩:=rfl
theorem agm:ah.T 4=⟨.bool,1,1,(.bool false)⟩:=rfl
theorem agn:ah.T 5=⟨.int .u8,1,1,(.int .u8 0)⟩:=rfl
theorem ago:ah.T 9=⟨.str,1,16,(.str [])⟩:=rfl
theorem agp:ah.T 22=⟨.slice 72,1,24,.a8⟩:=rfl
theorem agq:ah.T 23=⟨.slice 75,1,24,.a8⟩:=rfl
theorem agr:ah.T 24=⟨.slice 78,1,24,.a8⟩:=rfl
theorem ags:ah.T 25=⟨.slice 9,1,24,.a8⟩:=rfl
theorem agt:ah.T 27=⟨.struct [(22,0),(23,1),(24,2),(25,3),(25,4)],5,120,(.agg [.a8,.a8,.a8,.a8,.a8])⟩:=rfl
theorem agu:ah.T 28=⟨.slice 50,1,24,.a8⟩:=rfl
theorem agv:ah.T 32=⟨.slice 99,1,24,.a8⟩:=rfl
theorem agw:ah.T 33=⟨.slice 101,1,24,.a8⟩:=rfl
theorem agx:ah.T 34=⟨.slice 103,1,24,.a8⟩:=rfl
theorem agy:ah.T 36=⟨.struct [(32,0),(33,1),(34,2),(25,3),(25,4)],5,120,(.agg [.a8,.a8,.a8,.a8,.a8])⟩:=rfl
theorem agz:ah.T 38=⟨.slice 60,1,24,.a8⟩:=rfl
theorem agA:ah.T 48=⟨.slice 2,1,24,.a8⟩:=rfl
theorem agB:ah.T 50=⟨.struct [(2,0),(2,1),(48,2)],3,40,(.agg [(.int .i64 0),(.int .i64 0),.a8])⟩:=rfl
theorem aut:ah.T 52=⟨.ptr 36,1,8,.en⟩:=rfl
theorem agC:ah.T 53=⟨.slice 95,1,24,.a8⟩:=rfl
theorem agD:ah.T 60=⟨.struct [(2,0),(2,1),(48,2)],3,40,(.agg [(.int .i64 0),(.int .i64 0),.a8])⟩:=rfl
theorem auu:ah.T 67=⟨.fn,1,8,.hole⟩:=rfl
theorem agE:ah.T 70=⟨.slice 138,1,24,.a8⟩:=rfl
theorem agF:ah.T 72=⟨.struct [(9,0),(2,1),(70,2)],3,48,(.agg [(.str []),(.int .i64 0),.a8])⟩:=rfl
theorem agG:ah.T 75=⟨.struct [(2,0),(48,1)],2,32,(.agg [(.int .i64 0),.a8])⟩:=rfl
theorem agH:ah.T 78=⟨.struct [(9,0),(9,1),(9,2)],3,48,(.agg [(.str []),(.str []),(.str [])])⟩:=rfl
theorem agI:ah.T 82=⟨.slice 83,1,24,.a8⟩:=rfl
theorem agJ:ah.T 83=⟨.slice 88,1,24,.a8⟩:=rfl
theorem auv:ah.T 86=⟨.ptr 60,1,8,.en⟩:=rfl
theorem agK:ah.T 88=⟨.struct [(9,0),(60,1)],4,56,(.agg [(.str []),(.agg [(.int .i64 0),(.int .i64 0),.a8])])⟩:=rfl
theorem agL:ah.T 95=⟨.struct [(9,0),(2,1),(2,2),(38,3)],4,56,(.agg [(.str []),(.int .i64 0),(.int .i64 0),.a8])⟩:=rfl
theorem agM:ah.T 97=⟨.slice 145,1,24,.a8⟩:=rfl
theorem agN:ah.T 99=⟨.struct [(9,0),(2,1),(97,2)],3,48,(.agg [(.str []),(.int .i64 0),.a8])⟩:=rfl
theorem agO:ah.T 101=⟨.struct [(2,0),(48,1)],2,32,(.agg [(.int .i64 0),.a8])⟩:=rfl
theorem agP:ah.T 103=⟨.struct [(9,0),(9,1),(9,2)],3,48,(.agg [(.str []),(.str []),(.str [])])⟩:=rfl
theorem auw:ah.T 124=⟨.fn,1,8,.hole⟩:=rfl
theorem auy:ah.T 125=⟨.ptr 128,1,8,.en⟩:=rfl
theorem agQ:ah.T 126=⟨.map 9 4,1,8,(.b4 .j2)⟩:=rfl
theorem agR:ah.T 128=⟨.struct [(36,0),(38,5),(53,6),(126,7)],8,176,(.agg [(.agg [.a8,.a8,.a8,.a8,.a8]),.a8,.a8,(.b4 .j2)])⟩:=rfl
theorem agS:ah.T 136=⟨.slice 212,1,24,.a8⟩:=rfl
theorem agT:ah.T 138=⟨.struct [(2,0),(2,1),(9,2),(136,3)],4,56,(.agg [(.int .i64 0),(.int .i64 0),(.str []),.a8])⟩:=rfl
theorem agU:ah.T 143=⟨.slice 153,1,24,.a8⟩:=rfl
theorem agV:ah.T 145=⟨.struct [(2,0),(2,1),(9,2),(143,3)],4,56,(.agg [(.int .i64 0),(.int .i64 0),(.str []),.a8])⟩:=rfl
theorem auz:ah.T 147=⟨.ptr 99,1,8,.en⟩:=rfl
theorem auA:ah.T 149=⟨.fn,1,8,.hole⟩:=rfl
theorem agW:ah.T 153=⟨.slice 216,1,24,.a8⟩:=rfl
theorem agX:ah.T 165=⟨.struct [(2,0),(4,1)],2,16,(.agg [(.int .i64 0),(.bool false)])⟩:=rfl
theorem agY:ah.T 166=⟨.slice 165,1,24,.a8⟩:=rfl
theorem auB:ah.T 168=⟨.ptr 170,1,8,.en⟩:=rfl
theorem agZ:ah.T 170=⟨.struct [(32,0),(83,1),(126,2)],3,56,(.agg [.a8,.a8,(.b4 .j2)])⟩:=rfl
theorem auC:ah.T 189=⟨.ptr 145,1,8,.en⟩:=rfl
theorem auD:ah.T 190=⟨.fn,1,8,.hole⟩:=rfl
theorem auE:ah.T 195=⟨.fn,1,8,.hole⟩:=rfl
theorem ag0:ah.T 196=⟨.fn,1,8,.hole⟩:=rfl
theorem auF:ah.T 199=⟨.fn,1,8,.hole⟩:=rfl
theorem auG:ah.T 209=⟨.fn,1,8,.hole⟩:=rfl
theorem ag1:ah.T 212=⟨.slice 251,1,24,.a8⟩:=rfl
theorem ag2:ah.T 216=⟨.struct [(2,0),(2,1)],2,16,(.agg [(.int .i64 0),(.int .i64 0)])⟩:=rfl
theorem auH:ah.T 218=⟨.fn,1,8,.hole⟩:=rfl
theorem ag3:ah.T 220=⟨.slice 5,1,24,.a8⟩:=rfl
theorem ag4:ah.T 228=⟨.ptr 261,1,8,.en⟩:=rfl
theorem auI:ah.T 249=⟨.ptr 216,1,8,.en⟩:=rfl
theorem ag5:ah.T 251=⟨.struct [(2,0),(2,1)],2,16,(.agg [(.int .i64 0),(.int .i64 0)])⟩:=rfl
theorem auJ:ah.T 253=⟨.fn,1,8,.hole⟩:=rfl
theorem ag6:ah.T 259=⟨.slice 228,1,24,.a8⟩:=rfl
theorem ag7:ah.T 261=⟨.struct [(216,0),(259,2)],3,40,(.agg [(.agg [(.int .i64 0),(.int .i64 0)]),.a8])⟩:=rfl
theorem auK:ah.T 279=⟨.fn,1,8,.hole⟩:=rfl
end Go.Proofs.YtmaepbgkcmjcjagGreatDoor
