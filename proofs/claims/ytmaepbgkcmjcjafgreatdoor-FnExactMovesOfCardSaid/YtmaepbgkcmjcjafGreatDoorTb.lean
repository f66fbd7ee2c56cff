/- Part of a proof that a law returns true for every input. No condition. -/
import Derived.Test.YtmaepbgkcmjcjafGreatDoorProg
import Derived.KernelRfl
import Derived.Test.YtmaepbgkcmjcjafGreatDoorFwF
namespace Go.Proofs.YtmaepbgkcmjcjafGreatDoor
open Go.eg
def T:TypeId->hG
 |1=>⟨.fn,1,8,.hole⟩
 |2=>⟨.int .i64,1,8,(.int .i64 0)⟩
 |3=>⟨.int .i64,1,8,(.int .i64 0)⟩
 |4=>⟨.bool,1,1,(.bool false)⟩
 |5=>⟨.int .u8,1,1,(.int .u8 0)⟩
 |9=>⟨.str,1,16,(.str [])⟩
 |22=>⟨.slice 85,1,24,.bg⟩
 |23=>⟨.slice 88,1,24,.bg⟩
 |24=>⟨.slice 91,1,24,.bg⟩
 |25=>⟨.slice 9,1,24,.bg⟩
 |27=>⟨.struct [(22,0),(23,1),(24,2),(25,3),(25,4)],5,120,(.agg [.bg,.bg,.bg,.bg,.bg])⟩
 |28=>⟨.slice 56,1,24,.bg⟩
 |31=>⟨.slice 71,1,24,.bg⟩
 |34=>⟨.slice 109,1,24,.bg⟩
 |35=>⟨.slice 111,1,24,.bg⟩
 |36=>⟨.slice 113,1,24,.bg⟩
 |38=>⟨.struct [(34,0),(35,1),(36,2),(25,3),(25,4)],5,120,(.agg [.bg,.bg,.bg,.bg,.bg])⟩
 |40=>⟨.slice 65,1,24,.bg⟩
 |54=>⟨.slice 2,1,24,.bg⟩
 |56=>⟨.struct [(2,0),(2,1),(54,2)],3,40,(.agg [(.int .i64 0),(.int .i64 0),.bg])⟩
 |58=>⟨.ptr 38,1,8,.er⟩
 |63=>⟨.fn,1,8,.hole⟩
 |65=>⟨.struct [(2,0),(2,1),(54,2)],3,40,(.agg [(.int .i64 0),(.int .i64 0),.bg])⟩
 |71=>⟨.struct [(9,0),(2,1),(2,2),(40,3)],4,56,(.agg [(.str []),(.int .i64 0),(.int .i64 0),.bg])⟩
 |83=>⟨.slice 177,1,24,.bg⟩
 |85=>⟨.struct [(9,0),(2,1),(83,2)],3,48,(.agg [(.str []),(.int .i64 0),.bg])⟩
 |88=>⟨.struct [(2,0),(54,1)],2,32,(.agg [(.int .i64 0),.bg])⟩
 |91=>⟨.struct [(9,0),(9,1),(9,2)],3,48,(.agg [(.str []),(.str []),(.str [])])⟩
 |94=>⟨.slice 95,1,24,.bg⟩
 |95=>⟨.slice 100,1,24,.bg⟩
 |98=>⟨.ptr 65,1,8,.er⟩
 |100=>⟨.struct [(9,0),(65,1)],4,56,(.agg [(.str []),(.agg [(.int .i64 0),(.int .i64 0),.bg])])⟩
 |107=>⟨.slice 150,1,24,.bg⟩
 |109=>⟨.struct [(9,0),(2,1),(107,2)],3,48,(.agg [(.str []),(.int .i64 0),.bg])⟩
 |111=>⟨.struct [(2,0),(54,1)],2,32,(.agg [(.int .i64 0),.bg])⟩
 |113=>⟨.struct [(9,0),(9,1),(9,2)],3,48,(.agg [(.str []),(.str []),(.str [])])⟩
 |119=>⟨.fn,1,8,.hole⟩
 |120=>⟨.ptr 123,1,8,.er⟩
 |121=>⟨.map 9 4,1,8,(.cc .ki)⟩
 |123=>⟨.struct [(38,0),(40,5),(31,6),(121,7)],8,176,(.agg [(.agg [.bg,.bg,.bg,.bg,.bg]),.bg,.bg,(.cc .ki)])⟩
 |129=>⟨.fn,1,8,.hole⟩
 |133=>⟨.fn,1,8,.hole⟩
 |134=>⟨.slice 5,1,24,.bg⟩
 |148=>⟨.slice 188,1,24,.bg⟩
 |150=>⟨.struct [(2,0),(2,1),(9,2),(148,3)],4,56,(.agg [(.int .i64 0),(.int .i64 0),(.str []),.bg])⟩
 |152=>⟨.struct [(2,0),(4,1)],2,16,(.agg [(.int .i64 0),(.bool false)])⟩
 |153=>⟨.slice 152,1,24,.bg⟩
 |154=>⟨.fn,1,8,.hole⟩
 |156=>⟨.ptr 158,1,8,.er⟩
 |158=>⟨.struct [(34,0),(95,1),(121,2)],3,56,(.agg [.bg,.bg,(.cc .ki)])⟩
 |173=>⟨.fn,1,8,.hole⟩
 |175=>⟨.slice 250,1,24,.bg⟩
 |177=>⟨.struct [(2,0),(2,1),(9,2),(175,3)],4,56,(.agg [(.int .i64 0),(.int .i64 0),(.str []),.bg])⟩
 |183=>⟨.ptr 109,1,8,.er⟩
 |188=>⟨.slice 248,1,24,.bg⟩
 |198=>⟨.fn,1,8,.hole⟩
 |199=>⟨.fn,1,8,.hole⟩
 |201=>⟨.fn,1,8,.hole⟩
 |202=>⟨.fn,1,8,.hole⟩
 |212=>⟨.fn,1,8,.hole⟩
 |219=>⟨.ptr 150,1,8,.er⟩
 |229=>⟨.ptr 266,1,8,.er⟩
 |232=>⟨.fn,1,8,.hole⟩
 |248=>⟨.struct [(2,0),(2,1)],2,16,(.agg [(.int .i64 0),(.int .i64 0)])⟩
 |250=>⟨.slice 285,1,24,.bg⟩
 |258=>⟨.fn,1,8,.hole⟩
 |264=>⟨.slice 229,1,24,.bg⟩
 |266=>⟨.struct [(248,0),(264,2)],3,40,(.agg [(.agg [(.int .i64 0),(.int .i64 0)]),.bg])⟩
 |283=>⟨.ptr 248,1,8,.er⟩
 |285=>⟨.struct [(2,0),(2,1)],2,16,(.agg [(.int .i64 0),(.int .i64 0)])⟩
 |288=>⟨.fn,1,8,.hole⟩
 |_=>⟨.other,0,0,.hole⟩
theorem ahC:∀t,TF Tryz.prog t (T t):=by
 intro t;unfold T;split
 .exact .inr ⟨Tryz.t1,_,_,by kernel_rfl,rfl,rfl,rfl,(λcs h=>by cases h),Tryz.underlying1,trivial⟩
 .exact .inr ⟨Tryz.t2,_,_,by kernel_rfl,rfl,rfl,rfl,(λcs h=>by cases h;rfl),Tryz.underlying2,rfl⟩
 .exact .inr ⟨Tryz.t3,_,_,by kernel_rfl,rfl,rfl,rfl,(λcs h=>by cases h;rfl),Tryz.underlying3,rfl⟩
 .exact .inr ⟨Tryz.t4,_,_,by kernel_rfl,rfl,rfl,rfl,(λcs h=>by cases h;rfl),Tryz.underlying4,trivial⟩
 .exact .inr ⟨Tryz.t5,_,_,by kernel_rfl,rfl,rfl,rfl,(λcs h=>by cases h;rfl),Tryz.underlying5,rfl⟩
 .exact .inr ⟨Tryz.t9,_,_,by kernel_rfl,rfl,rfl,rfl,(λcs h=>by cases h;rfl),Tryz.underlying9,trivial⟩
 .exact .inr ⟨Tryz.t22,_,_,by kernel_rfl,rfl,rfl,rfl,(λcs h=>by cases h;rfl),Tryz.underlying22,rfl⟩
 .exact .inr ⟨Tryz.t23,_,_,by kernel_rfl,rfl,rfl,rfl,(λcs h=>by cases h;rfl),Tryz.underlying23,rfl⟩
 .exact .inr ⟨Tryz.t24,_,_,by kernel_rfl,rfl,rfl,rfl,(λcs h=>by cases h;rfl),Tryz.underlying24,rfl⟩
 .exact .inr ⟨Tryz.t25,_,_,by kernel_rfl,rfl,rfl,rfl,(λcs h=>by cases h;rfl),Tryz.underlying25,rfl⟩
 .exact .inr ⟨Tryz.t27,_,_,by kernel_rfl,rfl,rfl,rfl,(λcs h=>by cases h;rfl),Tryz.underlying27,rfl⟩
 .exact .inr ⟨Tryz.t28,_,_,by kernel_rfl,rfl,rfl,rfl,(λcs h=>by cases h;rfl),Tryz.underlying28,rfl⟩
 .exact .inr ⟨Tryz.t31,_,_,by kernel_rfl,rfl,rfl,rfl,(λcs h=>by cases h;rfl),Tryz.underlying31,rfl⟩
 .exact .inr ⟨Tryz.t34,_,_,by kernel_rfl,rfl,rfl,rfl,(λcs h=>by cases h;rfl),Tryz.underlying34,rfl⟩
 .exact .inr ⟨Tryz.t35,_,_,by kernel_rfl,rfl,rfl,rfl,(λcs h=>by cases h;rfl),Tryz.underlying35,rfl⟩
 .exact .inr ⟨Tryz.t36,_,_,by kernel_rfl,rfl,rfl,rfl,(λcs h=>by cases h;rfl),Tryz.underlying36,rfl⟩
 .exact .inr ⟨Tryz.t38,_,_,by kernel_rfl,rfl,rfl,rfl,(λcs h=>by cases h;rfl),Tryz.underlying38,rfl⟩
 .exact .inr ⟨Tryz.t40,_,_,by kernel_rfl,rfl,rfl,rfl,(λcs h=>by cases h;rfl),Tryz.underlying40,rfl⟩
 .exact .inr ⟨Tryz.t54,_,_,by kernel_rfl,rfl,rfl,rfl,(λcs h=>by cases h;rfl),Tryz.underlying54,rfl⟩
 .exact .inr ⟨Tryz.t56,_,_,by kernel_rfl,rfl,rfl,rfl,(λcs h=>by cases h;rfl),Tryz.underlying56,rfl⟩
 .exact .inr ⟨Tryz.t58,_,_,by kernel_rfl,rfl,rfl,rfl,(λcs h=>by cases h;rfl),Tryz.underlying58,rfl⟩
 .exact .inr ⟨Tryz.t63,_,_,by kernel_rfl,rfl,rfl,rfl,(λcs h=>by cases h),Tryz.underlying63,trivial⟩
 .exact .inr ⟨Tryz.t65,_,_,by kernel_rfl,rfl,rfl,rfl,(λcs h=>by cases h;rfl),Tryz.underlying65,rfl⟩
 .exact .inr ⟨Tryz.t71,_,_,by kernel_rfl,rfl,rfl,rfl,(λcs h=>by cases h;rfl),Tryz.underlying71,rfl⟩
 .exact .inr ⟨Tryz.t83,_,_,by kernel_rfl,rfl,rfl,rfl,(λcs h=>by cases h;rfl),Tryz.underlying83,rfl⟩
 .exact .inr ⟨Tryz.t85,_,_,by kernel_rfl,rfl,rfl,rfl,(λcs h=>by cases h;rfl),Tryz.underlying85,rfl⟩
 .exact .inr ⟨Tryz.t88,_,_,by kernel_rfl,rfl,rfl,rfl,(λcs h=>by cases h;rfl),Tryz.underlying88,rfl⟩
 .exact .inr ⟨Tryz.t91,_,_,by kernel_rfl,rfl,rfl,rfl,(λcs h=>by cases h;rfl),Tryz.underlying91,rfl⟩
 .exact .inr ⟨Tryz.t94,_,_,by kernel_rfl,rfl,rfl,rfl,(λcs h=>by cases h;rfl),Tryz.underlying94,rfl⟩
 .exact .inr ⟨Tryz.t95,_,_,by kernel_rfl,rfl,rfl,rfl,(λcs h=>by cases h;rfl),Tryz.underlying95,rfl⟩
 .exact .inr ⟨Tryz.t98,_,_,by kernel_rfl,rfl,rfl,rfl,(λcs h=>by cases h;rfl),Tryz.underlying98,rfl⟩
 .exact .inr ⟨Tryz.t100,_,_,by kernel_rfl,rfl,rfl,rfl,(λcs h=>by cases h;rfl),Tryz.underlying100,rfl⟩
 .exact .inr ⟨Tryz.t107,_,_,by kernel_rfl,rfl,rfl,rfl,(λcs h=>by cases h;rfl),Tryz.underlying107,rfl⟩
 .exact .inr ⟨Tryz.t109,_,_,by kernel_rfl,rfl,rfl,rfl,(λcs h=>by cases h;rfl),Tryz.underlying109,rfl⟩
 .exact .inr ⟨Tryz.t111,_,_,by kernel_rfl,rfl,rfl,rfl,(λcs h=>by cases h;rfl),Tryz.underlying111,rfl⟩
 .exact .inr ⟨Tryz.t113,_,_,by kernel_rfl,rfl,rfl,rfl,(λcs h=>by cases h;rfl),Tryz.underlying113,rfl⟩
 .exact .inr ⟨Tryz.t119,_,_,by kernel_rfl,rfl,rfl,rfl,(λcs h=>by cases h),Tryz.underlying119,trivial⟩
 .exact .inr ⟨Tryz.t120,_,_,by kernel_rfl,rfl,rfl,rfl,(λcs h=>by cases h;rfl),Tryz.underlying120,rfl⟩
 .exact .inr ⟨Tryz.t121,_,_,by kernel_rfl,rfl,rfl,rfl,(λcs h=>by cases h;rfl),Tryz.underlying121,⟨rfl,rfl⟩⟩
 .exact .inr ⟨Tryz.t123,_,_,by kernel_rfl,rfl,rfl,rfl,(λcs h=>by cases h;rfl),Tryz.underlying123,rfl⟩
 .exact .inr ⟨Tryz.t129,_,_,by kernel_rfl,rfl,rfl,rfl,(λcs h=>by cases h),Tryz.underlying129,trivial⟩
 .exact .inr ⟨Tryz.t133,_,_,by kernel_rfl,rfl,rfl,rfl,(λcs h=>by cases h),Tryz.underlying133,trivial⟩
 .exact .inr ⟨Tryz.t134,_,_,by kernel_rfl,rfl,rfl,rfl,(λcs h=>by cases h;rfl),Tryz.underlying134,rfl⟩
 .exact .inr ⟨Tryz.t148,_,_,by kernel_rfl,rfl,rfl,rfl,(λcs h=>by cases h;rfl),Tryz.underlying148,rfl⟩
 .exact .inr ⟨Tryz.t150,_,_,by kernel_rfl,rfl,rfl,rfl,(λcs h=>by cases h;rfl),Tryz.underlying150,rfl⟩
 .exact .inr ⟨Tryz.t152,_,_,by kernel_rfl,rfl,rfl,rfl,(λcs h=>by cases h;rfl),Tryz.underlying152,rfl⟩
 .exact .inr ⟨Tryz.t153,_,_,by kernel_rfl,rfl,rfl,rfl,(λcs h=>by cases h;rfl),Tryz.underlying153,rfl⟩
 .exact .inr ⟨Tryz.t154,_,_,by kernel_rfl,rfl,rfl,rfl,(λcs h=>by cases h),Tryz.underlying154,trivial⟩
 .exact .inr ⟨Tryz.t156,_,_,by kernel_rfl,rfl,rfl,rfl,(λcs h=>by cases h;rfl),Tryz.underlying156,rfl⟩
 .exact .inr ⟨Tryz.t158,_,_,by kernel_rfl,rfl,rfl,rfl,(λcs h=>by cases h;rfl),Tryz.underlying158,rfl⟩
 .exact .inr ⟨Tryz.t173,_,_,by kernel_rfl,rfl,rfl,rfl,(λcs h=>by cases h),Tryz.underlying173,trivial⟩
 .exact .inr ⟨Tryz.t175,_,_,by kernel_rfl,rfl,rfl,rfl,(λcs h=>by cases h;rfl),Tryz.underlying175,rfl⟩
 .exact .inr ⟨Tryz.t177,_,_,by kernel_rfl,rfl,rfl,rfl,(λcs h=>by cases h;rfl),Tryz.underlying177,rfl⟩
 .exact .inr ⟨Tryz.t183,_,_,by kernel_rfl,rfl,rfl,rfl,(λcs h=>by cases h;rfl),Tryz.underlying183,rfl⟩
 .exact .inr ⟨Tryz.t188,_,_,by kernel_rfl,rfl,rfl,rfl,(λcs h=>by cases h;rfl),Tryz.underlying188,rfl⟩
 .exact .inr ⟨Tryz.t198,_,_,by kernel_rfl,rfl,rfl,rfl,(λcs h=>by cases h),Tryz.underlying198,trivial⟩
 .exact .inr ⟨Tryz.t199,_,_,by kernel_rfl,rfl,rfl,rfl,(λcs h=>by cases h),Tryz.underlying199,trivial⟩
 .exact .inr ⟨Tryz.t201,_,_,by kernel_rfl,rfl,rfl,rfl,(λcs h=>by cases h),Tryz.underlying201,trivial⟩
 .exact .inr ⟨Tryz.t202,_,_,by kernel_rfl,rfl,rfl,rfl,(λcs h=>by cases h),Tryz.underlying202,trivial⟩
 .exact .inr ⟨Tryz.t212,_,_,by kernel_rfl,rfl,rfl,rfl,(λcs h=>by cases h),Tryz.underlying212,trivial⟩
 .exact .inr ⟨Tryz.t219,_,_,by kernel_rfl,rfl,rfl,rfl,(λcs h=>by cases h;rfl),Tryz.underlying219,rfl⟩
 .exact .inr ⟨Tryz.t229,_,_,by kernel_rfl,rfl,rfl,rfl,(λcs h=>by cases h;rfl),Tryz.underlying229,rfl⟩
 .exact .inr ⟨Tryz.t232,_,_,by kernel_rfl,rfl,rfl,rfl,(λcs h=>by cases h),Tryz.underlying232,trivial⟩
 .exact .inr ⟨Tryz.t248,_,_,by kernel_rfl,rfl,rfl,rfl,(λcs h=>by cases h;rfl),Tryz.underlying248,rfl⟩
 .exact .inr ⟨Tryz.t250,_,_,by kernel_rfl,rfl,rfl,rfl,(λcs h=>by cases h;rfl),Tryz.underlying250,rfl⟩
 .exact .inr ⟨Tryz.t258,_,_,by kernel_rfl,rfl,rfl,rfl,(λcs h=>by cases h),Tryz.underlying258,trivial⟩
 .exact .inr ⟨Tryz.t264,_,_,by kernel_rfl,rfl,rfl,rfl,(λcs h=>by cases h;rfl),Tryz.underlying264,rfl⟩
 .exact .inr ⟨Tryz.t266,_,_,by kernel_rfl,rfl,rfl,rfl,(λcs h=>by cases h;rfl),Tryz.underlying266,rfl⟩
 .exact .inr ⟨Tryz.t283,_,_,by kernel_rfl,rfl,rfl,rfl,(λcs h=>by cases h;rfl),Tryz.underlying283,rfl⟩
 .exact .inr ⟨Tryz.t285,_,_,by kernel_rfl,rfl,rfl,rfl,(λcs h=>by cases h;rfl),Tryz.underlying285,rfl⟩
 .exact .inr ⟨Tryz.t288,_,_,by kernel_rfl,rfl,rfl,rfl,(λcs h=>by cases h),Tryz.underlying288,trivial⟩
 .exact .inl ⟨_,_,_,_,rfl,rfl⟩
noncomputable def ah:cm:=⟨Tryz.prog,T,λ_=>[]⟩
theorem Oj:ah.fH:=⟨ahC,by kernel_rfl⟩
theorem awF:ah.T 1=⟨.fn,1,8,.hole⟩:=rfl
theorem ahD:ah.T 2=⟨.int .i64,1,8,(.int .i64 0)⟩:=rfl
theorem awG:ah.T 3=⟨.int .i64,1,8,(.int .i64 0)⟩:=rfl
theorem ahE:ah.T 4=⟨.bool,1,1,(.bool false)⟩:=rfl
theorem ahF:ah.T 5=⟨.int .u8,1,1,(.int .u8 0)⟩:=rfl
theorem ahG:ah.T 9=⟨.str,1,16,(.str [])⟩:=rfl
theorem ahH:ah.T 22=⟨.slice 85,1,24,.bg⟩:=rfl
theorem ahI:ah.T 23=⟨.slice 88,1,24,.bg⟩:=rfl
theorem ahJ:ah.T 24=⟨.slice 91,1,24,.bg⟩:=rfl
theorem ahK:ah.T 25=⟨.slice 9,1,24,.bg⟩:=rfl
theorem ahL:ah.T 27=⟨.struct [(22,0),(23,1),(24,2),(25,3),(25,4)],5,120,(.agg [.bg,.bg,.bg,.bg,.bg])⟩:=rfl
theorem ahM:ah.T 28=⟨.slice 56,1,24,.bg⟩:=rfl
theorem ahN:ah.T 31=⟨.slice 71,1,24,.bg⟩:=rfl
theorem ahO:ah.T 34=⟨.slice 109,1,24,.bg⟩:=rfl
theorem ahP:ah.T 35=⟨.slice 111,1,24,.bg⟩:=rfl
theorem ahQ:ah.T 36=⟨.slice 113,1,24,.bg⟩:=rfl
theorem ahR:ah.T 38=⟨.struct [(34,0),(35,1),(36,2),(25,3),(25,4)],5,120,(.agg [.bg,.bg,.bg,.bg,.bg])⟩:=rfl
theorem ahS:ah.T 40=⟨.slice 65,1,24,.bg⟩:=rfl
theorem ahT:ah.T 54=⟨.slice 2,1,24,.bg⟩:=rfl
theorem ahU:ah.T 56=⟨.struct [(2,0),(2,1),(54,2)],3,40,(.agg [(.int .i64 0),(.int .i64 0),.bg])⟩:=rfl
theorem awH:ah.T 58=⟨.ptr 38,1,8,.er⟩:=rfl
theorem awI:ah.T 63=⟨.fn,1,8,.hole⟩:=rfl
theorem ahV:ah.T 65=⟨.struct [(2,0),(2,1),(54,2)],3,40,(.agg [(.int .i64 0),(.int .i64 0),.bg])⟩:=rfl
theorem ahW:ah.T 71=⟨.struct [(9,0),(2,1),(2,2),(40,3)],4,56,(.agg [(.str []),(.int .i64 0),(.int .i64 0),.bg])⟩:=rfl
theorem ahX:ah.T 83=⟨.slice 177,1,24,.bg⟩:=rfl
theorem ahY:ah.T 85=⟨.struct [(9,0),(2,1),(83,2)],3,48,(.agg [(.str []),(.int .i64 0),.bg])⟩:=rfl
theorem ahZ:ah.T 88=⟨.struct [(2,0),(54,1)],2,32,(.agg [(.int .i64 0),.bg])⟩:=rfl
theorem ah0:ah.T 91=⟨.struct [(9,0),(9,1),(9,2)],3,48,(.agg [(.str []),(.str []),(.str [])])⟩:=rfl
theorem ah1:ah.T 94=⟨.slice 95,1,24,.bg⟩:=rfl
theorem ah2:ah.T 95=⟨.slice 100,1,24,.bg⟩:=rfl
theorem awJ:ah.T 98=⟨.ptr 65,1,8,.er⟩:=rfl
theorem ah3:ah.T 100=⟨.struct [(9,0),(65,1)],4,56,(.agg [(.str []),(.agg [(.int .i64 0),(.int .i64 0),.bg])])⟩:=rfl
theorem ah4:ah.T 107=⟨.slice 150,1,24,.bg⟩:=rfl
theorem ah5:ah.T 109=⟨.struct [(9,0),(2,1),(107,2)],3,48,(.agg [(.str []),(.int .i64 0),.bg])⟩:=rfl
theorem ah6:ah.T 111=⟨.struct [(2,0),(54,1)],2,32,(.agg [(.int .i64 0),.bg])⟩:=rfl
theorem ah7:ah.T 113=⟨.struct [(9,0),(9,1),(9,2)],3,48,(.agg [(.str []),(.str []),(.str [])])⟩:=rfl
theorem awK:ah.T 119=⟨.fn,1,8,.hole⟩:=rfl
theorem awL:ah.T 120=⟨.ptr 123,1,8,.er⟩:=rfl
theorem ah8:ah.T 121=⟨.map 9 4,1,8,(.cc .ki)⟩:=rfl
theorem ah9:ah.T 123=⟨.struct [(38,0),(40,5),(31,6),(121,7)],8,176,(.agg [(.agg [.bg,.bg,.bg,.bg,.bg]),.bg,.bg,(.cc .ki)])⟩:=rfl
theorem awM:ah.T 129=⟨.fn,1,8,.hole⟩:=rfl
theorem awN:ah.T 133=⟨.fn,1,8,.hole⟩:=rfl
theorem ah_:ah.T 134=⟨.slice 5,1,24,.bg⟩:=rfl
theorem aia:ah.T 148=⟨.slice 188,1,24,.bg⟩:=rfl
theorem aib:ah.T 150=⟨.struct [(2,0),(2,1),(9,2),(148,3)],4,56,(.agg [(.int .i64 0),(.int .i64 0),(.str []),.bg])⟩:=rfl
theorem aic:ah.T 152=⟨.struct [(2,0),(4,1)],2,16,(.agg [(.int .i64 0),(.bool false)])⟩:=rfl
theorem aid:ah.T 153=⟨.slice 152,1,24,.bg⟩:=rfl
theorem awO:ah.T 154=⟨.fn,1,8,.hole⟩:=rfl
theorem awP:ah.T 156=⟨.ptr 158,1,8,.er⟩:=rfl
theorem aie:ah.T 158=⟨.struct [(34,0),(95,1),(121,2)],3,56,(.agg [.bg,.bg,(.cc .ki)])⟩:=rfl
theorem awQ:ah.T 173=⟨.fn,1,8,.hole⟩:=rfl
theorem aif:ah.T 175=⟨.slice 250,1,24,.bg⟩:=rfl
theorem aih:ah.T 177=⟨.struct [(2,0),(2,1),(9,2),(175,3)],4,56,(.agg [(.int .i64 0),(.int .i64 0),(.str []),.bg])⟩:=rfl
theorem awR:ah.T 183=⟨.ptr 109,1,8,.er⟩:=rfl
theorem aii:ah.T 188=⟨.slice 248,1,24,.bg⟩:=rfl
theorem awS:ah.T 198=⟨.fn,1,8,.hole⟩:=rfl
theorem aij:ah.T 199=⟨.fn,1,8,.hole⟩:=rfl
theorem awT:ah.T 201=⟨.fn,1,8,.hole⟩:=rfl
theorem awU:ah.T 202=⟨.fn,1,8,.hole⟩:=rfl
theorem awV:ah.T 212=⟨.fn,1,8,.hole⟩:=rfl
theorem awW:ah.T 219=⟨.ptr 150,1,8,.er⟩:=rfl
theorem aik:ah.T 229=⟨.ptr 266,1,8,.er⟩:=rfl
theorem awX:ah.T 232=⟨.fn,1,8,.hole⟩:=rfl
theorem ail:ah.T 248=⟨.struct [(2,0),(2,1)],2,16,(.agg [(.int .i64 0),(.int .i64 0)])⟩:=rfl
theorem aim:ah.T 250=⟨.slice 285,1,24,.bg⟩:=rfl
theorem awY:ah.T 258=⟨.fn,1,8,.hole⟩:=rfl
theorem ain:ah.T 264=⟨.slice 229,1,24,.bg⟩:=rfl
theorem aio:ah.T 266=⟨.struct [(248,0),(264,2)],3,40,(.agg [(.agg [(.int .i64 0),(.int .i64 0)]),.bg])⟩:=rfl
theorem awZ:ah.T 283=⟨.ptr 248,1,8,.er⟩:=rfl
theorem aip:ah.T 285=⟨.struct [(2,0),(2,1)],2,16,(.agg [(.int .i64 0),(.int .i64 0)])⟩:=rfl
theorem aw0:ah.T 288=⟨.fn,1,8,.hole⟩:=rfl
end Go.Proofs.YtmaepbgkcmjcjafGreatDoor
