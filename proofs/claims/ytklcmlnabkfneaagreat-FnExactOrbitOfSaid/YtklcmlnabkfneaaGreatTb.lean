/- Part of a proof that a law returns true for every input. No condition. -/
import Derived.Test.YtklcmlnabkfneaaGreatProg
import Derived.KernelRfl
import Derived.Test.YtklcmlnabkfneaaGreatFwF
namespace Go.Proofs.YtklcmlnabkfneaaGreat
open Go.de
def T:TypeId->gp
 |2=>⟨.int .i64,1,8,(.int .i64 0)⟩
 |3=>⟨.int .i64,1,8,(.int .i64 0)⟩
 |4=>⟨.bool,1,1,(.bool false)⟩
 |5=>⟨.int .u8,1,1,(.int .u8 0)⟩
 |9=>⟨.str,1,16,(.str [])⟩
 |22=>⟨.slice 2,1,24,.bd⟩
 |38=>⟨.slice 97,1,24,.bd⟩
 |42=>⟨.slice 101,1,24,.bd⟩
 |47=>⟨.slice 182,1,24,.bd⟩
 |48=>⟨.slice 185,1,24,.bd⟩
 |49=>⟨.slice 9,1,24,.bd⟩
 |51=>⟨.struct [(47,0),(48,1),(38,2),(49,3),(49,4)],5,120,(.agg [.bd,.bd,.bd,.bd,.bd])⟩
 |52=>⟨.slice 111,1,24,.bd⟩
 |57=>⟨.slice 192,1,24,.bd⟩
 |58=>⟨.slice 194,1,24,.bd⟩
 |60=>⟨.struct [(57,0),(58,1),(42,2),(49,3),(49,4)],5,120,(.agg [.bd,.bd,.bd,.bd,.bd])⟩
 |62=>⟨.slice 119,1,24,.bd⟩
 |65=>⟨.fn,1,8,.hole⟩
 |67=>⟨.slice 62,1,24,.bd⟩
 |86=>⟨.slice 151,1,24,.bd⟩
 |87=>⟨.slice 86,1,24,.bd⟩
 |97=>⟨.struct [(9,0),(9,1),(9,2)],3,48,(.agg [(.str []),(.str []),(.str [])])⟩
 |101=>⟨.struct [(9,0),(9,1),(9,2)],3,48,(.agg [(.str []),(.str []),(.str [])])⟩
 |111=>⟨.struct [(2,0),(2,1),(22,2)],3,40,(.agg [(.int .i64 0),(.int .i64 0),.bd])⟩
 |113=>⟨.ptr 60,1,8,.dC⟩
 |119=>⟨.struct [(2,0),(2,1),(22,2)],3,40,(.agg [(.int .i64 0),(.int .i64 0),.bd])⟩
 |129=>⟨.slice 268,1,24,.bd⟩
 |130=>⟨.slice 129,1,24,.bd⟩
 |133=>⟨.fn,1,8,.hole⟩
 |143=>⟨.fn,1,8,.hole⟩
 |151=>⟨.struct [(2,0),(2,1)],2,16,(.agg [(.int .i64 0),(.int .i64 0)])⟩
 |155=>⟨.fn,1,8,.hole⟩
 |168=>⟨.fn,1,8,.hole⟩
 |173=>⟨.slice 5,1,24,.bd⟩
 |176=>⟨.fn,1,8,.hole⟩
 |180=>⟨.slice 293,1,24,.bd⟩
 |182=>⟨.struct [(9,0),(2,1),(180,2)],3,48,(.agg [(.str []),(.int .i64 0),.bd])⟩
 |185=>⟨.struct [(2,0),(22,1)],2,32,(.agg [(.int .i64 0),.bd])⟩
 |188=>⟨.ptr 119,1,8,.dC⟩
 |190=>⟨.slice 243,1,24,.bd⟩
 |192=>⟨.struct [(9,0),(2,1),(190,2)],3,48,(.agg [(.str []),(.int .i64 0),.bd])⟩
 |194=>⟨.struct [(2,0),(22,1)],2,32,(.agg [(.int .i64 0),.bd])⟩
 |199=>⟨.fn,1,8,.hole⟩
 |200=>⟨.slice 22,1,24,.bd⟩
 |203=>⟨.fn,1,8,.hole⟩
 |238=>⟨.int .u64,1,8,(.int .u64 0)⟩
 |243=>⟨.struct [(2,0),(2,1),(9,2),(87,3)],4,56,(.agg [(.int .i64 0),(.int .i64 0),(.str []),.bd])⟩
 |245=>⟨.ptr 192,1,8,.dC⟩
 |253=>⟨.struct [(2,0),(4,1)],2,16,(.agg [(.int .i64 0),(.bool false)])⟩
 |254=>⟨.slice 253,1,24,.bd⟩
 |259=>⟨.fn,1,8,.hole⟩
 |262=>⟨.ptr 151,1,8,.dC⟩
 |268=>⟨.struct [(2,0),(2,1)],2,16,(.agg [(.int .i64 0),(.int .i64 0)])⟩
 |273=>⟨.fn,1,8,.hole⟩
 |276=>⟨.fn,1,8,.hole⟩
 |279=>⟨.int .i64,1,8,(.int .i64 0)⟩
 |288=>⟨.int .u32,1,4,(.int .u32 0)⟩
 |290=>⟨.int .u64,1,8,(.int .u64 0)⟩
 |293=>⟨.struct [(2,0),(2,1),(9,2),(130,3)],4,56,(.agg [(.int .i64 0),(.int .i64 0),(.str []),.bd])⟩
 |300=>⟨.fn,1,8,.hole⟩
 |301=>⟨.fn,1,8,.hole⟩
 |314=>⟨.fn,1,8,.hole⟩
 |316=>⟨.ptr 3,1,8,.dC⟩
 |320=>⟨.fn,1,8,.hole⟩
 |321=>⟨.ptr 243,1,8,.dC⟩
 |327=>⟨.slice 3,1,24,.bd⟩
 |333=>⟨.fn,1,8,.hole⟩
 |_=>⟨.other,0,0,.hole⟩
theorem Xx:∀t,Kw Tryz.prog t (T t):=by
 intro t;unfold T;split
 .exact .inr ⟨Tryz.t2,_,_,by kernel_rfl,rfl,rfl,rfl,(λcs h=>by cases h;rfl),Tryz.underlying2,rfl⟩
 .exact .inr ⟨Tryz.t3,_,_,by kernel_rfl,rfl,rfl,rfl,(λcs h=>by cases h;rfl),Tryz.underlying3,rfl⟩
 .exact .inr ⟨Tryz.t4,_,_,by kernel_rfl,rfl,rfl,rfl,(λcs h=>by cases h;rfl),Tryz.underlying4,trivial⟩
 .exact .inr ⟨Tryz.t5,_,_,by kernel_rfl,rfl,rfl,rfl,(λcs h=>by cases h;rfl),Tryz.underlying5,rfl⟩
 .exact .inr ⟨Tryz.t9,_,_,by kernel_rfl,rfl,rfl,rfl,(λcs h=>by cases h;rfl),Tryz.underlying9,trivial⟩
 .exact .inr ⟨Tryz.t22,_,_,by kernel_rfl,rfl,rfl,rfl,(λcs h=>by cases h;rfl),Tryz.underlying22,rfl⟩
 .exact .inr ⟨Tryz.t38,_,_,by kernel_rfl,rfl,rfl,rfl,(λcs h=>by cases h;rfl),Tryz.underlying38,rfl⟩
 .exact .inr ⟨Tryz.t42,_,_,by kernel_rfl,rfl,rfl,rfl,(λcs h=>by cases h;rfl),Tryz.underlying42,rfl⟩
 .exact .inr ⟨Tryz.t47,_,_,by kernel_rfl,rfl,rfl,rfl,(λcs h=>by cases h;rfl),Tryz.underlying47,rfl⟩
 .exact .inr ⟨Tryz.t48,_,_,by kernel_rfl,rfl,rfl,rfl,(λcs h=>by cases h;rfl),Tryz.underlying48,rfl⟩
 .exact .inr ⟨Tryz.t49,_,_,by kernel_rfl,rfl,rfl,rfl,(λcs h=>by cases h;rfl),Tryz.underlying49,rfl⟩
 .exact .inr ⟨Tryz.t51,_,_,by kernel_rfl,rfl,rfl,rfl,(λcs h=>by cases h;rfl),Tryz.underlying51,rfl⟩
 .exact .inr ⟨Tryz.t52,_,_,by kernel_rfl,rfl,rfl,rfl,(λcs h=>by cases h;rfl),Tryz.underlying52,rfl⟩
 .exact .inr ⟨Tryz.t57,_,_,by kernel_rfl,rfl,rfl,rfl,(λcs h=>by cases h;rfl),Tryz.underlying57,rfl⟩
 .exact .inr ⟨Tryz.t58,_,_,by kernel_rfl,rfl,rfl,rfl,(λcs h=>by cases h;rfl),Tryz.underlying58,rfl⟩
 .exact .inr ⟨Tryz.t60,_,_,by kernel_rfl,rfl,rfl,rfl,(λcs h=>by cases h;rfl),Tryz.underlying60,rfl⟩
 .exact .inr ⟨Tryz.t62,_,_,by kernel_rfl,rfl,rfl,rfl,(λcs h=>by cases h;rfl),Tryz.underlying62,rfl⟩
 .exact .inr ⟨Tryz.t65,_,_,by kernel_rfl,rfl,rfl,rfl,(λcs h=>by cases h),Tryz.underlying65,trivial⟩
 .exact .inr ⟨Tryz.t67,_,_,by kernel_rfl,rfl,rfl,rfl,(λcs h=>by cases h;rfl),Tryz.underlying67,rfl⟩
 .exact .inr ⟨Tryz.t86,_,_,by kernel_rfl,rfl,rfl,rfl,(λcs h=>by cases h;rfl),Tryz.underlying86,rfl⟩
 .exact .inr ⟨Tryz.t87,_,_,by kernel_rfl,rfl,rfl,rfl,(λcs h=>by cases h;rfl),Tryz.underlying87,rfl⟩
 .exact .inr ⟨Tryz.t97,_,_,by kernel_rfl,rfl,rfl,rfl,(λcs h=>by cases h;rfl),Tryz.underlying97,rfl⟩
 .exact .inr ⟨Tryz.t101,_,_,by kernel_rfl,rfl,rfl,rfl,(λcs h=>by cases h;rfl),Tryz.underlying101,rfl⟩
 .exact .inr ⟨Tryz.t111,_,_,by kernel_rfl,rfl,rfl,rfl,(λcs h=>by cases h;rfl),Tryz.underlying111,rfl⟩
 .exact .inr ⟨Tryz.t113,_,_,by kernel_rfl,rfl,rfl,rfl,(λcs h=>by cases h;rfl),Tryz.underlying113,rfl⟩
 .exact .inr ⟨Tryz.t119,_,_,by kernel_rfl,rfl,rfl,rfl,(λcs h=>by cases h;rfl),Tryz.underlying119,rfl⟩
 .exact .inr ⟨Tryz.t129,_,_,by kernel_rfl,rfl,rfl,rfl,(λcs h=>by cases h;rfl),Tryz.underlying129,rfl⟩
 .exact .inr ⟨Tryz.t130,_,_,by kernel_rfl,rfl,rfl,rfl,(λcs h=>by cases h;rfl),Tryz.underlying130,rfl⟩
 .exact .inr ⟨Tryz.t133,_,_,by kernel_rfl,rfl,rfl,rfl,(λcs h=>by cases h),Tryz.underlying133,trivial⟩
 .exact .inr ⟨Tryz.t143,_,_,by kernel_rfl,rfl,rfl,rfl,(λcs h=>by cases h),Tryz.underlying143,trivial⟩
 .exact .inr ⟨Tryz.t151,_,_,by kernel_rfl,rfl,rfl,rfl,(λcs h=>by cases h;rfl),Tryz.underlying151,rfl⟩
 .exact .inr ⟨Tryz.t155,_,_,by kernel_rfl,rfl,rfl,rfl,(λcs h=>by cases h),Tryz.underlying155,trivial⟩
 .exact .inr ⟨Tryz.t168,_,_,by kernel_rfl,rfl,rfl,rfl,(λcs h=>by cases h),Tryz.underlying168,trivial⟩
 .exact .inr ⟨Tryz.t173,_,_,by kernel_rfl,rfl,rfl,rfl,(λcs h=>by cases h;rfl),Tryz.underlying173,rfl⟩
 .exact .inr ⟨Tryz.t176,_,_,by kernel_rfl,rfl,rfl,rfl,(λcs h=>by cases h),Tryz.underlying176,trivial⟩
 .exact .inr ⟨Tryz.t180,_,_,by kernel_rfl,rfl,rfl,rfl,(λcs h=>by cases h;rfl),Tryz.underlying180,rfl⟩
 .exact .inr ⟨Tryz.t182,_,_,by kernel_rfl,rfl,rfl,rfl,(λcs h=>by cases h;rfl),Tryz.underlying182,rfl⟩
 .exact .inr ⟨Tryz.t185,_,_,by kernel_rfl,rfl,rfl,rfl,(λcs h=>by cases h;rfl),Tryz.underlying185,rfl⟩
 .exact .inr ⟨Tryz.t188,_,_,by kernel_rfl,rfl,rfl,rfl,(λcs h=>by cases h;rfl),Tryz.underlying188,rfl⟩
 .exact .inr ⟨Tryz.t190,_,_,by kernel_rfl,rfl,rfl,rfl,(λcs h=>by cases h;rfl),Tryz.underlying190,rfl⟩
 .exact .inr ⟨Tryz.t192,_,_,by kernel_rfl,rfl,rfl,rfl,(λcs h=>by cases h;rfl),Tryz.underlying192,rfl⟩
 .exact .inr ⟨Tryz.t194,_,_,by kernel_rfl,rfl,rfl,rfl,(λcs h=>by cases h;rfl),Tryz.underlying194,rfl⟩
 .exact .inr ⟨Tryz.t199,_,_,by kernel_rfl,rfl,rfl,rfl,(λcs h=>by cases h),Tryz.underlying199,trivial⟩
 .exact .inr ⟨Tryz.t200,_,_,by kernel_rfl,rfl,rfl,rfl,(λcs h=>by cases h;rfl),Tryz.underlying200,rfl⟩
 .exact .inr ⟨Tryz.t203,_,_,by kernel_rfl,rfl,rfl,rfl,(λcs h=>by cases h),Tryz.underlying203,trivial⟩
 .exact .inr ⟨Tryz.t238,_,_,by kernel_rfl,rfl,rfl,rfl,(λcs h=>by cases h;rfl),Tryz.underlying238,rfl⟩
 .exact .inr ⟨Tryz.t243,_,_,by kernel_rfl,rfl,rfl,rfl,(λcs h=>by cases h;rfl),Tryz.underlying243,rfl⟩
 .exact .inr ⟨Tryz.t245,_,_,by kernel_rfl,rfl,rfl,rfl,(λcs h=>by cases h;rfl),Tryz.underlying245,rfl⟩
 .exact .inr ⟨Tryz.t253,_,_,by kernel_rfl,rfl,rfl,rfl,(λcs h=>by cases h;rfl),Tryz.underlying253,rfl⟩
 .exact .inr ⟨Tryz.t254,_,_,by kernel_rfl,rfl,rfl,rfl,(λcs h=>by cases h;rfl),Tryz.underlying254,rfl⟩
 .exact .inr ⟨Tryz.t259,_,_,by kernel_rfl,rfl,rfl,rfl,(λcs h=>by cases h),Tryz.underlying259,trivial⟩
 .exact .inr ⟨Tryz.t262,_,_,by kernel_rfl,rfl,rfl,rfl,(λcs h=>by cases h;rfl),Tryz.underlying262,rfl⟩
 .exact .inr ⟨Tryz.t268,_,_,by kernel_rfl,rfl,rfl,rfl,(λcs h=>by cases h;rfl),Tryz.underlying268,rfl⟩
 .exact .inr ⟨Tryz.t273,_,_,by kernel_rfl,rfl,rfl,rfl,(λcs h=>by cases h),Tryz.underlying273,trivial⟩
 .exact .inr ⟨Tryz.t276,_,_,by kernel_rfl,rfl,rfl,rfl,(λcs h=>by cases h),Tryz.underlying276,trivial⟩
 .exact .inr ⟨Tryz.t279,_,_,by kernel_rfl,rfl,rfl,rfl,(λcs h=>by cases h;rfl),Tryz.underlying279,rfl⟩
 .exact .inr ⟨Tryz.t288,_,_,by kernel_rfl,rfl,rfl,rfl,(λcs h=>by cases h;rfl),Tryz.underlying288,rfl⟩
 .exact .inr ⟨Tryz.t290,_,_,by kernel_rfl,rfl,rfl,rfl,(λcs h=>by cases h;rfl),Tryz.underlying290,rfl⟩
 .exact .inr ⟨Tryz.t293,_,_,by kernel_rfl,rfl,rfl,rfl,(λcs h=>by cases h;rfl),Tryz.underlying293,rfl⟩
 .exact .inr ⟨Tryz.t300,_,_,by kernel_rfl,rfl,rfl,rfl,(λcs h=>by cases h),Tryz.underlying300,trivial⟩
 .exact .inr ⟨Tryz.t301,_,_,by kernel_rfl,rfl,rfl,rfl,(λcs h=>by cases h),Tryz.underlying301,trivial⟩
 .exact .inr ⟨Tryz.t314,_,_,by kernel_rfl,rfl,rfl,rfl,(λcs h=>by cases h),Tryz.underlying314,trivial⟩
 .exact .inr ⟨Tryz.t316,_,_,by kernel_rfl,rfl,rfl,rfl,(λcs h=>by cases h;rfl),Tryz.underlying316,rfl⟩
 .exact .inr ⟨Tryz.t320,_,_,by kernel_rfl,rfl,rfl,rfl,(λcs h=>by cases h),Tryz.underlying320,trivial⟩
 .exact .inr ⟨Tryz.t321,_,_,by kernel_rfl,rfl,rfl,rfl,(λcs h=>by cases h;rfl),Tryz.underlying321,rfl⟩
 .exact .inr ⟨Tryz.t327,_,_,by kernel_rfl,rfl,rfl,rfl,(λcs h=>by cases h;rfl),Tryz.underlying327,rfl⟩
 .exact .inr ⟨Tryz.t333,_,_,by kernel_rfl,rfl,rfl,rfl,(λcs h=>by cases h),Tryz.underlying333,trivial⟩
 .exact .inl ⟨_,_,_,_,rfl,rfl⟩
noncomputable def ak:ca:=⟨Tryz.prog,T,λ_=>[]⟩
theorem GC:ak.Ok:=⟨Xx,by kernel_rfl⟩
theorem Xy:ak.T 2=⟨.int .i64,1,8,(.int .i64 0)⟩:=rfl
theorem Xz:ak.T 3=⟨.int .i64,1,8,(.int .i64 0)⟩:=rfl
theorem XA:ak.T 4=⟨.bool,1,1,(.bool false)⟩:=rfl
theorem XB:ak.T 5=⟨.int .u8,1,1,(.int .u8 0)⟩:=rfl
theorem XC:ak.T 9=⟨.str,1,16,(.str [])⟩:=rfl
theorem XD:ak.T 22=⟨.slice 2,1,24,.bd⟩:=rfl
theorem XE:ak.T 38=⟨.slice 97,1,24,.bd⟩:=rfl
theorem XF:ak.T 42=⟨.slice 101,1,24,.bd⟩:=rfl
theorem XG:ak.T 47=⟨.slice 182,1,24,.bd⟩:=rfl
theorem XH:ak.T 48=⟨.slice 185,1,24,.bd⟩:=rfl
theorem XI:ak.T 49=⟨.slice 9,1,24,.bd⟩:=rfl
theorem XJ:ak.T 51=⟨.struct [(47,0),(48,1),(38,2),(49,3),(49,4)],5,120,(.agg [.bd,.bd,.bd,.bd,.bd])⟩:=rfl
theorem XK:ak.T 52=⟨.slice 111,1,24,.bd⟩:=rfl
theorem XL:ak.T 57=⟨.slice 192,1,24,.bd⟩:=rfl
theorem XM:ak.T 58=⟨.slice 194,1,24,.bd⟩:=rfl
theorem XN:ak.T 60=⟨.struct [(57,0),(58,1),(42,2),(49,3),(49,4)],5,120,(.agg [.bd,.bd,.bd,.bd,.bd])⟩:=rfl
theorem XO:ak.T 62=⟨.slice 119,1,24,.bd⟩:=rfl
theorem akn:ak.T 65=⟨.fn,1,8,.hole⟩:=rfl
theorem XP:ak.T 67=⟨.slice 62,1,24,.bd⟩:=rfl
theorem XQ:ak.T 86=⟨.slice 151,1,24,.bd⟩:=rfl
theorem XR:ak.T 87=⟨.slice 86,1,24,.bd⟩:=rfl
theorem XS:ak.T 97=⟨.struct [(9,0),(9,1),(9,2)],3,48,(.agg [(.str []),(.str []),(.str [])])⟩:=rfl
theorem XT:ak.T 101=⟨.struct [(9,0),(9,1),(9,2)],3,48,(.agg [(.str []),(.str []),(.str [])])⟩:=rfl
theorem XU:ak.T 111=⟨.struct [(2,0),(2,1),(22,2)],3,40,(.agg [(.int .i64 0),(.int .i64 0),.bd])⟩:=rfl
theorem ako:ak.T 113=⟨.ptr 60,1,8,.dC⟩:=rfl
theorem XV:ak.T 119=⟨.struct [(2,0),(2,1),(22,2)],3,40,(.agg [(.int .i64 0),(.int .i64 0),.bd])⟩:=rfl
theorem XW:ak.T 129=⟨.slice 268,1,24,.bd⟩:=rfl
theorem XX:ak.T 130=⟨.slice 129,1,24,.bd⟩:=rfl
theorem akp:ak.T 133=⟨.fn,1,8,.hole⟩:=rfl
theorem akq:ak.T 143=⟨.fn,1,8,.hole⟩:=rfl
theorem XY:ak.T 151=⟨.struct [(2,0),(2,1)],2,16,(.agg [(.int .i64 0),(.int .i64 0)])⟩:=rfl
theorem akr:ak.T 155=⟨.fn,1,8,.hole⟩:=rfl
theorem aks:ak.T 168=⟨.fn,1,8,.hole⟩:=rfl
theorem XZ:ak.T 173=⟨.slice 5,1,24,.bd⟩:=rfl
theorem akt:ak.T 176=⟨.fn,1,8,.hole⟩:=rfl
theorem X0:ak.T 180=⟨.slice 293,1,24,.bd⟩:=rfl
theorem X1:ak.T 182=⟨.struct [(9,0),(2,1),(180,2)],3,48,(.agg [(.str []),(.int .i64 0),.bd])⟩:=rfl
theorem X2:ak.T 185=⟨.struct [(2,0),(22,1)],2,32,(.agg [(.int .i64 0),.bd])⟩:=rfl
theorem aku:ak.T 188=⟨.ptr 119,1,8,.dC⟩:=rfl
theorem X3:ak.T 190=⟨.slice 243,1,24,.bd⟩:=rfl
theorem X4:ak.T 192=⟨.struct [(9,0),(2,1),(190,2)],3,48,(.agg [(.str []),(.int .i64 0),.bd])⟩:=rfl
theorem X5:ak.T 194=⟨.struct [(2,0),(22,1)],2,32,(.agg [(.int .i64 0),.bd])⟩:=rfl
theorem akv:ak.T 199=⟨.fn,1,8,.hole⟩:=rfl
theorem X6:ak.T 200=⟨.slice 22,1,24,.bd⟩:=rfl
theorem akw:ak.T 203=⟨.fn,1,8,.hole⟩:=rfl
theorem akx:ak.T 238=⟨.int .u64,1,8,(.int .u64 0)⟩:=rfl
theorem X7:ak.T 243=⟨.struct [(2,0),(2,1),(9,2),(87,3)],4,56,(.agg [(.int .i64 0),(.int .i64 0),(.str []),.bd])⟩:=rfl
theorem aky:ak.T 245=⟨.ptr 192,1,8,.dC⟩:=rfl
theorem X8:ak.T 253=⟨.struct [(2,0),(4,1)],2,16,(.agg [(.int .i64 0),(.bool false)])⟩:=rfl
theorem X9:ak.T 254=⟨.slice 253,1,24,.bd⟩:=rfl
theorem akz:ak.T 259=⟨.fn,1,8,.hole⟩:=rfl
theorem akA:ak.T 262=⟨.ptr 151,1,8,.dC⟩:=rfl
theorem X_:ak.T 268=⟨.struct [(2,0),(2,1)],2,16,(.agg [(.int .i64 0),(.int .i64 0)])⟩:=rfl
theorem akB:ak.T 273=⟨.fn,1,8,.hole⟩:=rfl
theorem akC:ak.T 276=⟨.fn,1,8,.hole⟩:=rfl
theorem akD:ak.T 279=⟨.int .i64,1,8,(.int .i64 0)⟩:=rfl
theorem akE:ak.T 288=⟨.int .u32,1,4,(.int .u32 0)⟩:=rfl
theorem akF:ak.T 290=⟨.int .u64,1,8,(.int .u64 0)⟩:=rfl
theorem Ya:ak.T 293=⟨.struct [(2,0),(2,1),(9,2),(130,3)],4,56,(.agg [(.int .i64 0),(.int .i64 0),(.str []),.bd])⟩:=rfl
theorem akG:ak.T 300=⟨.fn,1,8,.hole⟩:=rfl
theorem Yb:ak.T 301=⟨.fn,1,8,.hole⟩:=rfl
theorem akH:ak.T 314=⟨.fn,1,8,.hole⟩:=rfl
theorem akI:ak.T 316=⟨.ptr 3,1,8,.dC⟩:=rfl
theorem akJ:ak.T 320=⟨.fn,1,8,.hole⟩:=rfl
theorem akK:ak.T 321=⟨.ptr 243,1,8,.dC⟩:=rfl
theorem Yc:ak.T 327=⟨.slice 3,1,24,.bd⟩:=rfl
theorem akL:ak.T 333=⟨.fn,1,8,.hole⟩:=rfl
end Go.Proofs.YtklcmlnabkfneaaGreat
