/- Part of a proof that a law returns true for every input. No condition. -/
import Derived.Test.YteloniioljdceaaGreatDoorTb
import Derived.Test.YteloniioljdceaaGreatDoorFwL
import Derived.Test.YteloniioljdceaaGreatDoorP4
namespace Go.Proofs.YteloniioljdceaaGreatDoor
open List Option Go.IntKind Nat Or
open Go Go.ca Go.lh
set_option linter.unusedSimpArgs false
def bS (x:aX):I:=.agg [.int .i64 x.Choice,.int .i64 x.bP,.int .i64 x.Second,.str x.Label]
theorem vg (x:aX):(bS x).share=bS x:=by
 simp only[bS,kz]
theorem Q_ (x:aX):(bS x).cK=true:=by
 simp only[bS,I.cK,I.jR,Bool.and_self]
def dU (x:Int):I:=.int .i64 x
theorem DX (x:Int):(dU x).share=dU x:=by
 simp only[dU,kz]
theorem LJ (x:Int):(dU x).cK=true:=by
 simp only[dU,I.cK,I.jR,Bool.and_self]
def cL (x:RD):I:=.str x
theorem DY (x:RD):(cL x).share=cL x:=by
 simp only[cL,kz]
theorem Ra (x:RD):(cL x).cK=true:=by
 simp only[cL,I.cK,I.jR,Bool.and_self]
noncomputable def LK:aK:=dr (dq 35 [0,1] Tryz.f101 [[0,1],[0,1,5],[0,1,5,6],[0,1,5,6,7],[0,1,5,6,7,12],[0,1,5,6,7,19],[0,1,5,7],[0,1,5,6,7],[0,1,5,6,7],[4]])
noncomputable def LL:aK:=dr (dq 9 [0] Tryz.f135 [[0],[2]])
noncomputable def LM:aK:=dr (dq 62 [0] Tryz.f102 [[0],[0,4],[0,4,14],[0,4],[0,4,36],[2,3],[0,4,5],[0,4,5,6],[0,4,5,6,41],[0,4,5,6,48],[2,3],[0,4,5,6],[0,4,5,6],[5,58],[5],[2,3]])
noncomputable def LN:aK:=dr (dq 15 [0,1,2] Tryz.f43 [[0,1,2],[6]])
noncomputable def LO:aK:=dr (dq 17 [0] Tryz.f163 [[0],[0,3],[0,3,7],[0,3,13],[2],[0,3],[2]])
noncomputable def c143:aK:=dr (dq 9 [0] Tryz.f143 [[0],[2]])
noncomputable def LP:aK:=dr (dq 35 [0] Tryz.f114 [[0],[0,16],[2],[0,3],[0,3,20],[0,3,34],[2],[0,3],[2]])
def cH (r:List bs) (k:RG) (c:aK):aK:=.seq (.dX r (some k)) c
def vh (r:List bs) (a:RE) (k:RG) (c:aK):aK:=.seq (.hj r a (some k)) c
abbrev DZ (d t:Nat) (o:cw):bs:=⟨some d,o,some (t,true)⟩
abbrev ob (d t:Nat) (o:cw):bs:=⟨some d,o,some (t,false)⟩
abbrev Rb (n:Nat) (k:RG) (f:Func) (c:aK):Prop:=el ⟨n,k⟩ (f.body.getD .skip)=some c.strip
def c75:aK:=cH [ju 2 false] [0] (cH [cb 3 0,lf 4 114 3,cb 5 4,DZ 6 5 (.jk (.t 0)),⟨some 7,.cW .neq 9 (.t 6) (.c (.str [116,97,117])),some (5,true)⟩,ro 8 (.pick (.t 5) (.t 7) (.c (.bool false))),dz 2 8] [2] .ret)
noncomputable def LQ:aK:=dr (dq 70 [0] Tryz.f149 [[0],[0,4],[0,4,15],[2,3],[0,4,31],[2,3],[5],[5,6],[5,6,7],[5,6,7,44],[5,6,7,8,9],[5,6,7,8,61],[2,3],[5,6,7],[5,6,7],[2,3]])
noncomputable def LR:aK:=dr (dq 11 [0] Tryz.f136 [[0],[4],[2]])
noncomputable def LS:aK:=dr (dq 29 [0] Tryz.f103 [[0],[2]])
def D0:aK:=.dX [cb 22 3,cb 23 5,ro 24 (.cW .add 2 (.c (.int .i64 48)) (.t 23)),uL 25 2 5 24,yg 26 98 25,yh 27 98 98 22 26,dz 3 27] (some [0,3,4])
def D1:aK:=.seq (cH [cb 12 4,iC 13 .neq 2 12 0] [0,3,4,13] (.cond (.t 13) .skip (.exit 0))) (.seq (.block 1 (cH [cb 16 4,iC 17 .rem 2 16 10,dz 5 17] [0,3,4,5] (.seq (cH [cb 18 5,iC 19 .lss 2 18 0] [0,3,4,5,19] (.cond (.t 19) (.dX [cb 20 5,ro 21 (.un .neg (.t 20)),dz 5 21] (some [0,3,4,5])) .skip)) D0))) (.dX [cb 14 4,iC 15 .quo 2 14 10,dz 4 15] (some [0,3,4])))
def D2:aK:=.seq (cH [cb 37 7,iC 38 .geq 3 37 0] [3,6,7,38] (.cond (.t 38) .skip (.exit 2))) (.seq (.block 3 (.dX [cb 41 6,cb 42 3,cb 43 7,Lc 44 98 42 43,i6 45 5 44,yg 46 98 45,yh 47 98 98 41 46,dz 6 47] (some [3,6,7]))) (.dX [cb 39 7,iC 40 .sub 3 39 1,dz 7 40] (some [3,6,7])))
def D3:aK:=cH [ro 33 (.dH 98 0 []),dz 6 33] [3,6] (.seq (cH [cb 34 3,uG 35 98 34,iC 36 .sub 3 35 1,dz 7 36] [3,6,7] (.block 2 (.loop D2))) (cH [cb 48 6,uL 49 98 9 48,dz 2 49] [2] .ret))
def LU:aK:=cH [ro 2 (.fI (.c (.str [])))] [0] (.seq (cH [cb 8 0,iC 9 .eql 2 8 0] [0,9] (.cond (.t 9) (cH [ro 2 (.fI (.c (.str [48])))] [2] .ret) .skip)) (cH [ro 10 (.dH 98 0 []),dz 3 10] [0,3] (.seq (cH [cb 11 0,dz 4 11] [0,3,4] (.block 0 (.loop D1))) (.seq (cH [cb 28 0,iC 29 .lss 2 28 0] [3,29] (.cond (.t 29) (.dX [cb 30 3,ro 31 (.dH 98 1 [(0,(.c (.int .u8 45)))]),yh 32 98 98 30 31,dz 3 32] (some [3])) .skip)) D3))))
noncomputable def LV:aK:=dr (dq 32 [0] Tryz.f137 [[0,1],[0,1,5],[0,1,5,10],[0,1,5],[0,1,5,6],[0,1,5,6,21],[0,1,5,6],[0,1,5,6,27],[0,1,5,6],[0,1,5,6],[0,1,5],[4]])
def LW:aK:=vh [cb 8 0,uH 9 8,n6 10 69 9 0,i6 11 2 10,lf 12 118 11,ro 13 (.cW .add 9 (.t 12) (.c (.str [32]))),cb 14 0,uH 15 14,n6 16 69 15 1,i6 17 2 16,lf 18 118 17,n7 19 .add 9 13 18,ro 20 (.cW .add 9 (.t 19) (.c (.str [32]))),cb 21 0,uH 22 21,n6 23 69 22 2,i6 24 2 23,lf 25 118 24,n7 26 .add 9 20 25,ro 27 (.cW .add 9 (.t 26) (.c (.str [32]))),cb 28 0,uH 29 28,n6 30 69 29 3,i6 31 9 30,n7 32 .add 9 27 31,dz 6 32] [[],[0],[1],[2],[3],[4],[],[6],[7],[8],[9,4],[5,10],[11],[],[13],[14],[15],[16,10],[12,17],[18],[],[20],[21],[22],[19,23],[24,17,0,1,2,3,4,5,6,7,8,9,10,11,12,13,14,15,16,17,18,19,20,21,22,23,24]] [1,6] (cH [cb 33 6,cb 34 1,yf 35 137 33 34,dz 7 35] [6,7] (cH [cb 36 6,ro 37 (.cW .add 9 (.t 36) (.c (.str [32]))),cb 38 7,lf 39 118 38,n7 40 .add 9 37 39,cb 41 7,dz 4 40,dz 5 41] [4,5] .ret))
def LX:aK:=cH [ro 4 (.fI (.c (.str []))),DL 5 0] [0,1] LW
noncomputable def LY:aK:=dr (dq 76 [0,1] Tryz.f66 [[0,1,4],[0,1,4,7],[0,1,4,7,21],[4,5,6],[0,1,4,7,8,9],[0,1,4,7,8,9,10,11],[0,1,4,7,8,9,10,11,12,13],[0,1,4,9,11,13,14],[0,1,4,14,64],[4,5,6],[0,4,14,15,16],[4,5,6]])
noncomputable def LZ:aK:=dr (dq 48 [0] Tryz.f39 [[0],[0,4],[0,4,5],[0,4,5,6],[0,4,5,6,7],[0,4,5,6,7,20],[0,4,5,6,7,26],[0,4,6,7,8,9,10],[0,4,6,7,8,9,38],[0,4,7,9],[0,4,5,7],[0,4,5,6,7],[0,4,5,6,7],[2,3]])
noncomputable def L0:aK:=dr (dq 12 [0] Tryz.f18 [[0],[0,6],[2,3],[2,3]])
noncomputable def c138:aK:=dr (dq 8 [0,1] Tryz.f138 [[0,1],[4]])
noncomputable def L1:aK:=dr (dq 8 [0,1] Tryz.f106 [[0,1],[4]])
noncomputable def L2:aK:=dr (dq 21 [0,1] Tryz.f142 [[0,1],[4]])
noncomputable def L3:aK:=dr (dq 16 [0,1] Tryz.f110 [[0,1],[0,1,7],[4],[4]])
noncomputable def L4:aK:=dr (dq 8 [0,1] Tryz.f69 [[0,1],[4]])
noncomputable def c167:aK:=dr (dq 143 [0,1] Tryz.f167 [[0,1],[0,1,5],[0,1,5,16],[4],[0,1,5,24],[4],[0,1,5,31],[4],[0,1,5,36],[4],[0,1,5,6],[0,1,5,6,7],[0,1,5,6,7,8],[0,1,5,6,7,8,9],[0,1,5,6,7,8,9,10],[0,1,5,6,7,8,9,10,59],[0,1,5,6,7,8,9,10,64],[0,1,5,6,7,8,9,10,11],[0,1,5,6,7,8,9,10,11,73],[4],[0,1,5,6,7,8,9,10],[0,1,5,6,7,8,9,10,93],[4],[0,1,5,6,7,8,9,10],[0,1,5,6,7,8,9,10],[0,1,5,6,7,8,9,10,107],[8,12],[8,12,114],[4],[4],[0,1,5,6,7,8,9,10,132],[8,13],[8,13,139],[4],[4],[4]])
noncomputable def L5:aK:=dr (dq 8 [0,1] Tryz.f153 [[0,1],[4]])
noncomputable def c152:aK:=dr (dq 34 [1] Tryz.f152 [[0,1],[0,1,9],[4],[0,1,15],[4],[0,1,5],[0,1,5,6],[0,1,5,6,24],[4],[0,1,5,6],[0,1,5]])
noncomputable def c139:aK:=dr (dq 66 [1,2] Tryz.f139 [[0,1,2,3],[0,1,2,3,13],[8],[0,1,2,3,15],[8],[0,1,2,3,20],[0,1,2,3],[0,1,2,3],[0,1,2,3,9],[0,1,2,3,9],[0,1,2,3,9,10],[0,1,2,3,9,10,36],[0,1,2,3,9,10,11],[0,1,2,3,9,10,11,41],[0,1,2,3,9,10,11],[0,1,2,3,9,10],[0,1,2,3,9,10],[9,10],[8]])
noncomputable def c107:aK:=dr (dq 8 [0,1] Tryz.f107 [[0,1],[4]])
noncomputable def L6:aK:=dr (dq 28 [0] Tryz.f108 [[0],[0,4],[4,9,10,11],[4,9,10,11,12],[4,6,9,10,11],[4,7,8,9,10,11],[4,7,9,10,11,21],[2,3],[4,9,10,11],[4,9,10,11],[2,3]])
noncomputable def c53:aK:=dr (dq 15 [0,1,2] Tryz.f53 [[0,1,2],[6]])
noncomputable def L7:aK:=dr (dq 23 [0,1] Tryz.f187 [[0,1],[0,1,7],[0,1,7,12],[4,5,6],[4,5,6]])
noncomputable def c171:aK:=dr (dq 13 [0,1] Tryz.f171 [[0,1],[4,5,6]])
noncomputable def L8:aK:=dr (dq 9 [0] Tryz.f144 [[0],[2]])
noncomputable def L9:aK:=dr (dq 42 [0] Tryz.f120 [[0],[0,6,7],[0,6,7,8],[0,3,6,7],[0,3,4,6,7],[0,6,7,32],[2],[0,6,7],[2]])
def L_:aK:=cH [ju 2 false] [0] (cH [cb 3 0,lf 4 120 3,cb 5 4,DZ 6 5 (.jk (.t 0)),⟨some 7,.cW .neq 9 (.t 6) (.c (.str [116,97,117])),some (5,true)⟩,ro 8 (.pick (.t 5) (.t 7) (.c (.bool false))),dz 2 8] [2] .ret)
noncomputable def Ma:aK:=dr (dq 5 [0] Tryz.f90 [[0],[2]])
noncomputable def Mb:aK:=dr (dq 6 [0] Tryz.f89 [[0],[2]])
noncomputable def Mc:aK:=dr (dq 19 [0,1] Tryz.f125 [[0,1],[0,1,7,8],[0,1,7,8,9],[0,1,5,7,8],[0,1,5,7,8,16],[4],[0,1,7,8],[4]])
noncomputable def Md:aK:=dr (dq 9 [0,1] Tryz.f88 [[0,1],[4]])
noncomputable def Me:aK:=dr (dq 6 [0] Tryz.f57 [[0],[2]])
noncomputable def Mf:aK:=dr (dq 5 [0] Tryz.f97 [[0],[2]])
noncomputable def Mg:aK:=dr (dq 27 [0,1] Tryz.f62 [[0,1],[0,1,5],[1,5,11,12,13],[1,5,11,12,13,14],[1,5,6,7,11,12,13],[1,5,11,12,13],[1,5,11,12,13],[4]])
def Mh:aK:=cH [cb 13 0,lf 14 83 13,uJ 15 14,cb 16 15,ob 17 16 (.jk (.t 1)),ob 18 16 (.len 22 (.t 17)),ob 19 16 (.cW .gtr 3 (.t 18) (.c (.int .i64 2))),ro 20 (.pick (.t 16) (.c (.bool true)) (.t 19)),cb 21 20,ob 22 21 (.jk (.t 1)),⟨some 23,.call (.f 57) [(.t 22)],some (21,false)⟩,ob 24 21 (.un .not (.t 23)),ro 25 (.pick (.t 21) (.c (.bool true)) (.t 24)),dz 12 25] [0,1,12] (.cond (.t 12) (cH [ro 4 (.fI (.c (.str []))),ju 5 false] [4,5] .ret) (cH [cb 27 1,uG 28 22 27,iC 29 .eql 3 28 0,dz 26 29] [0,1,26] (.cond (.t 26) (cH [cb 30 0,dz 4 30,ju 5 true] [4,5] .ret) .skip)))
def Mi:aK:=cH [ro 4 (.fI (.c (.str []))),ju 5 false] [0,1] (.seq (.block 0 (cH [cb 7 0,ro 8 (.cW .eql 9 (.t 7) (.c (.str [116,97,117]))),dz 6 8] [0,1,6] (.cond (.t 6) (cH [cb 9 1,uG 10 22 9,iC 11 .eql 3 10 0,ro 4 (.fI (.c (.str [116,97,117]))),dz 5 11] [4,5] .ret) Mh))) (cH [cb 31 0,ro 32 (.cW .add 9 (.t 31) (.c (.str [40]))),cb 33 1,ro 34 (.call (.f 62) [(.t 33),(.c (.str [44]))]),n7 35 .add 9 32 34,ro 36 (.cW .add 9 (.t 35) (.c (.str [41]))),dz 4 36,ju 5 true] [4,5] .ret))
def D4:aK:=.seq (cH [cb 29 5,cb 30 8,yf 31 60 29 30,cb 28 31,mN 32 28 0,mN 33 28 1,dz 10 32,dz 11 33] [0,5,8,10,11] (cH [cb 34 11,uJ 35 34,cb 36 35,ob 37 36 (.jk (.t 10)),ob 38 36 (.jk (.t 0)),ob 39 36 (.cW .neq 9 (.t 37) (.t 38)),ro 40 (.pick (.t 36) (.c (.bool true)) (.t 39))] [5,8,40] (.cond (.t 40) (cH [ro 2 (.fI (.c (.str []))),uI 3,ju 4 false] [2,3,4] .ret) .skip))) (cH [cb 41 5,cb 42 8,dz 2 41,dz 3 42,ju 4 true] [2,3,4] .ret)
def Mj:aK:=cH [cb 13 0,ro 14 (.call (.f 171) [(.t 13),(.c (.str [40]))]),cb 12 14,mN 15 12 0,mN 16 12 1,mN 17 12 2,dz 5 15,dz 6 16,dz 7 17] [0,5,6,7] (cH [uI 8] [0,5,6,7,8] (.seq (cH [cb 18 7] [0,5,6,8,18] (.cond (.t 18) (cH [ju 9 false] [0,5,6] (cH [cb 20 6,ro 21 (.call (.f 69) [(.t 20),(.c (.str [41]))]),ro 22 (.call (.f 107) [(.t 21),(.c (.str [44]))]),lf 23 108 22,cb 19 23,mN 24 19 0,mN 25 19 1,dz 8 24,dz 9 25] [0,5,8,9] (cH [cb 26 9,uJ 27 26] [0,5,8,27] (.cond (.t 27) (cH [ro 2 (.fI (.c (.str []))),uI 3,ju 4 false] [2,3,4] .ret) .skip)))) .skip)) D4))
def c156:aK:=cH [ro 2 (.fI (.c (.str []))),uI 3,ju 4 false] [0] Mj
noncomputable def c141:aK:=dr (dq 13 [0] Tryz.f141 [[0],[5],[2]])
noncomputable def c109:aK:=dr (dq 21 [0] Tryz.f109 [[1],[2]])
def Mk:aK:=.seq (cH [cb 20 6,uJ 21 20] [2,4,5,21] (.cond (.t 21) (cH [ro 22 (.ey 69 []),uK 69 2 22,ju 3 false] [2,3] .ret) .skip)) (vh [cb 23 5,ro 24 (.fE 22 (.t 23) (.c (.int .i64 0))),i6 25 2 24,cb 26 5,ro 27 (.fE 22 (.t 26) (.c (.int .i64 1))),i6 28 2 27,cb 29 5,ro 30 (.fE 22 (.t 29) (.c (.int .i64 2))),i6 31 2 30,cb 32 4,ro 33 (.fE 128 (.t 32) (.c (.int .i64 3))),i6 34 9 33,ro 35 (.ey 69 [(0,(.t 25)),(1,(.t 28)),(2,(.t 31)),(3,(.t 34))]),DM 7 69,uK 69 7 35] [[],[0],[1],[],[3],[4],[],[6],[7],[],[9],[10],[2,5,8,11],[],[13,12,0,1,2,3,4,5,6,7,8,9,10,11,12,13]] [2,7] (vh [i6 36 69 7,i6 37 69 7,lf 38 109 37,uK 69 2 36,dz 3 38] [[],[],[1],[0,2,0],[2,3,0,1,2,3]] [2,3] .ret))
def Ml:aK:=cH [DM 2 69,ju 3 false] [0,2] (cH [cb 8 0,ro 9 (.call (.f 107) [(.t 8),(.c (.str [32]))]),dz 4 9] [2,4] (.seq (cH [cb 10 4,uG 11 128 10,iC 12 .neq 3 11 5] [2,4,12] (.cond (.t 12) (cH [ro 13 (.ey 69 []),uK 69 2 13,ju 3 false] [2,3] .ret) .skip)) (cH [cb 15 4,ro 16 (.eD 128 (.t 15) none (some (.c (.int .i64 3)))),lf 17 108 16,cb 14 17,mN 18 14 0,mN 19 14 1,dz 5 18,dz 6 19] [2,4,5,6] Mk)))
noncomputable def Mm:aK:=dr (dq 35 [0,1] Tryz.f111 [[0,1],[0,1,9],[4],[0,5],[0,5,12,13],[0,5,12,13,14],[0,5,6,12,13],[0,5,12,13],[0,5,12,13,23],[0,5,12,13,23,24],[0,5,12,13,23],[0,5,12,13,23,28],[0,5,12,13,23],[0,5,12,13,23],[0,5,12,13],[4]])
def Mn:aK:=vh [n6 7 69 2 0,i6 8 2 7,n6 9 69 2 1,i6 10 2 9,n6 11 69 2 2,i6 12 2 11,ro 13 (.dH 22 3 [(0,(.t 8)),(1,(.t 10)),(2,(.t 12))]),ro 14 (.call (.f 62) [(.t 13),(.c (.str [32]))]),ro 15 (.cW .add 9 (.t 14) (.c (.str [32]))),n6 16 69 2 3,i6 17 9 16,n7 18 .add 9 15 17,dz 6 18] [[],[0],[],[2],[],[4],[1,3,5],[6],[7],[],[9],[8,10],[11,7,0,1,2,3,4,5,6,7,8,9,10,11]] [1,6] (cH [cb 19 6,cb 20 1,yf 21 111 19 20,dz 1 21] [1,6] (cH [cb 22 6,ro 23 (.cW .add 9 (.t 22) (.c (.str [32]))),cb 24 1,lf 25 97 24,n7 26 .add 9 23 25,ro 27 (.cW .add 9 (.t 26) (.c (.str [10]))),cb 28 1,dz 4 27,dz 5 28] [4,5] .ret))
def c70:aK:=cH [ro 2 (.fF 69 (.t 0)),ro 4 (.fI (.c (.str []))),DL 5 0] [1,2] Mn
noncomputable def Mo:aK:=dr (dq 16 [0] Tryz.f19 [[0],[0,8],[2,3],[4,5],[2,3]])
noncomputable def yL:aK:=dr (dq 25 [0,1] Tryz.f41 [[2,3],[2,3,9],[4],[2,3,14],[4],[2,3,19],[4],[24],[4],[4]])
noncomputable def c20:aK:=dr (dq 27 [0,1] Tryz.f20 [[0,1],[0,1,10],[4],[0,1,5],[0,1,5,14],[0,1,5,26],[4],[0,1,5],[4]])
def D5:aK:=.seq (cH [cb 6 0,iC 7 .gtr 3 6 0] [0,3,7] (.cond (.t 7) .skip (.exit 0))) (.block 1 (cH [cb 8 0,iC 9 .rem 3 8 10,ro 10 (.cW .add 3 (.c (.int .i64 48)) (.t 9)),uL 11 3 5 10,yg 12 98 11,uL 13 98 9 12,cb 14 3,n7 15 .add 9 13 14,dz 3 15] [0,3] (.dX [cb 16 0,iC 17 .quo 3 16 10,dz 0 17] (some [0,3]))))
def c37:aK:=cH [ro 2 (.fI (.c (.str [])))] [0] (.seq (cH [cb 4 0,iC 5 .leq 3 4 0] [0,5] (.cond (.t 5) (cH [ro 2 (.fI (.c (.str [109,48])))] [2] .ret) .skip)) (cH [ro 3 (.fI (.c (.str [])))] [0,3] (.seq (.block 0 (.loop D5)) (cH [cb 18 3,ro 19 (.cW .add 9 (.c (.str [109])) (.t 18)),dz 2 19] [2] .ret))))
noncomputable def c21:aK:=dr (dq 42 [0] Tryz.f21 [[0,1],[0,1,5],[0,1,5,9],[0,1,5],[0,1,5],[0,1,5],[0,1,5],[0,1,5],[0,1,5],[0,1,5],[0,1,5],[0,1,5],[0,4]])
noncomputable def Mp:aK:=dr (dq 50 [0] Tryz.f22 [[0,1],[0,1,5],[0,1,5,9],[0,1,5,18],[4],[0,1,5],[0,1,5,27],[4],[0,1,5],[0,1,5,36],[4],[0,1,5],[0,1,5,46],[4],[0,1,5],[0,1,5],[4]])
noncomputable def c4:aK:=dr (dq 66 [0] Tryz.f4 [[0],[0,13],[2],[0,3,4],[0,3,4,5,6],[0,3,4,5,32],[2],[0,3,4,5,7],[0,3,4,5,7],[0,3,4,5,7,8],[0,3,4,5,7,8],[0,3,4,5,7,8,40],[2],[0,3,4,5,7,43],[2],[3,4,5,7,9,10],[5,7,57],[2],[5,7,8],[7,8],[7,8,62],[2],[65],[2],[2]])
def Rc:=PLift.up (And.intro @Bool.not_true @Bool.not_false)
def Rd:=PLift.up (And.intro @length_append.{0} (And.intro @length_cons.{0} (And.intro @length_nil.{0} (And.intro @length_map.{0,0} (And.intro @length_replicate.{0} (And.intro @Nat.zero_add @Nat.add_zero))))))
end Go.Proofs.YteloniioljdceaaGreatDoor
