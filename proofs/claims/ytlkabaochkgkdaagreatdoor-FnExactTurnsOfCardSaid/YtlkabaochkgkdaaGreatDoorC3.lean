/- Part of a proof that a law returns true for every input. No condition. -/
import Derived.Test.YtlkabaochkgkdaaGreatDoorTb
import Derived.Test.YtlkabaochkgkdaaGreatDoorFwL
import Derived.Test.YtlkabaochkgkdaaGreatDoorP3
namespace Go.Proofs.YtlkabaochkgkdaaGreatDoor
open Go Go.c_ Go.eU
set_option linter.unusedSimpArgs false
def fZ (x:hL):I:=.agg [.int .i64 x.Kind,.int .i64 x.Value]
theorem YZ (x:hL):(fZ x).share=fZ x:=by
 simp only[fZ,dI]
theorem aHP (x:hL):(fZ x).dd=true:=by
 simp only[fZ,I.dd,I.hV,Bool.and_self]
def gl (x:List hL):I:=.slice (x.map fZ)
theorem Pr (x:List hL):(gl x).share=gl x:=by
 simp only[gl,dI, @cm _ fZ fZ (λ_=>YZ _)]
def gA (x:jf):I:=.agg [.int .i64 x.Kind,.int .i64 x.Number,.str x.Name,.slice (x.cN.map gl)]
theorem Ps (x:jf):(gA x).share=gA x:=by
 simp only[gA,dI, @cm _ gl gl (λ_=>Pr _)]
def gY (x:jg):I:=.agg [.str x.Name,.int .i64 x.dE,.slice (x.Body.map gA)]
theorem Pt (x:jg):(gY x).share=gY x:=by
 simp only[gY,dI, @cm _ gA gA (λ_=>Ps _)]
def a1 (x:Int):I:=.int .i64 x
theorem ky (x:Int):(a1 x).share=a1 x:=by
 simp only[a1,dI]
theorem xY (x:Int):(a1 x).dd=true:=by
 simp only[a1,I.dd,I.hV,Bool.and_self]
def gZ (x:jh):I:=.agg [.int .i64 x.hM,.slice (x.fE.map a1)]
theorem Pu (x:jh):(gZ x).share=gZ x:=by
 simp only[gZ,dI, @cm _ a1 a1 (λ_=>ky _)]
def gS (x:iZ):I:=.agg [.str x.Left,.str x.ch,.str x.Result]
theorem Pv (x:iZ):(gS x).share=gS x:=by
 simp only[gS,dI]
theorem aHQ (x:iZ):(gS x).dd=true:=by
 simp only[gS,I.dd,I.hV,Bool.and_self]
def bd (x:List UInt8):I:=.str x
theorem jr (x:List UInt8):(bd x).share=bd x:=by
 simp only[bd,dI]
theorem Pw (x:List UInt8):(bd x).dd=true:=by
 simp only[bd,I.dd,I.hV,Bool.and_self]
def j8 (x:lL):I:=.agg [.slice (x.fv.map gY),.slice (x.bK.map gZ),.slice (x.hZ.map gS),.slice (x.hN.map bd),.slice (x.hO.map bd)]
theorem aHR (x:lL):(j8 x).share=j8 x:=by
 simp only[j8,dI, @cm _ gY gY (λ_=>Pt _), @cm _ gZ gZ (λ_=>Pu _), @cm _ gS gS (λ_=>Pv _), @cm _ bd bd (λ_=>jr _)]
def gK (x:iG):I:=.agg [.int .i64 x.Choice,.int .i64 x.c8,.int .i64 x.Second,.str x.Label]
theorem aHS (x:iG):(gK x).share=gK x:=by
 simp only[gK,dI]
theorem aHT (x:iG):(gK x).dd=true:=by
 simp only[gK,I.dd,I.hV,Bool.and_self]
def JG (x:List jg):I:=.slice (x.map gY)
theorem aHU (x:List jg):(JG x).share=JG x:=by
 simp only[JG,dI, @cm _ gY gY (λ_=>Pt _)]
def JH (x:List jh):I:=.slice (x.map gZ)
theorem aHV (x:List jh):(JH x).share=JH x:=by
 simp only[JH,dI, @cm _ gZ gZ (λ_=>Pu _)]
def JI (x:List iZ):I:=.slice (x.map gS)
theorem aHW (x:List iZ):(JI x).share=JI x:=by
 simp only[JI,dI, @cm _ gS gS (λ_=>Pv _)]
def A1 (x:List (List UInt8)):I:=.slice (x.map bd)
theorem aHX (x:List (List UInt8)):(A1 x).share=A1 x:=by
 simp only[A1,dI, @cm _ bd bd (λ_=>jr _)]
def JJ (x:List jf):I:=.slice (x.map gA)
theorem aHY (x:List jf):(JJ x).share=JJ x:=by
 simp only[JJ,dI, @cm _ gA gA (λ_=>Ps _)]
def JK (x:List (List hL)):I:=.slice (x.map gl)
theorem aHZ (x:List (List hL)):(JK x).share=JK x:=by
 simp only[JK,dI, @cm _ gl gl (λ_=>Pr _)]
def A2 (x:List Int):I:=.slice (x.map a1)
theorem aH0 (x:List Int):(A2 x).share=A2 x:=by
 simp only[A2,dI, @cm _ a1 a1 (λ_=>ky _)]
def cn (x:b1):I:=.agg [.int .i64 x.Kind,.int .i64 x.Value]
theorem JL (x:b1):(cn x).share=cn x:=by
 simp only[cn,dI]
theorem Y0 (x:b1):(cn x).dd=true:=by
 simp only[cn,I.dd,I.hV,Bool.and_self]
def fj (x:List b1):I:=.slice (x.map cn)
theorem JM (x:List b1):(fj x).share=fj x:=by
 simp only[fj,dI, @cm _ cn cn (λ_=>JL _)]
def cX (x:bH):I:=.agg [.int .i64 x.Kind,.int .i64 x.Number,.str x.Name,.slice (x.cN.map fj)]
theorem JN (x:bH):(cX x).share=cX x:=by
 simp only[cX,dI, @cm _ fj fj (λ_=>JM _)]
def bP (x:bs):I:=.agg [.str x.Name,.int .i64 x.dE,.slice (x.Body.map cX)]
theorem FA (x:bs):(bP x).share=bP x:=by
 simp only[bP,dI, @cm _ cX cX (λ_=>JN _)]
def fF (x:List b1):I:=.ao 2 (x.map cn)
theorem JO (x:List b1):(fF x).share=fj x:=by
 simp only[fF,fj,dI, @cm _ cn cn (λ_=>JL _)]
theorem Px (x:List b1):(fF x).dd=true:=by
 simp only[fF,I.dd,I.hV,Bool.and_self, @lg _ cn (λ_=>Y0 _)]
def fw (x:bH):I:=.agg [.int .i64 x.Kind,.int .i64 x.Number,.str x.Name,.ao 1 (x.cN.map fF)]
theorem JP (x:bH):(fw x).share=cX x:=by
 simp only[fw,cX,dI, @cm _ fF fj (λ_=>JO _)]
theorem Py (x:bH):(fw x).dd=true:=by
 simp only[fw,I.dd,I.hV,Bool.and_self, @lg _ fF (λ_=>Px _)]
def e8 (x:bs):I:=.agg [.str x.Name,.int .i64 x.dE,.ao 4 (x.Body.map fw)]
theorem r3 (x:bs):(e8 x).share=bP x:=by
 simp only[e8,bP,dI, @cm _ fw cX (λ_=>JP _)]
theorem Pz (x:bs):(e8 x).dd=true:=by
 simp only[e8,I.dd,I.hV,Bool.and_self, @lg _ fw (λ_=>Py _)]
def FB (x:List bH):I:=.ao 4 (x.map fw)
def A3 (x:List bH):I:=.slice (x.map cX)
theorem aH1 (x:List bH):(A3 x).share=A3 x:=by
 simp only[A3,dI, @cm _ cX cX (λ_=>JN _)]
theorem aH2 (x:List bH):(FB x).share=A3 x:=by
 simp only[FB,A3,dI, @cm _ fw cX (λ_=>JP _)]
theorem aH3 (x:List bH):(FB x).dd=true:=by
 simp only[FB,I.dd,I.hV,Bool.and_self, @lg _ fw (λ_=>Py _)]
def FC (x:List (List b1)):I:=.ao 1 (x.map fF)
def A4 (x:List (List b1)):I:=.slice (x.map fj)
theorem aH4 (x:List (List b1)):(A4 x).share=A4 x:=by
 simp only[A4,dI, @cm _ fj fj (λ_=>JM _)]
theorem aH5 (x:List (List b1)):(FC x).share=A4 x:=by
 simp only[FC,A4,dI, @cm _ fF fj (λ_=>JO _)]
theorem aH6 (x:List (List b1)):(FC x).dd=true:=by
 simp only[FC,I.dd,I.hV,Bool.and_self, @lg _ fF (λ_=>Px _)]
def fN (x:dr):I:=.agg [.int .i64 x.hM,.slice (x.fE.map a1)]
theorem FD (x:dr):(fN x).share=fN x:=by
 simp only[fN,dI, @cm _ a1 a1 (λ_=>ky _)]
def fk (x:dr):I:=.agg [.int .i64 x.hM,.ao 1 (x.fE.map a1)]
theorem r4 (x:dr):(fk x).share=fN x:=by
 simp only[fk,fN,dI, @cm _ a1 a1 (λ_=>ky _)]
theorem PA (x:dr):(fk x).dd=true:=by
 simp only[fk,I.dd,I.hV,Bool.and_self, @lg _ a1 (λ_=>xY _)]
def FE (x:List Int):I:=.ao 1 (x.map a1)
theorem aH7 (x:List Int):(FE x).share=A2 x:=by
 simp only[FE,A2,dI, @cm _ a1 a1 (λ_=>ky _)]
theorem aH8 (x:List Int):(FE x).dd=true:=by
 simp only[FE,I.dd,I.hV,Bool.and_self, @lg _ a1 (λ_=>xY _)]
def bC (x:b9):I:=.agg [.str x.Left,.str x.ch,.str x.Result]
theorem oI (x:b9):(bC x).share=bC x:=by
 simp only[bC,dI]
theorem PB (x:b9):(bC x).dd=true:=by
 simp only[bC,I.dd,I.hV,Bool.and_self]
def nx (x:eI):I:=.agg [.ao 3 (x.fv.map e8),.ao 2 (x.bK.map fk),.ao 3 (x.hZ.map bC),.ao 1 (x.hN.map bd),.ao 1 (x.hO.map bd)]
def iI (x:eI):I:=.agg [.slice (x.fv.map bP),.slice (x.bK.map fN),.slice (x.hZ.map bC),.slice (x.hN.map bd),.slice (x.hO.map bd)]
theorem aH9 (x:eI):(iI x).share=iI x:=by
 simp only[iI,dI, @cm _ bP bP (λ_=>FA _), @cm _ fN fN (λ_=>FD _), @cm _ bC bC (λ_=>oI _), @cm _ bd bd (λ_=>jr _)]
theorem aH_ (x:eI):(nx x).share=iI x:=by
 simp only[nx,iI,dI, @cm _ e8 bP (λ_=>r3 _), @cm _ fk fN (λ_=>r4 _), @cm _ bC bC (λ_=>oI _), @cm _ bd bd (λ_=>jr _)]
theorem aIa (x:eI):(nx x).dd=true:=by
 simp only[nx,I.dd,I.hV,Bool.and_self, @lg _ e8 (λ_=>Pz _), @lg _ fk (λ_=>PA _), @lg _ bC (λ_=>PB _), @lg _ bd (λ_=>Pw _)]
def FF (x:List bs):I:=.ao 3 (x.map e8)
def A5 (x:List bs):I:=.slice (x.map bP)
theorem aIb (x:List bs):(A5 x).share=A5 x:=by
 simp only[A5,dI, @cm _ bP bP (λ_=>FA _)]
theorem aIc (x:List bs):(FF x).share=A5 x:=by
 simp only[FF,A5,dI, @cm _ e8 bP (λ_=>r3 _)]
theorem aId (x:List bs):(FF x).dd=true:=by
 simp only[FF,I.dd,I.hV,Bool.and_self, @lg _ e8 (λ_=>Pz _)]
def FG (x:List dr):I:=.ao 2 (x.map fk)
def A6 (x:List dr):I:=.slice (x.map fN)
theorem aIe (x:List dr):(A6 x).share=A6 x:=by
 simp only[A6,dI, @cm _ fN fN (λ_=>FD _)]
theorem aIf (x:List dr):(FG x).share=A6 x:=by
 simp only[FG,A6,dI, @cm _ fk fN (λ_=>r4 _)]
theorem aIg (x:List dr):(FG x).dd=true:=by
 simp only[FG,I.dd,I.hV,Bool.and_self, @lg _ fk (λ_=>PA _)]
def FH (x:List b9):I:=.ao 3 (x.map bC)
def A7 (x:List b9):I:=.slice (x.map bC)
theorem aIh (x:List b9):(A7 x).share=A7 x:=by
 simp only[A7,dI, @cm _ bC bC (λ_=>oI _)]
theorem aIi (x:List b9):(FH x).share=A7 x:=by
 simp only[FH,A7,dI, @cm _ bC bC (λ_=>oI _)]
theorem aIj (x:List b9):(FH x).dd=true:=by
 simp only[FH,I.dd,I.hV,Bool.and_self, @lg _ bC (λ_=>PB _)]
def FI (x:List (List UInt8)):I:=.ao 1 (x.map bd)
theorem aIk (x:List (List UInt8)):(FI x).share=A1 x:=by
 simp only[FI,A1,dI, @cm _ bd bd (λ_=>jr _)]
theorem aIl (x:List (List UInt8)):(FI x).dd=true:=by
 simp only[FI,I.dd,I.hV,Bool.and_self, @lg _ bd (λ_=>Pw _)]
def cr (x:b_):I:=.agg [.int .i64 x.Choice,.int .i64 x.c8,.int .i64 x.Second,.str x.Label]
theorem xZ (x:b_):(cr x).share=cr x:=by
 simp only[cr,dI]
theorem aIm (x:b_):(cr x).dd=true:=by
 simp only[cr,I.dd,I.hV,Bool.and_self]
def en (x:cL):I:=.agg [.int .i64 x.scope,.bool x.behind]
theorem PC (x:cL):(en x).share=en x:=by
 simp only[en,dI]
theorem Y1 (x:cL):(en x).dd=true:=by
 simp only[en,I.dd,I.hV,Bool.and_self]
def A8 (x:Bool):I:=.bool x
theorem aIn (x:Bool):(A8 x).share=A8 x:=by
 simp only[A8,dI]
theorem aIo (x:Bool):(A8 x).dd=true:=by
 simp only[A8,I.dd,I.hV,Bool.and_self]
def U (r:List cb) (k:List Nat) (c:J):J:=.seq (.bW r (some k)) c
def kj (r:List cb) (a:List (List Nat)) (k:List Nat) (c:J):J:=.seq (.nR r a (some k)) c
abbrev bl (d t:Nat) (o:gr):cb:=⟨some d,o,some (t,true)⟩
abbrev bn (d t:Nat) (o:gr):cb:=⟨some d,o,some (t,false)⟩
abbrev aIp (n:Nat) (k:List Nat) (f:Func) (c:J):Prop:=bq ⟨n,k⟩ (f.body.getD .skip)=some c.strip
def Y2:J:=U [a_ 4 (-1)] [4] .ret
def Y3:J:=.cond (.t 10) Y2 .skip
def Y4:J:=U [aa 11 1,aA 4 11] [4] .ret
def Y5:J:=.seq (U [aa 9 1,aZ 10 .lss 3 9 0] [1,10] Y3) Y4
def Y6:J:=U [aa 5 1,aa 6 0,bM 7 178 6,bG 8 .sub 3 5 7,aA 1 8] [1] Y5
def Y7:J:=U [a_ 4 0] [0,1] Y6
theorem Y8:bq ⟨12,[0]⟩ (Tryz.f128.body.getD .skip)=some Y7.strip:=by kernel_rfl
def Y9:J:=U [a_ 4 (-1)] [4] .ret
def Y_:J:=.cond (.t 11) Y9 .skip
def Za:J:=.cond (.t 15) .skip (.exit 0)
def Zb:J:=U [a_ 4 (-1)] [4] .ret
def Zc:J:=.cond (.t 25) Zb .skip
def Zd:J:=U [aa 24 1,aZ 25 .lss 3 24 0] [0,1,5,25] Zc
def Ze:J:=.bW [aa 16 5,aZ 17 .add 3 16 1,aA 5 17] (some [0,1,5])
def Zf:J:=.seq (.block 1 (U [aa 18 0,aa 19 5,cq 20 124 18 19,aV 21 178 20,aa 22 1,dB 23 128 21 22,aA 1 23] [0,1,5] Zd)) Ze
def PD:J:=.seq (U [aa 12 5,aa 13 0,bM 14 124 13,bG 15 .lss 3 12 14] [0,1,5,15] Za) Zf
def Zg:J:=.block 0 (.loop PD)
def Zh:J:=U [aa 26 1,aA 4 26] [4] .ret
def Zi:J:=.seq (U [a_ 5 0] [0,1,5] Zg) Zh
def Zj:J:=.seq (U [aa 10 1,aZ 11 .lss 3 10 0] [0,1,11] Y_) Zi
def Zk:J:=U [aa 6 1,aa 7 0,bM 8 124 7,bG 9 .sub 3 6 8,aA 1 9] [0,1] Zj
def Zl:J:=U [a_ 4 0] [0,1] Zk
theorem Zm:bq ⟨27,[0]⟩ (Tryz.f100.body.getD .skip)=some Zl.strip:=by kernel_rfl
def Zn:J:=U [a_ 4 (-1)] [4] .ret
def Zo:J:=.cond (.t 11) Zn .skip
def Zp:J:=U [a_ 4 (-1)] [4] .ret
def Zq:J:=.cond (.t 17) Zp .skip
def Zr:J:=U [aa 18 1,aA 4 18] [4] .ret
def Zs:J:=.seq (U [aa 16 1,aZ 17 .lss 3 16 0] [1,17] Zq) Zr
def Zt:J:=U [bc 12 126 2 3,aV 13 124 12,aa 14 1,dB 15 100 13 14,aA 1 15] [1] Zs
def Zu:J:=.seq (U [aa 10 1,aZ 11 .lss 3 10 0] [1,2,11] Zo) Zt
def Zv:J:=U [aa 5 1,bc 6 126 2 2,aV 7 9 6,bM 8 9 7,bG 9 .sub 3 5 8,aA 1 9] [1,2] Zu
def Zw:J:=U [ro 2 (.dm 126 (.t 0)),a_ 4 0] [1,2] Zv
theorem Zx:bq ⟨19,[0]⟩ (Tryz.f79.body.getD .skip)=some Zw.strip:=by kernel_rfl
def Zy:J:=U [a_ 4 (-1)] [4] .ret
def Zz:J:=.cond (.t 11) Zy .skip
def ZA:J:=.cond (.t 15) .skip (.exit 0)
def ZB:J:=U [a_ 4 (-1)] [4] .ret
def ZC:J:=.cond (.t 25) ZB .skip
def ZD:J:=U [aa 24 1,aZ 25 .lss 3 24 0] [0,1,5,25] ZC
def ZE:J:=.bW [aa 16 5,aZ 17 .add 3 16 1,aA 5 17] (some [0,1,5])
def ZF:J:=.seq (.block 1 (U [aa 18 0,aa 19 5,cq 20 77 18 19,aV 21 126 20,aa 22 1,dB 23 79 21 22,aA 1 23] [0,1,5] ZD)) ZE
def PE:J:=.seq (U [aa 12 5,aa 13 0,bM 14 77 13,bG 15 .lss 3 12 14] [0,1,5,15] ZA) ZF
def ZG:J:=.block 0 (.loop PE)
def ZH:J:=U [aa 26 1,aA 4 26] [4] .ret
def ZI:J:=.seq (U [a_ 5 0] [0,1,5] ZG) ZH
def ZJ:J:=.seq (U [aa 10 1,aZ 11 .lss 3 10 0] [0,1,11] Zz) ZI
def ZK:J:=U [aa 6 1,aa 7 0,bM 8 77 7,bG 9 .sub 3 6 8,aA 1 9] [0,1] ZJ
def c59:J:=U [a_ 4 0] [0,1] ZK
theorem ZL:bq ⟨27,[0]⟩ (Tryz.f59.body.getD .skip)=some c59.strip:=by kernel_rfl
def ZM:J:=U [a_ 4 (-1)] [4] .ret
def ZN:J:=.cond (.t 11) ZM .skip
def ZO:J:=U [a_ 4 (-1)] [4] .ret
def ZP:J:=.cond (.t 17) ZO .skip
def ZQ:J:=U [aa 18 1,aA 4 18] [4] .ret
def ZR:J:=.seq (U [aa 16 1,aZ 17 .lss 3 16 0] [1,17] ZP) ZQ
def ZS:J:=U [bc 12 79 2 2,aV 13 77 12,aa 14 1,dB 15 59 13 14,aA 1 15] [1] ZR
def ZT:J:=.seq (U [aa 10 1,aZ 11 .lss 3 10 0] [1,2,11] ZN) ZS
def ZU:J:=U [aa 5 1,bc 6 79 2 0,aV 7 9 6,bM 8 9 7,bG 9 .sub 3 5 8,aA 1 9] [1,2] ZT
def ZV:J:=U [ro 2 (.dm 79 (.t 0)),a_ 4 0] [1,2] ZU
theorem ZW:bq ⟨19,[0]⟩ (Tryz.f42.body.getD .skip)=some ZV.strip:=by kernel_rfl
def ZX:J:=U [a_ 4 (-1)] [4] .ret
def ZY:J:=.cond (.t 11) ZX .skip
def ZZ:J:=.cond (.t 15) .skip (.exit 0)
def Z0:J:=U [a_ 4 (-1)] [4] .ret
def Z1:J:=.cond (.t 25) Z0 .skip
def Z2:J:=U [aa 24 1,aZ 25 .lss 3 24 0] [0,1,5,25] Z1
def Z3:J:=.bW [aa 16 5,aZ 17 .add 3 16 1,aA 5 17] (some [0,1,5])
def Z4:J:=.seq (.block 1 (U [aa 18 0,aa 19 5,cq 20 22 18 19,aV 21 79 20,aa 22 1,dB 23 42 21 22,aA 1 23] [0,1,5] Z2)) Z3
def PF:J:=.seq (U [aa 12 5,aa 13 0,bM 14 22 13,bG 15 .lss 3 12 14] [0,1,5,15] ZZ) Z4
def Z5:J:=.block 0 (.loop PF)
def Z6:J:=U [aa 26 1,aA 4 26] [4] .ret
def Z7:J:=.seq (U [a_ 5 0] [0,1,5] Z5) Z6
def Z8:J:=.seq (U [aa 10 1,aZ 11 .lss 3 10 0] [0,1,11] ZY) Z7
def Z9:J:=U [aa 6 1,aa 7 0,bM 8 22 7,bG 9 .sub 3 6 8,aA 1 9] [0,1] Z8
def Z_:J:=U [a_ 4 0] [0,1] Z9
theorem vm:bq ⟨27,[0]⟩ (Tryz.f17.body.getD .skip)=some Z_.strip:=by kernel_rfl
def aaa:J:=U [a_ 4 (-1)] [4] .ret
def aab:J:=.cond (.t 10) aaa .skip
def aac:J:=U [aa 11 1,aA 4 11] [4] .ret
def aad:J:=.seq (U [aa 9 1,aZ 10 .lss 3 9 0] [1,10] aab) aac
def aae:J:=U [aa 5 1,aa 6 0,bM 7 31 6,bG 8 .sub 3 5 7,aA 1 8] [1] aad
def aaf:J:=U [a_ 4 0] [0,1] aae
theorem aag:bq ⟨12,[0]⟩ (Tryz.f60.body.getD .skip)=some aaf.strip:=by kernel_rfl
def aah:J:=U [a_ 4 (-1)] [4] .ret
def aai:J:=.cond (.t 10) aah .skip
def aaj:J:=U [aa 11 1,aA 4 11] [4] .ret
def aak:J:=.seq (U [aa 9 1,aZ 10 .lss 3 9 0] [1,10] aai) aaj
def aal:J:=U [bc 5 82 2 1,aV 6 31 5,aa 7 1,dB 8 60 6 7,aA 1 8] [1] aak
def aam:J:=U [ro 2 (.dm 82 (.t 0)),a_ 4 0] [1,2] aal
theorem vn:bq ⟨12,[0]⟩ (Tryz.f43.body.getD .skip)=some aam.strip:=by kernel_rfl
def aan:J:=U [a_ 4 (-1)] [4] .ret
def aao:J:=.cond (.t 11) aan .skip
def aap:J:=.cond (.t 15) .skip (.exit 0)
def aaq:J:=U [a_ 4 (-1)] [4] .ret
def aar:J:=.cond (.t 25) aaq .skip
def aas:J:=U [aa 24 1,aZ 25 .lss 3 24 0] [0,1,5,25] aar
def aat:J:=.bW [aa 16 5,aZ 17 .add 3 16 1,aA 5 17] (some [0,1,5])
def aau:J:=.seq (.block 1 (U [aa 18 0,aa 19 5,cq 20 23 18 19,aV 21 82 20,aa 22 1,dB 23 43 21 22,aA 1 23] [0,1,5] aas)) aat
def PG:J:=.seq (U [aa 12 5,aa 13 0,bM 14 23 13,bG 15 .lss 3 12 14] [0,1,5,15] aap) aau
def aav:J:=.block 0 (.loop PG)
def aaw:J:=U [aa 26 1,aA 4 26] [4] .ret
def aax:J:=.seq (U [a_ 5 0] [0,1,5] aav) aaw
def aay:J:=.seq (U [aa 10 1,aZ 11 .lss 3 10 0] [0,1,11] aao) aax
def aaz:J:=U [aa 6 1,aa 7 0,bM 8 23 7,bG 9 .sub 3 6 8,aA 1 9] [0,1] aay
def aaA:J:=U [a_ 4 0] [0,1] aaz
theorem aaB:bq ⟨27,[0]⟩ (Tryz.f18.body.getD .skip)=some aaA.strip:=by kernel_rfl
def aaC:J:=U [a_ 4 (-1)] [4] .ret
def aaD:J:=.cond (.t 11) aaC .skip
def aaE:J:=U [a_ 4 (-1)] [4] .ret
def aaF:J:=.cond (.t 18) aaE .skip
def aaG:J:=U [a_ 4 (-1)] [4] .ret
def aaH:J:=.cond (.t 25) aaG .skip
def aaI:J:=U [aa 26 1,aA 4 26] [4] .ret
def aaJ:J:=.seq (U [aa 24 1,aZ 25 .lss 3 24 0] [1,25] aaH) aaI
def aaK:J:=U [aa 19 1,bc 20 85 2 2,aV 21 9 20,bM 22 9 21,bG 23 .sub 3 19 22,aA 1 23] [1] aaJ
def aaL:J:=.seq (U [aa 17 1,aZ 18 .lss 3 17 0] [1,2,18] aaF) aaK
def aaM:J:=U [aa 12 1,bc 13 85 2 1,aV 14 9 13,bM 15 9 14,bG 16 .sub 3 12 15,aA 1 16] [1,2] aaL
def aaN:J:=.seq (U [aa 10 1,aZ 11 .lss 3 10 0] [1,2,11] aaD) aaM
def aaO:J:=U [aa 5 1,bc 6 85 2 0,aV 7 9 6,bM 8 9 7,bG 9 .sub 3 5 8,aA 1 9] [1,2] aaN
def aaP:J:=U [ro 2 (.dm 85 (.t 0)),a_ 4 0] [1,2] aaO
theorem aaQ:bq ⟨27,[0]⟩ (Tryz.f44.body.getD .skip)=some aaP.strip:=by kernel_rfl
def aaR:J:=U [a_ 4 (-1)] [4] .ret
def aaS:J:=.cond (.t 11) aaR .skip
def aaT:J:=.cond (.t 15) .skip (.exit 0)
def aaU:J:=U [a_ 4 (-1)] [4] .ret
def aaV:J:=.cond (.t 25) aaU .skip
def aaW:J:=U [aa 24 1,aZ 25 .lss 3 24 0] [0,1,5,25] aaV
def aaX:J:=.bW [aa 16 5,aZ 17 .add 3 16 1,aA 5 17] (some [0,1,5])
def aaY:J:=.seq (.block 1 (U [aa 18 0,aa 19 5,cq 20 24 18 19,aV 21 85 20,aa 22 1,dB 23 44 21 22,aA 1 23] [0,1,5] aaW)) aaX
def PH:J:=.seq (U [aa 12 5,aa 13 0,bM 14 24 13,bG 15 .lss 3 12 14] [0,1,5,15] aaT) aaY
def aaZ:J:=.block 0 (.loop PH)
def aa0:J:=U [aa 26 1,aA 4 26] [4] .ret
def aa1:J:=.seq (U [a_ 5 0] [0,1,5] aaZ) aa0
def aa2:J:=.seq (U [aa 10 1,aZ 11 .lss 3 10 0] [0,1,11] aaS) aa1
def aa3:J:=U [aa 6 1,aa 7 0,bM 8 24 7,bG 9 .sub 3 6 8,aA 1 9] [0,1] aa2
def aa4:J:=U [a_ 4 0] [0,1] aa3
theorem aa5:bq ⟨27,[0]⟩ (Tryz.f19.body.getD .skip)=some aa4.strip:=by kernel_rfl
def aa6:J:=U [a_ 4 (-1)] [4] .ret
def aa7:J:=.cond (.t 11) aa6 .skip
def aa8:J:=.cond (.t 15) .skip (.exit 0)
def aa9:J:=U [a_ 4 (-1)] [4] .ret
def aa_:J:=.cond (.t 26) aa9 .skip
def aba:J:=U [aa 25 1,aZ 26 .lss 3 25 0] [0,1,5,26] aa_
def abb:J:=.bW [aa 16 5,aZ 17 .add 3 16 1,aA 5 17] (some [0,1,5])
def abc:J:=.seq (.block 1 (U [aa 18 1,aa 19 0,aa 20 5,cq 21 25 19 20,aV 22 9 21,bM 23 9 22,bG 24 .sub 3 18 23,aA 1 24] [0,1,5] aba)) abb
def PI:J:=.seq (U [aa 12 5,aa 13 0,bM 14 25 13,bG 15 .lss 3 12 14] [0,1,5,15] aa8) abc
def abd:J:=.block 0 (.loop PI)
def abe:J:=U [aa 27 1,aA 4 27] [4] .ret
def abf:J:=.seq (U [a_ 5 0] [0,1,5] abd) abe
def abg:J:=.seq (U [aa 10 1,aZ 11 .lss 3 10 0] [0,1,11] aa7) abf
def abh:J:=U [aa 6 1,aa 7 0,bM 8 25 7,bG 9 .sub 3 6 8,aA 1 9] [0,1] abg
def c20:J:=U [a_ 4 0] [0,1] abh
theorem vo:bq ⟨28,[0]⟩ (Tryz.f20.body.getD .skip)=some c20.strip:=by kernel_rfl
def abj:J:=U [a_ 4 (-1)] [4] .ret
def abk:J:=.cond (.t 10) abj .skip
def abl:J:=U [a_ 4 (-1)] [4] .ret
def abm:J:=.cond (.t 16) abl .skip
def abn:J:=U [a_ 4 (-1)] [4] .ret
def abo:J:=.cond (.t 22) abn .skip
def abp:J:=U [a_ 4 (-1)] [4] .ret
def abq:J:=.cond (.t 28) abp .skip
def abr:J:=U [a_ 4 (-1)] [4] .ret
def abt:J:=.cond (.t 34) abr .skip
def abu:J:=U [aa 35 1,aA 4 35] [4] .ret
def abv:J:=.seq (U [aa 33 1,aZ 34 .lss 3 33 0] [1,34] abt) abu
def abw:J:=U [bc 29 27 2 4,aV 30 25 29,aa 31 1,dB 32 20 30 31,aA 1 32] [1] abv
def abx:J:=.seq (U [aa 27 1,aZ 28 .lss 3 27 0] [1,2,28] abq) abw
def aby:J:=U [bc 23 27 2 3,aV 24 25 23,aa 25 1,dB 26 20 24 25,aA 1 26] [1,2] abx
def abz:J:=.seq (U [aa 21 1,aZ 22 .lss 3 21 0] [1,2,22] abo) aby
def abA:J:=U [bc 17 27 2 2,aV 18 24 17,aa 19 1,dB 20 19 18 19,aA 1 20] [1,2] abz
def abB:J:=.seq (U [aa 15 1,aZ 16 .lss 3 15 0] [1,2,16] abm) abA
def abC:J:=U [bc 11 27 2 1,aV 12 23 11,aa 13 1,dB 14 18 12 13,aA 1 14] [1,2] abB
def abD:J:=.seq (U [aa 9 1,aZ 10 .lss 3 9 0] [1,2,10] abk) abC
def abE:J:=U [bc 5 27 2 0,aV 6 22 5,aa 7 1,dB 8 17 6 7,aA 1 8] [1,2] abD
def c4:J:=U [ro 2 (.dm 27 (.t 0)),a_ 4 0] [1,2] abE
theorem ho:bq ⟨36,[0]⟩ (Tryz.f4.body.getD .skip)=some c4.strip:=by kernel_rfl
def abF:J:=U [a_ 4 (-1)] [4] .ret
def abG:J:=.cond (.t 11) abF .skip
def abH:J:=U [aa 12 1,aA 4 12] [4] .ret
def abI:J:=.seq (U [aa 10 1,aZ 11 .lss 3 10 0] [1,11] abG) abH
def abJ:J:=U [aa 5 1,bc 6 55 2 3,aV 7 9 6,bM 8 9 7,bG 9 .sub 3 5 8,aA 1 9] [1] abI
def c21:J:=U [ro 2 (.dm 55 (.t 0)),a_ 4 0] [1,2] abJ
theorem vp:bq ⟨13,[0]⟩ (Tryz.f21.body.getD .skip)=some c21.strip:=by kernel_rfl
def abK:J:=U [a_ 4 (-1)] [4] .ret
def abL:J:=.cond (.t 11) abK .skip
def abM:J:=.cond (.t 15) .skip (.exit 0)
def abN:J:=U [a_ 4 (-1)] [4] .ret
def abO:J:=.cond (.t 25) abN .skip
def abP:J:=U [aa 24 1,aZ 25 .lss 3 24 0] [0,1,5,25] abO
def abQ:J:=.bW [aa 16 5,aZ 17 .add 3 16 1,aA 5 17] (some [0,1,5])
def abR:J:=.seq (.block 1 (U [aa 18 0,aa 19 5,cq 20 28 18 19,aV 21 55 20,aa 22 1,dB 23 21 21 22,aA 1 23] [0,1,5] abP)) abQ
def PJ:J:=.seq (U [aa 12 5,aa 13 0,bM 14 28 13,bG 15 .lss 3 12 14] [0,1,5,15] abM) abR
def abS:J:=.block 0 (.loop PJ)
def abT:J:=U [aa 26 1,aA 4 26] [4] .ret
def abU:J:=.seq (U [a_ 5 0] [0,1,5] abS) abT
def abV:J:=.seq (U [aa 10 1,aZ 11 .lss 3 10 0] [0,1,11] abL) abU
def abW:J:=U [aa 6 1,aa 7 0,bM 8 28 7,bG 9 .sub 3 6 8,aA 1 9] [0,1] abV
def c5:J:=U [a_ 4 0] [0,1] abW
theorem A9:bq ⟨27,[0]⟩ (Tryz.f5.body.getD .skip)=some c5.strip:=by kernel_rfl
def abX:J:=U [aV 10 176 3,dZ 176 2 10] [2] .ret
def abY:J:=U [bc 7 199 1 1,aV 8 2 7,bc 9 176 3 1,dZ 2 9 8] [2,3] abX
def abZ:J:=U [bc 4 199 1 0,aV 5 2 4,bc 6 176 3 0,dZ 2 6 5] [1,2,3] abY
def ab0:J:=U [jJ 3 176] [1,2,3] abZ
def c152:J:=U [ro 1 (.dm 199 (.t 0)),jJ 2 176] [1,2] ab0
theorem ab1:bq ⟨11,[0]⟩ (Tryz.f152.body.getD .skip)=some c152.strip:=by kernel_rfl
def ab2:J:=.cond (.t 11) .skip (.exit 0)
def ab3:J:=.bW [aa 12 4,aZ 13 .add 3 12 1,aA 4 13] (some [0,3,4])
def ab4:J:=.seq (.block 1 (.bW [aa 14 3,aa 15 4,aa 16 0,aa 17 4,cq 18 178 16 17,aV 19 199 18,dJ 20 152 19,cq 21 144 14 15,dZ 176 21 20] (some [0,3,4]))) ab3
def PK:J:=.seq (U [aa 8 4,aa 9 0,bM 10 178 9,bG 11 .lss 3 8 10] [0,3,4,11] ab2) ab4
def ab5:J:=.block 0 (.loop PK)
def ab6:J:=U [aa 22 3,aA 2 22] [2] .ret
def ab7:J:=.seq (U [a_ 4 0] [0,3,4] ab5) ab6
def ab8:J:=U [aa 5 0,bM 6 178 5,ro 7 (.eu 144 (.t 6) (.t 6)),aA 3 7] [0,3] ab7
def ab9:J:=U [il 2] [0] ab8
theorem ab_:bq ⟨23,[0]⟩ (Tryz.f133.body.getD .skip)=some ab9.strip:=by kernel_rfl
def aca:J:=.cond (.t 11) .skip (.exit 0)
def acb:J:=.bW [aa 12 4,aZ 13 .add 3 12 1,aA 4 13] (some [0,3,4])
def acd:J:=.seq (.block 1 (.bW [aa 14 3,aa 15 4,aa 16 0,aa 17 4,cq 18 124 16 17,aV 19 178 18,dJ 20 133 19,cq 21 119 14 15,dZ 144 21 20] (some [0,3,4]))) acb
def PL:J:=.seq (U [aa 8 4,aa 9 0,bM 10 124 9,bG 11 .lss 3 8 10] [0,3,4,11] aca) acd
def ace:J:=.block 0 (.loop PL)
def acf:J:=U [aa 22 3,aA 2 22] [2] .ret
def acg:J:=.seq (U [a_ 4 0] [0,3,4] ace) acf
def ach:J:=U [aa 5 0,bM 6 124 5,ro 7 (.eu 119 (.t 6) (.t 6)),aA 3 7] [0,3] acg
def aci:J:=U [il 2] [0] ach
theorem acj:bq ⟨23,[0]⟩ (Tryz.f108.body.getD .skip)=some aci.strip:=by kernel_rfl
def ack:J:=U [aV 17 121 3,dZ 121 2 17] [2] .ret
def acm:J:=U [bc 13 126 1 3,aV 14 124 13,dJ 15 108 14,bc 16 121 3 3,dZ 119 16 15] [2,3] ack
def acn:J:=U [bc 10 126 1 2,aV 11 9 10,bc 12 121 3 2,dZ 9 12 11] [1,2,3] acm
def aco:J:=U [bc 7 126 1 1,aV 8 2 7,bc 9 121 3 1,dZ 2 9 8] [1,2,3] acn
def acp:J:=U [bc 4 126 1 0,aV 5 2 4,bc 6 121 3 0,dZ 2 6 5] [1,2,3] aco
def acq:J:=U [jJ 3 121] [1,2,3] acp
def acr:J:=U [ro 1 (.dm 126 (.t 0)),jJ 2 121] [1,2] acq
theorem acs:bq ⟨18,[0]⟩ (Tryz.f86.body.getD .skip)=some acr.strip:=by kernel_rfl
def acu:J:=.cond (.t 11) .skip (.exit 0)
def acv:J:=.bW [aa 12 4,aZ 13 .add 3 12 1,aA 4 13] (some [0,3,4])
def acw:J:=.seq (.block 1 (.bW [aa 14 3,aa 15 4,aa 16 0,aa 17 4,cq 18 77 16 17,aV 19 126 18,dJ 20 86 19,cq 21 89 14 15,dZ 121 21 20] (some [0,3,4]))) acv
def PM:J:=.seq (U [aa 8 4,aa 9 0,bM 10 77 9,bG 11 .lss 3 8 10] [0,3,4,11] acu) acw
def acx:J:=.block 0 (.loop PM)
def acy:J:=U [aa 22 3,aA 2 22] [2] .ret
def acz:J:=.seq (U [a_ 4 0] [0,3,4] acx) acy
def acA:J:=U [aa 5 0,bM 6 77 5,ro 7 (.eu 89 (.t 6) (.t 6)),aA 3 7] [0,3] acz
def acB:J:=U [il 2] [0] acA
theorem acC:bq ⟨23,[0]⟩ (Tryz.f67.body.getD .skip)=some acB.strip:=by kernel_rfl
def acD:J:=U [aV 14 91 3,dZ 91 2 14] [2] .ret
def acE:J:=U [bc 10 79 1 2,aV 11 77 10,dJ 12 67 11,bc 13 91 3 2,dZ 89 13 12] [2,3] acD
def acF:J:=U [bc 7 79 1 1,aV 8 2 7,bc 9 91 3 1,dZ 2 9 8] [1,2,3] acE
def acG:J:=U [bc 4 79 1 0,aV 5 9 4,bc 6 91 3 0,dZ 9 6 5] [1,2,3] acF
def acH:J:=U [jJ 3 91] [1,2,3] acG
def acI:J:=U [ro 1 (.dm 79 (.t 0)),jJ 2 91] [1,2] acH
theorem vq:bq ⟨15,[0]⟩ (Tryz.f47.body.getD .skip)=some acI.strip:=by kernel_rfl
def acJ:J:=.cond (.t 11) .skip (.exit 0)
def acK:J:=.bW [aa 12 4,aZ 13 .add 3 12 1,aA 4 13] (some [0,3,4])
def acL:J:=.seq (.block 1 (.bW [aa 14 3,aa 15 4,aa 16 0,aa 17 4,cq 18 22 16 17,aV 19 79 18,dJ 20 47 19,cq 21 34 14 15,dZ 91 21 20] (some [0,3,4]))) acK
def PN:J:=.seq (U [aa 8 4,aa 9 0,bM 10 22 9,bG 11 .lss 3 8 10] [0,3,4,11] acJ) acL
def acM:J:=.block 0 (.loop PN)
def acN:J:=U [aa 22 3,aA 2 22] [2] .ret
def acO:J:=.seq (U [a_ 4 0] [0,3,4] acM) acN
def acP:J:=U [aa 5 0,bM 6 22 5,ro 7 (.eu 34 (.t 6) (.t 6)),aA 3 7] [0,3] acO
def c24:J:=U [il 2] [0] acP
theorem vr:bq ⟨23,[0]⟩ (Tryz.f24.body.getD .skip)=some c24.strip:=by kernel_rfl
def acQ:J:=.cond (.t 11) .skip (.exit 0)
def acR:J:=.bW [aa 12 4,aZ 13 .add 3 12 1,aA 4 13] (some [0,3,4])
def acS:J:=.seq (.block 1 (.bW [aa 14 3,aa 15 4,aa 16 0,aa 17 4,cq 18 31 16 17,aV 19 2 18,cq 20 31 14 15,dZ 2 20 19] (some [0,3,4]))) acR
def PO:J:=.seq (U [aa 8 4,aa 9 0,bM 10 31 9,bG 11 .lss 3 8 10] [0,3,4,11] acQ) acS
def acT:J:=.block 0 (.loop PO)
def acU:J:=U [aa 21 3,aA 2 21] [2] .ret
def acV:J:=.seq (U [a_ 4 0] [0,3,4] acT) acU
def acW:J:=U [aa 5 0,bM 6 31 5,ro 7 (.eu 31 (.t 6) (.t 6)),aA 3 7] [0,3] acV
def acX:J:=U [il 2] [0] acW
theorem acY:bq ⟨22,[0]⟩ (Tryz.f68.body.getD .skip)=some acX.strip:=by kernel_rfl
def acZ:J:=U [aV 11 93 3,dZ 93 2 11] [2] .ret
def ac0:J:=U [bc 7 82 1 1,aV 8 31 7,dJ 9 68 8,bc 10 93 3 1,dZ 31 10 9] [2,3] acZ
def ac1:J:=U [bc 4 82 1 0,aV 5 2 4,bc 6 93 3 0,dZ 2 6 5] [1,2,3] ac0
def ac2:J:=U [jJ 3 93] [1,2,3] ac1
def ac3:J:=U [ro 1 (.dm 82 (.t 0)),jJ 2 93] [1,2] ac2
theorem ac4:bq ⟨12,[0]⟩ (Tryz.f48.body.getD .skip)=some ac3.strip:=by kernel_rfl
def ac5:J:=.cond (.t 11) .skip (.exit 0)
def ac6:J:=.bW [aa 12 4,aZ 13 .add 3 12 1,aA 4 13] (some [0,3,4])
def ac7:J:=.seq (.block 1 (.bW [aa 14 3,aa 15 4,aa 16 0,aa 17 4,cq 18 23 16 17,aV 19 82 18,dJ 20 48 19,cq 21 35 14 15,dZ 93 21 20] (some [0,3,4]))) ac6
def PQ:J:=.seq (U [aa 8 4,aa 9 0,bM 10 23 9,bG 11 .lss 3 8 10] [0,3,4,11] ac5) ac7
def ac8:J:=.block 0 (.loop PQ)
def ac9:J:=U [aa 22 3,aA 2 22] [2] .ret
def ac_:J:=.seq (U [a_ 4 0] [0,3,4] ac8) ac9
def ada:J:=U [aa 5 0,bM 6 23 5,ro 7 (.eu 35 (.t 6) (.t 6)),aA 3 7] [0,3] ac_
def adb:J:=U [il 2] [0] ada
theorem vt:bq ⟨23,[0]⟩ (Tryz.f25.body.getD .skip)=some adb.strip:=by kernel_rfl
def ade:J:=U [aV 13 95 3,dZ 95 2 13] [2] .ret
def adf:J:=U [bc 10 85 1 2,aV 11 9 10,bc 12 95 3 2,dZ 9 12 11] [2,3] ade
def adg:J:=U [bc 7 85 1 1,aV 8 9 7,bc 9 95 3 1,dZ 9 9 8] [1,2,3] adf
def adh:J:=U [bc 4 85 1 0,aV 5 9 4,bc 6 95 3 0,dZ 9 6 5] [1,2,3] adg
def adi:J:=U [jJ 3 95] [1,2,3] adh
def c49:J:=U [ro 1 (.dm 85 (.t 0)),jJ 2 95] [1,2] adi
theorem adj:bq ⟨14,[0]⟩ (Tryz.f49.body.getD .skip)=some c49.strip:=by kernel_rfl
def adk:J:=.cond (.t 11) .skip (.exit 0)
def adl:J:=.bW [aa 12 4,aZ 13 .add 3 12 1,aA 4 13] (some [0,3,4])
def adm:J:=.seq (.block 1 (.bW [aa 14 3,aa 15 4,aa 16 0,aa 17 4,cq 18 24 16 17,aV 19 85 18,dJ 20 49 19,cq 21 36 14 15,dZ 95 21 20] (some [0,3,4]))) adl
def PR:J:=.seq (U [aa 8 4,aa 9 0,bM 10 24 9,bG 11 .lss 3 8 10] [0,3,4,11] adk) adm
def adn:J:=.block 0 (.loop PR)
def ado:J:=U [aa 22 3,aA 2 22] [2] .ret
def adp:J:=.seq (U [a_ 4 0] [0,3,4] adn) ado
def adq:J:=U [aa 5 0,bM 6 24 5,ro 7 (.eu 36 (.t 6) (.t 6)),aA 3 7] [0,3] adp
def adr:J:=U [il 2] [0] adq
theorem oJ:bq ⟨23,[0]⟩ (Tryz.f26.body.getD .skip)=some adr.strip:=by kernel_rfl
def ads:J:=.cond (.t 11) .skip (.exit 0)
def adt:J:=.bW [aa 12 4,aZ 13 .add 3 12 1,aA 4 13] (some [0,3,4])
def adu:J:=.seq (.block 1 (.bW [aa 14 3,aa 15 4,aa 16 0,aa 17 4,cq 18 25 16 17,aV 19 9 18,cq 20 25 14 15,dZ 9 20 19] (some [0,3,4]))) adt
def PS:J:=.seq (U [aa 8 4,aa 9 0,bM 10 25 9,bG 11 .lss 3 8 10] [0,3,4,11] ads) adu
def adv:J:=.block 0 (.loop PS)
def adw:J:=U [aa 21 3,aA 2 21] [2] .ret
def adx:J:=.seq (U [a_ 4 0] [0,3,4] adv) adw
def ady:J:=U [aa 5 0,bM 6 25 5,ro 7 (.eu 25 (.t 6) (.t 6)),aA 3 7] [0,3] adx
def adz:J:=U [il 2] [0] ady
theorem adA:bq ⟨22,[0]⟩ (Tryz.f27.body.getD .skip)=some adz.strip:=by kernel_rfl
def adB:J:=U [aV 24 38 3,dZ 38 2 24] [2] .ret
def adC:J:=U [bc 20 27 1 4,aV 21 25 20,dJ 22 27 21,bc 23 38 3 4,dZ 25 23 22] [2,3] adB
def adD:J:=U [bc 16 27 1 3,aV 17 25 16,dJ 18 27 17,bc 19 38 3 3,dZ 25 19 18] [1,2,3] adC
def adE:J:=U [bc 12 27 1 2,aV 13 24 12,dJ 14 26 13,bc 15 38 3 2,dZ 36 15 14] [1,2,3] adD
def adF:J:=U [bc 8 27 1 1,aV 9 23 8,dJ 10 25 9,bc 11 38 3 1,dZ 35 11 10] [1,2,3] adE
def adG:J:=U [bc 4 27 1 0,aV 5 22 4,dJ 6 24 5,bc 7 38 3 0,dZ 34 7 6] [1,2,3] adF
def adH:J:=U [jJ 3 38] [1,2,3] adG
def HU:J:=U [ro 1 (.dm 27 (.t 0)),jJ 2 38] [1,2] adH
theorem adI:bq ⟨25,[0]⟩ (Tryz.f7.body.getD .skip)=some HU.strip:=by kernel_rfl
def adJ:J:=U [aV 16 59 3,dZ 59 2 16] [2] .ret
def adK:J:=U [bc 13 55 1 3,aV 14 9 13,bc 15 59 3 3,dZ 9 15 14] [2,3] adJ
def adL:J:=U [bc 10 55 1 2,aV 11 2 10,bc 12 59 3 2,dZ 2 12 11] [1,2,3] adK
def adM:J:=U [bc 7 55 1 1,aV 8 2 7,bc 9 59 3 1,dZ 2 9 8] [1,2,3] adL
def adN:J:=U [bc 4 55 1 0,aV 5 2 4,bc 6 59 3 0,dZ 2 6 5] [1,2,3] adM
def adO:J:=U [jJ 3 59] [1,2,3] adN
def c28:J:=U [ro 1 (.dm 55 (.t 0)),jJ 2 59] [1,2] adO
theorem lR:bq ⟨17,[0]⟩ (Tryz.f28.body.getD .skip)=some c28.strip:=by kernel_rfl
def adP:J:=.cond (.t 11) .skip (.exit 0)
def adQ:J:=.bW [aa 12 4,aZ 13 .add 3 12 1,aA 4 13] (some [0,3,4])
def adR:J:=.seq (.block 1 (.bW [aa 14 3,aa 15 4,aa 16 0,aa 17 4,cq 18 28 16 17,aV 19 55 18,dJ 20 28 19,cq 21 40 14 15,dZ 59 21 20] (some [0,3,4]))) adQ
def PT:J:=.seq (U [aa 8 4,aa 9 0,bM 10 28 9,bG 11 .lss 3 8 10] [0,3,4,11] adP) adR
def adS:J:=.block 0 (.loop PT)
def adT:J:=U [aa 22 3,aA 2 22] [2] .ret
def adU:J:=.seq (U [a_ 4 0] [0,3,4] adS) adT
def adV:J:=U [aa 5 0,bM 6 28 5,ro 7 (.eu 40 (.t 6) (.t 6)),aA 3 7] [0,3] adU
def HV:J:=U [il 2] [0] adV
theorem A_:bq ⟨23,[0]⟩ (Tryz.f8.body.getD .skip)=some HV.strip:=by kernel_rfl
def adW:J:=U [aa 3 0,ro 4 (.bV .geq 5 (.t 3) (.c (.int .u8 97))),aa 5 4,bl 6 5 (.bS (.t 0)),bl 7 5 (.bV .leq 5 (.t 6) (.c (.int .u8 122))),ro 8 (.pick (.t 5) (.t 7) (.c (.bool false))),aA 2 8] [2] .ret
def adX:J:=U [br 2 false] [0] adW
theorem adY:bq ⟨9,[0]⟩ (Tryz.f101.body.getD .skip)=some adX.strip:=by kernel_rfl
def adZ:J:=U [aa 3 0,ro 4 (.bV .geq 5 (.t 3) (.c (.int .u8 48))),aa 5 4,bl 6 5 (.bS (.t 0)),bl 7 5 (.bV .leq 5 (.t 6) (.c (.int .u8 57))),ro 8 (.pick (.t 5) (.t 7) (.c (.bool false))),aA 2 8] [2] .ret
def ad0:J:=U [br 2 false] [0] adZ
theorem ad1:bq ⟨9,[0]⟩ (Tryz.f102.body.getD .skip)=some ad0.strip:=by kernel_rfl
def ad2:J:=U [br 2 false] [2] .ret
def ad3:J:=.cond (.t 16) ad2 .skip
def ad4:J:=.cond (.t 20) .skip (.exit 0)
def ad5:J:=U [br 2 false] [2] .ret
def ad6:J:=.cond (.t 34) ad5 .skip
def ad7:J:=.bW [aa 21 3,aZ 22 .add 3 21 1,aA 3 22] (some [0,3])
def ad8:J:=.seq (.block 1 (U [aa 23 0,aa 24 3,s8 25 9 23 24,dJ 26 101 25,eF 27 26,aa 28 27,bl 29 28 (.bS (.t 0)),bl 30 28 (.bS (.t 3)),bl 31 28 (.idx 9 (.t 29) (.t 30)),⟨some 32,.call (.f 102) [(.t 31)],some (28,true)⟩,bl 33 28 (.un .not (.t 32)),ro 34 (.pick (.t 28) (.t 33) (.c (.bool false)))] [0,3,34] ad6)) ad7
def PU:J:=.seq (U [aa 17 3,aa 18 0,bM 19 9 18,bG 20 .lss 3 17 19] [0,3,20] ad4) ad8
def ad9:J:=.block 0 (.loop PU)
def ad_:J:=U [br 2 true] [2] .ret
def aea:J:=.seq (U [a_ 3 0] [0,3] ad9) ad_
def aeb:J:=.seq (U [aa 4 0,ro 5 (.bV .eql 9 (.t 4) (.c (.str []))),aa 6 5,bn 7 6 (.bS (.t 0)),bn 8 6 (.len 9 (.t 7)),bn 9 6 (.bV .gtr 3 (.t 8) (.c (.int .i64 10))),ro 10 (.pick (.t 6) (.c (.bool true)) (.t 9)),aa 11 10,bn 12 11 (.bS (.t 0)),bn 13 11 (.idx 9 (.t 12) (.c (.int .i64 0))),⟨some 14,.call (.f 101) [(.t 13)],some (11,false)⟩,bn 15 11 (.un .not (.t 14)),ro 16 (.pick (.t 11) (.c (.bool true)) (.t 15))] [0,16] ad3) aea
def c80:J:=U [br 2 false] [0] aeb
theorem aec:bq ⟨35,[0]⟩ (Tryz.f80.body.getD .skip)=some c80.strip:=by kernel_rfl
def aed:J:=U [aa 7 0,aa 8 1,bG 9 .geq 2 7 8,aa 10 9,bl 11 10 (.bS (.t 0)),bl 12 10 (.bS (.t 2)),bl 13 10 (.bV .leq 2 (.t 11) (.t 12)),ro 14 (.pick (.t 10) (.t 13) (.c (.bool false))),aA 6 14] [6] .ret
def aee:J:=U [br 6 false] [0,1,2] aed
theorem aef:bq ⟨15,[0,1,2]⟩ (Tryz.f65.body.getD .skip)=some aee.strip:=by kernel_rfl
def aeg:J:=.bW [aZ 10 .eql 2 6 4,aA 7 10] (some [6,7])
def aeh:J:=.cond (.t 7) .skip aeg
def aei:J:=U [aZ 9 .eql 2 6 3,aA 7 9] [6,7] aeh
def aej:J:=.cond (.t 7) .skip aei
def aek:J:=U [a_ 2 1] [2] .ret
def ael:J:=U [a_ 2 2] [2] .ret
def aem:J:=.cond (.t 11) ael .skip
def aen:J:=U [aZ 12 .eql 2 6 2,aA 11 12] [11] aem
def PV:J:=.cond (.t 7) aek aen
def aeo:J:=.block 0 (.seq (U [aZ 8 .eql 2 6 1,aA 7 8] [6,7] aej) PV)
def aep:J:=U [a_ 2 0] [2] .ret
def aeq:J:=.seq (U [aa 3 0,jc 4 3,bc 5 121 4 0,aV 6 2 5] [6] aeo) aep
def aer:J:=U [a_ 2 0] [0] aeq
theorem aes:bq ⟨13,[0]⟩ (Tryz.f129.body.getD .skip)=some aer.strip:=by kernel_rfl
def aet:J:=U [br 2 false] [2] .ret
def aeu:J:=.cond (.t 12) aet .skip
def aev:J:=.cond (.t 16) .skip (.exit 0)
def aew:J:=U [br 2 false] [2] .ret
def aex:J:=.cond (.t 20) aew .skip
def aey:J:=.bW [aa 21 3,aa 22 0,aa 23 4,cq 24 89 22 23,dJ 25 129 24,aZ 26 .sub 2 25 1,bG 27 .add 2 21 26,aA 3 27] (some [0,3,4])
def aez:J:=.bW [aa 17 4,aZ 18 .add 3 17 1,aA 4 18] (some [0,3,4])
def aeA:J:=.seq (.block 1 (.seq (U [aa 19 3,aZ 20 .eql 2 19 0] [0,3,4,20] aex) aey)) aez
def PW:J:=.seq (U [aa 13 4,aa 14 0,bM 15 89 14,bG 16 .lss 3 13 15] [0,3,4,16] aev) aeA
def aeB:J:=.block 0 (.loop PW)
def aeC:J:=U [aa 28 3,aZ 29 .eql 2 28 0,aA 2 29] [2] .ret
def aeD:J:=.seq (U [a_ 4 0] [0,3,4] aeB) aeC
def aeE:J:=U [a_ 3 1] [0,3] aeD
def aeF:J:=.seq (U [aa 5 0,bM 6 89 5,aZ 7 .eql 3 6 0,aa 8 7,bn 9 8 (.bS (.t 0)),bn 10 8 (.len 89 (.t 9)),bn 11 8 (.bV .gtr 3 (.t 10) (.c (.int .i64 20))),ro 12 (.pick (.t 8) (.c (.bool true)) (.t 11))] [0,12] aeu) aeE
def aeG:J:=U [br 2 false] [0] aeF
theorem aeH:bq ⟨30,[0]⟩ (Tryz.f103.body.getD .skip)=some aeG.strip:=by kernel_rfl
def aeI:J:=.bW [aZ 9 .eql 2 6 2,aA 7 9] (some [0,6,7])
def aeJ:J:=.cond (.t 7) .skip aeI
def aeK:J:=U [aa 10 0,jc 11 10,bc 12 121 11 1,aV 13 2 12,aZ 14 .eql 2 13 0,aa 15 14,bl 16 15 (.bS (.t 0)),bl 17 15 (.gg (.t 16)),bl 18 15 (.cY 121 (.t 17) 2),bl 19 15 (.cp 9 (.t 18)),⟨some 20,.bV .eql 9 (.t 19) (.c (.str [])),some (15,true)⟩,ro 21 (.pick (.t 15) (.t 20) (.c (.bool false))),aa 22 21,bl 23 22 (.bS (.t 0)),bl 24 22 (.gg (.t 23)),bl 25 22 (.cY 121 (.t 24) 3),bl 26 22 (.cp 119 (.t 25)),bl 27 22 (.len 119 (.t 26)),bl 28 22 (.bV .eql 3 (.t 27) (.c (.int .i64 0))),ro 29 (.pick (.t 22) (.t 28) (.c (.bool false))),aA 2 29] [2] .ret
def aeL:J:=U [aa 32 0,jc 33 32,bc 34 121 33 1,aV 35 2 34,aZ 36 .eql 2 35 0,aA 2 36] [2] .ret
def aeM:J:=U [aa 39 0,jc 40 39,bc 41 121 40 1,aV 42 2 41,aZ 43 .eql 2 42 0,aa 44 43,bl 45 44 (.bS (.t 0)),bl 46 44 (.gg (.t 45)),bl 47 44 (.cY 121 (.t 46) 2),bl 48 44 (.cp 9 (.t 47)),⟨some 49,.bV .eql 9 (.t 48) (.c (.str [])),some (44,true)⟩,ro 50 (.pick (.t 44) (.t 49) (.c (.bool false))),aA 2 50] [2] .ret
def aeN:J:=U [aa 53 0,jc 54 53,bc 55 121 54 2,aV 56 9 55,ro 57 (.bV .eql 9 (.t 56) (.c (.str []))),aa 58 57,bl 59 58 (.bS (.t 0)),bl 60 58 (.gg (.t 59)),bl 61 58 (.cY 121 (.t 60) 3),bl 62 58 (.cp 119 (.t 61)),bl 63 58 (.len 119 (.t 62)),bl 64 58 (.bV .eql 3 (.t 63) (.c (.int .i64 0))),ro 65 (.pick (.t 58) (.t 64) (.c (.bool false))),aA 2 65] [2] .ret
def aeO:J:=U [aa 68 0,jc 69 68,bc 70 121 69 2,aV 71 9 70,ro 72 (.bV .eql 9 (.t 71) (.c (.str []))),aA 2 72] [2] .ret
def aeP:J:=.cond (.t 66) aeO .skip
def aeQ:J:=U [aZ 67 .eql 2 6 5,aA 66 67] [0,66] aeP
def aeR:J:=.cond (.t 51) aeN aeQ
def aeS:J:=U [aZ 52 .eql 2 6 4,aA 51 52] [0,6,51] aeR
def aeT:J:=.cond (.t 37) aeM aeS
def aeU:J:=U [aZ 38 .eql 2 6 3,aA 37 38] [0,6,37] aeT
def aeV:J:=.cond (.t 30) aeL aeU
def aeW:J:=U [aZ 31 .eql 2 6 1,aA 30 31] [0,6,30] aeV
def PX:J:=.cond (.t 7) aeK aeW
def aeX:J:=.block 0 (.seq (U [aZ 8 .eql 2 6 0,aA 7 8] [0,6,7] aeJ) PX)
def aeY:J:=U [br 2 false] [2] .ret
def aeZ:J:=.seq (U [aa 3 0,jc 4 3,bc 5 121 4 0,aV 6 2 5] [0,6] aeX) aeY
def c130:J:=U [br 2 false] [0] aeZ
theorem ae0:bq ⟨73,[0]⟩ (Tryz.f130.body.getD .skip)=some c130.strip:=by kernel_rfl
def ae1:J:=.cond (.t 7) .skip (.exit 0)
def ae2:J:=.bW [aa 15 1,aZ 16 .add 2 15 1,aA 1 16] (some [0,1,5])
def ae3:J:=.block 1 (U [aa 8 5,aa 9 0,aa 10 1,cq 11 89 9 10,dJ 12 129 11,aZ 13 .sub 2 12 1,bG 14 .add 2 8 13,aA 5 14] [0,1,5] ae2)
def PY:J:=.seq (U [aa 6 5,aZ 7 .gtr 2 6 0] [0,1,5,7] ae1) ae3
def ae4:J:=U [aa 17 1,aA 4 17] [4] .ret
def ae5:J:=.seq (.block 0 (.loop PY)) ae4
def ae6:J:=U [a_ 5 1] [0,1,5] ae5
def ae7:J:=U [a_ 4 0] [0,1] ae6
theorem ae8:bq ⟨18,[0]⟩ (Tryz.f149.body.getD .skip)=some ae7.strip:=by kernel_rfl
def ae9:J:=.cond (.t 13) .skip (.exit 0)
def ae_:J:=.bW [aa 35 5,aZ 36 .add 2 35 1,aA 5 36] (some [0,1,5,6])
def afa:J:=.cond (.t 34) ae_ .skip
def PZ:J:=.bW [aa 14 6,aZ 15 .add 2 14 1,aA 6 15] (some [0,1,5,6])
def afb:J:=.seq (.block 1 (U [aa 16 0,jc 17 16,bc 18 91 17 2,aV 19 89 18,aa 20 6,cq 21 89 19 20,bc 22 121 21 0,aV 23 2 22,aZ 24 .eql 2 23 4,aa 25 24,bl 26 25 (.bS (.t 0)),bl 27 25 (.gg (.t 26)),bl 28 25 (.cY 91 (.t 27) 2),bl 29 25 (.cp 89 (.t 28)),bl 30 25 (.bS (.t 6)),⟨some 31,.call (.f 149) [(.t 29),(.t 30)],some (25,true)⟩,bl 32 25 (.bS (.t 1)),bl 33 25 (.bV .gtr 2 (.t 31) (.t 32)),ro 34 (.pick (.t 25) (.t 33) (.c (.bool false)))] [0,1,5,6,34] afa)) PZ
def P0:J:=.seq (U [aa 11 6,aa 12 1,bG 13 .lss 2 11 12] [0,1,5,6,13] ae9) afb
def afc:J:=.block 0 (.loop P0)
def afd:J:=U [aa 37 5,aA 4 37] [4] .ret
def afe:J:=.seq (U [a_ 6 0] [0,1,5,6] afc) afd
def aff:J:=U [aa 7 0,jc 8 7,bc 9 91 8 1,aV 10 2 9,aA 5 10] [0,1,5] afe
def c131:J:=U [a_ 4 0] [0,1] aff
theorem afg:bq ⟨38,[0,1]⟩ (Tryz.f131.body.getD .skip)=some c131.strip:=by kernel_rfl
def afh:J:=U [aa 11 0,jc 12 11,bc 13 176 12 1,aV 14 2 13,ro 15 (.call (.f 65) [(.t 14),(.c (.int .i64 0)),(.c (.int .i64 63))]),aA 4 15] [4] .ret
def afi:J:=U [aa 18 0,jc 19 18,bc 20 176 19 1,aV 21 2 20,aa 22 1,aZ 23 .sub 2 22 1,ro 24 (.call (.f 65) [(.t 21),(.c (.int .i64 0)),(.t 23)]),aA 4 24] [4] .ret
def afj:J:=U [aa 27 0,jc 28 27,bc 29 176 28 1,aV 30 2 29,ro 31 (.call (.f 65) [(.t 30),(.c (.int .i64 0)),(.c (.int .i64 8))]),aA 4 31] [4] .ret
def afk:J:=U [aa 34 0,jc 35 34,bc 36 176 35 1,aV 37 2 36,aZ 38 .eql 2 37 0,aA 4 38] [4] .ret
def afl:J:=.cond (.t 32) afk .skip
def afm:J:=U [aZ 33 .eql 2 8 3,aA 32 33] [0,32] afl
def afn:J:=.cond (.t 25) afj afm
def afo:J:=U [aZ 26 .eql 2 8 2,aA 25 26] [0,8,25] afn
def afp:J:=.cond (.t 16) afi afo
def afq:J:=U [aZ 17 .eql 2 8 1,aA 16 17] [0,1,8,16] afp
def afr:J:=.cond (.t 9) afh afq
def afs:J:=.block 0 (U [aZ 10 .eql 2 8 0,aA 9 10] [0,1,8,9] afr)
def aft:J:=U [br 4 false] [4] .ret
def afu:J:=.seq (U [aa 5 0,jc 6 5,bc 7 176 6 0,aV 8 2 7] [0,1,8] afs) aft
def afv:J:=U [br 4 false] [0,1] afu
theorem afw:bq ⟨39,[0,1]⟩ (Tryz.f150.body.getD .skip)=some afv.strip:=by kernel_rfl
def afx:J:=U [a_ 2 2] [2] .ret
def afy:J:=U [a_ 2 1] [2] .ret
def afz:J:=.cond (.t 9) afy .skip
def afA:J:=U [aZ 10 .eql 2 6 3,aA 9 10] [9] afz
def afB:J:=.cond (.t 7) afx afA
def afC:J:=.block 0 (U [aZ 8 .eql 2 6 2,aA 7 8] [6,7] afB)
def afD:J:=U [a_ 2 0] [2] .ret
def afE:J:=.seq (U [aa 3 0,jc 4 3,bc 5 176 4 0,aV 6 2 5] [6] afC) afD
def afF:J:=U [a_ 2 0] [0] afE
theorem afG:bq ⟨11,[0]⟩ (Tryz.f151.body.getD .skip)=some afF.strip:=by kernel_rfl
def afH:J:=U [br 6 false] [6] .ret
def afI:J:=.cond (.t 12) afH .skip
def afJ:J:=.cond (.t 16) .skip (.exit 0)
def afK:J:=U [br 6 false] [6] .ret
def afL:J:=.cond (.t 28) afK .skip
def afM:J:=.bW [aa 29 7,aa 30 0,aa 31 8,cq 32 144 30 31,dJ 33 151 32,aZ 34 .sub 2 33 1,bG 35 .add 2 29 34,aA 7 35] (some [0,1,7,8])
def afN:J:=.bW [aa 17 8,aZ 18 .add 3 17 1,aA 8 18] (some [0,1,7,8])
def afO:J:=.seq (.block 1 (.seq (U [aa 19 7,aZ 20 .eql 2 19 0,aa 21 20,bn 22 21 (.bS (.t 0)),bn 23 21 (.bS (.t 8)),bn 24 21 (.fp 144 (.t 22) (.t 23)),bn 25 21 (.bS (.t 1)),⟨some 26,.call (.f 150) [(.t 24),(.t 25)],some (21,false)⟩,bn 27 21 (.un .not (.t 26)),ro 28 (.pick (.t 21) (.c (.bool true)) (.t 27))] [0,1,7,8,28] afL) afM)) afN
def P1:J:=.seq (U [aa 13 8,aa 14 0,bM 15 144 14,bG 16 .lss 3 13 15] [0,1,7,8,16] afJ) afO
def afP:J:=.block 0 (.loop P1)
def afQ:J:=U [aa 36 7,aZ 37 .eql 2 36 0,aA 6 37] [6] .ret
def afR:J:=.seq (U [a_ 8 0] [0,1,7,8] afP) afQ
def afS:J:=U [a_ 7 1] [0,1,7] afR
def afT:J:=.seq (U [aa 9 0,bM 10 144 9,aa 11 2,bG 12 .gtr 2 10 11] [0,1,12] afI) afS
def afU:J:=U [br 6 false] [0,1,2] afT
theorem afV:bq ⟨38,[0,1,2]⟩ (Tryz.f132.body.getD .skip)=some afU.strip:=by kernel_rfl
def afW:J:=U [a_ 6 2] [6] .ret
def afX:J:=.cond (.t 19) afW .skip
def afY:J:=U [a_ 6 3] [6] .ret
def P2:J:=.cond (.t 28) afY .skip
def afZ:J:=U [a_ 6 4] [6] .ret
def P3:J:=.cond (.t 51) afZ .skip
def af0:J:=U [a_ 6 5] [6] .ret
def af1:J:=.cond (.t 69) af0 .skip
def af2:J:=U [aa 59 8,aZ 60 .gtr 2 59 2,aa 61 60,bn 62 61 (.bS (.t 8)),bn 63 61 (.bV .gtr 2 (.t 62) (.c (.int .i64 0))),bn 64 61 (.bS (.t 63)),bl 65 64 (.cY 121 (.t 7) 2),bl 66 64 (.cp 9 (.t 65)),⟨some 67,.bV .eql 9 (.t 66) (.c (.str [116,97,117])),some (64,true)⟩,bn 68 61 (.pick (.t 64) (.t 67) (.c (.bool false))),ro 69 (.pick (.t 61) (.c (.bool true)) (.t 68))] [1,2,7,8,69] af1
def af3:J:=U [a_ 6 5] [6] .ret
def af4:J:=.cond (.t 73) af3 .skip
def af5:J:=U [aa 72 8,aZ 73 .neq 2 72 1] [1,2,7,8,73] af4
def af6:J:=U [a_ 6 5] [6] .ret
def af7:J:=.cond (.t 83) af6 .skip
def af8:J:=U [aa 76 8,aa 77 0,bc 78 121 7 1,aV 79 2 78,cq 80 34 77 79,bc 81 91 80 1,aV 82 2 81,bG 83 .neq 2 76 82] [1,2,7,8,83] af7
def af9:J:=.cond (.t 74) af8 .skip
def af_:J:=U [aZ 75 .eql 2 56 5,aA 74 75] [0,1,2,7,8,74] af9
def aga:J:=.cond (.t 70) af5 af_
def agb:J:=U [aZ 71 .eql 2 56 3,aA 70 71] [0,1,2,7,8,56,70] aga
def agc:J:=.cond (.t 57) af2 agb
def agd:J:=.block 0 (U [aZ 58 .eql 2 56 1,aA 57 58] [0,1,2,7,8,56,57] agc)
def age:J:=U [a_ 6 6] [6] .ret
def P4:J:=.cond (.t 102) age .skip
def agf:J:=U [a_ 6 7] [6] .ret
def agh:J:=.cond (.t 112) agf .skip
def agi:J:=.cond (.t 115) .skip (.exit 1)
def agj:J:=U [a_ 6 8] [6] .ret
def agk:J:=.cond (.t 125) agj .skip
def agl:J:=.bW [aa 116 10,aZ 117 .add 2 116 1,aA 10 117] (some [7,8,9,10])
def agm:J:=.seq (.block 2 (U [bc 118 121 7 3,aV 119 119 118,aa 120 10,cq 121 119 119 120,aV 122 144 121,aa 123 9,ro 124 (.call (.f 132) [(.t 122),(.t 123),(.c (.int .i64 15))]),eF 125 124] [7,8,9,10,125] agk)) agl
def P5:J:=.seq (U [aa 113 10,aa 114 8,bG 115 .lss 2 113 114] [7,8,9,10,115] agi) agm
def agn:J:=.block 1 (.loop P5)
def ago:J:=U [a_ 6 0] [6] .ret
def agp:J:=.seq (U [a_ 10 0] [7,8,9,10] agn) ago
def agq:J:=.seq (U [bc 106 121 7 0,aV 107 2 106,aZ 108 .eql 2 107 4,aa 109 108,bl 110 109 (.bS (.t 9)),bl 111 109 (.bV .geq 2 (.t 110) (.c (.int .i64 6))),ro 112 (.pick (.t 109) (.t 111) (.c (.bool false)))] [7,8,9,112] agh) agp
def agr:J:=U [aa 103 1,aa 104 2,dB 105 131 103 104,aA 9 105] [7,8,9] agq
def P6:J:=.seq (U [bc 84 121 7 0,aV 85 2 84,aZ 86 .eql 2 85 5,aa 87 86,bl 88 87 (.bS (.t 2)),bl 89 87 (.bV .eql 2 (.t 88) (.c (.int .i64 0))),bl 90 87 (.bS (.t 89)),bn 91 90 (.bS (.t 1)),bn 92 90 (.gg (.t 91)),bn 93 90 (.cY 91 (.t 92) 2),bn 94 90 (.cp 89 (.t 93)),bn 95 90 (.bS (.t 2)),bn 96 90 (.bV .sub 2 (.t 95) (.c (.int .i64 1))),bn 97 90 (.fp 89 (.t 94) (.t 96)),bn 98 90 (.cY 121 (.t 97) 0),bn 99 90 (.cp 2 (.t 98)),bn 100 90 (.bV .neq 2 (.t 99) (.c (.int .i64 1))),bl 101 87 (.pick (.t 90) (.c (.bool true)) (.t 100)),ro 102 (.pick (.t 87) (.t 101) (.c (.bool false)))] [1,2,7,8,102] P4) agr
def ags:J:=.seq (U [bc 55 121 7 0,aV 56 2 55] [0,1,2,7,8,56] agd) P6
def agt:J:=U [bc 52 121 7 3,aV 53 119 52,bM 54 119 53,aA 8 54] [0,1,2,7,8] ags
def agu:J:=.seq (U [bc 29 121 7 0,aV 30 2 29,aZ 31 .eql 2 30 4,aa 32 31,bl 33 32 (.cY 121 (.t 7) 1),bl 34 32 (.cp 2 (.t 33)),⟨some 35,.call (.f 65) [(.t 34),(.c (.int .i64 1)),(.c (.int .i64 7))],some (32,true)⟩,bl 36 32 (.un .not (.t 35)),ro 37 (.pick (.t 32) (.t 36) (.c (.bool false))),aa 38 37,bn 39 38 (.cY 121 (.t 7) 0),bn 40 38 (.cp 2 (.t 39)),bn 41 38 (.bV .eql 2 (.t 40) (.c (.int .i64 5))),bn 42 38 (.bS (.t 41)),bl 43 42 (.cY 121 (.t 7) 1),bl 44 42 (.cp 2 (.t 43)),bl 45 42 (.bS (.t 0)),bl 46 42 (.len 34 (.t 45)),bl 47 42 (.bV .sub 2 (.t 46) (.c (.int .i64 1))),⟨some 48,.call (.f 65) [(.t 44),(.c (.int .i64 0)),(.t 47)],some (42,true)⟩,bl 49 42 (.un .not (.t 48)),bn 50 38 (.pick (.t 42) (.t 49) (.c (.bool false))),ro 51 (.pick (.t 38) (.c (.bool true)) (.t 50))] [0,1,2,7,51] P3) agt
def agv:J:=.seq (U [bc 20 121 7 0,aV 21 2 20,aZ 22 .eql 2 21 1,aa 23 22,bl 24 23 (.cY 121 (.t 7) 2),bl 25 23 (.cp 9 (.t 24)),⟨some 26,.call (.f 80) [(.t 25)],some (23,true)⟩,bl 27 23 (.un .not (.t 26)),ro 28 (.pick (.t 23) (.t 27) (.c (.bool false)))] [0,1,2,7,28] P2) agu
def agw:J:=.seq (U [dJ 18 130 7,eF 19 18] [0,1,2,7,19] afX) agv
def agx:J:=U [aa 11 1,jc 12 11,bc 13 91 12 2,aV 14 89 13,aa 15 2,cq 16 89 14 15,aV 17 121 16,jJ 7 121,dZ 121 7 17] [0,1,2,7] agw
def agy:J:=U [a_ 6 0] [0,1,2] agx
theorem agz:bq ⟨126,[0,1,2]⟩ (Tryz.f104.body.getD .skip)=some agy.strip:=by kernel_rfl
def agA:J:=U [a_ 4 0,a_ 5 1] [4,5] .ret
def agB:J:=.cond (.t 13) agA .skip
def agC:J:=.cond (.t 20) .skip (.exit 0)
def agD:J:=U [aa 29 6,aa 30 7,aA 4 29,aA 5 30] [4,5] .ret
def agE:J:=.cond (.t 28) agD .skip
def agF:J:=U [aa 27 7,aZ 28 .gtr 2 27 0] [0,1,6,7,28] agE
def agG:J:=.bW [aa 21 6,aZ 22 .add 2 21 1,aA 6 22] (some [0,1,6])
def agH:J:=.seq (.block 1 (U [aa 23 0,aa 24 1,aa 25 6,OY 26 104 23 24 25,aA 7 26] [0,1,6,7] agF)) agG
def P7:J:=.seq (U [aa 14 6,aa 15 1,jc 16 15,bc 17 91 16 2,aV 18 89 17,bM 19 89 18,bG 20 .lss 2 14 19] [0,1,6,20] agC) agH
def agI:J:=.block 0 (.loop P7)
def agJ:J:=U [a_ 4 0,a_ 5 0] [4,5] .ret
def agK:J:=.seq (U [a_ 6 0] [0,1,6] agI) agJ
def agL:J:=.seq (U [aa 8 1,jc 9 8,bc 10 91 9 2,aV 11 89 10,dJ 12 103 11,eF 13 12] [0,1,13] agB) agK
def agM:J:=U [a_ 4 0,a_ 5 0] [0,1] agL
theorem agN:bq ⟨31,[0,1]⟩ (Tryz.f81.body.getD .skip)=some agM.strip:=by kernel_rfl
def agO:J:=U [br 2 false] [2] .ret
def agP:J:=.cond (.t 15) agO .skip
def agQ:J:=.cond (.t 19) .skip (.exit 0)
def agR:J:=U [br 2 false] [2] .ret
def agS:J:=.cond (.t 37) agR .skip
def agT:J:=.cond (.t 40) .skip (.exit 2)
def agU:J:=U [br 2 false] [2] .ret
def agV:J:=.cond (.t 53) agU .skip
def agW:J:=.bW [aa 41 4,aZ 42 .add 3 41 1,aA 4 42] (some [0,3,4])
def agX:J:=.seq (.block 3 (kj [aa 43 0,aa 44 4,cq 45 34 43 44,bc 46 91 45 0,aV 47 9 46,aa 48 0,aa 49 3,cq 50 34 48 49,bc 51 91 50 0,aV 52 9 51,bG 53 .eql 9 47 52] [[],[],[0,1],[2],[3],[],[],[5,6],[7],[8],[4,9]] [0,3,4,53] agV)) agW
def P8:J:=.seq (U [aa 38 4,aa 39 3,bG 40 .lss 3 38 39] [0,3,4,40] agT) agX
def agY:J:=.block 2 (.loop P8)
def agZ:J:=U [a_ 4 0] [0,3,4] agY
def ag0:J:=.bW [aa 20 3,aZ 21 .add 3 20 1,aA 3 21] (some [0,3])
def ag1:J:=.seq (.block 1 (.seq (U [aa 22 0,aa 23 3,cq 24 34 22 23,bc 25 91 24 0,aV 26 9 25,dJ 27 80 26,eF 28 27,aa 29 28,bn 30 29 (.bS (.t 0)),bn 31 29 (.bS (.t 3)),bn 32 29 (.fp 34 (.t 30) (.t 31)),bn 33 29 (.cY 91 (.t 32) 1),bn 34 29 (.cp 2 (.t 33)),⟨some 35,.call (.f 65) [(.t 34),(.c (.int .i64 0)),(.c (.int .i64 3))],some (29,false)⟩,bn 36 29 (.un .not (.t 35)),ro 37 (.pick (.t 29) (.c (.bool true)) (.t 36))] [0,3,37] agS) agZ)) ag0
def P9:J:=.seq (U [aa 16 3,aa 17 0,bM 18 34 17,bG 19 .lss 3 16 18] [0,3,19] agQ) ag1
def ag2:J:=.block 0 (.loop P9)
def ag3:J:=.cond (.t 57) .skip (.exit 4)
def ag4:J:=U [br 2 false] [2] .ret
def ag5:J:=.cond (.t 69) ag4 .skip
def ag6:J:=U [aa 68 7,aZ 69 .gtr 2 68 0] [0,5,69] ag5
def ag7:J:=.bW [aa 58 5,aZ 59 .add 3 58 1,aA 5 59] (some [0,5])
def ag8:J:=.seq (.block 5 (U [aa 61 0,aa 62 0,aa 63 5,cq 64 34 62 63,dB 65 81 61 64,aa 60 65,iY 66 60 0,iY 67 60 1,aA 6 66,aA 7 67] [0,5,7] ag6)) ag7
def P_:J:=.seq (U [aa 54 5,aa 55 0,bM 56 34 55,bG 57 .lss 3 54 56] [0,5,57] ag3) ag8
def ag9:J:=.block 4 (.loop P_)
def ag_:J:=U [br 2 true] [2] .ret
def aha:J:=.seq (U [a_ 5 0] [0,5] ag9) ag_
def ahb:J:=.seq (U [a_ 3 0] [0,3] ag2) aha
def ahc:J:=.seq (U [aa 8 0,bM 9 34 8,aZ 10 .eql 3 9 0,aa 11 10,bn 12 11 (.bS (.t 0)),bn 13 11 (.len 34 (.t 12)),bn 14 11 (.bV .gtr 3 (.t 13) (.c (.int .i64 4))),ro 15 (.pick (.t 11) (.c (.bool true)) (.t 14))] [0,15] agP) ahb
def ahd:J:=U [br 2 false] [0] ahc
theorem ahe:bq ⟨70,[0]⟩ (Tryz.f61.body.getD .skip)=some ahd.strip:=by kernel_rfl
def ahf:J:=.cond (.t 7) .skip (.exit 0)
def ahg:J:=U [br 2 false] [2] .ret
def ahh:J:=.cond (.t 15) ahg .skip
def ahi:J:=.bW [aa 8 3,aZ 9 .add 3 8 1,aA 3 9] (some [0,3])
def ahj:J:=.seq (.block 1 (U [aa 10 0,aa 11 3,cq 12 31 10 11,aV 13 2 12,ro 14 (.call (.f 65) [(.t 13),(.c (.int .i64 0)),(.c (.int .i64 63))]),eF 15 14] [0,3,15] ahh)) ahi
def Qa:J:=.seq (U [aa 4 3,aa 5 0,bM 6 31 5,bG 7 .lss 3 4 6] [0,3,7] ahf) ahj
def ahk:J:=.block 0 (.loop Qa)
def ahl:J:=U [br 2 true] [2] .ret
def ahm:J:=.seq (U [a_ 3 0] [0,3] ahk) ahl
def ahn:J:=U [br 2 false] [0] ahm
theorem aho:bq ⟨16,[0]⟩ (Tryz.f82.body.getD .skip)=some ahn.strip:=by kernel_rfl
def ahp:J:=U [br 2 false] [2] .ret
def ahq:J:=.cond (.t 18) ahp .skip
def ahr:J:=.cond (.t 25) .skip (.exit 0)
def ahs:J:=U [br 2 false] [2] .ret
def aht:J:=.cond (.t 44) ahs .skip
def ahu:J:=U [br 2 false] [2] .ret
def ahv:J:=.cond (.t 63) ahu .skip
def ahw:J:=kj [bc 45 93 4 1,aV 46 31 45,bM 47 31 46,aa 48 0,jc 49 48,bc 50 38 49 0,aV 51 34 50,bc 52 93 4 0,aV 53 2 52,cq 54 34 51 53,bc 55 91 54 1,aV 56 2 55,bG 57 .neq 2 47 56,aa 58 57,bn 59 58 (.cY 93 (.t 4) 1),bn 60 58 (.cp 31 (.t 59)),⟨some 61,.call (.f 82) [(.t 60)],some (58,false)⟩,bn 62 58 (.un .not (.t 61)),ro 63 (.pick (.t 58) (.c (.bool true)) (.t 62))] [[],[0],[1],[],[3],[4],[5],[],[7],[6,8],[9],[10],[2,11],[12],[13],[14,13],[15,13,13],[16,13],[13,17]] [0,3,63] ahv
def ahx:J:=.seq (kj [bc 35 93 4 0,aV 36 2 35,aa 37 0,jc 38 37,bc 39 38 38 0,aV 40 34 39,bM 41 34 40,aZ 42 .sub 2 41 1,ro 43 (.call (.f 65) [(.t 36),(.c (.int .i64 0)),(.t 42)]),eF 44 43] [[],[0],[],[2],[3],[4],[5],[6],[1,7],[8]] [0,3,4,44] aht) ahw
def ahy:J:=.bW [aa 26 3,aZ 27 .add 3 26 1,aA 3 27] (some [0,3])
def ahz:J:=.seq (.block 1 (U [aa 28 0,jc 29 28,bc 30 38 29 1,aV 31 35 30,aa 32 3,cq 33 35 31 32,aV 34 93 33,jJ 4 93,dZ 93 4 34] [0,3,4] ahx)) ahy
def Qb:J:=.seq (U [aa 19 3,aa 20 0,jc 21 20,bc 22 38 21 1,aV 23 35 22,bM 24 35 23,bG 25 .lss 3 19 24] [0,3,25] ahr) ahz
def ahA:J:=.block 0 (.loop Qb)
def ahB:J:=U [br 2 true] [2] .ret
def ahC:J:=.seq (U [a_ 3 0] [0,3] ahA) ahB
def ahD:J:=.seq (U [aa 5 0,jc 6 5,bc 7 38 6 1,aV 8 35 7,bM 9 35 8,aZ 10 .eql 3 9 0,aa 11 10,bn 12 11 (.bS (.t 0)),bn 13 11 (.gg (.t 12)),bn 14 11 (.cY 38 (.t 13) 1),bn 15 11 (.cp 35 (.t 14)),bn 16 11 (.len 35 (.t 15)),bn 17 11 (.bV .gtr 3 (.t 16) (.c (.int .i64 3))),ro 18 (.pick (.t 11) (.c (.bool true)) (.t 17))] [0,18] ahq) ahC
def ahE:J:=U [br 2 false] [0] ahD
theorem vu:bq ⟨64,[0]⟩ (Tryz.f62.body.getD .skip)=some ahE.strip:=by kernel_rfl
def ahF:J:=U [aa 3 0,dJ 4 80 3,aa 5 4,bl 6 5 (.bS (.t 0)),⟨some 7,.bV .neq 9 (.t 6) (.c (.str [116,97,117])),some (5,true)⟩,ro 8 (.pick (.t 5) (.t 7) (.c (.bool false))),aA 2 8] [2] .ret
def ahG:J:=U [br 2 false] [0] ahF
theorem ahH:bq ⟨9,[0]⟩ (Tryz.f83.body.getD .skip)=some ahG.strip:=by kernel_rfl
def ahI:J:=U [br 2 false] [2] .ret
def ahJ:J:=.cond (.t 8) ahI .skip
def ahK:J:=.cond (.t 12) .skip (.exit 0)
def ahL:J:=U [br 2 false] [2] .ret
def ahM:J:=.cond (.t 41) ahL .skip
def ahN:J:=U [br 2 false] [2] .ret
def ahO:J:=.cond (.t 76) ahN .skip
def ahP:J:=.cond (.t 80) .skip (.exit 2)
def ahQ:J:=U [br 2 false] [2] .ret
def ahR:J:=.cond (.t 100) ahQ .skip
def ahS:J:=.bW [aa 81 5,aZ 82 .add 3 81 1,aA 5 82] (some [0,3,4,5])
def ahT:J:=.seq (.block 3 (kj [aa 83 0,aa 84 5,cq 85 36 83 84,bc 86 95 85 0,aV 87 9 86,bc 88 95 4 2,aV 89 9 88,bG 90 .eql 9 87 89,aa 91 90,bn 92 91 (.bS (.t 0)),bn 93 91 (.bS (.t 5)),bn 94 91 (.fp 36 (.t 92) (.t 93)),bn 95 91 (.cY 95 (.t 94) 1),bn 96 91 (.cp 9 (.t 95)),bn 97 91 (.cY 95 (.t 4) 2),bn 98 91 (.cp 9 (.t 97)),bn 99 91 (.bV .eql 9 (.t 96) (.t 98)),ro 100 (.pick (.t 91) (.c (.bool true)) (.t 99))] [[],[],[0,1],[2],[3],[],[5],[4,6],[7],[8],[8],[9,10,8],[11,8],[12,8],[8],[14,8],[13,15,8],[8,16]] [0,3,4,5,100] ahR)) ahS
def JQ:J:=.seq (U [aa 77 5,aa 78 0,bM 79 36 78,bG 80 .lss 3 77 79] [0,3,4,5,80] ahP) ahT
def ahU:J:=.block 2 (.loop JQ)
def ahV:J:=U [a_ 5 0] [0,3,4,5] ahU
def ahW:J:=.seq (kj [aa 42 3,aZ 43 .gtr 3 42 0,aa 44 43,bl 45 44 (.bS (.t 0)),bl 46 44 (.bS (.t 3)),bl 47 44 (.bV .sub 3 (.t 46) (.c (.int .i64 1))),bl 48 44 (.fp 36 (.t 45) (.t 47)),bl 49 44 (.cY 95 (.t 48) 0),bl 50 44 (.cp 9 (.t 49)),bl 51 44 (.cY 95 (.t 4) 0),bl 52 44 (.cp 9 (.t 51)),bl 53 44 (.bV .gtr 9 (.t 50) (.t 52)),bl 54 44 (.bS (.t 53)),bn 55 54 (.bS (.t 0)),bn 56 54 (.bS (.t 3)),bn 57 54 (.bV .sub 3 (.t 56) (.c (.int .i64 1))),bn 58 54 (.fp 36 (.t 55) (.t 57)),bn 59 54 (.cY 95 (.t 58) 0),bn 60 54 (.cp 9 (.t 59)),bn 61 54 (.cY 95 (.t 4) 0),bn 62 54 (.cp 9 (.t 61)),bn 63 54 (.bV .eql 9 (.t 60) (.t 62)),bn 64 54 (.bS (.t 63)),bl 65 64 (.bS (.t 0)),bl 66 64 (.bS (.t 3)),bl 67 64 (.bV .sub 3 (.t 66) (.c (.int .i64 1))),bl 68 64 (.fp 36 (.t 65) (.t 67)),bl 69 64 (.cY 95 (.t 68) 1),bl 70 64 (.cp 9 (.t 69)),bl 71 64 (.cY 95 (.t 4) 1),bl 72 64 (.cp 9 (.t 71)),bl 73 64 (.bV .geq 9 (.t 70) (.t 72)),bn 74 54 (.pick (.t 64) (.t 73) (.c (.bool false))),bl 75 44 (.pick (.t 54) (.c (.bool true)) (.t 74)),ro 76 (.pick (.t 44) (.t 75) (.c (.bool false)))] [[],[0],[1],[2],[2],[4,2],[3,5,2],[6,2],[7,2],[2],[9,2],[8,10,2],[11,2,2],[12],[12],[14,12],[13,15,12],[16,12],[17,12],[12],[19,12],[18,20,12],[21,12,12],[22],[22],[24,22],[23,25,22],[26,22],[27,22],[22],[29,22],[28,30,22],[22,31,12],[12,32,2],[2,33]] [0,3,4,76] ahO) ahV
def ahX:J:=.seq (U [bc 19 95 4 0,aV 20 9 19,dJ 21 83 20,eF 22 21,aa 23 22,bn 24 23 (.cY 95 (.t 4) 1),bn 25 23 (.cp 9 (.t 24)),⟨some 26,.call (.f 83) [(.t 25)],some (23,false)⟩,bn 27 23 (.un .not (.t 26)),ro 28 (.pick (.t 23) (.c (.bool true)) (.t 27)),aa 29 28,bn 30 29 (.cY 95 (.t 4) 2),bn 31 29 (.cp 9 (.t 30)),⟨some 32,.call (.f 83) [(.t 31)],some (29,false)⟩,bn 33 29 (.un .not (.t 32)),ro 34 (.pick (.t 29) (.c (.bool true)) (.t 33)),aa 35 34,bn 36 35 (.cY 95 (.t 4) 0),bn 37 35 (.cp 9 (.t 36)),bn 38 35 (.cY 95 (.t 4) 1),bn 39 35 (.cp 9 (.t 38)),bn 40 35 (.bV .gtr 9 (.t 37) (.t 39)),ro 41 (.pick (.t 35) (.c (.bool true)) (.t 40))] [0,3,4,41] ahM) ahW
def ahY:J:=.bW [aa 13 3,aZ 14 .add 3 13 1,aA 3 14] (some [0,3])
def ahZ:J:=.seq (.block 1 (U [aa 15 0,aa 16 3,cq 17 36 15 16,aV 18 95 17,jJ 4 95,dZ 95 4 18] [0,3,4] ahX)) ahY
def Qc:J:=.seq (U [aa 9 3,aa 10 0,bM 11 36 10,bG 12 .lss 3 9 11] [0,3,12] ahK) ahZ
def ah0:J:=.block 0 (.loop Qc)
def ah1:J:=U [br 2 true] [2] .ret
def ah2:J:=.seq (U [a_ 3 0] [0,3] ah0) ah1
def ah3:J:=.seq (U [aa 6 0,bM 7 36 6,aZ 8 .gtr 3 7 6] [0,8] ahJ) ah2
def ah4:J:=U [br 2 false] [0] ah3
theorem ah5:bq ⟨101,[0]⟩ (Tryz.f63.body.getD .skip)=some ah4.strip:=by kernel_rfl
def ah6:J:=.cond (.t 7) .skip (.exit 0)
def ah7:J:=U [br 2 false] [2] .ret
def ah8:J:=.cond (.t 15) ah7 .skip
def ah9:J:=.bW [aa 8 3,aZ 9 .add 3 8 1,aA 3 9] (some [0,3])
def ah_:J:=.seq (.block 1 (U [aa 10 0,aa 11 3,cq 12 25 10 11,aV 13 9 12,dJ 14 83 13,eF 15 14] [0,3,15] ah8)) ah9
def Qd:J:=.seq (U [aa 4 3,aa 5 0,bM 6 25 5,bG 7 .lss 3 4 6] [0,3,7] ah6) ah_
def aia:J:=.block 0 (.loop Qd)
def aib:J:=U [br 2 true] [2] .ret
def aic:J:=.seq (U [a_ 3 0] [0,3] aia) aib
def aid:J:=U [br 2 false] [0] aic
theorem aie:bq ⟨16,[0]⟩ (Tryz.f84.body.getD .skip)=some aid.strip:=by kernel_rfl
def aif:J:=U [br 2 false] [2] .ret
def aih:J:=.cond (.t 11) aif .skip
def aii:J:=.cond (.t 15) .skip (.exit 0)
def aij:J:=U [br 2 false] [2] .ret
def aik:J:=.cond (.t 27) aij .skip
def ail:J:=.bW [aa 16 3,aZ 17 .add 3 16 1,aA 3 17] (some [0,3])
def aim:J:=.seq (.block 1 (kj [aa 18 0,aa 19 3,aZ 20 .sub 3 19 1,cq 21 25 18 20,aV 22 9 21,aa 23 0,aa 24 3,cq 25 25 23 24,aV 26 9 25,bG 27 .geq 9 22 26] [[],[],[1],[0,2],[3],[],[],[5,6],[7],[4,8]] [0,3,27] aik)) ail
def Qe:J:=.seq (U [aa 12 3,aa 13 0,bM 14 25 13,bG 15 .lss 3 12 14] [0,3,15] aii) aim
def ain:J:=.block 0 (.loop Qe)
def aio:J:=U [br 2 true] [2] .ret
def aip:J:=.seq (U [a_ 3 1] [0,3] ain) aio
def aiq:J:=.seq (U [aa 4 0,bM 5 25 4,aZ 6 .gtr 3 5 12,aa 7 6,bn 8 7 (.bS (.t 0)),⟨some 9,.call (.f 84) [(.t 8)],some (7,false)⟩,bn 10 7 (.un .not (.t 9)),ro 11 (.pick (.t 7) (.c (.bool true)) (.t 10))] [0,11] aih) aip
def air:J:=U [br 2 false] [0] aiq
theorem ais:bq ⟨28,[0]⟩ (Tryz.f64.body.getD .skip)=some air.strip:=by kernel_rfl
def ait:J:=U [a_ 2 1] [2] .ret
def aiu:J:=.cond (.t 8) ait .skip
def aiv:J:=U [a_ 2 2] [2] .ret
def aiw:J:=.cond (.t 11) aiv .skip
def aix:J:=U [a_ 2 3] [2] .ret
def aiy:J:=.cond (.t 17) aix .skip
def aiz:J:=U [a_ 2 4] [2] .ret
def aiA:J:=.cond (.t 23) aiz .skip
def aiB:J:=U [a_ 2 5] [2] .ret
def aiC:J:=.cond (.t 29) aiB .skip
def aiD:J:=U [a_ 2 0] [2] .ret
def aiE:J:=.seq (U [aa 24 0,jc 25 24,bc 26 38 25 4,aV 27 25 26,dJ 28 64 27,eF 29 28] [29] aiC) aiD
def aiF:J:=.seq (U [aa 18 0,jc 19 18,bc 20 38 19 3,aV 21 25 20,dJ 22 64 21,eF 23 22] [0,23] aiA) aiE
def aiG:J:=.seq (U [aa 12 0,jc 13 12,bc 14 38 13 2,aV 15 36 14,dJ 16 63 15,eF 17 16] [0,17] aiy) aiF
def aiH:J:=.seq (U [aa 9 0,dJ 10 62 9,eF 11 10] [0,11] aiw) aiG
def aiI:J:=.seq (U [aa 3 0,jc 4 3,bc 5 38 4 0,aV 6 34 5,dJ 7 61 6,eF 8 7] [0,8] aiu) aiH
def aiJ:J:=U [a_ 2 0] [0] aiI
theorem aiK:bq ⟨30,[0]⟩ (Tryz.f45.body.getD .skip)=some aiJ.strip:=by kernel_rfl
def aiL:J:=U [aa 3 0,dJ 4 45 3,aZ 5 .eql 2 4 0,aA 2 5] [2] .ret
def aiM:J:=U [br 2 false] [0] aiL
theorem aiN:bq ⟨6,[0]⟩ (Tryz.f22.body.getD .skip)=some aiM.strip:=by kernel_rfl
def aiO:J:=.cond (.t 7) .skip (.exit 0)
def aiP:J:=U [aa 14 3,aA 2 14] [2] .ret
def aiQ:J:=.cond (.t 13) aiP .skip
def aiR:J:=.bW [aa 8 3,aZ 9 .add 3 8 1,aA 3 9] (some [0,3])
def aiS:J:=.seq (.block 1 (U [aa 10 0,aa 11 3,s8 12 9 10 11,ro 13 (.bV .eql 5 (.t 12) (.c (.int .u8 40)))] [0,3,13] aiQ)) aiR
def Qf:J:=.seq (U [aa 4 3,aa 5 0,bM 6 9 5,bG 7 .lss 3 4 6] [0,3,7] aiO) aiS
def aiT:J:=.block 0 (.loop Qf)
def aiU:J:=U [aa 15 0,bM 16 9 15,aA 2 16] [2] .ret
def aiV:J:=.seq (U [a_ 3 0] [0,3] aiT) aiU
def c105:J:=U [a_ 2 0] [0] aiV
theorem aiW:bq ⟨17,[0]⟩ (Tryz.f105.body.getD .skip)=some c105.strip:=by kernel_rfl
def aiX:J:=.cond (.t 12) .skip (.exit 0)
def aiY:J:=.bW [aa 27 7,aZ 28 .add 3 27 1,aA 6 28] (some [0,1,5,6,7])
def aiZ:J:=U [aa 20 5,aa 21 0,aa 22 6,aa 23 7,ro 24 (.eE 9 (.t 21) (some (.t 22)) (some (.t 23))),zI 25 25 24,CY 26 25 25 20 25,aA 5 26] [0,1,5,7] aiY
def ai0:J:=.cond (.t 19) aiZ .skip
def Qg:J:=.bW [aa 13 7,aZ 14 .add 3 13 1,aA 7 14] (some [0,1,5,6,7])
def ai1:J:=.seq (.block 1 (U [aa 15 0,aa 16 7,s8 17 9 15 16,aa 18 1,bG 19 .eql 5 17 18] [0,1,5,6,7,19] ai0)) Qg
def Qh:J:=.seq (U [aa 9 7,aa 10 0,bM 11 9 10,bG 12 .lss 3 9 11] [0,1,5,6,7,12] aiX) ai1
def ai2:J:=.block 0 (.loop Qh)
def ai3:J:=U [aa 29 5,aa 30 0,aa 31 6,ro 32 (.eE 9 (.t 30) (some (.t 31)) none),zI 33 25 32,CY 34 25 25 29 33,aA 4 34] [4] .ret
def ai4:J:=.seq (U [a_ 7 0] [0,1,5,6,7] ai2) ai3
def ai5:J:=U [a_ 6 0] [0,1,5,6] ai4
def ai6:J:=U [ro 8 (.eQ 25 0 []),aA 5 8] [0,1,5] ai5
def ai7:J:=U [il 4] [0,1] ai6
theorem ai8:bq ⟨35,[0,1]⟩ (Tryz.f106.body.getD .skip)=some ai7.strip:=by kernel_rfl
def ai9:J:=.bW [a_ 4 1] (some [0,4])
def ai_:J:=.cond (.t 14) ai9 .skip
def aja:J:=U [a_ 2 0,br 3 false] [2,3] .ret
def ajb:J:=.cond (.t 36) aja .skip
def ajc:J:=.cond (.t 41) .skip (.exit 0)
def ajd:J:=U [a_ 2 0,br 3 false] [2,3] .ret
def aje:J:=.cond (.t 48) ajd .skip
def ajf:J:=.bW [aa 49 5,ro 50 (.bV .mul 2 (.c (.int .i64 10)) (.t 49)),aa 51 0,aa 52 6,s8 53 9 51 52,ro 54 (.bV .sub 5 (.t 53) (.c (.int .u8 48))),I7 55 5 2 54,bG 56 .add 2 50 55,aA 5 56] (some [0,4,5,6])
def ajg:J:=.bW [aa 42 6,aZ 43 .add 3 42 1,aA 6 43] (some [0,4,5,6])
def ajh:J:=.seq (.block 1 (.seq (U [aa 44 0,aa 45 6,s8 46 9 44 45,dJ 47 102 46,eF 48 47] [0,4,5,6,48] aje) ajf)) ajg
def JR:J:=.seq (U [aa 38 6,aa 39 0,bM 40 9 39,bG 41 .lss 3 38 40] [0,4,5,6,41] ajc) ajh
def aji:J:=.block 0 (.loop JR)
def ajj:J:=.bW [aa 59 5,ro 60 (.un .neg (.t 59)),aA 5 60] (some [5])
def ajk:J:=.cond (.t 58) ajj .skip
def JS:J:=U [aa 61 5,aA 2 61,br 3 true] [2,3] .ret
def ajl:J:=.seq (U [aa 57 4,aZ 58 .eql 3 57 1] [5,58] ajk) JS
def ajm:J:=.seq (U [aa 37 4,aA 6 37] [0,4,5,6] aji) ajl
def ajn:J:=U [a_ 5 0] [0,4,5] ajm
def Qi:J:=.seq (U [aa 15 0,bM 16 9 15,aa 17 4,bG 18 .eql 3 16 17,aa 19 18,bn 20 19 (.bS (.t 0)),bn 21 19 (.len 9 (.t 20)),bn 22 19 (.bS (.t 4)),bn 23 19 (.bV .sub 3 (.t 21) (.t 22)),bn 24 19 (.bV .gtr 3 (.t 23) (.c (.int .i64 18))),ro 25 (.pick (.t 19) (.c (.bool true)) (.t 24)),aa 26 25,bn 27 26 (.bS (.t 0)),bn 28 26 (.bS (.t 4)),bn 29 26 (.idx 9 (.t 27) (.t 28)),bn 30 26 (.bV .eql 5 (.t 29) (.c (.int .u8 48))),bn 31 26 (.bS (.t 30)),bl 32 31 (.bS (.t 0)),bl 33 31 (.len 9 (.t 32)),bl 34 31 (.bV .gtr 3 (.t 33) (.c (.int .i64 1))),bn 35 26 (.pick (.t 31) (.t 34) (.c (.bool false))),ro 36 (.pick (.t 26) (.c (.bool true)) (.t 35))] [0,4,36] ajb) ajn
def ajo:J:=.seq (U [aa 7 0,bM 8 9 7,aZ 9 .gtr 3 8 0,aa 10 9,bl 11 10 (.bS (.t 0)),bl 12 10 (.idx 9 (.t 11) (.c (.int .i64 0))),bl 13 10 (.bV .eql 5 (.t 12) (.c (.int .u8 45))),ro 14 (.pick (.t 10) (.t 13) (.c (.bool false)))] [0,4,14] ai_) Qi
def ajp:J:=U [a_ 4 0] [0,4] ajo
def c107:J:=U [a_ 2 0,br 3 false] [0] ajp
theorem ajq:bq ⟨62,[0]⟩ (Tryz.f107.body.getD .skip)=some c107.strip:=by kernel_rfl
def ajr:J:=U [ro 16 (.eQ 31 0 []),aa 17 0,dJ 18 80 17,aA 2 16,aA 3 18] [2,3] .ret
def ajs:J:=.cond (.t 15) ajr .skip
def ajt:J:=U [il 2,br 3 false] [2,3] .ret
def aju:J:=.cond (.t 31) ajt .skip
def ajv:J:=.cond (.t 44) .skip (.exit 0)
def ajw:J:=U [il 2,br 3 false] [2,3] .ret
def ajx:J:=.cond (.t 61) ajw .skip
def ajy:J:=.bW [aa 62 6,aa 63 8,zI 64 31 63,CY 65 31 31 62 64,aA 6 65] (some [5,6,7])
def ajz:J:=.seq (U [aa 55 9,eF 56 55,aa 57 56,bn 58 57 (.bS (.t 8)),⟨some 59,.call (.f 65) [(.t 58),(.c (.int .i64 0)),(.c (.int .i64 63))],some (57,false)⟩,bn 60 57 (.un .not (.t 59)),ro 61 (.pick (.t 57) (.c (.bool true)) (.t 60))] [5,6,7,8,61] ajx) ajy
def ajA:J:=.bW [aa 45 7,aZ 46 .add 3 45 1,aA 7 46] (some [5,6,7])
def ajB:J:=.seq (.block 1 (U [aa 48 5,aa 49 7,cq 50 25 48 49,aV 51 9 50,dJ 52 107 51,aa 47 52,iY 53 47 0,iY 54 47 1,aA 8 53,aA 9 54] [5,6,7,8,9] ajz)) ajA
def Qj:J:=.seq (U [aa 41 7,aa 42 5,bM 43 25 42,bG 44 .lss 3 41 43] [5,6,7,44] ajv) ajB
def ajC:J:=.block 0 (.loop Qj)
def ajD:J:=U [aa 66 6,aa 67 6,bM 68 31 67,aZ 69 .leq 3 68 2,aA 2 66,aA 3 69] [2,3] .ret
def ajE:J:=.seq (U [a_ 7 0] [5,6,7] ajC) ajD
def ajF:J:=U [ro 40 (.eQ 31 0 []),aA 6 40] [5,6] ajE
def ajG:J:=U [aa 32 0,aa 33 4,aZ 34 .add 3 33 1,aa 35 0,bM 36 9 35,aZ 37 .sub 3 36 1,ro 38 (.eE 9 (.t 32) (some (.t 34)) (some (.t 37))),ro 39 (.call (.f 106) [(.t 38),(.c (.int .u8 44))]),aA 5 39] [5] ajF
def ajH:J:=.seq (U [aa 19 0,aa 20 4,ro 21 (.eE 9 (.t 19) none (some (.t 20))),dJ 22 83 21,eF 23 22,aa 24 23,bn 25 24 (.bS (.t 0)),bn 26 24 (.bS (.t 0)),bn 27 24 (.len 9 (.t 26)),bn 28 24 (.bV .sub 3 (.t 27) (.c (.int .i64 1))),bn 29 24 (.idx 9 (.t 25) (.t 28)),bn 30 24 (.bV .neq 5 (.t 29) (.c (.int .u8 41))),ro 31 (.pick (.t 24) (.c (.bool true)) (.t 30))] [0,4,31] aju) ajG
def ajI:J:=.seq (U [aa 12 4,aa 13 0,bM 14 9 13,bG 15 .eql 3 12 14] [0,4,15] ajs) ajH
def ajJ:J:=U [aa 10 0,dJ 11 105 10,aA 4 11] [0,4] ajI
def c85:J:=U [il 2,br 3 false] [0] ajJ
theorem ajK:bq ⟨70,[0]⟩ (Tryz.f85.body.getD .skip)=some c85.strip:=by kernel_rfl
def ajL:J:=U [aa 10 4,aA 2 10] [2] .ret
def ajM:J:=U [aa 6 0,dJ 7 85 6,aa 5 7,iY 8 5 0,iY 9 5 1,aA 3 8,aA 4 9] [4] ajL
def ajN:J:=U [br 2 false] [0] ajM
theorem ajO:bq ⟨11,[0]⟩ (Tryz.f66.body.getD .skip)=some ajN.strip:=by kernel_rfl
def ajP:J:=U [aa 3 0,jc 4 3,bc 5 59 4 0,aV 6 2 5,ro 7 (.call (.f 65) [(.t 6),(.c (.int .i64 0)),(.c (.int .i64 199))]),aa 8 7,bl 9 8 (.bS (.t 0)),bl 10 8 (.gg (.t 9)),bl 11 8 (.cY 59 (.t 10) 1),bl 12 8 (.cp 2 (.t 11)),⟨some 13,.call (.f 65) [(.t 12),(.c (.int .i64 0)),(.c (.int .i64 2))],some (8,true)⟩,ro 14 (.pick (.t 8) (.t 13) (.c (.bool false))),aa 15 14,bl 16 15 (.bS (.t 0)),bl 17 15 (.gg (.t 16)),bl 18 15 (.cY 59 (.t 17) 2),bl 19 15 (.cp 2 (.t 18)),⟨some 20,.call (.f 65) [(.t 19),(.c (.int .i64 (-1))),(.c (.int .i64 2))],some (15,true)⟩,ro 21 (.pick (.t 15) (.t 20) (.c (.bool false))),aa 22 21,bl 23 22 (.bS (.t 0)),bl 24 22 (.gg (.t 23)),bl 25 22 (.cY 59 (.t 24) 3),bl 26 22 (.cp 9 (.t 25)),⟨some 27,.call (.f 66) [(.t 26)],some (22,true)⟩,ro 28 (.pick (.t 22) (.t 27) (.c (.bool false))),aA 2 28] [2] .ret
def c46:J:=U [br 2 false] [0] ajP
theorem ajQ:bq ⟨29,[0]⟩ (Tryz.f46.body.getD .skip)=some c46.strip:=by kernel_rfl
def ajR:J:=U [br 2 false] [2] .ret
def ajS:J:=.cond (.t 6) ajR .skip
def ajT:J:=.cond (.t 10) .skip (.exit 0)
def ajU:J:=U [br 2 false] [2] .ret
def ajV:J:=.cond (.t 17) ajU .skip
def ajW:J:=.bW [aa 11 3,aZ 12 .add 3 11 1,aA 3 12] (some [0,3])
def ajX:J:=.seq (.block 1 (U [aa 13 0,aa 14 3,cq 15 40 13 14,dJ 16 46 15,eF 17 16] [0,3,17] ajV)) ajW
def Qk:J:=.seq (U [aa 7 3,aa 8 0,bM 9 40 8,bG 10 .lss 3 7 9] [0,3,10] ajT) ajX
def ajY:J:=.block 0 (.loop Qk)
def ajZ:J:=U [br 2 true] [2] .ret
def aj0:J:=.seq (U [a_ 3 0] [0,3] ajY) ajZ
def aj1:J:=.seq (U [aa 4 0,bM 5 40 4,aZ 6 .gtr 3 5 60] [0,6] ajS) aj0
def aj2:J:=U [br 2 false] [0] aj1
theorem aj3:bq ⟨18,[0]⟩ (Tryz.f23.body.getD .skip)=some aj2.strip:=by kernel_rfl
def aj4:J:=U [il 4,a_ 5 1] [4,5] .ret
def aj5:J:=.cond (.t 10) aj4 .skip
def aj6:J:=U [il 4,a_ 5 7] [4,5] .ret
def aj7:J:=.cond (.t 13) aj6 .skip
def aj8:J:=.cond (.t 23) .skip (.exit 0)
def aj9:J:=U [il 4,a_ 5 9] [4,5] .ret
def aj_:J:=.cond (.t 41) aj9 .skip
def aka:J:=.bW [aa 71 6,aa 72 1,aa 73 8,cq 74 40 72 73,bc 75 59 74 2,aV 76 2 75,cq 77 31 71 76,aV 78 2 77,aZ 79 .add 2 78 1,cq 80 31 71 76,dZ 2 80 79] (some [1,6,7,8])
def akb:J:=.cond (.t 70) aka .skip
def akc:J:=kj [aa 52 1,aa 53 8,cq 54 40 52 53,bc 55 59 54 2,aV 56 2 55,aZ 57 .geq 2 56 0,aa 58 57,bl 59 58 (.bS (.t 1)),bl 60 58 (.bS (.t 8)),bl 61 58 (.fp 40 (.t 59) (.t 60)),bl 62 58 (.cY 59 (.t 61) 2),bl 63 58 (.cp 2 (.t 62)),bl 64 58 (.bS (.t 1)),bl 65 58 (.bS (.t 8)),bl 66 58 (.fp 40 (.t 64) (.t 65)),bl 67 58 (.cY 59 (.t 66) 1),bl 68 58 (.cp 2 (.t 67)),bl 69 58 (.bV .neq 2 (.t 63) (.t 68)),ro 70 (.pick (.t 58) (.t 69) (.c (.bool false)))] [[],[],[0,1],[2],[3],[4],[5],[6],[6],[7,8,6],[9,6],[10,6],[6],[6],[12,13,6],[14,6],[15,6],[11,16,6],[6,17]] [1,6,7,8,70] akb
def akd:J:=U [aa 42 6,aa 43 1,aa 44 8,cq 45 40 43 44,bc 46 59 45 1,aV 47 2 46,cq 48 31 42 47,aV 49 2 48,aZ 50 .add 2 49 1,cq 51 31 42 47,dZ 2 51 50] [1,6,7,8] akc
def Ql:J:=.bW [aa 24 8,aZ 25 .add 3 24 1,aA 8 25] (some [1,6,7,8])
def ake:J:=.seq (.block 1 (.seq (U [aa 26 1,aa 27 8,cq 28 40 26 27,bc 29 59 28 1,aV 30 2 29,aa 31 7,bG 32 .geq 2 30 31,aa 33 32,bn 34 33 (.bS (.t 1)),bn 35 33 (.bS (.t 8)),bn 36 33 (.fp 40 (.t 34) (.t 35)),bn 37 33 (.cY 59 (.t 36) 2),bn 38 33 (.cp 2 (.t 37)),bn 39 33 (.bS (.t 7)),bn 40 33 (.bV .geq 2 (.t 38) (.t 39)),ro 41 (.pick (.t 33) (.c (.bool true)) (.t 40))] [1,6,7,8,41] aj_) akd)) Ql
def Qm:J:=.seq (U [aa 20 8,aa 21 1,bM 22 40 21,bG 23 .lss 3 20 22] [1,6,7,8,23] aj8) ake
def akf:J:=.block 0 (.loop Qm)
def akg:J:=U [aa 81 6,aA 4 81,a_ 5 0] [4,5] .ret
def akh:J:=.seq (U [a_ 8 0] [1,6,7,8] akf) akg
def aki:J:=U [aa 18 6,bM 19 31 18,aA 7 19] [1,6,7] akh
def akj:J:=U [bc 14 38 2 1,aV 15 35 14,bM 16 35 15,ro 17 (.eu 31 (.t 16) (.t 16)),aA 6 17] [1,6] aki
def akk:J:=.seq (U [aa 11 1,dJ 12 23 11,eF 13 12] [1,2,13] aj7) akj
def akl:J:=.seq (U [dJ 9 22 2,eF 10 9] [1,2,10] aj5) akk
def y_:J:=U [ro 2 (.dm 38 (.t 0)),il 4,a_ 5 0] [1,2] akl
theorem qf:bq ⟨82,[0,1]⟩ (Tryz.f6.body.getD .skip)=some y_.strip:=by kernel_rfl
def akm:J:=U [aa 7 0,aa 8 1,bG 9 .geq 2 7 8,aa 10 9,bl 11 10 (.bS (.t 0)),bl 12 10 (.bS (.t 2)),bl 13 10 (.bV .leq 2 (.t 11) (.t 12)),ro 14 (.pick (.t 10) (.t 13) (.c (.bool false))),aA 6 14] [6] .ret
def akn:J:=U [br 6 false] [0,1,2] akm
theorem ako:bq ⟨15,[0,1,2]⟩ (Tryz.f54.body.getD .skip)=some akn.strip:=by kernel_rfl
def akp:J:=U [bc 3 91 1 1,aV 4 2 3,ro 5 (.call (.f 54) [(.t 4),(.c (.int .i64 0)),(.c (.int .i64 3))]),eF 6 5,aA 2 6] [2] .ret
def akq:J:=U [ro 1 (.dm 91 (.t 0)),br 2 false] [1] akp
theorem akr:bq ⟨7,[0]⟩ (Tryz.f110.body.getD .skip)=some akq.strip:=by kernel_rfl
def aks:J:=U [aa 17 5,aA 4 17] [4] .ret
def akt:J:=.cond (.t 16) aks .skip
def aku:J:=U [aa 11 1,aa 12 0,aa 13 5,cq 14 34 12 13,aV 15 91 14,ro 16 (.call (.t 11) [(.t 15)])] [0,1,5,7,8,16] akt
def akv:J:=.bW [aZ 18 .add 3 8 1,aa 8 18] (some [0,1,7,8])
def akw:J:=.seq (.block 1 (U [aa 10 8,aA 5 10] [0,1,5,7,8] aku)) akv
def akx:J:=.seq (.cond (.t 9) .skip (.exit 0)) akw
def Qn:J:=U [bG 9 .lss 3 8 7] [0,1,7,8,9] akx
def aky:J:=.block 0 (.loop Qn)
def akz:J:=U [a_ 4 (-1)] [4] .ret
def akA:J:=.seq (U [aa 6 0,bM 7 34 6,lK 8 0] [0,1,7,8] aky) akz
def akB:J:=U [a_ 4 0] [0,1] akA
theorem akC:bq ⟨19,[0,1]⟩ (Tryz.f112.body.getD .skip)=some akB.strip:=by kernel_rfl
def akD:J:=U [aa 5 0,aa 6 1,dB 7 112 5 6,aZ 8 .geq 3 7 0,aA 4 8] [4] .ret
def c109:J:=U [br 4 false] [0,1] akD
theorem akE:bq ⟨9,[0,1]⟩ (Tryz.f109.body.getD .skip)=some c109.strip:=by kernel_rfl
def akF:J:=U [aa 3 0,ro 4 (.call (.f 109) [(.t 3),(.f 110)]),eF 5 4,aA 2 5] [2] .ret
def c87:J:=U [br 2 false] [0] akF
theorem akG:bq ⟨6,[0]⟩ (Tryz.f87.body.getD .skip)=some c87.strip:=by kernel_rfl
def akH:J:=U [aa 3 0,ro 4 (.bV .geq 5 (.t 3) (.c (.int .u8 48))),aa 5 4,bl 6 5 (.bS (.t 0)),bl 7 5 (.bV .leq 5 (.t 6) (.c (.int .u8 57))),ro 8 (.pick (.t 5) (.t 7) (.c (.bool false))),aA 2 8] [2] .ret
def akI:J:=U [br 2 false] [0] akH
theorem akJ:bq ⟨9,[0]⟩ (Tryz.f111.body.getD .skip)=some akI.strip:=by kernel_rfl
def akK:J:=U [br 2 false] [2] .ret
def akL:J:=.cond (.t 32) akK .skip
def akM:J:=U [aa 20 4,eF 21 20,aa 22 21,bl 23 22 (.bS (.t 3)),bl 24 22 (.bV .eql 3 (.t 23) (.c (.int .i64 0))),bl 25 22 (.bS (.t 24)),bn 26 25 (.bS (.t 0)),bn 27 25 (.bS (.t 3)),bn 28 25 (.idx 9 (.t 26) (.t 27)),⟨some 29,.call (.f 111) [(.t 28)],some (25,false)⟩,bn 30 25 (.un .not (.t 29)),bl 31 22 (.pick (.t 25) (.c (.bool true)) (.t 30)),ro 32 (.pick (.t 22) (.t 31) (.c (.bool false)))] [0,6,7,32] akL
def akN:J:=U [aa 10 0,aa 11 3,s8 12 9 10 11,ro 13 (.bV .geq 5 (.t 12) (.c (.int .u8 97))),aa 14 13,bl 15 14 (.bS (.t 0)),bl 16 14 (.bS (.t 3)),bl 17 14 (.idx 9 (.t 15) (.t 16)),bl 18 14 (.bV .leq 5 (.t 17) (.c (.int .u8 122))),ro 19 (.pick (.t 14) (.t 18) (.c (.bool false))),aA 4 19] [0,3,4,6,7] akM
def akO:J:=.bW [aZ 33 .add 3 7 1,aa 7 33] (some [0,6,7])
def akP:J:=.seq (.block 1 (U [aa 9 7,aA 3 9] [0,3,6,7] akN)) akO
def akQ:J:=.seq (.cond (.t 8) .skip (.exit 0)) akP
def Qo:J:=U [bG 8 .lss 3 7 6] [0,6,7,8] akQ
def akR:J:=.block 0 (.loop Qo)
def akS:J:=U [aa 34 0,bM 35 9 34,aZ 36 .geq 3 35 1,aa 37 36,bl 38 37 (.bS (.t 0)),bl 39 37 (.len 9 (.t 38)),bl 40 37 (.bV .leq 3 (.t 39) (.c (.int .i64 10))),ro 41 (.pick (.t 37) (.t 40) (.c (.bool false))),aA 2 41] [2] .ret
def akT:J:=.seq (U [aa 5 0,bM 6 9 5,lK 7 0] [0,6,7] akR) akS
def akU:J:=U [br 2 false] [0] akT
theorem akV:bq ⟨42,[0]⟩ (Tryz.f88.body.getD .skip)=some akU.strip:=by kernel_rfl
def akW:J:=U [bc 4 91 2 0,aV 5 9 4,aV 6 9 1,bG 7 .eql 9 5 6,aA 3 7] [3] .ret
def akX:J:=U [ro 2 (.dm 91 (.t 0)),br 3 false] [1,2] akW
theorem akY:bq ⟨8,[0,1]⟩ (Tryz.f113.body.getD .skip)=some akX.strip:=by kernel_rfl
def akZ:J:=U [aa 17 5,aA 4 17] [4] .ret
def ak0:J:=.cond (.t 16) akZ .skip
def ak1:J:=U [aa 11 1,aa 12 0,aa 13 5,cq 14 34 12 13,aV 15 91 14,ro 16 (.call (.t 11) [(.t 15)])] [0,1,5,7,8,16] ak0
def ak2:J:=.bW [aZ 18 .add 3 8 1,aa 8 18] (some [0,1,7,8])
def ak3:J:=.seq (.block 1 (U [aa 10 8,aA 5 10] [0,1,5,7,8] ak1)) ak2
def ak4:J:=.seq (.cond (.t 9) .skip (.exit 0)) ak3
def Qp:J:=U [bG 9 .lss 3 8 7] [0,1,7,8,9] ak4
def ak5:J:=.block 0 (.loop Qp)
def ak6:J:=U [a_ 4 (-1)] [4] .ret
def ak7:J:=.seq (U [aa 6 0,bM 7 34 6,lK 8 0] [0,1,7,8] ak5) ak6
def ak8:J:=U [a_ 4 0] [0,1] ak7
theorem ak9:bq ⟨19,[0,1]⟩ (Tryz.f112.body.getD .skip)=some ak8.strip:=by kernel_rfl
def ak_:J:=U [aa 5 0,ro 6 (.i_ 113 [(.t 3)]),dB 7 112 5 6,aA 4 7] [4] .ret
def ala:J:=U [ro 3 (.dm 9 (.t 1)),a_ 4 0] [0,3] ak_
theorem alb:bq ⟨8,[0,1]⟩ (Tryz.f89.body.getD .skip)=some ala.strip:=by kernel_rfl
def alc:J:=.bW [aZ 8 .eql 2 4 4,aA 5 8] (some [4,5])
def ald:J:=.cond (.t 5) .skip alc
def ale:J:=U [aZ 7 .eql 2 4 3,aA 5 7] [4,5] ald
def alf:J:=.cond (.t 5) .skip ale
def alg:J:=U [a_ 2 1] [2] .ret
def alh:J:=U [a_ 2 2] [2] .ret
def ali:J:=.cond (.t 9) alh .skip
def alj:J:=U [aZ 10 .eql 2 4 2,aA 9 10] [9] ali
def Qq:J:=.cond (.t 5) alg alj
def alk:J:=.block 0 (.seq (U [aZ 6 .eql 2 4 1,aA 5 6] [4,5] alf) Qq)
def alm:J:=U [a_ 2 0] [2] .ret
def aln:J:=.seq (U [bc 3 121 1 0,aV 4 2 3] [4] alk) alm
def alo:J:=U [ro 1 (.dm 121 (.t 0)),a_ 2 0] [1] aln
theorem alp:bq ⟨11,[0]⟩ (Tryz.f134.body.getD .skip)=some alo.strip:=by kernel_rfl
def alq:J:=.cond (.t 7) .skip (.exit 0)
def alr:J:=U [a_ 4 (-1)] [4] .ret
def als:J:=.cond (.t 14) alr .skip
def alu:J:=.bW [aa 15 5,bc 16 91 2 2,aV 17 89 16,aa 18 1,cq 19 89 17 18,aV 20 121 19,dJ 21 134 20,aZ 22 .sub 3 21 1,bG 23 .add 3 15 22,aA 5 23] (some [1,2,5])
def alv:J:=.bW [aa 8 1,aZ 9 .add 3 8 1,aA 1 9] (some [1,2,5])
def alw:J:=.seq (.block 1 (.seq (U [aa 10 1,bc 11 91 2 2,aV 12 89 11,bM 13 89 12,bG 14 .geq 3 10 13] [1,2,5,14] als) alu)) alv
def Qr:J:=.seq (U [aa 6 5,aZ 7 .gtr 3 6 0] [1,2,5,7] alq) alw
def alx:J:=.block 0 (.loop Qr)
def aly:J:=U [aa 24 1,aA 4 24] [4] .ret
def alz:J:=.seq (U [a_ 5 1] [1,2,5] alx) aly
def alA:J:=U [ro 2 (.dm 91 (.t 0)),a_ 4 0] [1,2] alz
theorem alB:bq ⟨25,[0]⟩ (Tryz.f114.body.getD .skip)=some alA.strip:=by kernel_rfl
def alC:J:=.bW [bc 29 162 9 0,aV 30 2 29,aZ 31 .add 2 30 1,bc 32 162 9 0,dZ 2 32 31] (some [0,2,3,4,8,9])
def alD:J:=.cond (.t 28) alC .skip
def alE:J:=.bW [aZ 43 .add 3 37 1,aa 37 43] (some [2,3,4,9,10,36,37])
def alF:J:=.seq (.block 1 (.jE (IL aF 135 4 2 39 ((List.range 3).map (·+2)) [aa 40 10,aV 41 162 9] [(.t 40),(.t 41)] (some 42) [aA 10 42] [2,3,4,9,10,36,37]) (Ov 186 4 39 [aa 40 10,aV 41 162 9] [(.t 40),(.t 41)] (some 42) [aA 10 42]))) alE
def alG:J:=.seq (.cond (.t 38) .skip (.exit 0)) alF
def Qs:J:=U [bG 38 .lss 3 37 36] [2,3,4,9,10,36,37,38] alG
def alH:J:=.block 0 (.loop Qs)
def alI:J:=U [aa 44 10,aA 7 44] [2,3,4,7] .ret
def alJ:J:=.seq (U [aV 35 121 8,dJ 36 134 35,lK 37 0] [2,3,4,9,10,36,37] alH) alI
def Qt:J:=U [aa 33 0,aZ 34 .add 3 33 1,aA 10 34] [2,3,4,8,9,10] alJ
def alK:J:=.seq (U [bc 26 121 8 0,aV 27 2 26,aZ 28 .eql 2 27 4] [0,2,3,4,8,9,28] alD) Qt
def alL:J:=U [bc 20 162 6 0,aV 21 2 20,bc 22 121 8 0,aV 23 2 22,aZ 24 .eql 2 23 1,ro 25 (.fA 162 [(0,(.t 21)),(1,(.t 24))]),jJ 9 162,dZ 162 9 25] [0,2,3,4,8,9] alK
def alM:J:=U [bc 15 91 3 2,aV 16 89 15,aa 17 0,cq 18 89 16 17,aV 19 121 18,jJ 8 121,dZ 121 8 19] [0,2,3,4,6,8] alL
def alN:J:=U [aV 11 158 2,aa 12 0,aV 13 162 6,cq 14 158 11 12,dZ 162 14 13] [0,2,3,4,6] alM
def Qu:J:=U [ro 6 (.dm 162 (.t 1)),a_ 7 0] [0,2,3,4,6] alN
theorem alO:Qu.nS (CV aF 135 [0,1,2,3,4] 5 2 4):=And.intro (True.intro) (And.intro (True.intro) (And.intro (True.intro) (And.intro (True.intro) (And.intro (And.intro (True.intro) (And.intro (True.intro) (True.intro))) (And.intro (True.intro) (And.intro (And.intro (True.intro) (And.intro (True.intro) (And.intro (And.intro (True.intro) (True.intro)) (And.intro (⟨186,2,39,3,_,_,_,_,_,rfl,rfl,(by kernel_rfl),rfl,rfl,rfl,rfl,rfl,rfl,rfl⟩) (True.intro))))) (And.intro (True.intro) (True.intro))))))))
theorem alP:bq ⟨45,[0,1,2,3,4]⟩ (Tryz.f135.body.getD .skip)=some Qu.strip:=by kernel_rfl
def JT:J:=U [aV 15 158 3,aA 2 15] [2] .ret
def alQ:J:=U [aV 10 186 4,bc 11 91 1 1,aV 12 2 11,ro 13 (.fA 162 [(0,(.t 12))]),ro 14 (.call (.t 10) [(.c (.int .i64 0)),(.t 13)])] [3] JT
def aIq:J:=U [ro 9 (.i_ 135 [(.t 3),(.t 1),(.t 4)]),dZ 186 4 9] [1,3,4] alQ
def alR:J:=.jE (IV aF 135 4 2 10 9 [3,1,4] [bc 11 91 1 1,aV 12 2 11,ro 13 (.fA 162 [(0,(.t 12))])] [(.c (.int .i64 0)),(.t 13)] (some 14) [3] JT) (OA 186 135 4 10 9 [3,1,4] [bc 11 91 1 1,aV 12 2 11,ro 13 (.fA 162 [(0,(.t 12))])] [(.c (.int .i64 0)),(.t 13)] (some 14) JT.lG)
def alS:J:=U [bc 5 91 1 2,aV 6 89 5,bM 7 89 6,ro 8 (.eu 158 (.t 7) (.t 7)),jJ 3 158,dZ 158 3 8] [1,3] alR
def Qv:J:=U [ro 1 (.dm 91 (.t 0)),il 2] [1] alS
theorem alT:Qv.nS (zH aF):=And.intro (True.intro) (And.intro (True.intro) (⟨186,135,4,2,10,9,_,_,_,_,_,_,rfl,rfl,(by kernel_rfl),⟨Tryz.t186,_,_,(by kernel_rfl),rfl,rfl,rfl,rfl⟩,rfl,rfl,rfl,rfl,(by kernel_rfl)⟩))
theorem alU:bq ⟨16,[0]⟩ (Tryz.f115.body.getD .skip)=some Qv.strip:=by kernel_rfl
def alV:J:=U [bc 26 121 1 0,aV 27 2 26,ro 28 (.call (.f 54) [(.t 27),(.c (.int .i64 0)),(.c (.int .i64 5))]),aa 29 28,bl 30 29 (.bS (.t 3)),bl 31 29 (.bS (.t 30)),bn 32 31 (.cY 121 (.t 1) 1),bn 33 31 (.cp 2 (.t 32)),bn 34 31 (.bV .eql 2 (.t 33) (.c (.int .i64 0))),bl 35 29 (.pick (.t 31) (.c (.bool true)) (.t 34)),ro 36 (.pick (.t 29) (.t 35) (.c (.bool false))),aa 37 36,bl 38 37 (.cY 121 (.t 1) 0),bl 39 37 (.cp 2 (.t 38)),bl 40 37 (.bV .eql 2 (.t 39) (.c (.int .i64 1))),bl 41 37 (.bS (.t 40)),bn 42 41 (.cY 121 (.t 1) 2),bn 43 41 (.cp 9 (.t 42)),⟨some 44,.bV .eql 9 (.t 43) (.c (.str [])),some (41,false)⟩,bl 45 37 (.pick (.t 41) (.c (.bool true)) (.t 44)),ro 46 (.pick (.t 37) (.t 45) (.c (.bool false))),aa 47 46,bl 48 47 (.bS (.t 4)),bl 49 47 (.bS (.t 48)),bn 50 49 (.cY 121 (.t 1) 3),bn 51 49 (.cp 119 (.t 50)),bn 52 49 (.len 119 (.t 51)),bn 53 49 (.bV .eql 3 (.t 52) (.c (.int .i64 0))),bl 54 47 (.pick (.t 49) (.c (.bool true)) (.t 53)),ro 55 (.pick (.t 47) (.t 54) (.c (.bool false))),aA 2 55] [2] .ret
def alW:J:=U [bc 13 121 1 0,aV 14 2 13,aZ 15 .eql 2 14 1,aa 16 15,bn 17 16 (.cY 121 (.t 1) 0),bn 18 16 (.cp 2 (.t 17)),bn 19 16 (.bV .eql 2 (.t 18) (.c (.int .i64 3))),ro 20 (.pick (.t 16) (.c (.bool true)) (.t 19)),aa 21 20,bn 22 21 (.cY 121 (.t 1) 0),bn 23 21 (.cp 2 (.t 22)),bn 24 21 (.bV .eql 2 (.t 23) (.c (.int .i64 5))),ro 25 (.pick (.t 21) (.c (.bool true)) (.t 24)),aA 4 25] [1,3,4] alV
def alX:J:=U [bc 5 121 1 0,aV 6 2 5,aZ 7 .eql 2 6 4,aa 8 7,bn 9 8 (.cY 121 (.t 1) 0),bn 10 8 (.cp 2 (.t 9)),bn 11 8 (.bV .eql 2 (.t 10) (.c (.int .i64 5))),ro 12 (.pick (.t 8) (.c (.bool true)) (.t 11)),aA 3 12] [1,3] alW
def alY:J:=U [ro 1 (.dm 121 (.t 0)),br 2 false] [1] alX
theorem alZ:bq ⟨56,[0]⟩ (Tryz.f136.body.getD .skip)=some alY.strip:=by kernel_rfl
def al0:J:=U [aa 3 0,dJ 4 88 3,aa 5 4,bl 6 5 (.bS (.t 0)),⟨some 7,.bV .neq 9 (.t 6) (.c (.str [116,97,117])),some (5,true)⟩,ro 8 (.pick (.t 5) (.t 7) (.c (.bool false))),aA 2 8] [2] .ret
def c93:J:=U [br 2 false] [0] al0
theorem al1:bq ⟨9,[0]⟩ (Tryz.f93.body.getD .skip)=some c93.strip:=by kernel_rfl
def al2:J:=U [aa 5 0,aa 6 1,aZ 7 .sub 2 6 1,ro 8 (.call (.f 54) [(.t 5),(.c (.int .i64 0)),(.t 7)]),aA 4 8] [4] .ret
def c31:J:=U [br 4 false] [0,1] al2
theorem al3:bq ⟨9,[0,1]⟩ (Tryz.f31.body.getD .skip)=some c31.strip:=by kernel_rfl
def al4:J:=U [aa 13 5,aZ 14 .eql 3 13 0,aa 15 14,bn 16 15 (.cY 121 (.t 2) 2),bn 17 15 (.cp 9 (.t 16)),⟨some 18,.bV .neq 9 (.t 17) (.c (.str [116,97,117])),some (15,false)⟩,bn 19 15 (.bS (.t 18)),bl 20 19 (.bS (.t 5)),bl 21 19 (.bV .leq 3 (.t 20) (.c (.int .i64 2))),bn 22 15 (.pick (.t 19) (.t 21) (.c (.bool false))),ro 23 (.pick (.t 15) (.c (.bool true)) (.t 22)),aA 4 23] [4] .ret
def al5:J:=U [aa 26 5,aZ 27 .eql 3 26 1,aA 4 27] [4] .ret
def al6:J:=U [aa 30 5,aa 31 1,bc 32 121 2 1,aV 33 2 32,cq 34 34 31 33,bc 35 91 34 1,aV 36 2 35,bG 37 .eql 2 30 36,aA 4 37] [4] .ret
def al7:J:=.cond (.t 28) al6 .skip
def al8:J:=U [aZ 29 .eql 2 10 5,aA 28 29] [1,2,5,28] al7
def al9:J:=.cond (.t 24) al5 al8
def al_:J:=U [aZ 25 .eql 2 10 3,aA 24 25] [1,2,5,10,24] al9
def ama:J:=.cond (.t 11) al4 al_
def amb:J:=.block 0 (U [aZ 12 .eql 2 10 1,aA 11 12] [1,2,5,10,11] ama)
def amc:J:=U [br 4 true] [4] .ret
def amd:J:=.seq (U [bc 9 121 2 0,aV 10 2 9] [1,2,5,10] amb) amc
def ame:J:=U [bc 6 121 2 3,aV 7 119 6,bM 8 119 7,aA 5 8] [1,2,5] amd
def amf:J:=U [ro 2 (.dm 121 (.t 0)),br 4 false] [1,2] ame
theorem amg:bq ⟨38,[0,1]⟩ (Tryz.f137.body.getD .skip)=some amf.strip:=by kernel_rfl
def amh:J:=U [aa 3 0,ro 4 (.call (.f 54) [(.t 3),(.c (.int .i64 0)),(.c (.int .i64 63))]),aA 2 4] [2] .ret
def c119:J:=U [br 2 false] [0] amh
theorem ami:bq ⟨5,[0]⟩ (Tryz.f119.body.getD .skip)=some c119.strip:=by kernel_rfl
def amj:J:=U [bc 9 176 2 1,aV 10 2 9,dJ 11 119 10,aA 4 11] [4] .ret
def amk:J:=U [bc 14 176 2 1,aV 15 2 14,aa 16 1,aZ 17 .sub 2 16 1,ro 18 (.call (.f 54) [(.t 15),(.c (.int .i64 0)),(.t 17)]),aA 4 18] [4] .ret
def aml:J:=U [bc 21 176 2 1,aV 22 2 21,ro 23 (.call (.f 54) [(.t 22),(.c (.int .i64 0)),(.c (.int .i64 8))]),aA 4 23] [4] .ret
def amm:J:=U [bc 26 176 2 1,aV 27 2 26,aZ 28 .eql 2 27 0,aA 4 28] [4] .ret
def amn:J:=.cond (.t 24) amm .skip
def amo:J:=U [aZ 25 .eql 2 6 3,aA 24 25] [2,24] amn
def amp:J:=.cond (.t 19) aml amo
def amq:J:=U [aZ 20 .eql 2 6 2,aA 19 20] [2,6,19] amp
def amr:J:=.cond (.t 12) amk amq
def ams:J:=U [aZ 13 .eql 2 6 1,aA 12 13] [1,2,6,12] amr
def amt:J:=.cond (.t 7) amj ams
def amu:J:=.block 0 (U [aZ 8 .eql 2 6 0,aA 7 8] [1,2,6,7] amt)
def amv:J:=U [br 4 false] [4] .ret
def amw:J:=.seq (U [bc 5 176 2 0,aV 6 2 5] [1,2,6] amu) amv
def c154:J:=U [ro 2 (.dm 176 (.t 0)),br 4 false] [1,2] amw
theorem amx:bq ⟨29,[0,1]⟩ (Tryz.f154.body.getD .skip)=some c154.strip:=by kernel_rfl
def amy:J:=U [a_ 2 2] [2] .ret
def amz:J:=U [a_ 2 1] [2] .ret
def amA:J:=.cond (.t 7) amz .skip
def amB:J:=U [aZ 8 .eql 2 4 3,aA 7 8] [7] amA
def amC:J:=.cond (.t 5) amy amB
def amD:J:=.block 0 (U [aZ 6 .eql 2 4 2,aA 5 6] [4,5] amC)
def amE:J:=U [a_ 2 0] [2] .ret
def amF:J:=.seq (U [bc 3 176 1 0,aV 4 2 3] [4] amD) amE
def amG:J:=U [ro 1 (.dm 176 (.t 0)),a_ 2 0] [1] amF
theorem amH:bq ⟨9,[0]⟩ (Tryz.f155.body.getD .skip)=some amG.strip:=by kernel_rfl
def amI:J:=U [br 6 false] [6] .ret
def amJ:J:=.cond (.t 24) amI .skip
def amK:J:=U [br 6 false] [6] .ret
def amL:J:=.cond (.t 38) amK .skip
def amM:J:=.bW [aa 39 7,aV 40 176 9,dJ 41 155 40,aZ 42 .sub 3 41 1,bG 43 .add 3 39 42,aA 7 43] (some [1,7,25,26,27])
def amN:J:=.seq (U [aa 31 7,aZ 32 .eql 3 31 0,aa 33 32,bn 34 33 (.cp 176 (.t 9)),bn 35 33 (.bS (.t 1)),⟨some 36,.call (.f 154) [(.t 34),(.t 35)],some (33,false)⟩,bn 37 33 (.un .not (.t 36)),ro 38 (.pick (.t 33) (.c (.bool true)) (.t 37))] [1,7,9,25,26,27,38] amL) amM
def amO:J:=.bW [aZ 44 .add 3 27 1,aa 27 44] (some [1,7,25,26,27])
def amP:J:=.seq (.block 1 (U [cq 29 144 25 27,aV 30 176 29,jJ 9 176,dZ 176 9 30] [1,7,9,25,26,27] amN)) amO
def amQ:J:=.seq (.cond (.t 28) .skip (.exit 0)) amP
def Qw:J:=U [bG 28 .lss 3 27 26] [1,7,25,26,27,28] amQ
def amR:J:=.block 0 (.loop Qw)
def amS:J:=U [aa 45 7,aZ 46 .eql 3 45 0,aA 6 46] [6] .ret
def amT:J:=.seq (U [aa 25 0,bM 26 144 25,lK 27 0] [1,7,25,26,27] amR) amS
def amU:J:=U [a_ 7 1] [0,1,7] amT
def amV:J:=.seq (U [aa 10 1,ro 11 (.call (.f 54) [(.t 10),(.c (.int .i64 0)),(.c (.int .i64 29))]),eF 12 11,aa 13 12,bn 14 13 (.bS (.t 2)),⟨some 15,.call (.f 54) [(.t 14),(.c (.int .i64 1)),(.c (.int .i64 60))],some (13,false)⟩,bn 16 13 (.un .not (.t 15)),ro 17 (.pick (.t 13) (.c (.bool true)) (.t 16)),aa 18 17,bn 19 18 (.bS (.t 0)),bn 20 18 (.len 144 (.t 19)),bn 21 18 (.bS (.t 2)),⟨some 22,.call (.f 54) [(.t 20),(.c (.int .i64 1)),(.t 21)],some (18,false)⟩,bn 23 18 (.un .not (.t 22)),ro 24 (.pick (.t 18) (.c (.bool true)) (.t 23))] [0,1,24] amJ) amU
def amW:J:=U [br 6 false] [0,1,2] amV
theorem amX:bq ⟨47,[0,1,2]⟩ (Tryz.f140.body.getD .skip)=some amW.strip:=by kernel_rfl
def amY:J:=U [aa 4 0,bc 5 162 1 0,aV 6 2 5,ro 7 (.call (.f 140) [(.t 4),(.t 6),(.c (.int .i64 15))]),eF 8 7,aA 3 8] [3] .ret
def c139:J:=U [br 3 false] [0,1] amY
theorem amZ:bq ⟨9,[0,1]⟩ (Tryz.f139.body.getD .skip)=some c139.strip:=by kernel_rfl
def am0:J:=U [aa 17 5,aA 4 17] [4] .ret
def am1:J:=.cond (.t 16) am0 .skip
def am2:J:=U [aa 11 1,aa 12 0,aa 13 5,cq 14 119 12 13,aV 15 144 14,ro 16 (.call (.t 11) [(.t 15)])] [0,1,5,7,8,16] am1
def am3:J:=.bW [aZ 18 .add 3 8 1,aa 8 18] (some [0,1,7,8])
def am4:J:=.seq (.block 1 (U [aa 10 8,aA 5 10] [0,1,5,7,8] am2)) am3
def am5:J:=.seq (.cond (.t 9) .skip (.exit 0)) am4
def Qx:J:=U [bG 9 .lss 3 8 7] [0,1,7,8,9] am5
def am6:J:=.block 0 (.loop Qx)
def am7:J:=U [a_ 4 (-1)] [4] .ret
def am8:J:=.seq (U [aa 6 0,bM 7 119 6,lK 8 0] [0,1,7,8] am6) am7
def am9:J:=U [a_ 4 0] [0,1] am8
theorem am_:bq ⟨19,[0,1]⟩ (Tryz.f153.body.getD .skip)=some am9.strip:=by kernel_rfl
def ana:J:=U [aa 5 0,aa 6 1,dB 7 153 5 6,aZ 8 .geq 3 7 0,aA 4 8] [4] .ret
def c138:J:=U [br 4 false] [0,1] ana
theorem anb:bq ⟨9,[0,1]⟩ (Tryz.f138.body.getD .skip)=some c138.strip:=by kernel_rfl
def anc:J:=U [a_ 6 2] [6] .ret
def ane:J:=U [a_ 6 3] [6] .ret
def anf:J:=U [a_ 6 4] [6] .ret
def ang:J:=U [a_ 6 5] [6] .ret
def anh:J:=U [a_ 6 6] [6] .ret
def ani:J:=U [a_ 6 7] [6] .ret
def anj:J:=U [a_ 6 8] [6] .ret
def ank:J:=.cond (.t 72) anj .skip
def anl:J:=U [bc 73 121 3 3,aV 74 119 73,ro 75 (.i_ 139 [(.t 5)]),dB 76 138 74 75,aA 72 76] [72] ank
def anm:J:=.cond (.t 63) ani anl
def ann:J:=U [bc 64 121 3 0,aV 65 2 64,aZ 66 .eql 2 65 4,aa 67 66,bl 68 67 (.cY 162 (.t 5) 0),bl 69 67 (.cp 2 (.t 68)),bl 70 67 (.bV .geq 2 (.t 69) (.c (.int .i64 6))),ro 71 (.pick (.t 67) (.t 70) (.c (.bool false))),aA 63 71] [3,5,63] anm
def ano:J:=.cond (.t 54) anh ann
def anp:J:=U [bc 55 121 3 0,aV 56 2 55,aZ 57 .eql 2 56 5,aa 58 57,bl 59 58 (.cY 162 (.t 5) 1),bl 60 58 (.cp 4 (.t 59)),bl 61 58 (.un .not (.t 60)),ro 62 (.pick (.t 58) (.t 61) (.c (.bool false))),aA 54 62] [3,5,54] ano
def anq:J:=.cond (.t 49) ang anp
def anr:J:=U [aV 50 121 3,aa 51 1,dB 52 137 50 51,eF 53 52,aA 49 53] [3,5,49] anq
def Qy:J:=.cond (.t 26) anf anr
def ans:J:=U [bc 27 121 3 0,aV 28 2 27,aZ 29 .eql 2 28 4,aa 30 29,bl 31 30 (.cY 121 (.t 3) 1),bl 32 30 (.cp 2 (.t 31)),⟨some 33,.call (.f 54) [(.t 32),(.c (.int .i64 1)),(.c (.int .i64 7))],some (30,true)⟩,bl 34 30 (.un .not (.t 33)),ro 35 (.pick (.t 30) (.t 34) (.c (.bool false))),aa 36 35,bn 37 36 (.cY 121 (.t 3) 0),bn 38 36 (.cp 2 (.t 37)),bn 39 36 (.bV .eql 2 (.t 38) (.c (.int .i64 5))),bn 40 36 (.bS (.t 39)),bl 41 40 (.cY 121 (.t 3) 1),bl 42 40 (.cp 2 (.t 41)),bl 43 40 (.bS (.t 1)),bl 44 40 (.len 34 (.t 43)),⟨some 45,.call (.f 31) [(.t 42),(.t 44)],some (40,true)⟩,bl 46 40 (.un .not (.t 45)),bn 47 36 (.pick (.t 40) (.t 46) (.c (.bool false))),ro 48 (.pick (.t 36) (.c (.bool true)) (.t 47)),aA 26 48] [1,3,5,26] Qy
def Qz:J:=.cond (.t 11) ane ans
def ant:J:=U [bc 12 121 3 0,aV 13 2 12,aZ 14 .eql 2 13 1,aa 15 14,bl 16 15 (.cY 121 (.t 3) 2),bl 17 15 (.cp 9 (.t 16)),⟨some 18,.bV .neq 9 (.t 17) (.c (.str [116,97,117])),some (15,true)⟩,ro 19 (.pick (.t 15) (.t 18) (.c (.bool false))),aa 20 19,bl 21 20 (.cY 121 (.t 3) 2),bl 22 20 (.cp 9 (.t 21)),⟨some 23,.call (.f 93) [(.t 22)],some (20,true)⟩,bl 24 20 (.un .not (.t 23)),ro 25 (.pick (.t 20) (.t 24) (.c (.bool false))),aA 11 25] [1,3,5,11] Qz
def anu:J:=.cond (.t 7) anc ant
def anv:J:=U [a_ 6 0] [6] .ret
def anw:J:=.seq (.block 0 (U [aV 8 121 3,dJ 9 136 8,eF 10 9,aA 7 10] [1,3,5,7] anu)) anv
def c116:J:=U [ro 3 (.dm 121 (.t 0)),ro 5 (.dm 162 (.t 2)),a_ 6 0] [1,3,5] anw
theorem anx:bq ⟨77,[0,1,2]⟩ (Tryz.f116.body.getD .skip)=some c116.strip:=by kernel_rfl
def anz:J:=U [a_ 4 0,a_ 5 1] [4,5] .ret
def anA:J:=.cond (.t 22) anz .skip
def anB:J:=U [aa 42 7,aa 43 9,aA 4 42,aA 5 43] [4,5] .ret
def anC:J:=.cond (.t 41) anB .skip
def anD:J:=U [aa 40 9,aZ 41 .neq 2 40 0] [0,6,7,9,26,27,28,41] anC
def anE:J:=kj [aV 33 121 8,aa 34 0,aa 35 6,aa 36 7,cq 37 158 35 36,aV 38 162 37,OY 39 116 33 34 38,aA 9 39] [[],[],[],[],[2,3],[4],[0,1,5],[6,6,0,1,2,3,4,5,6]] [0,6,7,9,26,27,28] anD
def anF:J:=.bW [aZ 44 .add 3 28 1,aa 28 44] (some [0,6,26,27,28])
def anG:J:=.seq (.block 1 (U [aa 30 28,cq 31 89 26 28,aV 32 121 31,jJ 8 121,aA 7 30,dZ 121 8 32] [0,6,7,8,26,27,28] anE)) anF
def anH:J:=.seq (.cond (.t 29) .skip (.exit 0)) anG
def QA:J:=U [bG 29 .lss 3 28 27] [0,6,26,27,28,29] anH
def anI:J:=.block 0 (.loop QA)
def anJ:J:=U [a_ 4 0,a_ 5 0] [4,5] .ret
def anK:J:=.seq (U [bc 25 91 3 2,aV 26 89 25,bM 27 89 26,lK 28 0] [0,6,26,27,28] anI) anJ
def anL:J:=U [aV 23 91 3,dJ 24 115 23,aA 6 24] [0,3,6] anK
def anM:J:=.seq (kj [bc 10 91 3 2,aV 11 89 10,bM 12 89 11,ro 13 (.call (.f 54) [(.t 12),(.c (.int .i64 1)),(.c (.int .i64 20))]),eF 14 13,aa 15 14,bn 16 15 (.cp 91 (.t 3)),⟨some 17,.call (.f 114) [(.t 16),(.c (.int .i64 0))],some (15,false)⟩,bn 18 15 (.cY 91 (.t 3) 2),bn 19 15 (.cp 89 (.t 18)),bn 20 15 (.len 89 (.t 19)),bn 21 15 (.bV .neq 3 (.t 17) (.t 20)),ro 22 (.pick (.t 15) (.c (.bool true)) (.t 21))] [[],[0],[1],[2],[3],[4,3],[5],[6,5,5],[5],[8,5],[9,5],[7,10,5],[5,11]] [0,3,22] anA) anL
def anN:J:=U [ro 3 (.dm 91 (.t 1)),a_ 4 0,a_ 5 0] [0,3] anM
theorem anO:bq ⟨45,[0,1]⟩ (Tryz.f90.body.getD .skip)=some anN.strip:=by kernel_rfl
def anP:J:=U [br 2 false] [2] .ret
def anQ:J:=.cond (.t 15) anP .skip
def anR:J:=U [br 2 false] [2] .ret
def anS:J:=.cond (.t 35) anR .skip
def anT:J:=U [br 2 false] [2] .ret
def anU:J:=.cond (.t 43) anT .skip
def anV:J:=U [aa 42 6,aZ 43 .neq 2 42 0] [0,16,17,18,43] anU
def anW:J:=U [aa 37 0,aV 38 91 4,dB 39 90 37 38,aa 36 39,iY 40 36 0,iY 41 36 1,aA 5 40,aA 6 41] [0,6,16,17,18] anV
def anX:J:=.seq (kj [bc 23 91 4 0,aV 24 9 23,dJ 25 88 24,eF 26 25,aa 27 26,bn 28 27 (.bS (.t 0)),bn 29 27 (.bS (.t 3)),bn 30 27 (.eE 34 (.t 28) none (some (.t 29))),bn 31 27 (.cY 91 (.t 4) 0),bn 32 27 (.cp 9 (.t 31)),⟨some 33,.call (.f 89) [(.t 30),(.t 32)],some (27,false)⟩,bn 34 27 (.bV .geq 3 (.t 33) (.c (.int .i64 0))),ro 35 (.pick (.t 27) (.c (.bool true)) (.t 34))] [[],[0],[1],[2],[3,2],[4],[4],[5,6,4],[4],[8,4],[7,9,4,4],[10,4],[4,11]] [0,4,16,17,18,35] anS) anW
def anY:J:=.bW [aZ 44 .add 3 18 1,aa 18 44] (some [0,16,17,18])
def anZ:J:=.seq (.block 1 (U [aa 20 18,cq 21 34 16 18,aV 22 91 21,jJ 4 91,aA 3 20,dZ 91 4 22] [0,3,4,16,17,18] anX)) anY
def an0:J:=.seq (.cond (.t 19) .skip (.exit 0)) anZ
def QB:J:=U [bG 19 .lss 3 18 17] [0,16,17,18,19] an0
def an1:J:=.block 0 (.loop QB)
def an2:J:=U [br 2 true] [2] .ret
def an3:J:=.seq (U [aa 16 0,bM 17 34 16,lK 18 0] [0,16,17,18] an1) an2
def an4:J:=.seq (U [aa 7 0,bM 8 34 7,ro 9 (.call (.f 54) [(.t 8),(.c (.int .i64 1)),(.c (.int .i64 4))]),eF 10 9,aa 11 10,bn 12 11 (.bS (.t 0)),⟨some 13,.call (.f 87) [(.t 12)],some (11,false)⟩,bn 14 11 (.un .not (.t 13)),ro 15 (.pick (.t 11) (.c (.bool true)) (.t 14))] [0,15] anQ) an3
def an5:J:=U [br 2 false] [0] an4
theorem an6:bq ⟨45,[0]⟩ (Tryz.f69.body.getD .skip)=some an5.strip:=by kernel_rfl
def an7:J:=U [aa 3 0,dJ 4 119 3,eF 5 4,aA 2 5] [2] .ret
def an8:J:=U [br 2 false] [0] an7
theorem an9:bq ⟨6,[0]⟩ (Tryz.f118.body.getD .skip)=some an8.strip:=by kernel_rfl
def an_:J:=U [aa 17 5,aA 4 17] [4] .ret
def aoa:J:=.cond (.t 16) an_ .skip
def aob:J:=U [aa 11 1,aa 12 0,aa 13 5,cq 14 31 12 13,aV 15 2 14,ro 16 (.call (.t 11) [(.t 15)])] [0,1,5,7,8,16] aoa
def aoc:J:=.bW [aZ 18 .add 3 8 1,aa 8 18] (some [0,1,7,8])
def aod:J:=.seq (.block 1 (U [aa 10 8,aA 5 10] [0,1,5,7,8] aob)) aoc
def aoe:J:=.seq (.cond (.t 9) .skip (.exit 0)) aod
def QC:J:=U [bG 9 .lss 3 8 7] [0,1,7,8,9] aoe
def aof:J:=.block 0 (.loop QC)
def aog:J:=U [a_ 4 (-1)] [4] .ret
def aoh:J:=.seq (U [aa 6 0,bM 7 31 6,lK 8 0] [0,1,7,8] aof) aog
def c141:J:=U [a_ 4 0] [0,1] aoh
theorem aoi:bq ⟨19,[0,1]⟩ (Tryz.f141.body.getD .skip)=some c141.strip:=by kernel_rfl
def aoj:J:=U [aa 5 0,aa 6 1,dB 7 141 5 6,aZ 8 .geq 3 7 0,aA 4 8] [4] .ret
def c117:J:=U [br 4 false] [0,1] aoj
theorem aok:bq ⟨9,[0,1]⟩ (Tryz.f117.body.getD .skip)=some c117.strip:=by kernel_rfl
def aol:J:=U [aa 3 0,ro 4 (.call (.f 117) [(.t 3),(.f 118)]),eF 5 4,aA 2 5] [2] .ret
def aom:J:=U [br 2 false] [0] aol
theorem aon:bq ⟨6,[0]⟩ (Tryz.f92.body.getD .skip)=some aom.strip:=by kernel_rfl
def aoo:J:=kj [bc 5 93 3 0,aV 6 2 5,aa 7 0,bM 8 34 7,dB 9 31 6 8,aa 10 9,bl 11 10 (.cY 93 (.t 3) 1),bl 12 10 (.cp 31 (.t 11)),bl 13 10 (.len 31 (.t 12)),bl 14 10 (.bS (.t 0)),bl 15 10 (.cY 93 (.t 3) 0),bl 16 10 (.cp 2 (.t 15)),bl 17 10 (.fp 34 (.t 14) (.t 16)),bl 18 10 (.cY 91 (.t 17) 1),bl 19 10 (.cp 2 (.t 18)),bl 20 10 (.bV .eql 2 (.t 13) (.t 19)),ro 21 (.pick (.t 10) (.t 20) (.c (.bool false))),aa 22 21,bl 23 22 (.cY 93 (.t 3) 1),bl 24 22 (.cp 31 (.t 23)),⟨some 25,.call (.f 92) [(.t 24)],some (22,true)⟩,ro 26 (.pick (.t 22) (.t 25) (.c (.bool false))),aA 4 26] [[],[0],[],[2],[1,3],[4,4],[5],[6,5],[7,5],[5],[5],[10,5],[9,11,5],[12,5],[13,5],[8,14,5],[5,15],[16,5],[17],[18,17],[19,17,17],[17,20],[21,20,0,1,2,3,4,5,6,7,8,9,10,11,12,13,14,15,16,17,18,19,20,21]] [4] .ret
def c72:J:=U [ro 3 (.dm 93 (.t 1)),br 4 false] [0,3] aoo
theorem aop:bq ⟨27,[0,1]⟩ (Tryz.f72.body.getD .skip)=some c72.strip:=by kernel_rfl
def aoq:J:=U [bc 4 38 1 0,aV 5 34 4,aV 6 93 2,dB 7 72 5 6,eF 8 7,aA 3 8] [3] .ret
def aor:J:=U [ro 2 (.dm 93 (.t 0)),br 3 false] [1,2] aoq
theorem aos:bq ⟨9,[0,1]⟩ (Tryz.f71.body.getD .skip)=some aor.strip:=by kernel_rfl
def aot:J:=U [aa 17 5,aA 4 17] [4] .ret
def aou:J:=.cond (.t 16) aot .skip
def aov:J:=U [aa 11 1,aa 12 0,aa 13 5,cq 14 35 12 13,aV 15 93 14,ro 16 (.call (.t 11) [(.t 15)])] [0,1,5,7,8,16] aou
def aow:J:=.bW [aZ 18 .add 3 8 1,aa 8 18] (some [0,1,7,8])
def aox:J:=.seq (.block 1 (U [aa 10 8,aA 5 10] [0,1,5,7,8] aov)) aow
def aoy:J:=.seq (.cond (.t 9) .skip (.exit 0)) aox
def QD:J:=U [bG 9 .lss 3 8 7] [0,1,7,8,9] aoy
def aoz:J:=.block 0 (.loop QD)
def aoA:J:=U [a_ 4 (-1)] [4] .ret
def aoB:J:=.seq (U [aa 6 0,bM 7 35 6,lK 8 0] [0,1,7,8] aoz) aoA
def c91:J:=U [a_ 4 0] [0,1] aoB
theorem aoC:bq ⟨19,[0,1]⟩ (Tryz.f91.body.getD .skip)=some c91.strip:=by kernel_rfl
def aoD:J:=U [aa 5 0,aa 6 1,dB 7 91 5 6,aZ 8 .geq 3 7 0,aA 4 8] [4] .ret
def c70:J:=U [br 4 false] [0,1] aoD
theorem aoE:bq ⟨9,[0,1]⟩ (Tryz.f70.body.getD .skip)=some c70.strip:=by kernel_rfl
def aoF:J:=U [aa 3 0,aa 4 0,bG 5 .neq 9 3 4,aA 2 5] [2] .ret
def c156:J:=U [br 2 false] [0] aoF
theorem aoG:bq ⟨6,[0]⟩ (Tryz.f156.body.getD .skip)=some c156.strip:=by kernel_rfl
def aoH:J:=U [a_ 4 0] [4] .ret
def aoI:J:=.cond (.t 12) aoH .skip
def aoJ:J:=U [a_ 4 (-1)] [4] .ret
def aoK:J:=.seq (U [aa 12 6] [12] aoI) aoJ
def aoL:J:=.cond (.t 11) aoK .skip
def aoM:J:=U [a_ 4 1] [4] .ret
def aoN:J:=.cond (.t 13) aoM .skip
def aoO:J:=U [a_ 4 (-1)] [4] .ret
def aoP:J:=.cond (.t 16) aoO .skip
def aoQ:J:=U [a_ 4 1] [4] .ret
def aoR:J:=.cond (.t 19) aoQ .skip
def aoS:J:=U [a_ 4 0] [4] .ret
def aoT:J:=.seq (U [aa 17 0,aa 18 1,bG 19 .gtr 9 17 18] [19] aoR) aoS
def aoU:J:=.seq (U [aa 14 0,aa 15 1,bG 16 .lss 9 14 15] [0,1,16] aoP) aoT
def aoV:J:=.seq (U [aa 13 6] [0,1,13] aoN) aoU
def aoW:J:=.seq (U [aa 11 5] [0,1,6,11] aoL) aoV
def aoX:J:=U [aa 9 1,dJ 10 156 9,aA 6 10] [0,1,5,6] aoW
def aoY:J:=U [aa 7 0,dJ 8 156 7,aA 5 8] [0,1,5] aoX
def aoZ:J:=U [a_ 4 0] [0,1] aoY
theorem ao0:bq ⟨20,[0,1]⟩ (Tryz.f142.body.getD .skip)=some aoZ.strip:=by kernel_rfl
def ao1:J:=U [a_ 4 1] [4] .ret
def ao2:J:=.cond (.t 19) ao1 .skip
def ao3:J:=U [aa 29 8,aA 4 29] [4] .ret
def ao4:J:=.cond (.t 28) ao3 .skip
def ao5:J:=U [aa 27 8,aZ 28 .neq 3 27 0] [0,1,8,9,10,11,28] ao4
def ao6:J:=U [aa 24 6,aa 25 7,dB 26 142 24 25,aA 8 26] [0,1,8,9,10,11] ao5
def ao7:J:=U [aa 20 1,aa 21 5,cq 22 25 20 21,aV 23 9 22,aA 7 23] [0,1,6,7,9,10,11] ao6
def ao8:J:=.seq (U [aa 16 5,aa 17 1,bM 18 25 17,bG 19 .geq 3 16 18] [0,1,5,6,9,10,11,19] ao2) ao7
def ao9:J:=.bW [aZ 30 .add 3 11 1,aa 11 30] (some [0,1,9,10,11])
def ao_:J:=.seq (.block 1 (U [aa 13 11,cq 14 25 9 11,aV 15 9 14,aA 5 13,aA 6 15] [0,1,5,6,9,10,11] ao8)) ao9
def apa:J:=.seq (.cond (.t 12) .skip (.exit 0)) ao_
def QE:J:=U [bG 12 .lss 3 11 10] [0,1,9,10,11,12] apa
def apb:J:=.block 0 (.loop QE)
def apc:J:=U [a_ 4 (-1)] [4] .ret
def apd:J:=.cond (.t 35) apc .skip
def ape:J:=U [a_ 4 0] [4] .ret
def apf:J:=.seq (U [aa 31 0,bM 32 25 31,aa 33 1,bM 34 25 33,bG 35 .lss 3 32 34] [35] apd) ape
def apg:J:=.seq (U [aa 9 0,bM 10 25 9,lK 11 0] [0,1,9,10,11] apb) apf
def aph:J:=U [a_ 4 0] [0,1] apg
theorem api:bq ⟨36,[0,1]⟩ (Tryz.f120.body.getD .skip)=some aph.strip:=by kernel_rfl
def apj:J:=U [bc 5 95 2 0,aV 6 9 5,bc 7 95 2 1,aV 8 9 7,ro 9 (.eQ 25 2 [(0,(.t 6)),(1,(.t 8))]),bc 10 95 3 0,aV 11 9 10,bc 12 95 3 1,aV 13 9 12,ro 14 (.eQ 25 2 [(0,(.t 11)),(1,(.t 13))]),dB 15 120 9 14,aA 4 15] [4] .ret
def apk:J:=U [ro 2 (.dm 95 (.t 0)),ro 3 (.dm 95 (.t 1)),a_ 4 0] [2,3] apj
theorem apl:bq ⟨16,[0,1]⟩ (Tryz.f94.body.getD .skip)=some apk.strip:=by kernel_rfl
def apm:J:=U [bc 4 95 2 0,aV 5 9 4,bc 6 95 1 2,aV 7 9 6,bG 8 .eql 9 5 7,aa 9 8,bn 10 9 (.cY 95 (.t 2) 1),bn 11 9 (.cp 9 (.t 10)),bn 12 9 (.cY 95 (.t 1) 2),bn 13 9 (.cp 9 (.t 12)),bn 14 9 (.bV .eql 9 (.t 11) (.t 13)),ro 15 (.pick (.t 9) (.c (.bool true)) (.t 14)),aA 3 15] [3] .ret
def apn:J:=U [ro 2 (.dm 95 (.t 0)),br 3 false] [1,2] apm
theorem apo:bq ⟨16,[0,1]⟩ (Tryz.f96.body.getD .skip)=some apn.strip:=by kernel_rfl
def apq:J:=U [aa 17 5,aA 4 17] [4] .ret
def apr:J:=.cond (.t 16) apq .skip
def aps:J:=U [aa 11 1,aa 12 0,aa 13 5,cq 14 36 12 13,aV 15 95 14,ro 16 (.call (.t 11) [(.t 15)])] [0,1,5,7,8,16] apr
def apt:J:=.bW [aZ 18 .add 3 8 1,aa 8 18] (some [0,1,7,8])
def apu:J:=.seq (.block 1 (U [aa 10 8,aA 5 10] [0,1,5,7,8] aps)) apt
def apv:J:=.seq (.cond (.t 9) .skip (.exit 0)) apu
def QF:J:=U [bG 9 .lss 3 8 7] [0,1,7,8,9] apv
def apw:J:=.block 0 (.loop QF)
def apx:J:=U [a_ 4 (-1)] [4] .ret
def apy:J:=.seq (U [aa 6 0,bM 7 36 6,lK 8 0] [0,1,7,8] apw) apx
def apz:J:=U [a_ 4 0] [0,1] apy
theorem apA:bq ⟨19,[0,1]⟩ (Tryz.f121.body.getD .skip)=some apz.strip:=by kernel_rfl
def apB:J:=U [aa 5 0,aa 6 1,dB 7 121 5 6,aZ 8 .geq 3 7 0,aA 4 8] [4] .ret
def apC:J:=U [br 4 false] [0,1] apB
theorem apD:bq ⟨9,[0,1]⟩ (Tryz.f95.body.getD .skip)=some apC.strip:=by kernel_rfl
def apE:J:=U [br 2 false] [2] .ret
def apF:J:=.cond (.t 48) apE .skip
def apG:J:=U [br 2 false] [2] .ret
def apH:J:=.cond (.t 51) apG .skip
def apI:J:=U [aa 49 0,ro 50 (.i_ 96 [(.t 4)]),dB 51 95 49 50] [0,5,6,7,51] apH
def apJ:J:=.seq (kj [bc 12 95 4 0,aV 13 9 12,dJ 14 93 13,eF 15 14,aa 16 15,bn 17 16 (.cY 95 (.t 4) 1),bn 18 16 (.cp 9 (.t 17)),⟨some 19,.call (.f 93) [(.t 18)],some (16,false)⟩,bn 20 16 (.un .not (.t 19)),ro 21 (.pick (.t 16) (.c (.bool true)) (.t 20)),aa 22 21,bn 23 22 (.cY 95 (.t 4) 2),bn 24 22 (.cp 9 (.t 23)),⟨some 25,.call (.f 93) [(.t 24)],some (22,false)⟩,bn 26 22 (.un .not (.t 25)),ro 27 (.pick (.t 22) (.c (.bool true)) (.t 26)),aa 28 27,bn 29 28 (.cY 95 (.t 4) 0),bn 30 28 (.cp 9 (.t 29)),bn 31 28 (.cY 95 (.t 4) 1),bn 32 28 (.cp 9 (.t 31)),bn 33 28 (.bV .gtr 9 (.t 30) (.t 32)),ro 34 (.pick (.t 28) (.c (.bool true)) (.t 33)),aa 35 34,bn 36 35 (.bS (.t 3)),bn 37 35 (.bV .gtr 3 (.t 36) (.c (.int .i64 0))),bn 38 35 (.bS (.t 37)),bl 39 38 (.bS (.t 0)),bl 40 38 (.bS (.t 3)),bl 41 38 (.bV .sub 3 (.t 40) (.c (.int .i64 1))),bl 42 38 (.fp 36 (.t 39) (.t 41)),bl 43 38 (.cp 95 (.t 42)),bl 44 38 (.cp 95 (.t 4)),⟨some 45,.call (.f 94) [(.t 43),(.t 44)],some (38,true)⟩,bl 46 38 (.bV .geq 3 (.t 45) (.c (.int .i64 0))),bn 47 35 (.pick (.t 38) (.t 46) (.c (.bool false))),ro 48 (.pick (.t 35) (.c (.bool true)) (.t 47))] [[],[0],[1],[2],[3,2],[4],[5,4],[6,4,4],[7,4],[4,8],[9,7],[10],[11,10],[12,10,10],[13,10],[10,14],[15,13],[16],[17,16],[16],[19,16],[18,20,16],[16,21],[22,16],[23],[24,23],[25,23,23],[26],[26],[28,26],[27,29,26],[30,26],[26],[31,32,26,26],[33,26],[26,34,23],[23,35]] [0,4,5,6,7,48] apF) apI
def apK:J:=.bW [aZ 52 .add 3 7 1,aa 7 52] (some [0,5,6,7])
def apL:J:=.seq (.block 1 (U [aa 9 7,cq 10 36 5 7,aV 11 95 10,jJ 4 95,aA 3 9,dZ 95 4 11] [0,3,4,5,6,7] apJ)) apK
def apM:J:=.seq (.cond (.t 8) .skip (.exit 0)) apL
def QG:J:=U [bG 8 .lss 3 7 6] [0,5,6,7,8] apM
def apN:J:=.block 0 (.loop QG)
def apO:J:=U [aa 53 0,bM 54 36 53,aZ 55 .leq 3 54 6,aA 2 55] [2] .ret
def apP:J:=.seq (U [aa 5 0,bM 6 36 5,lK 7 0] [0,5,6,7] apN) apO
def apQ:J:=U [br 2 false] [0] apP
theorem apR:bq ⟨56,[0]⟩ (Tryz.f73.body.getD .skip)=some apQ.strip:=by kernel_rfl
def apS:J:=U [br 2 false] [2] .ret
def apT:J:=.cond (.t 27) apS .skip
def apU:J:=U [aa 12 4,dJ 13 93 12,eF 14 13,aa 15 14,bn 16 15 (.bS (.t 3)),bn 17 15 (.bV .gtr 3 (.t 16) (.c (.int .i64 0))),bn 18 15 (.bS (.t 17)),bl 19 18 (.bS (.t 4)),bl 20 18 (.bS (.t 0)),bl 21 18 (.bS (.t 3)),bl 22 18 (.bV .sub 3 (.t 21) (.c (.int .i64 1))),bl 23 18 (.fp 25 (.t 20) (.t 22)),bl 24 18 (.cp 9 (.t 23)),bl 25 18 (.bV .leq 9 (.t 19) (.t 24)),bn 26 15 (.pick (.t 18) (.t 25) (.c (.bool false))),ro 27 (.pick (.t 15) (.c (.bool true)) (.t 26))] [0,5,6,7,27] apT
def apV:J:=.bW [aZ 28 .add 3 7 1,aa 7 28] (some [0,5,6,7])
def apW:J:=.seq (.block 1 (U [aa 9 7,cq 10 25 5 7,aV 11 9 10,aA 3 9,aA 4 11] [0,3,4,5,6,7] apU)) apV
def apX:J:=.seq (.cond (.t 8) .skip (.exit 0)) apW
def QH:J:=U [bG 8 .lss 3 7 6] [0,5,6,7,8] apX
def apY:J:=.block 0 (.loop QH)
def apZ:J:=U [aa 29 0,bM 30 25 29,aZ 31 .leq 3 30 12,aA 2 31] [2] .ret
def ap0:J:=.seq (U [aa 5 0,bM 6 25 5,lK 7 0] [0,5,6,7] apY) apZ
def ap1:J:=U [br 2 false] [0] ap0
theorem ap2:bq ⟨32,[0]⟩ (Tryz.f74.body.getD .skip)=some ap1.strip:=by kernel_rfl
def ap3:J:=U [a_ 2 1] [2] .ret
def ap4:J:=U [a_ 2 2] [2] .ret
def ap5:J:=U [a_ 2 3] [2] .ret
def ap6:J:=U [a_ 2 4] [2] .ret
def ap7:J:=U [a_ 2 5] [2] .ret
def ap8:J:=.cond (.t 30) ap7 .skip
def ap9:J:=U [bc 31 38 1 4,aV 32 25 31,dJ 33 74 32,eF 34 33,aA 30 34] [30] ap8
def ap_:J:=.cond (.t 25) ap6 ap9
def aqa:J:=U [bc 26 38 1 3,aV 27 25 26,dJ 28 74 27,eF 29 28,aA 25 29] [1,25] ap_
def aqb:J:=.cond (.t 20) ap5 aqa
def aqc:J:=U [bc 21 38 1 2,aV 22 36 21,dJ 23 73 22,eF 24 23,aA 20 24] [1,20] aqb
def aqd:J:=.cond (.t 8) ap4 aqc
def aqe:J:=U [bc 9 38 1 1,aV 10 35 9,bM 11 35 10,ro 12 (.call (.f 54) [(.t 11),(.c (.int .i64 1)),(.c (.int .i64 3))]),eF 13 12,aa 14 13,bn 15 14 (.cY 38 (.t 1) 1),bn 16 14 (.cp 35 (.t 15)),⟨some 17,.i_ 71 [(.t 1)],some (14,false)⟩,⟨some 18,.call (.f 70) [(.t 16),(.t 17)],some (14,false)⟩,ro 19 (.pick (.t 14) (.c (.bool true)) (.t 18)),aA 8 19] [1,8] aqd
def aqf:J:=.cond (.t 3) ap3 aqe
def aqg:J:=U [a_ 2 0] [2] .ret
def aqh:J:=.seq (.block 0 (U [bc 4 38 1 0,aV 5 34 4,dJ 6 69 5,eF 7 6,aA 3 7] [1,3] aqf)) aqg
def aqi:J:=U [ro 1 (.dm 38 (.t 0)),a_ 2 0] [1] aqh
theorem aqj:bq ⟨35,[0]⟩ (Tryz.f50.body.getD .skip)=some aqi.strip:=by kernel_rfl
def aqk:J:=U [aV 3 38 1,dJ 4 50 3,aZ 5 .eql 2 4 0,aA 2 5] [2] .ret
def aql:J:=U [ro 1 (.dm 38 (.t 0)),br 2 false] [1] aqk
theorem r5:bq ⟨6,[0]⟩ (Tryz.f29.body.getD .skip)=some aql.strip:=by kernel_rfl
def aqm:J:=U [aa 5 0,aa 6 1,dB 7 181 5 6,aA 4 7] [4] .ret
def c167:J:=U [a_ 4 0] [0,1] aqm
theorem aqn:bq ⟨8,[0,1]⟩ (Tryz.f167.body.getD .skip)=some c167.strip:=by kernel_rfl
def aqo:J:=U [a_ 4 0] [4] .ret
def aqp:J:=U [aa 27 0,aa 28 1,ro 29 (.idx 9 (.t 28) (.c (.int .i64 0))),dB 30 167 27 29,aA 4 30] [4] .ret
def aqq:J:=U [a_ 4 (-1)] [4] .ret
def aqr:J:=U [aa 45 0,aa 46 1,dB 47 168 45 46,aA 4 47] [4] .ret
def aqs:J:=.cond (.t 36) aqr .skip
def aqt:J:=U [aa 37 5,ro 38 (.bad),bG 39 .leq 3 37 38,aa 40 39,bl 41 40 (.bS (.t 0)),bl 42 40 (.len 9 (.t 41)),bl 43 40 (.bV .leq 3 (.t 42) (.c (.int .i64 64))),ro 44 (.pick (.t 40) (.t 43) (.c (.bool false))),aA 36 44] [0,1,5,36] aqs
def aqu:J:=.cond (.t 31) aqq aqt
def aqv:J:=U [aa 32 5,aa 33 0,bM 34 9 33,bG 35 .geq 3 32 34,aA 31 35] [0,1,5,31] aqu
def aqw:J:=.cond (.t 24) aqp aqv
def aqx:J:=U [aa 25 5,aZ 26 .eql 3 25 1,aA 24 26] [0,1,5,24] aqw
def aqy:J:=.cond (.t 16) aqo aqx
def aqz:J:=.cond (.t 59) .skip (.exit 1)
def aqA:J:=U [a_ 4 (-1)] [4] .ret
def aqB:J:=.cond (.t 73) aqA .skip
def aqC:J:=.bW [aa 74 8,aa 75 11,aZ 76 .add 3 75 1,bG 77 .add 3 74 76,aA 8 77] (some [0,1,5,6,7,8,9,10])
def aqD:J:=.seq (U [aa 72 11,aZ 73 .lss 3 72 0] [0,1,5,6,7,8,9,10,11,73] aqB) aqC
def aqE:J:=U [aa 65 0,aa 66 8,aZ 67 .add 3 66 1,aa 68 9,ro 69 (.eE 9 (.t 65) (some (.t 67)) (some (.t 68))),aa 70 6,dB 71 167 69 70,aA 11 71] [0,1,5,6,7,8,9,10,11] aqD
def aqF:J:=.cond (.t 64) aqE .skip
def aqG:J:=U [aa 94 8,aA 4 94] [4] .ret
def aqH:J:=.cond (.t 93) aqG .skip
def aqI:J:=U [aa 115 12,aa 116 8,bG 117 .add 3 115 116,aA 4 117] [4] .ret
def aqJ:J:=.cond (.t 114) aqI .skip
def aqK:J:=U [a_ 4 (-1)] [4] .ret
def aqL:J:=.seq (U [aa 113 12,aZ 114 .geq 3 113 0] [8,12,114] aqJ) aqK
def aqM:J:=U [aa 108 0,aa 109 8,ro 110 (.eE 9 (.t 108) (some (.t 109)) none),aa 111 1,dB 112 168 110 111,aA 12 112] [8,12] aqL
def aqN:J:=U [a_ 4 (-1)] [4] .ret
def aqO:J:=.cond (.t 139) aqN .skip
def aqP:J:=U [aa 140 8,aa 141 13,bG 142 .add 3 140 141,aA 4 142] [4] .ret
def aqQ:J:=.seq (U [aa 138 13,aZ 139 .lss 3 138 0] [8,13,139] aqO) aqP
def aqR:J:=U [aa 133 0,aa 134 8,ro 135 (.eE 9 (.t 133) (some (.t 134)) none),aa 136 1,dB 137 170 135 136,aA 13 137] [8,13] aqQ
def aqS:J:=.cond (.t 132) aqR .skip
def aqT:J:=U [aa 118 5,ro 119 (.bad),bG 120 .gtr 3 118 119,aa 121 120,bl 122 121 (.bS (.t 10)),bl 123 121 (.bS (.t 8)),bl 124 121 (.bV .shr 3 (.t 123) (.c (.int .u64 4))),bl 125 121 (.bV .add 3 (.c (.int .i64 4)) (.t 124)),bl 126 121 (.bV .geq 3 (.t 122) (.t 125)),ro 127 (.pick (.t 121) (.t 126) (.c (.bool false))),aa 128 127,bl 129 128 (.bS (.t 8)),bl 130 128 (.bS (.t 9)),bl 131 128 (.bV .lss 3 (.t 129) (.t 130)),ro 132 (.pick (.t 128) (.t 131) (.c (.bool false)))] [0,1,5,6,7,8,9,10,132] aqS
def aqU:J:=.cond (.t 107) aqM aqT
def aqV:J:=U [aa 99 5,ro 100 (.bad),bG 101 .leq 3 99 100,aa 102 101,bl 103 102 (.bS (.t 10)),bl 104 102 (.bS (.t 8)),⟨some 105,.call (.f 169) [(.t 104)],some (102,true)⟩,bl 106 102 (.bV .gtr 3 (.t 103) (.t 105)),ro 107 (.pick (.t 102) (.t 106) (.c (.bool false)))] [0,1,5,6,7,8,9,10,107] aqU
def aqW:J:=U [aa 97 10,aZ 98 .add 3 97 1,aA 10 98] [0,1,5,6,7,8,9,10] aqV
def aqX:J:=U [aa 95 8,aZ 96 .add 3 95 1,aA 8 96] [0,1,5,6,7,8,9,10] aqW
def aqY:J:=.seq (U [aa 78 0,aa 79 8,aZ 80 .add 3 79 1,s8 81 9 78 80,aa 82 7,bG 83 .eql 5 81 82,aa 84 83,bl 85 84 (.bS (.t 0)),bl 86 84 (.bS (.t 8)),bl 87 84 (.bS (.t 8)),bl 88 84 (.bS (.t 5)),bl 89 84 (.bV .add 3 (.t 87) (.t 88)),bl 90 84 (.eE 9 (.t 85) (some (.t 86)) (some (.t 89))),bl 91 84 (.bS (.t 1)),bl 92 84 (.bV .eql 9 (.t 90) (.t 91)),ro 93 (.pick (.t 84) (.t 92) (.c (.bool false)))] [0,1,5,6,7,8,9,10,93] aqH) aqX
def aqZ:J:=.block 2 (.seq (U [aa 60 0,aa 61 8,s8 62 9 60 61,aa 63 6,bG 64 .neq 5 62 63] [0,1,5,6,7,8,9,10,64] aqF) aqY)
def aq0:J:=.seq (U [aa 57 8,aa 58 9,bG 59 .lss 3 57 58] [0,1,5,6,7,8,9,10,59] aqz) aqZ
def aq1:J:=U [a_ 4 (-1)] [4] .ret
def aq2:J:=.seq (.block 1 (.loop aq0)) aq1
def aq3:J:=U [a_ 10 0] [0,1,5,6,7,8,9,10] aq2
def aq4:J:=U [aa 52 0,bM 53 9 52,aa 54 5,bG 55 .sub 3 53 54,aZ 56 .add 3 55 1,aA 9 56] [0,1,5,6,7,8,9] aq3
def aq5:J:=U [a_ 8 0] [0,1,5,6,7,8] aq4
def aq6:J:=U [aa 50 1,ro 51 (.idx 9 (.t 50) (.c (.int .i64 1))),aA 7 51] [0,1,5,6,7] aq5
def aq7:J:=U [aa 48 1,ro 49 (.idx 9 (.t 48) (.c (.int .i64 0))),aA 6 49] [0,1,5,6] aq6
def aq8:J:=.seq (.block 0 (U [aa 17 5,aZ 18 .eql 3 17 0,aa 19 18,bn 20 19 (.bS (.t 1)),bn 21 19 (.bS (.t 0)),bn 22 19 (.bV .eql 9 (.t 20) (.t 21)),ro 23 (.pick (.t 19) (.c (.bool true)) (.t 22)),aA 16 23] [0,1,5,16] aqy)) aq7
def aq9:J:=U [aa 14 1,bM 15 9 14,aA 5 15] [0,1,5] aq8
def c157:J:=U [a_ 4 0] [0,1] aq9
theorem aq_:bq ⟨143,[0,1]⟩ (Tryz.f157.body.getD .skip)=some c157.strip:=by kernel_rfl
def ara:J:=kj [aa 13 0,aa 14 7,ro 15 (.eE 9 (.t 13) none (some (.t 14))),aa 16 0,aa 17 7,aa 18 1,bM 19 9 18,bG 20 .add 3 17 19,ro 21 (.eE 9 (.t 16) (some (.t 20)) none),aA 4 15,aA 5 21,br 6 true] [[],[],[0,1],[],[],[],[5],[4,6],[3,7],[2,0,1,2],[8,9,0,1,2,3,4,5,6,7,8,9],[10,0,1,2,3,4,5,6,7,8,9,10]] [4,5,6] .ret
def arb:J:=.cond (.t 12) ara .skip
def arc:J:=U [aa 11 7,aZ 12 .geq 3 11 0] [0,1,7,12] arb
def ard:J:=U [aa 22 0,aA 4 22,ro 5 (.gz (.c (.str []))),br 6 false] [4,5,6] .ret
def arf:J:=.seq (U [aa 8 0,aa 9 1,dB 10 157 8 9,aA 7 10] [0,1,7] arc) ard
def c143:J:=U [ro 4 (.gz (.c (.str []))),ro 5 (.gz (.c (.str []))),br 6 false] [0,1] arf
theorem arh:bq ⟨23,[0,1]⟩ (Tryz.f143.body.getD .skip)=some c143.strip:=by kernel_rfl
def ari:J:=U [aa 7 0,aa 8 1,dB 9 143 7 8,iY 10 9 0,iY 11 9 1,iY 12 9 2,aA 4 10,aA 5 11,aA 6 12] [4,5,6] .ret
def arj:J:=U [ro 4 (.gz (.c (.str []))),ro 5 (.gz (.c (.str []))),br 6 false] [0,1] ari
theorem ark:bq ⟨13,[0,1]⟩ (Tryz.f122.body.getD .skip)=some arj.strip:=by kernel_rfl
def arl:J:=U [aa 5 0,bM 6 9 5,aa 7 1,bM 8 9 7,bG 9 .geq 3 6 8,aa 10 9,bl 11 10 (.bS (.t 0)),bl 12 10 (.bS (.t 0)),bl 13 10 (.len 9 (.t 12)),bl 14 10 (.bS (.t 1)),bl 15 10 (.len 9 (.t 14)),bl 16 10 (.bV .sub 3 (.t 13) (.t 15)),bl 17 10 (.eE 9 (.t 11) (some (.t 16)) none),bl 18 10 (.bS (.t 1)),bl 19 10 (.bV .eql 9 (.t 17) (.t 18)),ro 20 (.pick (.t 10) (.t 19) (.c (.bool false))),aA 4 20] [4] .ret
def c164:J:=U [br 4 false] [0,1] arl
theorem arn:bq ⟨21,[0,1]⟩ (Tryz.f164.body.getD .skip)=some c164.strip:=by kernel_rfl
def aro:J:=U [aa 8 0,aa 9 0,bM 10 9 9,aa 11 1,bM 12 9 11,bG 13 .sub 3 10 12,ro 14 (.eE 9 (.t 8) none (some (.t 13))),aA 4 14] [4] .ret
def arp:J:=.cond (.t 7) aro .skip
def arq:J:=U [aa 15 0,aA 4 15] [4] .ret
def ars:J:=.seq (U [aa 5 0,aa 6 1,dB 7 164 5 6] [0,1,7] arp) arq
def c146:J:=U [ro 4 (.gz (.c (.str [])))] [0,1] ars
theorem art:bq ⟨16,[0,1]⟩ (Tryz.f146.body.getD .skip)=some c146.strip:=by kernel_rfl
def aru:J:=U [aa 5 0,aa 6 1,dB 7 146 5 6,aA 4 7] [4] .ret
def arv:J:=U [ro 4 (.gz (.c (.str [])))] [0,1] aru
theorem arw:bq ⟨8,[0,1]⟩ (Tryz.f125.body.getD .skip)=some arv.strip:=by kernel_rfl
def arx:J:=U [aa 5 0,aa 6 1,dB 7 157 5 6,aA 4 7] [4] .ret
def ary:J:=U [a_ 4 0] [0,1] arx
theorem arz:bq ⟨8,[0,1]⟩ (Tryz.f163.body.getD .skip)=some ary.strip:=by kernel_rfl
def arA:J:=U [aa 10 0,dJ 11 175 10,aZ 12 .add 3 11 1,aA 4 12] [4] .ret
def arB:J:=.cond (.t 9) arA .skip
def arC:J:=U [aa 16 0,aa 17 1,ro 18 (.idx 9 (.t 17) (.c (.int .i64 0))),dB 19 177 16 18,aA 4 19] [4] .ret
def arD:J:=.cond (.t 15) arC .skip
def arE:J:=U [aa 25 5,aA 4 25] [4] .ret
def arF:J:=.cond (.t 24) arE .skip
def arG:J:=.bW [aa 28 0,aa 29 6,aa 30 1,bM 31 9 30,bG 32 .add 3 29 31,ro 33 (.eE 9 (.t 28) (some (.t 32)) none),aA 0 33] (some [0,1,5])
def arH:J:=U [aa 26 5,aZ 27 .add 3 26 1,aA 5 27] [0,1,5,6] arG
def arI:J:=.seq (U [aa 23 6,aZ 24 .eql 3 23 (-1)] [0,1,5,6,24] arF) arH
def QI:J:=.block 1 (U [aa 20 0,aa 21 1,dB 22 163 20 21,aA 6 22] [0,1,5,6] arI)
def arJ:J:=.block 0 (.loop QI)
def arK:J:=U [a_ 5 0] [0,1,5] arJ
def arL:J:=.seq (U [aa 13 1,bM 14 9 13,aZ 15 .eql 3 14 1] [0,1,15] arD) arK
def arM:J:=.seq (U [aa 7 1,bM 8 9 7,aZ 9 .eql 3 8 0] [0,1,9] arB) arL
def c162:J:=U [a_ 4 0] [0,1] arM
theorem arN:bq ⟨34,[1]⟩ (Tryz.f162.body.getD .skip)=some c162.strip:=by kernel_rfl
def arO:J:=U [il 8] [8] .ret
def arP:J:=.cond (.t 13) arO .skip
def arQ:J:=U [aa 16 0,aa 17 3,dB 18 161 16 17,aA 8 18] [8] .ret
def arR:J:=.cond (.t 15) arQ .skip
def arS:J:=.bW [aa 21 0,aa 22 1,dB 23 162 21 22,aZ 24 .add 3 23 1,aA 3 24] (some [0,1,2,3])
def arT:J:=.cond (.t 20) arS .skip
def arU:J:=.cond (.t 36) .skip (.exit 0)
def arV:J:=.cond (.t 41) (.exit 0) .skip
def arW:J:=.bW [aa 56 10,aZ 57 .add 3 56 1,aA 10 57] (some [0,1,2,3,9,10])
def arX:J:=U [aa 50 0,aa 51 11,aa 52 1,bM 53 9 52,bG 54 .add 3 51 53,ro 55 (.eE 9 (.t 50) (some (.t 54)) none),aA 0 55] [0,1,2,3,9,10] arW
def arY:J:=U [aa 42 9,aa 43 10,aa 44 0,aa 45 11,aa 46 2,bG 47 .add 3 45 46,ro 48 (.eE 9 (.t 44) none (some (.t 47))),cq 49 25 42 43,dZ 9 49 48] [0,1,2,3,9,10,11] arX
def arZ:J:=.seq (U [aa 40 11,aZ 41 .lss 3 40 0] [0,1,2,3,9,10,11,41] arV) arY
def ar0:J:=.block 1 (U [aa 37 0,aa 38 1,dB 39 163 37 38,aA 11 39] [0,1,2,3,9,10,11] arZ)
def QJ:J:=.seq (U [aa 34 10,aa 35 3,bG 36 .lss 3 34 35] [0,1,2,3,9,10,36] arU) ar0
def ar1:J:=U [aa 62 9,aa 63 10,aZ 64 .add 3 63 1,ro 65 (.eE 25 (.t 62) none (some (.t 64))),aA 8 65] [8] .ret
def QK:J:=U [aa 58 9,aa 59 10,aa 60 0,cq 61 25 58 59,dZ 9 61 60] [9,10] ar1
def ar2:J:=.seq (.block 0 (.loop QJ)) QK
def ar3:J:=U [a_ 10 0] [0,1,2,3,9,10] ar2
def ar4:J:=U [aa 32 3,aZ 33 .sub 3 32 1,aA 3 33] [0,1,2,3,9] ar3
def ar5:J:=U [aa 30 3,ro 31 (.eu 25 (.t 30) (.t 30)),aA 9 31] [0,1,2,3,9] ar4
def QL:J:=U [aa 25 3,aa 26 0,bM 27 9 26,aZ 28 .add 3 27 1,ro 29 (.jB false (.t 25) (.t 28)),aA 3 29] [0,1,2,3] ar5
def ar6:J:=.seq (U [aa 19 3,aZ 20 .lss 3 19 0] [0,1,2,3,20] arT) QL
def ar7:J:=.seq (U [aa 14 1,ro 15 (.bV .eql 9 (.t 14) (.c (.str [])))] [0,1,2,3,15] arR) ar6
def ar8:J:=.seq (U [aa 12 3,aZ 13 .eql 3 12 0] [0,1,2,3,13] arP) ar7
def c145:J:=U [il 8] [0,1,2,3] ar8
theorem ar9:bq ⟨66,[1,2]⟩ (Tryz.f145.body.getD .skip)=some c145.strip:=by kernel_rfl
def ar_:J:=U [aa 5 0,aa 6 1,ro 7 (.call (.f 145) [(.t 5),(.t 6),(.c (.int .i64 0)),(.c (.int .i64 (-1)))]),aA 4 7] [4] .ret
def c124:J:=U [il 4] [0,1] ar_
theorem asa:bq ⟨8,[0,1]⟩ (Tryz.f124.body.getD .skip)=some c124.strip:=by kernel_rfl
def asb:J:=U [il 2,br 3 false] [2,3] .ret
def asc:J:=.cond (.t 21) asb .skip
def asd:J:=.bW [aa 22 4,aa 23 7,zI 24 31 23,CY 25 31 31 22 24,aA 4 25] (some [4,9,10,11])
def ase:J:=.seq (U [aa 20 8,eF 21 20] [4,7,9,10,11,21] asc) asd
def asf:J:=U [aa 16 6,dJ 17 144 16,aa 15 17,iY 18 15 0,iY 19 15 1,aA 7 18,aA 8 19] [4,7,8,9,10,11] ase
def asg:J:=.bW [aZ 26 .add 3 11 1,aa 11 26] (some [4,9,10,11])
def ash:J:=.seq (.block 1 (U [cq 13 25 9 11,aV 14 9 13,aA 6 14] [4,6,9,10,11] asf)) asg
def asi:J:=.seq (.cond (.t 12) .skip (.exit 0)) ash
def QM:J:=U [bG 12 .lss 3 11 10] [4,9,10,11,12] asi
def asj:J:=.block 0 (.loop QM)
def asl:J:=U [aa 27 4,aA 2 27,br 3 true] [2,3] .ret
def asm:J:=.seq (U [aa 9 0,bM 10 25 9,lK 11 0] [4,9,10,11] asj) asl
def asn:J:=U [il 4] [0,4] asm
def aso:J:=U [il 2,br 3 false] [0] asn
theorem asp:bq ⟨28,[0]⟩ (Tryz.f123.body.getD .skip)=some aso.strip:=by kernel_rfl
def asq:J:=U [aa 3 0,ro 4 (.call (.f 174) [(.t 3),(.c (.int .i64 10))]),aA 2 4] [2] .ret
def c160:J:=U [ro 2 (.gz (.c (.str [])))] [0] asq
theorem asr:bq ⟨5,[0]⟩ (Tryz.f160.body.getD .skip)=some c160.strip:=by kernel_rfl
def ass:J:=.bW [aa 18 5,aa 19 6,aa 20 7,dJ 21 160 20,cq 22 25 18 19,dZ 9 22 21] (some [1,5,11,12,13])
def ast:J:=.bW [aZ 23 .add 3 13 1,aa 13 23] (some [1,5,11,12,13])
def asu:J:=.seq (.block 1 (U [aa 15 13,cq 16 31 11 13,aV 17 2 16,aA 6 15,aA 7 17] [1,5,6,7,11,12,13] ass)) ast
def asv:J:=.seq (.cond (.t 14) .skip (.exit 0)) asu
def QN:J:=U [bG 14 .lss 3 13 12] [1,5,11,12,13,14] asv
def asw:J:=.block 0 (.loop QN)
def asx:J:=U [aa 24 5,aa 25 1,dB 26 165 24 25,aA 4 26] [4] .ret
def asy:J:=.seq (U [aa 11 0,bM 12 31 11,lK 13 0] [1,5,11,12,13] asw) asx
def asz:J:=U [aa 8 0,bM 9 31 8,ro 10 (.eu 25 (.t 9) (.t 9)),aA 5 10] [0,1,5] asy
def asA:J:=U [ro 4 (.gz (.c (.str [])))] [0,1] asz
theorem asB:bq ⟨27,[0,1]⟩ (Tryz.f147.body.getD .skip)=some asA.strip:=by kernel_rfl
def asC:J:=U [aa 9 1,bM 10 31 9,aZ 11 .eql 3 10 0,ro 4 (.gz (.c (.str [116,97,117]))),aA 5 11] [4,5] .ret
def asD:J:=U [ro 4 (.gz (.c (.str []))),br 5 false] [4,5] .ret
def asE:J:=U [aa 30 0,aA 4 30,br 5 true] [4,5] .ret
def asF:J:=.cond (.t 26) asE .skip
def asG:J:=U [aa 27 1,bM 28 31 27,aZ 29 .eql 3 28 0,aA 26 29] [0,1,26] asF
def asH:J:=.cond (.t 12) asD asG
def asI:J:=U [aa 13 0,dJ 14 93 13,eF 15 14,aa 16 15,bn 17 16 (.bS (.t 1)),bn 18 16 (.len 31 (.t 17)),bn 19 16 (.bV .gtr 3 (.t 18) (.c (.int .i64 2))),ro 20 (.pick (.t 16) (.c (.bool true)) (.t 19)),aa 21 20,bn 22 21 (.bS (.t 1)),⟨some 23,.call (.f 92) [(.t 22)],some (21,false)⟩,bn 24 21 (.un .not (.t 23)),ro 25 (.pick (.t 21) (.c (.bool true)) (.t 24)),aA 12 25] [0,1,12] asH
def asJ:J:=.cond (.t 6) asC asI
def asK:J:=U [aa 31 0,ro 32 (.bV .add 9 (.t 31) (.c (.str [40]))),aa 33 1,ro 34 (.call (.f 147) [(.t 33),(.c (.str [44]))]),bG 35 .add 9 32 34,ro 36 (.bV .add 9 (.t 35) (.c (.str [41]))),aA 4 36,br 5 true] [4,5] .ret
def asL:J:=.seq (.block 0 (U [aa 7 0,ro 8 (.bV .eql 9 (.t 7) (.c (.str [116,97,117]))),aA 6 8] [0,1,6] asJ)) asK
def asM:J:=U [ro 4 (.gz (.c (.str []))),br 5 false] [0,1] asL
theorem asN:bq ⟨37,[0,1]⟩ (Tryz.f126.body.getD .skip)=some asM.strip:=by kernel_rfl
def asO:J:=U [ro 2 (.gz (.c (.str []))),il 3,br 4 false] [2,3,4] .ret
def asP:J:=.cond (.t 27) asO .skip
def asQ:J:=U [aa 26 9,eF 27 26] [0,5,8,27] asP
def asR:J:=U [aa 20 6,ro 21 (.call (.f 125) [(.t 20),(.c (.str [41]))]),ro 22 (.call (.f 124) [(.t 21),(.c (.str [44]))]),dJ 23 123 22,aa 19 23,iY 24 19 0,iY 25 19 1,aA 8 24,aA 9 25] [0,5,8,9] asQ
def asS:J:=U [br 9 false] [0,5,6] asR
def asT:J:=.cond (.t 18) asS .skip
def asU:J:=U [ro 2 (.gz (.c (.str []))),il 3,br 4 false] [2,3,4] .ret
def asV:J:=.cond (.t 40) asU .skip
def asW:J:=U [aa 34 11,eF 35 34,aa 36 35,bn 37 36 (.bS (.t 10)),bn 38 36 (.bS (.t 0)),bn 39 36 (.bV .neq 9 (.t 37) (.t 38)),ro 40 (.pick (.t 36) (.c (.bool true)) (.t 39))] [5,8,40] asV
def asX:J:=U [aa 41 5,aa 42 8,aA 2 41,aA 3 42,br 4 true] [2,3,4] .ret
def QO:J:=.seq (U [aa 29 5,aa 30 8,dB 31 126 29 30,aa 28 31,iY 32 28 0,iY 33 28 1,aA 10 32,aA 11 33] [0,5,8,10,11] asW) asX
def asY:J:=.seq (U [aa 18 7] [0,5,6,8,18] asT) QO
def asZ:J:=U [il 8] [0,5,6,7,8] asY
def as0:J:=U [aa 13 0,ro 14 (.call (.f 122) [(.t 13),(.c (.str [40]))]),aa 12 14,iY 15 12 0,iY 16 12 1,iY 17 12 2,aA 5 15,aA 6 16,aA 7 17] [0,5,6,7] asZ
def as1:J:=U [ro 2 (.gz (.c (.str []))),il 3,br 4 false] [0] as0
theorem as2:bq ⟨43,[0]⟩ (Tryz.f97.body.getD .skip)=some as1.strip:=by kernel_rfl
def as3:J:=U [aa 12 5,aA 2 12] [2] .ret
def as4:J:=U [aa 7 0,dJ 8 97 7,aa 6 8,iY 9 6 0,iY 10 6 1,iY 11 6 2,aA 3 9,aA 4 10,aA 5 11] [5] as3
def c76:J:=U [br 2 false] [0] as4
theorem as5:bq ⟨13,[0]⟩ (Tryz.f76.body.getD .skip)=some c76.strip:=by kernel_rfl
def as6:J:=U [bc 3 59 1 0,aV 4 2 3,ro 5 (.call (.f 54) [(.t 4),(.c (.int .i64 0)),(.c (.int .i64 199))]),aa 6 5,bl 7 6 (.cY 59 (.t 1) 1),bl 8 6 (.cp 2 (.t 7)),⟨some 9,.call (.f 54) [(.t 8),(.c (.int .i64 0)),(.c (.int .i64 2))],some (6,true)⟩,ro 10 (.pick (.t 6) (.t 9) (.c (.bool false))),aa 11 10,bl 12 11 (.cY 59 (.t 1) 2),bl 13 11 (.cp 2 (.t 12)),⟨some 14,.call (.f 54) [(.t 13),(.c (.int .i64 (-1))),(.c (.int .i64 2))],some (11,true)⟩,ro 15 (.pick (.t 11) (.t 14) (.c (.bool false))),aa 16 15,bl 17 16 (.cY 59 (.t 1) 3),bl 18 16 (.cp 9 (.t 17)),⟨some 19,.call (.f 76) [(.t 18)],some (16,true)⟩,ro 20 (.pick (.t 16) (.t 19) (.c (.bool false))),aA 2 20] [2] .ret
def c53:J:=U [ro 1 (.dm 59 (.t 0)),br 2 false] [1] as6
theorem ny:bq ⟨21,[0]⟩ (Tryz.f53.body.getD .skip)=some c53.strip:=by kernel_rfl
def as7:J:=U [aV 3 59 1,dJ 4 53 3,eF 5 4,aA 2 5] [2] .ret
def as8:J:=U [ro 1 (.dm 59 (.t 0)),br 2 false] [1] as7
theorem Ba:bq ⟨6,[0]⟩ (Tryz.f52.body.getD .skip)=some as8.strip:=by kernel_rfl
def as9:J:=U [aa 17 5,aA 4 17] [4] .ret
def as_:J:=.cond (.t 16) as9 .skip
def ata:J:=U [aa 11 1,aa 12 0,aa 13 5,cq 14 40 12 13,aV 15 59 14,ro 16 (.call (.t 11) [(.t 15)])] [0,1,5,7,8,16] as_
def atb:J:=.bW [aZ 18 .add 3 8 1,aa 8 18] (some [0,1,7,8])
def atc:J:=.seq (.block 1 (U [aa 10 8,aA 5 10] [0,1,5,7,8] ata)) atb
def atd:J:=.seq (.cond (.t 9) .skip (.exit 0)) atc
def QP:J:=U [bG 9 .lss 3 8 7] [0,1,7,8,9] atd
def ate:J:=.block 0 (.loop QP)
def atf:J:=U [a_ 4 (-1)] [4] .ret
def atg:J:=.seq (U [aa 6 0,bM 7 40 6,lK 8 0] [0,1,7,8] ate) atf
def c75:J:=U [a_ 4 0] [0,1] atg
theorem ath:bq ⟨19,[0,1]⟩ (Tryz.f75.body.getD .skip)=some c75.strip:=by kernel_rfl
def ati:J:=U [aa 5 0,aa 6 1,dB 7 75 5 6,aZ 8 .geq 3 7 0,aA 4 8] [4] .ret
def c51:J:=U [br 4 false] [0,1] ati
theorem atj:bq ⟨9,[0,1]⟩ (Tryz.f51.body.getD .skip)=some c51.strip:=by kernel_rfl
def atk:J:=U [aa 3 0,bM 4 40 3,aZ 5 .leq 3 4 60,aa 6 5,bl 7 6 (.bS (.t 0)),⟨some 8,.call (.f 51) [(.t 7),(.f 52)],some (6,true)⟩,bl 9 6 (.un .not (.t 8)),ro 10 (.pick (.t 6) (.t 9) (.c (.bool false))),aA 2 10] [2] .ret
def atl:J:=U [br 2 false] [0] atk
theorem atm:bq ⟨11,[0]⟩ (Tryz.f30.body.getD .skip)=some atl.strip:=by kernel_rfl
def atn:J:=U [il 4,a_ 5 1] [4,5] .ret
def ato:J:=U [il 4,a_ 5 7] [4,5] .ret
def atp:J:=.cond (.t 15) ato .skip
def atq:J:=U [aa 16 1,dJ 17 30 16,eF 18 17,aA 15 18] [1,2,15] atp
def atr:J:=.cond (.t 11) atn atq
def ats:J:=U [il 4,a_ 5 9] [4,5] .ret
def att:J:=.cond (.t 40) ats .skip
def atu:J:=.bW [aa 56 7,aa 57 10,cq 58 31 56 57,aV 59 2 58,aZ 60 .add 2 59 1,cq 61 31 56 57,dZ 2 61 60] (some [6,7,9,24,25,26,42,43])
def atv:J:=.cond (.t 55) atu .skip
def atw:J:=U [bc 46 59 9 1,aV 47 2 46,aa 48 10,bG 49 .eql 2 47 48,aa 50 49,bn 51 50 (.cY 59 (.t 9) 2),bn 52 50 (.cp 2 (.t 51)),bn 53 50 (.bS (.t 10)),bn 54 50 (.bV .eql 2 (.t 52) (.t 53)),ro 55 (.pick (.t 50) (.c (.bool true)) (.t 54))] [6,7,9,10,24,25,26,42,43,55] atv
def QQ:J:=.bW [aZ 62 .add 3 43 1,aa 43 62] (some [6,7,9,24,25,26,42,43])
def atx:J:=.seq (.block 4 (U [aa 45 43,aA 10 45] [6,7,9,10,24,25,26,42,43] atw)) QQ
def aty:J:=.seq (.cond (.t 44) .skip (.exit 3)) atx
def QR:J:=U [bG 44 .lss 3 43 42] [6,7,9,24,25,26,42,43,44] aty
def atz:J:=.block 3 (.loop QR)
def atA:J:=U [aa 41 7,bM 42 31 41,lK 43 0] [6,7,9,24,25,26,42,43] atz
def atB:J:=.seq (U [bc 30 59 9 1,aV 31 2 30,aa 32 6,dB 33 31 31 32,eF 34 33,aa 35 34,bn 36 35 (.cY 59 (.t 9) 2),bn 37 35 (.cp 2 (.t 36)),bn 38 35 (.bS (.t 6)),bn 39 35 (.bV .geq 2 (.t 37) (.t 38)),ro 40 (.pick (.t 35) (.c (.bool true)) (.t 39))] [6,7,9,24,25,26,40] att) atA
def atC:J:=.bW [aZ 63 .add 3 26 1,aa 26 63] (some [6,7,24,25,26])
def atD:J:=.seq (.block 2 (U [cq 28 40 24 26,aV 29 59 28,jJ 9 59,dZ 59 9 29] [6,7,9,24,25,26] atB)) atC
def atE:J:=.seq (.cond (.t 27) .skip (.exit 1)) atD
def QS:J:=U [bG 27 .lss 3 26 25] [6,7,24,25,26,27] atE
def atF:J:=.block 1 (.loop QS)
def atG:J:=U [aa 64 7,aA 4 64,a_ 5 0] [4,5] .ret
def atH:J:=.seq (U [aa 24 1,bM 25 40 24,lK 26 0] [6,7,24,25,26] atF) atG
def atI:J:=U [aa 22 6,ro 23 (.eu 31 (.t 22) (.t 22)),aA 7 23] [1,6,7] atH
def atJ:J:=U [bc 19 38 2 1,aV 20 35 19,bM 21 35 20,aA 6 21] [1,6] atI
def atK:J:=.seq (.block 0 (U [aV 12 38 2,dJ 13 29 12,eF 14 13,aA 11 14] [1,2,11] atr)) atJ
def c9:J:=U [ro 2 (.dm 38 (.t 0)),il 4,a_ 5 0] [1,2] atK
theorem n4:bq ⟨65,[0,1]⟩ (Tryz.f9.body.getD .skip)=some c9.strip:=by kernel_rfl
def atL:J:=U [br 4 false] [4] .ret
def atM:J:=.cond (.t 10) atL .skip
def atN:J:=.cond (.t 14) .skip (.exit 0)
def atO:J:=U [br 4 false] [4] .ret
def atP:J:=.cond (.t 25) atO .skip
def atQ:J:=.bW [aa 15 5,aZ 16 .add 3 15 1,aA 5 16] (some [0,1,5])
def atS:J:=.seq (.block 1 (kj [aa 17 0,aa 18 5,cq 19 31 17 18,aV 20 2 19,aa 21 1,aa 22 5,cq 23 31 21 22,aV 24 2 23,bG 25 .neq 2 20 24] [[],[],[0,1],[2],[],[],[4,5],[6],[3,7]] [0,1,5,25] atP)) atQ
def QT:J:=.seq (U [aa 11 5,aa 12 0,bM 13 31 12,bG 14 .lss 3 11 13] [0,1,5,14] atN) atS
def atT:J:=.block 0 (.loop QT)
def atU:J:=U [br 4 true] [4] .ret
def atV:J:=.seq (U [a_ 5 0] [0,1,5] atT) atU
def atW:J:=.seq (U [aa 6 0,bM 7 31 6,aa 8 1,bM 9 31 8,bG 10 .neq 3 7 9] [0,1,10] atM) atV
def atX:J:=U [br 4 false] [0,1] atW
theorem mP:bq ⟨26,[0,1]⟩ (Tryz.f10.body.getD .skip)=some atX.strip:=by kernel_rfl
def atY:J:=U [br 4 false] [4] .ret
def atZ:J:=.cond (.t 9) atY .skip
def at0:J:=U [br 4 false] [4] .ret
def at1:J:=.cond (.t 14) at0 .skip
def at2:J:=U [br 4 true] [4] .ret
def at3:J:=.seq (U [bc 10 176 2 1,aV 11 2 10,bc 12 176 3 1,aV 13 2 12,bG 14 .neq 2 11 13] [14] at1) at2
def at4:J:=.seq (U [bc 5 176 2 0,aV 6 2 5,bc 7 176 3 0,aV 8 2 7,bG 9 .neq 2 6 8] [2,3,9] atZ) at3
def at5:J:=U [ro 2 (.dm 176 (.t 0)),ro 3 (.dm 176 (.t 1)),br 4 false] [2,3] at4
theorem at6:bq ⟨15,[0,1]⟩ (Tryz.f166.body.getD .skip)=some at5.strip:=by kernel_rfl
def at7:J:=U [br 4 false] [4] .ret
def aua:J:=.cond (.t 10) at7 .skip
def aub:J:=.cond (.t 14) .skip (.exit 0)
def auc:J:=U [br 4 false] [4] .ret
def aud:J:=.cond (.t 26) auc .skip
def aue:J:=.bW [aa 15 5,aZ 16 .add 3 15 1,aA 5 16] (some [0,1,5])
def auf:J:=.seq (.block 1 (kj [aa 17 0,aa 18 5,cq 19 144 17 18,aV 20 176 19,aa 21 1,aa 22 5,cq 23 144 21 22,aV 24 176 23,dB 25 166 20 24,eF 26 25] [[],[],[0,1],[2],[],[],[4,5],[6],[3,7],[8]] [0,1,5,26] aud)) aue
def QU:J:=.seq (U [aa 11 5,aa 12 0,bM 13 144 12,bG 14 .lss 3 11 13] [0,1,5,14] aub) auf
def aug:J:=.block 0 (.loop QU)
def auh:J:=U [br 4 true] [4] .ret
def aui:J:=.seq (U [a_ 5 0] [0,1,5] aug) auh
def auj:J:=.seq (U [aa 6 0,bM 7 144 6,aa 8 1,bM 9 144 8,bG 10 .neq 3 7 9] [0,1,10] aua) aui
def c148:J:=U [br 4 false] [0,1] auj
theorem auk:bq ⟨27,[0,1]⟩ (Tryz.f148.body.getD .skip)=some c148.strip:=by kernel_rfl
def aul:J:=U [br 4 false] [4] .ret
def aum:J:=.cond (.t 10) aul .skip
def aun:J:=.cond (.t 14) .skip (.exit 0)
def auo:J:=U [br 4 false] [4] .ret
def aup:J:=.cond (.t 26) auo .skip
def auq:J:=.bW [aa 15 5,aZ 16 .add 3 15 1,aA 5 16] (some [0,1,5])
def aur:J:=.seq (.block 1 (kj [aa 17 0,aa 18 5,cq 19 119 17 18,aV 20 144 19,aa 21 1,aa 22 5,cq 23 119 21 22,aV 24 144 23,dB 25 148 20 24,eF 26 25] [[],[],[0,1],[2],[],[],[4,5],[6],[3,7],[8]] [0,1,5,26] aup)) auq
def QV:J:=.seq (U [aa 11 5,aa 12 0,bM 13 119 12,bG 14 .lss 3 11 13] [0,1,5,14] aun) aur
def aus:J:=.block 0 (.loop QV)
def aut:J:=U [br 4 true] [4] .ret
def auu:J:=.seq (U [a_ 5 0] [0,1,5] aus) aut
def auv:J:=.seq (U [aa 6 0,bM 7 119 6,aa 8 1,bM 9 119 8,bG 10 .neq 3 7 9] [0,1,10] aum) auu
def c127:J:=U [br 4 false] [0,1] auv
theorem auw:bq ⟨27,[0,1]⟩ (Tryz.f127.body.getD .skip)=some c127.strip:=by kernel_rfl
def auy:J:=U [br 4 false] [4] .ret
def auz:J:=.cond (.t 9) auy .skip
def auA:J:=U [br 4 false] [4] .ret
def auB:J:=.cond (.t 14) auA .skip
def auC:J:=U [br 4 false] [4] .ret
def auD:J:=.cond (.t 19) auC .skip
def auE:J:=U [br 4 false] [4] .ret
def auF:J:=.cond (.t 25) auE .skip
def auG:J:=U [br 4 true] [4] .ret
def auH:J:=.seq (U [bc 20 121 2 3,aV 21 119 20,bc 22 121 3 3,aV 23 119 22,dB 24 127 21 23,eF 25 24] [25] auF) auG
def auI:J:=.seq (U [bc 15 121 2 2,aV 16 9 15,bc 17 121 3 2,aV 18 9 17,bG 19 .neq 9 16 18] [2,3,19] auD) auH
def auJ:J:=.seq (U [bc 10 121 2 1,aV 11 2 10,bc 12 121 3 1,aV 13 2 12,bG 14 .neq 2 11 13] [2,3,14] auB) auI
def auK:J:=.seq (U [bc 5 121 2 0,aV 6 2 5,bc 7 121 3 0,aV 8 2 7,bG 9 .neq 2 6 8] [2,3,9] auz) auJ
def auL:J:=U [ro 2 (.dm 121 (.t 0)),ro 3 (.dm 121 (.t 1)),br 4 false] [2,3] auK
theorem auM:bq ⟨26,[0,1]⟩ (Tryz.f98.body.getD .skip)=some auL.strip:=by kernel_rfl
def auN:J:=U [br 4 false] [4] .ret
def auO:J:=.cond (.t 10) auN .skip
def auP:J:=.cond (.t 14) .skip (.exit 0)
def auQ:J:=U [br 4 false] [4] .ret
def auR:J:=.cond (.t 26) auQ .skip
def auS:J:=.bW [aa 15 5,aZ 16 .add 3 15 1,aA 5 16] (some [0,1,5])
def auT:J:=.seq (.block 1 (kj [aa 17 0,aa 18 5,cq 19 89 17 18,aV 20 121 19,aa 21 1,aa 22 5,cq 23 89 21 22,aV 24 121 23,dB 25 98 20 24,eF 26 25] [[],[],[0,1],[2],[],[],[4,5],[6],[3,7],[8]] [0,1,5,26] auR)) auS
def QW:J:=.seq (U [aa 11 5,aa 12 0,bM 13 89 12,bG 14 .lss 3 11 13] [0,1,5,14] auP) auT
def auU:J:=.block 0 (.loop QW)
def auV:J:=U [br 4 true] [4] .ret
def auW:J:=.seq (U [a_ 5 0] [0,1,5] auU) auV
def auX:J:=.seq (U [aa 6 0,bM 7 89 6,aa 8 1,bM 9 89 8,bG 10 .neq 3 7 9] [0,1,10] auO) auW
def auY:J:=U [br 4 false] [0,1] auX
theorem qg:bq ⟨27,[0,1]⟩ (Tryz.f77.body.getD .skip)=some auY.strip:=by kernel_rfl
def auZ:J:=U [br 4 false] [4] .ret
def au0:J:=.cond (.t 9) auZ .skip
def au1:J:=U [br 4 false] [4] .ret
def au2:J:=.cond (.t 14) au1 .skip
def au3:J:=U [br 4 false] [4] .ret
def au4:J:=.cond (.t 20) au3 .skip
def au5:J:=U [br 4 true] [4] .ret
def au6:J:=.seq (U [bc 15 91 2 2,aV 16 89 15,bc 17 91 3 2,aV 18 89 17,dB 19 77 16 18,eF 20 19] [20] au4) au5
def au7:J:=.seq (U [bc 10 91 2 1,aV 11 2 10,bc 12 91 3 1,aV 13 2 12,bG 14 .neq 2 11 13] [2,3,14] au2) au6
def au8:J:=.seq (U [bc 5 91 2 0,aV 6 9 5,bc 7 91 3 0,aV 8 9 7,bG 9 .neq 9 6 8] [2,3,9] au0) au7
def au9:J:=U [ro 2 (.dm 91 (.t 0)),ro 3 (.dm 91 (.t 1)),br 4 false] [2,3] au8
theorem au_:bq ⟨21,[0,1]⟩ (Tryz.f55.body.getD .skip)=some au9.strip:=by kernel_rfl
def ava:J:=U [br 4 false] [4] .ret
def avb:J:=.cond (.t 10) ava .skip
def avc:J:=.cond (.t 14) .skip (.exit 0)
def avd:J:=U [br 4 false] [4] .ret
def ave:J:=.cond (.t 26) avd .skip
def avf:J:=.bW [aa 15 5,aZ 16 .add 3 15 1,aA 5 16] (some [0,1,5])
def avg:J:=.seq (.block 1 (kj [aa 17 0,aa 18 5,cq 19 34 17 18,aV 20 91 19,aa 21 1,aa 22 5,cq 23 34 21 22,aV 24 91 23,dB 25 55 20 24,eF 26 25] [[],[],[0,1],[2],[],[],[4,5],[6],[3,7],[8]] [0,1,5,26] ave)) avf
def QX:J:=.seq (U [aa 11 5,aa 12 0,bM 13 34 12,bG 14 .lss 3 11 13] [0,1,5,14] avc) avg
def avh:J:=.block 0 (.loop QX)
def avi:J:=U [br 4 true] [4] .ret
def avj:J:=.seq (U [a_ 5 0] [0,1,5] avh) avi
def avk:J:=.seq (U [aa 6 0,bM 7 34 6,aa 8 1,bM 9 34 8,bG 10 .neq 3 7 9] [0,1,10] avb) avj
def avl:J:=U [br 4 false] [0,1] avk
theorem avm:bq ⟨27,[0,1]⟩ (Tryz.f32.body.getD .skip)=some avl.strip:=by kernel_rfl
def avn:J:=U [br 4 false] [4] .ret
def avo:J:=.cond (.t 9) avn .skip
def avp:J:=U [br 4 false] [4] .ret
def avq:J:=.cond (.t 15) avp .skip
def avr:J:=U [br 4 true] [4] .ret
def avs:J:=.seq (U [bc 10 93 2 1,aV 11 31 10,bc 12 93 3 1,aV 13 31 12,dB 14 10 11 13,eF 15 14] [15] avq) avr
def avt:J:=.seq (U [bc 5 93 2 0,aV 6 2 5,bc 7 93 3 0,aV 8 2 7,bG 9 .neq 2 6 8] [2,3,9] avo) avs
def avu:J:=U [ro 2 (.dm 93 (.t 0)),ro 3 (.dm 93 (.t 1)),br 4 false] [2,3] avt
theorem avv:bq ⟨16,[0,1]⟩ (Tryz.f56.body.getD .skip)=some avu.strip:=by kernel_rfl
def avw:J:=U [br 4 false] [4] .ret
def avx:J:=.cond (.t 10) avw .skip
def avy:J:=.cond (.t 14) .skip (.exit 0)
def avz:J:=U [br 4 false] [4] .ret
def avA:J:=.cond (.t 26) avz .skip
def avB:J:=.bW [aa 15 5,aZ 16 .add 3 15 1,aA 5 16] (some [0,1,5])
def avC:J:=.seq (.block 1 (kj [aa 17 0,aa 18 5,cq 19 35 17 18,aV 20 93 19,aa 21 1,aa 22 5,cq 23 35 21 22,aV 24 93 23,dB 25 56 20 24,eF 26 25] [[],[],[0,1],[2],[],[],[4,5],[6],[3,7],[8]] [0,1,5,26] avA)) avB
def QY:J:=.seq (U [aa 11 5,aa 12 0,bM 13 35 12,bG 14 .lss 3 11 13] [0,1,5,14] avy) avC
def avD:J:=.block 0 (.loop QY)
def avE:J:=U [br 4 true] [4] .ret
def avF:J:=.seq (U [a_ 5 0] [0,1,5] avD) avE
def avG:J:=.seq (U [aa 6 0,bM 7 35 6,aa 8 1,bM 9 35 8,bG 10 .neq 3 7 9] [0,1,10] avx) avF
def avH:J:=U [br 4 false] [0,1] avG
theorem Bb:bq ⟨27,[0,1]⟩ (Tryz.f33.body.getD .skip)=some avH.strip:=by kernel_rfl
def avI:J:=U [br 4 false] [4] .ret
def avJ:J:=.cond (.t 9) avI .skip
def avK:J:=U [br 4 false] [4] .ret
def avL:J:=.cond (.t 14) avK .skip
def avM:J:=U [br 4 false] [4] .ret
def avN:J:=.cond (.t 19) avM .skip
def avO:J:=U [br 4 true] [4] .ret
def avP:J:=.seq (U [bc 15 95 2 2,aV 16 9 15,bc 17 95 3 2,aV 18 9 17,bG 19 .neq 9 16 18] [19] avN) avO
def avQ:J:=.seq (U [bc 10 95 2 1,aV 11 9 10,bc 12 95 3 1,aV 13 9 12,bG 14 .neq 9 11 13] [2,3,14] avL) avP
def avR:J:=.seq (U [bc 5 95 2 0,aV 6 9 5,bc 7 95 3 0,aV 8 9 7,bG 9 .neq 9 6 8] [2,3,9] avJ) avQ
def avS:J:=U [ro 2 (.dm 95 (.t 0)),ro 3 (.dm 95 (.t 1)),br 4 false] [2,3] avR
theorem avT:bq ⟨20,[0,1]⟩ (Tryz.f57.body.getD .skip)=some avS.strip:=by kernel_rfl
def avU:J:=U [br 4 false] [4] .ret
def avV:J:=.cond (.t 10) avU .skip
def avW:J:=.cond (.t 14) .skip (.exit 0)
def avX:J:=U [br 4 false] [4] .ret
def avY:J:=.cond (.t 26) avX .skip
def avZ:J:=.bW [aa 15 5,aZ 16 .add 3 15 1,aA 5 16] (some [0,1,5])
def av0:J:=.seq (.block 1 (kj [aa 17 0,aa 18 5,cq 19 36 17 18,aV 20 95 19,aa 21 1,aa 22 5,cq 23 36 21 22,aV 24 95 23,dB 25 57 20 24,eF 26 25] [[],[],[0,1],[2],[],[],[4,5],[6],[3,7],[8]] [0,1,5,26] avY)) avZ
def QZ:J:=.seq (U [aa 11 5,aa 12 0,bM 13 36 12,bG 14 .lss 3 11 13] [0,1,5,14] avW) av0
def av1:J:=.block 0 (.loop QZ)
def av2:J:=U [br 4 true] [4] .ret
def av3:J:=.seq (U [a_ 5 0] [0,1,5] av1) av2
def av4:J:=.seq (U [aa 6 0,bM 7 36 6,aa 8 1,bM 9 36 8,bG 10 .neq 3 7 9] [0,1,10] avV) av3
def av5:J:=U [br 4 false] [0,1] av4
theorem qh:bq ⟨27,[0,1]⟩ (Tryz.f34.body.getD .skip)=some av5.strip:=by kernel_rfl
def av6:J:=U [br 4 false] [4] .ret
def av7:J:=.cond (.t 10) av6 .skip
def av8:J:=.cond (.t 14) .skip (.exit 0)
def av9:J:=U [br 4 false] [4] .ret
def av_:J:=.cond (.t 25) av9 .skip
def awa:J:=.bW [aa 15 5,aZ 16 .add 3 15 1,aA 5 16] (some [0,1,5])
def awb:J:=.seq (.block 1 (kj [aa 17 0,aa 18 5,cq 19 25 17 18,aV 20 9 19,aa 21 1,aa 22 5,cq 23 25 21 22,aV 24 9 23,bG 25 .neq 9 20 24] [[],[],[0,1],[2],[],[],[4,5],[6],[3,7]] [0,1,5,25] av_)) awa
def Q0:J:=.seq (U [aa 11 5,aa 12 0,bM 13 25 12,bG 14 .lss 3 11 13] [0,1,5,14] av8) awb
def awc:J:=.block 0 (.loop Q0)
def awd:J:=U [br 4 true] [4] .ret
def awe:J:=.seq (U [a_ 5 0] [0,1,5] awc) awd
def awf:J:=.seq (U [aa 6 0,bM 7 25 6,aa 8 1,bM 9 25 8,bG 10 .neq 3 7 9] [0,1,10] av7) awe
def awg:J:=U [br 4 false] [0,1] awf
theorem awh:bq ⟨26,[0,1]⟩ (Tryz.f35.body.getD .skip)=some awg.strip:=by kernel_rfl
def awi:J:=U [br 4 false] [4] .ret
def awj:J:=.cond (.t 10) awi .skip
def awk:J:=U [br 4 false] [4] .ret
def awl:J:=.cond (.t 16) awk .skip
def awm:J:=U [br 4 false] [4] .ret
def awn:J:=.cond (.t 22) awm .skip
def awo:J:=U [br 4 false] [4] .ret
def awp:J:=.cond (.t 28) awo .skip
def awq:J:=U [br 4 false] [4] .ret
def awr:J:=.cond (.t 34) awq .skip
def aws:J:=U [br 4 true] [4] .ret
def awt:J:=.seq (U [bc 29 38 2 4,aV 30 25 29,bc 31 38 3 4,aV 32 25 31,dB 33 35 30 32,eF 34 33] [34] awr) aws
def awu:J:=.seq (U [bc 23 38 2 3,aV 24 25 23,bc 25 38 3 3,aV 26 25 25,dB 27 35 24 26,eF 28 27] [2,3,28] awp) awt
def awv:J:=.seq (U [bc 17 38 2 2,aV 18 36 17,bc 19 38 3 2,aV 20 36 19,dB 21 34 18 20,eF 22 21] [2,3,22] awn) awu
def aww:J:=.seq (U [bc 11 38 2 1,aV 12 35 11,bc 13 38 3 1,aV 14 35 13,dB 15 33 12 14,eF 16 15] [2,3,16] awl) awv
def awx:J:=.seq (U [bc 5 38 2 0,aV 6 34 5,bc 7 38 3 0,aV 8 34 7,dB 9 32 6 8,eF 10 9] [2,3,10] awj) aww
def awy:J:=U [ro 2 (.dm 38 (.t 0)),ro 3 (.dm 38 (.t 1)),br 4 false] [2,3] awx
theorem x0:bq ⟨35,[0,1]⟩ (Tryz.f11.body.getD .skip)=some awy.strip:=by kernel_rfl
def awz:J:=U [br 4 false] [4] .ret
def awA:J:=.cond (.t 9) awz .skip
def awB:J:=U [br 4 false] [4] .ret
def awC:J:=.cond (.t 14) awB .skip
def awD:J:=U [br 4 false] [4] .ret
def awE:J:=.cond (.t 19) awD .skip
def awF:J:=U [br 4 false] [4] .ret
def awG:J:=.cond (.t 24) awF .skip
def awH:J:=U [br 4 true] [4] .ret
def awI:J:=.seq (U [bc 20 59 2 3,aV 21 9 20,bc 22 59 3 3,aV 23 9 22,bG 24 .neq 9 21 23] [24] awG) awH
def awJ:J:=.seq (U [bc 15 59 2 2,aV 16 2 15,bc 17 59 3 2,aV 18 2 17,bG 19 .neq 2 16 18] [2,3,19] awE) awI
def awK:J:=.seq (U [bc 10 59 2 1,aV 11 2 10,bc 12 59 3 1,aV 13 2 12,bG 14 .neq 2 11 13] [2,3,14] awC) awJ
def awL:J:=.seq (U [bc 5 59 2 0,aV 6 2 5,bc 7 59 3 0,aV 8 2 7,bG 9 .neq 2 6 8] [2,3,9] awA) awK
def awM:J:=U [ro 2 (.dm 59 (.t 0)),ro 3 (.dm 59 (.t 1)),br 4 false] [2,3] awL
theorem awN:bq ⟨25,[0,1]⟩ (Tryz.f36.body.getD .skip)=some awM.strip:=by kernel_rfl
def awO:J:=U [br 4 false] [4] .ret
def awP:J:=.cond (.t 10) awO .skip
def awQ:J:=.cond (.t 14) .skip (.exit 0)
def awR:J:=U [br 4 false] [4] .ret
def awS:J:=.cond (.t 26) awR .skip
def awT:J:=.bW [aa 15 5,aZ 16 .add 3 15 1,aA 5 16] (some [0,1,5])
def awU:J:=.seq (.block 1 (kj [aa 17 0,aa 18 5,cq 19 40 17 18,aV 20 59 19,aa 21 1,aa 22 5,cq 23 40 21 22,aV 24 59 23,dB 25 36 20 24,eF 26 25] [[],[],[0,1],[2],[],[],[4,5],[6],[3,7],[8]] [0,1,5,26] awS)) awT
def Q1:J:=.seq (U [aa 11 5,aa 12 0,bM 13 40 12,bG 14 .lss 3 11 13] [0,1,5,14] awQ) awU
def awV:J:=.block 0 (.loop Q1)
def awW:J:=U [br 4 true] [4] .ret
def awX:J:=.seq (U [a_ 5 0] [0,1,5] awV) awW
def awY:J:=.seq (U [aa 6 0,bM 7 40 6,aa 8 1,bM 9 40 8,bG 10 .neq 3 7 9] [0,1,10] awP) awX
def c12:J:=U [br 4 false] [0,1] awY
theorem x1:bq ⟨27,[0,1]⟩ (Tryz.f12.body.getD .skip)=some c12.strip:=by kernel_rfl
def awZ:J:=U [ro 2 (.gz (.c (.str [109,48])))] [2] .ret
def aw0:J:=.cond (.t 5) awZ .skip
def aw1:J:=.cond (.t 7) .skip (.exit 0)
def aw2:J:=.bW [aa 16 0,aZ 17 .quo 3 16 10,aA 0 17] (some [0,3])
def aw3:J:=.block 1 (U [aa 8 0,aZ 9 .rem 3 8 10,ro 10 (.bV .add 3 (.c (.int .i64 48)) (.t 9)),I7 11 3 5 10,zI 12 106 11,I7 13 106 9 12,aa 14 3,bG 15 .add 9 13 14,aA 3 15] [0,3] aw2)
def Q2:J:=.seq (U [aa 6 0,aZ 7 .gtr 3 6 0] [0,3,7] aw1) aw3
def aw4:J:=U [aa 18 3,ro 19 (.bV .add 9 (.c (.str [109])) (.t 18)),aA 2 19] [2] .ret
def aw5:J:=.seq (.block 0 (.loop Q2)) aw4
def aw6:J:=U [ro 3 (.gz (.c (.str [])))] [0,3] aw5
def aw7:J:=.seq (U [aa 4 0,aZ 5 .leq 3 4 0] [0,5] aw0) aw6
def aw8:J:=U [ro 2 (.gz (.c (.str [])))] [0] aw7
theorem aw9:bq ⟨20,[]⟩ (Tryz.f41.body.getD .skip)=some aw8.strip:=by kernel_rfl
def aw_:J:=.cond (.t 9) .skip (.exit 0)
def axa:J:=.bW [aa 24 1,aZ 25 .add 3 24 1,aA 1 25] (some [0,1,5])
def axb:J:=U [aa 19 0,aa 20 5,aa 21 1,cq 22 144 19 20,bc 23 176 22 1,dZ 2 23 21] [0,1,5] axa
def axc:J:=U [aa 17 1,aZ 18 .add 3 17 1,aA 1 18] [0,1,5] axb
def axd:J:=.bW [aa 10 5,aZ 11 .add 3 10 1,aA 5 11] (some [0,1,5])
def axe:J:=.seq (.block 1 (U [aa 12 0,aa 13 5,aa 14 1,cq 15 144 12 13,bc 16 176 15 0,dZ 2 16 14] [0,1,5] axc)) axd
def Q3:J:=.seq (U [aa 6 5,aa 7 0,bM 8 144 7,bG 9 .lss 3 6 8] [0,1,5,9] aw_) axe
def axf:J:=.block 0 (.loop Q3)
def axg:J:=U [aa 26 1,aA 4 26] [0,4] .ret
def axh:J:=.seq (U [a_ 5 0] [0,1,5] axf) axg
def axi:J:=U [a_ 4 0] [0,1] axh
theorem axj:bq ⟨27,[0]⟩ (Tryz.f99.body.getD .skip)=some axi.strip:=by kernel_rfl
def axk:J:=.cond (.t 9) .skip (.exit 0)
def axl:J:=.bW [aa 10 5,aZ 11 .add 3 10 1,aA 5 11] (some [0,1,5])
def axm:J:=.seq (.block 1 (.bW [aa 12 0,aa 13 5,cq 14 119 12 13,aV 15 144 14,aa 16 1,dB 17 99 15 16,aA 1 17] (some [0,1,5]))) axl
def Q4:J:=.seq (U [aa 6 5,aa 7 0,bM 8 119 7,bG 9 .lss 3 6 8] [0,1,5,9] axk) axm
def axn:J:=.block 0 (.loop Q4)
def axo:J:=U [aa 18 1,aA 4 18] [0,4] .ret
def axp:J:=.seq (U [a_ 5 0] [0,1,5] axn) axo
def axq:J:=U [a_ 4 0] [0,1] axp
theorem axr:bq ⟨19,[0]⟩ (Tryz.f78.body.getD .skip)=some axq.strip:=by kernel_rfl
def axs:J:=.cond (.t 9) .skip (.exit 0)
def axt:J:=.bW [aa 34 0,aa 35 5,cq 36 89 34 35,bc 37 121 36 3,aV 38 119 37,aa 39 1,dB 40 78 38 39,aA 1 40] (some [0,1,5])
def axu:J:=U [aa 32 1,aZ 33 .add 3 32 1,aA 1 33] [0,1,5] axt
def axv:J:=U [aa 26 0,aa 27 5,aa 28 1,dJ 29 41 28,cq 30 89 26 27,bc 31 121 30 2,dZ 9 31 29] [0,1,5] axu
def axw:J:=U [aa 24 1,aZ 25 .add 3 24 1,aA 1 25] [0,1,5] axv
def axx:J:=U [aa 19 0,aa 20 5,aa 21 1,cq 22 89 19 20,bc 23 121 22 1,dZ 2 23 21] [0,1,5] axw
def axy:J:=U [aa 17 1,aZ 18 .add 3 17 1,aA 1 18] [0,1,5] axx
def axz:J:=.bW [aa 10 5,aZ 11 .add 3 10 1,aA 5 11] (some [0,1,5])
def axA:J:=.seq (.block 1 (U [aa 12 0,aa 13 5,aa 14 1,cq 15 89 12 13,bc 16 121 15 0,dZ 2 16 14] [0,1,5] axy)) axz
def Q5:J:=.seq (U [aa 6 5,aa 7 0,bM 8 89 7,bG 9 .lss 3 6 8] [0,1,5,9] axs) axA
def axB:J:=.block 0 (.loop Q5)
def axC:J:=U [aa 41 1,aA 4 41] [0,4] .ret
def axD:J:=.seq (U [a_ 5 0] [0,1,5] axB) axC
def axE:J:=U [a_ 4 0] [0,1] axD
theorem axF:bq ⟨42,[0]⟩ (Tryz.f58.body.getD .skip)=some axE.strip:=by kernel_rfl
def axG:J:=.cond (.t 9) .skip (.exit 0)
def axH:J:=.bW [aa 27 0,aa 28 5,cq 29 34 27 28,bc 30 91 29 2,aV 31 89 30,aa 32 1,dB 33 58 31 32,aA 1 33] (some [0,1,5])
def axI:J:=U [aa 25 1,aZ 26 .add 3 25 1,aA 1 26] [0,1,5] axH
def axJ:J:=U [aa 20 0,aa 21 5,aa 22 1,cq 23 34 20 21,bc 24 91 23 1,dZ 2 24 22] [0,1,5] axI
def axK:J:=U [aa 18 1,aZ 19 .add 3 18 1,aA 1 19] [0,1,5] axJ
def axL:J:=.bW [aa 10 5,aZ 11 .add 3 10 1,aA 5 11] (some [0,1,5])
def axM:J:=.seq (.block 1 (U [aa 12 0,aa 13 5,aa 14 1,dJ 15 41 14,cq 16 34 12 13,bc 17 91 16 0,dZ 9 17 15] [0,1,5] axK)) axL
def Q6:J:=.seq (U [aa 6 5,aa 7 0,bM 8 34 7,bG 9 .lss 3 6 8] [0,1,5,9] axG) axM
def axN:J:=.block 0 (.loop Q6)
def axO:J:=U [aa 34 1,aA 4 34] [0,4] .ret
def axP:J:=.seq (U [a_ 5 0] [0,1,5] axN) axO
def c37:J:=U [a_ 4 0] [0,1] axP
theorem axQ:bq ⟨35,[0]⟩ (Tryz.f37.body.getD .skip)=some c37.strip:=by kernel_rfl
def axR:J:=.cond (.t 9) .skip (.exit 0)
def axS:J:=.bW [aa 16 1,aZ 17 .add 3 16 1,aA 1 17] (some [0,1,5])
def axT:J:=.bW [aa 10 5,aZ 11 .add 3 10 1,aA 5 11] (some [0,1,5])
def axU:J:=.seq (.block 1 (U [aa 12 0,aa 13 5,aa 14 1,cq 15 31 12 13,dZ 2 15 14] [0,1,5] axS)) axT
def Q7:J:=.seq (U [aa 6 5,aa 7 0,bM 8 31 7,bG 9 .lss 3 6 8] [0,1,5,9] axR) axU
def axV:J:=.block 0 (.loop Q7)
def axW:J:=U [aa 18 1,aA 4 18] [0,4] .ret
def axX:J:=.seq (U [a_ 5 0] [0,1,5] axV) axW
def axY:J:=U [a_ 4 0] [0,1] axX
theorem x2:bq ⟨19,[0]⟩ (Tryz.f15.body.getD .skip)=some axY.strip:=by kernel_rfl
def axZ:J:=.cond (.t 9) .skip (.exit 0)
def ax0:J:=.bW [aa 19 0,aa 20 5,cq 21 35 19 20,bc 22 93 21 1,aV 23 31 22,aa 24 1,dB 25 15 23 24,aA 1 25] (some [0,1,5])
def ax1:J:=U [aa 17 1,aZ 18 .add 3 17 1,aA 1 18] [0,1,5] ax0
def ax2:J:=.bW [aa 10 5,aZ 11 .add 3 10 1,aA 5 11] (some [0,1,5])
def ax3:J:=.seq (.block 1 (U [aa 12 0,aa 13 5,aa 14 1,cq 15 35 12 13,bc 16 93 15 0,dZ 2 16 14] [0,1,5] ax1)) ax2
def Q8:J:=.seq (U [aa 6 5,aa 7 0,bM 8 35 7,bG 9 .lss 3 6 8] [0,1,5,9] axZ) ax3
def ax4:J:=.block 0 (.loop Q8)
def ax5:J:=U [aa 26 1,aA 4 26] [0,4] .ret
def ax6:J:=.seq (U [a_ 5 0] [0,1,5] ax4) ax5
def ax7:J:=U [a_ 4 0] [0,1] ax6
theorem ax8:bq ⟨27,[0]⟩ (Tryz.f38.body.getD .skip)=some ax7.strip:=by kernel_rfl
def ax9:J:=.cond (.t 9) .skip (.exit 0)
def ax_:J:=.bW [aa 34 1,aZ 35 .add 3 34 1,aA 1 35] (some [0,1,5])
def aya:J:=U [aa 28 0,aa 29 5,aa 30 1,dJ 31 41 30,cq 32 36 28 29,bc 33 95 32 2,dZ 9 33 31] [0,1,5] ax_
def ayb:J:=U [aa 26 1,aZ 27 .add 3 26 1,aA 1 27] [0,1,5] aya
def ayc:J:=U [aa 20 0,aa 21 5,aa 22 1,dJ 23 41 22,cq 24 36 20 21,bc 25 95 24 1,dZ 9 25 23] [0,1,5] ayb
def ayd:J:=U [aa 18 1,aZ 19 .add 3 18 1,aA 1 19] [0,1,5] ayc
def aye:J:=.bW [aa 10 5,aZ 11 .add 3 10 1,aA 5 11] (some [0,1,5])
def ayf:J:=.seq (.block 1 (U [aa 12 0,aa 13 5,aa 14 1,dJ 15 41 14,cq 16 36 12 13,bc 17 95 16 0,dZ 9 17 15] [0,1,5] ayd)) aye
def Q9:J:=.seq (U [aa 6 5,aa 7 0,bM 8 36 7,bG 9 .lss 3 6 8] [0,1,5,9] ax9) ayf
def ayg:J:=.block 0 (.loop Q9)
def ayh:J:=U [aa 36 1,aA 4 36] [0,4] .ret
def ayi:J:=.seq (U [a_ 5 0] [0,1,5] ayg) ayh
def ayj:J:=U [a_ 4 0] [0,1] ayi
theorem ayk:bq ⟨37,[0]⟩ (Tryz.f39.body.getD .skip)=some ayj.strip:=by kernel_rfl
def ayl:J:=.cond (.t 9) .skip (.exit 0)
def aym:J:=.bW [aa 17 1,aZ 18 .add 3 17 1,aA 1 18] (some [0,1,5])
def ayn:J:=.bW [aa 10 5,aZ 11 .add 3 10 1,aA 5 11] (some [0,1,5])
def ayo:J:=.seq (.block 1 (U [aa 12 0,aa 13 5,aa 14 1,dJ 15 41 14,cq 16 25 12 13,dZ 9 16 15] [0,1,5] aym)) ayn
def Q_:J:=.seq (U [aa 6 5,aa 7 0,bM 8 25 7,bG 9 .lss 3 6 8] [0,1,5,9] ayl) ayo
def ayp:J:=.block 0 (.loop Q_)
def ayq:J:=U [aa 19 1,aA 4 19] [0,4] .ret
def ayr:J:=.seq (U [a_ 5 0] [0,1,5] ayp) ayq
def c40:J:=U [a_ 4 0] [0,1] ayr
theorem ays:bq ⟨20,[0]⟩ (Tryz.f40.body.getD .skip)=some c40.strip:=by kernel_rfl
def ayt:J:=U [aa 25 1,aA 4 25] [0,4] .ret
def ayu:J:=U [bc 21 38 2 4,aV 22 25 21,aa 23 1,dB 24 40 22 23,aA 1 24] [0,1] ayt
def ayv:J:=U [bc 17 38 2 3,aV 18 25 17,aa 19 1,⟨some 20,.lb (.f 40) [(.t 18),(.t 19)] [2],none⟩,aA 1 20] [0,1,2] ayu
def ayw:J:=U [bc 13 38 2 2,aV 14 36 13,aa 15 1,⟨some 16,.lb (.f 39) [(.t 14),(.t 15)] [2],none⟩,aA 1 16] [0,1,2] ayv
def ayx:J:=U [bc 9 38 2 1,aV 10 35 9,aa 11 1,⟨some 12,.lb (.f 38) [(.t 10),(.t 11)] [2],none⟩,aA 1 12] [0,1,2] ayw
def ayy:J:=U [bc 5 38 2 0,aV 6 34 5,aa 7 1,⟨some 8,.lb (.f 37) [(.t 6),(.t 7)] [2],none⟩,aA 1 8] [0,1,2] ayx
def ayz:J:=U [⟨some 2,.kr 38 (.t 0),none⟩,a_ 4 0] [0,1,2] ayy
theorem x3:bq ⟨26,[0]⟩ (Tryz.f13.body.getD .skip)=some ayz.strip:=by kernel_rfl
def ayA:J:=.cond (.t 9) .skip (.exit 0)
def ayB:J:=.bW [aa 39 1,aZ 40 .add 3 39 1,aA 1 40] (some [0,1,5])
def ayC:J:=U [aa 33 0,aa 34 5,aa 35 1,dJ 36 41 35,cq 37 40 33 34,bc 38 59 37 3,dZ 9 38 36] [0,1,5] ayB
def ayD:J:=U [aa 31 1,aZ 32 .add 3 31 1,aA 1 32] [0,1,5] ayC
def ayE:J:=U [aa 26 0,aa 27 5,aa 28 1,cq 29 40 26 27,bc 30 59 29 2,dZ 2 30 28] [0,1,5] ayD
def ayF:J:=U [aa 24 1,aZ 25 .add 3 24 1,aA 1 25] [0,1,5] ayE
def ayG:J:=U [aa 19 0,aa 20 5,aa 21 1,cq 22 40 19 20,bc 23 59 22 1,dZ 2 23 21] [0,1,5] ayF
def ayH:J:=U [aa 17 1,aZ 18 .add 3 17 1,aA 1 18] [0,1,5] ayG
def ayI:J:=.bW [aa 10 5,aZ 11 .add 3 10 1,aA 5 11] (some [0,1,5])
def ayJ:J:=.seq (.block 1 (U [aa 12 0,aa 13 5,aa 14 1,cq 15 40 12 13,bc 16 59 15 0,dZ 2 16 14] [0,1,5] ayH)) ayI
def Ra:J:=.seq (U [aa 6 5,aa 7 0,bM 8 40 7,bG 9 .lss 3 6 8] [0,1,5,9] ayA) ayJ
def ayK:J:=.block 0 (.loop Ra)
def ayL:J:=U [aa 41 1,aA 4 41] [0,4] .ret
def ayM:J:=.seq (U [a_ 5 0] [0,1,5] ayK) ayL
def ayN:J:=U [a_ 4 0] [0,1] ayM
theorem pt:bq ⟨42,[0]⟩ (Tryz.f14.body.getD .skip)=some ayN.strip:=by kernel_rfl
def ayO:J:=.cond (.t 9) .skip (.exit 0)
def ayP:J:=U [a_ 4 (-1)] [4] .ret
def ayQ:J:=.cond (.t 17) ayP .skip
def ayR:J:=.bW [aa 18 1,aZ 19 .add 3 18 1,aA 1 19] (some [0,1,5])
def ayS:J:=.bW [aa 10 5,aZ 11 .add 3 10 1,aA 5 11] (some [0,1,5])
def ayT:J:=.seq (.block 1 (.seq (U [aa 12 0,aa 13 5,cq 14 31 12 13,aV 15 2 14,aa 16 1,bG 17 .neq 2 15 16] [0,1,5,17] ayQ) ayR)) ayS
def Rb:J:=.seq (U [aa 6 5,aa 7 0,bM 8 31 7,bG 9 .lss 3 6 8] [0,1,5,9] ayO) ayT
def ayU:J:=.block 0 (.loop Rb)
def ayV:J:=U [aa 20 1,aA 4 20] [4] .ret
def ayW:J:=.seq (U [a_ 5 0] [0,1,5] ayU) ayV
def ayX:J:=U [a_ 4 0] [0,1] ayW
theorem vv:bq ⟨21,[0]⟩ (Tryz.f16.body.getD .skip)=some ayX.strip:=by kernel_rfl
def ayY:J:=U [br 4 true] [4] .ret
def ayZ:J:=.cond (.t 21) ayY .skip
def ay0:J:=U [br 4 true] [4] .ret
def ay1:J:=.cond (.t 26) ay0 .skip
def ay2:J:=U [br 4 false] [4] .ret
def ay3:J:=.cond (.t 53) ay2 .skip
def ay4:J:=U [br 4 false] [4] .ret
def ay5:J:=.cond (.t 58) ay4 .skip
def ay6:J:=U [br 4 false] [4] .ret
def ay7:J:=.cond (.t 63) ay6 .skip
def ay8:J:=U [br 4 false] [4] .ret
def ay9:J:=.cond (.t 82) ay8 .skip
def ay_:J:=U [br 4 false] [4] .ret
def aza:J:=.cond (.t 90) ay_ .skip
def azb:J:=U [br 4 false] [4] .ret
def azc:J:=.cond (.t 93) azb .skip
def azd:J:=U [br 4 false] [4] .ret
def aze:J:=.cond (.t 110) azd .skip
def azf:J:=U [br 4 false] [4] .ret
def azg:J:=.cond (.t 115) azf .skip
def azh:J:=U [br 4 false] [4] .ret
def azi:J:=.cond (.t 118) azh .skip
def azj:J:=U [br 4 true] [4] .ret
def azk:J:=.seq (U [aa 116 14,aa 117 13,bG 118 .neq 3 116 117] [118] azi) azj
def azl:J:=.seq (U [aa 114 14,aZ 115 .lss 3 114 0] [13,14,115] azg) azk
def azm:J:=U [aa 111 10,aa 112 14,dB 113 16 111 112,aA 14 113] [13,14] azl
def azn:J:=U [a_ 14 1] [10,13,14] azm
def azo:J:=.seq (U [aa 102 15,aa 103 6,dB 104 10 102 103,eF 105 104,aa 106 105,bn 107 106 (.bS (.t 16)),bn 108 106 (.bS (.t 7)),bn 109 106 (.bV .neq 2 (.t 107) (.t 108)),ro 110 (.pick (.t 106) (.c (.bool true)) (.t 109))] [10,13,110] aze) azn
def azp:J:=U [aV 95 27 2,dJ 96 7 95,aa 97 1,dJ 98 8 97,dB 99 9 96 98,aa 94 99,iY 100 94 0,iY 101 94 1,aA 15 100,aA 16 101] [6,7,10,13,15,16] azo
def azq:J:=.seq (U [aa 91 14,aa 92 13,bG 93 .neq 3 91 92] [1,2,6,7,10,13,93] azc) azp
def azr:J:=.seq (U [aa 89 14,aZ 90 .lss 3 89 0] [1,2,6,7,10,13,14,90] aza) azq
def azs:J:=U [aa 86 10,aa 87 14,dB 88 16 86 87,aA 14 88] [1,2,6,7,10,13,14] azr
def azt:J:=U [a_ 14 1] [1,2,6,7,10,13,14] azs
def azu:J:=U [aa 83 10,aa 84 13,dB 85 15 83 84,aA 13 85] [1,2,6,7,10,13] azt
def azv:J:=U [a_ 13 1] [1,2,6,7,10,13] azu
def azw:J:=.seq (U [aa 70 12,aZ 71 .lss 3 70 0,aa 72 71,bn 73 72 (.bS (.t 10)),bn 74 72 (.bS (.t 6)),⟨some 75,.call (.f 10) [(.t 73),(.t 74)],some (72,false)⟩,bn 76 72 (.un .not (.t 75)),ro 77 (.pick (.t 72) (.c (.bool true)) (.t 76)),aa 78 77,bn 79 78 (.bS (.t 11)),bn 80 78 (.bS (.t 7)),bn 81 78 (.bV .neq 2 (.t 79) (.t 80)),ro 82 (.pick (.t 78) (.c (.bool true)) (.t 81))] [1,2,6,7,10,82] ay9) azv
def azx:J:=U [aa 67 9,aa 68 12,dB 69 14 67 68,aA 12 69] [1,2,6,7,10,11,12] azw
def azy:J:=U [aV 64 38 8,aa 65 12,dB 66 13 64 65,aA 12 66] [1,2,6,7,9,10,11,12] azx
def azz:J:=U [a_ 12 1] [1,2,6,7,8,9,10,11,12] azy
def azA:J:=.seq (U [aa 59 9,aa 60 1,dJ 61 8 60,dB 62 12 59 61,eF 63 62] [1,2,6,7,8,9,10,11,63] ay7) azz
def azB:J:=.seq (kj [aV 54 38 8,aV 55 27 2,dJ 56 7 55,dB 57 11 54 56,eF 58 57] [[],[],[1],[0,2,2],[3]] [1,2,6,7,8,9,10,11,58] ay5) azA
def azC:J:=.seq (U [aa 45 10,aa 46 6,dB 47 10 45 46,eF 48 47,aa 49 48,bn 50 49 (.bS (.t 11)),bn 51 49 (.bS (.t 7)),bn 52 49 (.bV .neq 2 (.t 50) (.t 51)),ro 53 (.pick (.t 49) (.c (.bool true)) (.t 52))] [1,2,6,7,8,9,10,11,53] ay3) azB
def azD:J:=U [aV 40 38 8,aa 41 9,dB 42 9 40 41,aa 39 42,iY 43 39 0,iY 44 39 1,aA 10 43,aA 11 44] [1,2,6,7,8,9,10,11] azC
def azE:J:=U [aa 37 1,dJ 38 8 37,aA 9 38] [1,2,6,7,8,9] azD
def azF:J:=U [aV 35 27 2,dJ 36 7 35,jJ 8 38,dZ 38 8 36] [1,2,6,7,8] azE
def azG:J:=U [aV 28 27 2,dJ 29 7 28,aa 30 1,dJ 31 8 30,dB 32 6 29 31,aa 27 32,iY 33 27 0,iY 34 27 1,aA 6 33,aA 7 34] [1,2,6,7] azF
def azH:J:=.seq (U [aa 25 5,aZ 26 .lss 3 25 0] [1,2,26] ay1) azG
def azI:J:=U [aa 22 1,aa 23 5,dB 24 5 22 23,aA 5 24] [1,2,5] azH
def azJ:J:=.seq (U [aa 20 5,aZ 21 .lss 3 20 0] [1,2,5,21] ayZ) azI
def azK:J:=U [aV 17 27 2,aa 18 5,dB 19 4 17 18,aA 5 19] [1,2,5] azJ
def azL:J:=U [a_ 5 1048576] [1,2,5] azK
def c3:J:=U [ro 2 (.dm 27 (.t 0)),br 4 false] [1,2] azL
theorem ff:bq ⟨119,[0,1]⟩ (Tryz.f3.body.getD .skip)=some c3.strip:=by kernel_rfl
def Bc:=PLift.up (And.intro @Bool.not_true @Bool.not_false)
def r6:=PLift.up (And.intro @List.length_append.{0} (And.intro @List.length_cons.{0} (And.intro @List.length_nil.{0} (And.intro @List.length_map.{0,0} (And.intro @List.length_replicate.{0} (And.intro @Nat.zero_add @Nat.add_zero))))))
end Go.Proofs.YtlkabaochkgkdaaGreatDoor
