/- Part of a proof that a law returns true for every input. No condition. -/
import Derived.Test.YtikimdcnadipbaaGreatDoorTb
import Derived.Test.YtikimdcnadipbaaGreatDoorFwL
import Derived.Test.YtikimdcnadipbaaGreatDoorP4
namespace Go.Proofs.YtikimdcnadipbaaGreatDoor
open Go Go.bZ Go.eL
set_option linter.unusedSimpArgs false
def fK (x:fl):I:=.agg [.int .i64 x.Choice,.int .i64 x.dJ,.int .i64 x.Second,.str x.Label]
theorem YH (x:fl):(fK x).share=fK x:=by
 simp only[fK,kr]
theorem YI (x:fl):(fK x).c_=true:=by
 simp only[fK,I.c_,I.kn,Bool.and_self]
def b1 (x:Int):I:=.int .i64 x
theorem Eg (x:Int):(b1 x).share=b1 x:=by
 simp only[b1,kr]
theorem L5 (x:Int):(b1 x).c_=true:=by
 simp only[b1,I.c_,I.kn,Bool.and_self]
def bW (x:List UInt8):I:=.str x
theorem Eh (x:List UInt8):(bW x).share=bW x:=by
 simp only[bW,kr]
theorem YJ (x:List UInt8):(bW x).c_=true:=by
 simp only[bW,I.c_,I.kn,Bool.and_self]
def b4 (x:b3):I:=.agg [.int .i64 x.Choice,.int .i64 x.dJ,.int .i64 x.Second,.str x.Label]
theorem vY (x:b3):(b4 x).share=b4 x:=by
 simp only[b4,kr]
theorem YK (x:b3):(b4 x).c_=true:=by
 simp only[b4,I.c_,I.kn,Bool.and_self]
def ax (r:List bn) (k:List Nat) (c:ad):ad:=.seq (.cB r (some k)) c
def vZ (r:List bn) (a:List (List Nat)) (k:List Nat) (c:ad):ad:=.seq (.jV r a (some k)) c
abbrev bY (d t:Nat) (o:dS):bn:=⟨some d,o,some (t,true)⟩
abbrev eb (d t:Nat) (o:dS):bn:=⟨some d,o,some (t,false)⟩
abbrev YL (n:Nat) (k:List Nat) (f:Func) (c:ad):Prop:=bR ⟨n,k⟩ (f.body.getD .skip)=some c.strip
def L6:ad:=ax [dk 4 (-1)] [4] .ret
def L7:ad:=.cond (.t 11) L6 .skip
def L8:ad:=ax [aq 12 1,aS 4 12] [4] .ret
def L9:ad:=.seq (ax [aq 10 1,b7 11 .lss 3 10 0] [1,11] L7) L8
def L_:ad:=ax [aq 5 1,fI 6 66 2 3,ew 7 9 6,dp 8 9 7,cR 9 .sub 3 5 8,aS 1 9] [1] L9
def Ma:ad:=ax [ro 2 (.dB 66 (.t 0)),dk 4 0] [1,2] L_
theorem Mb:bR ⟨13,[0]⟩ (Tryz.f36.body.getD .skip)=some Ma.strip:=by kernel_rfl
def Mc:ad:=ax [dk 4 (-1)] [4] .ret
def Md:ad:=.cond (.t 11) Mc .skip
def Me:ad:=.cond (.t 15) .skip (.exit 0)
def Mf:ad:=ax [dk 4 (-1)] [4] .ret
def Mg:ad:=.cond (.t 25) Mf .skip
def Mh:ad:=ax [aq 24 1,b7 25 .lss 3 24 0] [0,1,5,25] Mg
def Mi:ad:=.cB [aq 16 5,b7 17 .add 3 16 1,aS 5 17] (some [0,1,5])
def Mj:ad:=.seq (.block 1 (ax [aq 18 0,aq 19 5,iB 20 42 18 19,ew 21 66 20,aq 22 1,fw 23 36 21 22,aS 1 23] [0,1,5] Mh)) Mi
def Ei:ad:=.seq (ax [aq 12 5,aq 13 0,dp 14 42 13,cR 15 .lss 3 12 14] [0,1,5,15] Me) Mj
def Mk:ad:=.block 0 (.loop Ei)
def Ml:ad:=ax [aq 26 1,aS 4 26] [4] .ret
def Mm:ad:=.seq (ax [dk 5 0] [0,1,5] Mk) Ml
def Mn:ad:=.seq (ax [aq 10 1,b7 11 .lss 3 10 0] [0,1,11] Md) Mm
def Mo:ad:=ax [aq 6 1,aq 7 0,dp 8 42 7,cR 9 .sub 3 6 8,aS 1 9] [0,1] Mn
def Mp:ad:=ax [dk 4 0] [0,1] Mo
theorem Mq:bR ⟨27,[0]⟩ (Tryz.f17.body.getD .skip)=some Mp.strip:=by kernel_rfl
def Mr:ad:=ax [ew 16 68 3,mv 68 2 16] [2] .ret
def Ms:ad:=ax [fI 13 66 1 3,ew 14 9 13,fI 15 68 3 3,mv 9 15 14] [2,3] Mr
def Mt:ad:=ax [fI 10 66 1 2,ew 11 2 10,fI 12 68 3 2,mv 2 12 11] [1,2,3] Ms
def Mu:ad:=ax [fI 7 66 1 1,ew 8 2 7,fI 9 68 3 1,mv 2 9 8] [1,2,3] Mt
def Mv:ad:=ax [fI 4 66 1 0,ew 5 2 4,fI 6 68 3 0,mv 2 6 5] [1,2,3] Mu
def Mw:ad:=ax [u4 3 68] [1,2,3] Mv
def Mx:ad:=ax [ro 1 (.dB 66 (.t 0)),u4 2 68] [1,2] Mw
theorem My:bR ⟨17,[0]⟩ (Tryz.f39.body.getD .skip)=some Mx.strip:=by kernel_rfl
def Mz:ad:=.cond (.t 11) .skip (.exit 0)
def MA:ad:=.cB [aq 12 4,b7 13 .add 3 12 1,aS 4 13] (some [0,3,4])
def MB:ad:=.seq (.block 1 (.cB [aq 14 3,aq 15 4,aq 16 0,aq 17 4,iB 18 42 16 17,ew 19 66 18,eY 20 39 19,iB 21 45 14 15,mv 68 21 20] (some [0,3,4]))) MA
def Ej:ad:=.seq (ax [aq 8 4,aq 9 0,dp 10 42 9,cR 11 .lss 3 8 10] [0,3,4,11] Mz) MB
def MC:ad:=.block 0 (.loop Ej)
def MD:ad:=ax [aq 22 3,aS 2 22] [2] .ret
def ME:ad:=.seq (ax [dk 4 0] [0,3,4] MC) MD
def MF:ad:=ax [aq 5 0,dp 6 42 5,ro 7 (.en 45 (.t 6) (.t 6)),aS 3 7] [0,3] ME
def MG:ad:=ax [jz 2] [0] MF
theorem MH:bR ⟨23,[0]⟩ (Tryz.f19.body.getD .skip)=some MG.strip:=by kernel_rfl
def MI:ad:=ax [aq 7 0,aq 8 1,cR 9 .geq 2 7 8,aq 10 9,bY 11 10 (.cg (.t 0)),bY 12 10 (.cg (.t 2)),bY 13 10 (.bC .leq 2 (.t 11) (.t 12)),ro 14 (.pick (.t 10) (.t 13) (.c (.bool false))),aS 6 14] [6] .ret
def c46:ad:=ax [cC 6 false] [0,1,2] MI
theorem MJ:bR ⟨15,[0,1,2]⟩ (Tryz.f46.body.getD .skip)=some c46.strip:=by kernel_rfl
def MK:ad:=.cond (.t 7) .skip (.exit 0)
def ML:ad:=ax [aq 14 3,aS 2 14] [2] .ret
def MM:ad:=.cond (.t 13) ML .skip
def MN:ad:=.cB [aq 8 3,b7 9 .add 3 8 1,aS 3 9] (some [0,3])
def MO:ad:=.seq (.block 1 (ax [aq 10 0,aq 11 3,mu 12 9 10 11,ro 13 (.bC .eql 5 (.t 12) (.c (.int .u8 40)))] [0,3,13] MM)) MN
def Ek:ad:=.seq (ax [aq 4 3,aq 5 0,dp 6 9 5,cR 7 .lss 3 4 6] [0,3,7] MK) MO
def MP:ad:=.block 0 (.loop Ek)
def MQ:ad:=ax [aq 15 0,dp 16 9 15,aS 2 16] [2] .ret
def MR:ad:=.seq (ax [dk 3 0] [0,3] MP) MQ
def MS:ad:=ax [dk 2 0] [0] MR
theorem MT:bR ⟨17,[0]⟩ (Tryz.f140.body.getD .skip)=some MS.strip:=by kernel_rfl
def MU:ad:=ax [aq 3 0,ro 4 (.bC .geq 5 (.t 3) (.c (.int .u8 97))),aq 5 4,bY 6 5 (.cg (.t 0)),bY 7 5 (.bC .leq 5 (.t 6) (.c (.int .u8 122))),ro 8 (.pick (.t 5) (.t 7) (.c (.bool false))),aS 2 8] [2] .ret
def MV:ad:=ax [cC 2 false] [0] MU
theorem MW:bR ⟨9,[0]⟩ (Tryz.f135.body.getD .skip)=some MV.strip:=by kernel_rfl
def MX:ad:=ax [aq 3 0,ro 4 (.bC .geq 5 (.t 3) (.c (.int .u8 48))),aq 5 4,bY 6 5 (.cg (.t 0)),bY 7 5 (.bC .leq 5 (.t 6) (.c (.int .u8 57))),ro 8 (.pick (.t 5) (.t 7) (.c (.bool false))),aS 2 8] [2] .ret
def MY:ad:=ax [cC 2 false] [0] MX
theorem MZ:bR ⟨9,[0]⟩ (Tryz.f136.body.getD .skip)=some MY.strip:=by kernel_rfl
def M0:ad:=ax [cC 2 false] [2] .ret
def M1:ad:=.cond (.t 16) M0 .skip
def M3:ad:=.cond (.t 20) .skip (.exit 0)
def M4:ad:=ax [cC 2 false] [2] .ret
def M5:ad:=.cond (.t 34) M4 .skip
def M6:ad:=.cB [aq 21 3,b7 22 .add 3 21 1,aS 3 22] (some [0,3])
def M7:ad:=.seq (.block 1 (ax [aq 23 0,aq 24 3,mu 25 9 23 24,eY 26 135 25,h1 27 26,aq 28 27,bY 29 28 (.cg (.t 0)),bY 30 28 (.cg (.t 3)),bY 31 28 (.idx 9 (.t 29) (.t 30)),⟨some 32,.call (.f 136) [(.t 31)],some (28,true)⟩,bY 33 28 (.un .not (.t 32)),ro 34 (.pick (.t 28) (.t 33) (.c (.bool false)))] [0,3,34] M5)) M6
def El:ad:=.seq (ax [aq 17 3,aq 18 0,dp 19 9 18,cR 20 .lss 3 17 19] [0,3,20] M3) M7
def M8:ad:=.block 0 (.loop El)
def M9:ad:=ax [cC 2 true] [2] .ret
def M_:ad:=.seq (ax [dk 3 0] [0,3] M8) M9
def Na:ad:=.seq (ax [aq 4 0,ro 5 (.bC .eql 9 (.t 4) (.c (.str []))),aq 6 5,eb 7 6 (.cg (.t 0)),eb 8 6 (.len 9 (.t 7)),eb 9 6 (.bC .gtr 3 (.t 8) (.c (.int .i64 10))),ro 10 (.pick (.t 6) (.c (.bool true)) (.t 9)),aq 11 10,eb 12 11 (.cg (.t 0)),eb 13 11 (.idx 9 (.t 12) (.c (.int .i64 0))),⟨some 14,.call (.f 135) [(.t 13)],some (11,false)⟩,eb 15 11 (.un .not (.t 14)),ro 16 (.pick (.t 11) (.c (.bool true)) (.t 15))] [0,16] M1) M_
def Nb:ad:=ax [cC 2 false] [0] Na
theorem Nc:bR ⟨35,[0]⟩ (Tryz.f115.body.getD .skip)=some Nb.strip:=by kernel_rfl
def Nd:ad:=ax [aq 3 0,eY 4 115 3,aq 5 4,bY 6 5 (.cg (.t 0)),⟨some 7,.bC .neq 9 (.t 6) (.c (.str [116,97,117])),some (5,true)⟩,ro 8 (.pick (.t 5) (.t 7) (.c (.bool false))),aS 2 8] [2] .ret
def Nf:ad:=ax [cC 2 false] [0] Nd
theorem Ng:bR ⟨9,[0]⟩ (Tryz.f81.body.getD .skip)=some Nf.strip:=by kernel_rfl
def Nh:ad:=.cond (.t 12) .skip (.exit 0)
def Ni:ad:=.cB [aq 27 7,b7 28 .add 3 27 1,aS 6 28] (some [0,1,5,6,7])
def Nj:ad:=ax [aq 20 5,aq 21 0,aq 22 6,aq 23 7,ro 24 (.cD 9 (.t 21) (some (.t 22)) (some (.t 23))),q2 25 138 24,pB 26 138 138 20 25,aS 5 26] [0,1,5,7] Ni
def Nk:ad:=.cond (.t 19) Nj .skip
def Em:ad:=.cB [aq 13 7,b7 14 .add 3 13 1,aS 7 14] (some [0,1,5,6,7])
def Nl:ad:=.seq (.block 1 (ax [aq 15 0,aq 16 7,mu 17 9 15 16,aq 18 1,cR 19 .eql 5 17 18] [0,1,5,6,7,19] Nk)) Em
def En:ad:=.seq (ax [aq 9 7,aq 10 0,dp 11 9 10,cR 12 .lss 3 9 11] [0,1,5,6,7,12] Nh) Nl
def Nn:ad:=.block 0 (.loop En)
def Np:ad:=ax [aq 29 5,aq 30 0,aq 31 6,ro 32 (.cD 9 (.t 30) (some (.t 31)) none),q2 33 138 32,pB 34 138 138 29 33,aS 4 34] [4] .ret
def Nq:ad:=.seq (ax [dk 7 0] [0,1,5,6,7] Nn) Np
def Nr:ad:=ax [dk 6 0] [0,1,5,6] Nq
def Ns:ad:=ax [ro 8 (.cF 138 0 []),aS 5 8] [0,1,5] Nr
def c141:ad:=ax [jz 4] [0,1] Ns
theorem Nt:bR ⟨35,[0,1]⟩ (Tryz.f141.body.getD .skip)=some c141.strip:=by kernel_rfl
def Nu:ad:=.cB [dk 4 1] (some [0,4])
def Nv:ad:=.cond (.t 14) Nu .skip
def Nw:ad:=ax [dk 2 0,cC 3 false] [2,3] .ret
def Nx:ad:=.cond (.t 36) Nw .skip
def Ny:ad:=.cond (.t 41) .skip (.exit 0)
def Nz:ad:=ax [dk 2 0,cC 3 false] [2,3] .ret
def NA:ad:=.cond (.t 48) Nz .skip
def NB:ad:=.cB [aq 49 5,ro 50 (.bC .mul 2 (.c (.int .i64 10)) (.t 49)),aq 51 0,aq 52 6,mu 53 9 51 52,ro 54 (.bC .sub 5 (.t 53) (.c (.int .u8 48))),s3 55 5 2 54,cR 56 .add 2 50 55,aS 5 56] (some [0,4,5,6])
def NC:ad:=.cB [aq 42 6,b7 43 .add 3 42 1,aS 6 43] (some [0,4,5,6])
def ND:ad:=.seq (.block 1 (.seq (ax [aq 44 0,aq 45 6,mu 46 9 44 45,eY 47 136 46,h1 48 47] [0,4,5,6,48] NA) NB)) NC
def zd:ad:=.seq (ax [aq 38 6,aq 39 0,dp 40 9 39,cR 41 .lss 3 38 40] [0,4,5,6,41] Ny) ND
def NF:ad:=.block 0 (.loop zd)
def NG:ad:=.cB [aq 59 5,ro 60 (.un .neg (.t 59)),aS 5 60] (some [5])
def NH:ad:=.cond (.t 58) NG .skip
def ze:ad:=ax [aq 61 5,aS 2 61,cC 3 true] [2,3] .ret
def NI:ad:=.seq (ax [aq 57 4,b7 58 .eql 3 57 1] [5,58] NH) ze
def NJ:ad:=.seq (ax [aq 37 4,aS 6 37] [0,4,5,6] NF) NI
def NK:ad:=ax [dk 5 0] [0,4,5] NJ
def Eo:ad:=.seq (ax [aq 15 0,dp 16 9 15,aq 17 4,cR 18 .eql 3 16 17,aq 19 18,eb 20 19 (.cg (.t 0)),eb 21 19 (.len 9 (.t 20)),eb 22 19 (.cg (.t 4)),eb 23 19 (.bC .sub 3 (.t 21) (.t 22)),eb 24 19 (.bC .gtr 3 (.t 23) (.c (.int .i64 18))),ro 25 (.pick (.t 19) (.c (.bool true)) (.t 24)),aq 26 25,eb 27 26 (.cg (.t 0)),eb 28 26 (.cg (.t 4)),eb 29 26 (.idx 9 (.t 27) (.t 28)),eb 30 26 (.bC .eql 5 (.t 29) (.c (.int .u8 48))),eb 31 26 (.cg (.t 30)),bY 32 31 (.cg (.t 0)),bY 33 31 (.len 9 (.t 32)),bY 34 31 (.bC .gtr 3 (.t 33) (.c (.int .i64 1))),eb 35 26 (.pick (.t 31) (.t 34) (.c (.bool false))),ro 36 (.pick (.t 26) (.c (.bool true)) (.t 35))] [0,4,36] Nx) NK
def NL:ad:=.seq (ax [aq 7 0,dp 8 9 7,b7 9 .gtr 3 8 0,aq 10 9,bY 11 10 (.cg (.t 0)),bY 12 10 (.idx 9 (.t 11) (.c (.int .i64 0))),bY 13 10 (.bC .eql 5 (.t 12) (.c (.int .u8 45))),ro 14 (.pick (.t 10) (.t 13) (.c (.bool false)))] [0,4,14] Nv) Eo
def NM:ad:=ax [dk 4 0] [0,4] NL
def NN:ad:=ax [dk 2 0,cC 3 false] [0] NM
theorem NO:bR ⟨62,[0]⟩ (Tryz.f142.body.getD .skip)=some NN.strip:=by kernel_rfl
def NP:ad:=ax [ro 16 (.cF 22 0 []),aq 17 0,eY 18 115 17,aS 2 16,aS 3 18] [2,3] .ret
def NQ:ad:=.cond (.t 15) NP .skip
def NR:ad:=ax [jz 2,cC 3 false] [2,3] .ret
def NS:ad:=.cond (.t 31) NR .skip
def NT:ad:=.cond (.t 44) .skip (.exit 0)
def NU:ad:=ax [jz 2,cC 3 false] [2,3] .ret
def NV:ad:=.cond (.t 61) NU .skip
def NW:ad:=.cB [aq 62 6,aq 63 8,q2 64 22 63,pB 65 22 22 62 64,aS 6 65] (some [5,6,7])
def NX:ad:=.seq (ax [aq 55 9,h1 56 55,aq 57 56,eb 58 57 (.cg (.t 8)),⟨some 59,.call (.f 46) [(.t 58),(.c (.int .i64 0)),(.c (.int .i64 63))],some (57,false)⟩,eb 60 57 (.un .not (.t 59)),ro 61 (.pick (.t 57) (.c (.bool true)) (.t 60))] [5,6,7,8,61] NV) NW
def NY:ad:=.cB [aq 45 7,b7 46 .add 3 45 1,aS 7 46] (some [5,6,7])
def NZ:ad:=.seq (.block 1 (ax [aq 48 5,aq 49 7,iB 50 138 48 49,ew 51 9 50,eY 52 142 51,aq 47 52,gE 53 47 0,gE 54 47 1,aS 8 53,aS 9 54] [5,6,7,8,9] NX)) NY
def Ep:ad:=.seq (ax [aq 41 7,aq 42 5,dp 43 138 42,cR 44 .lss 3 41 43] [5,6,7,44] NT) NZ
def N0:ad:=.block 0 (.loop Ep)
def N1:ad:=ax [aq 66 6,aq 67 6,dp 68 22 67,b7 69 .leq 3 68 2,aS 2 66,aS 3 69] [2,3] .ret
def N2:ad:=.seq (ax [dk 7 0] [5,6,7] N0) N1
def N3:ad:=ax [ro 40 (.cF 22 0 []),aS 6 40] [5,6] N2
def N4:ad:=ax [aq 32 0,aq 33 4,b7 34 .add 3 33 1,aq 35 0,dp 36 9 35,b7 37 .sub 3 36 1,ro 38 (.cD 9 (.t 32) (some (.t 34)) (some (.t 37))),ro 39 (.call (.f 141) [(.t 38),(.c (.int .u8 44))]),aS 5 39] [5] N3
def N5:ad:=.seq (ax [aq 19 0,aq 20 4,ro 21 (.cD 9 (.t 19) none (some (.t 20))),eY 22 81 21,h1 23 22,aq 24 23,eb 25 24 (.cg (.t 0)),eb 26 24 (.cg (.t 0)),eb 27 24 (.len 9 (.t 26)),eb 28 24 (.bC .sub 3 (.t 27) (.c (.int .i64 1))),eb 29 24 (.idx 9 (.t 25) (.t 28)),eb 30 24 (.bC .neq 5 (.t 29) (.c (.int .u8 41))),ro 31 (.pick (.t 24) (.c (.bool true)) (.t 30))] [0,4,31] NS) N4
def N6:ad:=.seq (ax [aq 12 4,aq 13 0,dp 14 9 13,cR 15 .eql 3 12 14] [0,4,15] NQ) N5
def N7:ad:=ax [aq 10 0,eY 11 140 10,aS 4 11] [0,4] N6
def N8:ad:=ax [jz 2,cC 3 false] [0] N7
theorem N9:bR ⟨70,[0]⟩ (Tryz.f132.body.getD .skip)=some N8.strip:=by kernel_rfl
def N_:ad:=ax [aq 10 4,aS 2 10] [2] .ret
def Oa:ad:=ax [aq 6 0,eY 7 132 6,aq 5 7,gE 8 5 0,gE 9 5 1,aS 3 8,aS 4 9] [4] N_
def Ob:ad:=ax [cC 2 false] [0] Oa
theorem Oc:bR ⟨11,[0]⟩ (Tryz.f106.body.getD .skip)=some Ob.strip:=by kernel_rfl
def Od:ad:=ax [aq 3 0,s0 4 3,fI 5 68 4 0,ew 6 2 5,ro 7 (.call (.f 46) [(.t 6),(.c (.int .i64 0)),(.c (.int .i64 199))]),aq 8 7,bY 9 8 (.cg (.t 0)),bY 10 8 (.ek (.t 9)),bY 11 8 (.dX 68 (.t 10) 1),bY 12 8 (.c7 2 (.t 11)),⟨some 13,.call (.f 46) [(.t 12),(.c (.int .i64 0)),(.c (.int .i64 2))],some (8,true)⟩,ro 14 (.pick (.t 8) (.t 13) (.c (.bool false))),aq 15 14,bY 16 15 (.cg (.t 0)),bY 17 15 (.ek (.t 16)),bY 18 15 (.dX 68 (.t 17) 2),bY 19 15 (.c7 2 (.t 18)),⟨some 20,.call (.f 46) [(.t 19),(.c (.int .i64 (-1))),(.c (.int .i64 2))],some (15,true)⟩,ro 21 (.pick (.t 15) (.t 20) (.c (.bool false))),aq 22 21,bY 23 22 (.cg (.t 0)),bY 24 22 (.ek (.t 23)),bY 25 22 (.dX 68 (.t 24) 3),bY 26 22 (.c7 9 (.t 25)),⟨some 27,.call (.f 106) [(.t 26)],some (22,true)⟩,ro 28 (.pick (.t 22) (.t 27) (.c (.bool false))),aS 2 28] [2] .ret
def Oe:ad:=ax [cC 2 false] [0] Od
theorem Of:bR ⟨29,[0]⟩ (Tryz.f69.body.getD .skip)=some Oe.strip:=by kernel_rfl
def Og:ad:=ax [cC 2 false] [2] .ret
def Oh:ad:=.cond (.t 6) Og .skip
def Oi:ad:=.cond (.t 10) .skip (.exit 0)
def Oj:ad:=ax [cC 2 false] [2] .ret
def Ok:ad:=.cond (.t 17) Oj .skip
def Ol:ad:=.cB [aq 11 3,b7 12 .add 3 11 1,aS 3 12] (some [0,3])
def Om:ad:=.seq (.block 1 (ax [aq 13 0,aq 14 3,iB 15 45 13 14,eY 16 69 15,h1 17 16] [0,3,17] Ok)) Ol
def Er:ad:=.seq (ax [aq 7 3,aq 8 0,dp 9 45 8,cR 10 .lss 3 7 9] [0,3,10] Oi) Om
def On:ad:=.block 0 (.loop Er)
def Oo:ad:=ax [cC 2 true] [2] .ret
def Oq:ad:=.seq (ax [dk 3 0] [0,3] On) Oo
def Ot:ad:=.seq (ax [aq 4 0,dp 5 45 4,b7 6 .gtr 3 5 60] [0,6] Oh) Oq
def c37:ad:=ax [cC 2 false] [0] Ot
theorem Ou:bR ⟨18,[0]⟩ (Tryz.f37.body.getD .skip)=some c37.strip:=by kernel_rfl
def Ov:ad:=ax [ro 2 (.df (.c (.str [48])))] [2] .ret
def Ow:ad:=.cond (.t 9) Ov .skip
def Ox:ad:=.cond (.t 13) .skip (.exit 0)
def Oy:ad:=.cB [aq 20 5,ro 21 (.un .neg (.t 20)),aS 5 21] (some [0,3,4,5])
def Oz:ad:=.cond (.t 19) Oy .skip
def Es:ad:=.cB [aq 22 3,aq 23 5,ro 24 (.bC .add 2 (.c (.int .i64 48)) (.t 23)),s3 25 2 5 24,q2 26 71 25,pB 27 71 71 22 26,aS 3 27] (some [0,3,4])
def OA:ad:=.seq (ax [aq 18 5,b7 19 .lss 2 18 0] [0,3,4,5,19] Oz) Es
def OB:ad:=.cB [aq 14 4,b7 15 .quo 2 14 10,aS 4 15] (some [0,3,4])
def OC:ad:=.seq (.block 1 (ax [aq 16 4,b7 17 .rem 2 16 10,aS 5 17] [0,3,4,5] OA)) OB
def Et:ad:=.seq (ax [aq 12 4,b7 13 .neq 2 12 0] [0,3,4,13] Ox) OC
def OD:ad:=.block 0 (.loop Et)
def OE:ad:=.cB [aq 30 3,ro 31 (.cF 71 1 [(0,(.c (.int .u8 45)))]),pB 32 71 71 30 31,aS 3 32] (some [3])
def OG:ad:=.cond (.t 29) OE .skip
def OH:ad:=.cond (.t 38) .skip (.exit 2)
def OI:ad:=.cB [aq 39 7,b7 40 .sub 3 39 1,aS 7 40] (some [3,6,7])
def OJ:ad:=.seq (.block 3 (.cB [aq 41 6,aq 42 3,aq 43 7,iB 44 71 42 43,ew 45 5 44,q2 46 71 45,pB 47 71 71 41 46,aS 6 47] (some [3,6,7]))) OI
def Eu:ad:=.seq (ax [aq 37 7,b7 38 .geq 3 37 0] [3,6,7,38] OH) OJ
def OK:ad:=.block 2 (.loop Eu)
def OL:ad:=ax [aq 48 6,s3 49 71 9 48,aS 2 49] [2] .ret
def OM:ad:=.seq (ax [aq 34 3,dp 35 71 34,b7 36 .sub 3 35 1,aS 7 36] [3,6,7] OK) OL
def Ev:ad:=ax [ro 33 (.cF 71 0 []),aS 6 33] [3,6] OM
def ON:ad:=.seq (ax [aq 28 0,b7 29 .lss 2 28 0] [3,29] OG) Ev
def OO:ad:=.seq (ax [aq 11 0,aS 4 11] [0,3,4] OD) ON
def OP:ad:=ax [ro 10 (.cF 71 0 []),aS 3 10] [0,3] OO
def OQ:ad:=.seq (ax [aq 8 0,b7 9 .eql 2 8 0] [0,9] Ow) OP
def c107:ad:=ax [ro 2 (.df (.c (.str [])))] [0] OQ
theorem OR:bR ⟨50,[0]⟩ (Tryz.f107.body.getD .skip)=some c107.strip:=by kernel_rfl
def OS:ad:=.cond (.t 10) .skip (.exit 0)
def OT:ad:=.cond (.t 21) .skip (.exit 2)
def OU:ad:=.cB [aq 28 1,b7 29 .and 2 28 65535,b7 30 .xor 2 29 4129,aS 1 30] (some [0,1,5,6])
def OV:ad:=.cond (.t 27) OU .skip
def OW:ad:=ax [aq 26 1,b7 27 .gtr 2 26 65535] [0,1,5,6,27] OV
def Ew:ad:=.cB [aq 22 6,b7 23 .add 3 22 1,aS 6 23] (some [0,1,5,6])
def OX:ad:=.seq (.block 3 (ax [aq 24 1,ro 25 (.bC .shl 2 (.t 24) (.c (.int .u64 1))),aS 1 25] [0,1,5,6] OW)) Ew
def Ex:ad:=.seq (ax [aq 20 6,b7 21 .lss 3 20 8] [0,1,5,6,21] OT) OX
def OY:ad:=.block 2 (.loop Ex)
def OZ:ad:=ax [dk 6 0] [0,1,5,6] OY
def O0:ad:=.cB [aq 11 5,b7 12 .add 3 11 1,aS 5 12] (some [0,1,5])
def O1:ad:=.seq (.block 1 (ax [aq 13 1,aq 14 0,aq 15 5,mu 16 9 14 15,s3 17 5 2 16,ro 18 (.bC .shl 2 (.t 17) (.c (.int .u64 8))),cR 19 .xor 2 13 18,aS 1 19] [0,1,5] OZ)) O0
def Ey:ad:=.seq (ax [aq 7 5,aq 8 0,dp 9 9 8,cR 10 .lss 3 7 9] [0,1,5,10] OS) O1
def O2:ad:=.block 0 (.loop Ey)
def O3:ad:=ax [aq 31 1,aS 4 31] [4] .ret
def O4:ad:=.seq (ax [dk 5 0] [0,1,5] O2) O3
def O5:ad:=ax [dk 4 0] [0,1] O4
theorem O6:bR ⟨32,[0]⟩ (Tryz.f108.body.getD .skip)=some O5.strip:=by kernel_rfl
def O7:ad:=ax [aq 36 6,ro 37 (.bC .add 9 (.t 36) (.c (.str [32]))),aq 38 7,eY 39 107 38,cR 40 .add 9 37 39,aq 41 7,aS 4 40,aS 5 41] [4,5] .ret
def O8:ad:=ax [aq 33 6,aq 34 1,fw 35 108 33 34,aS 7 35] [6,7] O7
def O9:ad:=vZ [aq 8 0,s0 9 8,fI 10 68 9 0,ew 11 2 10,eY 12 107 11,ro 13 (.bC .add 9 (.t 12) (.c (.str [32]))),aq 14 0,s0 15 14,fI 16 68 15 1,ew 17 2 16,eY 18 107 17,cR 19 .add 9 13 18,ro 20 (.bC .add 9 (.t 19) (.c (.str [32]))),aq 21 0,s0 22 21,fI 23 68 22 2,ew 24 2 23,eY 25 107 24,cR 26 .add 9 20 25,ro 27 (.bC .add 9 (.t 26) (.c (.str [32]))),aq 28 0,s0 29 28,fI 30 68 29 3,ew 31 9 30,cR 32 .add 9 27 31,aS 6 32] [[],[0],[1],[2],[3],[4],[],[6],[7],[8],[9,4],[5,10],[11],[],[13],[14],[15],[16,10],[12,17],[18],[],[20],[21],[22],[19,23],[24,17,0,1,2,3,4,5,6,7,8,9,10,11,12,13,14,15,16,17,18,19,20,21,22,23,24]] [1,6] O8
def c70:ad:=ax [ro 4 (.df (.c (.str []))),dk 5 0] [0,1] O9
theorem O_:bR ⟨42,[0,1]⟩ (Tryz.f70.body.getD .skip)=some c70.strip:=by kernel_rfl
def Pa:ad:=.cond (.t 11) .skip (.exit 0)
def Pb:ad:=.cB [aq 26 7,aS 4 26] (some [0,3,4,5])
def Pc:ad:=ax [aq 22 3,aq 23 6,ro 24 (.bC .add 9 (.t 23) (.c (.str [10]))),cR 25 .add 9 22 24,aS 3 25] [0,3,5,7] Pb
def Pd:ad:=.cB [aq 12 5,b7 13 .add 3 12 1,aS 5 13] (some [0,3,4,5])
def Pe:ad:=.seq (.block 1 (ax [aq 15 0,aq 16 5,iB 17 45 15 16,aq 18 4,fw 19 70 17 18,aq 14 19,gE 20 14 0,gE 21 14 1,aS 6 20,aS 7 21] [0,3,5,6,7] Pc)) Pd
def Ez:ad:=.seq (ax [aq 8 5,aq 9 0,dp 10 45 9,cR 11 .lss 3 8 10] [0,3,4,5,11] Pa) Pe
def Pf:ad:=.block 0 (.loop Ez)
def Pg:ad:=ax [aq 27 3,aS 2 27] [2] .ret
def Ph:ad:=.seq (ax [dk 5 0] [0,3,4,5] Pf) Pg
def Pj:ad:=ax [dk 4 65535] [0,3,4] Ph
def Pk:ad:=ax [ro 3 (.df (.c (.str [])))] [0,3] Pj
def Pl:ad:=ax [ro 2 (.df (.c (.str [])))] [0] Pk
theorem Pm:bR ⟨28,[0]⟩ (Tryz.f38.body.getD .skip)=some Pl.strip:=by kernel_rfl
def Pn:ad:=ax [ro 2 (.df (.c (.str [])))] [2] .ret
def Po:ad:=.cond (.t 5) Pn .skip
def Pp:ad:=ax [aq 6 0,eY 7 38 6,aS 2 7] [2] .ret
def Pq:ad:=.seq (ax [aq 3 0,eY 4 37 3,h1 5 4] [0,5] Po) Pp
def Pr:ad:=ax [ro 2 (.df (.c (.str [])))] [0] Pq
theorem Ps:bR ⟨8,[0]⟩ (Tryz.f18.body.getD .skip)=some Pr.strip:=by kernel_rfl
def Pt:ad:=ax [aq 7 0,aq 8 1,cR 9 .geq 2 7 8,aq 10 9,bY 11 10 (.cg (.t 0)),bY 12 10 (.cg (.t 2)),bY 13 10 (.bC .leq 2 (.t 11) (.t 12)),ro 14 (.pick (.t 10) (.t 13) (.c (.bool false))),aS 6 14] [6] .ret
def Pu:ad:=ax [cC 6 false] [0,1,2] Pt
theorem Pv:bR ⟨15,[0,1,2]⟩ (Tryz.f56.body.getD .skip)=some Pu.strip:=by kernel_rfl
def Pw:ad:=ax [aq 5 0,aq 6 1,fw 7 180 5 6,aS 4 7] [4] .ret
def Px:ad:=ax [dk 4 0] [0,1] Pw
theorem Py:bR ⟨8,[0,1]⟩ (Tryz.f170.body.getD .skip)=some Px.strip:=by kernel_rfl
def Pz:ad:=ax [dk 4 0] [4] .ret
def PA:ad:=ax [aq 27 0,aq 28 1,ro 29 (.idx 9 (.t 28) (.c (.int .i64 0))),fw 30 170 27 29,aS 4 30] [4] .ret
def PB:ad:=ax [dk 4 (-1)] [4] .ret
def PC:ad:=ax [aq 45 0,aq 46 1,fw 47 171 45 46,aS 4 47] [4] .ret
def PD:ad:=.cond (.t 36) PC .skip
def PE:ad:=ax [aq 37 5,ro 38 (.bad),cR 39 .leq 3 37 38,aq 40 39,bY 41 40 (.cg (.t 0)),bY 42 40 (.len 9 (.t 41)),bY 43 40 (.bC .leq 3 (.t 42) (.c (.int .i64 64))),ro 44 (.pick (.t 40) (.t 43) (.c (.bool false))),aS 36 44] [0,1,5,36] PD
def PF:ad:=.cond (.t 31) PB PE
def PG:ad:=ax [aq 32 5,aq 33 0,dp 34 9 33,cR 35 .geq 3 32 34,aS 31 35] [0,1,5,31] PF
def PH:ad:=.cond (.t 24) PA PG
def PI:ad:=ax [aq 25 5,b7 26 .eql 3 25 1,aS 24 26] [0,1,5,24] PH
def PJ:ad:=.cond (.t 16) Pz PI
def PK:ad:=.cond (.t 59) .skip (.exit 1)
def PL:ad:=ax [dk 4 (-1)] [4] .ret
def PM:ad:=.cond (.t 73) PL .skip
def PN:ad:=.cB [aq 74 8,aq 75 11,b7 76 .add 3 75 1,cR 77 .add 3 74 76,aS 8 77] (some [0,1,5,6,7,8,9,10])
def PO:ad:=.seq (ax [aq 72 11,b7 73 .lss 3 72 0] [0,1,5,6,7,8,9,10,11,73] PM) PN
def PQ:ad:=ax [aq 65 0,aq 66 8,b7 67 .add 3 66 1,aq 68 9,ro 69 (.cD 9 (.t 65) (some (.t 67)) (some (.t 68))),aq 70 6,fw 71 170 69 70,aS 11 71] [0,1,5,6,7,8,9,10,11] PO
def PR:ad:=.cond (.t 64) PQ .skip
def PS:ad:=ax [aq 94 8,aS 4 94] [4] .ret
def PT:ad:=.cond (.t 93) PS .skip
def PU:ad:=ax [aq 115 12,aq 116 8,cR 117 .add 3 115 116,aS 4 117] [4] .ret
def PV:ad:=.cond (.t 114) PU .skip
def PW:ad:=ax [dk 4 (-1)] [4] .ret
def PX:ad:=.seq (ax [aq 113 12,b7 114 .geq 3 113 0] [8,12,114] PV) PW
def PY:ad:=ax [aq 108 0,aq 109 8,ro 110 (.cD 9 (.t 108) (some (.t 109)) none),aq 111 1,fw 112 171 110 111,aS 12 112] [8,12] PX
def PZ:ad:=ax [dk 4 (-1)] [4] .ret
def P0:ad:=.cond (.t 139) PZ .skip
def P1:ad:=ax [aq 140 8,aq 141 13,cR 142 .add 3 140 141,aS 4 142] [4] .ret
def P2:ad:=.seq (ax [aq 138 13,b7 139 .lss 3 138 0] [8,13,139] P0) P1
def P3:ad:=ax [aq 133 0,aq 134 8,ro 135 (.cD 9 (.t 133) (some (.t 134)) none),aq 136 1,fw 137 173 135 136,aS 13 137] [8,13] P2
def P4:ad:=.cond (.t 132) P3 .skip
def P5:ad:=ax [aq 118 5,ro 119 (.bad),cR 120 .gtr 3 118 119,aq 121 120,bY 122 121 (.cg (.t 10)),bY 123 121 (.cg (.t 8)),bY 124 121 (.bC .shr 3 (.t 123) (.c (.int .u64 4))),bY 125 121 (.bC .add 3 (.c (.int .i64 4)) (.t 124)),bY 126 121 (.bC .geq 3 (.t 122) (.t 125)),ro 127 (.pick (.t 121) (.t 126) (.c (.bool false))),aq 128 127,bY 129 128 (.cg (.t 8)),bY 130 128 (.cg (.t 9)),bY 131 128 (.bC .lss 3 (.t 129) (.t 130)),ro 132 (.pick (.t 128) (.t 131) (.c (.bool false)))] [0,1,5,6,7,8,9,10,132] P4
def P6:ad:=.cond (.t 107) PY P5
def P7:ad:=ax [aq 99 5,ro 100 (.bad),cR 101 .leq 3 99 100,aq 102 101,bY 103 102 (.cg (.t 10)),bY 104 102 (.cg (.t 8)),⟨some 105,.call (.f 172) [(.t 104)],some (102,true)⟩,bY 106 102 (.bC .gtr 3 (.t 103) (.t 105)),ro 107 (.pick (.t 102) (.t 106) (.c (.bool false)))] [0,1,5,6,7,8,9,10,107] P6
def P8:ad:=ax [aq 97 10,b7 98 .add 3 97 1,aS 10 98] [0,1,5,6,7,8,9,10] P7
def P9:ad:=ax [aq 95 8,b7 96 .add 3 95 1,aS 8 96] [0,1,5,6,7,8,9,10] P8
def P_:ad:=.seq (ax [aq 78 0,aq 79 8,b7 80 .add 3 79 1,mu 81 9 78 80,aq 82 7,cR 83 .eql 5 81 82,aq 84 83,bY 85 84 (.cg (.t 0)),bY 86 84 (.cg (.t 8)),bY 87 84 (.cg (.t 8)),bY 88 84 (.cg (.t 5)),bY 89 84 (.bC .add 3 (.t 87) (.t 88)),bY 90 84 (.cD 9 (.t 85) (some (.t 86)) (some (.t 89))),bY 91 84 (.cg (.t 1)),bY 92 84 (.bC .eql 9 (.t 90) (.t 91)),ro 93 (.pick (.t 84) (.t 92) (.c (.bool false)))] [0,1,5,6,7,8,9,10,93] PT) P9
def Qa:ad:=.block 2 (.seq (ax [aq 60 0,aq 61 8,mu 62 9 60 61,aq 63 6,cR 64 .neq 5 62 63] [0,1,5,6,7,8,9,10,64] PR) P_)
def Qb:ad:=.seq (ax [aq 57 8,aq 58 9,cR 59 .lss 3 57 58] [0,1,5,6,7,8,9,10,59] PK) Qa
def Qc:ad:=ax [dk 4 (-1)] [4] .ret
def Qd:ad:=.seq (.block 1 (.loop Qb)) Qc
def Qe:ad:=ax [dk 10 0] [0,1,5,6,7,8,9,10] Qd
def Qf:ad:=ax [aq 52 0,dp 53 9 52,aq 54 5,cR 55 .sub 3 53 54,b7 56 .add 3 55 1,aS 9 56] [0,1,5,6,7,8,9] Qe
def Qg:ad:=ax [dk 8 0] [0,1,5,6,7,8] Qf
def Qh:ad:=ax [aq 50 1,ro 51 (.idx 9 (.t 50) (.c (.int .i64 1))),aS 7 51] [0,1,5,6,7] Qg
def Qi:ad:=ax [aq 48 1,ro 49 (.idx 9 (.t 48) (.c (.int .i64 0))),aS 6 49] [0,1,5,6] Qh
def Qj:ad:=.seq (.block 0 (ax [aq 17 5,b7 18 .eql 3 17 0,aq 19 18,eb 20 19 (.cg (.t 1)),eb 21 19 (.cg (.t 0)),eb 22 19 (.bC .eql 9 (.t 20) (.t 21)),ro 23 (.pick (.t 19) (.c (.bool true)) (.t 22)),aS 16 23] [0,1,5,16] PJ)) Qi
def Qk:ad:=ax [aq 14 1,dp 15 9 14,aS 5 15] [0,1,5] Qj
def Ql:ad:=ax [dk 4 0] [0,1] Qk
theorem Qm:bR ⟨143,[0,1]⟩ (Tryz.f161.body.getD .skip)=some Ql.strip:=by kernel_rfl
def Qn:ad:=vZ [aq 13 0,aq 14 7,ro 15 (.cD 9 (.t 13) none (some (.t 14))),aq 16 0,aq 17 7,aq 18 1,dp 19 9 18,cR 20 .add 3 17 19,ro 21 (.cD 9 (.t 16) (some (.t 20)) none),aS 4 15,aS 5 21,cC 6 true] [[],[],[0,1],[],[],[],[5],[4,6],[3,7],[2,0,1,2],[8,9,0,1,2,3,4,5,6,7,8,9],[10,0,1,2,3,4,5,6,7,8,9,10]] [4,5,6] .ret
def Qo:ad:=.cond (.t 12) Qn .skip
def Qp:ad:=ax [aq 11 7,b7 12 .geq 3 11 0] [0,1,7,12] Qo
def Qq:ad:=ax [aq 22 0,aS 4 22,ro 5 (.df (.c (.str []))),cC 6 false] [4,5,6] .ret
def Qr:ad:=.seq (ax [aq 8 0,aq 9 1,fw 10 161 8 9,aS 7 10] [0,1,7] Qp) Qq
def c152:ad:=ax [ro 4 (.df (.c (.str []))),ro 5 (.df (.c (.str []))),cC 6 false] [0,1] Qr
theorem Qs:bR ⟨23,[0,1]⟩ (Tryz.f152.body.getD .skip)=some c152.strip:=by kernel_rfl
def Qt:ad:=ax [aq 7 0,aq 8 1,fw 9 152 7 8,gE 10 9 0,gE 11 9 1,gE 12 9 2,aS 4 10,aS 5 11,aS 6 12] [4,5,6] .ret
def c143:ad:=ax [ro 4 (.df (.c (.str []))),ro 5 (.df (.c (.str []))),cC 6 false] [0,1] Qt
theorem Qu:bR ⟨13,[0,1]⟩ (Tryz.f143.body.getD .skip)=some c143.strip:=by kernel_rfl
def Qv:ad:=ax [aq 5 0,dp 6 9 5,aq 7 1,dp 8 9 7,cR 9 .geq 3 6 8,aq 10 9,bY 11 10 (.cg (.t 0)),bY 12 10 (.cg (.t 0)),bY 13 10 (.len 9 (.t 12)),bY 14 10 (.cg (.t 1)),bY 15 10 (.len 9 (.t 14)),bY 16 10 (.bC .sub 3 (.t 13) (.t 15)),bY 17 10 (.cD 9 (.t 11) (some (.t 16)) none),bY 18 10 (.cg (.t 1)),bY 19 10 (.bC .eql 9 (.t 17) (.t 18)),ro 20 (.pick (.t 10) (.t 19) (.c (.bool false))),aS 4 20] [4] .ret
def c167:ad:=ax [cC 4 false] [0,1] Qv
theorem Qw:bR ⟨21,[0,1]⟩ (Tryz.f167.body.getD .skip)=some c167.strip:=by kernel_rfl
def Qx:ad:=ax [aq 8 0,aq 9 0,dp 10 9 9,aq 11 1,dp 12 9 11,cR 13 .sub 3 10 12,ro 14 (.cD 9 (.t 8) none (some (.t 13))),aS 4 14] [4] .ret
def Qy:ad:=.cond (.t 7) Qx .skip
def Qz:ad:=ax [aq 15 0,aS 4 15] [4] .ret
def QA:ad:=.seq (ax [aq 5 0,aq 6 1,fw 7 167 5 6] [0,1,7] Qy) Qz
def QB:ad:=ax [ro 4 (.df (.c (.str [])))] [0,1] QA
theorem QC:bR ⟨16,[0,1]⟩ (Tryz.f155.body.getD .skip)=some QB.strip:=by kernel_rfl
def QD:ad:=ax [aq 5 0,aq 6 1,fw 7 155 5 6,aS 4 7] [4] .ret
def c146:ad:=ax [ro 4 (.df (.c (.str [])))] [0,1] QD
theorem QE:bR ⟨8,[0,1]⟩ (Tryz.f146.body.getD .skip)=some c146.strip:=by kernel_rfl
def QF:ad:=ax [aq 5 0,aq 6 1,fw 7 161 5 6,aS 4 7] [4] .ret
def QG:ad:=ax [dk 4 0] [0,1] QF
theorem QH:bR ⟨8,[0,1]⟩ (Tryz.f166.body.getD .skip)=some QG.strip:=by kernel_rfl
def QI:ad:=ax [aq 10 0,eY 11 177 10,b7 12 .add 3 11 1,aS 4 12] [4] .ret
def QJ:ad:=.cond (.t 9) QI .skip
def QK:ad:=ax [aq 16 0,aq 17 1,ro 18 (.idx 9 (.t 17) (.c (.int .i64 0))),fw 19 179 16 18,aS 4 19] [4] .ret
def QL:ad:=.cond (.t 15) QK .skip
def QM:ad:=ax [aq 25 5,aS 4 25] [4] .ret
def QN:ad:=.cond (.t 24) QM .skip
def QO:ad:=.cB [aq 28 0,aq 29 6,aq 30 1,dp 31 9 30,cR 32 .add 3 29 31,ro 33 (.cD 9 (.t 28) (some (.t 32)) none),aS 0 33] (some [0,1,5])
def QP:ad:=ax [aq 26 5,b7 27 .add 3 26 1,aS 5 27] [0,1,5,6] QO
def QQ:ad:=.seq (ax [aq 23 6,b7 24 .eql 3 23 (-1)] [0,1,5,6,24] QN) QP
def EA:ad:=.block 1 (ax [aq 20 0,aq 21 1,fw 22 166 20 21,aS 6 22] [0,1,5,6] QQ)
def QR:ad:=.block 0 (.loop EA)
def QS:ad:=ax [dk 5 0] [0,1,5] QR
def QT:ad:=.seq (ax [aq 13 1,dp 14 9 13,b7 15 .eql 3 14 1] [0,1,15] QL) QS
def QU:ad:=.seq (ax [aq 7 1,dp 8 9 7,b7 9 .eql 3 8 0] [0,1,9] QJ) QT
def QV:ad:=ax [dk 4 0] [0,1] QU
theorem QW:bR ⟨34,[1]⟩ (Tryz.f165.body.getD .skip)=some QV.strip:=by kernel_rfl
def QX:ad:=ax [jz 8] [8] .ret
def QY:ad:=.cond (.t 13) QX .skip
def QZ:ad:=ax [aq 16 0,aq 17 3,fw 18 164 16 17,aS 8 18] [8] .ret
def Q0:ad:=.cond (.t 15) QZ .skip
def Q1:ad:=.cB [aq 21 0,aq 22 1,fw 23 165 21 22,b7 24 .add 3 23 1,aS 3 24] (some [0,1,2,3])
def Q2:ad:=.cond (.t 20) Q1 .skip
def Q3:ad:=.cond (.t 36) .skip (.exit 0)
def Q4:ad:=.cond (.t 41) (.exit 0) .skip
def Q5:ad:=.cB [aq 56 10,b7 57 .add 3 56 1,aS 10 57] (some [0,1,2,3,9,10])
def Q6:ad:=ax [aq 50 0,aq 51 11,aq 52 1,dp 53 9 52,cR 54 .add 3 51 53,ro 55 (.cD 9 (.t 50) (some (.t 54)) none),aS 0 55] [0,1,2,3,9,10] Q5
def Q7:ad:=ax [aq 42 9,aq 43 10,aq 44 0,aq 45 11,aq 46 2,cR 47 .add 3 45 46,ro 48 (.cD 9 (.t 44) none (some (.t 47))),iB 49 138 42 43,mv 9 49 48] [0,1,2,3,9,10,11] Q6
def Q8:ad:=.seq (ax [aq 40 11,b7 41 .lss 3 40 0] [0,1,2,3,9,10,11,41] Q4) Q7
def Q9:ad:=.block 1 (ax [aq 37 0,aq 38 1,fw 39 166 37 38,aS 11 39] [0,1,2,3,9,10,11] Q8)
def EB:ad:=.seq (ax [aq 34 10,aq 35 3,cR 36 .lss 3 34 35] [0,1,2,3,9,10,36] Q3) Q9
def Q_:ad:=ax [aq 62 9,aq 63 10,b7 64 .add 3 63 1,ro 65 (.cD 138 (.t 62) none (some (.t 64))),aS 8 65] [8] .ret
def EC:ad:=ax [aq 58 9,aq 59 10,aq 60 0,iB 61 138 58 59,mv 9 61 60] [9,10] Q_
def Ra:ad:=.seq (.block 0 (.loop EB)) EC
def Rb:ad:=ax [dk 10 0] [0,1,2,3,9,10] Ra
def Rc:ad:=ax [aq 32 3,b7 33 .sub 3 32 1,aS 3 33] [0,1,2,3,9] Rb
def Rd:ad:=ax [aq 30 3,ro 31 (.en 138 (.t 30) (.t 30)),aS 9 31] [0,1,2,3,9] Rc
def ED:ad:=ax [aq 25 3,aq 26 0,dp 27 9 26,b7 28 .add 3 27 1,ro 29 (.fQ false (.t 25) (.t 28)),aS 3 29] [0,1,2,3] Rd
def Re:ad:=.seq (ax [aq 19 3,b7 20 .lss 3 19 0] [0,1,2,3,20] Q2) ED
def Rf:ad:=.seq (ax [aq 14 1,ro 15 (.bC .eql 9 (.t 14) (.c (.str [])))] [0,1,2,3,15] Q0) Re
def Rg:ad:=.seq (ax [aq 12 3,b7 13 .eql 3 12 0] [0,1,2,3,13] QY) Rf
def c154:ad:=ax [jz 8] [0,1,2,3] Rg
theorem Rh:bR ⟨66,[1,2]⟩ (Tryz.f154.body.getD .skip)=some c154.strip:=by kernel_rfl
def Ri:ad:=ax [aq 5 0,aq 6 1,ro 7 (.call (.f 154) [(.t 5),(.t 6),(.c (.int .i64 0)),(.c (.int .i64 (-1)))]),aS 4 7] [4] .ret
def c145:ad:=ax [jz 4] [0,1] Ri
theorem Rj:bR ⟨8,[0,1]⟩ (Tryz.f145.body.getD .skip)=some c145.strip:=by kernel_rfl
def Rk:ad:=ax [jz 2,cC 3 false] [2,3] .ret
def Rl:ad:=.cond (.t 21) Rk .skip
def Rm:ad:=.cB [aq 22 4,aq 23 7,q2 24 22 23,pB 25 22 22 22 24,aS 4 25] (some [4,9,10,11])
def Rn:ad:=.seq (ax [aq 20 8,h1 21 20] [4,7,9,10,11,21] Rl) Rm
def Ro:ad:=ax [aq 16 6,eY 17 153 16,aq 15 17,gE 18 15 0,gE 19 15 1,aS 7 18,aS 8 19] [4,7,8,9,10,11] Rn
def Rp:ad:=.cB [b7 26 .add 3 11 1,aq 11 26] (some [4,9,10,11])
def Rq:ad:=.seq (.block 1 (ax [iB 13 138 9 11,ew 14 9 13,aS 6 14] [4,6,9,10,11] Ro)) Rp
def Rr:ad:=.seq (.cond (.t 12) .skip (.exit 0)) Rq
def EE:ad:=ax [cR 12 .lss 3 11 10] [4,9,10,11,12] Rr
def Rs:ad:=.block 0 (.loop EE)
def Rt:ad:=ax [aq 27 4,aS 2 27,cC 3 true] [2,3] .ret
def Ru:ad:=.seq (ax [aq 9 0,dp 10 138 9,oq 11 0] [4,9,10,11] Rs) Rt
def Rv:ad:=ax [jz 4] [0,4] Ru
def Rw:ad:=ax [jz 2,cC 3 false] [0] Rv
theorem Rx:bR ⟨28,[0]⟩ (Tryz.f144.body.getD .skip)=some Rw.strip:=by kernel_rfl
def Ry:ad:=ax [aq 3 0,ro 4 (.bC .geq 5 (.t 3) (.c (.int .u8 48))),aq 5 4,bY 6 5 (.cg (.t 0)),bY 7 5 (.bC .leq 5 (.t 6) (.c (.int .u8 57))),ro 8 (.pick (.t 5) (.t 7) (.c (.bool false))),aS 2 8] [2] .ret
def Rz:ad:=ax [cC 2 false] [0] Ry
theorem RA:bR ⟨9,[0]⟩ (Tryz.f137.body.getD .skip)=some Rz.strip:=by kernel_rfl
def RB:ad:=ax [cC 2 false] [2] .ret
def RC:ad:=.cond (.t 32) RB .skip
def RD:ad:=ax [aq 20 4,h1 21 20,aq 22 21,bY 23 22 (.cg (.t 3)),bY 24 22 (.bC .eql 3 (.t 23) (.c (.int .i64 0))),bY 25 22 (.cg (.t 24)),eb 26 25 (.cg (.t 0)),eb 27 25 (.cg (.t 3)),eb 28 25 (.idx 9 (.t 26) (.t 27)),⟨some 29,.call (.f 137) [(.t 28)],some (25,false)⟩,eb 30 25 (.un .not (.t 29)),bY 31 22 (.pick (.t 25) (.c (.bool true)) (.t 30)),ro 32 (.pick (.t 22) (.t 31) (.c (.bool false)))] [0,6,7,32] RC
def RE:ad:=ax [aq 10 0,aq 11 3,mu 12 9 10 11,ro 13 (.bC .geq 5 (.t 12) (.c (.int .u8 97))),aq 14 13,bY 15 14 (.cg (.t 0)),bY 16 14 (.cg (.t 3)),bY 17 14 (.idx 9 (.t 15) (.t 16)),bY 18 14 (.bC .leq 5 (.t 17) (.c (.int .u8 122))),ro 19 (.pick (.t 14) (.t 18) (.c (.bool false))),aS 4 19] [0,3,4,6,7] RD
def RF:ad:=.cB [b7 33 .add 3 7 1,aq 7 33] (some [0,6,7])
def RG:ad:=.seq (.block 1 (ax [aq 9 7,aS 3 9] [0,3,6,7] RE)) RF
def RH:ad:=.seq (.cond (.t 8) .skip (.exit 0)) RG
def EF:ad:=ax [cR 8 .lss 3 7 6] [0,6,7,8] RH
def RI:ad:=.block 0 (.loop EF)
def RJ:ad:=ax [aq 34 0,dp 35 9 34,b7 36 .geq 3 35 1,aq 37 36,bY 38 37 (.cg (.t 0)),bY 39 37 (.len 9 (.t 38)),bY 40 37 (.bC .leq 3 (.t 39) (.c (.int .i64 10))),ro 41 (.pick (.t 37) (.t 40) (.c (.bool false))),aS 2 41] [2] .ret
def RK:ad:=.seq (ax [aq 5 0,dp 6 9 5,oq 7 0] [0,6,7] RI) RJ
def RL:ad:=ax [cC 2 false] [0] RK
theorem RM:bR ⟨42,[0]⟩ (Tryz.f120.body.getD .skip)=some RL.strip:=by kernel_rfl
def RN:ad:=ax [aq 3 0,eY 4 120 3,aq 5 4,bY 6 5 (.cg (.t 0)),⟨some 7,.bC .neq 9 (.t 6) (.c (.str [116,97,117])),some (5,true)⟩,ro 8 (.pick (.t 5) (.t 7) (.c (.bool false))),aS 2 8] [2] .ret
def RO:ad:=ax [cC 2 false] [0] RN
theorem RP:bR ⟨9,[0]⟩ (Tryz.f89.body.getD .skip)=some RO.strip:=by kernel_rfl
def RQ:ad:=ax [aq 3 0,ro 4 (.call (.f 56) [(.t 3),(.c (.int .i64 0)),(.c (.int .i64 63))]),aS 2 4] [2] .ret
def RR:ad:=ax [cC 2 false] [0] RQ
theorem RS:bR ⟨5,[0]⟩ (Tryz.f96.body.getD .skip)=some RR.strip:=by kernel_rfl
def RT:ad:=ax [aq 3 0,eY 4 96 3,h1 5 4,aS 2 5] [2] .ret
def RU:ad:=ax [cC 2 false] [0] RT
theorem RV:bR ⟨6,[0]⟩ (Tryz.f95.body.getD .skip)=some RU.strip:=by kernel_rfl
def RW:ad:=ax [aq 17 5,aS 4 17] [4] .ret
def RX:ad:=.cond (.t 16) RW .skip
def RY:ad:=ax [aq 11 1,aq 12 0,aq 13 5,iB 14 22 12 13,ew 15 2 14,ro 16 (.call (.t 11) [(.t 15)])] [0,1,5,7,8,16] RX
def RZ:ad:=.cB [b7 18 .add 3 8 1,aq 8 18] (some [0,1,7,8])
def R0:ad:=.seq (.block 1 (ax [aq 10 8,aS 5 10] [0,1,5,7,8] RY)) RZ
def R1:ad:=.seq (.cond (.t 9) .skip (.exit 0)) R0
def EG:ad:=ax [cR 9 .lss 3 8 7] [0,1,7,8,9] R1
def R2:ad:=.block 0 (.loop EG)
def R3:ad:=ax [dk 4 (-1)] [4] .ret
def R4:ad:=.seq (ax [aq 6 0,dp 7 22 6,oq 8 0] [0,1,7,8] R2) R3
def R5:ad:=ax [dk 4 0] [0,1] R4
theorem R6:bR ⟨19,[0,1]⟩ (Tryz.f125.body.getD .skip)=some R5.strip:=by kernel_rfl
def R7:ad:=ax [aq 5 0,aq 6 1,fw 7 125 5 6,b7 8 .geq 3 7 0,aS 4 8] [4] .ret
def R8:ad:=ax [cC 4 false] [0,1] R7
theorem R9:bR ⟨9,[0,1]⟩ (Tryz.f94.body.getD .skip)=some R8.strip:=by kernel_rfl
def R_:ad:=ax [aq 3 0,ro 4 (.call (.f 94) [(.t 3),(.f 95)]),h1 5 4,aS 2 5] [2] .ret
def Sa:ad:=ax [cC 2 false] [0] R_
theorem Sb:bR ⟨6,[0]⟩ (Tryz.f60.body.getD .skip)=some Sa.strip:=by kernel_rfl
def Sc:ad:=ax [aq 3 0,ro 4 (.call (.f 111) [(.t 3),(.c (.int .i64 10))]),aS 2 4] [2] .ret
def c75:ad:=ax [ro 2 (.df (.c (.str [])))] [0] Sc
theorem Sd:bR ⟨5,[0]⟩ (Tryz.f75.body.getD .skip)=some c75.strip:=by kernel_rfl
def Se:ad:=.cB [aq 18 5,aq 19 6,aq 20 7,eY 21 75 20,iB 22 138 18 19,mv 9 22 21] (some [1,5,11,12,13])
def Sf:ad:=.cB [b7 23 .add 3 13 1,aq 13 23] (some [1,5,11,12,13])
def Sg:ad:=.seq (.block 1 (ax [aq 15 13,iB 16 22 11 13,ew 17 2 16,aS 6 15,aS 7 17] [1,5,6,7,11,12,13] Se)) Sf
def Sh:ad:=.seq (.cond (.t 14) .skip (.exit 0)) Sg
def EH:ad:=ax [cR 14 .lss 3 13 12] [1,5,11,12,13,14] Sh
def Si:ad:=.block 0 (.loop EH)
def Sj:ad:=ax [aq 24 5,aq 25 1,fw 26 103 24 25,aS 4 26] [4] .ret
def Sk:ad:=.seq (ax [aq 11 0,dp 12 22 11,oq 13 0] [1,5,11,12,13] Si) Sj
def Sl:ad:=ax [aq 8 0,dp 9 22 8,ro 10 (.en 138 (.t 9) (.t 9)),aS 5 10] [0,1,5] Sk
def Sm:ad:=ax [ro 4 (.df (.c (.str [])))] [0,1] Sl
theorem So:bR ⟨27,[0,1]⟩ (Tryz.f65.body.getD .skip)=some Sm.strip:=by kernel_rfl
def Sp:ad:=ax [aq 9 1,dp 10 22 9,b7 11 .eql 3 10 0,ro 4 (.df (.c (.str [116,97,117]))),aS 5 11] [4,5] .ret
def Sq:ad:=ax [ro 4 (.df (.c (.str []))),cC 5 false] [4,5] .ret
def Sr:ad:=ax [aq 30 0,aS 4 30,cC 5 true] [4,5] .ret
def Ss:ad:=.cond (.t 26) Sr .skip
def St:ad:=ax [aq 27 1,dp 28 22 27,b7 29 .eql 3 28 0,aS 26 29] [0,1,26] Ss
def Su:ad:=.cond (.t 12) Sq St
def Sv:ad:=ax [aq 13 0,eY 14 89 13,h1 15 14,aq 16 15,eb 17 16 (.cg (.t 1)),eb 18 16 (.len 22 (.t 17)),eb 19 16 (.bC .gtr 3 (.t 18) (.c (.int .i64 2))),ro 20 (.pick (.t 16) (.c (.bool true)) (.t 19)),aq 21 20,eb 22 21 (.cg (.t 1)),⟨some 23,.call (.f 60) [(.t 22)],some (21,false)⟩,eb 24 21 (.un .not (.t 23)),ro 25 (.pick (.t 21) (.c (.bool true)) (.t 24)),aS 12 25] [0,1,12] Su
def Sw:ad:=.cond (.t 6) Sp Sv
def Sy:ad:=ax [aq 31 0,ro 32 (.bC .add 9 (.t 31) (.c (.str [40]))),aq 33 1,ro 34 (.call (.f 65) [(.t 33),(.c (.str [44]))]),cR 35 .add 9 32 34,ro 36 (.bC .add 9 (.t 35) (.c (.str [41]))),aS 4 36,cC 5 true] [4,5] .ret
def Sz:ad:=.seq (.block 0 (ax [aq 7 0,ro 8 (.bC .eql 9 (.t 7) (.c (.str [116,97,117]))),aS 6 8] [0,1,6] Sw)) Sy
def SA:ad:=ax [ro 4 (.df (.c (.str []))),cC 5 false] [0,1] Sz
theorem SB:bR ⟨37,[0,1]⟩ (Tryz.f63.body.getD .skip)=some SA.strip:=by kernel_rfl
def SC:ad:=ax [ro 2 (.df (.c (.str []))),jz 3,cC 4 false] [2,3,4] .ret
def SD:ad:=.cond (.t 27) SC .skip
def SE:ad:=ax [aq 26 9,h1 27 26] [0,5,8,27] SD
def SF:ad:=ax [aq 20 6,ro 21 (.call (.f 146) [(.t 20),(.c (.str [41]))]),ro 22 (.call (.f 145) [(.t 21),(.c (.str [44]))]),eY 23 144 22,aq 19 23,gE 24 19 0,gE 25 19 1,aS 8 24,aS 9 25] [0,5,8,9] SE
def SG:ad:=ax [cC 9 false] [0,5,6] SF
def SH:ad:=.cond (.t 18) SG .skip
def SI:ad:=ax [ro 2 (.df (.c (.str []))),jz 3,cC 4 false] [2,3,4] .ret
def SJ:ad:=.cond (.t 40) SI .skip
def SK:ad:=ax [aq 34 11,h1 35 34,aq 36 35,eb 37 36 (.cg (.t 10)),eb 38 36 (.cg (.t 0)),eb 39 36 (.bC .neq 9 (.t 37) (.t 38)),ro 40 (.pick (.t 36) (.c (.bool true)) (.t 39))] [5,8,40] SJ
def SL:ad:=ax [aq 41 5,aq 42 8,aS 2 41,aS 3 42,cC 4 true] [2,3,4] .ret
def EI:ad:=.seq (ax [aq 29 5,aq 30 8,fw 31 63 29 30,aq 28 31,gE 32 28 0,gE 33 28 1,aS 10 32,aS 11 33] [0,5,8,10,11] SK) SL
def SM:ad:=.seq (ax [aq 18 7] [0,5,6,8,18] SH) EI
def SN:ad:=ax [jz 8] [0,5,6,7,8] SM
def SO:ad:=ax [aq 13 0,ro 14 (.call (.f 143) [(.t 13),(.c (.str [40]))]),aq 12 14,gE 15 12 0,gE 16 12 1,gE 17 12 2,aS 5 15,aS 6 16,aS 7 17] [0,5,6,7] SN
def SP:ad:=ax [ro 2 (.df (.c (.str []))),jz 3,cC 4 false] [0] SO
theorem SQ:bR ⟨43,[0]⟩ (Tryz.f133.body.getD .skip)=some SP.strip:=by kernel_rfl
def SR:ad:=ax [aq 12 5,aS 2 12] [2] .ret
def SS:ad:=ax [aq 7 0,eY 8 133 7,aq 6 8,gE 9 6 0,gE 10 6 1,gE 11 6 2,aS 3 9,aS 4 10,aS 5 11] [5] SR
def SU:ad:=ax [cC 2 false] [0] SS
theorem SV:bR ⟨13,[0]⟩ (Tryz.f110.body.getD .skip)=some SU.strip:=by kernel_rfl
def SW:ad:=ax [fI 3 68 1 0,ew 4 2 3,ro 5 (.call (.f 56) [(.t 4),(.c (.int .i64 0)),(.c (.int .i64 199))]),aq 6 5,bY 7 6 (.dX 68 (.t 1) 1),bY 8 6 (.c7 2 (.t 7)),⟨some 9,.call (.f 56) [(.t 8),(.c (.int .i64 0)),(.c (.int .i64 2))],some (6,true)⟩,ro 10 (.pick (.t 6) (.t 9) (.c (.bool false))),aq 11 10,bY 12 11 (.dX 68 (.t 1) 2),bY 13 11 (.c7 2 (.t 12)),⟨some 14,.call (.f 56) [(.t 13),(.c (.int .i64 (-1))),(.c (.int .i64 2))],some (11,true)⟩,ro 15 (.pick (.t 11) (.t 14) (.c (.bool false))),aq 16 15,bY 17 16 (.dX 68 (.t 1) 3),bY 18 16 (.c7 9 (.t 17)),⟨some 19,.call (.f 110) [(.t 18)],some (16,true)⟩,ro 20 (.pick (.t 16) (.t 19) (.c (.bool false))),aS 2 20] [2] .ret
def SX:ad:=ax [ro 1 (.dB 68 (.t 0)),cC 2 false] [1] SW
theorem SY:bR ⟨21,[0]⟩ (Tryz.f73.body.getD .skip)=some SX.strip:=by kernel_rfl
def SZ:ad:=ax [ew 3 68 1,eY 4 73 3,h1 5 4,aS 2 5] [2] .ret
def c72:ad:=ax [ro 1 (.dB 68 (.t 0)),cC 2 false] [1] SZ
theorem S0:bR ⟨6,[0]⟩ (Tryz.f72.body.getD .skip)=some c72.strip:=by kernel_rfl
def S1:ad:=ax [aq 17 5,aS 4 17] [4] .ret
def S2:ad:=.cond (.t 16) S1 .skip
def S3:ad:=ax [aq 11 1,aq 12 0,aq 13 5,iB 14 45 12 13,ew 15 68 14,ro 16 (.call (.t 11) [(.t 15)])] [0,1,5,7,8,16] S2
def S4:ad:=.cB [b7 18 .add 3 8 1,aq 8 18] (some [0,1,7,8])
def S5:ad:=.seq (.block 1 (ax [aq 10 8,aS 5 10] [0,1,5,7,8] S3)) S4
def S6:ad:=.seq (.cond (.t 9) .skip (.exit 0)) S5
def EJ:ad:=ax [cR 9 .lss 3 8 7] [0,1,7,8,9] S6
def S7:ad:=.block 0 (.loop EJ)
def S8:ad:=ax [dk 4 (-1)] [4] .ret
def S9:ad:=.seq (ax [aq 6 0,dp 7 45 6,oq 8 0] [0,1,7,8] S7) S8
def c109:ad:=ax [dk 4 0] [0,1] S9
theorem S_:bR ⟨19,[0,1]⟩ (Tryz.f109.body.getD .skip)=some c109.strip:=by kernel_rfl
def Ta:ad:=ax [aq 5 0,aq 6 1,fw 7 109 5 6,b7 8 .geq 3 7 0,aS 4 8] [4] .ret
def Tb:ad:=ax [cC 4 false] [0,1] Ta
theorem Tc:bR ⟨9,[0,1]⟩ (Tryz.f71.body.getD .skip)=some Tb.strip:=by kernel_rfl
def Td:ad:=ax [aq 3 0,dp 4 45 3,b7 5 .leq 3 4 60,aq 6 5,bY 7 6 (.cg (.t 0)),⟨some 8,.call (.f 71) [(.t 7),(.f 72)],some (6,true)⟩,bY 9 6 (.un .not (.t 8)),ro 10 (.pick (.t 6) (.t 9) (.c (.bool false))),aS 2 10] [2] .ret
def c40:ad:=ax [cC 2 false] [0] Td
theorem Te:bR ⟨11,[0]⟩ (Tryz.f40.body.getD .skip)=some c40.strip:=by kernel_rfl
def Tf:ad:=ax [dk 4 0] [4] .ret
def Tg:ad:=.cond (.t 9) Tf .skip
def Th:ad:=.cB [aq 29 5,b7 30 .and 2 29 65535,b7 31 .xor 2 30 4129,aS 5 31] (some [0,5,12,13,23])
def Ti:ad:=.cond (.t 28) Th .skip
def Tj:ad:=ax [aq 27 5,b7 28 .gtr 2 27 65535] [0,5,12,13,23,28] Ti
def EK:ad:=.cB [b7 32 .add 3 23 1,aq 23 32] (some [0,5,12,13,23])
def Tk:ad:=.seq (.block 3 (ax [aq 25 5,b7 26 .mul 2 25 2,aS 5 26] [0,5,12,13,23] Tj)) EK
def Tl:ad:=.seq (.cond (.t 24) .skip (.exit 2)) Tk
def EL:ad:=ax [b7 24 .lss 3 23 8] [0,5,12,13,23,24] Tl
def Tm:ad:=.block 2 (.loop EL)
def Tn:ad:=ax [oq 23 0] [0,5,12,13,23] Tm
def To:ad:=ax [aq 16 5,aq 17 0,aq 18 6,mu 19 9 17 18,s3 20 5 2 19,b7 21 .mul 2 20 256,cR 22 .xor 2 16 21,aS 5 22] [0,5,12,13] Tn
def Tp:ad:=.cB [b7 33 .add 3 13 1,aq 13 33] (some [0,5,12,13])
def Tq:ad:=.seq (.block 1 (ax [aq 15 13,aS 6 15] [0,5,6,12,13] To)) Tp
def Tr:ad:=.seq (.cond (.t 14) .skip (.exit 0)) Tq
def EM:ad:=ax [cR 14 .lss 3 13 12] [0,5,12,13,14] Tr
def Ts:ad:=.block 0 (.loop EM)
def Tt:ad:=ax [aq 34 5,aS 4 34] [4] .ret
def Tu:ad:=.seq (ax [aq 11 0,dp 12 9 11,oq 13 0] [0,5,12,13] Ts) Tt
def Tv:ad:=ax [aq 10 1,aS 5 10] [0,5] Tu
def Tw:ad:=.seq (ax [aq 7 1,ro 8 (.call (.f 56) [(.t 7),(.c (.int .i64 0)),(.c (.int .i64 65535))]),h1 9 8] [0,1,9] Tg) Tv
def Tx:ad:=ax [dk 4 0] [0,1] Tw
theorem Ty:bR ⟨35,[0,1]⟩ (Tryz.f74.body.getD .skip)=some Tx.strip:=by kernel_rfl
def Tz:ad:=ax [aq 22 6,ro 23 (.bC .add 9 (.t 22) (.c (.str [32]))),aq 24 1,eY 25 75 24,cR 26 .add 9 23 25,ro 27 (.bC .add 9 (.t 26) (.c (.str [10]))),aq 28 1,aS 4 27,aS 5 28] [4,5] .ret
def TA:ad:=ax [aq 19 6,aq 20 1,fw 21 74 19 20,aS 1 21] [1,6] Tz
def TB:ad:=vZ [fI 7 68 2 0,ew 8 2 7,fI 9 68 2 1,ew 10 2 9,fI 11 68 2 2,ew 12 2 11,ro 13 (.cF 22 3 [(0,(.t 8)),(1,(.t 10)),(2,(.t 12))]),ro 14 (.call (.f 65) [(.t 13),(.c (.str [32]))]),ro 15 (.bC .add 9 (.t 14) (.c (.str [32]))),fI 16 68 2 3,ew 17 9 16,cR 18 .add 9 15 17,aS 6 18] [[],[0],[],[2],[],[4],[1,3,5],[6],[7],[],[9],[8,10],[11,7,0,1,2,3,4,5,6,7,8,9,10,11]] [1,6] TA
def TC:ad:=ax [ro 2 (.dB 68 (.t 0)),ro 4 (.df (.c (.str []))),dk 5 0] [1,2] TB
theorem TD:bR ⟨29,[0]⟩ (Tryz.f41.body.getD .skip)=some TC.strip:=by kernel_rfl
def TE:ad:=ax [ro 2 (.df (.c (.str [])))] [2] .ret
def TF:ad:=.cond (.t 10) TE .skip
def TG:ad:=.cB [aq 23 7,fw 24 42 3 23] (some [3,4,11,12,13])
def TH:ad:=ax [ew 18 68 6,aq 19 4,fw 20 41 18 19,aq 17 20,gE 21 17 0,gE 22 17 1,aS 7 21,aS 4 22] [3,4,7,11,12,13] TG
def TI:ad:=ax [ro 7 (.df (.c (.str [])))] [3,4,6,11,12,13] TH
def TJ:ad:=.cB [b7 25 .add 3 13 1,aq 13 25] (some [3,4,11,12,13])
def TK:ad:=.seq (.block 1 (ax [iB 15 45 11 13,ew 16 68 15,u4 6 68,mv 68 6 16] [3,4,6,11,12,13] TI)) TJ
def TL:ad:=.seq (.cond (.t 14) .skip (.exit 0)) TK
def EN:ad:=ax [cR 14 .lss 3 13 12] [3,4,11,12,13,14] TL
def TM:ad:=.block 0 (.loop EN)
def TN:ad:=ax [eY 26 43 3,aS 2 26] [2] .ret
def TO:ad:=.seq (ax [aq 11 0,dp 12 45 11,oq 13 0] [3,4,11,12,13] TM) TN
def TP:ad:=ax [dk 4 65535] [0,3,4] TO
def TQ:ad:=ax [u4 3 73] [0,3] TP
def TR:ad:=.seq (ax [aq 8 0,eY 9 40 8,h1 10 9] [0,10] TF) TQ
def c20:ad:=ax [ro 2 (.df (.c (.str [])))] [0] TR
theorem TS:bR ⟨27,[0]⟩ (Tryz.f20.body.getD .skip)=some c20.strip:=by kernel_rfl
def TT:ad:=ax [cC 4 false] [4] .ret
def TU:ad:=.cond (.t 9) TT .skip
def TV:ad:=ax [cC 4 false] [4] .ret
def TW:ad:=.cond (.t 14) TV .skip
def TX:ad:=ax [cC 4 false] [4] .ret
def TY:ad:=.cond (.t 19) TX .skip
def TZ:ad:=ax [cC 4 false] [4] .ret
def T0:ad:=.cond (.t 24) TZ .skip
def T1:ad:=ax [cC 4 true] [4] .ret
def T2:ad:=.seq (ax [fI 20 68 2 3,ew 21 9 20,fI 22 68 3 3,ew 23 9 22,cR 24 .neq 9 21 23] [24] T0) T1
def T3:ad:=.seq (ax [fI 15 68 2 2,ew 16 2 15,fI 17 68 3 2,ew 18 2 17,cR 19 .neq 2 16 18] [2,3,19] TY) T2
def T4:ad:=.seq (ax [fI 10 68 2 1,ew 11 2 10,fI 12 68 3 1,ew 13 2 12,cR 14 .neq 2 11 13] [2,3,14] TW) T3
def T5:ad:=.seq (ax [fI 5 68 2 0,ew 6 2 5,fI 7 68 3 0,ew 8 2 7,cR 9 .neq 2 6 8] [2,3,9] TU) T4
def T6:ad:=ax [ro 2 (.dB 68 (.t 0)),ro 3 (.dB 68 (.t 1)),cC 4 false] [2,3] T5
theorem T7:bR ⟨25,[0,1]⟩ (Tryz.f44.body.getD .skip)=some T6.strip:=by kernel_rfl
def T8:ad:=ax [cC 4 false] [4] .ret
def T9:ad:=.cond (.t 10) T8 .skip
def T_:ad:=.cond (.t 14) .skip (.exit 0)
def Ua:ad:=ax [cC 4 false] [4] .ret
def Ub:ad:=.cond (.t 26) Ua .skip
def Uc:ad:=.cB [aq 15 5,b7 16 .add 3 15 1,aS 5 16] (some [0,1,5])
def Ud:ad:=.seq (.block 1 (vZ [aq 17 0,aq 18 5,iB 19 45 17 18,ew 20 68 19,aq 21 1,aq 22 5,iB 23 45 21 22,ew 24 68 23,fw 25 44 20 24,h1 26 25] [[],[],[0,1],[2],[],[],[4,5],[6],[3,7],[8]] [0,1,5,26] Ub)) Uc
def EO:ad:=.seq (ax [aq 11 5,aq 12 0,dp 13 45 12,cR 14 .lss 3 11 13] [0,1,5,14] T_) Ud
def Ue:ad:=.block 0 (.loop EO)
def Uf:ad:=ax [cC 4 true] [4] .ret
def Ug:ad:=.seq (ax [dk 5 0] [0,1,5] Ue) Uf
def Uh:ad:=.seq (ax [aq 6 0,dp 7 45 6,aq 8 1,dp 9 45 8,cR 10 .neq 3 7 9] [0,1,10] T9) Ug
def c21:ad:=ax [cC 4 false] [0,1] Uh
theorem Ui:bR ⟨27,[0,1]⟩ (Tryz.f21.body.getD .skip)=some c21.strip:=by kernel_rfl
def Uj:ad:=ax [cC 2 true] [2] .ret
def Uk:ad:=.cond (.t 11) Uj .skip
def Ul:ad:=ax [cC 2 false] [2] .ret
def Um:ad:=.cond (.t 21) Ul .skip
def Un:ad:=ax [cC 2 false] [2] .ret
def Uo:ad:=.cond (.t 26) Un .skip
def Up:ad:=ax [cC 2 true] [2] .ret
def Uq:ad:=.seq (ax [aq 22 5,aq 23 0,eY 24 19 23,fw 25 21 22 24,h1 26 25] [26] Uo) Up
def Ur:ad:=.seq (ax [aq 19 6,aq 20 4,cR 21 .neq 9 19 20] [0,5,21] Um) Uq
def Us:ad:=ax [aq 17 5,eY 18 20 17,aS 6 18] [0,4,5,6] Ur
def Ut:ad:=ax [aq 15 0,eY 16 19 15,aS 5 16] [0,4,5] Us
def Uu:ad:=ax [aq 12 0,eY 13 19 12,eY 14 18 13,aS 4 14] [0,4] Ut
def Uv:ad:=.seq (ax [aq 10 3,b7 11 .lss 3 10 0] [0,11] Uk) Uu
def Uw:ad:=ax [aq 7 0,aq 8 3,fw 9 17 7 8,aS 3 9] [0,3] Uv
def Ux:ad:=ax [dk 3 1048576] [0,3] Uw
def c4:ad:=ax [cC 2 false] [0] Ux
theorem hV:bR ⟨27,[0]⟩ (Tryz.f4.body.getD .skip)=some c4.strip:=by kernel_rfl
def YM:=PLift.up (And.intro @Bool.not_true @Bool.not_false)
def gg:=PLift.up (And.intro @List.length_append.{0} (And.intro @List.length_cons.{0} (And.intro @List.length_nil.{0} (And.intro @List.length_map.{0,0} (And.intro @List.length_replicate.{0} (And.intro @Nat.zero_add @Nat.add_zero))))))
end Go.Proofs.YtikimdcnadipbaaGreatDoor
