/- Part of a proof that a law returns true for every input. No condition. -/
import Derived.Test.YtipllbfpaepajaaGreatDoorTb
import Derived.Test.YtipllbfpaepajaaGreatDoorFwL
import Derived.Test.YtipllbfpaepajaaGreatDoorP6
namespace Go.Proofs.YtipllbfpaepajaaGreatDoor
open Go Go.ca Go.ff
set_option linter.unusedSimpArgs false
def aL (x:List UInt8):I:=.str x
theorem jk (x:List UInt8):(aL x).share=aL x:=by
 simp only[aL,fI]
theorem z_ (x:List UInt8):(aL x).di=true:=by
 simp only[aL,I.di,I.ku,Bool.and_self]
def a7 (x:Int):I:=.int .i64 x
theorem qv (x:Int):(a7 x).share=a7 x:=by
 simp only[a7,fI]
theorem MS (x:Int):(a7 x).di=true:=by
 simp only[a7,I.di,I.ku,Bool.and_self]
def au (r:List br) (k:List Nat) (c:aa):aa:=.seq (.b9 r (some k)) c
def nr (r:List br) (a:List (List Nat)) (k:List Nat) (c:aa):aa:=.seq (.ja r a (some k)) c
abbrev b4 (d t:Nat) (o:ej):br:=⟨some d,o,some (t,true)⟩
abbrev cN (d t:Nat) (o:ej):br:=⟨some d,o,some (t,false)⟩
abbrev abP (n:Nat) (k:List Nat) (f:Func) (c:aa):Prop:=bS ⟨n,k⟩ (f.body.getD .skip)=some c.strip
def MT:aa:=au [cc 4 (-1)] [4] .ret
def MU:aa:=.cond (.t 11) MT .skip
def MV:aa:=.cond (.t 15) .skip (.exit 0)
def MW:aa:=au [cc 4 (-1)] [4] .ret
def MX:aa:=.cond (.t 26) MW .skip
def MY:aa:=au [af 25 1,bI 26 .lss 3 25 0] [0,1,5,26] MX
def MZ:aa:=.b9 [af 16 5,bI 17 .add 3 16 1,aM 5 17] (some [0,1,5])
def M0:aa:=.seq (.block 1 (au [af 18 1,af 19 0,af 20 5,gi 21 22 19 20,dp 22 9 21,cS 23 9 22,cM 24 .sub 3 18 23,aM 1 24] [0,1,5] MY)) MZ
def E5:aa:=.seq (au [af 12 5,af 13 0,cS 14 22 13,cM 15 .lss 3 12 14] [0,1,5,15] MV) M0
def M1:aa:=.block 0 (.loop E5)
def M3:aa:=au [af 27 1,aM 4 27] [4] .ret
def M4:aa:=.seq (au [cc 5 0] [0,1,5] M1) M3
def M5:aa:=.seq (au [af 10 1,bI 11 .lss 3 10 0] [0,1,11] MU) M4
def M6:aa:=au [af 6 1,af 7 0,cS 8 22 7,cM 9 .sub 3 6 8,aM 1 9] [0,1] M5
def c9:aa:=au [cc 4 0] [0,1] M6
theorem M7:bS ⟨28,[0]⟩ (Tryz.f9.body.getD .skip)=some c9.strip:=by kernel_rfl
def M8:aa:=.cond (.t 11) .skip (.exit 0)
def M9:aa:=.b9 [af 12 4,bI 13 .add 3 12 1,aM 4 13] (some [0,3,4])
def M_:aa:=.seq (.block 1 (.b9 [af 14 3,af 15 4,af 16 0,af 17 4,gi 18 22 16 17,dp 19 9 18,gi 20 22 14 15,jg 9 20 19] (some [0,3,4]))) M9
def E6:aa:=.seq (au [af 8 4,af 9 0,cS 10 22 9,cM 11 .lss 3 8 10] [0,3,4,11] M8) M_
def Na:aa:=.block 0 (.loop E6)
def Nb:aa:=au [af 21 3,aM 2 21] [2] .ret
def Nc:aa:=.seq (au [cc 4 0] [0,3,4] Na) Nb
def Nd:aa:=au [af 5 0,cS 6 22 5,ro 7 (.er 22 (.t 6) (.t 6)),aM 3 7] [0,3] Nc
def Nf:aa:=au [hq 2] [0] Nd
theorem Ng:bS ⟨22,[0]⟩ (Tryz.f11.body.getD .skip)=some Nf.strip:=by kernel_rfl
def Nh:aa:=.cond (.t 11) .skip (.exit 0)
def Ni:aa:=.b9 [af 12 4,bI 13 .add 3 12 1,aM 4 13] (some [0,3,4])
def Nj:aa:=.seq (.block 1 (.b9 [af 14 3,af 15 4,af 16 0,af 17 4,gi 18 23 16 17,dp 19 2 18,gi 20 23 14 15,jg 2 20 19] (some [0,3,4]))) Ni
def E7:aa:=.seq (au [af 8 4,af 9 0,cS 10 23 9,cM 11 .lss 3 8 10] [0,3,4,11] Nh) Nj
def Nk:aa:=.block 0 (.loop E7)
def Nl:aa:=au [af 21 3,aM 2 21] [2] .ret
def Nn:aa:=.seq (au [cc 4 0] [0,3,4] Nk) Nl
def Np:aa:=au [af 5 0,cS 6 23 5,ro 7 (.er 23 (.t 6) (.t 6)),aM 3 7] [0,3] Nn
def c12:aa:=au [hq 2] [0] Np
theorem Nq:bS ⟨22,[0]⟩ (Tryz.f12.body.getD .skip)=some c12.strip:=by kernel_rfl
def Nr:aa:=.cond (.t 7) .skip (.exit 0)
def Ns:aa:=au [af 14 3,aM 2 14] [2] .ret
def Nt:aa:=.cond (.t 13) Ns .skip
def Nu:aa:=.b9 [af 8 3,bI 9 .add 3 8 1,aM 3 9] (some [0,3])
def Nv:aa:=.seq (.block 1 (au [af 10 0,af 11 3,o2 12 9 10 11,ro 13 (.bB .eql 5 (.t 12) (.c (.int .u8 40)))] [0,3,13] Nt)) Nu
def E8:aa:=.seq (au [af 4 3,af 5 0,cS 6 9 5,cM 7 .lss 3 4 6] [0,3,7] Nr) Nv
def Nw:aa:=.block 0 (.loop E8)
def Nx:aa:=au [af 15 0,cS 16 9 15,aM 2 16] [2] .ret
def Ny:aa:=.seq (au [cc 3 0] [0,3] Nw) Nx
def Nz:aa:=au [cc 2 0] [0] Ny
theorem NA:bS ⟨17,[0]⟩ (Tryz.f176.body.getD .skip)=some Nz.strip:=by kernel_rfl
def NB:aa:=au [af 3 0,ro 4 (.bB .geq 5 (.t 3) (.c (.int .u8 97))),af 5 4,b4 6 5 (.bZ (.t 0)),b4 7 5 (.bB .leq 5 (.t 6) (.c (.int .u8 122))),ro 8 (.pick (.t 5) (.t 7) (.c (.bool false))),aM 2 8] [2] .ret
def c143:aa:=au [cC 2 false] [0] NB
theorem NC:bS ⟨9,[0]⟩ (Tryz.f143.body.getD .skip)=some c143.strip:=by kernel_rfl
def ND:aa:=au [af 3 0,ro 4 (.bB .geq 5 (.t 3) (.c (.int .u8 48))),af 5 4,b4 6 5 (.bZ (.t 0)),b4 7 5 (.bB .leq 5 (.t 6) (.c (.int .u8 57))),ro 8 (.pick (.t 5) (.t 7) (.c (.bool false))),aM 2 8] [2] .ret
def NF:aa:=au [cC 2 false] [0] ND
theorem NG:bS ⟨9,[0]⟩ (Tryz.f144.body.getD .skip)=some NF.strip:=by kernel_rfl
def NH:aa:=au [cC 2 false] [2] .ret
def NI:aa:=.cond (.t 16) NH .skip
def NJ:aa:=.cond (.t 20) .skip (.exit 0)
def NK:aa:=au [cC 2 false] [2] .ret
def NL:aa:=.cond (.t 34) NK .skip
def NM:aa:=.b9 [af 21 3,bI 22 .add 3 21 1,aM 3 22] (some [0,3])
def NN:aa:=.seq (.block 1 (au [af 23 0,af 24 3,o2 25 9 23 24,fS 26 143 25,hW 27 26,af 28 27,b4 29 28 (.bZ (.t 0)),b4 30 28 (.bZ (.t 3)),b4 31 28 (.idx 9 (.t 29) (.t 30)),⟨some 32,.call (.f 144) [(.t 31)],some (28,true)⟩,b4 33 28 (.un .not (.t 32)),ro 34 (.pick (.t 28) (.t 33) (.c (.bool false)))] [0,3,34] NL)) NM
def E9:aa:=.seq (au [af 17 3,af 18 0,cS 19 9 18,cM 20 .lss 3 17 19] [0,3,20] NJ) NN
def NO:aa:=.block 0 (.loop E9)
def NP:aa:=au [cC 2 true] [2] .ret
def NQ:aa:=.seq (au [cc 3 0] [0,3] NO) NP
def NR:aa:=.seq (au [af 4 0,ro 5 (.bB .eql 9 (.t 4) (.c (.str []))),af 6 5,cN 7 6 (.bZ (.t 0)),cN 8 6 (.len 9 (.t 7)),cN 9 6 (.bB .gtr 3 (.t 8) (.c (.int .i64 10))),ro 10 (.pick (.t 6) (.c (.bool true)) (.t 9)),af 11 10,cN 12 11 (.bZ (.t 0)),cN 13 11 (.idx 9 (.t 12) (.c (.int .i64 0))),⟨some 14,.call (.f 143) [(.t 13)],some (11,false)⟩,cN 15 11 (.un .not (.t 14)),ro 16 (.pick (.t 11) (.c (.bool true)) (.t 15))] [0,16] NI) NQ
def NS:aa:=au [cC 2 false] [0] NR
theorem NT:bS ⟨35,[0]⟩ (Tryz.f94.body.getD .skip)=some NS.strip:=by kernel_rfl
def NU:aa:=au [af 3 0,fS 4 94 3,af 5 4,b4 6 5 (.bZ (.t 0)),⟨some 7,.bB .neq 9 (.t 6) (.c (.str [116,97,117])),some (5,true)⟩,ro 8 (.pick (.t 5) (.t 7) (.c (.bool false))),aM 2 8] [2] .ret
def NV:aa:=au [cC 2 false] [0] NU
theorem NW:bS ⟨9,[0]⟩ (Tryz.f177.body.getD .skip)=some NV.strip:=by kernel_rfl
def NX:aa:=.cond (.t 12) .skip (.exit 0)
def NY:aa:=.b9 [af 27 7,bI 28 .add 3 27 1,aM 6 28] (some [0,1,5,6,7])
def NZ:aa:=au [af 20 5,af 21 0,af 22 6,af 23 7,ro 24 (.cF 9 (.t 21) (some (.t 22)) (some (.t 23))),tL 25 22 24,rQ 26 22 22 20 25,aM 5 26] [0,1,5,7] NY
def N0:aa:=.cond (.t 19) NZ .skip
def E_:aa:=.b9 [af 13 7,bI 14 .add 3 13 1,aM 7 14] (some [0,1,5,6,7])
def N1:aa:=.seq (.block 1 (au [af 15 0,af 16 7,o2 17 9 15 16,af 18 1,cM 19 .eql 5 17 18] [0,1,5,6,7,19] N0)) E_
def Fa:aa:=.seq (au [af 9 7,af 10 0,cS 11 9 10,cM 12 .lss 3 9 11] [0,1,5,6,7,12] NX) N1
def N2:aa:=.block 0 (.loop Fa)
def N3:aa:=au [af 29 5,af 30 0,af 31 6,ro 32 (.cF 9 (.t 30) (some (.t 31)) none),tL 33 22 32,rQ 34 22 22 29 33,aM 4 34] [4] .ret
def N4:aa:=.seq (au [cc 7 0] [0,1,5,6,7] N2) N3
def N5:aa:=au [cc 6 0] [0,1,5,6] N4
def N6:aa:=au [ro 8 (.cX 22 0 []),aM 5 8] [0,1,5] N5
def N7:aa:=au [hq 4] [0,1] N6
theorem N8:bS ⟨35,[0,1]⟩ (Tryz.f129.body.getD .skip)=some N7.strip:=by kernel_rfl
def N9:aa:=.b9 [cc 4 1] (some [0,4])
def N_:aa:=.cond (.t 14) N9 .skip
def Oa:aa:=au [cc 2 0,cC 3 false] [2,3] .ret
def Ob:aa:=.cond (.t 36) Oa .skip
def Oc:aa:=.cond (.t 41) .skip (.exit 0)
def Od:aa:=au [cc 2 0,cC 3 false] [2,3] .ret
def Oe:aa:=.cond (.t 48) Od .skip
def Of:aa:=.b9 [af 49 5,ro 50 (.bB .mul 2 (.c (.int .i64 10)) (.t 49)),af 51 0,af 52 6,o2 53 9 51 52,ro 54 (.bB .sub 5 (.t 53) (.c (.int .u8 48))),zJ 55 5 2 54,cM 56 .add 2 50 55,aM 5 56] (some [0,4,5,6])
def Og:aa:=.b9 [af 42 6,bI 43 .add 3 42 1,aM 6 43] (some [0,4,5,6])
def Oh:aa:=.seq (.block 1 (.seq (au [af 44 0,af 45 6,o2 46 9 44 45,fS 47 144 46,hW 48 47] [0,4,5,6,48] Oe) Of)) Og
def Aa:aa:=.seq (au [af 38 6,af 39 0,cS 40 9 39,cM 41 .lss 3 38 40] [0,4,5,6,41] Oc) Oh
def Oi:aa:=.block 0 (.loop Aa)
def Oj:aa:=.b9 [af 59 5,ro 60 (.un .neg (.t 59)),aM 5 60] (some [5])
def Ok:aa:=.cond (.t 58) Oj .skip
def Ab:aa:=au [af 61 5,aM 2 61,cC 3 true] [2,3] .ret
def Ol:aa:=.seq (au [af 57 4,bI 58 .eql 3 57 1] [5,58] Ok) Ab
def Om:aa:=.seq (au [af 37 4,aM 6 37] [0,4,5,6] Oi) Ol
def On:aa:=au [cc 5 0] [0,4,5] Om
def Fb:aa:=.seq (au [af 15 0,cS 16 9 15,af 17 4,cM 18 .eql 3 16 17,af 19 18,cN 20 19 (.bZ (.t 0)),cN 21 19 (.len 9 (.t 20)),cN 22 19 (.bZ (.t 4)),cN 23 19 (.bB .sub 3 (.t 21) (.t 22)),cN 24 19 (.bB .gtr 3 (.t 23) (.c (.int .i64 18))),ro 25 (.pick (.t 19) (.c (.bool true)) (.t 24)),af 26 25,cN 27 26 (.bZ (.t 0)),cN 28 26 (.bZ (.t 4)),cN 29 26 (.idx 9 (.t 27) (.t 28)),cN 30 26 (.bB .eql 5 (.t 29) (.c (.int .u8 48))),cN 31 26 (.bZ (.t 30)),b4 32 31 (.bZ (.t 0)),b4 33 31 (.len 9 (.t 32)),b4 34 31 (.bB .gtr 3 (.t 33) (.c (.int .i64 1))),cN 35 26 (.pick (.t 31) (.t 34) (.c (.bool false))),ro 36 (.pick (.t 26) (.c (.bool true)) (.t 35))] [0,4,36] Ob) On
def Oo:aa:=.seq (au [af 7 0,cS 8 9 7,bI 9 .gtr 3 8 0,af 10 9,b4 11 10 (.bZ (.t 0)),b4 12 10 (.idx 9 (.t 11) (.c (.int .i64 0))),b4 13 10 (.bB .eql 5 (.t 12) (.c (.int .u8 45))),ro 14 (.pick (.t 10) (.t 13) (.c (.bool false)))] [0,4,14] N_) Fb
def Oq:aa:=au [cc 4 0] [0,4] Oo
def c130:aa:=au [cc 2 0,cC 3 false] [0] Oq
theorem Ot:bS ⟨62,[0]⟩ (Tryz.f130.body.getD .skip)=some c130.strip:=by kernel_rfl
def Ou:aa:=au [af 7 0,af 8 1,cM 9 .geq 2 7 8,af 10 9,b4 11 10 (.bZ (.t 0)),b4 12 10 (.bZ (.t 2)),b4 13 10 (.bB .leq 2 (.t 11) (.t 12)),ro 14 (.pick (.t 10) (.t 13) (.c (.bool false))),aM 6 14] [6] .ret
def Ov:aa:=au [cC 6 false] [0,1,2] Ou
theorem Ow:bS ⟨15,[0,1,2]⟩ (Tryz.f81.body.getD .skip)=some Ov.strip:=by kernel_rfl
def Ox:aa:=au [ro 16 (.cX 23 0 []),af 17 0,fS 18 94 17,aM 2 16,aM 3 18] [2,3] .ret
def Oy:aa:=.cond (.t 15) Ox .skip
def Oz:aa:=au [hq 2,cC 3 false] [2,3] .ret
def OA:aa:=.cond (.t 31) Oz .skip
def OB:aa:=.cond (.t 44) .skip (.exit 0)
def OC:aa:=au [hq 2,cC 3 false] [2,3] .ret
def OD:aa:=.cond (.t 61) OC .skip
def OE:aa:=.b9 [af 62 6,af 63 8,tL 64 23 63,rQ 65 23 23 62 64,aM 6 65] (some [5,6,7])
def OG:aa:=.seq (au [af 55 9,hW 56 55,af 57 56,cN 58 57 (.bZ (.t 8)),⟨some 59,.call (.f 81) [(.t 58),(.c (.int .i64 0)),(.c (.int .i64 63))],some (57,false)⟩,cN 60 57 (.un .not (.t 59)),ro 61 (.pick (.t 57) (.c (.bool true)) (.t 60))] [5,6,7,8,61] OD) OE
def OH:aa:=.b9 [af 45 7,bI 46 .add 3 45 1,aM 7 46] (some [5,6,7])
def OI:aa:=.seq (.block 1 (au [af 48 5,af 49 7,gi 50 22 48 49,dp 51 9 50,fS 52 130 51,af 47 52,fo 53 47 0,fo 54 47 1,aM 8 53,aM 9 54] [5,6,7,8,9] OG)) OH
def Fe:aa:=.seq (au [af 41 7,af 42 5,cS 43 22 42,cM 44 .lss 3 41 43] [5,6,7,44] OB) OI
def OJ:aa:=.block 0 (.loop Fe)
def OK:aa:=au [af 66 6,af 67 6,cS 68 23 67,bI 69 .leq 3 68 2,aM 2 66,aM 3 69] [2,3] .ret
def OL:aa:=.seq (au [cc 7 0] [5,6,7] OJ) OK
def OM:aa:=au [ro 40 (.cX 23 0 []),aM 6 40] [5,6] OL
def ON:aa:=au [af 32 0,af 33 4,bI 34 .add 3 33 1,af 35 0,cS 36 9 35,bI 37 .sub 3 36 1,ro 38 (.cF 9 (.t 32) (some (.t 34)) (some (.t 37))),ro 39 (.call (.f 129) [(.t 38),(.c (.int .u8 44))]),aM 5 39] [5] OM
def OO:aa:=.seq (au [af 19 0,af 20 4,ro 21 (.cF 9 (.t 19) none (some (.t 20))),fS 22 177 21,hW 23 22,af 24 23,cN 25 24 (.bZ (.t 0)),cN 26 24 (.bZ (.t 0)),cN 27 24 (.len 9 (.t 26)),cN 28 24 (.bB .sub 3 (.t 27) (.c (.int .i64 1))),cN 29 24 (.idx 9 (.t 25) (.t 28)),cN 30 24 (.bB .neq 5 (.t 29) (.c (.int .u8 41))),ro 31 (.pick (.t 24) (.c (.bool true)) (.t 30))] [0,4,31] OA) ON
def OP:aa:=.seq (au [af 12 4,af 13 0,cS 14 9 13,cM 15 .eql 3 12 14] [0,4,15] Oy) OO
def OQ:aa:=au [af 10 0,fS 11 176 10,aM 4 11] [0,4] OP
def OR:aa:=au [hq 2,cC 3 false] [0] OQ
theorem OS:bS ⟨70,[0]⟩ (Tryz.f120.body.getD .skip)=some OR.strip:=by kernel_rfl
def OT:aa:=au [af 10 4,aM 2 10] [2] .ret
def OU:aa:=au [af 6 0,fS 7 120 6,af 5 7,fo 8 5 0,fo 9 5 1,aM 3 8,aM 4 9] [4] OT
def c80:aa:=au [cC 2 false] [0] OU
theorem OV:bS ⟨11,[0]⟩ (Tryz.f80.body.getD .skip)=some c80.strip:=by kernel_rfl
def OW:aa:=au [cc 4 2] [4] .ret
def OX:aa:=.cond (.t 9) OW .skip
def OY:aa:=.cond (.t 13) .skip (.exit 0)
def OZ:aa:=au [cc 4 2] [4] .ret
def O0:aa:=.cond (.t 21) OZ .skip
def O1:aa:=.b9 [af 14 5,bI 15 .add 3 14 1,aM 5 15] (some [0,1,5])
def O2:aa:=.seq (.block 1 (au [af 16 0,af 17 5,gi 18 22 16 17,dp 19 9 18,fS 20 80 19,hW 21 20] [0,1,5,21] O0)) O1
def Ff:aa:=.seq (au [af 10 5,af 11 0,cS 12 22 11,cM 13 .lss 3 10 12] [0,1,5,13] OY) O2
def O3:aa:=.block 0 (.loop Ff)
def O4:aa:=au [cc 4 7] [4] .ret
def O5:aa:=.cond (.t 24) O4 .skip
def O6:aa:=.cond (.t 28) .skip (.exit 2)
def O7:aa:=au [cc 4 7] [4] .ret
def O8:aa:=.cond (.t 36) O7 .skip
def O9:aa:=.b9 [af 29 6,bI 30 .add 3 29 1,aM 6 30] (some [1,6])
def O_:aa:=.seq (.block 3 (au [af 31 1,af 32 6,gi 33 23 31 32,dp 34 2 33,ro 35 (.call (.f 81) [(.t 34),(.c (.int .i64 0)),(.c (.int .i64 3))]),hW 36 35] [1,6,36] O8)) O9
def Fg:aa:=.seq (au [af 25 6,af 26 1,cS 27 23 26,cM 28 .lss 3 25 27] [1,6,28] O6) O_
def Pa:aa:=.block 2 (.loop Fg)
def Pb:aa:=au [cc 4 0] [4] .ret
def Pc:aa:=.seq (au [cc 6 0] [1,6] Pa) Pb
def Pd:aa:=.seq (au [af 22 1,cS 23 23 22,bI 24 .gtr 3 23 200] [1,24] O5) Pc
def Pe:aa:=.seq (au [cc 5 0] [0,1,5] O3) Pd
def Pf:aa:=.seq (au [af 7 0,cS 8 22 7,bI 9 .gtr 3 8 60] [0,1,9] OX) Pe
def c49:aa:=au [cc 4 0] [0,1] Pf
theorem Pg:bS ⟨37,[0,1]⟩ (Tryz.f49.body.getD .skip)=some c49.strip:=by kernel_rfl
def Ph:aa:=au [af 8 0,aM 4 8] [4] .ret
def Pj:aa:=.cond (.t 7) Ph .skip
def Pk:aa:=au [af 9 1,aM 4 9] [4] .ret
def Pl:aa:=.seq (au [af 5 0,af 6 1,cM 7 .gtr 2 5 6] [0,1,7] Pj) Pk
def Pm:aa:=au [cc 4 0] [0,1] Pl
theorem Pn:bS ⟨10,[0,1]⟩ (Tryz.f121.body.getD .skip)=some Pm.strip:=by kernel_rfl
def Po:aa:=.b9 [af 10 0,dE 11 10,dD 12 94 11 2,dp 13 2 12,bI 14 .add 2 13 1,dE 15 10,dD 16 94 15 2,jg 2 16 14] (some [0])
def Pp:aa:=.cond (.t 9) Po .skip
def Fh:aa:=.b9 [af 17 0,af 18 0,dE 19 18,dD 20 94 19 2,dp 21 2 20,dE 22 17,dD 23 94 22 5,jg 2 23 21] (some [0])
def Pq:aa:=.seq (au [af 4 1,af 5 0,dE 6 5,dD 7 94 6 2,dp 8 2 7,cM 9 .eql 2 4 8] [0,9] Pp) Fh
theorem Pr:bS ⟨24,[0,1]⟩ (Tryz.f122.body.getD .skip)=some Pq.strip:=by kernel_rfl
def Ps:aa:=.b9 [af 28 0,af 29 0,dE 30 29,dD 31 94 30 1,dp 32 2 31,af 33 6,dr 34 121 32 33,dE 35 28,dD 36 94 35 1,jg 2 36 34] (some [0,1,2,7])
def Pt:aa:=.cond (.t 27) Ps .skip
def Pu:aa:=.b9 [af 39 0,af 40 7,dr 41 122 39 40] (some [0,1,2])
def Pv:aa:=.cond (.t 38) Pu .skip
def Pw:aa:=.b9 [af 54 0,af 55 0,dE 56 55,dD 57 94 56 1,dp 58 2 57,dr 59 122 54 58] (some [0,2])
def Px:aa:=.b9 [af 69 0,af 70 8,dr 71 122 69 70] (some [0,2])
def Py:aa:=au [af 66 0,af 67 8,dr 68 122 66 67] [0,2,8] Px
def Pz:aa:=au [af 62 0,dE 63 62,dD 64 94 63 1,dp 65 2 64,aM 8 65] [0,2,8] Py
def PA:aa:=.b9 [af 74 0,af 75 0,dE 76 75,dD 77 94 76 1,dp 78 2 77,dE 79 74,dD 80 94 79 3,jg 2 80 78] (some [0,2])
def PB:aa:=.cond (.t 72) PA .skip
def PC:aa:=au [bI 73 .eql 2 51 3,aM 72 73] [0,2,72] PB
def PD:aa:=.cond (.t 60) Pz PC
def PE:aa:=au [bI 61 .eql 2 51 2,aM 60 61] [0,2,51,60] PD
def PF:aa:=.cond (.t 52) Pw PE
def PG:aa:=.block 0 (au [bI 53 .eql 2 51 0,aM 52 53] [0,2,51,52] PF)
def PH:aa:=au [af 51 1] [0,2,51] PG
def PI:aa:=.cond (.t 50) PH .skip
def PJ:aa:=.cond (.t 85) .ret .skip
def PK:aa:=.b9 [bI 89 .eql 2 86 2,aM 87 89] (some [0,86,87])
def PL:aa:=.cond (.t 87) .skip PK
def PM:aa:=.ja [af 90 0,af 91 0,dE 92 91,dD 93 94 92 1,dp 94 2 93,af 95 0,dE 96 95,dD 97 94 96 5,dp 98 2 97,dr 99 121 94 98,dE 100 90,dD 101 94 100 1,jg 2 101 99] [[],[],[1],[2],[3],[],[5],[6],[7],[4,8],[0,0,1,2,3,4,5,6,7,8,9],[10,0,1,2,3,4,5,6,7,8,9],[11,9,9,0,1,2,3,4,5,6,7,8,9]] (some [0])
def PN:aa:=.b9 [af 104 0,af 105 0,dE 106 105,dD 107 94 106 5,dp 108 2 107,dE 109 104,dD 110 94 109 4,jg 2 110 108] (some [0])
def PO:aa:=.cond (.t 102) PN .skip
def PQ:aa:=au [bI 103 .eql 2 86 3,aM 102 103] [0,102] PO
def Fi:aa:=.cond (.t 87) PM PQ
def PR:aa:=.block 1 (.seq (au [bI 88 .eql 2 86 0,aM 87 88] [0,86,87] PL) Fi)
def PS:aa:=au [af 86 2] [0,86] PR
def Fj:aa:=.seq (au [af 81 0,dE 82 81,dD 83 94 82 5,dp 84 2 83,bI 85 .lss 2 84 0] [0,2,85] PJ) PS
def Fk:aa:=.seq (nr [af 42 0,dE 43 42,dD 44 94 43 1,dp 45 2 44,af 46 0,dE 47 46,dD 48 94 47 0,dp 49 2 48,cM 50 .lss 2 45 49] [[],[0],[1],[2],[],[4],[5],[6],[3,7]] [0,1,2,50] PI) Fj
def Fl:aa:=.seq (au [af 37 7,bI 38 .geq 2 37 0] [0,1,2,7,38] Pv) Fk
def PT:aa:=.seq (au [af 26 6,bI 27 .geq 2 26 0] [0,1,2,6,7,27] Pt) Fl
def PU:aa:=au [af 23 0,dE 24 23,dD 25 94 24 5,⟨none,.eh 2 (.t 25) (.c (.int .i64 (-1))),none⟩] [0,1,2,6,7] PT
def PV:aa:=au [af 20 0,dE 21 20,dD 22 94 21 3,⟨none,.eh 2 (.t 22) (.c (.int .i64 (-1))),none⟩] [0,1,2,6,7] PU
def PW:aa:=au [af 17 0,dE 18 17,dD 19 94 18 4,⟨none,.eh 2 (.t 19) (.c (.int .i64 (-1))),none⟩] [0,1,2,6,7] PV
def PX:aa:=au [af 13 0,dE 14 13,dD 15 94 14 3,dp 16 2 15,aM 7 16] [0,1,2,6,7] PW
def PY:aa:=au [af 9 0,dE 10 9,dD 11 94 10 4,dp 12 2 11,aM 6 12] [0,1,2,6] PX
theorem PZ:bS ⟨111,[0,1,2]⟩ (Tryz.f82.body.getD .skip)=some PY.strip:=by kernel_rfl
def P0:aa:=.b9 [cc 7 0] (some [0,1,6,7])
def P1:aa:=.cond (.t 13) P0 .skip
def P2:aa:=.cond (.t 19) .skip (.exit 0)
def P3:aa:=.cond (.t 41) (.exit 0) .skip
def P4:aa:=.b9 [af 65 8,bI 66 .add 2 65 1,aM 7 66] (some [0,1,6,7,8])
def P5:aa:=.cond (.t 64) P4 .skip
def P6:aa:=au [af 55 7,bI 56 .lss 2 55 0,af 57 56,b4 58 57 (.bZ (.t 6)),b4 59 57 (.ew (.t 58)),b4 60 57 (.ev 94 (.t 59) 1),b4 61 57 (.dh 2 (.t 60)),b4 62 57 (.bZ (.t 0)),b4 63 57 (.bB .eql 2 (.t 61) (.t 62)),ro 64 (.pick (.t 57) (.t 63) (.c (.bool false)))] [0,1,6,7,8,64] P5
def P7:aa:=nr [af 42 6,af 43 1,af 44 8,ro 45 (.bB .mul 3 (.c (.int .i64 2)) (.t 44)),gi 46 23 43 45,dp 47 2 46,af 48 1,af 49 8,ro 50 (.bB .mul 3 (.c (.int .i64 2)) (.t 49)),bI 51 .add 3 50 1,gi 52 23 48 51,dp 53 2 52,EW 54 82 42 47 53] [[],[],[],[2],[1,3],[4],[],[],[7],[8],[6,9],[10],[0,5,11]] [0,1,6,7,8] P6
def Fm:aa:=.b9 [af 20 8,bI 21 .add 3 20 1,aM 8 21] (some [0,1,6,7,8])
def P8:aa:=.seq (.block 1 (.seq (au [af 22 6,dE 23 22,dD 24 94 23 1,dp 25 2 24,af 26 0,cM 27 .eql 2 25 26,af 28 27,b4 29 28 (.bZ (.t 6)),b4 30 28 (.ew (.t 29)),b4 31 28 (.ev 94 (.t 30) 3),b4 32 28 (.dh 2 (.t 31)),b4 33 28 (.bB .lss 2 (.t 32) (.c (.int .i64 0))),ro 34 (.pick (.t 28) (.t 33) (.c (.bool false))),af 35 34,b4 36 35 (.bZ (.t 6)),b4 37 35 (.ew (.t 36)),b4 38 35 (.ev 94 (.t 37) 4),b4 39 35 (.dh 2 (.t 38)),b4 40 35 (.bB .lss 2 (.t 39) (.c (.int .i64 0))),ro 41 (.pick (.t 35) (.t 40) (.c (.bool false)))] [0,1,6,7,8,41] P3) P7)) Fm
def Fo:aa:=.seq (au [af 14 8,ro 15 (.bB .mul 3 (.c (.int .i64 2)) (.t 14)),bI 16 .add 3 15 1,af 17 1,cS 18 23 17,cM 19 .lss 3 16 18] [0,1,6,7,8,19] P2) P8
def P9:aa:=.block 0 (.loop Fo)
def Fp:aa:=au [af 67 6,af 68 7,aM 4 67,aM 5 68] [4,5] .ret
def Fq:aa:=.seq (au [cc 8 0] [0,1,6,7,8] P9) Fp
def P_:aa:=.seq (au [af 12 0,bI 13 .eql 2 12 0] [0,1,6,7,13] P1) Fq
def Qa:aa:=au [cc 7 (-1)] [0,1,6,7] P_
def Qb:aa:=au [af 9 0,ro 10 (.dR 94 [(0,(.t 9)),(3,(.c (.int .i64 (-1)))),(4,(.c (.int .i64 (-1)))),(5,(.c (.int .i64 (-1))))]),ro 11 (.ep 94 (.t 10)),aM 6 11] [0,1,6] Qa
def Qc:aa:=au [ro 4 (.dM (.c .ct)),cc 5 0] [0,1] Qb
theorem Qd:bS ⟨69,[0,1]⟩ (Tryz.f50.body.getD .skip)=some Qc.strip:=by kernel_rfl
def Qe:aa:=au [af 15 7,hq 4,cc 5 0,aM 6 15] [4,5,6] .ret
def Qf:aa:=.cond (.t 14) Qe .skip
def Qg:aa:=nr [ro 23 (.cX 22 0 []),af 24 0,af 25 8,dE 26 25,dD 27 94 26 2,dp 28 2 27,ro 29 (.cF 22 (.t 24) none (some (.t 28))),rQ 30 22 22 23 29,af 31 8,dE 32 31,dD 33 94 32 1,dp 34 2 33,aM 4 30,aM 5 34,cc 6 0] [[],[],[],[2],[3],[4],[1,5],[0,6],[],[8],[9],[10],[7,7,0,1,2,3,4,5,6,7],[11,12,0,1,2,3,4,5,6,7,8,9,10,11,12],[13,0,1,2,3,4,5,6,7,8,9,10,11,12,13]] [4,5,6] .ret
def Qh:aa:=au [af 17 0,cS 18 22 17,af 19 1,dr 20 50 18 19,af 16 20,fo 21 16 0,fo 22 16 1,aM 8 21,aM 9 22] [0,8] Qg
def Qi:aa:=.seq (au [af 13 7,bI 14 .neq 2 13 0] [0,1,7,14] Qf) Qh
def Qj:aa:=au [af 10 0,af 11 1,dr 12 49 10 11,aM 7 12] [0,1,7] Qi
def Qk:aa:=au [hq 4,cc 5 0,cc 6 0] [0,1] Qj
theorem Ql:bS ⟨35,[0,1]⟩ (Tryz.f23.body.getD .skip)=some Qk.strip:=by kernel_rfl
def Qm:aa:=au [af 5 0,af 6 1,dr 7 220 5 6,aM 4 7] [4] .ret
def Qn:aa:=au [cc 4 0] [0,1] Qm
theorem Qo:bS ⟨8,[0,1]⟩ (Tryz.f181.body.getD .skip)=some Qn.strip:=by kernel_rfl
def Qp:aa:=au [cc 4 0] [4] .ret
def Qq:aa:=au [af 27 0,af 28 1,ro 29 (.idx 9 (.t 28) (.c (.int .i64 0))),dr 30 181 27 29,aM 4 30] [4] .ret
def Qr:aa:=au [cc 4 (-1)] [4] .ret
def Qs:aa:=au [af 45 0,af 46 1,dr 47 272 45 46,aM 4 47] [4] .ret
def Qt:aa:=.cond (.t 36) Qs .skip
def Qu:aa:=au [af 37 5,ro 38 (.bad),cM 39 .leq 3 37 38,af 40 39,b4 41 40 (.bZ (.t 0)),b4 42 40 (.len 9 (.t 41)),b4 43 40 (.bB .leq 3 (.t 42) (.c (.int .i64 64))),ro 44 (.pick (.t 40) (.t 43) (.c (.bool false))),aM 36 44] [0,1,5,36] Qt
def Qv:aa:=.cond (.t 31) Qr Qu
def Qw:aa:=au [af 32 5,af 33 0,cS 34 9 33,cM 35 .geq 3 32 34,aM 31 35] [0,1,5,31] Qv
def Qx:aa:=.cond (.t 24) Qq Qw
def Qy:aa:=au [af 25 5,bI 26 .eql 3 25 1,aM 24 26] [0,1,5,24] Qx
def Qz:aa:=.cond (.t 16) Qp Qy
def QA:aa:=.cond (.t 59) .skip (.exit 1)
def QB:aa:=au [cc 4 (-1)] [4] .ret
def QC:aa:=.cond (.t 73) QB .skip
def QD:aa:=.b9 [af 74 8,af 75 11,bI 76 .add 3 75 1,cM 77 .add 3 74 76,aM 8 77] (some [0,1,5,6,7,8,9,10])
def QE:aa:=.seq (au [af 72 11,bI 73 .lss 3 72 0] [0,1,5,6,7,8,9,10,11,73] QC) QD
def QF:aa:=au [af 65 0,af 66 8,bI 67 .add 3 66 1,af 68 9,ro 69 (.cF 9 (.t 65) (some (.t 67)) (some (.t 68))),af 70 6,dr 71 181 69 70,aM 11 71] [0,1,5,6,7,8,9,10,11] QE
def QG:aa:=.cond (.t 64) QF .skip
def QH:aa:=au [af 94 8,aM 4 94] [4] .ret
def QI:aa:=.cond (.t 93) QH .skip
def QJ:aa:=au [af 115 12,af 116 8,cM 117 .add 3 115 116,aM 4 117] [4] .ret
def QK:aa:=.cond (.t 114) QJ .skip
def QL:aa:=au [cc 4 (-1)] [4] .ret
def QM:aa:=.seq (au [af 113 12,bI 114 .geq 3 113 0] [8,12,114] QK) QL
def QN:aa:=au [af 108 0,af 109 8,ro 110 (.cF 9 (.t 108) (some (.t 109)) none),af 111 1,dr 112 272 110 111,aM 12 112] [8,12] QM
def QO:aa:=au [cc 4 (-1)] [4] .ret
def QP:aa:=.cond (.t 139) QO .skip
def QQ:aa:=au [af 140 8,af 141 13,cM 142 .add 3 140 141,aM 4 142] [4] .ret
def QR:aa:=.seq (au [af 138 13,bI 139 .lss 3 138 0] [8,13,139] QP) QQ
def QS:aa:=au [af 133 0,af 134 8,ro 135 (.cF 9 (.t 133) (some (.t 134)) none),af 136 1,dr 137 274 135 136,aM 13 137] [8,13] QR
def QT:aa:=.cond (.t 132) QS .skip
def QU:aa:=au [af 118 5,ro 119 (.bad),cM 120 .gtr 3 118 119,af 121 120,b4 122 121 (.bZ (.t 10)),b4 123 121 (.bZ (.t 8)),b4 124 121 (.bB .shr 3 (.t 123) (.c (.int .u64 4))),b4 125 121 (.bB .add 3 (.c (.int .i64 4)) (.t 124)),b4 126 121 (.bB .geq 3 (.t 122) (.t 125)),ro 127 (.pick (.t 121) (.t 126) (.c (.bool false))),af 128 127,b4 129 128 (.bZ (.t 8)),b4 130 128 (.bZ (.t 9)),b4 131 128 (.bB .lss 3 (.t 129) (.t 130)),ro 132 (.pick (.t 128) (.t 131) (.c (.bool false)))] [0,1,5,6,7,8,9,10,132] QT
def QV:aa:=.cond (.t 107) QN QU
def QW:aa:=au [af 99 5,ro 100 (.bad),cM 101 .leq 3 99 100,af 102 101,b4 103 102 (.bZ (.t 10)),b4 104 102 (.bZ (.t 8)),⟨some 105,.call (.f 273) [(.t 104)],some (102,true)⟩,b4 106 102 (.bB .gtr 3 (.t 103) (.t 105)),ro 107 (.pick (.t 102) (.t 106) (.c (.bool false)))] [0,1,5,6,7,8,9,10,107] QV
def QX:aa:=au [af 97 10,bI 98 .add 3 97 1,aM 10 98] [0,1,5,6,7,8,9,10] QW
def QY:aa:=au [af 95 8,bI 96 .add 3 95 1,aM 8 96] [0,1,5,6,7,8,9,10] QX
def QZ:aa:=.seq (au [af 78 0,af 79 8,bI 80 .add 3 79 1,o2 81 9 78 80,af 82 7,cM 83 .eql 5 81 82,af 84 83,b4 85 84 (.bZ (.t 0)),b4 86 84 (.bZ (.t 8)),b4 87 84 (.bZ (.t 8)),b4 88 84 (.bZ (.t 5)),b4 89 84 (.bB .add 3 (.t 87) (.t 88)),b4 90 84 (.cF 9 (.t 85) (some (.t 86)) (some (.t 89))),b4 91 84 (.bZ (.t 1)),b4 92 84 (.bB .eql 9 (.t 90) (.t 91)),ro 93 (.pick (.t 84) (.t 92) (.c (.bool false)))] [0,1,5,6,7,8,9,10,93] QI) QY
def Q0:aa:=.block 2 (.seq (au [af 60 0,af 61 8,o2 62 9 60 61,af 63 6,cM 64 .neq 5 62 63] [0,1,5,6,7,8,9,10,64] QG) QZ)
def Q1:aa:=.seq (au [af 57 8,af 58 9,cM 59 .lss 3 57 58] [0,1,5,6,7,8,9,10,59] QA) Q0
def Q2:aa:=au [cc 4 (-1)] [4] .ret
def Q3:aa:=.seq (.block 1 (.loop Q1)) Q2
def Q4:aa:=au [cc 10 0] [0,1,5,6,7,8,9,10] Q3
def Q5:aa:=au [af 52 0,cS 53 9 52,af 54 5,cM 55 .sub 3 53 54,bI 56 .add 3 55 1,aM 9 56] [0,1,5,6,7,8,9] Q4
def Q6:aa:=au [cc 8 0] [0,1,5,6,7,8] Q5
def Q7:aa:=au [af 50 1,ro 51 (.idx 9 (.t 50) (.c (.int .i64 1))),aM 7 51] [0,1,5,6,7] Q6
def Q8:aa:=au [af 48 1,ro 49 (.idx 9 (.t 48) (.c (.int .i64 0))),aM 6 49] [0,1,5,6] Q7
def Q9:aa:=.seq (.block 0 (au [af 17 5,bI 18 .eql 3 17 0,af 19 18,cN 20 19 (.bZ (.t 1)),cN 21 19 (.bZ (.t 0)),cN 22 19 (.bB .eql 9 (.t 20) (.t 21)),ro 23 (.pick (.t 19) (.c (.bool true)) (.t 22)),aM 16 23] [0,1,5,16] Qz)) Q8
def Q_:aa:=au [af 14 1,cS 15 9 14,aM 5 15] [0,1,5] Q9
def Ra:aa:=au [cc 4 0] [0,1] Q_
theorem Rb:bS ⟨143,[0,1]⟩ (Tryz.f256.body.getD .skip)=some Ra.strip:=by kernel_rfl
def Rc:aa:=nr [af 13 0,af 14 7,ro 15 (.cF 9 (.t 13) none (some (.t 14))),af 16 0,af 17 7,af 18 1,cS 19 9 18,cM 20 .add 3 17 19,ro 21 (.cF 9 (.t 16) (some (.t 20)) none),aM 4 15,aM 5 21,cC 6 true] [[],[],[0,1],[],[],[],[5],[4,6],[3,7],[2,0,1,2],[8,9,0,1,2,3,4,5,6,7,8,9],[10,0,1,2,3,4,5,6,7,8,9,10]] [4,5,6] .ret
def Rd:aa:=.cond (.t 12) Rc .skip
def Re:aa:=au [af 11 7,bI 12 .geq 3 11 0] [0,1,7,12] Rd
def Rf:aa:=au [af 22 0,aM 4 22,ro 5 (.dM (.c (.str []))),cC 6 false] [4,5,6] .ret
def Rg:aa:=.seq (au [af 8 0,af 9 1,dr 10 256 8 9,aM 7 10] [0,1,7] Re) Rf
def Rh:aa:=au [ro 4 (.dM (.c (.str []))),ro 5 (.dM (.c (.str []))),cC 6 false] [0,1] Rg
theorem Ri:bS ⟨23,[0,1]⟩ (Tryz.f252.body.getD .skip)=some Rh.strip:=by kernel_rfl
def Rj:aa:=au [af 7 0,af 8 1,dr 9 252 7 8,fo 10 9 0,fo 11 9 1,fo 12 9 2,aM 4 10,aM 5 11,aM 6 12] [4,5,6] .ret
def Rk:aa:=au [ro 4 (.dM (.c (.str []))),ro 5 (.dM (.c (.str []))),cC 6 false] [0,1] Rj
theorem Rl:bS ⟨13,[0,1]⟩ (Tryz.f219.body.getD .skip)=some Rk.strip:=by kernel_rfl
def Rm:aa:=au [af 5 0,cS 6 9 5,af 7 1,cS 8 9 7,cM 9 .geq 3 6 8,af 10 9,b4 11 10 (.bZ (.t 0)),b4 12 10 (.bZ (.t 0)),b4 13 10 (.len 9 (.t 12)),b4 14 10 (.bZ (.t 1)),b4 15 10 (.len 9 (.t 14)),b4 16 10 (.bB .sub 3 (.t 13) (.t 15)),b4 17 10 (.cF 9 (.t 11) (some (.t 16)) none),b4 18 10 (.bZ (.t 1)),b4 19 10 (.bB .eql 9 (.t 17) (.t 18)),ro 20 (.pick (.t 10) (.t 19) (.c (.bool false))),aM 4 20] [4] .ret
def Rn:aa:=au [cC 4 false] [0,1] Rm
theorem Ro:bS ⟨21,[0,1]⟩ (Tryz.f184.body.getD .skip)=some Rn.strip:=by kernel_rfl
def Rp:aa:=au [af 8 0,af 9 0,cS 10 9 9,af 11 1,cS 12 9 11,cM 13 .sub 3 10 12,ro 14 (.cF 9 (.t 8) none (some (.t 13))),aM 4 14] [4] .ret
def Rq:aa:=.cond (.t 7) Rp .skip
def Rr:aa:=au [af 15 0,aM 4 15] [4] .ret
def Rs:aa:=.seq (au [af 5 0,af 6 1,dr 7 184 5 6] [0,1,7] Rq) Rr
def c138:aa:=au [ro 4 (.dM (.c (.str [])))] [0,1] Rs
theorem Rt:bS ⟨16,[0,1]⟩ (Tryz.f138.body.getD .skip)=some c138.strip:=by kernel_rfl
def Ru:aa:=au [af 5 0,af 6 1,dr 7 138 5 6,aM 4 7] [4] .ret
def c91:aa:=au [ro 4 (.dM (.c (.str [])))] [0,1] Ru
theorem Rv:bS ⟨8,[0,1]⟩ (Tryz.f91.body.getD .skip)=some c91.strip:=by kernel_rfl
def Rw:aa:=au [af 5 0,af 6 1,dr 7 256 5 6,aM 4 7] [4] .ret
def Rx:aa:=au [cc 4 0] [0,1] Rw
theorem Ry:bS ⟨8,[0,1]⟩ (Tryz.f223.body.getD .skip)=some Rx.strip:=by kernel_rfl
def Rz:aa:=au [af 10 0,fS 11 253 10,bI 12 .add 3 11 1,aM 4 12] [4] .ret
def RA:aa:=.cond (.t 9) Rz .skip
def RB:aa:=au [af 16 0,af 17 1,ro 18 (.idx 9 (.t 17) (.c (.int .i64 0))),dr 19 255 16 18,aM 4 19] [4] .ret
def RC:aa:=.cond (.t 15) RB .skip
def RD:aa:=au [af 25 5,aM 4 25] [4] .ret
def RE:aa:=.cond (.t 24) RD .skip
def RF:aa:=.b9 [af 28 0,af 29 6,af 30 1,cS 31 9 30,cM 32 .add 3 29 31,ro 33 (.cF 9 (.t 28) (some (.t 32)) none),aM 0 33] (some [0,1,5])
def RG:aa:=au [af 26 5,bI 27 .add 3 26 1,aM 5 27] [0,1,5,6] RF
def RH:aa:=.seq (au [af 23 6,bI 24 .eql 3 23 (-1)] [0,1,5,6,24] RE) RG
def Fs:aa:=.block 1 (au [af 20 0,af 21 1,dr 22 223 20 21,aM 6 22] [0,1,5,6] RH)
def RI:aa:=.block 0 (.loop Fs)
def RJ:aa:=au [cc 5 0] [0,1,5] RI
def RK:aa:=.seq (au [af 13 1,cS 14 9 13,bI 15 .eql 3 14 1] [0,1,15] RC) RJ
def RL:aa:=.seq (au [af 7 1,cS 8 9 7,bI 9 .eql 3 8 0] [0,1,9] RA) RK
def c222:aa:=au [cc 4 0] [0,1] RL
theorem RM:bS ⟨34,[1]⟩ (Tryz.f222.body.getD .skip)=some c222.strip:=by kernel_rfl
def RN:aa:=au [hq 8] [8] .ret
def RO:aa:=.cond (.t 13) RN .skip
def RP:aa:=au [af 16 0,af 17 3,dr 18 221 16 17,aM 8 18] [8] .ret
def RQ:aa:=.cond (.t 15) RP .skip
def RR:aa:=.b9 [af 21 0,af 22 1,dr 23 222 21 22,bI 24 .add 3 23 1,aM 3 24] (some [0,1,2,3])
def RS:aa:=.cond (.t 20) RR .skip
def RT:aa:=.cond (.t 36) .skip (.exit 0)
def RU:aa:=.cond (.t 41) (.exit 0) .skip
def RV:aa:=.b9 [af 56 10,bI 57 .add 3 56 1,aM 10 57] (some [0,1,2,3,9,10])
def RW:aa:=au [af 50 0,af 51 11,af 52 1,cS 53 9 52,cM 54 .add 3 51 53,ro 55 (.cF 9 (.t 50) (some (.t 54)) none),aM 0 55] [0,1,2,3,9,10] RV
def RX:aa:=au [af 42 9,af 43 10,af 44 0,af 45 11,af 46 2,cM 47 .add 3 45 46,ro 48 (.cF 9 (.t 44) none (some (.t 47))),gi 49 22 42 43,jg 9 49 48] [0,1,2,3,9,10,11] RW
def RY:aa:=.seq (au [af 40 11,bI 41 .lss 3 40 0] [0,1,2,3,9,10,11,41] RU) RX
def RZ:aa:=.block 1 (au [af 37 0,af 38 1,dr 39 223 37 38,aM 11 39] [0,1,2,3,9,10,11] RY)
def Ft:aa:=.seq (au [af 34 10,af 35 3,cM 36 .lss 3 34 35] [0,1,2,3,9,10,36] RT) RZ
def R0:aa:=au [af 62 9,af 63 10,bI 64 .add 3 63 1,ro 65 (.cF 22 (.t 62) none (some (.t 64))),aM 8 65] [8] .ret
def Fu:aa:=au [af 58 9,af 59 10,af 60 0,gi 61 22 58 59,jg 9 61 60] [9,10] R0
def R1:aa:=.seq (.block 0 (.loop Ft)) Fu
def R2:aa:=au [cc 10 0] [0,1,2,3,9,10] R1
def R3:aa:=au [af 32 3,bI 33 .sub 3 32 1,aM 3 33] [0,1,2,3,9] R2
def R4:aa:=au [af 30 3,ro 31 (.er 22 (.t 30) (.t 30)),aM 9 31] [0,1,2,3,9] R3
def Fv:aa:=au [af 25 3,af 26 0,cS 27 9 26,bI 28 .add 3 27 1,ro 29 (.gd false (.t 25) (.t 28)),aM 3 29] [0,1,2,3] R4
def R5:aa:=.seq (au [af 19 3,bI 20 .lss 3 19 0] [0,1,2,3,20] RS) Fv
def R6:aa:=.seq (au [af 14 1,ro 15 (.bB .eql 9 (.t 14) (.c (.str [])))] [0,1,2,3,15] RQ) R5
def R7:aa:=.seq (au [af 12 3,bI 13 .eql 3 12 0] [0,1,2,3,13] RO) R6
def c182:aa:=au [hq 8] [0,1,2,3] R7
theorem R8:bS ⟨66,[1,2]⟩ (Tryz.f182.body.getD .skip)=some c182.strip:=by kernel_rfl
def R9:aa:=au [af 5 0,af 6 1,ro 7 (.call (.f 182) [(.t 5),(.t 6),(.c (.int .i64 0)),(.c (.int .i64 (-1)))]),aM 4 7] [4] .ret
def R_:aa:=au [hq 4] [0,1] R9
theorem Sa:bS ⟨8,[0,1]⟩ (Tryz.f135.body.getD .skip)=some R_.strip:=by kernel_rfl
def Sb:aa:=au [hq 2,cC 3 false] [2,3] .ret
def Sc:aa:=.cond (.t 21) Sb .skip
def Sd:aa:=.b9 [af 22 4,af 23 7,tL 24 23 23,rQ 25 23 23 22 24,aM 4 25] (some [4,9,10,11])
def Se:aa:=.seq (au [af 20 8,hW 21 20] [4,7,9,10,11,21] Sc) Sd
def Sf:aa:=au [af 16 6,fS 17 183 16,af 15 17,fo 18 15 0,fo 19 15 1,aM 7 18,aM 8 19] [4,7,8,9,10,11] Se
def Sg:aa:=.b9 [bI 26 .add 3 11 1,af 11 26] (some [4,9,10,11])
def Sh:aa:=.seq (.block 1 (au [gi 13 22 9 11,dp 14 9 13,aM 6 14] [4,6,9,10,11] Sf)) Sg
def Si:aa:=.seq (.cond (.t 12) .skip (.exit 0)) Sh
def Fw:aa:=au [cM 12 .lss 3 11 10] [4,9,10,11,12] Si
def Sj:aa:=.block 0 (.loop Fw)
def Sk:aa:=au [af 27 4,aM 2 27,cC 3 true] [2,3] .ret
def Sl:aa:=.seq (au [af 9 0,cS 10 22 9,rP 11 0] [4,9,10,11] Sj) Sk
def Sm:aa:=au [hq 4] [0,4] Sl
def So:aa:=au [hq 2,cC 3 false] [0] Sm
theorem Sp:bS ⟨28,[0]⟩ (Tryz.f136.body.getD .skip)=some So.strip:=by kernel_rfl
def Sq:aa:=au [af 3 0,ro 4 (.bB .geq 5 (.t 3) (.c (.int .u8 48))),af 5 4,b4 6 5 (.bZ (.t 0)),b4 7 5 (.bB .leq 5 (.t 6) (.c (.int .u8 57))),ro 8 (.pick (.t 5) (.t 7) (.c (.bool false))),aM 2 8] [2] .ret
def Sr:aa:=au [cC 2 false] [0] Sq
theorem Ss:bS ⟨9,[0]⟩ (Tryz.f195.body.getD .skip)=some Sr.strip:=by kernel_rfl
def St:aa:=au [cC 2 false] [2] .ret
def Su:aa:=.cond (.t 32) St .skip
def Sv:aa:=au [af 20 4,hW 21 20,af 22 21,b4 23 22 (.bZ (.t 3)),b4 24 22 (.bB .eql 3 (.t 23) (.c (.int .i64 0))),b4 25 22 (.bZ (.t 24)),cN 26 25 (.bZ (.t 0)),cN 27 25 (.bZ (.t 3)),cN 28 25 (.idx 9 (.t 26) (.t 27)),⟨some 29,.call (.f 195) [(.t 28)],some (25,false)⟩,cN 30 25 (.un .not (.t 29)),b4 31 22 (.pick (.t 25) (.c (.bool true)) (.t 30)),ro 32 (.pick (.t 22) (.t 31) (.c (.bool false)))] [0,6,7,32] Su
def Sw:aa:=au [af 10 0,af 11 3,o2 12 9 10 11,ro 13 (.bB .geq 5 (.t 12) (.c (.int .u8 97))),af 14 13,b4 15 14 (.bZ (.t 0)),b4 16 14 (.bZ (.t 3)),b4 17 14 (.idx 9 (.t 15) (.t 16)),b4 18 14 (.bB .leq 5 (.t 17) (.c (.int .u8 122))),ro 19 (.pick (.t 14) (.t 18) (.c (.bool false))),aM 4 19] [0,3,4,6,7] Sv
def Sy:aa:=.b9 [bI 33 .add 3 7 1,af 7 33] (some [0,6,7])
def Sz:aa:=.seq (.block 1 (au [af 9 7,aM 3 9] [0,3,6,7] Sw)) Sy
def SA:aa:=.seq (.cond (.t 8) .skip (.exit 0)) Sz
def Fx:aa:=au [cM 8 .lss 3 7 6] [0,6,7,8] SA
def SB:aa:=.block 0 (.loop Fx)
def SC:aa:=au [af 34 0,cS 35 9 34,bI 36 .geq 3 35 1,af 37 36,b4 38 37 (.bZ (.t 0)),b4 39 37 (.len 9 (.t 38)),b4 40 37 (.bB .leq 3 (.t 39) (.c (.int .i64 10))),ro 41 (.pick (.t 37) (.t 40) (.c (.bool false))),aM 2 41] [2] .ret
def SD:aa:=.seq (au [af 5 0,cS 6 9 5,rP 7 0] [0,6,7] SB) SC
def SE:aa:=au [cC 2 false] [0] SD
theorem SF:bS ⟨42,[0]⟩ (Tryz.f155.body.getD .skip)=some SE.strip:=by kernel_rfl
def SG:aa:=au [af 3 0,fS 4 155 3,af 5 4,b4 6 5 (.bZ (.t 0)),⟨some 7,.bB .neq 9 (.t 6) (.c (.str [116,97,117])),some (5,true)⟩,ro 8 (.pick (.t 5) (.t 7) (.c (.bool false))),aM 2 8] [2] .ret
def c203:aa:=au [cC 2 false] [0] SG
theorem SH:bS ⟨9,[0]⟩ (Tryz.f203.body.getD .skip)=some c203.strip:=by kernel_rfl
def SI:aa:=au [af 7 0,af 8 1,cM 9 .geq 2 7 8,af 10 9,b4 11 10 (.bZ (.t 0)),b4 12 10 (.bZ (.t 2)),b4 13 10 (.bB .leq 2 (.t 11) (.t 12)),ro 14 (.pick (.t 10) (.t 13) (.c (.bool false))),aM 6 14] [6] .ret
def SJ:aa:=au [cC 6 false] [0,1,2] SI
theorem SK:bS ⟨15,[0,1,2]⟩ (Tryz.f86.body.getD .skip)=some SJ.strip:=by kernel_rfl
def SL:aa:=au [af 3 0,ro 4 (.call (.f 86) [(.t 3),(.c (.int .i64 0)),(.c (.int .i64 63))]),aM 2 4] [2] .ret
def SM:aa:=au [cC 2 false] [0] SL
theorem SN:bS ⟨5,[0]⟩ (Tryz.f202.body.getD .skip)=some SM.strip:=by kernel_rfl
def SO:aa:=au [af 3 0,fS 4 202 3,hW 5 4,aM 2 5] [2] .ret
def c201:aa:=au [cC 2 false] [0] SO
theorem SP:bS ⟨6,[0]⟩ (Tryz.f201.body.getD .skip)=some c201.strip:=by kernel_rfl
def SQ:aa:=au [af 17 5,aM 4 17] [4] .ret
def SR:aa:=.cond (.t 16) SQ .skip
def SS:aa:=au [af 11 1,af 12 0,af 13 5,gi 14 23 12 13,dp 15 2 14,ro 16 (.call (.t 11) [(.t 15)])] [0,1,5,7,8,16] SR
def SU:aa:=.b9 [bI 18 .add 3 8 1,af 8 18] (some [0,1,7,8])
def SV:aa:=.seq (.block 1 (au [af 10 8,aM 5 10] [0,1,5,7,8] SS)) SU
def SW:aa:=.seq (.cond (.t 9) .skip (.exit 0)) SV
def Fy:aa:=au [cM 9 .lss 3 8 7] [0,1,7,8,9] SW
def SX:aa:=.block 0 (.loop Fy)
def SY:aa:=au [cc 4 (-1)] [4] .ret
def SZ:aa:=.seq (au [af 6 0,cS 7 23 6,rP 8 0] [0,1,7,8] SX) SY
def S0:aa:=au [cc 4 0] [0,1] SZ
theorem S1:bS ⟨19,[0,1]⟩ (Tryz.f126.body.getD .skip)=some S0.strip:=by kernel_rfl
def S2:aa:=au [af 5 0,af 6 1,dr 7 126 5 6,bI 8 .geq 3 7 0,aM 4 8] [4] .ret
def S3:aa:=au [cC 4 false] [0,1] S2
theorem S4:bS ⟨9,[0,1]⟩ (Tryz.f84.body.getD .skip)=some S3.strip:=by kernel_rfl
def S5:aa:=au [af 3 0,ro 4 (.call (.f 84) [(.t 3),(.f 201)]),hW 5 4,aM 2 5] [2] .ret
def c160:aa:=au [cC 2 false] [0] S5
theorem S6:bS ⟨6,[0]⟩ (Tryz.f160.body.getD .skip)=some c160.strip:=by kernel_rfl
def S7:aa:=au [af 3 0,ro 4 (.call (.f 185) [(.t 3),(.c (.int .i64 10))]),aM 2 4] [2] .ret
def c141:aa:=au [ro 2 (.dM (.c (.str [])))] [0] S7
theorem S8:bS ⟨5,[0]⟩ (Tryz.f141.body.getD .skip)=some c141.strip:=by kernel_rfl
def S9:aa:=.b9 [af 18 5,af 19 6,af 20 7,fS 21 141 20,gi 22 22 18 19,jg 9 22 21] (some [1,5,11,12,13])
def S_:aa:=.b9 [bI 23 .add 3 13 1,af 13 23] (some [1,5,11,12,13])
def Ta:aa:=.seq (.block 1 (au [af 15 13,gi 16 23 11 13,dp 17 2 16,aM 6 15,aM 7 17] [1,5,6,7,11,12,13] S9)) S_
def Tb:aa:=.seq (.cond (.t 14) .skip (.exit 0)) Ta
def Fz:aa:=au [cM 14 .lss 3 13 12] [1,5,11,12,13,14] Tb
def Tc:aa:=.block 0 (.loop Fz)
def Td:aa:=au [af 24 5,af 25 1,dr 26 117 24 25,aM 4 26] [4] .ret
def Te:aa:=.seq (au [af 11 0,cS 12 23 11,rP 13 0] [1,5,11,12,13] Tc) Td
def Tf:aa:=au [af 8 0,cS 9 23 8,ro 10 (.er 22 (.t 9) (.t 9)),aM 5 10] [0,1,5] Te
def c139:aa:=au [ro 4 (.dM (.c (.str [])))] [0,1] Tf
theorem Tg:bS ⟨27,[0,1]⟩ (Tryz.f139.body.getD .skip)=some c139.strip:=by kernel_rfl
def Th:aa:=au [af 9 1,cS 10 23 9,bI 11 .eql 3 10 0,ro 4 (.dM (.c (.str [116,97,117]))),aM 5 11] [4,5] .ret
def Ti:aa:=au [ro 4 (.dM (.c (.str []))),cC 5 false] [4,5] .ret
def Tj:aa:=au [af 30 0,aM 4 30,cC 5 true] [4,5] .ret
def Tk:aa:=.cond (.t 26) Tj .skip
def Tl:aa:=au [af 27 1,cS 28 23 27,bI 29 .eql 3 28 0,aM 26 29] [0,1,26] Tk
def Tm:aa:=.cond (.t 12) Ti Tl
def Tn:aa:=au [af 13 0,fS 14 203 13,hW 15 14,af 16 15,cN 17 16 (.bZ (.t 1)),cN 18 16 (.len 23 (.t 17)),cN 19 16 (.bB .gtr 3 (.t 18) (.c (.int .i64 2))),ro 20 (.pick (.t 16) (.c (.bool true)) (.t 19)),af 21 20,cN 22 21 (.bZ (.t 1)),⟨some 23,.call (.f 160) [(.t 22)],some (21,false)⟩,cN 24 21 (.un .not (.t 23)),ro 25 (.pick (.t 21) (.c (.bool true)) (.t 24)),aM 12 25] [0,1,12] Tm
def To:aa:=.cond (.t 6) Th Tn
def Tp:aa:=au [af 31 0,ro 32 (.bB .add 9 (.t 31) (.c (.str [40]))),af 33 1,ro 34 (.call (.f 139) [(.t 33),(.c (.str [44]))]),cM 35 .add 9 32 34,ro 36 (.bB .add 9 (.t 35) (.c (.str [41]))),aM 4 36,cC 5 true] [4,5] .ret
def Tq:aa:=.seq (.block 0 (au [af 7 0,ro 8 (.bB .eql 9 (.t 7) (.c (.str [116,97,117]))),aM 6 8] [0,1,6] To)) Tp
def Tr:aa:=au [ro 4 (.dM (.c (.str []))),cC 5 false] [0,1] Tq
theorem Ts:bS ⟨37,[0,1]⟩ (Tryz.f161.body.getD .skip)=some Tr.strip:=by kernel_rfl
def Tt:aa:=au [ro 2 (.dM (.c (.str []))),hq 3,cC 4 false] [2,3,4] .ret
def Tu:aa:=.cond (.t 27) Tt .skip
def Tv:aa:=au [af 26 9,hW 27 26] [0,5,8,27] Tu
def Tw:aa:=au [af 20 6,ro 21 (.call (.f 91) [(.t 20),(.c (.str [41]))]),ro 22 (.call (.f 135) [(.t 21),(.c (.str [44]))]),fS 23 136 22,af 19 23,fo 24 19 0,fo 25 19 1,aM 8 24,aM 9 25] [0,5,8,9] Tv
def Tx:aa:=au [cC 9 false] [0,5,6] Tw
def Ty:aa:=.cond (.t 18) Tx .skip
def Tz:aa:=au [ro 2 (.dM (.c (.str []))),hq 3,cC 4 false] [2,3,4] .ret
def TA:aa:=.cond (.t 40) Tz .skip
def TB:aa:=au [af 34 11,hW 35 34,af 36 35,cN 37 36 (.bZ (.t 10)),cN 38 36 (.bZ (.t 0)),cN 39 36 (.bB .neq 9 (.t 37) (.t 38)),ro 40 (.pick (.t 36) (.c (.bool true)) (.t 39))] [5,8,40] TA
def TC:aa:=au [af 41 5,af 42 8,aM 2 41,aM 3 42,cC 4 true] [2,3,4] .ret
def FA:aa:=.seq (au [af 29 5,af 30 8,dr 31 161 29 30,af 28 31,fo 32 28 0,fo 33 28 1,aM 10 32,aM 11 33] [0,5,8,10,11] TB) TC
def TD:aa:=.seq (au [af 18 7] [0,5,6,8,18] Ty) FA
def TE:aa:=au [hq 8] [0,5,6,7,8] TD
def TF:aa:=au [af 13 0,ro 14 (.call (.f 219) [(.t 13),(.c (.str [40]))]),af 12 14,fo 15 12 0,fo 16 12 1,fo 17 12 2,aM 5 15,aM 6 16,aM 7 17] [0,5,6,7] TE
def TG:aa:=au [ro 2 (.dM (.c (.str []))),hq 3,cC 4 false] [0] TF
theorem TH:bS ⟨43,[0]⟩ (Tryz.f179.body.getD .skip)=some TG.strip:=by kernel_rfl
def TI:aa:=au [af 12 5,aM 2 12] [2] .ret
def TJ:aa:=au [af 7 0,fS 8 179 7,af 6 8,fo 9 6 0,fo 10 6 1,fo 11 6 2,aM 3 9,aM 4 10,aM 5 11] [5] TI
def TK:aa:=au [cC 2 false] [0] TJ
theorem TL:bS ⟨13,[0]⟩ (Tryz.f125.body.getD .skip)=some TK.strip:=by kernel_rfl
def TM:aa:=au [af 3 0,fS 4 125 3,hW 5 4,aM 2 5] [2] .ret
def c124:aa:=au [cC 2 false] [0] TM
theorem TN:bS ⟨6,[0]⟩ (Tryz.f124.body.getD .skip)=some c124.strip:=by kernel_rfl
def TO:aa:=au [af 17 5,aM 4 17] [4] .ret
def TP:aa:=.cond (.t 16) TO .skip
def TQ:aa:=au [af 11 1,af 12 0,af 13 5,gi 14 22 12 13,dp 15 9 14,ro 16 (.call (.t 11) [(.t 15)])] [0,1,5,7,8,16] TP
def TR:aa:=.b9 [bI 18 .add 3 8 1,af 8 18] (some [0,1,7,8])
def TS:aa:=.seq (.block 1 (au [af 10 8,aM 5 10] [0,1,5,7,8] TQ)) TR
def TT:aa:=.seq (.cond (.t 9) .skip (.exit 0)) TS
def FB:aa:=au [cM 9 .lss 3 8 7] [0,1,7,8,9] TT
def TU:aa:=.block 0 (.loop FB)
def TV:aa:=au [cc 4 (-1)] [4] .ret
def TW:aa:=.seq (au [af 6 0,cS 7 22 6,rP 8 0] [0,1,7,8] TU) TV
def TX:aa:=au [cc 4 0] [0,1] TW
theorem TY:bS ⟨19,[0,1]⟩ (Tryz.f178.body.getD .skip)=some TX.strip:=by kernel_rfl
def TZ:aa:=au [af 5 0,af 6 1,dr 7 178 5 6,bI 8 .geq 3 7 0,aM 4 8] [4] .ret
def T0:aa:=au [cC 4 false] [0,1] TZ
theorem T1:bS ⟨9,[0,1]⟩ (Tryz.f123.body.getD .skip)=some T0.strip:=by kernel_rfl
def T2:aa:=au [af 3 0,ro 4 (.call (.f 123) [(.t 3),(.f 124)]),hW 5 4,aM 2 5] [2] .ret
def T3:aa:=au [cC 2 false] [0] T2
theorem T4:bS ⟨6,[0]⟩ (Tryz.f83.body.getD .skip)=some T3.strip:=by kernel_rfl
def T5:aa:=au [af 3 0,ro 4 (.call (.f 86) [(.t 3),(.c (.int .i64 0)),(.c (.int .i64 3))]),hW 5 4,aM 2 5] [2] .ret
def c85:aa:=au [cC 2 false] [0] T5
theorem T6:bS ⟨6,[0]⟩ (Tryz.f85.body.getD .skip)=some c85.strip:=by kernel_rfl
def T7:aa:=au [af 17 5,aM 4 17] [4] .ret
def T8:aa:=.cond (.t 16) T7 .skip
def T9:aa:=au [af 11 1,af 12 0,af 13 5,gi 14 23 12 13,dp 15 2 14,ro 16 (.call (.t 11) [(.t 15)])] [0,1,5,7,8,16] T8
def T_:aa:=.b9 [bI 18 .add 3 8 1,af 8 18] (some [0,1,7,8])
def Ua:aa:=.seq (.block 1 (au [af 10 8,aM 5 10] [0,1,5,7,8] T9)) T_
def Ub:aa:=.seq (.cond (.t 9) .skip (.exit 0)) Ua
def FC:aa:=au [cM 9 .lss 3 8 7] [0,1,7,8,9] Ub
def Uc:aa:=.block 0 (.loop FC)
def Ud:aa:=au [cc 4 (-1)] [4] .ret
def Ue:aa:=.seq (au [af 6 0,cS 7 23 6,rP 8 0] [0,1,7,8] Uc) Ud
def Uf:aa:=au [cc 4 0] [0,1] Ue
theorem Ug:bS ⟨19,[0,1]⟩ (Tryz.f126.body.getD .skip)=some Uf.strip:=by kernel_rfl
def Uh:aa:=au [af 5 0,af 6 1,dr 7 126 5 6,bI 8 .geq 3 7 0,aM 4 8] [4] .ret
def Ui:aa:=au [cC 4 false] [0,1] Uh
theorem Uj:bS ⟨9,[0,1]⟩ (Tryz.f84.body.getD .skip)=some Ui.strip:=by kernel_rfl
def Uk:aa:=au [cc 4 2] [4] .ret
def Ul:aa:=au [cc 4 7] [4] .ret
def Um:aa:=.cond (.t 14) Ul .skip
def Un:aa:=au [af 15 1,cS 16 23 15,bI 17 .gtr 3 16 200,af 18 17,cN 19 18 (.bZ (.t 1)),⟨some 20,.call (.f 84) [(.t 19),(.f 85)],some (18,false)⟩,ro 21 (.pick (.t 18) (.c (.bool true)) (.t 20)),aM 14 21] [14] Um
def Uo:aa:=.cond (.t 5) Uk Un
def Up:aa:=au [cc 4 0] [4] .ret
def Uq:aa:=.seq (.block 0 (au [af 6 0,cS 7 22 6,bI 8 .gtr 3 7 60,af 9 8,cN 10 9 (.bZ (.t 0)),⟨some 11,.call (.f 83) [(.t 10)],some (9,false)⟩,cN 12 9 (.un .not (.t 11)),ro 13 (.pick (.t 9) (.c (.bool true)) (.t 12)),aM 5 13] [1,5] Uo)) Up
def c51:aa:=au [cc 4 0] [0,1] Uq
theorem Ur:bS ⟨22,[0,1]⟩ (Tryz.f51.body.getD .skip)=some c51.strip:=by kernel_rfl
def c127:aa:=.b9 [af 4 0,af 5 0,dE 6 5,dD 7 96 6 1,dp 8 2 7,af 9 1,ro 10 (.gd true (.t 8) (.t 9)),dE 11 4,dD 12 96 11 1,jg 2 12 10] (some [0])
theorem Us:bS ⟨13,[0,1]⟩ (Tryz.f127.body.getD .skip)=some c127.strip:=by kernel_rfl
def Ut:aa:=.b9 [af 11 0,dE 12 11,dD 13 96 12 2,dp 14 2 13,bI 15 .add 2 14 1,dE 16 11,dD 17 96 16 2,jg 2 17 15] (some [0])
def Uu:aa:=.cond (.t 10) Ut .skip
def FD:aa:=au [af 18 0,dE 19 18,dD 20 96 19 2,dp 21 2 20,aM 4 21] [0,4] .ret
def Uv:aa:=.seq (au [af 5 1,af 6 0,dE 7 6,dD 8 96 7 2,dp 9 2 8,cM 10 .eql 2 5 9] [0,10] Uu) FD
def Uw:aa:=au [cc 4 0] [0,1] Uv
theorem Ux:bS ⟨22,[0,1]⟩ (Tryz.f128.body.getD .skip)=some Uw.strip:=by kernel_rfl
def Uy:aa:=.b9 [af 19 0,af 20 0,dE 21 20,dD 22 96 21 3,dp 23 2 22,dr 24 128 19 23,aM 6 24] (some [0,1,2,6])
def Uz:aa:=.cond (.t 18) Uy .skip
def UA:aa:=.b9 [af 43 0,af 44 0,dE 45 44,dD 46 96 45 1,dp 47 2 46,dr 48 128 43 47,aM 6 48] (some [0,2,6])
def UB:aa:=.b9 [af 58 0,af 59 7,dr 60 128 58 59,aM 6 60] (some [0,2,6])
def UC:aa:=au [af 55 0,af 56 7,dr 57 128 55 56] [0,2,7] UB
def UD:aa:=au [af 51 0,dE 52 51,dD 53 96 52 1,dp 54 2 53,aM 7 54] [0,2,7] UC
def UE:aa:=.b9 [af 63 0,af 64 0,dE 65 64,dD 66 96 65 1,dp 67 2 66,dE 68 63,dD 69 96 68 3,jg 2 69 67] (some [0,2,6])
def UF:aa:=.cond (.t 61) UE .skip
def UG:aa:=au [bI 62 .eql 2 40 3,aM 61 62] [0,2,6,61] UF
def UH:aa:=.cond (.t 49) UD UG
def UI:aa:=au [bI 50 .eql 2 40 2,aM 49 50] [0,2,6,40,49] UH
def UJ:aa:=.cond (.t 41) UA UI
def UK:aa:=.block 0 (au [bI 42 .eql 2 40 0,aM 41 42] [0,2,6,40,41] UJ)
def UL:aa:=au [af 40 1] [0,2,6,40] UK
def UM:aa:=.cond (.t 39) UL .skip
def UN:aa:=.b9 [af 76 0,af 77 6,dE 78 76,dD 79 96 78 4,jg 2 79 77] (some [0])
def UO:aa:=.b9 [af 83 0,af 84 6,dr 85 127 83 84] (some [0])
def UP:aa:=.cond (.t 80) UO .skip
def UQ:aa:=au [af 81 2,bI 82 .neq 2 81 1,aM 80 82] [0,6,80] UP
def UR:aa:=.cond (.t 73) UN UQ
def US:aa:=au [af 74 2,bI 75 .eql 2 74 3,aM 73 75] [0,2,6,73] UR
def UT:aa:=.cond (.t 70) .skip US
def FE:aa:=.block 1 (au [af 71 6,bI 72 .lss 2 71 0,aM 70 72] [0,2,6,70] UT)
def UU:aa:=.seq (nr [af 31 0,dE 32 31,dD 33 96 32 1,dp 34 2 33,af 35 0,dE 36 35,dD 37 96 36 0,dp 38 2 37,cM 39 .lss 2 34 38] [[],[0],[1],[2],[],[4],[5],[6],[3,7]] [0,1,2,6,39] UM) FE
def FF:aa:=au [af 25 0,af 26 0,dE 27 25,dD 28 96 27 3,⟨none,.eh 2 (.t 28) (.c (.int .i64 (-1))),none⟩,dE 29 26,dD 30 96 29 4,⟨none,.eh 2 (.t 30) (.c (.int .i64 (-1))),none⟩] [0,1,2,6] UU
def UW:aa:=.seq (au [af 14 0,dE 15 14,dD 16 96 15 3,dp 17 2 16,bI 18 .geq 2 17 0] [0,1,2,6,18] Uz) FF
def UX:aa:=au [af 8 0,af 9 0,dE 10 9,dD 11 96 10 4,dp 12 2 11,dr 13 127 8 12] [0,1,2,6] UW
def c87:aa:=au [cc 6 (-1)] [0,1,2,6] UX
theorem UY:bS ⟨86,[0,1,2]⟩ (Tryz.f87.body.getD .skip)=some c87.strip:=by kernel_rfl
def UZ:aa:=.b9 [af 28 8,aM 7 28] (some [1,6,7,8])
def U0:aa:=.cond (.t 27) UZ .skip
def U1:aa:=au [af 35 6,af 36 7,aM 4 35,aM 5 36] [4,5] .ret
def U2:aa:=.cond (.t 34) U1 .skip
def U3:aa:=.ja [af 37 6,af 38 1,af 39 8,ro 40 (.bB .mul 3 (.c (.int .i64 2)) (.t 39)),gi 41 23 38 40,dp 42 2 41,af 43 1,af 44 8,ro 45 (.bB .mul 3 (.c (.int .i64 2)) (.t 44)),bI 46 .add 3 45 1,gi 47 23 43 46,dp 48 2 47,EW 49 87 37 42 48] [[],[],[],[2],[1,3],[4],[],[],[7],[8],[6,9],[10],[0,5,11]] (some [1,6,7,8])
def FG:aa:=.seq (au [af 29 8,ro 30 (.bB .mul 3 (.c (.int .i64 2)) (.t 29)),bI 31 .add 3 30 1,af 32 1,cS 33 23 32,cM 34 .geq 3 31 33] [1,6,7,8,34] U2) U3
def U4:aa:=.b9 [af 13 8,bI 14 .add 3 13 1,aM 8 14] (some [1,6,7,8])
def FH:aa:=.seq (.block 1 (.seq (nr [af 15 7,bI 16 .lss 2 15 0,af 17 16,b4 18 17 (.bZ (.t 6)),b4 19 17 (.ew (.t 18)),b4 20 17 (.ev 96 (.t 19) 1),b4 21 17 (.dh 2 (.t 20)),b4 22 17 (.bZ (.t 6)),b4 23 17 (.ew (.t 22)),b4 24 17 (.ev 96 (.t 23) 0),b4 25 17 (.dh 2 (.t 24)),b4 26 17 (.bB .eql 2 (.t 21) (.t 25)),ro 27 (.pick (.t 17) (.t 26) (.c (.bool false)))] [[],[0],[1],[2],[3,2],[4,2],[5,2],[2],[7,2],[8,2],[9,2],[6,10,2],[2,11]] [1,6,7,8,27] U0) FG)) U4
def U5:aa:=.block 0 (.loop FH)
def U6:aa:=au [cc 8 0] [1,6,7,8] U5
def U7:aa:=au [cc 7 (-1)] [1,6,7] U6
def U8:aa:=au [af 9 0,cS 10 22 9,ro 11 (.dR 96 [(0,(.t 10)),(3,(.c (.int .i64 (-1)))),(4,(.c (.int .i64 (-1))))]),ro 12 (.ep 96 (.t 11)),aM 6 12] [1,6] U7
def U9:aa:=au [ro 4 (.dM (.c .ct)),cc 5 0] [0,1] U8
theorem qw:bS ⟨50,[0,1]⟩ (Tryz.f52.body.getD .skip)=some U9.strip:=by kernel_rfl
def U_:aa:=au [hq 2] [2] .ret
def Va:aa:=.cond (.t 4) U_ .skip
def Vb:aa:=au [ro 5 (.cX 22 0 []),af 6 0,rQ 7 22 22 5 6,aM 2 7] [2] .ret
def Vc:aa:=.seq (au [af 3 0,ro 4 (.bB .eql 22 (.t 3) (.c .bD))] [0,4] Va) Vb
def Vd:aa:=au [hq 2] [0] Vc
theorem Ve:bS ⟨8,[0]⟩ (Tryz.f57.body.getD .skip)=some Vd.strip:=by kernel_rfl
def Vf:aa:=au [af 15 7,hq 4,cc 5 0,aM 6 15] [4,5,6] .ret
def Vg:aa:=.cond (.t 14) Vf .skip
def Vh:aa:=au [af 13 7,bI 14 .neq 2 13 0] [0,1,7,14] Vg
def Vi:aa:=nr [af 22 0,af 23 8,dE 24 23,dD 25 96 24 2,dp 26 2 25,ro 27 (.cF 22 (.t 22) none (some (.t 26))),fS 28 57 27,af 29 8,dE 30 29,dD 31 96 30 1,dp 32 2 31,aM 4 28,aM 5 32,cc 6 0] [[],[],[1],[2],[3],[0,4],[5],[],[7],[8],[9],[6,6,0,1,2,3,4,5,6],[10,11,0,1,2,3,4,5,6,7,8,9,10,11],[12,0,1,2,3,4,5,6,7,8,9,10,11,12]] [4,5,6] .ret
def Vj:aa:=au [af 17 0,af 18 1,dr 19 52 17 18,af 16 19,fo 20 16 0,fo 21 16 1,aM 8 20,aM 9 21] [0,8] Vi
def Vk:aa:=.seq (au [af 10 0,af 11 1,dr 12 51 10 11,aM 7 12] [0,1,7] Vh) Vj
def c24:aa:=au [hq 4,cc 5 0,cc 6 0] [0,1] Vk
theorem Vl:bS ⟨33,[0,1]⟩ (Tryz.f24.body.getD .skip)=some c24.strip:=by kernel_rfl
def Vm:aa:=au [cC 4 false] [4] .ret
def Vn:aa:=.cond (.t 10) Vm .skip
def Vo:aa:=.cond (.t 14) .skip (.exit 0)
def Vp:aa:=au [cC 4 false] [4] .ret
def Vq:aa:=.cond (.t 25) Vp .skip
def Vr:aa:=.b9 [af 15 5,bI 16 .add 3 15 1,aM 5 16] (some [0,1,5])
def Vs:aa:=.seq (.block 1 (nr [af 17 0,af 18 5,gi 19 22 17 18,dp 20 9 19,af 21 1,af 22 5,gi 23 22 21 22,dp 24 9 23,cM 25 .neq 9 20 24] [[],[],[0,1],[2],[],[],[4,5],[6],[3,7]] [0,1,5,25] Vq)) Vr
def FI:aa:=.seq (au [af 11 5,af 12 0,cS 13 22 12,cM 14 .lss 3 11 13] [0,1,5,14] Vo) Vs
def Vt:aa:=.block 0 (.loop FI)
def Vu:aa:=au [cC 4 true] [4] .ret
def Vv:aa:=.seq (au [cc 5 0] [0,1,5] Vt) Vu
def Vw:aa:=.seq (au [af 6 0,cS 7 22 6,af 8 1,cS 9 22 8,cM 10 .neq 3 7 9] [0,1,10] Vn) Vv
def Vx:aa:=au [cC 4 false] [0,1] Vw
theorem qx:bS ⟨26,[0,1]⟩ (Tryz.f14.body.getD .skip)=some Vx.strip:=by kernel_rfl
def Vy:aa:=au [cC 4 false] [4] .ret
def Vz:aa:=.cond (.t 10) Vy .skip
def VA:aa:=.cond (.t 14) .skip (.exit 0)
def VB:aa:=au [cC 4 false] [4] .ret
def VC:aa:=.cond (.t 25) VB .skip
def VD:aa:=.b9 [af 15 5,bI 16 .add 3 15 1,aM 5 16] (some [0,1,5])
def VE:aa:=.seq (.block 1 (nr [af 17 0,af 18 5,gi 19 23 17 18,dp 20 2 19,af 21 1,af 22 5,gi 23 23 21 22,dp 24 2 23,cM 25 .neq 2 20 24] [[],[],[0,1],[2],[],[],[4,5],[6],[3,7]] [0,1,5,25] VC)) VD
def FJ:aa:=.seq (au [af 11 5,af 12 0,cS 13 23 12,cM 14 .lss 3 11 13] [0,1,5,14] VA) VE
def VF:aa:=.block 0 (.loop FJ)
def VG:aa:=au [cC 4 true] [4] .ret
def VH:aa:=.seq (au [cc 5 0] [0,1,5] VF) VG
def VI:aa:=.seq (au [af 6 0,cS 7 23 6,af 8 1,cS 9 23 8,cM 10 .neq 3 7 9] [0,1,10] Vz) VH
def VJ:aa:=au [cC 4 false] [0,1] VI
theorem VK:bS ⟨26,[0,1]⟩ (Tryz.f15.body.getD .skip)=some VJ.strip:=by kernel_rfl
def VL:aa:=au [ro 2 (.dM (.c (.str [109,48])))] [2] .ret
def VM:aa:=.cond (.t 5) VL .skip
def VN:aa:=.cond (.t 7) .skip (.exit 0)
def VO:aa:=.b9 [af 16 0,bI 17 .quo 3 16 10,aM 0 17] (some [0,3])
def VP:aa:=.block 1 (au [af 8 0,bI 9 .rem 3 8 10,ro 10 (.bB .add 3 (.c (.int .i64 48)) (.t 9)),zJ 11 3 5 10,tL 12 143 11,zJ 13 143 9 12,af 14 3,cM 15 .add 9 13 14,aM 3 15] [0,3] VO)
def FK:aa:=.seq (au [af 6 0,bI 7 .gtr 3 6 0] [0,3,7] VN) VP
def VQ:aa:=au [af 18 3,ro 19 (.bB .add 9 (.c (.str [109])) (.t 18)),aM 2 19] [2] .ret
def VR:aa:=.seq (.block 0 (.loop FK)) VQ
def VS:aa:=au [ro 3 (.dM (.c (.str [])))] [0,3] VR
def VT:aa:=.seq (au [af 4 0,bI 5 .leq 3 4 0] [0,5] VM) VS
def VU:aa:=au [ro 2 (.dM (.c (.str [])))] [0] VT
theorem VV:bS ⟨20,[]⟩ (Tryz.f56.body.getD .skip)=some VU.strip:=by kernel_rfl
def VW:aa:=.cond (.t 9) .skip (.exit 0)
def VX:aa:=.b9 [af 17 1,bI 18 .add 3 17 1,aM 1 18] (some [0,1,5])
def VY:aa:=.b9 [af 10 5,bI 11 .add 3 10 1,aM 5 11] (some [0,1,5])
def VZ:aa:=.seq (.block 1 (au [af 12 0,af 13 5,af 14 1,fS 15 56 14,gi 16 22 12 13,jg 9 16 15] [0,1,5] VX)) VY
def FL:aa:=.seq (au [af 6 5,af 7 0,cS 8 22 7,cM 9 .lss 3 6 8] [0,1,5,9] VW) VZ
def V0:aa:=.block 0 (.loop FL)
def V1:aa:=au [af 19 1,aM 4 19] [0,4] .ret
def V2:aa:=.seq (au [cc 5 0] [0,1,5] V0) V1
def V3:aa:=au [cc 4 0] [0,1] V2
theorem qy:bS ⟨20,[0]⟩ (Tryz.f25.body.getD .skip)=some V3.strip:=by kernel_rfl
def V4:aa:=.cond (.t 9) .skip (.exit 0)
def V5:aa:=.b9 [af 16 1,bI 17 .add 3 16 1,aM 1 17] (some [0,1,5])
def V6:aa:=.b9 [af 10 5,bI 11 .add 3 10 1,aM 5 11] (some [0,1,5])
def V7:aa:=.seq (.block 1 (au [af 12 0,af 13 5,af 14 1,gi 15 23 12 13,jg 2 15 14] [0,1,5] V5)) V6
def FM:aa:=.seq (au [af 6 5,af 7 0,cS 8 23 7,cM 9 .lss 3 6 8] [0,1,5,9] V4) V7
def V8:aa:=.block 0 (.loop FM)
def V9:aa:=au [af 18 1,aM 4 18] [0,4] .ret
def V_:aa:=.seq (au [cc 5 0] [0,1,5] V8) V9
def Wa:aa:=au [cc 4 0] [0,1] V_
theorem lo:bS ⟨19,[0]⟩ (Tryz.f26.body.getD .skip)=some Wa.strip:=by kernel_rfl
def Wb:aa:=.cond (.t 9) .skip (.exit 0)
def Wc:aa:=au [cc 4 (-1)] [4] .ret
def Wd:aa:=.cond (.t 18) Wc .skip
def We:aa:=.b9 [af 19 1,bI 20 .add 3 19 1,aM 1 20] (some [0,1,5])
def Wf:aa:=.b9 [af 10 5,bI 11 .add 3 10 1,aM 5 11] (some [0,1,5])
def Wg:aa:=.seq (.block 1 (.seq (nr [af 12 0,af 13 5,gi 14 22 12 13,dp 15 9 14,af 16 1,fS 17 56 16,cM 18 .neq 9 15 17] [[],[],[0,1],[2],[],[4],[3,5]] [0,1,5,18] Wd) We)) Wf
def FN:aa:=.seq (au [af 6 5,af 7 0,cS 8 22 7,cM 9 .lss 3 6 8] [0,1,5,9] Wb) Wg
def Wh:aa:=.block 0 (.loop FN)
def Wi:aa:=au [af 21 1,aM 4 21] [4] .ret
def Wj:aa:=.seq (au [cc 5 0] [0,1,5] Wh) Wi
def Wk:aa:=au [cc 4 0] [0,1] Wj
theorem qz:bS ⟨22,[0]⟩ (Tryz.f27.body.getD .skip)=some Wk.strip:=by kernel_rfl
def Wl:aa:=au [cC 4 true] [4] .ret
def Wm:aa:=.cond (.t 22) Wl .skip
def Wn:aa:=au [cC 4 true] [4] .ret
def Wo:aa:=.cond (.t 27) Wn .skip
def Wp:aa:=au [cC 4 false] [4] .ret
def Wq:aa:=.cond (.t 61) Wp .skip
def Wr:aa:=au [cC 4 false] [4] .ret
def Ws:aa:=.cond (.t 66) Wr .skip
def Wt:aa:=au [cC 4 false] [4] .ret
def Wu:aa:=.cond (.t 71) Wt .skip
def Wv:aa:=au [cC 4 false] [4] .ret
def Ww:aa:=.cond (.t 95) Wv .skip
def Wx:aa:=au [cC 4 false] [4] .ret
def Wy:aa:=.cond (.t 103) Wx .skip
def Wz:aa:=au [cC 4 false] [4] .ret
def WA:aa:=.cond (.t 106) Wz .skip
def WB:aa:=au [cC 4 false] [4] .ret
def WC:aa:=.cond (.t 129) WB .skip
def WD:aa:=au [cC 4 false] [4] .ret
def WE:aa:=.cond (.t 134) WD .skip
def WG:aa:=au [cC 4 false] [4] .ret
def WH:aa:=.cond (.t 137) WG .skip
def WI:aa:=au [cC 4 true] [4] .ret
def WJ:aa:=.seq (au [af 135 16,af 136 15,cM 137 .neq 3 135 136] [137] WH) WI
def WK:aa:=.seq (au [af 133 16,bI 134 .lss 3 133 0] [15,16,134] WE) WJ
def WL:aa:=au [af 130 11,af 131 16,dr 132 27 130 131,aM 16 132] [15,16] WK
def WM:aa:=au [cc 16 1] [11,15,16] WL
def WN:aa:=.seq (au [af 116 17,af 117 6,dr 118 14 116 117,hW 119 118,af 120 119,cN 121 120 (.bZ (.t 18)),cN 122 120 (.bZ (.t 7)),cN 123 120 (.bB .neq 2 (.t 121) (.t 122)),ro 124 (.pick (.t 120) (.c (.bool true)) (.t 123)),af 125 124,cN 126 125 (.bZ (.t 19)),cN 127 125 (.bZ (.t 8)),cN 128 125 (.bB .neq 2 (.t 126) (.t 127)),ro 129 (.pick (.t 125) (.c (.bool true)) (.t 128))] [11,15,129] WC) WM
def WO:aa:=au [af 108 0,fS 109 11 108,af 110 1,fS 111 12 110,dr 112 24 109 111,af 107 112,fo 113 107 0,fo 114 107 1,fo 115 107 2,aM 17 113,aM 18 114,aM 19 115] [6,7,8,11,15,17,18,19] WN
def WQ:aa:=.seq (au [af 104 16,af 105 15,cM 106 .neq 3 104 105] [0,1,6,7,8,11,15,106] WA) WO
def WR:aa:=.seq (au [af 102 16,bI 103 .lss 3 102 0] [0,1,6,7,8,11,15,16,103] Wy) WQ
def WS:aa:=au [af 99 11,af 100 16,dr 101 27 99 100,aM 16 101] [0,1,6,7,8,11,15,16] WR
def WT:aa:=au [cc 16 1] [0,1,6,7,8,11,15,16] WS
def WU:aa:=au [af 96 11,af 97 15,dr 98 25 96 97,aM 15 98] [0,1,6,7,8,11,15] WT
def WV:aa:=au [cc 15 1] [0,1,6,7,8,11,15] WU
def WW:aa:=.seq (au [af 78 14,bI 79 .lss 3 78 0,af 80 79,cN 81 80 (.bZ (.t 11)),cN 82 80 (.bZ (.t 6)),⟨some 83,.call (.f 14) [(.t 81),(.t 82)],some (80,false)⟩,cN 84 80 (.un .not (.t 83)),ro 85 (.pick (.t 80) (.c (.bool true)) (.t 84)),af 86 85,cN 87 86 (.bZ (.t 12)),cN 88 86 (.bZ (.t 7)),cN 89 86 (.bB .neq 2 (.t 87) (.t 88)),ro 90 (.pick (.t 86) (.c (.bool true)) (.t 89)),af 91 90,cN 92 91 (.bZ (.t 13)),cN 93 91 (.bZ (.t 8)),cN 94 91 (.bB .neq 2 (.t 92) (.t 93)),ro 95 (.pick (.t 91) (.c (.bool true)) (.t 94))] [0,1,6,7,8,11,95] Ww) WV
def WX:aa:=au [af 75 10,af 76 14,dr 77 26 75 76,aM 14 77] [0,1,6,7,8,11,12,13,14] WW
def WY:aa:=au [af 72 9,af 73 14,dr 74 25 72 73,aM 14 74] [0,1,6,7,8,10,11,12,13,14] WX
def WZ:aa:=au [cc 14 1] [0,1,6,7,8,9,10,11,12,13,14] WY
def W0:aa:=.seq (au [af 67 10,af 68 1,fS 69 12 68,dr 70 15 67 69,hW 71 70] [0,1,6,7,8,9,10,11,12,13,71] Wu) WZ
def W1:aa:=.seq (au [af 62 9,af 63 0,fS 64 11 63,dr 65 14 62 64,hW 66 65] [0,1,6,7,8,9,10,11,12,13,66] Ws) W0
def W2:aa:=.seq (au [af 48 11,af 49 6,dr 50 14 48 49,hW 51 50,af 52 51,cN 53 52 (.bZ (.t 12)),cN 54 52 (.bZ (.t 7)),cN 55 52 (.bB .neq 2 (.t 53) (.t 54)),ro 56 (.pick (.t 52) (.c (.bool true)) (.t 55)),af 57 56,cN 58 57 (.bZ (.t 13)),cN 59 57 (.bZ (.t 8)),cN 60 57 (.bB .neq 2 (.t 58) (.t 59)),ro 61 (.pick (.t 57) (.c (.bool true)) (.t 60))] [0,1,6,7,8,9,10,11,12,13,61] Wq) W1
def W3:aa:=au [af 42 9,af 43 10,dr 44 24 42 43,af 41 44,fo 45 41 0,fo 46 41 1,fo 47 41 2,aM 11 45,aM 12 46,aM 13 47] [0,1,6,7,8,9,10,11,12,13] W2
def W4:aa:=au [af 39 1,fS 40 12 39,aM 10 40] [0,1,6,7,8,9,10] W3
def W5:aa:=au [af 37 0,fS 38 11 37,aM 9 38] [0,1,6,7,8,9] W4
def W6:aa:=au [af 29 0,fS 30 11 29,af 31 1,fS 32 12 31,dr 33 23 30 32,af 28 33,fo 34 28 0,fo 35 28 1,fo 36 28 2,aM 6 34,aM 7 35,aM 8 36] [0,1,6,7,8] W5
def W7:aa:=.seq (au [af 26 5,bI 27 .lss 3 26 0] [0,1,27] Wo) W6
def W8:aa:=au [af 23 0,af 24 5,dr 25 9 23 24,aM 5 25] [0,1,5] W7
def W9:aa:=au [cc 5 1048576] [0,1,5] W8
def W_:aa:=.seq (au [af 20 1,cS 21 23 20,bI 22 .gtr 3 21 1048576] [0,1,22] Wm) W9
def tg:aa:=au [cC 4 false] [0,1] W_
theorem qA:bS ⟨138,[0,1]⟩ (Tryz.f6.body.getD .skip)=some tg.strip:=by kernel_rfl
def Xa:=PLift.up (And.intro @Bool.not_true @Bool.not_false)
def lY:=PLift.up (And.intro @List.length_append.{0} (And.intro @List.length_cons.{0} (And.intro @List.length_nil.{0} (And.intro @List.length_map.{0,0} (And.intro @List.length_replicate.{0} (And.intro @Nat.zero_add @Nat.add_zero))))))
end Go.Proofs.YtipllbfpaepajaaGreatDoor
