/- Part of a proof that a law returns true for every input. No condition. -/
import Derived.Test.YtipllbfpaepajaaGreatDoorTb
import Derived.Test.YtipllbfpaepajaaGreatDoorFwL
import Derived.Test.YtipllbfpaepajaaGreatDoorP3
namespace Go.Proofs.YtipllbfpaepajaaGreatDoor
open Go Go.b9 Go.e3
set_option linter.unusedSimpArgs false
def bg (x:List UInt8):I:=.str x
theorem rP (x:List UInt8):(bg x).share=bg x:=by
 simp only[bg,hk]
theorem Zh (x:List UInt8):(bg x).dc=true:=by
 simp only[bg,I.dc,I.lF,Bool.and_self]
def ba (x:Int):I:=.int .i64 x
theorem tF (x:Int):(ba x).share=ba x:=by
 simp only[ba,hk]
theorem LL (x:Int):(ba x).dc=true:=by
 simp only[ba,I.dc,I.lF,Bool.and_self]
def au (r:List bm) (k:List Nat) (c:ab):ab:=.seq (.ch r (some k)) c
def p1 (r:List bm) (a:List (List Nat)) (k:List Nat) (c:ab):ab:=.seq (.iG r a (some k)) c
abbrev b1 (d t:Nat) (o:dZ):bm:=⟨some d,o,some (t,true)⟩
abbrev dB (d t:Nat) (o:dZ):bm:=⟨some d,o,some (t,false)⟩
abbrev Zi (n:Nat) (k:List Nat) (f:Func) (c:ab):Prop:=bV ⟨n,k⟩ (f.body.getD .skip)=some c.strip
def LM:ab:=au [ck 4 (-1)] [4] .ret
def LN:ab:=.cond (.t 11) LM .skip
def LO:ab:=.cond (.t 15) .skip (.exit 0)
def LP:ab:=au [ck 4 (-1)] [4] .ret
def LQ:ab:=.cond (.t 26) LP .skip
def LR:ab:=au [ag 25 1,bW 26 .lss 3 25 0] [0,1,5,26] LQ
def LS:ab:=.ch [ag 16 5,bW 17 .add 3 16 1,aP 5 17] (some [0,1,5])
def LU:ab:=.seq (.block 1 (au [ag 18 1,ag 19 0,ag 20 5,gz 21 22 19 20,du 22 9 21,cS 23 9 22,cT 24 .sub 3 18 23,aP 1 24] [0,1,5] LR)) LS
def Ee:ab:=.seq (au [ag 12 5,ag 13 0,cS 14 22 13,cT 15 .lss 3 12 14] [0,1,5,15] LO) LU
def LV:ab:=.block 0 (.loop Ee)
def LW:ab:=au [ag 27 1,aP 4 27] [4] .ret
def LX:ab:=.seq (au [ck 5 0] [0,1,5] LV) LW
def LY:ab:=.seq (au [ag 10 1,bW 11 .lss 3 10 0] [0,1,11] LN) LX
def LZ:ab:=au [ag 6 1,ag 7 0,cS 8 22 7,cT 9 .sub 3 6 8,aP 1 9] [0,1] LY
def c9:ab:=au [ck 4 0] [0,1] LZ
theorem L0:bV ⟨28,[0]⟩ (Tryz.f9.body.getD .skip)=some c9.strip:=by kernel_rfl
def L1:ab:=.cond (.t 11) .skip (.exit 0)
def L2:ab:=.ch [ag 12 4,bW 13 .add 3 12 1,aP 4 13] (some [0,3,4])
def L3:ab:=.seq (.block 1 (.ch [ag 14 3,ag 15 4,ag 16 0,ag 17 4,gz 18 22 16 17,du 19 9 18,gz 20 22 14 15,jC 9 20 19] (some [0,3,4]))) L2
def Ef:ab:=.seq (au [ag 8 4,ag 9 0,cS 10 22 9,cT 11 .lss 3 8 10] [0,3,4,11] L1) L3
def L4:ab:=.block 0 (.loop Ef)
def L5:ab:=au [ag 21 3,aP 2 21] [2] .ret
def L6:ab:=.seq (au [ck 4 0] [0,3,4] L4) L5
def L7:ab:=au [ag 5 0,cS 6 22 5,ro 7 (.eh 22 (.t 6) (.t 6)),aP 3 7] [0,3] L6
def L8:ab:=au [ja 2] [0] L7
theorem L9:bV ⟨22,[0]⟩ (Tryz.f11.body.getD .skip)=some L8.strip:=by kernel_rfl
def L_:ab:=.cond (.t 11) .skip (.exit 0)
def Ma:ab:=.ch [ag 12 4,bW 13 .add 3 12 1,aP 4 13] (some [0,3,4])
def Mb:ab:=.seq (.block 1 (.ch [ag 14 3,ag 15 4,ag 16 0,ag 17 4,gz 18 23 16 17,du 19 2 18,gz 20 23 14 15,jC 2 20 19] (some [0,3,4]))) Ma
def Eg:ab:=.seq (au [ag 8 4,ag 9 0,cS 10 23 9,cT 11 .lss 3 8 10] [0,3,4,11] L_) Mb
def Mc:ab:=.block 0 (.loop Eg)
def Md:ab:=au [ag 21 3,aP 2 21] [2] .ret
def Me:ab:=.seq (au [ck 4 0] [0,3,4] Mc) Md
def Mf:ab:=au [ag 5 0,cS 6 23 5,ro 7 (.eh 23 (.t 6) (.t 6)),aP 3 7] [0,3] Me
def c12:ab:=au [ja 2] [0] Mf
theorem Mg:bV ⟨22,[0]⟩ (Tryz.f12.body.getD .skip)=some c12.strip:=by kernel_rfl
def Mh:ab:=.cond (.t 7) .skip (.exit 0)
def Mi:ab:=au [ag 14 3,aP 2 14] [2] .ret
def Mj:ab:=.cond (.t 13) Mi .skip
def Mk:ab:=.ch [ag 8 3,bW 9 .add 3 8 1,aP 3 9] (some [0,3])
def Ml:ab:=.seq (.block 1 (au [ag 10 0,ag 11 3,oB 12 9 10 11,ro 13 (.bG .eql 5 (.t 12) (.c (.int .u8 40)))] [0,3,13] Mj)) Mk
def Eh:ab:=.seq (au [ag 4 3,ag 5 0,cS 6 9 5,cT 7 .lss 3 4 6] [0,3,7] Mh) Ml
def Mm:ab:=.block 0 (.loop Eh)
def Mn:ab:=au [ag 15 0,cS 16 9 15,aP 2 16] [2] .ret
def Mo:ab:=.seq (au [ck 3 0] [0,3] Mm) Mn
def Mp:ab:=au [ck 2 0] [0] Mo
theorem Mq:bV ⟨17,[0]⟩ (Tryz.f176.body.getD .skip)=some Mp.strip:=by kernel_rfl
def Mr:ab:=au [ag 3 0,ro 4 (.bG .geq 5 (.t 3) (.c (.int .u8 97))),ag 5 4,b1 6 5 (.b8 (.t 0)),b1 7 5 (.bG .leq 5 (.t 6) (.c (.int .u8 122))),ro 8 (.pick (.t 5) (.t 7) (.c (.bool false))),aP 2 8] [2] .ret
def c143:ab:=au [cJ 2 false] [0] Mr
theorem Ms:bV ⟨9,[0]⟩ (Tryz.f143.body.getD .skip)=some c143.strip:=by kernel_rfl
def Mt:ab:=au [ag 3 0,ro 4 (.bG .geq 5 (.t 3) (.c (.int .u8 48))),ag 5 4,b1 6 5 (.b8 (.t 0)),b1 7 5 (.bG .leq 5 (.t 6) (.c (.int .u8 57))),ro 8 (.pick (.t 5) (.t 7) (.c (.bool false))),aP 2 8] [2] .ret
def Mu:ab:=au [cJ 2 false] [0] Mt
theorem Mv:bV ⟨9,[0]⟩ (Tryz.f144.body.getD .skip)=some Mu.strip:=by kernel_rfl
def Mw:ab:=au [cJ 2 false] [2] .ret
def Mx:ab:=.cond (.t 16) Mw .skip
def My:ab:=.cond (.t 20) .skip (.exit 0)
def Mz:ab:=au [cJ 2 false] [2] .ret
def MA:ab:=.cond (.t 34) Mz .skip
def MB:ab:=.ch [ag 21 3,bW 22 .add 3 21 1,aP 3 22] (some [0,3])
def MC:ab:=.seq (.block 1 (au [ag 23 0,ag 24 3,oB 25 9 23 24,gA 26 143 25,h8 27 26,ag 28 27,b1 29 28 (.b8 (.t 0)),b1 30 28 (.b8 (.t 3)),b1 31 28 (.idx 9 (.t 29) (.t 30)),⟨some 32,.call (.f 144) [(.t 31)],some (28,true)⟩,b1 33 28 (.un .not (.t 32)),ro 34 (.pick (.t 28) (.t 33) (.c (.bool false)))] [0,3,34] MA)) MB
def Ei:ab:=.seq (au [ag 17 3,ag 18 0,cS 19 9 18,cT 20 .lss 3 17 19] [0,3,20] My) MC
def MD:ab:=.block 0 (.loop Ei)
def ME:ab:=au [cJ 2 true] [2] .ret
def MF:ab:=.seq (au [ck 3 0] [0,3] MD) ME
def MG:ab:=.seq (au [ag 4 0,ro 5 (.bG .eql 9 (.t 4) (.c (.str []))),ag 6 5,dB 7 6 (.b8 (.t 0)),dB 8 6 (.len 9 (.t 7)),dB 9 6 (.bG .gtr 3 (.t 8) (.c (.int .i64 10))),ro 10 (.pick (.t 6) (.c (.bool true)) (.t 9)),ag 11 10,dB 12 11 (.b8 (.t 0)),dB 13 11 (.idx 9 (.t 12) (.c (.int .i64 0))),⟨some 14,.call (.f 143) [(.t 13)],some (11,false)⟩,dB 15 11 (.un .not (.t 14)),ro 16 (.pick (.t 11) (.c (.bool true)) (.t 15))] [0,16] Mx) MF
def MH:ab:=au [cJ 2 false] [0] MG
theorem MI:bV ⟨35,[0]⟩ (Tryz.f94.body.getD .skip)=some MH.strip:=by kernel_rfl
def MJ:ab:=au [ag 3 0,gA 4 94 3,ag 5 4,b1 6 5 (.b8 (.t 0)),⟨some 7,.bG .neq 9 (.t 6) (.c (.str [116,97,117])),some (5,true)⟩,ro 8 (.pick (.t 5) (.t 7) (.c (.bool false))),aP 2 8] [2] .ret
def MK:ab:=au [cJ 2 false] [0] MJ
theorem ML:bV ⟨9,[0]⟩ (Tryz.f177.body.getD .skip)=some MK.strip:=by kernel_rfl
def MM:ab:=.cond (.t 12) .skip (.exit 0)
def MN:ab:=.ch [ag 27 7,bW 28 .add 3 27 1,aP 6 28] (some [0,1,5,6,7])
def MO:ab:=au [ag 20 5,ag 21 0,ag 22 6,ag 23 7,ro 24 (.cC 9 (.t 21) (some (.t 22)) (some (.t 23))),vh 25 22 24,vi 26 22 22 20 25,aP 5 26] [0,1,5,7] MN
def MP:ab:=.cond (.t 19) MO .skip
def Ej:ab:=.ch [ag 13 7,bW 14 .add 3 13 1,aP 7 14] (some [0,1,5,6,7])
def MQ:ab:=.seq (.block 1 (au [ag 15 0,ag 16 7,oB 17 9 15 16,ag 18 1,cT 19 .eql 5 17 18] [0,1,5,6,7,19] MP)) Ej
def Ek:ab:=.seq (au [ag 9 7,ag 10 0,cS 11 9 10,cT 12 .lss 3 9 11] [0,1,5,6,7,12] MM) MQ
def MR:ab:=.block 0 (.loop Ek)
def MS:ab:=au [ag 29 5,ag 30 0,ag 31 6,ro 32 (.cC 9 (.t 30) (some (.t 31)) none),vh 33 22 32,vi 34 22 22 29 33,aP 4 34] [4] .ret
def MT:ab:=.seq (au [ck 7 0] [0,1,5,6,7] MR) MS
def MU:ab:=au [ck 6 0] [0,1,5,6] MT
def MV:ab:=au [ro 8 (.df 22 0 []),aP 5 8] [0,1,5] MU
def MW:ab:=au [ja 4] [0,1] MV
theorem MX:bV ⟨35,[0,1]⟩ (Tryz.f129.body.getD .skip)=some MW.strip:=by kernel_rfl
def MY:ab:=.ch [ck 4 1] (some [0,4])
def MZ:ab:=.cond (.t 14) MY .skip
def M0:ab:=au [ck 2 0,cJ 3 false] [2,3] .ret
def M1:ab:=.cond (.t 36) M0 .skip
def M3:ab:=.cond (.t 41) .skip (.exit 0)
def M4:ab:=au [ck 2 0,cJ 3 false] [2,3] .ret
def M5:ab:=.cond (.t 48) M4 .skip
def M6:ab:=.ch [ag 49 5,ro 50 (.bG .mul 2 (.c (.int .i64 10)) (.t 49)),ag 51 0,ag 52 6,oB 53 9 51 52,ro 54 (.bG .sub 5 (.t 53) (.c (.int .u8 48))),Lv 55 5 2 54,cT 56 .add 2 50 55,aP 5 56] (some [0,4,5,6])
def M7:ab:=.ch [ag 42 6,bW 43 .add 3 42 1,aP 6 43] (some [0,4,5,6])
def M8:ab:=.seq (.block 1 (.seq (au [ag 44 0,ag 45 6,oB 46 9 44 45,gA 47 144 46,h8 48 47] [0,4,5,6,48] M5) M6)) M7
def zn:ab:=.seq (au [ag 38 6,ag 39 0,cS 40 9 39,cT 41 .lss 3 38 40] [0,4,5,6,41] M3) M8
def M9:ab:=.block 0 (.loop zn)
def M_:ab:=.ch [ag 59 5,ro 60 (.un .neg (.t 59)),aP 5 60] (some [5])
def Na:ab:=.cond (.t 58) M_ .skip
def zo:ab:=au [ag 61 5,aP 2 61,cJ 3 true] [2,3] .ret
def Nb:ab:=.seq (au [ag 57 4,bW 58 .eql 3 57 1] [5,58] Na) zo
def Nc:ab:=.seq (au [ag 37 4,aP 6 37] [0,4,5,6] M9) Nb
def Nd:ab:=au [ck 5 0] [0,4,5] Nc
def El:ab:=.seq (au [ag 15 0,cS 16 9 15,ag 17 4,cT 18 .eql 3 16 17,ag 19 18,dB 20 19 (.b8 (.t 0)),dB 21 19 (.len 9 (.t 20)),dB 22 19 (.b8 (.t 4)),dB 23 19 (.bG .sub 3 (.t 21) (.t 22)),dB 24 19 (.bG .gtr 3 (.t 23) (.c (.int .i64 18))),ro 25 (.pick (.t 19) (.c (.bool true)) (.t 24)),ag 26 25,dB 27 26 (.b8 (.t 0)),dB 28 26 (.b8 (.t 4)),dB 29 26 (.idx 9 (.t 27) (.t 28)),dB 30 26 (.bG .eql 5 (.t 29) (.c (.int .u8 48))),dB 31 26 (.b8 (.t 30)),b1 32 31 (.b8 (.t 0)),b1 33 31 (.len 9 (.t 32)),b1 34 31 (.bG .gtr 3 (.t 33) (.c (.int .i64 1))),dB 35 26 (.pick (.t 31) (.t 34) (.c (.bool false))),ro 36 (.pick (.t 26) (.c (.bool true)) (.t 35))] [0,4,36] M1) Nd
def Nf:ab:=.seq (au [ag 7 0,cS 8 9 7,bW 9 .gtr 3 8 0,ag 10 9,b1 11 10 (.b8 (.t 0)),b1 12 10 (.idx 9 (.t 11) (.c (.int .i64 0))),b1 13 10 (.bG .eql 5 (.t 12) (.c (.int .u8 45))),ro 14 (.pick (.t 10) (.t 13) (.c (.bool false)))] [0,4,14] MZ) El
def Ng:ab:=au [ck 4 0] [0,4] Nf
def c130:ab:=au [ck 2 0,cJ 3 false] [0] Ng
theorem Nh:bV ⟨62,[0]⟩ (Tryz.f130.body.getD .skip)=some c130.strip:=by kernel_rfl
def Ni:ab:=au [ag 7 0,ag 8 1,cT 9 .geq 2 7 8,ag 10 9,b1 11 10 (.b8 (.t 0)),b1 12 10 (.b8 (.t 2)),b1 13 10 (.bG .leq 2 (.t 11) (.t 12)),ro 14 (.pick (.t 10) (.t 13) (.c (.bool false))),aP 6 14] [6] .ret
def Nj:ab:=au [cJ 6 false] [0,1,2] Ni
theorem Nk:bV ⟨15,[0,1,2]⟩ (Tryz.f81.body.getD .skip)=some Nj.strip:=by kernel_rfl
def Nl:ab:=au [ro 16 (.df 23 0 []),ag 17 0,gA 18 94 17,aP 2 16,aP 3 18] [2,3] .ret
def Nn:ab:=.cond (.t 15) Nl .skip
def Np:ab:=au [ja 2,cJ 3 false] [2,3] .ret
def Nq:ab:=.cond (.t 31) Np .skip
def Nr:ab:=.cond (.t 44) .skip (.exit 0)
def Ns:ab:=au [ja 2,cJ 3 false] [2,3] .ret
def Nt:ab:=.cond (.t 61) Ns .skip
def Nu:ab:=.ch [ag 62 6,ag 63 8,vh 64 23 63,vi 65 23 23 62 64,aP 6 65] (some [5,6,7])
def Nv:ab:=.seq (au [ag 55 9,h8 56 55,ag 57 56,dB 58 57 (.b8 (.t 8)),⟨some 59,.call (.f 81) [(.t 58),(.c (.int .i64 0)),(.c (.int .i64 63))],some (57,false)⟩,dB 60 57 (.un .not (.t 59)),ro 61 (.pick (.t 57) (.c (.bool true)) (.t 60))] [5,6,7,8,61] Nt) Nu
def Nw:ab:=.ch [ag 45 7,bW 46 .add 3 45 1,aP 7 46] (some [5,6,7])
def Nx:ab:=.seq (.block 1 (au [ag 48 5,ag 49 7,gz 50 22 48 49,du 51 9 50,gA 52 130 51,ag 47 52,fN 53 47 0,fN 54 47 1,aP 8 53,aP 9 54] [5,6,7,8,9] Nv)) Nw
def Em:ab:=.seq (au [ag 41 7,ag 42 5,cS 43 22 42,cT 44 .lss 3 41 43] [5,6,7,44] Nr) Nx
def Ny:ab:=.block 0 (.loop Em)
def Nz:ab:=au [ag 66 6,ag 67 6,cS 68 23 67,bW 69 .leq 3 68 2,aP 2 66,aP 3 69] [2,3] .ret
def NA:ab:=.seq (au [ck 7 0] [5,6,7] Ny) Nz
def NB:ab:=au [ro 40 (.df 23 0 []),aP 6 40] [5,6] NA
def NC:ab:=au [ag 32 0,ag 33 4,bW 34 .add 3 33 1,ag 35 0,cS 36 9 35,bW 37 .sub 3 36 1,ro 38 (.cC 9 (.t 32) (some (.t 34)) (some (.t 37))),ro 39 (.call (.f 129) [(.t 38),(.c (.int .u8 44))]),aP 5 39] [5] NB
def ND:ab:=.seq (au [ag 19 0,ag 20 4,ro 21 (.cC 9 (.t 19) none (some (.t 20))),gA 22 177 21,h8 23 22,ag 24 23,dB 25 24 (.b8 (.t 0)),dB 26 24 (.b8 (.t 0)),dB 27 24 (.len 9 (.t 26)),dB 28 24 (.bG .sub 3 (.t 27) (.c (.int .i64 1))),dB 29 24 (.idx 9 (.t 25) (.t 28)),dB 30 24 (.bG .neq 5 (.t 29) (.c (.int .u8 41))),ro 31 (.pick (.t 24) (.c (.bool true)) (.t 30))] [0,4,31] Nq) NC
def NF:ab:=.seq (au [ag 12 4,ag 13 0,cS 14 9 13,cT 15 .eql 3 12 14] [0,4,15] Nn) ND
def NG:ab:=au [ag 10 0,gA 11 176 10,aP 4 11] [0,4] NF
def NH:ab:=au [ja 2,cJ 3 false] [0] NG
theorem NI:bV ⟨70,[0]⟩ (Tryz.f120.body.getD .skip)=some NH.strip:=by kernel_rfl
def NJ:ab:=au [ag 10 4,aP 2 10] [2] .ret
def NK:ab:=au [ag 6 0,gA 7 120 6,ag 5 7,fN 8 5 0,fN 9 5 1,aP 3 8,aP 4 9] [4] NJ
def c80:ab:=au [cJ 2 false] [0] NK
theorem NL:bV ⟨11,[0]⟩ (Tryz.f80.body.getD .skip)=some c80.strip:=by kernel_rfl
def NM:ab:=au [ck 4 2] [4] .ret
def NN:ab:=.cond (.t 9) NM .skip
def NO:ab:=.cond (.t 13) .skip (.exit 0)
def NP:ab:=au [ck 4 2] [4] .ret
def NQ:ab:=.cond (.t 21) NP .skip
def NR:ab:=.ch [ag 14 5,bW 15 .add 3 14 1,aP 5 15] (some [0,1,5])
def NS:ab:=.seq (.block 1 (au [ag 16 0,ag 17 5,gz 18 22 16 17,du 19 9 18,gA 20 80 19,h8 21 20] [0,1,5,21] NQ)) NR
def En:ab:=.seq (au [ag 10 5,ag 11 0,cS 12 22 11,cT 13 .lss 3 10 12] [0,1,5,13] NO) NS
def NT:ab:=.block 0 (.loop En)
def NU:ab:=au [ck 4 7] [4] .ret
def NV:ab:=.cond (.t 24) NU .skip
def NW:ab:=.cond (.t 28) .skip (.exit 2)
def NX:ab:=au [ck 4 7] [4] .ret
def NY:ab:=.cond (.t 36) NX .skip
def NZ:ab:=.ch [ag 29 6,bW 30 .add 3 29 1,aP 6 30] (some [1,6])
def N0:ab:=.seq (.block 3 (au [ag 31 1,ag 32 6,gz 33 23 31 32,du 34 2 33,ro 35 (.call (.f 81) [(.t 34),(.c (.int .i64 0)),(.c (.int .i64 3))]),h8 36 35] [1,6,36] NY)) NZ
def Eo:ab:=.seq (au [ag 25 6,ag 26 1,cS 27 23 26,cT 28 .lss 3 25 27] [1,6,28] NW) N0
def N1:ab:=.block 2 (.loop Eo)
def N2:ab:=au [ck 4 0] [4] .ret
def N3:ab:=.seq (au [ck 6 0] [1,6] N1) N2
def N4:ab:=.seq (au [ag 22 1,cS 23 23 22,bW 24 .gtr 3 23 200] [1,24] NV) N3
def N5:ab:=.seq (au [ck 5 0] [0,1,5] NT) N4
def N6:ab:=.seq (au [ag 7 0,cS 8 22 7,bW 9 .gtr 3 8 60] [0,1,9] NN) N5
def c49:ab:=au [ck 4 0] [0,1] N6
theorem N7:bV ⟨37,[0,1]⟩ (Tryz.f49.body.getD .skip)=some c49.strip:=by kernel_rfl
def N8:ab:=au [ag 8 0,aP 4 8] [4] .ret
def N9:ab:=.cond (.t 7) N8 .skip
def N_:ab:=au [ag 9 1,aP 4 9] [4] .ret
def Oa:ab:=.seq (au [ag 5 0,ag 6 1,cT 7 .gtr 2 5 6] [0,1,7] N9) N_
def Ob:ab:=au [ck 4 0] [0,1] Oa
theorem Oc:bV ⟨10,[0,1]⟩ (Tryz.f121.body.getD .skip)=some Ob.strip:=by kernel_rfl
def Od:ab:=.ch [ag 10 0,dS 11 10,dR 12 94 11 2,du 13 2 12,bW 14 .add 2 13 1,dS 15 10,dR 16 94 15 2,jC 2 16 14] (some [0])
def Oe:ab:=.cond (.t 9) Od .skip
def Ep:ab:=.ch [ag 17 0,ag 18 0,dS 19 18,dR 20 94 19 2,du 21 2 20,dS 22 17,dR 23 94 22 5,jC 2 23 21] (some [0])
def Of:ab:=.seq (au [ag 4 1,ag 5 0,dS 6 5,dR 7 94 6 2,du 8 2 7,cT 9 .eql 2 4 8] [0,9] Oe) Ep
theorem Og:bV ⟨24,[0,1]⟩ (Tryz.f122.body.getD .skip)=some Of.strip:=by kernel_rfl
def Oh:ab:=.ch [ag 28 0,ag 29 0,dS 30 29,dR 31 94 30 1,du 32 2 31,ag 33 6,ea 34 121 32 33,dS 35 28,dR 36 94 35 1,jC 2 36 34] (some [0,1,2,7])
def Oi:ab:=.cond (.t 27) Oh .skip
def Oj:ab:=.ch [ag 39 0,ag 40 7,ea 41 122 39 40] (some [0,1,2])
def Ok:ab:=.cond (.t 38) Oj .skip
def Ol:ab:=.ch [ag 54 0,ag 55 0,dS 56 55,dR 57 94 56 1,du 58 2 57,ea 59 122 54 58] (some [0,2])
def Om:ab:=.ch [ag 69 0,ag 70 8,ea 71 122 69 70] (some [0,2])
def On:ab:=au [ag 66 0,ag 67 8,ea 68 122 66 67] [0,2,8] Om
def Oo:ab:=au [ag 62 0,dS 63 62,dR 64 94 63 1,du 65 2 64,aP 8 65] [0,2,8] On
def Oq:ab:=.ch [ag 74 0,ag 75 0,dS 76 75,dR 77 94 76 1,du 78 2 77,dS 79 74,dR 80 94 79 3,jC 2 80 78] (some [0,2])
def Ot:ab:=.cond (.t 72) Oq .skip
def Ou:ab:=au [bW 73 .eql 2 51 3,aP 72 73] [0,2,72] Ot
def Ov:ab:=.cond (.t 60) Oo Ou
def Ow:ab:=au [bW 61 .eql 2 51 2,aP 60 61] [0,2,51,60] Ov
def Ox:ab:=.cond (.t 52) Ol Ow
def Oy:ab:=.block 0 (au [bW 53 .eql 2 51 0,aP 52 53] [0,2,51,52] Ox)
def Oz:ab:=au [ag 51 1] [0,2,51] Oy
def OA:ab:=.cond (.t 50) Oz .skip
def OB:ab:=.cond (.t 85) .ret .skip
def OC:ab:=.ch [bW 89 .eql 2 86 2,aP 87 89] (some [0,86,87])
def OD:ab:=.cond (.t 87) .skip OC
def OE:ab:=.iG [ag 90 0,ag 91 0,dS 92 91,dR 93 94 92 1,du 94 2 93,ag 95 0,dS 96 95,dR 97 94 96 5,du 98 2 97,ea 99 121 94 98,dS 100 90,dR 101 94 100 1,jC 2 101 99] [[],[],[1],[2],[3],[],[5],[6],[7],[4,8],[0,0,1,2,3,4,5,6,7,8,9],[10,0,1,2,3,4,5,6,7,8,9],[11,9,9,0,1,2,3,4,5,6,7,8,9]] (some [0])
def OG:ab:=.ch [ag 104 0,ag 105 0,dS 106 105,dR 107 94 106 5,du 108 2 107,dS 109 104,dR 110 94 109 4,jC 2 110 108] (some [0])
def OH:ab:=.cond (.t 102) OG .skip
def OI:ab:=au [bW 103 .eql 2 86 3,aP 102 103] [0,102] OH
def Er:ab:=.cond (.t 87) OE OI
def OJ:ab:=.block 1 (.seq (au [bW 88 .eql 2 86 0,aP 87 88] [0,86,87] OD) Er)
def OK:ab:=au [ag 86 2] [0,86] OJ
def Es:ab:=.seq (au [ag 81 0,dS 82 81,dR 83 94 82 5,du 84 2 83,bW 85 .lss 2 84 0] [0,2,85] OB) OK
def Et:ab:=.seq (p1 [ag 42 0,dS 43 42,dR 44 94 43 1,du 45 2 44,ag 46 0,dS 47 46,dR 48 94 47 0,du 49 2 48,cT 50 .lss 2 45 49] [[],[0],[1],[2],[],[4],[5],[6],[3,7]] [0,1,2,50] OA) Es
def Eu:ab:=.seq (au [ag 37 7,bW 38 .geq 2 37 0] [0,1,2,7,38] Ok) Et
def OL:ab:=.seq (au [ag 26 6,bW 27 .geq 2 26 0] [0,1,2,6,7,27] Oi) Eu
def OM:ab:=au [ag 23 0,dS 24 23,dR 25 94 24 5,⟨none,.dY 2 (.t 25) (.c (.int .i64 (-1))),none⟩] [0,1,2,6,7] OL
def ON:ab:=au [ag 20 0,dS 21 20,dR 22 94 21 3,⟨none,.dY 2 (.t 22) (.c (.int .i64 (-1))),none⟩] [0,1,2,6,7] OM
def OO:ab:=au [ag 17 0,dS 18 17,dR 19 94 18 4,⟨none,.dY 2 (.t 19) (.c (.int .i64 (-1))),none⟩] [0,1,2,6,7] ON
def OP:ab:=au [ag 13 0,dS 14 13,dR 15 94 14 3,du 16 2 15,aP 7 16] [0,1,2,6,7] OO
def OQ:ab:=au [ag 9 0,dS 10 9,dR 11 94 10 4,du 12 2 11,aP 6 12] [0,1,2,6] OP
theorem OR:bV ⟨111,[0,1,2]⟩ (Tryz.f82.body.getD .skip)=some OQ.strip:=by kernel_rfl
def OS:ab:=.ch [ck 7 0] (some [0,1,6,7])
def OT:ab:=.cond (.t 13) OS .skip
def OU:ab:=.cond (.t 19) .skip (.exit 0)
def OV:ab:=.cond (.t 41) (.exit 0) .skip
def OW:ab:=.ch [ag 65 8,bW 66 .add 2 65 1,aP 7 66] (some [0,1,6,7,8])
def OX:ab:=.cond (.t 64) OW .skip
def OY:ab:=au [ag 55 7,bW 56 .lss 2 55 0,ag 57 56,b1 58 57 (.b8 (.t 6)),b1 59 57 (.el (.t 58)),b1 60 57 (.ek 94 (.t 59) 1),b1 61 57 (.c8 2 (.t 60)),b1 62 57 (.b8 (.t 0)),b1 63 57 (.bG .eql 2 (.t 61) (.t 62)),ro 64 (.pick (.t 57) (.t 63) (.c (.bool false)))] [0,1,6,7,8,64] OX
def OZ:ab:=p1 [ag 42 6,ag 43 1,ag 44 8,ro 45 (.bG .mul 3 (.c (.int .i64 2)) (.t 44)),gz 46 23 43 45,du 47 2 46,ag 48 1,ag 49 8,ro 50 (.bG .mul 3 (.c (.int .i64 2)) (.t 49)),bW 51 .add 3 50 1,gz 52 23 48 51,du 53 2 52,D6 54 82 42 47 53] [[],[],[],[2],[1,3],[4],[],[],[7],[8],[6,9],[10],[0,5,11]] [0,1,6,7,8] OY
def Ev:ab:=.ch [ag 20 8,bW 21 .add 3 20 1,aP 8 21] (some [0,1,6,7,8])
def O0:ab:=.seq (.block 1 (.seq (au [ag 22 6,dS 23 22,dR 24 94 23 1,du 25 2 24,ag 26 0,cT 27 .eql 2 25 26,ag 28 27,b1 29 28 (.b8 (.t 6)),b1 30 28 (.el (.t 29)),b1 31 28 (.ek 94 (.t 30) 3),b1 32 28 (.c8 2 (.t 31)),b1 33 28 (.bG .lss 2 (.t 32) (.c (.int .i64 0))),ro 34 (.pick (.t 28) (.t 33) (.c (.bool false))),ag 35 34,b1 36 35 (.b8 (.t 6)),b1 37 35 (.el (.t 36)),b1 38 35 (.ek 94 (.t 37) 4),b1 39 35 (.c8 2 (.t 38)),b1 40 35 (.bG .lss 2 (.t 39) (.c (.int .i64 0))),ro 41 (.pick (.t 35) (.t 40) (.c (.bool false)))] [0,1,6,7,8,41] OV) OZ)) Ev
def Ew:ab:=.seq (au [ag 14 8,ro 15 (.bG .mul 3 (.c (.int .i64 2)) (.t 14)),bW 16 .add 3 15 1,ag 17 1,cS 18 23 17,cT 19 .lss 3 16 18] [0,1,6,7,8,19] OU) O0
def O1:ab:=.block 0 (.loop Ew)
def Ex:ab:=au [ag 67 6,ag 68 7,aP 4 67,aP 5 68] [4,5] .ret
def Ey:ab:=.seq (au [ck 8 0] [0,1,6,7,8] O1) Ex
def O2:ab:=.seq (au [ag 12 0,bW 13 .eql 2 12 0] [0,1,6,7,13] OT) Ey
def O3:ab:=au [ck 7 (-1)] [0,1,6,7] O2
def O4:ab:=au [ag 9 0,ro 10 (.dH 94 [(0,(.t 9)),(3,(.c (.int .i64 (-1)))),(4,(.c (.int .i64 (-1)))),(5,(.c (.int .i64 (-1))))]),ro 11 (.eg 94 (.t 10)),aP 6 11] [0,1,6] O3
def O5:ab:=au [ro 4 (.d_ (.c .cn)),ck 5 0] [0,1] O4
theorem O6:bV ⟨69,[0,1]⟩ (Tryz.f50.body.getD .skip)=some O5.strip:=by kernel_rfl
def O7:ab:=au [ag 14 6,ck 4 0,aP 5 14] [4,5] .ret
def O8:ab:=.cond (.t 13) O7 .skip
def O9:ab:=au [ck 4 0,ck 5 3] [4,5] .ret
def O_:ab:=.cond (.t 23) O9 .skip
def Pa:ab:=au [ag 24 8,aP 4 24,ck 5 0] [4,5] .ret
def Pb:ab:=.seq (au [ag 22 8,bW 23 .lss 2 22 0] [8,23] O_) Pa
def Pc:ab:=au [ag 16 0,cS 17 22 16,ag 18 1,ea 19 50 17 18,ag 15 19,fN 20 15 0,fN 21 15 1,aP 7 20,aP 8 21] [8] Pb
def Pd:ab:=.seq (au [ag 12 6,bW 13 .neq 2 12 0] [0,1,6,13] O8) Pc
def Pe:ab:=au [ag 9 0,ag 10 1,ea 11 49 9 10,aP 6 11] [0,1,6] Pd
def Pf:ab:=au [ck 4 0,ck 5 0] [0,1] Pe
theorem p2:bV ⟨25,[0,1]⟩ (Tryz.f10.body.getD .skip)=some Pf.strip:=by kernel_rfl
def Pg:ab:=au [ag 5 0,ag 6 1,ea 7 220 5 6,aP 4 7] [4] .ret
def Ph:ab:=au [ck 4 0] [0,1] Pg
theorem Pj:bV ⟨8,[0,1]⟩ (Tryz.f181.body.getD .skip)=some Ph.strip:=by kernel_rfl
def Pk:ab:=au [ck 4 0] [4] .ret
def Pl:ab:=au [ag 27 0,ag 28 1,ro 29 (.idx 9 (.t 28) (.c (.int .i64 0))),ea 30 181 27 29,aP 4 30] [4] .ret
def Pm:ab:=au [ck 4 (-1)] [4] .ret
def Pn:ab:=au [ag 45 0,ag 46 1,ea 47 272 45 46,aP 4 47] [4] .ret
def Po:ab:=.cond (.t 36) Pn .skip
def Pp:ab:=au [ag 37 5,ro 38 (.bad),cT 39 .leq 3 37 38,ag 40 39,b1 41 40 (.b8 (.t 0)),b1 42 40 (.len 9 (.t 41)),b1 43 40 (.bG .leq 3 (.t 42) (.c (.int .i64 64))),ro 44 (.pick (.t 40) (.t 43) (.c (.bool false))),aP 36 44] [0,1,5,36] Po
def Pq:ab:=.cond (.t 31) Pm Pp
def Pr:ab:=au [ag 32 5,ag 33 0,cS 34 9 33,cT 35 .geq 3 32 34,aP 31 35] [0,1,5,31] Pq
def Ps:ab:=.cond (.t 24) Pl Pr
def Pt:ab:=au [ag 25 5,bW 26 .eql 3 25 1,aP 24 26] [0,1,5,24] Ps
def Pu:ab:=.cond (.t 16) Pk Pt
def Pv:ab:=.cond (.t 59) .skip (.exit 1)
def Pw:ab:=au [ck 4 (-1)] [4] .ret
def Px:ab:=.cond (.t 73) Pw .skip
def Py:ab:=.ch [ag 74 8,ag 75 11,bW 76 .add 3 75 1,cT 77 .add 3 74 76,aP 8 77] (some [0,1,5,6,7,8,9,10])
def Pz:ab:=.seq (au [ag 72 11,bW 73 .lss 3 72 0] [0,1,5,6,7,8,9,10,11,73] Px) Py
def PA:ab:=au [ag 65 0,ag 66 8,bW 67 .add 3 66 1,ag 68 9,ro 69 (.cC 9 (.t 65) (some (.t 67)) (some (.t 68))),ag 70 6,ea 71 181 69 70,aP 11 71] [0,1,5,6,7,8,9,10,11] Pz
def PB:ab:=.cond (.t 64) PA .skip
def PC:ab:=au [ag 94 8,aP 4 94] [4] .ret
def PD:ab:=.cond (.t 93) PC .skip
def PE:ab:=au [ag 115 12,ag 116 8,cT 117 .add 3 115 116,aP 4 117] [4] .ret
def PF:ab:=.cond (.t 114) PE .skip
def PG:ab:=au [ck 4 (-1)] [4] .ret
def PH:ab:=.seq (au [ag 113 12,bW 114 .geq 3 113 0] [8,12,114] PF) PG
def PI:ab:=au [ag 108 0,ag 109 8,ro 110 (.cC 9 (.t 108) (some (.t 109)) none),ag 111 1,ea 112 272 110 111,aP 12 112] [8,12] PH
def PJ:ab:=au [ck 4 (-1)] [4] .ret
def PK:ab:=.cond (.t 139) PJ .skip
def PL:ab:=au [ag 140 8,ag 141 13,cT 142 .add 3 140 141,aP 4 142] [4] .ret
def PM:ab:=.seq (au [ag 138 13,bW 139 .lss 3 138 0] [8,13,139] PK) PL
def PN:ab:=au [ag 133 0,ag 134 8,ro 135 (.cC 9 (.t 133) (some (.t 134)) none),ag 136 1,ea 137 274 135 136,aP 13 137] [8,13] PM
def PO:ab:=.cond (.t 132) PN .skip
def PQ:ab:=au [ag 118 5,ro 119 (.bad),cT 120 .gtr 3 118 119,ag 121 120,b1 122 121 (.b8 (.t 10)),b1 123 121 (.b8 (.t 8)),b1 124 121 (.bG .shr 3 (.t 123) (.c (.int .u64 4))),b1 125 121 (.bG .add 3 (.c (.int .i64 4)) (.t 124)),b1 126 121 (.bG .geq 3 (.t 122) (.t 125)),ro 127 (.pick (.t 121) (.t 126) (.c (.bool false))),ag 128 127,b1 129 128 (.b8 (.t 8)),b1 130 128 (.b8 (.t 9)),b1 131 128 (.bG .lss 3 (.t 129) (.t 130)),ro 132 (.pick (.t 128) (.t 131) (.c (.bool false)))] [0,1,5,6,7,8,9,10,132] PO
def PR:ab:=.cond (.t 107) PI PQ
def PS:ab:=au [ag 99 5,ro 100 (.bad),cT 101 .leq 3 99 100,ag 102 101,b1 103 102 (.b8 (.t 10)),b1 104 102 (.b8 (.t 8)),⟨some 105,.call (.f 273) [(.t 104)],some (102,true)⟩,b1 106 102 (.bG .gtr 3 (.t 103) (.t 105)),ro 107 (.pick (.t 102) (.t 106) (.c (.bool false)))] [0,1,5,6,7,8,9,10,107] PR
def PT:ab:=au [ag 97 10,bW 98 .add 3 97 1,aP 10 98] [0,1,5,6,7,8,9,10] PS
def PU:ab:=au [ag 95 8,bW 96 .add 3 95 1,aP 8 96] [0,1,5,6,7,8,9,10] PT
def PV:ab:=.seq (au [ag 78 0,ag 79 8,bW 80 .add 3 79 1,oB 81 9 78 80,ag 82 7,cT 83 .eql 5 81 82,ag 84 83,b1 85 84 (.b8 (.t 0)),b1 86 84 (.b8 (.t 8)),b1 87 84 (.b8 (.t 8)),b1 88 84 (.b8 (.t 5)),b1 89 84 (.bG .add 3 (.t 87) (.t 88)),b1 90 84 (.cC 9 (.t 85) (some (.t 86)) (some (.t 89))),b1 91 84 (.b8 (.t 1)),b1 92 84 (.bG .eql 9 (.t 90) (.t 91)),ro 93 (.pick (.t 84) (.t 92) (.c (.bool false)))] [0,1,5,6,7,8,9,10,93] PD) PU
def PW:ab:=.block 2 (.seq (au [ag 60 0,ag 61 8,oB 62 9 60 61,ag 63 6,cT 64 .neq 5 62 63] [0,1,5,6,7,8,9,10,64] PB) PV)
def PX:ab:=.seq (au [ag 57 8,ag 58 9,cT 59 .lss 3 57 58] [0,1,5,6,7,8,9,10,59] Pv) PW
def PY:ab:=au [ck 4 (-1)] [4] .ret
def PZ:ab:=.seq (.block 1 (.loop PX)) PY
def P0:ab:=au [ck 10 0] [0,1,5,6,7,8,9,10] PZ
def P1:ab:=au [ag 52 0,cS 53 9 52,ag 54 5,cT 55 .sub 3 53 54,bW 56 .add 3 55 1,aP 9 56] [0,1,5,6,7,8,9] P0
def P2:ab:=au [ck 8 0] [0,1,5,6,7,8] P1
def P3:ab:=au [ag 50 1,ro 51 (.idx 9 (.t 50) (.c (.int .i64 1))),aP 7 51] [0,1,5,6,7] P2
def P4:ab:=au [ag 48 1,ro 49 (.idx 9 (.t 48) (.c (.int .i64 0))),aP 6 49] [0,1,5,6] P3
def P5:ab:=.seq (.block 0 (au [ag 17 5,bW 18 .eql 3 17 0,ag 19 18,dB 20 19 (.b8 (.t 1)),dB 21 19 (.b8 (.t 0)),dB 22 19 (.bG .eql 9 (.t 20) (.t 21)),ro 23 (.pick (.t 19) (.c (.bool true)) (.t 22)),aP 16 23] [0,1,5,16] Pu)) P4
def P6:ab:=au [ag 14 1,cS 15 9 14,aP 5 15] [0,1,5] P5
def P7:ab:=au [ck 4 0] [0,1] P6
theorem P8:bV ⟨143,[0,1]⟩ (Tryz.f256.body.getD .skip)=some P7.strip:=by kernel_rfl
def P9:ab:=p1 [ag 13 0,ag 14 7,ro 15 (.cC 9 (.t 13) none (some (.t 14))),ag 16 0,ag 17 7,ag 18 1,cS 19 9 18,cT 20 .add 3 17 19,ro 21 (.cC 9 (.t 16) (some (.t 20)) none),aP 4 15,aP 5 21,cJ 6 true] [[],[],[0,1],[],[],[],[5],[4,6],[3,7],[2,0,1,2],[8,9,0,1,2,3,4,5,6,7,8,9],[10,0,1,2,3,4,5,6,7,8,9,10]] [4,5,6] .ret
def P_:ab:=.cond (.t 12) P9 .skip
def Qa:ab:=au [ag 11 7,bW 12 .geq 3 11 0] [0,1,7,12] P_
def Qb:ab:=au [ag 22 0,aP 4 22,ro 5 (.d_ (.c (.str []))),cJ 6 false] [4,5,6] .ret
def Qc:ab:=.seq (au [ag 8 0,ag 9 1,ea 10 256 8 9,aP 7 10] [0,1,7] Qa) Qb
def Qd:ab:=au [ro 4 (.d_ (.c (.str []))),ro 5 (.d_ (.c (.str []))),cJ 6 false] [0,1] Qc
theorem Qe:bV ⟨23,[0,1]⟩ (Tryz.f252.body.getD .skip)=some Qd.strip:=by kernel_rfl
def Qf:ab:=au [ag 7 0,ag 8 1,ea 9 252 7 8,fN 10 9 0,fN 11 9 1,fN 12 9 2,aP 4 10,aP 5 11,aP 6 12] [4,5,6] .ret
def Qg:ab:=au [ro 4 (.d_ (.c (.str []))),ro 5 (.d_ (.c (.str []))),cJ 6 false] [0,1] Qf
theorem Qh:bV ⟨13,[0,1]⟩ (Tryz.f219.body.getD .skip)=some Qg.strip:=by kernel_rfl
def Qi:ab:=au [ag 5 0,cS 6 9 5,ag 7 1,cS 8 9 7,cT 9 .geq 3 6 8,ag 10 9,b1 11 10 (.b8 (.t 0)),b1 12 10 (.b8 (.t 0)),b1 13 10 (.len 9 (.t 12)),b1 14 10 (.b8 (.t 1)),b1 15 10 (.len 9 (.t 14)),b1 16 10 (.bG .sub 3 (.t 13) (.t 15)),b1 17 10 (.cC 9 (.t 11) (some (.t 16)) none),b1 18 10 (.b8 (.t 1)),b1 19 10 (.bG .eql 9 (.t 17) (.t 18)),ro 20 (.pick (.t 10) (.t 19) (.c (.bool false))),aP 4 20] [4] .ret
def Qj:ab:=au [cJ 4 false] [0,1] Qi
theorem Qk:bV ⟨21,[0,1]⟩ (Tryz.f184.body.getD .skip)=some Qj.strip:=by kernel_rfl
def Ql:ab:=au [ag 8 0,ag 9 0,cS 10 9 9,ag 11 1,cS 12 9 11,cT 13 .sub 3 10 12,ro 14 (.cC 9 (.t 8) none (some (.t 13))),aP 4 14] [4] .ret
def Qm:ab:=.cond (.t 7) Ql .skip
def Qn:ab:=au [ag 15 0,aP 4 15] [4] .ret
def Qo:ab:=.seq (au [ag 5 0,ag 6 1,ea 7 184 5 6] [0,1,7] Qm) Qn
def c138:ab:=au [ro 4 (.d_ (.c (.str [])))] [0,1] Qo
theorem Qp:bV ⟨16,[0,1]⟩ (Tryz.f138.body.getD .skip)=some c138.strip:=by kernel_rfl
def Qq:ab:=au [ag 5 0,ag 6 1,ea 7 138 5 6,aP 4 7] [4] .ret
def c91:ab:=au [ro 4 (.d_ (.c (.str [])))] [0,1] Qq
theorem Qr:bV ⟨8,[0,1]⟩ (Tryz.f91.body.getD .skip)=some c91.strip:=by kernel_rfl
def Qs:ab:=au [ag 5 0,ag 6 1,ea 7 256 5 6,aP 4 7] [4] .ret
def Qt:ab:=au [ck 4 0] [0,1] Qs
theorem Qu:bV ⟨8,[0,1]⟩ (Tryz.f223.body.getD .skip)=some Qt.strip:=by kernel_rfl
def Qv:ab:=au [ag 10 0,gA 11 253 10,bW 12 .add 3 11 1,aP 4 12] [4] .ret
def Qw:ab:=.cond (.t 9) Qv .skip
def Qx:ab:=au [ag 16 0,ag 17 1,ro 18 (.idx 9 (.t 17) (.c (.int .i64 0))),ea 19 255 16 18,aP 4 19] [4] .ret
def Qy:ab:=.cond (.t 15) Qx .skip
def Qz:ab:=au [ag 25 5,aP 4 25] [4] .ret
def QA:ab:=.cond (.t 24) Qz .skip
def QB:ab:=.ch [ag 28 0,ag 29 6,ag 30 1,cS 31 9 30,cT 32 .add 3 29 31,ro 33 (.cC 9 (.t 28) (some (.t 32)) none),aP 0 33] (some [0,1,5])
def QC:ab:=au [ag 26 5,bW 27 .add 3 26 1,aP 5 27] [0,1,5,6] QB
def QD:ab:=.seq (au [ag 23 6,bW 24 .eql 3 23 (-1)] [0,1,5,6,24] QA) QC
def Ez:ab:=.block 1 (au [ag 20 0,ag 21 1,ea 22 223 20 21,aP 6 22] [0,1,5,6] QD)
def QE:ab:=.block 0 (.loop Ez)
def QF:ab:=au [ck 5 0] [0,1,5] QE
def QG:ab:=.seq (au [ag 13 1,cS 14 9 13,bW 15 .eql 3 14 1] [0,1,15] Qy) QF
def QH:ab:=.seq (au [ag 7 1,cS 8 9 7,bW 9 .eql 3 8 0] [0,1,9] Qw) QG
def c222:ab:=au [ck 4 0] [0,1] QH
theorem QI:bV ⟨34,[1]⟩ (Tryz.f222.body.getD .skip)=some c222.strip:=by kernel_rfl
def QJ:ab:=au [ja 8] [8] .ret
def QK:ab:=.cond (.t 13) QJ .skip
def QL:ab:=au [ag 16 0,ag 17 3,ea 18 221 16 17,aP 8 18] [8] .ret
def QM:ab:=.cond (.t 15) QL .skip
def QN:ab:=.ch [ag 21 0,ag 22 1,ea 23 222 21 22,bW 24 .add 3 23 1,aP 3 24] (some [0,1,2,3])
def QO:ab:=.cond (.t 20) QN .skip
def QP:ab:=.cond (.t 36) .skip (.exit 0)
def QQ:ab:=.cond (.t 41) (.exit 0) .skip
def QR:ab:=.ch [ag 56 10,bW 57 .add 3 56 1,aP 10 57] (some [0,1,2,3,9,10])
def QS:ab:=au [ag 50 0,ag 51 11,ag 52 1,cS 53 9 52,cT 54 .add 3 51 53,ro 55 (.cC 9 (.t 50) (some (.t 54)) none),aP 0 55] [0,1,2,3,9,10] QR
def QT:ab:=au [ag 42 9,ag 43 10,ag 44 0,ag 45 11,ag 46 2,cT 47 .add 3 45 46,ro 48 (.cC 9 (.t 44) none (some (.t 47))),gz 49 22 42 43,jC 9 49 48] [0,1,2,3,9,10,11] QS
def QU:ab:=.seq (au [ag 40 11,bW 41 .lss 3 40 0] [0,1,2,3,9,10,11,41] QQ) QT
def QV:ab:=.block 1 (au [ag 37 0,ag 38 1,ea 39 223 37 38,aP 11 39] [0,1,2,3,9,10,11] QU)
def EA:ab:=.seq (au [ag 34 10,ag 35 3,cT 36 .lss 3 34 35] [0,1,2,3,9,10,36] QP) QV
def QW:ab:=au [ag 62 9,ag 63 10,bW 64 .add 3 63 1,ro 65 (.cC 22 (.t 62) none (some (.t 64))),aP 8 65] [8] .ret
def EB:ab:=au [ag 58 9,ag 59 10,ag 60 0,gz 61 22 58 59,jC 9 61 60] [9,10] QW
def QX:ab:=.seq (.block 0 (.loop EA)) EB
def QY:ab:=au [ck 10 0] [0,1,2,3,9,10] QX
def QZ:ab:=au [ag 32 3,bW 33 .sub 3 32 1,aP 3 33] [0,1,2,3,9] QY
def Q0:ab:=au [ag 30 3,ro 31 (.eh 22 (.t 30) (.t 30)),aP 9 31] [0,1,2,3,9] QZ
def EC:ab:=au [ag 25 3,ag 26 0,cS 27 9 26,bW 28 .add 3 27 1,ro 29 (.fL false (.t 25) (.t 28)),aP 3 29] [0,1,2,3] Q0
def Q1:ab:=.seq (au [ag 19 3,bW 20 .lss 3 19 0] [0,1,2,3,20] QO) EC
def Q2:ab:=.seq (au [ag 14 1,ro 15 (.bG .eql 9 (.t 14) (.c (.str [])))] [0,1,2,3,15] QM) Q1
def Q3:ab:=.seq (au [ag 12 3,bW 13 .eql 3 12 0] [0,1,2,3,13] QK) Q2
def c182:ab:=au [ja 8] [0,1,2,3] Q3
theorem Q4:bV ⟨66,[1,2]⟩ (Tryz.f182.body.getD .skip)=some c182.strip:=by kernel_rfl
def Q5:ab:=au [ag 5 0,ag 6 1,ro 7 (.call (.f 182) [(.t 5),(.t 6),(.c (.int .i64 0)),(.c (.int .i64 (-1)))]),aP 4 7] [4] .ret
def Q6:ab:=au [ja 4] [0,1] Q5
theorem Q7:bV ⟨8,[0,1]⟩ (Tryz.f135.body.getD .skip)=some Q6.strip:=by kernel_rfl
def Q8:ab:=au [ja 2,cJ 3 false] [2,3] .ret
def Q9:ab:=.cond (.t 21) Q8 .skip
def Q_:ab:=.ch [ag 22 4,ag 23 7,vh 24 23 23,vi 25 23 23 22 24,aP 4 25] (some [4,9,10,11])
def Ra:ab:=.seq (au [ag 20 8,h8 21 20] [4,7,9,10,11,21] Q9) Q_
def Rb:ab:=au [ag 16 6,gA 17 183 16,ag 15 17,fN 18 15 0,fN 19 15 1,aP 7 18,aP 8 19] [4,7,8,9,10,11] Ra
def Rc:ab:=.ch [bW 26 .add 3 11 1,ag 11 26] (some [4,9,10,11])
def Rd:ab:=.seq (.block 1 (au [gz 13 22 9 11,du 14 9 13,aP 6 14] [4,6,9,10,11] Rb)) Rc
def Re:ab:=.seq (.cond (.t 12) .skip (.exit 0)) Rd
def ED:ab:=au [cT 12 .lss 3 11 10] [4,9,10,11,12] Re
def Rf:ab:=.block 0 (.loop ED)
def Rg:ab:=au [ag 27 4,aP 2 27,cJ 3 true] [2,3] .ret
def Rh:ab:=.seq (au [ag 9 0,cS 10 22 9,rf 11 0] [4,9,10,11] Rf) Rg
def Ri:ab:=au [ja 4] [0,4] Rh
def Rj:ab:=au [ja 2,cJ 3 false] [0] Ri
theorem Rk:bV ⟨28,[0]⟩ (Tryz.f136.body.getD .skip)=some Rj.strip:=by kernel_rfl
def Rl:ab:=au [ag 3 0,ro 4 (.bG .geq 5 (.t 3) (.c (.int .u8 48))),ag 5 4,b1 6 5 (.b8 (.t 0)),b1 7 5 (.bG .leq 5 (.t 6) (.c (.int .u8 57))),ro 8 (.pick (.t 5) (.t 7) (.c (.bool false))),aP 2 8] [2] .ret
def Rm:ab:=au [cJ 2 false] [0] Rl
theorem Rn:bV ⟨9,[0]⟩ (Tryz.f195.body.getD .skip)=some Rm.strip:=by kernel_rfl
def Ro:ab:=au [cJ 2 false] [2] .ret
def Rp:ab:=.cond (.t 32) Ro .skip
def Rq:ab:=au [ag 20 4,h8 21 20,ag 22 21,b1 23 22 (.b8 (.t 3)),b1 24 22 (.bG .eql 3 (.t 23) (.c (.int .i64 0))),b1 25 22 (.b8 (.t 24)),dB 26 25 (.b8 (.t 0)),dB 27 25 (.b8 (.t 3)),dB 28 25 (.idx 9 (.t 26) (.t 27)),⟨some 29,.call (.f 195) [(.t 28)],some (25,false)⟩,dB 30 25 (.un .not (.t 29)),b1 31 22 (.pick (.t 25) (.c (.bool true)) (.t 30)),ro 32 (.pick (.t 22) (.t 31) (.c (.bool false)))] [0,6,7,32] Rp
def Rr:ab:=au [ag 10 0,ag 11 3,oB 12 9 10 11,ro 13 (.bG .geq 5 (.t 12) (.c (.int .u8 97))),ag 14 13,b1 15 14 (.b8 (.t 0)),b1 16 14 (.b8 (.t 3)),b1 17 14 (.idx 9 (.t 15) (.t 16)),b1 18 14 (.bG .leq 5 (.t 17) (.c (.int .u8 122))),ro 19 (.pick (.t 14) (.t 18) (.c (.bool false))),aP 4 19] [0,3,4,6,7] Rq
def Rs:ab:=.ch [bW 33 .add 3 7 1,ag 7 33] (some [0,6,7])
def Rt:ab:=.seq (.block 1 (au [ag 9 7,aP 3 9] [0,3,6,7] Rr)) Rs
def Ru:ab:=.seq (.cond (.t 8) .skip (.exit 0)) Rt
def EE:ab:=au [cT 8 .lss 3 7 6] [0,6,7,8] Ru
def Rv:ab:=.block 0 (.loop EE)
def Rw:ab:=au [ag 34 0,cS 35 9 34,bW 36 .geq 3 35 1,ag 37 36,b1 38 37 (.b8 (.t 0)),b1 39 37 (.len 9 (.t 38)),b1 40 37 (.bG .leq 3 (.t 39) (.c (.int .i64 10))),ro 41 (.pick (.t 37) (.t 40) (.c (.bool false))),aP 2 41] [2] .ret
def Rx:ab:=.seq (au [ag 5 0,cS 6 9 5,rf 7 0] [0,6,7] Rv) Rw
def Ry:ab:=au [cJ 2 false] [0] Rx
theorem Rz:bV ⟨42,[0]⟩ (Tryz.f155.body.getD .skip)=some Ry.strip:=by kernel_rfl
def RA:ab:=au [ag 3 0,gA 4 155 3,ag 5 4,b1 6 5 (.b8 (.t 0)),⟨some 7,.bG .neq 9 (.t 6) (.c (.str [116,97,117])),some (5,true)⟩,ro 8 (.pick (.t 5) (.t 7) (.c (.bool false))),aP 2 8] [2] .ret
def c203:ab:=au [cJ 2 false] [0] RA
theorem RB:bV ⟨9,[0]⟩ (Tryz.f203.body.getD .skip)=some c203.strip:=by kernel_rfl
def RC:ab:=au [ag 7 0,ag 8 1,cT 9 .geq 2 7 8,ag 10 9,b1 11 10 (.b8 (.t 0)),b1 12 10 (.b8 (.t 2)),b1 13 10 (.bG .leq 2 (.t 11) (.t 12)),ro 14 (.pick (.t 10) (.t 13) (.c (.bool false))),aP 6 14] [6] .ret
def RD:ab:=au [cJ 6 false] [0,1,2] RC
theorem RE:bV ⟨15,[0,1,2]⟩ (Tryz.f86.body.getD .skip)=some RD.strip:=by kernel_rfl
def RF:ab:=au [ag 3 0,ro 4 (.call (.f 86) [(.t 3),(.c (.int .i64 0)),(.c (.int .i64 63))]),aP 2 4] [2] .ret
def RG:ab:=au [cJ 2 false] [0] RF
theorem RH:bV ⟨5,[0]⟩ (Tryz.f202.body.getD .skip)=some RG.strip:=by kernel_rfl
def RI:ab:=au [ag 3 0,gA 4 202 3,h8 5 4,aP 2 5] [2] .ret
def c201:ab:=au [cJ 2 false] [0] RI
theorem RJ:bV ⟨6,[0]⟩ (Tryz.f201.body.getD .skip)=some c201.strip:=by kernel_rfl
def RK:ab:=au [ag 17 5,aP 4 17] [4] .ret
def RL:ab:=.cond (.t 16) RK .skip
def RM:ab:=au [ag 11 1,ag 12 0,ag 13 5,gz 14 23 12 13,du 15 2 14,ro 16 (.call (.t 11) [(.t 15)])] [0,1,5,7,8,16] RL
def RN:ab:=.ch [bW 18 .add 3 8 1,ag 8 18] (some [0,1,7,8])
def RO:ab:=.seq (.block 1 (au [ag 10 8,aP 5 10] [0,1,5,7,8] RM)) RN
def RP:ab:=.seq (.cond (.t 9) .skip (.exit 0)) RO
def EF:ab:=au [cT 9 .lss 3 8 7] [0,1,7,8,9] RP
def RQ:ab:=.block 0 (.loop EF)
def RR:ab:=au [ck 4 (-1)] [4] .ret
def RS:ab:=.seq (au [ag 6 0,cS 7 23 6,rf 8 0] [0,1,7,8] RQ) RR
def RT:ab:=au [ck 4 0] [0,1] RS
theorem RU:bV ⟨19,[0,1]⟩ (Tryz.f126.body.getD .skip)=some RT.strip:=by kernel_rfl
def RV:ab:=au [ag 5 0,ag 6 1,ea 7 126 5 6,bW 8 .geq 3 7 0,aP 4 8] [4] .ret
def RW:ab:=au [cJ 4 false] [0,1] RV
theorem RX:bV ⟨9,[0,1]⟩ (Tryz.f84.body.getD .skip)=some RW.strip:=by kernel_rfl
def RY:ab:=au [ag 3 0,ro 4 (.call (.f 84) [(.t 3),(.f 201)]),h8 5 4,aP 2 5] [2] .ret
def c160:ab:=au [cJ 2 false] [0] RY
theorem RZ:bV ⟨6,[0]⟩ (Tryz.f160.body.getD .skip)=some c160.strip:=by kernel_rfl
def R0:ab:=au [ag 3 0,ro 4 (.call (.f 185) [(.t 3),(.c (.int .i64 10))]),aP 2 4] [2] .ret
def c141:ab:=au [ro 2 (.d_ (.c (.str [])))] [0] R0
theorem R1:bV ⟨5,[0]⟩ (Tryz.f141.body.getD .skip)=some c141.strip:=by kernel_rfl
def R2:ab:=.ch [ag 18 5,ag 19 6,ag 20 7,gA 21 141 20,gz 22 22 18 19,jC 9 22 21] (some [1,5,11,12,13])
def R3:ab:=.ch [bW 23 .add 3 13 1,ag 13 23] (some [1,5,11,12,13])
def R4:ab:=.seq (.block 1 (au [ag 15 13,gz 16 23 11 13,du 17 2 16,aP 6 15,aP 7 17] [1,5,6,7,11,12,13] R2)) R3
def R5:ab:=.seq (.cond (.t 14) .skip (.exit 0)) R4
def EG:ab:=au [cT 14 .lss 3 13 12] [1,5,11,12,13,14] R5
def R6:ab:=.block 0 (.loop EG)
def R7:ab:=au [ag 24 5,ag 25 1,ea 26 117 24 25,aP 4 26] [4] .ret
def R8:ab:=.seq (au [ag 11 0,cS 12 23 11,rf 13 0] [1,5,11,12,13] R6) R7
def R9:ab:=au [ag 8 0,cS 9 23 8,ro 10 (.eh 22 (.t 9) (.t 9)),aP 5 10] [0,1,5] R8
def c139:ab:=au [ro 4 (.d_ (.c (.str [])))] [0,1] R9
theorem R_:bV ⟨27,[0,1]⟩ (Tryz.f139.body.getD .skip)=some c139.strip:=by kernel_rfl
def Sa:ab:=au [ag 9 1,cS 10 23 9,bW 11 .eql 3 10 0,ro 4 (.d_ (.c (.str [116,97,117]))),aP 5 11] [4,5] .ret
def Sb:ab:=au [ro 4 (.d_ (.c (.str []))),cJ 5 false] [4,5] .ret
def Sc:ab:=au [ag 30 0,aP 4 30,cJ 5 true] [4,5] .ret
def Sd:ab:=.cond (.t 26) Sc .skip
def Se:ab:=au [ag 27 1,cS 28 23 27,bW 29 .eql 3 28 0,aP 26 29] [0,1,26] Sd
def Sf:ab:=.cond (.t 12) Sb Se
def Sg:ab:=au [ag 13 0,gA 14 203 13,h8 15 14,ag 16 15,dB 17 16 (.b8 (.t 1)),dB 18 16 (.len 23 (.t 17)),dB 19 16 (.bG .gtr 3 (.t 18) (.c (.int .i64 2))),ro 20 (.pick (.t 16) (.c (.bool true)) (.t 19)),ag 21 20,dB 22 21 (.b8 (.t 1)),⟨some 23,.call (.f 160) [(.t 22)],some (21,false)⟩,dB 24 21 (.un .not (.t 23)),ro 25 (.pick (.t 21) (.c (.bool true)) (.t 24)),aP 12 25] [0,1,12] Sf
def Sh:ab:=.cond (.t 6) Sa Sg
def Si:ab:=au [ag 31 0,ro 32 (.bG .add 9 (.t 31) (.c (.str [40]))),ag 33 1,ro 34 (.call (.f 139) [(.t 33),(.c (.str [44]))]),cT 35 .add 9 32 34,ro 36 (.bG .add 9 (.t 35) (.c (.str [41]))),aP 4 36,cJ 5 true] [4,5] .ret
def Sj:ab:=.seq (.block 0 (au [ag 7 0,ro 8 (.bG .eql 9 (.t 7) (.c (.str [116,97,117]))),aP 6 8] [0,1,6] Sh)) Si
def Sk:ab:=au [ro 4 (.d_ (.c (.str []))),cJ 5 false] [0,1] Sj
theorem Sl:bV ⟨37,[0,1]⟩ (Tryz.f161.body.getD .skip)=some Sk.strip:=by kernel_rfl
def Sm:ab:=au [ro 2 (.d_ (.c (.str []))),ja 3,cJ 4 false] [2,3,4] .ret
def So:ab:=.cond (.t 27) Sm .skip
def Sp:ab:=au [ag 26 9,h8 27 26] [0,5,8,27] So
def Sq:ab:=au [ag 20 6,ro 21 (.call (.f 91) [(.t 20),(.c (.str [41]))]),ro 22 (.call (.f 135) [(.t 21),(.c (.str [44]))]),gA 23 136 22,ag 19 23,fN 24 19 0,fN 25 19 1,aP 8 24,aP 9 25] [0,5,8,9] Sp
def Sr:ab:=au [cJ 9 false] [0,5,6] Sq
def Ss:ab:=.cond (.t 18) Sr .skip
def St:ab:=au [ro 2 (.d_ (.c (.str []))),ja 3,cJ 4 false] [2,3,4] .ret
def Su:ab:=.cond (.t 40) St .skip
def Sv:ab:=au [ag 34 11,h8 35 34,ag 36 35,dB 37 36 (.b8 (.t 10)),dB 38 36 (.b8 (.t 0)),dB 39 36 (.bG .neq 9 (.t 37) (.t 38)),ro 40 (.pick (.t 36) (.c (.bool true)) (.t 39))] [5,8,40] Su
def Sw:ab:=au [ag 41 5,ag 42 8,aP 2 41,aP 3 42,cJ 4 true] [2,3,4] .ret
def EH:ab:=.seq (au [ag 29 5,ag 30 8,ea 31 161 29 30,ag 28 31,fN 32 28 0,fN 33 28 1,aP 10 32,aP 11 33] [0,5,8,10,11] Sv) Sw
def Sy:ab:=.seq (au [ag 18 7] [0,5,6,8,18] Ss) EH
def Sz:ab:=au [ja 8] [0,5,6,7,8] Sy
def SA:ab:=au [ag 13 0,ro 14 (.call (.f 219) [(.t 13),(.c (.str [40]))]),ag 12 14,fN 15 12 0,fN 16 12 1,fN 17 12 2,aP 5 15,aP 6 16,aP 7 17] [0,5,6,7] Sz
def SB:ab:=au [ro 2 (.d_ (.c (.str []))),ja 3,cJ 4 false] [0] SA
theorem SC:bV ⟨43,[0]⟩ (Tryz.f179.body.getD .skip)=some SB.strip:=by kernel_rfl
def SD:ab:=au [ag 12 5,aP 2 12] [2] .ret
def SE:ab:=au [ag 7 0,gA 8 179 7,ag 6 8,fN 9 6 0,fN 10 6 1,fN 11 6 2,aP 3 9,aP 4 10,aP 5 11] [5] SD
def SF:ab:=au [cJ 2 false] [0] SE
theorem SG:bV ⟨13,[0]⟩ (Tryz.f125.body.getD .skip)=some SF.strip:=by kernel_rfl
def SH:ab:=au [ag 3 0,gA 4 125 3,h8 5 4,aP 2 5] [2] .ret
def c124:ab:=au [cJ 2 false] [0] SH
theorem SI:bV ⟨6,[0]⟩ (Tryz.f124.body.getD .skip)=some c124.strip:=by kernel_rfl
def SJ:ab:=au [ag 17 5,aP 4 17] [4] .ret
def SK:ab:=.cond (.t 16) SJ .skip
def SL:ab:=au [ag 11 1,ag 12 0,ag 13 5,gz 14 22 12 13,du 15 9 14,ro 16 (.call (.t 11) [(.t 15)])] [0,1,5,7,8,16] SK
def SM:ab:=.ch [bW 18 .add 3 8 1,ag 8 18] (some [0,1,7,8])
def SN:ab:=.seq (.block 1 (au [ag 10 8,aP 5 10] [0,1,5,7,8] SL)) SM
def SO:ab:=.seq (.cond (.t 9) .skip (.exit 0)) SN
def EI:ab:=au [cT 9 .lss 3 8 7] [0,1,7,8,9] SO
def SP:ab:=.block 0 (.loop EI)
def SQ:ab:=au [ck 4 (-1)] [4] .ret
def SR:ab:=.seq (au [ag 6 0,cS 7 22 6,rf 8 0] [0,1,7,8] SP) SQ
def SS:ab:=au [ck 4 0] [0,1] SR
theorem SU:bV ⟨19,[0,1]⟩ (Tryz.f178.body.getD .skip)=some SS.strip:=by kernel_rfl
def SV:ab:=au [ag 5 0,ag 6 1,ea 7 178 5 6,bW 8 .geq 3 7 0,aP 4 8] [4] .ret
def SW:ab:=au [cJ 4 false] [0,1] SV
theorem SX:bV ⟨9,[0,1]⟩ (Tryz.f123.body.getD .skip)=some SW.strip:=by kernel_rfl
def SY:ab:=au [ag 3 0,ro 4 (.call (.f 123) [(.t 3),(.f 124)]),h8 5 4,aP 2 5] [2] .ret
def SZ:ab:=au [cJ 2 false] [0] SY
theorem S0:bV ⟨6,[0]⟩ (Tryz.f83.body.getD .skip)=some SZ.strip:=by kernel_rfl
def S1:ab:=au [ag 3 0,ro 4 (.call (.f 86) [(.t 3),(.c (.int .i64 0)),(.c (.int .i64 3))]),h8 5 4,aP 2 5] [2] .ret
def c85:ab:=au [cJ 2 false] [0] S1
theorem S2:bV ⟨6,[0]⟩ (Tryz.f85.body.getD .skip)=some c85.strip:=by kernel_rfl
def S3:ab:=au [ag 17 5,aP 4 17] [4] .ret
def S4:ab:=.cond (.t 16) S3 .skip
def S5:ab:=au [ag 11 1,ag 12 0,ag 13 5,gz 14 23 12 13,du 15 2 14,ro 16 (.call (.t 11) [(.t 15)])] [0,1,5,7,8,16] S4
def S6:ab:=.ch [bW 18 .add 3 8 1,ag 8 18] (some [0,1,7,8])
def S7:ab:=.seq (.block 1 (au [ag 10 8,aP 5 10] [0,1,5,7,8] S5)) S6
def S8:ab:=.seq (.cond (.t 9) .skip (.exit 0)) S7
def EJ:ab:=au [cT 9 .lss 3 8 7] [0,1,7,8,9] S8
def S9:ab:=.block 0 (.loop EJ)
def S_:ab:=au [ck 4 (-1)] [4] .ret
def Ta:ab:=.seq (au [ag 6 0,cS 7 23 6,rf 8 0] [0,1,7,8] S9) S_
def Tb:ab:=au [ck 4 0] [0,1] Ta
theorem Tc:bV ⟨19,[0,1]⟩ (Tryz.f126.body.getD .skip)=some Tb.strip:=by kernel_rfl
def Td:ab:=au [ag 5 0,ag 6 1,ea 7 126 5 6,bW 8 .geq 3 7 0,aP 4 8] [4] .ret
def Te:ab:=au [cJ 4 false] [0,1] Td
theorem Tf:bV ⟨9,[0,1]⟩ (Tryz.f84.body.getD .skip)=some Te.strip:=by kernel_rfl
def Tg:ab:=au [ck 4 2] [4] .ret
def Th:ab:=au [ck 4 7] [4] .ret
def Ti:ab:=.cond (.t 14) Th .skip
def Tj:ab:=au [ag 15 1,cS 16 23 15,bW 17 .gtr 3 16 200,ag 18 17,dB 19 18 (.b8 (.t 1)),⟨some 20,.call (.f 84) [(.t 19),(.f 85)],some (18,false)⟩,ro 21 (.pick (.t 18) (.c (.bool true)) (.t 20)),aP 14 21] [14] Ti
def Tk:ab:=.cond (.t 5) Tg Tj
def Tl:ab:=au [ck 4 0] [4] .ret
def Tm:ab:=.seq (.block 0 (au [ag 6 0,cS 7 22 6,bW 8 .gtr 3 7 60,ag 9 8,dB 10 9 (.b8 (.t 0)),⟨some 11,.call (.f 83) [(.t 10)],some (9,false)⟩,dB 12 9 (.un .not (.t 11)),ro 13 (.pick (.t 9) (.c (.bool true)) (.t 12)),aP 5 13] [1,5] Tk)) Tl
def c51:ab:=au [ck 4 0] [0,1] Tm
theorem Tn:bV ⟨22,[0,1]⟩ (Tryz.f51.body.getD .skip)=some c51.strip:=by kernel_rfl
def c127:ab:=.ch [ag 4 0,ag 5 0,dS 6 5,dR 7 96 6 1,du 8 2 7,ag 9 1,ro 10 (.fL true (.t 8) (.t 9)),dS 11 4,dR 12 96 11 1,jC 2 12 10] (some [0])
theorem To:bV ⟨13,[0,1]⟩ (Tryz.f127.body.getD .skip)=some c127.strip:=by kernel_rfl
def Tp:ab:=.ch [ag 11 0,dS 12 11,dR 13 96 12 2,du 14 2 13,bW 15 .add 2 14 1,dS 16 11,dR 17 96 16 2,jC 2 17 15] (some [0])
def Tq:ab:=.cond (.t 10) Tp .skip
def EK:ab:=au [ag 18 0,dS 19 18,dR 20 96 19 2,du 21 2 20,aP 4 21] [0,4] .ret
def Tr:ab:=.seq (au [ag 5 1,ag 6 0,dS 7 6,dR 8 96 7 2,du 9 2 8,cT 10 .eql 2 5 9] [0,10] Tq) EK
def Ts:ab:=au [ck 4 0] [0,1] Tr
theorem Tt:bV ⟨22,[0,1]⟩ (Tryz.f128.body.getD .skip)=some Ts.strip:=by kernel_rfl
def Tu:ab:=.ch [ag 19 0,ag 20 0,dS 21 20,dR 22 96 21 3,du 23 2 22,ea 24 128 19 23,aP 6 24] (some [0,1,2,6])
def Tv:ab:=.cond (.t 18) Tu .skip
def Tw:ab:=.ch [ag 43 0,ag 44 0,dS 45 44,dR 46 96 45 1,du 47 2 46,ea 48 128 43 47,aP 6 48] (some [0,2,6])
def Tx:ab:=.ch [ag 58 0,ag 59 7,ea 60 128 58 59,aP 6 60] (some [0,2,6])
def Ty:ab:=au [ag 55 0,ag 56 7,ea 57 128 55 56] [0,2,7] Tx
def Tz:ab:=au [ag 51 0,dS 52 51,dR 53 96 52 1,du 54 2 53,aP 7 54] [0,2,7] Ty
def TA:ab:=.ch [ag 63 0,ag 64 0,dS 65 64,dR 66 96 65 1,du 67 2 66,dS 68 63,dR 69 96 68 3,jC 2 69 67] (some [0,2,6])
def TB:ab:=.cond (.t 61) TA .skip
def TC:ab:=au [bW 62 .eql 2 40 3,aP 61 62] [0,2,6,61] TB
def TD:ab:=.cond (.t 49) Tz TC
def TE:ab:=au [bW 50 .eql 2 40 2,aP 49 50] [0,2,6,40,49] TD
def TF:ab:=.cond (.t 41) Tw TE
def TG:ab:=.block 0 (au [bW 42 .eql 2 40 0,aP 41 42] [0,2,6,40,41] TF)
def TH:ab:=au [ag 40 1] [0,2,6,40] TG
def TI:ab:=.cond (.t 39) TH .skip
def TJ:ab:=.ch [ag 76 0,ag 77 6,dS 78 76,dR 79 96 78 4,jC 2 79 77] (some [0])
def TK:ab:=.ch [ag 83 0,ag 84 6,ea 85 127 83 84] (some [0])
def TL:ab:=.cond (.t 80) TK .skip
def TM:ab:=au [ag 81 2,bW 82 .neq 2 81 1,aP 80 82] [0,6,80] TL
def TN:ab:=.cond (.t 73) TJ TM
def TO:ab:=au [ag 74 2,bW 75 .eql 2 74 3,aP 73 75] [0,2,6,73] TN
def TP:ab:=.cond (.t 70) .skip TO
def EL:ab:=.block 1 (au [ag 71 6,bW 72 .lss 2 71 0,aP 70 72] [0,2,6,70] TP)
def TQ:ab:=.seq (p1 [ag 31 0,dS 32 31,dR 33 96 32 1,du 34 2 33,ag 35 0,dS 36 35,dR 37 96 36 0,du 38 2 37,cT 39 .lss 2 34 38] [[],[0],[1],[2],[],[4],[5],[6],[3,7]] [0,1,2,6,39] TI) EL
def EM:ab:=au [ag 25 0,ag 26 0,dS 27 25,dR 28 96 27 3,⟨none,.dY 2 (.t 28) (.c (.int .i64 (-1))),none⟩,dS 29 26,dR 30 96 29 4,⟨none,.dY 2 (.t 30) (.c (.int .i64 (-1))),none⟩] [0,1,2,6] TQ
def TR:ab:=.seq (au [ag 14 0,dS 15 14,dR 16 96 15 3,du 17 2 16,bW 18 .geq 2 17 0] [0,1,2,6,18] Tv) EM
def TS:ab:=au [ag 8 0,ag 9 0,dS 10 9,dR 11 96 10 4,du 12 2 11,ea 13 127 8 12] [0,1,2,6] TR
def c87:ab:=au [ck 6 (-1)] [0,1,2,6] TS
theorem TT:bV ⟨86,[0,1,2]⟩ (Tryz.f87.body.getD .skip)=some c87.strip:=by kernel_rfl
def TU:ab:=.ch [ag 28 8,aP 7 28] (some [1,6,7,8])
def TV:ab:=.cond (.t 27) TU .skip
def TW:ab:=au [ag 35 6,ag 36 7,aP 4 35,aP 5 36] [4,5] .ret
def TX:ab:=.cond (.t 34) TW .skip
def TY:ab:=.iG [ag 37 6,ag 38 1,ag 39 8,ro 40 (.bG .mul 3 (.c (.int .i64 2)) (.t 39)),gz 41 23 38 40,du 42 2 41,ag 43 1,ag 44 8,ro 45 (.bG .mul 3 (.c (.int .i64 2)) (.t 44)),bW 46 .add 3 45 1,gz 47 23 43 46,du 48 2 47,D6 49 87 37 42 48] [[],[],[],[2],[1,3],[4],[],[],[7],[8],[6,9],[10],[0,5,11]] (some [1,6,7,8])
def EN:ab:=.seq (au [ag 29 8,ro 30 (.bG .mul 3 (.c (.int .i64 2)) (.t 29)),bW 31 .add 3 30 1,ag 32 1,cS 33 23 32,cT 34 .geq 3 31 33] [1,6,7,8,34] TX) TY
def TZ:ab:=.ch [ag 13 8,bW 14 .add 3 13 1,aP 8 14] (some [1,6,7,8])
def EO:ab:=.seq (.block 1 (.seq (p1 [ag 15 7,bW 16 .lss 2 15 0,ag 17 16,b1 18 17 (.b8 (.t 6)),b1 19 17 (.el (.t 18)),b1 20 17 (.ek 96 (.t 19) 1),b1 21 17 (.c8 2 (.t 20)),b1 22 17 (.b8 (.t 6)),b1 23 17 (.el (.t 22)),b1 24 17 (.ek 96 (.t 23) 0),b1 25 17 (.c8 2 (.t 24)),b1 26 17 (.bG .eql 2 (.t 21) (.t 25)),ro 27 (.pick (.t 17) (.t 26) (.c (.bool false)))] [[],[0],[1],[2],[3,2],[4,2],[5,2],[2],[7,2],[8,2],[9,2],[6,10,2],[2,11]] [1,6,7,8,27] TV) EN)) TZ
def T0:ab:=.block 0 (.loop EO)
def T1:ab:=au [ck 8 0] [1,6,7,8] T0
def T2:ab:=au [ck 7 (-1)] [1,6,7] T1
def T3:ab:=au [ag 9 0,cS 10 22 9,ro 11 (.dH 96 [(0,(.t 10)),(3,(.c (.int .i64 (-1)))),(4,(.c (.int .i64 (-1))))]),ro 12 (.eg 96 (.t 11)),aP 6 12] [1,6] T2
def T4:ab:=au [ro 4 (.d_ (.c .cn)),ck 5 0] [0,1] T3
theorem T5:bV ⟨50,[0,1]⟩ (Tryz.f52.body.getD .skip)=some T4.strip:=by kernel_rfl
def T6:ab:=au [ag 14 6,ck 4 0,aP 5 14] [4,5] .ret
def T7:ab:=.cond (.t 13) T6 .skip
def T8:ab:=au [ag 12 6,bW 13 .neq 2 12 0] [0,1,6,13] T7
def T9:ab:=au [ck 4 0,ck 5 3] [4,5] .ret
def T_:ab:=.cond (.t 22) T9 .skip
def Ua:ab:=au [ag 23 8,aP 4 23,ck 5 0] [4,5] .ret
def Ub:ab:=.seq (au [ag 21 8,bW 22 .lss 2 21 0] [8,22] T_) Ua
def Uc:ab:=au [ag 16 0,ag 17 1,ea 18 52 16 17,ag 15 18,fN 19 15 0,fN 20 15 1,aP 7 19,aP 8 20] [8] Ub
def Ud:ab:=.seq (au [ag 9 0,ag 10 1,ea 11 51 9 10,aP 6 11] [0,1,6] T8) Uc
def Ue:ab:=au [ck 4 0,ck 5 0] [0,1] Ud
theorem Uf:bV ⟨24,[0,1]⟩ (Tryz.f13.body.getD .skip)=some Ue.strip:=by kernel_rfl
def Ug:ab:=au [cJ 4 false] [4] .ret
def Uh:ab:=.cond (.t 10) Ug .skip
def Ui:ab:=.cond (.t 14) .skip (.exit 0)
def Uj:ab:=au [cJ 4 false] [4] .ret
def Uk:ab:=.cond (.t 25) Uj .skip
def Ul:ab:=.ch [ag 15 5,bW 16 .add 3 15 1,aP 5 16] (some [0,1,5])
def Um:ab:=.seq (.block 1 (p1 [ag 17 0,ag 18 5,gz 19 22 17 18,du 20 9 19,ag 21 1,ag 22 5,gz 23 22 21 22,du 24 9 23,cT 25 .neq 9 20 24] [[],[],[0,1],[2],[],[],[4,5],[6],[3,7]] [0,1,5,25] Uk)) Ul
def EP:ab:=.seq (au [ag 11 5,ag 12 0,cS 13 22 12,cT 14 .lss 3 11 13] [0,1,5,14] Ui) Um
def Un:ab:=.block 0 (.loop EP)
def Uo:ab:=au [cJ 4 true] [4] .ret
def Up:ab:=.seq (au [ck 5 0] [0,1,5] Un) Uo
def Uq:ab:=.seq (au [ag 6 0,cS 7 22 6,ag 8 1,cS 9 22 8,cT 10 .neq 3 7 9] [0,1,10] Uh) Up
def Ur:ab:=au [cJ 4 false] [0,1] Uq
theorem p3:bV ⟨26,[0,1]⟩ (Tryz.f14.body.getD .skip)=some Ur.strip:=by kernel_rfl
def Us:ab:=au [cJ 4 false] [4] .ret
def Ut:ab:=.cond (.t 10) Us .skip
def Uu:ab:=.cond (.t 14) .skip (.exit 0)
def Uv:ab:=au [cJ 4 false] [4] .ret
def Uw:ab:=.cond (.t 25) Uv .skip
def Ux:ab:=.ch [ag 15 5,bW 16 .add 3 15 1,aP 5 16] (some [0,1,5])
def Uy:ab:=.seq (.block 1 (p1 [ag 17 0,ag 18 5,gz 19 23 17 18,du 20 2 19,ag 21 1,ag 22 5,gz 23 23 21 22,du 24 2 23,cT 25 .neq 2 20 24] [[],[],[0,1],[2],[],[],[4,5],[6],[3,7]] [0,1,5,25] Uw)) Ux
def ER:ab:=.seq (au [ag 11 5,ag 12 0,cS 13 23 12,cT 14 .lss 3 11 13] [0,1,5,14] Uu) Uy
def Uz:ab:=.block 0 (.loop ER)
def UA:ab:=au [cJ 4 true] [4] .ret
def UB:ab:=.seq (au [ck 5 0] [0,1,5] Uz) UA
def UC:ab:=.seq (au [ag 6 0,cS 7 23 6,ag 8 1,cS 9 23 8,cT 10 .neq 3 7 9] [0,1,10] Ut) UB
def UD:ab:=au [cJ 4 false] [0,1] UC
theorem UE:bV ⟨26,[0,1]⟩ (Tryz.f15.body.getD .skip)=some UD.strip:=by kernel_rfl
def UF:ab:=au [cJ 4 true] [4] .ret
def UG:ab:=.cond (.t 14) UF .skip
def UH:ab:=au [cJ 4 true] [4] .ret
def UI:ab:=.cond (.t 19) UH .skip
def UJ:ab:=au [cJ 4 false] [4] .ret
def UK:ab:=.cond (.t 45) UJ .skip
def UL:ab:=au [cJ 4 false] [4] .ret
def UM:ab:=.cond (.t 50) UL .skip
def UN:ab:=au [cJ 4 false] [4] .ret
def UO:ab:=.cond (.t 55) UN .skip
def UP:ab:=au [cJ 4 true] [4] .ret
def UQ:ab:=.seq (au [ag 51 9,ag 52 1,gA 53 12 52,ea 54 15 51 53,h8 55 54] [55] UO) UP
def UR:ab:=.seq (au [ag 46 8,ag 47 0,gA 48 11 47,ea 49 14 46 48,h8 50 49] [1,9,50] UM) UQ
def US:ab:=.seq (au [ag 38 10,ag 39 6,cT 40 .neq 2 38 39,ag 41 40,dB 42 41 (.b8 (.t 11)),dB 43 41 (.b8 (.t 7)),dB 44 41 (.bG .neq 2 (.t 42) (.t 43)),ro 45 (.pick (.t 41) (.c (.bool true)) (.t 44))] [0,1,8,9,45] UK) UR
def UT:ab:=au [ag 33 8,ag 34 9,ea 35 13 33 34,ag 32 35,fN 36 32 0,fN 37 32 1,aP 10 36,aP 11 37] [0,1,6,7,8,9,10,11] US
def UU:ab:=au [ag 30 1,gA 31 12 30,aP 9 31] [0,1,6,7,8,9] UT
def UW:ab:=au [ag 28 0,gA 29 11 28,aP 8 29] [0,1,6,7,8] UU
def UX:ab:=au [ag 21 0,gA 22 11 21,ag 23 1,gA 24 12 23,ea 25 10 22 24,ag 20 25,fN 26 20 0,fN 27 20 1,aP 6 26,aP 7 27] [0,1,6,7] UW
def UY:ab:=.seq (au [ag 18 5,bW 19 .lss 3 18 0] [0,1,19] UI) UX
def UZ:ab:=au [ag 15 0,ag 16 5,ea 17 9 15 16,aP 5 17] [0,1,5] UY
def U0:ab:=au [ck 5 1048576] [0,1,5] UZ
def U1:ab:=.seq (au [ag 12 1,cS 13 23 12,bW 14 .gtr 3 13 1048576] [0,1,14] UG) U0
def c3:ab:=au [cJ 4 false] [0,1] U1
theorem eI:bV ⟨56,[0,1]⟩ (Tryz.f3.body.getD .skip)=some c3.strip:=by kernel_rfl
def U2:=PLift.up (And.intro @Bool.not_true @Bool.not_false)
def p4:=PLift.up (And.intro @List.length_append.{0} (And.intro @List.length_cons.{0} (And.intro @List.length_nil.{0} (And.intro @List.length_map.{0,0} (And.intro @List.length_replicate.{0} (And.intro @Nat.zero_add @Nat.add_zero))))))
end Go.Proofs.YtipllbfpaepajaaGreatDoor
