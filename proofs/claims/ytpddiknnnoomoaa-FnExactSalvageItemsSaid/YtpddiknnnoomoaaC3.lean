/- Part of a proof that a law returns true for every input. No condition. -/
import Derived.Test.YtpddiknnnoomoaaTb
import Derived.Test.YtpddiknnnoomoaaFwL
import Derived.Test.YtpddiknnnoomoaaP3
namespace Go.Proofs.Ytpddiknnnoomoaa
open Go Go.bV Go.eF
set_option linter.unusedSimpArgs false
def aM (x:aP):j:=.agg [.str x.Name,.str x.dP]
theorem iu (x:aP):(aM x).share=aM x:=by
 simp only[aM,hL]
theorem HH (x:aP):(aM x).c5=true:=by
 simp only[aM,j.c5,j.kZ,Bool.and_self]
def rr (x:List UInt8):j:=.str x
theorem P0 (x:List UInt8):(rr x).share=rr x:=by
 simp only[rr,hL]
theorem P1 (x:List UInt8):(rr x).c5=true:=by
 simp only[rr,j.c5,j.kZ,Bool.and_self]
def aI (r:List bm) (k:List Nat) (c:ah):ah:=.seq (.db r (some k)) c
def l0 (r:List bm) (a:List (List Nat)) (k:List Nat) (c:ah):ah:=.seq (.hJ r a (some k)) c
abbrev c6 (d t:Nat) (o:dE):bm:=⟨some d,o,some (t,true)⟩
abbrev cH (d t:Nat) (o:dE):bm:=⟨some d,o,some (t,false)⟩
abbrev P2 (n:Nat) (k:List Nat) (f:Func) (c:ah):Prop:=cB ⟨n,k⟩ (f.body.getD .skip)=some c.strip
def HI:ah:=aI [aB 3 0,ro 4 (.bP .geq 5 (.t 3) (.c (.int .u8 97))),aB 5 4,c6 6 5 (.cq (.t 0)),c6 7 5 (.bP .leq 5 (.t 6) (.c (.int .u8 122))),ro 8 (.pick (.t 5) (.t 7) (.c (.bool false))),bu 2 8] [2] .ret
def HJ:ah:=aI [dO 2 false] [0] HI
theorem HK:cB ⟨9,[0]⟩ (Try.f75.body.getD .skip)=some HJ.strip:=by kernel_rfl
def HL:ah:=aI [aB 3 0,ro 4 (.bP .geq 5 (.t 3) (.c (.int .u8 48))),aB 5 4,c6 6 5 (.cq (.t 0)),c6 7 5 (.bP .leq 5 (.t 6) (.c (.int .u8 57))),ro 8 (.pick (.t 5) (.t 7) (.c (.bool false))),bu 2 8] [2] .ret
def HM:ah:=aI [dO 2 false] [0] HL
theorem HN:cB ⟨9,[0]⟩ (Try.f76.body.getD .skip)=some HM.strip:=by kernel_rfl
def HO:ah:=aI [dO 2 false] [2] .ret
def HP:ah:=.cond (.t 16) HO .skip
def HQ:ah:=.cond (.t 20) .skip (.exit 0)
def HR:ah:=aI [dO 2 false] [2] .ret
def HS:ah:=.cond (.t 34) HR .skip
def HT:ah:=.db [aB 21 3,cF 22 .add 3 21 1,bu 3 22] (some [0,3])
def HU:ah:=.seq (.block 1 (aI [aB 23 0,aB 24 3,kl 25 9 23 24,hz 26 75 25,im 27 26,aB 28 27,c6 29 28 (.cq (.t 0)),c6 30 28 (.cq (.t 3)),c6 31 28 (.idx 9 (.t 29) (.t 30)),⟨some 32,.call (.f 76) [(.t 31)],some (28,true)⟩,c6 33 28 (.un .not (.t 32)),ro 34 (.pick (.t 28) (.t 33) (.c (.bool false)))] [0,3,34] HS)) HT
def Ba:ah:=.seq (aI [aB 17 3,aB 18 0,fD 19 9 18,dM 20 .lss 3 17 19] [0,3,20] HQ) HU
def HV:ah:=.block 0 (.loop Ba)
def HW:ah:=aI [dO 2 true] [2] .ret
def HX:ah:=.seq (aI [cV 3 0] [0,3] HV) HW
def HY:ah:=.seq (aI [aB 4 0,ro 5 (.bP .eql 9 (.t 4) (.c (.str []))),aB 6 5,cH 7 6 (.cq (.t 0)),cH 8 6 (.len 9 (.t 7)),cH 9 6 (.bP .gtr 3 (.t 8) (.c (.int .i64 10))),ro 10 (.pick (.t 6) (.c (.bool true)) (.t 9)),aB 11 10,cH 12 11 (.cq (.t 0)),cH 13 11 (.idx 9 (.t 12) (.c (.int .i64 0))),⟨some 14,.call (.f 75) [(.t 13)],some (11,false)⟩,cH 15 11 (.un .not (.t 14)),ro 16 (.pick (.t 11) (.c (.bool true)) (.t 15))] [0,16] HP) HX
def HZ:ah:=aI [dO 2 false] [0] HY
theorem H0:cB ⟨35,[0]⟩ (Try.f39.body.getD .skip)=some HZ.strip:=by kernel_rfl
def H2:ah:=.cond (.t 10) .skip (.exit 0)
def H3:ah:=.cond (.t 21) .skip (.exit 2)
def H4:ah:=.db [aB 28 1,cF 29 .and 2 28 65535,cF 30 .xor 2 29 4129,bu 1 30] (some [0,1,5,6])
def H5:ah:=.cond (.t 27) H4 .skip
def H6:ah:=aI [aB 26 1,cF 27 .gtr 2 26 65535] [0,1,5,6,27] H5
def Bb:ah:=.db [aB 22 6,cF 23 .add 3 22 1,bu 6 23] (some [0,1,5,6])
def H7:ah:=.seq (.block 3 (aI [aB 24 1,ro 25 (.bP .shl 2 (.t 24) (.c (.int .u64 1))),bu 1 25] [0,1,5,6] H6)) Bb
def Bc:ah:=.seq (aI [aB 20 6,cF 21 .lss 3 20 8] [0,1,5,6,21] H3) H7
def H8:ah:=.block 2 (.loop Bc)
def H9:ah:=aI [cV 6 0] [0,1,5,6] H8
def H_:ah:=.db [aB 11 5,cF 12 .add 3 11 1,bu 5 12] (some [0,1,5])
def Ia:ah:=.seq (.block 1 (aI [aB 13 1,aB 14 0,aB 15 5,kl 16 9 14 15,hN 17 5 2 16,ro 18 (.bP .shl 2 (.t 17) (.c (.int .u64 8))),dM 19 .xor 2 13 18,bu 1 19] [0,1,5] H9)) H_
def Bd:ah:=.seq (aI [aB 7 5,aB 8 0,fD 9 9 8,dM 10 .lss 3 7 9] [0,1,5,10] H2) Ia
def Ib:ah:=.block 0 (.loop Bd)
def Ic:ah:=aI [aB 31 1,bu 4 31] [4] .ret
def Ie:ah:=.seq (aI [cV 5 0] [0,1,5] Ib) Ic
def Ig:ah:=aI [cV 4 0] [0,1] Ie
theorem Ih:cB ⟨32,[0]⟩ (Try.f77.body.getD .skip)=some Ig.strip:=by kernel_rfl
def Ii:ah:=aI [aB 7 0,aB 8 1,dM 9 .geq 2 7 8,aB 10 9,c6 11 10 (.cq (.t 0)),c6 12 10 (.cq (.t 2)),c6 13 10 (.bP .leq 2 (.t 11) (.t 12)),ro 14 (.pick (.t 10) (.t 13) (.c (.bool false))),bu 6 14] [6] .ret
def Ij:ah:=aI [dO 6 false] [0,1,2] Ii
theorem Ik:cB ⟨15,[0,1,2]⟩ (Try.f78.body.getD .skip)=some Ij.strip:=by kernel_rfl
def Il:ah:=aI [cV 2 0,cV 3 11] [2,3] .ret
def Im:ah:=.cond (.t 9) Il .skip
def Io:ah:=aI [cV 2 0,cV 3 10] [2,3] .ret
def Ip:ah:=.cond (.t 27) Io .skip
def Iq:ah:=aI [cV 2 0,cV 3 9] [2,3] .ret
def Ir:ah:=.cond (.t 37) Iq .skip
def Is:ah:=aI [aB 38 5,bu 2 38,cV 3 0] [2,3] .ret
def It:ah:=.seq (aI [aB 31 5,ro 32 (.call (.f 78) [(.t 31),(.c (.int .i64 1)),(.c (.int .i64 3))]),im 33 32,aB 34 33,cH 35 34 (.cq (.t 4)),cH 36 34 (.bP .gtr 3 (.t 35) (.c (.int .i64 6000))),ro 37 (.pick (.t 34) (.c (.bool true)) (.t 36))] [5,37] Ir) Is
def Iu:ah:=aI [aB 28 0,ro 29 (.idx 9 (.t 28) (.c (.int .i64 0))),hN 30 5 2 29,bu 5 30] [4,5] It
def Iv:ah:=.seq (l0 [aB 10 0,aB 11 4,cF 12 .sub 3 11 2,ro 13 (.cU 9 (.t 10) none (some (.t 12))),ro 14 (.call (.f 77) [(.t 13),(.c (.int .i64 65535))]),aB 15 0,aB 16 4,cF 17 .sub 3 16 2,kl 18 9 15 17,hN 19 5 2 18,cF 20 .mul 2 19 256,aB 21 0,aB 22 4,cF 23 .sub 3 22 1,kl 24 9 21 23,hN 25 5 2 24,dM 26 .add 2 20 25,dM 27 .neq 2 14 26] [[],[],[1],[0,2],[3],[],[],[6],[5,7],[8],[9],[],[],[12],[11,13],[14],[10,15],[4,16]] [0,4,27] Ip) Iu
def Iw:ah:=.seq (aI [aB 8 4,cF 9 .lss 3 8 3] [0,4,9] Im) Iv
def Ix:ah:=aI [aB 6 0,fD 7 9 6,bu 4 7] [0,4] Iw
def Iy:ah:=aI [cV 2 0,cV 3 0] [0] Ix
theorem Iz:cB ⟨39,[0]⟩ (Try.f40.body.getD .skip)=some Iy.strip:=by kernel_rfl
def IA:ah:=aI [ro 24 (.cL 35 []),aB 25 1,hA 35 4 24,bu 5 25,dO 6 false] [4,5,6] .ret
def IB:ah:=.cond (.t 23) IA .skip
def IC:ah:=aI [ro 44 (.cL 35 []),aB 45 1,hA 35 4 44,bu 5 45,dO 6 false] [4,5,6] .ret
def ID:ah:=.cond (.t 43) IC .skip
def IE:ah:=aI [ro 81 (.cL 35 []),aB 82 1,hA 35 4 81,bu 5 82,dO 6 false] [4,5,6] .ret
def IF:ah:=.cond (.t 80) IE .skip
def IG:ah:=aI [eY 96 35 9,aB 97 8,aB 98 10,dM 99 .add 3 97 98,aB 100 12,cF 101 .eql 2 100 0,hA 35 4 96,bu 5 99,bu 6 101] [4,5,6] .ret
def IH:ah:=aI [fl 91 35 9 1,eY 92 9 91,hz 93 40 92,aB 90 93,g7 94 90 0,g7 95 90 1,bu 11 94,bu 12 95] [4,8,9,10,12] IG
def II:ah:=aI [aB 83 0,aB 84 8,aB 85 8,aB 86 10,dM 87 .add 3 85 86,ro 88 (.cU 9 (.t 83) (some (.t 84)) (some (.t 87))),fl 89 35 9 1,hA 9 89 88] [4,8,9,10] IH
def IJ:ah:=.seq (aI [fl 69 35 9 0,eY 70 9 69,hz 71 39 70,im 72 71,aB 73 72,cH 74 73 (.cq (.t 8)),cH 75 73 (.cq (.t 10)),cH 76 73 (.bP .add 3 (.t 74) (.t 75)),cH 77 73 (.cq (.t 0)),cH 78 73 (.len 9 (.t 77)),cH 79 73 (.bP .gtr 3 (.t 76) (.t 78)),ro 80 (.pick (.t 73) (.c (.bool true)) (.t 79))] [0,1,4,8,9,10,80] IF) II
def IK:ah:=aI [aB 67 8,cF 68 .add 3 67 2,bu 8 68] [0,1,4,8,9,10] IJ
def IL:ah:=l0 [aB 56 0,aB 57 8,kl 58 9 56 57,hN 59 5 3 58,cF 60 .mul 3 59 256,aB 61 0,aB 62 8,cF 63 .add 3 62 1,kl 64 9 61 63,hN 65 5 3 64,dM 66 .add 3 60 65,bu 10 66] [[],[],[0,1],[2],[3],[],[],[6],[5,7],[8],[4,9],[10,0,1,2,3,4,5,6,7,8,9,10]] [0,1,4,8,9,10] IK
def IM:ah:=aI [aB 53 8,aB 54 7,dM 55 .add 3 53 54,bu 8 55] [0,1,4,8,9] IL
def IP:ah:=aI [aB 46 0,aB 47 8,aB 48 8,aB 49 7,dM 50 .add 3 48 49,ro 51 (.cU 9 (.t 46) (some (.t 47)) (some (.t 50))),ro 52 (.cL 35 [(0,(.t 51))]),pA 9 35,hA 35 9 52] [0,1,4,7,8,9] IM
def IQ:ah:=.seq (aI [aB 33 7,cF 34 .gtr 3 33 10,aB 35 34,cH 36 35 (.cq (.t 8)),cH 37 35 (.cq (.t 7)),cH 38 35 (.bP .add 3 (.t 36) (.t 37)),cH 39 35 (.bP .add 3 (.t 38) (.c (.int .i64 2))),cH 40 35 (.cq (.t 0)),cH 41 35 (.len 9 (.t 40)),cH 42 35 (.bP .gtr 3 (.t 39) (.t 41)),ro 43 (.pick (.t 35) (.c (.bool true)) (.t 42))] [0,1,4,7,8,43] ID) IP
def IU:ah:=aI [aB 31 1,cF 32 .add 3 31 2,bu 8 32] [0,1,4,7,8] IQ
def IV:ah:=aI [aB 26 0,aB 27 1,cF 28 .add 3 27 1,kl 29 9 26 28,hN 30 5 3 29,bu 7 30] [0,1,4,7] IU
def IW:ah:=.seq (aI [aB 13 1,cF 14 .add 3 13 2,aB 15 0,fD 16 9 15,dM 17 .gtr 3 14 16,aB 18 17,cH 19 18 (.cq (.t 0)),cH 20 18 (.cq (.t 1)),cH 21 18 (.idx 9 (.t 19) (.t 20)),cH 22 18 (.bP .neq 5 (.t 21) (.c (.int .u8 35))),ro 23 (.pick (.t 18) (.c (.bool true)) (.t 22))] [0,1,4,23] IB) IV
def IX:ah:=aI [pA 4 35,cV 5 0,dO 6 false] [0,1,4] IW
theorem IY:cB ⟨102,[0,1]⟩ (Try.f30.body.getD .skip)=some IX.strip:=by kernel_rfl
def IZ:ah:=.cond (.t 12) .skip (.exit 0)
def I0:ah:=.db [dO 6 true] (some [0,3,5,6,7])
def I1:ah:=aI [aB 27 5,eY 28 35 3,rb 29 22 28,wv 30 22 22 27 29,bu 5 30] [0,3,5,7] I0
def I2:ah:=.cond (.t 26) I1 .skip
def I3:ah:=.db [aB 39 5,aB 40 0,aB 41 7,lV 42 22 40 41,eY 43 35 42,rb 44 22 43,wv 45 22 22 39 44,bu 5 45] (some [0,3,5,6,7])
def I4:ah:=.cond (.t 38) I3 .skip
def Be:ah:=l0 [aB 31 0,aB 32 7,lV 33 22 31 32,fl 34 35 33 0,eY 35 9 34,fl 36 35 3 0,eY 37 9 36,dM 38 .neq 9 35 37] [[],[],[0,1],[2],[3],[],[5],[4,6]] [0,3,5,6,7,38] I4
def Bf:ah:=.db [aB 13 7,cF 14 .add 3 13 1,bu 7 14] (some [0,3,5,6,7])
def I5:ah:=.seq (.block 1 (.seq (l0 [aB 15 6,im 16 15,aB 17 16,c6 18 17 (.cq (.t 0)),c6 19 17 (.cq (.t 7)),c6 20 17 (.dK 22 (.t 18) (.t 19)),c6 21 17 (.dC 35 (.t 20) 0),c6 22 17 (.cM 9 (.t 21)),c6 23 17 (.dC 35 (.t 3) 0),c6 24 17 (.cM 9 (.t 23)),c6 25 17 (.bP .geq 9 (.t 22) (.t 24)),ro 26 (.pick (.t 17) (.t 25) (.c (.bool false)))] [[],[0],[1],[2],[2],[3,4,2],[5,2],[6,2],[2],[8,2],[7,9,2],[2,10]] [0,3,5,6,7,26] I2) Be)) Bf
def Bg:ah:=.seq (aI [aB 9 7,aB 10 0,fD 11 22 10,dM 12 .lss 3 9 11] [0,3,5,6,7,12] IZ) I5
def I6:ah:=.block 0 (.loop Bg)
def I7:ah:=.db [aB 48 5,eY 49 35 3,rb 50 22 49,wv 51 22 22 48 50,bu 5 51] (some [5])
def I8:ah:=.cond (.t 47) I7 .skip
def Bh:ah:=aI [aB 52 5,bu 4 52] [4] .ret
def I9:ah:=.seq (aI [aB 46 6,im 47 46] [3,5,47] I8) Bh
def I_:ah:=.seq (aI [cV 7 0] [0,3,5,6,7] I6) I9
def Ja:ah:=aI [dO 6 false] [0,3,5,6] I_
def Jb:ah:=aI [ro 8 (.c0 22 0 []),bu 5 8] [0,3,5] Ja
def Jc:ah:=aI [ro 3 (.dq 35 (.t 1)),pz 4] [0,3] Jb
theorem Jd:cB ⟨53,[0,1]⟩ (Try.f31.body.getD .skip)=some Jc.strip:=by kernel_rfl
def Je:ah:=.cond (.t 20) .skip (.exit 0)
def Jf:ah:=aI [aB 30 5,cF 31 .add 3 30 1,bu 5 31] [0,4,5] (.exit 1)
def Jg:ah:=.cond (.t 29) Jf .skip
def Jh:ah:=.cond (.t 36) .skip (.exit 2)
def Ji:ah:=.db [aB 37 10,cF 38 .add 3 37 1,bu 10 38] (some [0,4,5,6,9,10])
def Jj:ah:=.seq (.block 3 (.hJ [aB 39 9,aB 40 39,cH 41 40 (.cq (.t 4)),cH 42 40 (.cq (.t 10)),cH 43 40 (.dK 22 (.t 41) (.t 42)),cH 44 40 (.dC 35 (.t 43) 0),cH 45 40 (.cM 9 (.t 44)),cH 46 40 (.dC 35 (.t 6) 0),cH 47 40 (.cM 9 (.t 46)),cH 48 40 (.bP .eql 9 (.t 45) (.t 47)),ro 49 (.pick (.t 40) (.c (.bool true)) (.t 48)),bu 9 49] [[],[0],[1],[1],[2,3,1],[4,1],[5,1],[1],[7,1],[6,8,1],[1,9],[10,1,0,1,2,3,4,5,6,7,8,9,10]] (some [0,4,5,6,9,10]))) Ji
def Bi:ah:=.seq (aI [aB 33 10,aB 34 4,fD 35 22 34,dM 36 .lss 3 33 35] [0,4,5,6,9,10,36] Jh) Jj
def Jk:ah:=.block 2 (.loop Bi)
def Jl:ah:=.db [aB 52 4,eY 53 35 6,kn 54 31 52 53,bu 4 54] (some [0,4,5])
def Jm:ah:=.cond (.t 51) Jl .skip
def Jn:ah:=aI [aB 50 9,im 51 50] [0,4,5,6,51] Jm
def Jo:ah:=.seq (aI [cV 10 0] [0,4,5,6,9,10] Jk) Jn
def Jp:ah:=aI [dO 9 false] [0,4,5,6,9] Jo
def Jq:ah:=aI [aB 32 7,bu 5 32] [0,4,5,6] Jp
def Jr:ah:=.seq (aI [aB 28 8,im 29 28] [0,4,5,6,7,29] Jg) Jq
def Js:ah:=.block 1 (aI [aB 22 0,aB 23 5,kn 24 30 22 23,aB 21 24,g7 25 21 0,g7 26 21 1,g7 27 21 2,pA 6 35,hA 35 6 25,bu 7 26,bu 8 27] [0,4,5,6,7,8] Jr)
def Bj:ah:=.seq (aI [aB 12 5,aB 13 0,fD 14 9 13,dM 15 .lss 3 12 14,aB 16 15,c6 17 16 (.cq (.t 4)),c6 18 16 (.len 22 (.t 17)),c6 19 16 (.bP .lss 3 (.t 18) (.c (.int .i64 16))),ro 20 (.pick (.t 16) (.t 19) (.c (.bool false)))] [0,4,5,20] Je) Js
def Jt:ah:=aI [pz 2,cV 3 3] [2,3] .ret
def Ju:ah:=.cond (.t 57) Jt .skip
def Jv:ah:=aI [aB 58 4,bu 2 58,cV 3 0] [2,3] .ret
def Jw:ah:=.seq (aI [aB 55 4,fD 56 22 55,cF 57 .eql 3 56 0] [4,57] Ju) Jv
def Jx:ah:=.seq (.block 0 (.loop Bj)) Jw
def Jy:ah:=aI [cV 5 0] [0,4,5] Jx
def Jz:ah:=aI [ro 11 (.c0 22 0 []),bu 4 11] [0,4] Jy
def vc:ah:=aI [pz 2,cV 3 0] [0] Jz
theorem JA:cB ⟨59,[0]⟩ (Try.f7.body.getD .skip)=some vc.strip:=by kernel_rfl
def JB:ah:=aI [cV 2 0] [0,2] .ret
def JC:ah:=aI [aB 9 0,km 10 9,fl 11 98 10 1,⟨none,.dW 4 (.t 11) (.c (.bool true)),none⟩] [0] JB
def JD:ah:=.cond (.t 8) JC .skip
def JE:ah:=aI [aB 25 3,hN 26 5 2 25,bu 2 26] [0,2] .ret
def JF:ah:=aI [aB 17 0,aB 18 0,km 19 18,fl 20 98 19 0,eY 21 9 20,ro 22 (.cU 9 (.t 21) (some (.c (.int .i64 1))) none),km 23 17,fl 24 98 23 0,hA 9 24 22] [0,3] JE
def JG:ah:=aI [aB 12 0,km 13 12,fl 14 98 13 0,eY 15 9 14,ro 16 (.idx 9 (.t 15) (.c (.int .i64 0))),bu 3 16] [0,3] JF
def JH:ah:=.seq (aI [aB 4 0,km 5 4,fl 6 98 5 0,eY 7 9 6,ro 8 (.bP .eql 9 (.t 7) (.c (.str [])))] [0,8] JD) JG
def JI:ah:=aI [cV 2 0] [0] JH
theorem JJ:cB ⟨27,[0]⟩ (Try.f70.body.getD .skip)=some JI.strip:=by kernel_rfl
def JK:ah:=aI [aB 3 0,ro 4 (.bP .geq 5 (.t 3) (.c (.int .u8 48))),aB 5 4,c6 6 5 (.cq (.t 0)),c6 7 5 (.bP .leq 5 (.t 6) (.c (.int .u8 57))),ro 8 (.pick (.t 5) (.t 7) (.c (.bool false))),bu 2 8] [2] .ret
def JL:ah:=aI [dO 2 false] [0] JK
theorem JM:cB ⟨9,[0]⟩ (Try.f79.body.getD .skip)=some JL.strip:=by kernel_rfl
def JN:ah:=aI [dO 2 false] [2] .ret
def JO:ah:=.cond (.t 32) JN .skip
def JP:ah:=aI [aB 20 4,im 21 20,aB 22 21,c6 23 22 (.cq (.t 3)),c6 24 22 (.bP .eql 3 (.t 23) (.c (.int .i64 0))),c6 25 22 (.cq (.t 24)),cH 26 25 (.cq (.t 0)),cH 27 25 (.cq (.t 3)),cH 28 25 (.idx 9 (.t 26) (.t 27)),⟨some 29,.call (.f 79) [(.t 28)],some (25,false)⟩,cH 30 25 (.un .not (.t 29)),c6 31 22 (.pick (.t 25) (.c (.bool true)) (.t 30)),ro 32 (.pick (.t 22) (.t 31) (.c (.bool false)))] [0,6,7,32] JO
def JQ:ah:=aI [aB 10 0,aB 11 3,kl 12 9 10 11,ro 13 (.bP .geq 5 (.t 12) (.c (.int .u8 97))),aB 14 13,c6 15 14 (.cq (.t 0)),c6 16 14 (.cq (.t 3)),c6 17 14 (.idx 9 (.t 15) (.t 16)),c6 18 14 (.bP .leq 5 (.t 17) (.c (.int .u8 122))),ro 19 (.pick (.t 14) (.t 18) (.c (.bool false))),bu 4 19] [0,3,4,6,7] JP
def JR:ah:=.db [cF 33 .add 3 7 1,aB 7 33] (some [0,6,7])
def JS:ah:=.seq (.block 1 (aI [aB 9 7,bu 3 9] [0,3,6,7] JQ)) JR
def JT:ah:=.seq (.cond (.t 8) .skip (.exit 0)) JS
def Bk:ah:=aI [dM 8 .lss 3 7 6] [0,6,7,8] JT
def JU:ah:=.block 0 (.loop Bk)
def JV:ah:=aI [aB 34 0,fD 35 9 34,cF 36 .geq 3 35 1,aB 37 36,c6 38 37 (.cq (.t 0)),c6 39 37 (.len 9 (.t 38)),c6 40 37 (.bP .leq 3 (.t 39) (.c (.int .i64 10))),ro 41 (.pick (.t 37) (.t 40) (.c (.bool false))),bu 2 41] [2] .ret
def JW:ah:=.seq (aI [aB 5 0,fD 6 9 5,wu 7 0] [0,6,7] JU) JV
def JX:ah:=aI [dO 2 false] [0] JW
theorem JY:cB ⟨42,[0]⟩ (Try.f42.body.getD .skip)=some JX.strip:=by kernel_rfl
def JZ:ah:=aI [aB 7 0,aB 8 1,dM 9 .geq 2 7 8,aB 10 9,c6 11 10 (.cq (.t 0)),c6 12 10 (.cq (.t 2)),c6 13 10 (.bP .leq 2 (.t 11) (.t 12)),ro 14 (.pick (.t 10) (.t 13) (.c (.bool false))),bu 6 14] [6] .ret
def J0:ah:=aI [dO 6 false] [0,1,2] JZ
theorem J1:cB ⟨15,[0,1,2]⟩ (Try.f81.body.getD .skip)=some J0.strip:=by kernel_rfl
def J2:ah:=aI [cV 4 0] [4] .ret
def J3:ah:=.cond (.t 9) J2 .skip
def J4:ah:=.db [aB 29 5,cF 30 .and 2 29 65535,cF 31 .xor 2 30 4129,bu 5 31] (some [0,5,12,13,23])
def J5:ah:=.cond (.t 28) J4 .skip
def J6:ah:=aI [aB 27 5,cF 28 .gtr 2 27 65535] [0,5,12,13,23,28] J5
def Bl:ah:=.db [cF 32 .add 3 23 1,aB 23 32] (some [0,5,12,13,23])
def J7:ah:=.seq (.block 3 (aI [aB 25 5,cF 26 .mul 2 25 2,bu 5 26] [0,5,12,13,23] J6)) Bl
def J8:ah:=.seq (.cond (.t 24) .skip (.exit 2)) J7
def Bm:ah:=aI [cF 24 .lss 3 23 8] [0,5,12,13,23,24] J8
def J9:ah:=.block 2 (.loop Bm)
def J_:ah:=aI [wu 23 0] [0,5,12,13,23] J9
def Ka:ah:=aI [aB 16 5,aB 17 0,aB 18 6,kl 19 9 17 18,hN 20 5 2 19,cF 21 .mul 2 20 256,dM 22 .xor 2 16 21,bu 5 22] [0,5,12,13] J_
def Kb:ah:=.db [cF 33 .add 3 13 1,aB 13 33] (some [0,5,12,13])
def Kc:ah:=.seq (.block 1 (aI [aB 15 13,bu 6 15] [0,5,6,12,13] Ka)) Kb
def Kd:ah:=.seq (.cond (.t 14) .skip (.exit 0)) Kc
def Bn:ah:=aI [dM 14 .lss 3 13 12] [0,5,12,13,14] Kd
def Ke:ah:=.block 0 (.loop Bn)
def Kf:ah:=aI [aB 34 5,bu 4 34] [4] .ret
def Kg:ah:=.seq (aI [aB 11 0,fD 12 9 11,wu 13 0] [0,5,12,13] Ke) Kf
def Kh:ah:=aI [aB 10 1,bu 5 10] [0,5] Kg
def Ki:ah:=.seq (aI [aB 7 1,ro 8 (.call (.f 81) [(.t 7),(.c (.int .i64 0)),(.c (.int .i64 65535))]),im 9 8] [0,1,9] J3) Kh
def Kj:ah:=aI [cV 4 0] [0,1] Ki
theorem Kk:cB ⟨35,[0,1]⟩ (Try.f80.body.getD .skip)=some Kj.strip:=by kernel_rfl
def Kl:ah:=aI [cV 2 0,cV 3 11] [2,3] .ret
def Km:ah:=.cond (.t 9) Kl .skip
def Kn:ah:=aI [cV 2 0,cV 3 10] [2,3] .ret
def Ko:ah:=aI [cV 2 0,cV 3 9] [2,3] .ret
def Kp:ah:=.cond (.t 37) Ko .skip
def Kq:ah:=aI [aB 38 6,ro 39 (.call (.f 81) [(.t 38),(.c (.int .i64 1)),(.c (.int .i64 3))]),im 40 39,aB 41 40,cH 42 41 (.cq (.t 0)),cH 43 41 (.len 9 (.t 42)),cH 44 41 (.bP .gtr 3 (.t 43) (.c (.int .i64 6000))),ro 45 (.pick (.t 41) (.c (.bool true)) (.t 44)),bu 37 45] [6,37] Kp
def Kr:ah:=.cond (.t 20) Kn Kq
def Ks:ah:=aI [aB 46 6,bu 2 46,cV 3 0] [2,3] .ret
def Kt:ah:=.seq (.block 0 (l0 [aB 21 0,aB 22 0,fD 23 9 22,cF 24 .sub 3 23 2,kl 25 9 21 24,hN 26 5 2 25,cF 27 .mul 2 26 256,aB 28 0,aB 29 0,fD 30 9 29,cF 31 .sub 3 30 1,kl 32 9 28 31,hN 33 5 2 32,dM 34 .add 2 27 33,aB 35 5,dM 36 .neq 2 34 35,bu 20 36] [[],[],[1],[2],[0,3],[4],[5],[],[],[8],[9],[7,10],[11],[6,12],[],[13,14],[15]] [0,6,20] Kr)) Ks
def Ku:ah:=aI [aB 17 0,ro 18 (.idx 9 (.t 17) (.c (.int .i64 0))),hN 19 5 2 18,bu 6 19] [0,5,6] Kt
def Kv:ah:=aI [aB 15 4,ro 16 (.call (.f 80) [(.t 15),(.c (.int .i64 65535))]),bu 5 16] [0,5] Ku
def Kw:ah:=aI [aB 10 0,aB 11 0,fD 12 9 11,cF 13 .sub 3 12 2,ro 14 (.cU 9 (.t 10) none (some (.t 13))),bu 4 14] [0,4] Kv
def Kx:ah:=.seq (aI [aB 7 0,fD 8 9 7,cF 9 .lss 3 8 3] [0,9] Km) Kw
def Ky:ah:=aI [cV 2 0,cV 3 0] [0] Kx
theorem Kz:cB ⟨47,[0]⟩ (Try.f43.body.getD .skip)=some Ky.strip:=by kernel_rfl
def KA:ah:=aI [aB 10 4,cF 11 .eql 2 10 0,bu 2 11] [2] .ret
def KB:ah:=aI [aB 6 0,hz 7 43 6,aB 5 7,g7 8 5 0,g7 9 5 1,bu 3 8,bu 4 9] [4] KA
def KC:ah:=aI [dO 2 false] [0] KB
theorem KD:cB ⟨12,[0]⟩ (Try.f71.body.getD .skip)=some KC.strip:=by kernel_rfl
def KE:ah:=aI [ro 27 (.cL 35 []),hA 35 2 27,cV 3 0,dO 4 false] [2,3,4] .ret
def KF:ah:=.cond (.t 26) KE .skip
def KG:ah:=aI [ro 63 (.cL 35 []),hA 35 2 63,cV 3 0,dO 4 false] [2,3,4] .ret
def KH:ah:=.cond (.t 62) KG .skip
def KI:ah:=l0 [eY 71 35 8,aB 72 0,fD 73 9 72,aB 74 5,km 75 74,fl 76 98 75 0,eY 77 9 76,fD 78 9 77,dM 79 .sub 3 73 78,aB 80 7,dM 81 .add 3 79 80,fl 82 35 8 0,eY 83 9 82,hz 84 42 83,aB 85 84,c6 86 85 (.dC 35 (.t 8) 1),c6 87 85 (.cM 9 (.t 86)),⟨some 88,.call (.f 71) [(.t 87)],some (85,true)⟩,ro 89 (.pick (.t 85) (.t 88) (.c (.bool false))),hA 35 2 71,bu 3 81,bu 4 89] [[],[],[1],[],[3],[4],[5],[6],[2,7],[],[8,9],[],[11],[12],[13,13],[14],[15,14],[16,14,14],[14,17],[0,17,0],[10,19,0,1,2,3,4,5,6,7,8,9,10,19],[18,20,0,1,2,3,4,5,6,7,8,9,10,11,12,13,14,15,16,17,18,19,20]] [2,3,4] .ret
def KJ:ah:=aI [aB 64 5,km 65 64,fl 66 98 65 0,eY 67 9 66,aB 68 7,ro 69 (.cU 9 (.t 67) none (some (.t 68))),fl 70 35 8 1,hA 9 70 69] [0,2,5,7,8] KI
def KK:ah:=.seq (aI [aB 50 5,km 51 50,fl 52 98 51 1,eY 53 4 52,aB 54 53,cH 55 54 (.cq (.t 7)),cH 56 54 (.cq (.t 5)),cH 57 54 (.ed (.t 56)),cH 58 54 (.dC 98 (.t 57) 0),cH 59 54 (.cM 9 (.t 58)),cH 60 54 (.len 9 (.t 59)),cH 61 54 (.bP .gtr 2 (.t 55) (.t 60)),ro 62 (.pick (.t 54) (.c (.bool true)) (.t 61))] [0,2,5,7,8,62] KH) KJ
def KL:ah:=aI [aB 44 5,hz 45 70 44,cF 46 .mul 2 45 256,aB 47 5,hz 48 70 47,dM 49 .add 2 46 48,bu 7 49] [0,2,5,7,8] KK
def KM:ah:=aI [aB 35 5,aB 36 5,km 37 36,fl 38 98 37 0,eY 39 9 38,aB 40 7,ro 41 (.cU 9 (.t 39) (some (.t 40)) none),km 42 35,fl 43 98 42 0,hA 9 43 41] [0,2,5,8] KL
def KN:ah:=aI [aB 28 5,km 29 28,fl 30 98 29 0,eY 31 9 30,aB 32 7,ro 33 (.cU 9 (.t 31) none (some (.t 32))),ro 34 (.cL 35 [(0,(.t 33))]),pA 8 35,hA 35 8 34] [0,2,5,7,8] KM
def KO:ah:=.seq (aI [aB 16 6,cF 17 .neq 2 16 35,aB 18 17,cH 19 18 (.cq (.t 7)),cH 20 18 (.cq (.t 5)),cH 21 18 (.ed (.t 20)),cH 22 18 (.dC 98 (.t 21) 0),cH 23 18 (.cM 9 (.t 22)),cH 24 18 (.len 9 (.t 23)),cH 25 18 (.bP .gtr 2 (.t 19) (.t 24)),ro 26 (.pick (.t 18) (.c (.bool true)) (.t 25))] [0,2,5,7,26] KF) KN
def KP:ah:=aI [aB 14 5,hz 15 70 14,bu 7 15] [0,2,5,6,7] KO
def KQ:ah:=aI [aB 12 5,hz 13 70 12,bu 6 13] [0,2,5,6] KP
def KR:ah:=aI [aB 9 0,ro 10 (.cL 98 [(0,(.t 9))]),ro 11 (.dq 98 (.t 10)),bu 5 11] [0,2,5] KQ
def KS:ah:=aI [pA 2 35,cV 3 0,dO 4 false] [0,2] KR
theorem KT:cB ⟨90,[0]⟩ (Try.f32.body.getD .skip)=some KS.strip:=by kernel_rfl
def KU:ah:=aI [aB 5 0,aB 6 1,kn 7 133 5 6,bu 4 7] [4] .ret
def KV:ah:=aI [cV 4 0] [0,1] KU
theorem KW:cB ⟨8,[0,1]⟩ (Try.f105.body.getD .skip)=some KV.strip:=by kernel_rfl
def KX:ah:=aI [aB 5 0,aB 6 1,kn 7 105 5 6,bu 4 7] [4] .ret
def KY:ah:=aI [cV 4 0] [0,1] KX
theorem KZ:cB ⟨8,[0,1]⟩ (Try.f72.body.getD .skip)=some KY.strip:=by kernel_rfl
def K0:ah:=aI [fl 5 35 2 0,eY 6 9 5,aB 7 1,kn 8 72 6 7,bu 4 8] [4] .ret
def K1:ah:=aI [ro 2 (.dq 35 (.t 0)),cV 4 0] [1,2] K0
theorem K2:cB ⟨9,[0,1]⟩ (Try.f34.body.getD .skip)=some K1.strip:=by kernel_rfl
def K3:ah:=.cond (.t 17) .skip (.exit 0)
def K4:ah:=.db [aB 32 11,cF 33 .add 3 32 1,bu 9 33] (some [0,1,2,8,9,10])
def K5:ah:=.db [aB 34 11,bu 10 34] (some [0,1,2,8,9,10])
def K6:ah:=.cond (.t 31) K4 K5
def K7:ah:=aI [aB 24 2,aB 25 0,aB 26 11,lV 27 22 25 26,eY 28 35 27,aB 29 1,ro 30 (.call (.t 24) [(.t 28),(.t 29)]),cF 31 .lss 3 30 0] [0,1,2,8,9,10,11,31] K6
def K8:ah:=.block 1 (aI [aB 18 9,aB 19 10,dM 20 .add 3 18 19,hN 21 3 100 20,ro 22 (.bP .shr 100 (.t 21) (.c (.int .u64 1))),hN 23 100 3 22,bu 11 23] [0,1,2,8,9,10,11] K7)
def Bo:ah:=.seq (aI [aB 15 9,aB 16 10,dM 17 .lss 3 15 16] [0,1,2,8,9,10,17] K3) K8
def K9:ah:=aI [aB 35 9,aB 36 9,aB 37 8,dM 38 .lss 3 36 37,aB 39 38,c6 40 39 (.cq (.t 2)),c6 41 39 (.cq (.t 0)),c6 42 39 (.cq (.t 9)),c6 43 39 (.dK 22 (.t 41) (.t 42)),c6 44 39 (.cM 35 (.t 43)),c6 45 39 (.cq (.t 1)),⟨some 46,.call (.t 40) [(.t 44),(.t 45)],some (39,true)⟩,c6 47 39 (.bP .eql 3 (.t 46) (.c (.int .i64 0))),ro 48 (.pick (.t 39) (.t 47) (.c (.bool false))),bu 6 35,bu 7 48] [6,7] .ret
def K_:ah:=.seq (.block 0 (.loop Bo)) K9
def La:ah:=aI [aB 14 8,cV 9 0,bu 10 14] [0,1,2,8,9,10] K_
def Lb:ah:=aI [aB 12 0,fD 13 22 12,bu 8 13] [0,1,2,8] La
def Lc:ah:=aI [cV 6 0,dO 7 false] [0,1,2] Lb
theorem Ld:cB ⟨49,[0,1,2]⟩ (Try.f33.body.getD .skip)=some Lc.strip:=by kernel_rfl
def Le:ah:=.cond (.t 19) .skip (.exit 0)
def Lf:ah:=aI [aB 30 5,cF 31 .add 3 30 1,bu 5 31] [0,4,5] (.exit 1)
def Lg:ah:=.cond (.t 29) Lf .skip
def Lh:ah:=.db [aB 44 4,aB 45 9,eY 46 35 6,rb 47 22 46,Hv 48 35 44 45 47,bu 4 48] (some [0,4,5])
def Li:ah:=.cond (.t 43) Lh .skip
def Lj:ah:=aI [aB 42 10,im 43 42] [0,4,5,6,9,43] Li
def Lk:ah:=aI [aB 36 4,fl 37 35 6 0,eY 38 9 37,ro 39 (.call (.f 33) [(.t 36),(.t 38),(.f 34)]),aB 35 39,g7 40 35 0,g7 41 35 1,bu 9 40,bu 10 41] [0,4,5,6,9,10] Lj
def Ll:ah:=aI [aB 32 5,aB 33 7,dM 34 .add 3 32 33,bu 5 34] [0,4,5,6] Lk
def Lm:ah:=.seq (aI [aB 28 8,im 29 28] [0,4,5,6,7,29] Lg) Ll
def Ln:ah:=.block 1 (aI [aB 21 0,aB 22 5,ro 23 (.cU 9 (.t 21) (some (.t 22)) none),hz 24 32 23,aB 20 24,g7 25 20 0,g7 26 20 1,g7 27 20 2,pA 6 35,hA 35 6 25,bu 7 26,bu 8 27] [0,4,5,6,7,8] Lm)
def Bp:ah:=.seq (aI [aB 11 5,aB 12 0,fD 13 9 12,dM 14 .lss 3 11 13,aB 15 14,c6 16 15 (.cq (.t 4)),c6 17 15 (.len 22 (.t 16)),c6 18 15 (.bP .lss 3 (.t 17) (.c (.int .i64 16))),ro 19 (.pick (.t 15) (.t 18) (.c (.bool false)))] [0,4,5,19] Le) Ln
def Lo:ah:=.block 0 (.loop Bp)
def Lp:ah:=aI [pz 2,cV 3 3] [2,3] .ret
def Lq:ah:=.cond (.t 51) Lp .skip
def Lr:ah:=aI [aB 52 4,bu 2 52,cV 3 0] [2,3] .ret
def Ls:ah:=.seq (aI [aB 49 4,fD 50 22 49,cF 51 .eql 3 50 0] [4,51] Lq) Lr
def Lt:ah:=.seq (aI [cV 5 0] [0,4,5] Lo) Ls
def Lu:ah:=aI [pz 4] [0,4] Lt
def vd:ah:=aI [pz 2,cV 3 0] [0] Lu
theorem Lv:cB ⟨53,[0]⟩ (Try.f8.body.getD .skip)=some vd.strip:=by kernel_rfl
def Lw:ah:=aI [dO 4 false] [4] .ret
def Lx:ah:=.cond (.t 9) Lw .skip
def Ly:ah:=aI [dO 4 false] [4] .ret
def LA:ah:=.cond (.t 14) Ly .skip
def LB:ah:=aI [dO 4 true] [4] .ret
def LC:ah:=.seq (aI [fl 10 35 2 1,eY 11 9 10,fl 12 35 3 1,eY 13 9 12,dM 14 .neq 9 11 13] [14] LA) LB
def LD:ah:=.seq (aI [fl 5 35 2 0,eY 6 9 5,fl 7 35 3 0,eY 8 9 7,dM 9 .neq 9 6 8] [2,3,9] Lx) LC
def LF:ah:=aI [ro 2 (.dq 35 (.t 0)),ro 3 (.dq 35 (.t 1)),dO 4 false] [2,3] LD
theorem LG:cB ⟨15,[0,1]⟩ (Try.f36.body.getD .skip)=some LF.strip:=by kernel_rfl
def LH:ah:=aI [dO 4 false] [4] .ret
def LI:ah:=.cond (.t 10) LH .skip
def LJ:ah:=.cond (.t 14) .skip (.exit 0)
def LK:ah:=aI [dO 4 false] [4] .ret
def LL:ah:=.cond (.t 26) LK .skip
def LM:ah:=.db [aB 15 5,cF 16 .add 3 15 1,bu 5 16] (some [0,1,5])
def LN:ah:=.seq (.block 1 (l0 [aB 17 0,aB 18 5,lV 19 22 17 18,eY 20 35 19,aB 21 1,aB 22 5,lV 23 22 21 22,eY 24 35 23,kn 25 36 20 24,im 26 25] [[],[],[0,1],[2],[],[],[4,5],[6],[3,7],[8]] [0,1,5,26] LL)) LM
def Bq:ah:=.seq (aI [aB 11 5,aB 12 0,fD 13 22 12,dM 14 .lss 3 11 13] [0,1,5,14] LJ) LN
def LO:ah:=.block 0 (.loop Bq)
def LP:ah:=aI [dO 4 true] [4] .ret
def LQ:ah:=.seq (aI [cV 5 0] [0,1,5] LO) LP
def LR:ah:=.seq (aI [aB 6 0,fD 7 22 6,aB 8 1,fD 9 22 8,dM 10 .neq 3 7 9] [0,1,10] LI) LQ
def ve:ah:=aI [dO 4 false] [0,1] LR
theorem gW:cB ⟨27,[0,1]⟩ (Try.f9.body.getD .skip)=some ve.strip:=by kernel_rfl
def LS:ah:=aI [ro 2 (.fk (.c (.str [109,48])))] [2] .ret
def LU:ah:=.cond (.t 5) LS .skip
def LV:ah:=.cond (.t 7) .skip (.exit 0)
def LW:ah:=.db [aB 16 0,cF 17 .quo 3 16 10,bu 0 17] (some [0,3])
def LX:ah:=.block 1 (aI [aB 8 0,cF 9 .rem 3 8 10,ro 10 (.bP .add 3 (.c (.int .i64 48)) (.t 9)),hN 11 3 5 10,rb 12 103 11,hN 13 103 9 12,aB 14 3,dM 15 .add 9 13 14,bu 3 15] [0,3] LW)
def Br:ah:=.seq (aI [aB 6 0,cF 7 .gtr 3 6 0] [0,3,7] LV) LX
def LY:ah:=aI [aB 18 3,ro 19 (.bP .add 9 (.c (.str [109])) (.t 18)),bu 2 19] [2] .ret
def LZ:ah:=.seq (.block 0 (.loop Br)) LY
def L0:ah:=aI [ro 3 (.fk (.c (.str [])))] [0,3] LZ
def L1:ah:=.seq (aI [aB 4 0,cF 5 .leq 3 4 0] [0,5] LU) L0
def L2:ah:=aI [ro 2 (.fk (.c (.str [])))] [0] L1
theorem L3:cB ⟨20,[]⟩ (Try.f37.body.getD .skip)=some L2.strip:=by kernel_rfl
def L4:ah:=.cond (.t 9) .skip (.exit 0)
def L5:ah:=.db [aB 26 1,cF 27 .add 3 26 1,bu 1 27] (some [0,1,5])
def L6:ah:=aI [aB 20 0,aB 21 5,aB 22 1,hz 23 37 22,lV 24 22 20 21,fl 25 35 24 1,hA 9 25 23] [0,1,5] L5
def L7:ah:=aI [aB 18 1,cF 19 .add 3 18 1,bu 1 19] [0,1,5] L6
def L8:ah:=.db [aB 10 5,cF 11 .add 3 10 1,bu 5 11] (some [0,1,5])
def L9:ah:=.seq (.block 1 (aI [aB 12 0,aB 13 5,aB 14 1,hz 15 37 14,lV 16 22 12 13,fl 17 35 16 0,hA 9 17 15] [0,1,5] L7)) L8
def Bs:ah:=.seq (aI [aB 6 5,aB 7 0,fD 8 22 7,dM 9 .lss 3 6 8] [0,1,5,9] L4) L9
def L_:ah:=.block 0 (.loop Bs)
def Ma:ah:=aI [aB 28 1,bu 4 28] [0,4] .ret
def Mb:ah:=.seq (aI [cV 5 0] [0,1,5] L_) Ma
def Mc:ah:=aI [cV 4 0] [0,1] Mb
theorem Md:cB ⟨29,[0]⟩ (Try.f10.body.getD .skip)=some Mc.strip:=by kernel_rfl
def Me:ah:=.cond (.t 9) .skip (.exit 0)
def Mf:ah:=aI [cV 4 (-1)] [4] .ret
def Mg:ah:=.cond (.t 19) Mf .skip
def Mh:ah:=aI [cV 4 (-1)] [4] .ret
def Mi:ah:=.cond (.t 29) Mh .skip
def Mj:ah:=.db [aB 30 1,cF 31 .add 3 30 1,bu 1 31] (some [0,1,5])
def Mk:ah:=.seq (l0 [aB 22 0,aB 23 5,lV 24 22 22 23,fl 25 35 24 1,eY 26 9 25,aB 27 1,hz 28 37 27,dM 29 .neq 9 26 28] [[],[],[0,1],[2],[3],[],[5],[4,6]] [0,1,5,29] Mi) Mj
def Ml:ah:=aI [aB 20 1,cF 21 .add 3 20 1,bu 1 21] [0,1,5] Mk
def Mm:ah:=.db [aB 10 5,cF 11 .add 3 10 1,bu 5 11] (some [0,1,5])
def Mn:ah:=.seq (.block 1 (.seq (l0 [aB 12 0,aB 13 5,lV 14 22 12 13,fl 15 35 14 0,eY 16 9 15,aB 17 1,hz 18 37 17,dM 19 .neq 9 16 18] [[],[],[0,1],[2],[3],[],[5],[4,6]] [0,1,5,19] Mg) Ml)) Mm
def Bt:ah:=.seq (aI [aB 6 5,aB 7 0,fD 8 22 7,dM 9 .lss 3 6 8] [0,1,5,9] Me) Mn
def Mo:ah:=.block 0 (.loop Bt)
def Mp:ah:=aI [aB 32 1,bu 4 32] [4] .ret
def Mq:ah:=.seq (aI [cV 5 0] [0,1,5] Mo) Mp
def Mr:ah:=aI [cV 4 0] [0,1] Mq
theorem Ms:cB ⟨33,[0]⟩ (Try.f11.body.getD .skip)=some Mr.strip:=by kernel_rfl
def Mt:ah:=aI [dO 2 true] [2] .ret
def Mu:ah:=.cond (.t 13) Mt .skip
def Mv:ah:=aI [dO 2 false] [2] .ret
def Mw:ah:=.cond (.t 32) Mv .skip
def Mx:ah:=aI [dO 2 false] [2] .ret
def My:ah:=.cond (.t 40) Mx .skip
def Mz:ah:=aI [dO 2 false] [2] .ret
def MA:ah:=.cond (.t 43) Mz .skip
def MB:ah:=aI [dO 2 false] [2] .ret
def MC:ah:=.cond (.t 57) MB .skip
def MD:ah:=aI [dO 2 false] [2] .ret
def ME:ah:=.cond (.t 62) MD .skip
def MF:ah:=aI [dO 2 false] [2] .ret
def MG:ah:=.cond (.t 65) MF .skip
def MH:ah:=aI [dO 2 true] [2] .ret
def MI:ah:=.seq (aI [aB 63 8,aB 64 7,dM 65 .neq 3 63 64] [65] MG) MH
def MJ:ah:=.seq (aI [aB 61 8,cF 62 .lss 3 61 0] [7,8,62] ME) MI
def MK:ah:=aI [aB 58 5,aB 59 8,kn 60 11 58 59,bu 8 60] [7,8] MJ
def ML:ah:=aI [cV 8 1] [5,7,8] MK
def MM:ah:=.seq (aI [aB 49 9,aB 50 3,kn 51 9 49 50,im 52 51,aB 53 52,cH 54 53 (.cq (.t 10)),cH 55 53 (.cq (.t 4)),cH 56 53 (.bP .neq 2 (.t 54) (.t 55)),ro 57 (.pick (.t 53) (.c (.bool true)) (.t 56))] [5,7,57] MC) ML
def MN:ah:=aI [aB 45 0,hz 46 8 45,aB 44 46,g7 47 44 0,g7 48 44 1,bu 9 47,bu 10 48] [3,4,5,7,9,10] MM
def MO:ah:=.seq (aI [aB 41 8,aB 42 7,dM 43 .neq 3 41 42] [0,3,4,5,7,43] MA) MN
def MP:ah:=.seq (aI [aB 39 8,cF 40 .lss 3 39 0] [0,3,4,5,7,8,40] My) MO
def MQ:ah:=aI [aB 36 5,aB 37 8,kn 38 11 36 37,bu 8 38] [0,3,4,5,7,8] MP
def MR:ah:=aI [cV 8 1] [0,3,4,5,7,8] MQ
def MS:ah:=aI [aB 33 5,aB 34 7,kn 35 10 33 34,bu 7 35] [0,3,4,5,7] MR
def MT:ah:=aI [cV 7 1] [0,3,4,5,7] MS
def MU:ah:=.seq (aI [aB 24 5,aB 25 3,kn 26 9 24 25,im 27 26,aB 28 27,cH 29 28 (.cq (.t 6)),cH 30 28 (.cq (.t 4)),cH 31 28 (.bP .neq 2 (.t 29) (.t 30)),ro 32 (.pick (.t 28) (.c (.bool true)) (.t 31))] [0,3,4,5,32] Mw) MT
def MV:ah:=aI [aB 20 0,hz 21 8 20,aB 19 21,g7 22 19 0,g7 23 19 1,bu 5 22,bu 6 23] [0,3,4,5,6] MU
def MW:ah:=aI [aB 15 0,hz 16 7 15,aB 14 16,g7 17 14 0,g7 18 14 1,bu 3 17,bu 4 18] [0,3,4] MV
def MX:ah:=.seq (aI [aB 11 0,fD 12 9 11,cF 13 .gtr 3 12 1048576] [0,13] Mu) MW
def mC:ah:=aI [dO 2 false] [0] MX
theorem ee:cB ⟨66,[0]⟩ (Try.f3.body.getD .skip)=some mC.strip:=by kernel_rfl
def P3:=PLift.up (And.intro @Bool.not_true @Bool.not_false)
def ru:=PLift.up (And.intro @List.length_append.{0} (And.intro @List.length_cons.{0} (And.intro @List.length_nil.{0} (And.intro @List.length_map.{0,0} (And.intro @List.length_replicate.{0} (And.intro @Nat.zero_add @Nat.add_zero))))))
end Go.Proofs.Ytpddiknnnoomoaa
