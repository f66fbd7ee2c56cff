/- Part of a proof that a law returns true for every input. No condition. -/
import Derived.Test.YtpddiknnnoomoaaTb
import Derived.Test.YtpddiknnnoomoaaFwL
import Derived.Test.YtpddiknnnoomoaaP4
namespace Go.Proofs.Ytpddiknnnoomoaa
open Go Go.bZ Go.fm
set_option linter.unusedSimpArgs false
def dz (x:eA):j:=.agg [.str x.Name,.str x.ck]
theorem RW (x:eA):(dz x).share=dz x:=by
 simp only[dz,gS]
theorem RX (x:eA):(dz x).cS=true:=by
 simp only[dz,j.cS,j.il,Bool.and_self]
def sq (x:List UInt8):j:=.str x
theorem RY (x:List UInt8):(sq x).share=sq x:=by
 simp only[sq,gS]
theorem RZ (x:List UInt8):(sq x).cS=true:=by
 simp only[sq,j.cS,j.il,Bool.and_self]
def aF (x:aP):j:=.agg [.str x.Name,.str x.ck]
theorem fP (x:aP):(aF x).share=aF x:=by
 simp only[aF,gS]
theorem sr (x:aP):(aF x).cS=true:=by
 simp only[aF,j.cS,j.il,Bool.and_self]
def aI (r:List bh) (k:List Nat) (c:af):af:=.seq (.c6 r (some k)) c
def la (r:List bh) (a:List (List Nat)) (k:List Nat) (c:af):af:=.seq (.iW r a (some k)) c
abbrev cG (d t:Nat) (o:dI):bh:=⟨some d,o,some (t,true)⟩
abbrev dY (d t:Nat) (o:dI):bh:=⟨some d,o,some (t,false)⟩
abbrev R0 (n:Nat) (k:List Nat) (f:Func) (c:af):Prop:=cB ⟨n,k⟩ (f.body.getD .skip)=some c.strip
def I_:af:=aI [cK 4 (-1)] [4] .ret
def Ja:af:=.cond (.t 11) I_ .skip
def Jb:af:=aI [cK 4 (-1)] [4] .ret
def Jc:af:=.cond (.t 18) Jb .skip
def Jd:af:=aI [aD 19 1,bw 4 19] [4] .ret
def Je:af:=.seq (aI [aD 17 1,cH 18 .lss 3 17 0] [1,18] Jc) Jd
def Jf:af:=aI [aD 12 1,fV 13 30 2 1,dX 14 9 13,fk 15 9 14,ey 16 .sub 3 12 15,bw 1 16] [1] Je
def Jg:af:=.seq (aI [aD 10 1,cH 11 .lss 3 10 0] [1,2,11] Ja) Jf
def Jh:af:=aI [aD 5 1,fV 6 30 2 0,dX 7 9 6,fk 8 9 7,ey 9 .sub 3 5 8,bw 1 9] [1,2] Jg
def Ji:af:=aI [ro 2 (.dd 30 (.t 0)),cK 4 0] [1,2] Jh
theorem Jj:cB ⟨20,[0]⟩ (Try.f13.body.getD .skip)=some Ji.strip:=by kernel_rfl
def Jk:af:=aI [cK 4 (-1)] [4] .ret
def Jl:af:=.cond (.t 11) Jk .skip
def Jm:af:=.cond (.t 15) .skip (.exit 0)
def Jn:af:=aI [cK 4 (-1)] [4] .ret
def Jo:af:=.cond (.t 25) Jn .skip
def Jp:af:=aI [aD 24 1,cH 25 .lss 3 24 0] [0,1,5,25] Jo
def Jq:af:=.c6 [aD 16 5,cH 17 .add 3 16 1,bw 5 17] (some [0,1,5])
def Jr:af:=.seq (.block 1 (aI [aD 18 0,aD 19 5,iw 20 28 18 19,dX 21 30 20,aD 22 1,hH 23 13 21 22,bw 1 23] [0,1,5] Jp)) Jq
def B6:af:=.seq (aI [aD 12 5,aD 13 0,fk 14 28 13,ey 15 .lss 3 12 14] [0,1,5,15] Jm) Jr
def Js:af:=.block 0 (.loop B6)
def Jt:af:=aI [aD 26 1,bw 4 26] [4] .ret
def Ju:af:=.seq (aI [cK 5 0] [0,1,5] Js) Jt
def Jv:af:=.seq (aI [aD 10 1,cH 11 .lss 3 10 0] [0,1,11] Jl) Ju
def Jw:af:=aI [aD 6 1,aD 7 0,fk 8 28 7,ey 9 .sub 3 6 8,bw 1 9] [0,1] Jv
def Jx:af:=aI [cK 4 0] [0,1] Jw
theorem Jy:cB ⟨27,[0]⟩ (Try.f12.body.getD .skip)=some Jx.strip:=by kernel_rfl
def Jz:af:=aI [dX 10 35 3,nK 35 2 10] [2] .ret
def JA:af:=aI [fV 7 30 1 1,dX 8 9 7,fV 9 35 3 1,nK 9 9 8] [2,3] Jz
def JB:af:=aI [fV 4 30 1 0,dX 5 9 4,fV 6 35 3 0,nK 9 6 5] [1,2,3] JA
def JC:af:=aI [xa 3 35] [1,2,3] JB
def JD:af:=aI [ro 1 (.dd 30 (.t 0)),xa 2 35] [1,2] JC
theorem JE:cB ⟨11,[0]⟩ (Try.f16.body.getD .skip)=some JD.strip:=by kernel_rfl
def JF:af:=.cond (.t 11) .skip (.exit 0)
def JG:af:=.c6 [aD 12 4,cH 13 .add 3 12 1,bw 4 13] (some [0,3,4])
def JH:af:=.seq (.block 1 (.c6 [aD 14 3,aD 15 4,aD 16 0,aD 17 4,iw 18 28 16 17,dX 19 30 18,gi 20 16 19,iw 21 22 14 15,nK 35 21 20] (some [0,3,4]))) JG
def B7:af:=.seq (aI [aD 8 4,aD 9 0,fk 10 28 9,ey 11 .lss 3 8 10] [0,3,4,11] JF) JH
def JI:af:=.block 0 (.loop B7)
def JJ:af:=aI [aD 22 3,bw 2 22] [2] .ret
def JK:af:=.seq (aI [cK 4 0] [0,3,4] JI) JJ
def JL:af:=aI [aD 5 0,fk 6 28 5,ro 7 (.eV 22 (.t 6) (.t 6)),bw 3 7] [0,3] JK
def JM:af:=aI [jt 2] [0] JL
theorem JN:cB ⟨23,[0]⟩ (Try.f15.body.getD .skip)=some JM.strip:=by kernel_rfl
def JO:af:=aI [aD 3 0,ro 4 (.bV .geq 5 (.t 3) (.c (.int .u8 97))),aD 5 4,cG 6 5 (.cA (.t 0)),cG 7 5 (.bV .leq 5 (.t 6) (.c (.int .u8 122))),ro 8 (.pick (.t 5) (.t 7) (.c (.bool false))),bw 2 8] [2] .ret
def JP:af:=aI [dJ 2 false] [0] JO
theorem JQ:cB ⟨9,[0]⟩ (Try.f75.body.getD .skip)=some JP.strip:=by kernel_rfl
def JR:af:=aI [aD 3 0,ro 4 (.bV .geq 5 (.t 3) (.c (.int .u8 48))),aD 5 4,cG 6 5 (.cA (.t 0)),cG 7 5 (.bV .leq 5 (.t 6) (.c (.int .u8 57))),ro 8 (.pick (.t 5) (.t 7) (.c (.bool false))),bw 2 8] [2] .ret
def JS:af:=aI [dJ 2 false] [0] JR
theorem JT:cB ⟨9,[0]⟩ (Try.f76.body.getD .skip)=some JS.strip:=by kernel_rfl
def JU:af:=aI [dJ 2 false] [2] .ret
def JV:af:=.cond (.t 16) JU .skip
def JW:af:=.cond (.t 20) .skip (.exit 0)
def JX:af:=aI [dJ 2 false] [2] .ret
def JY:af:=.cond (.t 34) JX .skip
def JZ:af:=.c6 [aD 21 3,cH 22 .add 3 21 1,bw 3 22] (some [0,3])
def J0:af:=.seq (.block 1 (aI [aD 23 0,aD 24 3,nJ 25 9 23 24,gi 26 75 25,h5 27 26,aD 28 27,cG 29 28 (.cA (.t 0)),cG 30 28 (.cA (.t 3)),cG 31 28 (.idx 9 (.t 29) (.t 30)),⟨some 32,.call (.f 76) [(.t 31)],some (28,true)⟩,cG 33 28 (.un .not (.t 32)),ro 34 (.pick (.t 28) (.t 33) (.c (.bool false)))] [0,3,34] JY)) JZ
def B8:af:=.seq (aI [aD 17 3,aD 18 0,fk 19 9 18,ey 20 .lss 3 17 19] [0,3,20] JW) J0
def J1:af:=.block 0 (.loop B8)
def J2:af:=aI [dJ 2 true] [2] .ret
def J3:af:=.seq (aI [cK 3 0] [0,3] J1) J2
def J4:af:=.seq (aI [aD 4 0,ro 5 (.bV .eql 9 (.t 4) (.c (.str []))),aD 6 5,dY 7 6 (.cA (.t 0)),dY 8 6 (.len 9 (.t 7)),dY 9 6 (.bV .gtr 3 (.t 8) (.c (.int .i64 10))),ro 10 (.pick (.t 6) (.c (.bool true)) (.t 9)),aD 11 10,dY 12 11 (.cA (.t 0)),dY 13 11 (.idx 9 (.t 12) (.c (.int .i64 0))),⟨some 14,.call (.f 75) [(.t 13)],some (11,false)⟩,dY 15 11 (.un .not (.t 14)),ro 16 (.pick (.t 11) (.c (.bool true)) (.t 15))] [0,16] JV) J3
def J5:af:=aI [dJ 2 false] [0] J4
theorem J6:cB ⟨35,[0]⟩ (Try.f39.body.getD .skip)=some J5.strip:=by kernel_rfl
def J7:af:=.cond (.t 10) .skip (.exit 0)
def J8:af:=.cond (.t 21) .skip (.exit 2)
def J9:af:=.c6 [aD 28 1,cH 29 .and 2 28 65535,cH 30 .xor 2 29 4129,bw 1 30] (some [0,1,5,6])
def J_:af:=.cond (.t 27) J9 .skip
def Ka:af:=aI [aD 26 1,cH 27 .gtr 2 26 65535] [0,1,5,6,27] J_
def B9:af:=.c6 [aD 22 6,cH 23 .add 3 22 1,bw 6 23] (some [0,1,5,6])
def Kb:af:=.seq (.block 3 (aI [aD 24 1,ro 25 (.bV .shl 2 (.t 24) (.c (.int .u64 1))),bw 1 25] [0,1,5,6] Ka)) B9
def B_:af:=.seq (aI [aD 20 6,cH 21 .lss 3 20 8] [0,1,5,6,21] J8) Kb
def Kc:af:=.block 2 (.loop B_)
def Kd:af:=aI [cK 6 0] [0,1,5,6] Kc
def Ke:af:=.c6 [aD 11 5,cH 12 .add 3 11 1,bw 5 12] (some [0,1,5])
def Kf:af:=.seq (.block 1 (aI [aD 13 1,aD 14 0,aD 15 5,nJ 16 9 14 15,km 17 5 2 16,ro 18 (.bV .shl 2 (.t 17) (.c (.int .u64 8))),ey 19 .xor 2 13 18,bw 1 19] [0,1,5] Kd)) Ke
def Ca:af:=.seq (aI [aD 7 5,aD 8 0,fk 9 9 8,ey 10 .lss 3 7 9] [0,1,5,10] J7) Kf
def Kg:af:=.block 0 (.loop Ca)
def Kh:af:=aI [aD 31 1,bw 4 31] [4] .ret
def Ki:af:=.seq (aI [cK 5 0] [0,1,5] Kg) Kh
def Kj:af:=aI [cK 4 0] [0,1] Ki
theorem Kk:cB ⟨32,[0]⟩ (Try.f77.body.getD .skip)=some Kj.strip:=by kernel_rfl
def Kl:af:=aI [aD 7 0,aD 8 1,ey 9 .geq 2 7 8,aD 10 9,cG 11 10 (.cA (.t 0)),cG 12 10 (.cA (.t 2)),cG 13 10 (.bV .leq 2 (.t 11) (.t 12)),ro 14 (.pick (.t 10) (.t 13) (.c (.bool false))),bw 6 14] [6] .ret
def Km:af:=aI [dJ 6 false] [0,1,2] Kl
theorem Kn:cB ⟨15,[0,1,2]⟩ (Try.f78.body.getD .skip)=some Km.strip:=by kernel_rfl
def Ko:af:=aI [cK 2 0,cK 3 11] [2,3] .ret
def Kp:af:=.cond (.t 9) Ko .skip
def Kq:af:=aI [cK 2 0,cK 3 10] [2,3] .ret
def Kr:af:=.cond (.t 27) Kq .skip
def Ks:af:=aI [cK 2 0,cK 3 9] [2,3] .ret
def Kt:af:=.cond (.t 37) Ks .skip
def Ku:af:=aI [aD 38 5,bw 2 38,cK 3 0] [2,3] .ret
def Kv:af:=.seq (aI [aD 31 5,ro 32 (.call (.f 78) [(.t 31),(.c (.int .i64 1)),(.c (.int .i64 3))]),h5 33 32,aD 34 33,dY 35 34 (.cA (.t 4)),dY 36 34 (.bV .gtr 3 (.t 35) (.c (.int .i64 6000))),ro 37 (.pick (.t 34) (.c (.bool true)) (.t 36))] [5,37] Kt) Ku
def Kw:af:=aI [aD 28 0,ro 29 (.idx 9 (.t 28) (.c (.int .i64 0))),km 30 5 2 29,bw 5 30] [4,5] Kv
def Kx:af:=.seq (la [aD 10 0,aD 11 4,cH 12 .sub 3 11 2,ro 13 (.de 9 (.t 10) none (some (.t 12))),ro 14 (.call (.f 77) [(.t 13),(.c (.int .i64 65535))]),aD 15 0,aD 16 4,cH 17 .sub 3 16 2,nJ 18 9 15 17,km 19 5 2 18,cH 20 .mul 2 19 256,aD 21 0,aD 22 4,cH 23 .sub 3 22 1,nJ 24 9 21 23,km 25 5 2 24,ey 26 .add 2 20 25,ey 27 .neq 2 14 26] [[],[],[1],[0,2],[3],[],[],[6],[5,7],[8],[9],[],[],[12],[11,13],[14],[10,15],[4,16]] [0,4,27] Kr) Kw
def Ky:af:=.seq (aI [aD 8 4,cH 9 .lss 3 8 3] [0,4,9] Kp) Kx
def Kz:af:=aI [aD 6 0,fk 7 9 6,bw 4 7] [0,4] Ky
def KA:af:=aI [cK 2 0,cK 3 0] [0] Kz
theorem KB:cB ⟨39,[0]⟩ (Try.f40.body.getD .skip)=some KA.strip:=by kernel_rfl
def KC:af:=aI [dJ 2 false] [2] .ret
def KD:af:=.cond (.t 8) KC .skip
def KE:af:=.cond (.t 12) .skip (.exit 0)
def KF:af:=aI [dJ 2 false] [2] .ret
def KG:af:=.cond (.t 39) KF .skip
def KH:af:=aI [dJ 2 false] [2] .ret
def KI:af:=.cond (.t 50) KH .skip
def KJ:af:=aI [aD 49 5,cH 50 .neq 2 49 0] [0,3,50] KI
def KK:af:=aI [aD 41 0,aD 42 3,iw 43 22 41 42,fV 44 35 43 1,dX 45 9 44,gi 46 40 45,aD 40 46,ix 47 40 0,ix 48 40 1,bw 4 47,bw 5 48] [0,3,5] KJ
def KL:af:=.c6 [aD 13 3,cH 14 .add 3 13 1,bw 3 14] (some [0,3])
def KM:af:=.seq (.block 1 (.seq (la [aD 15 0,aD 16 3,iw 17 22 15 16,fV 18 35 17 0,dX 19 9 18,gi 20 39 19,h5 21 20,aD 22 21,dY 23 22 (.cA (.t 3)),dY 24 22 (.bV .gtr 3 (.t 23) (.c (.int .i64 0))),dY 25 22 (.cA (.t 24)),cG 26 25 (.cA (.t 0)),cG 27 25 (.cA (.t 3)),cG 28 25 (.bV .sub 3 (.t 27) (.c (.int .i64 1))),cG 29 25 (.dx 22 (.t 26) (.t 28)),cG 30 25 (.dG 35 (.t 29) 0),cG 31 25 (.cR 9 (.t 30)),cG 32 25 (.cA (.t 0)),cG 33 25 (.cA (.t 3)),cG 34 25 (.dx 22 (.t 32) (.t 33)),cG 35 25 (.dG 35 (.t 34) 0),cG 36 25 (.cR 9 (.t 35)),cG 37 25 (.bV .geq 9 (.t 31) (.t 36)),dY 38 22 (.pick (.t 25) (.t 37) (.c (.bool false))),ro 39 (.pick (.t 22) (.c (.bool true)) (.t 38))] [[],[],[0,1],[2],[3],[4],[5],[6,5],[7],[8,7],[9,7,7],[10],[10],[12,10],[11,13,10],[14,10],[15,10],[10],[10],[17,18,10],[19,10],[20,10],[16,21,10],[10,22,7],[7,23]] [0,3,39] KG) KK)) KL
def Cb:af:=.seq (aI [aD 9 3,aD 10 0,fk 11 22 10,ey 12 .lss 3 9 11] [0,3,12] KE) KM
def KN:af:=.block 0 (.loop Cb)
def KO:af:=aI [dJ 2 true] [2] .ret
def KP:af:=.seq (aI [cK 3 0] [0,3] KN) KO
def KQ:af:=.seq (aI [aD 6 0,fk 7 22 6,cH 8 .gtr 3 7 16] [0,8] KD) KP
def KR:af:=aI [dJ 2 false] [0] KQ
theorem KS:cB ⟨51,[0]⟩ (Try.f38.body.getD .skip)=some KR.strip:=by kernel_rfl
def KT:af:=.cond (.t 12) .skip (.exit 0)
def KU:af:=.c6 [dJ 6 true] (some [0,3,5,6,7])
def KV:af:=aI [aD 27 5,dX 28 35 3,r4 29 22 28,tG 30 22 22 27 29,bw 5 30] [0,3,5,7] KU
def KW:af:=.cond (.t 26) KV .skip
def KX:af:=.c6 [aD 39 5,aD 40 0,aD 41 7,iw 42 22 40 41,dX 43 35 42,r4 44 22 43,tG 45 22 22 39 44,bw 5 45] (some [0,3,5,6,7])
def KY:af:=.cond (.t 38) KX .skip
def Cc:af:=la [aD 31 0,aD 32 7,iw 33 22 31 32,fV 34 35 33 0,dX 35 9 34,fV 36 35 3 0,dX 37 9 36,ey 38 .neq 9 35 37] [[],[],[0,1],[2],[3],[],[5],[4,6]] [0,3,5,6,7,38] KY
def Cd:af:=.c6 [aD 13 7,cH 14 .add 3 13 1,bw 7 14] (some [0,3,5,6,7])
def KZ:af:=.seq (.block 1 (.seq (la [aD 15 6,h5 16 15,aD 17 16,cG 18 17 (.cA (.t 0)),cG 19 17 (.cA (.t 7)),cG 20 17 (.dx 22 (.t 18) (.t 19)),cG 21 17 (.dG 35 (.t 20) 0),cG 22 17 (.cR 9 (.t 21)),cG 23 17 (.dG 35 (.t 3) 0),cG 24 17 (.cR 9 (.t 23)),cG 25 17 (.bV .geq 9 (.t 22) (.t 24)),ro 26 (.pick (.t 17) (.t 25) (.c (.bool false)))] [[],[0],[1],[2],[2],[3,4,2],[5,2],[6,2],[2],[8,2],[7,9,2],[2,10]] [0,3,5,6,7,26] KW) Cc)) Cd
def Ce:af:=.seq (aI [aD 9 7,aD 10 0,fk 11 22 10,ey 12 .lss 3 9 11] [0,3,5,6,7,12] KT) KZ
def K0:af:=.block 0 (.loop Ce)
def K1:af:=.c6 [aD 48 5,dX 49 35 3,r4 50 22 49,tG 51 22 22 48 50,bw 5 51] (some [5])
def K2:af:=.cond (.t 47) K1 .skip
def Cf:af:=aI [aD 52 5,bw 4 52] [4] .ret
def K3:af:=.seq (aI [aD 46 6,h5 47 46] [3,5,47] K2) Cf
def K4:af:=.seq (aI [cK 7 0] [0,3,5,6,7] K0) K3
def K5:af:=aI [dJ 6 false] [0,3,5,6] K4
def K6:af:=aI [ro 8 (.c0 22 0 []),bw 5 8] [0,3,5] K5
def K7:af:=aI [ro 3 (.dd 35 (.t 1)),jt 4] [0,3] K6
theorem K8:cB ⟨53,[0,1]⟩ (Try.f31.body.getD .skip)=some K7.strip:=by kernel_rfl
def K9:af:=aI [jt 4,cK 5 1] [4,5] .ret
def K_:af:=.cond (.t 11) K9 .skip
def La:af:=aI [jt 4,cK 5 2] [4,5] .ret
def Lb:af:=.cond (.t 15) La .skip
def Lc:af:=aI [aD 24 7,jt 4,bw 5 24] [4,5] .ret
def Ld:af:=.cond (.t 23) Lc .skip
def Le:af:=aI [jt 4,cK 5 5] [4,5] .ret
def Lf:af:=.cond (.t 30) Le .skip
def Lg:af:=aI [aD 31 8,bw 4 31,cK 5 0] [4,5] .ret
def Lh:af:=.seq (aI [aD 28 8,fk 29 22 28,cH 30 .gtr 3 29 16] [8,30] Lf) Lg
def Li:af:=aI [aD 25 0,dX 26 35 3,hH 27 31 25 26,bw 8 27] [8] Lh
def Lj:af:=.seq (aI [aD 22 7,cH 23 .neq 2 22 0] [0,3,7,23] Ld) Li
def Lk:af:=aI [fV 17 35 3 1,dX 18 9 17,gi 19 40 18,aD 16 19,ix 20 16 0,ix 21 16 1,bw 6 20,bw 7 21] [0,3,7] Lj
def Ll:af:=.seq (aI [fV 12 35 3 0,dX 13 9 12,gi 14 39 13,h5 15 14] [0,3,15] Lb) Lk
def Lm:af:=.seq (aI [aD 9 0,gi 10 38 9,h5 11 10] [0,3,11] K_) Ll
def Ln:af:=aI [ro 3 (.dd 35 (.t 1)),jt 4,cK 5 0] [0,3] Lm
theorem o0:cB ⟨32,[0,1]⟩ (Try.f14.body.getD .skip)=some Ln.strip:=by kernel_rfl
def Lo:af:=aI [aD 3 0,ro 4 (.bV .geq 5 (.t 3) (.c (.int .u8 48))),aD 5 4,cG 6 5 (.cA (.t 0)),cG 7 5 (.bV .leq 5 (.t 6) (.c (.int .u8 57))),ro 8 (.pick (.t 5) (.t 7) (.c (.bool false))),bw 2 8] [2] .ret
def Lp:af:=aI [dJ 2 false] [0] Lo
theorem Lq:cB ⟨9,[0]⟩ (Try.f79.body.getD .skip)=some Lp.strip:=by kernel_rfl
def Lr:af:=aI [dJ 2 false] [2] .ret
def Ls:af:=.cond (.t 32) Lr .skip
def Lt:af:=aI [aD 20 4,h5 21 20,aD 22 21,cG 23 22 (.cA (.t 3)),cG 24 22 (.bV .eql 3 (.t 23) (.c (.int .i64 0))),cG 25 22 (.cA (.t 24)),dY 26 25 (.cA (.t 0)),dY 27 25 (.cA (.t 3)),dY 28 25 (.idx 9 (.t 26) (.t 27)),⟨some 29,.call (.f 79) [(.t 28)],some (25,false)⟩,dY 30 25 (.un .not (.t 29)),cG 31 22 (.pick (.t 25) (.c (.bool true)) (.t 30)),ro 32 (.pick (.t 22) (.t 31) (.c (.bool false)))] [0,6,7,32] Ls
def Lu:af:=aI [aD 10 0,aD 11 3,nJ 12 9 10 11,ro 13 (.bV .geq 5 (.t 12) (.c (.int .u8 97))),aD 14 13,cG 15 14 (.cA (.t 0)),cG 16 14 (.cA (.t 3)),cG 17 14 (.idx 9 (.t 15) (.t 16)),cG 18 14 (.bV .leq 5 (.t 17) (.c (.int .u8 122))),ro 19 (.pick (.t 14) (.t 18) (.c (.bool false))),bw 4 19] [0,3,4,6,7] Lt
def Lv:af:=.c6 [cH 33 .add 3 7 1,aD 7 33] (some [0,6,7])
def Lw:af:=.seq (.block 1 (aI [aD 9 7,bw 3 9] [0,3,6,7] Lu)) Lv
def Lx:af:=.seq (.cond (.t 8) .skip (.exit 0)) Lw
def Cg:af:=aI [ey 8 .lss 3 7 6] [0,6,7,8] Lx
def Ly:af:=.block 0 (.loop Cg)
def LA:af:=aI [aD 34 0,fk 35 9 34,cH 36 .geq 3 35 1,aD 37 36,cG 38 37 (.cA (.t 0)),cG 39 37 (.len 9 (.t 38)),cG 40 37 (.bV .leq 3 (.t 39) (.c (.int .i64 10))),ro 41 (.pick (.t 37) (.t 40) (.c (.bool false))),bw 2 41] [2] .ret
def LB:af:=.seq (aI [aD 5 0,fk 6 9 5,tF 7 0] [0,6,7] Ly) LA
def LC:af:=aI [dJ 2 false] [0] LB
theorem LD:cB ⟨42,[0]⟩ (Try.f42.body.getD .skip)=some LC.strip:=by kernel_rfl
def LF:af:=aI [aD 7 0,aD 8 1,ey 9 .geq 2 7 8,aD 10 9,cG 11 10 (.cA (.t 0)),cG 12 10 (.cA (.t 2)),cG 13 10 (.bV .leq 2 (.t 11) (.t 12)),ro 14 (.pick (.t 10) (.t 13) (.c (.bool false))),bw 6 14] [6] .ret
def LG:af:=aI [dJ 6 false] [0,1,2] LF
theorem LH:cB ⟨15,[0,1,2]⟩ (Try.f81.body.getD .skip)=some LG.strip:=by kernel_rfl
def LI:af:=aI [cK 4 0] [4] .ret
def LJ:af:=.cond (.t 9) LI .skip
def LK:af:=.c6 [aD 29 5,cH 30 .and 2 29 65535,cH 31 .xor 2 30 4129,bw 5 31] (some [0,5,12,13,23])
def LL:af:=.cond (.t 28) LK .skip
def LM:af:=aI [aD 27 5,cH 28 .gtr 2 27 65535] [0,5,12,13,23,28] LL
def Ch:af:=.c6 [cH 32 .add 3 23 1,aD 23 32] (some [0,5,12,13,23])
def LN:af:=.seq (.block 3 (aI [aD 25 5,cH 26 .mul 2 25 2,bw 5 26] [0,5,12,13,23] LM)) Ch
def LO:af:=.seq (.cond (.t 24) .skip (.exit 2)) LN
def Ci:af:=aI [cH 24 .lss 3 23 8] [0,5,12,13,23,24] LO
def LP:af:=.block 2 (.loop Ci)
def LQ:af:=aI [tF 23 0] [0,5,12,13,23] LP
def LR:af:=aI [aD 16 5,aD 17 0,aD 18 6,nJ 19 9 17 18,km 20 5 2 19,cH 21 .mul 2 20 256,ey 22 .xor 2 16 21,bw 5 22] [0,5,12,13] LQ
def LS:af:=.c6 [cH 33 .add 3 13 1,aD 13 33] (some [0,5,12,13])
def LU:af:=.seq (.block 1 (aI [aD 15 13,bw 6 15] [0,5,6,12,13] LR)) LS
def LV:af:=.seq (.cond (.t 14) .skip (.exit 0)) LU
def Cj:af:=aI [ey 14 .lss 3 13 12] [0,5,12,13,14] LV
def LW:af:=.block 0 (.loop Cj)
def LX:af:=aI [aD 34 5,bw 4 34] [4] .ret
def LY:af:=.seq (aI [aD 11 0,fk 12 9 11,tF 13 0] [0,5,12,13] LW) LX
def LZ:af:=aI [aD 10 1,bw 5 10] [0,5] LY
def L0:af:=.seq (aI [aD 7 1,ro 8 (.call (.f 81) [(.t 7),(.c (.int .i64 0)),(.c (.int .i64 65535))]),h5 9 8] [0,1,9] LJ) LZ
def L1:af:=aI [cK 4 0] [0,1] L0
theorem L2:cB ⟨35,[0,1]⟩ (Try.f80.body.getD .skip)=some L1.strip:=by kernel_rfl
def L3:af:=aI [cK 2 0,cK 3 11] [2,3] .ret
def L4:af:=.cond (.t 9) L3 .skip
def L5:af:=aI [cK 2 0,cK 3 10] [2,3] .ret
def L6:af:=aI [cK 2 0,cK 3 9] [2,3] .ret
def L7:af:=.cond (.t 37) L6 .skip
def L8:af:=aI [aD 38 6,ro 39 (.call (.f 81) [(.t 38),(.c (.int .i64 1)),(.c (.int .i64 3))]),h5 40 39,aD 41 40,dY 42 41 (.cA (.t 0)),dY 43 41 (.len 9 (.t 42)),dY 44 41 (.bV .gtr 3 (.t 43) (.c (.int .i64 6000))),ro 45 (.pick (.t 41) (.c (.bool true)) (.t 44)),bw 37 45] [6,37] L7
def L9:af:=.cond (.t 20) L5 L8
def L_:af:=aI [aD 46 6,bw 2 46,cK 3 0] [2,3] .ret
def Ma:af:=.seq (.block 0 (la [aD 21 0,aD 22 0,fk 23 9 22,cH 24 .sub 3 23 2,nJ 25 9 21 24,km 26 5 2 25,cH 27 .mul 2 26 256,aD 28 0,aD 29 0,fk 30 9 29,cH 31 .sub 3 30 1,nJ 32 9 28 31,km 33 5 2 32,ey 34 .add 2 27 33,aD 35 5,ey 36 .neq 2 34 35,bw 20 36] [[],[],[1],[2],[0,3],[4],[5],[],[],[8],[9],[7,10],[11],[6,12],[],[13,14],[15]] [0,6,20] L9)) L_
def Mb:af:=aI [aD 17 0,ro 18 (.idx 9 (.t 17) (.c (.int .i64 0))),km 19 5 2 18,bw 6 19] [0,5,6] Ma
def Mc:af:=aI [aD 15 4,ro 16 (.call (.f 80) [(.t 15),(.c (.int .i64 65535))]),bw 5 16] [0,5] Mb
def Md:af:=aI [aD 10 0,aD 11 0,fk 12 9 11,cH 13 .sub 3 12 2,ro 14 (.de 9 (.t 10) none (some (.t 13))),bw 4 14] [0,4] Mc
def Me:af:=.seq (aI [aD 7 0,fk 8 9 7,cH 9 .lss 3 8 3] [0,9] L4) Md
def Mf:af:=aI [cK 2 0,cK 3 0] [0] Me
theorem Mg:cB ⟨47,[0]⟩ (Try.f43.body.getD .skip)=some Mf.strip:=by kernel_rfl
def Mh:af:=aI [aD 10 4,cH 11 .eql 2 10 0,bw 2 11] [2] .ret
def Mi:af:=aI [aD 6 0,gi 7 43 6,aD 5 7,ix 8 5 0,ix 9 5 1,bw 3 8,bw 4 9] [4] Mh
def Mj:af:=aI [dJ 2 false] [0] Mi
theorem Mk:cB ⟨12,[0]⟩ (Try.f71.body.getD .skip)=some Mj.strip:=by kernel_rfl
def Ml:af:=aI [dJ 2 false] [2] .ret
def Mm:af:=.cond (.t 36) Ml .skip
def Mn:af:=la [fV 12 35 4 0,dX 13 9 12,gi 14 42 13,h5 15 14,aD 16 15,dY 17 16 (.dG 35 (.t 4) 1),dY 18 16 (.cR 9 (.t 17)),⟨some 19,.call (.f 71) [(.t 18)],some (16,false)⟩,dY 20 16 (.un .not (.t 19)),ro 21 (.pick (.t 16) (.c (.bool true)) (.t 20)),aD 22 21,dY 23 22 (.cA (.t 3)),dY 24 22 (.bV .gtr 3 (.t 23) (.c (.int .i64 0))),dY 25 22 (.cA (.t 24)),cG 26 25 (.dG 35 (.t 4) 0),cG 27 25 (.cR 9 (.t 26)),cG 28 25 (.cA (.t 0)),cG 29 25 (.cA (.t 3)),cG 30 25 (.bV .sub 3 (.t 29) (.c (.int .i64 1))),cG 31 25 (.dx 22 (.t 28) (.t 30)),cG 32 25 (.dG 35 (.t 31) 0),cG 33 25 (.cR 9 (.t 32)),cG 34 25 (.bV .leq 9 (.t 27) (.t 33)),dY 35 22 (.pick (.t 25) (.t 34) (.c (.bool false))),ro 36 (.pick (.t 22) (.c (.bool true)) (.t 35))] [[],[0],[1],[2],[3,2],[4],[5,4],[6,4,4],[7,4],[4,8],[9,7],[10],[11,10],[12,10,10],[13],[14,13],[13],[13],[17,13],[16,18,13],[19,13],[20,13],[15,21,13],[13,22,10],[10,23]] [0,5,6,7,36] Mm
def Mo:af:=.c6 [cH 37 .add 3 7 1,aD 7 37] (some [0,5,6,7])
def Mp:af:=.seq (.block 1 (aI [aD 9 7,iw 10 22 5 7,dX 11 35 10,xa 4 35,bw 3 9,nK 35 4 11] [0,3,4,5,6,7] Mn)) Mo
def Mq:af:=.seq (.cond (.t 8) .skip (.exit 0)) Mp
def Ck:af:=aI [ey 8 .lss 3 7 6] [0,5,6,7,8] Mq
def Mr:af:=.block 0 (.loop Ck)
def Ms:af:=aI [aD 38 0,fk 39 22 38,cH 40 .leq 3 39 16,bw 2 40] [2] .ret
def Mt:af:=.seq (aI [aD 5 0,fk 6 22 5,tF 7 0] [0,5,6,7] Mr) Ms
def Mu:af:=aI [dJ 2 false] [0] Mt
theorem Mv:cB ⟨41,[0]⟩ (Try.f41.body.getD .skip)=some Mu.strip:=by kernel_rfl
def Mw:af:=aI [jt 2] [2] .ret
def Mx:af:=.cond (.t 4) Mw .skip
def My:af:=aI [ro 5 (.c0 22 0 []),aD 6 0,tG 7 22 22 5 6,bw 2 7] [2] .ret
def Mz:af:=.seq (aI [aD 3 0,ro 4 (.bV .eql 22 (.t 3) (.c .bt))] [0,4] Mx) My
def MA:af:=aI [jt 2] [0] Mz
theorem lb:cB ⟨8,[0]⟩ (Try.f44.body.getD .skip)=some MA.strip:=by kernel_rfl
def MB:af:=aI [aD 5 0,aD 6 1,hH 7 133 5 6,bw 4 7] [4] .ret
def MC:af:=aI [cK 4 0] [0,1] MB
theorem MD:cB ⟨8,[0,1]⟩ (Try.f105.body.getD .skip)=some MC.strip:=by kernel_rfl
def ME:af:=aI [aD 5 0,aD 6 1,hH 7 105 5 6,bw 4 7] [4] .ret
def MF:af:=aI [cK 4 0] [0,1] ME
theorem MG:cB ⟨8,[0,1]⟩ (Try.f72.body.getD .skip)=some MF.strip:=by kernel_rfl
def MH:af:=aI [fV 5 35 2 0,dX 6 9 5,aD 7 1,hH 8 72 6 7,bw 4 8] [4] .ret
def MI:af:=aI [ro 2 (.dd 35 (.t 0)),cK 4 0] [1,2] MH
theorem MJ:cB ⟨9,[0,1]⟩ (Try.f34.body.getD .skip)=some MI.strip:=by kernel_rfl
def MK:af:=.cond (.t 17) .skip (.exit 0)
def ML:af:=.c6 [aD 32 11,cH 33 .add 3 32 1,bw 9 33] (some [0,1,2,8,9,10])
def MM:af:=.c6 [aD 34 11,bw 10 34] (some [0,1,2,8,9,10])
def MN:af:=.cond (.t 31) ML MM
def MO:af:=aI [aD 24 2,aD 25 0,aD 26 11,iw 27 22 25 26,dX 28 35 27,aD 29 1,ro 30 (.call (.t 24) [(.t 28),(.t 29)]),cH 31 .lss 3 30 0] [0,1,2,8,9,10,11,31] MN
def MP:af:=.block 1 (aI [aD 18 9,aD 19 10,ey 20 .add 3 18 19,km 21 3 100 20,ro 22 (.bV .shr 100 (.t 21) (.c (.int .u64 1))),km 23 100 3 22,bw 11 23] [0,1,2,8,9,10,11] MO)
def Cl:af:=.seq (aI [aD 15 9,aD 16 10,ey 17 .lss 3 15 16] [0,1,2,8,9,10,17] MK) MP
def MQ:af:=aI [aD 35 9,aD 36 9,aD 37 8,ey 38 .lss 3 36 37,aD 39 38,cG 40 39 (.cA (.t 2)),cG 41 39 (.cA (.t 0)),cG 42 39 (.cA (.t 9)),cG 43 39 (.dx 22 (.t 41) (.t 42)),cG 44 39 (.cR 35 (.t 43)),cG 45 39 (.cA (.t 1)),⟨some 46,.call (.t 40) [(.t 44),(.t 45)],some (39,true)⟩,cG 47 39 (.bV .eql 3 (.t 46) (.c (.int .i64 0))),ro 48 (.pick (.t 39) (.t 47) (.c (.bool false))),bw 6 35,bw 7 48] [6,7] .ret
def MR:af:=.seq (.block 0 (.loop Cl)) MQ
def MS:af:=aI [aD 14 8,cK 9 0,bw 10 14] [0,1,2,8,9,10] MR
def MT:af:=aI [aD 12 0,fk 13 22 12,bw 8 13] [0,1,2,8] MS
def MU:af:=aI [cK 6 0,dJ 7 false] [0,1,2] MT
theorem MV:cB ⟨49,[0,1,2]⟩ (Try.f33.body.getD .skip)=some MU.strip:=by kernel_rfl
def MW:af:=aI [jt 4,cK 5 1] [4,5] .ret
def MX:af:=aI [jt 4,cK 5 2] [4,5] .ret
def MY:af:=.cond (.t 15) MX .skip
def MZ:af:=aI [fV 16 35 3 0,dX 17 9 16,gi 18 42 17,h5 19 18,bw 15 19] [0,3,15] MY
def M0:af:=.cond (.t 11) MW MZ
def M1:af:=aI [aD 28 7,jt 4,bw 5 28] [4,5] .ret
def M3:af:=.cond (.t 27) M1 .skip
def M4:af:=aI [aD 26 7,cH 27 .neq 2 26 0] [0,3,7,27] M3
def M5:af:=.c6 [aD 45 8,aD 46 9,dX 47 35 3,iw 48 22 45 46,nK 35 48 47] (some [8])
def M6:af:=aI [jt 4,cK 5 5] [4,5] .ret
def M7:af:=.c6 [aD 38 8,aD 39 9,dX 40 35 3,r4 41 22 40,IP 42 35 38 39 41,bw 8 42] (some [8])
def M8:af:=.cond (.t 49) M6 M7
def M9:af:=aI [aD 50 8,fk 51 22 50,cH 52 .geq 3 51 16,bw 49 52] [3,8,9,49] M8
def M_:af:=.cond (.t 43) M5 M9
def Cm:af:=aI [aD 53 8,bw 4 53,cK 5 0] [4,5] .ret
def Na:af:=.seq (.block 1 (aI [aD 44 10,bw 43 44] [3,8,9,43] M_)) Cm
def Nb:af:=aI [aD 32 8,fV 33 35 3 0,dX 34 9 33,ro 35 (.call (.f 33) [(.t 32),(.t 34),(.f 34)]),aD 31 35,ix 36 31 0,ix 37 31 1,bw 9 36,bw 10 37] [3,8,9,10] Na
def Nc:af:=aI [aD 29 0,gi 30 44 29,bw 8 30] [3,8] Nb
def Nd:af:=.seq (aI [fV 21 35 3 1,dX 22 9 21,gi 23 43 22,aD 20 23,ix 24 20 0,ix 25 20 1,bw 6 24,bw 7 25] [0,3,7] M4) Nc
def Nf:af:=.seq (.block 0 (aI [aD 12 0,gi 13 41 12,h5 14 13,bw 11 14] [0,3,11] M0)) Nd
def Ng:af:=aI [ro 3 (.dd 35 (.t 1)),jt 4,cK 5 0] [0,3] Nf
theorem Nh:cB ⟨54,[0,1]⟩ (Try.f17.body.getD .skip)=some Ng.strip:=by kernel_rfl
def Ni:af:=aI [dJ 4 false] [4] .ret
def Nj:af:=.cond (.t 9) Ni .skip
def Nk:af:=aI [dJ 4 false] [4] .ret
def Nl:af:=.cond (.t 14) Nk .skip
def Nm:af:=aI [dJ 4 true] [4] .ret
def Nn:af:=.seq (aI [fV 10 35 2 1,dX 11 9 10,fV 12 35 3 1,dX 13 9 12,ey 14 .neq 9 11 13] [14] Nl) Nm
def Np:af:=.seq (aI [fV 5 35 2 0,dX 6 9 5,fV 7 35 3 0,dX 8 9 7,ey 9 .neq 9 6 8] [2,3,9] Nj) Nn
def Nq:af:=aI [ro 2 (.dd 35 (.t 0)),ro 3 (.dd 35 (.t 1)),dJ 4 false] [2,3] Np
theorem Nr:cB ⟨15,[0,1]⟩ (Try.f36.body.getD .skip)=some Nq.strip:=by kernel_rfl
def Ns:af:=aI [dJ 4 false] [4] .ret
def Nt:af:=.cond (.t 10) Ns .skip
def Nu:af:=.cond (.t 14) .skip (.exit 0)
def Nv:af:=aI [dJ 4 false] [4] .ret
def Nw:af:=.cond (.t 26) Nv .skip
def Nx:af:=.c6 [aD 15 5,cH 16 .add 3 15 1,bw 5 16] (some [0,1,5])
def Ny:af:=.seq (.block 1 (la [aD 17 0,aD 18 5,iw 19 22 17 18,dX 20 35 19,aD 21 1,aD 22 5,iw 23 22 21 22,dX 24 35 23,hH 25 36 20 24,h5 26 25] [[],[],[0,1],[2],[],[],[4,5],[6],[3,7],[8]] [0,1,5,26] Nw)) Nx
def Cn:af:=.seq (aI [aD 11 5,aD 12 0,fk 13 22 12,ey 14 .lss 3 11 13] [0,1,5,14] Nu) Ny
def Nz:af:=.block 0 (.loop Cn)
def NA:af:=aI [dJ 4 true] [4] .ret
def NB:af:=.seq (aI [cK 5 0] [0,1,5] Nz) NA
def NC:af:=.seq (aI [aD 6 0,fk 7 22 6,aD 8 1,fk 9 22 8,ey 10 .neq 3 7 9] [0,1,10] Nt) NB
def vY:af:=aI [dJ 4 false] [0,1] NC
theorem ND:cB ⟨27,[0,1]⟩ (Try.f9.body.getD .skip)=some vY.strip:=by kernel_rfl
def NF:af:=aI [ro 2 (.fs (.c (.str [109,48])))] [2] .ret
def NG:af:=.cond (.t 5) NF .skip
def NH:af:=.cond (.t 7) .skip (.exit 0)
def NI:af:=.c6 [aD 16 0,cH 17 .quo 3 16 10,bw 0 17] (some [0,3])
def NJ:af:=.block 1 (aI [aD 8 0,cH 9 .rem 3 8 10,ro 10 (.bV .add 3 (.c (.int .i64 48)) (.t 9)),km 11 3 5 10,r4 12 103 11,km 13 103 9 12,aD 14 3,ey 15 .add 9 13 14,bw 3 15] [0,3] NI)
def Co:af:=.seq (aI [aD 6 0,cH 7 .gtr 3 6 0] [0,3,7] NH) NJ
def NK:af:=aI [aD 18 3,ro 19 (.bV .add 9 (.c (.str [109])) (.t 18)),bw 2 19] [2] .ret
def NL:af:=.seq (.block 0 (.loop Co)) NK
def NM:af:=aI [ro 3 (.fs (.c (.str [])))] [0,3] NL
def NN:af:=.seq (aI [aD 4 0,cH 5 .leq 3 4 0] [0,5] NG) NM
def NO:af:=aI [ro 2 (.fs (.c (.str [])))] [0] NN
theorem NP:cB ⟨20,[]⟩ (Try.f37.body.getD .skip)=some NO.strip:=by kernel_rfl
def NQ:af:=.cond (.t 9) .skip (.exit 0)
def NR:af:=.c6 [aD 26 1,cH 27 .add 3 26 1,bw 1 27] (some [0,1,5])
def NS:af:=aI [aD 20 0,aD 21 5,aD 22 1,gi 23 37 22,iw 24 22 20 21,fV 25 35 24 1,nK 9 25 23] [0,1,5] NR
def NT:af:=aI [aD 18 1,cH 19 .add 3 18 1,bw 1 19] [0,1,5] NS
def NU:af:=.c6 [aD 10 5,cH 11 .add 3 10 1,bw 5 11] (some [0,1,5])
def NV:af:=.seq (.block 1 (aI [aD 12 0,aD 13 5,aD 14 1,gi 15 37 14,iw 16 22 12 13,fV 17 35 16 0,nK 9 17 15] [0,1,5] NT)) NU
def Cp:af:=.seq (aI [aD 6 5,aD 7 0,fk 8 22 7,ey 9 .lss 3 6 8] [0,1,5,9] NQ) NV
def NW:af:=.block 0 (.loop Cp)
def NX:af:=aI [aD 28 1,bw 4 28] [0,4] .ret
def NY:af:=.seq (aI [cK 5 0] [0,1,5] NW) NX
def NZ:af:=aI [cK 4 0] [0,1] NY
theorem N0:cB ⟨29,[0]⟩ (Try.f10.body.getD .skip)=some NZ.strip:=by kernel_rfl
def N1:af:=.cond (.t 9) .skip (.exit 0)
def N2:af:=aI [cK 4 (-1)] [4] .ret
def N3:af:=.cond (.t 19) N2 .skip
def N4:af:=aI [cK 4 (-1)] [4] .ret
def N5:af:=.cond (.t 29) N4 .skip
def N6:af:=.c6 [aD 30 1,cH 31 .add 3 30 1,bw 1 31] (some [0,1,5])
def N7:af:=.seq (la [aD 22 0,aD 23 5,iw 24 22 22 23,fV 25 35 24 1,dX 26 9 25,aD 27 1,gi 28 37 27,ey 29 .neq 9 26 28] [[],[],[0,1],[2],[3],[],[5],[4,6]] [0,1,5,29] N5) N6
def N8:af:=aI [aD 20 1,cH 21 .add 3 20 1,bw 1 21] [0,1,5] N7
def N9:af:=.c6 [aD 10 5,cH 11 .add 3 10 1,bw 5 11] (some [0,1,5])
def N_:af:=.seq (.block 1 (.seq (la [aD 12 0,aD 13 5,iw 14 22 12 13,fV 15 35 14 0,dX 16 9 15,aD 17 1,gi 18 37 17,ey 19 .neq 9 16 18] [[],[],[0,1],[2],[3],[],[5],[4,6]] [0,1,5,19] N3) N8)) N9
def Cq:af:=.seq (aI [aD 6 5,aD 7 0,fk 8 22 7,ey 9 .lss 3 6 8] [0,1,5,9] N1) N_
def Oa:af:=.block 0 (.loop Cq)
def Ob:af:=aI [aD 32 1,bw 4 32] [4] .ret
def Oc:af:=.seq (aI [cK 5 0] [0,1,5] Oa) Ob
def Od:af:=aI [cK 4 0] [0,1] Oc
theorem Oe:cB ⟨33,[0]⟩ (Try.f11.body.getD .skip)=some Od.strip:=by kernel_rfl
def Of:af:=aI [dJ 4 true] [4] .ret
def Og:af:=.cond (.t 20) Of .skip
def Oh:af:=aI [dJ 4 true] [4] .ret
def Oi:af:=.cond (.t 25) Oh .skip
def Oj:af:=aI [dJ 4 false] [4] .ret
def Ok:af:=.cond (.t 51) Oj .skip
def Ol:af:=aI [dJ 4 false] [4] .ret
def Om:af:=.cond (.t 56) Ol .skip
def On:af:=aI [dJ 4 false] [4] .ret
def Oo:af:=.cond (.t 72) On .skip
def Oq:af:=aI [dJ 4 false] [4] .ret
def Ot:af:=.cond (.t 80) Oq .skip
def Ou:af:=aI [dJ 4 false] [4] .ret
def Ov:af:=.cond (.t 83) Ou .skip
def Ow:af:=aI [dJ 4 false] [4] .ret
def Ox:af:=.cond (.t 100) Ow .skip
def Oy:af:=aI [dJ 4 false] [4] .ret
def Oz:af:=.cond (.t 105) Oy .skip
def OA:af:=aI [dJ 4 false] [4] .ret
def OB:af:=.cond (.t 108) OA .skip
def OC:af:=aI [dJ 4 true] [4] .ret
def OD:af:=.seq (aI [aD 106 13,aD 107 12,ey 108 .neq 3 106 107] [108] OB) OC
def OE:af:=.seq (aI [aD 104 13,cH 105 .lss 3 104 0] [12,13,105] Oz) OD
def OG:af:=aI [aD 101 9,aD 102 13,hH 103 11 101 102,bw 13 103] [12,13] OE
def OH:af:=aI [cK 13 1] [9,12,13] OG
def OI:af:=.seq (aI [aD 92 14,aD 93 6,hH 94 9 92 93,h5 95 94,aD 96 95,dY 97 96 (.cA (.t 15)),dY 98 96 (.cA (.t 7)),dY 99 96 (.bV .neq 2 (.t 97) (.t 98)),ro 100 (.pick (.t 96) (.c (.bool true)) (.t 99))] [9,12,100] Ox) OH
def OJ:af:=la [aD 85 0,gi 86 15 85,dX 87 30 3,gi 88 16 87,hH 89 17 86 88,⟨some 84,.ij (.t 89),none⟩,ix 90 84 0,ix 91 84 1,bw 14 90,bw 15 91] [[],[0],[],[2,1],[1,3,3],[4],[5],[5],[6,4,0,1,2,3,4,5,6],[7,8,0,1,2,3,4,5,6,7,8]] [6,7,9,12,14,15] OI
def OK:af:=.seq (aI [aD 81 13,aD 82 12,ey 83 .neq 3 81 82] [0,3,6,7,9,12,83] Ov) OJ
def OL:af:=.seq (aI [aD 79 13,cH 80 .lss 3 79 0] [0,3,6,7,9,12,13,80] Ot) OK
def OM:af:=aI [aD 76 9,aD 77 13,hH 78 11 76 77,bw 13 78] [0,3,6,7,9,12,13] OL
def ON:af:=aI [cK 13 1] [0,3,6,7,9,12,13] OM
def OO:af:=aI [aD 73 9,aD 74 12,hH 75 10 73 74,bw 12 75] [0,3,6,7,9,12] ON
def OP:af:=aI [cK 12 1] [0,3,6,7,9,12] OO
def OQ:af:=.seq (aI [aD 60 11,cH 61 .lss 3 60 0,aD 62 61,dY 63 62 (.cA (.t 9)),dY 64 62 (.cA (.t 6)),⟨some 65,.call (.f 9) [(.t 63),(.t 64)],some (62,false)⟩,dY 66 62 (.un .not (.t 65)),ro 67 (.pick (.t 62) (.c (.bool true)) (.t 66)),aD 68 67,dY 69 68 (.cA (.t 10)),dY 70 68 (.cA (.t 7)),dY 71 68 (.bV .neq 2 (.t 69) (.t 70)),ro 72 (.pick (.t 68) (.c (.bool true)) (.t 71))] [0,3,6,7,9,72] Oo) OP
def OR:af:=aI [aD 57 8,aD 58 11,hH 59 10 57 58,bw 11 59] [0,3,6,7,9,10,11] OQ
def OS:af:=aI [cK 11 1] [0,3,6,7,8,9,10,11] OR
def OT:af:=.seq (aI [aD 52 8,aD 53 0,gi 54 15 53,hH 55 9 52 54,h5 56 55] [0,3,6,7,8,9,10,56] Om) OS
def OU:af:=.seq (aI [aD 43 9,aD 44 6,hH 45 9 43 44,h5 46 45,aD 47 46,dY 48 47 (.cA (.t 10)),dY 49 47 (.cA (.t 7)),dY 50 47 (.bV .neq 2 (.t 48) (.t 49)),ro 51 (.pick (.t 47) (.c (.bool true)) (.t 50))] [0,3,6,7,8,9,10,51] Ok) OT
def OV:af:=aI [aD 37 8,dX 38 30 3,gi 39 16 38,hH 40 17 37 39,aD 36 40,ix 41 36 0,ix 42 36 1,bw 9 41,bw 10 42] [0,3,6,7,8,9,10] OU
def OW:af:=aI [aD 34 0,gi 35 15 34,bw 8 35] [0,3,6,7,8] OV
def OX:af:=la [aD 27 0,gi 28 15 27,dX 29 30 3,gi 30 16 29,hH 31 14 28 30,⟨some 26,.ij (.t 31),none⟩,ix 32 26 0,ix 33 26 1,bw 6 32,bw 7 33] [[],[0],[],[2,1],[1,3,3],[4],[5],[5],[6,4,0,1,2,3,4,5,6],[7,8,0,1,2,3,4,5,6,7,8]] [0,3,6,7] OW
def OY:af:=.seq (aI [aD 24 5,cH 25 .lss 3 24 0] [0,3,25] Oi) OX
def OZ:af:=aI [dX 21 30 3,aD 22 5,hH 23 13 21 22,bw 5 23] [0,3,5] OY
def O0:af:=.seq (aI [aD 19 5,cH 20 .lss 3 19 0] [0,3,5,20] Og) OZ
def O1:af:=aI [aD 16 0,aD 17 5,hH 18 12 16 17,bw 5 18] [0,3,5] O0
def O2:af:=aI [cK 5 1048576] [0,3,5] O1
def po:af:=aI [ro 3 (.dd 30 (.t 1)),dJ 4 false] [0,3] O2
theorem zp:cB ⟨109,[0,1]⟩ (Try.f4.body.getD .skip)=some po.strip:=by kernel_rfl
def R1:=PLift.up (And.intro @Bool.not_true @Bool.not_false)
def o1:=PLift.up (And.intro @List.length_append.{0} (And.intro @List.length_cons.{0} (And.intro @List.length_nil.{0} (And.intro @List.length_map.{0,0} (And.intro @List.length_replicate.{0} (And.intro @Nat.zero_add @Nat.add_zero))))))
end Go.Proofs.Ytpddiknnnoomoaa
