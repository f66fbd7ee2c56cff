/- Part of a proof that a law returns true for every input. No condition. -/
import Derived.Test.YtocllehpepigpaaGreatDoorTb
import Derived.Test.YtocllehpepigpaaGreatDoorFwL
import Derived.Test.YtocllehpepigpaaGreatDoorP3
namespace Go.Proofs.YtocllehpepigpaaGreatDoor
open Go Go.cI Go.gB
set_option linter.unusedSimpArgs false
def a1 (x:List UInt8):I:=.str x
theorem k1 (x:List UInt8):(a1 x).share=a1 x:=by
 simp only[a1,eV]
theorem C3 (x:List UInt8):(a1 x).cU=true:=by
 simp only[a1,I.cU,I.ia,Bool.and_self]
def fI (x:jh):I:=.agg [.int .i64 x.er,.int .i64 x.Label,.int .i64 x.gi]
theorem H8 (x:jh):(fI x).share=fI x:=by
 simp only[fI,eV]
theorem amf (x:jh):(fI x).cU=true:=by
 simp only[fI,I.cU,I.ia,Bool.and_self]
def fX (x:hS):I:=.agg [.int .i64 x.eW,.int .i64 x.iL,.slice (x.cW.map a1),.slice (x.cB.map fI)]
theorem H9 (x:hS):(fX x).share=fX x:=by
 simp only[fX,eV, @c_ _ a1 a1 (fun _=>k1 _), @c_ _ fI fI (fun _=>H8 _)]
def bB (x:Int):I:=.int .i64 x
theorem zv (x:Int):(bB x).share=bB x:=by
 simp only[bB,eV]
theorem H_ (x:Int):(bB x).cU=true:=by
 simp only[bB,I.cU,I.ia,Bool.and_self]
def di (x:List Int):I:=.slice (x.map bB)
theorem zw (x:List Int):(di x).share=di x:=by
 simp only[di,eV, @c_ _ bB bB (fun _=>zv _)]
def eX (x:hH):I:=.agg [.int .i64 x.Kind,.int .i64 x.Variable,.str x.Label,.bool x.Not]
theorem Ia (x:hH):(eX x).share=eX x:=by
 simp only[eX,eV]
theorem amg (x:hH):(eX x).cU=true:=by
 simp only[eX,I.cU,I.ia,Bool.and_self]
def e_ (x:gQ):I:=.agg [.int .i64 x.Kind,.int .i64 x.Left,.int .i64 x.hT,.slice (x.gz.map di),.slice (x.Formula.map eX)]
theorem Ib (x:gQ):(e_ x).share=e_ x:=by
 simp only[e_,eV, @c_ _ di di (fun _=>zw _), @c_ _ eX eX (fun _=>Ia _)]
def mr (x:ky):I:=.agg [.slice (x.Names.map a1),.slice (x.dB.map fX),.slice (x.ji.map e_)]
theorem amh (x:ky):(mr x).share=mr x:=by
 simp only[mr,eV, @c_ _ a1 a1 (fun _=>k1 _), @c_ _ fX fX (fun _=>H9 _), @c_ _ e_ e_ (fun _=>Ib _)]
def wc (x:List (List UInt8)):I:=.slice (x.map a1)
theorem ami (x:List (List UInt8)):(wc x).share=wc x:=by
 simp only[wc,eV, @c_ _ a1 a1 (fun _=>k1 _)]
def C4 (x:List hS):I:=.slice (x.map fX)
theorem amj (x:List hS):(C4 x).share=C4 x:=by
 simp only[C4,eV, @c_ _ fX fX (fun _=>H9 _)]
def C5 (x:List gQ):I:=.slice (x.map e_)
theorem amk (x:List gQ):(C5 x).share=C5 x:=by
 simp only[C5,eV, @c_ _ e_ e_ (fun _=>Ib _)]
def C6 (x:List jh):I:=.slice (x.map fI)
theorem aml (x:List jh):(C6 x).share=C6 x:=by
 simp only[C6,eV, @c_ _ fI fI (fun _=>H8 _)]
def we (x:List (List Int)):I:=.slice (x.map di)
theorem amm (x:List (List Int)):(we x).share=we x:=by
 simp only[we,eV, @c_ _ di di (fun _=>zw _)]
def C7 (x:List hH):I:=.slice (x.map eX)
theorem amn (x:List hH):(C7 x).share=C7 x:=by
 simp only[C7,eV, @c_ _ eX eX (fun _=>Ia _)]
def wg (x:Bool):I:=.bool x
theorem amo (x:Bool):(wg x).share=wg x:=by
 simp only[wg,eV]
theorem amp (x:Bool):(wg x).cU=true:=by
 simp only[wg,I.cU,I.ia,Bool.and_self]
def cC (x:ek):I:=.agg [.int .i64 x.er,.int .i64 x.Label,.int .i64 x.gi]
theorem zx (x:ek):(cC x).share=cC x:=by
 simp only[cC,eV]
theorem Ic (x:ek):(cC x).cU=true:=by
 simp only[cC,I.cU,I.ia,Bool.and_self]
def dQ (x:dC):I:=.agg [.int .i64 x.eW,.int .i64 x.iL,.slice (x.cW.map a1),.slice (x.cB.map cC)]
theorem wh (x:dC):(dQ x).share=dQ x:=by
 simp only[dQ,eV, @c_ _ a1 a1 (fun _=>k1 _), @c_ _ cC cC (fun _=>zx _)]
def hj (x:dC):I:=.agg [.int .i64 x.eW,.int .i64 x.iL,.aL 1 (x.cW.map a1),.aL 3 (x.cB.map cC)]
theorem tJ (x:dC):(hj x).share=dQ x:=by
 simp only[hj,dQ,eV, @c_ _ a1 a1 (fun _=>k1 _), @c_ _ cC cC (fun _=>zx _)]
theorem Ie (x:dC):(hj x).cU=true:=by
 simp only[hj,I.cU,I.ia,Bool.and_self, @lQ _ a1 (fun _=>C3 _), @lQ _ cC (fun _=>Ic _)]
def zy (x:List (List UInt8)):I:=.aL 1 (x.map a1)
theorem amq (x:List (List UInt8)):(zy x).share=wc x:=by
 simp only[zy,wc,eV, @c_ _ a1 a1 (fun _=>k1 _)]
theorem amr (x:List (List UInt8)):(zy x).cU=true:=by
 simp only[zy,I.cU,I.ia,Bool.and_self, @lQ _ a1 (fun _=>C3 _)]
def zz (x:List ek):I:=.aL 3 (x.map cC)
def wi (x:List ek):I:=.slice (x.map cC)
theorem ams (x:List ek):(wi x).share=wi x:=by
 simp only[wi,eV, @c_ _ cC cC (fun _=>zx _)]
theorem amt (x:List ek):(zz x).share=wi x:=by
 simp only[zz,wi,eV, @c_ _ cC cC (fun _=>zx _)]
theorem amu (x:List ek):(zz x).cU=true:=by
 simp only[zz,I.cU,I.ia,Bool.and_self, @lQ _ cC (fun _=>Ic _)]
def bs (x:bZ):I:=.agg [.int .i64 x.Kind,.int .i64 x.Variable,.str x.Label,.bool x.Not]
theorem pG (x:bZ):(bs x).share=bs x:=by
 simp only[bs,eV]
theorem Ig (x:bZ):(bs x).cU=true:=by
 simp only[bs,I.cU,I.ia,Bool.and_self]
def ew (x:dM):I:=.agg [.int .i64 x.Kind,.int .i64 x.Left,.int .i64 x.hT,.slice (x.gz.map di),.slice (x.Formula.map bs)]
theorem wj (x:dM):(ew x).share=ew x:=by
 simp only[ew,eV, @c_ _ di di (fun _=>zw _), @c_ _ bs bs (fun _=>pG _)]
def gI (x:List Int):I:=.aL 1 (x.map bB)
theorem tK (x:List Int):(gI x).share=di x:=by
 simp only[gI,di,eV, @c_ _ bB bB (fun _=>zv _)]
theorem Ih (x:List Int):(gI x).cU=true:=by
 simp only[gI,I.cU,I.ia,Bool.and_self, @lQ _ bB (fun _=>H_ _)]
def gC (x:dM):I:=.agg [.int .i64 x.Kind,.int .i64 x.Left,.int .i64 x.hT,.aL 1 (x.gz.map gI),.aL 4 (x.Formula.map bs)]
theorem tL (x:dM):(gC x).share=ew x:=by
 simp only[gC,ew,eV, @c_ _ gI di (fun _=>tK _), @c_ _ bs bs (fun _=>pG _)]
theorem Ii (x:dM):(gC x).cU=true:=by
 simp only[gC,I.cU,I.ia,Bool.and_self, @lQ _ gI (fun _=>Ih _), @lQ _ bs (fun _=>Ig _)]
def zA (x:List (List Int)):I:=.aL 1 (x.map gI)
theorem amv (x:List (List Int)):(zA x).share=we x:=by
 simp only[zA,we,eV, @c_ _ gI di (fun _=>tK _)]
theorem amw (x:List (List Int)):(zA x).cU=true:=by
 simp only[zA,I.cU,I.ia,Bool.and_self, @lQ _ gI (fun _=>Ih _)]
def zB (x:List bZ):I:=.aL 4 (x.map bs)
def wk (x:List bZ):I:=.slice (x.map bs)
theorem amx (x:List bZ):(wk x).share=wk x:=by
 simp only[wk,eV, @c_ _ bs bs (fun _=>pG _)]
theorem amy (x:List bZ):(zB x).share=wk x:=by
 simp only[zB,wk,eV, @c_ _ bs bs (fun _=>pG _)]
theorem amz (x:List bZ):(zB x).cU=true:=by
 simp only[zB,I.cU,I.ia,Bool.and_self, @lQ _ bs (fun _=>Ig _)]
def nD (x:gx):I:=.agg [.aL 1 (x.Names.map a1),.aL 4 (x.dB.map hj),.aL 5 (x.ji.map gC)]
def iv (x:gx):I:=.agg [.slice (x.Names.map a1),.slice (x.dB.map dQ),.slice (x.ji.map ew)]
theorem amA (x:gx):(iv x).share=iv x:=by
 simp only[iv,eV, @c_ _ a1 a1 (fun _=>k1 _), @c_ _ dQ dQ (fun _=>wh _), @c_ _ ew ew (fun _=>wj _)]
theorem amB (x:gx):(nD x).share=iv x:=by
 simp only[nD,iv,eV, @c_ _ a1 a1 (fun _=>k1 _), @c_ _ hj dQ (fun _=>tJ _), @c_ _ gC ew (fun _=>tL _)]
theorem amC (x:gx):(nD x).cU=true:=by
 simp only[nD,I.cU,I.ia,Bool.and_self, @lQ _ a1 (fun _=>C3 _), @lQ _ hj (fun _=>Ie _), @lQ _ gC (fun _=>Ii _)]
def zC (x:List dC):I:=.aL 4 (x.map hj)
def wm (x:List dC):I:=.slice (x.map dQ)
theorem amD (x:List dC):(wm x).share=wm x:=by
 simp only[wm,eV, @c_ _ dQ dQ (fun _=>wh _)]
theorem amE (x:List dC):(zC x).share=wm x:=by
 simp only[zC,wm,eV, @c_ _ hj dQ (fun _=>tJ _)]
theorem amF (x:List dC):(zC x).cU=true:=by
 simp only[zC,I.cU,I.ia,Bool.and_self, @lQ _ hj (fun _=>Ie _)]
def zD (x:List dM):I:=.aL 5 (x.map gC)
def wo (x:List dM):I:=.slice (x.map ew)
theorem amG (x:List dM):(wo x).share=wo x:=by
 simp only[wo,eV, @c_ _ ew ew (fun _=>wj _)]
theorem amH (x:List dM):(zD x).share=wo x:=by
 simp only[zD,wo,eV, @c_ _ gC ew (fun _=>tL _)]
theorem amI (x:List dM):(zD x).cU=true:=by
 simp only[zD,I.cU,I.ia,Bool.and_self, @lQ _ gC (fun _=>Ii _)]
def ae (r:List bO) (k:List Nat) (c:J):J:=.seq (.ct r (some k)) c
def iw (r:List bO) (a:List (List Nat)) (k:List Nat) (c:J):J:=.seq (.mj r a (some k)) c
abbrev bj (d t:Nat) (o:fj):bO:=⟨some d,o,some (t,true)⟩
abbrev aP (d t:Nat) (o:fj):bO:=⟨some d,o,some (t,false)⟩
abbrev amJ (n:Nat) (k:List Nat) (f:Func) (c:J):Prop:=bt ⟨n,k⟩ (f.body.getD .skip)=some c.strip
def P_:J:=ae [bT 4 (-1)] [4] .ret
def Qa:J:=.cond (.t 11) P_ .skip
def Qb:J:=.cond (.t 15) .skip (.exit 0)
def Qc:J:=ae [bT 4 (-1)] [4] .ret
def Qd:J:=.cond (.t 26) Qc .skip
def Qe:J:=ae [af 25 1,bu 26 .lss 3 25 0] [0,1,5,26] Qd
def Qf:J:=.ct [af 16 5,bu 17 .add 3 16 1,aQ 5 17] (some [0,1,5])
def Qg:J:=.seq (.block 1 (ae [af 18 1,af 19 0,af 20 5,dG 21 22 19 20,ba 22 9 21,b4 23 9 22,b2 24 .sub 3 18 23,aQ 1 24] [0,1,5] Qe)) Qf
def Ij:J:=.seq (ae [af 12 5,af 13 0,b4 14 22 13,b2 15 .lss 3 12 14] [0,1,5,15] Qb) Qg
def Qh:J:=.block 0 (.loop Ij)
def Qi:J:=ae [af 27 1,aQ 4 27] [4] .ret
def Qj:J:=.seq (ae [bT 5 0] [0,1,5] Qh) Qi
def Qk:J:=.seq (ae [af 10 1,bu 11 .lss 3 10 0] [0,1,11] Qa) Qj
def Ql:J:=ae [af 6 1,af 7 0,b4 8 22 7,b2 9 .sub 3 6 8,aQ 1 9] [0,1] Qk
def c12:J:=ae [bT 4 0] [0,1] Ql
theorem Qm:bt ⟨28,[0]⟩ (Tryz.f12.body.getD .skip)=some c12.strip:=by kernel_rfl
def Qn:J:=ae [bT 4 (-1)] [4] .ret
def Qo:J:=.cond (.t 10) Qn .skip
def Qp:J:=ae [af 11 1,aQ 4 11] [4] .ret
def Qq:J:=.seq (ae [af 9 1,bu 10 .lss 3 9 0] [1,10] Qo) Qp
def Qr:J:=ae [af 5 1,af 6 0,b4 7 68 6,b2 8 .sub 3 5 7,aQ 1 8] [1] Qq
def Qs:J:=ae [bT 4 0] [0,1] Qr
theorem Qt:bt ⟨12,[0]⟩ (Tryz.f55.body.getD .skip)=some Qs.strip:=by kernel_rfl
def Qu:J:=ae [bT 4 (-1)] [4] .ret
def Qv:J:=.cond (.t 10) Qu .skip
def Qw:J:=ae [bT 4 (-1)] [4] .ret
def Qx:J:=.cond (.t 16) Qw .skip
def Qy:J:=ae [af 17 1,aQ 4 17] [4] .ret
def Qz:J:=.seq (ae [af 15 1,bu 16 .lss 3 15 0] [1,16] Qx) Qy
def QA:J:=ae [bE 11 70 2 3,ba 12 68 11,af 13 1,ed 14 55 12 13,aQ 1 14] [1] Qz
def QB:J:=.seq (ae [af 9 1,bu 10 .lss 3 9 0] [1,2,10] Qv) QA
def QC:J:=ae [bE 5 70 2 2,ba 6 22 5,af 7 1,ed 8 12 6 7,aQ 1 8] [1,2] QB
def c31:J:=ae [ro 2 (.cQ 70 (.t 0)),bT 4 0] [1,2] QC
theorem QD:bt ⟨18,[0]⟩ (Tryz.f31.body.getD .skip)=some c31.strip:=by kernel_rfl
def QE:J:=ae [bT 4 (-1)] [4] .ret
def QF:J:=.cond (.t 11) QE .skip
def QG:J:=.cond (.t 15) .skip (.exit 0)
def QH:J:=ae [bT 4 (-1)] [4] .ret
def QI:J:=.cond (.t 25) QH .skip
def QJ:J:=ae [af 24 1,bu 25 .lss 3 24 0] [0,1,5,25] QI
def QK:J:=.ct [af 16 5,bu 17 .add 3 16 1,aQ 5 17] (some [0,1,5])
def QL:J:=.seq (.block 1 (ae [af 18 0,af 19 5,dG 20 23 18 19,ba 21 70 20,af 22 1,ed 23 31 21 22,aQ 1 23] [0,1,5] QJ)) QK
def Ik:J:=.seq (ae [af 12 5,af 13 0,b4 14 23 13,b2 15 .lss 3 12 14] [0,1,5,15] QG) QL
def QM:J:=.block 0 (.loop Ik)
def QN:J:=ae [af 26 1,aQ 4 26] [4] .ret
def QO:J:=.seq (ae [bT 5 0] [0,1,5] QM) QN
def QP:J:=.seq (ae [af 10 1,bu 11 .lss 3 10 0] [0,1,11] QF) QO
def QQ:J:=ae [af 6 1,af 7 0,b4 8 23 7,b2 9 .sub 3 6 8,aQ 1 9] [0,1] QP
def QR:J:=ae [bT 4 0] [0,1] QQ
theorem QS:bt ⟨27,[0]⟩ (Tryz.f13.body.getD .skip)=some QR.strip:=by kernel_rfl
def QT:J:=ae [bT 4 (-1)] [4] .ret
def QU:J:=.cond (.t 10) QT .skip
def QV:J:=ae [af 11 1,aQ 4 11] [4] .ret
def QW:J:=.seq (ae [af 9 1,bu 10 .lss 3 9 0] [1,10] QU) QV
def QX:J:=ae [af 5 1,af 6 0,b4 7 72 6,b2 8 .sub 3 5 7,aQ 1 8] [1] QW
def QY:J:=ae [bT 4 0] [0,1] QX
theorem QZ:bt ⟨12,[0]⟩ (Tryz.f32.body.getD .skip)=some QY.strip:=by kernel_rfl
def Q0:J:=ae [bT 4 (-1)] [4] .ret
def Q1:J:=.cond (.t 11) Q0 .skip
def Q2:J:=.cond (.t 15) .skip (.exit 0)
def Q3:J:=ae [bT 4 (-1)] [4] .ret
def Q4:J:=.cond (.t 25) Q3 .skip
def Q5:J:=ae [af 24 1,bu 25 .lss 3 24 0] [0,1,5,25] Q4
def Q6:J:=.ct [af 16 5,bu 17 .add 3 16 1,aQ 5 17] (some [0,1,5])
def Q7:J:=.seq (.block 1 (ae [af 18 0,af 19 5,dG 20 27 18 19,ba 21 72 20,af 22 1,ed 23 32 21 22,aQ 1 23] [0,1,5] Q5)) Q6
def Il:J:=.seq (ae [af 12 5,af 13 0,b4 14 27 13,b2 15 .lss 3 12 14] [0,1,5,15] Q2) Q7
def Q8:J:=.block 0 (.loop Il)
def Q9:J:=ae [af 26 1,aQ 4 26] [4] .ret
def Q_:J:=.seq (ae [bT 5 0] [0,1,5] Q8) Q9
def Ra:J:=.seq (ae [af 10 1,bu 11 .lss 3 10 0] [0,1,11] Q1) Q_
def Rb:J:=ae [af 6 1,af 7 0,b4 8 27 7,b2 9 .sub 3 6 8,aQ 1 9] [0,1] Ra
def Rc:J:=ae [bT 4 0] [0,1] Rb
theorem lW:bt ⟨27,[0]⟩ (Tryz.f15.body.getD .skip)=some Rc.strip:=by kernel_rfl
def Rd:J:=ae [bT 4 (-1)] [4] .ret
def Re:J:=.cond (.t 11) Rd .skip
def Rf:J:=ae [af 12 1,aQ 4 12] [4] .ret
def Rg:J:=.seq (ae [af 10 1,bu 11 .lss 3 10 0] [1,11] Re) Rf
def Rh:J:=ae [af 5 1,bE 6 75 2 2,ba 7 9 6,b4 8 9 7,b2 9 .sub 3 5 8,aQ 1 9] [1] Rg
def Ri:J:=ae [ro 2 (.cQ 75 (.t 0)),bT 4 0] [1,2] Rh
theorem Rj:bt ⟨13,[0]⟩ (Tryz.f33.body.getD .skip)=some Ri.strip:=by kernel_rfl
def Rk:J:=ae [bT 4 (-1)] [4] .ret
def Rl:J:=.cond (.t 11) Rk .skip
def Rm:J:=.cond (.t 15) .skip (.exit 0)
def Rn:J:=ae [bT 4 (-1)] [4] .ret
def Ro:J:=.cond (.t 25) Rn .skip
def Rp:J:=ae [af 24 1,bu 25 .lss 3 24 0] [0,1,5,25] Ro
def Rq:J:=.ct [af 16 5,bu 17 .add 3 16 1,aQ 5 17] (some [0,1,5])
def Rr:J:=.seq (.block 1 (ae [af 18 0,af 19 5,dG 20 28 18 19,ba 21 75 20,af 22 1,ed 23 33 21 22,aQ 1 23] [0,1,5] Rp)) Rq
def Im:J:=.seq (ae [af 12 5,af 13 0,b4 14 28 13,b2 15 .lss 3 12 14] [0,1,5,15] Rm) Rr
def Rs:J:=.block 0 (.loop Im)
def Rt:J:=ae [af 26 1,aQ 4 26] [4] .ret
def Ru:J:=.seq (ae [bT 5 0] [0,1,5] Rs) Rt
def Rv:J:=.seq (ae [af 10 1,bu 11 .lss 3 10 0] [0,1,11] Rl) Ru
def Rw:J:=ae [af 6 1,af 7 0,b4 8 28 7,b2 9 .sub 3 6 8,aQ 1 9] [0,1] Rv
def Rx:J:=ae [bT 4 0] [0,1] Rw
theorem Ry:bt ⟨27,[0]⟩ (Tryz.f16.body.getD .skip)=some Rx.strip:=by kernel_rfl
def Rz:J:=ae [bT 4 (-1)] [4] .ret
def RA:J:=.cond (.t 10) Rz .skip
def RB:J:=ae [bT 4 (-1)] [4] .ret
def RC:J:=.cond (.t 16) RB .skip
def RD:J:=ae [af 17 1,aQ 4 17] [4] .ret
def RE:J:=.seq (ae [af 15 1,bu 16 .lss 3 15 0] [1,16] RC) RD
def RF:J:=ae [bE 11 30 2 4,ba 12 28 11,af 13 1,ed 14 16 12 13,aQ 1 14] [1] RE
def RG:J:=.seq (ae [af 9 1,bu 10 .lss 3 9 0] [1,2,10] RA) RF
def RH:J:=ae [bE 5 30 2 3,ba 6 27 5,af 7 1,ed 8 15 6 7,aQ 1 8] [1,2] RG
def c5:J:=ae [ro 2 (.cQ 30 (.t 0)),bT 4 0] [1,2] RH
theorem jE:bt ⟨18,[0]⟩ (Tryz.f5.body.getD .skip)=some c5.strip:=by kernel_rfl
def RI:J:=ae [bT 4 (-1)] [4] .ret
def RJ:J:=.cond (.t 11) RI .skip
def RK:J:=.cond (.t 15) .skip (.exit 0)
def RL:J:=ae [bT 4 (-1)] [4] .ret
def RM:J:=.cond (.t 25) RL .skip
def RN:J:=ae [af 24 1,bu 25 .lss 3 24 0] [0,1,5,25] RM
def RO:J:=.ct [af 16 5,bu 17 .add 3 16 1,aQ 5 17] (some [0,1,5])
def RP:J:=.seq (.block 1 (ae [af 18 0,af 19 5,dG 20 24 18 19,ba 21 30 20,af 22 1,ed 23 5 21 22,aQ 1 23] [0,1,5] RN)) RO
def Io:J:=.seq (ae [af 12 5,af 13 0,b4 14 24 13,b2 15 .lss 3 12 14] [0,1,5,15] RK) RP
def RQ:J:=.block 0 (.loop Io)
def RR:J:=ae [af 26 1,aQ 4 26] [4] .ret
def RS:J:=.seq (ae [bT 5 0] [0,1,5] RQ) RR
def RT:J:=.seq (ae [af 10 1,bu 11 .lss 3 10 0] [0,1,11] RJ) RS
def RU:J:=ae [af 6 1,af 7 0,b4 8 24 7,b2 9 .sub 3 6 8,aQ 1 9] [0,1] RT
def RV:J:=ae [bT 4 0] [0,1] RU
theorem rP:bt ⟨27,[0]⟩ (Tryz.f14.body.getD .skip)=some RV.strip:=by kernel_rfl
def RW:J:=ae [bT 4 (-1)] [4] .ret
def RX:J:=.cond (.t 10) RW .skip
def RY:J:=ae [bT 4 (-1)] [4] .ret
def RZ:J:=.cond (.t 16) RY .skip
def R0:J:=ae [bT 4 (-1)] [4] .ret
def R1:J:=.cond (.t 22) R0 .skip
def R2:J:=ae [af 23 1,aQ 4 23] [4] .ret
def R3:J:=.seq (ae [af 21 1,bu 22 .lss 3 21 0] [1,22] R1) R2
def R4:J:=ae [bE 17 26 2 2,ba 18 24 17,af 19 1,ed 20 14 18 19,aQ 1 20] [1] R3
def R5:J:=.seq (ae [af 15 1,bu 16 .lss 3 15 0] [1,2,16] RZ) R4
def R6:J:=ae [bE 11 26 2 1,ba 12 23 11,af 13 1,ed 14 13 12 13,aQ 1 14] [1,2] R5
def R7:J:=.seq (ae [af 9 1,bu 10 .lss 3 9 0] [1,2,10] RX) R6
def R8:J:=ae [bE 5 26 2 0,ba 6 22 5,af 7 1,ed 8 12 6 7,aQ 1 8] [1,2] R7
def c4:J:=ae [ro 2 (.cQ 26 (.t 0)),bT 4 0] [1,2] R8
theorem gV:bt ⟨24,[0]⟩ (Tryz.f4.body.getD .skip)=some c4.strip:=by kernel_rfl
def R9:J:=.cond (.t 11) .skip (.exit 0)
def R_:J:=.ct [af 12 4,bu 13 .add 3 12 1,aQ 4 13] (some [0,3,4])
def Sa:J:=.seq (.block 1 (.ct [af 14 3,af 15 4,af 16 0,af 17 4,dG 18 22 16 17,ba 19 9 18,dG 20 22 14 15,fH 9 20 19] (some [0,3,4]))) R_
def Ip:J:=.seq (ae [af 8 4,af 9 0,b4 10 22 9,b2 11 .lss 3 8 10] [0,3,4,11] R9) Sa
def Sb:J:=.block 0 (.loop Ip)
def Sc:J:=ae [af 21 3,aQ 2 21] [2] .ret
def Sd:J:=.seq (ae [bT 4 0] [0,3,4] Sb) Sc
def Se:J:=ae [af 5 0,b4 6 22 5,ro 7 (.dX 22 (.t 6) (.t 6)),aQ 3 7] [0,3] Sd
def Sf:J:=ae [jB 2] [0] Se
theorem Sg:bt ⟨22,[0]⟩ (Tryz.f19.body.getD .skip)=some Sf.strip:=by kernel_rfl
def Sh:J:=ae [ba 13 100 3,fH 100 2 13] [2] .ret
def Si:J:=ae [bE 10 114 1 2,ba 11 2 10,bE 12 100 3 2,fH 2 12 11] [2,3] Sh
def Sj:J:=ae [bE 7 114 1 1,ba 8 2 7,bE 9 100 3 1,fH 2 9 8] [1,2,3] Si
def Sk:J:=ae [bE 4 114 1 0,ba 5 2 4,bE 6 100 3 0,fH 2 6 5] [1,2,3] Sj
def Sl:J:=ae [ln 3 100] [1,2,3] Sk
def Sm:J:=ae [ro 1 (.cQ 114 (.t 0)),ln 2 100] [1,2] Sl
theorem So:bt ⟨14,[0]⟩ (Tryz.f78.body.getD .skip)=some Sm.strip:=by kernel_rfl
def Sp:J:=.cond (.t 11) .skip (.exit 0)
def Sq:J:=.ct [af 12 4,bu 13 .add 3 12 1,aQ 4 13] (some [0,3,4])
def Sr:J:=.seq (.block 1 (.ct [af 14 3,af 15 4,af 16 0,af 17 4,dG 18 68 16 17,ba 19 114 18,dP 20 78 19,dG 21 80 14 15,fH 100 21 20] (some [0,3,4]))) Sq
def Iq:J:=.seq (ae [af 8 4,af 9 0,b4 10 68 9,b2 11 .lss 3 8 10] [0,3,4,11] Sp) Sr
def Ss:J:=.block 0 (.loop Iq)
def St:J:=ae [af 22 3,aQ 2 22] [2] .ret
def Su:J:=.seq (ae [bT 4 0] [0,3,4] Ss) St
def Sv:J:=ae [af 5 0,b4 6 68 5,ro 7 (.dX 80 (.t 6) (.t 6)),aQ 3 7] [0,3] Su
def Sw:J:=ae [jB 2] [0] Sv
theorem Sy:bt ⟨23,[0]⟩ (Tryz.f63.body.getD .skip)=some Sw.strip:=by kernel_rfl
def Sz:J:=ae [ba 18 82 3,fH 82 2 18] [2] .ret
def SA:J:=ae [bE 14 70 1 3,ba 15 68 14,dP 16 63 15,bE 17 82 3 3,fH 80 17 16] [2,3] Sz
def SB:J:=ae [bE 10 70 1 2,ba 11 22 10,dP 12 19 11,bE 13 82 3 2,fH 22 13 12] [1,2,3] SA
def SC:J:=ae [bE 7 70 1 1,ba 8 2 7,bE 9 82 3 1,fH 2 9 8] [1,2,3] SB
def SD:J:=ae [bE 4 70 1 0,ba 5 2 4,bE 6 82 3 0,fH 2 6 5] [1,2,3] SC
def SE:J:=ae [ln 3 82] [1,2,3] SD
def SF:J:=ae [ro 1 (.cQ 70 (.t 0)),ln 2 82] [1,2] SE
theorem SG:bt ⟨19,[0]⟩ (Tryz.f41.body.getD .skip)=some SF.strip:=by kernel_rfl
def SH:J:=.cond (.t 11) .skip (.exit 0)
def SI:J:=.ct [af 12 4,bu 13 .add 3 12 1,aQ 4 13] (some [0,3,4])
def SJ:J:=.seq (.block 1 (.ct [af 14 3,af 15 4,af 16 0,af 17 4,dG 18 23 16 17,ba 19 70 18,dP 20 41 19,dG 21 34 14 15,fH 82 21 20] (some [0,3,4]))) SI
def Ir:J:=.seq (ae [af 8 4,af 9 0,b4 10 23 9,b2 11 .lss 3 8 10] [0,3,4,11] SH) SJ
def SK:J:=.block 0 (.loop Ir)
def SL:J:=ae [af 22 3,aQ 2 22] [2] .ret
def SM:J:=.seq (ae [bT 4 0] [0,3,4] SK) SL
def SN:J:=ae [af 5 0,b4 6 23 5,ro 7 (.dX 34 (.t 6) (.t 6)),aQ 3 7] [0,3] SM
def c20:J:=ae [jB 2] [0] SN
theorem SO:bt ⟨23,[0]⟩ (Tryz.f20.body.getD .skip)=some c20.strip:=by kernel_rfl
def SP:J:=.cond (.t 11) .skip (.exit 0)
def SQ:J:=.ct [af 12 4,bu 13 .add 3 12 1,aQ 4 13] (some [0,3,4])
def SR:J:=.seq (.block 1 (.ct [af 14 3,af 15 4,af 16 0,af 17 4,dG 18 72 16 17,ba 19 2 18,dG 20 72 14 15,fH 2 20 19] (some [0,3,4]))) SQ
def Is:J:=.seq (ae [af 8 4,af 9 0,b4 10 72 9,b2 11 .lss 3 8 10] [0,3,4,11] SP) SR
def SS:J:=.block 0 (.loop Is)
def SU:J:=ae [af 21 3,aQ 2 21] [2] .ret
def SV:J:=.seq (ae [bT 4 0] [0,3,4] SS) SU
def SW:J:=ae [af 5 0,b4 6 72 5,ro 7 (.dX 72 (.t 6) (.t 6)),aQ 3 7] [0,3] SV
def SX:J:=ae [jB 2] [0] SW
theorem SY:bt ⟨22,[0]⟩ (Tryz.f42.body.getD .skip)=some SX.strip:=by kernel_rfl
def SZ:J:=.cond (.t 11) .skip (.exit 0)
def S0:J:=.ct [af 12 4,bu 13 .add 3 12 1,aQ 4 13] (some [0,3,4])
def S1:J:=.seq (.block 1 (.ct [af 14 3,af 15 4,af 16 0,af 17 4,dG 18 27 16 17,ba 19 72 18,dP 20 42 19,dG 21 27 14 15,fH 72 21 20] (some [0,3,4]))) S0
def It:J:=.seq (ae [af 8 4,af 9 0,b4 10 27 9,b2 11 .lss 3 8 10] [0,3,4,11] SZ) S1
def S2:J:=.block 0 (.loop It)
def S3:J:=ae [af 22 3,aQ 2 22] [2] .ret
def S4:J:=.seq (ae [bT 4 0] [0,3,4] S2) S3
def S5:J:=ae [af 5 0,b4 6 27 5,ro 7 (.dX 27 (.t 6) (.t 6)),aQ 3 7] [0,3] S4
def S6:J:=ae [jB 2] [0] S5
theorem S7:bt ⟨23,[0]⟩ (Tryz.f22.body.getD .skip)=some S6.strip:=by kernel_rfl
def S8:J:=ae [ba 16 88 3,fH 88 2 16] [2] .ret
def S9:J:=ae [bE 13 75 1 3,ba 14 4 13,bE 15 88 3 3,fH 4 15 14] [2,3] S8
def S_:J:=ae [bE 10 75 1 2,ba 11 9 10,bE 12 88 3 2,fH 9 12 11] [1,2,3] S9
def Ta:J:=ae [bE 7 75 1 1,ba 8 2 7,bE 9 88 3 1,fH 2 9 8] [1,2,3] S_
def Tb:J:=ae [bE 4 75 1 0,ba 5 2 4,bE 6 88 3 0,fH 2 6 5] [1,2,3] Ta
def Tc:J:=ae [ln 3 88] [1,2,3] Tb
def Td:J:=ae [ro 1 (.cQ 75 (.t 0)),ln 2 88] [1,2] Tc
theorem Te:bt ⟨17,[0]⟩ (Tryz.f43.body.getD .skip)=some Td.strip:=by kernel_rfl
def Tf:J:=.cond (.t 11) .skip (.exit 0)
def Tg:J:=.ct [af 12 4,bu 13 .add 3 12 1,aQ 4 13] (some [0,3,4])
def Th:J:=.seq (.block 1 (.ct [af 14 3,af 15 4,af 16 0,af 17 4,dG 18 28 16 17,ba 19 75 18,dP 20 43 19,dG 21 39 14 15,fH 88 21 20] (some [0,3,4]))) Tg
def Iu:J:=.seq (ae [af 8 4,af 9 0,b4 10 28 9,b2 11 .lss 3 8 10] [0,3,4,11] Tf) Th
def Ti:J:=.block 0 (.loop Iu)
def Tj:J:=ae [af 22 3,aQ 2 22] [2] .ret
def Tk:J:=.seq (ae [bT 4 0] [0,3,4] Ti) Tj
def Tl:J:=ae [af 5 0,b4 6 28 5,ro 7 (.dX 39 (.t 6) (.t 6)),aQ 3 7] [0,3] Tk
def Tm:J:=ae [jB 2] [0] Tl
theorem Tn:bt ⟨23,[0]⟩ (Tryz.f23.body.getD .skip)=some Tm.strip:=by kernel_rfl
def To:J:=ae [ba 21 41 3,fH 41 2 21] [2] .ret
def Tp:J:=ae [bE 17 30 1 4,ba 18 28 17,dP 19 23 18,bE 20 41 3 4,fH 39 20 19] [2,3] To
def Tq:J:=ae [bE 13 30 1 3,ba 14 27 13,dP 15 22 14,bE 16 41 3 3,fH 27 16 15] [1,2,3] Tp
def Tr:J:=ae [bE 10 30 1 2,ba 11 2 10,bE 12 41 3 2,fH 2 12 11] [1,2,3] Tq
def Ts:J:=ae [bE 7 30 1 1,ba 8 2 7,bE 9 41 3 1,fH 2 9 8] [1,2,3] Tr
def Tt:J:=ae [bE 4 30 1 0,ba 5 2 4,bE 6 41 3 0,fH 2 6 5] [1,2,3] Ts
def Tu:J:=ae [ln 3 41] [1,2,3] Tt
def BD:J:=ae [ro 1 (.cQ 30 (.t 0)),ln 2 41] [1,2] Tu
theorem Tv:bt ⟨22,[0]⟩ (Tryz.f8.body.getD .skip)=some BD.strip:=by kernel_rfl
def Tw:J:=.cond (.t 11) .skip (.exit 0)
def Tx:J:=.ct [af 12 4,bu 13 .add 3 12 1,aQ 4 13] (some [0,3,4])
def Ty:J:=.seq (.block 1 (.ct [af 14 3,af 15 4,af 16 0,af 17 4,dG 18 24 16 17,ba 19 30 18,dP 20 8 19,dG 21 35 14 15,fH 41 21 20] (some [0,3,4]))) Tx
def Iv:J:=.seq (ae [af 8 4,af 9 0,b4 10 24 9,b2 11 .lss 3 8 10] [0,3,4,11] Tw) Ty
def Tz:J:=.block 0 (.loop Iv)
def TA:J:=ae [af 22 3,aQ 2 22] [2] .ret
def TB:J:=.seq (ae [bT 4 0] [0,3,4] Tz) TA
def TC:J:=ae [af 5 0,b4 6 24 5,ro 7 (.dX 35 (.t 6) (.t 6)),aQ 3 7] [0,3] TB
def c21:J:=ae [jB 2] [0] TC
theorem TD:bt ⟨23,[0]⟩ (Tryz.f21.body.getD .skip)=some c21.strip:=by kernel_rfl
def TE:J:=ae [ba 16 37 3,fH 37 2 16] [2] .ret
def TF:J:=ae [bE 12 26 1 2,ba 13 24 12,dP 14 21 13,bE 15 37 3 2,fH 35 15 14] [2,3] TE
def TG:J:=ae [bE 8 26 1 1,ba 9 23 8,dP 10 20 9,bE 11 37 3 1,fH 34 11 10] [1,2,3] TF
def TH:J:=ae [bE 4 26 1 0,ba 5 22 4,dP 6 19 5,bE 7 37 3 0,fH 22 7 6] [1,2,3] TG
def TI:J:=ae [ln 3 37] [1,2,3] TH
def BC:J:=ae [ro 1 (.cQ 26 (.t 0)),ln 2 37] [1,2] TI
theorem TJ:bt ⟨17,[0]⟩ (Tryz.f7.body.getD .skip)=some BC.strip:=by kernel_rfl
def TK:J:=ae [af 3 0,ro 4 (.bx .geq 5 (.t 3) (.c (.int .u8 97))),af 5 4,bj 6 5 (.bg (.t 0)),bj 7 5 (.bx .leq 5 (.t 6) (.c (.int .u8 122))),ro 8 (.pick (.t 5) (.t 7) (.c (.bool false))),aQ 2 8] [2] .ret
def TL:J:=ae [bd 2 false] [0] TK
theorem TM:bt ⟨9,[0]⟩ (Tryz.f56.body.getD .skip)=some TL.strip:=by kernel_rfl
def TN:J:=ae [af 3 0,ro 4 (.bx .geq 5 (.t 3) (.c (.int .u8 48))),af 5 4,bj 6 5 (.bg (.t 0)),bj 7 5 (.bx .leq 5 (.t 6) (.c (.int .u8 57))),ro 8 (.pick (.t 5) (.t 7) (.c (.bool false))),aQ 2 8] [2] .ret
def TO:J:=ae [bd 2 false] [0] TN
theorem TP:bt ⟨9,[0]⟩ (Tryz.f57.body.getD .skip)=some TO.strip:=by kernel_rfl
def TQ:J:=ae [bd 2 false] [2] .ret
def TR:J:=.cond (.t 16) TQ .skip
def TS:J:=.cond (.t 20) .skip (.exit 0)
def TT:J:=ae [bd 2 false] [2] .ret
def TU:J:=.cond (.t 34) TT .skip
def TV:J:=.ct [af 21 3,bu 22 .add 3 21 1,aQ 3 22] (some [0,3])
def TW:J:=.seq (.block 1 (ae [af 23 0,af 24 3,pw 25 9 23 24,dP 26 56 25,fp 27 26,af 28 27,bj 29 28 (.bg (.t 0)),bj 30 28 (.bg (.t 3)),bj 31 28 (.idx 9 (.t 29) (.t 30)),⟨some 32,.call (.f 57) [(.t 31)],some (28,true)⟩,bj 33 28 (.un .not (.t 32)),ro 34 (.pick (.t 28) (.t 33) (.c (.bool false)))] [0,3,34] TU)) TV
def Iw:J:=.seq (ae [af 17 3,af 18 0,b4 19 9 18,b2 20 .lss 3 17 19] [0,3,20] TS) TW
def TX:J:=.block 0 (.loop Iw)
def TY:J:=ae [bd 2 true] [2] .ret
def TZ:J:=.seq (ae [bT 3 0] [0,3] TX) TY
def T0:J:=.seq (ae [af 4 0,ro 5 (.bx .eql 9 (.t 4) (.c (.str []))),af 6 5,aP 7 6 (.bg (.t 0)),aP 8 6 (.len 9 (.t 7)),aP 9 6 (.bx .gtr 3 (.t 8) (.c (.int .i64 10))),ro 10 (.pick (.t 6) (.c (.bool true)) (.t 9)),af 11 10,aP 12 11 (.bg (.t 0)),aP 13 11 (.idx 9 (.t 12) (.c (.int .i64 0))),⟨some 14,.call (.f 56) [(.t 13)],some (11,false)⟩,aP 15 11 (.un .not (.t 14)),ro 16 (.pick (.t 11) (.c (.bool true)) (.t 15))] [0,16] TR) TZ
def T1:J:=ae [bd 2 false] [0] T0
theorem T2:bt ⟨35,[0]⟩ (Tryz.f34.body.getD .skip)=some T1.strip:=by kernel_rfl
def T3:J:=.cond (.t 9) .skip (.exit 0)
def T4:J:=ae [af 18 5,aQ 4 18] [4] .ret
def T5:J:=.cond (.t 17) T4 .skip
def T6:J:=.ct [af 10 5,bu 11 .add 3 10 1,aQ 5 11] (some [0,1,5])
def T7:J:=.seq (.block 1 (ae [af 12 0,af 13 5,dG 14 22 12 13,ba 15 9 14,af 16 1,b2 17 .eql 9 15 16] [0,1,5,17] T5)) T6
def Ix:J:=.seq (ae [af 6 5,af 7 0,b4 8 22 7,b2 9 .lss 3 6 8] [0,1,5,9] T3) T7
def T8:J:=.block 0 (.loop Ix)
def T9:J:=ae [bT 4 (-1)] [4] .ret
def T_:J:=.seq (ae [bT 5 0] [0,1,5] T8) T9
def Ua:J:=ae [bT 4 0] [0,1] T_
theorem rQ:bt ⟨19,[0,1]⟩ (Tryz.f35.body.getD .skip)=some Ua.strip:=by kernel_rfl
def Ub:J:=ae [af 7 0,af 8 1,b2 9 .geq 2 7 8,af 10 9,bj 11 10 (.bg (.t 0)),bj 12 10 (.bg (.t 2)),bj 13 10 (.bx .leq 2 (.t 11) (.t 12)),ro 14 (.pick (.t 10) (.t 13) (.c (.bool false))),aQ 6 14] [6] .ret
def c37:J:=ae [bd 6 false] [0,1,2] Ub
theorem Uc:bt ⟨15,[0,1,2]⟩ (Tryz.f37.body.getD .skip)=some c37.strip:=by kernel_rfl
def Ud:J:=.cond (.t 7) .skip (.exit 0)
def Ue:J:=ae [af 14 3,aQ 2 14] [2] .ret
def Uf:J:=.cond (.t 13) Ue .skip
def Ug:J:=.ct [af 8 3,bu 9 .add 3 8 1,aQ 3 9] (some [0,3])
def Uh:J:=.seq (.block 1 (ae [af 10 0,af 11 3,pw 12 9 10 11,ro 13 (.bx .eql 5 (.t 12) (.c (.int .u8 40)))] [0,3,13] Uf)) Ug
def Iy:J:=.seq (ae [af 4 3,af 5 0,b4 6 9 5,b2 7 .lss 3 4 6] [0,3,7] Ud) Uh
def Ui:J:=.block 0 (.loop Iy)
def Uj:J:=ae [af 15 0,b4 16 9 15,aQ 2 16] [2] .ret
def Uk:J:=.seq (ae [bT 3 0] [0,3] Ui) Uj
def Ul:J:=ae [bT 2 0] [0] Uk
theorem Um:bt ⟨17,[0]⟩ (Tryz.f98.body.getD .skip)=some Ul.strip:=by kernel_rfl
def Un:J:=ae [af 3 0,dP 4 34 3,af 5 4,bj 6 5 (.bg (.t 0)),⟨some 7,.bx .neq 9 (.t 6) (.c (.str [116,97,117])),some (5,true)⟩,ro 8 (.pick (.t 5) (.t 7) (.c (.bool false))),aQ 2 8] [2] .ret
def Uo:J:=ae [bd 2 false] [0] Un
theorem Up:bt ⟨9,[0]⟩ (Tryz.f89.body.getD .skip)=some Uo.strip:=by kernel_rfl
def Uq:J:=.cond (.t 12) .skip (.exit 0)
def Ur:J:=.ct [af 27 7,bu 28 .add 3 27 1,aQ 6 28] (some [0,1,5,6,7])
def Us:J:=ae [af 20 5,af 21 0,af 22 6,af 23 7,ro 24 (.dh 9 (.t 21) (some (.t 22)) (some (.t 23))),xQ 25 22 24,xR 26 22 22 20 25,aQ 5 26] [0,1,5,7] Ur
def Ut:J:=.cond (.t 19) Us .skip
def Iz:J:=.ct [af 13 7,bu 14 .add 3 13 1,aQ 7 14] (some [0,1,5,6,7])
def Uu:J:=.seq (.block 1 (ae [af 15 0,af 16 7,pw 17 9 15 16,af 18 1,b2 19 .eql 5 17 18] [0,1,5,6,7,19] Ut)) Iz
def IA:J:=.seq (ae [af 9 7,af 10 0,b4 11 9 10,b2 12 .lss 3 9 11] [0,1,5,6,7,12] Uq) Uu
def Uv:J:=.block 0 (.loop IA)
def Uw:J:=ae [af 29 5,af 30 0,af 31 6,ro 32 (.dh 9 (.t 30) (some (.t 31)) none),xQ 33 22 32,xR 34 22 22 29 33,aQ 4 34] [4] .ret
def Ux:J:=.seq (ae [bT 7 0] [0,1,5,6,7] Uv) Uw
def Uy:J:=ae [bT 6 0] [0,1,5,6] Ux
def Uz:J:=ae [ro 8 (.dT 22 0 []),aQ 5 8] [0,1,5] Uy
def UA:J:=ae [jB 4] [0,1] Uz
theorem UB:bt ⟨35,[0,1]⟩ (Tryz.f99.body.getD .skip)=some UA.strip:=by kernel_rfl
def UC:J:=.ct [bT 4 1] (some [0,4])
def UD:J:=.cond (.t 14) UC .skip
def UE:J:=ae [bT 2 0,bd 3 false] [2,3] .ret
def UF:J:=.cond (.t 36) UE .skip
def UG:J:=.cond (.t 41) .skip (.exit 0)
def UH:J:=ae [bT 2 0,bd 3 false] [2,3] .ret
def UI:J:=.cond (.t 48) UH .skip
def UJ:J:=.ct [af 49 5,ro 50 (.bx .mul 2 (.c (.int .i64 10)) (.t 49)),af 51 0,af 52 6,pw 53 9 51 52,ro 54 (.bx .sub 5 (.t 53) (.c (.int .u8 48))),PS 55 5 2 54,b2 56 .add 2 50 55,aQ 5 56] (some [0,4,5,6])
def UK:J:=.ct [af 42 6,bu 43 .add 3 42 1,aQ 6 43] (some [0,4,5,6])
def UL:J:=.seq (.block 1 (.seq (ae [af 44 0,af 45 6,pw 46 9 44 45,dP 47 57 46,fp 48 47] [0,4,5,6,48] UI) UJ)) UK
def C8:J:=.seq (ae [af 38 6,af 39 0,b4 40 9 39,b2 41 .lss 3 38 40] [0,4,5,6,41] UG) UL
def UM:J:=.block 0 (.loop C8)
def UN:J:=.ct [af 59 5,ro 60 (.un .neg (.t 59)),aQ 5 60] (some [5])
def UO:J:=.cond (.t 58) UN .skip
def C9:J:=ae [af 61 5,aQ 2 61,bd 3 true] [2,3] .ret
def UP:J:=.seq (ae [af 57 4,bu 58 .eql 3 57 1] [5,58] UO) C9
def UQ:J:=.seq (ae [af 37 4,aQ 6 37] [0,4,5,6] UM) UP
def UR:J:=ae [bT 5 0] [0,4,5] UQ
def IB:J:=.seq (ae [af 15 0,b4 16 9 15,af 17 4,b2 18 .eql 3 16 17,af 19 18,aP 20 19 (.bg (.t 0)),aP 21 19 (.len 9 (.t 20)),aP 22 19 (.bg (.t 4)),aP 23 19 (.bx .sub 3 (.t 21) (.t 22)),aP 24 19 (.bx .gtr 3 (.t 23) (.c (.int .i64 18))),ro 25 (.pick (.t 19) (.c (.bool true)) (.t 24)),af 26 25,aP 27 26 (.bg (.t 0)),aP 28 26 (.bg (.t 4)),aP 29 26 (.idx 9 (.t 27) (.t 28)),aP 30 26 (.bx .eql 5 (.t 29) (.c (.int .u8 48))),aP 31 26 (.bg (.t 30)),bj 32 31 (.bg (.t 0)),bj 33 31 (.len 9 (.t 32)),bj 34 31 (.bx .gtr 3 (.t 33) (.c (.int .i64 1))),aP 35 26 (.pick (.t 31) (.t 34) (.c (.bool false))),ro 36 (.pick (.t 26) (.c (.bool true)) (.t 35))] [0,4,36] UF) UR
def US:J:=.seq (ae [af 7 0,b4 8 9 7,bu 9 .gtr 3 8 0,af 10 9,bj 11 10 (.bg (.t 0)),bj 12 10 (.idx 9 (.t 11) (.c (.int .i64 0))),bj 13 10 (.bx .eql 5 (.t 12) (.c (.int .u8 45))),ro 14 (.pick (.t 10) (.t 13) (.c (.bool false)))] [0,4,14] UD) IB
def UT:J:=ae [bT 4 0] [0,4] US
def UU:J:=ae [bT 2 0,bd 3 false] [0] UT
theorem UW:bt ⟨62,[0]⟩ (Tryz.f100.body.getD .skip)=some UU.strip:=by kernel_rfl
def UX:J:=ae [ro 16 (.dT 72 0 []),af 17 0,dP 18 34 17,aQ 2 16,aQ 3 18] [2,3] .ret
def UY:J:=.cond (.t 15) UX .skip
def UZ:J:=ae [jB 2,bd 3 false] [2,3] .ret
def U0:J:=.cond (.t 31) UZ .skip
def U1:J:=.cond (.t 44) .skip (.exit 0)
def U2:J:=ae [jB 2,bd 3 false] [2,3] .ret
def U3:J:=.cond (.t 61) U2 .skip
def U4:J:=.ct [af 62 6,af 63 8,xQ 64 72 63,xR 65 72 72 62 64,aQ 6 65] (some [5,6,7])
def U5:J:=.seq (ae [af 55 9,fp 56 55,af 57 56,aP 58 57 (.bg (.t 8)),⟨some 59,.call (.f 37) [(.t 58),(.c (.int .i64 0)),(.c (.int .i64 63))],some (57,false)⟩,aP 60 57 (.un .not (.t 59)),ro 61 (.pick (.t 57) (.c (.bool true)) (.t 60))] [5,6,7,8,61] U3) U4
def U6:J:=.ct [af 45 7,bu 46 .add 3 45 1,aQ 7 46] (some [5,6,7])
def U7:J:=.seq (.block 1 (ae [af 48 5,af 49 7,dG 50 22 48 49,ba 51 9 50,dP 52 100 51,af 47 52,iY 53 47 0,iY 54 47 1,aQ 8 53,aQ 9 54] [5,6,7,8,9] U5)) U6
def IC:J:=.seq (ae [af 41 7,af 42 5,b4 43 22 42,b2 44 .lss 3 41 43] [5,6,7,44] U1) U7
def U8:J:=.block 0 (.loop IC)
def U9:J:=ae [af 66 6,af 67 6,b4 68 72 67,bu 69 .leq 3 68 2,aQ 2 66,aQ 3 69] [2,3] .ret
def U_:J:=.seq (ae [bT 7 0] [5,6,7] U8) U9
def Va:J:=ae [ro 40 (.dT 72 0 []),aQ 6 40] [5,6] U_
def Vb:J:=ae [af 32 0,af 33 4,bu 34 .add 3 33 1,af 35 0,b4 36 9 35,bu 37 .sub 3 36 1,ro 38 (.dh 9 (.t 32) (some (.t 34)) (some (.t 37))),ro 39 (.call (.f 99) [(.t 38),(.c (.int .u8 44))]),aQ 5 39] [5] Va
def Vc:J:=.seq (ae [af 19 0,af 20 4,ro 21 (.dh 9 (.t 19) none (some (.t 20))),dP 22 89 21,fp 23 22,af 24 23,aP 25 24 (.bg (.t 0)),aP 26 24 (.bg (.t 0)),aP 27 24 (.len 9 (.t 26)),aP 28 24 (.bx .sub 3 (.t 27) (.c (.int .i64 1))),aP 29 24 (.idx 9 (.t 25) (.t 28)),aP 30 24 (.bx .neq 5 (.t 29) (.c (.int .u8 41))),ro 31 (.pick (.t 24) (.c (.bool true)) (.t 30))] [0,4,31] U0) Vb
def Vd:J:=.seq (ae [af 12 4,af 13 0,b4 14 9 13,b2 15 .eql 3 12 14] [0,4,15] UY) Vc
def Ve:J:=ae [af 10 0,dP 11 98 10,aQ 4 11] [0,4] Vd
def Vf:J:=ae [jB 2,bd 3 false] [0] Ve
theorem Vg:bt ⟨70,[0]⟩ (Tryz.f88.body.getD .skip)=some Vf.strip:=by kernel_rfl
def Vh:J:=ae [af 10 4,aQ 2 10] [2] .ret
def Vi:J:=ae [af 6 0,dP 7 88 6,af 5 7,iY 8 5 0,iY 9 5 1,aQ 3 8,aQ 4 9] [4] Vh
def Vj:J:=ae [bd 2 false] [0] Vi
theorem Vk:bt ⟨11,[0]⟩ (Tryz.f74.body.getD .skip)=some Vj.strip:=by kernel_rfl
def Vl:J:=ae [bd 2 false] [2] .ret
def Vm:J:=.cond (.t 17) Vl .skip
def Vn:J:=.cond (.t 21) .skip (.exit 0)
def Vo:J:=ae [bd 2 false] [2] .ret
def Vp:J:=.cond (.t 52) Vo .skip
def Vq:J:=.ct [af 22 3,bu 23 .add 3 22 1,aQ 3 23] (some [0,3])
def Vr:J:=.seq (.block 1 (iw [af 24 0,af 25 3,dG 26 22 24 25,ba 27 9 26,dP 28 74 27,fp 29 28,af 30 29,aP 31 30 (.bg (.t 0)),aP 32 30 (.bg (.t 3)),aP 33 30 (.dO 22 (.t 31) (.t 32)),aP 34 30 (.bY 9 (.t 33)),⟨some 35,.bx .eql 9 (.t 34) (.c (.str [116,97,117])),some (30,false)⟩,ro 36 (.pick (.t 30) (.c (.bool true)) (.t 35)),af 37 36,aP 38 37 (.bg (.t 3)),aP 39 37 (.bx .gtr 3 (.t 38) (.c (.int .i64 1))),aP 40 37 (.bg (.t 39)),bj 41 40 (.bg (.t 0)),bj 42 40 (.bg (.t 3)),bj 43 40 (.bx .sub 3 (.t 42) (.c (.int .i64 1))),bj 44 40 (.dO 22 (.t 41) (.t 43)),bj 45 40 (.bY 9 (.t 44)),bj 46 40 (.bg (.t 0)),bj 47 40 (.bg (.t 3)),bj 48 40 (.dO 22 (.t 46) (.t 47)),bj 49 40 (.bY 9 (.t 48)),bj 50 40 (.bx .geq 9 (.t 45) (.t 49)),aP 51 37 (.pick (.t 40) (.t 50) (.c (.bool false))),ro 52 (.pick (.t 37) (.c (.bool true)) (.t 51))] [[],[],[0,1],[2],[3],[4],[5,4],[6],[6],[7,8,6],[9,6],[10,6],[6,11],[12,6],[13],[14,13],[15,13,13],[16],[16],[18,16],[17,19,16],[20,16],[16],[16],[22,23,16],[24,16],[21,25,16],[16,26,13],[13,27]] [0,3,52] Vp)) Vq
def ID:J:=.seq (ae [af 18 3,af 19 0,b4 20 22 19,b2 21 .lss 3 18 20] [0,3,21] Vn) Vr
def Vs:J:=.block 0 (.loop ID)
def Vt:J:=ae [bd 2 true] [2] .ret
def Vu:J:=.seq (ae [bT 3 1] [0,3] Vs) Vt
def Vv:J:=.seq (ae [af 4 0,b4 5 22 4,bu 6 .eql 3 5 0,af 7 6,aP 8 7 (.bg (.t 0)),aP 9 7 (.len 22 (.t 8)),aP 10 7 (.bx .gtr 3 (.t 9) (.c (.int .i64 12))),ro 11 (.pick (.t 7) (.c (.bool true)) (.t 10)),af 12 11,aP 13 12 (.bg (.t 0)),aP 14 12 (.dO 22 (.t 13) (.c (.int .i64 0))),aP 15 12 (.bY 9 (.t 14)),⟨some 16,.bx .neq 9 (.t 15) (.c (.str [116,97,117])),some (12,false)⟩,ro 17 (.pick (.t 12) (.c (.bool true)) (.t 16))] [0,17] Vm) Vu
def Vw:J:=ae [bd 2 false] [0] Vv
theorem Vx:bt ⟨53,[0]⟩ (Tryz.f58.body.getD .skip)=some Vw.strip:=by kernel_rfl
def Vy:J:=iw [af 14 0,iK 15 14,bE 16 100 15 0,ba 17 2 16,af 18 1,iK 19 18,bE 20 100 19 0,ba 21 2 20,b2 22 .lss 2 17 21,aQ 4 22] [[],[0],[1],[2],[],[4],[5],[6],[3,7],[8,0,1,2,3,4,5,6,7,8]] [4] .ret
def Vz:J:=.cond (.t 13) Vy .skip
def VA:J:=iw [af 32 0,iK 33 32,bE 34 100 33 1,ba 35 2 34,af 36 1,iK 37 36,bE 38 100 37 1,ba 39 2 38,b2 40 .lss 2 35 39,aQ 4 40] [[],[0],[1],[2],[],[4],[5],[6],[3,7],[8,0,1,2,3,4,5,6,7,8]] [4] .ret
def VB:J:=.cond (.t 31) VA .skip
def VC:J:=iw [af 41 0,iK 42 41,bE 43 100 42 2,ba 44 2 43,af 45 1,iK 46 45,bE 47 100 46 2,ba 48 2 47,b2 49 .lss 2 44 48,aQ 4 49] [[],[0],[1],[2],[],[4],[5],[6],[3,7],[8,0,1,2,3,4,5,6,7,8]] [4] .ret
def VD:J:=.seq (iw [af 23 0,iK 24 23,bE 25 100 24 1,ba 26 2 25,af 27 1,iK 28 27,bE 29 100 28 1,ba 30 2 29,b2 31 .neq 2 26 30] [[],[0],[1],[2],[],[4],[5],[6],[3,7]] [0,1,31] VB) VC
def VE:J:=.seq (iw [af 5 0,iK 6 5,bE 7 100 6 0,ba 8 2 7,af 9 1,iK 10 9,bE 11 100 10 0,ba 12 2 11,b2 13 .neq 2 8 12] [[],[0],[1],[2],[],[4],[5],[6],[3,7]] [0,1,13] Vz) VD
def c59:J:=ae [bd 4 false] [0,1] VE
theorem VF:bt ⟨50,[0,1]⟩ (Tryz.f59.body.getD .skip)=some c59.strip:=by kernel_rfl
def VG:J:=ae [bd 2 false] [2] .ret
def VH:J:=.cond (.t 39) VG .skip
def VI:J:=.cond (.t 46) .skip (.exit 0)
def VJ:J:=ae [bd 2 false] [2] .ret
def VK:J:=.cond (.t 87) VJ .skip
def VL:J:=ae [bd 2 false] [2] .ret
def VM:J:=.cond (.t 100) VL .skip
def VN:J:=ae [af 88 3,bu 89 .gtr 3 88 0,af 90 89,bj 91 90 (.bg (.t 0)),bj 92 90 (.eo (.t 91)),bj 93 90 (.cH 82 (.t 92) 3),bj 94 90 (.bY 80 (.t 93)),bj 95 90 (.bg (.t 3)),bj 96 90 (.bx .sub 3 (.t 95) (.c (.int .i64 1))),bj 97 90 (.dO 80 (.t 94) (.t 96)),⟨some 98,.call (.f 59) [(.t 97),(.t 4)],some (90,true)⟩,bj 99 90 (.un .not (.t 98)),ro 100 (.pick (.t 90) (.t 99) (.c (.bool false)))] [0,3,100] VM
def VO:J:=.seq (iw [bE 56 100 4 0,ba 57 2 56,af 58 0,iK 59 58,bE 60 82 59 0,ba 61 2 60,bu 62 .sub 2 61 1,ro 63 (.call (.f 37) [(.t 57),(.c (.int .i64 0)),(.t 62)]),fp 64 63,af 65 64,aP 66 65 (.cH 100 (.t 4) 2),aP 67 65 (.bY 2 (.t 66)),aP 68 65 (.bg (.t 0)),aP 69 65 (.eo (.t 68)),aP 70 65 (.cH 82 (.t 69) 0),aP 71 65 (.bY 2 (.t 70)),aP 72 65 (.bx .sub 2 (.t 71) (.c (.int .i64 1))),⟨some 73,.call (.f 37) [(.t 67),(.c (.int .i64 0)),(.t 72)],some (65,false)⟩,aP 74 65 (.un .not (.t 73)),ro 75 (.pick (.t 65) (.c (.bool true)) (.t 74)),af 76 75,aP 77 76 (.cH 100 (.t 4) 1),aP 78 76 (.bY 2 (.t 77)),aP 79 76 (.bg (.t 0)),aP 80 76 (.eo (.t 79)),aP 81 76 (.cH 82 (.t 80) 2),aP 82 76 (.bY 22 (.t 81)),aP 83 76 (.len 22 (.t 82)),aP 84 76 (.bx .sub 2 (.t 83) (.c (.int .i64 1))),⟨some 85,.call (.f 37) [(.t 78),(.c (.int .i64 0)),(.t 84)],some (76,false)⟩,aP 86 76 (.un .not (.t 85)),ro 87 (.pick (.t 76) (.c (.bool true)) (.t 86))] [[],[0],[],[2],[3],[4],[5],[1,6],[7],[8,7],[9],[10,9],[9],[12,9],[13,9],[14,9],[15,9],[11,16,9,9],[17,9],[9,18],[19,17],[20],[21,20],[20],[23,20],[24,20],[25,20],[26,20],[27,20],[22,28,20,20],[29,20],[20,30]] [0,3,4,87] VK) VN
def VP:J:=.ct [af 47 3,bu 48 .add 3 47 1,aQ 3 48] (some [0,3])
def VQ:J:=.seq (.block 1 (ae [af 49 0,iK 50 49,bE 51 82 50 3,ba 52 80 51,af 53 3,dG 54 80 52 53,ba 55 100 54,ln 4 100,fH 100 4 55] [0,3,4] VO)) VP
def IE:J:=.seq (ae [af 40 3,af 41 0,iK 42 41,bE 43 82 42 3,ba 44 80 43,b4 45 80 44,b2 46 .lss 3 40 45] [0,3,46] VI) VQ
def VR:J:=.block 0 (.loop IE)
def VS:J:=ae [bd 2 true] [2] .ret
def VT:J:=.seq (ae [bT 3 0] [0,3] VR) VS
def VU:J:=.seq (iw [af 5 0,iK 6 5,bE 7 82 6 0,ba 8 2 7,ro 9 (.call (.f 37) [(.t 8),(.c (.int .i64 1)),(.c (.int .i64 40))]),fp 10 9,af 11 10,aP 12 11 (.bg (.t 0)),aP 13 11 (.eo (.t 12)),aP 14 11 (.cH 82 (.t 13) 1),aP 15 11 (.bY 2 (.t 14)),aP 16 11 (.bg (.t 0)),aP 17 11 (.eo (.t 16)),aP 18 11 (.cH 82 (.t 17) 0),aP 19 11 (.bY 2 (.t 18)),aP 20 11 (.bx .sub 2 (.t 19) (.c (.int .i64 1))),⟨some 21,.call (.f 37) [(.t 15),(.c (.int .i64 0)),(.t 20)],some (11,false)⟩,aP 22 11 (.un .not (.t 21)),ro 23 (.pick (.t 11) (.c (.bool true)) (.t 22)),af 24 23,aP 25 24 (.bg (.t 0)),aP 26 24 (.eo (.t 25)),aP 27 24 (.cH 82 (.t 26) 2),aP 28 24 (.bY 22 (.t 27)),⟨some 29,.call (.f 58) [(.t 28)],some (24,false)⟩,aP 30 24 (.un .not (.t 29)),ro 31 (.pick (.t 24) (.c (.bool true)) (.t 30)),af 32 31,aP 33 32 (.bg (.t 0)),aP 34 32 (.eo (.t 33)),aP 35 32 (.cH 82 (.t 34) 3),aP 36 32 (.bY 80 (.t 35)),aP 37 32 (.len 80 (.t 36)),aP 38 32 (.bx .gtr 3 (.t 37) (.c (.int .i64 300))),ro 39 (.pick (.t 32) (.c (.bool true)) (.t 38))] [[],[0],[1],[2],[3],[4],[5,4],[6],[7,6],[8,6],[9,6],[6],[11,6],[12,6],[13,6],[14,6],[10,15,6,6],[16,6],[6,17],[18,16],[19],[20,19],[21,19],[22,19],[23,19,19],[24,19],[19,25],[26,24],[27],[28,27],[29,27],[30,27],[31,27],[32,27],[27,33]] [0,39] VH) VT
def VV:J:=ae [bd 2 false] [0] VU
theorem VW:bt ⟨101,[0]⟩ (Tryz.f36.body.getD .skip)=some VV.strip:=by kernel_rfl
def VX:J:=ae [bd 2 false] [2] .ret
def VY:J:=.cond (.t 30) VX .skip
def VZ:J:=.cond (.t 37) .skip (.exit 0)
def V0:J:=ae [bd 2 false] [2] .ret
def V1:J:=.cond (.t 75) V0 .skip
def V2:J:=.ct [af 38 3,bu 39 .add 3 38 1,aQ 3 39] (some [0,3])
def V3:J:=.seq (.block 1 (iw [af 40 0,iK 41 40,bE 42 37 41 0,ba 43 22 42,af 44 3,dG 45 22 43 44,ba 46 9 45,dP 47 34 46,fp 48 47,af 49 48,aP 50 49 (.bg (.t 0)),aP 51 49 (.eo (.t 50)),aP 52 49 (.cH 37 (.t 51) 0),aP 53 49 (.bY 22 (.t 52)),aP 54 49 (.bg (.t 3)),aP 55 49 (.dh 22 (.t 53) none (some (.t 54))),aP 56 49 (.bg (.t 0)),aP 57 49 (.eo (.t 56)),aP 58 49 (.cH 37 (.t 57) 0),aP 59 49 (.bY 22 (.t 58)),aP 60 49 (.bg (.t 3)),aP 61 49 (.dO 22 (.t 59) (.t 60)),aP 62 49 (.bY 9 (.t 61)),⟨some 63,.call (.f 35) [(.t 55),(.t 62)],some (49,false)⟩,aP 64 49 (.bx .geq 2 (.t 63) (.c (.int .i64 0))),ro 65 (.pick (.t 49) (.c (.bool true)) (.t 64)),af 66 65,aP 67 66 (.bg (.t 0)),aP 68 66 (.eo (.t 67)),aP 69 66 (.cH 37 (.t 68) 1),aP 70 66 (.bY 34 (.t 69)),aP 71 66 (.bg (.t 3)),aP 72 66 (.dO 34 (.t 70) (.t 71)),⟨some 73,.call (.f 36) [(.t 72)],some (66,false)⟩,aP 74 66 (.un .not (.t 73)),ro 75 (.pick (.t 66) (.c (.bool true)) (.t 74))] [[],[0],[1],[2],[],[3,4],[5],[6],[7],[8,7],[9],[10,9],[11,9],[12,9],[9],[13,14,9],[9],[16,9],[17,9],[18,9],[9],[19,20,9],[21,9],[15,22,9,9],[23,9],[9,24],[25,23],[26],[27,26],[28,26],[29,26],[26],[30,31,26],[32,26,26],[33,26],[26,34]] [0,3,75] V1)) V2
def IF:J:=.seq (ae [af 31 3,af 32 0,iK 33 32,bE 34 37 33 0,ba 35 22 34,b4 36 22 35,b2 37 .lss 3 31 36] [0,3,37] VZ) V3
def V4:J:=.block 0 (.loop IF)
def V5:J:=ae [bd 2 true] [2] .ret
def V6:J:=.seq (ae [bT 3 0] [0,3] V4) V5
def V7:J:=.seq (iw [af 4 0,iK 5 4,bE 6 37 5 0,ba 7 22 6,b4 8 22 7,bu 9 .eql 3 8 0,af 10 9,aP 11 10 (.bg (.t 0)),aP 12 10 (.eo (.t 11)),aP 13 10 (.cH 37 (.t 12) 0),aP 14 10 (.bY 22 (.t 13)),aP 15 10 (.len 22 (.t 14)),aP 16 10 (.bx .gtr 3 (.t 15) (.c (.int .i64 6))),ro 17 (.pick (.t 10) (.c (.bool true)) (.t 16)),af 18 17,aP 19 18 (.bg (.t 0)),aP 20 18 (.eo (.t 19)),aP 21 18 (.cH 37 (.t 20) 1),aP 22 18 (.bY 34 (.t 21)),aP 23 18 (.len 34 (.t 22)),aP 24 18 (.bg (.t 0)),aP 25 18 (.eo (.t 24)),aP 26 18 (.cH 37 (.t 25) 0),aP 27 18 (.bY 22 (.t 26)),aP 28 18 (.len 22 (.t 27)),aP 29 18 (.bx .neq 3 (.t 23) (.t 28)),ro 30 (.pick (.t 18) (.c (.bool true)) (.t 29))] [[],[0],[1],[2],[3],[4],[5],[6],[7,6],[8,6],[9,6],[10,6],[11,6],[6,12],[13,6],[14],[15,14],[16,14],[17,14],[18,14],[14],[20,14],[21,14],[22,14],[23,14],[19,24,14],[14,25]] [0,30] VY) V6
def V8:J:=ae [bd 2 false] [0] V7
theorem pH:bt ⟨76,[0]⟩ (Tryz.f17.body.getD .skip)=some V8.strip:=by kernel_rfl
def V9:J:=ae [af 3 0,bu 4 .leq 2 3 3,aQ 2 4] [2] .ret
def V_:J:=ae [bd 2 false] [0] V9
theorem Wa:bt ⟨5,[0]⟩ (Tryz.f38.body.getD .skip)=some V_.strip:=by kernel_rfl
def Wb:J:=ae [af 3 0,bu 4 .eql 2 3 3,af 5 4,aP 6 5 (.bg (.t 0)),aP 7 5 (.bx .eql 2 (.t 6) (.c (.int .i64 4))),ro 8 (.pick (.t 5) (.c (.bool true)) (.t 7)),af 9 8,aP 10 9 (.bg (.t 0)),aP 11 9 (.bx .eql 2 (.t 10) (.c (.int .i64 5))),ro 12 (.pick (.t 9) (.c (.bool true)) (.t 11)),aQ 2 12] [2] .ret
def Wc:J:=ae [bd 2 false] [0] Wb
theorem Wd:bt ⟨13,[0]⟩ (Tryz.f39.body.getD .skip)=some Wc.strip:=by kernel_rfl
def We:J:=.ct [bu 7 .eql 2 3 6,aQ 4 7] (some [3,4])
def Wf:J:=.cond (.t 4) .skip We
def Wg:J:=ae [bu 6 .eql 2 3 1,aQ 4 6] [3,4] Wf
def Wh:J:=.cond (.t 4) .skip Wg
def Wi:J:=ae [bT 2 0] [2] .ret
def Wj:J:=.ct [bu 10 .eql 2 3 3,aQ 8 10] (some [8])
def Wk:J:=.cond (.t 8) .skip Wj
def Wl:J:=ae [bT 2 2] [2] .ret
def IG:J:=.cond (.t 8) Wl .skip
def Wm:J:=.seq (ae [bu 9 .eql 2 3 2,aQ 8 9] [3,8] Wk) IG
def IH:J:=.cond (.t 4) Wi Wm
def Wn:J:=.block 0 (.seq (ae [bu 5 .eql 2 3 0,aQ 4 5] [3,4] Wh) IH)
def Wo:J:=ae [bT 2 1] [2] .ret
def Wp:J:=.seq (ae [af 3 0] [3] Wn) Wo
def c75:J:=ae [bT 2 0] [0] Wp
theorem Wq:bt ⟨11,[0]⟩ (Tryz.f75.body.getD .skip)=some c75.strip:=by kernel_rfl
def Wr:J:=ae [bd 2 true] [2] .ret
def Ws:J:=.cond (.t 8) Wr .skip
def Wt:J:=ae [af 9 0,af 10 0,b4 11 9 10,bu 12 .sub 3 11 1,pw 13 9 9 12,ro 14 (.bx .eql 5 (.t 13) (.c (.int .u8 42))),af 15 14,bj 16 15 (.bg (.t 0)),bj 17 15 (.bg (.t 0)),bj 18 15 (.len 9 (.t 17)),bj 19 15 (.bx .sub 3 (.t 18) (.c (.int .i64 1))),bj 20 15 (.dh 9 (.t 16) none (some (.t 19))),⟨some 21,.call (.f 89) [(.t 20)],some (15,true)⟩,ro 22 (.pick (.t 15) (.t 21) (.c (.bool false))),aQ 2 22] [2] .ret
def Wu:J:=.seq (ae [af 3 0,ro 4 (.bx .eql 9 (.t 3) (.c (.str []))),af 5 4,aP 6 5 (.bg (.t 0)),⟨some 7,.call (.f 74) [(.t 6)],some (5,false)⟩,ro 8 (.pick (.t 5) (.c (.bool true)) (.t 7))] [0,8] Ws) Wt
def c76:J:=ae [bd 2 false] [0] Wu
theorem Wv:bt ⟨23,[0]⟩ (Tryz.f76.body.getD .skip)=some c76.strip:=by kernel_rfl
def Ww:J:=ae [bd 6 false] [6] .ret
def Wx:J:=.cond (.t 18) Ww .skip
def Wy:J:=.cond (.t 22) .skip (.exit 0)
def Wz:J:=ae [bd 6 false] [6] .ret
def WA:J:=.cond (.t 36) Wz .skip
def WB:J:=ae [bd 6 false] [6] .ret
def WC:J:=.cond (.t 88) WB .skip
def WD:J:=ae [af 60 9,af 61 60,bj 62 61 (.bg (.t 0)),bj 63 61 (.bg (.t 8)),bj 64 61 (.dO 39 (.t 62) (.t 63)),bj 65 61 (.cH 88 (.t 64) 2),bj 66 61 (.bY 9 (.t 65)),⟨some 67,.call (.f 76) [(.t 66)],some (61,true)⟩,bj 68 61 (.un .not (.t 67)),ro 69 (.pick (.t 61) (.t 68) (.c (.bool false))),af 70 69,aP 71 70 (.bg (.t 9)),aP 72 70 (.un .not (.t 71)),aP 73 70 (.bg (.t 72)),bj 74 73 (.bg (.t 0)),bj 75 73 (.bg (.t 8)),bj 76 73 (.dO 39 (.t 74) (.t 75)),bj 77 73 (.cH 88 (.t 76) 2),bj 78 73 (.bY 9 (.t 77)),⟨some 79,.bx .neq 9 (.t 78) (.c (.str [])),some (73,true)⟩,bj 80 73 (.bg (.t 79)),aP 81 80 (.bg (.t 0)),aP 82 80 (.bg (.t 8)),aP 83 80 (.dO 39 (.t 81) (.t 82)),aP 84 80 (.cH 88 (.t 83) 3),aP 85 80 (.bY 4 (.t 84)),bj 86 73 (.pick (.t 80) (.c (.bool true)) (.t 85)),aP 87 70 (.pick (.t 73) (.t 86) (.c (.bool false))),ro 88 (.pick (.t 70) (.c (.bool true)) (.t 87))] [0,2,7,8,88] WC
def WE:J:=ae [af 46 0,af 47 8,dG 48 39 46 47,bE 49 88 48 0,ba 50 2 49,bu 51 .eql 2 50 4,af 52 51,aP 53 52 (.bg (.t 0)),aP 54 52 (.bg (.t 8)),aP 55 52 (.dO 39 (.t 53) (.t 54)),aP 56 52 (.cH 88 (.t 55) 0),aP 57 52 (.bY 2 (.t 56)),aP 58 52 (.bx .eql 2 (.t 57) (.c (.int .i64 5))),ro 59 (.pick (.t 52) (.c (.bool true)) (.t 58)),aQ 9 59] [0,2,7,8,9] WD
def WG:J:=ae [af 37 7,af 38 0,af 39 8,dG 40 39 38 39,bE 41 88 40 0,ba 42 2 41,dP 43 75 42,bu 44 .sub 2 43 1,b2 45 .add 2 37 44,aQ 7 45] [0,2,7,8] WE
def WH:J:=.ct [af 23 8,bu 24 .add 3 23 1,aQ 8 24] (some [0,2,7,8])
def WI:J:=.seq (.block 1 (.seq (ae [af 25 7,bu 26 .eql 2 25 0,af 27 26,aP 28 27 (.bg (.t 0)),aP 29 27 (.bg (.t 8)),aP 30 27 (.dO 39 (.t 28) (.t 29)),aP 31 27 (.cH 88 (.t 30) 0),aP 32 27 (.bY 2 (.t 31)),aP 33 27 (.bg (.t 2)),⟨some 34,.call (.f 37) [(.t 32),(.c (.int .i64 0)),(.t 33)],some (27,false)⟩,aP 35 27 (.un .not (.t 34)),ro 36 (.pick (.t 27) (.c (.bool true)) (.t 35))] [0,2,7,8,36] WA) WG)) WH
def II:J:=.seq (ae [af 19 8,af 20 0,b4 21 39 20,b2 22 .lss 3 19 21] [0,2,7,8,22] Wy) WI
def WJ:J:=.block 0 (.loop II)
def WK:J:=ae [af 89 7,bu 90 .eql 2 89 0,aQ 6 90] [6] .ret
def WL:J:=.seq (ae [bT 8 0] [0,2,7,8] WJ) WK
def WM:J:=ae [bT 7 1] [0,2,7] WL
def WN:J:=.seq (ae [af 10 0,b4 11 39 10,bu 12 .lss 3 11 1,af 13 12,aP 14 13 (.bg (.t 0)),aP 15 13 (.len 39 (.t 14)),aP 16 13 (.bg (.t 1)),aP 17 13 (.bx .gtr 2 (.t 15) (.t 16)),ro 18 (.pick (.t 13) (.c (.bool true)) (.t 17))] [0,2,18] Wx) WM
def WO:J:=ae [bd 6 false] [0,1,2] WN
theorem WQ:bt ⟨91,[0,1,2]⟩ (Tryz.f60.body.getD .skip)=some WO.strip:=by kernel_rfl
def WR:J:=ae [af 3 0,iK 4 3,bE 5 88 4 0,ba 6 2 5,bu 7 .eql 2 6 7,af 8 7,aP 9 8 (.bg (.t 0)),aP 10 8 (.eo (.t 9)),aP 11 8 (.cH 88 (.t 10) 0),aP 12 8 (.bY 2 (.t 11)),aP 13 8 (.bx .eql 2 (.t 12) (.c (.int .i64 8))),ro 14 (.pick (.t 8) (.c (.bool true)) (.t 13)),aQ 2 14] [2] .ret
def WS:J:=ae [bd 2 false] [0] WR
theorem WT:bt ⟨15,[0]⟩ (Tryz.f61.body.getD .skip)=some WS.strip:=by kernel_rfl
def WU:J:=.cond (.t 7) .skip (.exit 0)
def WV:J:=.ct [af 17 1,bu 18 .add 2 17 1,aQ 1 18] (some [0,1,5])
def WW:J:=.block 1 (ae [af 8 5,af 9 0,af 10 1,dG 11 39 9 10,bE 12 88 11 0,ba 13 2 12,dP 14 75 13,bu 15 .sub 2 14 1,b2 16 .add 2 8 15,aQ 5 16] [0,1,5] WV)
def IJ:J:=.seq (ae [af 6 5,bu 7 .gtr 2 6 0] [0,1,5,7] WU) WW
def WX:J:=ae [af 19 1,aQ 4 19] [4] .ret
def WY:J:=.seq (.block 0 (.loop IJ)) WX
def WZ:J:=ae [bT 5 1] [0,1,5] WY
def W0:J:=ae [bT 4 0] [0,1] WZ
theorem W1:bt ⟨20,[0]⟩ (Tryz.f77.body.getD .skip)=some W0.strip:=by kernel_rfl
def W2:J:=.cond (.t 9) .skip (.exit 0)
def W3:J:=ae [af 36 5,aQ 4 36] [4] .ret
def W4:J:=.cond (.t 35) W3 .skip
def W5:J:=.ct [af 10 5,bu 11 .sub 2 10 1,aQ 5 11] (some [0,1,5])
def W6:J:=.seq (.block 1 (iw [af 12 0,af 13 5,dG 14 39 12 13,dP 15 61 14,af 16 15,bj 17 16 (.bg (.t 0)),bj 18 16 (.bg (.t 5)),bj 19 16 (.dO 39 (.t 17) (.t 18)),bj 20 16 (.cH 88 (.t 19) 1),bj 21 16 (.bY 2 (.t 20)),bj 22 16 (.bg (.t 0)),bj 23 16 (.bg (.t 1)),bj 24 16 (.dO 39 (.t 22) (.t 23)),bj 25 16 (.cH 88 (.t 24) 1),bj 26 16 (.bY 2 (.t 25)),bj 27 16 (.bx .eql 2 (.t 21) (.t 26)),ro 28 (.pick (.t 16) (.t 27) (.c (.bool false))),af 29 28,bj 30 29 (.bg (.t 0)),bj 31 29 (.bg (.t 5)),⟨some 32,.call (.f 77) [(.t 30),(.t 31)],some (29,true)⟩,bj 33 29 (.bg (.t 1)),bj 34 29 (.bx .gtr 2 (.t 32) (.t 33)),ro 35 (.pick (.t 29) (.t 34) (.c (.bool false)))] [[],[],[0,1],[2],[3,3],[4],[4],[5,6,4],[7,4],[8,4],[4],[4],[10,11,4],[12,4],[13,4],[9,14,4],[4,15],[16,4],[17],[17],[18,19,17,17],[17],[20,21,17],[17,22]] [0,1,5,35] W4)) W5
def IK:J:=.seq (ae [af 8 5,bu 9 .geq 2 8 0] [0,1,5,9] W2) W6
def W7:J:=.block 0 (.loop IK)
def W8:J:=ae [bT 4 (-1)] [4] .ret
def W9:J:=.seq (ae [af 6 1,bu 7 .sub 2 6 1,aQ 5 7] [0,1,5] W7) W8
def W_:J:=ae [bT 4 0] [0,1] W9
theorem Xa:bt ⟨37,[0,1]⟩ (Tryz.f62.body.getD .skip)=some W_.strip:=by kernel_rfl
def Xb:J:=ae [bd 2 false] [2] .ret
def Xc:J:=.cond (.t 6) Xb .skip
def Xd:J:=.cond (.t 10) .skip (.exit 0)
def Xe:J:=ae [bd 2 false] [2] .ret
def Xf:J:=.cond (.t 31) Xe .skip
def Xg:J:=ae [af 25 0,af 26 3,dG 27 39 25 26,bE 28 88 27 1,ba 29 2 28,ro 30 (.call (.f 37) [(.t 29),(.c (.int .i64 0)),(.c (.int .i64 2))]),fp 31 30] [0,3,31] Xf
def Xh:J:=ae [bd 2 false] [2] .ret
def Xi:J:=.cond (.t 37) Xh .skip
def Xj:J:=ae [af 32 0,af 33 3,dG 34 39 32 33,bE 35 88 34 1,ba 36 2 35,bu 37 .neq 2 36 0] [0,3,37] Xi
def Xk:J:=.cond (.t 24) Xg Xj
def Xl:J:=ae [bd 2 false] [2] .ret
def Xm:J:=.cond (.t 49) Xl .skip
def IL:J:=ae [af 38 0,af 39 3,dG 40 39 38 39,bE 41 88 40 0,ba 42 2 41,bu 43 .eql 2 42 6,af 44 43,bj 45 44 (.bg (.t 0)),bj 46 44 (.bg (.t 3)),⟨some 47,.call (.f 62) [(.t 45),(.t 46)],some (44,true)⟩,bj 48 44 (.bx .lss 2 (.t 47) (.c (.int .i64 0))),ro 49 (.pick (.t 44) (.t 48) (.c (.bool false)))] [0,3,49] Xm
def Xn:J:=.ct [af 11 3,bu 12 .add 2 11 1,aQ 3 12] (some [0,3])
def Xo:J:=.seq (.block 1 (.seq (ae [af 13 0,af 14 3,dG 15 39 13 14,dP 16 61 15,af 17 16,aP 18 17 (.bg (.t 0)),aP 19 17 (.bg (.t 3)),aP 20 17 (.dO 39 (.t 18) (.t 19)),aP 21 17 (.cH 88 (.t 20) 0),aP 22 17 (.bY 2 (.t 21)),aP 23 17 (.bx .eql 2 (.t 22) (.c (.int .i64 6))),ro 24 (.pick (.t 17) (.c (.bool true)) (.t 23))] [0,3,24] Xk) IL)) Xn
def IM:J:=.seq (ae [af 7 3,af 8 0,b4 9 39 8,b2 10 .lss 2 7 9] [0,3,10] Xd) Xo
def Xp:J:=.block 0 (.loop IM)
def Xq:J:=ae [bd 2 true] [2] .ret
def Xr:J:=.seq (ae [bT 3 0] [0,3] Xp) Xq
def Xs:J:=.seq (ae [af 4 0,ro 5 (.call (.f 60) [(.t 4),(.c (.int .i64 30)),(.c (.int .i64 8))]),fp 6 5] [0,6] Xc) Xr
def c40:J:=ae [bd 2 false] [0] Xs
theorem Xt:bt ⟨50,[0]⟩ (Tryz.f40.body.getD .skip)=some c40.strip:=by kernel_rfl
def Xu:J:=ae [bd 4 false] [4] .ret
def Xv:J:=.cond (.t 36) Xu .skip
def Xw:J:=ae [bd 4 false] [4] .ret
def Xx:J:=.cond (.t 49) Xw .skip
def Xy:J:=ae [af 55 1,iK 56 55,bE 57 41 56 4,ba 58 39 57,dP 59 40 58,aQ 4 59] [4] .ret
def Xz:J:=.cond (.t 54) Xy .skip
def XA:J:=ae [af 60 1,iK 61 60,bE 62 41 61 4,ba 63 39 62,b4 64 39 63,bu 65 .eql 3 64 0,aQ 4 65] [4] .ret
def XB:J:=.seq (ae [af 50 1,iK 51 50,bE 52 41 51 0,ba 53 2 52,dP 54 39 53] [1,54] Xz) XA
def XC:J:=.seq (ae [af 37 1,iK 38 37,bE 39 41 38 0,ba 40 2 39,dP 41 38 40,fp 42 41,af 43 42,bj 44 43 (.bg (.t 1)),bj 45 43 (.eo (.t 44)),bj 46 43 (.cH 41 (.t 45) 2),bj 47 43 (.bY 2 (.t 46)),bj 48 43 (.bx .neq 2 (.t 47) (.c (.int .i64 0))),ro 49 (.pick (.t 43) (.t 48) (.c (.bool false)))] [1,49] Xx) XB
def XD:J:=.seq (ae [af 11 1,iK 12 11,bE 13 41 12 0,ba 14 2 13,ro 15 (.call (.f 37) [(.t 14),(.c (.int .i64 0)),(.c (.int .i64 7))]),fp 16 15,af 17 16,aP 18 17 (.bg (.t 1)),aP 19 17 (.eo (.t 18)),aP 20 17 (.cH 41 (.t 19) 1),aP 21 17 (.bY 2 (.t 20)),aP 22 17 (.bg (.t 5)),aP 23 17 (.bx .sub 2 (.t 22) (.c (.int .i64 1))),⟨some 24,.call (.f 37) [(.t 21),(.c (.int .i64 0)),(.t 23)],some (17,false)⟩,aP 25 17 (.un .not (.t 24)),ro 26 (.pick (.t 17) (.c (.bool true)) (.t 25)),af 27 26,aP 28 27 (.bg (.t 1)),aP 29 27 (.eo (.t 28)),aP 30 27 (.cH 41 (.t 29) 2),aP 31 27 (.bY 2 (.t 30)),aP 32 27 (.bg (.t 5)),aP 33 27 (.bx .sub 2 (.t 32) (.c (.int .i64 1))),⟨some 34,.call (.f 37) [(.t 31),(.c (.int .i64 0)),(.t 33)],some (27,false)⟩,aP 35 27 (.un .not (.t 34)),ro 36 (.pick (.t 27) (.c (.bool true)) (.t 35))] [1,36] Xv) XC
def XE:J:=ae [af 6 0,iK 7 6,bE 8 37 7 1,ba 9 34 8,b4 10 34 9,aQ 5 10] [1,5] XD
def XF:J:=ae [bd 4 false] [0,1] XE
theorem XG:bt ⟨66,[0,1]⟩ (Tryz.f18.body.getD .skip)=some XF.strip:=by kernel_rfl
def XH:J:=ae [dP 5 17 2,af 6 5,⟨some 7,.call (.f 18) [(.t 2),(.t 3)],some (6,true)⟩,ro 8 (.pick (.t 6) (.t 7) (.c (.bool false))),aQ 4 8] [4] .ret
def uX:J:=ae [ro 2 (.cQ 37 (.t 0)),ro 3 (.cQ 41 (.t 1)),bd 4 false] [2,3] XH
theorem rR:bt ⟨9,[0,1]⟩ (Tryz.f6.body.getD .skip)=some uX.strip:=by kernel_rfl
def XI:J:=ae [af 7 0,af 8 1,b2 9 .geq 2 7 8,af 10 9,bj 11 10 (.bg (.t 0)),bj 12 10 (.bg (.t 2)),bj 13 10 (.bx .leq 2 (.t 11) (.t 12)),ro 14 (.pick (.t 10) (.t 13) (.c (.bool false))),aQ 6 14] [6] .ret
def XJ:J:=ae [bd 6 false] [0,1,2] XI
theorem XK:bt ⟨15,[0,1,2]⟩ (Tryz.f44.body.getD .skip)=some XJ.strip:=by kernel_rfl
def XL:J:=ae [af 3 0,ro 4 (.bx .geq 5 (.t 3) (.c (.int .u8 48))),af 5 4,bj 6 5 (.bg (.t 0)),bj 7 5 (.bx .leq 5 (.t 6) (.c (.int .u8 57))),ro 8 (.pick (.t 5) (.t 7) (.c (.bool false))),aQ 2 8] [2] .ret
def XM:J:=ae [bd 2 false] [0] XL
theorem XN:bt ⟨9,[0]⟩ (Tryz.f64.body.getD .skip)=some XM.strip:=by kernel_rfl
def XO:J:=ae [bd 2 false] [2] .ret
def XP:J:=.cond (.t 32) XO .skip
def XQ:J:=ae [af 20 4,fp 21 20,af 22 21,bj 23 22 (.bg (.t 3)),bj 24 22 (.bx .eql 3 (.t 23) (.c (.int .i64 0))),bj 25 22 (.bg (.t 24)),aP 26 25 (.bg (.t 0)),aP 27 25 (.bg (.t 3)),aP 28 25 (.idx 9 (.t 26) (.t 27)),⟨some 29,.call (.f 64) [(.t 28)],some (25,false)⟩,aP 30 25 (.un .not (.t 29)),bj 31 22 (.pick (.t 25) (.c (.bool true)) (.t 30)),ro 32 (.pick (.t 22) (.t 31) (.c (.bool false)))] [0,6,7,32] XP
def XR:J:=ae [af 10 0,af 11 3,pw 12 9 10 11,ro 13 (.bx .geq 5 (.t 12) (.c (.int .u8 97))),af 14 13,bj 15 14 (.bg (.t 0)),bj 16 14 (.bg (.t 3)),bj 17 14 (.idx 9 (.t 15) (.t 16)),bj 18 14 (.bx .leq 5 (.t 17) (.c (.int .u8 122))),ro 19 (.pick (.t 14) (.t 18) (.c (.bool false))),aQ 4 19] [0,3,4,6,7] XQ
def XS:J:=.ct [bu 33 .add 3 7 1,af 7 33] (some [0,6,7])
def XT:J:=.seq (.block 1 (ae [af 9 7,aQ 3 9] [0,3,6,7] XR)) XS
def XU:J:=.seq (.cond (.t 8) .skip (.exit 0)) XT
def IP:J:=ae [b2 8 .lss 3 7 6] [0,6,7,8] XU
def XV:J:=.block 0 (.loop IP)
def XW:J:=ae [af 34 0,b4 35 9 34,bu 36 .geq 3 35 1,af 37 36,bj 38 37 (.bg (.t 0)),bj 39 37 (.len 9 (.t 38)),bj 40 37 (.bx .leq 3 (.t 39) (.c (.int .i64 10))),ro 41 (.pick (.t 37) (.t 40) (.c (.bool false))),aQ 2 41] [2] .ret
def XX:J:=.seq (ae [af 5 0,b4 6 9 5,oa 7 0] [0,6,7] XV) XW
def XY:J:=ae [bd 2 false] [0] XX
theorem XZ:bt ⟨42,[0]⟩ (Tryz.f45.body.getD .skip)=some XY.strip:=by kernel_rfl
def X0:J:=ae [af 17 5,aQ 4 17] [4] .ret
def X1:J:=.cond (.t 16) X0 .skip
def X2:J:=ae [af 11 1,af 12 0,af 13 5,dG 14 22 12 13,ba 15 9 14,b2 16 .eql 9 11 15] [0,1,5,7,8,16] X1
def X3:J:=.ct [bu 18 .add 3 8 1,af 8 18] (some [0,1,7,8])
def X4:J:=.seq (.block 1 (ae [af 10 8,aQ 5 10] [0,1,5,7,8] X2)) X3
def X5:J:=.seq (.cond (.t 9) .skip (.exit 0)) X4
def IQ:J:=ae [b2 9 .lss 3 8 7] [0,1,7,8,9] X5
def X6:J:=.block 0 (.loop IQ)
def X7:J:=ae [bT 4 (-1)] [4] .ret
def X8:J:=.seq (ae [af 6 0,b4 7 22 6,oa 8 0] [0,1,7,8] X6) X7
def X9:J:=ae [bT 4 0] [0,1] X8
theorem X_:bt ⟨19,[0,1]⟩ (Tryz.f65.body.getD .skip)=some X9.strip:=by kernel_rfl
def Ya:J:=ae [af 5 0,af 6 1,ed 7 65 5 6,bu 8 .geq 3 7 0,aQ 4 8] [4] .ret
def c46:J:=ae [bd 4 false] [0,1] Ya
theorem Yb:bt ⟨9,[0,1]⟩ (Tryz.f46.body.getD .skip)=some c46.strip:=by kernel_rfl
def Yc:J:=ae [af 5 1,bE 6 82 2 0,ba 7 2 6,bu 8 .sub 2 7 1,ro 9 (.call (.f 44) [(.t 5),(.c (.int .i64 0)),(.t 8)]),aQ 4 9] [4] .ret
def Yd:J:=ae [ro 2 (.cQ 82 (.t 0)),bd 4 false] [1,2] Yc
theorem Ye:bt ⟨10,[0,1]⟩ (Tryz.f66.body.getD .skip)=some Yd.strip:=by kernel_rfl
def Yf:J:=ae [af 5 0,af 6 1,ed 7 135 5 6,aQ 4 7] [4] .ret
def Yg:J:=ae [bT 4 0] [0,1] Yf
theorem Yh:bt ⟨8,[0,1]⟩ (Tryz.f120.body.getD .skip)=some Yg.strip:=by kernel_rfl
def Yi:J:=ae [bT 4 0] [4] .ret
def Yj:J:=ae [af 27 0,af 28 1,ro 29 (.idx 9 (.t 28) (.c (.int .i64 0))),ed 30 120 27 29,aQ 4 30] [4] .ret
def Yk:J:=ae [bT 4 (-1)] [4] .ret
def Yl:J:=ae [af 45 0,af 46 1,ed 47 121 45 46,aQ 4 47] [4] .ret
def Ym:J:=.cond (.t 36) Yl .skip
def Yn:J:=ae [af 37 5,ro 38 (.bad),b2 39 .leq 3 37 38,af 40 39,bj 41 40 (.bg (.t 0)),bj 42 40 (.len 9 (.t 41)),bj 43 40 (.bx .leq 3 (.t 42) (.c (.int .i64 64))),ro 44 (.pick (.t 40) (.t 43) (.c (.bool false))),aQ 36 44] [0,1,5,36] Ym
def Yo:J:=.cond (.t 31) Yk Yn
def Yp:J:=ae [af 32 5,af 33 0,b4 34 9 33,b2 35 .geq 3 32 34,aQ 31 35] [0,1,5,31] Yo
def Yq:J:=.cond (.t 24) Yj Yp
def Yr:J:=ae [af 25 5,bu 26 .eql 3 25 1,aQ 24 26] [0,1,5,24] Yq
def Ys:J:=.cond (.t 16) Yi Yr
def Yt:J:=.cond (.t 59) .skip (.exit 1)
def Yu:J:=ae [bT 4 (-1)] [4] .ret
def Yv:J:=.cond (.t 73) Yu .skip
def Yw:J:=.ct [af 74 8,af 75 11,bu 76 .add 3 75 1,b2 77 .add 3 74 76,aQ 8 77] (some [0,1,5,6,7,8,9,10])
def Yx:J:=.seq (ae [af 72 11,bu 73 .lss 3 72 0] [0,1,5,6,7,8,9,10,11,73] Yv) Yw
def Yy:J:=ae [af 65 0,af 66 8,bu 67 .add 3 66 1,af 68 9,ro 69 (.dh 9 (.t 65) (some (.t 67)) (some (.t 68))),af 70 6,ed 71 120 69 70,aQ 11 71] [0,1,5,6,7,8,9,10,11] Yx
def Yz:J:=.cond (.t 64) Yy .skip
def YA:J:=ae [af 94 8,aQ 4 94] [4] .ret
def YB:J:=.cond (.t 93) YA .skip
def YC:J:=ae [af 115 12,af 116 8,b2 117 .add 3 115 116,aQ 4 117] [4] .ret
def YD:J:=.cond (.t 114) YC .skip
def YE:J:=ae [bT 4 (-1)] [4] .ret
def YF:J:=.seq (ae [af 113 12,bu 114 .geq 3 113 0] [8,12,114] YD) YE
def YG:J:=ae [af 108 0,af 109 8,ro 110 (.dh 9 (.t 108) (some (.t 109)) none),af 111 1,ed 112 121 110 111,aQ 12 112] [8,12] YF
def YH:J:=ae [bT 4 (-1)] [4] .ret
def YI:J:=.cond (.t 139) YH .skip
def YJ:J:=ae [af 140 8,af 141 13,b2 142 .add 3 140 141,aQ 4 142] [4] .ret
def YK:J:=.seq (ae [af 138 13,bu 139 .lss 3 138 0] [8,13,139] YI) YJ
def YL:J:=ae [af 133 0,af 134 8,ro 135 (.dh 9 (.t 133) (some (.t 134)) none),af 136 1,ed 137 123 135 136,aQ 13 137] [8,13] YK
def YM:J:=.cond (.t 132) YL .skip
def YN:J:=ae [af 118 5,ro 119 (.bad),b2 120 .gtr 3 118 119,af 121 120,bj 122 121 (.bg (.t 10)),bj 123 121 (.bg (.t 8)),bj 124 121 (.bx .shr 3 (.t 123) (.c (.int .u64 4))),bj 125 121 (.bx .add 3 (.c (.int .i64 4)) (.t 124)),bj 126 121 (.bx .geq 3 (.t 122) (.t 125)),ro 127 (.pick (.t 121) (.t 126) (.c (.bool false))),af 128 127,bj 129 128 (.bg (.t 8)),bj 130 128 (.bg (.t 9)),bj 131 128 (.bx .lss 3 (.t 129) (.t 130)),ro 132 (.pick (.t 128) (.t 131) (.c (.bool false)))] [0,1,5,6,7,8,9,10,132] YM
def YO:J:=.cond (.t 107) YG YN
def YP:J:=ae [af 99 5,ro 100 (.bad),b2 101 .leq 3 99 100,af 102 101,bj 103 102 (.bg (.t 10)),bj 104 102 (.bg (.t 8)),⟨some 105,.call (.f 122) [(.t 104)],some (102,true)⟩,bj 106 102 (.bx .gtr 3 (.t 103) (.t 105)),ro 107 (.pick (.t 102) (.t 106) (.c (.bool false)))] [0,1,5,6,7,8,9,10,107] YO
def YQ:J:=ae [af 97 10,bu 98 .add 3 97 1,aQ 10 98] [0,1,5,6,7,8,9,10] YP
def YR:J:=ae [af 95 8,bu 96 .add 3 95 1,aQ 8 96] [0,1,5,6,7,8,9,10] YQ
def YS:J:=.seq (ae [af 78 0,af 79 8,bu 80 .add 3 79 1,pw 81 9 78 80,af 82 7,b2 83 .eql 5 81 82,af 84 83,bj 85 84 (.bg (.t 0)),bj 86 84 (.bg (.t 8)),bj 87 84 (.bg (.t 8)),bj 88 84 (.bg (.t 5)),bj 89 84 (.bx .add 3 (.t 87) (.t 88)),bj 90 84 (.dh 9 (.t 85) (some (.t 86)) (some (.t 89))),bj 91 84 (.bg (.t 1)),bj 92 84 (.bx .eql 9 (.t 90) (.t 91)),ro 93 (.pick (.t 84) (.t 92) (.c (.bool false)))] [0,1,5,6,7,8,9,10,93] YB) YR
def YT:J:=.block 2 (.seq (ae [af 60 0,af 61 8,pw 62 9 60 61,af 63 6,b2 64 .neq 5 62 63] [0,1,5,6,7,8,9,10,64] Yz) YS)
def YU:J:=.seq (ae [af 57 8,af 58 9,b2 59 .lss 3 57 58] [0,1,5,6,7,8,9,10,59] Yt) YT
def YV:J:=ae [bT 4 (-1)] [4] .ret
def YW:J:=.seq (.block 1 (.loop YU)) YV
def YX:J:=ae [bT 10 0] [0,1,5,6,7,8,9,10] YW
def YY:J:=ae [af 52 0,b4 53 9 52,af 54 5,b2 55 .sub 3 53 54,bu 56 .add 3 55 1,aQ 9 56] [0,1,5,6,7,8,9] YX
def YZ:J:=ae [bT 8 0] [0,1,5,6,7,8] YY
def Y0:J:=ae [af 50 1,ro 51 (.idx 9 (.t 50) (.c (.int .i64 1))),aQ 7 51] [0,1,5,6,7] YZ
def Y1:J:=ae [af 48 1,ro 49 (.idx 9 (.t 48) (.c (.int .i64 0))),aQ 6 49] [0,1,5,6] Y0
def Y2:J:=.seq (.block 0 (ae [af 17 5,bu 18 .eql 3 17 0,af 19 18,aP 20 19 (.bg (.t 1)),aP 21 19 (.bg (.t 0)),aP 22 19 (.bx .eql 9 (.t 20) (.t 21)),ro 23 (.pick (.t 19) (.c (.bool true)) (.t 22)),aQ 16 23] [0,1,5,16] Ys)) Y1
def Y3:J:=ae [af 14 1,b4 15 9 14,aQ 5 15] [0,1,5] Y2
def Y4:J:=ae [bT 4 0] [0,1] Y3
theorem Y5:bt ⟨143,[0,1]⟩ (Tryz.f108.body.getD .skip)=some Y4.strip:=by kernel_rfl
def Y6:J:=iw [af 13 0,af 14 7,ro 15 (.dh 9 (.t 13) none (some (.t 14))),af 16 0,af 17 7,af 18 1,b4 19 9 18,b2 20 .add 3 17 19,ro 21 (.dh 9 (.t 16) (some (.t 20)) none),aQ 4 15,aQ 5 21,bd 6 true] [[],[],[0,1],[],[],[],[5],[4,6],[3,7],[2,0,1,2],[8,9,0,1,2,3,4,5,6,7,8,9],[10,0,1,2,3,4,5,6,7,8,9,10]] [4,5,6] .ret
def Y7:J:=.cond (.t 12) Y6 .skip
def Y8:J:=ae [af 11 7,bu 12 .geq 3 11 0] [0,1,7,12] Y7
def Y9:J:=ae [af 22 0,aQ 4 22,ro 5 (.fk (.c (.str []))),bd 6 false] [4,5,6] .ret
def Y_:J:=.seq (ae [af 8 0,af 9 1,ed 10 108 8 9,aQ 7 10] [0,1,7] Y8) Y9
def Za:J:=ae [ro 4 (.fk (.c (.str []))),ro 5 (.fk (.c (.str []))),bd 6 false] [0,1] Y_
theorem Zb:bt ⟨23,[0,1]⟩ (Tryz.f101.body.getD .skip)=some Za.strip:=by kernel_rfl
def Zc:J:=ae [af 7 0,af 8 1,ed 9 101 7 8,iY 10 9 0,iY 11 9 1,iY 12 9 2,aQ 4 10,aQ 5 11,aQ 6 12] [4,5,6] .ret
def Zd:J:=ae [ro 4 (.fk (.c (.str []))),ro 5 (.fk (.c (.str []))),bd 6 false] [0,1] Zc
theorem Ze:bt ⟨13,[0,1]⟩ (Tryz.f90.body.getD .skip)=some Zd.strip:=by kernel_rfl
def Zf:J:=ae [af 5 0,b4 6 9 5,af 7 1,b4 8 9 7,b2 9 .geq 3 6 8,af 10 9,bj 11 10 (.bg (.t 0)),bj 12 10 (.bg (.t 0)),bj 13 10 (.len 9 (.t 12)),bj 14 10 (.bg (.t 1)),bj 15 10 (.len 9 (.t 14)),bj 16 10 (.bx .sub 3 (.t 13) (.t 15)),bj 17 10 (.dh 9 (.t 11) (some (.t 16)) none),bj 18 10 (.bg (.t 1)),bj 19 10 (.bx .eql 9 (.t 17) (.t 18)),ro 20 (.pick (.t 10) (.t 19) (.c (.bool false))),aQ 4 20] [4] .ret
def Zg:J:=ae [bd 4 false] [0,1] Zf
theorem Zh:bt ⟨21,[0,1]⟩ (Tryz.f115.body.getD .skip)=some Zg.strip:=by kernel_rfl
def Zi:J:=ae [af 8 0,af 9 0,b4 10 9 9,af 11 1,b4 12 9 11,b2 13 .sub 3 10 12,ro 14 (.dh 9 (.t 8) none (some (.t 13))),aQ 4 14] [4] .ret
def Zj:J:=.cond (.t 7) Zi .skip
def Zk:J:=ae [af 15 0,aQ 4 15] [4] .ret
def Zl:J:=.seq (ae [af 5 0,af 6 1,ed 7 115 5 6] [0,1,7] Zj) Zk
def Zm:J:=ae [ro 4 (.fk (.c (.str [])))] [0,1] Zl
theorem Zn:bt ⟨16,[0,1]⟩ (Tryz.f104.body.getD .skip)=some Zm.strip:=by kernel_rfl
def Zo:J:=ae [af 5 0,af 6 1,ed 7 104 5 6,aQ 4 7] [4] .ret
def c93:J:=ae [ro 4 (.fk (.c (.str [])))] [0,1] Zo
theorem Zp:bt ⟨8,[0,1]⟩ (Tryz.f93.body.getD .skip)=some c93.strip:=by kernel_rfl
def Zq:J:=ae [af 5 0,af 6 1,ed 7 108 5 6,aQ 4 7] [4] .ret
def Zr:J:=ae [bT 4 0] [0,1] Zq
theorem Zs:bt ⟨8,[0,1]⟩ (Tryz.f114.body.getD .skip)=some Zr.strip:=by kernel_rfl
def Zt:J:=ae [af 10 0,dP 11 128 10,bu 12 .add 3 11 1,aQ 4 12] [4] .ret
def Zu:J:=.cond (.t 9) Zt .skip
def Zv:J:=ae [af 16 0,af 17 1,ro 18 (.idx 9 (.t 17) (.c (.int .i64 0))),ed 19 130 16 18,aQ 4 19] [4] .ret
def Zw:J:=.cond (.t 15) Zv .skip
def Zx:J:=ae [af 25 5,aQ 4 25] [4] .ret
def Zy:J:=.cond (.t 24) Zx .skip
def Zz:J:=.ct [af 28 0,af 29 6,af 30 1,b4 31 9 30,b2 32 .add 3 29 31,ro 33 (.dh 9 (.t 28) (some (.t 32)) none),aQ 0 33] (some [0,1,5])
def ZA:J:=ae [af 26 5,bu 27 .add 3 26 1,aQ 5 27] [0,1,5,6] Zz
def ZB:J:=.seq (ae [af 23 6,bu 24 .eql 3 23 (-1)] [0,1,5,6,24] Zy) ZA
def IU:J:=.block 1 (ae [af 20 0,af 21 1,ed 22 114 20 21,aQ 6 22] [0,1,5,6] ZB)
def ZC:J:=.block 0 (.loop IU)
def ZD:J:=ae [bT 5 0] [0,1,5] ZC
def ZE:J:=.seq (ae [af 13 1,b4 14 9 13,bu 15 .eql 3 14 1] [0,1,15] Zw) ZD
def ZF:J:=.seq (ae [af 7 1,b4 8 9 7,bu 9 .eql 3 8 0] [0,1,9] Zu) ZE
def ZG:J:=ae [bT 4 0] [0,1] ZF
theorem ZH:bt ⟨34,[1]⟩ (Tryz.f113.body.getD .skip)=some ZG.strip:=by kernel_rfl
def ZI:J:=ae [jB 8] [8] .ret
def ZJ:J:=.cond (.t 13) ZI .skip
def ZK:J:=ae [af 16 0,af 17 3,ed 18 112 16 17,aQ 8 18] [8] .ret
def ZL:J:=.cond (.t 15) ZK .skip
def ZM:J:=.ct [af 21 0,af 22 1,ed 23 113 21 22,bu 24 .add 3 23 1,aQ 3 24] (some [0,1,2,3])
def ZN:J:=.cond (.t 20) ZM .skip
def ZO:J:=.cond (.t 36) .skip (.exit 0)
def ZP:J:=.cond (.t 41) (.exit 0) .skip
def ZQ:J:=.ct [af 56 10,bu 57 .add 3 56 1,aQ 10 57] (some [0,1,2,3,9,10])
def ZR:J:=ae [af 50 0,af 51 11,af 52 1,b4 53 9 52,b2 54 .add 3 51 53,ro 55 (.dh 9 (.t 50) (some (.t 54)) none),aQ 0 55] [0,1,2,3,9,10] ZQ
def ZS:J:=ae [af 42 9,af 43 10,af 44 0,af 45 11,af 46 2,b2 47 .add 3 45 46,ro 48 (.dh 9 (.t 44) none (some (.t 47))),dG 49 22 42 43,fH 9 49 48] [0,1,2,3,9,10,11] ZR
def ZT:J:=.seq (ae [af 40 11,bu 41 .lss 3 40 0] [0,1,2,3,9,10,11,41] ZP) ZS
def ZU:J:=.block 1 (ae [af 37 0,af 38 1,ed 39 114 37 38,aQ 11 39] [0,1,2,3,9,10,11] ZT)
def IV:J:=.seq (ae [af 34 10,af 35 3,b2 36 .lss 3 34 35] [0,1,2,3,9,10,36] ZO) ZU
def ZV:J:=ae [af 62 9,af 63 10,bu 64 .add 3 63 1,ro 65 (.dh 22 (.t 62) none (some (.t 64))),aQ 8 65] [8] .ret
def IW:J:=ae [af 58 9,af 59 10,af 60 0,dG 61 22 58 59,fH 9 61 60] [9,10] ZV
def ZW:J:=.seq (.block 0 (.loop IV)) IW
def ZX:J:=ae [bT 10 0] [0,1,2,3,9,10] ZW
def ZY:J:=ae [af 32 3,bu 33 .sub 3 32 1,aQ 3 33] [0,1,2,3,9] ZX
def ZZ:J:=ae [af 30 3,ro 31 (.dX 22 (.t 30) (.t 30)),aQ 9 31] [0,1,2,3,9] ZY
def IX:J:=ae [af 25 3,af 26 0,b4 27 9 26,bu 28 .add 3 27 1,ro 29 (.h_ false (.t 25) (.t 28)),aQ 3 29] [0,1,2,3] ZZ
def Z0:J:=.seq (ae [af 19 3,bu 20 .lss 3 19 0] [0,1,2,3,20] ZN) IX
def Z1:J:=.seq (ae [af 14 1,ro 15 (.bx .eql 9 (.t 14) (.c (.str [])))] [0,1,2,3,15] ZL) Z0
def Z2:J:=.seq (ae [af 12 3,bu 13 .eql 3 12 0] [0,1,2,3,13] ZJ) Z1
def Z3:J:=ae [jB 8] [0,1,2,3] Z2
theorem Z4:bt ⟨66,[1,2]⟩ (Tryz.f103.body.getD .skip)=some Z3.strip:=by kernel_rfl
def Z5:J:=ae [af 5 0,af 6 1,ro 7 (.call (.f 103) [(.t 5),(.t 6),(.c (.int .i64 0)),(.c (.int .i64 (-1)))]),aQ 4 7] [4] .ret
def Z6:J:=ae [jB 4] [0,1] Z5
theorem Z7:bt ⟨8,[0,1]⟩ (Tryz.f92.body.getD .skip)=some Z6.strip:=by kernel_rfl
def Z8:J:=ae [jB 2,bd 3 false] [2,3] .ret
def Z9:J:=.cond (.t 21) Z8 .skip
def Z_:J:=.ct [af 22 4,af 23 7,xQ 24 72 23,xR 25 72 72 22 24,aQ 4 25] (some [4,9,10,11])
def aaa:J:=.seq (ae [af 20 8,fp 21 20] [4,7,9,10,11,21] Z9) Z_
def aab:J:=ae [af 16 6,dP 17 102 16,af 15 17,iY 18 15 0,iY 19 15 1,aQ 7 18,aQ 8 19] [4,7,8,9,10,11] aaa
def aac:J:=.ct [bu 26 .add 3 11 1,af 11 26] (some [4,9,10,11])
def aad:J:=.seq (.block 1 (ae [dG 13 22 9 11,ba 14 9 13,aQ 6 14] [4,6,9,10,11] aab)) aac
def aae:J:=.seq (.cond (.t 12) .skip (.exit 0)) aad
def IY:J:=ae [b2 12 .lss 3 11 10] [4,9,10,11,12] aae
def aaf:J:=.block 0 (.loop IY)
def aag:J:=ae [af 27 4,aQ 2 27,bd 3 true] [2,3] .ret
def aah:J:=.seq (ae [af 9 0,b4 10 22 9,oa 11 0] [4,9,10,11] aaf) aag
def aai:J:=ae [jB 4] [0,4] aah
def c91:J:=ae [jB 2,bd 3 false] [0] aai
theorem aaj:bt ⟨28,[0]⟩ (Tryz.f91.body.getD .skip)=some c91.strip:=by kernel_rfl
def aak:J:=ae [af 3 0,dP 4 45 3,af 5 4,bj 6 5 (.bg (.t 0)),⟨some 7,.bx .neq 9 (.t 6) (.c (.str [116,97,117])),some (5,true)⟩,ro 8 (.pick (.t 5) (.t 7) (.c (.bool false))),aQ 2 8] [2] .ret
def aal:J:=ae [bd 2 false] [0] aak
theorem aam:bt ⟨9,[0]⟩ (Tryz.f97.body.getD .skip)=some aal.strip:=by kernel_rfl
def aan:J:=ae [af 3 0,ro 4 (.call (.f 44) [(.t 3),(.c (.int .i64 0)),(.c (.int .i64 63))]),aQ 2 4] [2] .ret
def aao:J:=ae [bd 2 false] [0] aan
theorem aap:bt ⟨5,[0]⟩ (Tryz.f118.body.getD .skip)=some aao.strip:=by kernel_rfl
def aaq:J:=ae [af 3 0,dP 4 118 3,fp 5 4,aQ 2 5] [2] .ret
def c117:J:=ae [bd 2 false] [0] aaq
theorem aar:bt ⟨6,[0]⟩ (Tryz.f117.body.getD .skip)=some c117.strip:=by kernel_rfl
def aas:J:=ae [af 17 5,aQ 4 17] [4] .ret
def aat:J:=.cond (.t 16) aas .skip
def aau:J:=ae [af 11 1,af 12 0,af 13 5,dG 14 72 12 13,ba 15 2 14,ro 16 (.call (.t 11) [(.t 15)])] [0,1,5,7,8,16] aat
def aav:J:=.ct [bu 18 .add 3 8 1,af 8 18] (some [0,1,7,8])
def aaw:J:=.seq (.block 1 (ae [af 10 8,aQ 5 10] [0,1,5,7,8] aau)) aav
def aax:J:=.seq (.cond (.t 9) .skip (.exit 0)) aaw
def IZ:J:=ae [b2 9 .lss 3 8 7] [0,1,7,8,9] aax
def aay:J:=.block 0 (.loop IZ)
def aaz:J:=ae [bT 4 (-1)] [4] .ret
def aaA:J:=.seq (ae [af 6 0,b4 7 72 6,oa 8 0] [0,1,7,8] aay) aaz
def c131:J:=ae [bT 4 0] [0,1] aaA
theorem aaB:bt ⟨19,[0,1]⟩ (Tryz.f131.body.getD .skip)=some c131.strip:=by kernel_rfl
def aaC:J:=ae [af 5 0,af 6 1,ed 7 131 5 6,bu 8 .geq 3 7 0,aQ 4 8] [4] .ret
def c116:J:=ae [bd 4 false] [0,1] aaC
theorem aaD:bt ⟨9,[0,1]⟩ (Tryz.f116.body.getD .skip)=some c116.strip:=by kernel_rfl
def aaE:J:=ae [af 3 0,ro 4 (.call (.f 116) [(.t 3),(.f 117)]),fp 5 4,aQ 2 5] [2] .ret
def c105:J:=ae [bd 2 false] [0] aaE
theorem aaF:bt ⟨6,[0]⟩ (Tryz.f105.body.getD .skip)=some c105.strip:=by kernel_rfl
def aaG:J:=ae [af 3 0,ro 4 (.call (.f 127) [(.t 3),(.c (.int .i64 10))]),aQ 2 4] [2] .ret
def aaH:J:=ae [ro 2 (.fk (.c (.str [])))] [0] aaG
theorem aaI:bt ⟨5,[0]⟩ (Tryz.f111.body.getD .skip)=some aaH.strip:=by kernel_rfl
def aaJ:J:=.ct [af 18 5,af 19 6,af 20 7,dP 21 111 20,dG 22 22 18 19,fH 9 22 21] (some [1,5,11,12,13])
def aaK:J:=.ct [bu 23 .add 3 13 1,af 13 23] (some [1,5,11,12,13])
def aaL:J:=.seq (.block 1 (ae [af 15 13,dG 16 72 11 13,ba 17 2 16,aQ 6 15,aQ 7 17] [1,5,6,7,11,12,13] aaJ)) aaK
def aaM:J:=.seq (.cond (.t 14) .skip (.exit 0)) aaL
def I0:J:=ae [b2 14 .lss 3 13 12] [1,5,11,12,13,14] aaM
def aaN:J:=.block 0 (.loop I0)
def aaO:J:=ae [af 24 5,af 25 1,ed 26 119 24 25,aQ 4 26] [4] .ret
def aaP:J:=.seq (ae [af 11 0,b4 12 72 11,oa 13 0] [1,5,11,12,13] aaN) aaO
def aaQ:J:=ae [af 8 0,b4 9 72 8,ro 10 (.dX 22 (.t 9) (.t 9)),aQ 5 10] [0,1,5] aaP
def aaR:J:=ae [ro 4 (.fk (.c (.str [])))] [0,1] aaQ
theorem aaS:bt ⟨27,[0,1]⟩ (Tryz.f106.body.getD .skip)=some aaR.strip:=by kernel_rfl
def aaT:J:=ae [af 9 1,b4 10 72 9,bu 11 .eql 3 10 0,ro 4 (.fk (.c (.str [116,97,117]))),aQ 5 11] [4,5] .ret
def aaU:J:=ae [ro 4 (.fk (.c (.str []))),bd 5 false] [4,5] .ret
def aaV:J:=ae [af 30 0,aQ 4 30,bd 5 true] [4,5] .ret
def aaW:J:=.cond (.t 26) aaV .skip
def aaX:J:=ae [af 27 1,b4 28 72 27,bu 29 .eql 3 28 0,aQ 26 29] [0,1,26] aaW
def aaY:J:=.cond (.t 12) aaU aaX
def aaZ:J:=ae [af 13 0,dP 14 97 13,fp 15 14,af 16 15,aP 17 16 (.bg (.t 1)),aP 18 16 (.len 72 (.t 17)),aP 19 16 (.bx .gtr 3 (.t 18) (.c (.int .i64 2))),ro 20 (.pick (.t 16) (.c (.bool true)) (.t 19)),af 21 20,aP 22 21 (.bg (.t 1)),⟨some 23,.call (.f 105) [(.t 22)],some (21,false)⟩,aP 24 21 (.un .not (.t 23)),ro 25 (.pick (.t 21) (.c (.bool true)) (.t 24)),aQ 12 25] [0,1,12] aaY
def aa0:J:=.cond (.t 6) aaT aaZ
def aa1:J:=ae [af 31 0,ro 32 (.bx .add 9 (.t 31) (.c (.str [40]))),af 33 1,ro 34 (.call (.f 106) [(.t 33),(.c (.str [44]))]),b2 35 .add 9 32 34,ro 36 (.bx .add 9 (.t 35) (.c (.str [41]))),aQ 4 36,bd 5 true] [4,5] .ret
def aa2:J:=.seq (.block 0 (ae [af 7 0,ro 8 (.bx .eql 9 (.t 7) (.c (.str [116,97,117]))),aQ 6 8] [0,1,6] aa0)) aa1
def aa3:J:=ae [ro 4 (.fk (.c (.str []))),bd 5 false] [0,1] aa2
theorem aa4:bt ⟨37,[0,1]⟩ (Tryz.f94.body.getD .skip)=some aa3.strip:=by kernel_rfl
def aa5:J:=ae [ro 2 (.fk (.c (.str []))),jB 3,bd 4 false] [2,3,4] .ret
def aa6:J:=.cond (.t 27) aa5 .skip
def aa7:J:=ae [af 26 9,fp 27 26] [0,5,8,27] aa6
def aa8:J:=ae [af 20 6,ro 21 (.call (.f 93) [(.t 20),(.c (.str [41]))]),ro 22 (.call (.f 92) [(.t 21),(.c (.str [44]))]),dP 23 91 22,af 19 23,iY 24 19 0,iY 25 19 1,aQ 8 24,aQ 9 25] [0,5,8,9] aa7
def aa9:J:=ae [bd 9 false] [0,5,6] aa8
def aa_:J:=.cond (.t 18) aa9 .skip
def aba:J:=ae [ro 2 (.fk (.c (.str []))),jB 3,bd 4 false] [2,3,4] .ret
def abb:J:=.cond (.t 40) aba .skip
def abc:J:=ae [af 34 11,fp 35 34,af 36 35,aP 37 36 (.bg (.t 10)),aP 38 36 (.bg (.t 0)),aP 39 36 (.bx .neq 9 (.t 37) (.t 38)),ro 40 (.pick (.t 36) (.c (.bool true)) (.t 39))] [5,8,40] abb
def abd:J:=ae [af 41 5,af 42 8,aQ 2 41,aQ 3 42,bd 4 true] [2,3,4] .ret
def I1:J:=.seq (ae [af 29 5,af 30 8,ed 31 94 29 30,af 28 31,iY 32 28 0,iY 33 28 1,aQ 10 32,aQ 11 33] [0,5,8,10,11] abc) abd
def abe:J:=.seq (ae [af 18 7] [0,5,6,8,18] aa_) I1
def abf:J:=ae [jB 8] [0,5,6,7,8] abe
def abg:J:=ae [af 13 0,ro 14 (.call (.f 90) [(.t 13),(.c (.str [40]))]),af 12 14,iY 15 12 0,iY 16 12 1,iY 17 12 2,aQ 5 15,aQ 6 16,aQ 7 17] [0,5,6,7] abf
def abh:J:=ae [ro 2 (.fk (.c (.str []))),jB 3,bd 4 false] [0] abg
theorem abj:bt ⟨43,[0]⟩ (Tryz.f79.body.getD .skip)=some abh.strip:=by kernel_rfl
def abk:J:=ae [af 12 5,aQ 2 12] [2] .ret
def abl:J:=ae [af 7 0,dP 8 79 7,af 6 8,iY 9 6 0,iY 10 6 1,iY 11 6 2,aQ 3 9,aQ 4 10,aQ 5 11] [5] abk
def abm:J:=ae [bd 2 false] [0] abl
theorem abn:bt ⟨13,[0]⟩ (Tryz.f67.body.getD .skip)=some abm.strip:=by kernel_rfl
def abo:J:=ae [af 5 0,af 6 1,bu 7 .sub 2 6 1,ro 8 (.call (.f 44) [(.t 5),(.c (.int .i64 0)),(.t 7)]),aQ 4 8] [4] .ret
def abp:J:=ae [bd 4 false] [0,1] abo
theorem abq:bt ⟨9,[0,1]⟩ (Tryz.f48.body.getD .skip)=some abp.strip:=by kernel_rfl
def abr:J:=ae [af 3 0,af 4 0,b2 5 .neq 2 3 4,aQ 2 5] [2] .ret
def abt:J:=ae [bd 2 false] [0] abr
theorem abu:bt ⟨6,[0]⟩ (Tryz.f95.body.getD .skip)=some abt.strip:=by kernel_rfl
def abv:J:=ae [bT 4 0] [4] .ret
def abw:J:=.cond (.t 12) abv .skip
def abx:J:=ae [bT 4 (-1)] [4] .ret
def aby:J:=.seq (ae [af 12 6] [12] abw) abx
def abz:J:=.cond (.t 11) aby .skip
def abA:J:=ae [bT 4 1] [4] .ret
def abB:J:=.cond (.t 13) abA .skip
def abC:J:=ae [bT 4 (-1)] [4] .ret
def abD:J:=.cond (.t 16) abC .skip
def abE:J:=ae [bT 4 1] [4] .ret
def abF:J:=.cond (.t 19) abE .skip
def abG:J:=ae [bT 4 0] [4] .ret
def abH:J:=.seq (ae [af 17 0,af 18 1,b2 19 .gtr 2 17 18] [19] abF) abG
def abI:J:=.seq (ae [af 14 0,af 15 1,b2 16 .lss 2 14 15] [0,1,16] abD) abH
def abJ:J:=.seq (ae [af 13 6] [0,1,13] abB) abI
def abK:J:=.seq (ae [af 11 5] [0,1,6,11] abz) abJ
def abL:J:=ae [af 9 1,dP 10 95 9,aQ 6 10] [0,1,5,6] abK
def abM:J:=ae [af 7 0,dP 8 95 7,aQ 5 8] [0,1,5] abL
def abN:J:=ae [bT 4 0] [0,1] abM
theorem abO:bt ⟨20,[0,1]⟩ (Tryz.f81.body.getD .skip)=some abN.strip:=by kernel_rfl
def abP:J:=ae [af 15 5,aQ 2 15] [2] .ret
def abQ:J:=.cond (.t 14) abP .skip
def abR:J:=ae [af 12 5,af 13 3,b2 14 .neq 3 12 13] [3,5,6,7,8,14] abQ
def abS:J:=.ct [bu 16 .add 3 8 1,af 8 16] (some [3,6,7,8])
def abT:J:=.seq (.block 1 (ae [dG 10 130 6 8,ba 11 3 10,aQ 5 11] [3,5,6,7,8] abR)) abS
def abU:J:=.seq (.cond (.t 9) .skip (.exit 0)) abT
def I2:J:=ae [b2 9 .lss 3 8 7] [3,6,7,8,9] abU
def abV:J:=.block 0 (.loop I2)
def abW:J:=ae [af 17 3,aQ 2 17] [2] .ret
def abX:J:=.seq (ae [af 6 0,b4 7 130 6,oa 8 0] [3,6,7,8] abV) abW
def abY:J:=ae [bT 3 0] [0,3] abX
def c80:J:=ae [bT 2 0] [0] abY
theorem abZ:bt ⟨18,[0]⟩ (Tryz.f80.body.getD .skip)=some c80.strip:=by kernel_rfl
def ab0:J:=iw [bE 5 100 2 0,ba 6 2 5,bE 7 100 3 0,ba 8 2 7,ed 9 81 6 8,bE 10 100 2 1,ba 11 2 10,bE 12 100 3 1,ba 13 2 12,ed 14 81 11 13,bE 15 100 2 2,ba 16 2 15,bE 17 100 3 2,ba 18 2 17,ed 19 81 16 18,ro 20 (.dT 130 3 [(0,(.t 9)),(1,(.t 14)),(2,(.t 19))]),dP 21 80 20,aQ 4 21] [[],[0],[],[2],[1,3],[],[5],[],[7],[6,8,4],[],[10],[],[12],[11,13,9],[4,9,14],[15,14],[16,16,0,1,2,3,4,5,6,7,8,9,10,11,12,13,14,15,16]] [4] .ret
def ab1:J:=ae [ro 2 (.cQ 100 (.t 0)),ro 3 (.cQ 100 (.t 1)),bT 4 0] [2,3] ab0
theorem ab2:bt ⟨22,[0,1]⟩ (Tryz.f68.body.getD .skip)=some ab1.strip:=by kernel_rfl
def ab3:J:=ae [bd 2 false] [2] .ret
def ab4:J:=.cond (.t 30) ab3 .skip
def ab5:J:=ae [bd 2 false] [2] .ret
def ab6:J:=.cond (.t 62) ab5 .skip
def ab7:J:=ae [af 39 4,dP 40 67 39,fp 41 40,af 42 41,aP 43 42 (.bg (.t 4)),⟨some 44,.bx .eql 9 (.t 43) (.c (.str [116,97,117])),some (42,false)⟩,aP 45 42 (.bg (.t 3)),aP 46 42 (.bx .eql 3 (.t 45) (.c (.int .i64 0))),aP 47 42 (.bx .neq 4 (.t 44) (.t 46)),ro 48 (.pick (.t 42) (.c (.bool true)) (.t 47)),af 49 48,aP 50 49 (.bg (.t 3)),aP 51 49 (.bx .gtr 3 (.t 50) (.c (.int .i64 1))),aP 52 49 (.bg (.t 51)),bj 53 52 (.bg (.t 4)),bj 54 52 (.cH 82 (.t 1) 2),bj 55 52 (.bY 22 (.t 54)),bj 56 52 (.bg (.t 3)),bj 57 52 (.bx .sub 3 (.t 56) (.c (.int .i64 1))),bj 58 52 (.dO 22 (.t 55) (.t 57)),bj 59 52 (.bY 9 (.t 58)),bj 60 52 (.bx .leq 9 (.t 53) (.t 59)),aP 61 49 (.pick (.t 52) (.t 60) (.c (.bool false))),ro 62 (.pick (.t 49) (.c (.bool true)) (.t 61))] [1,32,33,34,62] ab6
def ab8:J:=.ct [bu 63 .add 3 34 1,af 34 63] (some [1,32,33,34])
def ab9:J:=.seq (.block 1 (ae [af 36 34,dG 37 22 32 34,ba 38 9 37,aQ 3 36,aQ 4 38] [1,3,4,32,33,34] ab7)) ab8
def ab_:J:=.seq (.cond (.t 35) .skip (.exit 0)) ab9
def I3:J:=ae [b2 35 .lss 3 34 33] [1,32,33,34,35] ab_
def aca:J:=.block 0 (.loop I3)
def acb:J:=ae [bd 2 false] [2] .ret
def acd:J:=.cond (.t 107) acb .skip
def ace:J:=iw [ba 72 82 1,bE 73 100 6 0,ba 74 2 73,ed 75 66 72 74,fp 76 75,af 77 76,aP 78 77 (.bY 82 (.t 1)),aP 79 77 (.cH 100 (.t 6) 2),aP 80 77 (.bY 2 (.t 79)),⟨some 81,.call (.f 66) [(.t 78),(.t 80)],some (77,false)⟩,aP 82 77 (.un .not (.t 81)),ro 83 (.pick (.t 77) (.c (.bool true)) (.t 82)),af 84 83,aP 85 84 (.cH 100 (.t 6) 1),aP 86 84 (.bY 2 (.t 85)),aP 87 84 (.cH 82 (.t 1) 2),aP 88 84 (.bY 22 (.t 87)),aP 89 84 (.len 22 (.t 88)),⟨some 90,.call (.f 48) [(.t 86),(.t 89)],some (84,false)⟩,aP 91 84 (.un .not (.t 90)),ro 92 (.pick (.t 84) (.c (.bool true)) (.t 91)),af 93 92,aP 94 93 (.bg (.t 5)),aP 95 93 (.bx .gtr 3 (.t 94) (.c (.int .i64 0))),aP 96 93 (.bg (.t 95)),bj 97 96 (.cH 82 (.t 1) 3),bj 98 96 (.bY 80 (.t 97)),bj 99 96 (.bg (.t 5)),bj 100 96 (.bx .sub 3 (.t 99) (.c (.int .i64 1))),bj 101 96 (.dO 80 (.t 98) (.t 100)),bj 102 96 (.bY 100 (.t 101)),bj 103 96 (.bY 100 (.t 6)),⟨some 104,.call (.f 68) [(.t 102),(.t 103)],some (96,true)⟩,bj 105 96 (.bx .geq 3 (.t 104) (.c (.int .i64 0))),aP 106 93 (.pick (.t 96) (.t 105) (.c (.bool false))),ro 107 (.pick (.t 93) (.c (.bool true)) (.t 106))] [[],[],[1],[0,2],[3],[4,3],[5],[5],[7,5],[6,8,5,5],[9,5],[5,10],[11,9],[12],[13,12],[12],[15,12],[16,12],[14,17,12,12],[18,12],[12,19],[20,18],[21],[22,21],[23,21,21],[24],[25,24],[24],[27,24],[26,28,24],[29,24],[24],[30,31,24,24],[32,24],[24,33,21],[21,34]] [1,65,66,67,107] acd
def acf:J:=.ct [bu 108 .add 3 67 1,af 67 108] (some [1,65,66,67])
def acg:J:=.seq (.block 3 (ae [af 69 67,dG 70 80 65 67,ba 71 100 70,ln 6 100,aQ 5 69,fH 100 6 71] [1,5,6,65,66,67] ace)) acf
def ach:J:=.seq (.cond (.t 68) .skip (.exit 2)) acg
def I4:J:=ae [b2 68 .lss 3 67 66] [1,65,66,67,68] ach
def aci:J:=.block 2 (.loop I4)
def acj:J:=ae [bd 2 true] [2] .ret
def ack:J:=.seq (ae [bE 64 82 1 3,ba 65 80 64,b4 66 80 65,oa 67 0] [1,65,66,67] aci) acj
def acm:J:=.seq (ae [bE 31 82 1 2,ba 32 22 31,b4 33 22 32,oa 34 0] [1,32,33,34] aca) ack
def acn:J:=.seq (ae [bE 7 82 1 0,ba 8 2 7,ro 9 (.call (.f 44) [(.t 8),(.c (.int .i64 1)),(.c (.int .i64 40))]),fp 10 9,af 11 10,aP 12 11 (.bY 82 (.t 1)),aP 13 11 (.cH 82 (.t 1) 1),aP 14 11 (.bY 2 (.t 13)),⟨some 15,.call (.f 66) [(.t 12),(.t 14)],some (11,false)⟩,aP 16 11 (.un .not (.t 15)),ro 17 (.pick (.t 11) (.c (.bool true)) (.t 16)),af 18 17,aP 19 18 (.cH 82 (.t 1) 2),aP 20 18 (.bY 22 (.t 19)),aP 21 18 (.len 22 (.t 20)),⟨some 22,.call (.f 44) [(.t 21),(.c (.int .i64 1)),(.c (.int .i64 12))],some (18,false)⟩,aP 23 18 (.un .not (.t 22)),ro 24 (.pick (.t 18) (.c (.bool true)) (.t 23)),af 25 24,aP 26 25 (.cH 82 (.t 1) 3),aP 27 25 (.bY 80 (.t 26)),aP 28 25 (.len 80 (.t 27)),aP 29 25 (.bx .gtr 3 (.t 28) (.c (.int .i64 300))),ro 30 (.pick (.t 25) (.c (.bool true)) (.t 29))] [1,30] ab4) acm
def aco:J:=ae [ro 1 (.cQ 82 (.t 0)),bd 2 false] [1] acn
theorem acp:bt ⟨109,[0]⟩ (Tryz.f47.body.getD .skip)=some aco.strip:=by kernel_rfl
def acq:J:=ae [bd 2 false] [2] .ret
def acr:J:=.cond (.t 18) acq .skip
def acs:J:=ae [bd 2 false] [2] .ret
def acu:J:=.cond (.t 46) acs .skip
def acv:J:=ae [af 27 4,dP 28 45 27,fp 29 28,af 30 29,aP 31 30 (.cH 37 (.t 1) 0),aP 32 30 (.bY 22 (.t 31)),aP 33 30 (.bg (.t 3)),aP 34 30 (.dh 22 (.t 32) none (some (.t 33))),aP 35 30 (.bg (.t 4)),⟨some 36,.call (.f 46) [(.t 34),(.t 35)],some (30,false)⟩,ro 37 (.pick (.t 30) (.c (.bool true)) (.t 36)),af 38 37,aP 39 38 (.cH 37 (.t 1) 1),aP 40 38 (.bY 34 (.t 39)),aP 41 38 (.bg (.t 3)),aP 42 38 (.dO 34 (.t 40) (.t 41)),aP 43 38 (.bY 82 (.t 42)),⟨some 44,.call (.f 47) [(.t 43)],some (38,false)⟩,aP 45 38 (.un .not (.t 44)),ro 46 (.pick (.t 38) (.c (.bool true)) (.t 45))] [1,20,21,22,46] acu
def acw:J:=.ct [bu 47 .add 3 22 1,af 22 47] (some [1,20,21,22])
def acx:J:=.seq (.block 1 (ae [af 24 22,dG 25 22 20 22,ba 26 9 25,aQ 3 24,aQ 4 26] [1,3,4,20,21,22] acv)) acw
def acy:J:=.seq (.cond (.t 23) .skip (.exit 0)) acx
def I5:J:=ae [b2 23 .lss 3 22 21] [1,20,21,22,23] acy
def acz:J:=.block 0 (.loop I5)
def acA:J:=ae [bd 2 true] [2] .ret
def acB:J:=.seq (ae [bE 19 37 1 0,ba 20 22 19,b4 21 22 20,oa 22 0] [1,20,21,22] acz) acA
def acC:J:=.seq (ae [bE 5 37 1 0,ba 6 22 5,b4 7 22 6,ro 8 (.call (.f 44) [(.t 7),(.c (.int .i64 1)),(.c (.int .i64 6))]),fp 9 8,af 10 9,aP 11 10 (.cH 37 (.t 1) 1),aP 12 10 (.bY 34 (.t 11)),aP 13 10 (.len 34 (.t 12)),aP 14 10 (.cH 37 (.t 1) 0),aP 15 10 (.bY 22 (.t 14)),aP 16 10 (.len 22 (.t 15)),aP 17 10 (.bx .neq 3 (.t 13) (.t 16)),ro 18 (.pick (.t 10) (.c (.bool true)) (.t 17))] [1,18] acr) acB
def c24:J:=ae [ro 1 (.cQ 37 (.t 0)),bd 2 false] [1] acC
theorem acD:bt ⟨48,[0]⟩ (Tryz.f24.body.getD .skip)=some c24.strip:=by kernel_rfl
def acE:J:=ae [bE 3 41 1 0,ba 4 2 3,bu 5 .leq 2 4 3,aQ 2 5] [2] .ret
def c49:J:=ae [ro 1 (.cQ 41 (.t 0)),bd 2 false] [1] acE
theorem acF:bt ⟨6,[0]⟩ (Tryz.f49.body.getD .skip)=some c49.strip:=by kernel_rfl
def acG:J:=ae [bE 3 41 1 0,ba 4 2 3,ro 5 (.call (.f 44) [(.t 4),(.c (.int .i64 3)),(.c (.int .i64 5))]),aQ 2 5] [2] .ret
def acH:J:=ae [ro 1 (.cQ 41 (.t 0)),bd 2 false] [1] acG
theorem acI:bt ⟨6,[0]⟩ (Tryz.f50.body.getD .skip)=some acH.strip:=by kernel_rfl
def acJ:J:=.ct [bu 7 .eql 2 4 3,aQ 5 7] (some [4,5])
def acK:J:=.cond (.t 5) .skip acJ
def acL:J:=ae [bT 2 2] [2] .ret
def acM:J:=.ct [bu 12 .eql 2 4 8,aQ 8 12] (some [8])
def acN:J:=.cond (.t 8) .skip acM
def acO:J:=ae [bu 11 .eql 2 4 7,aQ 8 11] [4,8] acN
def acP:J:=.cond (.t 8) .skip acO
def acQ:J:=ae [bu 10 .eql 2 4 5,aQ 8 10] [4,8] acP
def acR:J:=.cond (.t 8) .skip acQ
def acS:J:=ae [bT 2 1] [2] .ret
def I6:J:=.cond (.t 8) acS .skip
def acT:J:=.seq (ae [bu 9 .eql 2 4 4,aQ 8 9] [4,8] acR) I6
def I7:J:=.cond (.t 5) acL acT
def acU:J:=.block 0 (.seq (ae [bu 6 .eql 2 4 2,aQ 5 6] [4,5] acK) I7)
def acV:J:=ae [bT 2 0] [2] .ret
def acW:J:=.seq (ae [bE 3 88 1 0,ba 4 2 3] [4] acU) acV
def acX:J:=ae [ro 1 (.cQ 88 (.t 0)),bT 2 0] [1] acW
theorem acY:bt ⟨13,[0]⟩ (Tryz.f82.body.getD .skip)=some acX.strip:=by kernel_rfl
def acZ:J:=ae [bd 2 false] [2] .ret
def ac0:J:=.cond (.t 13) acZ .skip
def ac1:J:=.ct [af 14 3,ba 15 88 5,dP 16 82 15,bu 17 .sub 3 16 1,b2 18 .add 3 14 17,aQ 3 18] (some [3,6,7,8])
def ac2:J:=.seq (ae [af 12 3,bu 13 .eql 3 12 0] [3,5,6,7,8,13] ac0) ac1
def ac3:J:=.ct [bu 19 .add 3 8 1,af 8 19] (some [3,6,7,8])
def ac4:J:=.seq (.block 1 (ae [dG 10 39 6 8,ba 11 88 10,ln 5 88,fH 88 5 11] [3,5,6,7,8] ac2)) ac3
def ac5:J:=.seq (.cond (.t 9) .skip (.exit 0)) ac4
def I8:J:=ae [b2 9 .lss 3 8 7] [3,6,7,8,9] ac5
def ac6:J:=.block 0 (.loop I8)
def ac7:J:=ae [af 20 3,bu 21 .eql 3 20 0,aQ 2 21] [2] .ret
def ac8:J:=.seq (ae [af 6 0,b4 7 39 6,oa 8 0] [3,6,7,8] ac6) ac7
def ac9:J:=ae [bT 3 1] [0,3] ac8
def ac_:J:=ae [bd 2 false] [0] ac9
theorem ada:bt ⟨22,[0]⟩ (Tryz.f69.body.getD .skip)=some ac_.strip:=by kernel_rfl
def adb:J:=ae [bE 3 88 1 0,ba 4 2 3,bu 5 .eql 2 4 4,af 6 5,aP 7 6 (.cH 88 (.t 1) 0),aP 8 6 (.bY 2 (.t 7)),aP 9 6 (.bx .eql 2 (.t 8) (.c (.int .i64 5))),ro 10 (.pick (.t 6) (.c (.bool true)) (.t 9)),aQ 2 10] [2] .ret
def ade:J:=ae [ro 1 (.cQ 88 (.t 0)),bd 2 false] [1] adb
theorem adf:bt ⟨11,[0]⟩ (Tryz.f83.body.getD .skip)=some ade.strip:=by kernel_rfl
def adg:J:=ae [af 10 0,aQ 4 10,bd 5 false] [4,5] .ret
def adh:J:=.cond (.t 9) adg .skip
def adi:J:=ae [af 11 0,af 12 0,b4 13 9 12,af 14 1,b4 15 9 14,b2 16 .sub 3 13 15,ro 17 (.dh 9 (.t 11) none (some (.t 16))),aQ 4 17,bd 5 true] [4,5] .ret
def adj:J:=.seq (ae [af 6 0,af 7 1,ed 8 115 6 7,fp 9 8] [0,1,9] adh) adi
def c107:J:=ae [ro 4 (.fk (.c (.str []))),bd 5 false] [0,1] adj
theorem adk:bt ⟨18,[0,1]⟩ (Tryz.f107.body.getD .skip)=some c107.strip:=by kernel_rfl
def adl:J:=ae [af 6 0,af 7 1,ed 8 107 6 7,iY 9 8 0,iY 10 8 1,aQ 4 9,aQ 5 10] [4,5] .ret
def adm:J:=ae [ro 4 (.fk (.c (.str []))),bd 5 false] [0,1] adl
theorem adn:bt ⟨11,[0,1]⟩ (Tryz.f96.body.getD .skip)=some adm.strip:=by kernel_rfl
def ado:J:=ae [af 10 0,ro 11 (.bx .eql 9 (.t 10) (.c (.str []))),af 12 11,aP 13 12 (.bg (.t 0)),⟨some 14,.call (.f 67) [(.t 13)],some (12,false)⟩,ro 15 (.pick (.t 12) (.c (.bool true)) (.t 14)),af 16 15,aP 17 16 (.bg (.t 4)),aP 18 16 (.bg (.t 17)),bj 19 18 (.bg (.t 3)),⟨some 20,.call (.f 97) [(.t 19)],some (18,true)⟩,aP 21 16 (.pick (.t 18) (.t 20) (.c (.bool false))),ro 22 (.pick (.t 16) (.c (.bool true)) (.t 21)),aQ 2 22] [2] .ret
def adp:J:=ae [af 6 0,ro 7 (.call (.f 96) [(.t 6),(.c (.str [42]))]),af 5 7,iY 8 5 0,iY 9 5 1,aQ 3 8,aQ 4 9] [0,3,4] ado
def adq:J:=ae [bd 2 false] [0] adp
theorem adr:bt ⟨23,[0]⟩ (Tryz.f84.body.getD .skip)=some adq.strip:=by kernel_rfl
def ads:J:=ae [bE 5 88 1 2,ba 6 9 5,dP 7 84 6,aQ 2 7] [2] .ret
def adt:J:=.cond (.t 4) ads .skip
def adu:J:=ae [bE 8 88 1 2,ba 9 9 8,ro 10 (.bx .eql 9 (.t 9) (.c (.str []))),af 11 10,bj 12 11 (.cH 88 (.t 1) 3),bj 13 11 (.bY 4 (.t 12)),bj 14 11 (.un .not (.t 13)),ro 15 (.pick (.t 11) (.t 14) (.c (.bool false))),aQ 2 15] [2] .ret
def adv:J:=.seq (ae [ba 3 88 1,dP 4 83 3] [1,4] adt) adu
def c70:J:=ae [ro 1 (.cQ 88 (.t 0)),bd 2 false] [1] adv
theorem adw:bt ⟨16,[0]⟩ (Tryz.f70.body.getD .skip)=some c70.strip:=by kernel_rfl
def adx:J:=ae [bE 3 88 1 0,ba 4 2 3,bu 5 .eql 2 4 7,af 6 5,aP 7 6 (.cH 88 (.t 1) 0),aP 8 6 (.bY 2 (.t 7)),aP 9 6 (.bx .eql 2 (.t 8) (.c (.int .i64 8))),ro 10 (.pick (.t 6) (.c (.bool true)) (.t 9)),aQ 2 10] [2] .ret
def c85:J:=ae [ro 1 (.cQ 88 (.t 0)),bd 2 false] [1] adx
theorem ady:bt ⟨11,[0]⟩ (Tryz.f85.body.getD .skip)=some c85.strip:=by kernel_rfl
def adz:J:=ae [bE 10 88 1 1,ba 11 2 10,ro 12 (.call (.f 44) [(.t 11),(.c (.int .i64 0)),(.c (.int .i64 2))]),aQ 2 12] [2] .ret
def adA:J:=.cond (.t 9) adz .skip
def adB:J:=ae [bE 13 88 1 1,ba 14 2 13,bu 15 .eql 2 14 0,aQ 2 15] [2] .ret
def adC:J:=.seq (ae [ba 3 88 1,dP 4 85 3,af 5 4,aP 6 5 (.cH 88 (.t 1) 0),aP 7 5 (.bY 2 (.t 6)),aP 8 5 (.bx .eql 2 (.t 7) (.c (.int .i64 6))),ro 9 (.pick (.t 5) (.c (.bool true)) (.t 8))] [1,9] adA) adB
def adD:J:=ae [ro 1 (.cQ 88 (.t 0)),bd 2 false] [1] adC
theorem adE:bt ⟨16,[0]⟩ (Tryz.f71.body.getD .skip)=some adD.strip:=by kernel_rfl
def adF:J:=.cond (.t 7) .skip (.exit 0)
def adG:J:=.ct [af 8 1,bu 9 .add 3 8 1,aQ 1 9] (some [0,1,5])
def adH:J:=.seq (.block 1 (.ct [af 10 5,af 11 0,af 12 1,dG 13 39 11 12,ba 14 88 13,dP 15 82 14,bu 16 .sub 3 15 1,b2 17 .add 3 10 16,aQ 5 17] (some [0,1,5]))) adG
def I9:J:=.seq (ae [af 6 5,bu 7 .gtr 3 6 0] [0,1,5,7] adF) adH
def adI:J:=.block 0 (.loop I9)
def adJ:J:=ae [af 18 1,aQ 4 18] [4] .ret
def adK:J:=.seq (ae [bT 5 1] [0,1,5] adI) adJ
def adL:J:=ae [bT 4 0] [0,1] adK
theorem adM:bt ⟨19,[0]⟩ (Tryz.f86.body.getD .skip)=some adL.strip:=by kernel_rfl
def adN:J:=.cond (.t 9) .skip (.exit 0)
def adO:J:=ae [af 37 5,aQ 4 37] [4] .ret
def adP:J:=.cond (.t 36) adO .skip
def adQ:J:=.ct [af 10 5,bu 11 .sub 3 10 1,aQ 5 11] (some [0,1,5])
def adR:J:=.seq (.block 1 (iw [af 12 0,af 13 5,dG 14 39 12 13,ba 15 88 14,dP 16 85 15,af 17 16,bj 18 17 (.bg (.t 0)),bj 19 17 (.bg (.t 5)),bj 20 17 (.dO 39 (.t 18) (.t 19)),bj 21 17 (.cH 88 (.t 20) 1),bj 22 17 (.bY 2 (.t 21)),bj 23 17 (.bg (.t 0)),bj 24 17 (.bg (.t 1)),bj 25 17 (.dO 39 (.t 23) (.t 24)),bj 26 17 (.cH 88 (.t 25) 1),bj 27 17 (.bY 2 (.t 26)),bj 28 17 (.bx .eql 2 (.t 22) (.t 27)),ro 29 (.pick (.t 17) (.t 28) (.c (.bool false))),af 30 29,bj 31 30 (.bg (.t 1)),bj 32 30 (.bg (.t 0)),bj 33 30 (.bg (.t 5)),⟨some 34,.call (.f 86) [(.t 32),(.t 33)],some (30,true)⟩,bj 35 30 (.bx .lss 3 (.t 31) (.t 34)),ro 36 (.pick (.t 30) (.t 35) (.c (.bool false)))] [[],[],[0,1],[2],[3],[4,4],[5],[5],[6,7,5],[8,5],[9,5],[5],[5],[11,12,5],[13,5],[14,5],[10,15,5],[5,16],[17,5],[18],[18],[18],[20,21,18,18],[19,22,18],[18,23]] [0,1,5,36] adP)) adQ
def I_:J:=.seq (ae [af 8 5,bu 9 .geq 3 8 0] [0,1,5,9] adN) adR
def adS:J:=.block 0 (.loop I_)
def adT:J:=ae [bT 4 (-1)] [4] .ret
def adU:J:=.seq (ae [af 6 1,bu 7 .sub 3 6 1,aQ 5 7] [0,1,5] adS) adT
def c72:J:=ae [bT 4 0] [0,1] adU
theorem adV:bt ⟨38,[0,1]⟩ (Tryz.f72.body.getD .skip)=some c72.strip:=by kernel_rfl
def adW:J:=ae [bd 2 false] [2] .ret
def adX:J:=.cond (.t 13) adW .skip
def adY:J:=ae [bd 2 false] [2] .ret
def adZ:J:=.cond (.t 45) adY .skip
def ad0:J:=ae [bE 21 88 4 0,ba 22 2 21,ro 23 (.call (.f 44) [(.t 22),(.c (.int .i64 0)),(.c (.int .i64 8))]),fp 24 23,af 25 24,aP 26 25 (.bY 88 (.t 4)),⟨some 27,.call (.f 70) [(.t 26)],some (25,false)⟩,aP 28 25 (.un .not (.t 27)),ro 29 (.pick (.t 25) (.c (.bool true)) (.t 28)),af 30 29,aP 31 30 (.bY 88 (.t 4)),⟨some 32,.call (.f 71) [(.t 31)],some (30,false)⟩,aP 33 30 (.un .not (.t 32)),ro 34 (.pick (.t 30) (.c (.bool true)) (.t 33)),af 35 34,aP 36 35 (.cH 88 (.t 4) 0),aP 37 35 (.bY 2 (.t 36)),aP 38 35 (.bx .eql 2 (.t 37) (.c (.int .i64 6))),aP 39 35 (.bg (.t 38)),bj 40 39 (.bg (.t 0)),bj 41 39 (.bg (.t 3)),⟨some 42,.call (.f 72) [(.t 40),(.t 41)],some (39,true)⟩,bj 43 39 (.bx .lss 3 (.t 42) (.c (.int .i64 0))),aP 44 35 (.pick (.t 39) (.t 43) (.c (.bool false))),ro 45 (.pick (.t 35) (.c (.bool true)) (.t 44))] [0,14,15,16,45] adZ
def ad1:J:=.ct [bu 46 .add 3 16 1,af 16 46] (some [0,14,15,16])
def ad2:J:=.seq (.block 1 (ae [af 18 16,dG 19 39 14 16,ba 20 88 19,ln 4 88,aQ 3 18,fH 88 4 20] [0,3,4,14,15,16] ad0)) ad1
def ad3:J:=.seq (.cond (.t 17) .skip (.exit 0)) ad2
def Ja:J:=ae [b2 17 .lss 3 16 15] [0,14,15,16,17] ad3
def ad4:J:=.block 0 (.loop Ja)
def ad5:J:=ae [bd 2 true] [2] .ret
def ad6:J:=.seq (ae [af 14 0,b4 15 39 14,oa 16 0] [0,14,15,16] ad4) ad5
def ad7:J:=.seq (ae [af 5 0,b4 6 39 5,ro 7 (.call (.f 44) [(.t 6),(.c (.int .i64 1)),(.c (.int .i64 30))]),fp 8 7,af 9 8,aP 10 9 (.bg (.t 0)),⟨some 11,.call (.f 69) [(.t 10)],some (9,false)⟩,aP 12 9 (.un .not (.t 11)),ro 13 (.pick (.t 9) (.c (.bool true)) (.t 12))] [0,13] adX) ad6
def c51:J:=ae [bd 2 false] [0] ad7
theorem ad8:bt ⟨47,[0]⟩ (Tryz.f51.body.getD .skip)=some c51.strip:=by kernel_rfl
def ad9:J:=ae [bd 4 false] [4] .ret
def ad_:J:=.cond (.t 36) ad9 .skip
def aea:J:=ae [bE 39 41 3 4,ba 40 39 39,dP 41 51 40,aQ 4 41] [4] .ret
def aeb:J:=.cond (.t 38) aea .skip
def aec:J:=ae [bE 42 41 3 4,ba 43 39 42,b4 44 39 43,bu 45 .eql 3 44 0,aQ 4 45] [4] .ret
def aed:J:=.seq (ae [ba 37 41 3,dP 38 50 37] [3,38] aeb) aec
def aee:J:=.seq (ae [bE 9 41 3 0,ba 10 2 9,ro 11 (.call (.f 44) [(.t 10),(.c (.int .i64 0)),(.c (.int .i64 7))]),fp 12 11,af 13 12,aP 14 13 (.cH 41 (.t 3) 1),aP 15 13 (.bY 2 (.t 14)),aP 16 13 (.bg (.t 5)),⟨some 17,.call (.f 48) [(.t 15),(.t 16)],some (13,false)⟩,aP 18 13 (.un .not (.t 17)),ro 19 (.pick (.t 13) (.c (.bool true)) (.t 18)),af 20 19,aP 21 20 (.cH 41 (.t 3) 2),aP 22 20 (.bY 2 (.t 21)),aP 23 20 (.bg (.t 5)),⟨some 24,.call (.f 48) [(.t 22),(.t 23)],some (20,false)⟩,aP 25 20 (.un .not (.t 24)),ro 26 (.pick (.t 20) (.c (.bool true)) (.t 25)),af 27 26,aP 28 27 (.bY 41 (.t 3)),⟨some 29,.call (.f 49) [(.t 28)],some (27,false)⟩,aP 30 27 (.un .not (.t 29)),aP 31 27 (.bg (.t 30)),bj 32 31 (.cH 41 (.t 3) 2),bj 33 31 (.bY 2 (.t 32)),bj 34 31 (.bx .neq 2 (.t 33) (.c (.int .i64 0))),aP 35 27 (.pick (.t 31) (.t 34) (.c (.bool false))),ro 36 (.pick (.t 27) (.c (.bool true)) (.t 35))] [3,36] ad_) aed
def aef:J:=ae [bE 6 37 2 1,ba 7 34 6,b4 8 34 7,aQ 5 8] [3,5] aee
def aeg:J:=ae [ro 2 (.cQ 37 (.t 0)),ro 3 (.cQ 41 (.t 1)),bd 4 false] [2,3] aef
theorem rS:bt ⟨46,[0,1]⟩ (Tryz.f25.body.getD .skip)=some aeg.strip:=by kernel_rfl
def aeh:J:=ae [ba 5 37 2,dP 6 24 5,af 7 6,bj 8 7 (.bY 37 (.t 2)),bj 9 7 (.bY 41 (.t 3)),⟨some 10,.call (.f 25) [(.t 8),(.t 9)],some (7,true)⟩,ro 11 (.pick (.t 7) (.t 10) (.c (.bool false))),aQ 4 11] [4] .ret
def c9:J:=ae [ro 2 (.cQ 37 (.t 0)),ro 3 (.cQ 41 (.t 1)),bd 4 false] [2,3] aeh
theorem rT:bt ⟨12,[0,1]⟩ (Tryz.f9.body.getD .skip)=some c9.strip:=by kernel_rfl
def aei:J:=ae [bd 4 false] [4] .ret
def aej:J:=.cond (.t 10) aei .skip
def aek:J:=.cond (.t 14) .skip (.exit 0)
def ael:J:=ae [bd 4 false] [4] .ret
def aem:J:=.cond (.t 25) ael .skip
def aen:J:=.ct [af 15 5,bu 16 .add 3 15 1,aQ 5 16] (some [0,1,5])
def aeo:J:=.seq (.block 1 (iw [af 17 0,af 18 5,dG 19 22 17 18,ba 20 9 19,af 21 1,af 22 5,dG 23 22 21 22,ba 24 9 23,b2 25 .neq 9 20 24] [[],[],[0,1],[2],[],[],[4,5],[6],[3,7]] [0,1,5,25] aem)) aen
def Jb:J:=.seq (ae [af 11 5,af 12 0,b4 13 22 12,b2 14 .lss 3 11 13] [0,1,5,14] aek) aeo
def aep:J:=.block 0 (.loop Jb)
def aeq:J:=ae [bd 4 true] [4] .ret
def aer:J:=.seq (ae [bT 5 0] [0,1,5] aep) aeq
def aes:J:=.seq (ae [af 6 0,b4 7 22 6,af 8 1,b4 9 22 8,b2 10 .neq 3 7 9] [0,1,10] aej) aer
def aet:J:=ae [bd 4 false] [0,1] aes
theorem aeu:bt ⟨26,[0,1]⟩ (Tryz.f26.body.getD .skip)=some aet.strip:=by kernel_rfl
def aev:J:=ae [bd 4 false] [4] .ret
def aew:J:=.cond (.t 9) aev .skip
def aex:J:=ae [bd 4 false] [4] .ret
def aey:J:=.cond (.t 14) aex .skip
def aez:J:=ae [bd 4 false] [4] .ret
def aeA:J:=.cond (.t 19) aez .skip
def aeB:J:=ae [bd 4 true] [4] .ret
def aeC:J:=.seq (ae [bE 15 100 2 2,ba 16 2 15,bE 17 100 3 2,ba 18 2 17,b2 19 .neq 2 16 18] [19] aeA) aeB
def aeD:J:=.seq (ae [bE 10 100 2 1,ba 11 2 10,bE 12 100 3 1,ba 13 2 12,b2 14 .neq 2 11 13] [2,3,14] aey) aeC
def aeE:J:=.seq (ae [bE 5 100 2 0,ba 6 2 5,bE 7 100 3 0,ba 8 2 7,b2 9 .neq 2 6 8] [2,3,9] aew) aeD
def c87:J:=ae [ro 2 (.cQ 100 (.t 0)),ro 3 (.cQ 100 (.t 1)),bd 4 false] [2,3] aeE
theorem aeF:bt ⟨20,[0,1]⟩ (Tryz.f87.body.getD .skip)=some c87.strip:=by kernel_rfl
def aeG:J:=ae [bd 4 false] [4] .ret
def aeH:J:=.cond (.t 10) aeG .skip
def aeI:J:=.cond (.t 14) .skip (.exit 0)
def aeJ:J:=ae [bd 4 false] [4] .ret
def aeK:J:=.cond (.t 26) aeJ .skip
def aeL:J:=.ct [af 15 5,bu 16 .add 3 15 1,aQ 5 16] (some [0,1,5])
def aeM:J:=.seq (.block 1 (iw [af 17 0,af 18 5,dG 19 80 17 18,ba 20 100 19,af 21 1,af 22 5,dG 23 80 21 22,ba 24 100 23,ed 25 87 20 24,fp 26 25] [[],[],[0,1],[2],[],[],[4,5],[6],[3,7],[8]] [0,1,5,26] aeK)) aeL
def Jc:J:=.seq (ae [af 11 5,af 12 0,b4 13 80 12,b2 14 .lss 3 11 13] [0,1,5,14] aeI) aeM
def aeN:J:=.block 0 (.loop Jc)
def aeO:J:=ae [bd 4 true] [4] .ret
def aeP:J:=.seq (ae [bT 5 0] [0,1,5] aeN) aeO
def aeQ:J:=.seq (ae [af 6 0,b4 7 80 6,af 8 1,b4 9 80 8,b2 10 .neq 3 7 9] [0,1,10] aeH) aeP
def aeR:J:=ae [bd 4 false] [0,1] aeQ
theorem aeS:bt ⟨27,[0,1]⟩ (Tryz.f73.body.getD .skip)=some aeR.strip:=by kernel_rfl
def aeT:J:=ae [bd 4 false] [4] .ret
def aeU:J:=.cond (.t 9) aeT .skip
def aeV:J:=ae [bd 4 false] [4] .ret
def aeW:J:=.cond (.t 14) aeV .skip
def aeX:J:=ae [bd 4 false] [4] .ret
def aeY:J:=.cond (.t 20) aeX .skip
def aeZ:J:=ae [bd 4 false] [4] .ret
def ae0:J:=.cond (.t 26) aeZ .skip
def ae1:J:=ae [bd 4 true] [4] .ret
def ae2:J:=.seq (ae [bE 21 82 2 3,ba 22 80 21,bE 23 82 3 3,ba 24 80 23,ed 25 73 22 24,fp 26 25] [26] ae0) ae1
def ae3:J:=.seq (ae [bE 15 82 2 2,ba 16 22 15,bE 17 82 3 2,ba 18 22 17,ed 19 26 16 18,fp 20 19] [2,3,20] aeY) ae2
def ae4:J:=.seq (ae [bE 10 82 2 1,ba 11 2 10,bE 12 82 3 1,ba 13 2 12,b2 14 .neq 2 11 13] [2,3,14] aeW) ae3
def ae5:J:=.seq (ae [bE 5 82 2 0,ba 6 2 5,bE 7 82 3 0,ba 8 2 7,b2 9 .neq 2 6 8] [2,3,9] aeU) ae4
def ae6:J:=ae [ro 2 (.cQ 82 (.t 0)),ro 3 (.cQ 82 (.t 1)),bd 4 false] [2,3] ae5
theorem ae7:bt ⟨27,[0,1]⟩ (Tryz.f52.body.getD .skip)=some ae6.strip:=by kernel_rfl
def ae8:J:=ae [bd 4 false] [4] .ret
def ae9:J:=.cond (.t 10) ae8 .skip
def ae_:J:=.cond (.t 14) .skip (.exit 0)
def afa:J:=ae [bd 4 false] [4] .ret
def afb:J:=.cond (.t 26) afa .skip
def afc:J:=.ct [af 15 5,bu 16 .add 3 15 1,aQ 5 16] (some [0,1,5])
def afd:J:=.seq (.block 1 (iw [af 17 0,af 18 5,dG 19 34 17 18,ba 20 82 19,af 21 1,af 22 5,dG 23 34 21 22,ba 24 82 23,ed 25 52 20 24,fp 26 25] [[],[],[0,1],[2],[],[],[4,5],[6],[3,7],[8]] [0,1,5,26] afb)) afc
def Jd:J:=.seq (ae [af 11 5,af 12 0,b4 13 34 12,b2 14 .lss 3 11 13] [0,1,5,14] ae_) afd
def afe:J:=.block 0 (.loop Jd)
def aff:J:=ae [bd 4 true] [4] .ret
def afg:J:=.seq (ae [bT 5 0] [0,1,5] afe) aff
def afh:J:=.seq (ae [af 6 0,b4 7 34 6,af 8 1,b4 9 34 8,b2 10 .neq 3 7 9] [0,1,10] ae9) afg
def afi:J:=ae [bd 4 false] [0,1] afh
theorem afj:bt ⟨27,[0,1]⟩ (Tryz.f27.body.getD .skip)=some afi.strip:=by kernel_rfl
def afk:J:=ae [bd 4 false] [4] .ret
def afl:J:=.cond (.t 10) afk .skip
def afm:J:=.cond (.t 14) .skip (.exit 0)
def afn:J:=ae [bd 4 false] [4] .ret
def afo:J:=.cond (.t 25) afn .skip
def afp:J:=.ct [af 15 5,bu 16 .add 3 15 1,aQ 5 16] (some [0,1,5])
def afq:J:=.seq (.block 1 (iw [af 17 0,af 18 5,dG 19 72 17 18,ba 20 2 19,af 21 1,af 22 5,dG 23 72 21 22,ba 24 2 23,b2 25 .neq 2 20 24] [[],[],[0,1],[2],[],[],[4,5],[6],[3,7]] [0,1,5,25] afo)) afp
def Je:J:=.seq (ae [af 11 5,af 12 0,b4 13 72 12,b2 14 .lss 3 11 13] [0,1,5,14] afm) afq
def afr:J:=.block 0 (.loop Je)
def afs:J:=ae [bd 4 true] [4] .ret
def aft:J:=.seq (ae [bT 5 0] [0,1,5] afr) afs
def afu:J:=.seq (ae [af 6 0,b4 7 72 6,af 8 1,b4 9 72 8,b2 10 .neq 3 7 9] [0,1,10] afl) aft
def c53:J:=ae [bd 4 false] [0,1] afu
theorem afv:bt ⟨26,[0,1]⟩ (Tryz.f53.body.getD .skip)=some c53.strip:=by kernel_rfl
def afw:J:=ae [bd 4 false] [4] .ret
def afx:J:=.cond (.t 10) afw .skip
def afy:J:=.cond (.t 14) .skip (.exit 0)
def afz:J:=ae [bd 4 false] [4] .ret
def afA:J:=.cond (.t 26) afz .skip
def afB:J:=.ct [af 15 5,bu 16 .add 3 15 1,aQ 5 16] (some [0,1,5])
def afC:J:=.seq (.block 1 (iw [af 17 0,af 18 5,dG 19 27 17 18,ba 20 72 19,af 21 1,af 22 5,dG 23 27 21 22,ba 24 72 23,ed 25 53 20 24,fp 26 25] [[],[],[0,1],[2],[],[],[4,5],[6],[3,7],[8]] [0,1,5,26] afA)) afB
def Jf:J:=.seq (ae [af 11 5,af 12 0,b4 13 27 12,b2 14 .lss 3 11 13] [0,1,5,14] afy) afC
def afD:J:=.block 0 (.loop Jf)
def afE:J:=ae [bd 4 true] [4] .ret
def afF:J:=.seq (ae [bT 5 0] [0,1,5] afD) afE
def afG:J:=.seq (ae [af 6 0,b4 7 27 6,af 8 1,b4 9 27 8,b2 10 .neq 3 7 9] [0,1,10] afx) afF
def afH:J:=ae [bd 4 false] [0,1] afG
theorem afI:bt ⟨27,[0,1]⟩ (Tryz.f29.body.getD .skip)=some afH.strip:=by kernel_rfl
def afJ:J:=ae [bd 4 false] [4] .ret
def afK:J:=.cond (.t 9) afJ .skip
def afL:J:=ae [bd 4 false] [4] .ret
def afM:J:=.cond (.t 14) afL .skip
def afN:J:=ae [bd 4 false] [4] .ret
def afO:J:=.cond (.t 19) afN .skip
def afP:J:=ae [bd 4 false] [4] .ret
def afQ:J:=.cond (.t 24) afP .skip
def afR:J:=ae [bd 4 true] [4] .ret
def afS:J:=.seq (ae [bE 20 88 2 3,ba 21 4 20,bE 22 88 3 3,ba 23 4 22,b2 24 .neq 4 21 23] [24] afQ) afR
def afT:J:=.seq (ae [bE 15 88 2 2,ba 16 9 15,bE 17 88 3 2,ba 18 9 17,b2 19 .neq 9 16 18] [2,3,19] afO) afS
def afU:J:=.seq (ae [bE 10 88 2 1,ba 11 2 10,bE 12 88 3 1,ba 13 2 12,b2 14 .neq 2 11 13] [2,3,14] afM) afT
def afV:J:=.seq (ae [bE 5 88 2 0,ba 6 2 5,bE 7 88 3 0,ba 8 2 7,b2 9 .neq 2 6 8] [2,3,9] afK) afU
def afW:J:=ae [ro 2 (.cQ 88 (.t 0)),ro 3 (.cQ 88 (.t 1)),bd 4 false] [2,3] afV
theorem afX:bt ⟨25,[0,1]⟩ (Tryz.f54.body.getD .skip)=some afW.strip:=by kernel_rfl
def afY:J:=ae [bd 4 false] [4] .ret
def afZ:J:=.cond (.t 10) afY .skip
def af0:J:=.cond (.t 14) .skip (.exit 0)
def af1:J:=ae [bd 4 false] [4] .ret
def af2:J:=.cond (.t 26) af1 .skip
def af3:J:=.ct [af 15 5,bu 16 .add 3 15 1,aQ 5 16] (some [0,1,5])
def af4:J:=.seq (.block 1 (iw [af 17 0,af 18 5,dG 19 39 17 18,ba 20 88 19,af 21 1,af 22 5,dG 23 39 21 22,ba 24 88 23,ed 25 54 20 24,fp 26 25] [[],[],[0,1],[2],[],[],[4,5],[6],[3,7],[8]] [0,1,5,26] af2)) af3
def Jg:J:=.seq (ae [af 11 5,af 12 0,b4 13 39 12,b2 14 .lss 3 11 13] [0,1,5,14] af0) af4
def af5:J:=.block 0 (.loop Jg)
def af6:J:=ae [bd 4 true] [4] .ret
def af7:J:=.seq (ae [bT 5 0] [0,1,5] af5) af6
def af8:J:=.seq (ae [af 6 0,b4 7 39 6,af 8 1,b4 9 39 8,b2 10 .neq 3 7 9] [0,1,10] afZ) af7
def af9:J:=ae [bd 4 false] [0,1] af8
theorem af_:bt ⟨27,[0,1]⟩ (Tryz.f30.body.getD .skip)=some af9.strip:=by kernel_rfl
def aga:J:=ae [bd 4 false] [4] .ret
def agb:J:=.cond (.t 9) aga .skip
def agc:J:=ae [bd 4 false] [4] .ret
def agd:J:=.cond (.t 14) agc .skip
def age:J:=ae [bd 4 false] [4] .ret
def agf:J:=.cond (.t 19) age .skip
def agh:J:=ae [bd 4 false] [4] .ret
def agi:J:=.cond (.t 25) agh .skip
def agj:J:=ae [bd 4 false] [4] .ret
def agk:J:=.cond (.t 31) agj .skip
def agl:J:=ae [bd 4 true] [4] .ret
def agm:J:=.seq (ae [bE 26 41 2 4,ba 27 39 26,bE 28 41 3 4,ba 29 39 28,ed 30 30 27 29,fp 31 30] [31] agk) agl
def agn:J:=.seq (ae [bE 20 41 2 3,ba 21 27 20,bE 22 41 3 3,ba 23 27 22,ed 24 29 21 23,fp 25 24] [2,3,25] agi) agm
def ago:J:=.seq (ae [bE 15 41 2 2,ba 16 2 15,bE 17 41 3 2,ba 18 2 17,b2 19 .neq 2 16 18] [2,3,19] agf) agn
def agp:J:=.seq (ae [bE 10 41 2 1,ba 11 2 10,bE 12 41 3 1,ba 13 2 12,b2 14 .neq 2 11 13] [2,3,14] agd) ago
def agq:J:=.seq (ae [bE 5 41 2 0,ba 6 2 5,bE 7 41 3 0,ba 8 2 7,b2 9 .neq 2 6 8] [2,3,9] agb) agp
def agr:J:=ae [ro 2 (.cQ 41 (.t 0)),ro 3 (.cQ 41 (.t 1)),bd 4 false] [2,3] agq
theorem ix:bt ⟨32,[0,1]⟩ (Tryz.f11.body.getD .skip)=some agr.strip:=by kernel_rfl
def ags:J:=ae [bd 4 false] [4] .ret
def agt:J:=.cond (.t 10) ags .skip
def agu:J:=.cond (.t 14) .skip (.exit 0)
def agv:J:=ae [bd 4 false] [4] .ret
def agw:J:=.cond (.t 26) agv .skip
def agx:J:=.ct [af 15 5,bu 16 .add 3 15 1,aQ 5 16] (some [0,1,5])
def agy:J:=.seq (.block 1 (iw [af 17 0,af 18 5,dG 19 35 17 18,ba 20 41 19,af 21 1,af 22 5,dG 23 35 21 22,ba 24 41 23,ed 25 11 20 24,fp 26 25] [[],[],[0,1],[2],[],[],[4,5],[6],[3,7],[8]] [0,1,5,26] agw)) agx
def Jh:J:=.seq (ae [af 11 5,af 12 0,b4 13 35 12,b2 14 .lss 3 11 13] [0,1,5,14] agu) agy
def agz:J:=.block 0 (.loop Jh)
def agA:J:=ae [bd 4 true] [4] .ret
def agB:J:=.seq (ae [bT 5 0] [0,1,5] agz) agA
def agC:J:=.seq (ae [af 6 0,b4 7 35 6,af 8 1,b4 9 35 8,b2 10 .neq 3 7 9] [0,1,10] agt) agB
def c28:J:=ae [bd 4 false] [0,1] agC
theorem lX:bt ⟨27,[0,1]⟩ (Tryz.f28.body.getD .skip)=some c28.strip:=by kernel_rfl
def agD:J:=ae [bd 4 false] [4] .ret
def agE:J:=.cond (.t 10) agD .skip
def agF:J:=ae [bd 4 false] [4] .ret
def agG:J:=.cond (.t 16) agF .skip
def agH:J:=ae [bd 4 false] [4] .ret
def agI:J:=.cond (.t 22) agH .skip
def agJ:J:=ae [bd 4 true] [4] .ret
def agK:J:=.seq (ae [bE 17 37 2 2,ba 18 35 17,bE 19 37 3 2,ba 20 35 19,ed 21 28 18 20,fp 22 21] [22] agI) agJ
def agL:J:=.seq (ae [bE 11 37 2 1,ba 12 34 11,bE 13 37 3 1,ba 14 34 13,ed 15 27 12 14,fp 16 15] [2,3,16] agG) agK
def agM:J:=.seq (ae [bE 5 37 2 0,ba 6 22 5,bE 7 37 3 0,ba 8 22 7,ed 9 26 6 8,fp 10 9] [2,3,10] agE) agL
def agN:J:=ae [ro 2 (.cQ 37 (.t 0)),ro 3 (.cQ 37 (.t 1)),bd 4 false] [2,3] agM
theorem rU:bt ⟨23,[0,1]⟩ (Tryz.f10.body.getD .skip)=some agN.strip:=by kernel_rfl
def agO:J:=ae [bd 4 true] [4] .ret
def agP:J:=.cond (.t 14) agO .skip
def agQ:J:=ae [bd 4 true] [4] .ret
def agR:J:=.cond (.t 19) agQ .skip
def agS:J:=ae [bd 4 false] [4] .ret
def agT:J:=.cond (.t 34) agS .skip
def agU:J:=ae [bd 4 false] [4] .ret
def agV:J:=.cond (.t 39) agU .skip
def agW:J:=ae [bd 4 false] [4] .ret
def agX:J:=.cond (.t 44) agW .skip
def agY:J:=ae [bd 4 true] [4] .ret
def agZ:J:=.seq (iw [ba 40 41 8,ba 41 30 3,dP 42 8 41,ed 43 11 40 42,fp 44 43] [[],[],[1],[0,2,2],[3]] [44] agX) agY
def ag0:J:=.seq (iw [ba 35 37 7,ba 36 26 2,dP 37 7 36,ed 38 10 35 37,fp 39 38] [[],[],[1],[0,2,2],[3]] [3,8,39] agV) agZ
def ag1:J:=.seq (ae [af 32 9,af 33 6,b2 34 .neq 4 32 33] [2,3,7,8,34] agT) ag0
def ag2:J:=ae [ba 29 37 7,ba 30 41 8,ed 31 9 29 30,aQ 9 31] [2,3,6,7,8,9] ag1
def ag3:J:=ae [ba 27 30 3,dP 28 8 27,ln 8 41,fH 41 8 28] [2,3,6,7,8] ag2
def ag4:J:=ae [ba 25 26 2,dP 26 7 25,ln 7 37,fH 37 7 26] [2,3,6,7] ag3
def ag5:J:=iw [ba 20 26 2,dP 21 7 20,ba 22 30 3,dP 23 8 22,ed 24 6 21 23,aQ 6 24] [[],[0],[],[2,1],[1,3,3],[4,4,0,1,2,3,4]] [2,3,6] ag4
def ag6:J:=.seq (ae [af 18 5,bu 19 .lss 3 18 0] [2,3,19] agR) ag5
def ag7:J:=ae [ba 15 30 3,af 16 5,ed 17 5 15 16,aQ 5 17] [2,3,5] ag6
def ag8:J:=.seq (ae [af 13 5,bu 14 .lss 3 13 0] [2,3,5,14] agP) ag7
def ag9:J:=ae [ba 10 26 2,af 11 5,ed 12 4 10 11,aQ 5 12] [2,3,5] ag8
def ag_:J:=ae [bT 5 1048576] [2,3,5] ag9
def c3:J:=ae [ro 2 (.cQ 26 (.t 0)),ro 3 (.cQ 30 (.t 1)),bd 4 false] [2,3] ag_
theorem dL:bt ⟨45,[0,1]⟩ (Tryz.f3.body.getD .skip)=some c3.strip:=by kernel_rfl
def rV:=PLift.up (And.intro @Bool.not_true @Bool.not_false)
def rW:=PLift.up (And.intro @List.length_append.{0} (And.intro @List.length_cons.{0} (And.intro @List.length_nil.{0} (And.intro @List.length_map.{0,0} (And.intro @List.length_replicate.{0} (And.intro @Nat.zero_add @Nat.add_zero))))))
end Go.Proofs.YtocllehpepigpaaGreatDoor
