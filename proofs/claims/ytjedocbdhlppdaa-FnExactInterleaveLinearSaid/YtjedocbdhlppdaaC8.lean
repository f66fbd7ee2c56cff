/- Part of a proof that a law returns true for every input. No condition. -/
import Derived.Test.YtjedocbdhlppdaaTb
import Derived.Test.YtjedocbdhlppdaaFwL
import Derived.Test.YtjedocbdhlppdaaP8
namespace Go.Proofs.Ytjedocbdhlppdaa
open Go Go.dp Go.gV
set_option linter.unusedSimpArgs false
def aD (x : Int) : j := .int .i64 x
theorem dX (x : Int) : (aD x).share = aD x := by
 simp only [aD, dy]
theorem y9 (x : Int) : (aD x).dm = true := by
 simp only [aD, j.dm, j.i1, Bool.and_self]
def e3 (x : fY) : j := .agg [.int .i64 x.Kind, .int .i64 x.Value]
theorem HI (x : fY) : (e3 x).share = e3 x := by
 simp only [e3, dy]
theorem ajP (x : fY) : (e3 x).dm = true := by
 simp only [e3, j.dm, j.i1, Bool.and_self]
def fs (x : List fY) : j := .slice (x.map e3)
theorem HJ (x : List fY) : (fs x).share = fs x := by
 simp only [fs, dy, @bx _ e3 e3 (fun _ => HI _)]
def ft (x : hQ) : j := .agg [.slice (x.bo.map aD), .slice (x.Guard.map e3), .str x.Name, .slice (x.bH.map fs), .slice (x.Next.map fs)]
theorem HK (x : hQ) : (ft x).share = ft x := by
 simp only [ft, dy, @bx _ aD aD (fun _ => dX _), @bx _ e3 e3 (fun _ => HI _), @bx _ fs fs (fun _ => HJ _)]
def gr (x : jf) : j := .agg [.int .i64 x.aV, .slice (x.Start.map aD), .slice (x.bG.map ft)]
theorem ajQ (x : jf) : (gr x).share = gr x := by
 simp only [gr, dy, @bx _ aD aD (fun _ => dX _), @bx _ ft ft (fun _ => HK _)]
def jy (x : List Int) : j := .slice (x.map aD)
theorem P4 (x : List Int) : (jy x).share = jy x := by
 simp only [jy, dy, @bx _ aD aD (fun _ => dX _)]
def CF (x : List hQ) : j := .slice (x.map ft)
theorem ajR (x : List hQ) : (CF x).share = CF x := by
 simp only [CF, dy, @bx _ ft ft (fun _ => HK _)]
def vO (x : List UInt8) : j := .str x
theorem ajS (x : List UInt8) : (vO x).share = vO x := by
 simp only [vO, dy]
theorem ajT (x : List UInt8) : (vO x).dm = true := by
 simp only [vO, j.dm, j.i1, Bool.and_self]
def CG (x : List (List fY)) : j := .slice (x.map fs)
theorem ajU (x : List (List fY)) : (CG x).share = CG x := by
 simp only [CG, dy, @bx _ fs fs (fun _ => HJ _)]
def aR (x : aA) : j := .agg [.int .i64 x.Kind, .int .i64 x.Value]
theorem k1 (x : aA) : (aR x).share = aR x := by
 simp only [aR, dy]
theorem CH (x : aA) : (aR x).dm = true := by
 simp only [aR, j.dm, j.i1, Bool.and_self]
def bC (x : List aA) : j := .slice (x.map aR)
theorem jk (x : List aA) : (bC x).share = bC x := by
 simp only [bC, dy, @bx _ aR aR (fun _ => k1 _)]
def bm (x : aY) : j := .agg [.slice (x.bo.map aD), .slice (x.Guard.map aR), .str x.Name, .slice (x.bH.map bC), .slice (x.Next.map bC)]
theorem nE (x : aY) : (bm x).share = bm x := by
 simp only [bm, dy, @bx _ aD aD (fun _ => dX _), @bx _ aR aR (fun _ => k1 _), @bx _ bC bC (fun _ => jk _)]
def bl (x : List aA) : j := .ai 2 (x.map aR)
theorem oj (x : List aA) : (bl x).share = bC x := by
 simp only [bl, bC, dy, @bx _ aR aR (fun _ => k1 _)]
theorem qa (x : List aA) : (bl x).dm = true := by
 simp only [bl, j.dm, j.i1, Bool.and_self, @kC _ aR (fun _ => CH _)]
def br (x : aY) : j := .agg [.ai 1 (x.bo.map aD), .ai 2 (x.Guard.map aR), .str x.Name, .ai 1 (x.bH.map bl), .ai 1 (x.Next.map bl)]
theorem gu (x : aY) : (br x).share = bm x := by
 simp only [br, bm, dy, @bx _ aD aD (fun _ => dX _), @bx _ aR aR (fun _ => k1 _), @bx _ bl bC (fun _ => oj _)]
theorem HL (x : aY) : (br x).dm = true := by
 simp only [br, j.dm, j.i1, Bool.and_self, @kC _ aD (fun _ => y9 _), @kC _ aR (fun _ => CH _), @kC _ bl (fun _ => qa _)]
def y_ (x : List Int) : j := .ai 1 (x.map aD)
theorem ajV (x : List Int) : (y_ x).share = jy x := by
 simp only [y_, jy, dy, @bx _ aD aD (fun _ => dX _)]
theorem ajW (x : List Int) : (y_ x).dm = true := by
 simp only [y_, j.dm, j.i1, Bool.and_self, @kC _ aD (fun _ => y9 _)]
def iQ (x : List (List aA)) : j := .ai 1 (x.map bl)
def hR (x : List (List aA)) : j := .slice (x.map bC)
theorem CI (x : List (List aA)) : (hR x).share = hR x := by
 simp only [hR, dy, @bx _ bC bC (fun _ => jk _)]
theorem HM (x : List (List aA)) : (iQ x).share = hR x := by
 simp only [iQ, hR, dy, @bx _ bl bC (fun _ => oj _)]
theorem ajX (x : List (List aA)) : (iQ x).dm = true := by
 simp only [iQ, j.dm, j.i1, Bool.and_self, @kC _ bl (fun _ => qa _)]
def dC (x : bc) : j := .agg [.int .i64 x.aV, .ai 1 (x.Start.map aD), .ai 5 (x.bG.map br)]
def bj (x : bc) : j := .agg [.int .i64 x.aV, .slice (x.Start.map aD), .slice (x.bG.map bm)]
theorem ajY (x : bc) : (bj x).share = bj x := by
 simp only [bj, dy, @bx _ aD aD (fun _ => dX _), @bx _ bm bm (fun _ => nE _)]
theorem ajZ (x : bc) : (dC x).share = bj x := by
 simp only [dC, bj, dy, @bx _ aD aD (fun _ => dX _), @bx _ br bm (fun _ => gu _)]
theorem qb (x : bc) : (dC x).dm = true := by
 simp only [dC, j.dm, j.i1, Bool.and_self, @kC _ aD (fun _ => y9 _), @kC _ br (fun _ => HL _)]
def za (x : List aY) : j := .ai 5 (x.map br)
def vP (x : List aY) : j := .slice (x.map bm)
theorem aj0 (x : List aY) : (vP x).share = vP x := by
 simp only [vP, dy, @bx _ bm bm (fun _ => nE _)]
theorem aj1 (x : List aY) : (za x).share = vP x := by
 simp only [za, vP, dy, @bx _ br bm (fun _ => gu _)]
theorem aj2 (x : List aY) : (za x).dm = true := by
 simp only [za, j.dm, j.i1, Bool.and_self, @kC _ br (fun _ => HL _)]
def k2 (x : Bool × aY) : j := cond x.1 (.agg [.hole, .hole, .str x.2.Name, .hole, .hole]) (br x.2)
theorem tv : (k2 ∘ fun x => (false, x)) = br := rfl
theorem zb (x : aY) : k2 (true, x) = .agg [.hole, .hole, .str x.Name, .hole, .hole] := rfl
theorem zc {x : Bool × aY} (h : pb (!x.1) = some ()) : k2 x = br x.2 := by
 obtain ⟨b, x⟩ := x
 cases b
 ·rfl
 ·cases h
theorem aj3 (x : Bool × aY) : (k2 x).wd = 5 := by
 obtain ⟨b, x⟩ := x
 cases b <;> rfl
def oZ (x : Bool × (List (List aA))) : j := cond x.1 (.hole) (iQ x.2)
theorem vQ : (oZ ∘ fun x => (false, x)) = iQ := rfl
theorem zd (x : (List (List aA))) : oZ (true, x) = .hole := rfl
theorem ze {x : Bool × (List (List aA))} (h : pb (!x.1) = some ()) : oZ x = iQ x.2 := by
 obtain ⟨b, x⟩ := x
 cases b
 ·rfl
 ·cases h
theorem aj4 (x : Bool × (List (List aA))) : (oZ x).wd = 1 := by
 obtain ⟨b, x⟩ := x
 cases b <;> rfl
def P5 : J := .seq (.ad [ro 4 (.an (.c (.int .i64 (-1))))] (some [4])) .ret
def P6 : J := .cond (.t 10) P5 .skip
def P7 : J := .seq (.ad [ro 11 (.ae (.t 1)),
 ro 4 (.an (.t 11))] (some [4])) .ret
def P8 : J := .seq (.seq (.ad [ro 9 (.ae (.t 1)),
 ro 10 (.aP .lss 3 (.t 9) (.c (.int .i64 0)))] (some [1, 10])) P6) P7
def P9 : J := .seq (.ad [ro 5 (.ae (.t 1)),
 ro 6 (.ae (.t 0)),
 ro 7 (.len 40 (.t 6)),
 ro 8 (.aP .sub 3 (.t 5) (.t 7)),
 ro 1 (.an (.t 8))] (some [1])) P8
def P_ : J := .seq (.ad [ro 4 (.an (.c (.int .i64 0)))] (some [0, 1])) P9
theorem Qa : bS ⟨12, [0]⟩ (Try.f57.body.getD .skip) = some P_.strip := by kernel_rfl
def Qb : J := .seq (.ad [ro 4 (.an (.c (.int .i64 (-1))))] (some [4])) .ret
def Qc : J := .cond (.t 10) Qb .skip
def Qd : J := .seq (.ad [ro 11 (.ae (.t 1)),
 ro 4 (.an (.t 11))] (some [4])) .ret
def Qe : J := .seq (.seq (.ad [ro 9 (.ae (.t 1)),
 ro 10 (.aP .lss 3 (.t 9) (.c (.int .i64 0)))] (some [1, 10])) Qc) Qd
def Qf : J := .seq (.ad [ro 5 (.ae (.t 1)),
 ro 6 (.ae (.t 0)),
 ro 7 (.len 125 (.t 6)),
 ro 8 (.aP .sub 3 (.t 5) (.t 7)),
 ro 1 (.an (.t 8))] (some [1])) Qe
def Qg : J := .seq (.ad [ro 4 (.an (.c (.int .i64 0)))] (some [0, 1])) Qf
theorem Qh : bS ⟨12, [0]⟩ (Try.f133.body.getD .skip) = some Qg.strip := by kernel_rfl
def Qi : J := .seq (.ad [ro 4 (.an (.c (.int .i64 (-1))))] (some [4])) .ret
def Qj : J := .cond (.t 11) Qi .skip
def Qk : J := .cond (.t 15) .skip (.exit 0)
def Ql : J := .seq (.ad [ro 4 (.an (.c (.int .i64 (-1))))] (some [4])) .ret
def Qm : J := .cond (.t 25) Ql .skip
def Qn : J := .seq (.ad [ro 24 (.ae (.t 1)),
 ro 25 (.aP .lss 3 (.t 24) (.c (.int .i64 0)))] (some [0, 1, 5, 25])) Qm
def Qo : J := .ad [ro 16 (.ae (.t 5)),
 ro 17 (.aP .add 3 (.t 16) (.c (.int .i64 1))),
 ro 5 (.an (.t 17))] (some [0, 1, 5])
def Qp : J := .seq (.block 1 (.seq (.ad [ro 18 (.ae (.t 0)),
 ro 19 (.ae (.t 5)),
 ro 20 (.cf 126 (.t 18) (.t 19)),
 ro 21 (.aN 125 (.t 20)),
 ro 22 (.ae (.t 1)),
 ro 23 (.call (.f 133) [(.t 21), (.t 22)]),
 ro 1 (.an (.t 23))] (some [0, 1, 5])) Qn)) Qo
def HN : J := .seq (.seq (.ad [ro 12 (.ae (.t 5)),
 ro 13 (.ae (.t 0)),
 ro 14 (.len 126 (.t 13)),
 ro 15 (.aP .lss 3 (.t 12) (.t 14))] (some [0, 1, 5, 15])) Qk) Qp
def Qq : J := .block 0 (.loop HN)
def Qr : J := .seq (.ad [ro 26 (.ae (.t 1)),
 ro 4 (.an (.t 26))] (some [4])) .ret
def Qs : J := .seq (.seq (.ad [ro 5 (.an (.c (.int .i64 0)))] (some [0, 1, 5])) Qq) Qr
def Qt : J := .seq (.seq (.ad [ro 10 (.ae (.t 1)),
 ro 11 (.aP .lss 3 (.t 10) (.c (.int .i64 0)))] (some [0, 1, 11])) Qj) Qs
def Qu : J := .seq (.ad [ro 6 (.ae (.t 1)),
 ro 7 (.ae (.t 0)),
 ro 8 (.len 126 (.t 7)),
 ro 9 (.aP .sub 3 (.t 6) (.t 8)),
 ro 1 (.an (.t 9))] (some [0, 1])) Qt
def Qv : J := .seq (.ad [ro 4 (.an (.c (.int .i64 0)))] (some [0, 1])) Qu
theorem Qw : bS ⟨27, [0]⟩ (Try.f134.body.getD .skip) = some Qv.strip := by kernel_rfl
def Qx : J := .seq (.ad [ro 4 (.an (.c (.int .i64 (-1))))] (some [4])) .ret
def Qy : J := .cond (.t 10) Qx .skip
def Qz : J := .seq (.ad [ro 4 (.an (.c (.int .i64 (-1))))] (some [4])) .ret
def QA : J := .cond (.t 16) Qz .skip
def QB : J := .seq (.ad [ro 4 (.an (.c (.int .i64 (-1))))] (some [4])) .ret
def QC : J := .cond (.t 23) QB .skip
def QD : J := .seq (.ad [ro 4 (.an (.c (.int .i64 (-1))))] (some [4])) .ret
def QE : J := .cond (.t 29) QD .skip
def QF : J := .seq (.ad [ro 4 (.an (.c (.int .i64 (-1))))] (some [4])) .ret
def QG : J := .cond (.t 35) QF .skip
def QH : J := .seq (.ad [ro 36 (.ae (.t 1)),
 ro 4 (.an (.t 36))] (some [4])) .ret
def QI : J := .seq (.seq (.ad [ro 34 (.ae (.t 1)),
 ro 35 (.aP .lss 3 (.t 34) (.c (.int .i64 0)))] (some [1, 35])) QG) QH
def QJ : J := .seq (.ad [ro 30 (.a5 128 (.t 2) 4),
 ro 31 (.aN 126 (.t 30)),
 ro 32 (.ae (.t 1)),
 ro 33 (.call (.f 134) [(.t 31), (.t 32)]),
 ro 1 (.an (.t 33))] (some [1])) QI
def QK : J := .seq (.seq (.ad [ro 28 (.ae (.t 1)),
 ro 29 (.aP .lss 3 (.t 28) (.c (.int .i64 0)))] (some [1, 2, 29])) QE) QJ
def QL : J := .seq (.ad [ro 24 (.a5 128 (.t 2) 3),
 ro 25 (.aN 126 (.t 24)),
 ro 26 (.ae (.t 1)),
 ro 27 (.call (.f 134) [(.t 25), (.t 26)]),
 ro 1 (.an (.t 27))] (some [1, 2])) QK
def QM : J := .seq (.seq (.ad [ro 22 (.ae (.t 1)),
 ro 23 (.aP .lss 3 (.t 22) (.c (.int .i64 0)))] (some [1, 2, 23])) QC) QL
def QN : J := .seq (.ad [ro 17 (.ae (.t 1)),
 ro 18 (.a5 128 (.t 2) 2),
 ro 19 (.aN 9 (.t 18)),
 ro 20 (.len 9 (.t 19)),
 ro 21 (.aP .sub 3 (.t 17) (.t 20)),
 ro 1 (.an (.t 21))] (some [1, 2])) QM
def QO : J := .seq (.seq (.ad [ro 15 (.ae (.t 1)),
 ro 16 (.aP .lss 3 (.t 15) (.c (.int .i64 0)))] (some [1, 2, 16])) QA) QN
def QP : J := .seq (.ad [ro 11 (.a5 128 (.t 2) 1),
 ro 12 (.aN 125 (.t 11)),
 ro 13 (.ae (.t 1)),
 ro 14 (.call (.f 133) [(.t 12), (.t 13)]),
 ro 1 (.an (.t 14))] (some [1, 2])) QO
def QQ : J := .seq (.seq (.ad [ro 9 (.ae (.t 1)),
 ro 10 (.aP .lss 3 (.t 9) (.c (.int .i64 0)))] (some [1, 2, 10])) Qy) QP
def QR : J := .seq (.ad [ro 5 (.a5 128 (.t 2) 0),
 ro 6 (.aN 40 (.t 5)),
 ro 7 (.ae (.t 1)),
 ro 8 (.call (.f 57) [(.t 6), (.t 7)]),
 ro 1 (.an (.t 8))] (some [1, 2])) QQ
def QS : J := .seq (.ad [ro 2 (.dk 128 (.t 0)),
 ro 4 (.an (.c (.int .i64 0)))] (some [1, 2])) QR
theorem QT : bS ⟨37, [0]⟩ (Try.f98.body.getD .skip) = some QS.strip := by kernel_rfl
def QU : J := .seq (.ad [ro 4 (.an (.c (.int .i64 (-1))))] (some [4])) .ret
def QV : J := .cond (.t 11) QU .skip
def QW : J := .cond (.t 15) .skip (.exit 0)
def QX : J := .seq (.ad [ro 4 (.an (.c (.int .i64 (-1))))] (some [4])) .ret
def QY : J := .cond (.t 25) QX .skip
def QZ : J := .seq (.ad [ro 24 (.ae (.t 1)),
 ro 25 (.aP .lss 3 (.t 24) (.c (.int .i64 0)))] (some [0, 1, 5, 25])) QY
def Q0 : J := .ad [ro 16 (.ae (.t 5)),
 ro 17 (.aP .add 3 (.t 16) (.c (.int .i64 1))),
 ro 5 (.an (.t 17))] (some [0, 1, 5])
def Q1 : J := .seq (.block 1 (.seq (.ad [ro 18 (.ae (.t 0)),
 ro 19 (.ae (.t 5)),
 ro 20 (.cf 41 (.t 18) (.t 19)),
 ro 21 (.aN 128 (.t 20)),
 ro 22 (.ae (.t 1)),
 ro 23 (.call (.f 98) [(.t 21), (.t 22)]),
 ro 1 (.an (.t 23))] (some [0, 1, 5])) QZ)) Q0
def HO : J := .seq (.seq (.ad [ro 12 (.ae (.t 5)),
 ro 13 (.ae (.t 0)),
 ro 14 (.len 41 (.t 13)),
 ro 15 (.aP .lss 3 (.t 12) (.t 14))] (some [0, 1, 5, 15])) QW) Q1
def Q2 : J := .block 0 (.loop HO)
def Q3 : J := .seq (.ad [ro 26 (.ae (.t 1)),
 ro 4 (.an (.t 26))] (some [4])) .ret
def Q4 : J := .seq (.seq (.ad [ro 5 (.an (.c (.int .i64 0)))] (some [0, 1, 5])) Q2) Q3
def Q5 : J := .seq (.seq (.ad [ro 10 (.ae (.t 1)),
 ro 11 (.aP .lss 3 (.t 10) (.c (.int .i64 0)))] (some [0, 1, 11])) QV) Q4
def Q6 : J := .seq (.ad [ro 6 (.ae (.t 1)),
 ro 7 (.ae (.t 0)),
 ro 8 (.len 41 (.t 7)),
 ro 9 (.aP .sub 3 (.t 6) (.t 8)),
 ro 1 (.an (.t 9))] (some [0, 1])) Q5
def Q7 : J := .seq (.ad [ro 4 (.an (.c (.int .i64 0)))] (some [0, 1])) Q6
theorem Q8 : bS ⟨27, [0]⟩ (Try.f58.body.getD .skip) = some Q7.strip := by kernel_rfl
def Q9 : J := .seq (.ad [ro 4 (.an (.c (.int .i64 (-1))))] (some [4])) .ret
def Q_ : J := .cond (.t 10) Q9 .skip
def Ra : J := .seq (.ad [ro 4 (.an (.c (.int .i64 (-1))))] (some [4])) .ret
def Rb : J := .cond (.t 16) Ra .skip
def Rc : J := .seq (.ad [ro 17 (.ae (.t 1)),
 ro 4 (.an (.t 17))] (some [4])) .ret
def Rd : J := .seq (.seq (.ad [ro 15 (.ae (.t 1)),
 ro 16 (.aP .lss 3 (.t 15) (.c (.int .i64 0)))] (some [1, 16])) Rb) Rc
def Re : J := .seq (.ad [ro 11 (.a5 43 (.t 2) 2),
 ro 12 (.aN 41 (.t 11)),
 ro 13 (.ae (.t 1)),
 ro 14 (.call (.f 58) [(.t 12), (.t 13)]),
 ro 1 (.an (.t 14))] (some [1])) Rd
def Rf : J := .seq (.seq (.ad [ro 9 (.ae (.t 1)),
 ro 10 (.aP .lss 3 (.t 9) (.c (.int .i64 0)))] (some [1, 2, 10])) Q_) Re
def Rg : J := .seq (.ad [ro 5 (.a5 43 (.t 2) 1),
 ro 6 (.aN 40 (.t 5)),
 ro 7 (.ae (.t 1)),
 ro 8 (.call (.f 57) [(.t 6), (.t 7)]),
 ro 1 (.an (.t 8))] (some [1, 2])) Rf
def Rh : J := .seq (.ad [ro 2 (.dk 43 (.t 0)),
 ro 4 (.an (.c (.int .i64 0)))] (some [1, 2])) Rg
theorem rL : bS ⟨18, [0]⟩ (Try.f25.body.getD .skip) = some Rh.strip := by kernel_rfl
def Ri : J := .cond (.t 11) .skip (.exit 0)
def Rj : J := .ad [ro 12 (.ae (.t 4)),
 ro 13 (.aP .add 3 (.t 12) (.c (.int .i64 1))),
 ro 4 (.an (.t 13))] (some [0, 3, 4])
def Rk : J := .seq (.block 1 (.ad [ro 14 (.ae (.t 3)),
 ro 15 (.ae (.t 4)),
 ro 16 (.ae (.t 0)),
 ro 17 (.ae (.t 4)),
 ro 18 (.cf 40 (.t 16) (.t 17)),
 ro 19 (.aN 2 (.t 18)),
 ro 20 (.cf 40 (.t 14) (.t 15)),
 ⟨none, .ck 2 (.t 20) (.t 19), none⟩] (some [0, 3, 4]))) Rj
def HP : J := .seq (.seq (.ad [ro 8 (.ae (.t 4)),
 ro 9 (.ae (.t 0)),
 ro 10 (.len 40 (.t 9)),
 ro 11 (.aP .lss 3 (.t 8) (.t 10))] (some [0, 3, 4, 11])) Ri) Rk
def Rl : J := .block 0 (.loop HP)
def Rm : J := .seq (.ad [ro 21 (.ae (.t 3)),
 ro 2 (.an (.t 21))] (some [2])) .ret
def Rn : J := .seq (.seq (.ad [ro 4 (.an (.c (.int .i64 0)))] (some [0, 3, 4])) Rl) Rm
def Ro : J := .seq (.ad [ro 5 (.ae (.t 0)),
 ro 6 (.len 40 (.t 5)),
 ro 7 (.fE 40 (.t 6) (.t 6)),
 ro 3 (.an (.t 7))] (some [0, 3])) Rn
def Rp : J := .seq (.ad [ro 2 (.an (.c .af))] (some [0])) Ro
theorem Rq : bS ⟨22, [0]⟩ (Try.f65.body.getD .skip) = some Rp.strip := by kernel_rfl
def Rr : J := .seq (.ad [ro 10 (.aN 133 (.t 3)),
 ⟨none, .ck 133 (.t 2) (.t 10), none⟩] (some [2])) .ret
def Rs : J := .seq (.ad [ro 7 (.a5 187 (.t 1) 1),
 ro 8 (.aN 2 (.t 7)),
 ro 9 (.a5 133 (.t 3) 1),
 ⟨none, .ck 2 (.t 9) (.t 8), none⟩] (some [2, 3])) Rr
def Rt : J := .seq (.ad [ro 4 (.a5 187 (.t 1) 0),
 ro 5 (.aN 2 (.t 4)),
 ro 6 (.a5 133 (.t 3) 0),
 ⟨none, .ck 2 (.t 6) (.t 5), none⟩] (some [1, 2, 3])) Rs
def Ru : J := .seq (.ad [ro 3 (.dH 133)] (some [1, 2, 3])) Rt
def Rv : J := .seq (.ad [ro 1 (.dk 187 (.t 0)),
 ro 2 (.dH 133)] (some [1, 2])) Ru
theorem Rw : bS ⟨11, [0]⟩ (Try.f170.body.getD .skip) = some Rv.strip := by kernel_rfl
def Rx : J := .cond (.t 11) .skip (.exit 0)
def Ry : J := .ad [ro 12 (.ae (.t 4)),
 ro 13 (.aP .add 3 (.t 12) (.c (.int .i64 1))),
 ro 4 (.an (.t 13))] (some [0, 3, 4])
def Rz : J := .seq (.block 1 (.ad [ro 14 (.ae (.t 3)),
 ro 15 (.ae (.t 4)),
 ro 16 (.ae (.t 0)),
 ro 17 (.ae (.t 4)),
 ro 18 (.cf 125 (.t 16) (.t 17)),
 ro 19 (.aN 187 (.t 18)),
 ro 20 (.call (.f 170) [(.t 19)]),
 ro 21 (.cf 87 (.t 14) (.t 15)),
 ⟨none, .ck 133 (.t 21) (.t 20), none⟩] (some [0, 3, 4]))) Ry
def HQ : J := .seq (.seq (.ad [ro 8 (.ae (.t 4)),
 ro 9 (.ae (.t 0)),
 ro 10 (.len 125 (.t 9)),
 ro 11 (.aP .lss 3 (.t 8) (.t 10))] (some [0, 3, 4, 11])) Rx) Rz
def RA : J := .block 0 (.loop HQ)
def RB : J := .seq (.ad [ro 22 (.ae (.t 3)),
 ro 2 (.an (.t 22))] (some [2])) .ret
def RC : J := .seq (.seq (.ad [ro 4 (.an (.c (.int .i64 0)))] (some [0, 3, 4])) RA) RB
def RD : J := .seq (.ad [ro 5 (.ae (.t 0)),
 ro 6 (.len 125 (.t 5)),
 ro 7 (.fE 87 (.t 6) (.t 6)),
 ro 3 (.an (.t 7))] (some [0, 3])) RC
def RE : J := .seq (.ad [ro 2 (.an (.c .af))] (some [0])) RD
theorem RF : bS ⟨23, [0]⟩ (Try.f139.body.getD .skip) = some RE.strip := by kernel_rfl
def RG : J := .cond (.t 11) .skip (.exit 0)
def RH : J := .ad [ro 12 (.ae (.t 4)),
 ro 13 (.aP .add 3 (.t 12) (.c (.int .i64 1))),
 ro 4 (.an (.t 13))] (some [0, 3, 4])
def RI : J := .seq (.block 1 (.ad [ro 14 (.ae (.t 3)),
 ro 15 (.ae (.t 4)),
 ro 16 (.ae (.t 0)),
 ro 17 (.ae (.t 4)),
 ro 18 (.cf 126 (.t 16) (.t 17)),
 ro 19 (.aN 125 (.t 18)),
 ro 20 (.call (.f 139) [(.t 19)]),
 ro 21 (.cf 88 (.t 14) (.t 15)),
 ⟨none, .ck 87 (.t 21) (.t 20), none⟩] (some [0, 3, 4]))) RH
def HR : J := .seq (.seq (.ad [ro 8 (.ae (.t 4)),
 ro 9 (.ae (.t 0)),
 ro 10 (.len 126 (.t 9)),
 ro 11 (.aP .lss 3 (.t 8) (.t 10))] (some [0, 3, 4, 11])) RG) RI
def RJ : J := .block 0 (.loop HR)
def RK : J := .seq (.ad [ro 22 (.ae (.t 3)),
 ro 2 (.an (.t 22))] (some [2])) .ret
def RL : J := .seq (.seq (.ad [ro 4 (.an (.c (.int .i64 0)))] (some [0, 3, 4])) RJ) RK
def RM : J := .seq (.ad [ro 5 (.ae (.t 0)),
 ro 6 (.len 126 (.t 5)),
 ro 7 (.fE 88 (.t 6) (.t 6)),
 ro 3 (.an (.t 7))] (some [0, 3])) RL
def RN : J := .seq (.ad [ro 2 (.an (.c .af))] (some [0])) RM
theorem RO : bS ⟨23, [0]⟩ (Try.f140.body.getD .skip) = some RN.strip := by kernel_rfl
def RP : J := .seq (.ad [ro 23 (.aN 90 (.t 3)),
 ⟨none, .ck 90 (.t 2) (.t 23), none⟩] (some [2])) .ret
def RQ : J := .seq (.ad [ro 19 (.a5 128 (.t 1) 4),
 ro 20 (.aN 126 (.t 19)),
 ro 21 (.call (.f 140) [(.t 20)]),
 ro 22 (.a5 90 (.t 3) 4),
 ⟨none, .ck 88 (.t 22) (.t 21), none⟩] (some [2, 3])) RP
def RR : J := .seq (.ad [ro 15 (.a5 128 (.t 1) 3),
 ro 16 (.aN 126 (.t 15)),
 ro 17 (.call (.f 140) [(.t 16)]),
 ro 18 (.a5 90 (.t 3) 3),
 ⟨none, .ck 88 (.t 18) (.t 17), none⟩] (some [1, 2, 3])) RQ
def RS : J := .seq (.ad [ro 12 (.a5 128 (.t 1) 2),
 ro 13 (.aN 9 (.t 12)),
 ro 14 (.a5 90 (.t 3) 2),
 ⟨none, .ck 9 (.t 14) (.t 13), none⟩] (some [1, 2, 3])) RR
def RT : J := .seq (.ad [ro 8 (.a5 128 (.t 1) 1),
 ro 9 (.aN 125 (.t 8)),
 ro 10 (.call (.f 139) [(.t 9)]),
 ro 11 (.a5 90 (.t 3) 1),
 ⟨none, .ck 87 (.t 11) (.t 10), none⟩] (some [1, 2, 3])) RS
def RU : J := .seq (.ad [ro 4 (.a5 128 (.t 1) 0),
 ro 5 (.aN 40 (.t 4)),
 ro 6 (.call (.f 65) [(.t 5)]),
 ro 7 (.a5 90 (.t 3) 0),
 ⟨none, .ck 40 (.t 7) (.t 6), none⟩] (some [1, 2, 3])) RT
def RV : J := .seq (.ad [ro 3 (.dH 90)] (some [1, 2, 3])) RU
def RW : J := .seq (.ad [ro 1 (.dk 128 (.t 0)),
 ro 2 (.dH 90)] (some [1, 2])) RV
theorem RX : bS ⟨24, [0]⟩ (Try.f102.body.getD .skip) = some RW.strip := by kernel_rfl
def RY : J := .cond (.t 11) .skip (.exit 0)
def RZ : J := .ad [ro 12 (.ae (.t 4)),
 ro 13 (.aP .add 3 (.t 12) (.c (.int .i64 1))),
 ro 4 (.an (.t 13))] (some [0, 3, 4])
def R0 : J := .seq (.block 1 (.ad [ro 14 (.ae (.t 3)),
 ro 15 (.ae (.t 4)),
 ro 16 (.ae (.t 0)),
 ro 17 (.ae (.t 4)),
 ro 18 (.cf 41 (.t 16) (.t 17)),
 ro 19 (.aN 128 (.t 18)),
 ro 20 (.call (.f 102) [(.t 19)]),
 ro 21 (.cf 45 (.t 14) (.t 15)),
 ⟨none, .ck 90 (.t 21) (.t 20), none⟩] (some [0, 3, 4]))) RZ
def HS : J := .seq (.seq (.ad [ro 8 (.ae (.t 4)),
 ro 9 (.ae (.t 0)),
 ro 10 (.len 41 (.t 9)),
 ro 11 (.aP .lss 3 (.t 8) (.t 10))] (some [0, 3, 4, 11])) RY) R0
def R1 : J := .block 0 (.loop HS)
def R2 : J := .seq (.ad [ro 22 (.ae (.t 3)),
 ro 2 (.an (.t 22))] (some [2])) .ret
def R3 : J := .seq (.seq (.ad [ro 4 (.an (.c (.int .i64 0)))] (some [0, 3, 4])) R1) R2
def R4 : J := .seq (.ad [ro 5 (.ae (.t 0)),
 ro 6 (.len 41 (.t 5)),
 ro 7 (.fE 45 (.t 6) (.t 6)),
 ro 3 (.an (.t 7))] (some [0, 3])) R3
def R5 : J := .seq (.ad [ro 2 (.an (.c .af))] (some [0])) R4
theorem R6 : bS ⟨23, [0]⟩ (Try.f66.body.getD .skip) = some R5.strip := by kernel_rfl
def R7 : J := .seq (.ad [ro 15 (.aN 47 (.t 3)),
 ⟨none, .ck 47 (.t 2) (.t 15), none⟩] (some [2])) .ret
def R8 : J := .seq (.ad [ro 11 (.a5 43 (.t 1) 2),
 ro 12 (.aN 41 (.t 11)),
 ro 13 (.call (.f 66) [(.t 12)]),
 ro 14 (.a5 47 (.t 3) 2),
 ⟨none, .ck 45 (.t 14) (.t 13), none⟩] (some [2, 3])) R7
def R9 : J := .seq (.ad [ro 7 (.a5 43 (.t 1) 1),
 ro 8 (.aN 40 (.t 7)),
 ro 9 (.call (.f 65) [(.t 8)]),
 ro 10 (.a5 47 (.t 3) 1),
 ⟨none, .ck 40 (.t 10) (.t 9), none⟩] (some [1, 2, 3])) R8
def R_ : J := .seq (.ad [ro 4 (.a5 43 (.t 1) 0),
 ro 5 (.aN 2 (.t 4)),
 ro 6 (.a5 47 (.t 3) 0),
 ⟨none, .ck 2 (.t 6) (.t 5), none⟩] (some [1, 2, 3])) R9
def Sa : J := .seq (.ad [ro 3 (.dH 47)] (some [1, 2, 3])) R_
def Sb : J := .seq (.ad [ro 1 (.dk 43 (.t 0)),
 ro 2 (.dH 47)] (some [1, 2])) Sa
theorem Sc : bS ⟨16, [0]⟩ (Try.f27.body.getD .skip) = some Sb.strip := by kernel_rfl
def Sd : J := .seq (.ad [ro 7 (.ae (.t 0)),
 ro 8 (.ae (.t 1)),
 ro 9 (.aP .geq 2 (.t 7) (.t 8)),
 ro 10 (.ae (.t 9)),
 ⟨some 11, .ae (.t 0), some (10, true)⟩,
 ⟨some 12, .ae (.t 2), some (10, true)⟩,
 ⟨some 13, .aP .leq 2 (.t 11) (.t 12), some (10, true)⟩,
 ro 14 (.pick (.t 10) (.t 13) (.c (.bool false))),
 ro 6 (.an (.t 14))] (some [6])) .ret
def Se : J := .seq (.ad [ro 6 (.an (.c (.bool false)))] (some [0, 1, 2])) Sd
theorem Sf : bS ⟨15, [0, 1, 2]⟩ (Try.f94.body.getD .skip) = some Se.strip := by kernel_rfl
def Sg : J := .cond (.t 7) .skip (.exit 0)
def Sh : J := .seq (.ad [ro 2 (.an (.c (.bool false)))] (some [2])) .ret
def Si : J := .cond (.t 15) Sh .skip
def Sj : J := .ad [ro 8 (.ae (.t 3)),
 ro 9 (.aP .add 3 (.t 8) (.c (.int .i64 1))),
 ro 3 (.an (.t 9))] (some [0, 3])
def Sk : J := .seq (.block 1 (.seq (.ad [ro 10 (.ae (.t 0)),
 ro 11 (.ae (.t 3)),
 ro 12 (.cf 40 (.t 10) (.t 11)),
 ro 13 (.aN 2 (.t 12)),
 ro 14 (.call (.f 94) [(.t 13), (.c (.int .i64 0)), (.c (.int .i64 63))]),
 ro 15 (.un .not (.t 14))] (some [0, 3, 15])) Si)) Sj
def HT : J := .seq (.seq (.ad [ro 4 (.ae (.t 3)),
 ro 5 (.ae (.t 0)),
 ro 6 (.len 40 (.t 5)),
 ro 7 (.aP .lss 3 (.t 4) (.t 6))] (some [0, 3, 7])) Sg) Sk
def Sl : J := .block 0 (.loop HT)
def Sm : J := .seq (.ad [ro 2 (.an (.c (.bool true)))] (some [2])) .ret
def So : J := .seq (.seq (.ad [ro 3 (.an (.c (.int .i64 0)))] (some [0, 3])) Sl) Sm
def Sp : J := .seq (.ad [ro 2 (.an (.c (.bool false)))] (some [0])) So
theorem Sq : bS ⟨16, [0]⟩ (Try.f135.body.getD .skip) = some Sp.strip := by kernel_rfl
def Sr : J := .seq (.ad [ro 5 (.ae (.t 0)),
 ro 6 (.len 40 (.t 5)),
 ro 7 (.ae (.t 1)),
 ro 8 (.aP .eql 2 (.t 6) (.t 7)),
 ro 9 (.ae (.t 8)),
 ⟨some 10, .ae (.t 0), some (9, true)⟩,
 ⟨some 11, .call (.f 135) [(.t 10)], some (9, true)⟩,
 ro 12 (.pick (.t 9) (.t 11) (.c (.bool false))),
 ro 4 (.an (.t 12))] (some [4])) .ret
def Ss : J := .seq (.ad [ro 4 (.an (.c (.bool false)))] (some [0, 1])) Sr
theorem St : bS ⟨13, [0, 1]⟩ (Try.f99.body.getD .skip) = some Ss.strip := by kernel_rfl
def Su : J := .seq (.ad [ro 2 (.an (.c (.int .i64 0)))] (some [2])) .ret
def Sv : J := .cond (.t 7) Su .skip
def Sw : J := .cond (.t 11) .skip (.exit 0)
def Sy : J := .seq (.ad [ro 2 (.an (.c (.int .i64 0)))] (some [2])) .ret
def Sz : J := .cond (.t 19) Sy .skip
def SA : J := .ad [ro 20 (.ae (.t 3)),
 ro 21 (.ae (.t 0)),
 ro 22 (.ae (.t 4)),
 ro 23 (.cf 40 (.t 21) (.t 22)),
 ro 24 (.aN 2 (.t 23)),
 ro 25 (.aP .add 2 (.t 24) (.c (.int .i64 1))),
 ro 26 (.aP .mul 2 (.t 20) (.t 25)),
 ro 3 (.an (.t 26))] (some [0, 3, 4])
def SB : J := .ad [ro 12 (.ae (.t 4)),
 ro 13 (.aP .add 3 (.t 12) (.c (.int .i64 1))),
 ro 4 (.an (.t 13))] (some [0, 3, 4])
def SC : J := .seq (.block 1 (.seq (.seq (.ad [ro 14 (.ae (.t 0)),
 ro 15 (.ae (.t 4)),
 ro 16 (.cf 40 (.t 14) (.t 15)),
 ro 17 (.aN 2 (.t 16)),
 ro 18 (.call (.f 94) [(.t 17), (.c (.int .i64 1)), (.c (.int .i64 7))]),
 ro 19 (.un .not (.t 18))] (some [0, 3, 4, 19])) Sz) SA)) SB
def HU : J := .seq (.seq (.ad [ro 8 (.ae (.t 4)),
 ro 9 (.ae (.t 0)),
 ro 10 (.len 40 (.t 9)),
 ro 11 (.aP .lss 3 (.t 8) (.t 10))] (some [0, 3, 4, 11])) Sw) SC
def SD : J := .block 0 (.loop HU)
def SE : J := .seq (.ad [ro 2 (.an (.c (.int .i64 0)))] (some [2])) .ret
def SF : J := .cond (.t 28) SE .skip
def SG : J := .seq (.ad [ro 29 (.ae (.t 3)),
 ro 2 (.an (.t 29))] (some [2])) .ret
def SH : J := .seq (.seq (.ad [ro 27 (.ae (.t 3)),
 ro 28 (.aP .gtr 2 (.t 27) (.c (.int .i64 4096)))] (some [3, 28])) SF) SG
def SI : J := .seq (.seq (.ad [ro 4 (.an (.c (.int .i64 0)))] (some [0, 3, 4])) SD) SH
def SJ : J := .seq (.ad [ro 3 (.an (.c (.int .i64 1)))] (some [0, 3])) SI
def SK : J := .seq (.seq (.ad [ro 5 (.ae (.t 0)),
 ro 6 (.len 40 (.t 5)),
 ro 7 (.aP .gtr 3 (.t 6) (.c (.int .i64 8)))] (some [0, 7])) Sv) SJ
def SL : J := .seq (.ad [ro 2 (.an (.c (.int .i64 0)))] (some [0])) SK
theorem SM : bS ⟨30, [0]⟩ (Try.f60.body.getD .skip) = some SL.strip := by kernel_rfl
def SN : J := .seq (.ad [ro 11 (.ae (.t 0)),
 ro 12 (.c1 (.t 11)),
 ro 13 (.a5 133 (.t 12) 1),
 ro 14 (.aN 2 (.t 13)),
 ro 15 (.call (.f 94) [(.t 14), (.c (.int .i64 0)), (.c (.int .i64 63))]),
 ro 4 (.an (.t 15))] (some [4])) .ret
def SO : J := .seq (.ad [ro 18 (.ae (.t 0)),
 ro 19 (.c1 (.t 18)),
 ro 20 (.a5 133 (.t 19) 1),
 ro 21 (.aN 2 (.t 20)),
 ro 22 (.ae (.t 1)),
 ro 23 (.aP .sub 2 (.t 22) (.c (.int .i64 1))),
 ro 24 (.call (.f 94) [(.t 21), (.c (.int .i64 0)), (.t 23)]),
 ro 4 (.an (.t 24))] (some [4])) .ret
def SP : J := .seq (.ad [ro 27 (.ae (.t 0)),
 ro 28 (.c1 (.t 27)),
 ro 29 (.a5 133 (.t 28) 1),
 ro 30 (.aN 2 (.t 29)),
 ro 31 (.call (.f 94) [(.t 30), (.c (.int .i64 0)), (.c (.int .i64 8))]),
 ro 4 (.an (.t 31))] (some [4])) .ret
def SQ : J := .seq (.ad [ro 34 (.ae (.t 0)),
 ro 35 (.c1 (.t 34)),
 ro 36 (.a5 133 (.t 35) 1),
 ro 37 (.aN 2 (.t 36)),
 ro 38 (.aP .eql 2 (.t 37) (.c (.int .i64 0))),
 ro 4 (.an (.t 38))] (some [4])) .ret
def SR : J := .cond (.t 32) SQ .skip
def SS : J := .seq (.ad [ro 33 (.aP .eql 2 (.t 8) (.c (.int .i64 3))),
 ro 32 (.an (.t 33))] (some [0, 32])) SR
def SU : J := .cond (.t 25) SP SS
def SV : J := .seq (.ad [ro 26 (.aP .eql 2 (.t 8) (.c (.int .i64 2))),
 ro 25 (.an (.t 26))] (some [0, 8, 25])) SU
def SW : J := .cond (.t 16) SO SV
def SX : J := .seq (.ad [ro 17 (.aP .eql 2 (.t 8) (.c (.int .i64 1))),
 ro 16 (.an (.t 17))] (some [0, 1, 8, 16])) SW
def SY : J := .cond (.t 9) SN SX
def SZ : J := .block 0 (.seq (.ad [ro 10 (.aP .eql 2 (.t 8) (.c (.int .i64 0))),
 ro 9 (.an (.t 10))] (some [0, 1, 8, 9])) SY)
def S0 : J := .seq (.ad [ro 4 (.an (.c (.bool false)))] (some [4])) .ret
def S1 : J := .seq (.seq (.ad [ro 5 (.ae (.t 0)),
 ro 6 (.c1 (.t 5)),
 ro 7 (.a5 133 (.t 6) 0),
 ro 8 (.aN 2 (.t 7))] (some [0, 1, 8])) SZ) S0
def S2 : J := .seq (.ad [ro 4 (.an (.c (.bool false)))] (some [0, 1])) S1
theorem S3 : bS ⟨39, [0, 1]⟩ (Try.f168.body.getD .skip) = some S2.strip := by kernel_rfl
def S4 : J := .seq (.ad [ro 2 (.an (.c (.int .i64 2)))] (some [2])) .ret
def S5 : J := .seq (.ad [ro 2 (.an (.c (.int .i64 1)))] (some [2])) .ret
def S6 : J := .cond (.t 9) S5 .skip
def S7 : J := .seq (.ad [ro 10 (.aP .eql 2 (.t 6) (.c (.int .i64 3))),
 ro 9 (.an (.t 10))] (some [9])) S6
def S8 : J := .cond (.t 7) S4 S7
def S9 : J := .block 0 (.seq (.ad [ro 8 (.aP .eql 2 (.t 6) (.c (.int .i64 2))),
 ro 7 (.an (.t 8))] (some [6, 7])) S8)
def S_ : J := .seq (.ad [ro 2 (.an (.c (.int .i64 0)))] (some [2])) .ret
def Ta : J := .seq (.seq (.ad [ro 3 (.ae (.t 0)),
 ro 4 (.c1 (.t 3)),
 ro 5 (.a5 133 (.t 4) 0),
 ro 6 (.aN 2 (.t 5))] (some [6])) S9) S_
def Tb : J := .seq (.ad [ro 2 (.an (.c (.int .i64 0)))] (some [0])) Ta
theorem Tc : bS ⟨11, [0]⟩ (Try.f169.body.getD .skip) = some Tb.strip := by kernel_rfl
def Td : J := .seq (.ad [ro 6 (.an (.c (.bool false)))] (some [6])) .ret
def Te : J := .cond (.t 12) Td .skip
def Tf : J := .cond (.t 16) .skip (.exit 0)
def Tg : J := .seq (.ad [ro 6 (.an (.c (.bool false)))] (some [6])) .ret
def Th : J := .cond (.t 28) Tg .skip
def Ti : J := .ad [ro 29 (.ae (.t 7)),
 ro 30 (.ae (.t 0)),
 ro 31 (.ae (.t 8)),
 ro 32 (.cf 87 (.t 30) (.t 31)),
 ro 33 (.call (.f 169) [(.t 32)]),
 ro 34 (.aP .sub 2 (.t 33) (.c (.int .i64 1))),
 ro 35 (.aP .add 2 (.t 29) (.t 34)),
 ro 7 (.an (.t 35))] (some [0, 1, 7, 8])
def Tj : J := .ad [ro 17 (.ae (.t 8)),
 ro 18 (.aP .add 3 (.t 17) (.c (.int .i64 1))),
 ro 8 (.an (.t 18))] (some [0, 1, 7, 8])
def Tk : J := .seq (.block 1 (.seq (.seq (.ad [ro 19 (.ae (.t 7)),
 ro 20 (.aP .eql 2 (.t 19) (.c (.int .i64 0))),
 ro 21 (.ae (.t 20)),
 ⟨some 22, .ae (.t 0), some (21, false)⟩,
 ⟨some 23, .ae (.t 8), some (21, false)⟩,
 ⟨some 24, .cf 87 (.t 22) (.t 23), some (21, false)⟩,
 ⟨some 25, .ae (.t 1), some (21, false)⟩,
 ⟨some 26, .call (.f 168) [(.t 24), (.t 25)], some (21, false)⟩,
 ⟨some 27, .un .not (.t 26), some (21, false)⟩,
 ro 28 (.pick (.t 21) (.c (.bool true)) (.t 27))] (some [0, 1, 7, 8, 28])) Th) Ti)) Tj
def HV : J := .seq (.seq (.ad [ro 13 (.ae (.t 8)),
 ro 14 (.ae (.t 0)),
 ro 15 (.len 87 (.t 14)),
 ro 16 (.aP .lss 3 (.t 13) (.t 15))] (some [0, 1, 7, 8, 16])) Tf) Tk
def Tl : J := .block 0 (.loop HV)
def Tm : J := .seq (.ad [ro 36 (.ae (.t 7)),
 ro 37 (.aP .eql 2 (.t 36) (.c (.int .i64 0))),
 ro 6 (.an (.t 37))] (some [6])) .ret
def Tn : J := .seq (.seq (.ad [ro 8 (.an (.c (.int .i64 0)))] (some [0, 1, 7, 8])) Tl) Tm
def To : J := .seq (.ad [ro 7 (.an (.c (.int .i64 1)))] (some [0, 1, 7])) Tn
def Tp : J := .seq (.seq (.ad [ro 9 (.ae (.t 0)),
 ro 10 (.len 87 (.t 9)),
 ro 11 (.ae (.t 2)),
 ro 12 (.aP .gtr 2 (.t 10) (.t 11))] (some [0, 1, 12])) Te) To
def Tq : J := .seq (.ad [ro 6 (.an (.c (.bool false)))] (some [0, 1, 2])) Tp
theorem Tr : bS ⟨38, [0, 1, 2]⟩ (Try.f136.body.getD .skip) = some Tq.strip := by kernel_rfl
def Ts : J := .cond (.t 9) .skip (.exit 0)
def Tt : J := .seq (.ad [ro 4 (.an (.c (.bool false)))] (some [4])) .ret
def Tu : J := .cond (.t 18) Tt .skip
def Tv : J := .ad [ro 10 (.ae (.t 5)),
 ro 11 (.aP .add 3 (.t 10) (.c (.int .i64 1))),
 ro 5 (.an (.t 11))] (some [0, 1, 5])
def Tw : J := .seq (.block 1 (.seq (.ad [ro 12 (.ae (.t 0)),
 ro 13 (.ae (.t 5)),
 ro 14 (.cf 88 (.t 12) (.t 13)),
 ro 15 (.aN 87 (.t 14)),
 ro 16 (.ae (.t 1)),
 ro 17 (.call (.f 136) [(.t 15), (.t 16), (.c (.int .i64 60))]),
 ro 18 (.un .not (.t 17))] (some [0, 1, 5, 18])) Tu)) Tv
def HW : J := .seq (.seq (.ad [ro 6 (.ae (.t 5)),
 ro 7 (.ae (.t 0)),
 ro 8 (.len 88 (.t 7)),
 ro 9 (.aP .lss 3 (.t 6) (.t 8))] (some [0, 1, 5, 9])) Ts) Tw
def Tx : J := .block 0 (.loop HW)
def Ty : J := .seq (.ad [ro 4 (.an (.c (.bool true)))] (some [4])) .ret
def Tz : J := .seq (.seq (.ad [ro 5 (.an (.c (.int .i64 0)))] (some [0, 1, 5])) Tx) Ty
def TA : J := .seq (.ad [ro 4 (.an (.c (.bool false)))] (some [0, 1])) Tz
theorem TB : bS ⟨19, [0, 1]⟩ (Try.f138.body.getD .skip) = some TA.strip := by kernel_rfl
def TC : J := .seq (.ad [ro 3 (.ae (.t 0)),
 ro 4 (.aP .geq 5 (.t 3) (.c (.int .u8 97))),
 ro 5 (.ae (.t 4)),
 ⟨some 6, .ae (.t 0), some (5, true)⟩,
 ⟨some 7, .aP .leq 5 (.t 6) (.c (.int .u8 122)), some (5, true)⟩,
 ro 8 (.pick (.t 5) (.t 7) (.c (.bool false))),
 ro 2 (.an (.t 8))] (some [2])) .ret
def TD : J := .seq (.ad [ro 2 (.an (.c (.bool false)))] (some [0])) TC
theorem TE : bS ⟨9, [0]⟩ (Try.f91.body.getD .skip) = some TD.strip := by kernel_rfl
def TF : J := .seq (.ad [ro 3 (.ae (.t 0)),
 ro 4 (.aP .geq 5 (.t 3) (.c (.int .u8 48))),
 ro 5 (.ae (.t 4)),
 ⟨some 6, .ae (.t 0), some (5, true)⟩,
 ⟨some 7, .aP .leq 5 (.t 6) (.c (.int .u8 57)), some (5, true)⟩,
 ro 8 (.pick (.t 5) (.t 7) (.c (.bool false))),
 ro 2 (.an (.t 8))] (some [2])) .ret
def TG : J := .seq (.ad [ro 2 (.an (.c (.bool false)))] (some [0])) TF
theorem TH : bS ⟨9, [0]⟩ (Try.f92.body.getD .skip) = some TG.strip := by kernel_rfl
def TI : J := .seq (.ad [ro 2 (.an (.c (.bool false)))] (some [2])) .ret
def TJ : J := .cond (.t 16) TI .skip
def TK : J := .cond (.t 20) .skip (.exit 0)
def TL : J := .seq (.ad [ro 2 (.an (.c (.bool false)))] (some [2])) .ret
def TM : J := .cond (.t 34) TL .skip
def TN : J := .ad [ro 21 (.ae (.t 3)),
 ro 22 (.aP .add 3 (.t 21) (.c (.int .i64 1))),
 ro 3 (.an (.t 22))] (some [0, 3])
def TO : J := .seq (.block 1 (.seq (.ad [ro 23 (.ae (.t 0)),
 ro 24 (.ae (.t 3)),
 ro 25 (.idx 9 (.t 23) (.t 24)),
 ro 26 (.call (.f 91) [(.t 25)]),
 ro 27 (.un .not (.t 26)),
 ro 28 (.ae (.t 27)),
 ⟨some 29, .ae (.t 0), some (28, true)⟩,
 ⟨some 30, .ae (.t 3), some (28, true)⟩,
 ⟨some 31, .idx 9 (.t 29) (.t 30), some (28, true)⟩,
 ⟨some 32, .call (.f 92) [(.t 31)], some (28, true)⟩,
 ⟨some 33, .un .not (.t 32), some (28, true)⟩,
 ro 34 (.pick (.t 28) (.t 33) (.c (.bool false)))] (some [0, 3, 34])) TM)) TN
def HX : J := .seq (.seq (.ad [ro 17 (.ae (.t 3)),
 ro 18 (.ae (.t 0)),
 ro 19 (.len 9 (.t 18)),
 ro 20 (.aP .lss 3 (.t 17) (.t 19))] (some [0, 3, 20])) TK) TO
def TP : J := .block 0 (.loop HX)
def TQ : J := .seq (.ad [ro 2 (.an (.c (.bool true)))] (some [2])) .ret
def TR : J := .seq (.seq (.ad [ro 3 (.an (.c (.int .i64 0)))] (some [0, 3])) TP) TQ
def TS : J := .seq (.seq (.ad [ro 4 (.ae (.t 0)),
 ro 5 (.aP .eql 9 (.t 4) (.c (.str []))),
 ro 6 (.ae (.t 5)),
 ⟨some 7, .ae (.t 0), some (6, false)⟩,
 ⟨some 8, .len 9 (.t 7), some (6, false)⟩,
 ⟨some 9, .aP .gtr 3 (.t 8) (.c (.int .i64 10)), some (6, false)⟩,
 ro 10 (.pick (.t 6) (.c (.bool true)) (.t 9)),
 ro 11 (.ae (.t 10)),
 ⟨some 12, .ae (.t 0), some (11, false)⟩,
 ⟨some 13, .idx 9 (.t 12) (.c (.int .i64 0)), some (11, false)⟩,
 ⟨some 14, .call (.f 91) [(.t 13)], some (11, false)⟩,
 ⟨some 15, .un .not (.t 14), some (11, false)⟩,
 ro 16 (.pick (.t 11) (.c (.bool true)) (.t 15))] (some [0, 16])) TJ) TR
def TT : J := .seq (.ad [ro 2 (.an (.c (.bool false)))] (some [0])) TS
theorem TU : bS ⟨35, [0]⟩ (Try.f52.body.getD .skip) = some TT.strip := by kernel_rfl
def TV : J := .seq (.ad [ro 3 (.ae (.t 0)),
 ro 4 (.call (.f 52) [(.t 3)]),
 ro 5 (.ae (.t 4)),
 ⟨some 6, .ae (.t 0), some (5, true)⟩,
 ⟨some 7, .aP .neq 9 (.t 6) (.c (.str [116, 97, 117])), some (5, true)⟩,
 ro 8 (.pick (.t 5) (.t 7) (.c (.bool false))),
 ro 2 (.an (.t 8))] (some [2])) .ret
def TW : J := .seq (.ad [ro 2 (.an (.c (.bool false)))] (some [0])) TV
theorem TX : bS ⟨9, [0]⟩ (Try.f137.body.getD .skip) = some TW.strip := by kernel_rfl
def TY : J := .seq (.ad [ro 4 (.an (.c (.bool false)))] (some [4])) .ret
def TZ : J := .cond (.t 11) TY .skip
def T0 : J := .seq (.ad [ro 4 (.an (.c (.bool false)))] (some [4])) .ret
def T1 : J := .cond (.t 34) T0 .skip
def T2 : J := .seq (.ad [ro 4 (.an (.c (.bool false)))] (some [4])) .ret
def T3 : J := .cond (.t 70) T2 .skip
def T4 : J := .seq (.ad [ro 71 (.ae (.t 0)),
 ro 72 (.c1 (.t 71)),
 ro 73 (.a5 90 (.t 72) 3),
 ro 74 (.aN 88 (.t 73)),
 ro 75 (.ae (.t 5)),
 ro 76 (.call (.f 138) [(.t 74), (.t 75)]),
 ro 77 (.ae (.t 76)),
 ⟨some 78, .ae (.t 0), some (77, true)⟩,
 ⟨some 79, .c1 (.t 78), some (77, true)⟩,
 ⟨some 80, .a5 90 (.t 79) 4, some (77, true)⟩,
 ⟨some 81, .aN 88 (.t 80), some (77, true)⟩,
 ⟨some 82, .ae (.t 5), some (77, true)⟩,
 ⟨some 83, .call (.f 138) [(.t 81), (.t 82)], some (77, true)⟩,
 ro 84 (.pick (.t 77) (.t 83) (.c (.bool false))),
 ro 4 (.an (.t 84))] (some [4])) .ret
def T5 : J := .seq (.seq (.ad [ro 35 (.ae (.t 0)),
 ro 36 (.c1 (.t 35)),
 ro 37 (.a5 90 (.t 36) 2),
 ro 38 (.aN 9 (.t 37)),
 ro 39 (.aP .eql 9 (.t 38) (.c (.str [116, 97, 117]))),
 ro 40 (.ae (.t 39)),
 ⟨some 41, .ae (.t 0), some (40, true)⟩,
 ⟨some 42, .c1 (.t 41), some (40, true)⟩,
 ⟨some 43, .a5 90 (.t 42) 3, some (40, true)⟩,
 ⟨some 44, .aN 88 (.t 43), some (40, true)⟩,
 ⟨some 45, .len 88 (.t 44), some (40, true)⟩,
 ⟨some 46, .aP .gtr 3 (.t 45) (.c (.int .i64 0)), some (40, true)⟩,
 ro 47 (.pick (.t 40) (.t 46) (.c (.bool false))),
 ro 48 (.ae (.t 47)),
 ⟨some 49, .ae (.t 0), some (48, false)⟩,
 ⟨some 50, .c1 (.t 49), some (48, false)⟩,
 ⟨some 51, .a5 90 (.t 50) 2, some (48, false)⟩,
 ⟨some 52, .aN 9 (.t 51), some (48, false)⟩,
 ⟨some 53, .aP .neq 9 (.t 52) (.c (.str [116, 97, 117])), some (48, false)⟩,
 ⟨some 54, .ae (.t 53), some (48, false)⟩,
 ⟨some 55, .ae (.t 0), some (54, true)⟩,
 ⟨some 56, .c1 (.t 55), some (54, true)⟩,
 ⟨some 57, .a5 90 (.t 56) 2, some (54, true)⟩,
 ⟨some 58, .aN 9 (.t 57), some (54, true)⟩,
 ⟨some 59, .call (.f 137) [(.t 58)], some (54, true)⟩,
 ⟨some 60, .un .not (.t 59), some (54, true)⟩,
 ⟨some 61, .pick (.t 54) (.t 60) (.c (.bool false)), some (48, false)⟩,
 ro 62 (.pick (.t 48) (.c (.bool true)) (.t 61)),
 ro 63 (.ae (.t 62)),
 ⟨some 64, .ae (.t 0), some (63, false)⟩,
 ⟨some 65, .c1 (.t 64), some (63, false)⟩,
 ⟨some 66, .a5 90 (.t 65) 3, some (63, false)⟩,
 ⟨some 67, .aN 88 (.t 66), some (63, false)⟩,
 ⟨some 68, .len 88 (.t 67), some (63, false)⟩,
 ⟨some 69, .aP .gtr 3 (.t 68) (.c (.int .i64 2)), some (63, false)⟩,
 ro 70 (.pick (.t 63) (.c (.bool true)) (.t 69))] (some [0, 5, 70])) T3) T4
def T6 : J := .seq (.seq (.ad [ro 19 (.ae (.t 0)),
 ro 20 (.c1 (.t 19)),
 ro 21 (.a5 90 (.t 20) 1),
 ro 22 (.aN 87 (.t 21)),
 ro 23 (.ae (.t 5)),
 ro 24 (.call (.f 136) [(.t 22), (.t 23), (.c (.int .i64 60))]),
 ro 25 (.un .not (.t 24)),
 ro 26 (.ae (.t 25)),
 ⟨some 27, .ae (.t 0), some (26, false)⟩,
 ⟨some 28, .c1 (.t 27), some (26, false)⟩,
 ⟨some 29, .a5 90 (.t 28) 4, some (26, false)⟩,
 ⟨some 30, .aN 88 (.t 29), some (26, false)⟩,
 ⟨some 31, .len 88 (.t 30), some (26, false)⟩,
 ⟨some 32, .ae (.t 1), some (26, false)⟩,
 ⟨some 33, .aP .neq 2 (.t 31) (.t 32), some (26, false)⟩,
 ro 34 (.pick (.t 26) (.c (.bool true)) (.t 33))] (some [0, 5, 34])) T1) T5
def T7 : J := .seq (.ad [ro 12 (.ae (.t 1)),
 ro 13 (.ae (.t 0)),
 ro 14 (.c1 (.t 13)),
 ro 15 (.a5 90 (.t 14) 0),
 ro 16 (.aN 40 (.t 15)),
 ro 17 (.len 40 (.t 16)),
 ro 18 (.aP .add 2 (.t 12) (.t 17)),
 ro 5 (.an (.t 18))] (some [0, 1, 5])) T6
def T8 : J := .seq (.seq (.ad [ro 6 (.ae (.t 0)),
 ro 7 (.c1 (.t 6)),
 ro 8 (.a5 90 (.t 7) 0),
 ro 9 (.aN 40 (.t 8)),
 ro 10 (.call (.f 60) [(.t 9)]),
 ro 11 (.aP .eql 2 (.t 10) (.c (.int .i64 0)))] (some [0, 1, 11])) TZ) T7
def T9 : J := .seq (.ad [ro 4 (.an (.c (.bool false)))] (some [0, 1])) T8
theorem T_ : bS ⟨85, [0, 1]⟩ (Try.f100.body.getD .skip) = some T9.strip := by kernel_rfl
def Ua : J := .seq (.ad [ro 2 (.an (.c (.bool false)))] (some [2])) .ret
def Ub : J := .cond (.t 29) Ua .skip
def Uc : J := .cond (.t 36) .skip (.exit 0)
def Ud : J := .seq (.ad [ro 2 (.an (.c (.bool false)))] (some [2])) .ret
def Ue : J := .cond (.t 50) Ud .skip
def Uf : J := .ad [ro 37 (.ae (.t 3)),
 ro 38 (.aP .add 3 (.t 37) (.c (.int .i64 1))),
 ro 3 (.an (.t 38))] (some [0, 3])
def Ug : J := .seq (.block 1 (.seq (.fA [ro 39 (.ae (.t 0)),
 ro 40 (.c1 (.t 39)),
 ro 41 (.a5 47 (.t 40) 2),
 ro 42 (.aN 45 (.t 41)),
 ro 43 (.ae (.t 3)),
 ro 44 (.cf 45 (.t 42) (.t 43)),
 ro 45 (.ae (.t 0)),
 ro 46 (.c1 (.t 45)),
 ro 47 (.a5 47 (.t 46) 0),
 ro 48 (.aN 2 (.t 47)),
 ro 49 (.call (.f 100) [(.t 44), (.t 48)]),
 ro 50 (.un .not (.t 49))] [[], [0], [1], [2], [], [3, 4], [], [6], [7], [8], [5, 9], [10]] (some [0, 3, 50])) Ue)) Uf
def HY : J := .seq (.seq (.ad [ro 30 (.ae (.t 3)),
 ro 31 (.ae (.t 0)),
 ro 32 (.c1 (.t 31)),
 ro 33 (.a5 47 (.t 32) 2),
 ro 34 (.aN 45 (.t 33)),
 ro 35 (.len 45 (.t 34)),
 ro 36 (.aP .lss 3 (.t 30) (.t 35))] (some [0, 3, 36])) Uc) Ug
def Uh : J := .block 0 (.loop HY)
def Ui : J := .seq (.ad [ro 2 (.an (.c (.bool true)))] (some [2])) .ret
def Uj : J := .seq (.seq (.ad [ro 3 (.an (.c (.int .i64 0)))] (some [0, 3])) Uh) Ui
def Uk : J := .seq (.seq (.fA [ro 4 (.ae (.t 0)),
 ro 5 (.c1 (.t 4)),
 ro 6 (.a5 47 (.t 5) 0),
 ro 7 (.aN 2 (.t 6)),
 ro 8 (.call (.f 94) [(.t 7), (.c (.int .i64 0)), (.c (.int .i64 21))]),
 ro 9 (.un .not (.t 8)),
 ro 10 (.ae (.t 9)),
 ⟨some 11, .ae (.t 0), some (10, false)⟩,
 ⟨some 12, .c1 (.t 11), some (10, false)⟩,
 ⟨some 13, .a5 47 (.t 12) 1, some (10, false)⟩,
 ⟨some 14, .aN 40 (.t 13), some (10, false)⟩,
 ⟨some 15, .ae (.t 0), some (10, false)⟩,
 ⟨some 16, .c1 (.t 15), some (10, false)⟩,
 ⟨some 17, .a5 47 (.t 16) 0, some (10, false)⟩,
 ⟨some 18, .aN 2 (.t 17), some (10, false)⟩,
 ⟨some 19, .call (.f 99) [(.t 14), (.t 18)], some (10, false)⟩,
 ⟨some 20, .un .not (.t 19), some (10, false)⟩,
 ro 21 (.pick (.t 10) (.c (.bool true)) (.t 20)),
 ro 22 (.ae (.t 21)),
 ⟨some 23, .ae (.t 0), some (22, false)⟩,
 ⟨some 24, .c1 (.t 23), some (22, false)⟩,
 ⟨some 25, .a5 47 (.t 24) 2, some (22, false)⟩,
 ⟨some 26, .aN 45 (.t 25), some (22, false)⟩,
 ⟨some 27, .len 45 (.t 26), some (22, false)⟩,
 ⟨some 28, .aP .gtr 3 (.t 27) (.c (.int .i64 60)), some (22, false)⟩,
 ro 29 (.pick (.t 22) (.c (.bool true)) (.t 28))] [[], [0], [1], [2], [3], [4], [5, 4], [6], [7, 6], [8, 6], [9, 6], [6], [11, 6], [12, 6], [13, 6], [10, 14, 6, 6], [15, 6], [6, 16], [17, 15], [18], [19, 18], [20, 18], [21, 18], [22, 18], [23, 18], [18, 24]] (some [0, 29])) Ub) Uj
def Ul : J := .seq (.ad [ro 2 (.an (.c (.bool false)))] (some [0])) Uk
theorem Um : bS ⟨51, [0]⟩ (Try.f59.body.getD .skip) = some Ul.strip := by kernel_rfl
def Un : J := .seq (.ad [ro 3 (.cE 40 0 []),
 ro 4 (.ae (.t 0)),
 ro 5 (.app 40 40 (.t 3) (.t 4)),
 ro 2 (.an (.t 5))] (some [2])) .ret
def Uo : J := .seq (.ad [ro 2 (.an (.c .af))] (some [0])) Un
theorem Up : bS ⟨6, [0]⟩ (Try.f61.body.getD .skip) = some Uo.strip := by kernel_rfl
def Uq : J := .seq (.ad [ro 3 (.cE 87 0 []),
 ro 4 (.ae (.t 0)),
 ro 5 (.app 87 87 (.t 3) (.t 4)),
 ro 2 (.an (.t 5))] (some [2])) .ret
def Ur : J := .seq (.ad [ro 2 (.an (.c .af))] (some [0])) Uq
theorem Us : bS ⟨6, [0]⟩ (Try.f101.body.getD .skip) = some Ur.strip := by kernel_rfl
def Ut : J := .cond (.t 9) .skip (.exit 0)
def Uu : J := .ad [ro 10 (.ae (.t 4)),
 ro 11 (.aP .add 3 (.t 10) (.c (.int .i64 1))),
 ro 4 (.an (.t 11))] (some [0, 3, 4])
def Uv : J := .seq (.block 1 (.ad [ro 12 (.ae (.t 3)),
 ro 13 (.ae (.t 0)),
 ro 14 (.ae (.t 4)),
 ro 15 (.cf 88 (.t 13) (.t 14)),
 ro 16 (.aN 87 (.t 15)),
 ro 17 (.call (.f 101) [(.t 16)]),
 ro 18 (.cE 88 1 [(0, (.t 17))]),
 ro 19 (.app 88 88 (.t 12) (.t 18)),
 ro 3 (.an (.t 19))] (some [0, 3, 4]))) Uu
def HZ : J := .seq (.seq (.ad [ro 6 (.ae (.t 4)),
 ro 7 (.ae (.t 0)),
 ro 8 (.len 88 (.t 7)),
 ro 9 (.aP .lss 3 (.t 6) (.t 8))] (some [0, 3, 4, 9])) Ut) Uv
def Uw : J := .block 0 (.loop HZ)
def Ux : J := .seq (.ad [ro 20 (.ae (.t 3)),
 ro 2 (.an (.t 20))] (some [2])) .ret
def Uy : J := .seq (.seq (.ad [ro 4 (.an (.c (.int .i64 0)))] (some [0, 3, 4])) Uw) Ux
def Uz : J := .seq (.ad [ro 5 (.cE 88 0 []),
 ro 3 (.an (.t 5))] (some [0, 3])) Uy
def UA : J := .seq (.ad [ro 2 (.an (.c .af))] (some [0])) Uz
theorem UB : bS ⟨21, [0]⟩ (Try.f178.body.getD .skip) = some UA.strip := by kernel_rfl
def UC : J := .seq (.ad [ro 31 (.aN 90 (.t 3)),
 ⟨none, .ck 90 (.t 2) (.t 31), none⟩] (some [2])) .ret
def UD : J := .seq (.ad [ro 25 (.ae (.t 0)),
 ro 26 (.c1 (.t 25)),
 ro 27 (.a5 90 (.t 26) 4),
 ro 28 (.aN 88 (.t 27)),
 ro 29 (.call (.f 178) [(.t 28)]),
 ro 30 (.a5 90 (.t 3) 4),
 ⟨none, .ck 88 (.t 30) (.t 29), none⟩] (some [2, 3])) UC
def UE : J := .seq (.ad [ro 19 (.ae (.t 0)),
 ro 20 (.c1 (.t 19)),
 ro 21 (.a5 90 (.t 20) 3),
 ro 22 (.aN 88 (.t 21)),
 ro 23 (.call (.f 178) [(.t 22)]),
 ro 24 (.a5 90 (.t 3) 3),
 ⟨none, .ck 88 (.t 24) (.t 23), none⟩] (some [0, 2, 3])) UD
def UF : J := .seq (.fA [ro 4 (.ae (.t 0)),
 ro 5 (.c1 (.t 4)),
 ro 6 (.a5 90 (.t 5) 0),
 ro 7 (.aN 40 (.t 6)),
 ro 8 (.call (.f 61) [(.t 7)]),
 ro 9 (.ae (.t 0)),
 ro 10 (.c1 (.t 9)),
 ro 11 (.a5 90 (.t 10) 1),
 ro 12 (.aN 87 (.t 11)),
 ro 13 (.call (.f 101) [(.t 12)]),
 ro 14 (.ae (.t 0)),
 ro 15 (.c1 (.t 14)),
 ro 16 (.a5 90 (.t 15) 2),
 ro 17 (.aN 9 (.t 16)),
 ro 18 (.ed 90 [(0, (.t 8)), (1, (.t 13)), (2, (.t 17))]),
 ro 3 (.dH 90),
 ⟨none, .ck 90 (.t 3) (.t 18), none⟩] [[], [0], [1], [2], [3], [], [5], [6], [7], [8, 4], [], [10], [11], [12], [4, 9, 13], [], [15, 14, 9, 0, 1, 2, 3, 4, 5, 6, 7, 8, 9, 10, 11, 12, 13, 14, 15]] (some [0, 2, 3])) UE
def UG : J := .seq (.ad [ro 2 (.dH 90)] (some [0, 2])) UF
theorem UH : bS ⟨32, [0]⟩ (Try.f151.body.getD .skip) = some UG.strip := by kernel_rfl
def UI : J := .cond (.t 14) .skip (.exit 0)
def UJ : J := .ad [ro 32 (.ae (.t 7)),
 ro 33 (.ae (.t 8)),
 ro 34 (.cf 87 (.t 32) (.t 33)),
 ro 35 (.a5 133 (.t 34) 1),
 ro 36 (.aN 2 (.t 35)),
 ro 37 (.ae (.t 2)),
 ro 38 (.aP .add 2 (.t 36) (.t 37)),
 ro 39 (.cf 87 (.t 32) (.t 33)),
 ro 40 (.a5 133 (.t 39) 1),
 ⟨none, .ck 2 (.t 40) (.t 38), none⟩] (some [1, 2, 7, 8])
def UK : J := .cond (.t 31) UJ .skip
def H0 : J := .ad [ro 15 (.ae (.t 8)),
 ro 16 (.aP .add 3 (.t 15) (.c (.int .i64 1))),
 ro 8 (.an (.t 16))] (some [1, 2, 7, 8])
def UL : J := .seq (.block 1 (.seq (.ad [ro 17 (.ae (.t 7)),
 ro 18 (.ae (.t 8)),
 ro 19 (.cf 87 (.t 17) (.t 18)),
 ro 20 (.a5 133 (.t 19) 0),
 ro 21 (.aN 2 (.t 20)),
 ro 22 (.aP .eql 2 (.t 21) (.c (.int .i64 1))),
 ro 23 (.ae (.t 22)),
 ⟨some 24, .ae (.t 7), some (23, true)⟩,
 ⟨some 25, .ae (.t 8), some (23, true)⟩,
 ⟨some 26, .cf 87 (.t 24) (.t 25), some (23, true)⟩,
 ⟨some 27, .a5 133 (.t 26) 1, some (23, true)⟩,
 ⟨some 28, .aN 2 (.t 27), some (23, true)⟩,
 ⟨some 29, .ae (.t 1), some (23, true)⟩,
 ⟨some 30, .aP .geq 2 (.t 28) (.t 29), some (23, true)⟩,
 ro 31 (.pick (.t 23) (.t 30) (.c (.bool false)))] (some [1, 2, 7, 8, 31])) UK)) H0
def H2 : J := .seq (.seq (.ad [ro 11 (.ae (.t 8)),
 ro 12 (.ae (.t 7)),
 ro 13 (.len 87 (.t 12)),
 ro 14 (.aP .lss 3 (.t 11) (.t 13))] (some [1, 2, 7, 8, 14])) UI) UL
def UM : J := .block 0 (.loop H2)
def UN : J := .seq (.ad [ro 41 (.ae (.t 7)),
 ro 6 (.an (.t 41))] (some [6])) .ret
def UO : J := .seq (.seq (.ad [ro 8 (.an (.c (.int .i64 0)))] (some [1, 2, 7, 8])) UM) UN
def UP : J := .seq (.ad [ro 9 (.ae (.t 0)),
 ro 10 (.call (.f 101) [(.t 9)]),
 ro 7 (.an (.t 10))] (some [1, 2, 7])) UO
def UQ : J := .seq (.ad [ro 6 (.an (.c .af))] (some [0, 1, 2])) UP
theorem UR : bS ⟨42, [0, 1, 2]⟩ (Try.f152.body.getD .skip) = some UQ.strip := by kernel_rfl
def US : J := .cond (.t 26) .skip (.exit 0)
def UT : J := .ad [ro 27 (.ae (.t 8)),
 ro 28 (.aP .add 3 (.t 27) (.c (.int .i64 1))),
 ro 8 (.an (.t 28))] (some [0, 1, 2, 6, 7, 8])
def UU : J := .seq (.block 1 (.fA [ro 29 (.a5 90 (.t 7) 3),
 ro 30 (.aN 88 (.t 29)),
 ro 31 (.ae (.t 8)),
 ro 32 (.ae (.t 0)),
 ro 33 (.c1 (.t 32)),
 ro 34 (.a5 90 (.t 33) 3),
 ro 35 (.aN 88 (.t 34)),
 ro 36 (.ae (.t 8)),
 ro 37 (.cf 88 (.t 35) (.t 36)),
 ro 38 (.aN 87 (.t 37)),
 ro 39 (.ae (.t 1)),
 ro 40 (.ae (.t 2)),
 ro 41 (.call (.f 152) [(.t 38), (.t 39), (.t 40)]),
 ro 42 (.cf 88 (.t 30) (.t 31)),
 ⟨none, .ck 87 (.t 42) (.t 41), none⟩] [[], [0], [], [], [3], [4], [5], [], [6, 7], [8], [], [], [9, 10, 11], [1, 2, 0, 1, 2, 3, 4, 5, 6, 7, 8, 9, 10, 11, 12], [13, 12, 12, 0, 1, 2, 3, 4, 5, 6, 7, 8, 9, 10, 11, 12]] (some [0, 1, 2, 6, 7, 8]))) UT
def H3 : J := .seq (.seq (.ad [ro 20 (.ae (.t 8)),
 ro 21 (.ae (.t 0)),
 ro 22 (.c1 (.t 21)),
 ro 23 (.a5 90 (.t 22) 3),
 ro 24 (.aN 88 (.t 23)),
 ro 25 (.len 88 (.t 24)),
 ro 26 (.aP .lss 3 (.t 20) (.t 25))] (some [0, 1, 2, 6, 7, 8, 26])) US) UU
def UW : J := .block 0 (.loop H3)
def UX : J := .cond (.t 49) .skip (.exit 2)
def UY : J := .ad [ro 50 (.ae (.t 9)),
 ro 51 (.aP .add 3 (.t 50) (.c (.int .i64 1))),
 ro 9 (.an (.t 51))] (some [0, 1, 2, 6, 7, 9])
def UZ : J := .seq (.block 3 (.fA [ro 52 (.a5 90 (.t 7) 4),
 ro 53 (.aN 88 (.t 52)),
 ro 54 (.ae (.t 9)),
 ro 55 (.ae (.t 0)),
 ro 56 (.c1 (.t 55)),
 ro 57 (.a5 90 (.t 56) 4),
 ro 58 (.aN 88 (.t 57)),
 ro 59 (.ae (.t 9)),
 ro 60 (.cf 88 (.t 58) (.t 59)),
 ro 61 (.aN 87 (.t 60)),
 ro 62 (.ae (.t 1)),
 ro 63 (.ae (.t 2)),
 ro 64 (.call (.f 152) [(.t 61), (.t 62), (.t 63)]),
 ro 65 (.cf 88 (.t 53) (.t 54)),
 ⟨none, .ck 87 (.t 65) (.t 64), none⟩] [[], [0], [], [], [3], [4], [5], [], [6, 7], [8], [], [], [9, 10, 11], [1, 2, 0, 1, 2, 3, 4, 5, 6, 7, 8, 9, 10, 11, 12], [13, 12, 12, 0, 1, 2, 3, 4, 5, 6, 7, 8, 9, 10, 11, 12]] (some [0, 1, 2, 6, 7, 9]))) UY
def H4 : J := .seq (.seq (.ad [ro 43 (.ae (.t 9)),
 ro 44 (.ae (.t 0)),
 ro 45 (.c1 (.t 44)),
 ro 46 (.a5 90 (.t 45) 4),
 ro 47 (.aN 88 (.t 46)),
 ro 48 (.len 88 (.t 47)),
 ro 49 (.aP .lss 3 (.t 43) (.t 48))] (some [0, 1, 2, 6, 7, 9, 49])) UX) UZ
def U0 : J := .block 2 (.loop H4)
def U1 : J := .seq (.ad [ro 66 (.aN 90 (.t 7)),
 ⟨none, .ck 90 (.t 6) (.t 66), none⟩] (some [6])) .ret
def U2 : J := .seq (.seq (.ad [ro 9 (.an (.c (.int .i64 0)))] (some [0, 1, 2, 6, 7, 9])) U0) U1
def U3 : J := .seq (.seq (.ad [ro 8 (.an (.c (.int .i64 0)))] (some [0, 1, 2, 6, 7, 8])) UW) U2
def U4 : J := .seq (.ad [ro 12 (.ae (.t 0)),
 ro 13 (.c1 (.t 12)),
 ro 14 (.a5 90 (.t 13) 1),
 ro 15 (.aN 87 (.t 14)),
 ro 16 (.ae (.t 1)),
 ro 17 (.ae (.t 2)),
 ro 18 (.call (.f 152) [(.t 15), (.t 16), (.t 17)]),
 ro 19 (.a5 90 (.t 7) 1),
 ⟨none, .ck 87 (.t 19) (.t 18), none⟩] (some [0, 1, 2, 6, 7])) U3
def U5 : J := .seq (.ad [ro 10 (.ae (.t 0)),
 ro 11 (.call (.f 151) [(.t 10)]),
 ro 7 (.dH 90),
 ⟨none, .ck 90 (.t 7) (.t 11), none⟩] (some [0, 1, 2, 6, 7])) U4
def U6 : J := .seq (.ad [ro 6 (.dH 90)] (some [0, 1, 2, 6])) U5
theorem U7 : bS ⟨67, [0, 1, 2]⟩ (Try.f113.body.getD .skip) = some U6.strip := by kernel_rfl
def U8 : J := .seq (.ad [ro 3 (.ae (.t 0)),
 ro 4 (.ed 133 [(0, (.c (.int .i64 1))), (1, (.t 3))]),
 ro 5 (.cE 87 1 [(0, (.t 4))]),
 ro 2 (.an (.t 5))] (some [2])) .ret
def U9 : J := .seq (.ad [ro 2 (.an (.c .af))] (some [0])) U8
theorem U_ : bS ⟨6, [0]⟩ (Try.f153.body.getD .skip) = some U9.strip := by kernel_rfl
def Va : J := .cond (.t 10) .skip (.exit 0)
def Vb : J := .ad [ro 11 (.ae (.t 6)),
 ro 12 (.aP .add 2 (.t 11) (.c (.int .i64 1))),
 ro 6 (.an (.t 12))] (some [0, 1, 5, 6])
def Vc : J := .seq (.block 1 (.ad [ro 13 (.ae (.t 5)),
 ro 14 (.ae (.t 0)),
 ro 15 (.ae (.t 6)),
 ro 16 (.aP .add 2 (.t 14) (.t 15)),
 ro 17 (.call (.f 153) [(.t 16)]),
 ro 18 (.cE 88 1 [(0, (.t 17))]),
 ro 19 (.app 88 88 (.t 13) (.t 18)),
 ro 5 (.an (.t 19))] (some [0, 1, 5, 6]))) Vb
def H5 : J := .seq (.seq (.ad [ro 8 (.ae (.t 6)),
 ro 9 (.ae (.t 1)),
 ro 10 (.aP .lss 2 (.t 8) (.t 9))] (some [0, 1, 5, 6, 10])) Va) Vc
def Vd : J := .block 0 (.loop H5)
def Ve : J := .seq (.ad [ro 20 (.ae (.t 5)),
 ro 4 (.an (.t 20))] (some [4])) .ret
def Vf : J := .seq (.seq (.ad [ro 6 (.an (.c (.int .i64 0)))] (some [0, 1, 5, 6])) Vd) Ve
def Vg : J := .seq (.ad [ro 7 (.cE 88 0 []),
 ro 5 (.an (.t 7))] (some [0, 1, 5])) Vf
def Vh : J := .seq (.ad [ro 4 (.an (.c .af))] (some [0, 1])) Vg
theorem Vi : bS ⟨21, [0, 1]⟩ (Try.f114.body.getD .skip) = some Vh.strip := by kernel_rfl
def Vj : J := .cond (.t 38) .skip (.exit 0)
def Vk : J := .ad [ro 69 (.a5 47 (.t 5) 2),
 ro 70 (.aN 45 (.t 69)),
 ro 71 (.aN 90 (.t 7)),
 ro 72 (.cE 45 1 [(0, (.t 71))]),
 ro 73 (.app 45 45 (.t 70) (.t 72)),
 ro 74 (.a5 47 (.t 5) 2),
 ⟨none, .ck 45 (.t 74) (.t 73), none⟩] (some [0, 1, 4, 5, 6])
def Vl : J := .seq (.fA [ro 56 (.a5 90 (.t 7) 4),
 ro 57 (.aN 88 (.t 56)),
 ro 58 (.ae (.t 0)),
 ro 59 (.c1 (.t 58)),
 ro 60 (.a5 47 (.t 59) 0),
 ro 61 (.aN 2 (.t 60)),
 ro 62 (.ae (.t 1)),
 ro 63 (.c1 (.t 62)),
 ro 64 (.a5 47 (.t 63) 0),
 ro 65 (.aN 2 (.t 64)),
 ro 66 (.call (.f 114) [(.t 61), (.t 65)]),
 ro 67 (.app 88 88 (.t 57) (.t 66)),
 ro 68 (.a5 90 (.t 7) 4),
 ⟨none, .ck 88 (.t 68) (.t 67), none⟩] [[], [0], [], [2], [3], [4], [], [6], [7], [8], [5, 9], [1, 10, 10], [0, 1, 2, 3, 4, 5, 6, 7, 8, 9, 10, 11], [12, 11, 11, 0, 1, 2, 3, 4, 5, 6, 7, 8, 9, 10, 11]] (some [0, 1, 4, 5, 6, 7])) Vk
def Vm : J := .ad [ro 39 (.ae (.t 6)),
 ro 40 (.aP .add 3 (.t 39) (.c (.int .i64 1))),
 ro 6 (.an (.t 40))] (some [0, 1, 4, 5, 6])
def Vn : J := .seq (.block 1 (.seq (.fA [ro 41 (.ae (.t 0)),
 ro 42 (.c1 (.t 41)),
 ro 43 (.a5 47 (.t 42) 2),
 ro 44 (.aN 45 (.t 43)),
 ro 45 (.ae (.t 6)),
 ro 46 (.cf 45 (.t 44) (.t 45)),
 ro 47 (.ae (.t 0)),
 ro 48 (.c1 (.t 47)),
 ro 49 (.a5 47 (.t 48) 0),
 ro 50 (.aN 2 (.t 49)),
 ro 51 (.ae (.t 1)),
 ro 52 (.c1 (.t 51)),
 ro 53 (.a5 47 (.t 52) 0),
 ro 54 (.aN 2 (.t 53)),
 ro 55 (.call (.f 113) [(.t 46), (.t 50), (.t 54)]),
 ro 7 (.dH 90),
 ⟨none, .ck 90 (.t 7) (.t 55), none⟩] [[], [0], [1], [2], [], [3, 4], [], [6], [7], [8], [], [10], [11], [12], [5, 9, 13], [], [15, 14, 14, 0, 1, 2, 3, 4, 5, 6, 7, 8, 9, 10, 11, 12, 13, 14, 15]] (some [0, 1, 4, 5, 6, 7])) Vl)) Vm
def H6 : J := .seq (.seq (.ad [ro 32 (.ae (.t 6)),
 ro 33 (.ae (.t 0)),
 ro 34 (.c1 (.t 33)),
 ro 35 (.a5 47 (.t 34) 2),
 ro 36 (.aN 45 (.t 35)),
 ro 37 (.len 45 (.t 36)),
 ro 38 (.aP .lss 3 (.t 32) (.t 37))] (some [0, 1, 4, 5, 6, 38])) Vj) Vn
def Vo : J := .block 0 (.loop H6)
def Vp : J := .cond (.t 81) .skip (.exit 2)
def Vq : J := .ad [ro 104 (.a5 47 (.t 5) 2),
 ro 105 (.aN 45 (.t 104)),
 ro 106 (.aN 90 (.t 9)),
 ro 107 (.cE 45 1 [(0, (.t 106))]),
 ro 108 (.app 45 45 (.t 105) (.t 107)),
 ro 109 (.a5 47 (.t 5) 2),
 ⟨none, .ck 45 (.t 109) (.t 108), none⟩] (some [0, 1, 4, 5, 8])
def Vr : J := .seq (.fA [ro 95 (.ae (.t 0)),
 ro 96 (.c1 (.t 95)),
 ro 97 (.a5 47 (.t 96) 0),
 ro 98 (.aN 2 (.t 97)),
 ro 99 (.call (.f 114) [(.c (.int .i64 0)), (.t 98)]),
 ro 100 (.a5 90 (.t 9) 4),
 ro 101 (.aN 88 (.t 100)),
 ro 102 (.app 88 88 (.t 99) (.t 101)),
 ro 103 (.a5 90 (.t 9) 4),
 ⟨none, .ck 88 (.t 103) (.t 102), none⟩] [[], [0], [1], [2], [3], [], [5], [4, 6, 4], [0, 1, 2, 3, 4, 5, 6, 7], [8, 7, 7, 0, 1, 2, 3, 4, 5, 6, 7]] (some [0, 1, 4, 5, 8, 9])) Vq
def Vs : J := .ad [ro 82 (.ae (.t 8)),
 ro 83 (.aP .add 3 (.t 82) (.c (.int .i64 1))),
 ro 8 (.an (.t 83))] (some [0, 1, 4, 5, 8])
def Vt : J := .seq (.block 3 (.seq (.fA [ro 84 (.ae (.t 1)),
 ro 85 (.c1 (.t 84)),
 ro 86 (.a5 47 (.t 85) 2),
 ro 87 (.aN 45 (.t 86)),
 ro 88 (.ae (.t 8)),
 ro 89 (.cf 45 (.t 87) (.t 88)),
 ro 90 (.ae (.t 0)),
 ro 91 (.c1 (.t 90)),
 ro 92 (.a5 47 (.t 91) 0),
 ro 93 (.aN 2 (.t 92)),
 ro 94 (.call (.f 113) [(.t 89), (.c (.int .i64 0)), (.t 93)]),
 ro 9 (.dH 90),
 ⟨none, .ck 90 (.t 9) (.t 94), none⟩] [[], [0], [1], [2], [], [3, 4], [], [6], [7], [8], [5, 9], [], [11, 10, 10, 0, 1, 2, 3, 4, 5, 6, 7, 8, 9, 10, 11]] (some [0, 1, 4, 5, 8, 9])) Vr)) Vs
def H7 : J := .seq (.seq (.ad [ro 75 (.ae (.t 8)),
 ro 76 (.ae (.t 1)),
 ro 77 (.c1 (.t 76)),
 ro 78 (.a5 47 (.t 77) 2),
 ro 79 (.aN 45 (.t 78)),
 ro 80 (.len 45 (.t 79)),
 ro 81 (.aP .lss 3 (.t 75) (.t 80))] (some [0, 1, 4, 5, 8, 81])) Vp) Vt
def Vu : J := .block 2 (.loop H7)
def Vv : J := .seq (.ad [ro 110 (.aN 47 (.t 5)),
 ⟨none, .ck 47 (.t 4) (.t 110), none⟩] (some [4])) .ret
def Vw : J := .seq (.seq (.ad [ro 8 (.an (.c (.int .i64 0)))] (some [0, 1, 4, 5, 8])) Vu) Vv
def Vx : J := .seq (.seq (.ad [ro 6 (.an (.c (.int .i64 0)))] (some [0, 1, 4, 5, 6])) Vo) Vw
def Vy : J := .seq (.fA [ro 21 (.ae (.t 0)),
 ro 22 (.c1 (.t 21)),
 ro 23 (.a5 47 (.t 22) 1),
 ro 24 (.aN 40 (.t 23)),
 ro 25 (.call (.f 61) [(.t 24)]),
 ro 26 (.ae (.t 1)),
 ro 27 (.c1 (.t 26)),
 ro 28 (.a5 47 (.t 27) 1),
 ro 29 (.aN 40 (.t 28)),
 ro 30 (.app 40 40 (.t 25) (.t 29)),
 ro 31 (.a5 47 (.t 5) 1),
 ⟨none, .ck 40 (.t 31) (.t 30), none⟩] [[], [0], [1], [2], [3], [], [5], [6], [7], [4, 8, 4], [0, 1, 2, 3, 4, 5, 6, 7, 8, 9], [10, 9, 9, 0, 1, 2, 3, 4, 5, 6, 7, 8, 9]] (some [0, 1, 4, 5])) Vx
def Vz : J := .seq (.fA [ro 10 (.ae (.t 0)),
 ro 11 (.c1 (.t 10)),
 ro 12 (.a5 47 (.t 11) 0),
 ro 13 (.aN 2 (.t 12)),
 ro 14 (.ae (.t 1)),
 ro 15 (.c1 (.t 14)),
 ro 16 (.a5 47 (.t 15) 0),
 ro 17 (.aN 2 (.t 16)),
 ro 18 (.aP .add 2 (.t 13) (.t 17)),
 ro 19 (.cE 45 0 []),
 ro 20 (.ed 47 [(0, (.t 18)), (2, (.t 19))]),
 ro 5 (.dH 47),
 ⟨none, .ck 47 (.t 5) (.t 20), none⟩] [[], [0], [1], [2], [], [4], [5], [6], [3, 7], [], [8, 9], [], [11, 10, 0, 1, 2, 3, 4, 5, 6, 7, 8, 9, 10, 11]] (some [0, 1, 4, 5])) Vy
def VA : J := .seq (.ad [ro 4 (.dH 47)] (some [0, 1, 4])) Vz
theorem VB : bS ⟨111, [0, 1]⟩ (Try.f79.body.getD .skip) = some VA.strip := by kernel_rfl
def VC : J := .seq (.ad [ro 13 (.ed 47 []),
 ⟨none, .ck 47 (.t 4) (.t 13), none⟩,
 ro 5 (.an (.c (.int .i64 1)))] (some [4, 5])) .ret
def VD : J := .cond (.t 12) VC .skip
def VE : J := .seq (.ad [ro 17 (.ed 47 []),
 ⟨none, .ck 47 (.t 4) (.t 17), none⟩,
 ro 5 (.an (.c (.int .i64 5)))] (some [4, 5])) .ret
def VF : J := .cond (.t 16) VE .skip
def VG : J := .seq (.ad [ro 18 (.aN 47 (.t 6)),
 ⟨none, .ck 47 (.t 4) (.t 18), none⟩,
 ro 5 (.an (.c (.int .i64 0)))] (some [4, 5])) .ret
def VH : J := .seq (.seq (.ad [ro 15 (.call (.f 59) [(.t 6)]),
 ro 16 (.un .not (.t 15))] (some [4, 6, 16])) VF) VG
def VI : J := .seq (.ad [ro 14 (.call (.f 79) [(.t 2), (.t 3)]),
 ro 6 (.dH 47),
 ⟨none, .ck 47 (.t 6) (.t 14), none⟩] (some [4, 6])) VH
def VJ : J := .seq (.seq (.ad [ro 7 (.call (.f 59) [(.t 2)]),
 ro 8 (.un .not (.t 7)),
 ro 9 (.ae (.t 8)),
 ⟨some 10, .call (.f 59) [(.t 3)], some (9, false)⟩,
 ⟨some 11, .un .not (.t 10), some (9, false)⟩,
 ro 12 (.pick (.t 9) (.c (.bool true)) (.t 11))] (some [2, 3, 4, 12])) VD) VI
def VK : J := .seq (.ad [ro 2 (.dk 47 (.t 0)),
 ro 3 (.dk 47 (.t 1)),
 ro 4 (.dH 47),
 ro 5 (.an (.c (.int .i64 0)))] (some [2, 3, 4])) VJ
theorem VL : bS ⟨19, [0, 1]⟩ (Try.f32.body.getD .skip) = some VK.strip := by kernel_rfl
def VM : J := .seq (.ad [ro 7 (.ae (.t 0)),
 ro 8 (.ae (.t 1)),
 ro 9 (.aP .geq 2 (.t 7) (.t 8)),
 ro 10 (.ae (.t 9)),
 ⟨some 11, .ae (.t 0), some (10, true)⟩,
 ⟨some 12, .ae (.t 2), some (10, true)⟩,
 ⟨some 13, .aP .leq 2 (.t 11) (.t 12), some (10, true)⟩,
 ro 14 (.pick (.t 10) (.t 13) (.c (.bool false))),
 ro 6 (.an (.t 14))] (some [6])) .ret
def VN : J := .seq (.ad [ro 6 (.an (.c (.bool false)))] (some [0, 1, 2])) VM
theorem VO : bS ⟨15, [0, 1, 2]⟩ (Try.f97.body.getD .skip) = some VN.strip := by kernel_rfl
def VP : J := .seq (.ad [ro 3 (.ae (.t 0)),
 ro 4 (.call (.f 97) [(.t 3), (.c (.int .i64 0)), (.c (.int .i64 63))]),
 ro 2 (.an (.t 4))] (some [2])) .ret
def VQ : J := .seq (.ad [ro 2 (.an (.c (.bool false)))] (some [0])) VP
theorem VR : bS ⟨5, [0]⟩ (Try.f173.body.getD .skip) = some VQ.strip := by kernel_rfl
def VS : J := .seq (.ad [ro 3 (.ae (.t 0)),
 ro 4 (.call (.f 173) [(.t 3)]),
 ro 5 (.un .not (.t 4)),
 ro 2 (.an (.t 5))] (some [2])) .ret
def VT : J := .seq (.ad [ro 2 (.an (.c (.bool false)))] (some [0])) VS
theorem VU : bS ⟨6, [0]⟩ (Try.f172.body.getD .skip) = some VT.strip := by kernel_rfl
def VV : J := .seq (.ad [ro 17 (.ae (.t 5)),
 ro 4 (.an (.t 17))] (some [4])) .ret
def VW : J := .cond (.t 16) VV .skip
def VX : J := .seq (.ad [ro 11 (.ae (.t 1)),
 ro 12 (.ae (.t 0)),
 ro 13 (.ae (.t 5)),
 ro 14 (.cf 40 (.t 12) (.t 13)),
 ro 15 (.aN 2 (.t 14)),
 ro 16 (.call (.t 11) [(.t 15)])] (some [0, 1, 5, 7, 8, 16])) VW
def VY : J := .ad [ro 18 (.aP .add 3 (.t 8) (.c (.int .i64 1))),
 ro 8 (.ae (.t 18))] (some [0, 1, 7, 8])
def VZ : J := .seq (.block 1 (.seq (.ad [ro 10 (.ae (.t 8)),
 ro 5 (.an (.t 10))] (some [0, 1, 5, 7, 8])) VX)) VY
def V0 : J := .seq (.cond (.t 9) .skip (.exit 0)) VZ
def H8 : J := .seq (.ad [ro 9 (.aP .lss 3 (.t 8) (.t 7))] (some [0, 1, 7, 8, 9])) V0
def V1 : J := .block 0 (.loop H8)
def V2 : J := .seq (.ad [ro 4 (.an (.c (.int .i64 (-1))))] (some [4])) .ret
def V3 : J := .seq (.seq (.ad [ro 6 (.ae (.t 0)),
 ro 7 (.len 40 (.t 6)),
 ro 8 (.ae (.c (.int .i64 0)))] (some [0, 1, 7, 8])) V1) V2
def V4 : J := .seq (.ad [ro 4 (.an (.c (.int .i64 0)))] (some [0, 1])) V3
theorem V5 : bS ⟨19, [0, 1]⟩ (Try.f160.body.getD .skip) = some V4.strip := by kernel_rfl
def V6 : J := .seq (.ad [ro 5 (.ae (.t 0)),
 ro 6 (.ae (.t 1)),
 ro 7 (.call (.f 160) [(.t 5), (.t 6)]),
 ro 8 (.aP .geq 3 (.t 7) (.c (.int .i64 0))),
 ro 4 (.an (.t 8))] (some [4])) .ret
def V7 : J := .seq (.ad [ro 4 (.an (.c (.bool false)))] (some [0, 1])) V6
theorem V8 : bS ⟨9, [0, 1]⟩ (Try.f171.body.getD .skip) = some V7.strip := by kernel_rfl
def V9 : J := .seq (.ad [ro 3 (.ae (.t 0)),
 ro 4 (.call (.f 171) [(.t 3), (.f 172)]),
 ro 5 (.un .not (.t 4)),
 ro 2 (.an (.t 5))] (some [2])) .ret
def V_ : J := .seq (.ad [ro 2 (.an (.c (.bool false)))] (some [0])) V9
theorem Wa : bS ⟨6, [0]⟩ (Try.f141.body.getD .skip) = some V_.strip := by kernel_rfl
def Wb : J := .seq (.ad [ro 5 (.ae (.t 1)),
 ro 6 (.len 40 (.t 5)),
 ro 7 (.a5 47 (.t 2) 0),
 ro 8 (.aN 2 (.t 7)),
 ro 9 (.aP .eql 2 (.t 6) (.t 8)),
 ro 10 (.ae (.t 9)),
 ⟨some 11, .ae (.t 1), some (10, true)⟩,
 ⟨some 12, .call (.f 141) [(.t 11)], some (10, true)⟩,
 ro 13 (.pick (.t 10) (.t 12) (.c (.bool false))),
 ro 4 (.an (.t 13))] (some [4])) .ret
def Wc : J := .seq (.ad [ro 2 (.dk 47 (.t 0)),
 ro 4 (.an (.c (.bool false)))] (some [1, 2])) Wb
theorem Wd : bS ⟨14, [0, 1]⟩ (Try.f103.body.getD .skip) = some Wc.strip := by kernel_rfl
def We : J := .seq (.ad [ro 2 (.an (.c (.bool false)))] (some [2])) .ret
def Wf : J := .cond (.t 15) We .skip
def Wg : J := .ad [ro 16 (.ae (.t 3)),
 ro 17 (.ae (.t 5)),
 ro 18 (.aP .add 2 (.t 17) (.c (.int .i64 1))),
 ro 19 (.aP .mul 2 (.t 16) (.t 18)),
 ro 3 (.an (.t 19))] (some [1, 3, 7, 8, 9])
def Wh : J := .seq (.seq (.ad [ro 13 (.ae (.t 5)),
 ro 14 (.call (.f 97) [(.t 13), (.c (.int .i64 1)), (.c (.int .i64 7))]),
 ro 15 (.un .not (.t 14))] (some [1, 3, 5, 7, 8, 9, 15])) Wf) Wg
def Wi : J := .ad [ro 20 (.aP .add 3 (.t 9) (.c (.int .i64 1))),
 ro 9 (.ae (.t 20))] (some [1, 3, 7, 8, 9])
def Wj : J := .seq (.block 1 (.seq (.ad [ro 11 (.cf 40 (.t 7) (.t 9)),
 ro 12 (.aN 2 (.t 11)),
 ro 5 (.an (.t 12))] (some [1, 3, 5, 7, 8, 9])) Wh)) Wi
def Wk : J := .seq (.cond (.t 10) .skip (.exit 0)) Wj
def H9 : J := .seq (.ad [ro 10 (.aP .lss 3 (.t 9) (.t 8))] (some [1, 3, 7, 8, 9, 10])) Wk
def Wl : J := .block 0 (.loop H9)
def Wm : J := .seq (.ad [ro 21 (.a5 90 (.t 1) 0),
 ro 22 (.aN 40 (.t 21)),
 ro 23 (.len 40 (.t 22)),
 ro 24 (.aP .leq 3 (.t 23) (.c (.int .i64 8))),
 ro 25 (.ae (.t 24)),
 ⟨some 26, .ae (.t 3), some (25, true)⟩,
 ⟨some 27, .aP .leq 2 (.t 26) (.c (.int .i64 4096)), some (25, true)⟩,
 ro 28 (.pick (.t 25) (.t 27) (.c (.bool false))),
 ro 2 (.an (.t 28))] (some [2])) .ret
def Wn : J := .seq (.seq (.ad [ro 6 (.a5 90 (.t 1) 0),
 ro 7 (.aN 40 (.t 6)),
 ro 8 (.len 40 (.t 7)),
 ro 9 (.ae (.c (.int .i64 0)))] (some [1, 3, 7, 8, 9])) Wl) Wm
def Wo : J := .seq (.ad [ro 3 (.an (.c (.int .i64 1)))] (some [1, 3])) Wn
def Wp : J := .seq (.ad [ro 1 (.dk 90 (.t 0)),
 ro 2 (.an (.c (.bool false)))] (some [1])) Wo
theorem Wq : bS ⟨29, [0]⟩ (Try.f143.body.getD .skip) = some Wp.strip := by kernel_rfl
def Wr : J := .seq (.ad [ro 3 (.ae (.t 0)),
 ro 4 (.aP .geq 5 (.t 3) (.c (.int .u8 48))),
 ro 5 (.ae (.t 4)),
 ⟨some 6, .ae (.t 0), some (5, true)⟩,
 ⟨some 7, .aP .leq 5 (.t 6) (.c (.int .u8 57)), some (5, true)⟩,
 ro 8 (.pick (.t 5) (.t 7) (.c (.bool false))),
 ro 2 (.an (.t 8))] (some [2])) .ret
def Ws : J := .seq (.ad [ro 2 (.an (.c (.bool false)))] (some [0])) Wr
theorem Wt : bS ⟨9, [0]⟩ (Try.f95.body.getD .skip) = some Ws.strip := by kernel_rfl
def Wu : J := .seq (.ad [ro 2 (.an (.c (.bool false)))] (some [2])) .ret
def Wv : J := .cond (.t 32) Wu .skip
def Ww : J := .seq (.ad [ro 20 (.ae (.t 4)),
 ro 21 (.un .not (.t 20)),
 ro 22 (.ae (.t 21)),
 ⟨some 23, .ae (.t 3), some (22, true)⟩,
 ⟨some 24, .aP .eql 3 (.t 23) (.c (.int .i64 0)), some (22, true)⟩,
 ⟨some 25, .ae (.t 24), some (22, true)⟩,
 ⟨some 26, .ae (.t 0), some (25, false)⟩,
 ⟨some 27, .ae (.t 3), some (25, false)⟩,
 ⟨some 28, .idx 9 (.t 26) (.t 27), some (25, false)⟩,
 ⟨some 29, .call (.f 95) [(.t 28)], some (25, false)⟩,
 ⟨some 30, .un .not (.t 29), some (25, false)⟩,
 ⟨some 31, .pick (.t 25) (.c (.bool true)) (.t 30), some (22, true)⟩,
 ro 32 (.pick (.t 22) (.t 31) (.c (.bool false)))] (some [0, 6, 7, 32])) Wv
def Wx : J := .seq (.ad [ro 10 (.ae (.t 0)),
 ro 11 (.ae (.t 3)),
 ro 12 (.idx 9 (.t 10) (.t 11)),
 ro 13 (.aP .geq 5 (.t 12) (.c (.int .u8 97))),
 ro 14 (.ae (.t 13)),
 ⟨some 15, .ae (.t 0), some (14, true)⟩,
 ⟨some 16, .ae (.t 3), some (14, true)⟩,
 ⟨some 17, .idx 9 (.t 15) (.t 16), some (14, true)⟩,
 ⟨some 18, .aP .leq 5 (.t 17) (.c (.int .u8 122)), some (14, true)⟩,
 ro 19 (.pick (.t 14) (.t 18) (.c (.bool false))),
 ro 4 (.an (.t 19))] (some [0, 3, 4, 6, 7])) Ww
def Wy : J := .ad [ro 33 (.aP .add 3 (.t 7) (.c (.int .i64 1))),
 ro 7 (.ae (.t 33))] (some [0, 6, 7])
def Wz : J := .seq (.block 1 (.seq (.ad [ro 9 (.ae (.t 7)),
 ro 3 (.an (.t 9))] (some [0, 3, 6, 7])) Wx)) Wy
def WA : J := .seq (.cond (.t 8) .skip (.exit 0)) Wz
def H_ : J := .seq (.ad [ro 8 (.aP .lss 3 (.t 7) (.t 6))] (some [0, 6, 7, 8])) WA
def WB : J := .block 0 (.loop H_)
def WC : J := .seq (.ad [ro 34 (.ae (.t 0)),
 ro 35 (.len 9 (.t 34)),
 ro 36 (.aP .geq 3 (.t 35) (.c (.int .i64 1))),
 ro 37 (.ae (.t 36)),
 ⟨some 38, .ae (.t 0), some (37, true)⟩,
 ⟨some 39, .len 9 (.t 38), some (37, true)⟩,
 ⟨some 40, .aP .leq 3 (.t 39) (.c (.int .i64 10)), some (37, true)⟩,
 ro 41 (.pick (.t 37) (.t 40) (.c (.bool false))),
 ro 2 (.an (.t 41))] (some [2])) .ret
def WD : J := .seq (.seq (.ad [ro 5 (.ae (.t 0)),
 ro 6 (.len 9 (.t 5)),
 ro 7 (.ae (.c (.int .i64 0)))] (some [0, 6, 7])) WB) WC
def WE : J := .seq (.ad [ro 2 (.an (.c (.bool false)))] (some [0])) WD
theorem WG : bS ⟨42, [0]⟩ (Try.f54.body.getD .skip) = some WE.strip := by kernel_rfl
def WH : J := .seq (.ad [ro 3 (.ae (.t 0)),
 ro 4 (.call (.f 54) [(.t 3)]),
 ro 5 (.ae (.t 4)),
 ⟨some 6, .ae (.t 0), some (5, true)⟩,
 ⟨some 7, .aP .neq 9 (.t 6) (.c (.str [116, 97, 117])), some (5, true)⟩,
 ro 8 (.pick (.t 5) (.t 7) (.c (.bool false))),
 ro 2 (.an (.t 8))] (some [2])) .ret
def WI : J := .seq (.ad [ro 2 (.an (.c (.bool false)))] (some [0])) WH
theorem WJ : bS ⟨9, [0]⟩ (Try.f144.body.getD .skip) = some WI.strip := by kernel_rfl
def WK : J := .ad [ro 7 (.bad),
 ⟨none, .bad, none⟩] (some [0, 1])
def WL : J := .cond (.t 6) WK .skip
def WM : J := .ad [ro 17 (.ae (.t 0)),
 ro 18 (.ae (.t 0)),
 ro 19 (.cap 88 (.t 18)),
 ro 20 (.eb 88 (.t 17) none (some (.t 19))),
 ro 21 (.ae (.t 1)),
 ⟨some 22, .ic 88 3 (.t 20) (.t 21), none⟩,
 ro 23 (.ae (.t 0)),
 ro 24 (.len 88 (.t 23)),
 ro 25 (.eb 88 (.t 22) none (some (.t 24))),
 ro 0 (.an (.t 25))] (some [0])
def WN : J := .cond (.t 16) WM .skip
def WO : J := .seq (.ad [ro 15 (.ae (.t 1)),
 ro 16 (.aP .gtr 3 (.t 15) (.c (.int .i64 0)))] (some [0, 1, 16])) WN
def Ia : J := .seq (.ad [ro 26 (.ae (.t 0)),
 ro 4 (.an (.t 26))] (some [4])) .ret
def Ib : J := .seq (.seq (.ad [ro 8 (.ae (.t 1)),
 ro 9 (.ae (.t 0)),
 ro 10 (.cap 88 (.t 9)),
 ro 11 (.ae (.t 0)),
 ro 12 (.len 88 (.t 11)),
 ro 13 (.aP .sub 3 (.t 10) (.t 12)),
 ro 14 (.aP .sub 3 (.t 8) (.t 13)),
 ro 1 (.an (.t 14))] (some [0, 1])) WO) Ia
def WQ : J := .seq (.seq (.ad [ro 5 (.ae (.t 1)),
 ro 6 (.aP .lss 3 (.t 5) (.c (.int .i64 0)))] (some [0, 1, 6])) WL) Ib
def WR : J := .seq (.ad [ro 4 (.an (.c .af))] (some [0, 1])) WQ
theorem WS : bS ⟨27, []⟩ (Try.f156.body.getD .skip) = some WR.strip := by kernel_rfl
def WT : J := .ad [ro 21 (.bad),
 ⟨none, .bad, none⟩] (some [0, 3, 9, 10, 11])
def WU : J := .cond (.t 20) WT .skip
def WV : J := .seq (.ad [ro 19 (.ae (.t 3)),
 ro 20 (.aP .lss 3 (.t 19) (.c (.int .i64 0)))] (some [0, 3, 9, 10, 11, 20])) WU
def WW : J := .seq (.ad [ro 15 (.ae (.t 3)),
 ro 16 (.ae (.t 5)),
 ro 17 (.len 88 (.t 16)),
 ro 18 (.aP .add 3 (.t 15) (.t 17)),
 ro 3 (.an (.t 18))] (some [0, 3, 9, 10, 11])) WV
def Ic : J := .ad [ro 22 (.aP .add 3 (.t 11) (.c (.int .i64 1))),
 ro 11 (.ae (.t 22))] (some [0, 3, 9, 10, 11])
def WX : J := .seq (.block 1 (.seq (.ad [ro 13 (.cf 175 (.t 9) (.t 11)),
 ro 14 (.aN 88 (.t 13)),
 ro 5 (.an (.t 14))] (some [0, 3, 5, 9, 10, 11])) WW)) Ic
def WY : J := .seq (.cond (.t 12) .skip (.exit 0)) WX
def Ie : J := .seq (.ad [ro 12 (.aP .lss 3 (.t 11) (.t 10))] (some [0, 3, 9, 10, 11, 12])) WY
def WZ : J := .block 0 (.loop Ie)
def W0 : J := .ad [ro 31 (.ae (.t 6)),
 ro 32 (.ae (.t 8)),
 ro 33 (.app 88 88 (.t 31) (.t 32)),
 ro 6 (.an (.t 33))] (some [6, 25, 26, 27])
def W1 : J := .ad [ro 34 (.aP .add 3 (.t 27) (.c (.int .i64 1))),
 ro 27 (.ae (.t 34))] (some [6, 25, 26, 27])
def W2 : J := .seq (.block 3 (.seq (.ad [ro 29 (.cf 175 (.t 25) (.t 27)),
 ro 30 (.aN 88 (.t 29)),
 ro 8 (.an (.t 30))] (some [6, 8, 25, 26, 27])) W0)) W1
def W3 : J := .seq (.cond (.t 28) .skip (.exit 2)) W2
def Ig : J := .seq (.ad [ro 28 (.aP .lss 3 (.t 27) (.t 26))] (some [6, 25, 26, 27, 28])) W3
def W4 : J := .block 2 (.loop Ig)
def W5 : J := .seq (.ad [ro 35 (.ae (.t 6)),
 ro 2 (.an (.t 35))] (some [2])) .ret
def W6 : J := .seq (.seq (.ad [ro 25 (.ae (.t 0)),
 ro 26 (.len 175 (.t 25)),
 ro 27 (.ae (.c (.int .i64 0)))] (some [6, 25, 26, 27])) W4) W5
def W7 : J := .seq (.ad [ro 23 (.ae (.t 3)),
 ro 24 (.call (.f 156) [(.c .af), (.t 23)]),
 ro 6 (.an (.t 24))] (some [0, 6])) W6
def W8 : J := .seq (.seq (.ad [ro 9 (.ae (.t 0)),
 ro 10 (.len 175 (.t 9)),
 ro 11 (.ae (.c (.int .i64 0)))] (some [0, 3, 9, 10, 11])) WZ) W7
def W9 : J := .seq (.ad [ro 3 (.an (.c (.int .i64 0)))] (some [0, 3])) W8
def W_ : J := .seq (.ad [ro 2 (.an (.c .af))] (some [0])) W9
theorem Xa : bS ⟨36, [0]⟩ (Try.f119.body.getD .skip) = some W_.strip := by kernel_rfl
def Xb : J := .seq (.ad [ro 3 (.a5 90 (.t 1) 1),
 ro 4 (.aN 87 (.t 3)),
 ⟨some 5, .shr (.cE 88 1 [(0, (.t 4))]), none⟩,
 ro 6 (.a5 90 (.t 1) 3),
 ro 7 (.aN 88 (.t 6)),
 ro 8 (.a5 90 (.t 1) 4),
 ro 9 (.aN 88 (.t 8)),
 ⟨some 10, .shr (.cE 175 3 [(0, (.t 5)), (1, (.t 7)), (2, (.t 9))]), none⟩,
 ro 11 (.call (.f 119) [(.t 10)]),
 ro 2 (.an (.t 11))] (some [2])) .ret
def Xc : J := .seq (.ad [ro 1 (.dk 90 (.t 0)),
 ro 2 (.an (.c .af))] (some [1])) Xb
theorem Xd : bS ⟨12, [0]⟩ (Try.f146.body.getD .skip) = some Xc.strip := by kernel_rfl
def Xe : J := .seq (.ad [ro 9 (.a5 133 (.t 2) 1),
 ro 10 (.aN 2 (.t 9)),
 ro 11 (.call (.f 173) [(.t 10)]),
 ro 4 (.an (.t 11))] (some [4])) .ret
def Xf : J := .seq (.ad [ro 14 (.a5 133 (.t 2) 1),
 ro 15 (.aN 2 (.t 14)),
 ro 16 (.ae (.t 1)),
 ro 17 (.aP .sub 2 (.t 16) (.c (.int .i64 1))),
 ro 18 (.call (.f 97) [(.t 15), (.c (.int .i64 0)), (.t 17)]),
 ro 4 (.an (.t 18))] (some [4])) .ret
def Xg : J := .seq (.ad [ro 21 (.a5 133 (.t 2) 1),
 ro 22 (.aN 2 (.t 21)),
 ro 23 (.call (.f 97) [(.t 22), (.c (.int .i64 0)), (.c (.int .i64 8))]),
 ro 4 (.an (.t 23))] (some [4])) .ret
def Xh : J := .seq (.ad [ro 26 (.a5 133 (.t 2) 1),
 ro 27 (.aN 2 (.t 26)),
 ro 28 (.aP .eql 2 (.t 27) (.c (.int .i64 0))),
 ro 4 (.an (.t 28))] (some [4])) .ret
def Xi : J := .cond (.t 24) Xh .skip
def Xj : J := .seq (.ad [ro 25 (.aP .eql 2 (.t 6) (.c (.int .i64 3))),
 ro 24 (.an (.t 25))] (some [2, 24])) Xi
def Xk : J := .cond (.t 19) Xg Xj
def Xl : J := .seq (.ad [ro 20 (.aP .eql 2 (.t 6) (.c (.int .i64 2))),
 ro 19 (.an (.t 20))] (some [2, 6, 19])) Xk
def Xm : J := .cond (.t 12) Xf Xl
def Xn : J := .seq (.ad [ro 13 (.aP .eql 2 (.t 6) (.c (.int .i64 1))),
 ro 12 (.an (.t 13))] (some [1, 2, 6, 12])) Xm
def Xo : J := .cond (.t 7) Xe Xn
def Xp : J := .block 0 (.seq (.ad [ro 8 (.aP .eql 2 (.t 6) (.c (.int .i64 0))),
 ro 7 (.an (.t 8))] (some [1, 2, 6, 7])) Xo)
def Xq : J := .seq (.ad [ro 4 (.an (.c (.bool false)))] (some [4])) .ret
def Xr : J := .seq (.seq (.ad [ro 5 (.a5 133 (.t 2) 0),
 ro 6 (.aN 2 (.t 5))] (some [1, 2, 6])) Xp) Xq
def Xs : J := .seq (.ad [ro 2 (.dk 133 (.t 0)),
 ro 4 (.an (.c (.bool false)))] (some [1, 2])) Xr
theorem Xt : bS ⟨29, [0, 1]⟩ (Try.f175.body.getD .skip) = some Xs.strip := by kernel_rfl
def Xu : J := .seq (.ad [ro 2 (.an (.c (.int .i64 2)))] (some [2])) .ret
def Xv : J := .seq (.ad [ro 2 (.an (.c (.int .i64 1)))] (some [2])) .ret
def Xw : J := .cond (.t 7) Xv .skip
def Xx : J := .seq (.ad [ro 8 (.aP .eql 2 (.t 4) (.c (.int .i64 3))),
 ro 7 (.an (.t 8))] (some [7])) Xw
def Xy : J := .cond (.t 5) Xu Xx
def Xz : J := .block 0 (.seq (.ad [ro 6 (.aP .eql 2 (.t 4) (.c (.int .i64 2))),
 ro 5 (.an (.t 6))] (some [4, 5])) Xy)
def XA : J := .seq (.ad [ro 2 (.an (.c (.int .i64 0)))] (some [2])) .ret
def XB : J := .seq (.seq (.ad [ro 3 (.a5 133 (.t 1) 0),
 ro 4 (.aN 2 (.t 3))] (some [4])) Xz) XA
def XC : J := .seq (.ad [ro 1 (.dk 133 (.t 0)),
 ro 2 (.an (.c (.int .i64 0)))] (some [1])) XB
theorem XD : bS ⟨9, [0]⟩ (Try.f176.body.getD .skip) = some XC.strip := by kernel_rfl
def XE : J := .seq (.ad [ro 6 (.an (.c (.bool false)))] (some [6])) .ret
def XF : J := .cond (.t 24) XE .skip
def XG : J := .seq (.ad [ro 6 (.an (.c (.bool false)))] (some [6])) .ret
def XH : J := .cond (.t 38) XG .skip
def XI : J := .ad [ro 39 (.ae (.t 7)),
 ro 40 (.aN 133 (.t 9)),
 ro 41 (.call (.f 176) [(.t 40)]),
 ro 42 (.aP .sub 3 (.t 41) (.c (.int .i64 1))),
 ro 43 (.aP .add 3 (.t 39) (.t 42)),
 ro 7 (.an (.t 43))] (some [1, 7, 25, 26, 27])
def XJ : J := .seq (.seq (.ad [ro 31 (.ae (.t 7)),
 ro 32 (.aP .eql 3 (.t 31) (.c (.int .i64 0))),
 ro 33 (.ae (.t 32)),
 ⟨some 34, .aN 133 (.t 9), some (33, false)⟩,
 ⟨some 35, .ae (.t 1), some (33, false)⟩,
 ⟨some 36, .call (.f 175) [(.t 34), (.t 35)], some (33, false)⟩,
 ⟨some 37, .un .not (.t 36), some (33, false)⟩,
 ro 38 (.pick (.t 33) (.c (.bool true)) (.t 37))] (some [1, 7, 9, 25, 26, 27, 38])) XH) XI
def XK : J := .ad [ro 44 (.aP .add 3 (.t 27) (.c (.int .i64 1))),
 ro 27 (.ae (.t 44))] (some [1, 7, 25, 26, 27])
def XL : J := .seq (.block 1 (.seq (.ad [ro 29 (.cf 87 (.t 25) (.t 27)),
 ro 30 (.aN 133 (.t 29)),
 ro 9 (.dH 133),
 ⟨none, .ck 133 (.t 9) (.t 30), none⟩] (some [1, 7, 9, 25, 26, 27])) XJ)) XK
def XM : J := .seq (.cond (.t 28) .skip (.exit 0)) XL
def Ih : J := .seq (.ad [ro 28 (.aP .lss 3 (.t 27) (.t 26))] (some [1, 7, 25, 26, 27, 28])) XM
def XN : J := .block 0 (.loop Ih)
def XO : J := .seq (.ad [ro 45 (.ae (.t 7)),
 ro 46 (.aP .eql 3 (.t 45) (.c (.int .i64 0))),
 ro 6 (.an (.t 46))] (some [6])) .ret
def XP : J := .seq (.seq (.ad [ro 25 (.ae (.t 0)),
 ro 26 (.len 87 (.t 25)),
 ro 27 (.ae (.c (.int .i64 0)))] (some [1, 7, 25, 26, 27])) XN) XO
def XQ : J := .seq (.ad [ro 7 (.an (.c (.int .i64 1)))] (some [0, 1, 7])) XP
def XR : J := .seq (.seq (.ad [ro 10 (.ae (.t 1)),
 ro 11 (.call (.f 97) [(.t 10), (.c (.int .i64 0)), (.c (.int .i64 29))]),
 ro 12 (.un .not (.t 11)),
 ro 13 (.ae (.t 12)),
 ⟨some 14, .ae (.t 2), some (13, false)⟩,
 ⟨some 15, .call (.f 97) [(.t 14), (.c (.int .i64 1)), (.c (.int .i64 60))], some (13, false)⟩,
 ⟨some 16, .un .not (.t 15), some (13, false)⟩,
 ro 17 (.pick (.t 13) (.c (.bool true)) (.t 16)),
 ro 18 (.ae (.t 17)),
 ⟨some 19, .ae (.t 0), some (18, false)⟩,
 ⟨some 20, .len 87 (.t 19), some (18, false)⟩,
 ⟨some 21, .ae (.t 2), some (18, false)⟩,
 ⟨some 22, .call (.f 97) [(.t 20), (.c (.int .i64 1)), (.t 21)], some (18, false)⟩,
 ⟨some 23, .un .not (.t 22), some (18, false)⟩,
 ro 24 (.pick (.t 18) (.c (.bool true)) (.t 23))] (some [0, 1, 24])) XF) XQ
def XS : J := .seq (.ad [ro 6 (.an (.c (.bool false)))] (some [0, 1, 2])) XR
theorem XT : bS ⟨47, [0, 1, 2]⟩ (Try.f148.body.getD .skip) = some XS.strip := by kernel_rfl
def XU : J := .seq (.ad [ro 5 (.ae (.t 0)),
 ro 6 (.aN 2 (.t 1)),
 ro 7 (.a5 90 (.t 2) 0),
 ro 8 (.aN 40 (.t 7)),
 ro 9 (.len 40 (.t 8)),
 ro 10 (.aP .add 2 (.t 6) (.t 9)),
 ro 11 (.call (.f 148) [(.t 5), (.t 10), (.c (.int .i64 60))]),
 ro 12 (.un .not (.t 11)),
 ro 4 (.an (.t 12))] (some [4])) .ret
def XV : J := .seq (.ad [ro 4 (.an (.c (.bool false)))] (some [0, 1, 2])) XU
theorem XW : bS ⟨13, [0, 1, 2]⟩ (Try.f147.body.getD .skip) = some XV.strip := by kernel_rfl
def XX : J := .seq (.ad [ro 17 (.ae (.t 5)),
 ro 4 (.an (.t 17))] (some [4])) .ret
def XY : J := .cond (.t 16) XX .skip
def XZ : J := .seq (.ad [ro 11 (.ae (.t 1)),
 ro 12 (.ae (.t 0)),
 ro 13 (.ae (.t 5)),
 ro 14 (.cf 88 (.t 12) (.t 13)),
 ro 15 (.aN 87 (.t 14)),
 ro 16 (.call (.t 11) [(.t 15)])] (some [0, 1, 5, 7, 8, 16])) XY
def X0 : J := .ad [ro 18 (.aP .add 3 (.t 8) (.c (.int .i64 1))),
 ro 8 (.ae (.t 18))] (some [0, 1, 7, 8])
def X1 : J := .seq (.block 1 (.seq (.ad [ro 10 (.ae (.t 8)),
 ro 5 (.an (.t 10))] (some [0, 1, 5, 7, 8])) XZ)) X0
def X2 : J := .seq (.cond (.t 9) .skip (.exit 0)) X1
def Ii : J := .seq (.ad [ro 9 (.aP .lss 3 (.t 8) (.t 7))] (some [0, 1, 7, 8, 9])) X2
def X3 : J := .block 0 (.loop Ii)
def X4 : J := .seq (.ad [ro 4 (.an (.c (.int .i64 (-1))))] (some [4])) .ret
def X5 : J := .seq (.seq (.ad [ro 6 (.ae (.t 0)),
 ro 7 (.len 88 (.t 6)),
 ro 8 (.ae (.c (.int .i64 0)))] (some [0, 1, 7, 8])) X3) X4
def X6 : J := .seq (.ad [ro 4 (.an (.c (.int .i64 0)))] (some [0, 1])) X5
theorem X7 : bS ⟨19, [0, 1]⟩ (Try.f174.body.getD .skip) = some X6.strip := by kernel_rfl
def X8 : J := .seq (.ad [ro 5 (.ae (.t 0)),
 ro 6 (.ae (.t 1)),
 ro 7 (.call (.f 174) [(.t 5), (.t 6)]),
 ro 8 (.aP .geq 3 (.t 7) (.c (.int .i64 0))),
 ro 4 (.an (.t 8))] (some [4])) .ret
def X9 : J := .seq (.ad [ro 4 (.an (.c (.bool false)))] (some [0, 1])) X8
theorem X_ : bS ⟨9, [0, 1]⟩ (Try.f145.body.getD .skip) = some X9.strip := by kernel_rfl
def Ya : J := .seq (.ad [ro 4 (.an (.c (.bool false)))] (some [4])) .ret
def Yb : J := .cond (.t 15) Ya .skip
def Yc : J := .seq (.ad [ro 4 (.an (.c (.bool false)))] (some [4])) .ret
def Yd : J := .cond (.t 40) Yc .skip
def Ye : J := .seq (.ad [ro 19 (.ae (.t 5)),
 ro 20 (.aP .gtr 3 (.t 19) (.c (.int .i64 0))),
 ro 21 (.ae (.t 20)),
 ⟨some 22, .a5 90 (.t 2) 2, some (21, true)⟩,
 ⟨some 23, .aN 9 (.t 22), some (21, true)⟩,
 ⟨some 24, .aP .eql 9 (.t 23) (.c (.str [116, 97, 117])), some (21, true)⟩,
 ⟨some 25, .ae (.t 24), some (21, true)⟩,
 ⟨some 26, .ae (.t 5), some (25, false)⟩,
 ⟨some 27, .aP .gtr 3 (.t 26) (.c (.int .i64 2)), some (25, false)⟩,
 ⟨some 28, .pick (.t 25) (.c (.bool true)) (.t 27), some (21, true)⟩,
 ro 29 (.pick (.t 21) (.t 28) (.c (.bool false))),
 ro 30 (.ae (.t 29)),
 ⟨some 31, .a5 90 (.t 2) 2, some (30, false)⟩,
 ⟨some 32, .aN 9 (.t 31), some (30, false)⟩,
 ⟨some 33, .aP .neq 9 (.t 32) (.c (.str [116, 97, 117])), some (30, false)⟩,
 ⟨some 34, .ae (.t 33), some (30, false)⟩,
 ⟨some 35, .a5 90 (.t 2) 2, some (34, true)⟩,
 ⟨some 36, .aN 9 (.t 35), some (34, true)⟩,
 ⟨some 37, .call (.f 144) [(.t 36)], some (34, true)⟩,
 ⟨some 38, .un .not (.t 37), some (34, true)⟩,
 ⟨some 39, .pick (.t 34) (.t 38) (.c (.bool false)), some (30, false)⟩,
 ro 40 (.pick (.t 30) (.c (.bool true)) (.t 39))] (some [2, 3, 40])) Yd
def Yf : J := .seq (.ad [ro 41 (.aN 90 (.t 2)),
 ro 42 (.call (.f 146) [(.t 41)]),
 ro 43 (.ie 147 [(.t 3), (.t 2)]),
 ro 44 (.call (.f 145) [(.t 42), (.t 43)]),
 ro 45 (.un .not (.t 44)),
 ro 4 (.an (.t 45))] (some [4])) .ret
def Yg : J := .seq (.seq (.ad [ro 16 (.a5 90 (.t 2) 3),
 ro 17 (.aN 88 (.t 16)),
 ro 18 (.len 88 (.t 17)),
 ro 5 (.an (.t 18))] (some [2, 3, 5])) Ye) Yf
def Yh : J := .seq (.seq (.ad [ro 6 (.aN 90 (.t 2)),
 ro 7 (.call (.f 143) [(.t 6)]),
 ro 8 (.un .not (.t 7)),
 ro 9 (.ae (.t 8)),
 ⟨some 10, .a5 90 (.t 2) 4, some (9, false)⟩,
 ⟨some 11, .aN 88 (.t 10), some (9, false)⟩,
 ⟨some 12, .len 88 (.t 11), some (9, false)⟩,
 ⟨some 13, .aN 2 (.t 3), some (9, false)⟩,
 ⟨some 14, .aP .neq 2 (.t 12) (.t 13), some (9, false)⟩,
 ro 15 (.pick (.t 9) (.c (.bool true)) (.t 14))] (some [2, 3, 15])) Yb) Yg
def Yi : J := .seq (.ad [ro 2 (.dk 90 (.t 0)),
 ro 3 (.dk 2 (.t 1)),
 ro 4 (.an (.c (.bool false)))] (some [2, 3])) Yh
theorem Yj : bS ⟨46, [0, 1]⟩ (Try.f106.body.getD .skip) = some Yi.strip := by kernel_rfl
def Yk : J := .seq (.ad [ro 4 (.aN 90 (.t 2)),
 ro 5 (.a5 47 (.t 1) 0),
 ro 6 (.aN 2 (.t 5)),
 ro 7 (.call (.f 106) [(.t 4), (.t 6)]),
 ro 8 (.un .not (.t 7)),
 ro 3 (.an (.t 8))] (some [3])) .ret
def Yl : J := .seq (.ad [ro 2 (.dk 90 (.t 0)),
 ro 3 (.an (.c (.bool false)))] (some [1, 2])) Yk
theorem Ym : bS ⟨9, [0, 1]⟩ (Try.f105.body.getD .skip) = some Yl.strip := by kernel_rfl
def Yn : J := .seq (.ad [ro 17 (.ae (.t 5)),
 ro 4 (.an (.t 17))] (some [4])) .ret
def Yo : J := .cond (.t 16) Yn .skip
def Yp : J := .seq (.ad [ro 11 (.ae (.t 1)),
 ro 12 (.ae (.t 0)),
 ro 13 (.ae (.t 5)),
 ro 14 (.cf 45 (.t 12) (.t 13)),
 ro 15 (.aN 90 (.t 14)),
 ro 16 (.call (.t 11) [(.t 15)])] (some [0, 1, 5, 7, 8, 16])) Yo
def Yq : J := .ad [ro 18 (.aP .add 3 (.t 8) (.c (.int .i64 1))),
 ro 8 (.ae (.t 18))] (some [0, 1, 7, 8])
def Yr : J := .seq (.block 1 (.seq (.ad [ro 10 (.ae (.t 8)),
 ro 5 (.an (.t 10))] (some [0, 1, 5, 7, 8])) Yp)) Yq
def Ys : J := .seq (.cond (.t 9) .skip (.exit 0)) Yr
def Ij : J := .seq (.ad [ro 9 (.aP .lss 3 (.t 8) (.t 7))] (some [0, 1, 7, 8, 9])) Ys
def Yt : J := .block 0 (.loop Ij)
def Yu : J := .seq (.ad [ro 4 (.an (.c (.int .i64 (-1))))] (some [4])) .ret
def Yv : J := .seq (.seq (.ad [ro 6 (.ae (.t 0)),
 ro 7 (.len 45 (.t 6)),
 ro 8 (.ae (.c (.int .i64 0)))] (some [0, 1, 7, 8])) Yt) Yu
def Yw : J := .seq (.ad [ro 4 (.an (.c (.int .i64 0)))] (some [0, 1])) Yv
theorem Yx : bS ⟨19, [0, 1]⟩ (Try.f142.body.getD .skip) = some Yw.strip := by kernel_rfl
def Yy : J := .seq (.ad [ro 5 (.ae (.t 0)),
 ro 6 (.ae (.t 1)),
 ro 7 (.call (.f 142) [(.t 5), (.t 6)]),
 ro 8 (.aP .geq 3 (.t 7) (.c (.int .i64 0))),
 ro 4 (.an (.t 8))] (some [4])) .ret
def Yz : J := .seq (.ad [ro 4 (.an (.c (.bool false)))] (some [0, 1])) Yy
theorem YA : bS ⟨9, [0, 1]⟩ (Try.f104.body.getD .skip) = some Yz.strip := by kernel_rfl
def YB : J := .seq (.ad [ro 2 (.an (.c (.bool false)))] (some [2])) .ret
def YC : J := .cond (.t 19) YB .skip
def YD : J := .seq (.ad [ro 20 (.a5 47 (.t 1) 2),
 ro 21 (.aN 45 (.t 20)),
 ro 22 (.ie 105 [(.t 1)]),
 ro 23 (.call (.f 104) [(.t 21), (.t 22)]),
 ro 24 (.un .not (.t 23)),
 ro 2 (.an (.t 24))] (some [2])) .ret
def YE : J := .seq (.seq (.ad [ro 3 (.a5 47 (.t 1) 0),
 ro 4 (.aN 2 (.t 3)),
 ro 5 (.call (.f 97) [(.t 4), (.c (.int .i64 0)), (.c (.int .i64 21))]),
 ro 6 (.un .not (.t 5)),
 ro 7 (.ae (.t 6)),
 ⟨some 8, .aN 47 (.t 1), some (7, false)⟩,
 ⟨some 9, .a5 47 (.t 1) 1, some (7, false)⟩,
 ⟨some 10, .aN 40 (.t 9), some (7, false)⟩,
 ⟨some 11, .call (.f 103) [(.t 8), (.t 10)], some (7, false)⟩,
 ⟨some 12, .un .not (.t 11), some (7, false)⟩,
 ro 13 (.pick (.t 7) (.c (.bool true)) (.t 12)),
 ro 14 (.ae (.t 13)),
 ⟨some 15, .a5 47 (.t 1) 2, some (14, false)⟩,
 ⟨some 16, .aN 45 (.t 15), some (14, false)⟩,
 ⟨some 17, .len 45 (.t 16), some (14, false)⟩,
 ⟨some 18, .aP .gtr 3 (.t 17) (.c (.int .i64 60)), some (14, false)⟩,
 ro 19 (.pick (.t 14) (.c (.bool true)) (.t 18))] (some [1, 19])) YC) YD
def YF : J := .seq (.ad [ro 1 (.dk 47 (.t 0)),
 ro 2 (.an (.c (.bool false)))] (some [1])) YE
theorem YG : bS ⟨25, [0]⟩ (Try.f67.body.getD .skip) = some YF.strip := by kernel_rfl
def YH : J := .ad [ro 7 (.bad),
 ⟨none, .bad, none⟩] (some [0, 1])
def YI : J := .cond (.t 6) YH .skip
def YJ : J := .ad [ro 17 (.ae (.t 0)),
 ro 18 (.ae (.t 0)),
 ro 19 (.cap 40 (.t 18)),
 ro 20 (.eb 40 (.t 17) none (some (.t 19))),
 ro 21 (.ae (.t 1)),
 ⟨some 22, .ic 40 3 (.t 20) (.t 21), none⟩,
 ro 23 (.ae (.t 0)),
 ro 24 (.len 40 (.t 23)),
 ro 25 (.eb 40 (.t 22) none (some (.t 24))),
 ro 0 (.an (.t 25))] (some [0])
def YK : J := .cond (.t 16) YJ .skip
def YL : J := .seq (.ad [ro 15 (.ae (.t 1)),
 ro 16 (.aP .gtr 3 (.t 15) (.c (.int .i64 0)))] (some [0, 1, 16])) YK
def Ik : J := .seq (.ad [ro 26 (.ae (.t 0)),
 ro 4 (.an (.t 26))] (some [4])) .ret
def Il : J := .seq (.seq (.ad [ro 8 (.ae (.t 1)),
 ro 9 (.ae (.t 0)),
 ro 10 (.cap 40 (.t 9)),
 ro 11 (.ae (.t 0)),
 ro 12 (.len 40 (.t 11)),
 ro 13 (.aP .sub 3 (.t 10) (.t 12)),
 ro 14 (.aP .sub 3 (.t 8) (.t 13)),
 ro 1 (.an (.t 14))] (some [0, 1])) YL) Ik
def YM : J := .seq (.seq (.ad [ro 5 (.ae (.t 1)),
 ro 6 (.aP .lss 3 (.t 5) (.c (.int .i64 0)))] (some [0, 1, 6])) YI) Il
def YN : J := .seq (.ad [ro 4 (.an (.c .af))] (some [0, 1])) YM
theorem YO : bS ⟨27, []⟩ (Try.f154.body.getD .skip) = some YN.strip := by kernel_rfl
def YP : J := .ad [ro 21 (.bad),
 ⟨none, .bad, none⟩] (some [0, 3, 9, 10, 11])
def YQ : J := .cond (.t 20) YP .skip
def YR : J := .seq (.ad [ro 19 (.ae (.t 3)),
 ro 20 (.aP .lss 3 (.t 19) (.c (.int .i64 0)))] (some [0, 3, 9, 10, 11, 20])) YQ
def YS : J := .seq (.ad [ro 15 (.ae (.t 3)),
 ro 16 (.ae (.t 5)),
 ro 17 (.len 40 (.t 16)),
 ro 18 (.aP .add 3 (.t 15) (.t 17)),
 ro 3 (.an (.t 18))] (some [0, 3, 9, 10, 11])) YR
def Im : J := .ad [ro 22 (.aP .add 3 (.t 11) (.c (.int .i64 1))),
 ro 11 (.ae (.t 22))] (some [0, 3, 9, 10, 11])
def YT : J := .seq (.block 1 (.seq (.ad [ro 13 (.cf 173 (.t 9) (.t 11)),
 ro 14 (.aN 40 (.t 13)),
 ro 5 (.an (.t 14))] (some [0, 3, 5, 9, 10, 11])) YS)) Im
def YU : J := .seq (.cond (.t 12) .skip (.exit 0)) YT
def Io : J := .seq (.ad [ro 12 (.aP .lss 3 (.t 11) (.t 10))] (some [0, 3, 9, 10, 11, 12])) YU
def YV : J := .block 0 (.loop Io)
def YW : J := .ad [ro 31 (.ae (.t 6)),
 ro 32 (.ae (.t 8)),
 ro 33 (.app 40 40 (.t 31) (.t 32)),
 ro 6 (.an (.t 33))] (some [6, 25, 26, 27])
def YX : J := .ad [ro 34 (.aP .add 3 (.t 27) (.c (.int .i64 1))),
 ro 27 (.ae (.t 34))] (some [6, 25, 26, 27])
def YY : J := .seq (.block 3 (.seq (.ad [ro 29 (.cf 173 (.t 25) (.t 27)),
 ro 30 (.aN 40 (.t 29)),
 ro 8 (.an (.t 30))] (some [6, 8, 25, 26, 27])) YW)) YX
def YZ : J := .seq (.cond (.t 28) .skip (.exit 2)) YY
def Ip : J := .seq (.ad [ro 28 (.aP .lss 3 (.t 27) (.t 26))] (some [6, 25, 26, 27, 28])) YZ
def Y0 : J := .block 2 (.loop Ip)
def Y1 : J := .seq (.ad [ro 35 (.ae (.t 6)),
 ro 2 (.an (.t 35))] (some [2])) .ret
def Y2 : J := .seq (.seq (.ad [ro 25 (.ae (.t 0)),
 ro 26 (.len 173 (.t 25)),
 ro 27 (.ae (.c (.int .i64 0)))] (some [6, 25, 26, 27])) Y0) Y1
def Y3 : J := .seq (.ad [ro 23 (.ae (.t 3)),
 ro 24 (.call (.f 154) [(.c .af), (.t 23)]),
 ro 6 (.an (.t 24))] (some [0, 6])) Y2
def Y4 : J := .seq (.seq (.ad [ro 9 (.ae (.t 0)),
 ro 10 (.len 173 (.t 9)),
 ro 11 (.ae (.c (.int .i64 0)))] (some [0, 3, 9, 10, 11])) YV) Y3
def Y5 : J := .seq (.ad [ro 3 (.an (.c (.int .i64 0)))] (some [0, 3])) Y4
def Y6 : J := .seq (.ad [ro 2 (.an (.c .af))] (some [0])) Y5
theorem Y7 : bS ⟨36, [0]⟩ (Try.f115.body.getD .skip) = some Y6.strip := by kernel_rfl
def Y8 : J := .seq (.ad [ro 3 (.ae (.t 0)),
 ro 4 (.ed 133 [(0, (.c (.int .i64 1))), (1, (.t 3))]),
 ro 5 (.cE 87 1 [(0, (.t 4))]),
 ro 2 (.an (.t 5))] (some [2])) .ret
def Y9 : J := .seq (.ad [ro 2 (.an (.c .af))] (some [0])) Y8
theorem Y_ : bS ⟨6, [0]⟩ (Try.f116.body.getD .skip) = some Y9.strip := by kernel_rfl
def Za : J := .seq (.ad [ro 2 (.an (.c .af))] (some [2])) .ret
def Zb : J := .cond (.t 4) Za .skip
def Zc : J := .seq (.ad [ro 5 (.cE 40 0 []),
 ro 6 (.ae (.t 0)),
 ro 7 (.app 40 40 (.t 5) (.t 6)),
 ro 2 (.an (.t 7))] (some [2])) .ret
def Zd : J := .seq (.seq (.ad [ro 3 (.ae (.t 0)),
 ro 4 (.aP .eql 40 (.t 3) (.c .af))] (some [0, 4])) Zb) Zc
def Ze : J := .seq (.ad [ro 2 (.an (.c .af))] (some [0])) Zd
theorem Zf : bS ⟨8, [0]⟩ (Try.f68.body.getD .skip) = some Ze.strip := by kernel_rfl
def Zg : J := .seq (.ad [ro 4 (.an (.c .af))] (some [4])) .ret
def Zh : J := .cond (.t 7) Zg .skip
def Zi : J := .seq (.ad [ro 8 (.ae (.t 0)),
 ro 9 (.aN 2 (.t 2)),
 ro 10 (.aP .add 2 (.t 8) (.t 9)),
 ro 11 (.ed 133 [(0, (.c (.int .i64 1))), (1, (.t 10))]),
 ro 12 (.cE 87 1 [(0, (.t 11))]),
 ro 4 (.an (.t 12))] (some [4])) .ret
def Zj : J := .seq (.seq (.ad [ro 5 (.ae (.t 0)),
 ro 6 (.aN 2 (.t 1)),
 ro 7 (.aP .lss 2 (.t 5) (.t 6))] (some [0, 2, 7])) Zh) Zi
def Zk : J := .seq (.ad [ro 4 (.an (.c .af))] (some [0, 1, 2])) Zj
theorem Zl : bS ⟨13, [0, 1, 2]⟩ (Try.f155.body.getD .skip) = some Zk.strip := by kernel_rfl
def Zm : J := .ad [ro 18 (.ae (.t 1)),
 ro 19 (.a5 133 (.t 7) 1),
 ro 20 (.aN 2 (.t 19)),
 ro 21 (.call (.t 18) [(.t 20)]),
 ro 8 (.an (.t 21))] (some [1, 5, 7, 8, 9, 10, 11])
def Zn : J := .cond (.t 17) Zm .skip
def Zo : J := .ad [ro 24 (.aN 133 (.t 7)),
 ro 25 (.cE 87 1 [(0, (.t 24))]),
 ro 8 (.an (.t 25))] (some [1, 5, 8, 9, 10, 11])
def Zp : J := .cond (.t 23) Zo .skip
def zf : J := .ad [ro 26 (.ae (.t 5)),
 ro 27 (.ae (.t 8)),
 ro 28 (.app 87 87 (.t 26) (.t 27)),
 ro 5 (.an (.t 28))] (some [1, 5, 9, 10, 11])
def Zq : J := .seq (.seq (.ad [ro 22 (.ae (.t 8)),
 ro 23 (.aP .eql 87 (.t 22) (.c .af))] (some [1, 5, 7, 8, 9, 10, 11, 23])) Zp) zf
def Zr : J := .seq (.seq (.ad [ro 15 (.a5 133 (.t 7) 0),
 ro 16 (.aN 2 (.t 15)),
 ro 17 (.aP .eql 2 (.t 16) (.c (.int .i64 1)))] (some [1, 5, 7, 8, 9, 10, 11, 17])) Zn) Zq
def Zs : J := .seq (.ad [ro 8 (.an (.c .af))] (some [1, 5, 7, 8, 9, 10, 11])) Zr
def Zt : J := .ad [ro 29 (.aP .add 3 (.t 11) (.c (.int .i64 1))),
 ro 11 (.ae (.t 29))] (some [1, 5, 9, 10, 11])
def Zu : J := .seq (.block 1 (.seq (.ad [ro 13 (.cf 87 (.t 9) (.t 11)),
 ro 14 (.aN 133 (.t 13)),
 ro 7 (.dH 133),
 ⟨none, .ck 133 (.t 7) (.t 14), none⟩] (some [1, 5, 7, 9, 10, 11])) Zs)) Zt
def Zv : J := .seq (.cond (.t 12) .skip (.exit 0)) Zu
def Iq : J := .seq (.ad [ro 12 (.aP .lss 3 (.t 11) (.t 10))] (some [1, 5, 9, 10, 11, 12])) Zv
def Zw : J := .block 0 (.loop Iq)
def Zx : J := .seq (.ad [ro 30 (.ae (.t 5)),
 ro 4 (.an (.t 30))] (some [4])) .ret
def Zy : J := .seq (.seq (.ad [ro 9 (.ae (.t 0)),
 ro 10 (.len 87 (.t 9)),
 ro 11 (.ae (.c (.int .i64 0)))] (some [1, 5, 9, 10, 11])) Zw) Zx
def Zz : J := .seq (.ad [ro 5 (.an (.c .af))] (some [0, 1, 5])) Zy
def ZA : J := .seq (.ad [ro 4 (.an (.c .af))] (some [0, 1])) Zz
theorem ZB : bS ⟨31, [0, 1]⟩ (Try.f73.body.getD .skip) = some ZA.strip := by kernel_rfl
def ZC : J := .seq (.ad [ro 7 (.ae (.t 0)),
 ro 8 (.ie 155 [(.t 4), (.t 5)]),
 ro 9 (.call (.f 73) [(.t 7), (.t 8)]),
 ro 6 (.an (.t 9))] (some [6])) .ret
def ZD : J := .seq (.ad [ro 4 (.dk 2 (.t 1)),
 ro 5 (.dk 2 (.t 2)),
 ro 6 (.an (.c .af))] (some [0, 4, 5])) ZC
theorem ZE : bS ⟨10, [0, 1, 2]⟩ (Try.f118.body.getD .skip) = some ZD.strip := by kernel_rfl
def ZF : J := .seq (.ad [ro 7 (.ae (.t 1)),
 ro 8 (.a5 47 (.t 2) 0),
 ro 9 (.aN 2 (.t 8)),
 ro 10 (.a5 47 (.t 3) 0),
 ro 11 (.aN 2 (.t 10)),
 ro 12 (.call (.f 118) [(.t 7), (.t 9), (.t 11)]),
 ro 6 (.an (.t 12))] (some [6])) .ret
def ZG : J := .seq (.ad [ro 4 (.dk 90 (.t 0)),
 ro 6 (.an (.c .af))] (some [1, 2, 3])) ZF
theorem ZH : bS ⟨13, [0, 1, 2, 3]⟩ (Try.f117.body.getD .skip) = some ZG.strip := by kernel_rfl
def ZI : J := .ad [ro 14 (.ae (.t 5)),
 ro 15 (.aN 101 (.t 1)),
 ro 16 (.aN 90 (.t 2)),
 ro 17 (.ae (.t 7)),
 ro 18 (.call (.t 15) [(.t 16), (.t 17)]),
 ro 19 (.cE 88 1 [(0, (.t 18))]),
 ro 20 (.app 88 88 (.t 14) (.t 19)),
 ro 5 (.an (.t 20))] (some [1, 2, 5, 8, 9, 10])
def ZJ : J := .ad [ro 21 (.aP .add 3 (.t 10) (.c (.int .i64 1))),
 ro 10 (.ae (.t 21))] (some [1, 2, 5, 8, 9, 10])
def ZK : J := .seq (.block 1 (.seq (.ad [ro 12 (.cf 88 (.t 8) (.t 10)),
 ro 13 (.aN 87 (.t 12)),
 ro 7 (.an (.t 13))] (some [1, 2, 5, 7, 8, 9, 10])) ZI)) ZJ
def ZL : J := .seq (.cond (.t 11) .skip (.exit 0)) ZK
def Ir : J := .seq (.ad [ro 11 (.aP .lss 3 (.t 10) (.t 9))] (some [1, 2, 5, 8, 9, 10, 11])) ZL
def ZM : J := .block 0 (.loop Ir)
def ZN : J := .seq (.ad [ro 22 (.ae (.t 5)),
 ro 4 (.an (.t 22))] (some [4])) .ret
def ZO : J := .seq (.seq (.ad [ro 8 (.ae (.t 0)),
 ro 9 (.len 88 (.t 8)),
 ro 10 (.ae (.c (.int .i64 0)))] (some [1, 2, 5, 8, 9, 10])) ZM) ZN
def ZP : J := .seq (.ad [ro 5 (.an (.c .af))] (some [0, 1, 2, 5])) ZO
def ZQ : J := .seq (.ad [ro 4 (.an (.c .af))] (some [0, 1, 2])) ZP
theorem ZR : bS ⟨23, [0, 1, 2]⟩ (Try.f107.body.getD .skip) = some ZQ.strip := by kernel_rfl
def ZS : J := .fA [ro 23 (.a5 47 (.t 5) 2),
 ro 24 (.aN 45 (.t 23)),
 ro 25 (.a5 90 (.t 7) 0),
 ro 26 (.aN 40 (.t 25)),
 ro 27 (.call (.f 68) [(.t 26)]),
 ro 28 (.aN 101 (.t 3)),
 ro 29 (.aN 90 (.t 7)),
 ro 30 (.a5 90 (.t 7) 1),
 ro 31 (.aN 87 (.t 30)),
 ro 32 (.call (.t 28) [(.t 29), (.t 31)]),
 ro 33 (.a5 90 (.t 7) 2),
 ro 34 (.aN 9 (.t 33)),
 ro 35 (.ae (.t 8)),
 ro 36 (.a5 90 (.t 7) 3),
 ro 37 (.aN 88 (.t 36)),
 ro 38 (.call (.t 35) [(.t 37)]),
 ro 39 (.ae (.t 8)),
 ro 40 (.a5 90 (.t 7) 4),
 ro 41 (.aN 88 (.t 40)),
 ro 42 (.call (.t 39) [(.t 41)]),
 ro 43 (.ed 90 [(0, (.t 27)), (1, (.t 32)), (2, (.t 34)), (3, (.t 38)), (4, (.t 42))]),
 ro 44 (.cE 45 1 [(0, (.t 43))]),
 ro 45 (.app 45 45 (.t 24) (.t 44)),
 ro 46 (.a5 47 (.t 5) 2),
 ⟨none, .ck 45 (.t 46) (.t 45), none⟩] [[], [0], [], [2], [3], [], [], [], [7], [5, 6, 8, 4], [], [10], [], [], [13], [12, 14, 9], [], [], [17], [16, 18, 15], [4, 9, 11, 15, 19], [20], [1, 21, 19], [0, 1, 2, 3, 4, 5, 6, 7, 8, 9, 10, 11, 12, 13, 14, 15, 16, 17, 18, 19, 20, 21, 22], [23, 22, 22, 0, 1, 2, 3, 4, 5, 6, 7, 8, 9, 10, 11, 12, 13, 14, 15, 16, 17, 18, 19, 20, 21, 22]] (some [3, 4, 5, 16, 17, 18])
def ZT : J := .seq (.ad [ro 22 (.ie 107 [(.t 3), (.t 7)]),
 ro 8 (.an (.t 22))] (some [3, 4, 5, 7, 8, 16, 17, 18])) ZS
def ZU : J := .ad [ro 47 (.aP .add 3 (.t 18) (.c (.int .i64 1))),
 ro 18 (.ae (.t 47))] (some [3, 4, 5, 16, 17, 18])
def ZV : J := .seq (.block 1 (.seq (.ad [ro 20 (.cf 45 (.t 16) (.t 18)),
 ro 21 (.aN 90 (.t 20)),
 ro 7 (.dH 90),
 ⟨none, .ck 90 (.t 7) (.t 21), none⟩] (some [3, 4, 5, 7, 16, 17, 18])) ZT)) ZU
def ZW : J := .seq (.cond (.t 19) .skip (.exit 0)) ZV
def Is : J := .seq (.ad [ro 19 (.aP .lss 3 (.t 18) (.t 17))] (some [3, 4, 5, 16, 17, 18, 19])) ZW
def ZX : J := .block 0 (.loop Is)
def ZY : J := .seq (.ad [ro 48 (.aN 47 (.t 5)),
 ⟨none, .ck 47 (.t 4) (.t 48), none⟩] (some [4])) .ret
def ZZ : J := .seq (.seq (.ad [ro 15 (.a5 47 (.t 2) 2),
 ro 16 (.aN 45 (.t 15)),
 ro 17 (.len 45 (.t 16)),
 ro 18 (.ae (.c (.int .i64 0)))] (some [3, 4, 5, 16, 17, 18])) ZX) ZY
def Z0 : J := .seq (.fA [ro 9 (.a5 47 (.t 2) 0),
 ro 10 (.aN 2 (.t 9)),
 ro 11 (.a5 47 (.t 2) 1),
 ro 12 (.aN 40 (.t 11)),
 ro 13 (.call (.f 68) [(.t 12)]),
 ro 14 (.ed 47 [(0, (.t 10)), (1, (.t 13))]),
 ro 5 (.dH 47),
 ⟨none, .ck 47 (.t 5) (.t 14), none⟩] [[], [0], [], [2], [3], [1, 4], [], [6, 5, 4, 0, 1, 2, 3, 4, 5, 6]] (some [2, 3, 4, 5])) ZZ
def Z1 : J := .seq (.ad [ro 2 (.dk 47 (.t 0)),
 ⟨some 3, .hL 101 (.t 1), none⟩,
 ro 4 (.dH 47)] (some [2, 3, 4])) Z0
theorem Z2 : bS ⟨49, [0, 1]⟩ (Try.f71.body.getD .skip) = some Z1.strip := by kernel_rfl
def Z3 : J := .seq (.ad [ro 2 (.an (.c .af))] (some [2])) .ret
def Z4 : J := .cond (.t 4) Z3 .skip
def Z5 : J := .seq (.ad [ro 5 (.cE 87 0 []),
 ro 6 (.ae (.t 0)),
 ro 7 (.app 87 87 (.t 5) (.t 6)),
 ro 2 (.an (.t 7))] (some [2])) .ret
def Z6 : J := .seq (.seq (.ad [ro 3 (.ae (.t 0)),
 ro 4 (.aP .eql 87 (.t 3) (.c .af))] (some [0, 4])) Z4) Z5
def Z7 : J := .seq (.ad [ro 2 (.an (.c .af))] (some [0])) Z6
theorem Z8 : bS ⟨8, [0]⟩ (Try.f157.body.getD .skip) = some Z7.strip := by kernel_rfl
def Z9 : J := .ad [ro 12 (.ae (.t 3)),
 ro 13 (.ae (.t 5)),
 ro 14 (.call (.f 157) [(.t 13)]),
 ro 15 (.cE 88 1 [(0, (.t 14))]),
 ro 16 (.app 88 88 (.t 12) (.t 15)),
 ro 3 (.an (.t 16))] (some [3, 6, 7, 8])
def Z_ : J := .ad [ro 17 (.aP .add 3 (.t 8) (.c (.int .i64 1))),
 ro 8 (.ae (.t 17))] (some [3, 6, 7, 8])
def aaa : J := .seq (.block 1 (.seq (.ad [ro 10 (.cf 88 (.t 6) (.t 8)),
 ro 11 (.aN 87 (.t 10)),
 ro 5 (.an (.t 11))] (some [3, 5, 6, 7, 8])) Z9)) Z_
def aab : J := .seq (.cond (.t 9) .skip (.exit 0)) aaa
def It : J := .seq (.ad [ro 9 (.aP .lss 3 (.t 8) (.t 7))] (some [3, 6, 7, 8, 9])) aab
def aac : J := .block 0 (.loop It)
def aad : J := .seq (.ad [ro 18 (.ae (.t 3)),
 ro 2 (.an (.t 18))] (some [2])) .ret
def aae : J := .seq (.seq (.ad [ro 6 (.ae (.t 0)),
 ro 7 (.len 88 (.t 6)),
 ro 8 (.ae (.c (.int .i64 0)))] (some [3, 6, 7, 8])) aac) aad
def aaf : J := .seq (.ad [ro 3 (.an (.c .af))] (some [0, 3])) aae
def aag : J := .seq (.ad [ro 2 (.an (.c .af))] (some [0])) aaf
theorem aah : bS ⟨19, [0]⟩ (Try.f120.body.getD .skip) = some aag.strip := by kernel_rfl
def aai : J := .ad [ro 21 (.bad),
 ⟨none, .bad, none⟩] (some [0, 3, 9, 10, 11])
def aaj : J := .cond (.t 20) aai .skip
def aak : J := .seq (.ad [ro 19 (.ae (.t 3)),
 ro 20 (.aP .lss 3 (.t 19) (.c (.int .i64 0)))] (some [0, 3, 9, 10, 11, 20])) aaj
def aal : J := .seq (.ad [ro 15 (.ae (.t 3)),
 ro 16 (.ae (.t 5)),
 ro 17 (.len 88 (.t 16)),
 ro 18 (.aP .add 3 (.t 15) (.t 17)),
 ro 3 (.an (.t 18))] (some [0, 3, 9, 10, 11])) aak
def Iu : J := .ad [ro 22 (.aP .add 3 (.t 11) (.c (.int .i64 1))),
 ro 11 (.ae (.t 22))] (some [0, 3, 9, 10, 11])
def aam : J := .seq (.block 1 (.seq (.ad [ro 13 (.cf 175 (.t 9) (.t 11)),
 ro 14 (.aN 88 (.t 13)),
 ⟨some 5, .lN (.t 14), none⟩] (some [0, 3, 5, 9, 10, 11])) aal)) Iu
def aan : J := .seq (.cond (.t 12) .skip (.exit 0)) aam
def Iv : J := .seq (.ad [ro 12 (.aP .lss 3 (.t 11) (.t 10))] (some [0, 3, 9, 10, 11, 12])) aan
def aao : J := .block 0 (.loop Iv)
def aap : J := .ad [ro 31 (.ae (.t 6)),
 ro 32 (.ae (.t 8)),
 ro 33 (.app 88 88 (.t 31) (.t 32)),
 ro 6 (.an (.t 33))] (some [0, 6, 25, 26, 27])
def aaq : J := .ad [ro 34 (.aP .add 3 (.t 27) (.c (.int .i64 1))),
 ro 27 (.ae (.t 34))] (some [0, 6, 25, 26, 27])
def aar : J := .seq (.block 3 (.seq (.ad [ro 29 (.cf 175 (.t 25) (.t 27)),
 ro 30 (.aN 88 (.t 29)),
 ⟨some 8, .lN (.t 30), none⟩] (some [0, 6, 8, 25, 26, 27])) aap)) aaq
def aas : J := .seq (.cond (.t 28) .skip (.exit 2)) aar
def Iw : J := .seq (.ad [ro 28 (.aP .lss 3 (.t 27) (.t 26))] (some [0, 6, 25, 26, 27, 28])) aas
def aat : J := .block 2 (.loop Iw)
def aau : J := .seq (.ad [ro 35 (.ae (.t 6)),
 ro 2 (.an (.t 35))] (some [0, 2])) .ret
def aav : J := .seq (.seq (.ad [ro 25 (.ae (.t 0)),
 ro 26 (.len 175 (.t 25)),
 ro 27 (.ae (.c (.int .i64 0)))] (some [0, 6, 25, 26, 27])) aat) aau
def aaw : J := .seq (.ad [ro 23 (.ae (.t 3)),
 ro 24 (.call (.f 156) [(.c .af), (.t 23)]),
 ro 6 (.an (.t 24))] (some [0, 6])) aav
def aax : J := .seq (.seq (.ad [ro 9 (.ae (.t 0)),
 ro 10 (.len 175 (.t 9)),
 ro 11 (.ae (.c (.int .i64 0)))] (some [0, 3, 9, 10, 11])) aao) aaw
def aay : J := .seq (.ad [ro 3 (.an (.c (.int .i64 0)))] (some [0, 3])) aax
def aaz : J := .seq (.ad [ro 2 (.an (.c .af))] (some [0])) aay
theorem aaA : bS ⟨36, [0]⟩ (Try.f119.body.getD .skip) = some aaz.strip := by kernel_rfl
def aaB : J := .seq (.ad [ro 6 (.ae (.t 1)),
 ro 7 (.a5 47 (.t 2) 0),
 ro 8 (.aN 2 (.t 7)),
 ro 9 (.call (.f 118) [(.t 6), (.c (.int .i64 0)), (.t 8)]),
 ro 5 (.an (.t 9))] (some [5])) .ret
def aaC : J := .seq (.ad [ro 3 (.dk 90 (.t 0)),
 ro 5 (.an (.c .af))] (some [1, 2])) aaB
theorem aaD : bS ⟨10, [0, 1, 2]⟩ (Try.f121.body.getD .skip) = some aaC.strip := by kernel_rfl
def aaE : J := .ad [ro 14 (.ae (.t 5)),
 ro 15 (.aN 101 (.t 1)),
 ro 16 (.aN 90 (.t 2)),
 ro 17 (.ae (.t 7)),
 ro 18 (.call (.t 15) [(.t 16), (.t 17)]),
 ro 19 (.cE 88 1 [(0, (.t 18))]),
 ro 20 (.app 88 88 (.t 14) (.t 19)),
 ro 5 (.an (.t 20))] (some [1, 2, 5, 8, 9, 10])
def aaF : J := .ad [ro 21 (.aP .add 3 (.t 10) (.c (.int .i64 1))),
 ro 10 (.ae (.t 21))] (some [1, 2, 5, 8, 9, 10])
def aaG : J := .seq (.block 1 (.seq (.ad [ro 12 (.cf 88 (.t 8) (.t 10)),
 ro 13 (.aN 87 (.t 12)),
 ro 7 (.an (.t 13))] (some [1, 2, 5, 7, 8, 9, 10])) aaE)) aaF
def aaH : J := .seq (.cond (.t 11) .skip (.exit 0)) aaG
def Ix : J := .seq (.ad [ro 11 (.aP .lss 3 (.t 10) (.t 9))] (some [1, 2, 5, 8, 9, 10, 11])) aaH
def aaI : J := .block 0 (.loop Ix)
def aaJ : J := .seq (.ad [ro 22 (.ae (.t 5)),
 ro 4 (.an (.t 22))] (some [4])) .ret
def aaK : J := .seq (.seq (.ad [ro 8 (.ae (.t 0)),
 ro 9 (.len 88 (.t 8)),
 ro 10 (.ae (.c (.int .i64 0)))] (some [1, 2, 5, 8, 9, 10])) aaI) aaJ
def aaL : J := .seq (.ad [ro 5 (.an (.c .af))] (some [0, 1, 2, 5])) aaK
def aaM : J := .seq (.ad [ro 4 (.an (.c .af))] (some [0, 1, 2])) aaL
theorem aaN : bS ⟨23, [0, 1, 2]⟩ (Try.f107.body.getD .skip) = some aaM.strip := by kernel_rfl
def aaO : J := .fA [ro 23 (.a5 47 (.t 5) 2),
 ro 24 (.aN 45 (.t 23)),
 ro 25 (.a5 90 (.t 7) 0),
 ro 26 (.aN 40 (.t 25)),
 ro 27 (.call (.f 68) [(.t 26)]),
 ro 28 (.aN 101 (.t 3)),
 ro 29 (.aN 90 (.t 7)),
 ro 30 (.a5 90 (.t 7) 1),
 ro 31 (.aN 87 (.t 30)),
 ro 32 (.call (.t 28) [(.t 29), (.t 31)]),
 ro 33 (.a5 90 (.t 7) 2),
 ro 34 (.aN 9 (.t 33)),
 ro 35 (.ae (.t 8)),
 ro 36 (.a5 90 (.t 7) 3),
 ro 37 (.aN 88 (.t 36)),
 ro 38 (.call (.t 35) [(.t 37)]),
 ro 39 (.ae (.t 8)),
 ro 40 (.a5 90 (.t 7) 4),
 ro 41 (.aN 88 (.t 40)),
 ro 42 (.call (.t 39) [(.t 41)]),
 ro 43 (.ed 90 [(0, (.t 27)), (1, (.t 32)), (2, (.t 34)), (3, (.t 38)), (4, (.t 42))]),
 ro 44 (.cE 45 1 [(0, (.t 43))]),
 ro 45 (.app 45 45 (.t 24) (.t 44)),
 ro 46 (.a5 47 (.t 5) 2),
 ⟨none, .ck 45 (.t 46) (.t 45), none⟩] [[], [0], [], [2], [3], [], [], [], [7], [5, 6, 8, 4], [], [10], [], [], [13], [12, 14, 9], [], [], [17], [16, 18, 15], [4, 9, 11, 15, 19], [20], [1, 21, 19], [0, 1, 2, 3, 4, 5, 6, 7, 8, 9, 10, 11, 12, 13, 14, 15, 16, 17, 18, 19, 20, 21, 22], [23, 22, 22, 0, 1, 2, 3, 4, 5, 6, 7, 8, 9, 10, 11, 12, 13, 14, 15, 16, 17, 18, 19, 20, 21, 22]] (some [3, 4, 5, 16, 17, 18])
def aaP : J := .seq (.ad [ro 22 (.ie 107 [(.t 3), (.t 7)]),
 ro 8 (.an (.t 22))] (some [3, 4, 5, 7, 8, 16, 17, 18])) aaO
def aaQ : J := .ad [ro 47 (.aP .add 3 (.t 18) (.c (.int .i64 1))),
 ro 18 (.ae (.t 47))] (some [3, 4, 5, 16, 17, 18])
def aaR : J := .seq (.block 1 (.seq (.ad [ro 20 (.cf 45 (.t 16) (.t 18)),
 ro 21 (.aN 90 (.t 20)),
 ro 7 (.dH 90),
 ⟨none, .ck 90 (.t 7) (.t 21), none⟩] (some [3, 4, 5, 7, 16, 17, 18])) aaP)) aaQ
def aaS : J := .seq (.cond (.t 19) .skip (.exit 0)) aaR
def Iy : J := .seq (.ad [ro 19 (.aP .lss 3 (.t 18) (.t 17))] (some [3, 4, 5, 16, 17, 18, 19])) aaS
def aaT : J := .block 0 (.loop Iy)
def aaU : J := .seq (.ad [ro 48 (.aN 47 (.t 5)),
 ⟨none, .ck 47 (.t 4) (.t 48), none⟩] (some [4])) .ret
def aaV : J := .seq (.seq (.ad [ro 15 (.a5 47 (.t 2) 2),
 ro 16 (.aN 45 (.t 15)),
 ro 17 (.len 45 (.t 16)),
 ro 18 (.ae (.c (.int .i64 0)))] (some [3, 4, 5, 16, 17, 18])) aaT) aaU
def aaW : J := .seq (.fA [ro 9 (.a5 47 (.t 2) 0),
 ro 10 (.aN 2 (.t 9)),
 ro 11 (.a5 47 (.t 2) 1),
 ro 12 (.aN 40 (.t 11)),
 ro 13 (.call (.f 68) [(.t 12)]),
 ro 14 (.ed 47 [(0, (.t 10)), (1, (.t 13))]),
 ro 5 (.dH 47),
 ⟨none, .ck 47 (.t 5) (.t 14), none⟩] [[], [0], [], [2], [3], [1, 4], [], [6, 5, 4, 0, 1, 2, 3, 4, 5, 6]] (some [2, 3, 4, 5])) aaV
def aaX : J := .seq (.ad [ro 2 (.dk 47 (.t 0)),
 ⟨some 3, .hL 101 (.t 1), none⟩,
 ro 4 (.dH 47)] (some [2, 3, 4])) aaW
theorem aaY : bS ⟨49, [0, 1]⟩ (Try.f71.body.getD .skip) = some aaX.strip := by kernel_rfl
def aaZ : J := .ad [ro 31 (.ae (.t 6)),
 ro 32 (.ae (.t 8)),
 ro 33 (.call (.f 116) [(.t 32)]),
 ro 34 (.cE 88 1 [(0, (.t 33))]),
 ro 35 (.app 88 88 (.t 31) (.t 34)),
 ro 6 (.an (.t 35))] (some [2, 3, 4, 5, 6, 7, 27, 28])
def aa0 : J := .ad [ro 36 (.aP .add 2 (.t 28) (.c (.int .i64 1))),
 ro 28 (.ae (.t 36))] (some [2, 3, 4, 5, 6, 7, 27, 28])
def aa1 : J := .seq (.block 1 (.seq (.ad [ro 30 (.ae (.t 28)),
 ro 8 (.an (.t 30))] (some [2, 3, 4, 5, 6, 7, 8, 27, 28])) aaZ)) aa0
def aa2 : J := .seq (.cond (.t 29) .skip (.exit 0)) aa1
def Iz : J := .seq (.ad [ro 29 (.aP .lss 2 (.t 28) (.t 27))] (some [2, 3, 4, 5, 6, 7, 27, 28, 29])) aa2
def aa3 : J := .block 0 (.loop Iz)
def aa4 : J := .ad [ro 42 (.ae (.t 7)),
 ro 43 (.a5 47 (.t 2) 0),
 ro 44 (.aN 2 (.t 43)),
 ro 45 (.ae (.t 9)),
 ro 46 (.aP .add 2 (.t 44) (.t 45)),
 ro 47 (.call (.f 116) [(.t 46)]),
 ro 48 (.cE 88 1 [(0, (.t 47))]),
 ro 49 (.app 88 88 (.t 42) (.t 48)),
 ro 7 (.an (.t 49))] (some [2, 3, 4, 5, 6, 7, 38, 39])
def aa5 : J := .ad [ro 50 (.aP .add 2 (.t 39) (.c (.int .i64 1))),
 ro 39 (.ae (.t 50))] (some [2, 3, 4, 5, 6, 7, 38, 39])
def aa6 : J := .seq (.block 3 (.seq (.ad [ro 41 (.ae (.t 39)),
 ro 9 (.an (.t 41))] (some [2, 3, 4, 5, 6, 7, 9, 38, 39])) aa4)) aa5
def aa7 : J := .seq (.cond (.t 40) .skip (.exit 2)) aa6
def IA : J := .seq (.ad [ro 40 (.aP .lss 2 (.t 39) (.t 38))] (some [2, 3, 4, 5, 6, 7, 38, 39, 40])) aa7
def aa8 : J := .block 2 (.loop IA)
def aa9 : J := .ad [ro 67 (.a5 47 (.t 5) 2),
 ro 68 (.aN 45 (.t 67)),
 ro 69 (.aN 90 (.t 11)),
 ro 70 (.cE 45 1 [(0, (.t 69))]),
 ro 71 (.app 45 45 (.t 68) (.t 70)),
 ro 72 (.a5 47 (.t 5) 2),
 ⟨none, .ck 45 (.t 72) (.t 71), none⟩] (some [2, 3, 4, 5, 6, 7, 54, 55, 56])
def aa_ : J := .seq (.fA [ro 60 (.a5 90 (.t 11) 4),
 ro 61 (.aN 88 (.t 60)),
 ro 62 (.ae (.t 7)),
 ro 63 (.call (.f 120) [(.t 62)]),
 ro 64 (.cE 175 2 [(0, (.t 61)), (1, (.t 63))]),
 ro 65 (.call (.f 119) [(.t 64)]),
 ro 66 (.a5 90 (.t 11) 4),
 ⟨none, .ck 88 (.t 66) (.t 65), none⟩] [[], [0], [], [2], [1, 3], [4, 3], [0, 1, 2, 3, 4, 5], [6, 5, 5, 0, 1, 2, 3, 4, 5]] (some [2, 3, 4, 5, 6, 7, 11, 54, 55, 56])) aa9
def aba : J := .ad [ro 73 (.aP .add 3 (.t 56) (.c (.int .i64 1))),
 ro 56 (.ae (.t 73))] (some [2, 3, 4, 5, 6, 7, 54, 55, 56])
def abb : J := .seq (.block 5 (.seq (.ad [ro 58 (.cf 45 (.t 54) (.t 56)),
 ro 59 (.aN 90 (.t 58)),
 ro 11 (.dH 90),
 ⟨none, .ck 90 (.t 11) (.t 59), none⟩] (some [2, 3, 4, 5, 6, 7, 11, 54, 55, 56])) aa_)) aba
def abc : J := .seq (.cond (.t 57) .skip (.exit 4)) abb
def IB : J := .seq (.ad [ro 57 (.aP .lss 3 (.t 56) (.t 55))] (some [2, 3, 4, 5, 6, 7, 54, 55, 56, 57])) abc
def abd : J := .block 4 (.loop IB)
def abe : J := .ad [ro 90 (.a5 47 (.t 5) 2),
 ro 91 (.aN 45 (.t 90)),
 ro 92 (.aN 90 (.t 13)),
 ro 93 (.cE 45 1 [(0, (.t 92))]),
 ro 94 (.app 45 45 (.t 91) (.t 93)),
 ro 95 (.a5 47 (.t 5) 2),
 ⟨none, .ck 45 (.t 95) (.t 94), none⟩] (some [4, 5, 6, 77, 78, 79])
def abf : J := .seq (.fA [ro 83 (.ae (.t 6)),
 ro 84 (.call (.f 120) [(.t 83)]),
 ro 85 (.a5 90 (.t 13) 4),
 ro 86 (.aN 88 (.t 85)),
 ro 87 (.cE 175 2 [(0, (.t 84)), (1, (.t 86))]),
 ro 88 (.call (.f 119) [(.t 87)]),
 ro 89 (.a5 90 (.t 13) 4),
 ⟨none, .ck 88 (.t 89) (.t 88), none⟩] [[], [0], [], [2], [1, 3], [4, 1], [0, 1, 2, 3, 4, 5], [6, 5, 5, 0, 1, 2, 3, 4, 5]] (some [4, 5, 6, 13, 77, 78, 79])) abe
def abg : J := .ad [ro 96 (.aP .add 3 (.t 79) (.c (.int .i64 1))),
 ro 79 (.ae (.t 96))] (some [4, 5, 6, 77, 78, 79])
def abh : J := .seq (.block 7 (.seq (.ad [ro 81 (.cf 45 (.t 77) (.t 79)),
 ro 82 (.aN 90 (.t 81)),
 ro 13 (.dH 90),
 ⟨none, .ck 90 (.t 13) (.t 82), none⟩] (some [4, 5, 6, 13, 77, 78, 79])) abf)) abg
def abj : J := .seq (.cond (.t 80) .skip (.exit 6)) abh
def IC : J := .seq (.ad [ro 80 (.aP .lss 3 (.t 79) (.t 78))] (some [4, 5, 6, 77, 78, 79, 80])) abj
def abk : J := .block 6 (.loop IC)
def abl : J := .seq (.ad [ro 97 (.aN 47 (.t 5)),
 ⟨none, .ck 47 (.t 4) (.t 97), none⟩] (some [4])) .ret
def abm : J := .seq (.seq (.ad [ro 74 (.aN 47 (.t 3)),
 ro 75 (.ie 121 [(.t 2)]),
 ro 76 (.call (.f 71) [(.t 74), (.t 75)]),
 ro 77 (.gH 47 (.t 76) 2),
 ro 78 (.len 45 (.t 77)),
 ro 79 (.ae (.c (.int .i64 0)))] (some [4, 5, 6, 77, 78, 79])) abk) abl
def abn : J := .seq (.seq (.ad [ro 51 (.aN 47 (.t 2)),
 ro 52 (.ie 117 [(.t 2), (.t 3)]),
 ro 53 (.call (.f 71) [(.t 51), (.t 52)]),
 ro 54 (.gH 47 (.t 53) 2),
 ro 55 (.len 45 (.t 54)),
 ro 56 (.ae (.c (.int .i64 0)))] (some [2, 3, 4, 5, 6, 7, 54, 55, 56])) abd) abm
def abo : J := .seq (.seq (.ad [ro 37 (.a5 47 (.t 3) 0),
 ro 38 (.aN 2 (.t 37)),
 ro 39 (.ae (.c (.int .i64 0)))] (some [2, 3, 4, 5, 6, 7, 38, 39])) aa8) abn
def abp : J := .seq (.seq (.ad [ro 26 (.a5 47 (.t 2) 0),
 ro 27 (.aN 2 (.t 26)),
 ro 28 (.ae (.c (.int .i64 0)))] (some [2, 3, 4, 5, 6, 7, 27, 28])) aa3) abo
def abq : J := .seq (.ad [ro 6 (.an (.c .af)),
 ro 7 (.an (.c .af))] (some [2, 3, 4, 5, 6, 7])) abp
def abr : J := .seq (.fA [ro 14 (.a5 47 (.t 2) 0),
 ro 15 (.aN 2 (.t 14)),
 ro 16 (.a5 47 (.t 3) 0),
 ro 17 (.aN 2 (.t 16)),
 ro 18 (.aP .add 2 (.t 15) (.t 17)),
 ro 19 (.a5 47 (.t 2) 1),
 ro 20 (.aN 40 (.t 19)),
 ro 21 (.a5 47 (.t 3) 1),
 ro 22 (.aN 40 (.t 21)),
 ro 23 (.cE 173 2 [(0, (.t 20)), (1, (.t 22))]),
 ro 24 (.call (.f 115) [(.t 23)]),
 ro 25 (.ed 47 [(0, (.t 18)), (1, (.t 24))]),
 ro 5 (.dH 47),
 ⟨none, .ck 47 (.t 5) (.t 25), none⟩] [[], [0], [], [2], [1, 3], [], [5], [], [7], [6, 8], [9], [4, 10], [], [12, 11, 10, 0, 1, 2, 3, 4, 5, 6, 7, 8, 9, 10, 11, 12]] (some [2, 3, 4, 5])) abq
def abt : J := .seq (.ad [ro 2 (.dk 47 (.t 0)),
 ro 3 (.dk 47 (.t 1)),
 ro 4 (.dH 47)] (some [2, 3, 4])) abr
theorem abu : bS ⟨98, [0, 1]⟩ (Try.f80.body.getD .skip) = some abt.strip := by kernel_rfl
def abv : J := .seq (.ad [ro 15 (.ed 47 []),
 ⟨none, .ck 47 (.t 4) (.t 15), none⟩,
 ro 5 (.an (.c (.int .i64 1)))] (some [4, 5])) .ret
def abw : J := .cond (.t 14) abv .skip
def abx : J := .seq (.ad [ro 22 (.ed 47 []),
 ⟨none, .ck 47 (.t 4) (.t 22), none⟩,
 ro 5 (.an (.c (.int .i64 5)))] (some [4, 5])) .ret
def aby : J := .cond (.t 21) abx .skip
def abz : J := .seq (.ad [ro 23 (.aN 47 (.t 6)),
 ⟨none, .ck 47 (.t 4) (.t 23), none⟩,
 ro 5 (.an (.c (.int .i64 0)))] (some [4, 5])) .ret
def abA : J := .seq (.seq (.ad [ro 19 (.aN 47 (.t 6)),
 ro 20 (.call (.f 67) [(.t 19)]),
 ro 21 (.un .not (.t 20))] (some [4, 6, 21])) aby) abz
def abB : J := .seq (.ad [ro 16 (.aN 47 (.t 2)),
 ro 17 (.aN 47 (.t 3)),
 ro 18 (.call (.f 80) [(.t 16), (.t 17)]),
 ro 6 (.dH 47),
 ⟨none, .ck 47 (.t 6) (.t 18), none⟩] (some [4, 6])) abA
def abC : J := .seq (.seq (.ad [ro 7 (.aN 47 (.t 2)),
 ro 8 (.call (.f 67) [(.t 7)]),
 ro 9 (.un .not (.t 8)),
 ro 10 (.ae (.t 9)),
 ⟨some 11, .aN 47 (.t 3), some (10, false)⟩,
 ⟨some 12, .call (.f 67) [(.t 11)], some (10, false)⟩,
 ⟨some 13, .un .not (.t 12), some (10, false)⟩,
 ro 14 (.pick (.t 10) (.c (.bool true)) (.t 13))] (some [2, 3, 4, 14])) abw) abB
def abD : J := .seq (.ad [ro 2 (.dk 47 (.t 0)),
 ro 3 (.dk 47 (.t 1)),
 ro 4 (.dH 47),
 ro 5 (.an (.c (.int .i64 0)))] (some [2, 3, 4])) abC
theorem abE : bS ⟨24, [0, 1]⟩ (Try.f33.body.getD .skip) = some abD.strip := by kernel_rfl
def abF : J := .seq (.ad [ro 4 (.an (.c (.bool false)))] (some [4])) .ret
def abG : J := .cond (.t 10) abF .skip
def abH : J := .cond (.t 14) .skip (.exit 0)
def abI : J := .seq (.ad [ro 4 (.an (.c (.bool false)))] (some [4])) .ret
def abJ : J := .cond (.t 25) abI .skip
def abK : J := .ad [ro 15 (.ae (.t 5)),
 ro 16 (.aP .add 3 (.t 15) (.c (.int .i64 1))),
 ro 5 (.an (.t 16))] (some [0, 1, 5])
def abL : J := .seq (.block 1 (.seq (.fA [ro 17 (.ae (.t 0)),
 ro 18 (.ae (.t 5)),
 ro 19 (.cf 40 (.t 17) (.t 18)),
 ro 20 (.aN 2 (.t 19)),
 ro 21 (.ae (.t 1)),
 ro 22 (.ae (.t 5)),
 ro 23 (.cf 40 (.t 21) (.t 22)),
 ro 24 (.aN 2 (.t 23)),
 ro 25 (.aP .neq 2 (.t 20) (.t 24))] [[], [], [0, 1], [2], [], [], [4, 5], [6], [3, 7]] (some [0, 1, 5, 25])) abJ)) abK
def ID : J := .seq (.seq (.ad [ro 11 (.ae (.t 5)),
 ro 12 (.ae (.t 0)),
 ro 13 (.len 40 (.t 12)),
 ro 14 (.aP .lss 3 (.t 11) (.t 13))] (some [0, 1, 5, 14])) abH) abL
def abM : J := .block 0 (.loop ID)
def abN : J := .seq (.ad [ro 4 (.an (.c (.bool true)))] (some [4])) .ret
def abO : J := .seq (.seq (.ad [ro 5 (.an (.c (.int .i64 0)))] (some [0, 1, 5])) abM) abN
def abP : J := .seq (.seq (.ad [ro 6 (.ae (.t 0)),
 ro 7 (.len 40 (.t 6)),
 ro 8 (.ae (.t 1)),
 ro 9 (.len 40 (.t 8)),
 ro 10 (.aP .neq 3 (.t 7) (.t 9))] (some [0, 1, 10])) abG) abO
def abQ : J := .seq (.ad [ro 4 (.an (.c (.bool false)))] (some [0, 1])) abP
theorem abR : bS ⟨26, [0, 1]⟩ (Try.f36.body.getD .skip) = some abQ.strip := by kernel_rfl
def abS : J := .seq (.ad [ro 4 (.an (.c (.bool false)))] (some [4])) .ret
def abT : J := .cond (.t 9) abS .skip
def abU : J := .seq (.ad [ro 4 (.an (.c (.bool false)))] (some [4])) .ret
def abV : J := .cond (.t 14) abU .skip
def abW : J := .seq (.ad [ro 4 (.an (.c (.bool true)))] (some [4])) .ret
def abX : J := .seq (.seq (.ad [ro 10 (.a5 133 (.t 2) 1),
 ro 11 (.aN 2 (.t 10)),
 ro 12 (.a5 133 (.t 3) 1),
 ro 13 (.aN 2 (.t 12)),
 ro 14 (.aP .neq 2 (.t 11) (.t 13))] (some [14])) abV) abW
def abY : J := .seq (.seq (.ad [ro 5 (.a5 133 (.t 2) 0),
 ro 6 (.aN 2 (.t 5)),
 ro 7 (.a5 133 (.t 3) 0),
 ro 8 (.aN 2 (.t 7)),
 ro 9 (.aP .neq 2 (.t 6) (.t 8))] (some [2, 3, 9])) abT) abX
def abZ : J := .seq (.ad [ro 2 (.dk 133 (.t 0)),
 ro 3 (.dk 133 (.t 1)),
 ro 4 (.an (.c (.bool false)))] (some [2, 3])) abY
theorem ab0 : bS ⟨15, [0, 1]⟩ (Try.f177.body.getD .skip) = some abZ.strip := by kernel_rfl
def ab1 : J := .seq (.ad [ro 4 (.an (.c (.bool false)))] (some [4])) .ret
def ab2 : J := .cond (.t 10) ab1 .skip
def ab3 : J := .cond (.t 14) .skip (.exit 0)
def ab4 : J := .seq (.ad [ro 4 (.an (.c (.bool false)))] (some [4])) .ret
def ab5 : J := .cond (.t 26) ab4 .skip
def ab6 : J := .ad [ro 15 (.ae (.t 5)),
 ro 16 (.aP .add 3 (.t 15) (.c (.int .i64 1))),
 ro 5 (.an (.t 16))] (some [0, 1, 5])
def ab7 : J := .seq (.block 1 (.seq (.fA [ro 17 (.ae (.t 0)),
 ro 18 (.ae (.t 5)),
 ro 19 (.cf 87 (.t 17) (.t 18)),
 ro 20 (.aN 133 (.t 19)),
 ro 21 (.ae (.t 1)),
 ro 22 (.ae (.t 5)),
 ro 23 (.cf 87 (.t 21) (.t 22)),
 ro 24 (.aN 133 (.t 23)),
 ro 25 (.call (.f 177) [(.t 20), (.t 24)]),
 ro 26 (.un .not (.t 25))] [[], [], [0, 1], [2], [], [], [4, 5], [6], [3, 7], [8]] (some [0, 1, 5, 26])) ab5)) ab6
def IE : J := .seq (.seq (.ad [ro 11 (.ae (.t 5)),
 ro 12 (.ae (.t 0)),
 ro 13 (.len 87 (.t 12)),
 ro 14 (.aP .lss 3 (.t 11) (.t 13))] (some [0, 1, 5, 14])) ab3) ab7
def ab8 : J := .block 0 (.loop IE)
def ab9 : J := .seq (.ad [ro 4 (.an (.c (.bool true)))] (some [4])) .ret
def ab_ : J := .seq (.seq (.ad [ro 5 (.an (.c (.int .i64 0)))] (some [0, 1, 5])) ab8) ab9
def aca : J := .seq (.seq (.ad [ro 6 (.ae (.t 0)),
 ro 7 (.len 87 (.t 6)),
 ro 8 (.ae (.t 1)),
 ro 9 (.len 87 (.t 8)),
 ro 10 (.aP .neq 3 (.t 7) (.t 9))] (some [0, 1, 10])) ab2) ab_
def acb : J := .seq (.ad [ro 4 (.an (.c (.bool false)))] (some [0, 1])) aca
theorem acd : bS ⟨27, [0, 1]⟩ (Try.f149.body.getD .skip) = some acb.strip := by kernel_rfl
def ace : J := .seq (.ad [ro 4 (.an (.c (.bool false)))] (some [4])) .ret
def acf : J := .cond (.t 10) ace .skip
def acg : J := .cond (.t 14) .skip (.exit 0)
def ach : J := .seq (.ad [ro 4 (.an (.c (.bool false)))] (some [4])) .ret
def aci : J := .cond (.t 26) ach .skip
def acj : J := .ad [ro 15 (.ae (.t 5)),
 ro 16 (.aP .add 3 (.t 15) (.c (.int .i64 1))),
 ro 5 (.an (.t 16))] (some [0, 1, 5])
def ack : J := .seq (.block 1 (.seq (.fA [ro 17 (.ae (.t 0)),
 ro 18 (.ae (.t 5)),
 ro 19 (.cf 88 (.t 17) (.t 18)),
 ro 20 (.aN 87 (.t 19)),
 ro 21 (.ae (.t 1)),
 ro 22 (.ae (.t 5)),
 ro 23 (.cf 88 (.t 21) (.t 22)),
 ro 24 (.aN 87 (.t 23)),
 ro 25 (.call (.f 149) [(.t 20), (.t 24)]),
 ro 26 (.un .not (.t 25))] [[], [], [0, 1], [2], [], [], [4, 5], [6], [3, 7], [8]] (some [0, 1, 5, 26])) aci)) acj
def IF : J := .seq (.seq (.ad [ro 11 (.ae (.t 5)),
 ro 12 (.ae (.t 0)),
 ro 13 (.len 88 (.t 12)),
 ro 14 (.aP .lss 3 (.t 11) (.t 13))] (some [0, 1, 5, 14])) acg) ack
def acm : J := .block 0 (.loop IF)
def acn : J := .seq (.ad [ro 4 (.an (.c (.bool true)))] (some [4])) .ret
def aco : J := .seq (.seq (.ad [ro 5 (.an (.c (.int .i64 0)))] (some [0, 1, 5])) acm) acn
def acp : J := .seq (.seq (.ad [ro 6 (.ae (.t 0)),
 ro 7 (.len 88 (.t 6)),
 ro 8 (.ae (.t 1)),
 ro 9 (.len 88 (.t 8)),
 ro 10 (.aP .neq 3 (.t 7) (.t 9))] (some [0, 1, 10])) acf) aco
def acq : J := .seq (.ad [ro 4 (.an (.c (.bool false)))] (some [0, 1])) acp
theorem acr : bS ⟨27, [0, 1]⟩ (Try.f150.body.getD .skip) = some acq.strip := by kernel_rfl
def acs : J := .seq (.ad [ro 4 (.an (.c (.bool false)))] (some [4])) .ret
def acu : J := .cond (.t 10) acs .skip
def acv : J := .seq (.ad [ro 4 (.an (.c (.bool false)))] (some [4])) .ret
def acw : J := .cond (.t 16) acv .skip
def acx : J := .seq (.ad [ro 4 (.an (.c (.bool false)))] (some [4])) .ret
def acy : J := .cond (.t 21) acx .skip
def acz : J := .seq (.ad [ro 4 (.an (.c (.bool false)))] (some [4])) .ret
def acA : J := .cond (.t 27) acz .skip
def acB : J := .seq (.ad [ro 4 (.an (.c (.bool false)))] (some [4])) .ret
def acC : J := .cond (.t 33) acB .skip
def acD : J := .seq (.ad [ro 4 (.an (.c (.bool true)))] (some [4])) .ret
def acE : J := .seq (.seq (.ad [ro 28 (.a5 90 (.t 2) 4),
 ro 29 (.aN 88 (.t 28)),
 ro 30 (.a5 90 (.t 3) 4),
 ro 31 (.aN 88 (.t 30)),
 ro 32 (.call (.f 150) [(.t 29), (.t 31)]),
 ro 33 (.un .not (.t 32))] (some [33])) acC) acD
def acF : J := .seq (.seq (.ad [ro 22 (.a5 90 (.t 2) 3),
 ro 23 (.aN 88 (.t 22)),
 ro 24 (.a5 90 (.t 3) 3),
 ro 25 (.aN 88 (.t 24)),
 ro 26 (.call (.f 150) [(.t 23), (.t 25)]),
 ro 27 (.un .not (.t 26))] (some [2, 3, 27])) acA) acE
def acG : J := .seq (.seq (.ad [ro 17 (.a5 90 (.t 2) 2),
 ro 18 (.aN 9 (.t 17)),
 ro 19 (.a5 90 (.t 3) 2),
 ro 20 (.aN 9 (.t 19)),
 ro 21 (.aP .neq 9 (.t 18) (.t 20))] (some [2, 3, 21])) acy) acF
def acH : J := .seq (.seq (.ad [ro 11 (.a5 90 (.t 2) 1),
 ro 12 (.aN 87 (.t 11)),
 ro 13 (.a5 90 (.t 3) 1),
 ro 14 (.aN 87 (.t 13)),
 ro 15 (.call (.f 149) [(.t 12), (.t 14)]),
 ro 16 (.un .not (.t 15))] (some [2, 3, 16])) acw) acG
def acI : J := .seq (.seq (.ad [ro 5 (.a5 90 (.t 2) 0),
 ro 6 (.aN 40 (.t 5)),
 ro 7 (.a5 90 (.t 3) 0),
 ro 8 (.aN 40 (.t 7)),
 ro 9 (.call (.f 36) [(.t 6), (.t 8)]),
 ro 10 (.un .not (.t 9))] (some [2, 3, 10])) acu) acH
def acJ : J := .seq (.ad [ro 2 (.dk 90 (.t 0)),
 ro 3 (.dk 90 (.t 1)),
 ro 4 (.an (.c (.bool false)))] (some [2, 3])) acI
theorem acK : bS ⟨34, [0, 1]⟩ (Try.f108.body.getD .skip) = some acJ.strip := by kernel_rfl
def acL : J := .seq (.ad [ro 4 (.an (.c (.bool false)))] (some [4])) .ret
def acM : J := .cond (.t 10) acL .skip
def acN : J := .cond (.t 14) .skip (.exit 0)
def acO : J := .seq (.ad [ro 4 (.an (.c (.bool false)))] (some [4])) .ret
def acP : J := .cond (.t 26) acO .skip
def acQ : J := .ad [ro 15 (.ae (.t 5)),
 ro 16 (.aP .add 3 (.t 15) (.c (.int .i64 1))),
 ro 5 (.an (.t 16))] (some [0, 1, 5])
def acR : J := .seq (.block 1 (.seq (.fA [ro 17 (.ae (.t 0)),
 ro 18 (.ae (.t 5)),
 ro 19 (.cf 45 (.t 17) (.t 18)),
 ro 20 (.aN 90 (.t 19)),
 ro 21 (.ae (.t 1)),
 ro 22 (.ae (.t 5)),
 ro 23 (.cf 45 (.t 21) (.t 22)),
 ro 24 (.aN 90 (.t 23)),
 ro 25 (.call (.f 108) [(.t 20), (.t 24)]),
 ro 26 (.un .not (.t 25))] [[], [], [0, 1], [2], [], [], [4, 5], [6], [3, 7], [8]] (some [0, 1, 5, 26])) acP)) acQ
def IG : J := .seq (.seq (.ad [ro 11 (.ae (.t 5)),
 ro 12 (.ae (.t 0)),
 ro 13 (.len 45 (.t 12)),
 ro 14 (.aP .lss 3 (.t 11) (.t 13))] (some [0, 1, 5, 14])) acN) acR
def acS : J := .block 0 (.loop IG)
def acT : J := .seq (.ad [ro 4 (.an (.c (.bool true)))] (some [4])) .ret
def acU : J := .seq (.seq (.ad [ro 5 (.an (.c (.int .i64 0)))] (some [0, 1, 5])) acS) acT
def acV : J := .seq (.seq (.ad [ro 6 (.ae (.t 0)),
 ro 7 (.len 45 (.t 6)),
 ro 8 (.ae (.t 1)),
 ro 9 (.len 45 (.t 8)),
 ro 10 (.aP .neq 3 (.t 7) (.t 9))] (some [0, 1, 10])) acM) acU
def acW : J := .seq (.ad [ro 4 (.an (.c (.bool false)))] (some [0, 1])) acV
theorem acX : bS ⟨27, [0, 1]⟩ (Try.f76.body.getD .skip) = some acW.strip := by kernel_rfl
def acY : J := .seq (.ad [ro 4 (.an (.c (.bool false)))] (some [4])) .ret
def acZ : J := .cond (.t 9) acY .skip
def ac0 : J := .seq (.ad [ro 4 (.an (.c (.bool false)))] (some [4])) .ret
def ac1 : J := .cond (.t 15) ac0 .skip
def ac2 : J := .seq (.ad [ro 4 (.an (.c (.bool false)))] (some [4])) .ret
def ac3 : J := .cond (.t 21) ac2 .skip
def ac4 : J := .seq (.ad [ro 4 (.an (.c (.bool true)))] (some [4])) .ret
def ac5 : J := .seq (.seq (.ad [ro 16 (.a5 47 (.t 2) 2),
 ro 17 (.aN 45 (.t 16)),
 ro 18 (.a5 47 (.t 3) 2),
 ro 19 (.aN 45 (.t 18)),
 ro 20 (.call (.f 76) [(.t 17), (.t 19)]),
 ro 21 (.un .not (.t 20))] (some [21])) ac3) ac4
def ac6 : J := .seq (.seq (.ad [ro 10 (.a5 47 (.t 2) 1),
 ro 11 (.aN 40 (.t 10)),
 ro 12 (.a5 47 (.t 3) 1),
 ro 13 (.aN 40 (.t 12)),
 ro 14 (.call (.f 36) [(.t 11), (.t 13)]),
 ro 15 (.un .not (.t 14))] (some [2, 3, 15])) ac1) ac5
def ac7 : J := .seq (.seq (.ad [ro 5 (.a5 47 (.t 2) 0),
 ro 6 (.aN 2 (.t 5)),
 ro 7 (.a5 47 (.t 3) 0),
 ro 8 (.aN 2 (.t 7)),
 ro 9 (.aP .neq 2 (.t 6) (.t 8))] (some [2, 3, 9])) acZ) ac6
def ac8 : J := .seq (.ad [ro 2 (.dk 47 (.t 0)),
 ro 3 (.dk 47 (.t 1)),
 ro 4 (.an (.c (.bool false)))] (some [2, 3])) ac7
theorem ac9 : bS ⟨22, [0, 1]⟩ (Try.f29.body.getD .skip) = some ac8.strip := by kernel_rfl
def ac_ : J := .cond (.t 9) .skip (.exit 0)
def ada : J := .ad [ro 16 (.ae (.t 1)),
 ro 17 (.aP .add 3 (.t 16) (.c (.int .i64 1))),
 ro 1 (.an (.t 17))] (some [0, 1, 5])
def adb : J := .ad [ro 10 (.ae (.t 5)),
 ro 11 (.aP .add 3 (.t 10) (.c (.int .i64 1))),
 ro 5 (.an (.t 11))] (some [0, 1, 5])
def ade : J := .seq (.block 1 (.seq (.ad [ro 12 (.ae (.t 0)),
 ro 13 (.ae (.t 5)),
 ro 14 (.ae (.t 1)),
 ro 15 (.cf 40 (.t 12) (.t 13)),
 ⟨none, .ck 2 (.t 15) (.t 14), none⟩] (some [0, 1, 5])) ada)) adb
def IH : J := .seq (.seq (.ad [ro 6 (.ae (.t 5)),
 ro 7 (.ae (.t 0)),
 ro 8 (.len 40 (.t 7)),
 ro 9 (.aP .lss 3 (.t 6) (.t 8))] (some [0, 1, 5, 9])) ac_) ade
def adf : J := .block 0 (.loop IH)
def adg : J := .seq (.ad [ro 18 (.ae (.t 1)),
 ro 4 (.an (.t 18))] (some [0, 4])) .ret
def adh : J := .seq (.seq (.ad [ro 5 (.an (.c (.int .i64 0)))] (some [0, 1, 5])) adf) adg
def adi : J := .seq (.ad [ro 4 (.an (.c (.int .i64 0)))] (some [0, 1])) adh
theorem adj : bS ⟨19, [0]⟩ (Try.f37.body.getD .skip) = some adi.strip := by kernel_rfl
def adk : J := .cond (.t 9) .skip (.exit 0)
def adl : J := .ad [ro 24 (.ae (.t 1)),
 ro 25 (.aP .add 3 (.t 24) (.c (.int .i64 1))),
 ro 1 (.an (.t 25))] (some [0, 1, 5])
def adm : J := .seq (.ad [ro 19 (.ae (.t 0)),
 ro 20 (.ae (.t 5)),
 ro 21 (.ae (.t 1)),
 ro 22 (.cf 87 (.t 19) (.t 20)),
 ro 23 (.a5 133 (.t 22) 1),
 ⟨none, .ck 2 (.t 23) (.t 21), none⟩] (some [0, 1, 5])) adl
def adn : J := .seq (.ad [ro 17 (.ae (.t 1)),
 ro 18 (.aP .add 3 (.t 17) (.c (.int .i64 1))),
 ro 1 (.an (.t 18))] (some [0, 1, 5])) adm
def ado : J := .ad [ro 10 (.ae (.t 5)),
 ro 11 (.aP .add 3 (.t 10) (.c (.int .i64 1))),
 ro 5 (.an (.t 11))] (some [0, 1, 5])
def adp : J := .seq (.block 1 (.seq (.ad [ro 12 (.ae (.t 0)),
 ro 13 (.ae (.t 5)),
 ro 14 (.ae (.t 1)),
 ro 15 (.cf 87 (.t 12) (.t 13)),
 ro 16 (.a5 133 (.t 15) 0),
 ⟨none, .ck 2 (.t 16) (.t 14), none⟩] (some [0, 1, 5])) adn)) ado
def II : J := .seq (.seq (.ad [ro 6 (.ae (.t 5)),
 ro 7 (.ae (.t 0)),
 ro 8 (.len 87 (.t 7)),
 ro 9 (.aP .lss 3 (.t 6) (.t 8))] (some [0, 1, 5, 9])) adk) adp
def adq : J := .block 0 (.loop II)
def adr : J := .seq (.ad [ro 26 (.ae (.t 1)),
 ro 4 (.an (.t 26))] (some [0, 4])) .ret
def ads : J := .seq (.seq (.ad [ro 5 (.an (.c (.int .i64 0)))] (some [0, 1, 5])) adq) adr
def adt : J := .seq (.ad [ro 4 (.an (.c (.int .i64 0)))] (some [0, 1])) ads
theorem adu : bS ⟨27, [0]⟩ (Try.f109.body.getD .skip) = some adt.strip := by kernel_rfl
def adv : J := .seq (.ad [ro 2 (.an (.c (.str [109, 48])))] (some [2])) .ret
def adw : J := .cond (.t 5) adv .skip
def adx : J := .cond (.t 7) .skip (.exit 0)
def ady : J := .ad [ro 16 (.ae (.t 0)),
 ro 17 (.aP .quo 3 (.t 16) (.c (.int .i64 10))),
 ro 0 (.an (.t 17))] (some [0, 3])
def adz : J := .block 1 (.seq (.ad [ro 8 (.ae (.t 0)),
 ro 9 (.aP .rem 3 (.t 8) (.c (.int .i64 10))),
 ro 10 (.aP .add 3 (.c (.int .i64 48)) (.t 9)),
 ro 11 (.fo 3 5 (.t 10)),
 ro 12 (.cE 62 1 [(0, (.t 11))]),
 ro 13 (.fo 62 9 (.t 12)),
 ro 14 (.ae (.t 3)),
 ro 15 (.aP .add 9 (.t 13) (.t 14)),
 ro 3 (.an (.t 15))] (some [0, 3])) ady)
def IJ : J := .seq (.seq (.ad [ro 6 (.ae (.t 0)),
 ro 7 (.aP .gtr 3 (.t 6) (.c (.int .i64 0)))] (some [0, 3, 7])) adx) adz
def adA : J := .seq (.ad [ro 18 (.ae (.t 3)),
 ro 19 (.aP .add 9 (.c (.str [109])) (.t 18)),
 ro 2 (.an (.t 19))] (some [2])) .ret
def adB : J := .seq (.block 0 (.loop IJ)) adA
def adC : J := .seq (.ad [ro 3 (.an (.c (.str [])))] (some [0, 3])) adB
def adD : J := .seq (.seq (.ad [ro 4 (.ae (.t 0)),
 ro 5 (.aP .leq 3 (.t 4) (.c (.int .i64 0)))] (some [0, 5])) adw) adC
def adE : J := .seq (.ad [ro 2 (.an (.c (.str [])))] (some [0])) adD
theorem adF : bS ⟨20, []⟩ (Try.f47.body.getD .skip) = some adE.strip := by kernel_rfl
def adG : J := .cond (.t 9) .skip (.exit 0)
def adH : J := .ad [ro 10 (.ae (.t 5)),
 ro 11 (.aP .add 3 (.t 10) (.c (.int .i64 1))),
 ro 5 (.an (.t 11))] (some [0, 1, 5])
def adI : J := .seq (.block 1 (.ad [ro 12 (.ae (.t 0)),
 ro 13 (.ae (.t 5)),
 ro 14 (.cf 88 (.t 12) (.t 13)),
 ro 15 (.aN 87 (.t 14)),
 ro 16 (.ae (.t 1)),
 ro 17 (.call (.f 109) [(.t 15), (.t 16)]),
 ro 1 (.an (.t 17))] (some [0, 1, 5]))) adH
def IK : J := .seq (.seq (.ad [ro 6 (.ae (.t 5)),
 ro 7 (.ae (.t 0)),
 ro 8 (.len 88 (.t 7)),
 ro 9 (.aP .lss 3 (.t 6) (.t 8))] (some [0, 1, 5, 9])) adG) adI
def adJ : J := .block 0 (.loop IK)
def adK : J := .seq (.ad [ro 18 (.ae (.t 1)),
 ro 4 (.an (.t 18))] (some [0, 4])) .ret
def adL : J := .seq (.seq (.ad [ro 5 (.an (.c (.int .i64 0)))] (some [0, 1, 5])) adJ) adK
def adM : J := .seq (.ad [ro 4 (.an (.c (.int .i64 0)))] (some [0, 1])) adL
theorem adN : bS ⟨19, [0]⟩ (Try.f110.body.getD .skip) = some adM.strip := by kernel_rfl
def adO : J := .cond (.t 9) .skip (.exit 0)
def adP : J := .ad [ro 41 (.ae (.t 0)),
 ro 42 (.ae (.t 5)),
 ro 43 (.cf 45 (.t 41) (.t 42)),
 ro 44 (.a5 90 (.t 43) 4),
 ro 45 (.aN 88 (.t 44)),
 ro 46 (.ae (.t 1)),
 ro 47 (.call (.f 110) [(.t 45), (.t 46)]),
 ro 1 (.an (.t 47))] (some [0, 1, 5])
def adQ : J := .seq (.ad [ro 34 (.ae (.t 0)),
 ro 35 (.ae (.t 5)),
 ro 36 (.cf 45 (.t 34) (.t 35)),
 ro 37 (.a5 90 (.t 36) 3),
 ro 38 (.aN 88 (.t 37)),
 ro 39 (.ae (.t 1)),
 ro 40 (.call (.f 110) [(.t 38), (.t 39)]),
 ro 1 (.an (.t 40))] (some [0, 1, 5])) adP
def adR : J := .seq (.ad [ro 32 (.ae (.t 1)),
 ro 33 (.aP .add 3 (.t 32) (.c (.int .i64 1))),
 ro 1 (.an (.t 33))] (some [0, 1, 5])) adQ
def adS : J := .seq (.ad [ro 26 (.ae (.t 0)),
 ro 27 (.ae (.t 5)),
 ro 28 (.ae (.t 1)),
 ro 29 (.call (.f 47) [(.t 28)]),
 ro 30 (.cf 45 (.t 26) (.t 27)),
 ro 31 (.a5 90 (.t 30) 2),
 ⟨none, .ck 9 (.t 31) (.t 29), none⟩] (some [0, 1, 5])) adR
def adT : J := .seq (.ad [ro 19 (.ae (.t 0)),
 ro 20 (.ae (.t 5)),
 ro 21 (.cf 45 (.t 19) (.t 20)),
 ro 22 (.a5 90 (.t 21) 1),
 ro 23 (.aN 87 (.t 22)),
 ro 24 (.ae (.t 1)),
 ro 25 (.call (.f 109) [(.t 23), (.t 24)]),
 ro 1 (.an (.t 25))] (some [0, 1, 5])) adS
def adU : J := .ad [ro 10 (.ae (.t 5)),
 ro 11 (.aP .add 3 (.t 10) (.c (.int .i64 1))),
 ro 5 (.an (.t 11))] (some [0, 1, 5])
def adV : J := .seq (.block 1 (.seq (.ad [ro 12 (.ae (.t 0)),
 ro 13 (.ae (.t 5)),
 ro 14 (.cf 45 (.t 12) (.t 13)),
 ro 15 (.a5 90 (.t 14) 0),
 ro 16 (.aN 40 (.t 15)),
 ro 17 (.ae (.t 1)),
 ro 18 (.call (.f 37) [(.t 16), (.t 17)]),
 ro 1 (.an (.t 18))] (some [0, 1, 5])) adT)) adU
def IL : J := .seq (.seq (.ad [ro 6 (.ae (.t 5)),
 ro 7 (.ae (.t 0)),
 ro 8 (.len 45 (.t 7)),
 ro 9 (.aP .lss 3 (.t 6) (.t 8))] (some [0, 1, 5, 9])) adO) adV
def adW : J := .block 0 (.loop IL)
def adX : J := .seq (.ad [ro 48 (.ae (.t 1)),
 ro 4 (.an (.t 48))] (some [0, 4])) .ret
def adY : J := .seq (.seq (.ad [ro 5 (.an (.c (.int .i64 0)))] (some [0, 1, 5])) adW) adX
def adZ : J := .seq (.ad [ro 4 (.an (.c (.int .i64 0)))] (some [0, 1])) adY
theorem nF : bS ⟨49, [0]⟩ (Try.f77.body.getD .skip) = some adZ.strip := by kernel_rfl
def ad0 : J := .seq (.ad [ro 13 (.ae (.t 1)),
 ro 4 (.an (.t 13))] (some [0, 4])) .ret
def ad1 : J := .seq (.ad [ro 9 (.a5 47 (.t 2) 2),
 ro 10 (.aN 45 (.t 9)),
 ro 11 (.ae (.t 1)),
 ro 12 (.call (.f 77) [(.t 10), (.t 11)]),
 ro 1 (.an (.t 12))] (some [0, 1])) ad0
def ad2 : J := .seq (.ad [ro 5 (.a5 47 (.t 2) 1),
 ro 6 (.aN 40 (.t 5)),
 ro 7 (.ae (.t 1)),
 ⟨some 8, .kv (.f 37) [(.t 6), (.t 7)] [2], none⟩,
 ro 1 (.an (.t 8))] (some [0, 1, 2])) ad1
def ad3 : J := .seq (.ad [⟨some 2, .hL 47 (.t 0), none⟩,
 ro 4 (.an (.c (.int .i64 0)))] (some [0, 1, 2])) ad2
theorem ad4 : bS ⟨14, [0]⟩ (Try.f30.body.getD .skip) = some ad3.strip := by kernel_rfl
def ad5 : J := .cond (.t 9) .skip (.exit 0)
def ad6 : J := .seq (.ad [ro 4 (.an (.c (.int .i64 (-1))))] (some [4])) .ret
def ad7 : J := .cond (.t 17) ad6 .skip
def ad8 : J := .ad [ro 18 (.ae (.t 1)),
 ro 19 (.aP .add 3 (.t 18) (.c (.int .i64 1))),
 ro 1 (.an (.t 19))] (some [0, 1, 5])
def ad9 : J := .ad [ro 10 (.ae (.t 5)),
 ro 11 (.aP .add 3 (.t 10) (.c (.int .i64 1))),
 ro 5 (.an (.t 11))] (some [0, 1, 5])
def ad_ : J := .seq (.block 1 (.seq (.seq (.ad [ro 12 (.ae (.t 0)),
 ro 13 (.ae (.t 5)),
 ro 14 (.cf 40 (.t 12) (.t 13)),
 ro 15 (.aN 2 (.t 14)),
 ro 16 (.ae (.t 1)),
 ro 17 (.aP .neq 2 (.t 15) (.t 16))] (some [0, 1, 5, 17])) ad7) ad8)) ad9
def IM : J := .seq (.seq (.ad [ro 6 (.ae (.t 5)),
 ro 7 (.ae (.t 0)),
 ro 8 (.len 40 (.t 7)),
 ro 9 (.aP .lss 3 (.t 6) (.t 8))] (some [0, 1, 5, 9])) ad5) ad_
def aea : J := .block 0 (.loop IM)
def aeb : J := .seq (.ad [ro 20 (.ae (.t 1)),
 ro 4 (.an (.t 20))] (some [4])) .ret
def aec : J := .seq (.seq (.ad [ro 5 (.an (.c (.int .i64 0)))] (some [0, 1, 5])) aea) aeb
def aed : J := .seq (.ad [ro 4 (.an (.c (.int .i64 0)))] (some [0, 1])) aec
theorem aee : bS ⟨21, [0]⟩ (Try.f38.body.getD .skip) = some aed.strip := by kernel_rfl
def aef : J := .cond (.t 9) .skip (.exit 0)
def aeg : J := .seq (.ad [ro 4 (.an (.c (.int .i64 (-1))))] (some [4])) .ret
def aeh : J := .cond (.t 18) aeg .skip
def aei : J := .seq (.ad [ro 4 (.an (.c (.int .i64 (-1))))] (some [4])) .ret
def aej : J := .cond (.t 27) aei .skip
def aek : J := .ad [ro 28 (.ae (.t 1)),
 ro 29 (.aP .add 3 (.t 28) (.c (.int .i64 1))),
 ro 1 (.an (.t 29))] (some [0, 1, 5])
def ael : J := .seq (.seq (.ad [ro 21 (.ae (.t 0)),
 ro 22 (.ae (.t 5)),
 ro 23 (.cf 87 (.t 21) (.t 22)),
 ro 24 (.a5 133 (.t 23) 1),
 ro 25 (.aN 2 (.t 24)),
 ro 26 (.ae (.t 1)),
 ro 27 (.aP .neq 2 (.t 25) (.t 26))] (some [0, 1, 5, 27])) aej) aek
def aem : J := .seq (.ad [ro 19 (.ae (.t 1)),
 ro 20 (.aP .add 3 (.t 19) (.c (.int .i64 1))),
 ro 1 (.an (.t 20))] (some [0, 1, 5])) ael
def aen : J := .ad [ro 10 (.ae (.t 5)),
 ro 11 (.aP .add 3 (.t 10) (.c (.int .i64 1))),
 ro 5 (.an (.t 11))] (some [0, 1, 5])
def aeo : J := .seq (.block 1 (.seq (.seq (.ad [ro 12 (.ae (.t 0)),
 ro 13 (.ae (.t 5)),
 ro 14 (.cf 87 (.t 12) (.t 13)),
 ro 15 (.a5 133 (.t 14) 0),
 ro 16 (.aN 2 (.t 15)),
 ro 17 (.ae (.t 1)),
 ro 18 (.aP .neq 2 (.t 16) (.t 17))] (some [0, 1, 5, 18])) aeh) aem)) aen
def IP : J := .seq (.seq (.ad [ro 6 (.ae (.t 5)),
 ro 7 (.ae (.t 0)),
 ro 8 (.len 87 (.t 7)),
 ro 9 (.aP .lss 3 (.t 6) (.t 8))] (some [0, 1, 5, 9])) aef) aeo
def aep : J := .block 0 (.loop IP)
def aeq : J := .seq (.ad [ro 30 (.ae (.t 1)),
 ro 4 (.an (.t 30))] (some [4])) .ret
def aer : J := .seq (.seq (.ad [ro 5 (.an (.c (.int .i64 0)))] (some [0, 1, 5])) aep) aeq
def aes : J := .seq (.ad [ro 4 (.an (.c (.int .i64 0)))] (some [0, 1])) aer
theorem aet : bS ⟨31, [0]⟩ (Try.f111.body.getD .skip) = some aes.strip := by kernel_rfl
def aeu : J := .cond (.t 9) .skip (.exit 0)
def aev : J := .seq (.ad [ro 4 (.an (.c (.int .i64 (-1))))] (some [4])) .ret
def aew : J := .cond (.t 19) aev .skip
def aex : J := .seq (.ad [ro 18 (.ae (.t 1)),
 ro 19 (.aP .lss 3 (.t 18) (.c (.int .i64 0)))] (some [0, 1, 5, 19])) aew
def aey : J := .ad [ro 10 (.ae (.t 5)),
 ro 11 (.aP .add 3 (.t 10) (.c (.int .i64 1))),
 ro 5 (.an (.t 11))] (some [0, 1, 5])
def aez : J := .seq (.block 1 (.seq (.ad [ro 12 (.ae (.t 0)),
 ro 13 (.ae (.t 5)),
 ro 14 (.cf 88 (.t 12) (.t 13)),
 ro 15 (.aN 87 (.t 14)),
 ro 16 (.ae (.t 1)),
 ro 17 (.call (.f 111) [(.t 15), (.t 16)]),
 ro 1 (.an (.t 17))] (some [0, 1, 5])) aex)) aey
def IQ : J := .seq (.seq (.ad [ro 6 (.ae (.t 5)),
 ro 7 (.ae (.t 0)),
 ro 8 (.len 88 (.t 7)),
 ro 9 (.aP .lss 3 (.t 6) (.t 8))] (some [0, 1, 5, 9])) aeu) aez
def aeA : J := .block 0 (.loop IQ)
def aeB : J := .seq (.ad [ro 20 (.ae (.t 1)),
 ro 4 (.an (.t 20))] (some [4])) .ret
def aeC : J := .seq (.seq (.ad [ro 5 (.an (.c (.int .i64 0)))] (some [0, 1, 5])) aeA) aeB
def aeD : J := .seq (.ad [ro 4 (.an (.c (.int .i64 0)))] (some [0, 1])) aeC
theorem aeE : bS ⟨21, [0]⟩ (Try.f112.body.getD .skip) = some aeD.strip := by kernel_rfl
def aeF : J := .cond (.t 9) .skip (.exit 0)
def aeG : J := .seq (.ad [ro 4 (.an (.c (.int .i64 (-1))))] (some [4])) .ret
def aeH : J := .cond (.t 20) aeG .skip
def aeI : J := .seq (.ad [ro 4 (.an (.c (.int .i64 (-1))))] (some [4])) .ret
def aeJ : J := .cond (.t 29) aeI .skip
def aeK : J := .seq (.ad [ro 4 (.an (.c (.int .i64 (-1))))] (some [4])) .ret
def aeL : J := .cond (.t 37) aeK .skip
def aeM : J := .seq (.ad [ro 4 (.an (.c (.int .i64 (-1))))] (some [4])) .ret
def aeN : J := .cond (.t 48) aeM .skip
def aeO : J := .seq (.ad [ro 4 (.an (.c (.int .i64 (-1))))] (some [4])) .ret
def aeP : J := .cond (.t 57) aeO .skip
def aeQ : J := .seq (.ad [ro 56 (.ae (.t 1)),
 ro 57 (.aP .lss 3 (.t 56) (.c (.int .i64 0)))] (some [0, 1, 5, 57])) aeP
def aeR : J := .seq (.ad [ro 49 (.ae (.t 0)),
 ro 50 (.ae (.t 5)),
 ro 51 (.cf 45 (.t 49) (.t 50)),
 ro 52 (.a5 90 (.t 51) 4),
 ro 53 (.aN 88 (.t 52)),
 ro 54 (.ae (.t 1)),
 ro 55 (.call (.f 112) [(.t 53), (.t 54)]),
 ro 1 (.an (.t 55))] (some [0, 1, 5])) aeQ
def aeS : J := .seq (.seq (.ad [ro 47 (.ae (.t 1)),
 ro 48 (.aP .lss 3 (.t 47) (.c (.int .i64 0)))] (some [0, 1, 5, 48])) aeN) aeR
def aeT : J := .seq (.ad [ro 40 (.ae (.t 0)),
 ro 41 (.ae (.t 5)),
 ro 42 (.cf 45 (.t 40) (.t 41)),
 ro 43 (.a5 90 (.t 42) 3),
 ro 44 (.aN 88 (.t 43)),
 ro 45 (.ae (.t 1)),
 ro 46 (.call (.f 112) [(.t 44), (.t 45)]),
 ro 1 (.an (.t 46))] (some [0, 1, 5])) aeS
def aeU : J := .seq (.ad [ro 38 (.ae (.t 1)),
 ro 39 (.aP .add 3 (.t 38) (.c (.int .i64 1))),
 ro 1 (.an (.t 39))] (some [0, 1, 5])) aeT
def aeV : J := .seq (.seq (.fA [ro 30 (.ae (.t 0)),
 ro 31 (.ae (.t 5)),
 ro 32 (.cf 45 (.t 30) (.t 31)),
 ro 33 (.a5 90 (.t 32) 2),
 ro 34 (.aN 9 (.t 33)),
 ro 35 (.ae (.t 1)),
 ro 36 (.call (.f 47) [(.t 35)]),
 ro 37 (.aP .neq 9 (.t 34) (.t 36))] [[], [], [0, 1], [2], [3], [], [5], [4, 6]] (some [0, 1, 5, 37])) aeL) aeU
def aeW : J := .seq (.seq (.ad [ro 28 (.ae (.t 1)),
 ro 29 (.aP .lss 3 (.t 28) (.c (.int .i64 0)))] (some [0, 1, 5, 29])) aeJ) aeV
def aeX : J := .seq (.ad [ro 21 (.ae (.t 0)),
 ro 22 (.ae (.t 5)),
 ro 23 (.cf 45 (.t 21) (.t 22)),
 ro 24 (.a5 90 (.t 23) 1),
 ro 25 (.aN 87 (.t 24)),
 ro 26 (.ae (.t 1)),
 ro 27 (.call (.f 111) [(.t 25), (.t 26)]),
 ro 1 (.an (.t 27))] (some [0, 1, 5])) aeW
def aeY : J := .seq (.seq (.ad [ro 19 (.ae (.t 1)),
 ro 20 (.aP .lss 3 (.t 19) (.c (.int .i64 0)))] (some [0, 1, 5, 20])) aeH) aeX
def aeZ : J := .ad [ro 10 (.ae (.t 5)),
 ro 11 (.aP .add 3 (.t 10) (.c (.int .i64 1))),
 ro 5 (.an (.t 11))] (some [0, 1, 5])
def ae0 : J := .seq (.block 1 (.seq (.ad [ro 12 (.ae (.t 0)),
 ro 13 (.ae (.t 5)),
 ro 14 (.cf 45 (.t 12) (.t 13)),
 ro 15 (.a5 90 (.t 14) 0),
 ro 16 (.aN 40 (.t 15)),
 ro 17 (.ae (.t 1)),
 ro 18 (.call (.f 38) [(.t 16), (.t 17)]),
 ro 1 (.an (.t 18))] (some [0, 1, 5])) aeY)) aeZ
def IU : J := .seq (.seq (.ad [ro 6 (.ae (.t 5)),
 ro 7 (.ae (.t 0)),
 ro 8 (.len 45 (.t 7)),
 ro 9 (.aP .lss 3 (.t 6) (.t 8))] (some [0, 1, 5, 9])) aeF) ae0
def ae1 : J := .block 0 (.loop IU)
def ae2 : J := .seq (.ad [ro 58 (.ae (.t 1)),
 ro 4 (.an (.t 58))] (some [4])) .ret
def ae3 : J := .seq (.seq (.ad [ro 5 (.an (.c (.int .i64 0)))] (some [0, 1, 5])) ae1) ae2
def ae4 : J := .seq (.ad [ro 4 (.an (.c (.int .i64 0)))] (some [0, 1])) ae3
theorem ae5 : bS ⟨59, [0]⟩ (Try.f78.body.getD .skip) = some ae4.strip := by kernel_rfl
def ae6 : J := .seq (.ad [ro 4 (.an (.c (.int .i64 (-1))))] (some [4])) .ret
def ae7 : J := .cond (.t 10) ae6 .skip
def ae8 : J := .seq (.ad [ro 4 (.an (.c (.int .i64 (-1))))] (some [4])) .ret
def ae9 : J := .cond (.t 16) ae8 .skip
def ae_ : J := .seq (.ad [ro 17 (.ae (.t 1)),
 ro 4 (.an (.t 17))] (some [4])) .ret
def afa : J := .seq (.seq (.ad [ro 15 (.ae (.t 1)),
 ro 16 (.aP .lss 3 (.t 15) (.c (.int .i64 0)))] (some [1, 16])) ae9) ae_
def afb : J := .seq (.ad [ro 11 (.a5 47 (.t 2) 2),
 ro 12 (.aN 45 (.t 11)),
 ro 13 (.ae (.t 1)),
 ro 14 (.call (.f 78) [(.t 12), (.t 13)]),
 ro 1 (.an (.t 14))] (some [1])) afa
def afc : J := .seq (.seq (.ad [ro 9 (.ae (.t 1)),
 ro 10 (.aP .lss 3 (.t 9) (.c (.int .i64 0)))] (some [1, 2, 10])) ae7) afb
def afd : J := .seq (.ad [ro 5 (.a5 47 (.t 2) 1),
 ro 6 (.aN 40 (.t 5)),
 ro 7 (.ae (.t 1)),
 ro 8 (.call (.f 38) [(.t 6), (.t 7)]),
 ro 1 (.an (.t 8))] (some [1, 2])) afc
def afe : J := .seq (.ad [ro 2 (.dk 47 (.t 0)),
 ro 4 (.an (.c (.int .i64 0)))] (some [1, 2])) afd
theorem aff : bS ⟨18, [0]⟩ (Try.f31.body.getD .skip) = some afe.strip := by kernel_rfl
def afg : J := .seq (.ad [ro 4 (.an (.c (.bool true)))] (some [4])) .ret
def afh : J := .cond (.t 21) afg .skip
def afi : J := .seq (.ad [ro 4 (.an (.c (.bool true)))] (some [4])) .ret
def afj : J := .cond (.t 26) afi .skip
def afk : J := .seq (.ad [ro 4 (.an (.c (.bool false)))] (some [4])) .ret
def afl : J := .cond (.t 53) afk .skip
def afm : J := .seq (.ad [ro 4 (.an (.c (.bool false)))] (some [4])) .ret
def afn : J := .cond (.t 58) afm .skip
def afo : J := .seq (.ad [ro 4 (.an (.c (.bool false)))] (some [4])) .ret
def afp : J := .cond (.t 63) afo .skip
def afq : J := .seq (.ad [ro 4 (.an (.c (.bool false)))] (some [4])) .ret
def afr : J := .cond (.t 82) afq .skip
def afs : J := .seq (.ad [ro 4 (.an (.c (.bool false)))] (some [4])) .ret
def aft : J := .cond (.t 90) afs .skip
def afu : J := .seq (.ad [ro 4 (.an (.c (.bool false)))] (some [4])) .ret
def afv : J := .cond (.t 93) afu .skip
def afw : J := .seq (.ad [ro 4 (.an (.c (.bool false)))] (some [4])) .ret
def afx : J := .cond (.t 110) afw .skip
def afy : J := .seq (.ad [ro 4 (.an (.c (.bool false)))] (some [4])) .ret
def afz : J := .cond (.t 115) afy .skip
def afA : J := .seq (.ad [ro 4 (.an (.c (.bool false)))] (some [4])) .ret
def afB : J := .cond (.t 118) afA .skip
def afC : J := .seq (.ad [ro 4 (.an (.c (.bool true)))] (some [4])) .ret
def afD : J := .seq (.seq (.ad [ro 116 (.ae (.t 14)),
 ro 117 (.ae (.t 13)),
 ro 118 (.aP .neq 3 (.t 116) (.t 117))] (some [118])) afB) afC
def afE : J := .seq (.seq (.ad [ro 114 (.ae (.t 14)),
 ro 115 (.aP .lss 3 (.t 114) (.c (.int .i64 0)))] (some [13, 14, 115])) afz) afD
def afF : J := .seq (.ad [ro 111 (.aN 47 (.t 10)),
 ro 112 (.ae (.t 14)),
 ro 113 (.call (.f 31) [(.t 111), (.t 112)]),
 ro 14 (.an (.t 113))] (some [13, 14])) afE
def afG : J := .seq (.ad [ro 14 (.an (.c (.int .i64 1)))] (some [10, 13, 14])) afF
def afH : J := .seq (.seq (.ad [ro 102 (.aN 47 (.t 15)),
 ro 103 (.aN 47 (.t 6)),
 ro 104 (.call (.f 29) [(.t 102), (.t 103)]),
 ro 105 (.un .not (.t 104)),
 ro 106 (.ae (.t 105)),
 ⟨some 107, .ae (.t 16), some (106, false)⟩,
 ⟨some 108, .ae (.t 7), some (106, false)⟩,
 ⟨some 109, .aP .neq 2 (.t 107) (.t 108), some (106, false)⟩,
 ro 110 (.pick (.t 106) (.c (.bool true)) (.t 109))] (some [10, 13, 110])) afx) afG
def afI : J := .seq (.fA [ro 95 (.aN 43 (.t 2)),
 ro 96 (.call (.f 27) [(.t 95)]),
 ro 97 (.aN 43 (.t 3)),
 ro 98 (.call (.f 27) [(.t 97)]),
 ro 99 (.call (.f 33) [(.t 96), (.t 98)]),
 ⟨some 94, .kO (.t 99), none⟩,
 ro 100 (.ex (.t 94) 0),
 ro 101 (.ex (.t 94) 1),
 ro 15 (.dH 47),
 ⟨none, .ck 47 (.t 15) (.t 100), none⟩,
 ro 16 (.an (.t 101))] [[], [0], [], [2, 1], [1, 3, 3], [4], [5], [5], [], [8, 6, 4, 0, 1, 2, 3, 4, 5, 6, 8], [7, 9, 0, 1, 2, 3, 4, 5, 6, 7, 8, 9]] (some [6, 7, 10, 13, 15, 16])) afH
def afJ : J := .seq (.seq (.ad [ro 91 (.ae (.t 14)),
 ro 92 (.ae (.t 13)),
 ro 93 (.aP .neq 3 (.t 91) (.t 92))] (some [2, 3, 6, 7, 10, 13, 93])) afv) afI
def afK : J := .seq (.seq (.ad [ro 89 (.ae (.t 14)),
 ro 90 (.aP .lss 3 (.t 89) (.c (.int .i64 0)))] (some [2, 3, 6, 7, 10, 13, 14, 90])) aft) afJ
def afL : J := .seq (.ad [ro 86 (.aN 47 (.t 10)),
 ro 87 (.ae (.t 14)),
 ro 88 (.call (.f 31) [(.t 86), (.t 87)]),
 ro 14 (.an (.t 88))] (some [2, 3, 6, 7, 10, 13, 14])) afK
def afM : J := .seq (.ad [ro 14 (.an (.c (.int .i64 1)))] (some [2, 3, 6, 7, 10, 13, 14])) afL
def afN : J := .seq (.ad [ro 83 (.aN 47 (.t 10)),
 ro 84 (.ae (.t 13)),
 ro 85 (.call (.f 30) [(.t 83), (.t 84)]),
 ro 13 (.an (.t 85))] (some [2, 3, 6, 7, 10, 13])) afM
def afO : J := .seq (.ad [ro 13 (.an (.c (.int .i64 1)))] (some [2, 3, 6, 7, 10, 13])) afN
def afP : J := .seq (.seq (.ad [ro 70 (.ae (.t 12)),
 ro 71 (.aP .lss 3 (.t 70) (.c (.int .i64 0))),
 ro 72 (.ae (.t 71)),
 ⟨some 73, .aN 47 (.t 10), some (72, false)⟩,
 ⟨some 74, .aN 47 (.t 6), some (72, false)⟩,
 ⟨some 75, .call (.f 29) [(.t 73), (.t 74)], some (72, false)⟩,
 ⟨some 76, .un .not (.t 75), some (72, false)⟩,
 ro 77 (.pick (.t 72) (.c (.bool true)) (.t 76)),
 ro 78 (.ae (.t 77)),
 ⟨some 79, .ae (.t 11), some (78, false)⟩,
 ⟨some 80, .ae (.t 7), some (78, false)⟩,
 ⟨some 81, .aP .neq 2 (.t 79) (.t 80), some (78, false)⟩,
 ro 82 (.pick (.t 78) (.c (.bool true)) (.t 81))] (some [2, 3, 6, 7, 10, 82])) afr) afO
def afQ : J := .seq (.ad [ro 67 (.aN 47 (.t 9)),
 ro 68 (.ae (.t 12)),
 ro 69 (.call (.f 30) [(.t 67), (.t 68)]),
 ro 12 (.an (.t 69))] (some [2, 3, 6, 7, 10, 11, 12])) afP
def afR : J := .seq (.ad [ro 64 (.aN 47 (.t 8)),
 ro 65 (.ae (.t 12)),
 ro 66 (.call (.f 30) [(.t 64), (.t 65)]),
 ro 12 (.an (.t 66))] (some [2, 3, 6, 7, 9, 10, 11, 12])) afQ
def afS : J := .seq (.ad [ro 12 (.an (.c (.int .i64 1)))] (some [2, 3, 6, 7, 8, 9, 10, 11, 12])) afR
def afT : J := .seq (.seq (.fA [ro 59 (.aN 47 (.t 9)),
 ro 60 (.aN 43 (.t 3)),
 ro 61 (.call (.f 27) [(.t 60)]),
 ro 62 (.call (.f 29) [(.t 59), (.t 61)]),
 ro 63 (.un .not (.t 62))] [[], [], [1], [0, 2, 2], [3]] (some [2, 3, 6, 7, 8, 9, 10, 11, 63])) afp) afS
def afU : J := .seq (.seq (.fA [ro 54 (.aN 47 (.t 8)),
 ro 55 (.aN 43 (.t 2)),
 ro 56 (.call (.f 27) [(.t 55)]),
 ro 57 (.call (.f 29) [(.t 54), (.t 56)]),
 ro 58 (.un .not (.t 57))] [[], [], [1], [0, 2, 2], [3]] (some [2, 3, 6, 7, 8, 9, 10, 11, 58])) afn) afT
def afV : J := .seq (.seq (.ad [ro 45 (.aN 47 (.t 10)),
 ro 46 (.aN 47 (.t 6)),
 ro 47 (.call (.f 29) [(.t 45), (.t 46)]),
 ro 48 (.un .not (.t 47)),
 ro 49 (.ae (.t 48)),
 ⟨some 50, .ae (.t 11), some (49, false)⟩,
 ⟨some 51, .ae (.t 7), some (49, false)⟩,
 ⟨some 52, .aP .neq 2 (.t 50) (.t 51), some (49, false)⟩,
 ro 53 (.pick (.t 49) (.c (.bool true)) (.t 52))] (some [2, 3, 6, 7, 8, 9, 10, 11, 53])) afl) afU
def afW : J := .seq (.ad [ro 40 (.aN 47 (.t 8)),
 ro 41 (.aN 47 (.t 9)),
 ro 42 (.call (.f 33) [(.t 40), (.t 41)]),
 ro 39 (.ae (.t 42)),
 ro 43 (.ex (.t 39) 0),
 ro 44 (.ex (.t 39) 1),
 ro 10 (.dH 47),
 ⟨none, .ck 47 (.t 10) (.t 43), none⟩,
 ro 11 (.an (.t 44))] (some [2, 3, 6, 7, 8, 9, 10, 11])) afV
def afX : J := .seq (.ad [ro 37 (.aN 43 (.t 3)),
 ro 38 (.call (.f 27) [(.t 37)]),
 ro 9 (.dH 47),
 ⟨none, .ck 47 (.t 9) (.t 38), none⟩] (some [2, 3, 6, 7, 8, 9])) afW
def afY : J := .seq (.ad [ro 35 (.aN 43 (.t 2)),
 ro 36 (.call (.f 27) [(.t 35)]),
 ro 8 (.dH 47),
 ⟨none, .ck 47 (.t 8) (.t 36), none⟩] (some [2, 3, 6, 7, 8])) afX
def afZ : J := .seq (.fA [ro 28 (.aN 43 (.t 2)),
 ro 29 (.call (.f 27) [(.t 28)]),
 ro 30 (.aN 43 (.t 3)),
 ro 31 (.call (.f 27) [(.t 30)]),
 ro 32 (.call (.f 32) [(.t 29), (.t 31)]),
 ⟨some 27, .kO (.t 32), none⟩,
 ro 33 (.ex (.t 27) 0),
 ro 34 (.ex (.t 27) 1),
 ro 6 (.dH 47),
 ⟨none, .ck 47 (.t 6) (.t 33), none⟩,
 ro 7 (.an (.t 34))] [[], [0], [], [2, 1], [1, 3, 3], [4], [5], [5], [], [8, 6, 4, 0, 1, 2, 3, 4, 5, 6, 8], [7, 9, 0, 1, 2, 3, 4, 5, 6, 7, 8, 9]] (some [2, 3, 6, 7])) afY
def af0 : J := .seq (.seq (.ad [ro 25 (.ae (.t 5)),
 ro 26 (.aP .lss 3 (.t 25) (.c (.int .i64 0)))] (some [2, 3, 26])) afj) afZ
def af1 : J := .seq (.ad [ro 22 (.aN 43 (.t 3)),
 ro 23 (.ae (.t 5)),
 ro 24 (.call (.f 25) [(.t 22), (.t 23)]),
 ro 5 (.an (.t 24))] (some [2, 3, 5])) af0
def af2 : J := .seq (.seq (.ad [ro 20 (.ae (.t 5)),
 ro 21 (.aP .lss 3 (.t 20) (.c (.int .i64 0)))] (some [2, 3, 5, 21])) afh) af1
def af3 : J := .seq (.ad [ro 17 (.aN 43 (.t 2)),
 ro 18 (.ae (.t 5)),
 ro 19 (.call (.f 25) [(.t 17), (.t 18)]),
 ro 5 (.an (.t 19))] (some [2, 3, 5])) af2
def af4 : J := .seq (.ad [ro 5 (.an (.c (.int .i64 1048576)))] (some [2, 3, 5])) af3
def A_ : J := .seq (.ad [ro 2 (.dk 43 (.t 0)),
 ro 3 (.dk 43 (.t 1)),
 ro 4 (.an (.c (.bool false)))] (some [2, 3])) af4
theorem jz : bS ⟨119, [0, 1]⟩ (Try.f8.body.getD .skip) = some A_.strip := by kernel_rfl
def aO := PLift.up (And.intro @Bool.not_true @Bool.not_false)
end Go.Proofs.Ytjedocbdhlppdaa
