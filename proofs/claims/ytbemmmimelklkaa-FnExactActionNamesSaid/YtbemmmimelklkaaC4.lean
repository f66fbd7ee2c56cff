/- Part of a proof that a law returns true for every input. No condition. -/
import Derived.Test.YtbemmmimelklkaaTb
import Derived.Test.YtbemmmimelklkaaFwL
import Derived.Test.YtbemmmimelklkaaP4
namespace Go.Proofs.Ytbemmmimelklkaa
open Go Go.cB Go.eJ
set_option linter.unusedSimpArgs false
def ev (x : fM) : I := .agg [.int .i64 x.Kind, .int .i64 x.Value]
theorem OE (x : fM) : (ev x).share = ev x := by
 simp only [ev, eg]
theorem ahz (x : fM) : (ev x).c8 = true := by
 simp only [ev, I.c8, I.h_, Bool.and_self]
def eM (x : List fM) : I := .slice (x.map ev)
theorem GS (x : List fM) : (eM x).share = eM x := by
 simp only [eM, eg, @eY _ ev ev (fun _ => OE _)]
def eN (x : gV) : I := .agg [.int .i64 x.Kind, .int .i64 x.Number, .str x.Name, .slice (x.b4.map eM)]
theorem GU (x : gV) : (eN x).share = eN x := by
 simp only [eN, eg, @eY _ eM eM (fun _ => GS _)]
def e7 (x : gF) : I := .agg [.str x.Name, .int .i64 x.cS, .slice (x.Body.map eN)]
theorem ahA (x : gF) : (e7 x).share = e7 x := by
 simp only [e7, eg, @eY _ eN eN (fun _ => GU _)]
def bf (x : List UInt8) : I := .str x
theorem kU (x : List UInt8) : (bf x).share = bf x := by
 simp only [bf, eg]
theorem GV (x : List UInt8) : (bf x).c8 = true := by
 simp only [bf, I.c8, I.h_, Bool.and_self]
def uP (x : Int) : I := .int .i64 x
theorem ahB (x : Int) : (uP x).share = uP x := by
 simp only [uP, eg]
theorem ahC (x : Int) : (uP x).c8 = true := by
 simp only [uP, I.c8, I.h_, Bool.and_self]
def BP (x : List gV) : I := .slice (x.map eN)
theorem ahD (x : List gV) : (BP x).share = BP x := by
 simp only [BP, eg, @eY _ eN eN (fun _ => GU _)]
def BQ (x : List (List fM)) : I := .slice (x.map eM)
theorem ahE (x : List (List fM)) : (BQ x).share = BQ x := by
 simp only [BQ, eg, @eY _ eM eM (fun _ => GS _)]
def bK (x : bz) : I := .agg [.int .i64 x.Kind, .int .i64 x.Value]
theorem BR (x : bz) : (bK x).share = bK x := by
 simp only [bK, eg]
theorem OG (x : bz) : (bK x).c8 = true := by
 simp only [bK, I.c8, I.h_, Bool.and_self]
def dw (x : List bz) : I := .slice (x.map bK)
theorem BS (x : List bz) : (dw x).share = dw x := by
 simp only [dw, eg, @eY _ bK bK (fun _ => BR _)]
def bR (x : bn) : I := .agg [.int .i64 x.Kind, .int .i64 x.Number, .str x.Name, .slice (x.b4.map dw)]
theorem BT (x : bn) : (bR x).share = bR x := by
 simp only [bR, eg, @eY _ dw dw (fun _ => BS _)]
def bk (x : aV) : I := .agg [.str x.Name, .int .i64 x.cS, .slice (x.Body.map bR)]
theorem ahF (x : aV) : (bk x).share = bk x := by
 simp only [bk, eg, @eY _ bR bR (fun _ => BT _)]
def eF (x : List bz) : I := .aE 2 (x.map bK)
theorem BU (x : List bz) : (eF x).share = dw x := by
 simp only [eF, dw, eg, @eY _ bK bK (fun _ => BR _)]
theorem GW (x : List bz) : (eF x).c8 = true := by
 simp only [eF, I.c8, I.h_, Bool.and_self, @oK _ bK (fun _ => OG _)]
def ew (x : bn) : I := .agg [.int .i64 x.Kind, .int .i64 x.Number, .str x.Name, .aE 1 (x.b4.map eF)]
theorem BV (x : bn) : (ew x).share = bR x := by
 simp only [ew, bR, eg, @eY _ eF dw (fun _ => BU _)]
theorem GX (x : bn) : (ew x).c8 = true := by
 simp only [ew, I.c8, I.h_, Bool.and_self, @oK _ eF (fun _ => GW _)]
def e8 (x : aV) : I := .agg [.str x.Name, .int .i64 x.cS, .aE 4 (x.Body.map ew)]
theorem sr (x : aV) : (e8 x).share = bk x := by
 simp only [e8, bk, eg, @eY _ ew bR (fun _ => BV _)]
theorem ahG (x : aV) : (e8 x).c8 = true := by
 simp only [e8, I.c8, I.h_, Bool.and_self, @oK _ ew (fun _ => GX _)]
def yo (x : List bn) : I := .aE 4 (x.map ew)
def uQ (x : List bn) : I := .slice (x.map bR)
theorem ahH (x : List bn) : (uQ x).share = uQ x := by
 simp only [uQ, eg, @eY _ bR bR (fun _ => BT _)]
theorem ahI (x : List bn) : (yo x).share = uQ x := by
 simp only [yo, uQ, eg, @eY _ ew bR (fun _ => BV _)]
theorem ahJ (x : List bn) : (yo x).c8 = true := by
 simp only [yo, I.c8, I.h_, Bool.and_self, @oK _ ew (fun _ => GX _)]
def yp (x : List (List bz)) : I := .aE 1 (x.map eF)
def uR (x : List (List bz)) : I := .slice (x.map dw)
theorem ahK (x : List (List bz)) : (uR x).share = uR x := by
 simp only [uR, eg, @eY _ dw dw (fun _ => BS _)]
theorem ahL (x : List (List bz)) : (yp x).share = uR x := by
 simp only [yp, uR, eg, @eY _ eF dw (fun _ => BU _)]
theorem ahM (x : List (List bz)) : (yp x).c8 = true := by
 simp only [yp, I.c8, I.h_, Bool.and_self, @oK _ eF (fun _ => GW _)]
def c0 (x : b0) : I := .agg [.int .i64 x.scope, .bool x.behind]
theorem GY (x : b0) : (c0 x).share = c0 x := by
 simp only [c0, eg]
theorem OH (x : b0) : (c0 x).c8 = true := by
 simp only [c0, I.c8, I.h_, Bool.and_self]
def uS (x : Bool) : I := .bool x
theorem ahN (x : Bool) : (uS x).share = uS x := by
 simp only [uS, eg]
theorem ahO (x : Bool) : (uS x).c8 = true := by
 simp only [uS, I.c8, I.h_, Bool.and_self]
def OI : J := .seq (.ae [ro 4 (.ai (.c (.int .i64 (-1))))] (some [4])) .ret
def OJ : J := .cond (.t 10) OI .skip
def OK : J := .seq (.ae [ro 11 (.ag (.t 1)),
 ro 4 (.ai (.t 11))] (some [4])) .ret
def OL : J := .seq (.seq (.ae [ro 9 (.ag (.t 1)),
 ro 10 (.aB .lss 3 (.t 9) (.c (.int .i64 0)))] (some [1, 10])) OJ) OK
def OM : J := .seq (.ae [ro 5 (.ag (.t 1)),
 ro 6 (.ag (.t 0)),
 ro 7 (.len 131 (.t 6)),
 ro 8 (.aB .sub 3 (.t 5) (.t 7)),
 ro 1 (.ai (.t 8))] (some [1])) OL
def ON : J := .seq (.ae [ro 4 (.ai (.c (.int .i64 0)))] (some [0, 1])) OM
theorem OO : bQ ⟨12, [0]⟩ (Try.f98.body.getD .skip) = some ON.strip := by kernel_rfl
def OP : J := .seq (.ae [ro 4 (.ai (.c (.int .i64 (-1))))] (some [4])) .ret
def OQ : J := .cond (.t 11) OP .skip
def OR : J := .cond (.t 15) .skip (.exit 0)
def OS : J := .seq (.ae [ro 4 (.ai (.c (.int .i64 (-1))))] (some [4])) .ret
def OT : J := .cond (.t 25) OS .skip
def OU : J := .seq (.ae [ro 24 (.ag (.t 1)),
 ro 25 (.aB .lss 3 (.t 24) (.c (.int .i64 0)))] (some [0, 1, 5, 25])) OT
def OV : J := .ae [ro 16 (.ag (.t 5)),
 ro 17 (.aB .add 3 (.t 16) (.c (.int .i64 1))),
 ro 5 (.ai (.t 17))] (some [0, 1, 5])
def OW : J := .seq (.block 1 (.seq (.ae [ro 18 (.ag (.t 0)),
 ro 19 (.ag (.t 5)),
 ro 20 (.bX 74 (.t 18) (.t 19)),
 ro 21 (.aM 131 (.t 20)),
 ro 22 (.ag (.t 1)),
 ro 23 (.call (.f 98) [(.t 21), (.t 22)]),
 ro 1 (.ai (.t 23))] (some [0, 1, 5])) OU)) OV
def GZ : J := .seq (.seq (.ae [ro 12 (.ag (.t 5)),
 ro 13 (.ag (.t 0)),
 ro 14 (.len 74 (.t 13)),
 ro 15 (.aB .lss 3 (.t 12) (.t 14))] (some [0, 1, 5, 15])) OR) OW
def OX : J := .block 0 (.loop GZ)
def OY : J := .seq (.ae [ro 26 (.ag (.t 1)),
 ro 4 (.ai (.t 26))] (some [4])) .ret
def OZ : J := .seq (.seq (.ae [ro 5 (.ai (.c (.int .i64 0)))] (some [0, 1, 5])) OX) OY
def O0 : J := .seq (.seq (.ae [ro 10 (.ag (.t 1)),
 ro 11 (.aB .lss 3 (.t 10) (.c (.int .i64 0)))] (some [0, 1, 11])) OQ) OZ
def O1 : J := .seq (.ae [ro 6 (.ag (.t 1)),
 ro 7 (.ag (.t 0)),
 ro 8 (.len 74 (.t 7)),
 ro 9 (.aB .sub 3 (.t 6) (.t 8)),
 ro 1 (.ai (.t 9))] (some [0, 1])) O0
def O2 : J := .seq (.ae [ro 4 (.ai (.c (.int .i64 0)))] (some [0, 1])) O1
theorem O3 : bQ ⟨27, [0]⟩ (Try.f68.body.getD .skip) = some O2.strip := by kernel_rfl
def O4 : J := .seq (.ae [ro 4 (.ai (.c (.int .i64 (-1))))] (some [4])) .ret
def O5 : J := .cond (.t 11) O4 .skip
def O6 : J := .seq (.ae [ro 4 (.ai (.c (.int .i64 (-1))))] (some [4])) .ret
def O7 : J := .cond (.t 17) O6 .skip
def O8 : J := .seq (.ae [ro 18 (.ag (.t 1)),
 ro 4 (.ai (.t 18))] (some [4])) .ret
def O9 : J := .seq (.seq (.ae [ro 16 (.ag (.t 1)),
 ro 17 (.aB .lss 3 (.t 16) (.c (.int .i64 0)))] (some [1, 17])) O7) O8
def O_ : J := .seq (.ae [ro 12 (.bc 76 (.t 2) 3),
 ro 13 (.aM 74 (.t 12)),
 ro 14 (.ag (.t 1)),
 ro 15 (.call (.f 68) [(.t 13), (.t 14)]),
 ro 1 (.ai (.t 15))] (some [1])) O9
def Pa : J := .seq (.seq (.ae [ro 10 (.ag (.t 1)),
 ro 11 (.aB .lss 3 (.t 10) (.c (.int .i64 0)))] (some [1, 2, 11])) O5) O_
def Pb : J := .seq (.ae [ro 5 (.ag (.t 1)),
 ro 6 (.bc 76 (.t 2) 2),
 ro 7 (.aM 9 (.t 6)),
 ro 8 (.len 9 (.t 7)),
 ro 9 (.aB .sub 3 (.t 5) (.t 8)),
 ro 1 (.ai (.t 9))] (some [1, 2])) Pa
def Pc : J := .seq (.ae [ro 2 (.di 76 (.t 0)),
 ro 4 (.ai (.c (.int .i64 0)))] (some [1, 2])) Pb
theorem Pd : bQ ⟨19, [0]⟩ (Try.f45.body.getD .skip) = some Pc.strip := by kernel_rfl
def Pe : J := .seq (.ae [ro 4 (.ai (.c (.int .i64 (-1))))] (some [4])) .ret
def Pf : J := .cond (.t 11) Pe .skip
def Pg : J := .cond (.t 15) .skip (.exit 0)
def Ph : J := .seq (.ae [ro 4 (.ai (.c (.int .i64 (-1))))] (some [4])) .ret
def Pj : J := .cond (.t 25) Ph .skip
def Pk : J := .seq (.ae [ro 24 (.ag (.t 1)),
 ro 25 (.aB .lss 3 (.t 24) (.c (.int .i64 0)))] (some [0, 1, 5, 25])) Pj
def Pl : J := .ae [ro 16 (.ag (.t 5)),
 ro 17 (.aB .add 3 (.t 16) (.c (.int .i64 1))),
 ro 5 (.ai (.t 17))] (some [0, 1, 5])
def Pm : J := .seq (.block 1 (.seq (.ae [ro 18 (.ag (.t 0)),
 ro 19 (.ag (.t 5)),
 ro 20 (.bX 40 (.t 18) (.t 19)),
 ro 21 (.aM 76 (.t 20)),
 ro 22 (.ag (.t 1)),
 ro 23 (.call (.f 45) [(.t 21), (.t 22)]),
 ro 1 (.ai (.t 23))] (some [0, 1, 5])) Pk)) Pl
def G0 : J := .seq (.seq (.ae [ro 12 (.ag (.t 5)),
 ro 13 (.ag (.t 0)),
 ro 14 (.len 40 (.t 13)),
 ro 15 (.aB .lss 3 (.t 12) (.t 14))] (some [0, 1, 5, 15])) Pg) Pm
def Pn : J := .block 0 (.loop G0)
def Po : J := .seq (.ae [ro 26 (.ag (.t 1)),
 ro 4 (.ai (.t 26))] (some [4])) .ret
def Pp : J := .seq (.seq (.ae [ro 5 (.ai (.c (.int .i64 0)))] (some [0, 1, 5])) Pn) Po
def Pq : J := .seq (.seq (.ae [ro 10 (.ag (.t 1)),
 ro 11 (.aB .lss 3 (.t 10) (.c (.int .i64 0)))] (some [0, 1, 11])) Pf) Pp
def Pr : J := .seq (.ae [ro 6 (.ag (.t 1)),
 ro 7 (.ag (.t 0)),
 ro 8 (.len 40 (.t 7)),
 ro 9 (.aB .sub 3 (.t 6) (.t 8)),
 ro 1 (.ai (.t 9))] (some [0, 1])) Pq
def Ps : J := .seq (.ae [ro 4 (.ai (.c (.int .i64 0)))] (some [0, 1])) Pr
theorem Pt : bQ ⟨27, [0]⟩ (Try.f31.body.getD .skip) = some Ps.strip := by kernel_rfl
def Pu : J := .seq (.ae [ro 4 (.ai (.c (.int .i64 (-1))))] (some [4])) .ret
def Pv : J := .cond (.t 11) Pu .skip
def Pw : J := .seq (.ae [ro 4 (.ai (.c (.int .i64 (-1))))] (some [4])) .ret
def Px : J := .cond (.t 17) Pw .skip
def Py : J := .seq (.ae [ro 18 (.ag (.t 1)),
 ro 4 (.ai (.t 18))] (some [4])) .ret
def Pz : J := .seq (.seq (.ae [ro 16 (.ag (.t 1)),
 ro 17 (.aB .lss 3 (.t 16) (.c (.int .i64 0)))] (some [1, 17])) Px) Py
def PA : J := .seq (.ae [ro 12 (.bc 42 (.t 2) 2),
 ro 13 (.aM 40 (.t 12)),
 ro 14 (.ag (.t 1)),
 ro 15 (.call (.f 31) [(.t 13), (.t 14)]),
 ro 1 (.ai (.t 15))] (some [1])) Pz
def PB : J := .seq (.seq (.ae [ro 10 (.ag (.t 1)),
 ro 11 (.aB .lss 3 (.t 10) (.c (.int .i64 0)))] (some [1, 2, 11])) Pv) PA
def PC : J := .seq (.ae [ro 5 (.ag (.t 1)),
 ro 6 (.bc 42 (.t 2) 0),
 ro 7 (.aM 9 (.t 6)),
 ro 8 (.len 9 (.t 7)),
 ro 9 (.aB .sub 3 (.t 5) (.t 8)),
 ro 1 (.ai (.t 9))] (some [1, 2])) PB
def PD : J := .seq (.ae [ro 2 (.di 42 (.t 0)),
 ro 4 (.ai (.c (.int .i64 0)))] (some [1, 2])) PC
theorem mR : bQ ⟨19, [0]⟩ (Try.f19.body.getD .skip) = some PD.strip := by kernel_rfl
def PE : J := .seq (.ae [ro 4 (.ai (.c (.int .i64 (-1))))] (some [4])) .ret
def PF : J := .cond (.t 11) PE .skip
def PG : J := .cond (.t 15) .skip (.exit 0)
def PH : J := .seq (.ae [ro 4 (.ai (.c (.int .i64 (-1))))] (some [4])) .ret
def PI : J := .cond (.t 25) PH .skip
def PJ : J := .seq (.ae [ro 24 (.ag (.t 1)),
 ro 25 (.aB .lss 3 (.t 24) (.c (.int .i64 0)))] (some [0, 1, 5, 25])) PI
def PK : J := .ae [ro 16 (.ag (.t 5)),
 ro 17 (.aB .add 3 (.t 16) (.c (.int .i64 1))),
 ro 5 (.ai (.t 17))] (some [0, 1, 5])
def PL : J := .seq (.block 1 (.seq (.ae [ro 18 (.ag (.t 0)),
 ro 19 (.ag (.t 5)),
 ro 20 (.bX 22 (.t 18) (.t 19)),
 ro 21 (.aM 42 (.t 20)),
 ro 22 (.ag (.t 1)),
 ro 23 (.call (.f 19) [(.t 21), (.t 22)]),
 ro 1 (.ai (.t 23))] (some [0, 1, 5])) PJ)) PK
def G1 : J := .seq (.seq (.ae [ro 12 (.ag (.t 5)),
 ro 13 (.ag (.t 0)),
 ro 14 (.len 22 (.t 13)),
 ro 15 (.aB .lss 3 (.t 12) (.t 14))] (some [0, 1, 5, 15])) PG) PL
def PM : J := .block 0 (.loop G1)
def PN : J := .seq (.ae [ro 26 (.ag (.t 1)),
 ro 4 (.ai (.t 26))] (some [4])) .ret
def PO : J := .seq (.seq (.ae [ro 5 (.ai (.c (.int .i64 0)))] (some [0, 1, 5])) PM) PN
def PQ : J := .seq (.seq (.ae [ro 10 (.ag (.t 1)),
 ro 11 (.aB .lss 3 (.t 10) (.c (.int .i64 0)))] (some [0, 1, 11])) PF) PO
def PR : J := .seq (.ae [ro 6 (.ag (.t 1)),
 ro 7 (.ag (.t 0)),
 ro 8 (.len 22 (.t 7)),
 ro 9 (.aB .sub 3 (.t 6) (.t 8)),
 ro 1 (.ai (.t 9))] (some [0, 1])) PQ
def tl : J := .seq (.ae [ro 4 (.ai (.c (.int .i64 0)))] (some [0, 1])) PR
theorem uT : bQ ⟨27, [0]⟩ (Try.f5.body.getD .skip) = some tl.strip := by kernel_rfl
def PS : J := .seq (.ae [ro 10 (.aM 123 (.t 3)),
 ⟨none, .cP 123 (.t 2) (.t 10), none⟩] (some [2])) .ret
def PT : J := .seq (.ae [ro 7 (.bc 155 (.t 1) 1),
 ro 8 (.aM 2 (.t 7)),
 ro 9 (.bc 123 (.t 3) 1),
 ⟨none, .cP 2 (.t 9) (.t 8), none⟩] (some [2, 3])) PS
def PU : J := .seq (.ae [ro 4 (.bc 155 (.t 1) 0),
 ro 5 (.aM 2 (.t 4)),
 ro 6 (.bc 123 (.t 3) 0),
 ⟨none, .cP 2 (.t 6) (.t 5), none⟩] (some [1, 2, 3])) PT
def PV : J := .seq (.ae [ro 3 (.dS 123)] (some [1, 2, 3])) PU
def PW : J := .seq (.ae [ro 1 (.di 155 (.t 0)),
 ro 2 (.dS 123)] (some [1, 2])) PV
theorem PX : bQ ⟨11, [0]⟩ (Try.f121.body.getD .skip) = some PW.strip := by kernel_rfl
def PY : J := .cond (.t 11) .skip (.exit 0)
def PZ : J := .ae [ro 12 (.ag (.t 4)),
 ro 13 (.aB .add 3 (.t 12) (.c (.int .i64 1))),
 ro 4 (.ai (.t 13))] (some [0, 3, 4])
def P0 : J := .seq (.block 1 (.ae [ro 14 (.ag (.t 3)),
 ro 15 (.ag (.t 4)),
 ro 16 (.ag (.t 0)),
 ro 17 (.ag (.t 4)),
 ro 18 (.bX 131 (.t 16) (.t 17)),
 ro 19 (.aM 155 (.t 18)),
 ro 20 (.call (.f 121) [(.t 19)]),
 ro 21 (.bX 87 (.t 14) (.t 15)),
 ⟨none, .cP 123 (.t 21) (.t 20), none⟩] (some [0, 3, 4]))) PZ
def G2 : J := .seq (.seq (.ae [ro 8 (.ag (.t 4)),
 ro 9 (.ag (.t 0)),
 ro 10 (.len 131 (.t 9)),
 ro 11 (.aB .lss 3 (.t 8) (.t 10))] (some [0, 3, 4, 11])) PY) P0
def P1 : J := .block 0 (.loop G2)
def P2 : J := .seq (.ae [ro 22 (.ag (.t 3)),
 ro 2 (.ai (.t 22))] (some [2])) .ret
def P3 : J := .seq (.seq (.ae [ro 4 (.ai (.c (.int .i64 0)))] (some [0, 3, 4])) P1) P2
def P4 : J := .seq (.ae [ro 5 (.ag (.t 0)),
 ro 6 (.len 131 (.t 5)),
 ro 7 (.eG 87 (.t 6) (.t 6)),
 ro 3 (.ai (.t 7))] (some [0, 3])) P3
def P5 : J := .seq (.ae [ro 2 (.ai (.c .bA))] (some [0])) P4
theorem P6 : bQ ⟨23, [0]⟩ (Try.f103.body.getD .skip) = some P5.strip := by kernel_rfl
def P7 : J := .cond (.t 11) .skip (.exit 0)
def P8 : J := .ae [ro 12 (.ag (.t 4)),
 ro 13 (.aB .add 3 (.t 12) (.c (.int .i64 1))),
 ro 4 (.ai (.t 13))] (some [0, 3, 4])
def P9 : J := .seq (.block 1 (.ae [ro 14 (.ag (.t 3)),
 ro 15 (.ag (.t 4)),
 ro 16 (.ag (.t 0)),
 ro 17 (.ag (.t 4)),
 ro 18 (.bX 74 (.t 16) (.t 17)),
 ro 19 (.aM 131 (.t 18)),
 ro 20 (.call (.f 103) [(.t 19)]),
 ro 21 (.bX 53 (.t 14) (.t 15)),
 ⟨none, .cP 87 (.t 21) (.t 20), none⟩] (some [0, 3, 4]))) P8
def G3 : J := .seq (.seq (.ae [ro 8 (.ag (.t 4)),
 ro 9 (.ag (.t 0)),
 ro 10 (.len 74 (.t 9)),
 ro 11 (.aB .lss 3 (.t 8) (.t 10))] (some [0, 3, 4, 11])) P7) P9
def P_ : J := .block 0 (.loop G3)
def Qa : J := .seq (.ae [ro 22 (.ag (.t 3)),
 ro 2 (.ai (.t 22))] (some [2])) .ret
def Qb : J := .seq (.seq (.ae [ro 4 (.ai (.c (.int .i64 0)))] (some [0, 3, 4])) P_) Qa
def Qc : J := .seq (.ae [ro 5 (.ag (.t 0)),
 ro 6 (.len 74 (.t 5)),
 ro 7 (.eG 53 (.t 6) (.t 6)),
 ro 3 (.ai (.t 7))] (some [0, 3])) Qb
def Qd : J := .seq (.ae [ro 2 (.ai (.c .bA))] (some [0])) Qc
theorem Qe : bQ ⟨23, [0]⟩ (Try.f73.body.getD .skip) = some Qd.strip := by kernel_rfl
def Qf : J := .seq (.ae [ro 17 (.aM 55 (.t 3)),
 ⟨none, .cP 55 (.t 2) (.t 17), none⟩] (some [2])) .ret
def Qg : J := .seq (.ae [ro 13 (.bc 76 (.t 1) 3),
 ro 14 (.aM 74 (.t 13)),
 ro 15 (.call (.f 73) [(.t 14)]),
 ro 16 (.bc 55 (.t 3) 3),
 ⟨none, .cP 53 (.t 16) (.t 15), none⟩] (some [2, 3])) Qf
def Qh : J := .seq (.ae [ro 10 (.bc 76 (.t 1) 2),
 ro 11 (.aM 9 (.t 10)),
 ro 12 (.bc 55 (.t 3) 2),
 ⟨none, .cP 9 (.t 12) (.t 11), none⟩] (some [1, 2, 3])) Qg
def Qi : J := .seq (.ae [ro 7 (.bc 76 (.t 1) 1),
 ro 8 (.aM 2 (.t 7)),
 ro 9 (.bc 55 (.t 3) 1),
 ⟨none, .cP 2 (.t 9) (.t 8), none⟩] (some [1, 2, 3])) Qh
def Qj : J := .seq (.ae [ro 4 (.bc 76 (.t 1) 0),
 ro 5 (.aM 2 (.t 4)),
 ro 6 (.bc 55 (.t 3) 0),
 ⟨none, .cP 2 (.t 6) (.t 5), none⟩] (some [1, 2, 3])) Qi
def Qk : J := .seq (.ae [ro 3 (.dS 55)] (some [1, 2, 3])) Qj
def Ql : J := .seq (.ae [ro 1 (.di 76 (.t 0)),
 ro 2 (.dS 55)] (some [1, 2])) Qk
theorem Qm : bQ ⟨18, [0]⟩ (Try.f48.body.getD .skip) = some Ql.strip := by kernel_rfl
def Qn : J := .cond (.t 11) .skip (.exit 0)
def Qo : J := .ae [ro 12 (.ag (.t 4)),
 ro 13 (.aB .add 3 (.t 12) (.c (.int .i64 1))),
 ro 4 (.ai (.t 13))] (some [0, 3, 4])
def Qp : J := .seq (.block 1 (.ae [ro 14 (.ag (.t 3)),
 ro 15 (.ag (.t 4)),
 ro 16 (.ag (.t 0)),
 ro 17 (.ag (.t 4)),
 ro 18 (.bX 40 (.t 16) (.t 17)),
 ro 19 (.aM 76 (.t 18)),
 ro 20 (.call (.f 48) [(.t 19)]),
 ro 21 (.bX 45 (.t 14) (.t 15)),
 ⟨none, .cP 55 (.t 21) (.t 20), none⟩] (some [0, 3, 4]))) Qo
def G4 : J := .seq (.seq (.ae [ro 8 (.ag (.t 4)),
 ro 9 (.ag (.t 0)),
 ro 10 (.len 40 (.t 9)),
 ro 11 (.aB .lss 3 (.t 8) (.t 10))] (some [0, 3, 4, 11])) Qn) Qp
def Qq : J := .block 0 (.loop G4)
def Qr : J := .seq (.ae [ro 22 (.ag (.t 3)),
 ro 2 (.ai (.t 22))] (some [2])) .ret
def Qs : J := .seq (.seq (.ae [ro 4 (.ai (.c (.int .i64 0)))] (some [0, 3, 4])) Qq) Qr
def Qt : J := .seq (.ae [ro 5 (.ag (.t 0)),
 ro 6 (.len 40 (.t 5)),
 ro 7 (.eG 45 (.t 6) (.t 6)),
 ro 3 (.ai (.t 7))] (some [0, 3])) Qs
def Qu : J := .seq (.ae [ro 2 (.ai (.c .bA))] (some [0])) Qt
theorem Qv : bQ ⟨23, [0]⟩ (Try.f35.body.getD .skip) = some Qu.strip := by kernel_rfl
def Qw : J := .seq (.ae [ro 14 (.aM 47 (.t 3)),
 ⟨none, .cP 47 (.t 2) (.t 14), none⟩] (some [2])) .ret
def Qx : J := .seq (.ae [ro 10 (.bc 42 (.t 1) 2),
 ro 11 (.aM 40 (.t 10)),
 ro 12 (.call (.f 35) [(.t 11)]),
 ro 13 (.bc 47 (.t 3) 2),
 ⟨none, .cP 45 (.t 13) (.t 12), none⟩] (some [2, 3])) Qw
def Qy : J := .seq (.ae [ro 7 (.bc 42 (.t 1) 1),
 ro 8 (.aM 2 (.t 7)),
 ro 9 (.bc 47 (.t 3) 1),
 ⟨none, .cP 2 (.t 9) (.t 8), none⟩] (some [1, 2, 3])) Qx
def Qz : J := .seq (.ae [ro 4 (.bc 42 (.t 1) 0),
 ro 5 (.aM 9 (.t 4)),
 ro 6 (.bc 47 (.t 3) 0),
 ⟨none, .cP 9 (.t 6) (.t 5), none⟩] (some [1, 2, 3])) Qy
def QA : J := .seq (.ae [ro 3 (.dS 47)] (some [1, 2, 3])) Qz
def QB : J := .seq (.ae [ro 1 (.di 42 (.t 0)),
 ro 2 (.dS 47)] (some [1, 2])) QA
theorem QC : bQ ⟨15, [0]⟩ (Try.f22.body.getD .skip) = some QB.strip := by kernel_rfl
def QD : J := .cond (.t 11) .skip (.exit 0)
def QE : J := .ae [ro 12 (.ag (.t 4)),
 ro 13 (.aB .add 3 (.t 12) (.c (.int .i64 1))),
 ro 4 (.ai (.t 13))] (some [0, 3, 4])
def QF : J := .seq (.block 1 (.ae [ro 14 (.ag (.t 3)),
 ro 15 (.ag (.t 4)),
 ro 16 (.ag (.t 0)),
 ro 17 (.ag (.t 4)),
 ro 18 (.bX 22 (.t 16) (.t 17)),
 ro 19 (.aM 42 (.t 18)),
 ro 20 (.call (.f 22) [(.t 19)]),
 ro 21 (.bX 27 (.t 14) (.t 15)),
 ⟨none, .cP 47 (.t 21) (.t 20), none⟩] (some [0, 3, 4]))) QE
def G5 : J := .seq (.seq (.ae [ro 8 (.ag (.t 4)),
 ro 9 (.ag (.t 0)),
 ro 10 (.len 22 (.t 9)),
 ro 11 (.aB .lss 3 (.t 8) (.t 10))] (some [0, 3, 4, 11])) QD) QF
def QG : J := .block 0 (.loop G5)
def QH : J := .seq (.ae [ro 22 (.ag (.t 3)),
 ro 2 (.ai (.t 22))] (some [2])) .ret
def QI : J := .seq (.seq (.ae [ro 4 (.ai (.c (.int .i64 0)))] (some [0, 3, 4])) QG) QH
def QJ : J := .seq (.ae [ro 5 (.ag (.t 0)),
 ro 6 (.len 22 (.t 5)),
 ro 7 (.eG 27 (.t 6) (.t 6)),
 ro 3 (.ai (.t 7))] (some [0, 3])) QI
def Ao : J := .seq (.ae [ro 2 (.ai (.c .bA))] (some [0])) QJ
theorem QK : bQ ⟨23, [0]⟩ (Try.f7.body.getD .skip) = some Ao.strip := by kernel_rfl
def QL : J := .seq (.ae [ro 3 (.ag (.t 0)),
 ro 4 (.aB .geq 5 (.t 3) (.c (.int .u8 97))),
 ro 5 (.ag (.t 4)),
 ⟨some 6, .ag (.t 0), some (5, true)⟩,
 ⟨some 7, .aB .leq 5 (.t 6) (.c (.int .u8 122)), some (5, true)⟩,
 ro 8 (.pick (.t 5) (.t 7) (.c (.bool false))),
 ro 2 (.ai (.t 8))] (some [2])) .ret
def QM : J := .seq (.ae [ro 2 (.ai (.c (.bool false)))] (some [0])) QL
theorem QN : bQ ⟨9, [0]⟩ (Try.f69.body.getD .skip) = some QM.strip := by kernel_rfl
def QO : J := .seq (.ae [ro 3 (.ag (.t 0)),
 ro 4 (.aB .geq 5 (.t 3) (.c (.int .u8 48))),
 ro 5 (.ag (.t 4)),
 ⟨some 6, .ag (.t 0), some (5, true)⟩,
 ⟨some 7, .aB .leq 5 (.t 6) (.c (.int .u8 57)), some (5, true)⟩,
 ro 8 (.pick (.t 5) (.t 7) (.c (.bool false))),
 ro 2 (.ai (.t 8))] (some [2])) .ret
def QP : J := .seq (.ae [ro 2 (.ai (.c (.bool false)))] (some [0])) QO
theorem QQ : bQ ⟨9, [0]⟩ (Try.f70.body.getD .skip) = some QP.strip := by kernel_rfl
def QR : J := .seq (.ae [ro 2 (.ai (.c (.bool false)))] (some [2])) .ret
def QS : J := .cond (.t 16) QR .skip
def QT : J := .cond (.t 20) .skip (.exit 0)
def QU : J := .seq (.ae [ro 2 (.ai (.c (.bool false)))] (some [2])) .ret
def QV : J := .cond (.t 34) QU .skip
def QW : J := .ae [ro 21 (.ag (.t 3)),
 ro 22 (.aB .add 3 (.t 21) (.c (.int .i64 1))),
 ro 3 (.ai (.t 22))] (some [0, 3])
def QX : J := .seq (.block 1 (.seq (.ae [ro 23 (.ag (.t 0)),
 ro 24 (.ag (.t 3)),
 ro 25 (.idx 9 (.t 23) (.t 24)),
 ro 26 (.call (.f 69) [(.t 25)]),
 ro 27 (.un .not (.t 26)),
 ro 28 (.ag (.t 27)),
 ⟨some 29, .ag (.t 0), some (28, true)⟩,
 ⟨some 30, .ag (.t 3), some (28, true)⟩,
 ⟨some 31, .idx 9 (.t 29) (.t 30), some (28, true)⟩,
 ⟨some 32, .call (.f 70) [(.t 31)], some (28, true)⟩,
 ⟨some 33, .un .not (.t 32), some (28, true)⟩,
 ro 34 (.pick (.t 28) (.t 33) (.c (.bool false)))] (some [0, 3, 34])) QV)) QW
def G6 : J := .seq (.seq (.ae [ro 17 (.ag (.t 3)),
 ro 18 (.ag (.t 0)),
 ro 19 (.len 9 (.t 18)),
 ro 20 (.aB .lss 3 (.t 17) (.t 19))] (some [0, 3, 20])) QT) QX
def QY : J := .block 0 (.loop G6)
def QZ : J := .seq (.ae [ro 2 (.ai (.c (.bool true)))] (some [2])) .ret
def Q0 : J := .seq (.seq (.ae [ro 3 (.ai (.c (.int .i64 0)))] (some [0, 3])) QY) QZ
def Q1 : J := .seq (.seq (.ae [ro 4 (.ag (.t 0)),
 ro 5 (.aB .eql 9 (.t 4) (.c (.str []))),
 ro 6 (.ag (.t 5)),
 ⟨some 7, .ag (.t 0), some (6, false)⟩,
 ⟨some 8, .len 9 (.t 7), some (6, false)⟩,
 ⟨some 9, .aB .gtr 3 (.t 8) (.c (.int .i64 10)), some (6, false)⟩,
 ro 10 (.pick (.t 6) (.c (.bool true)) (.t 9)),
 ro 11 (.ag (.t 10)),
 ⟨some 12, .ag (.t 0), some (11, false)⟩,
 ⟨some 13, .idx 9 (.t 12) (.c (.int .i64 0)), some (11, false)⟩,
 ⟨some 14, .call (.f 69) [(.t 13)], some (11, false)⟩,
 ⟨some 15, .un .not (.t 14), some (11, false)⟩,
 ro 16 (.pick (.t 11) (.c (.bool true)) (.t 15))] (some [0, 16])) QS) Q0
def Q2 : J := .seq (.ae [ro 2 (.ai (.c (.bool false)))] (some [0])) Q1
theorem Q3 : bQ ⟨35, [0]⟩ (Try.f46.body.getD .skip) = some Q2.strip := by kernel_rfl
def Q4 : J := .seq (.ae [ro 7 (.ag (.t 0)),
 ro 8 (.ag (.t 1)),
 ro 9 (.aB .geq 2 (.t 7) (.t 8)),
 ro 10 (.ag (.t 9)),
 ⟨some 11, .ag (.t 0), some (10, true)⟩,
 ⟨some 12, .ag (.t 2), some (10, true)⟩,
 ⟨some 13, .aB .leq 2 (.t 11) (.t 12), some (10, true)⟩,
 ro 14 (.pick (.t 10) (.t 13) (.c (.bool false))),
 ro 6 (.ai (.t 14))] (some [6])) .ret
def Q5 : J := .seq (.ae [ro 6 (.ai (.c (.bool false)))] (some [0, 1, 2])) Q4
theorem Q6 : bQ ⟨15, [0, 1, 2]⟩ (Try.f33.body.getD .skip) = some Q5.strip := by kernel_rfl
def Q7 : J := .ae [ro 10 (.aB .eql 2 (.t 6) (.c (.int .i64 4))),
 ro 7 (.ai (.t 10))] (some [6, 7])
def Q8 : J := .cond (.t 7) .skip Q7
def Q9 : J := .seq (.ae [ro 9 (.aB .eql 2 (.t 6) (.c (.int .i64 3))),
 ro 7 (.ai (.t 9))] (some [6, 7])) Q8
def Q_ : J := .cond (.t 7) .skip Q9
def Ra : J := .seq (.ae [ro 2 (.ai (.c (.int .i64 1)))] (some [2])) .ret
def Rb : J := .seq (.ae [ro 2 (.ai (.c (.int .i64 2)))] (some [2])) .ret
def Rc : J := .cond (.t 11) Rb .skip
def Re : J := .seq (.ae [ro 12 (.aB .eql 2 (.t 6) (.c (.int .i64 2))),
 ro 11 (.ai (.t 12))] (some [11])) Rc
def G7 : J := .cond (.t 7) Ra Re
def Rf : J := .block 0 (.seq (.seq (.ae [ro 8 (.aB .eql 2 (.t 6) (.c (.int .i64 1))),
 ro 7 (.ai (.t 8))] (some [6, 7])) Q_) G7)
def Rg : J := .seq (.ae [ro 2 (.ai (.c (.int .i64 0)))] (some [2])) .ret
def Rh : J := .seq (.seq (.ae [ro 3 (.ag (.t 0)),
 ro 4 (.dz (.t 3)),
 ro 5 (.bc 55 (.t 4) 0),
 ro 6 (.aM 2 (.t 5))] (some [6])) Rf) Rg
def Ri : J := .seq (.ae [ro 2 (.ai (.c (.int .i64 0)))] (some [0])) Rh
theorem Rj : bQ ⟨13, [0]⟩ (Try.f99.body.getD .skip) = some Ri.strip := by kernel_rfl
def Rk : J := .seq (.ae [ro 2 (.ai (.c (.bool false)))] (some [2])) .ret
def Rl : J := .cond (.t 12) Rk .skip
def Rm : J := .cond (.t 16) .skip (.exit 0)
def Rn : J := .seq (.ae [ro 2 (.ai (.c (.bool false)))] (some [2])) .ret
def Ro : J := .cond (.t 20) Rn .skip
def Rp : J := .ae [ro 21 (.ag (.t 3)),
 ro 22 (.ag (.t 0)),
 ro 23 (.ag (.t 4)),
 ro 24 (.bX 45 (.t 22) (.t 23)),
 ro 25 (.call (.f 99) [(.t 24)]),
 ro 26 (.aB .sub 2 (.t 25) (.c (.int .i64 1))),
 ro 27 (.aB .add 2 (.t 21) (.t 26)),
 ro 3 (.ai (.t 27))] (some [0, 3, 4])
def Rq : J := .ae [ro 17 (.ag (.t 4)),
 ro 18 (.aB .add 3 (.t 17) (.c (.int .i64 1))),
 ro 4 (.ai (.t 18))] (some [0, 3, 4])
def Rr : J := .seq (.block 1 (.seq (.seq (.ae [ro 19 (.ag (.t 3)),
 ro 20 (.aB .eql 2 (.t 19) (.c (.int .i64 0)))] (some [0, 3, 4, 20])) Ro) Rp)) Rq
def G8 : J := .seq (.seq (.ae [ro 13 (.ag (.t 4)),
 ro 14 (.ag (.t 0)),
 ro 15 (.len 45 (.t 14)),
 ro 16 (.aB .lss 3 (.t 13) (.t 15))] (some [0, 3, 4, 16])) Rm) Rr
def Rs : J := .block 0 (.loop G8)
def Rt : J := .seq (.ae [ro 28 (.ag (.t 3)),
 ro 29 (.aB .eql 2 (.t 28) (.c (.int .i64 0))),
 ro 2 (.ai (.t 29))] (some [2])) .ret
def Ru : J := .seq (.seq (.ae [ro 4 (.ai (.c (.int .i64 0)))] (some [0, 3, 4])) Rs) Rt
def Rv : J := .seq (.ae [ro 3 (.ai (.c (.int .i64 1)))] (some [0, 3])) Ru
def Rw : J := .seq (.seq (.ae [ro 5 (.ag (.t 0)),
 ro 6 (.len 45 (.t 5)),
 ro 7 (.aB .eql 3 (.t 6) (.c (.int .i64 0))),
 ro 8 (.ag (.t 7)),
 ⟨some 9, .ag (.t 0), some (8, false)⟩,
 ⟨some 10, .len 45 (.t 9), some (8, false)⟩,
 ⟨some 11, .aB .gtr 3 (.t 10) (.c (.int .i64 20)), some (8, false)⟩,
 ro 12 (.pick (.t 8) (.c (.bool true)) (.t 11))] (some [0, 12])) Rl) Rv
def Rx : J := .seq (.ae [ro 2 (.ai (.c (.bool false)))] (some [0])) Rw
theorem Ry : bQ ⟨30, [0]⟩ (Try.f71.body.getD .skip) = some Rx.strip := by kernel_rfl
def Rz : J := .ae [ro 9 (.aB .eql 2 (.t 6) (.c (.int .i64 2))),
 ro 7 (.ai (.t 9))] (some [0, 6, 7])
def RA : J := .cond (.t 7) .skip Rz
def RB : J := .seq (.ae [ro 10 (.ag (.t 0)),
 ro 11 (.dz (.t 10)),
 ro 12 (.bc 55 (.t 11) 1),
 ro 13 (.aM 2 (.t 12)),
 ro 14 (.aB .eql 2 (.t 13) (.c (.int .i64 0))),
 ro 15 (.ag (.t 14)),
 ⟨some 16, .ag (.t 0), some (15, true)⟩,
 ⟨some 17, .dz (.t 16), some (15, true)⟩,
 ⟨some 18, .bc 55 (.t 17) 2, some (15, true)⟩,
 ⟨some 19, .aM 9 (.t 18), some (15, true)⟩,
 ⟨some 20, .aB .eql 9 (.t 19) (.c (.str [])), some (15, true)⟩,
 ro 21 (.pick (.t 15) (.t 20) (.c (.bool false))),
 ro 22 (.ag (.t 21)),
 ⟨some 23, .ag (.t 0), some (22, true)⟩,
 ⟨some 24, .dz (.t 23), some (22, true)⟩,
 ⟨some 25, .bc 55 (.t 24) 3, some (22, true)⟩,
 ⟨some 26, .aM 53 (.t 25), some (22, true)⟩,
 ⟨some 27, .len 53 (.t 26), some (22, true)⟩,
 ⟨some 28, .aB .eql 3 (.t 27) (.c (.int .i64 0)), some (22, true)⟩,
 ro 29 (.pick (.t 22) (.t 28) (.c (.bool false))),
 ro 2 (.ai (.t 29))] (some [2])) .ret
def RC : J := .seq (.ae [ro 32 (.ag (.t 0)),
 ro 33 (.dz (.t 32)),
 ro 34 (.bc 55 (.t 33) 1),
 ro 35 (.aM 2 (.t 34)),
 ro 36 (.aB .eql 2 (.t 35) (.c (.int .i64 0))),
 ro 2 (.ai (.t 36))] (some [2])) .ret
def RD : J := .seq (.ae [ro 39 (.ag (.t 0)),
 ro 40 (.dz (.t 39)),
 ro 41 (.bc 55 (.t 40) 1),
 ro 42 (.aM 2 (.t 41)),
 ro 43 (.aB .eql 2 (.t 42) (.c (.int .i64 0))),
 ro 44 (.ag (.t 43)),
 ⟨some 45, .ag (.t 0), some (44, true)⟩,
 ⟨some 46, .dz (.t 45), some (44, true)⟩,
 ⟨some 47, .bc 55 (.t 46) 2, some (44, true)⟩,
 ⟨some 48, .aM 9 (.t 47), some (44, true)⟩,
 ⟨some 49, .aB .eql 9 (.t 48) (.c (.str [])), some (44, true)⟩,
 ro 50 (.pick (.t 44) (.t 49) (.c (.bool false))),
 ro 2 (.ai (.t 50))] (some [2])) .ret
def RE : J := .seq (.ae [ro 53 (.ag (.t 0)),
 ro 54 (.dz (.t 53)),
 ro 55 (.bc 55 (.t 54) 2),
 ro 56 (.aM 9 (.t 55)),
 ro 57 (.aB .eql 9 (.t 56) (.c (.str []))),
 ro 58 (.ag (.t 57)),
 ⟨some 59, .ag (.t 0), some (58, true)⟩,
 ⟨some 60, .dz (.t 59), some (58, true)⟩,
 ⟨some 61, .bc 55 (.t 60) 3, some (58, true)⟩,
 ⟨some 62, .aM 53 (.t 61), some (58, true)⟩,
 ⟨some 63, .len 53 (.t 62), some (58, true)⟩,
 ⟨some 64, .aB .eql 3 (.t 63) (.c (.int .i64 0)), some (58, true)⟩,
 ro 65 (.pick (.t 58) (.t 64) (.c (.bool false))),
 ro 2 (.ai (.t 65))] (some [2])) .ret
def RF : J := .seq (.ae [ro 68 (.ag (.t 0)),
 ro 69 (.dz (.t 68)),
 ro 70 (.bc 55 (.t 69) 2),
 ro 71 (.aM 9 (.t 70)),
 ro 72 (.aB .eql 9 (.t 71) (.c (.str []))),
 ro 2 (.ai (.t 72))] (some [2])) .ret
def RG : J := .cond (.t 66) RF .skip
def RH : J := .seq (.ae [ro 67 (.aB .eql 2 (.t 6) (.c (.int .i64 5))),
 ro 66 (.ai (.t 67))] (some [0, 66])) RG
def RI : J := .cond (.t 51) RE RH
def RJ : J := .seq (.ae [ro 52 (.aB .eql 2 (.t 6) (.c (.int .i64 4))),
 ro 51 (.ai (.t 52))] (some [0, 6, 51])) RI
def RK : J := .cond (.t 37) RD RJ
def RL : J := .seq (.ae [ro 38 (.aB .eql 2 (.t 6) (.c (.int .i64 3))),
 ro 37 (.ai (.t 38))] (some [0, 6, 37])) RK
def RM : J := .cond (.t 30) RC RL
def RN : J := .seq (.ae [ro 31 (.aB .eql 2 (.t 6) (.c (.int .i64 1))),
 ro 30 (.ai (.t 31))] (some [0, 6, 30])) RM
def G9 : J := .cond (.t 7) RB RN
def RO : J := .block 0 (.seq (.seq (.ae [ro 8 (.aB .eql 2 (.t 6) (.c (.int .i64 0))),
 ro 7 (.ai (.t 8))] (some [0, 6, 7])) RA) G9)
def RP : J := .seq (.ae [ro 2 (.ai (.c (.bool false)))] (some [2])) .ret
def RQ : J := .seq (.seq (.ae [ro 3 (.ag (.t 0)),
 ro 4 (.dz (.t 3)),
 ro 5 (.bc 55 (.t 4) 0),
 ro 6 (.aM 2 (.t 5))] (some [0, 6])) RO) RP
def RR : J := .seq (.ae [ro 2 (.ai (.c (.bool false)))] (some [0])) RQ
theorem RS : bQ ⟨73, [0]⟩ (Try.f100.body.getD .skip) = some RR.strip := by kernel_rfl
def RT : J := .cond (.t 7) .skip (.exit 0)
def RU : J := .ae [ro 15 (.ag (.t 1)),
 ro 16 (.aB .add 2 (.t 15) (.c (.int .i64 1))),
 ro 1 (.ai (.t 16))] (some [0, 1, 5])
def RV : J := .block 1 (.seq (.ae [ro 8 (.ag (.t 5)),
 ro 9 (.ag (.t 0)),
 ro 10 (.ag (.t 1)),
 ro 11 (.bX 45 (.t 9) (.t 10)),
 ro 12 (.call (.f 99) [(.t 11)]),
 ro 13 (.aB .sub 2 (.t 12) (.c (.int .i64 1))),
 ro 14 (.aB .add 2 (.t 8) (.t 13)),
 ro 5 (.ai (.t 14))] (some [0, 1, 5])) RU)
def G_ : J := .seq (.seq (.ae [ro 6 (.ag (.t 5)),
 ro 7 (.aB .gtr 2 (.t 6) (.c (.int .i64 0)))] (some [0, 1, 5, 7])) RT) RV
def RW : J := .seq (.ae [ro 17 (.ag (.t 1)),
 ro 4 (.ai (.t 17))] (some [4])) .ret
def RX : J := .seq (.block 0 (.loop G_)) RW
def RY : J := .seq (.ae [ro 5 (.ai (.c (.int .i64 1)))] (some [0, 1, 5])) RX
def RZ : J := .seq (.ae [ro 4 (.ai (.c (.int .i64 0)))] (some [0, 1])) RY
theorem R0 : bQ ⟨18, [0]⟩ (Try.f118.body.getD .skip) = some RZ.strip := by kernel_rfl
def R1 : J := .cond (.t 13) .skip (.exit 0)
def R2 : J := .ae [ro 35 (.ag (.t 5)),
 ro 36 (.aB .add 2 (.t 35) (.c (.int .i64 1))),
 ro 5 (.ai (.t 36))] (some [0, 1, 5, 6])
def R3 : J := .cond (.t 34) R2 .skip
def Ha : J := .ae [ro 14 (.ag (.t 6)),
 ro 15 (.aB .add 2 (.t 14) (.c (.int .i64 1))),
 ro 6 (.ai (.t 15))] (some [0, 1, 5, 6])
def R4 : J := .seq (.block 1 (.seq (.ae [ro 16 (.ag (.t 0)),
 ro 17 (.dz (.t 16)),
 ro 18 (.bc 47 (.t 17) 2),
 ro 19 (.aM 45 (.t 18)),
 ro 20 (.ag (.t 6)),
 ro 21 (.bX 45 (.t 19) (.t 20)),
 ro 22 (.bc 55 (.t 21) 0),
 ro 23 (.aM 2 (.t 22)),
 ro 24 (.aB .eql 2 (.t 23) (.c (.int .i64 4))),
 ro 25 (.ag (.t 24)),
 ⟨some 26, .ag (.t 0), some (25, true)⟩,
 ⟨some 27, .dz (.t 26), some (25, true)⟩,
 ⟨some 28, .bc 47 (.t 27) 2, some (25, true)⟩,
 ⟨some 29, .aM 45 (.t 28), some (25, true)⟩,
 ⟨some 30, .ag (.t 6), some (25, true)⟩,
 ⟨some 31, .call (.f 118) [(.t 29), (.t 30)], some (25, true)⟩,
 ⟨some 32, .ag (.t 1), some (25, true)⟩,
 ⟨some 33, .aB .gtr 2 (.t 31) (.t 32), some (25, true)⟩,
 ro 34 (.pick (.t 25) (.t 33) (.c (.bool false)))] (some [0, 1, 5, 6, 34])) R3)) Ha
def Hb : J := .seq (.seq (.ae [ro 11 (.ag (.t 6)),
 ro 12 (.ag (.t 1)),
 ro 13 (.aB .lss 2 (.t 11) (.t 12))] (some [0, 1, 5, 6, 13])) R1) R4
def R5 : J := .block 0 (.loop Hb)
def R6 : J := .seq (.ae [ro 37 (.ag (.t 5)),
 ro 4 (.ai (.t 37))] (some [4])) .ret
def R7 : J := .seq (.seq (.ae [ro 6 (.ai (.c (.int .i64 0)))] (some [0, 1, 5, 6])) R5) R6
def R8 : J := .seq (.ae [ro 7 (.ag (.t 0)),
 ro 8 (.dz (.t 7)),
 ro 9 (.bc 47 (.t 8) 1),
 ro 10 (.aM 2 (.t 9)),
 ro 5 (.ai (.t 10))] (some [0, 1, 5])) R7
def R9 : J := .seq (.ae [ro 4 (.ai (.c (.int .i64 0)))] (some [0, 1])) R8
theorem R_ : bQ ⟨38, [0, 1]⟩ (Try.f101.body.getD .skip) = some R9.strip := by kernel_rfl
def Sa : J := .seq (.ae [ro 11 (.ag (.t 0)),
 ro 12 (.dz (.t 11)),
 ro 13 (.bc 123 (.t 12) 1),
 ro 14 (.aM 2 (.t 13)),
 ro 15 (.call (.f 33) [(.t 14), (.c (.int .i64 0)), (.c (.int .i64 63))]),
 ro 4 (.ai (.t 15))] (some [4])) .ret
def Sb : J := .seq (.ae [ro 18 (.ag (.t 0)),
 ro 19 (.dz (.t 18)),
 ro 20 (.bc 123 (.t 19) 1),
 ro 21 (.aM 2 (.t 20)),
 ro 22 (.ag (.t 1)),
 ro 23 (.aB .sub 2 (.t 22) (.c (.int .i64 1))),
 ro 24 (.call (.f 33) [(.t 21), (.c (.int .i64 0)), (.t 23)]),
 ro 4 (.ai (.t 24))] (some [4])) .ret
def Sc : J := .seq (.ae [ro 27 (.ag (.t 0)),
 ro 28 (.dz (.t 27)),
 ro 29 (.bc 123 (.t 28) 1),
 ro 30 (.aM 2 (.t 29)),
 ro 31 (.call (.f 33) [(.t 30), (.c (.int .i64 0)), (.c (.int .i64 8))]),
 ro 4 (.ai (.t 31))] (some [4])) .ret
def Sd : J := .seq (.ae [ro 34 (.ag (.t 0)),
 ro 35 (.dz (.t 34)),
 ro 36 (.bc 123 (.t 35) 1),
 ro 37 (.aM 2 (.t 36)),
 ro 38 (.aB .eql 2 (.t 37) (.c (.int .i64 0))),
 ro 4 (.ai (.t 38))] (some [4])) .ret
def Se : J := .cond (.t 32) Sd .skip
def Sf : J := .seq (.ae [ro 33 (.aB .eql 2 (.t 8) (.c (.int .i64 3))),
 ro 32 (.ai (.t 33))] (some [0, 32])) Se
def Sg : J := .cond (.t 25) Sc Sf
def Sh : J := .seq (.ae [ro 26 (.aB .eql 2 (.t 8) (.c (.int .i64 2))),
 ro 25 (.ai (.t 26))] (some [0, 8, 25])) Sg
def Si : J := .cond (.t 16) Sb Sh
def Sj : J := .seq (.ae [ro 17 (.aB .eql 2 (.t 8) (.c (.int .i64 1))),
 ro 16 (.ai (.t 17))] (some [0, 1, 8, 16])) Si
def Sk : J := .cond (.t 9) Sa Sj
def Sl : J := .block 0 (.seq (.ae [ro 10 (.aB .eql 2 (.t 8) (.c (.int .i64 0))),
 ro 9 (.ai (.t 10))] (some [0, 1, 8, 9])) Sk)
def Sm : J := .seq (.ae [ro 4 (.ai (.c (.bool false)))] (some [4])) .ret
def Sp : J := .seq (.seq (.ae [ro 5 (.ag (.t 0)),
 ro 6 (.dz (.t 5)),
 ro 7 (.bc 123 (.t 6) 0),
 ro 8 (.aM 2 (.t 7))] (some [0, 1, 8])) Sl) Sm
def Sq : J := .seq (.ae [ro 4 (.ai (.c (.bool false)))] (some [0, 1])) Sp
theorem Sr : bQ ⟨39, [0, 1]⟩ (Try.f119.body.getD .skip) = some Sq.strip := by kernel_rfl
def Ss : J := .seq (.ae [ro 2 (.ai (.c (.int .i64 2)))] (some [2])) .ret
def St : J := .seq (.ae [ro 2 (.ai (.c (.int .i64 1)))] (some [2])) .ret
def Su : J := .cond (.t 9) St .skip
def Sv : J := .seq (.ae [ro 10 (.aB .eql 2 (.t 6) (.c (.int .i64 3))),
 ro 9 (.ai (.t 10))] (some [9])) Su
def Sw : J := .cond (.t 7) Ss Sv
def Sy : J := .block 0 (.seq (.ae [ro 8 (.aB .eql 2 (.t 6) (.c (.int .i64 2))),
 ro 7 (.ai (.t 8))] (some [6, 7])) Sw)
def Sz : J := .seq (.ae [ro 2 (.ai (.c (.int .i64 0)))] (some [2])) .ret
def SA : J := .seq (.seq (.ae [ro 3 (.ag (.t 0)),
 ro 4 (.dz (.t 3)),
 ro 5 (.bc 123 (.t 4) 0),
 ro 6 (.aM 2 (.t 5))] (some [6])) Sy) Sz
def SB : J := .seq (.ae [ro 2 (.ai (.c (.int .i64 0)))] (some [0])) SA
theorem SC : bQ ⟨11, [0]⟩ (Try.f120.body.getD .skip) = some SB.strip := by kernel_rfl
def SD : J := .seq (.ae [ro 6 (.ai (.c (.bool false)))] (some [6])) .ret
def SE : J := .cond (.t 12) SD .skip
def SF : J := .cond (.t 16) .skip (.exit 0)
def SG : J := .seq (.ae [ro 6 (.ai (.c (.bool false)))] (some [6])) .ret
def SH : J := .cond (.t 28) SG .skip
def SI : J := .ae [ro 29 (.ag (.t 7)),
 ro 30 (.ag (.t 0)),
 ro 31 (.ag (.t 8)),
 ro 32 (.bX 87 (.t 30) (.t 31)),
 ro 33 (.call (.f 120) [(.t 32)]),
 ro 34 (.aB .sub 2 (.t 33) (.c (.int .i64 1))),
 ro 35 (.aB .add 2 (.t 29) (.t 34)),
 ro 7 (.ai (.t 35))] (some [0, 1, 7, 8])
def SJ : J := .ae [ro 17 (.ag (.t 8)),
 ro 18 (.aB .add 3 (.t 17) (.c (.int .i64 1))),
 ro 8 (.ai (.t 18))] (some [0, 1, 7, 8])
def SK : J := .seq (.block 1 (.seq (.seq (.ae [ro 19 (.ag (.t 7)),
 ro 20 (.aB .eql 2 (.t 19) (.c (.int .i64 0))),
 ro 21 (.ag (.t 20)),
 ⟨some 22, .ag (.t 0), some (21, false)⟩,
 ⟨some 23, .ag (.t 8), some (21, false)⟩,
 ⟨some 24, .bX 87 (.t 22) (.t 23), some (21, false)⟩,
 ⟨some 25, .ag (.t 1), some (21, false)⟩,
 ⟨some 26, .call (.f 119) [(.t 24), (.t 25)], some (21, false)⟩,
 ⟨some 27, .un .not (.t 26), some (21, false)⟩,
 ro 28 (.pick (.t 21) (.c (.bool true)) (.t 27))] (some [0, 1, 7, 8, 28])) SH) SI)) SJ
def Hc : J := .seq (.seq (.ae [ro 13 (.ag (.t 8)),
 ro 14 (.ag (.t 0)),
 ro 15 (.len 87 (.t 14)),
 ro 16 (.aB .lss 3 (.t 13) (.t 15))] (some [0, 1, 7, 8, 16])) SF) SK
def SL : J := .block 0 (.loop Hc)
def SM : J := .seq (.ae [ro 36 (.ag (.t 7)),
 ro 37 (.aB .eql 2 (.t 36) (.c (.int .i64 0))),
 ro 6 (.ai (.t 37))] (some [6])) .ret
def SN : J := .seq (.seq (.ae [ro 8 (.ai (.c (.int .i64 0)))] (some [0, 1, 7, 8])) SL) SM
def SO : J := .seq (.ae [ro 7 (.ai (.c (.int .i64 1)))] (some [0, 1, 7])) SN
def SP : J := .seq (.seq (.ae [ro 9 (.ag (.t 0)),
 ro 10 (.len 87 (.t 9)),
 ro 11 (.ag (.t 2)),
 ro 12 (.aB .gtr 2 (.t 10) (.t 11))] (some [0, 1, 12])) SE) SO
def SQ : J := .seq (.ae [ro 6 (.ai (.c (.bool false)))] (some [0, 1, 2])) SP
theorem SR : bQ ⟨38, [0, 1, 2]⟩ (Try.f102.body.getD .skip) = some SQ.strip := by kernel_rfl
def SS : J := .seq (.ae [ro 6 (.ai (.c (.int .i64 2)))] (some [6])) .ret
def SU : J := .cond (.t 19) SS .skip
def SV : J := .seq (.ae [ro 6 (.ai (.c (.int .i64 3)))] (some [6])) .ret
def Hd : J := .cond (.t 28) SV .skip
def SW : J := .seq (.ae [ro 6 (.ai (.c (.int .i64 4)))] (some [6])) .ret
def He : J := .cond (.t 51) SW .skip
def SX : J := .seq (.ae [ro 6 (.ai (.c (.int .i64 5)))] (some [6])) .ret
def SY : J := .cond (.t 69) SX .skip
def SZ : J := .seq (.ae [ro 59 (.ag (.t 8)),
 ro 60 (.aB .gtr 2 (.t 59) (.c (.int .i64 2))),
 ro 61 (.ag (.t 60)),
 ⟨some 62, .ag (.t 8), some (61, false)⟩,
 ⟨some 63, .aB .gtr 2 (.t 62) (.c (.int .i64 0)), some (61, false)⟩,
 ⟨some 64, .ag (.t 63), some (61, false)⟩,
 ⟨some 65, .bc 55 (.t 7) 2, some (64, true)⟩,
 ⟨some 66, .aM 9 (.t 65), some (64, true)⟩,
 ⟨some 67, .aB .eql 9 (.t 66) (.c (.str [116, 97, 117])), some (64, true)⟩,
 ⟨some 68, .pick (.t 64) (.t 67) (.c (.bool false)), some (61, false)⟩,
 ro 69 (.pick (.t 61) (.c (.bool true)) (.t 68))] (some [1, 2, 7, 8, 69])) SY
def S0 : J := .seq (.ae [ro 6 (.ai (.c (.int .i64 5)))] (some [6])) .ret
def S1 : J := .cond (.t 73) S0 .skip
def S2 : J := .seq (.ae [ro 72 (.ag (.t 8)),
 ro 73 (.aB .neq 2 (.t 72) (.c (.int .i64 1)))] (some [1, 2, 7, 8, 73])) S1
def S3 : J := .seq (.ae [ro 6 (.ai (.c (.int .i64 5)))] (some [6])) .ret
def S4 : J := .cond (.t 83) S3 .skip
def S5 : J := .seq (.ae [ro 76 (.ag (.t 8)),
 ro 77 (.ag (.t 0)),
 ro 78 (.bc 55 (.t 7) 1),
 ro 79 (.aM 2 (.t 78)),
 ro 80 (.bX 27 (.t 77) (.t 79)),
 ro 81 (.bc 47 (.t 80) 1),
 ro 82 (.aM 2 (.t 81)),
 ro 83 (.aB .neq 2 (.t 76) (.t 82))] (some [1, 2, 7, 8, 83])) S4
def S6 : J := .cond (.t 74) S5 .skip
def S7 : J := .seq (.ae [ro 75 (.aB .eql 2 (.t 56) (.c (.int .i64 5))),
 ro 74 (.ai (.t 75))] (some [0, 1, 2, 7, 8, 74])) S6
def S8 : J := .cond (.t 70) S2 S7
def S9 : J := .seq (.ae [ro 71 (.aB .eql 2 (.t 56) (.c (.int .i64 3))),
 ro 70 (.ai (.t 71))] (some [0, 1, 2, 7, 8, 56, 70])) S8
def S_ : J := .cond (.t 57) SZ S9
def Ta : J := .block 0 (.seq (.ae [ro 58 (.aB .eql 2 (.t 56) (.c (.int .i64 1))),
 ro 57 (.ai (.t 58))] (some [0, 1, 2, 7, 8, 56, 57])) S_)
def Tb : J := .seq (.ae [ro 6 (.ai (.c (.int .i64 6)))] (some [6])) .ret
def Hf : J := .cond (.t 102) Tb .skip
def Tc : J := .seq (.ae [ro 6 (.ai (.c (.int .i64 7)))] (some [6])) .ret
def Td : J := .cond (.t 112) Tc .skip
def Te : J := .cond (.t 115) .skip (.exit 1)
def Tf : J := .seq (.ae [ro 6 (.ai (.c (.int .i64 8)))] (some [6])) .ret
def Tg : J := .cond (.t 125) Tf .skip
def Th : J := .ae [ro 116 (.ag (.t 10)),
 ro 117 (.aB .add 2 (.t 116) (.c (.int .i64 1))),
 ro 10 (.ai (.t 117))] (some [7, 8, 9, 10])
def Ti : J := .seq (.block 2 (.seq (.ae [ro 118 (.bc 55 (.t 7) 3),
 ro 119 (.aM 53 (.t 118)),
 ro 120 (.ag (.t 10)),
 ro 121 (.bX 53 (.t 119) (.t 120)),
 ro 122 (.aM 87 (.t 121)),
 ro 123 (.ag (.t 9)),
 ro 124 (.call (.f 102) [(.t 122), (.t 123), (.c (.int .i64 15))]),
 ro 125 (.un .not (.t 124))] (some [7, 8, 9, 10, 125])) Tg)) Th
def Hg : J := .seq (.seq (.ae [ro 113 (.ag (.t 10)),
 ro 114 (.ag (.t 8)),
 ro 115 (.aB .lss 2 (.t 113) (.t 114))] (some [7, 8, 9, 10, 115])) Te) Ti
def Tj : J := .block 1 (.loop Hg)
def Tk : J := .seq (.ae [ro 6 (.ai (.c (.int .i64 0)))] (some [6])) .ret
def Tl : J := .seq (.seq (.ae [ro 10 (.ai (.c (.int .i64 0)))] (some [7, 8, 9, 10])) Tj) Tk
def Tm : J := .seq (.seq (.ae [ro 106 (.bc 55 (.t 7) 0),
 ro 107 (.aM 2 (.t 106)),
 ro 108 (.aB .eql 2 (.t 107) (.c (.int .i64 4))),
 ro 109 (.ag (.t 108)),
 ⟨some 110, .ag (.t 9), some (109, true)⟩,
 ⟨some 111, .aB .geq 2 (.t 110) (.c (.int .i64 6)), some (109, true)⟩,
 ro 112 (.pick (.t 109) (.t 111) (.c (.bool false)))] (some [7, 8, 9, 112])) Td) Tl
def Tn : J := .seq (.ae [ro 103 (.ag (.t 1)),
 ro 104 (.ag (.t 2)),
 ro 105 (.call (.f 101) [(.t 103), (.t 104)]),
 ro 9 (.ai (.t 105))] (some [7, 8, 9])) Tm
def Hh : J := .seq (.seq (.ae [ro 84 (.bc 55 (.t 7) 0),
 ro 85 (.aM 2 (.t 84)),
 ro 86 (.aB .eql 2 (.t 85) (.c (.int .i64 5))),
 ro 87 (.ag (.t 86)),
 ⟨some 88, .ag (.t 2), some (87, true)⟩,
 ⟨some 89, .aB .eql 2 (.t 88) (.c (.int .i64 0)), some (87, true)⟩,
 ⟨some 90, .ag (.t 89), some (87, true)⟩,
 ⟨some 91, .ag (.t 1), some (90, false)⟩,
 ⟨some 92, .dz (.t 91), some (90, false)⟩,
 ⟨some 93, .bc 47 (.t 92) 2, some (90, false)⟩,
 ⟨some 94, .aM 45 (.t 93), some (90, false)⟩,
 ⟨some 95, .ag (.t 2), some (90, false)⟩,
 ⟨some 96, .aB .sub 2 (.t 95) (.c (.int .i64 1)), some (90, false)⟩,
 ⟨some 97, .bX 45 (.t 94) (.t 96), some (90, false)⟩,
 ⟨some 98, .bc 55 (.t 97) 0, some (90, false)⟩,
 ⟨some 99, .aM 2 (.t 98), some (90, false)⟩,
 ⟨some 100, .aB .neq 2 (.t 99) (.c (.int .i64 1)), some (90, false)⟩,
 ⟨some 101, .pick (.t 90) (.c (.bool true)) (.t 100), some (87, true)⟩,
 ro 102 (.pick (.t 87) (.t 101) (.c (.bool false)))] (some [1, 2, 7, 8, 102])) Hf) Tn
def To : J := .seq (.seq (.ae [ro 55 (.bc 55 (.t 7) 0),
 ro 56 (.aM 2 (.t 55))] (some [0, 1, 2, 7, 8, 56])) Ta) Hh
def Tp : J := .seq (.ae [ro 52 (.bc 55 (.t 7) 3),
 ro 53 (.aM 53 (.t 52)),
 ro 54 (.len 53 (.t 53)),
 ro 8 (.ai (.t 54))] (some [0, 1, 2, 7, 8])) To
def Tq : J := .seq (.seq (.ae [ro 29 (.bc 55 (.t 7) 0),
 ro 30 (.aM 2 (.t 29)),
 ro 31 (.aB .eql 2 (.t 30) (.c (.int .i64 4))),
 ro 32 (.ag (.t 31)),
 ⟨some 33, .bc 55 (.t 7) 1, some (32, true)⟩,
 ⟨some 34, .aM 2 (.t 33), some (32, true)⟩,
 ⟨some 35, .call (.f 33) [(.t 34), (.c (.int .i64 1)), (.c (.int .i64 7))], some (32, true)⟩,
 ⟨some 36, .un .not (.t 35), some (32, true)⟩,
 ro 37 (.pick (.t 32) (.t 36) (.c (.bool false))),
 ro 38 (.ag (.t 37)),
 ⟨some 39, .bc 55 (.t 7) 0, some (38, false)⟩,
 ⟨some 40, .aM 2 (.t 39), some (38, false)⟩,
 ⟨some 41, .aB .eql 2 (.t 40) (.c (.int .i64 5)), some (38, false)⟩,
 ⟨some 42, .ag (.t 41), some (38, false)⟩,
 ⟨some 43, .bc 55 (.t 7) 1, some (42, true)⟩,
 ⟨some 44, .aM 2 (.t 43), some (42, true)⟩,
 ⟨some 45, .ag (.t 0), some (42, true)⟩,
 ⟨some 46, .len 27 (.t 45), some (42, true)⟩,
 ⟨some 47, .aB .sub 2 (.t 46) (.c (.int .i64 1)), some (42, true)⟩,
 ⟨some 48, .call (.f 33) [(.t 44), (.c (.int .i64 0)), (.t 47)], some (42, true)⟩,
 ⟨some 49, .un .not (.t 48), some (42, true)⟩,
 ⟨some 50, .pick (.t 42) (.t 49) (.c (.bool false)), some (38, false)⟩,
 ro 51 (.pick (.t 38) (.c (.bool true)) (.t 50))] (some [0, 1, 2, 7, 51])) He) Tp
def Tr : J := .seq (.seq (.ae [ro 20 (.bc 55 (.t 7) 0),
 ro 21 (.aM 2 (.t 20)),
 ro 22 (.aB .eql 2 (.t 21) (.c (.int .i64 1))),
 ro 23 (.ag (.t 22)),
 ⟨some 24, .bc 55 (.t 7) 2, some (23, true)⟩,
 ⟨some 25, .aM 9 (.t 24), some (23, true)⟩,
 ⟨some 26, .call (.f 46) [(.t 25)], some (23, true)⟩,
 ⟨some 27, .un .not (.t 26), some (23, true)⟩,
 ro 28 (.pick (.t 23) (.t 27) (.c (.bool false)))] (some [0, 1, 2, 7, 28])) Hd) Tq
def Ts : J := .seq (.seq (.ae [ro 18 (.call (.f 100) [(.t 7)]),
 ro 19 (.un .not (.t 18))] (some [0, 1, 2, 7, 19])) SU) Tr
def Tt : J := .seq (.ae [ro 11 (.ag (.t 1)),
 ro 12 (.dz (.t 11)),
 ro 13 (.bc 47 (.t 12) 2),
 ro 14 (.aM 45 (.t 13)),
 ro 15 (.ag (.t 2)),
 ro 16 (.bX 45 (.t 14) (.t 15)),
 ro 17 (.aM 55 (.t 16)),
 ro 7 (.dS 55),
 ⟨none, .cP 55 (.t 7) (.t 17), none⟩] (some [0, 1, 2, 7])) Ts
def Tu : J := .seq (.ae [ro 6 (.ai (.c (.int .i64 0)))] (some [0, 1, 2])) Tt
theorem Tv : bQ ⟨126, [0, 1, 2]⟩ (Try.f72.body.getD .skip) = some Tu.strip := by kernel_rfl
def Tw : J := .seq (.ae [ro 4 (.ai (.c (.int .i64 0))),
 ro 5 (.ai (.c (.int .i64 1)))] (some [4, 5])) .ret
def Tx : J := .cond (.t 13) Tw .skip
def Ty : J := .cond (.t 20) .skip (.exit 0)
def Tz : J := .seq (.ae [ro 29 (.ag (.t 6)),
 ro 30 (.ag (.t 7)),
 ro 4 (.ai (.t 29)),
 ro 5 (.ai (.t 30))] (some [4, 5])) .ret
def TA : J := .cond (.t 28) Tz .skip
def TB : J := .seq (.ae [ro 27 (.ag (.t 7)),
 ro 28 (.aB .gtr 2 (.t 27) (.c (.int .i64 0)))] (some [0, 1, 6, 7, 28])) TA
def TC : J := .ae [ro 21 (.ag (.t 6)),
 ro 22 (.aB .add 2 (.t 21) (.c (.int .i64 1))),
 ro 6 (.ai (.t 22))] (some [0, 1, 6])
def TD : J := .seq (.block 1 (.seq (.ae [ro 23 (.ag (.t 0)),
 ro 24 (.ag (.t 1)),
 ro 25 (.ag (.t 6)),
 ro 26 (.call (.f 72) [(.t 23), (.t 24), (.t 25)]),
 ro 7 (.ai (.t 26))] (some [0, 1, 6, 7])) TB)) TC
def Hi : J := .seq (.seq (.ae [ro 14 (.ag (.t 6)),
 ro 15 (.ag (.t 1)),
 ro 16 (.dz (.t 15)),
 ro 17 (.bc 47 (.t 16) 2),
 ro 18 (.aM 45 (.t 17)),
 ro 19 (.len 45 (.t 18)),
 ro 20 (.aB .lss 2 (.t 14) (.t 19))] (some [0, 1, 6, 20])) Ty) TD
def TE : J := .block 0 (.loop Hi)
def TF : J := .seq (.ae [ro 4 (.ai (.c (.int .i64 0))),
 ro 5 (.ai (.c (.int .i64 0)))] (some [4, 5])) .ret
def TG : J := .seq (.seq (.ae [ro 6 (.ai (.c (.int .i64 0)))] (some [0, 1, 6])) TE) TF
def TH : J := .seq (.seq (.ae [ro 8 (.ag (.t 1)),
 ro 9 (.dz (.t 8)),
 ro 10 (.bc 47 (.t 9) 2),
 ro 11 (.aM 45 (.t 10)),
 ro 12 (.call (.f 71) [(.t 11)]),
 ro 13 (.un .not (.t 12))] (some [0, 1, 13])) Tx) TG
def TI : J := .seq (.ae [ro 4 (.ai (.c (.int .i64 0))),
 ro 5 (.ai (.c (.int .i64 0)))] (some [0, 1])) TH
theorem TJ : bQ ⟨31, [0, 1]⟩ (Try.f47.body.getD .skip) = some TI.strip := by kernel_rfl
def TK : J := .seq (.ae [ro 2 (.ai (.c (.bool false)))] (some [2])) .ret
def TL : J := .cond (.t 15) TK .skip
def TM : J := .cond (.t 19) .skip (.exit 0)
def TN : J := .seq (.ae [ro 2 (.ai (.c (.bool false)))] (some [2])) .ret
def TO : J := .cond (.t 37) TN .skip
def TP : J := .cond (.t 40) .skip (.exit 2)
def TQ : J := .seq (.ae [ro 2 (.ai (.c (.bool false)))] (some [2])) .ret
def TR : J := .cond (.t 53) TQ .skip
def TS : J := .ae [ro 41 (.ag (.t 4)),
 ro 42 (.aB .add 3 (.t 41) (.c (.int .i64 1))),
 ro 4 (.ai (.t 42))] (some [0, 3, 4])
def TT : J := .seq (.block 3 (.seq (.hK [ro 43 (.ag (.t 0)),
 ro 44 (.ag (.t 4)),
 ro 45 (.bX 27 (.t 43) (.t 44)),
 ro 46 (.bc 47 (.t 45) 0),
 ro 47 (.aM 9 (.t 46)),
 ro 48 (.ag (.t 0)),
 ro 49 (.ag (.t 3)),
 ro 50 (.bX 27 (.t 48) (.t 49)),
 ro 51 (.bc 47 (.t 50) 0),
 ro 52 (.aM 9 (.t 51)),
 ro 53 (.aB .eql 9 (.t 47) (.t 52))] [[], [], [0, 1], [2], [3], [], [], [5, 6], [7], [8], [4, 9]] (some [0, 3, 4, 53])) TR)) TS
def Hj : J := .seq (.seq (.ae [ro 38 (.ag (.t 4)),
 ro 39 (.ag (.t 3)),
 ro 40 (.aB .lss 3 (.t 38) (.t 39))] (some [0, 3, 4, 40])) TP) TT
def TU : J := .block 2 (.loop Hj)
def TV : J := .seq (.ae [ro 4 (.ai (.c (.int .i64 0)))] (some [0, 3, 4])) TU
def TW : J := .ae [ro 20 (.ag (.t 3)),
 ro 21 (.aB .add 3 (.t 20) (.c (.int .i64 1))),
 ro 3 (.ai (.t 21))] (some [0, 3])
def TX : J := .seq (.block 1 (.seq (.seq (.ae [ro 22 (.ag (.t 0)),
 ro 23 (.ag (.t 3)),
 ro 24 (.bX 27 (.t 22) (.t 23)),
 ro 25 (.bc 47 (.t 24) 0),
 ro 26 (.aM 9 (.t 25)),
 ro 27 (.call (.f 46) [(.t 26)]),
 ro 28 (.un .not (.t 27)),
 ro 29 (.ag (.t 28)),
 ⟨some 30, .ag (.t 0), some (29, false)⟩,
 ⟨some 31, .ag (.t 3), some (29, false)⟩,
 ⟨some 32, .bX 27 (.t 30) (.t 31), some (29, false)⟩,
 ⟨some 33, .bc 47 (.t 32) 1, some (29, false)⟩,
 ⟨some 34, .aM 2 (.t 33), some (29, false)⟩,
 ⟨some 35, .call (.f 33) [(.t 34), (.c (.int .i64 0)), (.c (.int .i64 3))], some (29, false)⟩,
 ⟨some 36, .un .not (.t 35), some (29, false)⟩,
 ro 37 (.pick (.t 29) (.c (.bool true)) (.t 36))] (some [0, 3, 37])) TO) TV)) TW
def Hk : J := .seq (.seq (.ae [ro 16 (.ag (.t 3)),
 ro 17 (.ag (.t 0)),
 ro 18 (.len 27 (.t 17)),
 ro 19 (.aB .lss 3 (.t 16) (.t 18))] (some [0, 3, 19])) TM) TX
def TY : J := .block 0 (.loop Hk)
def TZ : J := .cond (.t 57) .skip (.exit 4)
def T0 : J := .seq (.ae [ro 2 (.ai (.c (.bool false)))] (some [2])) .ret
def T1 : J := .cond (.t 69) T0 .skip
def T2 : J := .seq (.ae [ro 68 (.ag (.t 7)),
 ro 69 (.aB .gtr 2 (.t 68) (.c (.int .i64 0)))] (some [0, 5, 69])) T1
def T3 : J := .ae [ro 58 (.ag (.t 5)),
 ro 59 (.aB .add 3 (.t 58) (.c (.int .i64 1))),
 ro 5 (.ai (.t 59))] (some [0, 5])
def T4 : J := .seq (.block 5 (.seq (.ae [ro 61 (.ag (.t 0)),
 ro 62 (.ag (.t 0)),
 ro 63 (.ag (.t 5)),
 ro 64 (.bX 27 (.t 62) (.t 63)),
 ro 65 (.call (.f 47) [(.t 61), (.t 64)]),
 ro 60 (.ag (.t 65)),
 ro 66 (.ex (.t 60) 0),
 ro 67 (.ex (.t 60) 1),
 ro 6 (.ai (.t 66)),
 ro 7 (.ai (.t 67))] (some [0, 5, 7])) T2)) T3
def Hl : J := .seq (.seq (.ae [ro 54 (.ag (.t 5)),
 ro 55 (.ag (.t 0)),
 ro 56 (.len 27 (.t 55)),
 ro 57 (.aB .lss 3 (.t 54) (.t 56))] (some [0, 5, 57])) TZ) T4
def T5 : J := .block 4 (.loop Hl)
def T6 : J := .seq (.ae [ro 2 (.ai (.c (.bool true)))] (some [2])) .ret
def T7 : J := .seq (.seq (.ae [ro 5 (.ai (.c (.int .i64 0)))] (some [0, 5])) T5) T6
def T8 : J := .seq (.seq (.ae [ro 3 (.ai (.c (.int .i64 0)))] (some [0, 3])) TY) T7
def T9 : J := .seq (.seq (.ae [ro 8 (.ag (.t 0)),
 ro 9 (.len 27 (.t 8)),
 ro 10 (.aB .eql 3 (.t 9) (.c (.int .i64 0))),
 ro 11 (.ag (.t 10)),
 ⟨some 12, .ag (.t 0), some (11, false)⟩,
 ⟨some 13, .len 27 (.t 12), some (11, false)⟩,
 ⟨some 14, .aB .gtr 3 (.t 13) (.c (.int .i64 4)), some (11, false)⟩,
 ro 15 (.pick (.t 11) (.c (.bool true)) (.t 14))] (some [0, 15])) TL) T8
def T_ : J := .seq (.ae [ro 2 (.ai (.c (.bool false)))] (some [0])) T9
theorem Ua : bQ ⟨70, [0]⟩ (Try.f32.body.getD .skip) = some T_.strip := by kernel_rfl
def Ub : J := .seq (.ae [ro 6 (.ai (.c (.int .i64 1)))] (some [6])) .ret
def Uc : J := .cond (.t 9) Ub .skip
def Ud : J := .seq (.ae [ro 6 (.ai (.c (.int .i64 2)))] (some [6])) .ret
def Ue : J := .cond (.t 27) Ud .skip
def Uf : J := .seq (.ae [ro 6 (.ai (.c (.int .i64 0)))] (some [6])) .ret
def Ug : J := .seq (.seq (.ae [ro 10 (.ag (.t 1)),
 ro 11 (.ag (.t 0)),
 ro 12 (.len 27 (.t 11)),
 ro 13 (.aB .sub 2 (.t 12) (.c (.int .i64 1))),
 ro 14 (.call (.f 33) [(.t 10), (.c (.int .i64 0)), (.t 13)]),
 ro 15 (.un .not (.t 14)),
 ro 16 (.ag (.t 15)),
 ⟨some 17, .ag (.t 2), some (16, false)⟩,
 ⟨some 18, .ag (.t 0), some (16, false)⟩,
 ⟨some 19, .ag (.t 1), some (16, false)⟩,
 ⟨some 20, .bX 27 (.t 18) (.t 19), some (16, false)⟩,
 ⟨some 21, .bc 47 (.t 20) 2, some (16, false)⟩,
 ⟨some 22, .aM 45 (.t 21), some (16, false)⟩,
 ⟨some 23, .len 45 (.t 22), some (16, false)⟩,
 ⟨some 24, .aB .sub 2 (.t 23) (.c (.int .i64 1)), some (16, false)⟩,
 ⟨some 25, .call (.f 33) [(.t 17), (.c (.int .i64 0)), (.t 24)], some (16, false)⟩,
 ⟨some 26, .un .not (.t 25), some (16, false)⟩,
 ro 27 (.pick (.t 16) (.c (.bool true)) (.t 26))] (some [27])) Ue) Uf
def Uh : J := .seq (.seq (.ae [ro 7 (.ag (.t 0)),
 ro 8 (.call (.f 32) [(.t 7)]),
 ro 9 (.un .not (.t 8))] (some [0, 1, 2, 9])) Uc) Ug
def Ui : J := .seq (.ae [ro 6 (.ai (.c (.int .i64 0)))] (some [0, 1, 2])) Uh
theorem qB : bQ ⟨28, [0, 1, 2]⟩ (Try.f20.body.getD .skip) = some Ui.strip := by kernel_rfl
def Uj : J := .cond (.t 9) .skip (.exit 0)
def Uk : J := .seq (.ae [ro 18 (.ag (.t 5)),
 ro 4 (.ai (.t 18))] (some [4])) .ret
def Ul : J := .cond (.t 17) Uk .skip
def Um : J := .ae [ro 10 (.ag (.t 5)),
 ro 11 (.aB .add 3 (.t 10) (.c (.int .i64 1))),
 ro 5 (.ai (.t 11))] (some [0, 1, 5])
def Un : J := .seq (.block 1 (.seq (.ae [ro 12 (.ag (.t 0)),
 ro 13 (.ag (.t 5)),
 ro 14 (.bX 34 (.t 12) (.t 13)),
 ro 15 (.aM 9 (.t 14)),
 ro 16 (.ag (.t 1)),
 ro 17 (.aB .eql 9 (.t 15) (.t 16))] (some [0, 1, 5, 17])) Ul)) Um
def Hm : J := .seq (.seq (.ae [ro 6 (.ag (.t 5)),
 ro 7 (.ag (.t 0)),
 ro 8 (.len 34 (.t 7)),
 ro 9 (.aB .lss 3 (.t 6) (.t 8))] (some [0, 1, 5, 9])) Uj) Un
def Uo : J := .block 0 (.loop Hm)
def Up : J := .seq (.ae [ro 4 (.ai (.c (.int .i64 (-1))))] (some [4])) .ret
def Uq : J := .seq (.seq (.ae [ro 5 (.ai (.c (.int .i64 0)))] (some [0, 1, 5])) Uo) Up
def Ur : J := .seq (.ae [ro 4 (.ai (.c (.int .i64 0)))] (some [0, 1])) Uq
theorem Us : bQ ⟨19, [0, 1]⟩ (Try.f42.body.getD .skip) = some Ur.strip := by kernel_rfl
def Ut : J := .cond (.t 11) .skip (.exit 0)
def Uu : J := .cond (.t 20) (.exit 1) .skip
def Uv : J := .cond (.t 35) .skip (.exit 2)
def Uw : J := .block 3 (.ae [ro 36 (.ag (.t 5)),
 ro 37 (.aB .add 3 (.t 36) (.c (.int .i64 1))),
 ro 5 (.ai (.t 37))] (some [0, 3, 4, 5]))
def Hn : J := .seq (.seq (.hK [ro 21 (.ag (.t 5)),
 ro 22 (.ag (.t 3)),
 ro 23 (.len 34 (.t 22)),
 ro 24 (.aB .lss 3 (.t 21) (.t 23)),
 ro 25 (.ag (.t 24)),
 ⟨some 26, .ag (.t 3), some (25, true)⟩,
 ⟨some 27, .ag (.t 5), some (25, true)⟩,
 ⟨some 28, .bX 34 (.t 26) (.t 27), some (25, true)⟩,
 ⟨some 29, .aM 9 (.t 28), some (25, true)⟩,
 ⟨some 30, .ag (.t 0), some (25, true)⟩,
 ⟨some 31, .ag (.t 4), some (25, true)⟩,
 ⟨some 32, .bX 34 (.t 30) (.t 31), some (25, true)⟩,
 ⟨some 33, .aM 9 (.t 32), some (25, true)⟩,
 ⟨some 34, .aB .lss 9 (.t 29) (.t 33), some (25, true)⟩,
 ro 35 (.pick (.t 25) (.t 34) (.c (.bool false)))] [[], [], [1], [0, 2], [3], [4], [4], [5, 6, 4], [7, 4], [4], [4], [9, 10, 4], [11, 4], [8, 12, 4], [4, 13]] (some [0, 3, 4, 5, 35])) Uv) Uw
def Ux : J := .cond (.t 46) .skip (.exit 4)
def Uy : J := .ae [ro 47 (.ag (.t 6)),
 ro 48 (.aB .sub 3 (.t 47) (.c (.int .i64 1))),
 ro 6 (.ai (.t 48))] (some [0, 3, 4, 5, 6])
def Uz : J := .seq (.block 5 (.ae [ro 49 (.ag (.t 3)),
 ro 50 (.ag (.t 6)),
 ro 51 (.ag (.t 3)),
 ro 52 (.ag (.t 6)),
 ro 53 (.aB .sub 3 (.t 52) (.c (.int .i64 1))),
 ro 54 (.bX 34 (.t 51) (.t 53)),
 ro 55 (.aM 9 (.t 54)),
 ro 56 (.bX 34 (.t 49) (.t 50)),
 ⟨none, .cP 9 (.t 56) (.t 55), none⟩] (some [0, 3, 4, 5, 6]))) Uy
def BW : J := .seq (.seq (.ae [ro 44 (.ag (.t 6)),
 ro 45 (.ag (.t 5)),
 ro 46 (.aB .gtr 3 (.t 44) (.t 45))] (some [0, 3, 4, 5, 6, 46])) Ux) Uz
def UA : J := .block 4 (.loop BW)
def UB : J := .ae [ro 57 (.ag (.t 3)),
 ro 58 (.ag (.t 5)),
 ro 59 (.ag (.t 0)),
 ro 60 (.ag (.t 4)),
 ro 61 (.bX 34 (.t 59) (.t 60)),
 ro 62 (.aM 9 (.t 61)),
 ro 63 (.bX 34 (.t 57) (.t 58)),
 ⟨none, .cP 9 (.t 63) (.t 62), none⟩] (some [0, 3, 4])
def UC : J := .seq (.seq (.ae [ro 41 (.ag (.t 3)),
 ro 42 (.len 34 (.t 41)),
 ro 43 (.aB .sub 3 (.t 42) (.c (.int .i64 1))),
 ro 6 (.ai (.t 43))] (some [0, 3, 4, 5, 6])) UA) UB
def UD : J := .seq (.ae [ro 38 (.ag (.t 3)),
 ro 39 (.dN 34 1 [(0, (.c (.str [])))]),
 ro 40 (.app 34 34 (.t 38) (.t 39)),
 ro 3 (.ai (.t 40))] (some [0, 3, 4, 5])) UC
def UE : J := .seq (.block 2 (.loop Hn)) UD
def UF : J := .seq (.ae [ro 5 (.ai (.c (.int .i64 1)))] (some [0, 3, 4, 5])) UE
def Ho : J := .ae [ro 12 (.ag (.t 4)),
 ro 13 (.aB .add 3 (.t 12) (.c (.int .i64 1))),
 ro 4 (.ai (.t 13))] (some [0, 3, 4])
def UG : J := .seq (.block 1 (.seq (.seq (.ae [ro 14 (.ag (.t 3)),
 ro 15 (.ag (.t 0)),
 ro 16 (.ag (.t 4)),
 ro 17 (.bX 34 (.t 15) (.t 16)),
 ro 18 (.aM 9 (.t 17)),
 ro 19 (.call (.f 42) [(.t 14), (.t 18)]),
 ro 20 (.aB .geq 2 (.t 19) (.c (.int .i64 0)))] (some [0, 3, 4, 20])) Uu) UF)) Ho
def Hp : J := .seq (.seq (.ae [ro 8 (.ag (.t 4)),
 ro 9 (.ag (.t 0)),
 ro 10 (.len 34 (.t 9)),
 ro 11 (.aB .lss 3 (.t 8) (.t 10))] (some [0, 3, 4, 11])) Ut) UG
def UH : J := .block 0 (.loop Hp)
def UI : J := .seq (.ae [ro 64 (.ag (.t 3)),
 ro 2 (.ai (.t 64))] (some [2])) .ret
def UJ : J := .seq (.seq (.ae [ro 4 (.ai (.c (.int .i64 0)))] (some [0, 3, 4])) UH) UI
def UK : J := .seq (.ae [ro 7 (.dN 34 1 [(0, (.c (.str [116, 97, 117])))]),
 ro 3 (.ai (.t 7))] (some [0, 3])) UJ
def UL : J := .seq (.ae [ro 2 (.ai (.c .bA))] (some [0])) UK
theorem UM : bQ ⟨65, [0]⟩ (Try.f28.body.getD .skip) = some UL.strip := by kernel_rfl
def UN : J := .seq (.ae [ro 14 (.ag (.t 6)),
 ro 4 (.ai (.c .bA)),
 ro 5 (.ai (.t 14))] (some [4, 5])) .ret
def UO : J := .cond (.t 13) UN .skip
def UP : J := .cond (.t 23) .skip (.exit 0)
def UQ : J := .ae [ro 36 (.ag (.t 7)),
 ro 37 (.ag (.t 0)),
 ro 38 (.ag (.t 1)),
 ro 39 (.bX 27 (.t 37) (.t 38)),
 ro 40 (.bc 47 (.t 39) 2),
 ro 41 (.aM 45 (.t 40)),
 ro 42 (.ag (.t 8)),
 ro 43 (.bX 45 (.t 41) (.t 42)),
 ro 44 (.bc 55 (.t 43) 2),
 ro 45 (.aM 9 (.t 44)),
 ro 46 (.dN 34 1 [(0, (.t 45))]),
 ro 47 (.app 34 34 (.t 36) (.t 46)),
 ro 7 (.ai (.t 47))] (some [0, 1, 7, 8])
def UR : J := .cond (.t 35) UQ .skip
def Hq : J := .ae [ro 24 (.ag (.t 8)),
 ro 25 (.aB .add 3 (.t 24) (.c (.int .i64 1))),
 ro 8 (.ai (.t 25))] (some [0, 1, 7, 8])
def US : J := .seq (.block 1 (.seq (.ae [ro 26 (.ag (.t 0)),
 ro 27 (.ag (.t 1)),
 ro 28 (.bX 27 (.t 26) (.t 27)),
 ro 29 (.bc 47 (.t 28) 2),
 ro 30 (.aM 45 (.t 29)),
 ro 31 (.ag (.t 8)),
 ro 32 (.bX 45 (.t 30) (.t 31)),
 ro 33 (.bc 55 (.t 32) 0),
 ro 34 (.aM 2 (.t 33)),
 ro 35 (.aB .eql 2 (.t 34) (.c (.int .i64 1)))] (some [0, 1, 7, 8, 35])) UR)) Hq
def Hr : J := .seq (.seq (.ae [ro 16 (.ag (.t 8)),
 ro 17 (.ag (.t 0)),
 ro 18 (.ag (.t 1)),
 ro 19 (.bX 27 (.t 17) (.t 18)),
 ro 20 (.bc 47 (.t 19) 2),
 ro 21 (.aM 45 (.t 20)),
 ro 22 (.len 45 (.t 21)),
 ro 23 (.aB .lss 3 (.t 16) (.t 22))] (some [0, 1, 7, 8, 23])) UP) US
def UT : J := .block 0 (.loop Hr)
def UU : J := .seq (.ae [ro 48 (.ag (.t 7)),
 ro 49 (.call (.f 28) [(.t 48)]),
 ro 50 (.ed 34 (.t 49) (some (.c (.int .i64 1))) none),
 ro 4 (.ai (.t 50)),
 ro 5 (.ai (.c (.int .i64 0)))] (some [4, 5])) .ret
def UW : J := .seq (.seq (.ae [ro 8 (.ai (.c (.int .i64 0)))] (some [0, 1, 7, 8])) UT) UU
def UX : J := .seq (.ae [ro 15 (.dN 34 0 []),
 ro 7 (.ai (.t 15))] (some [0, 1, 7])) UW
def UY : J := .seq (.seq (.ae [ro 12 (.ag (.t 6)),
 ro 13 (.aB .neq 2 (.t 12) (.c (.int .i64 0)))] (some [0, 1, 6, 13])) UO) UX
def UZ : J := .seq (.ae [ro 9 (.ag (.t 0)),
 ro 10 (.ag (.t 1)),
 ro 11 (.call (.f 20) [(.t 9), (.t 10), (.c (.int .i64 0))]),
 ro 6 (.ai (.t 11))] (some [0, 1, 6])) UY
def U0 : J := .seq (.ae [ro 4 (.ai (.c .bA)),
 ro 5 (.ai (.c (.int .i64 0)))] (some [0, 1])) UZ
theorem l8 : bQ ⟨51, [0, 1]⟩ (Try.f14.body.getD .skip) = some U0.strip := by kernel_rfl
def U1 : J := .seq (.ae [ro 7 (.ag (.t 0)),
 ro 8 (.ag (.t 1)),
 ro 9 (.aB .geq 2 (.t 7) (.t 8)),
 ro 10 (.ag (.t 9)),
 ⟨some 11, .ag (.t 0), some (10, true)⟩,
 ⟨some 12, .ag (.t 2), some (10, true)⟩,
 ⟨some 13, .aB .leq 2 (.t 11) (.t 12), some (10, true)⟩,
 ro 14 (.pick (.t 10) (.t 13) (.c (.bool false))),
 ro 6 (.ai (.t 14))] (some [6])) .ret
def U2 : J := .seq (.ae [ro 6 (.ai (.c (.bool false)))] (some [0, 1, 2])) U1
theorem U3 : bQ ⟨15, [0, 1, 2]⟩ (Try.f49.body.getD .skip) = some U2.strip := by kernel_rfl
def U4 : J := .seq (.ae [ro 3 (.bc 47 (.t 1) 1),
 ro 4 (.aM 2 (.t 3)),
 ro 5 (.call (.f 49) [(.t 4), (.c (.int .i64 0)), (.c (.int .i64 3))]),
 ro 6 (.un .not (.t 5)),
 ro 2 (.ai (.t 6))] (some [2])) .ret
def U5 : J := .seq (.ae [ro 1 (.di 47 (.t 0)),
 ro 2 (.ai (.c (.bool false)))] (some [1])) U4
theorem U6 : bQ ⟨7, [0]⟩ (Try.f75.body.getD .skip) = some U5.strip := by kernel_rfl
def U7 : J := .seq (.ae [ro 17 (.ag (.t 5)),
 ro 4 (.ai (.t 17))] (some [4])) .ret
def U8 : J := .cond (.t 16) U7 .skip
def U9 : J := .seq (.ae [ro 11 (.ag (.t 1)),
 ro 12 (.ag (.t 0)),
 ro 13 (.ag (.t 5)),
 ro 14 (.bX 27 (.t 12) (.t 13)),
 ro 15 (.aM 47 (.t 14)),
 ro 16 (.call (.t 11) [(.t 15)])] (some [0, 1, 5, 7, 8, 16])) U8
def U_ : J := .ae [ro 18 (.aB .add 3 (.t 8) (.c (.int .i64 1))),
 ro 8 (.ag (.t 18))] (some [0, 1, 7, 8])
def Va : J := .seq (.block 1 (.seq (.ae [ro 10 (.ag (.t 8)),
 ro 5 (.ai (.t 10))] (some [0, 1, 5, 7, 8])) U9)) U_
def Vb : J := .seq (.cond (.t 9) .skip (.exit 0)) Va
def Hs : J := .seq (.ae [ro 9 (.aB .lss 3 (.t 8) (.t 7))] (some [0, 1, 7, 8, 9])) Vb
def Vc : J := .block 0 (.loop Hs)
def Vd : J := .seq (.ae [ro 4 (.ai (.c (.int .i64 (-1))))] (some [4])) .ret
def Ve : J := .seq (.seq (.ae [ro 6 (.ag (.t 0)),
 ro 7 (.len 27 (.t 6)),
 ro 8 (.ag (.c (.int .i64 0)))] (some [0, 1, 7, 8])) Vc) Vd
def Vf : J := .seq (.ae [ro 4 (.ai (.c (.int .i64 0)))] (some [0, 1])) Ve
theorem Vg : bQ ⟨19, [0, 1]⟩ (Try.f77.body.getD .skip) = some Vf.strip := by kernel_rfl
def Vh : J := .seq (.ae [ro 5 (.ag (.t 0)),
 ro 6 (.ag (.t 1)),
 ro 7 (.call (.f 77) [(.t 5), (.t 6)]),
 ro 8 (.aB .geq 3 (.t 7) (.c (.int .i64 0))),
 ro 4 (.ai (.t 8))] (some [4])) .ret
def Vi : J := .seq (.ae [ro 4 (.ai (.c (.bool false)))] (some [0, 1])) Vh
theorem Vj : bQ ⟨9, [0, 1]⟩ (Try.f74.body.getD .skip) = some Vi.strip := by kernel_rfl
def Vk : J := .seq (.ae [ro 3 (.ag (.t 0)),
 ro 4 (.call (.f 74) [(.t 3), (.f 75)]),
 ro 5 (.un .not (.t 4)),
 ro 2 (.ai (.t 5))] (some [2])) .ret
def Vl : J := .seq (.ae [ro 2 (.ai (.c (.bool false)))] (some [0])) Vk
theorem Vm : bQ ⟨6, [0]⟩ (Try.f50.body.getD .skip) = some Vl.strip := by kernel_rfl
def Vn : J := .seq (.ae [ro 3 (.ag (.t 0)),
 ro 4 (.aB .geq 5 (.t 3) (.c (.int .u8 48))),
 ro 5 (.ag (.t 4)),
 ⟨some 6, .ag (.t 0), some (5, true)⟩,
 ⟨some 7, .aB .leq 5 (.t 6) (.c (.int .u8 57)), some (5, true)⟩,
 ro 8 (.pick (.t 5) (.t 7) (.c (.bool false))),
 ro 2 (.ai (.t 8))] (some [2])) .ret
def Vo : J := .seq (.ae [ro 2 (.ai (.c (.bool false)))] (some [0])) Vn
theorem Vp : bQ ⟨9, [0]⟩ (Try.f76.body.getD .skip) = some Vo.strip := by kernel_rfl
def Vq : J := .seq (.ae [ro 2 (.ai (.c (.bool false)))] (some [2])) .ret
def Vr : J := .cond (.t 32) Vq .skip
def Vs : J := .seq (.ae [ro 20 (.ag (.t 4)),
 ro 21 (.un .not (.t 20)),
 ro 22 (.ag (.t 21)),
 ⟨some 23, .ag (.t 3), some (22, true)⟩,
 ⟨some 24, .aB .eql 3 (.t 23) (.c (.int .i64 0)), some (22, true)⟩,
 ⟨some 25, .ag (.t 24), some (22, true)⟩,
 ⟨some 26, .ag (.t 0), some (25, false)⟩,
 ⟨some 27, .ag (.t 3), some (25, false)⟩,
 ⟨some 28, .idx 9 (.t 26) (.t 27), some (25, false)⟩,
 ⟨some 29, .call (.f 76) [(.t 28)], some (25, false)⟩,
 ⟨some 30, .un .not (.t 29), some (25, false)⟩,
 ⟨some 31, .pick (.t 25) (.c (.bool true)) (.t 30), some (22, true)⟩,
 ro 32 (.pick (.t 22) (.t 31) (.c (.bool false)))] (some [0, 6, 7, 32])) Vr
def Vt : J := .seq (.ae [ro 10 (.ag (.t 0)),
 ro 11 (.ag (.t 3)),
 ro 12 (.idx 9 (.t 10) (.t 11)),
 ro 13 (.aB .geq 5 (.t 12) (.c (.int .u8 97))),
 ro 14 (.ag (.t 13)),
 ⟨some 15, .ag (.t 0), some (14, true)⟩,
 ⟨some 16, .ag (.t 3), some (14, true)⟩,
 ⟨some 17, .idx 9 (.t 15) (.t 16), some (14, true)⟩,
 ⟨some 18, .aB .leq 5 (.t 17) (.c (.int .u8 122)), some (14, true)⟩,
 ro 19 (.pick (.t 14) (.t 18) (.c (.bool false))),
 ro 4 (.ai (.t 19))] (some [0, 3, 4, 6, 7])) Vs
def Vu : J := .ae [ro 33 (.aB .add 3 (.t 7) (.c (.int .i64 1))),
 ro 7 (.ag (.t 33))] (some [0, 6, 7])
def Vv : J := .seq (.block 1 (.seq (.ae [ro 9 (.ag (.t 7)),
 ro 3 (.ai (.t 9))] (some [0, 3, 6, 7])) Vt)) Vu
def Vw : J := .seq (.cond (.t 8) .skip (.exit 0)) Vv
def Ht : J := .seq (.ae [ro 8 (.aB .lss 3 (.t 7) (.t 6))] (some [0, 6, 7, 8])) Vw
def Vx : J := .block 0 (.loop Ht)
def Vy : J := .seq (.ae [ro 34 (.ag (.t 0)),
 ro 35 (.len 9 (.t 34)),
 ro 36 (.aB .geq 3 (.t 35) (.c (.int .i64 1))),
 ro 37 (.ag (.t 36)),
 ⟨some 38, .ag (.t 0), some (37, true)⟩,
 ⟨some 39, .len 9 (.t 38), some (37, true)⟩,
 ⟨some 40, .aB .leq 3 (.t 39) (.c (.int .i64 10)), some (37, true)⟩,
 ro 41 (.pick (.t 37) (.t 40) (.c (.bool false))),
 ro 2 (.ai (.t 41))] (some [2])) .ret
def Vz : J := .seq (.seq (.ae [ro 5 (.ag (.t 0)),
 ro 6 (.len 9 (.t 5)),
 ro 7 (.ag (.c (.int .i64 0)))] (some [0, 6, 7])) Vx) Vy
def VA : J := .seq (.ae [ro 2 (.ai (.c (.bool false)))] (some [0])) Vz
theorem VB : bQ ⟨42, [0]⟩ (Try.f51.body.getD .skip) = some VA.strip := by kernel_rfl
def VC : J := .seq (.ae [ro 4 (.bc 47 (.t 2) 0),
 ro 5 (.aM 9 (.t 4)),
 ro 6 (.aM 9 (.t 1)),
 ro 7 (.aB .eql 9 (.t 5) (.t 6)),
 ro 3 (.ai (.t 7))] (some [3])) .ret
def VD : J := .seq (.ae [ro 2 (.di 47 (.t 0)),
 ro 3 (.ai (.c (.bool false)))] (some [1, 2])) VC
theorem VE : bQ ⟨8, [0, 1]⟩ (Try.f78.body.getD .skip) = some VD.strip := by kernel_rfl
def VF : J := .seq (.ae [ro 17 (.ag (.t 5)),
 ro 4 (.ai (.t 17))] (some [4])) .ret
def VG : J := .cond (.t 16) VF .skip
def VH : J := .seq (.ae [ro 11 (.ag (.t 1)),
 ro 12 (.ag (.t 0)),
 ro 13 (.ag (.t 5)),
 ro 14 (.bX 27 (.t 12) (.t 13)),
 ro 15 (.aM 47 (.t 14)),
 ro 16 (.call (.t 11) [(.t 15)])] (some [0, 1, 5, 7, 8, 16])) VG
def VI : J := .ae [ro 18 (.aB .add 3 (.t 8) (.c (.int .i64 1))),
 ro 8 (.ag (.t 18))] (some [0, 1, 7, 8])
def VJ : J := .seq (.block 1 (.seq (.ae [ro 10 (.ag (.t 8)),
 ro 5 (.ai (.t 10))] (some [0, 1, 5, 7, 8])) VH)) VI
def VK : J := .seq (.cond (.t 9) .skip (.exit 0)) VJ
def Hu : J := .seq (.ae [ro 9 (.aB .lss 3 (.t 8) (.t 7))] (some [0, 1, 7, 8, 9])) VK
def VL : J := .block 0 (.loop Hu)
def VM : J := .seq (.ae [ro 4 (.ai (.c (.int .i64 (-1))))] (some [4])) .ret
def VN : J := .seq (.seq (.ae [ro 6 (.ag (.t 0)),
 ro 7 (.len 27 (.t 6)),
 ro 8 (.ag (.c (.int .i64 0)))] (some [0, 1, 7, 8])) VL) VM
def VO : J := .seq (.ae [ro 4 (.ai (.c (.int .i64 0)))] (some [0, 1])) VN
theorem VP : bQ ⟨19, [0, 1]⟩ (Try.f77.body.getD .skip) = some VO.strip := by kernel_rfl
def VQ : J := .seq (.ae [ro 5 (.ag (.t 0)),
 ro 6 (.hd 78 [(.t 3)]),
 ro 7 (.call (.f 77) [(.t 5), (.t 6)]),
 ro 4 (.ai (.t 7))] (some [4])) .ret
def VR : J := .seq (.ae [ro 3 (.di 9 (.t 1)),
 ro 4 (.ai (.c (.int .i64 0)))] (some [0, 3])) VQ
theorem uU : bQ ⟨8, [0, 1]⟩ (Try.f52.body.getD .skip) = some VR.strip := by kernel_rfl
def VS : J := .ae [ro 8 (.aB .eql 2 (.t 4) (.c (.int .i64 4))),
 ro 5 (.ai (.t 8))] (some [4, 5])
def VT : J := .cond (.t 5) .skip VS
def VU : J := .seq (.ae [ro 7 (.aB .eql 2 (.t 4) (.c (.int .i64 3))),
 ro 5 (.ai (.t 7))] (some [4, 5])) VT
def VV : J := .cond (.t 5) .skip VU
def VW : J := .seq (.ae [ro 2 (.ai (.c (.int .i64 1)))] (some [2])) .ret
def VX : J := .seq (.ae [ro 2 (.ai (.c (.int .i64 2)))] (some [2])) .ret
def VY : J := .cond (.t 9) VX .skip
def VZ : J := .seq (.ae [ro 10 (.aB .eql 2 (.t 4) (.c (.int .i64 2))),
 ro 9 (.ai (.t 10))] (some [9])) VY
def Hv : J := .cond (.t 5) VW VZ
def V0 : J := .block 0 (.seq (.seq (.ae [ro 6 (.aB .eql 2 (.t 4) (.c (.int .i64 1))),
 ro 5 (.ai (.t 6))] (some [4, 5])) VV) Hv)
def V1 : J := .seq (.ae [ro 2 (.ai (.c (.int .i64 0)))] (some [2])) .ret
def V2 : J := .seq (.seq (.ae [ro 3 (.bc 55 (.t 1) 0),
 ro 4 (.aM 2 (.t 3))] (some [4])) V0) V1
def V3 : J := .seq (.ae [ro 1 (.di 55 (.t 0)),
 ro 2 (.ai (.c (.int .i64 0)))] (some [1])) V2
theorem V4 : bQ ⟨11, [0]⟩ (Try.f104.body.getD .skip) = some V3.strip := by kernel_rfl
def V5 : J := .cond (.t 7) .skip (.exit 0)
def V6 : J := .seq (.ae [ro 4 (.ai (.c (.int .i64 (-1))))] (some [4])) .ret
def V7 : J := .cond (.t 14) V6 .skip
def V8 : J := .ae [ro 15 (.ag (.t 5)),
 ro 16 (.bc 47 (.t 2) 2),
 ro 17 (.aM 45 (.t 16)),
 ro 18 (.ag (.t 1)),
 ro 19 (.bX 45 (.t 17) (.t 18)),
 ro 20 (.aM 55 (.t 19)),
 ro 21 (.call (.f 104) [(.t 20)]),
 ro 22 (.aB .sub 3 (.t 21) (.c (.int .i64 1))),
 ro 23 (.aB .add 3 (.t 15) (.t 22)),
 ro 5 (.ai (.t 23))] (some [1, 2, 5])
def V9 : J := .ae [ro 8 (.ag (.t 1)),
 ro 9 (.aB .add 3 (.t 8) (.c (.int .i64 1))),
 ro 1 (.ai (.t 9))] (some [1, 2, 5])
def V_ : J := .seq (.block 1 (.seq (.seq (.ae [ro 10 (.ag (.t 1)),
 ro 11 (.bc 47 (.t 2) 2),
 ro 12 (.aM 45 (.t 11)),
 ro 13 (.len 45 (.t 12)),
 ro 14 (.aB .geq 3 (.t 10) (.t 13))] (some [1, 2, 5, 14])) V7) V8)) V9
def Hw : J := .seq (.seq (.ae [ro 6 (.ag (.t 5)),
 ro 7 (.aB .gtr 3 (.t 6) (.c (.int .i64 0)))] (some [1, 2, 5, 7])) V5) V_
def Wa : J := .block 0 (.loop Hw)
def Wb : J := .seq (.ae [ro 24 (.ag (.t 1)),
 ro 4 (.ai (.t 24))] (some [4])) .ret
def Wc : J := .seq (.seq (.ae [ro 5 (.ai (.c (.int .i64 1)))] (some [1, 2, 5])) Wa) Wb
def Wd : J := .seq (.ae [ro 2 (.di 47 (.t 0)),
 ro 4 (.ai (.c (.int .i64 0)))] (some [1, 2])) Wc
theorem We : bQ ⟨25, [0]⟩ (Try.f79.body.getD .skip) = some Wd.strip := by kernel_rfl
def Wf : J := .ae [ro 29 (.bc 114 (.t 9) 0),
 ro 30 (.aM 2 (.t 29)),
 ro 31 (.aB .add 2 (.t 30) (.c (.int .i64 1))),
 ro 32 (.bc 114 (.t 9) 0),
 ⟨none, .cP 2 (.t 32) (.t 31), none⟩] (some [0, 2, 3, 4, 8, 9])
def Wg : J := .cond (.t 28) Wf .skip
def Wh : J := .ae [ro 43 (.aB .add 3 (.t 37) (.c (.int .i64 1))),
 ro 37 (.ag (.t 43))] (some [2, 3, 4, 9, 10, 36, 37])
def Wi : J := .seq (.block 1 (.hy (Bi aN 105 4 2 39 ((List.range 3).map (· + 2)) [ro 40 (.ag (.t 10)), ro 41 (.aM 114 (.t 9))] [(.t 40), (.t 41)] (some 42) [ro 10 (.ai (.t 42))] [2, 3, 4, 9, 10, 36, 37]) (F5 139 4 39 [ro 40 (.ag (.t 10)), ro 41 (.aM 114 (.t 9))] [(.t 40), (.t 41)] (some 42) [ro 10 (.ai (.t 42))]))) Wh
def Wj : J := .seq (.cond (.t 38) .skip (.exit 0)) Wi
def Hx : J := .seq (.ae [ro 38 (.aB .lss 3 (.t 37) (.t 36))] (some [2, 3, 4, 9, 10, 36, 37, 38])) Wj
def Wk : J := .block 0 (.loop Hx)
def Wl : J := .seq (.ae [ro 44 (.ag (.t 10)),
 ro 7 (.ai (.t 44))] (some [2, 3, 4, 7])) .ret
def Wm : J := .seq (.seq (.ae [ro 35 (.aM 55 (.t 8)),
 ro 36 (.call (.f 104) [(.t 35)]),
 ro 37 (.ag (.c (.int .i64 0)))] (some [2, 3, 4, 9, 10, 36, 37])) Wk) Wl
def Hy : J := .seq (.ae [ro 33 (.ag (.t 0)),
 ro 34 (.aB .add 3 (.t 33) (.c (.int .i64 1))),
 ro 10 (.ai (.t 34))] (some [2, 3, 4, 8, 9, 10])) Wm
def Wn : J := .seq (.seq (.ae [ro 26 (.bc 55 (.t 8) 0),
 ro 27 (.aM 2 (.t 26)),
 ro 28 (.aB .eql 2 (.t 27) (.c (.int .i64 4)))] (some [0, 2, 3, 4, 8, 9, 28])) Wg) Hy
def Wo : J := .seq (.ae [ro 20 (.bc 114 (.t 6) 0),
 ro 21 (.aM 2 (.t 20)),
 ro 22 (.bc 55 (.t 8) 0),
 ro 23 (.aM 2 (.t 22)),
 ro 24 (.aB .eql 2 (.t 23) (.c (.int .i64 1))),
 ro 25 (.eQ 114 [(0, (.t 21)), (1, (.t 24))]),
 ro 9 (.dS 114),
 ⟨none, .cP 114 (.t 9) (.t 25), none⟩] (some [0, 2, 3, 4, 8, 9])) Wn
def Wp : J := .seq (.ae [ro 15 (.bc 47 (.t 3) 2),
 ro 16 (.aM 45 (.t 15)),
 ro 17 (.ag (.t 0)),
 ro 18 (.bX 45 (.t 16) (.t 17)),
 ro 19 (.aM 55 (.t 18)),
 ro 8 (.dS 55),
 ⟨none, .cP 55 (.t 8) (.t 19), none⟩] (some [0, 2, 3, 4, 6, 8])) Wo
def Wq : J := .seq (.ae [ro 11 (.aM 110 (.t 2)),
 ro 12 (.ag (.t 0)),
 ro 13 (.aM 114 (.t 6)),
 ro 14 (.bX 110 (.t 11) (.t 12)),
 ⟨none, .cP 114 (.t 14) (.t 13), none⟩] (some [0, 2, 3, 4, 6])) Wp
def Hz : J := .seq (.ae [ro 6 (.di 114 (.t 1)),
 ro 7 (.ai (.c (.int .i64 0)))] (some [0, 2, 3, 4, 6])) Wq
theorem Wr : Hz.kN (w4 aN 105 [0, 1, 2, 3, 4] 5 2 4) := And.intro (True.intro) (And.intro (True.intro) (And.intro (True.intro) (And.intro (True.intro) (And.intro (And.intro (True.intro) (And.intro (True.intro) (True.intro))) (And.intro (True.intro) (And.intro (And.intro (True.intro) (And.intro (True.intro) (And.intro (And.intro (True.intro) (True.intro)) (And.intro (⟨139, 2, 39, 3, _, _, _, _, _, rfl, rfl, (by kernel_rfl), rfl, rfl, rfl, rfl, rfl, rfl, rfl⟩) (True.intro))))) (And.intro (True.intro) (True.intro))))))))
theorem Ws : bQ ⟨45, [0, 1, 2, 3, 4]⟩ (Try.f105.body.getD .skip) = some Hz.strip := by kernel_rfl
def BX : J := .seq (.ae [ro 15 (.aM 110 (.t 3)),
 ro 2 (.ai (.t 15))] (some [2])) .ret
def Wt : J := .seq (.ae [ro 10 (.aM 139 (.t 4)),
 ro 11 (.bc 47 (.t 1) 1),
 ro 12 (.aM 2 (.t 11)),
 ro 13 (.eQ 114 [(0, (.t 12))]),
 ro 14 (.call (.t 10) [(.c (.int .i64 0)), (.t 13)])] (some [3])) BX
def ahP : J := .seq (.ae [ro 9 (.hd 105 [(.t 3), (.t 1), (.t 4)]),
 ⟨none, .cP 139 (.t 4) (.t 9), none⟩] (some [1, 3, 4])) Wt
def Wu : J := .hy (Bm aN 105 4 2 10 9 [3, 1, 4] [ro 11 (.bc 47 (.t 1) 1), ro 12 (.aM 2 (.t 11)), ro 13 (.eQ 114 [(0, (.t 12))])] [(.c (.int .i64 0)), (.t 13)] (some 14) [3] BX) (F_ 139 105 4 10 9 [3, 1, 4] [ro 11 (.bc 47 (.t 1) 1), ro 12 (.aM 2 (.t 11)), ro 13 (.eQ 114 [(0, (.t 12))])] [(.c (.int .i64 0)), (.t 13)] (some 14) BX.i3)
def Wv : J := .seq (.ae [ro 5 (.bc 47 (.t 1) 2),
 ro 6 (.aM 45 (.t 5)),
 ro 7 (.len 45 (.t 6)),
 ro 8 (.eG 110 (.t 7) (.t 7)),
 ro 3 (.dS 110),
 ⟨none, .cP 110 (.t 3) (.t 8), none⟩] (some [1, 3])) Wu
def HA : J := .seq (.ae [ro 1 (.di 47 (.t 0)),
 ro 2 (.ai (.c .bA))] (some [1])) Wv
theorem Ww : HA.kN (tT aN) := And.intro (True.intro) (And.intro (True.intro) (⟨139, 105, 4, 2, 10, 9, _, _, _, _, _, _, rfl, rfl, (by kernel_rfl), ⟨Try.t139, _, _, (by kernel_rfl), rfl, rfl, rfl, rfl⟩, rfl, rfl, rfl, rfl, (by kernel_rfl)⟩))
theorem Wx : bQ ⟨16, [0]⟩ (Try.f80.body.getD .skip) = some HA.strip := by kernel_rfl
def Wy : J := .seq (.ae [ro 26 (.bc 55 (.t 1) 0),
 ro 27 (.aM 2 (.t 26)),
 ro 28 (.call (.f 49) [(.t 27), (.c (.int .i64 0)), (.c (.int .i64 5))]),
 ro 29 (.ag (.t 28)),
 ⟨some 30, .ag (.t 3), some (29, true)⟩,
 ⟨some 31, .ag (.t 30), some (29, true)⟩,
 ⟨some 32, .bc 55 (.t 1) 1, some (31, false)⟩,
 ⟨some 33, .aM 2 (.t 32), some (31, false)⟩,
 ⟨some 34, .aB .eql 2 (.t 33) (.c (.int .i64 0)), some (31, false)⟩,
 ⟨some 35, .pick (.t 31) (.c (.bool true)) (.t 34), some (29, true)⟩,
 ro 36 (.pick (.t 29) (.t 35) (.c (.bool false))),
 ro 37 (.ag (.t 36)),
 ⟨some 38, .bc 55 (.t 1) 0, some (37, true)⟩,
 ⟨some 39, .aM 2 (.t 38), some (37, true)⟩,
 ⟨some 40, .aB .eql 2 (.t 39) (.c (.int .i64 1)), some (37, true)⟩,
 ⟨some 41, .ag (.t 40), some (37, true)⟩,
 ⟨some 42, .bc 55 (.t 1) 2, some (41, false)⟩,
 ⟨some 43, .aM 9 (.t 42), some (41, false)⟩,
 ⟨some 44, .aB .eql 9 (.t 43) (.c (.str [])), some (41, false)⟩,
 ⟨some 45, .pick (.t 41) (.c (.bool true)) (.t 44), some (37, true)⟩,
 ro 46 (.pick (.t 37) (.t 45) (.c (.bool false))),
 ro 47 (.ag (.t 46)),
 ⟨some 48, .ag (.t 4), some (47, true)⟩,
 ⟨some 49, .ag (.t 48), some (47, true)⟩,
 ⟨some 50, .bc 55 (.t 1) 3, some (49, false)⟩,
 ⟨some 51, .aM 53 (.t 50), some (49, false)⟩,
 ⟨some 52, .len 53 (.t 51), some (49, false)⟩,
 ⟨some 53, .aB .eql 3 (.t 52) (.c (.int .i64 0)), some (49, false)⟩,
 ⟨some 54, .pick (.t 49) (.c (.bool true)) (.t 53), some (47, true)⟩,
 ro 55 (.pick (.t 47) (.t 54) (.c (.bool false))),
 ro 2 (.ai (.t 55))] (some [2])) .ret
def Wz : J := .seq (.ae [ro 13 (.bc 55 (.t 1) 0),
 ro 14 (.aM 2 (.t 13)),
 ro 15 (.aB .eql 2 (.t 14) (.c (.int .i64 1))),
 ro 16 (.ag (.t 15)),
 ⟨some 17, .bc 55 (.t 1) 0, some (16, false)⟩,
 ⟨some 18, .aM 2 (.t 17), some (16, false)⟩,
 ⟨some 19, .aB .eql 2 (.t 18) (.c (.int .i64 3)), some (16, false)⟩,
 ro 20 (.pick (.t 16) (.c (.bool true)) (.t 19)),
 ro 21 (.ag (.t 20)),
 ⟨some 22, .bc 55 (.t 1) 0, some (21, false)⟩,
 ⟨some 23, .aM 2 (.t 22), some (21, false)⟩,
 ⟨some 24, .aB .eql 2 (.t 23) (.c (.int .i64 5)), some (21, false)⟩,
 ro 25 (.pick (.t 21) (.c (.bool true)) (.t 24)),
 ro 4 (.ai (.t 25))] (some [1, 3, 4])) Wy
def WA : J := .seq (.ae [ro 5 (.bc 55 (.t 1) 0),
 ro 6 (.aM 2 (.t 5)),
 ro 7 (.aB .eql 2 (.t 6) (.c (.int .i64 4))),
 ro 8 (.ag (.t 7)),
 ⟨some 9, .bc 55 (.t 1) 0, some (8, false)⟩,
 ⟨some 10, .aM 2 (.t 9), some (8, false)⟩,
 ⟨some 11, .aB .eql 2 (.t 10) (.c (.int .i64 5)), some (8, false)⟩,
 ro 12 (.pick (.t 8) (.c (.bool true)) (.t 11)),
 ro 3 (.ai (.t 12))] (some [1, 3])) Wz
def WB : J := .seq (.ae [ro 1 (.di 55 (.t 0)),
 ro 2 (.ai (.c (.bool false)))] (some [1])) WA
theorem WC : bQ ⟨56, [0]⟩ (Try.f106.body.getD .skip) = some WB.strip := by kernel_rfl
def WD : J := .seq (.ae [ro 3 (.ag (.t 0)),
 ro 4 (.call (.f 51) [(.t 3)]),
 ro 5 (.ag (.t 4)),
 ⟨some 6, .ag (.t 0), some (5, true)⟩,
 ⟨some 7, .aB .neq 9 (.t 6) (.c (.str [116, 97, 117])), some (5, true)⟩,
 ro 8 (.pick (.t 5) (.t 7) (.c (.bool false))),
 ro 2 (.ai (.t 8))] (some [2])) .ret
def WE : J := .seq (.ae [ro 2 (.ai (.c (.bool false)))] (some [0])) WD
theorem WG : bQ ⟨9, [0]⟩ (Try.f107.body.getD .skip) = some WE.strip := by kernel_rfl
def WH : J := .seq (.ae [ro 5 (.ag (.t 0)),
 ro 6 (.ag (.t 1)),
 ro 7 (.aB .sub 2 (.t 6) (.c (.int .i64 1))),
 ro 8 (.call (.f 49) [(.t 5), (.c (.int .i64 0)), (.t 7)]),
 ro 4 (.ai (.t 8))] (some [4])) .ret
def WI : J := .seq (.ae [ro 4 (.ai (.c (.bool false)))] (some [0, 1])) WH
theorem WJ : bQ ⟨9, [0, 1]⟩ (Try.f37.body.getD .skip) = some WI.strip := by kernel_rfl
def WK : J := .seq (.ae [ro 13 (.ag (.t 5)),
 ro 14 (.aB .eql 3 (.t 13) (.c (.int .i64 0))),
 ro 15 (.ag (.t 14)),
 ⟨some 16, .bc 55 (.t 2) 2, some (15, false)⟩,
 ⟨some 17, .aM 9 (.t 16), some (15, false)⟩,
 ⟨some 18, .aB .neq 9 (.t 17) (.c (.str [116, 97, 117])), some (15, false)⟩,
 ⟨some 19, .ag (.t 18), some (15, false)⟩,
 ⟨some 20, .ag (.t 5), some (19, true)⟩,
 ⟨some 21, .aB .leq 3 (.t 20) (.c (.int .i64 2)), some (19, true)⟩,
 ⟨some 22, .pick (.t 19) (.t 21) (.c (.bool false)), some (15, false)⟩,
 ro 23 (.pick (.t 15) (.c (.bool true)) (.t 22)),
 ro 4 (.ai (.t 23))] (some [4])) .ret
def WL : J := .seq (.ae [ro 26 (.ag (.t 5)),
 ro 27 (.aB .eql 3 (.t 26) (.c (.int .i64 1))),
 ro 4 (.ai (.t 27))] (some [4])) .ret
def WM : J := .seq (.ae [ro 30 (.ag (.t 5)),
 ro 31 (.ag (.t 1)),
 ro 32 (.bc 55 (.t 2) 1),
 ro 33 (.aM 2 (.t 32)),
 ro 34 (.bX 27 (.t 31) (.t 33)),
 ro 35 (.bc 47 (.t 34) 1),
 ro 36 (.aM 2 (.t 35)),
 ro 37 (.aB .eql 2 (.t 30) (.t 36)),
 ro 4 (.ai (.t 37))] (some [4])) .ret
def WN : J := .cond (.t 28) WM .skip
def WO : J := .seq (.ae [ro 29 (.aB .eql 2 (.t 10) (.c (.int .i64 5))),
 ro 28 (.ai (.t 29))] (some [1, 2, 5, 28])) WN
def WQ : J := .cond (.t 24) WL WO
def WR : J := .seq (.ae [ro 25 (.aB .eql 2 (.t 10) (.c (.int .i64 3))),
 ro 24 (.ai (.t 25))] (some [1, 2, 5, 10, 24])) WQ
def WS : J := .cond (.t 11) WK WR
def WT : J := .block 0 (.seq (.ae [ro 12 (.aB .eql 2 (.t 10) (.c (.int .i64 1))),
 ro 11 (.ai (.t 12))] (some [1, 2, 5, 10, 11])) WS)
def WU : J := .seq (.ae [ro 4 (.ai (.c (.bool true)))] (some [4])) .ret
def WV : J := .seq (.seq (.ae [ro 9 (.bc 55 (.t 2) 0),
 ro 10 (.aM 2 (.t 9))] (some [1, 2, 5, 10])) WT) WU
def WW : J := .seq (.ae [ro 6 (.bc 55 (.t 2) 3),
 ro 7 (.aM 53 (.t 6)),
 ro 8 (.len 53 (.t 7)),
 ro 5 (.ai (.t 8))] (some [1, 2, 5])) WV
def WX : J := .seq (.ae [ro 2 (.di 55 (.t 0)),
 ro 4 (.ai (.c (.bool false)))] (some [1, 2])) WW
theorem WY : bQ ⟨38, [0, 1]⟩ (Try.f108.body.getD .skip) = some WX.strip := by kernel_rfl
def WZ : J := .seq (.ae [ro 3 (.ag (.t 0)),
 ro 4 (.call (.f 49) [(.t 3), (.c (.int .i64 0)), (.c (.int .i64 63))]),
 ro 2 (.ai (.t 4))] (some [2])) .ret
def W0 : J := .seq (.ae [ro 2 (.ai (.c (.bool false)))] (some [0])) WZ
theorem W1 : bQ ⟨5, [0]⟩ (Try.f127.body.getD .skip) = some W0.strip := by kernel_rfl
def W2 : J := .seq (.ae [ro 9 (.bc 123 (.t 2) 1),
 ro 10 (.aM 2 (.t 9)),
 ro 11 (.call (.f 127) [(.t 10)]),
 ro 4 (.ai (.t 11))] (some [4])) .ret
def W3 : J := .seq (.ae [ro 14 (.bc 123 (.t 2) 1),
 ro 15 (.aM 2 (.t 14)),
 ro 16 (.ag (.t 1)),
 ro 17 (.aB .sub 2 (.t 16) (.c (.int .i64 1))),
 ro 18 (.call (.f 49) [(.t 15), (.c (.int .i64 0)), (.t 17)]),
 ro 4 (.ai (.t 18))] (some [4])) .ret
def W4 : J := .seq (.ae [ro 21 (.bc 123 (.t 2) 1),
 ro 22 (.aM 2 (.t 21)),
 ro 23 (.call (.f 49) [(.t 22), (.c (.int .i64 0)), (.c (.int .i64 8))]),
 ro 4 (.ai (.t 23))] (some [4])) .ret
def W5 : J := .seq (.ae [ro 26 (.bc 123 (.t 2) 1),
 ro 27 (.aM 2 (.t 26)),
 ro 28 (.aB .eql 2 (.t 27) (.c (.int .i64 0))),
 ro 4 (.ai (.t 28))] (some [4])) .ret
def W6 : J := .cond (.t 24) W5 .skip
def W7 : J := .seq (.ae [ro 25 (.aB .eql 2 (.t 6) (.c (.int .i64 3))),
 ro 24 (.ai (.t 25))] (some [2, 24])) W6
def W8 : J := .cond (.t 19) W4 W7
def W9 : J := .seq (.ae [ro 20 (.aB .eql 2 (.t 6) (.c (.int .i64 2))),
 ro 19 (.ai (.t 20))] (some [2, 6, 19])) W8
def W_ : J := .cond (.t 12) W3 W9
def Xa : J := .seq (.ae [ro 13 (.aB .eql 2 (.t 6) (.c (.int .i64 1))),
 ro 12 (.ai (.t 13))] (some [1, 2, 6, 12])) W_
def Xb : J := .cond (.t 7) W2 Xa
def Xc : J := .block 0 (.seq (.ae [ro 8 (.aB .eql 2 (.t 6) (.c (.int .i64 0))),
 ro 7 (.ai (.t 8))] (some [1, 2, 6, 7])) Xb)
def Xd : J := .seq (.ae [ro 4 (.ai (.c (.bool false)))] (some [4])) .ret
def Xe : J := .seq (.seq (.ae [ro 5 (.bc 123 (.t 2) 0),
 ro 6 (.aM 2 (.t 5))] (some [1, 2, 6])) Xc) Xd
def Xf : J := .seq (.ae [ro 2 (.di 123 (.t 0)),
 ro 4 (.ai (.c (.bool false)))] (some [1, 2])) Xe
theorem Xg : bQ ⟨29, [0, 1]⟩ (Try.f123.body.getD .skip) = some Xf.strip := by kernel_rfl
def Xh : J := .seq (.ae [ro 2 (.ai (.c (.int .i64 2)))] (some [2])) .ret
def Xi : J := .seq (.ae [ro 2 (.ai (.c (.int .i64 1)))] (some [2])) .ret
def Xj : J := .cond (.t 7) Xi .skip
def Xk : J := .seq (.ae [ro 8 (.aB .eql 2 (.t 4) (.c (.int .i64 3))),
 ro 7 (.ai (.t 8))] (some [7])) Xj
def Xl : J := .cond (.t 5) Xh Xk
def Xm : J := .block 0 (.seq (.ae [ro 6 (.aB .eql 2 (.t 4) (.c (.int .i64 2))),
 ro 5 (.ai (.t 6))] (some [4, 5])) Xl)
def Xn : J := .seq (.ae [ro 2 (.ai (.c (.int .i64 0)))] (some [2])) .ret
def Xo : J := .seq (.seq (.ae [ro 3 (.bc 123 (.t 1) 0),
 ro 4 (.aM 2 (.t 3))] (some [4])) Xm) Xn
def Xp : J := .seq (.ae [ro 1 (.di 123 (.t 0)),
 ro 2 (.ai (.c (.int .i64 0)))] (some [1])) Xo
theorem Xq : bQ ⟨9, [0]⟩ (Try.f124.body.getD .skip) = some Xp.strip := by kernel_rfl
def Xr : J := .seq (.ae [ro 6 (.ai (.c (.bool false)))] (some [6])) .ret
def Xs : J := .cond (.t 24) Xr .skip
def Xt : J := .seq (.ae [ro 6 (.ai (.c (.bool false)))] (some [6])) .ret
def Xu : J := .cond (.t 38) Xt .skip
def Xv : J := .ae [ro 39 (.ag (.t 7)),
 ro 40 (.aM 123 (.t 9)),
 ro 41 (.call (.f 124) [(.t 40)]),
 ro 42 (.aB .sub 3 (.t 41) (.c (.int .i64 1))),
 ro 43 (.aB .add 3 (.t 39) (.t 42)),
 ro 7 (.ai (.t 43))] (some [1, 7, 25, 26, 27])
def Xw : J := .seq (.seq (.ae [ro 31 (.ag (.t 7)),
 ro 32 (.aB .eql 3 (.t 31) (.c (.int .i64 0))),
 ro 33 (.ag (.t 32)),
 ⟨some 34, .aM 123 (.t 9), some (33, false)⟩,
 ⟨some 35, .ag (.t 1), some (33, false)⟩,
 ⟨some 36, .call (.f 123) [(.t 34), (.t 35)], some (33, false)⟩,
 ⟨some 37, .un .not (.t 36), some (33, false)⟩,
 ro 38 (.pick (.t 33) (.c (.bool true)) (.t 37))] (some [1, 7, 9, 25, 26, 27, 38])) Xu) Xv
def Xx : J := .ae [ro 44 (.aB .add 3 (.t 27) (.c (.int .i64 1))),
 ro 27 (.ag (.t 44))] (some [1, 7, 25, 26, 27])
def Xy : J := .seq (.block 1 (.seq (.ae [ro 29 (.bX 87 (.t 25) (.t 27)),
 ro 30 (.aM 123 (.t 29)),
 ro 9 (.dS 123),
 ⟨none, .cP 123 (.t 9) (.t 30), none⟩] (some [1, 7, 9, 25, 26, 27])) Xw)) Xx
def Xz : J := .seq (.cond (.t 28) .skip (.exit 0)) Xy
def HB : J := .seq (.ae [ro 28 (.aB .lss 3 (.t 27) (.t 26))] (some [1, 7, 25, 26, 27, 28])) Xz
def XA : J := .block 0 (.loop HB)
def XB : J := .seq (.ae [ro 45 (.ag (.t 7)),
 ro 46 (.aB .eql 3 (.t 45) (.c (.int .i64 0))),
 ro 6 (.ai (.t 46))] (some [6])) .ret
def XC : J := .seq (.seq (.ae [ro 25 (.ag (.t 0)),
 ro 26 (.len 87 (.t 25)),
 ro 27 (.ag (.c (.int .i64 0)))] (some [1, 7, 25, 26, 27])) XA) XB
def XD : J := .seq (.ae [ro 7 (.ai (.c (.int .i64 1)))] (some [0, 1, 7])) XC
def XE : J := .seq (.seq (.ae [ro 10 (.ag (.t 1)),
 ro 11 (.call (.f 49) [(.t 10), (.c (.int .i64 0)), (.c (.int .i64 29))]),
 ro 12 (.un .not (.t 11)),
 ro 13 (.ag (.t 12)),
 ⟨some 14, .ag (.t 2), some (13, false)⟩,
 ⟨some 15, .call (.f 49) [(.t 14), (.c (.int .i64 1)), (.c (.int .i64 60))], some (13, false)⟩,
 ⟨some 16, .un .not (.t 15), some (13, false)⟩,
 ro 17 (.pick (.t 13) (.c (.bool true)) (.t 16)),
 ro 18 (.ag (.t 17)),
 ⟨some 19, .ag (.t 0), some (18, false)⟩,
 ⟨some 20, .len 87 (.t 19), some (18, false)⟩,
 ⟨some 21, .ag (.t 2), some (18, false)⟩,
 ⟨some 22, .call (.f 49) [(.t 20), (.c (.int .i64 1)), (.t 21)], some (18, false)⟩,
 ⟨some 23, .un .not (.t 22), some (18, false)⟩,
 ro 24 (.pick (.t 18) (.c (.bool true)) (.t 23))] (some [0, 1, 24])) Xs) XD
def XF : J := .seq (.ae [ro 6 (.ai (.c (.bool false)))] (some [0, 1, 2])) XE
theorem XG : bQ ⟨47, [0, 1, 2]⟩ (Try.f111.body.getD .skip) = some XF.strip := by kernel_rfl
def XH : J := .seq (.ae [ro 4 (.ag (.t 0)),
 ro 5 (.bc 114 (.t 1) 0),
 ro 6 (.aM 2 (.t 5)),
 ro 7 (.call (.f 111) [(.t 4), (.t 6), (.c (.int .i64 15))]),
 ro 8 (.un .not (.t 7)),
 ro 3 (.ai (.t 8))] (some [3])) .ret
def XI : J := .seq (.ae [ro 3 (.ai (.c (.bool false)))] (some [0, 1])) XH
theorem XJ : bQ ⟨9, [0, 1]⟩ (Try.f110.body.getD .skip) = some XI.strip := by kernel_rfl
def XK : J := .seq (.ae [ro 17 (.ag (.t 5)),
 ro 4 (.ai (.t 17))] (some [4])) .ret
def XL : J := .cond (.t 16) XK .skip
def XM : J := .seq (.ae [ro 11 (.ag (.t 1)),
 ro 12 (.ag (.t 0)),
 ro 13 (.ag (.t 5)),
 ro 14 (.bX 53 (.t 12) (.t 13)),
 ro 15 (.aM 87 (.t 14)),
 ro 16 (.call (.t 11) [(.t 15)])] (some [0, 1, 5, 7, 8, 16])) XL
def XN : J := .ae [ro 18 (.aB .add 3 (.t 8) (.c (.int .i64 1))),
 ro 8 (.ag (.t 18))] (some [0, 1, 7, 8])
def XO : J := .seq (.block 1 (.seq (.ae [ro 10 (.ag (.t 8)),
 ro 5 (.ai (.t 10))] (some [0, 1, 5, 7, 8])) XM)) XN
def XP : J := .seq (.cond (.t 9) .skip (.exit 0)) XO
def HC : J := .seq (.ae [ro 9 (.aB .lss 3 (.t 8) (.t 7))] (some [0, 1, 7, 8, 9])) XP
def XQ : J := .block 0 (.loop HC)
def XR : J := .seq (.ae [ro 4 (.ai (.c (.int .i64 (-1))))] (some [4])) .ret
def XS : J := .seq (.seq (.ae [ro 6 (.ag (.t 0)),
 ro 7 (.len 53 (.t 6)),
 ro 8 (.ag (.c (.int .i64 0)))] (some [0, 1, 7, 8])) XQ) XR
def XT : J := .seq (.ae [ro 4 (.ai (.c (.int .i64 0)))] (some [0, 1])) XS
theorem XU : bQ ⟨19, [0, 1]⟩ (Try.f122.body.getD .skip) = some XT.strip := by kernel_rfl
def XV : J := .seq (.ae [ro 5 (.ag (.t 0)),
 ro 6 (.ag (.t 1)),
 ro 7 (.call (.f 122) [(.t 5), (.t 6)]),
 ro 8 (.aB .geq 3 (.t 7) (.c (.int .i64 0))),
 ro 4 (.ai (.t 8))] (some [4])) .ret
def XW : J := .seq (.ae [ro 4 (.ai (.c (.bool false)))] (some [0, 1])) XV
theorem XX : bQ ⟨9, [0, 1]⟩ (Try.f109.body.getD .skip) = some XW.strip := by kernel_rfl
def XY : J := .seq (.ae [ro 6 (.ai (.c (.int .i64 2)))] (some [6])) .ret
def XZ : J := .seq (.ae [ro 6 (.ai (.c (.int .i64 3)))] (some [6])) .ret
def X0 : J := .seq (.ae [ro 6 (.ai (.c (.int .i64 4)))] (some [6])) .ret
def X1 : J := .seq (.ae [ro 6 (.ai (.c (.int .i64 5)))] (some [6])) .ret
def X2 : J := .seq (.ae [ro 6 (.ai (.c (.int .i64 6)))] (some [6])) .ret
def X3 : J := .seq (.ae [ro 6 (.ai (.c (.int .i64 7)))] (some [6])) .ret
def X4 : J := .seq (.ae [ro 6 (.ai (.c (.int .i64 8)))] (some [6])) .ret
def X5 : J := .cond (.t 72) X4 .skip
def X6 : J := .seq (.ae [ro 73 (.bc 55 (.t 3) 3),
 ro 74 (.aM 53 (.t 73)),
 ro 75 (.hd 110 [(.t 5)]),
 ro 76 (.call (.f 109) [(.t 74), (.t 75)]),
 ro 72 (.ai (.t 76))] (some [72])) X5
def X7 : J := .cond (.t 63) X3 X6
def X8 : J := .seq (.ae [ro 64 (.bc 55 (.t 3) 0),
 ro 65 (.aM 2 (.t 64)),
 ro 66 (.aB .eql 2 (.t 65) (.c (.int .i64 4))),
 ro 67 (.ag (.t 66)),
 ⟨some 68, .bc 114 (.t 5) 0, some (67, true)⟩,
 ⟨some 69, .aM 2 (.t 68), some (67, true)⟩,
 ⟨some 70, .aB .geq 2 (.t 69) (.c (.int .i64 6)), some (67, true)⟩,
 ro 71 (.pick (.t 67) (.t 70) (.c (.bool false))),
 ro 63 (.ai (.t 71))] (some [3, 5, 63])) X7
def X9 : J := .cond (.t 54) X2 X8
def X_ : J := .seq (.ae [ro 55 (.bc 55 (.t 3) 0),
 ro 56 (.aM 2 (.t 55)),
 ro 57 (.aB .eql 2 (.t 56) (.c (.int .i64 5))),
 ro 58 (.ag (.t 57)),
 ⟨some 59, .bc 114 (.t 5) 1, some (58, true)⟩,
 ⟨some 60, .aM 4 (.t 59), some (58, true)⟩,
 ⟨some 61, .un .not (.t 60), some (58, true)⟩,
 ro 62 (.pick (.t 58) (.t 61) (.c (.bool false))),
 ro 54 (.ai (.t 62))] (some [3, 5, 54])) X9
def Ya : J := .cond (.t 49) X1 X_
def Yb : J := .seq (.ae [ro 50 (.aM 55 (.t 3)),
 ro 51 (.ag (.t 1)),
 ro 52 (.call (.f 108) [(.t 50), (.t 51)]),
 ro 53 (.un .not (.t 52)),
 ro 49 (.ai (.t 53))] (some [3, 5, 49])) Ya
def HD : J := .cond (.t 26) X0 Yb
def Yc : J := .seq (.ae [ro 27 (.bc 55 (.t 3) 0),
 ro 28 (.aM 2 (.t 27)),
 ro 29 (.aB .eql 2 (.t 28) (.c (.int .i64 4))),
 ro 30 (.ag (.t 29)),
 ⟨some 31, .bc 55 (.t 3) 1, some (30, true)⟩,
 ⟨some 32, .aM 2 (.t 31), some (30, true)⟩,
 ⟨some 33, .call (.f 49) [(.t 32), (.c (.int .i64 1)), (.c (.int .i64 7))], some (30, true)⟩,
 ⟨some 34, .un .not (.t 33), some (30, true)⟩,
 ro 35 (.pick (.t 30) (.t 34) (.c (.bool false))),
 ro 36 (.ag (.t 35)),
 ⟨some 37, .bc 55 (.t 3) 0, some (36, false)⟩,
 ⟨some 38, .aM 2 (.t 37), some (36, false)⟩,
 ⟨some 39, .aB .eql 2 (.t 38) (.c (.int .i64 5)), some (36, false)⟩,
 ⟨some 40, .ag (.t 39), some (36, false)⟩,
 ⟨some 41, .bc 55 (.t 3) 1, some (40, true)⟩,
 ⟨some 42, .aM 2 (.t 41), some (40, true)⟩,
 ⟨some 43, .ag (.t 1), some (40, true)⟩,
 ⟨some 44, .len 27 (.t 43), some (40, true)⟩,
 ⟨some 45, .call (.f 37) [(.t 42), (.t 44)], some (40, true)⟩,
 ⟨some 46, .un .not (.t 45), some (40, true)⟩,
 ⟨some 47, .pick (.t 40) (.t 46) (.c (.bool false)), some (36, false)⟩,
 ro 48 (.pick (.t 36) (.c (.bool true)) (.t 47)),
 ro 26 (.ai (.t 48))] (some [1, 3, 5, 26])) HD
def HE : J := .cond (.t 11) XZ Yc
def Yd : J := .seq (.ae [ro 12 (.bc 55 (.t 3) 0),
 ro 13 (.aM 2 (.t 12)),
 ro 14 (.aB .eql 2 (.t 13) (.c (.int .i64 1))),
 ro 15 (.ag (.t 14)),
 ⟨some 16, .bc 55 (.t 3) 2, some (15, true)⟩,
 ⟨some 17, .aM 9 (.t 16), some (15, true)⟩,
 ⟨some 18, .aB .neq 9 (.t 17) (.c (.str [116, 97, 117])), some (15, true)⟩,
 ro 19 (.pick (.t 15) (.t 18) (.c (.bool false))),
 ro 20 (.ag (.t 19)),
 ⟨some 21, .bc 55 (.t 3) 2, some (20, true)⟩,
 ⟨some 22, .aM 9 (.t 21), some (20, true)⟩,
 ⟨some 23, .call (.f 107) [(.t 22)], some (20, true)⟩,
 ⟨some 24, .un .not (.t 23), some (20, true)⟩,
 ro 25 (.pick (.t 20) (.t 24) (.c (.bool false))),
 ro 11 (.ai (.t 25))] (some [1, 3, 5, 11])) HE
def Ye : J := .cond (.t 7) XY Yd
def Yf : J := .seq (.ae [ro 6 (.ai (.c (.int .i64 0)))] (some [6])) .ret
def Yg : J := .seq (.block 0 (.seq (.ae [ro 8 (.aM 55 (.t 3)),
 ro 9 (.call (.f 106) [(.t 8)]),
 ro 10 (.un .not (.t 9)),
 ro 7 (.ai (.t 10))] (some [1, 3, 5, 7])) Ye)) Yf
def Yh : J := .seq (.ae [ro 3 (.di 55 (.t 0)),
 ro 5 (.di 114 (.t 2)),
 ro 6 (.ai (.c (.int .i64 0)))] (some [1, 3, 5])) Yg
theorem Yi : bQ ⟨77, [0, 1, 2]⟩ (Try.f81.body.getD .skip) = some Yh.strip := by kernel_rfl
def Yj : J := .seq (.ae [ro 4 (.ai (.c (.int .i64 0))),
 ro 5 (.ai (.c (.int .i64 1)))] (some [4, 5])) .ret
def Yk : J := .cond (.t 22) Yj .skip
def Yl : J := .seq (.ae [ro 42 (.ag (.t 7)),
 ro 43 (.ag (.t 9)),
 ro 4 (.ai (.t 42)),
 ro 5 (.ai (.t 43))] (some [4, 5])) .ret
def Ym : J := .cond (.t 41) Yl .skip
def Yn : J := .seq (.ae [ro 40 (.ag (.t 9)),
 ro 41 (.aB .neq 2 (.t 40) (.c (.int .i64 0)))] (some [0, 6, 7, 9, 26, 27, 28, 41])) Ym
def Yo : J := .seq (.hK [ro 33 (.aM 55 (.t 8)),
 ro 34 (.ag (.t 0)),
 ro 35 (.ag (.t 6)),
 ro 36 (.ag (.t 7)),
 ro 37 (.bX 110 (.t 35) (.t 36)),
 ro 38 (.aM 114 (.t 37)),
 ro 39 (.call (.f 81) [(.t 33), (.t 34), (.t 38)]),
 ro 9 (.ai (.t 39))] [[], [], [], [], [2, 3], [4], [0, 1, 5], [6, 6, 0, 1, 2, 3, 4, 5, 6]] (some [0, 6, 7, 9, 26, 27, 28])) Yn
def Yp : J := .ae [ro 44 (.aB .add 3 (.t 28) (.c (.int .i64 1))),
 ro 28 (.ag (.t 44))] (some [0, 6, 26, 27, 28])
def Yq : J := .seq (.block 1 (.seq (.ae [ro 30 (.ag (.t 28)),
 ro 31 (.bX 45 (.t 26) (.t 28)),
 ro 32 (.aM 55 (.t 31)),
 ro 8 (.dS 55),
 ro 7 (.ai (.t 30)),
 ⟨none, .cP 55 (.t 8) (.t 32), none⟩] (some [0, 6, 7, 8, 26, 27, 28])) Yo)) Yp
def Yr : J := .seq (.cond (.t 29) .skip (.exit 0)) Yq
def HF : J := .seq (.ae [ro 29 (.aB .lss 3 (.t 28) (.t 27))] (some [0, 6, 26, 27, 28, 29])) Yr
def Ys : J := .block 0 (.loop HF)
def Yt : J := .seq (.ae [ro 4 (.ai (.c (.int .i64 0))),
 ro 5 (.ai (.c (.int .i64 0)))] (some [4, 5])) .ret
def Yu : J := .seq (.seq (.ae [ro 25 (.bc 47 (.t 3) 2),
 ro 26 (.aM 45 (.t 25)),
 ro 27 (.len 45 (.t 26)),
 ro 28 (.ag (.c (.int .i64 0)))] (some [0, 6, 26, 27, 28])) Ys) Yt
def Yv : J := .seq (.ae [ro 23 (.aM 47 (.t 3)),
 ro 24 (.call (.f 80) [(.t 23)]),
 ro 6 (.ai (.t 24))] (some [0, 3, 6])) Yu
def Yw : J := .seq (.seq (.hK [ro 10 (.bc 47 (.t 3) 2),
 ro 11 (.aM 45 (.t 10)),
 ro 12 (.len 45 (.t 11)),
 ro 13 (.call (.f 49) [(.t 12), (.c (.int .i64 1)), (.c (.int .i64 20))]),
 ro 14 (.un .not (.t 13)),
 ro 15 (.ag (.t 14)),
 ⟨some 16, .aM 47 (.t 3), some (15, false)⟩,
 ⟨some 17, .call (.f 79) [(.t 16), (.c (.int .i64 0))], some (15, false)⟩,
 ⟨some 18, .bc 47 (.t 3) 2, some (15, false)⟩,
 ⟨some 19, .aM 45 (.t 18), some (15, false)⟩,
 ⟨some 20, .len 45 (.t 19), some (15, false)⟩,
 ⟨some 21, .aB .neq 3 (.t 17) (.t 20), some (15, false)⟩,
 ro 22 (.pick (.t 15) (.c (.bool true)) (.t 21))] [[], [0], [1], [2], [3], [4, 3], [5], [6, 5, 5], [5], [8, 5], [9, 5], [7, 10, 5], [5, 11]] (some [0, 3, 22])) Yk) Yv
def Yx : J := .seq (.ae [ro 3 (.di 47 (.t 1)),
 ro 4 (.ai (.c (.int .i64 0))),
 ro 5 (.ai (.c (.int .i64 0)))] (some [0, 3])) Yw
theorem uV : bQ ⟨45, [0, 1]⟩ (Try.f53.body.getD .skip) = some Yx.strip := by kernel_rfl
def Yy : J := .seq (.ae [ro 2 (.ai (.c (.bool false)))] (some [2])) .ret
def Yz : J := .cond (.t 15) Yy .skip
def YA : J := .seq (.ae [ro 2 (.ai (.c (.bool false)))] (some [2])) .ret
def YB : J := .cond (.t 35) YA .skip
def YC : J := .seq (.ae [ro 2 (.ai (.c (.bool false)))] (some [2])) .ret
def YD : J := .cond (.t 43) YC .skip
def YE : J := .seq (.ae [ro 42 (.ag (.t 6)),
 ro 43 (.aB .neq 2 (.t 42) (.c (.int .i64 0)))] (some [0, 16, 17, 18, 43])) YD
def YF : J := .seq (.ae [ro 37 (.ag (.t 0)),
 ro 38 (.aM 47 (.t 4)),
 ro 39 (.call (.f 53) [(.t 37), (.t 38)]),
 ro 36 (.ag (.t 39)),
 ro 40 (.ex (.t 36) 0),
 ro 41 (.ex (.t 36) 1),
 ro 5 (.ai (.t 40)),
 ro 6 (.ai (.t 41))] (some [0, 6, 16, 17, 18])) YE
def YG : J := .seq (.seq (.hK [ro 23 (.bc 47 (.t 4) 0),
 ro 24 (.aM 9 (.t 23)),
 ro 25 (.call (.f 51) [(.t 24)]),
 ro 26 (.un .not (.t 25)),
 ro 27 (.ag (.t 26)),
 ⟨some 28, .ag (.t 0), some (27, false)⟩,
 ⟨some 29, .ag (.t 3), some (27, false)⟩,
 ⟨some 30, .ed 27 (.t 28) none (some (.t 29)), some (27, false)⟩,
 ⟨some 31, .bc 47 (.t 4) 0, some (27, false)⟩,
 ⟨some 32, .aM 9 (.t 31), some (27, false)⟩,
 ⟨some 33, .call (.f 52) [(.t 30), (.t 32)], some (27, false)⟩,
 ⟨some 34, .aB .geq 3 (.t 33) (.c (.int .i64 0)), some (27, false)⟩,
 ro 35 (.pick (.t 27) (.c (.bool true)) (.t 34))] [[], [0], [1], [2], [3, 2], [4], [4], [5, 6, 4], [4], [8, 4], [7, 9, 4, 4], [10, 4], [4, 11]] (some [0, 4, 16, 17, 18, 35])) YB) YF
def YH : J := .ae [ro 44 (.aB .add 3 (.t 18) (.c (.int .i64 1))),
 ro 18 (.ag (.t 44))] (some [0, 16, 17, 18])
def YI : J := .seq (.block 1 (.seq (.ae [ro 20 (.ag (.t 18)),
 ro 21 (.bX 27 (.t 16) (.t 18)),
 ro 22 (.aM 47 (.t 21)),
 ro 4 (.dS 47),
 ro 3 (.ai (.t 20)),
 ⟨none, .cP 47 (.t 4) (.t 22), none⟩] (some [0, 3, 4, 16, 17, 18])) YG)) YH
def YJ : J := .seq (.cond (.t 19) .skip (.exit 0)) YI
def HG : J := .seq (.ae [ro 19 (.aB .lss 3 (.t 18) (.t 17))] (some [0, 16, 17, 18, 19])) YJ
def YK : J := .block 0 (.loop HG)
def YL : J := .seq (.ae [ro 2 (.ai (.c (.bool true)))] (some [2])) .ret
def YM : J := .seq (.seq (.ae [ro 16 (.ag (.t 0)),
 ro 17 (.len 27 (.t 16)),
 ro 18 (.ag (.c (.int .i64 0)))] (some [0, 16, 17, 18])) YK) YL
def YN : J := .seq (.seq (.ae [ro 7 (.ag (.t 0)),
 ro 8 (.len 27 (.t 7)),
 ro 9 (.call (.f 49) [(.t 8), (.c (.int .i64 1)), (.c (.int .i64 4))]),
 ro 10 (.un .not (.t 9)),
 ro 11 (.ag (.t 10)),
 ⟨some 12, .ag (.t 0), some (11, false)⟩,
 ⟨some 13, .call (.f 50) [(.t 12)], some (11, false)⟩,
 ⟨some 14, .un .not (.t 13), some (11, false)⟩,
 ro 15 (.pick (.t 11) (.c (.bool true)) (.t 14))] (some [0, 15])) Yz) YM
def YO : J := .seq (.ae [ro 2 (.ai (.c (.bool false)))] (some [0])) YN
theorem mS : bQ ⟨45, [0]⟩ (Try.f36.body.getD .skip) = some YO.strip := by kernel_rfl
def YP : J := .seq (.ae [ro 6 (.ai (.c (.int .i64 1)))] (some [6])) .ret
def YQ : J := .seq (.ae [ro 6 (.ai (.c (.int .i64 2)))] (some [6])) .ret
def YR : J := .cond (.t 11) YQ .skip
def YS : J := .seq (.ae [ro 12 (.ag (.t 1)),
 ro 13 (.ag (.t 0)),
 ro 14 (.len 27 (.t 13)),
 ro 15 (.call (.f 37) [(.t 12), (.t 14)]),
 ro 16 (.un .not (.t 15)),
 ro 17 (.ag (.t 16)),
 ⟨some 18, .ag (.t 2), some (17, false)⟩,
 ⟨some 19, .ag (.t 0), some (17, false)⟩,
 ⟨some 20, .ag (.t 1), some (17, false)⟩,
 ⟨some 21, .bX 27 (.t 19) (.t 20), some (17, false)⟩,
 ⟨some 22, .bc 47 (.t 21) 2, some (17, false)⟩,
 ⟨some 23, .aM 45 (.t 22), some (17, false)⟩,
 ⟨some 24, .len 45 (.t 23), some (17, false)⟩,
 ⟨some 25, .call (.f 37) [(.t 18), (.t 24)], some (17, false)⟩,
 ⟨some 26, .un .not (.t 25), some (17, false)⟩,
 ro 27 (.pick (.t 17) (.c (.bool true)) (.t 26)),
 ro 11 (.ai (.t 27))] (some [11])) YR
def YT : J := .cond (.t 7) YP YS
def YU : J := .seq (.ae [ro 6 (.ai (.c (.int .i64 0)))] (some [6])) .ret
def YV : J := .seq (.block 0 (.seq (.ae [ro 8 (.ag (.t 0)),
 ro 9 (.call (.f 36) [(.t 8)]),
 ro 10 (.un .not (.t 9)),
 ro 7 (.ai (.t 10))] (some [0, 1, 2, 7])) YT)) YU
def YW : J := .seq (.ae [ro 6 (.ai (.c (.int .i64 0)))] (some [0, 1, 2])) YV
theorem qC : bQ ⟨28, [0, 1, 2]⟩ (Try.f23.body.getD .skip) = some YW.strip := by kernel_rfl
def YX : J := .seq (.ae [ro 15 (.ag (.t 6)),
 ro 4 (.ai (.c .bA)),
 ro 5 (.ai (.t 15))] (some [4, 5])) .ret
def YY : J := .cond (.t 14) YX .skip
def YZ : J := .seq (.ae [ro 13 (.ag (.t 6)),
 ro 14 (.aB .neq 2 (.t 13) (.c (.int .i64 0)))] (some [0, 1, 6, 14])) YY
def Y0 : J := .ae [ro 34 (.ag (.t 7)),
 ro 35 (.bc 55 (.t 9) 2),
 ro 36 (.aM 9 (.t 35)),
 ro 37 (.dN 34 1 [(0, (.t 36))]),
 ro 38 (.app 34 34 (.t 34) (.t 37)),
 ro 7 (.ai (.t 38))] (some [7, 20, 21, 22])
def Y1 : J := .cond (.t 33) Y0 .skip
def Y2 : J := .seq (.ae [ro 26 (.bc 55 (.t 9) 0),
 ro 27 (.aM 2 (.t 26)),
 ro 28 (.aB .eql 2 (.t 27) (.c (.int .i64 1))),
 ro 29 (.ag (.t 28)),
 ⟨some 30, .bc 55 (.t 9) 2, some (29, true)⟩,
 ⟨some 31, .aM 9 (.t 30), some (29, true)⟩,
 ⟨some 32, .aB .neq 9 (.t 31) (.c (.str [116, 97, 117])), some (29, true)⟩,
 ro 33 (.pick (.t 29) (.t 32) (.c (.bool false)))] (some [7, 9, 20, 21, 22, 33])) Y1
def HH : J := .ae [ro 39 (.aB .add 3 (.t 22) (.c (.int .i64 1))),
 ro 22 (.ag (.t 39))] (some [7, 20, 21, 22])
def Y3 : J := .seq (.block 1 (.seq (.ae [ro 24 (.bX 45 (.t 20) (.t 22)),
 ro 25 (.aM 55 (.t 24)),
 ro 9 (.dS 55),
 ⟨none, .cP 55 (.t 9) (.t 25), none⟩] (some [7, 9, 20, 21, 22])) Y2)) HH
def Y4 : J := .seq (.cond (.t 23) .skip (.exit 0)) Y3
def HI : J := .seq (.ae [ro 23 (.aB .lss 3 (.t 22) (.t 21))] (some [7, 20, 21, 22, 23])) Y4
def Y5 : J := .block 0 (.loop HI)
def Y6 : J := .seq (.ae [ro 42 (.ag (.t 7)),
 ro 43 (.call (.f 30) [(.t 42)]),
 ro 4 (.ai (.t 43)),
 ro 5 (.ai (.c (.int .i64 0)))] (some [4, 5])) .ret
def Y7 : J := .seq (.ae [ro 40 (.ag (.t 7)),
 ro 41 (.call (.f 29) [(.t 40)])] (some [7])) Y6
def Y8 : J := .seq (.seq (.ae [ro 16 (.ag (.t 0)),
 ro 17 (.ag (.t 1)),
 ro 18 (.bX 27 (.t 16) (.t 17)),
 ro 19 (.bc 47 (.t 18) 2),
 ro 20 (.aM 45 (.t 19)),
 ro 21 (.len 45 (.t 20)),
 ro 22 (.ag (.c (.int .i64 0)))] (some [7, 20, 21, 22])) Y5) Y7
def Y9 : J := .seq (.ae [ro 7 (.ai (.c .bA))] (some [0, 1, 7])) Y8
def Y_ : J := .seq (.seq (.ae [ro 10 (.ag (.t 0)),
 ro 11 (.ag (.t 1)),
 ro 12 (.call (.f 23) [(.t 10), (.t 11), (.c (.int .i64 0))]),
 ro 6 (.ai (.t 12))] (some [0, 1, 6])) YZ) Y9
def Za : J := .seq (.ae [ro 4 (.ai (.c .bA)),
 ro 5 (.ai (.c (.int .i64 0)))] (some [0, 1])) Y_
theorem ss : bQ ⟨44, [0, 1]⟩ (Try.f15.body.getD .skip) = some Za.strip := by kernel_rfl
def Zb : J := .seq (.ae [ro 4 (.ai (.c (.bool false)))] (some [4])) .ret
def Zc : J := .cond (.t 10) Zb .skip
def Zd : J := .cond (.t 14) .skip (.exit 0)
def Ze : J := .seq (.ae [ro 4 (.ai (.c (.bool false)))] (some [4])) .ret
def Zf : J := .cond (.t 25) Ze .skip
def Zg : J := .ae [ro 15 (.ag (.t 5)),
 ro 16 (.aB .add 3 (.t 15) (.c (.int .i64 1))),
 ro 5 (.ai (.t 16))] (some [0, 1, 5])
def Zh : J := .seq (.block 1 (.seq (.hK [ro 17 (.ag (.t 0)),
 ro 18 (.ag (.t 5)),
 ro 19 (.bX 34 (.t 17) (.t 18)),
 ro 20 (.aM 9 (.t 19)),
 ro 21 (.ag (.t 1)),
 ro 22 (.ag (.t 5)),
 ro 23 (.bX 34 (.t 21) (.t 22)),
 ro 24 (.aM 9 (.t 23)),
 ro 25 (.aB .neq 9 (.t 20) (.t 24))] [[], [], [0, 1], [2], [], [], [4, 5], [6], [3, 7]] (some [0, 1, 5, 25])) Zf)) Zg
def HJ : J := .seq (.seq (.ae [ro 11 (.ag (.t 5)),
 ro 12 (.ag (.t 0)),
 ro 13 (.len 34 (.t 12)),
 ro 14 (.aB .lss 3 (.t 11) (.t 13))] (some [0, 1, 5, 14])) Zd) Zh
def Zi : J := .block 0 (.loop HJ)
def Zj : J := .seq (.ae [ro 4 (.ai (.c (.bool true)))] (some [4])) .ret
def Zk : J := .seq (.seq (.ae [ro 5 (.ai (.c (.int .i64 0)))] (some [0, 1, 5])) Zi) Zj
def Zl : J := .seq (.seq (.ae [ro 6 (.ag (.t 0)),
 ro 7 (.len 34 (.t 6)),
 ro 8 (.ag (.t 1)),
 ro 9 (.len 34 (.t 8)),
 ro 10 (.aB .neq 3 (.t 7) (.t 9))] (some [0, 1, 10])) Zc) Zk
def Zm : J := .seq (.ae [ro 4 (.ai (.c (.bool false)))] (some [0, 1])) Zl
theorem qD : bQ ⟨26, [0, 1]⟩ (Try.f16.body.getD .skip) = some Zm.strip := by kernel_rfl
def Zn : J := .seq (.ae [ro 4 (.ai (.c (.bool false)))] (some [4])) .ret
def Zo : J := .cond (.t 9) Zn .skip
def Zp : J := .seq (.ae [ro 4 (.ai (.c (.bool false)))] (some [4])) .ret
def Zq : J := .cond (.t 14) Zp .skip
def Zr : J := .seq (.ae [ro 4 (.ai (.c (.bool true)))] (some [4])) .ret
def Zs : J := .seq (.seq (.ae [ro 10 (.bc 123 (.t 2) 1),
 ro 11 (.aM 2 (.t 10)),
 ro 12 (.bc 123 (.t 3) 1),
 ro 13 (.aM 2 (.t 12)),
 ro 14 (.aB .neq 2 (.t 11) (.t 13))] (some [14])) Zq) Zr
def Zt : J := .seq (.seq (.ae [ro 5 (.bc 123 (.t 2) 0),
 ro 6 (.aM 2 (.t 5)),
 ro 7 (.bc 123 (.t 3) 0),
 ro 8 (.aM 2 (.t 7)),
 ro 9 (.aB .neq 2 (.t 6) (.t 8))] (some [2, 3, 9])) Zo) Zs
def Zu : J := .seq (.ae [ro 2 (.di 123 (.t 0)),
 ro 3 (.di 123 (.t 1)),
 ro 4 (.ai (.c (.bool false)))] (some [2, 3])) Zt
theorem Zv : bQ ⟨15, [0, 1]⟩ (Try.f126.body.getD .skip) = some Zu.strip := by kernel_rfl
def Zw : J := .seq (.ae [ro 4 (.ai (.c (.bool false)))] (some [4])) .ret
def Zx : J := .cond (.t 10) Zw .skip
def Zy : J := .cond (.t 14) .skip (.exit 0)
def Zz : J := .seq (.ae [ro 4 (.ai (.c (.bool false)))] (some [4])) .ret
def ZA : J := .cond (.t 26) Zz .skip
def ZB : J := .ae [ro 15 (.ag (.t 5)),
 ro 16 (.aB .add 3 (.t 15) (.c (.int .i64 1))),
 ro 5 (.ai (.t 16))] (some [0, 1, 5])
def ZC : J := .seq (.block 1 (.seq (.hK [ro 17 (.ag (.t 0)),
 ro 18 (.ag (.t 5)),
 ro 19 (.bX 87 (.t 17) (.t 18)),
 ro 20 (.aM 123 (.t 19)),
 ro 21 (.ag (.t 1)),
 ro 22 (.ag (.t 5)),
 ro 23 (.bX 87 (.t 21) (.t 22)),
 ro 24 (.aM 123 (.t 23)),
 ro 25 (.call (.f 126) [(.t 20), (.t 24)]),
 ro 26 (.un .not (.t 25))] [[], [], [0, 1], [2], [], [], [4, 5], [6], [3, 7], [8]] (some [0, 1, 5, 26])) ZA)) ZB
def HK : J := .seq (.seq (.ae [ro 11 (.ag (.t 5)),
 ro 12 (.ag (.t 0)),
 ro 13 (.len 87 (.t 12)),
 ro 14 (.aB .lss 3 (.t 11) (.t 13))] (some [0, 1, 5, 14])) Zy) ZC
def ZD : J := .block 0 (.loop HK)
def ZE : J := .seq (.ae [ro 4 (.ai (.c (.bool true)))] (some [4])) .ret
def ZF : J := .seq (.seq (.ae [ro 5 (.ai (.c (.int .i64 0)))] (some [0, 1, 5])) ZD) ZE
def ZG : J := .seq (.seq (.ae [ro 6 (.ag (.t 0)),
 ro 7 (.len 87 (.t 6)),
 ro 8 (.ag (.t 1)),
 ro 9 (.len 87 (.t 8)),
 ro 10 (.aB .neq 3 (.t 7) (.t 9))] (some [0, 1, 10])) Zx) ZF
def ZH : J := .seq (.ae [ro 4 (.ai (.c (.bool false)))] (some [0, 1])) ZG
theorem ZI : bQ ⟨27, [0, 1]⟩ (Try.f116.body.getD .skip) = some ZH.strip := by kernel_rfl
def ZJ : J := .seq (.ae [ro 4 (.ai (.c (.bool false)))] (some [4])) .ret
def ZK : J := .cond (.t 10) ZJ .skip
def ZL : J := .cond (.t 14) .skip (.exit 0)
def ZM : J := .seq (.ae [ro 4 (.ai (.c (.bool false)))] (some [4])) .ret
def ZN : J := .cond (.t 26) ZM .skip
def ZO : J := .ae [ro 15 (.ag (.t 5)),
 ro 16 (.aB .add 3 (.t 15) (.c (.int .i64 1))),
 ro 5 (.ai (.t 16))] (some [0, 1, 5])
def ZP : J := .seq (.block 1 (.seq (.hK [ro 17 (.ag (.t 0)),
 ro 18 (.ag (.t 5)),
 ro 19 (.bX 53 (.t 17) (.t 18)),
 ro 20 (.aM 87 (.t 19)),
 ro 21 (.ag (.t 1)),
 ro 22 (.ag (.t 5)),
 ro 23 (.bX 53 (.t 21) (.t 22)),
 ro 24 (.aM 87 (.t 23)),
 ro 25 (.call (.f 116) [(.t 20), (.t 24)]),
 ro 26 (.un .not (.t 25))] [[], [], [0, 1], [2], [], [], [4, 5], [6], [3, 7], [8]] (some [0, 1, 5, 26])) ZN)) ZO
def HL : J := .seq (.seq (.ae [ro 11 (.ag (.t 5)),
 ro 12 (.ag (.t 0)),
 ro 13 (.len 53 (.t 12)),
 ro 14 (.aB .lss 3 (.t 11) (.t 13))] (some [0, 1, 5, 14])) ZL) ZP
def ZQ : J := .block 0 (.loop HL)
def ZR : J := .seq (.ae [ro 4 (.ai (.c (.bool true)))] (some [4])) .ret
def ZS : J := .seq (.seq (.ae [ro 5 (.ai (.c (.int .i64 0)))] (some [0, 1, 5])) ZQ) ZR
def ZT : J := .seq (.seq (.ae [ro 6 (.ag (.t 0)),
 ro 7 (.len 53 (.t 6)),
 ro 8 (.ag (.t 1)),
 ro 9 (.len 53 (.t 8)),
 ro 10 (.aB .neq 3 (.t 7) (.t 9))] (some [0, 1, 10])) ZK) ZS
def ZU : J := .seq (.ae [ro 4 (.ai (.c (.bool false)))] (some [0, 1])) ZT
theorem ZV : bQ ⟨27, [0, 1]⟩ (Try.f91.body.getD .skip) = some ZU.strip := by kernel_rfl
def ZW : J := .seq (.ae [ro 4 (.ai (.c (.bool false)))] (some [4])) .ret
def ZX : J := .cond (.t 9) ZW .skip
def ZY : J := .seq (.ae [ro 4 (.ai (.c (.bool false)))] (some [4])) .ret
def ZZ : J := .cond (.t 14) ZY .skip
def Z0 : J := .seq (.ae [ro 4 (.ai (.c (.bool false)))] (some [4])) .ret
def Z1 : J := .cond (.t 19) Z0 .skip
def Z2 : J := .seq (.ae [ro 4 (.ai (.c (.bool false)))] (some [4])) .ret
def Z3 : J := .cond (.t 25) Z2 .skip
def Z4 : J := .seq (.ae [ro 4 (.ai (.c (.bool true)))] (some [4])) .ret
def Z5 : J := .seq (.seq (.ae [ro 20 (.bc 55 (.t 2) 3),
 ro 21 (.aM 53 (.t 20)),
 ro 22 (.bc 55 (.t 3) 3),
 ro 23 (.aM 53 (.t 22)),
 ro 24 (.call (.f 91) [(.t 21), (.t 23)]),
 ro 25 (.un .not (.t 24))] (some [25])) Z3) Z4
def Z6 : J := .seq (.seq (.ae [ro 15 (.bc 55 (.t 2) 2),
 ro 16 (.aM 9 (.t 15)),
 ro 17 (.bc 55 (.t 3) 2),
 ro 18 (.aM 9 (.t 17)),
 ro 19 (.aB .neq 9 (.t 16) (.t 18))] (some [2, 3, 19])) Z1) Z5
def Z7 : J := .seq (.seq (.ae [ro 10 (.bc 55 (.t 2) 1),
 ro 11 (.aM 2 (.t 10)),
 ro 12 (.bc 55 (.t 3) 1),
 ro 13 (.aM 2 (.t 12)),
 ro 14 (.aB .neq 2 (.t 11) (.t 13))] (some [2, 3, 14])) ZZ) Z6
def Z8 : J := .seq (.seq (.ae [ro 5 (.bc 55 (.t 2) 0),
 ro 6 (.aM 2 (.t 5)),
 ro 7 (.bc 55 (.t 3) 0),
 ro 8 (.aM 2 (.t 7)),
 ro 9 (.aB .neq 2 (.t 6) (.t 8))] (some [2, 3, 9])) ZX) Z7
def Z9 : J := .seq (.ae [ro 2 (.di 55 (.t 0)),
 ro 3 (.di 55 (.t 1)),
 ro 4 (.ai (.c (.bool false)))] (some [2, 3])) Z8
theorem Z_ : bQ ⟨26, [0, 1]⟩ (Try.f55.body.getD .skip) = some Z9.strip := by kernel_rfl
def aaa : J := .seq (.ae [ro 4 (.ai (.c (.bool false)))] (some [4])) .ret
def aab : J := .cond (.t 10) aaa .skip
def aac : J := .cond (.t 14) .skip (.exit 0)
def aad : J := .seq (.ae [ro 4 (.ai (.c (.bool false)))] (some [4])) .ret
def aae : J := .cond (.t 26) aad .skip
def aaf : J := .ae [ro 15 (.ag (.t 5)),
 ro 16 (.aB .add 3 (.t 15) (.c (.int .i64 1))),
 ro 5 (.ai (.t 16))] (some [0, 1, 5])
def aag : J := .seq (.block 1 (.seq (.hK [ro 17 (.ag (.t 0)),
 ro 18 (.ag (.t 5)),
 ro 19 (.bX 45 (.t 17) (.t 18)),
 ro 20 (.aM 55 (.t 19)),
 ro 21 (.ag (.t 1)),
 ro 22 (.ag (.t 5)),
 ro 23 (.bX 45 (.t 21) (.t 22)),
 ro 24 (.aM 55 (.t 23)),
 ro 25 (.call (.f 55) [(.t 20), (.t 24)]),
 ro 26 (.un .not (.t 25))] [[], [], [0, 1], [2], [], [], [4, 5], [6], [3, 7], [8]] (some [0, 1, 5, 26])) aae)) aaf
def HM : J := .seq (.seq (.ae [ro 11 (.ag (.t 5)),
 ro 12 (.ag (.t 0)),
 ro 13 (.len 45 (.t 12)),
 ro 14 (.aB .lss 3 (.t 11) (.t 13))] (some [0, 1, 5, 14])) aac) aag
def aah : J := .block 0 (.loop HM)
def aai : J := .seq (.ae [ro 4 (.ai (.c (.bool true)))] (some [4])) .ret
def aaj : J := .seq (.seq (.ae [ro 5 (.ai (.c (.int .i64 0)))] (some [0, 1, 5])) aah) aai
def aak : J := .seq (.seq (.ae [ro 6 (.ag (.t 0)),
 ro 7 (.len 45 (.t 6)),
 ro 8 (.ag (.t 1)),
 ro 9 (.len 45 (.t 8)),
 ro 10 (.aB .neq 3 (.t 7) (.t 9))] (some [0, 1, 10])) aab) aaj
def aal : J := .seq (.ae [ro 4 (.ai (.c (.bool false)))] (some [0, 1])) aak
theorem aam : bQ ⟨27, [0, 1]⟩ (Try.f40.body.getD .skip) = some aal.strip := by kernel_rfl
def aan : J := .seq (.ae [ro 4 (.ai (.c (.bool false)))] (some [4])) .ret
def aao : J := .cond (.t 9) aan .skip
def aap : J := .seq (.ae [ro 4 (.ai (.c (.bool false)))] (some [4])) .ret
def aaq : J := .cond (.t 14) aap .skip
def aar : J := .seq (.ae [ro 4 (.ai (.c (.bool false)))] (some [4])) .ret
def aas : J := .cond (.t 20) aar .skip
def aat : J := .seq (.ae [ro 4 (.ai (.c (.bool true)))] (some [4])) .ret
def aau : J := .seq (.seq (.ae [ro 15 (.bc 47 (.t 2) 2),
 ro 16 (.aM 45 (.t 15)),
 ro 17 (.bc 47 (.t 3) 2),
 ro 18 (.aM 45 (.t 17)),
 ro 19 (.call (.f 40) [(.t 16), (.t 18)]),
 ro 20 (.un .not (.t 19))] (some [20])) aas) aat
def aav : J := .seq (.seq (.ae [ro 10 (.bc 47 (.t 2) 1),
 ro 11 (.aM 2 (.t 10)),
 ro 12 (.bc 47 (.t 3) 1),
 ro 13 (.aM 2 (.t 12)),
 ro 14 (.aB .neq 2 (.t 11) (.t 13))] (some [2, 3, 14])) aaq) aau
def aaw : J := .seq (.seq (.ae [ro 5 (.bc 47 (.t 2) 0),
 ro 6 (.aM 9 (.t 5)),
 ro 7 (.bc 47 (.t 3) 0),
 ro 8 (.aM 9 (.t 7)),
 ro 9 (.aB .neq 9 (.t 6) (.t 8))] (some [2, 3, 9])) aao) aav
def aax : J := .seq (.ae [ro 2 (.di 47 (.t 0)),
 ro 3 (.di 47 (.t 1)),
 ro 4 (.ai (.c (.bool false)))] (some [2, 3])) aaw
theorem qE : bQ ⟨21, [0, 1]⟩ (Try.f25.body.getD .skip) = some aax.strip := by kernel_rfl
def aay : J := .seq (.ae [ro 4 (.ai (.c (.bool false)))] (some [4])) .ret
def aaz : J := .cond (.t 10) aay .skip
def aaA : J := .cond (.t 14) .skip (.exit 0)
def aaB : J := .seq (.ae [ro 4 (.ai (.c (.bool false)))] (some [4])) .ret
def aaC : J := .cond (.t 26) aaB .skip
def aaD : J := .ae [ro 15 (.ag (.t 5)),
 ro 16 (.aB .add 3 (.t 15) (.c (.int .i64 1))),
 ro 5 (.ai (.t 16))] (some [0, 1, 5])
def aaE : J := .seq (.block 1 (.seq (.hK [ro 17 (.ag (.t 0)),
 ro 18 (.ag (.t 5)),
 ro 19 (.bX 27 (.t 17) (.t 18)),
 ro 20 (.aM 47 (.t 19)),
 ro 21 (.ag (.t 1)),
 ro 22 (.ag (.t 5)),
 ro 23 (.bX 27 (.t 21) (.t 22)),
 ro 24 (.aM 47 (.t 23)),
 ro 25 (.call (.f 25) [(.t 20), (.t 24)]),
 ro 26 (.un .not (.t 25))] [[], [], [0, 1], [2], [], [], [4, 5], [6], [3, 7], [8]] (some [0, 1, 5, 26])) aaC)) aaD
def HN : J := .seq (.seq (.ae [ro 11 (.ag (.t 5)),
 ro 12 (.ag (.t 0)),
 ro 13 (.len 27 (.t 12)),
 ro 14 (.aB .lss 3 (.t 11) (.t 13))] (some [0, 1, 5, 14])) aaA) aaE
def aaF : J := .block 0 (.loop HN)
def aaG : J := .seq (.ae [ro 4 (.ai (.c (.bool true)))] (some [4])) .ret
def aaH : J := .seq (.seq (.ae [ro 5 (.ai (.c (.int .i64 0)))] (some [0, 1, 5])) aaF) aaG
def aaI : J := .seq (.seq (.ae [ro 6 (.ag (.t 0)),
 ro 7 (.len 27 (.t 6)),
 ro 8 (.ag (.t 1)),
 ro 9 (.len 27 (.t 8)),
 ro 10 (.aB .neq 3 (.t 7) (.t 9))] (some [0, 1, 10])) aaz) aaH
def aaJ : J := .seq (.ae [ro 4 (.ai (.c (.bool false)))] (some [0, 1])) aaI
theorem nr : bQ ⟨27, [0, 1]⟩ (Try.f10.body.getD .skip) = some aaJ.strip := by kernel_rfl
def aaK : J := .seq (.ae [ro 2 (.ai (.c (.str [109, 48])))] (some [2])) .ret
def aaL : J := .cond (.t 5) aaK .skip
def aaM : J := .cond (.t 7) .skip (.exit 0)
def aaN : J := .ae [ro 16 (.ag (.t 0)),
 ro 17 (.aB .quo 3 (.t 16) (.c (.int .i64 10))),
 ro 0 (.ai (.t 17))] (some [0, 3])
def aaO : J := .block 1 (.seq (.ae [ro 8 (.ag (.t 0)),
 ro 9 (.aB .rem 3 (.t 8) (.c (.int .i64 10))),
 ro 10 (.aB .add 3 (.c (.int .i64 48)) (.t 9)),
 ro 11 (.eP 3 5 (.t 10)),
 ro 12 (.dN 67 1 [(0, (.t 11))]),
 ro 13 (.eP 67 9 (.t 12)),
 ro 14 (.ag (.t 3)),
 ro 15 (.aB .add 9 (.t 13) (.t 14)),
 ro 3 (.ai (.t 15))] (some [0, 3])) aaN)
def HO : J := .seq (.seq (.ae [ro 6 (.ag (.t 0)),
 ro 7 (.aB .gtr 3 (.t 6) (.c (.int .i64 0)))] (some [0, 3, 7])) aaM) aaO
def aaP : J := .seq (.ae [ro 18 (.ag (.t 3)),
 ro 19 (.aB .add 9 (.c (.str [109])) (.t 18)),
 ro 2 (.ai (.t 19))] (some [2])) .ret
def aaQ : J := .seq (.block 0 (.loop HO)) aaP
def aaR : J := .seq (.ae [ro 3 (.ai (.c (.str [])))] (some [0, 3])) aaQ
def aaS : J := .seq (.seq (.ae [ro 4 (.ag (.t 0)),
 ro 5 (.aB .leq 3 (.t 4) (.c (.int .i64 0)))] (some [0, 5])) aaL) aaR
def aaT : J := .seq (.ae [ro 2 (.ai (.c (.str [])))] (some [0])) aaS
theorem aaU : bQ ⟨20, []⟩ (Try.f26.body.getD .skip) = some aaT.strip := by kernel_rfl
def aaV : J := .cond (.t 9) .skip (.exit 0)
def aaW : J := .ae [ro 24 (.ag (.t 1)),
 ro 25 (.aB .add 3 (.t 24) (.c (.int .i64 1))),
 ro 1 (.ai (.t 25))] (some [0, 1, 5])
def aaX : J := .seq (.ae [ro 19 (.ag (.t 0)),
 ro 20 (.ag (.t 5)),
 ro 21 (.ag (.t 1)),
 ro 22 (.bX 87 (.t 19) (.t 20)),
 ro 23 (.bc 123 (.t 22) 1),
 ⟨none, .cP 2 (.t 23) (.t 21), none⟩] (some [0, 1, 5])) aaW
def aaY : J := .seq (.ae [ro 17 (.ag (.t 1)),
 ro 18 (.aB .add 3 (.t 17) (.c (.int .i64 1))),
 ro 1 (.ai (.t 18))] (some [0, 1, 5])) aaX
def aaZ : J := .ae [ro 10 (.ag (.t 5)),
 ro 11 (.aB .add 3 (.t 10) (.c (.int .i64 1))),
 ro 5 (.ai (.t 11))] (some [0, 1, 5])
def aa0 : J := .seq (.block 1 (.seq (.ae [ro 12 (.ag (.t 0)),
 ro 13 (.ag (.t 5)),
 ro 14 (.ag (.t 1)),
 ro 15 (.bX 87 (.t 12) (.t 13)),
 ro 16 (.bc 123 (.t 15) 0),
 ⟨none, .cP 2 (.t 16) (.t 14), none⟩] (some [0, 1, 5])) aaY)) aaZ
def HP : J := .seq (.seq (.ae [ro 6 (.ag (.t 5)),
 ro 7 (.ag (.t 0)),
 ro 8 (.len 87 (.t 7)),
 ro 9 (.aB .lss 3 (.t 6) (.t 8))] (some [0, 1, 5, 9])) aaV) aa0
def aa1 : J := .block 0 (.loop HP)
def aa2 : J := .seq (.ae [ro 26 (.ag (.t 1)),
 ro 4 (.ai (.t 26))] (some [0, 4])) .ret
def aa3 : J := .seq (.seq (.ae [ro 5 (.ai (.c (.int .i64 0)))] (some [0, 1, 5])) aa1) aa2
def aa4 : J := .seq (.ae [ro 4 (.ai (.c (.int .i64 0)))] (some [0, 1])) aa3
theorem aa5 : bQ ⟨27, [0]⟩ (Try.f56.body.getD .skip) = some aa4.strip := by kernel_rfl
def aa6 : J := .cond (.t 9) .skip (.exit 0)
def aa7 : J := .ae [ro 10 (.ag (.t 5)),
 ro 11 (.aB .add 3 (.t 10) (.c (.int .i64 1))),
 ro 5 (.ai (.t 11))] (some [0, 1, 5])
def aa8 : J := .seq (.block 1 (.ae [ro 12 (.ag (.t 0)),
 ro 13 (.ag (.t 5)),
 ro 14 (.bX 53 (.t 12) (.t 13)),
 ro 15 (.aM 87 (.t 14)),
 ro 16 (.ag (.t 1)),
 ro 17 (.call (.f 56) [(.t 15), (.t 16)]),
 ro 1 (.ai (.t 17))] (some [0, 1, 5]))) aa7
def HQ : J := .seq (.seq (.ae [ro 6 (.ag (.t 5)),
 ro 7 (.ag (.t 0)),
 ro 8 (.len 53 (.t 7)),
 ro 9 (.aB .lss 3 (.t 6) (.t 8))] (some [0, 1, 5, 9])) aa6) aa8
def aa9 : J := .block 0 (.loop HQ)
def aa_ : J := .seq (.ae [ro 18 (.ag (.t 1)),
 ro 4 (.ai (.t 18))] (some [0, 4])) .ret
def aba : J := .seq (.seq (.ae [ro 5 (.ai (.c (.int .i64 0)))] (some [0, 1, 5])) aa9) aa_
def abb : J := .seq (.ae [ro 4 (.ai (.c (.int .i64 0)))] (some [0, 1])) aba
theorem abc : bQ ⟨19, [0]⟩ (Try.f41.body.getD .skip) = some abb.strip := by kernel_rfl
def abd : J := .cond (.t 9) .skip (.exit 0)
def abe : J := .ae [ro 34 (.ag (.t 0)),
 ro 35 (.ag (.t 5)),
 ro 36 (.bX 45 (.t 34) (.t 35)),
 ro 37 (.bc 55 (.t 36) 3),
 ro 38 (.aM 53 (.t 37)),
 ro 39 (.ag (.t 1)),
 ro 40 (.call (.f 41) [(.t 38), (.t 39)]),
 ro 1 (.ai (.t 40))] (some [0, 1, 5])
def abf : J := .seq (.ae [ro 32 (.ag (.t 1)),
 ro 33 (.aB .add 3 (.t 32) (.c (.int .i64 1))),
 ro 1 (.ai (.t 33))] (some [0, 1, 5])) abe
def abg : J := .seq (.ae [ro 26 (.ag (.t 0)),
 ro 27 (.ag (.t 5)),
 ro 28 (.ag (.t 1)),
 ro 29 (.call (.f 26) [(.t 28)]),
 ro 30 (.bX 45 (.t 26) (.t 27)),
 ro 31 (.bc 55 (.t 30) 2),
 ⟨none, .cP 9 (.t 31) (.t 29), none⟩] (some [0, 1, 5])) abf
def abh : J := .seq (.ae [ro 24 (.ag (.t 1)),
 ro 25 (.aB .add 3 (.t 24) (.c (.int .i64 1))),
 ro 1 (.ai (.t 25))] (some [0, 1, 5])) abg
def abi : J := .seq (.ae [ro 19 (.ag (.t 0)),
 ro 20 (.ag (.t 5)),
 ro 21 (.ag (.t 1)),
 ro 22 (.bX 45 (.t 19) (.t 20)),
 ro 23 (.bc 55 (.t 22) 1),
 ⟨none, .cP 2 (.t 23) (.t 21), none⟩] (some [0, 1, 5])) abh
def abj : J := .seq (.ae [ro 17 (.ag (.t 1)),
 ro 18 (.aB .add 3 (.t 17) (.c (.int .i64 1))),
 ro 1 (.ai (.t 18))] (some [0, 1, 5])) abi
def abk : J := .ae [ro 10 (.ag (.t 5)),
 ro 11 (.aB .add 3 (.t 10) (.c (.int .i64 1))),
 ro 5 (.ai (.t 11))] (some [0, 1, 5])
def abl : J := .seq (.block 1 (.seq (.ae [ro 12 (.ag (.t 0)),
 ro 13 (.ag (.t 5)),
 ro 14 (.ag (.t 1)),
 ro 15 (.bX 45 (.t 12) (.t 13)),
 ro 16 (.bc 55 (.t 15) 0),
 ⟨none, .cP 2 (.t 16) (.t 14), none⟩] (some [0, 1, 5])) abj)) abk
def HR : J := .seq (.seq (.ae [ro 6 (.ag (.t 5)),
 ro 7 (.ag (.t 0)),
 ro 8 (.len 45 (.t 7)),
 ro 9 (.aB .lss 3 (.t 6) (.t 8))] (some [0, 1, 5, 9])) abd) abl
def abm : J := .block 0 (.loop HR)
def abn : J := .seq (.ae [ro 41 (.ag (.t 1)),
 ro 4 (.ai (.t 41))] (some [0, 4])) .ret
def abo : J := .seq (.seq (.ae [ro 5 (.ai (.c (.int .i64 0)))] (some [0, 1, 5])) abm) abn
def abp : J := .seq (.ae [ro 4 (.ai (.c (.int .i64 0)))] (some [0, 1])) abo
theorem abq : bQ ⟨42, [0]⟩ (Try.f27.body.getD .skip) = some abp.strip := by kernel_rfl
def abr : J := .cond (.t 9) .skip (.exit 0)
def abt : J := .ae [ro 27 (.ag (.t 0)),
 ro 28 (.ag (.t 5)),
 ro 29 (.bX 27 (.t 27) (.t 28)),
 ro 30 (.bc 47 (.t 29) 2),
 ro 31 (.aM 45 (.t 30)),
 ro 32 (.ag (.t 1)),
 ro 33 (.call (.f 27) [(.t 31), (.t 32)]),
 ro 1 (.ai (.t 33))] (some [0, 1, 5])
def abu : J := .seq (.ae [ro 25 (.ag (.t 1)),
 ro 26 (.aB .add 3 (.t 25) (.c (.int .i64 1))),
 ro 1 (.ai (.t 26))] (some [0, 1, 5])) abt
def abv : J := .seq (.ae [ro 20 (.ag (.t 0)),
 ro 21 (.ag (.t 5)),
 ro 22 (.ag (.t 1)),
 ro 23 (.bX 27 (.t 20) (.t 21)),
 ro 24 (.bc 47 (.t 23) 1),
 ⟨none, .cP 2 (.t 24) (.t 22), none⟩] (some [0, 1, 5])) abu
def abw : J := .seq (.ae [ro 18 (.ag (.t 1)),
 ro 19 (.aB .add 3 (.t 18) (.c (.int .i64 1))),
 ro 1 (.ai (.t 19))] (some [0, 1, 5])) abv
def abx : J := .ae [ro 10 (.ag (.t 5)),
 ro 11 (.aB .add 3 (.t 10) (.c (.int .i64 1))),
 ro 5 (.ai (.t 11))] (some [0, 1, 5])
def aby : J := .seq (.block 1 (.seq (.ae [ro 12 (.ag (.t 0)),
 ro 13 (.ag (.t 5)),
 ro 14 (.ag (.t 1)),
 ro 15 (.call (.f 26) [(.t 14)]),
 ro 16 (.bX 27 (.t 12) (.t 13)),
 ro 17 (.bc 47 (.t 16) 0),
 ⟨none, .cP 9 (.t 17) (.t 15), none⟩] (some [0, 1, 5])) abw)) abx
def HS : J := .seq (.seq (.ae [ro 6 (.ag (.t 5)),
 ro 7 (.ag (.t 0)),
 ro 8 (.len 27 (.t 7)),
 ro 9 (.aB .lss 3 (.t 6) (.t 8))] (some [0, 1, 5, 9])) abr) aby
def abz : J := .block 0 (.loop HS)
def abA : J := .seq (.ae [ro 34 (.ag (.t 1)),
 ro 4 (.ai (.t 34))] (some [0, 4])) .ret
def abB : J := .seq (.seq (.ae [ro 5 (.ai (.c (.int .i64 0)))] (some [0, 1, 5])) abz) abA
def abC : J := .seq (.ae [ro 4 (.ai (.c (.int .i64 0)))] (some [0, 1])) abB
theorem su : bQ ⟨35, [0]⟩ (Try.f11.body.getD .skip) = some abC.strip := by kernel_rfl
def abD : J := .cond (.t 9) .skip (.exit 0)
def abE : J := .ae [ro 17 (.ag (.t 1)),
 ro 18 (.aB .add 3 (.t 17) (.c (.int .i64 1))),
 ro 1 (.ai (.t 18))] (some [0, 1, 5])
def abF : J := .ae [ro 10 (.ag (.t 5)),
 ro 11 (.aB .add 3 (.t 10) (.c (.int .i64 1))),
 ro 5 (.ai (.t 11))] (some [0, 1, 5])
def abG : J := .seq (.block 1 (.seq (.ae [ro 12 (.ag (.t 0)),
 ro 13 (.ag (.t 5)),
 ro 14 (.ag (.t 1)),
 ro 15 (.call (.f 26) [(.t 14)]),
 ro 16 (.bX 34 (.t 12) (.t 13)),
 ⟨none, .cP 9 (.t 16) (.t 15), none⟩] (some [0, 1, 5])) abE)) abF
def HT : J := .seq (.seq (.ae [ro 6 (.ag (.t 5)),
 ro 7 (.ag (.t 0)),
 ro 8 (.len 34 (.t 7)),
 ro 9 (.aB .lss 3 (.t 6) (.t 8))] (some [0, 1, 5, 9])) abD) abG
def abH : J := .block 0 (.loop HT)
def abI : J := .seq (.ae [ro 19 (.ag (.t 1)),
 ro 4 (.ai (.t 19))] (some [0, 4])) .ret
def abJ : J := .seq (.seq (.ae [ro 5 (.ai (.c (.int .i64 0)))] (some [0, 1, 5])) abH) abI
def abK : J := .seq (.ae [ro 4 (.ai (.c (.int .i64 0)))] (some [0, 1])) abJ
theorem qF : bQ ⟨20, [0]⟩ (Try.f17.body.getD .skip) = some abK.strip := by kernel_rfl
def abL : J := .cond (.t 9) .skip (.exit 0)
def abM : J := .seq (.ae [ro 4 (.ai (.c (.int .i64 (-1))))] (some [4])) .ret
def abN : J := .cond (.t 18) abM .skip
def abO : J := .ae [ro 19 (.ag (.t 1)),
 ro 20 (.aB .add 3 (.t 19) (.c (.int .i64 1))),
 ro 1 (.ai (.t 20))] (some [0, 1, 5])
def abP : J := .ae [ro 10 (.ag (.t 5)),
 ro 11 (.aB .add 3 (.t 10) (.c (.int .i64 1))),
 ro 5 (.ai (.t 11))] (some [0, 1, 5])
def abQ : J := .seq (.block 1 (.seq (.seq (.hK [ro 12 (.ag (.t 0)),
 ro 13 (.ag (.t 5)),
 ro 14 (.bX 34 (.t 12) (.t 13)),
 ro 15 (.aM 9 (.t 14)),
 ro 16 (.ag (.t 1)),
 ro 17 (.call (.f 26) [(.t 16)]),
 ro 18 (.aB .neq 9 (.t 15) (.t 17))] [[], [], [0, 1], [2], [], [4], [3, 5]] (some [0, 1, 5, 18])) abN) abO)) abP
def HU : J := .seq (.seq (.ae [ro 6 (.ag (.t 5)),
 ro 7 (.ag (.t 0)),
 ro 8 (.len 34 (.t 7)),
 ro 9 (.aB .lss 3 (.t 6) (.t 8))] (some [0, 1, 5, 9])) abL) abQ
def abR : J := .block 0 (.loop HU)
def abS : J := .seq (.ae [ro 21 (.ag (.t 1)),
 ro 4 (.ai (.t 21))] (some [4])) .ret
def abT : J := .seq (.seq (.ae [ro 5 (.ai (.c (.int .i64 0)))] (some [0, 1, 5])) abR) abS
def abU : J := .seq (.ae [ro 4 (.ai (.c (.int .i64 0)))] (some [0, 1])) abT
theorem abV : bQ ⟨22, [0]⟩ (Try.f18.body.getD .skip) = some abU.strip := by kernel_rfl
def abW : J := .seq (.ae [ro 4 (.ai (.c (.bool true)))] (some [4])) .ret
def abX : J := .cond (.t 20) abW .skip
def abY : J := .seq (.ae [ro 4 (.ai (.c (.bool false)))] (some [4])) .ret
def abZ : J := .cond (.t 44) abY .skip
def ab0 : J := .seq (.ae [ro 4 (.ai (.c (.bool false)))] (some [4])) .ret
def ab1 : J := .cond (.t 49) ab0 .skip
def ab2 : J := .seq (.ae [ro 4 (.ai (.c (.bool false)))] (some [4])) .ret
def ab3 : J := .cond (.t 65) ab2 .skip
def ab4 : J := .seq (.ae [ro 4 (.ai (.c (.bool false)))] (some [4])) .ret
def ab5 : J := .cond (.t 73) ab4 .skip
def ab6 : J := .seq (.ae [ro 4 (.ai (.c (.bool false)))] (some [4])) .ret
def ab7 : J := .cond (.t 76) ab6 .skip
def ab8 : J := .seq (.ae [ro 4 (.ai (.c (.bool false)))] (some [4])) .ret
def ab9 : J := .cond (.t 92) ab8 .skip
def ab_ : J := .seq (.ae [ro 4 (.ai (.c (.bool false)))] (some [4])) .ret
def aca : J := .cond (.t 97) ab_ .skip
def acb : J := .seq (.ae [ro 4 (.ai (.c (.bool false)))] (some [4])) .ret
def acd : J := .cond (.t 100) acb .skip
def ace : J := .seq (.ae [ro 4 (.ai (.c (.bool true)))] (some [4])) .ret
def acf : J := .seq (.seq (.ae [ro 98 (.ag (.t 13)),
 ro 99 (.ag (.t 12)),
 ro 100 (.aB .neq 3 (.t 98) (.t 99))] (some [100])) acd) ace
def acg : J := .seq (.seq (.ae [ro 96 (.ag (.t 13)),
 ro 97 (.aB .lss 3 (.t 96) (.c (.int .i64 0)))] (some [12, 13, 97])) aca) acf
def ach : J := .seq (.ae [ro 93 (.ag (.t 9)),
 ro 94 (.ag (.t 13)),
 ro 95 (.call (.f 18) [(.t 93), (.t 94)]),
 ro 13 (.ai (.t 95))] (some [12, 13])) acg
def aci : J := .seq (.ae [ro 13 (.ai (.c (.int .i64 1)))] (some [9, 12, 13])) ach
def acj : J := .seq (.seq (.ae [ro 84 (.ag (.t 14)),
 ro 85 (.ag (.t 6)),
 ro 86 (.call (.f 16) [(.t 84), (.t 85)]),
 ro 87 (.un .not (.t 86)),
 ro 88 (.ag (.t 87)),
 ⟨some 89, .ag (.t 15), some (88, false)⟩,
 ⟨some 90, .ag (.t 7), some (88, false)⟩,
 ⟨some 91, .aB .neq 2 (.t 89) (.t 90), some (88, false)⟩,
 ro 92 (.pick (.t 88) (.c (.bool true)) (.t 91))] (some [9, 12, 92])) ab9) aci
def ack : J := .seq (.ae [ro 78 (.ag (.t 0)),
 ro 79 (.call (.f 7) [(.t 78)]),
 ro 80 (.ag (.t 1)),
 ro 81 (.call (.f 15) [(.t 79), (.t 80)]),
 ro 77 (.ag (.t 81)),
 ro 82 (.ex (.t 77) 0),
 ro 83 (.ex (.t 77) 1),
 ro 14 (.ai (.t 82)),
 ro 15 (.ai (.t 83))] (some [6, 7, 9, 12, 14, 15])) acj
def acm : J := .seq (.seq (.ae [ro 74 (.ag (.t 13)),
 ro 75 (.ag (.t 12)),
 ro 76 (.aB .neq 3 (.t 74) (.t 75))] (some [0, 1, 6, 7, 9, 12, 76])) ab7) ack
def acn : J := .seq (.seq (.ae [ro 72 (.ag (.t 13)),
 ro 73 (.aB .lss 3 (.t 72) (.c (.int .i64 0)))] (some [0, 1, 6, 7, 9, 12, 13, 73])) ab5) acm
def aco : J := .seq (.ae [ro 69 (.ag (.t 9)),
 ro 70 (.ag (.t 13)),
 ro 71 (.call (.f 18) [(.t 69), (.t 70)]),
 ro 13 (.ai (.t 71))] (some [0, 1, 6, 7, 9, 12, 13])) acn
def acp : J := .seq (.ae [ro 13 (.ai (.c (.int .i64 1)))] (some [0, 1, 6, 7, 9, 12, 13])) aco
def acq : J := .seq (.ae [ro 66 (.ag (.t 9)),
 ro 67 (.ag (.t 12)),
 ro 68 (.call (.f 17) [(.t 66), (.t 67)]),
 ro 12 (.ai (.t 68))] (some [0, 1, 6, 7, 9, 12])) acp
def acr : J := .seq (.ae [ro 12 (.ai (.c (.int .i64 1)))] (some [0, 1, 6, 7, 9, 12])) acq
def acs : J := .seq (.seq (.ae [ro 53 (.ag (.t 11)),
 ro 54 (.aB .lss 3 (.t 53) (.c (.int .i64 0))),
 ro 55 (.ag (.t 54)),
 ⟨some 56, .ag (.t 9), some (55, false)⟩,
 ⟨some 57, .ag (.t 6), some (55, false)⟩,
 ⟨some 58, .call (.f 16) [(.t 56), (.t 57)], some (55, false)⟩,
 ⟨some 59, .un .not (.t 58), some (55, false)⟩,
 ro 60 (.pick (.t 55) (.c (.bool true)) (.t 59)),
 ro 61 (.ag (.t 60)),
 ⟨some 62, .ag (.t 10), some (61, false)⟩,
 ⟨some 63, .ag (.t 7), some (61, false)⟩,
 ⟨some 64, .aB .neq 2 (.t 62) (.t 63), some (61, false)⟩,
 ro 65 (.pick (.t 61) (.c (.bool true)) (.t 64))] (some [0, 1, 6, 7, 9, 65])) ab3) acr
def acu : J := .seq (.ae [ro 50 (.ag (.t 8)),
 ro 51 (.ag (.t 11)),
 ro 52 (.call (.f 11) [(.t 50), (.t 51)]),
 ro 11 (.ai (.t 52))] (some [0, 1, 6, 7, 9, 10, 11])) acs
def acv : J := .seq (.ae [ro 11 (.ai (.c (.int .i64 1)))] (some [0, 1, 6, 7, 8, 9, 10, 11])) acu
def acw : J := .seq (.seq (.ae [ro 45 (.ag (.t 8)),
 ro 46 (.ag (.t 0)),
 ro 47 (.call (.f 7) [(.t 46)]),
 ro 48 (.call (.f 10) [(.t 45), (.t 47)]),
 ro 49 (.un .not (.t 48))] (some [0, 1, 6, 7, 8, 9, 10, 49])) ab1) acv
def acx : J := .seq (.seq (.ae [ro 36 (.ag (.t 9)),
 ro 37 (.ag (.t 6)),
 ro 38 (.call (.f 16) [(.t 36), (.t 37)]),
 ro 39 (.un .not (.t 38)),
 ro 40 (.ag (.t 39)),
 ⟨some 41, .ag (.t 10), some (40, false)⟩,
 ⟨some 42, .ag (.t 7), some (40, false)⟩,
 ⟨some 43, .aB .neq 2 (.t 41) (.t 42), some (40, false)⟩,
 ro 44 (.pick (.t 40) (.c (.bool true)) (.t 43))] (some [0, 1, 6, 7, 8, 9, 10, 44])) abZ) acw
def acy : J := .seq (.ae [ro 31 (.ag (.t 8)),
 ro 32 (.ag (.t 1)),
 ro 33 (.call (.f 15) [(.t 31), (.t 32)]),
 ro 30 (.ag (.t 33)),
 ro 34 (.ex (.t 30) 0),
 ro 35 (.ex (.t 30) 1),
 ro 9 (.ai (.t 34)),
 ro 10 (.ai (.t 35))] (some [0, 1, 6, 7, 8, 9, 10])) acx
def acz : J := .seq (.ae [ro 28 (.ag (.t 0)),
 ro 29 (.call (.f 7) [(.t 28)]),
 ro 8 (.ai (.t 29))] (some [0, 1, 6, 7, 8])) acy
def acA : J := .seq (.ae [ro 22 (.ag (.t 0)),
 ro 23 (.call (.f 7) [(.t 22)]),
 ro 24 (.ag (.t 1)),
 ro 25 (.call (.f 14) [(.t 23), (.t 24)]),
 ro 21 (.ag (.t 25)),
 ro 26 (.ex (.t 21) 0),
 ro 27 (.ex (.t 21) 1),
 ro 6 (.ai (.t 26)),
 ro 7 (.ai (.t 27))] (some [0, 1, 6, 7])) acz
def acB : J := .seq (.seq (.ae [ro 19 (.ag (.t 5)),
 ro 20 (.aB .lss 3 (.t 19) (.c (.int .i64 0)))] (some [0, 1, 20])) abX) acA
def acC : J := .seq (.ae [ro 16 (.ag (.t 0)),
 ro 17 (.ag (.t 5)),
 ro 18 (.call (.f 5) [(.t 16), (.t 17)]),
 ro 5 (.ai (.t 18))] (some [0, 1, 5])) acB
def acD : J := .seq (.ae [ro 5 (.ai (.c (.int .i64 1048576)))] (some [0, 1, 5])) acC
def m4 : J := .seq (.ae [ro 4 (.ai (.c (.bool false)))] (some [0, 1])) acD
theorem h9 : bQ ⟨101, [0, 1]⟩ (Try.f4.body.getD .skip) = some m4.strip := by kernel_rfl
end Go.Proofs.Ytbemmmimelklkaa
