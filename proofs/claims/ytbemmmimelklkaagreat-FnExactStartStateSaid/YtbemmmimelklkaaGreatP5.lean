/- Part of a proof that a law returns true for every input. No condition. -/
import Derived.Test.YtbemmmimelklkaaGreatFwA
namespace Go.f_
open Go Go.dk
set_option linter.unusedVariables false
noncomputable section
structure gS where
 Kind : Int
 Value : Int
def ug (x : gS) : Prop := (-9223372036854775808 ≤ x.Kind ∧ x.Kind ≤ 9223372036854775807) ∧ (-9223372036854775808 ≤ x.Value ∧ x.Value ≤ 9223372036854775807)
structure h_ where
 Kind : Int
 Number : Int
 Name : List UInt8
 cq : List (List gS)
def wg (x : h_) : Prop := (-9223372036854775808 ≤ x.Kind ∧ x.Kind ≤ 9223372036854775807) ∧ (-9223372036854775808 ≤ x.Number ∧ x.Number ≤ 9223372036854775807) ∧ x.Name.length ≤ 9223372036854775807 ∧ (x.cq.length ≤ 9223372036854775807 ∧ ∀ y ∈ x.cq, (y.length ≤ 9223372036854775807 ∧ ∀ z ∈ y, ug z))
structure hZ where
 Name : List UInt8
 dc : Int
 Body : List h_
def uh (x : hZ) : Prop := x.Name.length ≤ 9223372036854775807 ∧ (-9223372036854775808 ≤ x.dc ∧ x.dc ≤ 9223372036854775807) ∧ (x.Body.length ≤ 9223372036854775807 ∧ ∀ y ∈ x.Body, wg y)
structure ia where
 eo : Int
 c3 : List Int
def wh (x : ia) : Prop := (-9223372036854775808 ≤ x.eo ∧ x.eo ≤ 9223372036854775807) ∧ (x.c3.length ≤ 9223372036854775807 ∧ ∀ y ∈ x.c3, (-9223372036854775808 ≤ y ∧ y ≤ 9223372036854775807))
structure h0 where
 Left : List UInt8
 b6 : List UInt8
 Result : List UInt8
def wi (x : h0) : Prop := x.Left.length ≤ 9223372036854775807 ∧ x.b6.length ≤ 9223372036854775807 ∧ x.Result.length ≤ 9223372036854775807
structure kg where
 e8 : List hZ
 b_ : List ia
 g1 : List h0
 gT : List (List UInt8)
 gU : List (List UInt8)
def wj (x : kg) : Prop := (x.e8.length ≤ 9223372036854775807 ∧ ∀ y ∈ x.e8, uh y) ∧ (x.b_.length ≤ 9223372036854775807 ∧ ∀ y ∈ x.b_, wh y) ∧ (x.g1.length ≤ 9223372036854775807 ∧ ∀ y ∈ x.g1, wi y) ∧ (x.gT.length ≤ 9223372036854775807 ∧ ∀ y ∈ x.gT, y.length ≤ 9223372036854775807) ∧ (x.gU.length ≤ 9223372036854775807 ∧ ∀ y ∈ x.gU, y.length ≤ 9223372036854775807)
structure bP where
 Kind : Int
 Value : Int
def Sc (x : bP) : Prop := (-9223372036854775808 ≤ x.Kind ∧ x.Kind ≤ 9223372036854775807) ∧ (-9223372036854775808 ≤ x.Value ∧ x.Value ≤ 9223372036854775807)
structure bz where
 Kind : Int
 Number : Int
 Name : List UInt8
 cq : List (List bP)
def Sd (x : bz) : Prop := (-9223372036854775808 ≤ x.Kind ∧ x.Kind ≤ 9223372036854775807) ∧ (-9223372036854775808 ≤ x.Number ∧ x.Number ≤ 9223372036854775807) ∧ x.Name.length ≤ 9223372036854775807 ∧ (x.cq.length ≤ 9223372036854775807 ∧ ∀ y ∈ x.cq, (y.length ≤ 9223372036854775807 ∧ ∀ z ∈ y, Sc z))
structure bb where
 Name : List UInt8
 dc : Int
 Body : List bz
def Se (x : bb) : Prop := x.Name.length ≤ 9223372036854775807 ∧ (-9223372036854775808 ≤ x.dc ∧ x.dc ≤ 9223372036854775807) ∧ (x.Body.length ≤ 9223372036854775807 ∧ ∀ y ∈ x.Body, Sd y)
structure cX where
 eo : Int
 c3 : List Int
def Sf (x : cX) : Prop := (-9223372036854775808 ≤ x.eo ∧ x.eo ≤ 9223372036854775807) ∧ (x.c3.length ≤ 9223372036854775807 ∧ ∀ y ∈ x.c3, (-9223372036854775808 ≤ y ∧ y ≤ 9223372036854775807))
structure bT where
 Left : List UInt8
 b6 : List UInt8
 Result : List UInt8
def Sg (x : bT) : Prop := x.Left.length ≤ 9223372036854775807 ∧ x.b6.length ≤ 9223372036854775807 ∧ x.Result.length ≤ 9223372036854775807
structure ev where
 e8 : List bb
 b_ : List cX
 g1 : List bT
 gT : List (List UInt8)
 gU : List (List UInt8)
def avm (x : ev) : Prop := (x.e8.length ≤ 9223372036854775807 ∧ ∀ y ∈ x.e8, Se y) ∧ (x.b_.length ≤ 9223372036854775807 ∧ ∀ y ∈ x.b_, Sf y) ∧ (x.g1.length ≤ 9223372036854775807 ∧ ∀ y ∈ x.g1, Sg y) ∧ (x.gT.length ≤ 9223372036854775807 ∧ ∀ y ∈ x.gT, y.length ≤ 9223372036854775807) ∧ (x.gU.length ≤ 9223372036854775807 ∧ ∀ y ∈ x.gU, y.length ≤ 9223372036854775807)
structure cU where
 eo : Int
 Part : Int
 c3 : List Int
def avn (x : cU) : Prop := (-9223372036854775808 ≤ x.eo ∧ x.eo ≤ 9223372036854775807) ∧ (-9223372036854775808 ≤ x.Part ∧ x.Part ≤ 9223372036854775807) ∧ (x.c3.length ≤ 9223372036854775807 ∧ ∀ y ∈ x.c3, (-9223372036854775808 ≤ y ∧ y ≤ 9223372036854775807))
structure cn where
 scope : Int
 behind : Bool
def avo (x : cn) : Prop := (-9223372036854775808 ≤ x.scope ∧ x.scope ≤ 9223372036854775807) ∧ True
def wk (J : List gS) (ab : Int) : Option Int :=
 cond (decide ((IntKind.i64.wrap (ab - (J.length : Int))) < 0)) (some (-1)) (some (IntKind.i64.wrap (ab - (J.length : Int))))
def JL (kh : Int → Int → Option Int) (J : List (List gS)) (dq : Int) (dh : Int) : Option Int :=
 cond (decide (dh < (J.length : Int))) ((bM J dh).bind fun ag => (wk ag dq).bind fun ao => cond (decide (ao < 0)) (some (-1)) (kh ao (IntKind.i64.wrap (dh + 1)))) (some dq)
def zw (J : List (List gS)) : Nat → Int → Int → Option Int
 | 0, _, _ => none
 | n + 1, dq, dh => JL (zw J n) J dq dh
def zx (J : List (List gS)) (ab : Int) : Option Int :=
 cond (decide ((IntKind.i64.wrap (ab - (J.length : Int))) < 0)) (some (-1)) (cV fun n => zw J n (IntKind.i64.wrap (ab - (J.length : Int))) 0)
def wm (J : h_) (ab : Int) : Option Int :=
 cond (decide ((IntKind.i64.wrap (ab - (J.Name.length : Int))) < 0)) (some (-1)) ((zx J.cq (IntKind.i64.wrap (ab - (J.Name.length : Int)))).bind fun ag => cond (decide (ag < 0)) (some (-1)) (some ag))
def JM (kh : Int → Int → Option Int) (J : List h_) (dq : Int) (dh : Int) : Option Int :=
 cond (decide (dh < (J.length : Int))) ((bM J dh).bind fun ag => (wm ag dq).bind fun ao => cond (decide (ao < 0)) (some (-1)) (kh ao (IntKind.i64.wrap (dh + 1)))) (some dq)
def zy (J : List h_) : Nat → Int → Int → Option Int
 | 0, _, _ => none
 | n + 1, dq, dh => JM (zy J n) J dq dh
def zz (J : List h_) (ab : Int) : Option Int :=
 cond (decide ((IntKind.i64.wrap (ab - (J.length : Int))) < 0)) (some (-1)) (cV fun n => zy J n (IntKind.i64.wrap (ab - (J.length : Int))) 0)
def wo (J : hZ) (ab : Int) : Option Int :=
 cond (decide ((IntKind.i64.wrap (ab - (J.Name.length : Int))) < 0)) (some (-1)) ((zz J.Body (IntKind.i64.wrap (ab - (J.Name.length : Int)))).bind fun ag => cond (decide (ag < 0)) (some (-1)) (some ag))
def JN (kh : Int → Int → Option Int) (J : List hZ) (dq : Int) (dh : Int) : Option Int :=
 cond (decide (dh < (J.length : Int))) ((bM J dh).bind fun ag => (wo ag dq).bind fun ao => cond (decide (ao < 0)) (some (-1)) (kh ao (IntKind.i64.wrap (dh + 1)))) (some dq)
def zA (J : List hZ) : Nat → Int → Int → Option Int
 | 0, _, _ => none
 | n + 1, dq, dh => JN (zA J n) J dq dh
def wq (J : List hZ) (ab : Int) : Option Int :=
 cond (decide ((IntKind.i64.wrap (ab - (J.length : Int))) < 0)) (some (-1)) (cV fun n => zA J n (IntKind.i64.wrap (ab - (J.length : Int))) 0)
def zB (J : List Int) (ab : Int) : Option Int :=
 cond (decide ((IntKind.i64.wrap (ab - (J.length : Int))) < 0)) (some (-1)) (some (IntKind.i64.wrap (ab - (J.length : Int))))
def wt (J : ia) (ab : Int) : Option Int :=
 (zB J.c3 ab).bind fun ag => cond (decide (ag < 0)) (some (-1)) (some ag)
def JO (kh : Int → Int → Option Int) (J : List ia) (dq : Int) (dh : Int) : Option Int :=
 cond (decide (dh < (J.length : Int))) ((bM J dh).bind fun ag => (wt ag dq).bind fun ao => cond (decide (ao < 0)) (some (-1)) (kh ao (IntKind.i64.wrap (dh + 1)))) (some dq)
def zC (J : List ia) : Nat → Int → Int → Option Int
 | 0, _, _ => none
 | n + 1, dq, dh => JO (zC J n) J dq dh
def zD (J : List ia) (ab : Int) : Option Int :=
 cond (decide ((IntKind.i64.wrap (ab - (J.length : Int))) < 0)) (some (-1)) (cV fun n => zC J n (IntKind.i64.wrap (ab - (J.length : Int))) 0)
def wu (J : h0) (ab : Int) : Option Int :=
 cond (decide ((IntKind.i64.wrap (ab - (J.Left.length : Int))) < 0)) (some (-1)) (cond (decide ((IntKind.i64.wrap ((IntKind.i64.wrap (ab - (J.Left.length : Int))) - (J.b6.length : Int))) < 0)) (some (-1)) (cond (decide ((IntKind.i64.wrap ((IntKind.i64.wrap ((IntKind.i64.wrap (ab - (J.Left.length : Int))) - (J.b6.length : Int))) - (J.Result.length : Int))) < 0)) (some (-1)) (some (IntKind.i64.wrap ((IntKind.i64.wrap ((IntKind.i64.wrap (ab - (J.Left.length : Int))) - (J.b6.length : Int))) - (J.Result.length : Int))))))
def JP (kh : Int → Int → Option Int) (J : List h0) (dq : Int) (dh : Int) : Option Int :=
 cond (decide (dh < (J.length : Int))) ((bM J dh).bind fun ag => (wu ag dq).bind fun ao => cond (decide (ao < 0)) (some (-1)) (kh ao (IntKind.i64.wrap (dh + 1)))) (some dq)
def zE (J : List h0) : Nat → Int → Int → Option Int
 | 0, _, _ => none
 | n + 1, dq, dh => JP (zE J n) J dq dh
def zF (J : List h0) (ab : Int) : Option Int :=
 cond (decide ((IntKind.i64.wrap (ab - (J.length : Int))) < 0)) (some (-1)) (cV fun n => zE J n (IntKind.i64.wrap (ab - (J.length : Int))) 0)
def JQ (kh : Int → Int → Option Int) (J : List (List UInt8)) (dq : Int) (dh : Int) : Option Int :=
 cond (decide (dh < (J.length : Int))) ((bM J dh).bind fun ag => cond (decide ((IntKind.i64.wrap (dq - (ag.length : Int))) < 0)) (some (-1)) (kh (IntKind.i64.wrap (dq - (ag.length : Int))) (IntKind.i64.wrap (dh + 1)))) (some dq)
def zG (J : List (List UInt8)) : Nat → Int → Int → Option Int
 | 0, _, _ => none
 | n + 1, dq, dh => JQ (zG J n) J dq dh
def wv (J : List (List UInt8)) (ab : Int) : Option Int :=
 cond (decide ((IntKind.i64.wrap (ab - (J.length : Int))) < 0)) (some (-1)) (cV fun n => zG J n (IntKind.i64.wrap (ab - (J.length : Int))) 0)
def wx (J : kg) (ab : Int) : Option Int :=
 (wq J.e8 ab).bind fun ag => cond (decide (ag < 0)) (some (-1)) ((zD J.b_ ag).bind fun ao => cond (decide (ao < 0)) (some (-1)) ((zF J.g1 ao).bind fun aZ => cond (decide (aZ < 0)) (some (-1)) ((wv J.gT aZ).bind fun bl => cond (decide (bl < 0)) (some (-1)) ((wv J.gU bl).bind fun br => cond (decide (br < 0)) (some (-1)) (some br)))))
def wy (J : gS) : Option bP :=
 some (bP.mk J.Kind J.Value)
def JR (gb : (List bP) → Int → Option ((List bP))) (J : List gS) (bC : List bP) (bw : Int) : Option ((List bP)) :=
 cond (decide (bw < (J.length : Int))) ((bM J bw).bind fun ag => (wy ag).bind fun ao => (bM bC bw).bind fun aZ => gb (List.set bC (Int.toNat bw) ao) (IntKind.i64.wrap (bw + 1))) (some bC)
def zH (J : List gS) : Nat → (List bP) → Int → Option ((List bP))
 | 0, _, _ => none
 | n + 1, bC, bw => JR (zH J n) J bC bw
def wz (J : List gS) : Option ((List bP)) :=
 (mj 16 (J.length : Int)).bind fun _ => cV fun n => zH J n (List.replicate (Int.toNat (J.length : Int)) (bP.mk 0 0)) 0
def JS (gb : (List (List bP)) → Int → Option ((List (List bP)))) (J : List (List gS)) (bC : List (List bP)) (bw : Int) : Option ((List (List bP))) :=
 cond (decide (bw < (J.length : Int))) ((bM J bw).bind fun ag => (wz ag).bind fun ao => (bM bC bw).bind fun aZ => gb (List.set bC (Int.toNat bw) ao) (IntKind.i64.wrap (bw + 1))) (some bC)
def zI (J : List (List gS)) : Nat → (List (List bP)) → Int → Option ((List (List bP)))
 | 0, _, _ => none
 | n + 1, bC, bw => JS (zI J n) J bC bw
def zJ (J : List (List gS)) : Option ((List (List bP))) :=
 (mj 24 (J.length : Int)).bind fun _ => cV fun n => zI J n (List.replicate (Int.toNat (J.length : Int)) []) 0
def wA (J : h_) : Option bz :=
 (zJ J.cq).bind fun ag => some (bz.mk J.Kind J.Number J.Name ag)
def JT (gb : (List bz) → Int → Option ((List bz))) (J : List h_) (bC : List bz) (bw : Int) : Option ((List bz)) :=
 cond (decide (bw < (J.length : Int))) ((bM J bw).bind fun ag => (wA ag).bind fun ao => (bM bC bw).bind fun aZ => gb (List.set bC (Int.toNat bw) ao) (IntKind.i64.wrap (bw + 1))) (some bC)
def zK (J : List h_) : Nat → (List bz) → Int → Option ((List bz))
 | 0, _, _ => none
 | n + 1, bC, bw => JT (zK J n) J bC bw
def zL (J : List h_) : Option ((List bz)) :=
 (mj 56 (J.length : Int)).bind fun _ => cV fun n => zK J n (List.replicate (Int.toNat (J.length : Int)) (bz.mk 0 0 ([] : List UInt8) [])) 0
def wB (J : hZ) : Option bb :=
 (zL J.Body).bind fun ag => some (bb.mk J.Name J.dc ag)
def JU (gb : (List bb) → Int → Option ((List bb))) (J : List hZ) (bC : List bb) (bw : Int) : Option ((List bb)) :=
 cond (decide (bw < (J.length : Int))) ((bM J bw).bind fun ag => (wB ag).bind fun ao => (bM bC bw).bind fun aZ => gb (List.set bC (Int.toNat bw) ao) (IntKind.i64.wrap (bw + 1))) (some bC)
def zM (J : List hZ) : Nat → (List bb) → Int → Option ((List bb))
 | 0, _, _ => none
 | n + 1, bC, bw => JU (zM J n) J bC bw
def wC (J : List hZ) : Option ((List bb)) :=
 (mj 48 (J.length : Int)).bind fun _ => cV fun n => zM J n (List.replicate (Int.toNat (J.length : Int)) (bb.mk ([] : List UInt8) 0 [])) 0
def JV (gb : (List Int) → Int → Option ((List Int))) (J : List Int) (bC : List Int) (bw : Int) : Option ((List Int)) :=
 cond (decide (bw < (J.length : Int))) ((bM J bw).bind fun ag => (bM bC bw).bind fun ao => gb (List.set bC (Int.toNat bw) ag) (IntKind.i64.wrap (bw + 1))) (some bC)
def zN (J : List Int) : Nat → (List Int) → Int → Option ((List Int))
 | 0, _, _ => none
 | n + 1, bC, bw => JV (zN J n) J bC bw
def zO (J : List Int) : Option ((List Int)) :=
 (mj 8 (J.length : Int)).bind fun _ => cV fun n => zN J n (List.replicate (Int.toNat (J.length : Int)) 0) 0
def wD (J : ia) : Option cX :=
 (zO J.c3).bind fun ag => some (cX.mk J.eo ag)
def JW (gb : (List cX) → Int → Option ((List cX))) (J : List ia) (bC : List cX) (bw : Int) : Option ((List cX)) :=
 cond (decide (bw < (J.length : Int))) ((bM J bw).bind fun ag => (wD ag).bind fun ao => (bM bC bw).bind fun aZ => gb (List.set bC (Int.toNat bw) ao) (IntKind.i64.wrap (bw + 1))) (some bC)
def zP (J : List ia) : Nat → (List cX) → Int → Option ((List cX))
 | 0, _, _ => none
 | n + 1, bC, bw => JW (zP J n) J bC bw
def zQ (J : List ia) : Option ((List cX)) :=
 (mj 32 (J.length : Int)).bind fun _ => cV fun n => zP J n (List.replicate (Int.toNat (J.length : Int)) (cX.mk 0 [])) 0
def wE (J : h0) : Option bT :=
 some (bT.mk J.Left J.b6 J.Result)
def JX (gb : (List bT) → Int → Option ((List bT))) (J : List h0) (bC : List bT) (bw : Int) : Option ((List bT)) :=
 cond (decide (bw < (J.length : Int))) ((bM J bw).bind fun ag => (wE ag).bind fun ao => (bM bC bw).bind fun aZ => gb (List.set bC (Int.toNat bw) ao) (IntKind.i64.wrap (bw + 1))) (some bC)
def zR (J : List h0) : Nat → (List bT) → Int → Option ((List bT))
 | 0, _, _ => none
 | n + 1, bC, bw => JX (zR J n) J bC bw
def zS (J : List h0) : Option ((List bT)) :=
 (mj 48 (J.length : Int)).bind fun _ => cV fun n => zR J n (List.replicate (Int.toNat (J.length : Int)) (bT.mk ([] : List UInt8) ([] : List UInt8) ([] : List UInt8))) 0
def JY (gb : (List (List UInt8)) → Int → Option ((List (List UInt8)))) (J : List (List UInt8)) (bC : List (List UInt8)) (bw : Int) : Option ((List (List UInt8))) :=
 cond (decide (bw < (J.length : Int))) ((bM J bw).bind fun ag => (bM bC bw).bind fun ao => gb (List.set bC (Int.toNat bw) ag) (IntKind.i64.wrap (bw + 1))) (some bC)
def zT (J : List (List UInt8)) : Nat → (List (List UInt8)) → Int → Option ((List (List UInt8)))
 | 0, _, _ => none
 | n + 1, bC, bw => JY (zT J n) J bC bw
def wF (J : List (List UInt8)) : Option ((List (List UInt8))) :=
 (mj 16 (J.length : Int)).bind fun _ => cV fun n => zT J n (List.replicate (Int.toNat (J.length : Int)) ([] : List UInt8)) 0
def qq (J : kg) : Option ev :=
 (wC J.e8).bind fun ag => (zQ J.b_).bind fun ao => (zS J.g1).bind fun aZ => (wF J.gT).bind fun bl => (wF J.gU).bind fun br => some (ev.mk ag ao aZ bl br)
def wG (J : UInt8) : Option Bool :=
 some ((decide (97 ≤ (J.toNat : Int))) && (decide ((J.toNat : Int) ≤ 122)))
def Et (J : UInt8) : Option Bool :=
 some ((decide (48 ≤ (J.toNat : Int))) && (decide ((J.toNat : Int) ≤ 57)))
def zU (fN : Int → Option Bool) (J : List UInt8) (cN : Int) : Option Bool :=
 cond (decide (cN < (J.length : Int))) ((bM J cN).bind fun aZ => (wG aZ).bind fun bl => cond (!bl) ((Et aZ).bind fun br => cond (!br) (some false) (fN (IntKind.i64.wrap (cN + 1)))) (fN (IntKind.i64.wrap (cN + 1)))) (some true)
def ui (J : List UInt8) : Nat → Int → Option Bool
 | 0, _ => none
 | n + 1, cN => zU (ui J n) J cN
def uj (J : List UInt8) : Option Bool :=
 cond (J == ([] : List UInt8)) (some false) (cond (decide (10 < (J.length : Int))) (some false) ((bM J 0).bind fun ag => (wG ag).bind fun ao => cond (!ao) (some false) (cV fun n => ui J n 0)))
def lH (J : Int) (ab : Int) (bk : Int) : Option Bool :=
 some ((decide (ab ≤ J)) && (decide (J ≤ bk)))
def wH (J : bz) (g2 : Bool) : Option Int :=
 cond g2 (some 1) (cond (J.Kind == 2) (some 2) (some 0))
def wI (J : bz) : Option Int :=
 cond (J.Kind == 1) (wH J true) (cond (J.Kind == 3) (wH J true) (wH J (J.Kind == 4)))
def zV (kh : Int → Int → Option Bool) (J : List bz) (mD : Int) (ni : Int) : Option Bool :=
 cond (decide (ni < (J.length : Int))) (cond (mD == 0) (some false) ((bM J ni).bind fun ag => (wI ag).bind fun ao => kh (IntKind.i64.wrap (mD + (IntKind.i64.wrap (ao - 1)))) (IntKind.i64.wrap (ni + 1)))) (some (mD == 0))
def rQ (J : List bz) : Nat → Int → Int → Option Bool
 | 0, _, _ => none
 | n + 1, mD, ni => zV (rQ J n) J mD ni
def zW (J : List bz) : Option Bool :=
 cond (((J.length : Int) == 0) || (decide (20 < (J.length : Int)))) (some false) (cV fun n => rQ J n 1 0)
def zX (J : bz) (wJ : Bool) : Option Bool :=
 cond wJ (some (((J.Number == 0) && (J.Name == ([] : List UInt8))) && ((J.cq.length : Int) == 0))) (cond (J.Kind == 1) (some (J.Number == 0)) (cond (J.Kind == 3) (some ((J.Number == 0) && (J.Name == ([] : List UInt8)))) (cond (J.Kind == 4) (some ((J.Name == ([] : List UInt8)) && ((J.cq.length : Int) == 0))) (cond (J.Kind == 5) (some (J.Name == ([] : List UInt8))) (some false)))))
def Eu (J : bz) : Option Bool :=
 cond (J.Kind == 0) (zX J true) (zX J (J.Kind == 2))
def zY (dE : Int → Int → Option Int) (J : List bz) (aV : Int) (aG : Int) : Option Int :=
 cond (decide (0 < aG)) ((bM J aV).bind fun ag => (wI ag).bind fun ao => dE (IntKind.i64.wrap (aV + 1)) (IntKind.i64.wrap (aG + (IntKind.i64.wrap (ao - 1))))) (some aV)
def rR (J : List bz) : Nat → Int → Int → Option Int
 | 0, _, _ => none
 | n + 1, aV, aG => zY (rR J n) J aV aG
def zZ (J : List bz) (ab : Int) : Option Int :=
 cV fun n => rR J n ab 1
def wK (gb : Int → Int → Option Int) (J : bb) (ab : Int) (uk : Int) (um : Int) : Option Int :=
 gb uk (IntKind.i64.wrap (um + 1))
def z0 (gb : Int → Int → Option Int) (J : bb) (ab : Int) (kY : Int) (ki : Int) : Option Int :=
 cond (decide (ki < ab)) ((bM J.Body ki).bind fun ag => cond (ag.Kind == 4) ((zZ J.Body ki).bind fun ao => cond (decide (ab < ao)) (wK gb J ab (IntKind.i64.wrap (kY + 1)) ki) (wK gb J ab kY ki)) (wK gb J ab kY ki)) (some kY)
def qs (J : bb) (ab : Int) : Nat → Int → Int → Option Int
 | 0, _, _ => none
 | n + 1, kY, ki => z0 (qs J ab n) J ab kY ki
def uo (J : bb) (ab : Int) : Option Int :=
 cV fun n => qs J ab n J.dc 0
def z1 (J : bP) (ab : Int) : Option Bool :=
 cond (J.Kind == 0) ((lH J.Value 0 63).bind fun ag => some ag) (cond (J.Kind == 1) ((lH J.Value 0 (IntKind.i64.wrap (ab - 1))).bind fun ao => some ao) (cond (J.Kind == 2) ((lH J.Value 0 8).bind fun aZ => some aZ) (cond (J.Kind == 3) (some (J.Value == 0)) (some false))))
def Ev (J : bP) : Option Int :=
 cond (J.Kind == 2) (some 2) (cond (J.Kind == 3) (some 1) (some 0))
def z2 (kh : Int → Int → Option Bool) (J : List bP) (ab : Int) (g2 : Int) (mE : Int) : Option Bool :=
 cond (decide (mE < (J.length : Int))) (cond (g2 == 0) (some false) ((bM J mE).bind fun ag => (z1 ag ab).bind fun ao => cond (!ao) (some false) ((Ev ag).bind fun aZ => kh (IntKind.i64.wrap (g2 + (IntKind.i64.wrap (aZ - 1)))) (IntKind.i64.wrap (mE + 1))))) (some (g2 == 0))
def rS (J : List bP) (ab : Int) : Nat → Int → Int → Option Bool
 | 0, _, _ => none
 | n + 1, g2, mE => z2 (rS J ab n) J ab g2 mE
def z3 (J : List bP) (ab : Int) (bk : Int) : Option Bool :=
 cond (decide (bk < (J.length : Int))) (some false) (cV fun n => rS J ab n 1 0)
def z4 (Sh : Int → Int → Option Int) (ag : bz) (nj : Int) (nk : Int) : Option Int :=
 cond (decide (nk < (ag.cq.length : Int))) ((bM ag.cq nk).bind fun bl => (z3 bl nj 15).bind fun br => cond (!br) (some 8) (Sh nj (IntKind.i64.wrap (nk + 1)))) (some 0)
def qt (ag : bz) : Nat → Int → Int → Option Int
 | 0, _, _ => none
 | n + 1, nj, nk => z4 (qt ag n) ag nj nk
def uq (ab : bb) (bk : Int) (ag : bz) (wL : Bool) : Option Int :=
 cond wL (some 6) ((uo ab bk).bind fun aZ => cond ((ag.Kind == 4) && (decide (6 ≤ aZ))) (some 7) (cV fun n => qt ag n aZ 0))
def rT (ab : bb) (bk : Int) (ag : bz) : Option Int :=
 cond (ag.Kind == 5) (cond (bk == 0) (uq ab bk ag true) ((bM ab.Body (IntKind.i64.wrap (bk - 1))).bind fun b4 => uq ab bk ag (b4.Kind != 1))) (uq ab bk ag false)
def rU (J : List bb) (ab : bb) (bk : Int) (ag : bz) (wM : Bool) : Option Int :=
 cond wM (some 4) (cond (ag.Kind == 1) (cond ((decide (2 < (ag.cq.length : Int))) || ((decide (0 < (ag.cq.length : Int))) && (ag.Name == ([116, 97, 117] : List UInt8)))) (some 5) (rT ab bk ag)) (cond (ag.Kind == 3) (cond ((ag.cq.length : Int) != 1) (some 5) (rT ab bk ag)) (cond (ag.Kind == 5) ((bM J ag.Number).bind fun dm => cond ((ag.cq.length : Int) != dm.dc) (some 5) (rT ab bk ag)) (rT ab bk ag))))
def z5 (J : List bb) (ab : bb) (bk : Int) (ag : bz) (wN : Bool) : Option Int :=
 cond wN (some 3) (cond (ag.Kind == 4) ((lH ag.Number 1 7).bind fun gh => cond (!gh) (rU J ab bk ag true) (cond (ag.Kind == 5) ((lH ag.Number 0 (IntKind.i64.wrap ((J.length : Int) - 1))).bind fun dB => rU J ab bk ag (!dB)) (rU J ab bk ag false))) (cond (ag.Kind == 5) ((lH ag.Number 0 (IntKind.i64.wrap ((J.length : Int) - 1))).bind fun c4 => rU J ab bk ag (!c4)) (rU J ab bk ag false)))
def wO (J : List bb) (ab : bb) (bk : Int) : Option Int :=
 (bM ab.Body bk).bind fun ag => (Eu ag).bind fun ao => cond (!ao) (some 2) (cond (ag.Kind == 1) ((uj ag.Name).bind fun eF => z5 J ab bk ag (!eF)) (z5 J ab bk ag false))
def wP (fN : Int → Option (Int × Int)) (J : List bb) (ab : bb) (lI : Int) : Option (Int × Int) :=
 cond (decide (lI < (ab.Body.length : Int))) ((wO J ab lI).bind fun ao => cond (decide (0 < ao)) (some (lI, ao)) (fN (IntKind.i64.wrap (lI + 1)))) (some (0, 0))
def qu (J : List bb) (ab : bb) : Nat → Int → Option (Int × Int)
 | 0, _ => none
 | n + 1, lI => wP (qu J ab n) J ab lI
def rV (J : List bb) (ab : bb) : Option (Int × Int) :=
 (zW ab.Body).bind fun ag => cond (!ag) (some (0, 1)) (cV fun n => qu J ab n 0)
def z6 (fN : Int → Option Bool) (Si : Int → Int → Option Bool) (J : List bb) (lJ : Int) (mF : Int) : Option Bool :=
 cond (decide (mF < lJ)) ((bM J mF).bind fun bl => (bM J lJ).bind fun br => cond (bl.Name == br.Name) (some false) (Si lJ (IntKind.i64.wrap (mF + 1)))) (fN (IntKind.i64.wrap (lJ + 1)))
def rW (fN : Int → Option Bool) (J : List bb) : Nat → Int → Int → Option Bool
 | 0, _, _ => none
 | n + 1, lJ, mF => z6 fN (rW fN J n) J lJ mF
def z7 (Sj : Int → Option Bool) (J : List bb) (nm : Int) : Option Bool :=
 cond (decide (nm < (J.length : Int))) ((bM J nm).bind fun b4 => (rV J b4).bind fun dm => cond (decide (0 < dm.2)) (some false) (Sj (IntKind.i64.wrap (nm + 1)))) (some true)
def qv (J : List bb) : Nat → Int → Option Bool
 | 0, _ => none
 | n + 1, nm => z7 (qv J n) J nm
def z8 (fN : Int → Option Bool) (J : List bb) (cN : Int) : Option Bool :=
 cond (decide (cN < (J.length : Int))) ((bM J cN).bind fun ag => (uj ag.Name).bind fun ao => cond (!ao) (some false) ((lH ag.dc 0 3).bind fun aZ => cond (!aZ) (some false) (cV fun n => rW fN J n cN 0))) (cV fun n => qv J n 0)
def nn (J : List bb) : Nat → Int → Option Bool
 | 0, _ => none
 | n + 1, cN => z8 (nn J n) J cN
def z9 (J : List bb) : Option Bool :=
 cond (((J.length : Int) == 0) || (decide (4 < (J.length : Int)))) (some false) (cV fun n => nn J n 0)
def z_ (dE : Int → Option Bool) (J : List Int) (iO : Int) : Option Bool :=
 cond (decide (iO < (J.length : Int))) ((bM J iO).bind fun ag => (lH ag 0 63).bind fun ao => cond (!ao) (some false) (dE (IntKind.i64.wrap (iO + 1)))) (some true)
def rX (J : List Int) : Nat → Int → Option Bool
 | 0, _ => none
 | n + 1, iO => z_ (rX J n) J iO
def Aa (J : List Int) : Option Bool :=
 cV fun n => rX J n 0
def Ab (fN : Int → Option Bool) (J : ev) (cN : Int) : Option Bool :=
 cond (decide (cN < (J.b_.length : Int))) ((bM J.b_ cN).bind fun ag => (lH ag.eo 0 (IntKind.i64.wrap ((J.e8.length : Int) - 1))).bind fun ao => cond (!ao) (some false) ((bM J.e8 ag.eo).bind fun aZ => cond ((ag.c3.length : Int) != aZ.dc) (some false) ((Aa ag.c3).bind fun bl => cond (!bl) (some false) (fN (IntKind.i64.wrap (cN + 1)))))) (some true)
def rY (J : ev) : Nat → Int → Option Bool
 | 0, _ => none
 | n + 1, cN => Ab (rY J n) J cN
def Ac (J : ev) : Option Bool :=
 cond (((J.b_.length : Int) == 0) || (decide (3 < (J.b_.length : Int)))) (some false) (cV fun n => rY J n 0)
def rZ (J : List UInt8) : Option Bool :=
 (uj J).bind fun ag => some (ag && (!(J == ([116, 97, 117] : List UInt8))))
def wQ (fN : Int → Option Bool) (Sk : Int → Int → Option Bool) (J : List bT) (ag : bT) (jq : Int) (jE : Int) : Option Bool :=
 cond (decide (jE < (J.length : Int))) ((bM J jE).bind fun dm => cond ((dm.Left == ag.Result) || (dm.b6 == ag.Result)) (some false) (Sk jq (IntKind.i64.wrap (jE + 1)))) (fN (IntKind.i64.wrap (jq + 1)))
def nZ (fN : Int → Option Bool) (J : List bT) (ag : bT) : Nat → Int → Int → Option Bool
 | 0, _, _ => none
 | n + 1, jq, jE => wQ fN (nZ fN J ag n) J ag jq jE
def Ad (fN : Int → Option Bool) (J : List bT) (cN : Int) : Option Bool :=
 cond (decide (cN < (J.length : Int))) ((bM J cN).bind fun ag => (rZ ag.Left).bind fun ao => cond (!ao) (some false) ((rZ ag.b6).bind fun aZ => cond (!aZ) (some false) ((rZ ag.Result).bind fun bl => cond ((!bl) || (!(Op.bytesLess ag.Left ag.b6 || ag.Left == ag.b6))) (some false) (cond (decide (0 < cN)) ((bM J (IntKind.i64.wrap (cN - 1))).bind fun br => cond ((!(Op.bytesLess br.Left ag.Left || br.Left == ag.Left)) || ((br.Left == ag.Left) && (!(Op.bytesLess br.b6 ag.b6)))) (some false) (cV fun n => nZ fN J ag n cN 0)) (cV fun n => nZ fN J ag n cN 0))))) (some true)
def lf (J : List bT) : Nat → Int → Option Bool
 | 0, _ => none
 | n + 1, cN => Ad (lf J n) J cN
def Ae (J : List bT) : Option Bool :=
 cond (decide (6 < (J.length : Int))) (some false) (cV fun n => lf J n 0)
def Af (dE : Int → Option Bool) (J : List (List UInt8)) (iO : Int) : Option Bool :=
 cond (decide (iO < (J.length : Int))) ((bM J iO).bind fun ag => (rZ ag).bind fun ao => cond (!ao) (some false) (dE (IntKind.i64.wrap (iO + 1)))) (some true)
def r0 (J : List (List UInt8)) : Nat → Int → Option Bool
 | 0, _ => none
 | n + 1, iO => Af (r0 J n) J iO
def Ag (J : List (List UInt8)) : Option Bool :=
 cV fun n => r0 J n 0
def wR (fN : Int → Option Bool) (J : List (List UInt8)) (cN : Int) : Option Bool :=
 cond (decide (cN < (J.length : Int))) ((bM J (IntKind.i64.wrap (cN - 1))).bind fun ao => (bM J cN).bind fun aZ => cond (!(Op.bytesLess ao aZ)) (some false) (fN (IntKind.i64.wrap (cN + 1)))) (some true)
def mG (J : List (List UInt8)) : Nat → Int → Option Bool
 | 0, _ => none
 | n + 1, cN => wR (mG J n) J cN
def wS (J : List (List UInt8)) : Option Bool :=
 cond (decide (12 < (J.length : Int))) (some false) ((Ag J).bind fun ag => cond (!ag) (some false) (cV fun n => mG J n 1))
def Ah (J : ev) : Option Int :=
 (z9 J.e8).bind fun ag => cond (!ag) (some 1) ((Ac J).bind fun ao => cond (!ao) (some 2) ((Ae J.g1).bind fun aZ => cond (!aZ) (some 3) ((wS J.gT).bind fun bl => cond (!bl) (some 4) ((wS J.gU).bind fun br => cond (!br) (some 5) (some 0)))))
def Ai (J : ev) : Option Bool :=
 (Ah J).bind fun ag => some (ag == 0)
def Aj (J : List Int) : Option ((List Int)) :=
 (room 8 (J.length)).bind fun _ => some J
def Ak (gb : (List cU) → Int → Option ((List cU))) (J : ev) (bC : List cU) (bw : Int) : Option ((List cU)) :=
 cond (decide (bw < (J.b_.length : Int))) ((bM J.b_ bw).bind fun ag => (Aj ag.c3).bind fun ao => (room 40 (bC.length + 1)).bind fun _ => gb (bC ++ [(cU.mk ag.eo 0 ao)]) (IntKind.i64.wrap (bw + 1))) (some bC)
def r1 (J : ev) : Nat → (List cU) → Int → Option ((List cU))
 | 0, _, _ => none
 | n + 1, bC, bw => Ak (r1 J n) J bC bw
def Al (J : ev) : Option ((List cU)) :=
 cV fun n => r1 J n [] 0
def Am (J : ev) : Option ((List cU) × Int) :=
 (Ai J).bind fun ag => cond (!ag) (some ([], 1)) ((Al J).bind fun ao => some (ao, 0))
def jc (J : Int) (ab : Int) (bk : Int) : Option Bool :=
 some ((decide (ab ≤ J)) && (decide (J ≤ bk)))
def Ew (J : bb) : Option Bool :=
 (jc J.dc 0 3).bind fun ag => some (!ag)
def An (dE : Int → Option Int) (J : List bb) (c5 : Int) : Option Int :=
 cond (decide (c5 < (J.length : Int))) ((bM J c5).bind fun ag => (Ew ag).bind fun ao => cond ao (some c5) (dE (IntKind.i64.wrap (c5 + 1)))) (some (-1))
def ur (J : List bb) : Nat → Int → Option Int
 | 0, _ => none
 | n + 1, c5 => An (ur J n) J c5
def Ex (J : List bb) : Option Int :=
 cV fun n => ur J n 0
def Ey (J : List bb) : Option Bool :=
 (Ex J).bind fun ag => some (decide (0 ≤ ag))
def Ao (J : List bb) : Option Bool :=
 (Ey J).bind fun ag => some (!ag)
def Ez (J : UInt8) : Option Bool :=
 some ((decide (48 ≤ (J.toNat : Int))) && (decide ((J.toNat : Int) ≤ 57)))
def wT (dE : Int → Option Bool) (J : List UInt8) (eI : Int) : Option Bool :=
 cond (decide (eI < (J.length : Int))) ((bM J eI).bind fun ag => cond (!((decide (97 ≤ (ag.toNat : Int))) && (decide ((ag.toNat : Int) ≤ 122)))) (cond (eI == 0) (some false) ((Ez ag).bind fun ao => cond (!ao) (some false) (dE (IntKind.i64.wrap (eI + 1))))) (dE (IntKind.i64.wrap (eI + 1)))) (some ((decide (1 ≤ (J.length : Int))) && (decide ((J.length : Int) ≤ 10))))
def py (J : List UInt8) : Nat → Int → Option Bool
 | 0, _ => none
 | n + 1, eI => wT (py J n) J eI
def wU (J : List UInt8) : Option Bool :=
 cV fun n => py J n 0
def EA (J : bb) (ab : List UInt8) : Option Bool :=
 some (J.Name == ab)
def Ap (dE : Int → Option Int) (J : List bb) (ab : List UInt8) (c5 : Int) : Option Int :=
 cond (decide (c5 < (J.length : Int))) ((bM J c5).bind fun ag => (EA ag ab).bind fun ao => cond ao (some c5) (dE (IntKind.i64.wrap (c5 + 1)))) (some (-1))
def uu (J : List bb) (ab : List UInt8) : Nat → Int → Option Int
 | 0, _ => none
 | n + 1, c5 => Ap (uu J ab n) J ab c5
def EB (J : List bb) (ab : List UInt8) : Option Int :=
 cV fun n => uu J ab n 0
def Aq (J : List bb) (ab : List UInt8) : Option Int :=
 (EB J ab).bind fun ag => some ag
def wV (J : bz) (dh : Bool) : Option Int :=
 cond dh (some 1) (cond (J.Kind == 2) (some 2) (some 0))
def wW (J : bz) : Option Int :=
 cond (J.Kind == 1) (wV J true) (cond (J.Kind == 3) (wV J true) (wV J (J.Kind == 4)))
def Ar (dE : Int → Int → Option Int) (J : bb) (aV : Int) (aG : Int) : Option Int :=
 cond (decide (0 < aG)) (cond (decide ((J.Body.length : Int) ≤ aV)) (some (-1)) ((bM J.Body aV).bind fun ag => (wW ag).bind fun ao => dE (IntKind.i64.wrap (aV + 1)) (IntKind.i64.wrap (aG + (IntKind.i64.wrap (ao - 1)))))) (some aV)
def r2 (J : bb) : Nat → Int → Int → Option Int
 | 0, _, _ => none
 | n + 1, aV, aG => Ar (r2 J n) J aV aG
def As (J : bb) (ab : Int) : Option Int :=
 cV fun n => r2 J n ab 1
def At (lg : Int → cn → (List cn) → bb → Option (Int × (List cn))) (Sl : (List cn) → Int → Int → Option (Int × (List cn))) (dz : bb) (kj : Int) (ao : bz) (aZ : Int) (n0 : List cn) (mH : Int) (np : Int) : Option (Int × (List cn)) :=
 cond (decide (np < aZ)) ((lg mH (cn.mk kj (ao.Kind == 1)) n0 dz).bind fun bl => Sl bl.2 bl.1 (IntKind.i64.wrap (np + 1))) (some (mH, n0))
def qw (lg : Int → cn → (List cn) → bb → Option (Int × (List cn))) (dz : bb) (kj : Int) (ao : bz) (aZ : Int) : Nat → (List cn) → Int → Int → Option (Int × (List cn))
 | 0, _, _, _ => none
 | n + 1, n0, mH, np => At lg (qw lg dz kj ao aZ n) dz kj ao aZ n0 mH np
def Au (lg : Int → cn → (List cn) → bb → Option (Int × (List cn))) (J : Int) (ab : cn) (bk : List cn) (dz : bb) (ao : bz) (kj : Int) : Option (Int × (List cn)) :=
 (wW ao).bind fun aZ => cV fun n => qw lg dz kj ao aZ n (List.set bk (Int.toNat J) ab) (IntKind.i64.wrap (J + 1)) 0
def EC (lg : Int → cn → (List cn) → bb → Option (Int × (List cn))) (J : Int) (ab : cn) (bk : List cn) (dz : bb) : Option (Int × (List cn)) :=
 (bM bk J).bind fun ag => (bM dz.Body J).bind fun ao => cond (ao.Kind == 4) (Au lg J ab bk dz ao (IntKind.i64.wrap (ab.scope + 1))) (Au lg J ab bk dz ao ab.scope)
def r3 : Nat → Int → cn → (List cn) → bb → Option (Int × (List cn))
 | 0, _, _, _, _ => none
 | n + 1, J, ab, bk, dz => EC (r3 n) J ab bk dz
def Av (J : Int) (ab : cn) (bk : List cn) (dz : bb) : Option (Int × (List cn)) :=
 cV fun n => r3 n J ab bk dz
def Aw (J : bb) : Option ((List cn)) :=
 (mj 16 (J.Body.length : Int)).bind fun _ => (Av 0 (cn.mk J.dc false) (List.replicate (Int.toNat (J.Body.length : Int)) (cn.mk 0 false)) J).bind fun ag => some ag.2
def ED (J : bz) : Option Bool :=
 (jc J.Kind 0 5).bind fun ag => some (((ag && (((J.Kind == 4) || (J.Kind == 5)) || (J.Number == 0))) && ((J.Kind == 1) || (J.Name == ([] : List UInt8)))) && ((((J.Kind == 1) || (J.Kind == 3)) || (J.Kind == 5)) || ((J.cq.length : Int) == 0)))
def pz (J : List UInt8) : Option Bool :=
 (wU J).bind fun ag => some (ag && (!(J == ([116, 97, 117] : List UInt8))))
def uv (J : Int) (ab : Int) : Option Bool :=
 (jc J 0 (IntKind.i64.wrap (ab - 1))).bind fun ag => some ag
def EE (J : bz) (ab : List bb) : Option Bool :=
 cond (J.Kind == 1) (some (((J.cq.length : Int) == 0) || ((!(J.Name == ([116, 97, 117] : List UInt8))) && (decide ((J.cq.length : Int) ≤ 2))))) (cond (J.Kind == 3) (some ((J.cq.length : Int) == 1)) (cond (J.Kind == 5) ((bM ab J.Number).bind fun ag => some ((J.cq.length : Int) == ag.dc)) (some true)))
def wX (J : Int) : Option Bool :=
 (jc J 0 63).bind fun ag => some ag
def Ax (J : bP) (ab : Int) : Option Bool :=
 cond (J.Kind == 0) ((wX J.Value).bind fun ag => some ag) (cond (J.Kind == 1) ((jc J.Value 0 (IntKind.i64.wrap (ab - 1))).bind fun ao => some ao) (cond (J.Kind == 2) ((jc J.Value 0 8).bind fun aZ => some aZ) (cond (J.Kind == 3) (some (J.Value == 0)) (some false))))
def EF (J : bP) : Option Int :=
 cond (J.Kind == 2) (some 2) (cond (J.Kind == 3) (some 1) (some 0))
def Ay (kh : Int → Int → Option Bool) (J : List bP) (ab : Int) (g2 : Int) (mI : Int) : Option Bool :=
 cond (decide (mI < (J.length : Int))) ((bM J mI).bind fun bl => cond (g2 == 0) (some false) ((Ax bl ab).bind fun br => cond (!br) (some false) ((EF bl).bind fun b4 => kh (IntKind.i64.wrap (g2 + (IntKind.i64.wrap (b4 - 1)))) (IntKind.i64.wrap (mI + 1))))) (some (g2 == 0))
def r4 (J : List bP) (ab : Int) : Nat → Int → Int → Option Bool
 | 0, _, _ => none
 | n + 1, g2, mI => Ay (r4 J ab n) J ab g2 mI
def Az (J : List bP) (ab : Int) (bk : Int) : Option Bool :=
 (jc ab 0 29).bind fun ag => cond (!ag) (some false) ((jc bk 1 60).bind fun ao => cond (!ao) (some false) ((jc (J.length : Int) 1 bk).bind fun aZ => cond (!aZ) (some false) (cV fun n => r4 J ab n 1 0)))
def EG (J : List bP) (ab : cn) : Option Bool :=
 (Az J ab.scope 15).bind fun ag => some (!ag)
def AA (dE : Int → Option Int) (J : List (List bP)) (ab : cn) (c5 : Int) : Option Int :=
 cond (decide (c5 < (J.length : Int))) ((bM J c5).bind fun ag => (EG ag ab).bind fun ao => cond ao (some c5) (dE (IntKind.i64.wrap (c5 + 1)))) (some (-1))
def uw (J : List (List bP)) (ab : cn) : Nat → Int → Option Int
 | 0, _ => none
 | n + 1, c5 => AA (uw J ab n) J ab c5
def EH (J : List (List bP)) (ab : cn) : Option Int :=
 cV fun n => uw J ab n 0
def AB (J : List (List bP)) (ab : cn) : Option Bool :=
 (EH J ab).bind fun ag => some (decide (0 ≤ ag))
def r5 (J : bz) (ab : List bb) (bk : cn) (wY : Bool) : Option Int :=
 cond wY (some 4) ((EE J ab).bind fun ao => cond (!ao) (some 5) (cond ((J.Kind == 5) && (!bk.behind)) (some 6) (cond ((J.Kind == 4) && (decide (6 ≤ bk.scope))) (some 7) ((AB J.cq bk).bind fun aZ => cond aZ (some 8) (some 0)))))
def wZ (J : bz) (ab : List bb) (bk : cn) (w1 : Bool) : Option Int :=
 cond w1 (some 3) (cond (J.Kind == 4) ((jc J.Number 1 7).bind fun bl => cond (!bl) (r5 J ab bk true) (cond (J.Kind == 5) ((uv J.Number (ab.length : Int)).bind fun br => r5 J ab bk (!br)) (r5 J ab bk false))) (cond (J.Kind == 5) ((uv J.Number (ab.length : Int)).bind fun b4 => r5 J ab bk (!b4)) (r5 J ab bk false)))
def w2 (J : bz) (ab : List bb) (bk : cn) : Option Int :=
 (ED J).bind fun ag => cond (!ag) (some 2) (cond (J.Kind == 1) (cond (!(J.Name == ([116, 97, 117] : List UInt8))) ((pz J.Name).bind fun dm => wZ J ab bk (!dm)) (wZ J ab bk false)) (wZ J ab bk false))
def w3 (kh : Int → Option (Int × Int)) (J : List bb) (ab : bb) (aZ : (List cn)) (kZ : Int) : Option (Int × Int) :=
 cond (decide (kZ < (ab.Body.length : Int))) ((bM ab.Body kZ).bind fun bl => (bM aZ kZ).bind fun br => (w2 bl J br).bind fun b4 => cond (b4 != 0) (some (kZ, b4)) (kh (IntKind.i64.wrap (kZ + 1)))) (some (0, 0))
def qx (J : List bb) (ab : bb) (aZ : (List cn)) : Nat → Int → Option (Int × Int)
 | 0, _ => none
 | n + 1, kZ => w3 (qx J ab aZ n) J ab aZ kZ
def w4 (J : List bb) (ab : bb) : Option (Int × Int) :=
 (jc (ab.Body.length : Int) 1 20).bind fun ag => cond (!ag) (some (0, 1)) ((As ab 0).bind fun ao => cond (ao != (ab.Body.length : Int)) (some (0, 1)) ((Aw ab).bind fun aZ => cV fun n => qx J ab aZ n 0))
def AD (fN : Int → Option Bool) (J : List bb) (lK : Int) : Option Bool :=
 cond (decide (lK < (J.length : Int))) ((bM J lK).bind fun aZ => (wU aZ.Name).bind fun bl => cond (!bl) (some false) ((js J 0 lK).bind fun br => (Aq br aZ.Name).bind fun b4 => cond (decide (0 ≤ b4)) (some false) ((w4 J aZ).bind fun dm => cond (dm.2 != 0) (some false) (fN (IntKind.i64.wrap (lK + 1)))))) (some true)
def r6 (J : List bb) : Nat → Int → Option Bool
 | 0, _ => none
 | n + 1, lK => AD (r6 J n) J lK
def AE (J : List bb) : Option Bool :=
 (jc (J.length : Int) 1 4).bind fun ag => cond (!ag) (some false) ((Ao J).bind fun ao => cond (!ao) (some false) (cV fun n => r6 J n 0))
def EI (J : Int) : Option Bool :=
 (wX J).bind fun ag => some (!ag)
def AF (dE : Int → Option Int) (J : List Int) (c5 : Int) : Option Int :=
 cond (decide (c5 < (J.length : Int))) ((bM J c5).bind fun ag => (EI ag).bind fun ao => cond ao (some c5) (dE (IntKind.i64.wrap (c5 + 1)))) (some (-1))
def ux (J : List Int) : Nat → Int → Option Int
 | 0, _ => none
 | n + 1, c5 => AF (ux J n) J c5
def EJ (J : List Int) : Option Int :=
 cV fun n => ux J n 0
def EK (J : List Int) : Option Bool :=
 (EJ J).bind fun ag => some (decide (0 ≤ ag))
def AG (J : List Int) : Option Bool :=
 (EK J).bind fun ag => some (!ag)
def AH (J : List bb) (ab : cX) : Option Bool :=
 (uv ab.eo (J.length : Int)).bind fun ag => cond ag ((bM J ab.eo).bind fun ao => cond ((ab.c3.length : Int) == ao.dc) ((AG ab.c3).bind fun aZ => some aZ) (some false)) (some false)
def EL (J : cX) (ab : ev) : Option Bool :=
 (AH ab.e8 J).bind fun ag => some (!ag)
def AJ (dE : Int → Option Int) (J : List cX) (ab : ev) (c5 : Int) : Option Int :=
 cond (decide (c5 < (J.length : Int))) ((bM J c5).bind fun ag => (EL ag ab).bind fun ao => cond ao (some c5) (dE (IntKind.i64.wrap (c5 + 1)))) (some (-1))
def uy (J : List cX) (ab : ev) : Nat → Int → Option Int
 | 0, _ => none
 | n + 1, c5 => AJ (uy J ab n) J ab c5
def EM (J : List cX) (ab : ev) : Option Int :=
 cV fun n => uy J ab n 0
def AK (J : List cX) (ab : ev) : Option Bool :=
 (EM J ab).bind fun ag => some (decide (0 ≤ ag))
def AL (J : List UInt8) : Option Bool :=
 some false
def AM (J : List UInt8) (ab : List UInt8) : Option Int :=
 (AL J).bind fun ag => (AL ab).bind fun ao => cond ag (cond ao (some 0) (some (-1))) (cond ao (some 1) (cond (Op.bytesLess J ab) (some (-1)) (cond (!(Op.bytesLess J ab || J == ab)) (some 1) (some 0))))
def EN (dE : Int → Option Int) (J : List (List UInt8)) (ab : List (List UInt8)) (l7 : Int) : Option Int :=
 cond (decide (l7 < (J.length : Int))) ((bM J l7).bind fun ag => cond (decide ((ab.length : Int) ≤ l7)) (some 1) ((bM ab l7).bind fun ao => (AM ag ao).bind fun aZ => cond (aZ != 0) (some aZ) (dE (IntKind.i64.wrap (l7 + 1))))) (cond (decide ((J.length : Int) < (ab.length : Int))) (some (-1)) (some 0))
def w5 (J : List (List UInt8)) (ab : List (List UInt8)) : Nat → Int → Option Int
 | 0, _ => none
 | n + 1, l7 => EN (w5 J ab n) J ab l7
def AN (J : List (List UInt8)) (ab : List (List UInt8)) : Option Int :=
 cV fun n => w5 J ab n 0
def AO (J : bT) (ab : bT) : Option Int :=
 (AN [J.Left, J.b6] [ab.Left, ab.b6]).bind fun ag => some ag
def EO (J : bT) (ab : bT) : Option Bool :=
 some ((J.Left == ab.Result) || (J.b6 == ab.Result))
def AP (dE : Int → Option Int) (J : List bT) (ab : bT) (c5 : Int) : Option Int :=
 cond (decide (c5 < (J.length : Int))) ((bM J c5).bind fun ag => (EO ag ab).bind fun ao => cond ao (some c5) (dE (IntKind.i64.wrap (c5 + 1)))) (some (-1))
def uz (J : List bT) (ab : bT) : Nat → Int → Option Int
 | 0, _ => none
 | n + 1, c5 => AP (uz J ab n) J ab c5
def EP (J : List bT) (ab : bT) : Option Int :=
 cV fun n => uz J ab n 0
def w6 (J : List bT) (ab : bT) : Option Bool :=
 (EP J ab).bind fun ag => some (decide (0 ≤ ag))
def AQ (dE : Int → Option Bool) (J : List bT) (eI : Int) : Option Bool :=
 cond (decide (eI < (J.length : Int))) ((bM J eI).bind fun ag => (pz ag.Left).bind fun br => cond (!br) (some false) ((pz ag.b6).bind fun b4 => cond (!b4) (some false) ((pz ag.Result).bind fun dm => cond (!dm) (some false) (cond (!(Op.bytesLess ag.Left ag.b6 || ag.Left == ag.b6)) (some false) (cond (decide (0 < eI)) ((bM J (IntKind.i64.wrap (eI - 1))).bind fun gh => (AO gh ag).bind fun dB => cond (decide (0 ≤ dB)) (some false) ((w6 J ag).bind fun c4 => cond c4 (some false) (dE (IntKind.i64.wrap (eI + 1))))) ((w6 J ag).bind fun eF => cond eF (some false) (dE (IntKind.i64.wrap (eI + 1))))))))) (some (decide ((J.length : Int) ≤ 6)))
def r7 (J : List bT) : Nat → Int → Option Bool
 | 0, _ => none
 | n + 1, eI => AQ (r7 J n) J eI
def AR (J : List bT) : Option Bool :=
 cV fun n => r7 J n 0
def AS (dE : Int → Option Bool) (J : List (List UInt8)) (eI : Int) : Option Bool :=
 cond (decide (eI < (J.length : Int))) ((bM J eI).bind fun ag => (pz ag).bind fun ao => cond (!ao) (some false) (cond (decide (0 < eI)) ((bM J (IntKind.i64.wrap (eI - 1))).bind fun aZ => cond (Op.bytesLess ag aZ || ag == aZ) (some false) (dE (IntKind.i64.wrap (eI + 1)))) (dE (IntKind.i64.wrap (eI + 1))))) (some (decide ((J.length : Int) ≤ 12)))
def r8 (J : List (List UInt8)) : Nat → Int → Option Bool
 | 0, _ => none
 | n + 1, eI => AS (r8 J n) J eI
def w7 (J : List (List UInt8)) : Option Bool :=
 cV fun n => r8 J n 0
def AU (J : ev) : Option Int :=
 (AE J.e8).bind fun ag => cond (!ag) (some 1) ((jc (J.b_.length : Int) 1 3).bind fun ao => cond (!ao) (some 2) ((AK J.b_ J).bind fun aZ => cond aZ (some 2) ((AR J.g1).bind fun bl => cond (!bl) (some 3) ((w7 J.gT).bind fun br => cond (!br) (some 4) ((w7 J.gU).bind fun b4 => cond (!b4) (some 5) (some 0))))))
def AV (J : ev) : Option Bool :=
 (AU J).bind fun ag => some (ag == 0)
def AW (J : List Int) : Option ((List Int)) :=
 cond J.isEmpty (both (some []) ((room 8 (J.length)).bind fun _ => some J)) ((room 8 (J.length)).bind fun _ => some J)
def AX (gb : (List cU) → Int → Option ((List cU))) (J : ev) (bC : List cU) (l8 : Int) : Option ((List cU)) :=
 cond (decide (l8 < (J.b_.length : Int))) ((bM J.b_ l8).bind fun ag => (AW ag.c3).bind fun ao => (room 40 (bC.length + 1)).bind fun _ => gb (bC ++ [(cU.mk ag.eo 0 ao)]) (IntKind.i64.wrap (l8 + 1))) (some bC)
def r9 (J : ev) : Nat → (List cU) → Int → Option ((List cU))
 | 0, _, _ => none
 | n + 1, bC, l8 => AX (r9 J n) J bC l8
def AY (J : ev) : Option ((List cU)) :=
 cV fun n => r9 J n [] 0
def w8 (J : ev) : Option ((List cU) × Int) :=
 (AV J).bind fun ag => cond (!ag) (some ([], 1)) ((AY J).bind fun ao => some (ao, 0))
def JZ (fN : Int → Option Bool) (J : List Int) (ab : List Int) (bU : Int) : Option Bool :=
 cond (decide (bU < (J.length : Int))) ((bM J bU).bind fun ag => (bM ab bU).bind fun ao => cond (ag != ao) (some false) (fN (IntKind.i64.wrap (bU + 1)))) (some true)
def AZ (J : List Int) (ab : List Int) : Nat → Int → Option Bool
 | 0, _ => none
 | n + 1, bU => JZ (AZ J ab n) J ab bU
def w9 (J : List Int) (ab : List Int) : Option Bool :=
 cond ((J.length : Int) != (ab.length : Int)) (some false) (cV fun n => AZ J ab n 0)
def w_ (J : cU) (ab : cU) : Option Bool :=
 cond (J.eo != ab.eo) (some false) (cond (J.Part != ab.Part) (some false) ((w9 J.c3 ab.c3).bind fun ag => cond (!ag) (some false) (some true)))
def J0 (fN : Int → Option Bool) (J : List cU) (ab : List cU) (bU : Int) : Option Bool :=
 cond (decide (bU < (J.length : Int))) ((bM J bU).bind fun ag => (bM ab bU).bind fun ao => (w_ ag ao).bind fun aZ => cond (!aZ) (some false) (fN (IntKind.i64.wrap (bU + 1)))) (some true)
def A0 (J : List cU) (ab : List cU) : Nat → Int → Option Bool
 | 0, _ => none
 | n + 1, bU => J0 (A0 J ab n) J ab bU
def uA (J : List cU) (ab : List cU) : Option Bool :=
 cond ((J.length : Int) != (ab.length : Int)) (some false) (cV fun n => A0 J ab n 0)
def xa (J : bP) (ab : bP) : Option Bool :=
 cond (J.Kind != ab.Kind) (some false) (cond (J.Value != ab.Value) (some false) (some true))
def J1 (fN : Int → Option Bool) (J : List bP) (ab : List bP) (bU : Int) : Option Bool :=
 cond (decide (bU < (J.length : Int))) ((bM J bU).bind fun ag => (bM ab bU).bind fun ao => (xa ag ao).bind fun aZ => cond (!aZ) (some false) (fN (IntKind.i64.wrap (bU + 1)))) (some true)
def A1 (J : List bP) (ab : List bP) : Nat → Int → Option Bool
 | 0, _ => none
 | n + 1, bU => J1 (A1 J ab n) J ab bU
def xb (J : List bP) (ab : List bP) : Option Bool :=
 cond ((J.length : Int) != (ab.length : Int)) (some false) (cV fun n => A1 J ab n 0)
def J2 (fN : Int → Option Bool) (J : List (List bP)) (ab : List (List bP)) (bU : Int) : Option Bool :=
 cond (decide (bU < (J.length : Int))) ((bM J bU).bind fun ag => (bM ab bU).bind fun ao => (xb ag ao).bind fun aZ => cond (!aZ) (some false) (fN (IntKind.i64.wrap (bU + 1)))) (some true)
def A2 (J : List (List bP)) (ab : List (List bP)) : Nat → Int → Option Bool
 | 0, _ => none
 | n + 1, bU => J2 (A2 J ab n) J ab bU
def A3 (J : List (List bP)) (ab : List (List bP)) : Option Bool :=
 cond ((J.length : Int) != (ab.length : Int)) (some false) (cV fun n => A2 J ab n 0)
def xc (J : bz) (ab : bz) : Option Bool :=
 cond (J.Kind != ab.Kind) (some false) (cond (J.Number != ab.Number) (some false) (cond (!(J.Name == ab.Name)) (some false) ((A3 J.cq ab.cq).bind fun ag => cond (!ag) (some false) (some true))))
def J3 (fN : Int → Option Bool) (J : List bz) (ab : List bz) (bU : Int) : Option Bool :=
 cond (decide (bU < (J.length : Int))) ((bM J bU).bind fun ag => (bM ab bU).bind fun ao => (xc ag ao).bind fun aZ => cond (!aZ) (some false) (fN (IntKind.i64.wrap (bU + 1)))) (some true)
def A4 (J : List bz) (ab : List bz) : Nat → Int → Option Bool
 | 0, _ => none
 | n + 1, bU => J3 (A4 J ab n) J ab bU
def A5 (J : List bz) (ab : List bz) : Option Bool :=
 cond ((J.length : Int) != (ab.length : Int)) (some false) (cV fun n => A4 J ab n 0)
def xd (J : bb) (ab : bb) : Option Bool :=
 cond (!(J.Name == ab.Name)) (some false) (cond (J.dc != ab.dc) (some false) ((A5 J.Body ab.Body).bind fun ag => cond (!ag) (some false) (some true)))
def J4 (fN : Int → Option Bool) (J : List bb) (ab : List bb) (bU : Int) : Option Bool :=
 cond (decide (bU < (J.length : Int))) ((bM J bU).bind fun ag => (bM ab bU).bind fun ao => (xd ag ao).bind fun aZ => cond (!aZ) (some false) (fN (IntKind.i64.wrap (bU + 1)))) (some true)
def A6 (J : List bb) (ab : List bb) : Nat → Int → Option Bool
 | 0, _ => none
 | n + 1, bU => J4 (A6 J ab n) J ab bU
def xe (J : List bb) (ab : List bb) : Option Bool :=
 cond ((J.length : Int) != (ab.length : Int)) (some false) (cV fun n => A6 J ab n 0)
def xf (J : cX) (ab : cX) : Option Bool :=
 cond (J.eo != ab.eo) (some false) ((w9 J.c3 ab.c3).bind fun ag => cond (!ag) (some false) (some true))
def J5 (fN : Int → Option Bool) (J : List cX) (ab : List cX) (bU : Int) : Option Bool :=
 cond (decide (bU < (J.length : Int))) ((bM J bU).bind fun ag => (bM ab bU).bind fun ao => (xf ag ao).bind fun aZ => cond (!aZ) (some false) (fN (IntKind.i64.wrap (bU + 1)))) (some true)
def A7 (J : List cX) (ab : List cX) : Nat → Int → Option Bool
 | 0, _ => none
 | n + 1, bU => J5 (A7 J ab n) J ab bU
def A8 (J : List cX) (ab : List cX) : Option Bool :=
 cond ((J.length : Int) != (ab.length : Int)) (some false) (cV fun n => A7 J ab n 0)
def xg (J : bT) (ab : bT) : Option Bool :=
 cond (!(J.Left == ab.Left)) (some false) (cond (!(J.b6 == ab.b6)) (some false) (cond (!(J.Result == ab.Result)) (some false) (some true)))
def J6 (fN : Int → Option Bool) (J : List bT) (ab : List bT) (bU : Int) : Option Bool :=
 cond (decide (bU < (J.length : Int))) ((bM J bU).bind fun ag => (bM ab bU).bind fun ao => (xg ag ao).bind fun aZ => cond (!aZ) (some false) (fN (IntKind.i64.wrap (bU + 1)))) (some true)
def A9 (J : List bT) (ab : List bT) : Nat → Int → Option Bool
 | 0, _ => none
 | n + 1, bU => J6 (A9 J ab n) J ab bU
def A_ (J : List bT) (ab : List bT) : Option Bool :=
 cond ((J.length : Int) != (ab.length : Int)) (some false) (cV fun n => A9 J ab n 0)
def J7 (fN : Int → Option Bool) (J : List (List UInt8)) (ab : List (List UInt8)) (bU : Int) : Option Bool :=
 cond (decide (bU < (J.length : Int))) ((bM J bU).bind fun ag => (bM ab bU).bind fun ao => cond (!(ag == ao)) (some false) (fN (IntKind.i64.wrap (bU + 1)))) (some true)
def Ba (J : List (List UInt8)) (ab : List (List UInt8)) : Nat → Int → Option Bool
 | 0, _ => none
 | n + 1, bU => J7 (Ba J ab n) J ab bU
def xh (J : List (List UInt8)) (ab : List (List UInt8)) : Option Bool :=
 cond ((J.length : Int) != (ab.length : Int)) (some false) (cV fun n => Ba J ab n 0)
def xi (J : ev) (ab : ev) : Option Bool :=
 (xe J.e8 ab.e8).bind fun ag => cond (!ag) (some false) ((A8 J.b_ ab.b_).bind fun ao => cond (!ao) (some false) ((A_ J.g1 ab.g1).bind fun aZ => cond (!aZ) (some false) ((xh J.gT ab.gT).bind fun bl => cond (!bl) (some false) ((xh J.gU ab.gU).bind fun br => cond (!br) (some false) (some true)))))
def xj (fN : Int → (List UInt8) → Option ((List UInt8))) (jF : Int) (cN : List UInt8) : Option ((List UInt8)) :=
 cond (decide (0 < jF)) ((ow (1 + cN.length)).bind fun _ => fN (IntKind.i64.wrap (Int.tdiv jF 10)) ([(o_ (IntKind.i64.wrap (48 + (Int.tmod jF 10))))] ++ cN)) ((ow (1 + cN.length)).bind fun _ => some (([109] : List UInt8) ++ cN))
def qy : Nat → Int → (List UInt8) → Option ((List UInt8))
 | 0, _, _ => none
 | n + 1, jF, cN => xj (qy n) jF cN
def pA (J : Int) : Option ((List UInt8)) :=
 cond (decide (J ≤ 0)) (some ([109, 48] : List UInt8)) (cV fun n => qy n J ([] : List UInt8))
def Bb (dE : (List bP) → Int → Int → Option (Int × (List bP))) (bs : List bP) (aV : Int) (aG : Int) : Option (Int × (List bP)) :=
 cond (decide (aG < (bs.length : Int))) ((bM bs aG).bind fun ag => (bM (List.set bs (Int.toNat aG) (bP.mk aV ag.Value)) aG).bind fun ao => dE (List.set (List.set bs (Int.toNat aG) (bP.mk aV ag.Value)) (Int.toNat aG) (bP.mk ao.Kind (IntKind.i64.wrap (aV + 1)))) (IntKind.i64.wrap ((IntKind.i64.wrap (aV + 1)) + 1)) (IntKind.i64.wrap (aG + 1))) (some (aV, bs))
def r_ : Nat → (List bP) → Int → Int → Option (Int × (List bP))
 | 0, _, _, _ => none
 | n + 1, bs, aV, aG => Bb (r_ n) bs aV aG
def Bc (J : List bP) (ab : Int) : Option (Int × (List bP)) :=
 cV fun n => r_ n J ab 0
def Bd (dE : (List (List bP)) → Int → Int → Option (Int × (List (List bP)))) (bs : List (List bP)) (aV : Int) (aG : Int) : Option (Int × (List (List bP))) :=
 cond (decide (aG < (bs.length : Int))) ((bM bs aG).bind fun ag => (Bc ag aV).bind fun ao => dE (List.set bs (Int.toNat aG) ao.2) ao.1 (IntKind.i64.wrap (aG + 1))) (some (aV, bs))
def sa : Nat → (List (List bP)) → Int → Int → Option (Int × (List (List bP)))
 | 0, _, _, _ => none
 | n + 1, bs, aV, aG => Bd (sa n) bs aV aG
def Be (J : List (List bP)) (ab : Int) : Option (Int × (List (List bP))) :=
 cV fun n => sa n J ab 0
def Bf (dE : (List bz) → Int → Int → Option (Int × (List bz))) (bs : List bz) (aV : Int) (aG : Int) : Option (Int × (List bz)) :=
 cond (decide (aG < (bs.length : Int))) ((bM bs aG).bind fun ag => (bM (List.set bs (Int.toNat aG) (bz.mk aV ag.Number ag.Name ag.cq)) aG).bind fun ao => (pA (IntKind.i64.wrap ((IntKind.i64.wrap (aV + 1)) + 1))).bind fun aZ => (bM (List.set (List.set bs (Int.toNat aG) (bz.mk aV ag.Number ag.Name ag.cq)) (Int.toNat aG) (bz.mk ao.Kind (IntKind.i64.wrap (aV + 1)) ao.Name ao.cq)) aG).bind fun bl => (bM (List.set (List.set (List.set bs (Int.toNat aG) (bz.mk aV ag.Number ag.Name ag.cq)) (Int.toNat aG) (bz.mk ao.Kind (IntKind.i64.wrap (aV + 1)) ao.Name ao.cq)) (Int.toNat aG) (bz.mk bl.Kind bl.Number aZ bl.cq)) aG).bind fun br => (Be br.cq (IntKind.i64.wrap ((IntKind.i64.wrap ((IntKind.i64.wrap (aV + 1)) + 1)) + 1))).bind fun b4 => dE (List.set (List.set (List.set (List.set bs (Int.toNat aG) (bz.mk aV ag.Number ag.Name ag.cq)) (Int.toNat aG) (bz.mk ao.Kind (IntKind.i64.wrap (aV + 1)) ao.Name ao.cq)) (Int.toNat aG) (bz.mk bl.Kind bl.Number aZ bl.cq)) (Int.toNat aG) (bz.mk br.Kind br.Number br.Name b4.2)) b4.1 (IntKind.i64.wrap (aG + 1))) (some (aV, bs))
def sb : Nat → (List bz) → Int → Int → Option (Int × (List bz))
 | 0, _, _, _ => none
 | n + 1, bs, aV, aG => Bf (sb n) bs aV aG
def Bg (J : List bz) (ab : Int) : Option (Int × (List bz)) :=
 cV fun n => sb n J ab 0
def Bh (dE : (List bb) → Int → Int → Option (Int × (List bb))) (bs : List bb) (aV : Int) (aG : Int) : Option (Int × (List bb)) :=
 cond (decide (aG < (bs.length : Int))) ((pA aV).bind fun ag => (bM bs aG).bind fun ao => (bM (List.set bs (Int.toNat aG) (bb.mk ag ao.dc ao.Body)) aG).bind fun aZ => (bM (List.set (List.set bs (Int.toNat aG) (bb.mk ag ao.dc ao.Body)) (Int.toNat aG) (bb.mk aZ.Name (IntKind.i64.wrap (aV + 1)) aZ.Body)) aG).bind fun bl => (Bg bl.Body (IntKind.i64.wrap ((IntKind.i64.wrap (aV + 1)) + 1))).bind fun br => dE (List.set (List.set (List.set bs (Int.toNat aG) (bb.mk ag ao.dc ao.Body)) (Int.toNat aG) (bb.mk aZ.Name (IntKind.i64.wrap (aV + 1)) aZ.Body)) (Int.toNat aG) (bb.mk bl.Name bl.dc br.2)) br.1 (IntKind.i64.wrap (aG + 1))) (some (aV, bs))
def sc : Nat → (List bb) → Int → Int → Option (Int × (List bb))
 | 0, _, _, _ => none
 | n + 1, bs, aV, aG => Bh (sc n) bs aV aG
def Bi (J : List bb) (ab : Int) : Option (Int × (List bb)) :=
 cV fun n => sc n J ab 0
def Bj (dE : (List Int) → Int → Int → Option (Int × (List Int))) (bs : List Int) (aV : Int) (aG : Int) : Option (Int × (List Int)) :=
 cond (decide (aG < (bs.length : Int))) ((bM bs aG).bind fun ag => dE (List.set bs (Int.toNat aG) aV) (IntKind.i64.wrap (aV + 1)) (IntKind.i64.wrap (aG + 1))) (some (aV, bs))
def sd : Nat → (List Int) → Int → Int → Option (Int × (List Int))
 | 0, _, _, _ => none
 | n + 1, bs, aV, aG => Bj (sd n) bs aV aG
def xk (J : List Int) (ab : Int) : Option (Int × (List Int)) :=
 cV fun n => sd n J ab 0
def Bk (dE : (List cX) → Int → Int → Option (Int × (List cX))) (bs : List cX) (aV : Int) (aG : Int) : Option (Int × (List cX)) :=
 cond (decide (aG < (bs.length : Int))) ((bM bs aG).bind fun ag => (bM (List.set bs (Int.toNat aG) (cX.mk aV ag.c3)) aG).bind fun ao => (xk ao.c3 (IntKind.i64.wrap (aV + 1))).bind fun aZ => dE (List.set (List.set bs (Int.toNat aG) (cX.mk aV ag.c3)) (Int.toNat aG) (cX.mk ao.eo aZ.2)) aZ.1 (IntKind.i64.wrap (aG + 1))) (some (aV, bs))
def se : Nat → (List cX) → Int → Int → Option (Int × (List cX))
 | 0, _, _, _ => none
 | n + 1, bs, aV, aG => Bk (se n) bs aV aG
def Bl (J : List cX) (ab : Int) : Option (Int × (List cX)) :=
 cV fun n => se n J ab 0
def Bm (dE : (List bT) → Int → Int → Option (Int × (List bT))) (bs : List bT) (aV : Int) (aG : Int) : Option (Int × (List bT)) :=
 cond (decide (aG < (bs.length : Int))) ((pA aV).bind fun ag => (bM bs aG).bind fun ao => (pA (IntKind.i64.wrap (aV + 1))).bind fun aZ => (bM (List.set bs (Int.toNat aG) (bT.mk ag ao.b6 ao.Result)) aG).bind fun bl => (pA (IntKind.i64.wrap ((IntKind.i64.wrap (aV + 1)) + 1))).bind fun br => (bM (List.set (List.set bs (Int.toNat aG) (bT.mk ag ao.b6 ao.Result)) (Int.toNat aG) (bT.mk bl.Left aZ bl.Result)) aG).bind fun b4 => dE (List.set (List.set (List.set bs (Int.toNat aG) (bT.mk ag ao.b6 ao.Result)) (Int.toNat aG) (bT.mk bl.Left aZ bl.Result)) (Int.toNat aG) (bT.mk b4.Left b4.b6 br)) (IntKind.i64.wrap ((IntKind.i64.wrap ((IntKind.i64.wrap (aV + 1)) + 1)) + 1)) (IntKind.i64.wrap (aG + 1))) (some (aV, bs))
def sf : Nat → (List bT) → Int → Int → Option (Int × (List bT))
 | 0, _, _, _ => none
 | n + 1, bs, aV, aG => Bm (sf n) bs aV aG
def Bn (J : List bT) (ab : Int) : Option (Int × (List bT)) :=
 cV fun n => sf n J ab 0
def Bo (dE : (List (List UInt8)) → Int → Int → Option (Int × (List (List UInt8)))) (bs : List (List UInt8)) (aV : Int) (aG : Int) : Option (Int × (List (List UInt8))) :=
 cond (decide (aG < (bs.length : Int))) ((pA aV).bind fun ag => (bM bs aG).bind fun ao => dE (List.set bs (Int.toNat aG) ag) (IntKind.i64.wrap (aV + 1)) (IntKind.i64.wrap (aG + 1))) (some (aV, bs))
def sg : Nat → (List (List UInt8)) → Int → Int → Option (Int × (List (List UInt8)))
 | 0, _, _, _ => none
 | n + 1, bs, aV, aG => Bo (sg n) bs aV aG
def xl (J : List (List UInt8)) (ab : Int) : Option (Int × (List (List UInt8))) :=
 cV fun n => sg n J ab 0
def Bp (si : List bb) (qz : List cX) (pB : List bT) (oW : List (List UInt8)) (n1 : List (List UInt8)) (ab : Int) : Option (Int × (List bb) × (List cX) × (List bT) × (List (List UInt8)) × (List (List UInt8))) :=
 (Bi si ab).bind fun ag => (Bl qz ag.1).bind fun ao => (Bn pB ao.1).bind fun aZ => (xl oW aZ.1).bind fun bl => (xl n1 bl.1).bind fun br => some (br.1, ag.2, ao.2, aZ.2, bl.2, br.2)
def Bq (dE : (List cU) → Int → Int → Option (Int × (List cU))) (bs : List cU) (aV : Int) (aG : Int) : Option (Int × (List cU)) :=
 cond (decide (aG < (bs.length : Int))) ((bM bs aG).bind fun ag => (bM (List.set bs (Int.toNat aG) (cU.mk aV ag.Part ag.c3)) aG).bind fun ao => (bM (List.set (List.set bs (Int.toNat aG) (cU.mk aV ag.Part ag.c3)) (Int.toNat aG) (cU.mk ao.eo (IntKind.i64.wrap (aV + 1)) ao.c3)) aG).bind fun aZ => (xk aZ.c3 (IntKind.i64.wrap ((IntKind.i64.wrap (aV + 1)) + 1))).bind fun bl => dE (List.set (List.set (List.set bs (Int.toNat aG) (cU.mk aV ag.Part ag.c3)) (Int.toNat aG) (cU.mk ao.eo (IntKind.i64.wrap (aV + 1)) ao.c3)) (Int.toNat aG) (cU.mk aZ.eo aZ.Part bl.2)) bl.1 (IntKind.i64.wrap (aG + 1))) (some (aV, bs))
def sj : Nat → (List cU) → Int → Int → Option (Int × (List cU))
 | 0, _, _, _ => none
 | n + 1, bs, aV, aG => Bq (sj n) bs aV aG
def Br (J : List cU) (ab : Int) : Option (Int × (List cU)) :=
 cV fun n => sj n J ab 0
def Bs (dE : Int → Int → Option Int) (J : List Int) (aV : Int) (aG : Int) : Option Int :=
 cond (decide (aG < (J.length : Int))) ((bM J aG).bind fun ag => cond (ag != aV) (some (-1)) (dE (IntKind.i64.wrap (aV + 1)) (IntKind.i64.wrap (aG + 1)))) (some aV)
def sk (J : List Int) : Nat → Int → Int → Option Int
 | 0, _, _ => none
 | n + 1, aV, aG => Bs (sk J n) J aV aG
def Bt (J : List Int) (ab : Int) : Option Int :=
 cV fun n => sk J n ab 0
def Bu (dE : Int → Int → Option Int) (J : List cU) (aV : Int) (aG : Int) : Option Int :=
 cond (decide (aG < (J.length : Int))) ((bM J aG).bind fun ag => cond (ag.eo != aV) (some (-1)) (cond (ag.Part != (IntKind.i64.wrap (aV + 1))) (some (-1)) ((Bt ag.c3 (IntKind.i64.wrap ((IntKind.i64.wrap (aV + 1)) + 1))).bind fun ao => cond (decide (ao < 0)) (some (-1)) (dE ao (IntKind.i64.wrap (aG + 1)))))) (some aV)
def sl (J : List cU) : Nat → Int → Int → Option Int
 | 0, _, _ => none
 | n + 1, aV, aG => Bu (sl J n) J aV aG
def xm (J : List cU) (ab : Int) : Option Int :=
 cV fun n => sl J n ab 0
def ER (J : kg) : Option Bool :=
 (wx J 1048576).bind fun ag => cond (decide (ag < 0)) (some true) ((qq J).bind fun ao => (Am ao).bind fun aZ => (qq J).bind fun bl => (w8 bl).bind fun br => (uA br.1 aZ.1).bind fun b4 => cond ((!b4) || (br.2 != aZ.2)) (some false) ((qq J).bind fun dm => (xi bl dm).bind fun gh => cond (!gh) (some false) ((Bp bl.e8 bl.b_ bl.g1 bl.gT bl.gU 1).bind fun dB => cond (decide (dB.1 < 0)) (some false) ((uA br.1 aZ.1).bind fun c4 => cond ((!c4) || (br.2 != aZ.2)) (some false) ((Br br.1 1).bind fun eF => (xm eF.2 1).bind fun i1 => cond (decide (i1 < 0)) (some false) (cond (i1 != eF.1) (some false) ((qq J).bind fun jd => (w8 jd).bind fun ho => (uA ho.1 aZ.1).bind fun je => cond ((!je) || (ho.2 != aZ.2)) (some false) ((xm eF.2 1).bind fun l9 => cond (decide (l9 < 0)) (some false) (cond (l9 != eF.1) (some false) (some true))))))))))
end
end Go.f_
