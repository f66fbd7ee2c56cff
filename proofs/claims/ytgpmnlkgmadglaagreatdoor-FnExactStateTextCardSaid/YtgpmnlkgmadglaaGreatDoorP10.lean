/- Part of a proof that a law returns true for every input. No condition. -/
import Derived.Test.YtgpmnlkgmadglaaGreatDoorFwA
namespace Go.eV
open Go Go.c0
set_option linter.unusedVariables false
noncomputable section
structure gU where
 Kind : Int
 Value : Int
def uz (x : gU) : Prop := (-9223372036854775808 ≤ x.Kind ∧ x.Kind ≤ 9223372036854775807) ∧ (-9223372036854775808 ≤ x.Value ∧ x.Value ≤ 9223372036854775807)
structure iB where
 Kind : Int
 Number : Int
 Name : List UInt8
 dz : List (List gU)
def wK (x : iB) : Prop := (-9223372036854775808 ≤ x.Kind ∧ x.Kind ≤ 9223372036854775807) ∧ (-9223372036854775808 ≤ x.Number ∧ x.Number ≤ 9223372036854775807) ∧ x.Name.length ≤ 9223372036854775807 ∧ (x.dz.length ≤ 9223372036854775807 ∧ ∀ y ∈ x.dz, (y.length ≤ 9223372036854775807 ∧ ∀ z ∈ y, uz z))
structure iu where
 Name : List UInt8
 dL : Int
 Body : List iB
def uA (x : iu) : Prop := x.Name.length ≤ 9223372036854775807 ∧ (-9223372036854775808 ≤ x.dL ∧ x.dL ≤ 9223372036854775807) ∧ (x.Body.length ≤ 9223372036854775807 ∧ ∀ y ∈ x.Body, wK y)
structure iC where
 dT : Int
 cX : List Int
def wL (x : iC) : Prop := (-9223372036854775808 ≤ x.dT ∧ x.dT ≤ 9223372036854775807) ∧ (x.cX.length ≤ 9223372036854775807 ∧ ∀ y ∈ x.cX, (-9223372036854775808 ≤ y ∧ y ≤ 9223372036854775807))
structure iv where
 Left : List UInt8
 cp : List UInt8
 Result : List UInt8
def wM (x : iv) : Prop := x.Left.length ≤ 9223372036854775807 ∧ x.cp.length ≤ 9223372036854775807 ∧ x.Result.length ≤ 9223372036854775807
structure kx where
 df : List iu
 cY : List iC
 hR : List iv
 hF : List (List UInt8)
 hG : List (List UInt8)
def wN (x : kx) : Prop := (x.df.length ≤ 9223372036854775807 ∧ ∀ y ∈ x.df, uA y) ∧ (x.cY.length ≤ 9223372036854775807 ∧ ∀ y ∈ x.cY, wL y) ∧ (x.hR.length ≤ 9223372036854775807 ∧ ∀ y ∈ x.hR, wM y) ∧ (x.hF.length ≤ 9223372036854775807 ∧ ∀ y ∈ x.hF, y.length ≤ 9223372036854775807) ∧ (x.hG.length ≤ 9223372036854775807 ∧ ∀ y ∈ x.hG, y.length ≤ 9223372036854775807)
structure iw where
 dT : Int
 Part : Int
 cX : List Int
def uB (x : iw) : Prop := (-9223372036854775808 ≤ x.dT ∧ x.dT ≤ 9223372036854775807) ∧ (-9223372036854775808 ≤ x.Part ∧ x.Part ≤ 9223372036854775807) ∧ (x.cX.length ≤ 9223372036854775807 ∧ ∀ y ∈ x.cX, (-9223372036854775808 ≤ y ∧ y ≤ 9223372036854775807))
structure cA where
 Kind : Int
 Value : Int
def TU (x : cA) : Prop := (-9223372036854775808 ≤ x.Kind ∧ x.Kind ≤ 9223372036854775807) ∧ (-9223372036854775808 ≤ x.Value ∧ x.Value ≤ 9223372036854775807)
structure b7 where
 Kind : Int
 Number : Int
 Name : List UInt8
 dz : List (List cA)
def TV (x : b7) : Prop := (-9223372036854775808 ≤ x.Kind ∧ x.Kind ≤ 9223372036854775807) ∧ (-9223372036854775808 ≤ x.Number ∧ x.Number ≤ 9223372036854775807) ∧ x.Name.length ≤ 9223372036854775807 ∧ (x.dz.length ≤ 9223372036854775807 ∧ ∀ y ∈ x.dz, (y.length ≤ 9223372036854775807 ∧ ∀ z ∈ y, TU z))
structure bm where
 Name : List UInt8
 dL : Int
 Body : List b7
def TW (x : bm) : Prop := x.Name.length ≤ 9223372036854775807 ∧ (-9223372036854775808 ≤ x.dL ∧ x.dL ≤ 9223372036854775807) ∧ (x.Body.length ≤ 9223372036854775807 ∧ ∀ y ∈ x.Body, TV y)
structure eF where
 dT : Int
 cX : List Int
def TX (x : eF) : Prop := (-9223372036854775808 ≤ x.dT ∧ x.dT ≤ 9223372036854775807) ∧ (x.cX.length ≤ 9223372036854775807 ∧ ∀ y ∈ x.cX, (-9223372036854775808 ≤ y ∧ y ≤ 9223372036854775807))
structure c2 where
 Left : List UInt8
 cp : List UInt8
 Result : List UInt8
def TY (x : c2) : Prop := x.Left.length ≤ 9223372036854775807 ∧ x.cp.length ≤ 9223372036854775807 ∧ x.Result.length ≤ 9223372036854775807
structure dh where
 df : List bm
 cY : List eF
 hR : List c2
 hF : List (List UInt8)
 hG : List (List UInt8)
def axg (x : dh) : Prop := (x.df.length ≤ 9223372036854775807 ∧ ∀ y ∈ x.df, TW y) ∧ (x.cY.length ≤ 9223372036854775807 ∧ ∀ y ∈ x.cY, TX y) ∧ (x.hR.length ≤ 9223372036854775807 ∧ ∀ y ∈ x.hR, TY y) ∧ (x.hF.length ≤ 9223372036854775807 ∧ ∀ y ∈ x.hF, y.length ≤ 9223372036854775807) ∧ (x.hG.length ≤ 9223372036854775807 ∧ ∀ y ∈ x.hG, y.length ≤ 9223372036854775807)
structure c8 where
 dT : Int
 Part : Int
 cX : List Int
def axh (x : c8) : Prop := (-9223372036854775808 ≤ x.dT ∧ x.dT ≤ 9223372036854775807) ∧ (-9223372036854775808 ≤ x.Part ∧ x.Part ≤ 9223372036854775807) ∧ (x.cX.length ≤ 9223372036854775807 ∧ ∀ y ∈ x.cX, (-9223372036854775808 ≤ y ∧ y ≤ 9223372036854775807))
structure cm where
 scope : Int
 behind : Bool
def axi (x : cm) : Prop := (-9223372036854775808 ≤ x.scope ∧ x.scope ≤ 9223372036854775807) ∧ True
def wO (a0 : List gU) (U : Int) : Option Int :=
 cond (decide ((IntKind.i64.wrap (U - (a0.length : Int))) < 0)) (some (-1)) (some (IntKind.i64.wrap (U - (a0.length : Int))))
def KO (hS : Int → Int → Option Int) (a0 : List (List gU)) (c3 : Int) (cN : Int) : Option Int :=
 cond (decide (cN < (a0.length : Int))) ((bH a0 cN).bind fun af => (wO af c3).bind fun ay => cond (decide (ay < 0)) (some (-1)) (hS ay (IntKind.i64.wrap (cN + 1)))) (some c3)
def zy (a0 : List (List gU)) : Nat → Int → Int → Option Int
 | 0, _, _ => none
 | n + 1, c3, cN => KO (zy a0 n) a0 c3 cN
def zz (a0 : List (List gU)) (U : Int) : Option Int :=
 cond (decide ((IntKind.i64.wrap (U - (a0.length : Int))) < 0)) (some (-1)) (cZ fun n => zy a0 n (IntKind.i64.wrap (U - (a0.length : Int))) 0)
def wP (a0 : iB) (U : Int) : Option Int :=
 cond (decide ((IntKind.i64.wrap (U - (a0.Name.length : Int))) < 0)) (some (-1)) ((zz a0.dz (IntKind.i64.wrap (U - (a0.Name.length : Int)))).bind fun af => cond (decide (af < 0)) (some (-1)) (some af))
def KP (hS : Int → Int → Option Int) (a0 : List iB) (c3 : Int) (cN : Int) : Option Int :=
 cond (decide (cN < (a0.length : Int))) ((bH a0 cN).bind fun af => (wP af c3).bind fun ay => cond (decide (ay < 0)) (some (-1)) (hS ay (IntKind.i64.wrap (cN + 1)))) (some c3)
def zA (a0 : List iB) : Nat → Int → Int → Option Int
 | 0, _, _ => none
 | n + 1, c3, cN => KP (zA a0 n) a0 c3 cN
def zB (a0 : List iB) (U : Int) : Option Int :=
 cond (decide ((IntKind.i64.wrap (U - (a0.length : Int))) < 0)) (some (-1)) (cZ fun n => zA a0 n (IntKind.i64.wrap (U - (a0.length : Int))) 0)
def wQ (a0 : iu) (U : Int) : Option Int :=
 cond (decide ((IntKind.i64.wrap (U - (a0.Name.length : Int))) < 0)) (some (-1)) ((zB a0.Body (IntKind.i64.wrap (U - (a0.Name.length : Int)))).bind fun af => cond (decide (af < 0)) (some (-1)) (some af))
def KQ (hS : Int → Int → Option Int) (a0 : List iu) (c3 : Int) (cN : Int) : Option Int :=
 cond (decide (cN < (a0.length : Int))) ((bH a0 cN).bind fun af => (wQ af c3).bind fun ay => cond (decide (ay < 0)) (some (-1)) (hS ay (IntKind.i64.wrap (cN + 1)))) (some c3)
def zC (a0 : List iu) : Nat → Int → Int → Option Int
 | 0, _, _ => none
 | n + 1, c3, cN => KQ (zC a0 n) a0 c3 cN
def wR (a0 : List iu) (U : Int) : Option Int :=
 cond (decide ((IntKind.i64.wrap (U - (a0.length : Int))) < 0)) (some (-1)) (cZ fun n => zC a0 n (IntKind.i64.wrap (U - (a0.length : Int))) 0)
def wS (a0 : List Int) (U : Int) : Option Int :=
 cond (decide ((IntKind.i64.wrap (U - (a0.length : Int))) < 0)) (some (-1)) (some (IntKind.i64.wrap (U - (a0.length : Int))))
def wT (a0 : iC) (U : Int) : Option Int :=
 (wS a0.cX U).bind fun af => cond (decide (af < 0)) (some (-1)) (some af)
def KR (hS : Int → Int → Option Int) (a0 : List iC) (c3 : Int) (cN : Int) : Option Int :=
 cond (decide (cN < (a0.length : Int))) ((bH a0 cN).bind fun af => (wT af c3).bind fun ay => cond (decide (ay < 0)) (some (-1)) (hS ay (IntKind.i64.wrap (cN + 1)))) (some c3)
def zD (a0 : List iC) : Nat → Int → Int → Option Int
 | 0, _, _ => none
 | n + 1, c3, cN => KR (zD a0 n) a0 c3 cN
def zE (a0 : List iC) (U : Int) : Option Int :=
 cond (decide ((IntKind.i64.wrap (U - (a0.length : Int))) < 0)) (some (-1)) (cZ fun n => zD a0 n (IntKind.i64.wrap (U - (a0.length : Int))) 0)
def wU (a0 : iv) (U : Int) : Option Int :=
 cond (decide ((IntKind.i64.wrap (U - (a0.Left.length : Int))) < 0)) (some (-1)) (cond (decide ((IntKind.i64.wrap ((IntKind.i64.wrap (U - (a0.Left.length : Int))) - (a0.cp.length : Int))) < 0)) (some (-1)) (cond (decide ((IntKind.i64.wrap ((IntKind.i64.wrap ((IntKind.i64.wrap (U - (a0.Left.length : Int))) - (a0.cp.length : Int))) - (a0.Result.length : Int))) < 0)) (some (-1)) (some (IntKind.i64.wrap ((IntKind.i64.wrap ((IntKind.i64.wrap (U - (a0.Left.length : Int))) - (a0.cp.length : Int))) - (a0.Result.length : Int))))))
def KS (hS : Int → Int → Option Int) (a0 : List iv) (c3 : Int) (cN : Int) : Option Int :=
 cond (decide (cN < (a0.length : Int))) ((bH a0 cN).bind fun af => (wU af c3).bind fun ay => cond (decide (ay < 0)) (some (-1)) (hS ay (IntKind.i64.wrap (cN + 1)))) (some c3)
def zF (a0 : List iv) : Nat → Int → Int → Option Int
 | 0, _, _ => none
 | n + 1, c3, cN => KS (zF a0 n) a0 c3 cN
def zG (a0 : List iv) (U : Int) : Option Int :=
 cond (decide ((IntKind.i64.wrap (U - (a0.length : Int))) < 0)) (some (-1)) (cZ fun n => zF a0 n (IntKind.i64.wrap (U - (a0.length : Int))) 0)
def KT (hS : Int → Int → Option Int) (a0 : List (List UInt8)) (c3 : Int) (cN : Int) : Option Int :=
 cond (decide (cN < (a0.length : Int))) ((bH a0 cN).bind fun af => cond (decide ((IntKind.i64.wrap (c3 - (af.length : Int))) < 0)) (some (-1)) (hS (IntKind.i64.wrap (c3 - (af.length : Int))) (IntKind.i64.wrap (cN + 1)))) (some c3)
def zH (a0 : List (List UInt8)) : Nat → Int → Int → Option Int
 | 0, _, _ => none
 | n + 1, c3, cN => KT (zH a0 n) a0 c3 cN
def wV (a0 : List (List UInt8)) (U : Int) : Option Int :=
 cond (decide ((IntKind.i64.wrap (U - (a0.length : Int))) < 0)) (some (-1)) (cZ fun n => zH a0 n (IntKind.i64.wrap (U - (a0.length : Int))) 0)
def wW (a0 : kx) (U : Int) : Option Int :=
 (wR a0.df U).bind fun af => cond (decide (af < 0)) (some (-1)) ((zE a0.cY af).bind fun ay => cond (decide (ay < 0)) (some (-1)) ((zG a0.hR ay).bind fun a6 => cond (decide (a6 < 0)) (some (-1)) ((wV a0.hF a6).bind fun bW => cond (decide (bW < 0)) (some (-1)) ((wV a0.hG bW).bind fun cf => cond (decide (cf < 0)) (some (-1)) (some cf)))))
def wX (a0 : iw) (U : Int) : Option Int :=
 (wS a0.cX U).bind fun af => cond (decide (af < 0)) (some (-1)) (some af)
def KU (hS : Int → Int → Option Int) (a0 : List iw) (c3 : Int) (cN : Int) : Option Int :=
 cond (decide (cN < (a0.length : Int))) ((bH a0 cN).bind fun af => (wX af c3).bind fun ay => cond (decide (ay < 0)) (some (-1)) (hS ay (IntKind.i64.wrap (cN + 1)))) (some c3)
def zI (a0 : List iw) : Nat → Int → Int → Option Int
 | 0, _, _ => none
 | n + 1, c3, cN => KU (zI a0 n) a0 c3 cN
def zJ (a0 : List iw) (U : Int) : Option Int :=
 cond (decide ((IntKind.i64.wrap (U - (a0.length : Int))) < 0)) (some (-1)) (cZ fun n => zI a0 n (IntKind.i64.wrap (U - (a0.length : Int))) 0)
def wY (a0 : gU) : Option cA :=
 some (cA.mk a0.Kind a0.Value)
def KV (fi : (List cA) → Int → Option ((List cA))) (a0 : List gU) (bK : List cA) (bo : Int) : Option ((List cA)) :=
 cond (decide (bo < (a0.length : Int))) ((bH a0 bo).bind fun af => (wY af).bind fun ay => (bH bK bo).bind fun a6 => fi (List.set bK (Int.toNat bo) ay) (IntKind.i64.wrap (bo + 1))) (some bK)
def zK (a0 : List gU) : Nat → (List cA) → Int → Option ((List cA))
 | 0, _, _ => none
 | n + 1, bK, bo => KV (zK a0 n) a0 bK bo
def wZ (a0 : List gU) : Option ((List cA)) :=
 (lA 16 (a0.length : Int)).bind fun _ => cZ fun n => zK a0 n (List.replicate (Int.toNat (a0.length : Int)) (cA.mk 0 0)) 0
def KW (fi : (List (List cA)) → Int → Option ((List (List cA)))) (a0 : List (List gU)) (bK : List (List cA)) (bo : Int) : Option ((List (List cA))) :=
 cond (decide (bo < (a0.length : Int))) ((bH a0 bo).bind fun af => (wZ af).bind fun ay => (bH bK bo).bind fun a6 => fi (List.set bK (Int.toNat bo) ay) (IntKind.i64.wrap (bo + 1))) (some bK)
def zL (a0 : List (List gU)) : Nat → (List (List cA)) → Int → Option ((List (List cA)))
 | 0, _, _ => none
 | n + 1, bK, bo => KW (zL a0 n) a0 bK bo
def zM (a0 : List (List gU)) : Option ((List (List cA))) :=
 (lA 24 (a0.length : Int)).bind fun _ => cZ fun n => zL a0 n (List.replicate (Int.toNat (a0.length : Int)) []) 0
def w1 (a0 : iB) : Option b7 :=
 (zM a0.dz).bind fun af => some (b7.mk a0.Kind a0.Number a0.Name af)
def KX (fi : (List b7) → Int → Option ((List b7))) (a0 : List iB) (bK : List b7) (bo : Int) : Option ((List b7)) :=
 cond (decide (bo < (a0.length : Int))) ((bH a0 bo).bind fun af => (w1 af).bind fun ay => (bH bK bo).bind fun a6 => fi (List.set bK (Int.toNat bo) ay) (IntKind.i64.wrap (bo + 1))) (some bK)
def zN (a0 : List iB) : Nat → (List b7) → Int → Option ((List b7))
 | 0, _, _ => none
 | n + 1, bK, bo => KX (zN a0 n) a0 bK bo
def zO (a0 : List iB) : Option ((List b7)) :=
 (lA 56 (a0.length : Int)).bind fun _ => cZ fun n => zN a0 n (List.replicate (Int.toNat (a0.length : Int)) (b7.mk 0 0 ([] : List UInt8) [])) 0
def w2 (a0 : iu) : Option bm :=
 (zO a0.Body).bind fun af => some (bm.mk a0.Name a0.dL af)
def KY (fi : (List bm) → Int → Option ((List bm))) (a0 : List iu) (bK : List bm) (bo : Int) : Option ((List bm)) :=
 cond (decide (bo < (a0.length : Int))) ((bH a0 bo).bind fun af => (w2 af).bind fun ay => (bH bK bo).bind fun a6 => fi (List.set bK (Int.toNat bo) ay) (IntKind.i64.wrap (bo + 1))) (some bK)
def zP (a0 : List iu) : Nat → (List bm) → Int → Option ((List bm))
 | 0, _, _ => none
 | n + 1, bK, bo => KY (zP a0 n) a0 bK bo
def w3 (a0 : List iu) : Option ((List bm)) :=
 (lA 48 (a0.length : Int)).bind fun _ => cZ fun n => zP a0 n (List.replicate (Int.toNat (a0.length : Int)) (bm.mk ([] : List UInt8) 0 [])) 0
def KZ (fi : (List Int) → Int → Option ((List Int))) (a0 : List Int) (bK : List Int) (bo : Int) : Option ((List Int)) :=
 cond (decide (bo < (a0.length : Int))) ((bH a0 bo).bind fun af => (bH bK bo).bind fun ay => fi (List.set bK (Int.toNat bo) af) (IntKind.i64.wrap (bo + 1))) (some bK)
def zQ (a0 : List Int) : Nat → (List Int) → Int → Option ((List Int))
 | 0, _, _ => none
 | n + 1, bK, bo => KZ (zQ a0 n) a0 bK bo
def w4 (a0 : List Int) : Option ((List Int)) :=
 (lA 8 (a0.length : Int)).bind fun _ => cZ fun n => zQ a0 n (List.replicate (Int.toNat (a0.length : Int)) 0) 0
def w5 (a0 : iC) : Option eF :=
 (w4 a0.cX).bind fun af => some (eF.mk a0.dT af)
def K0 (fi : (List eF) → Int → Option ((List eF))) (a0 : List iC) (bK : List eF) (bo : Int) : Option ((List eF)) :=
 cond (decide (bo < (a0.length : Int))) ((bH a0 bo).bind fun af => (w5 af).bind fun ay => (bH bK bo).bind fun a6 => fi (List.set bK (Int.toNat bo) ay) (IntKind.i64.wrap (bo + 1))) (some bK)
def zR (a0 : List iC) : Nat → (List eF) → Int → Option ((List eF))
 | 0, _, _ => none
 | n + 1, bK, bo => K0 (zR a0 n) a0 bK bo
def zS (a0 : List iC) : Option ((List eF)) :=
 (lA 32 (a0.length : Int)).bind fun _ => cZ fun n => zR a0 n (List.replicate (Int.toNat (a0.length : Int)) (eF.mk 0 [])) 0
def w6 (a0 : iv) : Option c2 :=
 some (c2.mk a0.Left a0.cp a0.Result)
def K1 (fi : (List c2) → Int → Option ((List c2))) (a0 : List iv) (bK : List c2) (bo : Int) : Option ((List c2)) :=
 cond (decide (bo < (a0.length : Int))) ((bH a0 bo).bind fun af => (w6 af).bind fun ay => (bH bK bo).bind fun a6 => fi (List.set bK (Int.toNat bo) ay) (IntKind.i64.wrap (bo + 1))) (some bK)
def zT (a0 : List iv) : Nat → (List c2) → Int → Option ((List c2))
 | 0, _, _ => none
 | n + 1, bK, bo => K1 (zT a0 n) a0 bK bo
def zU (a0 : List iv) : Option ((List c2)) :=
 (lA 48 (a0.length : Int)).bind fun _ => cZ fun n => zT a0 n (List.replicate (Int.toNat (a0.length : Int)) (c2.mk ([] : List UInt8) ([] : List UInt8) ([] : List UInt8))) 0
def K2 (fi : (List (List UInt8)) → Int → Option ((List (List UInt8)))) (a0 : List (List UInt8)) (bK : List (List UInt8)) (bo : Int) : Option ((List (List UInt8))) :=
 cond (decide (bo < (a0.length : Int))) ((bH a0 bo).bind fun af => (bH bK bo).bind fun ay => fi (List.set bK (Int.toNat bo) af) (IntKind.i64.wrap (bo + 1))) (some bK)
def zV (a0 : List (List UInt8)) : Nat → (List (List UInt8)) → Int → Option ((List (List UInt8)))
 | 0, _, _ => none
 | n + 1, bK, bo => K2 (zV a0 n) a0 bK bo
def w7 (a0 : List (List UInt8)) : Option ((List (List UInt8))) :=
 (lA 16 (a0.length : Int)).bind fun _ => cZ fun n => zV a0 n (List.replicate (Int.toNat (a0.length : Int)) ([] : List UInt8)) 0
def r_ (a0 : kx) : Option dh :=
 (w3 a0.df).bind fun af => (zS a0.cY).bind fun ay => (zU a0.hR).bind fun a6 => (w7 a0.hF).bind fun bW => (w7 a0.hG).bind fun cf => some (dh.mk af ay a6 bW cf)
def w8 (a0 : iw) : Option c8 :=
 (w4 a0.cX).bind fun af => some (c8.mk a0.dT a0.Part af)
def K3 (fi : (List c8) → Int → Option ((List c8))) (a0 : List iw) (bK : List c8) (bo : Int) : Option ((List c8)) :=
 cond (decide (bo < (a0.length : Int))) ((bH a0 bo).bind fun af => (w8 af).bind fun ay => (bH bK bo).bind fun a6 => fi (List.set bK (Int.toNat bo) ay) (IntKind.i64.wrap (bo + 1))) (some bK)
def zW (a0 : List iw) : Nat → (List c8) → Int → Option ((List c8))
 | 0, _, _ => none
 | n + 1, bK, bo => K3 (zW a0 n) a0 bK bo
def uC (a0 : List iw) : Option ((List c8)) :=
 (lA 40 (a0.length : Int)).bind fun _ => cZ fun n => zW a0 n (List.replicate (Int.toNat (a0.length : Int)) (c8.mk 0 0 [])) 0
def w9 (a0 : UInt8) : Option Bool :=
 some ((decide (97 ≤ (a0.toNat : Int))) && (decide ((a0.toNat : Int) ≤ 122)))
def EH (a0 : UInt8) : Option Bool :=
 some ((decide (48 ≤ (a0.toNat : Int))) && (decide ((a0.toNat : Int) ≤ 57)))
def zX (fy : Int → Option Bool) (a0 : List UInt8) (dk : Int) : Option Bool :=
 cond (decide (dk < (a0.length : Int))) ((bH a0 dk).bind fun a6 => (w9 a6).bind fun bW => cond (!bW) ((EH a6).bind fun cf => cond (!cf) (some false) (fy (IntKind.i64.wrap (dk + 1)))) (fy (IntKind.i64.wrap (dk + 1)))) (some true)
def uD (a0 : List UInt8) : Nat → Int → Option Bool
 | 0, _ => none
 | n + 1, dk => zX (uD a0 n) a0 dk
def uE (a0 : List UInt8) : Option Bool :=
 cond (a0 == ([] : List UInt8)) (some false) (cond (decide (10 < (a0.length : Int))) (some false) ((bH a0 0).bind fun af => (w9 af).bind fun ay => cond (!ay) (some false) (cZ fun n => uD a0 n 0)))
def ky (a0 : Int) (U : Int) (a2 : Int) : Option Bool :=
 some ((decide (U ≤ a0)) && (decide (a0 ≤ a2)))
def w_ (a0 : b7) (ha : Bool) : Option Int :=
 cond ha (some 1) (cond (a0.Kind == 2) (some 2) (some 0))
def xa (a0 : b7) : Option Int :=
 cond (a0.Kind == 1) (w_ a0 true) (cond (a0.Kind == 3) (w_ a0 true) (w_ a0 (a0.Kind == 4)))
def zY (hS : Int → Int → Option Bool) (a0 : List b7) (fe : Int) (fo : Int) : Option Bool :=
 cond (decide (fo < (a0.length : Int))) (cond (fe == 0) (some false) ((bH a0 fo).bind fun af => (xa af).bind fun ay => hS (IntKind.i64.wrap (fe + (IntKind.i64.wrap (ay - 1)))) (IntKind.i64.wrap (fo + 1)))) (some (fe == 0))
def sa (a0 : List b7) : Nat → Int → Int → Option Bool
 | 0, _, _ => none
 | n + 1, fe, fo => zY (sa a0 n) a0 fe fo
def zZ (a0 : List b7) : Option Bool :=
 cond (((a0.length : Int) == 0) || (decide (20 < (a0.length : Int)))) (some false) (cZ fun n => sa a0 n 1 0)
def z1 (a0 : b7) (xb : Bool) : Option Bool :=
 cond xb (some (((a0.Number == 0) && (a0.Name == ([] : List UInt8))) && ((a0.dz.length : Int) == 0))) (cond (a0.Kind == 1) (some (a0.Number == 0)) (cond (a0.Kind == 3) (some ((a0.Number == 0) && (a0.Name == ([] : List UInt8)))) (cond (a0.Kind == 4) (some ((a0.Name == ([] : List UInt8)) && ((a0.dz.length : Int) == 0))) (cond (a0.Kind == 5) (some (a0.Name == ([] : List UInt8))) (some false)))))
def EI (a0 : b7) : Option Bool :=
 cond (a0.Kind == 0) (z1 a0 true) (z1 a0 (a0.Kind == 2))
def z6 (eC : Int → Int → Option Int) (a0 : List b7) (iD : Int) (jB : Int) : Option Int :=
 cond (decide (0 < jB)) ((bH a0 iD).bind fun af => (xa af).bind fun ay => eC (IntKind.i64.wrap (iD + 1)) (IntKind.i64.wrap (jB + (IntKind.i64.wrap (ay - 1))))) (some iD)
def sb (a0 : List b7) : Nat → Int → Int → Option Int
 | 0, _, _ => none
 | n + 1, iD, jB => z6 (sb a0 n) a0 iD jB
def z7 (a0 : List b7) (U : Int) : Option Int :=
 cZ fun n => sb a0 n U 1
def xc (fi : Int → Int → Option Int) (a0 : bm) (U : Int) (uF : Int) (uG : Int) : Option Int :=
 fi uF (IntKind.i64.wrap (uG + 1))
def z8 (fi : Int → Int → Option Int) (a0 : bm) (U : Int) (eb : Int) (hb : Int) : Option Int :=
 cond (decide (hb < U)) ((bH a0.Body hb).bind fun af => cond (af.Kind == 4) ((z7 a0.Body hb).bind fun ay => cond (decide (U < ay)) (xc fi a0 U (IntKind.i64.wrap (eb + 1)) hb) (xc fi a0 U eb hb)) (xc fi a0 U eb hb)) (some eb)
def qL (a0 : bm) (U : Int) : Nat → Int → Int → Option Int
 | 0, _, _ => none
 | n + 1, eb, hb => z8 (qL a0 U n) a0 U eb hb
def qM (a0 : bm) (U : Int) : Option Int :=
 cZ fun n => qL a0 U n a0.dL 0
def z_ (a0 : cA) (U : Int) : Option Bool :=
 cond (a0.Kind == 0) ((ky a0.Value 0 63).bind fun af => some af) (cond (a0.Kind == 1) ((ky a0.Value 0 (IntKind.i64.wrap (U - 1))).bind fun ay => some ay) (cond (a0.Kind == 2) ((ky a0.Value 0 8).bind fun a6 => some a6) (cond (a0.Kind == 3) (some (a0.Value == 0)) (some false))))
def EJ (a0 : cA) : Option Int :=
 cond (a0.Kind == 2) (some 2) (cond (a0.Kind == 3) (some 1) (some 0))
def Aa (hS : Int → Int → Option Bool) (a0 : List cA) (U : Int) (ha : Int) (mM : Int) : Option Bool :=
 cond (decide (mM < (a0.length : Int))) (cond (ha == 0) (some false) ((bH a0 mM).bind fun af => (z_ af U).bind fun ay => cond (!ay) (some false) ((EJ af).bind fun a6 => hS (IntKind.i64.wrap (ha + (IntKind.i64.wrap (a6 - 1)))) (IntKind.i64.wrap (mM + 1))))) (some (ha == 0))
def sc (a0 : List cA) (U : Int) : Nat → Int → Int → Option Bool
 | 0, _, _ => none
 | n + 1, ha, mM => Aa (sc a0 U n) a0 U ha mM
def Ab (a0 : List cA) (U : Int) (a2 : Int) : Option Bool :=
 cond (decide (a2 < (a0.length : Int))) (some false) (cZ fun n => sc a0 U n 1 0)
def Ac (TZ : Int → Int → Option Int) (af : b7) (ny : Int) (nz : Int) : Option Int :=
 cond (decide (nz < (af.dz.length : Int))) ((bH af.dz nz).bind fun bW => (Ab bW ny 15).bind fun cf => cond (!cf) (some 8) (TZ ny (IntKind.i64.wrap (nz + 1)))) (some 0)
def qN (af : b7) : Nat → Int → Int → Option Int
 | 0, _, _ => none
 | n + 1, ny, nz => Ac (qN af n) af ny nz
def uH (U : bm) (a2 : Int) (af : b7) (xd : Bool) : Option Int :=
 cond xd (some 6) ((qM U a2).bind fun a6 => cond ((af.Kind == 4) && (decide (6 ≤ a6))) (some 7) (cZ fun n => qN af n a6 0))
def sd (U : bm) (a2 : Int) (af : b7) : Option Int :=
 cond (af.Kind == 5) (cond (a2 == 0) (uH U a2 af true) ((bH U.Body (IntKind.i64.wrap (a2 - 1))).bind fun cO => uH U a2 af (cO.Kind != 1))) (uH U a2 af false)
def se (a0 : List bm) (U : bm) (a2 : Int) (af : b7) (xe : Bool) : Option Int :=
 cond xe (some 4) (cond (af.Kind == 1) (cond ((decide (2 < (af.dz.length : Int))) || ((decide (0 < (af.dz.length : Int))) && (af.Name == ([116, 97, 117] : List UInt8)))) (some 5) (sd U a2 af)) (cond (af.Kind == 3) (cond ((af.dz.length : Int) != 1) (some 5) (sd U a2 af)) (cond (af.Kind == 5) ((bH a0 af.Number).bind fun cH => cond ((af.dz.length : Int) != cH.dL) (some 5) (sd U a2 af)) (sd U a2 af))))
def Ad (a0 : List bm) (U : bm) (a2 : Int) (af : b7) (xf : Bool) : Option Int :=
 cond xf (some 3) (cond (af.Kind == 4) ((ky af.Number 1 7).bind fun fP => cond (!fP) (se a0 U a2 af true) (cond (af.Kind == 5) ((ky af.Number 0 (IntKind.i64.wrap ((a0.length : Int) - 1))).bind fun dF => se a0 U a2 af (!dF)) (se a0 U a2 af false))) (cond (af.Kind == 5) ((ky af.Number 0 (IntKind.i64.wrap ((a0.length : Int) - 1))).bind fun da => se a0 U a2 af (!da)) (se a0 U a2 af false)))
def xg (a0 : List bm) (U : bm) (a2 : Int) : Option Int :=
 (bH U.Body a2).bind fun af => (EI af).bind fun ay => cond (!ay) (some 2) (cond (af.Kind == 1) ((uE af.Name).bind fun eS => Ad a0 U a2 af (!eS)) (Ad a0 U a2 af false))
def xh (fy : Int → Option (Int × Int)) (a0 : List bm) (U : bm) (lX : Int) : Option (Int × Int) :=
 cond (decide (lX < (U.Body.length : Int))) ((xg a0 U lX).bind fun ay => cond (decide (0 < ay)) (some (lX, ay)) (fy (IntKind.i64.wrap (lX + 1)))) (some (0, 0))
def qO (a0 : List bm) (U : bm) : Nat → Int → Option (Int × Int)
 | 0, _ => none
 | n + 1, lX => xh (qO a0 U n) a0 U lX
def sf (a0 : List bm) (U : bm) : Option (Int × Int) :=
 (zZ U.Body).bind fun af => cond (!af) (some (0, 1)) (cZ fun n => qO a0 U n 0)
def Ae (fy : Int → Option Bool) (T0 : Int → Int → Option Bool) (a0 : List bm) (lY : Int) (mN : Int) : Option Bool :=
 cond (decide (mN < lY)) ((bH a0 mN).bind fun bW => (bH a0 lY).bind fun cf => cond (bW.Name == cf.Name) (some false) (T0 lY (IntKind.i64.wrap (mN + 1)))) (fy (IntKind.i64.wrap (lY + 1)))
def sg (fy : Int → Option Bool) (a0 : List bm) : Nat → Int → Int → Option Bool
 | 0, _, _ => none
 | n + 1, lY, mN => Ae fy (sg fy a0 n) a0 lY mN
def Af (T1 : Int → Option Bool) (a0 : List bm) (nA : Int) : Option Bool :=
 cond (decide (nA < (a0.length : Int))) ((bH a0 nA).bind fun cO => (sf a0 cO).bind fun cH => cond (decide (0 < cH.2)) (some false) (T1 (IntKind.i64.wrap (nA + 1)))) (some true)
def qP (a0 : List bm) : Nat → Int → Option Bool
 | 0, _ => none
 | n + 1, nA => Af (qP a0 n) a0 nA
def Ag (fy : Int → Option Bool) (a0 : List bm) (dk : Int) : Option Bool :=
 cond (decide (dk < (a0.length : Int))) ((bH a0 dk).bind fun af => (uE af.Name).bind fun ay => cond (!ay) (some false) ((ky af.dL 0 3).bind fun a6 => cond (!a6) (some false) (cZ fun n => sg fy a0 n dk 0))) (cZ fun n => qP a0 n 0)
def nB (a0 : List bm) : Nat → Int → Option Bool
 | 0, _ => none
 | n + 1, dk => Ag (nB a0 n) a0 dk
def Ah (a0 : List bm) : Option Bool :=
 cond (((a0.length : Int) == 0) || (decide (4 < (a0.length : Int)))) (some false) (cZ fun n => nB a0 n 0)
def Ai (eC : Int → Option Bool) (a0 : List Int) (jd : Int) : Option Bool :=
 cond (decide (jd < (a0.length : Int))) ((bH a0 jd).bind fun af => (ky af 0 63).bind fun ay => cond (!ay) (some false) (eC (IntKind.i64.wrap (jd + 1)))) (some true)
def si (a0 : List Int) : Nat → Int → Option Bool
 | 0, _ => none
 | n + 1, jd => Ai (si a0 n) a0 jd
def xi (a0 : List Int) : Option Bool :=
 cZ fun n => si a0 n 0
def Aj (fy : Int → Option Bool) (a0 : dh) (dk : Int) : Option Bool :=
 cond (decide (dk < (a0.cY.length : Int))) ((bH a0.cY dk).bind fun af => (ky af.dT 0 (IntKind.i64.wrap ((a0.df.length : Int) - 1))).bind fun ay => cond (!ay) (some false) ((bH a0.df af.dT).bind fun a6 => cond ((af.cX.length : Int) != a6.dL) (some false) ((xi af.cX).bind fun bW => cond (!bW) (some false) (fy (IntKind.i64.wrap (dk + 1)))))) (some true)
def sj (a0 : dh) : Nat → Int → Option Bool
 | 0, _ => none
 | n + 1, dk => Aj (sj a0 n) a0 dk
def Ak (a0 : dh) : Option Bool :=
 cond (((a0.cY.length : Int) == 0) || (decide (3 < (a0.cY.length : Int)))) (some false) (cZ fun n => sj a0 n 0)
def sk (a0 : List UInt8) : Option Bool :=
 (uE a0).bind fun af => some (af && (!(a0 == ([116, 97, 117] : List UInt8))))
def xj (fy : Int → Option Bool) (T2 : Int → Int → Option Bool) (a0 : List c2) (af : c2) (jN : Int) (j2 : Int) : Option Bool :=
 cond (decide (j2 < (a0.length : Int))) ((bH a0 j2).bind fun cH => cond ((cH.Left == af.Result) || (cH.cp == af.Result)) (some false) (T2 jN (IntKind.i64.wrap (j2 + 1)))) (fy (IntKind.i64.wrap (jN + 1)))
def oo (fy : Int → Option Bool) (a0 : List c2) (af : c2) : Nat → Int → Int → Option Bool
 | 0, _, _ => none
 | n + 1, jN, j2 => xj fy (oo fy a0 af n) a0 af jN j2
def Al (fy : Int → Option Bool) (a0 : List c2) (dk : Int) : Option Bool :=
 cond (decide (dk < (a0.length : Int))) ((bH a0 dk).bind fun af => (sk af.Left).bind fun ay => cond (!ay) (some false) ((sk af.cp).bind fun a6 => cond (!a6) (some false) ((sk af.Result).bind fun bW => cond ((!bW) || (!(Op.bytesLess af.Left af.cp || af.Left == af.cp))) (some false) (cond (decide (0 < dk)) ((bH a0 (IntKind.i64.wrap (dk - 1))).bind fun cf => cond ((!(Op.bytesLess cf.Left af.Left || cf.Left == af.Left)) || ((cf.Left == af.Left) && (!(Op.bytesLess cf.cp af.cp)))) (some false) (cZ fun n => oo fy a0 af n dk 0)) (cZ fun n => oo fy a0 af n dk 0))))) (some true)
def lr (a0 : List c2) : Nat → Int → Option Bool
 | 0, _ => none
 | n + 1, dk => Al (lr a0 n) a0 dk
def Am (a0 : List c2) : Option Bool :=
 cond (decide (6 < (a0.length : Int))) (some false) (cZ fun n => lr a0 n 0)
def An (eC : Int → Option Bool) (a0 : List (List UInt8)) (jd : Int) : Option Bool :=
 cond (decide (jd < (a0.length : Int))) ((bH a0 jd).bind fun af => (sk af).bind fun ay => cond (!ay) (some false) (eC (IntKind.i64.wrap (jd + 1)))) (some true)
def sl (a0 : List (List UInt8)) : Nat → Int → Option Bool
 | 0, _ => none
 | n + 1, jd => An (sl a0 n) a0 jd
def Ao (a0 : List (List UInt8)) : Option Bool :=
 cZ fun n => sl a0 n 0
def xk (fy : Int → Option Bool) (a0 : List (List UInt8)) (dk : Int) : Option Bool :=
 cond (decide (dk < (a0.length : Int))) ((bH a0 (IntKind.i64.wrap (dk - 1))).bind fun ay => (bH a0 dk).bind fun a6 => cond (!(Op.bytesLess ay a6)) (some false) (fy (IntKind.i64.wrap (dk + 1)))) (some true)
def mO (a0 : List (List UInt8)) : Nat → Int → Option Bool
 | 0, _ => none
 | n + 1, dk => xk (mO a0 n) a0 dk
def xl (a0 : List (List UInt8)) : Option Bool :=
 cond (decide (12 < (a0.length : Int))) (some false) ((Ao a0).bind fun af => cond (!af) (some false) (cZ fun n => mO a0 n 1))
def Ap (a0 : dh) : Option Int :=
 (Ah a0.df).bind fun af => cond (!af) (some 1) ((Ak a0).bind fun ay => cond (!ay) (some 2) ((Am a0.hR).bind fun a6 => cond (!a6) (some 3) ((xl a0.hF).bind fun bW => cond (!bW) (some 4) ((xl a0.hG).bind fun cf => cond (!cf) (some 5) (some 0)))))
def Aq (a0 : dh) : Option Bool :=
 (Ap a0).bind fun af => some (af == 0)
def sn (a0 : List bm) (U : c8) : Option Bool :=
 (ky U.dT 0 (IntKind.i64.wrap ((a0.length : Int) - 1))).bind fun af => cond (!af) (some false) ((bH a0 U.dT).bind fun ay => (ky U.Part 0 (IntKind.i64.wrap ((ay.Body.length : Int) - 1))).bind fun a6 => cond (!a6) (some false) ((bH ay.Body U.Part).bind fun bW => cond (bW.Kind == 5) (some false) ((qM ay U.Part).bind fun cf => cond ((U.cX.length : Int) == cf) ((xi U.cX).bind fun cO => some cO) (some false))))
def Ar (fy : Int → Option Bool) (a0 : dh) (U : List c8) (bC : Int) : Option Bool :=
 cond (decide (bC < (U.length : Int))) ((bH U bC).bind fun af => (sn a0.df af).bind fun ay => cond (!ay) (some false) (fy (IntKind.i64.wrap (bC + 1)))) (some true)
def so (a0 : dh) (U : List c8) : Nat → Int → Option Bool
 | 0, _ => none
 | n + 1, bC => Ar (so a0 U n) a0 U bC
def As (a0 : dh) (U : List c8) : Option Bool :=
 cond ((U.length : Int) != (a0.cY.length : Int)) (some false) (cZ fun n => so a0 U n 0)
def EK (a0 : dh) (U : List c8) : Option Int :=
 (Aq a0).bind fun af => cond (!af) (some 1) ((As a0 U).bind fun ay => cond (!ay) (some 1) (some 0))
def At (hS : (List UInt8) → Int → Option ((List UInt8))) (a0 : Int) (pV : List UInt8) (qQ : Int) (nC : Int) : Option ((List UInt8)) :=
 (room 1 (pV.length + 1)).bind fun _ => hS (pV ++ [(oN (IntKind.i64.wrap (48 + nC)))]) (IntKind.i64.wrap (Int.tdiv qQ 10))
def K4 (T3 : (List UInt8) → Int → Option ((List UInt8))) (kR : List UInt8) (lu : List UInt8) (ml : Int) : Option ((List UInt8)) :=
 cond (decide (0 ≤ ml)) ((bH kR ml).bind fun af => (room 1 (lu.length + 1)).bind fun _ => T3 (lu ++ [af]) (IntKind.i64.wrap (ml - 1))) (some lu)
def Au (kR : List UInt8) : Nat → (List UInt8) → Int → Option ((List UInt8))
 | 0, _, _ => none
 | n + 1, lu, ml => K4 (Au kR n) kR lu ml
def qR (kR : List UInt8) : Option ((List UInt8)) :=
 cZ fun n => Au kR n [] (IntKind.i64.wrap ((kR.length : Int) - 1))
def Av (hS : (List UInt8) → Int → Option ((List UInt8))) (a0 : Int) (fe : List UInt8) (fo : Int) : Option ((List UInt8)) :=
 cond (fo != 0) (cond (decide ((Int.tmod fo 10) < 0)) (At hS a0 fe fo (IntKind.i64.wrap (0 - (Int.tmod fo 10)))) (At hS a0 fe fo (Int.tmod fo 10))) (cond (decide (a0 < 0)) ((room 1 (fe.length + 1)).bind fun _ => qR (fe ++ [(45 : UInt8)])) (qR fe))
def pd (a0 : Int) : Nat → (List UInt8) → Int → Option ((List UInt8))
 | 0, _, _ => none
 | n + 1, fe, fo => Av (pd a0 n) a0 fe fo
def uI (a0 : Int) : Option ((List UInt8)) :=
 cond (a0 == 0) (some ([48] : List UInt8)) (cZ fun n => pd a0 n [] a0)
def Aw (hS : (List UInt8) → Int → Option ((List UInt8))) (a0 : List Int) (pW : List UInt8) (pX : Int) : Option ((List UInt8)) :=
 (bH a0 pX).bind fun af => (uI af).bind fun ay => (kE (pW.length + ay.length)).bind fun _ => hS (pW ++ ay) (IntKind.i64.wrap (pX + 1))
def Ax (hS : (List UInt8) → Int → Option ((List UInt8))) (a0 : List Int) (fe : List UInt8) (fo : Int) : Option ((List UInt8)) :=
 cond (decide (fo < (a0.length : Int))) (cond (decide (0 < fo)) ((kE (fe.length + 1)).bind fun _ => Aw hS a0 (fe ++ ([44] : List UInt8)) fo) (Aw hS a0 fe fo)) (some fe)
def qS (a0 : List Int) : Nat → (List UInt8) → Int → Option ((List UInt8))
 | 0, _, _ => none
 | n + 1, fe, fo => Ax (qS a0 n) a0 fe fo
def Ay (a0 : List Int) : Option ((List UInt8)) :=
 cond ((a0.length : Int) == 0) (some ([45] : List UInt8)) (cZ fun n => qS a0 n ([] : List UInt8) 0)
def Az (fi : (List UInt8) → Int → Option ((List UInt8))) (a0 : dh) (U : List c8) (pY : List UInt8) (pZ : Int) : Option ((List UInt8)) :=
 (bH U pZ).bind fun af => (bH a0.df af.dT).bind fun ay => (kE (ay.Name.length + 1)).bind fun _ => (uI af.Part).bind fun a6 => (kE ((ay.Name ++ ([58] : List UInt8)).length + a6.length)).bind fun _ => (kE (((ay.Name ++ ([58] : List UInt8)) ++ a6).length + 1)).bind fun _ => (Ay af.cX).bind fun bW => (kE ((((ay.Name ++ ([58] : List UInt8)) ++ a6) ++ ([58] : List UInt8)).length + bW.length)).bind fun _ => (kE (pY.length + ((((ay.Name ++ ([58] : List UInt8)) ++ a6) ++ ([58] : List UInt8)) ++ bW).length)).bind fun _ => fi (pY ++ ((((ay.Name ++ ([58] : List UInt8)) ++ a6) ++ ([58] : List UInt8)) ++ bW)) (IntKind.i64.wrap (pZ + 1))
def AA (fi : (List UInt8) → Int → Option ((List UInt8))) (a0 : dh) (U : List c8) (eb : List UInt8) (hb : Int) : Option ((List UInt8)) :=
 cond (decide (hb < (U.length : Int))) (cond (decide (0 < hb)) ((kE (eb.length + 1)).bind fun _ => Az fi a0 U (eb ++ ([32] : List UInt8)) hb) (Az fi a0 U eb hb)) (some eb)
def qT (a0 : dh) (U : List c8) : Nat → (List UInt8) → Int → Option ((List UInt8))
 | 0, _, _ => none
 | n + 1, eb, hb => AA (qT a0 U n) a0 U eb hb
def AB (a0 : dh) (U : List c8) : Option ((List UInt8)) :=
 cZ fun n => qT a0 U n ([] : List UInt8) 0
def AD (a0 : dh) (U : List c8) : Option ((List UInt8)) :=
 (EK a0 U).bind fun af => cond (af != 0) (some ([] : List UInt8)) ((AB a0 U).bind fun ay => some ay)
def je (a0 : Int) (U : Int) (a2 : Int) : Option Bool :=
 some ((decide (U ≤ a0)) && (decide (a0 ≤ a2)))
def EL (a0 : bm) : Option Bool :=
 (je a0.dL 0 3).bind fun af => some (!af)
def AE (eC : Int → Option Int) (a0 : List bm) (b9 : Int) : Option Int :=
 cond (decide (b9 < (a0.length : Int))) ((bH a0 b9).bind fun af => (EL af).bind fun ay => cond ay (some b9) (eC (IntKind.i64.wrap (b9 + 1)))) (some (-1))
def uJ (a0 : List bm) : Nat → Int → Option Int
 | 0, _ => none
 | n + 1, b9 => AE (uJ a0 n) a0 b9
def EM (a0 : List bm) : Option Int :=
 cZ fun n => uJ a0 n 0
def EN (a0 : List bm) : Option Bool :=
 (EM a0).bind fun af => some (decide (0 ≤ af))
def AF (a0 : List bm) : Option Bool :=
 (EN a0).bind fun af => some (!af)
def EO (a0 : UInt8) : Option Bool :=
 some ((decide (48 ≤ (a0.toNat : Int))) && (decide ((a0.toNat : Int) ≤ 57)))
def xm (eC : Int → Option Bool) (a0 : List UInt8) (eA : Int) : Option Bool :=
 cond (decide (eA < (a0.length : Int))) ((bH a0 eA).bind fun af => cond (!((decide (97 ≤ (af.toNat : Int))) && (decide ((af.toNat : Int) ≤ 122)))) (cond (eA == 0) (some false) ((EO af).bind fun ay => cond (!ay) (some false) (eC (IntKind.i64.wrap (eA + 1))))) (eC (IntKind.i64.wrap (eA + 1)))) (some ((decide (1 ≤ (a0.length : Int))) && (decide ((a0.length : Int) ≤ 10))))
def p0 (a0 : List UInt8) : Nat → Int → Option Bool
 | 0, _ => none
 | n + 1, eA => xm (p0 a0 n) a0 eA
def xn (a0 : List UInt8) : Option Bool :=
 cZ fun n => p0 a0 n 0
def EP (a0 : bm) (U : List UInt8) : Option Bool :=
 some (a0.Name == U)
def AG (eC : Int → Option Int) (a0 : List bm) (U : List UInt8) (b9 : Int) : Option Int :=
 cond (decide (b9 < (a0.length : Int))) ((bH a0 b9).bind fun af => (EP af U).bind fun ay => cond ay (some b9) (eC (IntKind.i64.wrap (b9 + 1)))) (some (-1))
def uK (a0 : List bm) (U : List UInt8) : Nat → Int → Option Int
 | 0, _ => none
 | n + 1, b9 => AG (uK a0 U n) a0 U b9
def ER (a0 : List bm) (U : List UInt8) : Option Int :=
 cZ fun n => uK a0 U n 0
def AH (a0 : List bm) (U : List UInt8) : Option Int :=
 (ER a0 U).bind fun af => some af
def xo (a0 : b7) (cN : Bool) : Option Int :=
 cond cN (some 1) (cond (a0.Kind == 2) (some 2) (some 0))
def xp (a0 : b7) : Option Int :=
 cond (a0.Kind == 1) (xo a0 true) (cond (a0.Kind == 3) (xo a0 true) (xo a0 (a0.Kind == 4)))
def AJ (eC : Int → Int → Option Int) (a0 : bm) (iD : Int) (jB : Int) : Option Int :=
 cond (decide (0 < jB)) (cond (decide ((a0.Body.length : Int) ≤ iD)) (some (-1)) ((bH a0.Body iD).bind fun af => (xp af).bind fun ay => eC (IntKind.i64.wrap (iD + 1)) (IntKind.i64.wrap (jB + (IntKind.i64.wrap (ay - 1)))))) (some iD)
def sq (a0 : bm) : Nat → Int → Int → Option Int
 | 0, _, _ => none
 | n + 1, iD, jB => AJ (sq a0 n) a0 iD jB
def AK (a0 : bm) (U : Int) : Option Int :=
 cZ fun n => sq a0 n U 1
def AL (lv : Int → cm → (List cm) → bm → Option (Int × (List cm))) (T4 : (List cm) → Int → Int → Option (Int × (List cm))) (a3 : bm) (kz : Int) (ay : b7) (a6 : Int) (oq : List cm) (mP : Int) (nD : Int) : Option (Int × (List cm)) :=
 cond (decide (nD < a6)) ((lv mP (cm.mk kz (ay.Kind == 1)) oq a3).bind fun bW => T4 bW.2 bW.1 (IntKind.i64.wrap (nD + 1))) (some (mP, oq))
def qU (lv : Int → cm → (List cm) → bm → Option (Int × (List cm))) (a3 : bm) (kz : Int) (ay : b7) (a6 : Int) : Nat → (List cm) → Int → Int → Option (Int × (List cm))
 | 0, _, _, _ => none
 | n + 1, oq, mP, nD => AL lv (qU lv a3 kz ay a6 n) a3 kz ay a6 oq mP nD
def AM (lv : Int → cm → (List cm) → bm → Option (Int × (List cm))) (a0 : Int) (U : cm) (a2 : List cm) (a3 : bm) (ay : b7) (kz : Int) : Option (Int × (List cm)) :=
 (xp ay).bind fun a6 => cZ fun n => qU lv a3 kz ay a6 n (List.set a2 (Int.toNat a0) U) (IntKind.i64.wrap (a0 + 1)) 0
def ES (lv : Int → cm → (List cm) → bm → Option (Int × (List cm))) (a0 : Int) (U : cm) (a2 : List cm) (a3 : bm) : Option (Int × (List cm)) :=
 (bH a2 a0).bind fun af => (bH a3.Body a0).bind fun ay => cond (ay.Kind == 4) (AM lv a0 U a2 a3 ay (IntKind.i64.wrap (U.scope + 1))) (AM lv a0 U a2 a3 ay U.scope)
def sr : Nat → Int → cm → (List cm) → bm → Option (Int × (List cm))
 | 0, _, _, _, _ => none
 | n + 1, a0, U, a2, a3 => ES (sr n) a0 U a2 a3
def AN (a0 : Int) (U : cm) (a2 : List cm) (a3 : bm) : Option (Int × (List cm)) :=
 cZ fun n => sr n a0 U a2 a3
def uL (a0 : bm) : Option ((List cm)) :=
 (lA 16 (a0.Body.length : Int)).bind fun _ => (AN 0 (cm.mk a0.dL false) (List.replicate (Int.toNat (a0.Body.length : Int)) (cm.mk 0 false)) a0).bind fun af => some af.2
def ET (a0 : b7) : Option Bool :=
 (je a0.Kind 0 5).bind fun af => some (((af && (((a0.Kind == 4) || (a0.Kind == 5)) || (a0.Number == 0))) && ((a0.Kind == 1) || (a0.Name == ([] : List UInt8)))) && ((((a0.Kind == 1) || (a0.Kind == 3)) || (a0.Kind == 5)) || ((a0.dz.length : Int) == 0)))
def p1 (a0 : List UInt8) : Option Bool :=
 (xn a0).bind fun af => some (af && (!(a0 == ([116, 97, 117] : List UInt8))))
def qV (a0 : Int) (U : Int) : Option Bool :=
 (je a0 0 (IntKind.i64.wrap (U - 1))).bind fun af => some af
def EU (a0 : b7) (U : List bm) : Option Bool :=
 cond (a0.Kind == 1) (some (((a0.dz.length : Int) == 0) || ((!(a0.Name == ([116, 97, 117] : List UInt8))) && (decide ((a0.dz.length : Int) ≤ 2))))) (cond (a0.Kind == 3) (some ((a0.dz.length : Int) == 1)) (cond (a0.Kind == 5) ((bH U a0.Number).bind fun af => some ((a0.dz.length : Int) == af.dL)) (some true)))
def xq (a0 : Int) : Option Bool :=
 (je a0 0 63).bind fun af => some af
def AO (a0 : cA) (U : Int) : Option Bool :=
 cond (a0.Kind == 0) ((xq a0.Value).bind fun af => some af) (cond (a0.Kind == 1) ((je a0.Value 0 (IntKind.i64.wrap (U - 1))).bind fun ay => some ay) (cond (a0.Kind == 2) ((je a0.Value 0 8).bind fun a6 => some a6) (cond (a0.Kind == 3) (some (a0.Value == 0)) (some false))))
def EV (a0 : cA) : Option Int :=
 cond (a0.Kind == 2) (some 2) (cond (a0.Kind == 3) (some 1) (some 0))
def AP (hS : Int → Int → Option Bool) (a0 : List cA) (U : Int) (ha : Int) (mQ : Int) : Option Bool :=
 cond (decide (mQ < (a0.length : Int))) ((bH a0 mQ).bind fun bW => cond (ha == 0) (some false) ((AO bW U).bind fun cf => cond (!cf) (some false) ((EV bW).bind fun cO => hS (IntKind.i64.wrap (ha + (IntKind.i64.wrap (cO - 1)))) (IntKind.i64.wrap (mQ + 1))))) (some (ha == 0))
def ss (a0 : List cA) (U : Int) : Nat → Int → Int → Option Bool
 | 0, _, _ => none
 | n + 1, ha, mQ => AP (ss a0 U n) a0 U ha mQ
def AQ (a0 : List cA) (U : Int) (a2 : Int) : Option Bool :=
 (je U 0 29).bind fun af => cond (!af) (some false) ((je a2 1 60).bind fun ay => cond (!ay) (some false) ((je (a0.length : Int) 1 a2).bind fun a6 => cond (!a6) (some false) (cZ fun n => ss a0 U n 1 0)))
def EW (a0 : List cA) (U : cm) : Option Bool :=
 (AQ a0 U.scope 15).bind fun af => some (!af)
def AR (eC : Int → Option Int) (a0 : List (List cA)) (U : cm) (b9 : Int) : Option Int :=
 cond (decide (b9 < (a0.length : Int))) ((bH a0 b9).bind fun af => (EW af U).bind fun ay => cond ay (some b9) (eC (IntKind.i64.wrap (b9 + 1)))) (some (-1))
def uM (a0 : List (List cA)) (U : cm) : Nat → Int → Option Int
 | 0, _ => none
 | n + 1, b9 => AR (uM a0 U n) a0 U b9
def EX (a0 : List (List cA)) (U : cm) : Option Int :=
 cZ fun n => uM a0 U n 0
def AU (a0 : List (List cA)) (U : cm) : Option Bool :=
 (EX a0 U).bind fun af => some (decide (0 ≤ af))
def su (a0 : b7) (U : List bm) (a2 : cm) (xr : Bool) : Option Int :=
 cond xr (some 4) ((EU a0 U).bind fun ay => cond (!ay) (some 5) (cond ((a0.Kind == 5) && (!a2.behind)) (some 6) (cond ((a0.Kind == 4) && (decide (6 ≤ a2.scope))) (some 7) ((AU a0.dz a2).bind fun a6 => cond a6 (some 8) (some 0)))))
def xt (a0 : b7) (U : List bm) (a2 : cm) (xu : Bool) : Option Int :=
 cond xu (some 3) (cond (a0.Kind == 4) ((je a0.Number 1 7).bind fun bW => cond (!bW) (su a0 U a2 true) (cond (a0.Kind == 5) ((qV a0.Number (U.length : Int)).bind fun cf => su a0 U a2 (!cf)) (su a0 U a2 false))) (cond (a0.Kind == 5) ((qV a0.Number (U.length : Int)).bind fun cO => su a0 U a2 (!cO)) (su a0 U a2 false)))
def xv (a0 : b7) (U : List bm) (a2 : cm) : Option Int :=
 (ET a0).bind fun af => cond (!af) (some 2) (cond (a0.Kind == 1) (cond (!(a0.Name == ([116, 97, 117] : List UInt8))) ((p1 a0.Name).bind fun cH => xt a0 U a2 (!cH)) (xt a0 U a2 false)) (xt a0 U a2 false))
def xw (hS : Int → Option (Int × Int)) (a0 : List bm) (U : bm) (a6 : (List cm)) (lg : Int) : Option (Int × Int) :=
 cond (decide (lg < (U.Body.length : Int))) ((bH U.Body lg).bind fun bW => (bH a6 lg).bind fun cf => (xv bW a0 cf).bind fun cO => cond (cO != 0) (some (lg, cO)) (hS (IntKind.i64.wrap (lg + 1)))) (some (0, 0))
def qW (a0 : List bm) (U : bm) (a6 : (List cm)) : Nat → Int → Option (Int × Int)
 | 0, _ => none
 | n + 1, lg => xw (qW a0 U a6 n) a0 U a6 lg
def xx (a0 : List bm) (U : bm) : Option (Int × Int) :=
 (je (U.Body.length : Int) 1 20).bind fun af => cond (!af) (some (0, 1)) ((AK U 0).bind fun ay => cond (ay != (U.Body.length : Int)) (some (0, 1)) ((uL U).bind fun a6 => cZ fun n => qW a0 U a6 n 0))
def AV (fy : Int → Option Bool) (a0 : List bm) (lZ : Int) : Option Bool :=
 cond (decide (lZ < (a0.length : Int))) ((bH a0 lZ).bind fun a6 => (xn a6.Name).bind fun bW => cond (!bW) (some false) ((jU a0 0 lZ).bind fun cf => (AH cf a6.Name).bind fun cO => cond (decide (0 ≤ cO)) (some false) ((xx a0 a6).bind fun cH => cond (cH.2 != 0) (some false) (fy (IntKind.i64.wrap (lZ + 1)))))) (some true)
def sv (a0 : List bm) : Nat → Int → Option Bool
 | 0, _ => none
 | n + 1, lZ => AV (sv a0 n) a0 lZ
def AW (a0 : List bm) : Option Bool :=
 (je (a0.length : Int) 1 4).bind fun af => cond (!af) (some false) ((AF a0).bind fun ay => cond (!ay) (some false) (cZ fun n => sv a0 n 0))
def EY (a0 : Int) : Option Bool :=
 (xq a0).bind fun af => some (!af)
def AX (eC : Int → Option Int) (a0 : List Int) (b9 : Int) : Option Int :=
 cond (decide (b9 < (a0.length : Int))) ((bH a0 b9).bind fun af => (EY af).bind fun ay => cond ay (some b9) (eC (IntKind.i64.wrap (b9 + 1)))) (some (-1))
def uN (a0 : List Int) : Nat → Int → Option Int
 | 0, _ => none
 | n + 1, b9 => AX (uN a0 n) a0 b9
def EZ (a0 : List Int) : Option Int :=
 cZ fun n => uN a0 n 0
def E0 (a0 : List Int) : Option Bool :=
 (EZ a0).bind fun af => some (decide (0 ≤ af))
def xy (a0 : List Int) : Option Bool :=
 (E0 a0).bind fun af => some (!af)
def AY (a0 : List bm) (U : eF) : Option Bool :=
 (qV U.dT (a0.length : Int)).bind fun af => cond af ((bH a0 U.dT).bind fun ay => cond ((U.cX.length : Int) == ay.dL) ((xy U.cX).bind fun a6 => some a6) (some false)) (some false)
def E1 (a0 : eF) (U : dh) : Option Bool :=
 (AY U.df a0).bind fun af => some (!af)
def AZ (eC : Int → Option Int) (a0 : List eF) (U : dh) (b9 : Int) : Option Int :=
 cond (decide (b9 < (a0.length : Int))) ((bH a0 b9).bind fun af => (E1 af U).bind fun ay => cond ay (some b9) (eC (IntKind.i64.wrap (b9 + 1)))) (some (-1))
def uO (a0 : List eF) (U : dh) : Nat → Int → Option Int
 | 0, _ => none
 | n + 1, b9 => AZ (uO a0 U n) a0 U b9
def E2 (a0 : List eF) (U : dh) : Option Int :=
 cZ fun n => uO a0 U n 0
def A0 (a0 : List eF) (U : dh) : Option Bool :=
 (E2 a0 U).bind fun af => some (decide (0 ≤ af))
def A1 (a0 : List UInt8) : Option Bool :=
 some false
def A2 (a0 : List UInt8) (U : List UInt8) : Option Int :=
 (A1 a0).bind fun af => (A1 U).bind fun ay => cond af (cond ay (some 0) (some (-1))) (cond ay (some 1) (cond (Op.bytesLess a0 U) (some (-1)) (cond (!(Op.bytesLess a0 U || a0 == U)) (some 1) (some 0))))
def E3 (eC : Int → Option Int) (a0 : List (List UInt8)) (U : List (List UInt8)) (mm : Int) : Option Int :=
 cond (decide (mm < (a0.length : Int))) ((bH a0 mm).bind fun af => cond (decide ((U.length : Int) ≤ mm)) (some 1) ((bH U mm).bind fun ay => (A2 af ay).bind fun a6 => cond (a6 != 0) (some a6) (eC (IntKind.i64.wrap (mm + 1))))) (cond (decide ((a0.length : Int) < (U.length : Int))) (some (-1)) (some 0))
def xz (a0 : List (List UInt8)) (U : List (List UInt8)) : Nat → Int → Option Int
 | 0, _ => none
 | n + 1, mm => E3 (xz a0 U n) a0 U mm
def A3 (a0 : List (List UInt8)) (U : List (List UInt8)) : Option Int :=
 cZ fun n => xz a0 U n 0
def A4 (a0 : c2) (U : c2) : Option Int :=
 (A3 [a0.Left, a0.cp] [U.Left, U.cp]).bind fun af => some af
def E4 (a0 : c2) (U : c2) : Option Bool :=
 some ((a0.Left == U.Result) || (a0.cp == U.Result))
def A5 (eC : Int → Option Int) (a0 : List c2) (U : c2) (b9 : Int) : Option Int :=
 cond (decide (b9 < (a0.length : Int))) ((bH a0 b9).bind fun af => (E4 af U).bind fun ay => cond ay (some b9) (eC (IntKind.i64.wrap (b9 + 1)))) (some (-1))
def uP (a0 : List c2) (U : c2) : Nat → Int → Option Int
 | 0, _ => none
 | n + 1, b9 => A5 (uP a0 U n) a0 U b9
def E5 (a0 : List c2) (U : c2) : Option Int :=
 cZ fun n => uP a0 U n 0
def xA (a0 : List c2) (U : c2) : Option Bool :=
 (E5 a0 U).bind fun af => some (decide (0 ≤ af))
def A6 (eC : Int → Option Bool) (a0 : List c2) (eA : Int) : Option Bool :=
 cond (decide (eA < (a0.length : Int))) ((bH a0 eA).bind fun af => (p1 af.Left).bind fun cf => cond (!cf) (some false) ((p1 af.cp).bind fun cO => cond (!cO) (some false) ((p1 af.Result).bind fun cH => cond (!cH) (some false) (cond (!(Op.bytesLess af.Left af.cp || af.Left == af.cp)) (some false) (cond (decide (0 < eA)) ((bH a0 (IntKind.i64.wrap (eA - 1))).bind fun fP => (A4 fP af).bind fun dF => cond (decide (0 ≤ dF)) (some false) ((xA a0 af).bind fun da => cond da (some false) (eC (IntKind.i64.wrap (eA + 1))))) ((xA a0 af).bind fun eS => cond eS (some false) (eC (IntKind.i64.wrap (eA + 1))))))))) (some (decide ((a0.length : Int) ≤ 6)))
def sw (a0 : List c2) : Nat → Int → Option Bool
 | 0, _ => none
 | n + 1, eA => A6 (sw a0 n) a0 eA
def A7 (a0 : List c2) : Option Bool :=
 cZ fun n => sw a0 n 0
def A8 (eC : Int → Option Bool) (a0 : List (List UInt8)) (eA : Int) : Option Bool :=
 cond (decide (eA < (a0.length : Int))) ((bH a0 eA).bind fun af => (p1 af).bind fun ay => cond (!ay) (some false) (cond (decide (0 < eA)) ((bH a0 (IntKind.i64.wrap (eA - 1))).bind fun a6 => cond (Op.bytesLess af a6 || af == a6) (some false) (eC (IntKind.i64.wrap (eA + 1)))) (eC (IntKind.i64.wrap (eA + 1))))) (some (decide ((a0.length : Int) ≤ 12)))
def sx (a0 : List (List UInt8)) : Nat → Int → Option Bool
 | 0, _ => none
 | n + 1, eA => A8 (sx a0 n) a0 eA
def xB (a0 : List (List UInt8)) : Option Bool :=
 cZ fun n => sx a0 n 0
def A9 (a0 : dh) : Option Int :=
 (AW a0.df).bind fun af => cond (!af) (some 1) ((je (a0.cY.length : Int) 1 3).bind fun ay => cond (!ay) (some 2) ((A0 a0.cY a0).bind fun a6 => cond a6 (some 2) ((A7 a0.hR).bind fun bW => cond (!bW) (some 3) ((xB a0.hF).bind fun cf => cond (!cf) (some 4) ((xB a0.hG).bind fun cO => cond (!cO) (some 5) (some 0))))))
def A_ (a0 : dh) : Option Bool :=
 (A9 a0).bind fun af => some (af == 0)
def xC (a0 : List bm) (U : c8) : Option Bool :=
 (qV U.dT (a0.length : Int)).bind fun af => cond (!af) (some false) ((bH a0 U.dT).bind fun ay => (qV U.Part (ay.Body.length : Int)).bind fun a6 => cond (!a6) (some false) ((bH ay.Body U.Part).bind fun bW => cond (bW.Kind != 5) ((uL ay).bind fun cf => (bH cf U.Part).bind fun cO => cond ((U.cX.length : Int) == cO.scope) ((xy U.cX).bind fun cH => some cH) (some false)) (some false)))
def E6 (a0 : c8) (U : dh) : Option Bool :=
 (xC U.df a0).bind fun af => some (!af)
def Ba (eC : Int → Option Int) (a0 : List c8) (U : dh) (b9 : Int) : Option Int :=
 cond (decide (b9 < (a0.length : Int))) ((bH a0 b9).bind fun af => (E6 af U).bind fun ay => cond ay (some b9) (eC (IntKind.i64.wrap (b9 + 1)))) (some (-1))
def uQ (a0 : List c8) (U : dh) : Nat → Int → Option Int
 | 0, _ => none
 | n + 1, b9 => Ba (uQ a0 U n) a0 U b9
def E7 (a0 : List c8) (U : dh) : Option Int :=
 cZ fun n => uQ a0 U n 0
def Bb (a0 : List c8) (U : dh) : Option Bool :=
 (E7 a0 U).bind fun af => some (decide (0 ≤ af))
def E8 (a0 : dh) (U : List c8) : Option Bool :=
 (A_ a0).bind fun ay => cond ay (cond ((U.length : Int) == (a0.cY.length : Int)) ((Bb U a0).bind fun a6 => some (!a6)) (some false)) (some false)
def xD (a0 U : Int) : Option (List UInt8) := if 0 ≤ a0 ∧ a0 < 100 ∧ U = 10 then some (l4 a0.toNat) else none
def uR (a0 : Int) : Option ((List UInt8)) :=
 (xD a0 10).bind fun af => some af
def E9 (a0 : Int) : Option Bool :=
 (je a0 (-1000000000000) 1000000000000).bind fun af => some (!af)
def Bc (eC : Int → Option Int) (a0 : List Int) (b9 : Int) : Option Int :=
 cond (decide (b9 < (a0.length : Int))) ((bH a0 b9).bind fun af => (E9 af).bind fun ay => cond ay (some b9) (eC (IntKind.i64.wrap (b9 + 1)))) (some (-1))
def sy (a0 : List Int) : Nat → Int → Option Int
 | 0, _ => none
 | n + 1, b9 => Bc (sy a0 n) a0 b9
def E_ (a0 : List Int) : Option Int :=
 cZ fun n => sy a0 n 0
def Fa (a0 : List Int) : Option Bool :=
 (E_ a0).bind fun af => some (decide (0 ≤ af))
def Bd (a0 : List Int) : Option Bool :=
 cond (decide ((a0.length : Int) ≤ 64)) ((Fa a0).bind fun af => some (!af)) (some false)
def strings_Join (a0 : List (List UInt8)) (U : List UInt8) : Option (List UInt8) := if a0.length ≤ 140737488355328 ∧ (jF a0 U).length ≤ 140737488355328 then some (jF a0 U) else none
def Be (fi : (List (List UInt8)) → Int → Option ((List UInt8))) (a0 : List Int) (U : List UInt8) (eb : List (List UInt8)) (kA : Int) : Option ((List UInt8)) :=
 cond (decide (kA < (a0.length : Int))) ((bH a0 kA).bind fun af => (uR af).bind fun ay => (bH eb kA).bind fun a6 => fi (List.set eb (Int.toNat kA) ay) (IntKind.i64.wrap (kA + 1))) ((strings_Join eb U).bind fun bW => some bW)
def sA (a0 : List Int) (U : List UInt8) : Nat → (List (List UInt8)) → Int → Option ((List UInt8))
 | 0, _, _ => none
 | n + 1, eb, kA => Be (sA a0 U n) a0 U eb kA
def Fb (a0 : List Int) (U : List UInt8) : Option ((List UInt8)) :=
 (lA 16 (a0.length : Int)).bind fun _ => cZ fun n => sA a0 U n (List.replicate (Int.toNat (a0.length : Int)) ([] : List UInt8)) 0
def Bf (a0 : List Int) : Option ((List UInt8)) :=
 (Bd a0).bind fun af => cond (!af) (some ([] : List UInt8)) (cond ((a0.length : Int) == 0) (some ([45] : List UInt8)) ((Fb a0 ([44] : List UInt8)).bind fun ay => some ay))
def Fe (a0 : c8) : Option ((List UInt8)) :=
 (uR a0.Part).bind fun af => (kE (af.length + 1)).bind fun _ => (Bf a0.cX).bind fun ay => (kE ((af ++ ([58] : List UInt8)).length + ay.length)).bind fun _ => some ((af ++ ([58] : List UInt8)) ++ ay)
def Bg (fi : (List (List UInt8)) → Int → Option ((List UInt8))) (a0 : dh) (U : List c8) (eb : List (List UInt8)) (mn : Int) : Option ((List UInt8)) :=
 cond (decide (mn < (U.length : Int))) ((bH U mn).bind fun af => (bH a0.df af.dT).bind fun ay => (kE (ay.Name.length + 1)).bind fun _ => (Fe af).bind fun a6 => (kE ((ay.Name ++ ([58] : List UInt8)).length + a6.length)).bind fun _ => (room 16 (eb.length + 1)).bind fun _ => fi (eb ++ [((ay.Name ++ ([58] : List UInt8)) ++ a6)]) (IntKind.i64.wrap (mn + 1))) ((strings_Join eb ([32] : List UInt8)).bind fun bW => some bW)
def sB (a0 : dh) (U : List c8) : Nat → (List (List UInt8)) → Int → Option ((List UInt8))
 | 0, _, _ => none
 | n + 1, eb, mn => Bg (sB a0 U n) a0 U eb mn
def Bh (a0 : dh) (U : List c8) : Option ((List UInt8)) :=
 cZ fun n => sB a0 U n [] 0
def Bi (a0 : dh) (U : List c8) : Option ((List UInt8)) :=
 (E8 a0 U).bind fun af => cond (!af) (some ([] : List UInt8)) ((Bh a0 U).bind fun ay => some ay)
def xE (a0 : cA) (U : cA) : Option Bool :=
 cond (a0.Kind != U.Kind) (some false) (cond (a0.Value != U.Value) (some false) (some true))
def K5 (fy : Int → Option Bool) (a0 : List cA) (U : List cA) (bC : Int) : Option Bool :=
 cond (decide (bC < (a0.length : Int))) ((bH a0 bC).bind fun af => (bH U bC).bind fun ay => (xE af ay).bind fun a6 => cond (!a6) (some false) (fy (IntKind.i64.wrap (bC + 1)))) (some true)
def Bj (a0 : List cA) (U : List cA) : Nat → Int → Option Bool
 | 0, _ => none
 | n + 1, bC => K5 (Bj a0 U n) a0 U bC
def xF (a0 : List cA) (U : List cA) : Option Bool :=
 cond ((a0.length : Int) != (U.length : Int)) (some false) (cZ fun n => Bj a0 U n 0)
def K6 (fy : Int → Option Bool) (a0 : List (List cA)) (U : List (List cA)) (bC : Int) : Option Bool :=
 cond (decide (bC < (a0.length : Int))) ((bH a0 bC).bind fun af => (bH U bC).bind fun ay => (xF af ay).bind fun a6 => cond (!a6) (some false) (fy (IntKind.i64.wrap (bC + 1)))) (some true)
def Bk (a0 : List (List cA)) (U : List (List cA)) : Nat → Int → Option Bool
 | 0, _ => none
 | n + 1, bC => K6 (Bk a0 U n) a0 U bC
def Bl (a0 : List (List cA)) (U : List (List cA)) : Option Bool :=
 cond ((a0.length : Int) != (U.length : Int)) (some false) (cZ fun n => Bk a0 U n 0)
def xG (a0 : b7) (U : b7) : Option Bool :=
 cond (a0.Kind != U.Kind) (some false) (cond (a0.Number != U.Number) (some false) (cond (!(a0.Name == U.Name)) (some false) ((Bl a0.dz U.dz).bind fun af => cond (!af) (some false) (some true))))
def K7 (fy : Int → Option Bool) (a0 : List b7) (U : List b7) (bC : Int) : Option Bool :=
 cond (decide (bC < (a0.length : Int))) ((bH a0 bC).bind fun af => (bH U bC).bind fun ay => (xG af ay).bind fun a6 => cond (!a6) (some false) (fy (IntKind.i64.wrap (bC + 1)))) (some true)
def Bm (a0 : List b7) (U : List b7) : Nat → Int → Option Bool
 | 0, _ => none
 | n + 1, bC => K7 (Bm a0 U n) a0 U bC
def Bn (a0 : List b7) (U : List b7) : Option Bool :=
 cond ((a0.length : Int) != (U.length : Int)) (some false) (cZ fun n => Bm a0 U n 0)
def xH (a0 : bm) (U : bm) : Option Bool :=
 cond (!(a0.Name == U.Name)) (some false) (cond (a0.dL != U.dL) (some false) ((Bn a0.Body U.Body).bind fun af => cond (!af) (some false) (some true)))
def K8 (fy : Int → Option Bool) (a0 : List bm) (U : List bm) (bC : Int) : Option Bool :=
 cond (decide (bC < (a0.length : Int))) ((bH a0 bC).bind fun af => (bH U bC).bind fun ay => (xH af ay).bind fun a6 => cond (!a6) (some false) (fy (IntKind.i64.wrap (bC + 1)))) (some true)
def Bo (a0 : List bm) (U : List bm) : Nat → Int → Option Bool
 | 0, _ => none
 | n + 1, bC => K8 (Bo a0 U n) a0 U bC
def xI (a0 : List bm) (U : List bm) : Option Bool :=
 cond ((a0.length : Int) != (U.length : Int)) (some false) (cZ fun n => Bo a0 U n 0)
def K9 (fy : Int → Option Bool) (a0 : List Int) (U : List Int) (bC : Int) : Option Bool :=
 cond (decide (bC < (a0.length : Int))) ((bH a0 bC).bind fun af => (bH U bC).bind fun ay => cond (af != ay) (some false) (fy (IntKind.i64.wrap (bC + 1)))) (some true)
def Bp (a0 : List Int) (U : List Int) : Nat → Int → Option Bool
 | 0, _ => none
 | n + 1, bC => K9 (Bp a0 U n) a0 U bC
def xJ (a0 : List Int) (U : List Int) : Option Bool :=
 cond ((a0.length : Int) != (U.length : Int)) (some false) (cZ fun n => Bp a0 U n 0)
def xK (a0 : eF) (U : eF) : Option Bool :=
 cond (a0.dT != U.dT) (some false) ((xJ a0.cX U.cX).bind fun af => cond (!af) (some false) (some true))
def K_ (fy : Int → Option Bool) (a0 : List eF) (U : List eF) (bC : Int) : Option Bool :=
 cond (decide (bC < (a0.length : Int))) ((bH a0 bC).bind fun af => (bH U bC).bind fun ay => (xK af ay).bind fun a6 => cond (!a6) (some false) (fy (IntKind.i64.wrap (bC + 1)))) (some true)
def Bq (a0 : List eF) (U : List eF) : Nat → Int → Option Bool
 | 0, _ => none
 | n + 1, bC => K_ (Bq a0 U n) a0 U bC
def Br (a0 : List eF) (U : List eF) : Option Bool :=
 cond ((a0.length : Int) != (U.length : Int)) (some false) (cZ fun n => Bq a0 U n 0)
def xL (a0 : c2) (U : c2) : Option Bool :=
 cond (!(a0.Left == U.Left)) (some false) (cond (!(a0.cp == U.cp)) (some false) (cond (!(a0.Result == U.Result)) (some false) (some true)))
def La (fy : Int → Option Bool) (a0 : List c2) (U : List c2) (bC : Int) : Option Bool :=
 cond (decide (bC < (a0.length : Int))) ((bH a0 bC).bind fun af => (bH U bC).bind fun ay => (xL af ay).bind fun a6 => cond (!a6) (some false) (fy (IntKind.i64.wrap (bC + 1)))) (some true)
def Bs (a0 : List c2) (U : List c2) : Nat → Int → Option Bool
 | 0, _ => none
 | n + 1, bC => La (Bs a0 U n) a0 U bC
def Bt (a0 : List c2) (U : List c2) : Option Bool :=
 cond ((a0.length : Int) != (U.length : Int)) (some false) (cZ fun n => Bs a0 U n 0)
def Lb (fy : Int → Option Bool) (a0 : List (List UInt8)) (U : List (List UInt8)) (bC : Int) : Option Bool :=
 cond (decide (bC < (a0.length : Int))) ((bH a0 bC).bind fun af => (bH U bC).bind fun ay => cond (!(af == ay)) (some false) (fy (IntKind.i64.wrap (bC + 1)))) (some true)
def Bu (a0 : List (List UInt8)) (U : List (List UInt8)) : Nat → Int → Option Bool
 | 0, _ => none
 | n + 1, bC => Lb (Bu a0 U n) a0 U bC
def xM (a0 : List (List UInt8)) (U : List (List UInt8)) : Option Bool :=
 cond ((a0.length : Int) != (U.length : Int)) (some false) (cZ fun n => Bu a0 U n 0)
def xN (a0 : dh) (U : dh) : Option Bool :=
 (xI a0.df U.df).bind fun af => cond (!af) (some false) ((Br a0.cY U.cY).bind fun ay => cond (!ay) (some false) ((Bt a0.hR U.hR).bind fun a6 => cond (!a6) (some false) ((xM a0.hF U.hF).bind fun bW => cond (!bW) (some false) ((xM a0.hG U.hG).bind fun cf => cond (!cf) (some false) (some true)))))
def xO (a0 : c8) (U : c8) : Option Bool :=
 cond (a0.dT != U.dT) (some false) (cond (a0.Part != U.Part) (some false) ((xJ a0.cX U.cX).bind fun af => cond (!af) (some false) (some true)))
def Lc (fy : Int → Option Bool) (a0 : List c8) (U : List c8) (bC : Int) : Option Bool :=
 cond (decide (bC < (a0.length : Int))) ((bH a0 bC).bind fun af => (bH U bC).bind fun ay => (xO af ay).bind fun a6 => cond (!a6) (some false) (fy (IntKind.i64.wrap (bC + 1)))) (some true)
def Bv (a0 : List c8) (U : List c8) : Nat → Int → Option Bool
 | 0, _ => none
 | n + 1, bC => Lc (Bv a0 U n) a0 U bC
def Bw (a0 : List c8) (U : List c8) : Option Bool :=
 cond ((a0.length : Int) != (U.length : Int)) (some false) (cZ fun n => Bv a0 U n 0)
def Ff (a0 : kx) (U : List iw) : Option Bool :=
 (wW a0 1048576).bind fun af => cond (decide (af < 0)) (some true) ((zJ U af).bind fun ay => cond (decide (ay < 0)) (some true) ((r_ a0).bind fun a6 => (uC U).bind fun bW => (AD a6 bW).bind fun cf => (r_ a0).bind fun cO => (uC U).bind fun cH => (Bi cO cH).bind fun fP => cond (!(fP == cf)) (some false) ((r_ a0).bind fun dF => (xN cO dF).bind fun da => cond (!da) (some false) ((uC U).bind fun eS => (Bw cH eS).bind fun iV => cond (!iV) (some false) (some true)))))
end
end Go.eV
