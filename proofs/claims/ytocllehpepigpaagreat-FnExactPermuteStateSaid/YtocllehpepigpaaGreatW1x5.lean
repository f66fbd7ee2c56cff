/- Part of a proof that a law returns true for every input. No condition. -/
import Derived.Test.YtocllehpepigpaaGreatSl
namespace Go.Proofs.YtocllehpepigpaaGreat
open Go Go.dg Go.e1
set_option maxRecDepth 100000
set_option maxHeartbeats 4600000
set_option linter.unusedSimpArgs false
set_option linter.unusedVariables false
theorem bX (fx : List Nat) (gl : List ResultVar) {f : FuncId} {fn : Func} {c : Code} {dN : J} {ins outs : List I} {r : I} (bF : aD.P.funcs[f]? = some fn) (af : bq ⟨fn.ntmps, fx⟩ c = some dN.strip)
 (FG : ∀ Q : Exit → ar → Prop, (∀ s, eO (dg.Ends aD fx gl r outs) s → Q .ret s) → (∀ s, eO (dg.Ends aD fx gl r outs) s → Q .normal s) → df aD dN Q (aa (num 0 ins))) (ad : fn.body = some c := by rfl) (k1 : (fn.name == "runtime.NumGoroutine") = false := by rfl) (a_ : ins.length ≤ fn.ntmps := by exact Nat.le_of_ble_eq_true rfl) (gX : fn.results.toList = gl := by rfl) (az : dN.plain = true := by kernel_rfl) : bm aD f ins r outs :=
 bm.Gv Gw gl (num 0 ins) bF ad k1 af a_ gX rfl FG az
def kG := PLift.up (And.intro @eG (And.intro @oe (And.intro @e0 (And.intro @vI (And.intro @vJ (And.intro @vK (And.intro @lx (And.intro @Gx (And.intro @Be (And.intro @qC (And.intro @m1 (And.intro @og (And.intro @pY (And.intro @vL (And.intro @iQ (And.intro @Bf (And.intro @m2 (And.intro @nB (And.intro @qD (And.intro @vM (And.intro @vN (And.intro @vO (And.intro @jr (And.intro @kE (And.intro @m3 (And.intro @gy (And.intro @gY (And.intro @Gy (And.intro @h1 (And.intro @pZ (And.intro @s4 (And.intro @gd (And.intro @oh (And.intro @qE (And.intro @mz (And.intro @mA (And.intro @mE.eq_1 (And.intro @a1.eq_1 (And.intro @fp.eq_1 (And.intro @bC.eq_1 (And.intro @bx.eq_1 (And.intro @cG.eq_1 (And.intro @dF.eq_1 (And.intro @hp.eq_1 (And.intro @cf.eq_1 (And.intro @d_.eq_1 (And.intro @g_.eq_1 (And.intro @g9.eq_1 (And.intro @gZ.eq_1 (And.intro @gL.eq_1 (And.intro @gM.eq_1 (And.intro @jv.eq_1 (And.intro @gn.eq_1 (And.intro @eS.eq_1 (And.intro @gz.eq_1 (And.intro @bG.eq_1 (And.intro @fq.eq_1 (And.intro @ff.eq_1 (And.intro @fC.eq_1 (And.intro @cC.eq_1 (And.intro @l_.eq_1 @fI.eq_1)))))))))))))))))))))))))))))))))))))))))))))))))))))))))))))
theorem ws {Q : Exit → ar → Prop} {l : List (Nat × I)} {ros : List cm} {k : List Nat} {b : J} (eP : List (Nat × I)) (aA : df aD b Q (aa eP)) (h : ∀ P : List (Nat × I) → Prop, P eP → cT aD (aa l) ros none (fun _ s => P (i9 k s)) := by
 intro P ai
 simp only [aN.down, simprocAttr, kG.down]
 (try simp only [bh.down, simprocAttr, kG.down] at ai ⊢)
 exact ai) : df aD (.seq (.R ros (some k)) b) Q (aa l) :=
 cN (bY eP (h) aA)
theorem dC {Q : Exit → ar → Prop} {l : List (Nat × I)} {ros : List cm} {k : List Nat} {b : J} {g : FuncId} {ds : List I} {r : I} (ok : bm aD g ds r []) (eP : List (Nat × I)) (aA : df aD b Q (aa eP)) (h : bm aD g ds r [] → ∀ P : List (Nat × I) → Prop, P eP → cT aD (aa l) ros none (fun _ s => P (i9 k s)) := by
 intro tO P ai
 (try simp only [aN.down, simprocAttr, kG.down])
 refine eC tO rfl rfl rfl rfl (.inl (by rfl)) ?_
 simp only [aN.down, simprocAttr, kG.down]
 (try simp only [bh.down, simprocAttr, kG.down] at ai ⊢)
 exact ai) : df aD (.seq (.R ros (some k)) b) Q (aa l) :=
 cN (bY eP (h ok) aA)
theorem h2 {F : Prop} (bI : F) {Q : Exit → ar → Prop} {l : List (Nat × I)} {ros : List cm} {k : List Nat} {b : J} (eP : List (Nat × I)) (aA : df aD b Q (aa eP)) (h : F → ∀ P : List (Nat × I) → Prop, P eP → cT aD (aa l) ros none (fun _ s => P (i9 k s)) := by
 intro bI P ai
 simp only [aN.down, simprocAttr, kG.down, bI]
 (try simp only [bh.down, simprocAttr, kG.down, bI] at ai ⊢)
 exact ai) : df aD (.seq (.R ros (some k)) b) Q (aa l) :=
 cN (bY eP (h bI) aA)
theorem h3 {F : Prop} (bI : F) {Q : Exit → ar → Prop} {l : List (Nat × I)} {ros : List cm} {k : List Nat} {b : J} {g : FuncId} {ds : List I} {r : I} (ok : bm aD g ds r []) (eP : List (Nat × I)) (aA : df aD b Q (aa eP)) (h : bm aD g ds r [] → F → ∀ P : List (Nat × I) → Prop, P eP → cT aD (aa l) ros none (fun _ s => P (i9 k s)) := by
 intro tO bI P ai
 (try simp only [aN.down, simprocAttr, kG.down, bI])
 refine eC tO rfl rfl rfl rfl (.inl (by rfl)) ?_
 simp only [aN.down, simprocAttr, kG.down, bI]
 (try simp only [bh.down, simprocAttr, kG.down, bI] at ai ⊢)
 exact ai) : df aD (.seq (.R ros (some k)) b) Q (aa l) :=
 cN (bY eP (h ok bI) aA)
theorem wr {Q : Exit → ar → Prop} {l : List (Nat × I)} {ros : List cm} {k : List Nat} (eP : List (Nat × I)) (aA : Q .normal (aa eP)) (h : ∀ P : List (Nat × I) → Prop, P eP → cT aD (aa l) ros none (fun _ s => P (i9 k s)) := by
 intro P ai
 simp only [aN.down, simprocAttr, kG.down]
 (try simp only [bh.down, simprocAttr, kG.down] at ai ⊢)
 exact ai) : df aD (.R ros (some k)) Q (aa l) :=
 kk (bY eP (h) aA)
theorem avj {Q : Exit → ar → Prop} {l : List (Nat × I)} {ros : List cm} {k : List Nat} {g : FuncId} {ds : List I} {r : I} (ok : bm aD g ds r []) (eP : List (Nat × I)) (aA : Q .normal (aa eP)) (h : bm aD g ds r [] → ∀ P : List (Nat × I) → Prop, P eP → cT aD (aa l) ros none (fun _ s => P (i9 k s)) := by
 intro tO P ai
 (try simp only [aN.down, simprocAttr, kG.down])
 refine eC tO rfl rfl rfl rfl (.inl (by rfl)) ?_
 simp only [aN.down, simprocAttr, kG.down]
 (try simp only [bh.down, simprocAttr, kG.down] at ai ⊢)
 exact ai) : df aD (.R ros (some k)) Q (aa l) :=
 kk (bY eP (h ok) aA)
theorem avk {F : Prop} (bI : F) {Q : Exit → ar → Prop} {l : List (Nat × I)} {ros : List cm} {k : List Nat} (eP : List (Nat × I)) (aA : Q .normal (aa eP)) (h : F → ∀ P : List (Nat × I) → Prop, P eP → cT aD (aa l) ros none (fun _ s => P (i9 k s)) := by
 intro bI P ai
 simp only [aN.down, simprocAttr, kG.down, bI]
 (try simp only [bh.down, simprocAttr, kG.down, bI] at ai ⊢)
 exact ai) : df aD (.R ros (some k)) Q (aa l) :=
 kk (bY eP (h bI) aA)
theorem Hi {F : Prop} (bI : F) {Q : Exit → ar → Prop} {l : List (Nat × I)} {ros : List cm} {k : List Nat} {g : FuncId} {ds : List I} {r : I} (ok : bm aD g ds r []) (eP : List (Nat × I)) (aA : Q .normal (aa eP)) (h : bm aD g ds r [] → F → ∀ P : List (Nat × I) → Prop, P eP → cT aD (aa l) ros none (fun _ s => P (i9 k s)) := by
 intro tO bI P ai
 (try simp only [aN.down, simprocAttr, kG.down, bI])
 refine eC tO rfl rfl rfl rfl (.inl (by rfl)) ?_
 simp only [aN.down, simprocAttr, kG.down, bI]
 (try simp only [bh.down, simprocAttr, kG.down, bI] at ai ⊢)
 exact ai) : df aD (.R ros (some k)) Q (aa l) :=
 kk (bY eP (h ok bI) aA)
def hC := PLift.up (And.intro @e0 (And.intro @pY (And.intro @m3 @bx.eq_1)))
def iq := PLift.up (And.intro @bC.eq_1 (And.intro @cG.eq_1 (And.intro @cf.eq_1 @eS.eq_1)))
def jf := PLift.up (And.intro @eG (And.intro @e0 (And.intro @m1 (And.intro @jr (And.intro @kE (And.intro @gy (And.intro @gY (And.intro @h1 (And.intro @gd (And.intro @bC.eq_1 (And.intro @cG.eq_1 (And.intro @cf.eq_1 @eS.eq_1))))))))))))
def jH := PLift.up (And.intro @a1.eq_1 (And.intro @g_.eq_1 (And.intro @g9.eq_1 (And.intro @gZ.eq_1 (And.intro @gL.eq_1 (And.intro @gM.eq_1 (And.intro @jv.eq_1 (And.intro @gn.eq_1 (And.intro @gz.eq_1 (And.intro @bG.eq_1 @cC.eq_1))))))))))
def jR := PLift.up (And.intro @a1.eq_1 (And.intro @bx.eq_1 (And.intro @cf.eq_1 (And.intro @g_.eq_1 (And.intro @g9.eq_1 (And.intro @gZ.eq_1 (And.intro @gL.eq_1 (And.intro @gM.eq_1 (And.intro @jv.eq_1 (And.intro @gn.eq_1 (And.intro @gz.eq_1 (And.intro @bG.eq_1 (And.intro @fq.eq_1 (And.intro @ff.eq_1 (And.intro @fC.eq_1 (And.intro @cC.eq_1 (And.intro @l_.eq_1 @fI.eq_1)))))))))))))))))
def kp := PLift.up (And.intro @eG (And.intro @iQ @a1.eq_1))
def kH := PLift.up (And.intro @eG (And.intro @e0 (And.intro @lx (And.intro @m1 (And.intro @og (And.intro @pY (And.intro @vL (And.intro @iQ (And.intro @nB (And.intro @jr (And.intro @kE (And.intro @m3 (And.intro @gy (And.intro @gY (And.intro @h1 (And.intro @gd (And.intro @a1.eq_1 (And.intro @bx.eq_1 (And.intro @cf.eq_1 (And.intro @bG.eq_1 (And.intro @fq.eq_1 (And.intro @ff.eq_1 (And.intro @fC.eq_1 @fI.eq_1)))))))))))))))))))))))
def mF := PLift.up (And.intro @a1.eq_1 @cC.eq_1)
def m9 := PLift.up (And.intro @cG.eq_1 (And.intro @cf.eq_1 @eS.eq_1))
def nK := PLift.up (And.intro @eG (And.intro @gy (And.intro @gd @cf.eq_1)))
def nL := PLift.up (And.intro @e0 (And.intro @m3 @bx.eq_1))
def nM := PLift.up (And.intro @bC.eq_1 (And.intro @cG.eq_1 (And.intro @cf.eq_1 (And.intro @d_.eq_1 @eS.eq_1))))
def ov := PLift.up (And.intro @eG (And.intro @e0 (And.intro @gy (And.intro @gY (And.intro @h1 (And.intro @gd (And.intro @cG.eq_1 (And.intro @cf.eq_1 @eS.eq_1))))))))
def ow := PLift.up (And.intro @eG (And.intro @e0 (And.intro @vI (And.intro @vJ (And.intro @vK (And.intro @lx (And.intro @Gx (And.intro @iQ (And.intro @qD (And.intro @vM (And.intro @vN (And.intro @vO (And.intro @oh (And.intro @qE (And.intro @mz (And.intro @mA (And.intro @a1.eq_1 (And.intro @bx.eq_1 (And.intro @cf.eq_1 (And.intro @g_.eq_1 (And.intro @g9.eq_1 (And.intro @gZ.eq_1 (And.intro @gL.eq_1 (And.intro @gM.eq_1 (And.intro @jv.eq_1 (And.intro @gn.eq_1 (And.intro @gz.eq_1 (And.intro @bG.eq_1 (And.intro @fq.eq_1 (And.intro @ff.eq_1 (And.intro @fC.eq_1 (And.intro @cC.eq_1 (And.intro @l_.eq_1 @fI.eq_1)))))))))))))))))))))))))))))))))
def pc := PLift.up (And.intro @eG (And.intro @e0 (And.intro @lx (And.intro @m1 (And.intro @og (And.intro @pY (And.intro @vL (And.intro @iQ (And.intro @nB (And.intro @jr (And.intro @kE (And.intro @m3 (And.intro @gy (And.intro @gY (And.intro @h1 (And.intro @gd (And.intro @a1.eq_1 (And.intro @fp.eq_1 (And.intro @bC.eq_1 (And.intro @bx.eq_1 (And.intro @cG.eq_1 (And.intro @hp.eq_1 (And.intro @cf.eq_1 (And.intro @eS.eq_1 @bG.eq_1))))))))))))))))))))))))
def p1 := PLift.up (And.intro @eG (And.intro @e0 (And.intro @jr (And.intro @kE (And.intro @gy (And.intro @gY (And.intro @h1 (And.intro @gd (And.intro @bC.eq_1 (And.intro @cG.eq_1 (And.intro @cf.eq_1 @eS.eq_1)))))))))))
def p2 := PLift.up (And.intro @a1.eq_1 (And.intro @fp.eq_1 (And.intro @bC.eq_1 (And.intro @bx.eq_1 (And.intro @cG.eq_1 (And.intro @dF.eq_1 (And.intro @hp.eq_1 (And.intro @cf.eq_1 (And.intro @eS.eq_1 @bG.eq_1)))))))))
def p3 := PLift.up (And.intro @eG (And.intro @e0 (And.intro @m1 (And.intro @jr (And.intro @kE (And.intro @gy (And.intro @gY (And.intro @h1 (And.intro @gd (And.intro @bC.eq_1 (And.intro @cG.eq_1 (And.intro @cf.eq_1 (And.intro @d_.eq_1 @eS.eq_1)))))))))))))
def tP := PLift.up (And.intro @a1.eq_1 (And.intro @bC.eq_1 (And.intro @cG.eq_1 (And.intro @dF.eq_1 (And.intro @cf.eq_1 @eS.eq_1)))))
def tQ := PLift.up (And.intro @eG (And.intro @iQ (And.intro @m2 (And.intro @a1.eq_1 (And.intro @bC.eq_1 (And.intro @cG.eq_1 (And.intro @dF.eq_1 (And.intro @cf.eq_1 @eS.eq_1))))))))
def tR := PLift.up (And.intro @eG (And.intro @e0 (And.intro @m1 (And.intro @iQ (And.intro @nB (And.intro @jr (And.intro @kE (And.intro @gy (And.intro @gY (And.intro @h1 (And.intro @gd (And.intro @a1.eq_1 (And.intro @fp.eq_1 (And.intro @bC.eq_1 (And.intro @cG.eq_1 (And.intro @cf.eq_1 @eS.eq_1))))))))))))))))
def tS := PLift.up (And.intro @eG (And.intro @e0 (And.intro @jr (And.intro @gy (And.intro @gY (And.intro @h1 (And.intro @gd (And.intro @cf.eq_1 (And.intro @fC.eq_1 @fI.eq_1)))))))))
def wq := PLift.up (And.intro @a1.eq_1 (And.intro @fp.eq_1 (And.intro @bC.eq_1 (And.intro @bx.eq_1 (And.intro @cG.eq_1 (And.intro @hp.eq_1 (And.intro @cf.eq_1 (And.intro @eS.eq_1 @bG.eq_1))))))))
def wt := PLift.up (And.intro @eG (And.intro @e0 (And.intro @lx (And.intro @qC (And.intro @m1 (And.intro @og (And.intro @pY (And.intro @vL (And.intro @iQ (And.intro @m2 (And.intro @nB (And.intro @jr (And.intro @kE (And.intro @m3 (And.intro @gy (And.intro @gY (And.intro @h1 (And.intro @gd (And.intro @a1.eq_1 (And.intro @fp.eq_1 (And.intro @bC.eq_1 (And.intro @bx.eq_1 (And.intro @cG.eq_1 (And.intro @dF.eq_1 (And.intro @hp.eq_1 (And.intro @cf.eq_1 (And.intro @eS.eq_1 @bG.eq_1)))))))))))))))))))))))))))
def wu := PLift.up (And.intro @eG (And.intro @e0 (And.intro @m1 (And.intro @jr (And.intro @kE (And.intro @gy (And.intro @gY (And.intro @h1 (And.intro @gd (And.intro @cf.eq_1 (And.intro @ff.eq_1 (And.intro @fC.eq_1 @fI.eq_1))))))))))))
def wv := PLift.up (And.intro @a1.eq_1 (And.intro @bx.eq_1 (And.intro @cf.eq_1 (And.intro @bG.eq_1 (And.intro @fq.eq_1 (And.intro @ff.eq_1 (And.intro @fC.eq_1 @fI.eq_1)))))))
def wx := PLift.up (And.intro @eG (And.intro @e0 (And.intro @lx (And.intro @m1 (And.intro @og (And.intro @pY (And.intro @vL (And.intro @iQ (And.intro @nB (And.intro @jr (And.intro @kE (And.intro @m3 (And.intro @gy (And.intro @gY (And.intro @h1 (And.intro @gd (And.intro @a1.eq_1 (And.intro @bx.eq_1 (And.intro @cf.eq_1 (And.intro @g_.eq_1 (And.intro @g9.eq_1 (And.intro @gZ.eq_1 (And.intro @gL.eq_1 (And.intro @gM.eq_1 (And.intro @jv.eq_1 (And.intro @gn.eq_1 (And.intro @gz.eq_1 (And.intro @bG.eq_1 (And.intro @fq.eq_1 (And.intro @ff.eq_1 (And.intro @fC.eq_1 (And.intro @cC.eq_1 (And.intro @l_.eq_1 @fI.eq_1)))))))))))))))))))))))))))))))))
def zx := PLift.up (And.intro @eG (And.intro @e0 (And.intro @gy (And.intro @gY (And.intro @h1 (And.intro @gd (And.intro @bC.eq_1 (And.intro @cG.eq_1 (And.intro @cf.eq_1 @eS.eq_1)))))))))
def zy := PLift.up (And.intro @cG.eq_1 (And.intro @cf.eq_1 (And.intro @d_.eq_1 @eS.eq_1)))
def zz := PLift.up (And.intro @eG (And.intro @e0 (And.intro @m1 (And.intro @iQ (And.intro @m2 (And.intro @jr (And.intro @kE (And.intro @gy (And.intro @gY (And.intro @h1 (And.intro @gd (And.intro @a1.eq_1 (And.intro @bC.eq_1 (And.intro @cG.eq_1 (And.intro @dF.eq_1 (And.intro @cf.eq_1 @eS.eq_1))))))))))))))))
def zA := PLift.up (And.intro @eG (And.intro @oe (And.intro @e0 (And.intro @iQ (And.intro @m2 (And.intro @jr (And.intro @kE (And.intro @gy (And.intro @gY (And.intro @h1 (And.intro @pZ (And.intro @s4 (And.intro @gd (And.intro @a1.eq_1 (And.intro @bC.eq_1 (And.intro @cG.eq_1 (And.intro @dF.eq_1 (And.intro @cf.eq_1 (And.intro @d_.eq_1 @eS.eq_1)))))))))))))))))))
def zB := PLift.up (And.intro @eG (And.intro @qC (And.intro @iQ (And.intro @m2 (And.intro @a1.eq_1 @cC.eq_1)))))
def Dv := PLift.up (And.intro @eG (And.intro @e0 (And.intro @jr (And.intro @gy (And.intro @gY (And.intro @h1 (And.intro @gd (And.intro @cG.eq_1 (And.intro @cf.eq_1 @eS.eq_1)))))))))
def Dw := PLift.up (And.intro @eG (And.intro @e0 (And.intro @iQ (And.intro @m2 (And.intro @jr (And.intro @kE (And.intro @gy (And.intro @gY (And.intro @h1 (And.intro @gd (And.intro @a1.eq_1 (And.intro @bC.eq_1 (And.intro @cG.eq_1 (And.intro @dF.eq_1 (And.intro @cf.eq_1 @eS.eq_1)))))))))))))))
def Dx := PLift.up (And.intro @eG (And.intro @qC (And.intro @iQ (And.intro @m2 (And.intro @a1.eq_1 (And.intro @dF.eq_1 @cC.eq_1))))))
def Dy := PLift.up (And.intro @eG (And.intro @oe (And.intro @e0 (And.intro @gy (And.intro @gY (And.intro @h1 (And.intro @pZ (And.intro @gd (And.intro @cG.eq_1 (And.intro @cf.eq_1 (And.intro @d_.eq_1 @eS.eq_1)))))))))))
def Dz := PLift.up (And.intro @eG (And.intro @e0 (And.intro @gy (And.intro @gY (And.intro @h1 (And.intro @gd (And.intro @bC.eq_1 (And.intro @cG.eq_1 (And.intro @cf.eq_1 (And.intro @d_.eq_1 @eS.eq_1))))))))))
def DA := PLift.up (And.intro @cf.eq_1 (And.intro @fC.eq_1 @fI.eq_1))
def DB := PLift.up (And.intro @eG (And.intro @og (And.intro @iQ (And.intro @nB (And.intro @a1.eq_1 @fq.eq_1)))))
def DC := PLift.up (And.intro @eG (And.intro @e0 (And.intro @vI (And.intro @vJ (And.intro @vK (And.intro @lx (And.intro @Gx (And.intro @m1 (And.intro @og (And.intro @pY (And.intro @vL (And.intro @iQ (And.intro @nB (And.intro @qD (And.intro @vM (And.intro @vN (And.intro @vO (And.intro @jr (And.intro @kE (And.intro @m3 (And.intro @gy (And.intro @gY (And.intro @h1 (And.intro @gd (And.intro @oh (And.intro @qE (And.intro @mz (And.intro @mA (And.intro @a1.eq_1 (And.intro @bx.eq_1 (And.intro @cf.eq_1 (And.intro @g_.eq_1 (And.intro @g9.eq_1 (And.intro @gZ.eq_1 (And.intro @gL.eq_1 (And.intro @gM.eq_1 (And.intro @jv.eq_1 (And.intro @gn.eq_1 (And.intro @gz.eq_1 (And.intro @bG.eq_1 (And.intro @fq.eq_1 (And.intro @ff.eq_1 (And.intro @fC.eq_1 (And.intro @cC.eq_1 (And.intro @l_.eq_1 @fI.eq_1)))))))))))))))))))))))))))))))))))))))))))))
def Hj := PLift.up (And.intro @eG (And.intro @oe (And.intro @pZ (And.intro @My (And.intro @bC.eq_1 (And.intro @cG.eq_1 (And.intro @cf.eq_1 (And.intro @d_.eq_1 @eS.eq_1))))))))
def Hk := PLift.up (And.intro @eG (And.intro @oe (And.intro @e0 (And.intro @jr (And.intro @kE (And.intro @gy (And.intro @gY (And.intro @h1 (And.intro @pZ (And.intro @gd (And.intro @My (And.intro @bC.eq_1 (And.intro @cG.eq_1 (And.intro @cf.eq_1 (And.intro @d_.eq_1 @eS.eq_1)))))))))))))))
def Hl := PLift.up (And.intro @eG (And.intro @e0 (And.intro @gy (And.intro @gY (And.intro @h1 (And.intro @gd (And.intro @cG.eq_1 (And.intro @cf.eq_1 (And.intro @d_.eq_1 @eS.eq_1)))))))))
def Hm := PLift.up (And.intro @a1.eq_1 (And.intro @fp.eq_1 (And.intro @bC.eq_1 (And.intro @cG.eq_1 (And.intro @cf.eq_1 @eS.eq_1)))))
theorem avl (a0 : List hz) (U : Int) (r : Int) (h : yd a0 U = some r) : bm aD 282 [.slice (a0.map gn), .int .i64 U] (.int .i64 r) [] := by
 refine bX [0] [.tmp 4] Tryz.func282 Wa (fun bT an bS => ?_)
 refine ws _ ?_
 refine ws _ ?_
 refine aL an (fun j7 gD dD aS => ?_)
 refine ws _ ?_
 refine aV h (fun b2 h => ?_) (fun b2 h => ?_)
 ·simp only [b2, ak.down]
  refine ws _ ?_
  exact aE (dD _ (.inl (aG [.int .i64 (-1)])))
 ·simp only [b2, ak.down]
  refine aY (gD _ (.inl ?_))
  refine ws _ ?_
  exact aE (an _ (.inl (aG [.int .i64 (IntKind.i64.wrap (U - (a0.length : Int)))])))
theorem avm (a0 : List (List hz)) (U : Int) (r : Int) (h : Bh a0 U = some r) : bm aD 239 [.slice (a0.map gz), .int .i64 U] (.int .i64 r) [] := by
 refine bX [0] [.tmp 4] Tryz.func239 Wp (fun bT an bS => ?_)
 refine ws _ ?_
 refine ws _ ?_
 refine aL an (fun j7 gD dD aS => ?_)
 refine ws _ ?_
 refine aV h (fun b2 h => ?_) (fun b2 h => ?_)
 ·simp only [b2, ak.down]
  refine ws _ ?_
  exact aE (dD _ (.inl (aG [.int .i64 (-1)])))
 ·simp only [b2, ak.down]
  refine aY (gD _ (.inl ?_))
  refine aL an (fun hD ea er cP => ?_)
  refine ws _ ?_
  refine bL er (fun ev cQ cj eT di => ?_)
  have jS : ∀ (n : Nat) (dm : Int) (cK : Int), Bg a0 n dm cK = some r → dE aD Nb ev (aa [(0, .slice (a0.map gz)), (1, .int .i64 dm), (5, .int .i64 cK)]) := by
   intro fZ
   induction fZ with
   | zero => intro dm cK h; cases (show none = some r from h)
   | succ fZ jT =>
    intro dm cK h
    replace h : Mz (Bg a0 fZ) a0 dm cK = some r := h
    refine dX cj (fun eU cq cw cr => ?_)
    refine aL cw (fun ir e_ gf fe => ?_)
    refine ws _ ?_
    refine aV h (fun dY h => ?_) (fun dY h => ?_)
    ·simp only [dY, ak.down]
     refine aY (e_ _ (.inl ?_))
     refine aL cw (fun iH fs fa ic => ?_)
     refine bL fa (fun lS hE hj dx ju => ?_)
     obtain ⟨ag, dT, h⟩ := aF h
     obtain ⟨al, e6, h⟩ := aF h
     refine h3 dT (avl ag dm _ e6) _ ?_
     refine ws _ ?_
     refine aV h (fun ew h => ?_) (fun ew h => ?_)
     ·simp only [ew, ak.down]
      refine ws _ ?_
      exact aE (hj _ (.inl (aG [.int .i64 (-1)])))
     ·simp only [ew, ak.down]
      refine aY (hE _ (fs _ (.inl ?_)))
      refine wr _ ?_
      exact cq _ (.inr ⟨_, bu rfl, jT al (IntKind.i64.wrap (cK + 1)) h⟩)
    ·simp only [dY, ak.down]
     refine dV (fe 0 _ (cr 0 _ (eT _ (ea _ (.inl ?_)))))
     refine ws _ ?_
     exact aE (an _ (.inl (aG [.int .i64 dm])))
  obtain ⟨n, h⟩ := dQ h
  exact dW (.inr ⟨_, bu rfl, jS n (IntKind.i64.wrap (U - (a0.length : Int))) 0 h⟩)
theorem avn (a0 : iR) (U : Int) (r : Int) (h : ye a0 U = some r) : bm aD 180 [gL a0, .int .i64 U] (.int .i64 r) [] := by
 refine bX [0] [.tmp 4] Tryz.func180 WA (fun bT an bS => ?_)
 refine ws _ ?_
 refine ws _ ?_
 refine aL an (fun j7 gD dD aS => ?_)
 refine ws _ ?_
 refine aV h (fun b2 h => ?_) (fun b2 h => ?_)
 ·simp only [b2, ak.down]
  refine ws _ ?_
  exact aE (dD _ (.inl (aG [.int .i64 (-1)])))
 ·simp only [b2, ak.down]
  refine aY (gD _ (.inl ?_))
  obtain ⟨ag, hv, h⟩ := aF h
  refine dC (avm a0.cO (IntKind.i64.wrap (U - (a0.Name.length : Int))) _ hv) _ ?_
  refine aL an (fun ev cQ cj di => ?_)
  refine ws _ ?_
  refine aV h (fun iT h => ?_) (fun iT h => ?_)
  ·simp only [iT, ak.down]
   refine ws _ ?_
   exact aE (cj _ (.inl (aG [.int .i64 (-1)])))
  ·simp only [iT, ak.down]
   refine aY (cQ _ (.inl ?_))
   refine ws _ ?_
   exact aE (an _ (.inl (aG [.int .i64 ag])))
theorem avo (a0 : List iR) (U : Int) (r : Int) (h : Bj a0 U = some r) : bm aD 131 [.slice (a0.map gL), .int .i64 U] (.int .i64 r) [] := by
 refine bX [0] [.tmp 4] Tryz.func131 WR (fun bT an bS => ?_)
 refine ws _ ?_
 refine ws _ ?_
 refine aL an (fun j7 gD dD aS => ?_)
 refine ws _ ?_
 refine aV h (fun b2 h => ?_) (fun b2 h => ?_)
 ·simp only [b2, ak.down]
  refine ws _ ?_
  exact aE (dD _ (.inl (aG [.int .i64 (-1)])))
 ·simp only [b2, ak.down]
  refine aY (gD _ (.inl ?_))
  refine aL an (fun hD ea er cP => ?_)
  refine ws _ ?_
  refine bL er (fun ev cQ cj eT di => ?_)
  have jS : ∀ (n : Nat) (dm : Int) (cK : Int), Bi a0 n dm cK = some r → dE aD Nc ev (aa [(0, .slice (a0.map gL)), (1, .int .i64 dm), (5, .int .i64 cK)]) := by
   intro fZ
   induction fZ with
   | zero => intro dm cK h; cases (show none = some r from h)
   | succ fZ jT =>
    intro dm cK h
    replace h : MA (Bi a0 fZ) a0 dm cK = some r := h
    refine dX cj (fun eU cq cw cr => ?_)
    refine aL cw (fun ir e_ gf fe => ?_)
    refine ws _ ?_
    refine aV h (fun dY h => ?_) (fun dY h => ?_)
    ·simp only [dY, ak.down]
     refine aY (e_ _ (.inl ?_))
     refine aL cw (fun iH fs fa ic => ?_)
     refine bL fa (fun lS hE hj dx ju => ?_)
     obtain ⟨ag, dT, h⟩ := aF h
     obtain ⟨al, e6, h⟩ := aF h
     refine h3 dT (avn ag dm _ e6) _ ?_
     refine ws _ ?_
     refine aV h (fun ew h => ?_) (fun ew h => ?_)
     ·simp only [ew, ak.down]
      refine ws _ ?_
      exact aE (hj _ (.inl (aG [.int .i64 (-1)])))
     ·simp only [ew, ak.down]
      refine aY (hE _ (fs _ (.inl ?_)))
      refine wr _ ?_
      exact cq _ (.inr ⟨_, bu rfl, jT al (IntKind.i64.wrap (cK + 1)) h⟩)
    ·simp only [dY, ak.down]
     refine dV (fe 0 _ (cr 0 _ (eT _ (ea _ (.inl ?_)))))
     refine ws _ ?_
     exact aE (an _ (.inl (aG [.int .i64 dm])))
  obtain ⟨n, h⟩ := dQ h
  exact dW (.inr ⟨_, bu rfl, jS n (IntKind.i64.wrap (U - (a0.length : Int))) 0 h⟩)
theorem avp (a0 : iE) (U : Int) (r : Int) (h : yf a0 U = some r) : bm aD 75 [g9 a0, .int .i64 U] (.int .i64 r) [] := by
 refine bX [0] [.tmp 4] Tryz.func75 W2 (fun bT an bS => ?_)
 refine ws _ ?_
 refine ws _ ?_
 refine aL an (fun j7 gD dD aS => ?_)
 refine ws _ ?_
 refine aV h (fun b2 h => ?_) (fun b2 h => ?_)
 ·simp only [b2, ak.down]
  refine ws _ ?_
  exact aE (dD _ (.inl (aG [.int .i64 (-1)])))
 ·simp only [b2, ak.down]
  refine aY (gD _ (.inl ?_))
  obtain ⟨ag, hv, h⟩ := aF h
  refine dC (avo a0.Body (IntKind.i64.wrap (U - (a0.Name.length : Int))) _ hv) _ ?_
  refine aL an (fun ev cQ cj di => ?_)
  refine ws _ ?_
  refine aV h (fun iT h => ?_) (fun iT h => ?_)
  ·simp only [iT, ak.down]
   refine ws _ ?_
   exact aE (cj _ (.inl (aG [.int .i64 (-1)])))
  ·simp only [iT, ak.down]
   refine aY (cQ _ (.inl ?_))
   refine ws _ ?_
   exact aE (an _ (.inl (aG [.int .i64 ag])))
theorem avq (a0 : List iE) (U : Int) (r : Int) (h : yg a0 U = some r) : bm aD 36 [.slice (a0.map g9), .int .i64 U] (.int .i64 r) [] := by
 refine bX [0] [.tmp 4] Tryz.func36 Xg (fun bT an bS => ?_)
 refine ws _ ?_
 refine ws _ ?_
 refine aL an (fun j7 gD dD aS => ?_)
 refine ws _ ?_
 refine aV h (fun b2 h => ?_) (fun b2 h => ?_)
 ·simp only [b2, ak.down]
  refine ws _ ?_
  exact aE (dD _ (.inl (aG [.int .i64 (-1)])))
 ·simp only [b2, ak.down]
  refine aY (gD _ (.inl ?_))
  refine aL an (fun hD ea er cP => ?_)
  refine ws _ ?_
  refine bL er (fun ev cQ cj eT di => ?_)
  have jS : ∀ (n : Nat) (dm : Int) (cK : Int), Bk a0 n dm cK = some r → dE aD Nd ev (aa [(0, .slice (a0.map g9)), (1, .int .i64 dm), (5, .int .i64 cK)]) := by
   intro fZ
   induction fZ with
   | zero => intro dm cK h; cases (show none = some r from h)
   | succ fZ jT =>
    intro dm cK h
    replace h : MB (Bk a0 fZ) a0 dm cK = some r := h
    refine dX cj (fun eU cq cw cr => ?_)
    refine aL cw (fun ir e_ gf fe => ?_)
    refine ws _ ?_
    refine aV h (fun dY h => ?_) (fun dY h => ?_)
    ·simp only [dY, ak.down]
     refine aY (e_ _ (.inl ?_))
     refine aL cw (fun iH fs fa ic => ?_)
     refine bL fa (fun lS hE hj dx ju => ?_)
     obtain ⟨ag, dT, h⟩ := aF h
     obtain ⟨al, e6, h⟩ := aF h
     refine h3 dT (avp ag dm _ e6) _ ?_
     refine ws _ ?_
     refine aV h (fun ew h => ?_) (fun ew h => ?_)
     ·simp only [ew, ak.down]
      refine ws _ ?_
      exact aE (hj _ (.inl (aG [.int .i64 (-1)])))
     ·simp only [ew, ak.down]
      refine aY (hE _ (fs _ (.inl ?_)))
      refine wr _ ?_
      exact cq _ (.inr ⟨_, bu rfl, jT al (IntKind.i64.wrap (cK + 1)) h⟩)
    ·simp only [dY, ak.down]
     refine dV (fe 0 _ (cr 0 _ (eT _ (ea _ (.inl ?_)))))
     refine ws _ ?_
     exact aE (an _ (.inl (aG [.int .i64 dm])))
  obtain ⟨n, h⟩ := dQ h
  exact dW (.inr ⟨_, bu rfl, jS n (IntKind.i64.wrap (U - (a0.length : Int))) 0 h⟩)
theorem OI (a0 : List Int) (U : Int) (r : Int) (h : yh a0 U = some r) : bm aD 78 [.slice (a0.map a1), .int .i64 U] (.int .i64 r) [] := by
 refine bX [0] [.tmp 4] Tryz.func78 Xn (fun bT an bS => ?_)
 refine ws _ ?_
 refine ws _ ?_
 refine aL an (fun j7 gD dD aS => ?_)
 refine ws _ ?_
 refine aV h (fun b2 h => ?_) (fun b2 h => ?_)
 ·simp only [b2, ak.down]
  refine ws _ ?_
  exact aE (dD _ (.inl (aG [.int .i64 (-1)])))
 ·simp only [b2, ak.down]
  refine aY (gD _ (.inl ?_))
  refine ws _ ?_
  exact aE (an _ (.inl (aG [.int .i64 (IntKind.i64.wrap (U - (a0.length : Int)))])))
theorem avr (a0 : iS) (U : Int) (r : Int) (h : yi a0 U = some r) : bm aD 76 [g_ a0, .int .i64 U] (.int .i64 r) [] := by
 refine bX [0] [.tmp 4] Tryz.func76 Xu (fun bT an bS => ?_)
 refine ws _ ?_
 obtain ⟨ag, aW, h⟩ := aF h
 refine dC (OI a0.cF U _ aW) _ ?_
 refine aL an (fun eb eI ch bs => ?_)
 refine ws _ ?_
 refine aV h (fun dd h => ?_) (fun dd h => ?_)
 ·simp only [dd, ak.down]
  refine ws _ ?_
  exact aE (ch _ (.inl (aG [.int .i64 (-1)])))
 ·simp only [dd, ak.down]
  refine aY (eI _ (.inl ?_))
  refine ws _ ?_
  exact aE (an _ (.inl (aG [.int .i64 ag])))
theorem avs (a0 : List iS) (U : Int) (r : Int) (h : Bm a0 U = some r) : bm aD 37 [.slice (a0.map g_), .int .i64 U] (.int .i64 r) [] := by
 refine bX [0] [.tmp 4] Tryz.func37 XJ (fun bT an bS => ?_)
 refine ws _ ?_
 refine ws _ ?_
 refine aL an (fun j7 gD dD aS => ?_)
 refine ws _ ?_
 refine aV h (fun b2 h => ?_) (fun b2 h => ?_)
 ·simp only [b2, ak.down]
  refine ws _ ?_
  exact aE (dD _ (.inl (aG [.int .i64 (-1)])))
 ·simp only [b2, ak.down]
  refine aY (gD _ (.inl ?_))
  refine aL an (fun hD ea er cP => ?_)
  refine ws _ ?_
  refine bL er (fun ev cQ cj eT di => ?_)
  have jS : ∀ (n : Nat) (dm : Int) (cK : Int), Bl a0 n dm cK = some r → dE aD Nf ev (aa [(0, .slice (a0.map g_)), (1, .int .i64 dm), (5, .int .i64 cK)]) := by
   intro fZ
   induction fZ with
   | zero => intro dm cK h; cases (show none = some r from h)
   | succ fZ jT =>
    intro dm cK h
    replace h : MC (Bl a0 fZ) a0 dm cK = some r := h
    refine dX cj (fun eU cq cw cr => ?_)
    refine aL cw (fun ir e_ gf fe => ?_)
    refine ws _ ?_
    refine aV h (fun dY h => ?_) (fun dY h => ?_)
    ·simp only [dY, ak.down]
     refine aY (e_ _ (.inl ?_))
     refine aL cw (fun iH fs fa ic => ?_)
     refine bL fa (fun lS hE hj dx ju => ?_)
     obtain ⟨ag, dT, h⟩ := aF h
     obtain ⟨al, e6, h⟩ := aF h
     refine h3 dT (avr ag dm _ e6) _ ?_
     refine ws _ ?_
     refine aV h (fun ew h => ?_) (fun ew h => ?_)
     ·simp only [ew, ak.down]
      refine ws _ ?_
      exact aE (hj _ (.inl (aG [.int .i64 (-1)])))
     ·simp only [ew, ak.down]
      refine aY (hE _ (fs _ (.inl ?_)))
      refine wr _ ?_
      exact cq _ (.inr ⟨_, bu rfl, jT al (IntKind.i64.wrap (cK + 1)) h⟩)
    ·simp only [dY, ak.down]
     refine dV (fe 0 _ (cr 0 _ (eT _ (ea _ (.inl ?_)))))
     refine ws _ ?_
     exact aE (an _ (.inl (aG [.int .i64 dm])))
  obtain ⟨n, h⟩ := dQ h
  exact dW (.inr ⟨_, bu rfl, jS n (IntKind.i64.wrap (U - (a0.length : Int))) 0 h⟩)
theorem avt (a0 : iF) (U : Int) (r : Int) (h : yj a0 U = some r) : bm aD 77 [gZ a0, .int .i64 U] (.int .i64 r) [] := by
 refine bX [0] [.tmp 4] Tryz.func77 XY (fun bT an bS => ?_)
 refine ws _ ?_
 refine ws _ ?_
 refine aL an (fun j7 gD dD aS => ?_)
 refine ws _ ?_
 refine aV h (fun b2 h => ?_) (fun b2 h => ?_)
 ·simp only [b2, ak.down]
  refine ws _ ?_
  exact aE (dD _ (.inl (aG [.int .i64 (-1)])))
 ·simp only [b2, ak.down]
  refine aY (gD _ (.inl ?_))
  refine ws _ ?_
  refine aL an (fun ha g0 gN e9 => ?_)
  refine ws _ ?_
  refine aV h (fun cR h => ?_) (fun cR h => ?_)
  ·simp only [cR, ak.down]
   refine ws _ ?_
   exact aE (gN _ (.inl (aG [.int .i64 (-1)])))
  ·simp only [cR, ak.down]
   refine aY (g0 _ (.inl ?_))
   refine ws _ ?_
   refine aL an (fun ly hb gR jt => ?_)
   refine ws _ ?_
   refine aV h (fun dx h => ?_) (fun dx h => ?_)
   ·simp only [dx, ak.down]
    refine ws _ ?_
    exact aE (gR _ (.inl (aG [.int .i64 (-1)])))
   ·simp only [dx, ak.down]
    refine aY (hb _ (.inl ?_))
    refine ws _ ?_
    exact aE (an _ (.inl (aG [.int .i64 (IntKind.i64.wrap ((IntKind.i64.wrap ((IntKind.i64.wrap (U - (a0.Left.length : Int))) - (a0.cp.length : Int))) - (a0.Result.length : Int)))])))
theorem avu (a0 : List iF) (U : Int) (r : Int) (h : Bo a0 U = some r) : bm aD 38 [.slice (a0.map gZ), .int .i64 U] (.int .i64 r) [] := by
 refine bX [0] [.tmp 4] Tryz.func38 Yc (fun bT an bS => ?_)
 refine ws _ ?_
 refine ws _ ?_
 refine aL an (fun j7 gD dD aS => ?_)
 refine ws _ ?_
 refine aV h (fun b2 h => ?_) (fun b2 h => ?_)
 ·simp only [b2, ak.down]
  refine ws _ ?_
  exact aE (dD _ (.inl (aG [.int .i64 (-1)])))
 ·simp only [b2, ak.down]
  refine aY (gD _ (.inl ?_))
  refine aL an (fun hD ea er cP => ?_)
  refine ws _ ?_
  refine bL er (fun ev cQ cj eT di => ?_)
  have jS : ∀ (n : Nat) (dm : Int) (cK : Int), Bn a0 n dm cK = some r → dE aD Ng ev (aa [(0, .slice (a0.map gZ)), (1, .int .i64 dm), (5, .int .i64 cK)]) := by
   intro fZ
   induction fZ with
   | zero => intro dm cK h; cases (show none = some r from h)
   | succ fZ jT =>
    intro dm cK h
    replace h : MD (Bn a0 fZ) a0 dm cK = some r := h
    refine dX cj (fun eU cq cw cr => ?_)
    refine aL cw (fun ir e_ gf fe => ?_)
    refine ws _ ?_
    refine aV h (fun dY h => ?_) (fun dY h => ?_)
    ·simp only [dY, ak.down]
     refine aY (e_ _ (.inl ?_))
     refine aL cw (fun iH fs fa ic => ?_)
     refine bL fa (fun lS hE hj dx ju => ?_)
     obtain ⟨ag, dT, h⟩ := aF h
     obtain ⟨al, e6, h⟩ := aF h
     refine h3 dT (avt ag dm _ e6) _ ?_
     refine ws _ ?_
     refine aV h (fun ew h => ?_) (fun ew h => ?_)
     ·simp only [ew, ak.down]
      refine ws _ ?_
      exact aE (hj _ (.inl (aG [.int .i64 (-1)])))
     ·simp only [ew, ak.down]
      refine aY (hE _ (fs _ (.inl ?_)))
      refine wr _ ?_
      exact cq _ (.inr ⟨_, bu rfl, jT al (IntKind.i64.wrap (cK + 1)) h⟩)
    ·simp only [dY, ak.down]
     refine dV (fe 0 _ (cr 0 _ (eT _ (ea _ (.inl ?_)))))
     refine ws _ ?_
     exact aE (an _ (.inl (aG [.int .i64 dm])))
  obtain ⟨n, h⟩ := dQ h
  exact dW (.inr ⟨_, bu rfl, jS n (IntKind.i64.wrap (U - (a0.length : Int))) 0 h⟩)
theorem OJ (a0 : List (List UInt8)) (U : Int) (r : Int) (h : yk a0 U = some r) : bm aD 39 [.slice (a0.map bG), .int .i64 U] (.int .i64 r) [] := by
 refine bX [0] [.tmp 4] Tryz.func39 Yr (fun bT an bS => ?_)
 refine ws _ ?_
 refine ws _ ?_
 refine aL an (fun j7 gD dD aS => ?_)
 refine ws _ ?_
 refine aV h (fun b2 h => ?_) (fun b2 h => ?_)
 ·simp only [b2, ak.down]
  refine ws _ ?_
  exact aE (dD _ (.inl (aG [.int .i64 (-1)])))
 ·simp only [b2, ak.down]
  refine aY (gD _ (.inl ?_))
  refine aL an (fun hD ea er cP => ?_)
  refine ws _ ?_
  refine bL er (fun ev cQ cj eT di => ?_)
  have jS : ∀ (n : Nat) (dm : Int) (cK : Int), Bp a0 n dm cK = some r → dE aD Nh ev (aa [(0, .slice (a0.map bG)), (1, .int .i64 dm), (5, .int .i64 cK)]) := by
   intro fZ
   induction fZ with
   | zero => intro dm cK h; cases (show none = some r from h)
   | succ fZ jT =>
    intro dm cK h
    replace h : ME (Bp a0 fZ) a0 dm cK = some r := h
    refine dX cj (fun eU cq cw cr => ?_)
    refine aL cw (fun ir e_ gf fe => ?_)
    refine ws _ ?_
    refine aV h (fun dY h => ?_) (fun dY h => ?_)
    ·simp only [dY, ak.down]
     refine aY (e_ _ (.inl ?_))
     refine aL cw (fun iH fs fa ic => ?_)
     refine bL fa (fun lS hE hj dx ju => ?_)
     obtain ⟨ag, dT, h⟩ := aF h
     refine h2 dT _ ?_
     refine ws _ ?_
     refine aV h (fun eV h => ?_) (fun eV h => ?_)
     ·simp only [eV, ak.down]
      refine ws _ ?_
      exact aE (hj _ (.inl (aG [.int .i64 (-1)])))
     ·simp only [eV, ak.down]
      refine aY (hE _ (fs _ (.inl ?_)))
      refine wr _ ?_
      exact cq _ (.inr ⟨_, bu rfl, jT (IntKind.i64.wrap (dm - (ag.length : Int))) (IntKind.i64.wrap (cK + 1)) h⟩)
    ·simp only [dY, ak.down]
     refine dV (fe 0 _ (cr 0 _ (eT _ (ea _ (.inl ?_)))))
     refine ws _ ?_
     exact aE (an _ (.inl (aG [.int .i64 dm])))
  obtain ⟨n, h⟩ := dQ h
  exact dW (.inr ⟨_, bu rfl, jS n (IntKind.i64.wrap (U - (a0.length : Int))) 0 h⟩)
theorem avv (a0 : k5) (U : Int) (r : Int) (h : yl a0 U = some r) : bm aD 8 [jv a0, .int .i64 U] (.int .i64 r) [] := by
 refine bX [0] [.tmp 4] Tryz.func8 zt (fun bT an bS => ?_)
 refine ws _ ?_
 obtain ⟨ag, aW, h⟩ := aF h
 refine dC (avq a0.eH U _ aW) _ ?_
 refine aL an (fun eb eI ch bs => ?_)
 refine ws _ ?_
 refine aV h (fun dd h => ?_) (fun dd h => ?_)
 ·simp only [dd, ak.down]
  refine ws _ ?_
  exact aE (ch _ (.inl (aG [.int .i64 (-1)])))
 ·simp only [dd, ak.down]
  refine aY (eI _ (.inl ?_))
  obtain ⟨al, kv, h⟩ := aF h
  refine dC (avs a0.c_ ag _ kv) _ ?_
  refine aL an (fun eU cq cw cr => ?_)
  refine ws _ ?_
  refine aV h (fun dr h => ?_) (fun dr h => ?_)
  ·simp only [dr, ak.down]
   refine ws _ ?_
   exact aE (cw _ (.inl (aG [.int .i64 (-1)])))
  ·simp only [dr, ak.down]
   refine aY (cq _ (.inl ?_))
   obtain ⟨aS, eX, h⟩ := aF h
   refine dC (avu a0.hH al _ eX) _ ?_
   refine aL an (fun qO k7 lz nI => ?_)
   refine ws _ ?_
   refine aV h (fun fz h => ?_) (fun fz h => ?_)
   ·simp only [fz, ak.down]
    refine ws _ ?_
    exact aE (lz _ (.inl (aG [.int .i64 (-1)])))
   ·simp only [fz, ak.down]
    refine aY (k7 _ (.inl ?_))
    obtain ⟨bs, na, h⟩ := aF h
    refine dC (OJ a0.hA aS _ na) _ ?_
    refine aL an (fun zC pd pe j5 => ?_)
    refine ws _ ?_
    refine aV h (fun ig h => ?_) (fun ig h => ?_)
    ·simp only [ig, ak.down]
     refine ws _ ?_
     exact aE (pe _ (.inl (aG [.int .i64 (-1)])))
    ·simp only [ig, ak.down]
     refine aY (pd _ (.inl ?_))
     obtain ⟨bH, tT, h⟩ := aF h
     refine dC (OJ a0.hB bs _ tT) _ ?_
     refine aL an (fun avw Hn OK tG => ?_)
     refine ws _ ?_
     refine aV h (fun iU h => ?_) (fun iU h => ?_)
     ·simp only [iU, ak.down]
      refine ws _ ?_
      exact aE (OK _ (.inl (aG [.int .i64 (-1)])))
     ·simp only [iU, ak.down]
      refine aY (Hn _ (.inl ?_))
      refine ws _ ?_
      exact aE (an _ (.inl (aG [.int .i64 bH])))
theorem avx (a0 : iG) (U : Int) (r : Int) (h : ym a0 U = some r) : bm aD 40 [gM a0, .int .i64 U] (.int .i64 r) [] := by
 refine bX [0] [.tmp 4] Tryz.func40 YT (fun bT an bS => ?_)
 refine ws _ ?_
 obtain ⟨ag, aW, h⟩ := aF h
 refine dC (OI a0.cF U _ aW) _ ?_
 refine aL an (fun eb eI ch bs => ?_)
 refine ws _ ?_
 refine aV h (fun dd h => ?_) (fun dd h => ?_)
 ·simp only [dd, ak.down]
  refine ws _ ?_
  exact aE (ch _ (.inl (aG [.int .i64 (-1)])))
 ·simp only [dd, ak.down]
  refine aY (eI _ (.inl ?_))
  refine ws _ ?_
  exact aE (an _ (.inl (aG [.int .i64 ag])))
theorem avy (a0 : List iG) (U : Int) (r : Int) (h : Br a0 U = some r) : bm aD 9 [.slice (a0.map gM), .int .i64 U] (.int .i64 r) [] := by
 refine bX [0] [.tmp 4] Tryz.func9 m8 (fun bT an bS => ?_)
 refine ws _ ?_
 refine ws _ ?_
 refine aL an (fun j7 gD dD aS => ?_)
 refine ws _ ?_
 refine aV h (fun b2 h => ?_) (fun b2 h => ?_)
 ·simp only [b2, ak.down]
  refine ws _ ?_
  exact aE (dD _ (.inl (aG [.int .i64 (-1)])))
 ·simp only [b2, ak.down]
  refine aY (gD _ (.inl ?_))
  refine aL an (fun hD ea er cP => ?_)
  refine ws _ ?_
  refine bL er (fun ev cQ cj eT di => ?_)
  have jS : ∀ (n : Nat) (dm : Int) (cK : Int), Bq a0 n dm cK = some r → dE aD Ni ev (aa [(0, .slice (a0.map gM)), (1, .int .i64 dm), (5, .int .i64 cK)]) := by
   intro fZ
   induction fZ with
   | zero => intro dm cK h; cases (show none = some r from h)
   | succ fZ jT =>
    intro dm cK h
    replace h : MF (Bq a0 fZ) a0 dm cK = some r := h
    refine dX cj (fun eU cq cw cr => ?_)
    refine aL cw (fun ir e_ gf fe => ?_)
    refine ws _ ?_
    refine aV h (fun dY h => ?_) (fun dY h => ?_)
    ·simp only [dY, ak.down]
     refine aY (e_ _ (.inl ?_))
     refine aL cw (fun iH fs fa ic => ?_)
     refine bL fa (fun lS hE hj dx ju => ?_)
     obtain ⟨ag, dT, h⟩ := aF h
     obtain ⟨al, e6, h⟩ := aF h
     refine h3 dT (avx ag dm _ e6) _ ?_
     refine ws _ ?_
     refine aV h (fun ew h => ?_) (fun ew h => ?_)
     ·simp only [ew, ak.down]
      refine ws _ ?_
      exact aE (hj _ (.inl (aG [.int .i64 (-1)])))
     ·simp only [ew, ak.down]
      refine aY (hE _ (fs _ (.inl ?_)))
      refine wr _ ?_
      exact cq _ (.inr ⟨_, bu rfl, jT al (IntKind.i64.wrap (cK + 1)) h⟩)
    ·simp only [dY, ak.down]
     refine dV (fe 0 _ (cr 0 _ (eT _ (ea _ (.inl ?_)))))
     refine ws _ ?_
     exact aE (an _ (.inl (aG [.int .i64 dm])))
  obtain ⟨n, h⟩ := dQ h
  exact dW (.inr ⟨_, bu rfl, jS n (IntKind.i64.wrap (U - (a0.length : Int))) 0 h⟩)
theorem avz (a0 : hz) (r : b6) (h : yn a0 = some r) : bm aD 298 [gn a0] (cf r) [] := by
 refine bX [0] [.cell 2 196] Tryz.func298 Zb (fun bT an bS => ?_)
 refine ws _ ?_
 refine ws _ ?_
 refine ws _ ?_
 refine ws _ ?_
 refine ws _ ?_
 exact aE (an _ (.inl (aG [cf (b6.mk a0.Kind a0.Value)])))
theorem avA (a0 : List hz) (r : (List b6)) (h : yo a0 = some r) : bm aD 284 [.slice (a0.map gn)] (.ao 2 (r.map cf)) [] := by
 refine bX [0] [.tmp 2] Tryz.func284 Zk (fun bT an bS => ?_)
 refine ws _ ?_
 obtain ⟨qP, aW, h⟩ := aF h
 refine cN (bY [(0, .slice (a0.map gn)), (3, .ao 2 ((List.replicate (Int.toNat (a0.length : Int)) (b6.mk 0 0)).map cf))] (fun P ai => ?_) ?_)
 ·simp only [aN.down, simprocAttr, eG, gy, gd, mz, mA, cf, gn, (eA aW).1, (eA aW).2.1, (eA aW).2.2, eQ, List.map_replicate, -Int.reduceNatCast']
  (try simp only [bh.down, simprocAttr, cf, gn, (eA aW).1, (eA aW).2.1, (eA aW).2.2, eQ, List.map_replicate, -Int.reduceNatCast'] at ai ⊢); exact ai
 refine aL an (fun eb eI ch bs => ?_)
 refine ws [(0, .slice (a0.map gn)), (3, .ao 2 ((List.replicate (Int.toNat (a0.length : Int)) (b6.mk 0 0)).map cf)), (4, .int .i64 0)] ?_
 refine bL ch (fun fk dy dv dd bE => ?_)
 have jw : ∀ (n : Nat) (bO : List b6) (bD : Int), Bs a0 n bO bD = some r → dE aD Nj fk (aa [(0, .slice (a0.map gn)), (3, .ao 2 (bO.map cf)), (4, .int .i64 bD)]) := by
  intro fc
  induction fc with
  | zero => intro bO bD h; cases (show none = some r from h)
  | succ fc jx =>
   intro bO bD h
   replace h : MG (Bs a0 fc) a0 bO bD = some r := h
   refine dX dv (fun hD ea er cP => ?_)
   refine aL er (fun ha g0 gN e9 => ?_)
   refine ws _ ?_
   refine aV h (fun cR h => ?_) (fun cR h => ?_)
   ·simp only [cR, ak.down]
    refine aY (g0 _ (.inl ?_))
    refine aL er (fun ir e_ gf fe => ?_)
    refine bL gf (fun j8 hc iV dr je => ?_)
    obtain ⟨ag, ei, h⟩ := aF h
    obtain ⟨al, eX, h⟩ := aF h
    obtain ⟨aS, cg, h⟩ := aF h
    refine kk (bY [(0, .slice (a0.map gn)), (3, .ao 2 ((List.set bO (Int.toNat bD) al).map cf)), (4, .int .i64 bD)] (fun P ai => ?_) ?_)
    ·simp only [aN.down, simprocAttr, eG, gy, gd, mz, mA, cf, gn, ei, cg, c3 cg, en, dZ]
     refine eC (avz ag _ eX) rfl rfl rfl rfl (.inl (by rfl)) ?_
     simp only [aN.down, simprocAttr, eG, gy, gd, mz, mA, cf, gn, ei, cg, c3 cg, en, dZ]
     (try simp only [bh.down, simprocAttr, cf, gn, ei, cg, c3 cg, en, dZ] at ai ⊢); exact ai
    refine hc _ (e_ _ (.inl ?_))
    refine wr [(0, .slice (a0.map gn)), (3, .ao 2 ((List.set bO (Int.toNat bD) al).map cf)), (4, .int .i64 (IntKind.i64.wrap (bD + 1)))] ?_
    exact ea _ (.inr ⟨_, bu rfl, jx (List.set bO (Int.toNat bD) al) (IntKind.i64.wrap (bD + 1)) h⟩)
   ·simp only [cR, ak.down]
    refine dV (e9 0 _ (cP 0 _ (dd _ (eI _ (.inl ?_)))))
    refine ws _ ?_
    exact aE (an _ (.inl (aG [.ao 2 (bO.map cf)])))
 obtain ⟨n, h⟩ := dQ h
 exact dW (.inr ⟨_, bu rfl, jw n (List.replicate (Int.toNat (a0.length : Int)) (b6.mk 0 0)) 0 h⟩)
theorem avB (a0 : List (List hz)) (r : (List (List b6))) (h : Bu a0 = some r) : bm aD 245 [.slice (a0.map gz)] (.ao 1 (r.map fI)) [] := by
 refine bX [0] [.tmp 2] Tryz.func245 Zt (fun bT an bS => ?_)
 refine ws _ ?_
 obtain ⟨qP, aW, h⟩ := aF h
 refine cN (bY [(0, .slice (a0.map gz)), (3, .ao 1 (List.replicate (Int.toNat (a0.length : Int)) .bp))] (fun P ai => ?_) ?_)
 ·simp only [aN.down, simprocAttr, eG, gy, gY, gd, oh, mz, mA, gn, gz, (eA aW).1, (eA aW).2.1, (eA aW).2.2, eQ, List.map_replicate, -Int.reduceNatCast']
  (try simp only [bh.down, simprocAttr, gn, gz, (eA aW).1, (eA aW).2.1, (eA aW).2.2, eQ, List.map_replicate, -Int.reduceNatCast'] at ai ⊢); exact ai
 refine aL an (fun eb eI ch bs => ?_)
 refine ws [(0, .slice (a0.map gz)), (3, .ao 1 (List.replicate (Int.toNat (a0.length : Int)) .bp)), (4, .int .i64 0)] ?_
 refine bL ch (fun fk dy dv dd bE => ?_)
 have jw : ∀ (n : Nat) (bO : List (List b6)) (bD : Int), Bt a0 n bO bD = some r → dE aD Nk fk (aa [(0, .slice (a0.map gz)), (3, .ao 1 (bO.map fI)), (4, .int .i64 bD)]) := by
  intro fc
  induction fc with
  | zero => intro bO bD h; cases (show none = some r from h)
  | succ fc jx =>
   intro bO bD h
   replace h : MH (Bt a0 fc) a0 bO bD = some r := h
   refine dX dv (fun hD ea er cP => ?_)
   refine aL er (fun ha g0 gN e9 => ?_)
   refine ws _ ?_
   refine aV h (fun cR h => ?_) (fun cR h => ?_)
   ·simp only [cR, ak.down]
    refine aY (g0 _ (.inl ?_))
    refine aL er (fun ir e_ gf fe => ?_)
    refine bL gf (fun j8 hc iV dr je => ?_)
    obtain ⟨ag, ei, h⟩ := aF h
    obtain ⟨al, eX, h⟩ := aF h
    obtain ⟨aS, cg, h⟩ := aF h
    refine kk (bY [(0, .slice (a0.map gz)), (3, .ao 1 ((List.set bO (Int.toNat bD) al).map fI)), (4, .int .i64 bD)] (fun P ai => ?_) ?_)
    ·simp only [aN.down, simprocAttr, eG, gy, gY, gd, oh, mz, mA, cf, gn, gz, fI, ei, cg, c3 cg, en, dZ]
     refine eC (avA ag _ eX) rfl rfl rfl rfl (.inl (by rfl)) ?_
     simp only [aN.down, simprocAttr, eG, gy, gY, gd, oh, mz, mA, cf, gn, gz, fI, ei, cg, c3 cg, en, dZ]
     (try simp only [bh.down, simprocAttr, cf, gn, gz, fI, ei, cg, c3 cg, en, dZ] at ai ⊢); exact ai
    refine hc _ (e_ _ (.inl ?_))
    refine wr [(0, .slice (a0.map gz)), (3, .ao 1 ((List.set bO (Int.toNat bD) al).map fI)), (4, .int .i64 (IntKind.i64.wrap (bD + 1)))] ?_
    exact ea _ (.inr ⟨_, bu rfl, jx (List.set bO (Int.toNat bD) al) (IntKind.i64.wrap (bD + 1)) h⟩)
   ·simp only [cR, ak.down]
    refine dV (e9 0 _ (cP 0 _ (dd _ (eI _ (.inl ?_)))))
    refine ws _ ?_
    exact aE (an _ (.inl (aG [.ao 1 (bO.map fI)])))
 obtain ⟨n, h⟩ := dQ h
 exact dW (.inr ⟨_, nv [] rfl (kl (t := 0) (d := .slice (a0.map gz)) rfl (nx (t := 3) (d := .ao 1 (List.replicate (Int.toNat (a0.length : Int)) .bp)) (bQ := .ao 1 ((List.replicate (Int.toNat (a0.length : Int)) []).map fI)) rfl rfl (xX (u := fI) (z := []) (.kY _) _) (by decide) (kl (t := 4) (d := .int .i64 0) rfl (nw)))), jw n (List.replicate (Int.toNat (a0.length : Int)) []) 0 h⟩)
theorem avC (a0 : iR) (r : bJ) (h : yp a0 = some r) : bm aD 186 [gL a0] (fC r) [] := by
 refine bX [0] [.cell 2 178] Tryz.func186 ZB (fun bT an bS => ?_)
 refine ws _ ?_
 refine ws _ ?_
 refine ws _ ?_
 refine ws _ ?_
 refine ws _ ?_
 obtain ⟨ag, bV, h⟩ := aF h
 refine dC (avB a0.cO _ bV) _ ?_
 refine ws _ ?_
 exact aE (an _ (.inl (aG [fC (bJ.mk a0.Kind a0.Number a0.Name ag)])))
theorem avD (a0 : List iR) (r : (List bJ)) (h : Bw a0 = some r) : bm aD 139 [.slice (a0.map gL)] (.ao 4 (r.map fC)) [] := by
 refine bX [0] [.tmp 2] Tryz.func139 ZK (fun bT an bS => ?_)
 refine ws _ ?_
 obtain ⟨qP, aW, h⟩ := aF h
 refine cN (bY [(0, .slice (a0.map gL)), (3, .ao 4 (List.replicate (Int.toNat (a0.length : Int)) (.agg [(.int .i64 0), (.int .i64 0), (.str []), .bp])))] (fun P ai => ?_) ?_)
 ·simp only [aN.down, simprocAttr, eG, e0, qD, jr, gy, gY, h1, gd, oh, qE, mz, mA, gL, gn, gz, (eA aW).1, (eA aW).2.1, (eA aW).2.2, eQ, List.map_replicate, -Int.reduceNatCast']
  (try simp only [bh.down, simprocAttr, gL, gn, gz, (eA aW).1, (eA aW).2.1, (eA aW).2.2, eQ, List.map_replicate, -Int.reduceNatCast'] at ai ⊢); exact ai
 refine aL an (fun eb eI ch bs => ?_)
 refine ws [(0, .slice (a0.map gL)), (3, .ao 4 (List.replicate (Int.toNat (a0.length : Int)) (.agg [(.int .i64 0), (.int .i64 0), (.str []), .bp]))), (4, .int .i64 0)] ?_
 refine bL ch (fun fk dy dv dd bE => ?_)
 have jw : ∀ (n : Nat) (bO : List bJ) (bD : Int), Bv a0 n bO bD = some r → dE aD Nl fk (aa [(0, .slice (a0.map gL)), (3, .ao 4 (bO.map fC)), (4, .int .i64 bD)]) := by
  intro fc
  induction fc with
  | zero => intro bO bD h; cases (show none = some r from h)
  | succ fc jx =>
   intro bO bD h
   replace h : MI (Bv a0 fc) a0 bO bD = some r := h
   refine dX dv (fun hD ea er cP => ?_)
   refine aL er (fun ha g0 gN e9 => ?_)
   refine ws _ ?_
   refine aV h (fun cR h => ?_) (fun cR h => ?_)
   ·simp only [cR, ak.down]
    refine aY (g0 _ (.inl ?_))
    refine aL er (fun ir e_ gf fe => ?_)
    refine bL gf (fun j8 hc iV dr je => ?_)
    obtain ⟨ag, ei, h⟩ := aF h
    obtain ⟨al, eX, h⟩ := aF h
    obtain ⟨aS, cg, h⟩ := aF h
    refine kk (bY [(0, .slice (a0.map gL)), (3, .ao 4 ((List.set bO (Int.toNat bD) al).map fC)), (4, .int .i64 bD)] (fun P ai => ?_) ?_)
    ·simp only [aN.down, simprocAttr, eG, e0, qD, jr, gy, gY, h1, gd, oh, qE, mz, mA, cf, gL, gn, gz, fC, fI, ei, cg, c3 cg, en, dZ]
     refine eC (avC ag _ eX) rfl rfl rfl rfl (.inl (by rfl)) ?_
     simp only [aN.down, simprocAttr, eG, e0, qD, jr, gy, gY, h1, gd, oh, qE, mz, mA, cf, gL, gn, gz, fC, fI, ei, cg, c3 cg, en, dZ]
     (try simp only [bh.down, simprocAttr, cf, gL, gn, gz, fC, fI, ei, cg, c3 cg, en, dZ] at ai ⊢); exact ai
    refine hc _ (e_ _ (.inl ?_))
    refine wr [(0, .slice (a0.map gL)), (3, .ao 4 ((List.set bO (Int.toNat bD) al).map fC)), (4, .int .i64 (IntKind.i64.wrap (bD + 1)))] ?_
    exact ea _ (.inr ⟨_, bu rfl, jx (List.set bO (Int.toNat bD) al) (IntKind.i64.wrap (bD + 1)) h⟩)
   ·simp only [cR, ak.down]
    refine dV (e9 0 _ (cP 0 _ (dd _ (eI _ (.inl ?_)))))
    refine ws _ ?_
    exact aE (an _ (.inl (aG [.ao 4 (bO.map fC)])))
 obtain ⟨n, h⟩ := dQ h
 exact dW (.inr ⟨_, nv [] rfl (kl (t := 0) (d := .slice (a0.map gL)) rfl (nx (t := 3) (d := .ao 4 (List.replicate (Int.toNat (a0.length : Int)) (.agg [(.int .i64 0), (.int .i64 0), (.str []), .bp]))) (bQ := .ao 4 ((List.replicate (Int.toNat (a0.length : Int)) (bJ.mk 0 0 ([] : List UInt8) [])).map fC)) rfl rfl (xX (u := fC) (z := (bJ.mk 0 0 ([] : List UInt8) [])) (.agg (.cons (.refl _) (.cons (.refl _) (.cons (.refl _) (.cons (.kY _) (.nil)))))) _) (by decide) (kl (t := 4) (d := .int .i64 0) rfl (nw)))), jw n (List.replicate (Int.toNat (a0.length : Int)) (bJ.mk 0 0 ([] : List UInt8) [])) 0 h⟩)
theorem avE (a0 : iE) (r : bk) (h : yq a0 = some r) : bm aD 83 [g9 a0] (ff r) [] := by
 refine bX [0] [.cell 2 121] Tryz.func83 ZR (fun bT an bS => ?_)
 refine ws _ ?_
 refine ws _ ?_
 refine ws _ ?_
 refine ws _ ?_
 obtain ⟨ag, cn, h⟩ := aF h
 refine dC (avD a0.Body _ cn) _ ?_
 refine ws _ ?_
 exact aE (an _ (.inl (aG [ff (bk.mk a0.Name a0.dw ag)])))
theorem avF (a0 : List iE) (r : (List bk)) (h : yr a0 = some r) : bm aD 44 [.slice (a0.map g9)] (.ao 3 (r.map ff)) [] := by
 refine bX [0] [.tmp 2] Tryz.func44 Z0 (fun bT an bS => ?_)
 refine ws _ ?_
 obtain ⟨qP, aW, h⟩ := aF h
 refine cN (bY [(0, .slice (a0.map g9)), (3, .ao 3 (List.replicate (Int.toNat (a0.length : Int)) (.agg [(.str []), (.int .i64 0), .bp])))] (fun P ai => ?_) ?_)
 ·simp only [aN.down, simprocAttr, eG, e0, vI, m1, qD, vM, jr, kE, gy, gY, h1, gd, oh, qE, mz, mA, g9, gL, gn, gz, (eA aW).1, (eA aW).2.1, (eA aW).2.2, eQ, List.map_replicate, -Int.reduceNatCast']
  (try simp only [bh.down, simprocAttr, g9, gL, gn, gz, (eA aW).1, (eA aW).2.1, (eA aW).2.2, eQ, List.map_replicate, -Int.reduceNatCast'] at ai ⊢); exact ai
 refine aL an (fun eb eI ch bs => ?_)
 refine ws [(0, .slice (a0.map g9)), (3, .ao 3 (List.replicate (Int.toNat (a0.length : Int)) (.agg [(.str []), (.int .i64 0), .bp]))), (4, .int .i64 0)] ?_
 refine bL ch (fun fk dy dv dd bE => ?_)
 have jw : ∀ (n : Nat) (bO : List bk) (bD : Int), Bx a0 n bO bD = some r → dE aD Nm fk (aa [(0, .slice (a0.map g9)), (3, .ao 3 (bO.map ff)), (4, .int .i64 bD)]) := by
  intro fc
  induction fc with
  | zero => intro bO bD h; cases (show none = some r from h)
  | succ fc jx =>
   intro bO bD h
   replace h : MJ (Bx a0 fc) a0 bO bD = some r := h
   refine dX dv (fun hD ea er cP => ?_)
   refine aL er (fun ha g0 gN e9 => ?_)
   refine ws _ ?_
   refine aV h (fun cR h => ?_) (fun cR h => ?_)
   ·simp only [cR, ak.down]
    refine aY (g0 _ (.inl ?_))
    refine aL er (fun ir e_ gf fe => ?_)
    refine bL gf (fun j8 hc iV dr je => ?_)
    obtain ⟨ag, ei, h⟩ := aF h
    obtain ⟨al, eX, h⟩ := aF h
    obtain ⟨aS, cg, h⟩ := aF h
    refine kk (bY [(0, .slice (a0.map g9)), (3, .ao 3 ((List.set bO (Int.toNat bD) al).map ff)), (4, .int .i64 bD)] (fun P ai => ?_) ?_)
    ·simp only [aN.down, simprocAttr, eG, e0, vI, m1, qD, vM, jr, kE, gy, gY, h1, gd, oh, qE, mz, mA, cf, g9, gL, gn, gz, ff, fC, fI, ei, cg, c3 cg, en, dZ]
     refine eC (avE ag _ eX) rfl rfl rfl rfl (.inl (by rfl)) ?_
     simp only [aN.down, simprocAttr, eG, e0, vI, m1, qD, vM, jr, kE, gy, gY, h1, gd, oh, qE, mz, mA, cf, g9, gL, gn, gz, ff, fC, fI, ei, cg, c3 cg, en, dZ]
     (try simp only [bh.down, simprocAttr, cf, g9, gL, gn, gz, ff, fC, fI, ei, cg, c3 cg, en, dZ] at ai ⊢); exact ai
    refine hc _ (e_ _ (.inl ?_))
    refine wr [(0, .slice (a0.map g9)), (3, .ao 3 ((List.set bO (Int.toNat bD) al).map ff)), (4, .int .i64 (IntKind.i64.wrap (bD + 1)))] ?_
    exact ea _ (.inr ⟨_, bu rfl, jx (List.set bO (Int.toNat bD) al) (IntKind.i64.wrap (bD + 1)) h⟩)
   ·simp only [cR, ak.down]
    refine dV (e9 0 _ (cP 0 _ (dd _ (eI _ (.inl ?_)))))
    refine ws _ ?_
    exact aE (an _ (.inl (aG [.ao 3 (bO.map ff)])))
 obtain ⟨n, h⟩ := dQ h
 exact dW (.inr ⟨_, nv [] rfl (kl (t := 0) (d := .slice (a0.map g9)) rfl (nx (t := 3) (d := .ao 3 (List.replicate (Int.toNat (a0.length : Int)) (.agg [(.str []), (.int .i64 0), .bp]))) (bQ := .ao 3 ((List.replicate (Int.toNat (a0.length : Int)) (bk.mk ([] : List UInt8) 0 [])).map ff)) rfl rfl (xX (u := ff) (z := (bk.mk ([] : List UInt8) 0 [])) (.agg (.cons (.refl _) (.cons (.refl _) (.cons (.kY _) (.nil))))) _) (by decide) (kl (t := 4) (d := .int .i64 0) rfl (nw)))), jw n (List.replicate (Int.toNat (a0.length : Int)) (bk.mk ([] : List UInt8) 0 [])) 0 h⟩)
theorem wy (a0 : List Int) (r : (List Int)) (h : qF a0 = some r) : bm aD 25 [.slice (a0.map a1)] (.ao 1 (r.map a1)) [] := by
 refine bX [0] [.tmp 2] Tryz.func25 tJ (fun bT an bS => ?_)
 refine ws _ ?_
 obtain ⟨avG, aW, h⟩ := aF h
 refine cN (bY [(0, .slice (a0.map a1)), (3, .ao 1 ((List.replicate (Int.toNat (a0.length : Int)) 0).map a1))] (fun P ai => ?_) ?_)
 ·simp only [aN.down, simprocAttr, kp.down, (eA aW).1, (eA aW).2.1, (eA aW).2.2, eQ, List.map_replicate, -Int.reduceNatCast']
  (try simp only [bh.down, simprocAttr, a1, (eA aW).1, (eA aW).2.1, (eA aW).2.2, eQ, List.map_replicate, -Int.reduceNatCast'] at ai ⊢); exact ai
 refine aL an (fun eb eI ch bs => ?_)
 refine ws [(0, .slice (a0.map a1)), (3, .ao 1 ((List.replicate (Int.toNat (a0.length : Int)) 0).map a1)), (4, .int .i64 0)] ?_
 refine bL ch (fun fk dy dv dd bE => ?_)
 have jw : ∀ (n : Nat) (bO : List Int) (bD : Int), Bz a0 n bO bD = some r → dE aD Nn fk (aa [(0, .slice (a0.map a1)), (3, .ao 1 (bO.map a1)), (4, .int .i64 bD)]) := by
  intro fc
  induction fc with
  | zero => intro bO bD h; cases (show none = some r from h)
  | succ fc jx =>
   intro bO bD h
   replace h : MK (Bz a0 fc) a0 bO bD = some r := h
   refine dX dv (fun hD ea er cP => ?_)
   refine aL er (fun ha g0 gN e9 => ?_)
   refine ws _ ?_
   refine aV h (fun cR h => ?_) (fun cR h => ?_)
   ·simp only [cR, ak.down]
    refine aY (g0 _ (.inl ?_))
    refine aL er (fun ir e_ gf fe => ?_)
    refine bL gf (fun j8 hc iV dr je => ?_)
    obtain ⟨ag, ei, h⟩ := aF h
    obtain ⟨al, eX, h⟩ := aF h
    refine kk (bY [(0, .slice (a0.map a1)), (3, .ao 1 ((List.set bO (Int.toNat bD) ag).map a1)), (4, .int .i64 bD)] (fun P ai => ?_) ?_)
    ·simp only [aN.down, simprocAttr, kp.down, ei, eX, c3 eX, en, dZ]
     (try simp only [bh.down, simprocAttr, a1, ei, eX, c3 eX, en, dZ] at ai ⊢); exact ai
    refine hc _ (e_ _ (.inl ?_))
    refine wr [(0, .slice (a0.map a1)), (3, .ao 1 ((List.set bO (Int.toNat bD) ag).map a1)), (4, .int .i64 (IntKind.i64.wrap (bD + 1)))] ?_
    exact ea _ (.inr ⟨_, bu rfl, jx (List.set bO (Int.toNat bD) ag) (IntKind.i64.wrap (bD + 1)) h⟩)
   ·simp only [cR, ak.down]
    refine dV (e9 0 _ (cP 0 _ (dd _ (eI _ (.inl ?_)))))
    refine ws _ ?_
    exact aE (an _ (.inl (aG [.ao 1 (bO.map a1)])))
 obtain ⟨n, h⟩ := dQ h
 exact dW (.inr ⟨_, bu rfl, jw n (List.replicate (Int.toNat (a0.length : Int)) 0) 0 h⟩)
theorem avH (a0 : iS) (r : dq) (h : ys a0 = some r) : bm aD 84 [g_ a0] (fq r) [] := by
 refine bX [0] [.cell 2 100] Tryz.func84 aad (fun bT an bS => ?_)
 refine ws _ ?_
 refine ws _ ?_
 refine ws _ ?_
 obtain ⟨ag, cZ, h⟩ := aF h
 refine dC (wy a0.cF _ cZ) _ ?_
 refine ws _ ?_
 exact aE (an _ (.inl (aG [fq (dq.mk a0.dG ag)])))
theorem avI (a0 : List iS) (r : (List dq)) (h : BB a0 = some r) : bm aD 45 [.slice (a0.map g_)] (.ao 2 (r.map fq)) [] := by
 refine bX [0] [.tmp 2] Tryz.func45 aam (fun bT an bS => ?_)
 refine ws _ ?_
 obtain ⟨qP, aW, h⟩ := aF h
 refine cN (bY [(0, .slice (a0.map g_)), (3, .ao 2 (List.replicate (Int.toNat (a0.length : Int)) (.agg [(.int .i64 0), .bp])))] (fun P ai => ?_) ?_)
 ·simp only [aN.down, simprocAttr, eG, vJ, og, iQ, nB, vN, a1, g_, (eA aW).1, (eA aW).2.1, (eA aW).2.2, eQ, List.map_replicate, -Int.reduceNatCast']
  (try simp only [bh.down, simprocAttr, a1, g_, (eA aW).1, (eA aW).2.1, (eA aW).2.2, eQ, List.map_replicate, -Int.reduceNatCast'] at ai ⊢); exact ai
 refine aL an (fun eb eI ch bs => ?_)
 refine ws [(0, .slice (a0.map g_)), (3, .ao 2 (List.replicate (Int.toNat (a0.length : Int)) (.agg [(.int .i64 0), .bp]))), (4, .int .i64 0)] ?_
 refine bL ch (fun fk dy dv dd bE => ?_)
 have jw : ∀ (n : Nat) (bO : List dq) (bD : Int), BA a0 n bO bD = some r → dE aD Np fk (aa [(0, .slice (a0.map g_)), (3, .ao 2 (bO.map fq)), (4, .int .i64 bD)]) := by
  intro fc
  induction fc with
  | zero => intro bO bD h; cases (show none = some r from h)
  | succ fc jx =>
   intro bO bD h
   replace h : ML (BA a0 fc) a0 bO bD = some r := h
   refine dX dv (fun hD ea er cP => ?_)
   refine aL er (fun ha g0 gN e9 => ?_)
   refine ws _ ?_
   refine aV h (fun cR h => ?_) (fun cR h => ?_)
   ·simp only [cR, ak.down]
    refine aY (g0 _ (.inl ?_))
    refine aL er (fun ir e_ gf fe => ?_)
    refine bL gf (fun j8 hc iV dr je => ?_)
    obtain ⟨ag, ei, h⟩ := aF h
    obtain ⟨al, eX, h⟩ := aF h
    obtain ⟨aS, cg, h⟩ := aF h
    refine kk (bY [(0, .slice (a0.map g_)), (3, .ao 2 ((List.set bO (Int.toNat bD) al).map fq)), (4, .int .i64 bD)] (fun P ai => ?_) ?_)
    ·simp only [aN.down, simprocAttr, eG, vJ, og, iQ, nB, vN, a1, g_, fq, ei, cg, c3 cg, en, dZ]
     refine eC (avH ag _ eX) rfl rfl rfl rfl (.inl (by rfl)) ?_
     simp only [aN.down, simprocAttr, eG, vJ, og, iQ, nB, vN, a1, g_, fq, ei, cg, c3 cg, en, dZ]
     (try simp only [bh.down, simprocAttr, a1, g_, fq, ei, cg, c3 cg, en, dZ] at ai ⊢); exact ai
    refine hc _ (e_ _ (.inl ?_))
    refine wr [(0, .slice (a0.map g_)), (3, .ao 2 ((List.set bO (Int.toNat bD) al).map fq)), (4, .int .i64 (IntKind.i64.wrap (bD + 1)))] ?_
    exact ea _ (.inr ⟨_, bu rfl, jx (List.set bO (Int.toNat bD) al) (IntKind.i64.wrap (bD + 1)) h⟩)
   ·simp only [cR, ak.down]
    refine dV (e9 0 _ (cP 0 _ (dd _ (eI _ (.inl ?_)))))
    refine ws _ ?_
    exact aE (an _ (.inl (aG [.ao 2 (bO.map fq)])))
 obtain ⟨n, h⟩ := dQ h
 exact dW (.inr ⟨_, nv [] rfl (kl (t := 0) (d := .slice (a0.map g_)) rfl (nx (t := 3) (d := .ao 2 (List.replicate (Int.toNat (a0.length : Int)) (.agg [(.int .i64 0), .bp]))) (bQ := .ao 2 ((List.replicate (Int.toNat (a0.length : Int)) (dq.mk 0 [])).map fq)) rfl rfl (xX (u := fq) (z := (dq.mk 0 [])) (.agg (.cons (.refl _) (.cons (.kY _) (.nil)))) _) (by decide) (kl (t := 4) (d := .int .i64 0) rfl (nw)))), jw n (List.replicate (Int.toNat (a0.length : Int)) (dq.mk 0 [])) 0 h⟩)
theorem avJ (a0 : iF) (r : cc) (h : yt a0 = some r) : bm aD 85 [gZ a0] (bx r) [] := by
 refine bX [0] [.cell 2 124] Tryz.func85 aat (fun bT an bS => ?_)
 refine ws _ ?_
 refine ws _ ?_
 refine ws _ ?_
 refine ws _ ?_
 refine ws _ ?_
 refine ws _ ?_
 exact aE (an _ (.inl (aG [bx (cc.mk a0.Left a0.cp a0.Result)])))
theorem avK (a0 : List iF) (r : (List cc)) (h : BD a0 = some r) : bm aD 46 [.slice (a0.map gZ)] (.ao 3 (r.map bx)) [] := by
 refine bX [0] [.tmp 2] Tryz.func46 aaC (fun bT an bS => ?_)
 refine ws _ ?_
 obtain ⟨qP, aW, h⟩ := aF h
 refine cN (bY [(0, .slice (a0.map gZ)), (3, .ao 3 ((List.replicate (Int.toNat (a0.length : Int)) (cc.mk ([] : List UInt8) ([] : List UInt8) ([] : List UInt8))).map bx))] (fun P ai => ?_) ?_)
 ·simp only [aN.down, simprocAttr, e0, vK, pY, vO, m3, bx, gZ, (eA aW).1, (eA aW).2.1, (eA aW).2.2, eQ, List.map_replicate, -Int.reduceNatCast']
  (try simp only [bh.down, simprocAttr, bx, gZ, (eA aW).1, (eA aW).2.1, (eA aW).2.2, eQ, List.map_replicate, -Int.reduceNatCast'] at ai ⊢); exact ai
 refine aL an (fun eb eI ch bs => ?_)
 refine ws [(0, .slice (a0.map gZ)), (3, .ao 3 ((List.replicate (Int.toNat (a0.length : Int)) (cc.mk ([] : List UInt8) ([] : List UInt8) ([] : List UInt8))).map bx)), (4, .int .i64 0)] ?_
 refine bL ch (fun fk dy dv dd bE => ?_)
 have jw : ∀ (n : Nat) (bO : List cc) (bD : Int), BC a0 n bO bD = some r → dE aD Nq fk (aa [(0, .slice (a0.map gZ)), (3, .ao 3 (bO.map bx)), (4, .int .i64 bD)]) := by
  intro fc
  induction fc with
  | zero => intro bO bD h; cases (show none = some r from h)
  | succ fc jx =>
   intro bO bD h
   replace h : MM (BC a0 fc) a0 bO bD = some r := h
   refine dX dv (fun hD ea er cP => ?_)
   refine aL er (fun ha g0 gN e9 => ?_)
   refine ws _ ?_
   refine aV h (fun cR h => ?_) (fun cR h => ?_)
   ·simp only [cR, ak.down]
    refine aY (g0 _ (.inl ?_))
    refine aL er (fun ir e_ gf fe => ?_)
    refine bL gf (fun j8 hc iV dr je => ?_)
    obtain ⟨ag, ei, h⟩ := aF h
    obtain ⟨al, eX, h⟩ := aF h
    obtain ⟨aS, cg, h⟩ := aF h
    refine kk (bY [(0, .slice (a0.map gZ)), (3, .ao 3 ((List.set bO (Int.toNat bD) al).map bx)), (4, .int .i64 bD)] (fun P ai => ?_) ?_)
    ·simp only [aN.down, simprocAttr, e0, vK, pY, vO, m3, bx, gZ, ei, cg, c3 cg, en, dZ]
     refine eC (avJ ag _ eX) rfl rfl rfl rfl (.inl (by rfl)) ?_
     simp only [aN.down, simprocAttr, e0, vK, pY, vO, m3, bx, gZ, ei, cg, c3 cg, en, dZ]
     (try simp only [bh.down, simprocAttr, bx, gZ, ei, cg, c3 cg, en, dZ] at ai ⊢); exact ai
    refine hc _ (e_ _ (.inl ?_))
    refine wr [(0, .slice (a0.map gZ)), (3, .ao 3 ((List.set bO (Int.toNat bD) al).map bx)), (4, .int .i64 (IntKind.i64.wrap (bD + 1)))] ?_
    exact ea _ (.inr ⟨_, bu rfl, jx (List.set bO (Int.toNat bD) al) (IntKind.i64.wrap (bD + 1)) h⟩)
   ·simp only [cR, ak.down]
    refine dV (e9 0 _ (cP 0 _ (dd _ (eI _ (.inl ?_)))))
    refine ws _ ?_
    exact aE (an _ (.inl (aG [.ao 3 (bO.map bx)])))
 obtain ⟨n, h⟩ := dQ h
 exact dW (.inr ⟨_, bu rfl, jw n (List.replicate (Int.toNat (a0.length : Int)) (cc.mk ([] : List UInt8) ([] : List UInt8) ([] : List UInt8))) 0 h⟩)
theorem OL (a0 : List (List UInt8)) (r : (List (List UInt8))) (h : yu a0 = some r) : bm aD 47 [.slice (a0.map bG)] (.ao 1 (r.map bG)) [] := by
 refine bX [0] [.tmp 2] Tryz.func47 tK (fun bT an bS => ?_)
 refine ws _ ?_
 obtain ⟨avG, aW, h⟩ := aF h
 refine cN (bY [(0, .slice (a0.map bG)), (3, .ao 1 ((List.replicate (Int.toNat (a0.length : Int)) ([] : List UInt8)).map bG))] (fun P ai => ?_) ?_)
 ·simp only [aN.down, simprocAttr, e0, lx, bG, (eA aW).1, (eA aW).2.1, (eA aW).2.2, eQ, List.map_replicate, -Int.reduceNatCast']
  (try simp only [bh.down, simprocAttr, bG, (eA aW).1, (eA aW).2.1, (eA aW).2.2, eQ, List.map_replicate, -Int.reduceNatCast'] at ai ⊢); exact ai
 refine aL an (fun eb eI ch bs => ?_)
 refine ws [(0, .slice (a0.map bG)), (3, .ao 1 ((List.replicate (Int.toNat (a0.length : Int)) ([] : List UInt8)).map bG)), (4, .int .i64 0)] ?_
 refine bL ch (fun fk dy dv dd bE => ?_)
 have jw : ∀ (n : Nat) (bO : List (List UInt8)) (bD : Int), BE a0 n bO bD = some r → dE aD Nr fk (aa [(0, .slice (a0.map bG)), (3, .ao 1 (bO.map bG)), (4, .int .i64 bD)]) := by
  intro fc
  induction fc with
  | zero => intro bO bD h; cases (show none = some r from h)
  | succ fc jx =>
   intro bO bD h
   replace h : MN (BE a0 fc) a0 bO bD = some r := h
   refine dX dv (fun hD ea er cP => ?_)
   refine aL er (fun ha g0 gN e9 => ?_)
   refine ws _ ?_
   refine aV h (fun cR h => ?_) (fun cR h => ?_)
   ·simp only [cR, ak.down]
    refine aY (g0 _ (.inl ?_))
    refine aL er (fun ir e_ gf fe => ?_)
    refine bL gf (fun j8 hc iV dr je => ?_)
    obtain ⟨ag, ei, h⟩ := aF h
    obtain ⟨al, eX, h⟩ := aF h
    refine kk (bY [(0, .slice (a0.map bG)), (3, .ao 1 ((List.set bO (Int.toNat bD) ag).map bG)), (4, .int .i64 bD)] (fun P ai => ?_) ?_)
    ·simp only [aN.down, simprocAttr, e0, lx, bG, ei, eX, c3 eX, en, dZ]
     (try simp only [bh.down, simprocAttr, bG, ei, eX, c3 eX, en, dZ] at ai ⊢); exact ai
    refine hc _ (e_ _ (.inl ?_))
    refine wr [(0, .slice (a0.map bG)), (3, .ao 1 ((List.set bO (Int.toNat bD) ag).map bG)), (4, .int .i64 (IntKind.i64.wrap (bD + 1)))] ?_
    exact ea _ (.inr ⟨_, bu rfl, jx (List.set bO (Int.toNat bD) ag) (IntKind.i64.wrap (bD + 1)) h⟩)
   ·simp only [cR, ak.down]
    refine dV (e9 0 _ (cP 0 _ (dd _ (eI _ (.inl ?_)))))
    refine ws _ ?_
    exact aE (an _ (.inl (aG [.ao 1 (bO.map bG)])))
 obtain ⟨n, h⟩ := dQ h
 exact dW (.inr ⟨_, bu rfl, jw n (List.replicate (Int.toNat (a0.length : Int)) ([] : List UInt8)) 0 h⟩)
theorem DD (a0 : k5) (r : eo) (h : rL a0 = some r) : bm aD 11 [jv a0] (l_ r) [] := by
 refine bX [0] [.cell 2 38] Tryz.func11 wk (fun bT an bS => ?_)
 refine ws _ ?_
 refine ws _ ?_
 obtain ⟨ag, cS, h⟩ := aF h
 refine dC (avF a0.eH _ cS) _ ?_
 obtain ⟨al, cn, h⟩ := aF h
 refine dC (avI a0.c_ _ cn) _ ?_
 obtain ⟨aS, hv, h⟩ := aF h
 refine dC (avK a0.hH _ hv) _ ?_
 obtain ⟨bs, nm, h⟩ := aF h
 refine dC (OL a0.hA _ nm) _ ?_
 obtain ⟨bH, ey, h⟩ := aF h
 refine dC (OL a0.hB _ ey) _ ?_
 refine ws _ ?_
 exact aE (an _ (.inl (aG [l_ (eo.mk ag al aS bs bH)])))
theorem avL (a0 : iG) (r : bM) (h : yv a0 = some r) : bm aD 48 [gM a0] (cC r) [] := by
 refine bX [0] [.cell 2 82] Tryz.func48 aaZ (fun bT an bS => ?_)
 refine ws _ ?_
 refine ws _ ?_
 refine ws _ ?_
 refine ws _ ?_
 obtain ⟨ag, cn, h⟩ := aF h
 refine dC (wy a0.cF _ cn) _ ?_
 refine ws _ ?_
 exact aE (an _ (.inl (aG [cC (bM.mk a0.dG a0.Part ag)])))
theorem DE (a0 : List iG) (r : (List bM)) (h : s5 a0 = some r) : bm aD 12 [.slice (a0.map gM)] (.ao 3 (r.map cC)) [] := by
 refine bX [0] [.tmp 2] Tryz.func12 wm (fun bT an bS => ?_)
 refine ws _ ?_
 obtain ⟨qP, aW, h⟩ := aF h
 refine cN (bY [(0, .slice (a0.map gM)), (3, .ao 3 (List.replicate (Int.toNat (a0.length : Int)) (.agg [(.int .i64 0), (.int .i64 0), .bp])))] (fun P ai => ?_) ?_)
 ·simp only [aN.down, simprocAttr, eG, Be, qC, iQ, Bf, m2, a1, gM, (eA aW).1, (eA aW).2.1, (eA aW).2.2, eQ, List.map_replicate, -Int.reduceNatCast']
  (try simp only [bh.down, simprocAttr, a1, gM, (eA aW).1, (eA aW).2.1, (eA aW).2.2, eQ, List.map_replicate, -Int.reduceNatCast'] at ai ⊢); exact ai
 refine aL an (fun eb eI ch bs => ?_)
 refine ws [(0, .slice (a0.map gM)), (3, .ao 3 (List.replicate (Int.toNat (a0.length : Int)) (.agg [(.int .i64 0), (.int .i64 0), .bp]))), (4, .int .i64 0)] ?_
 refine bL ch (fun fk dy dv dd bE => ?_)
 have jw : ∀ (n : Nat) (bO : List bM) (bD : Int), BF a0 n bO bD = some r → dE aD Ns fk (aa [(0, .slice (a0.map gM)), (3, .ao 3 (bO.map cC)), (4, .int .i64 bD)]) := by
  intro fc
  induction fc with
  | zero => intro bO bD h; cases (show none = some r from h)
  | succ fc jx =>
   intro bO bD h
   replace h : MO (BF a0 fc) a0 bO bD = some r := h
   refine dX dv (fun hD ea er cP => ?_)
   refine aL er (fun ha g0 gN e9 => ?_)
   refine ws _ ?_
   refine aV h (fun cR h => ?_) (fun cR h => ?_)
   ·simp only [cR, ak.down]
    refine aY (g0 _ (.inl ?_))
    refine aL er (fun ir e_ gf fe => ?_)
    refine bL gf (fun j8 hc iV dr je => ?_)
    obtain ⟨ag, ei, h⟩ := aF h
    obtain ⟨al, eX, h⟩ := aF h
    obtain ⟨aS, cg, h⟩ := aF h
    refine kk (bY [(0, .slice (a0.map gM)), (3, .ao 3 ((List.set bO (Int.toNat bD) al).map cC)), (4, .int .i64 bD)] (fun P ai => ?_) ?_)
    ·simp only [aN.down, simprocAttr, eG, Be, qC, iQ, Bf, m2, a1, gM, cC, ei, cg, c3 cg, en, dZ]
     refine eC (avL ag _ eX) rfl rfl rfl rfl (.inl (by rfl)) ?_
     simp only [aN.down, simprocAttr, eG, Be, qC, iQ, Bf, m2, a1, gM, cC, ei, cg, c3 cg, en, dZ]
     (try simp only [bh.down, simprocAttr, a1, gM, cC, ei, cg, c3 cg, en, dZ] at ai ⊢); exact ai
    refine hc _ (e_ _ (.inl ?_))
    refine wr [(0, .slice (a0.map gM)), (3, .ao 3 ((List.set bO (Int.toNat bD) al).map cC)), (4, .int .i64 (IntKind.i64.wrap (bD + 1)))] ?_
    exact ea _ (.inr ⟨_, bu rfl, jx (List.set bO (Int.toNat bD) al) (IntKind.i64.wrap (bD + 1)) h⟩)
   ·simp only [cR, ak.down]
    refine dV (e9 0 _ (cP 0 _ (dd _ (eI _ (.inl ?_)))))
    refine ws _ ?_
    exact aE (an _ (.inl (aG [.ao 3 (bO.map cC)])))
 obtain ⟨n, h⟩ := dQ h
 exact dW (.inr ⟨_, nv [] rfl (kl (t := 0) (d := .slice (a0.map gM)) rfl (nx (t := 3) (d := .ao 3 (List.replicate (Int.toNat (a0.length : Int)) (.agg [(.int .i64 0), (.int .i64 0), .bp]))) (bQ := .ao 3 ((List.replicate (Int.toNat (a0.length : Int)) (bM.mk 0 0 [])).map cC)) rfl rfl (xX (u := cC) (z := (bM.mk 0 0 [])) (.agg (.cons (.refl _) (.cons (.refl _) (.cons (.kY _) (.nil))))) _) (by decide) (kl (t := 4) (d := .int .i64 0) rfl (nw)))), jw n (List.replicate (Int.toNat (a0.length : Int)) (bM.mk 0 0 [])) 0 h⟩)
theorem Ho (a0 : UInt8) (r : Bool) (h : yw a0 = some r) : bm aD 240 [.int .u8 (a0.toNat : Int)] (.bool r) [] := by
 refine bX [0] [.tmp 2] Tryz.func240 aa_ (fun bT an bS => ?_)
 refine ws _ ?_
 refine cN (bY [(2, .bool ((decide (97 ≤ (a0.toNat : Int))) && (decide ((a0.toNat : Int) ≤ 122))))] (fun P ai => ?_) ?_)
 ·rcases Bool.eq_false_or_eq_true (decide (97 ≤ (a0.toNat : Int))) with fo | fo
  ·simp only [aN.down, simprocAttr, fo]
   (try simp only [bh.down, simprocAttr, fo] at ai ⊢); exact ai
  ·simp only [aN.down, simprocAttr, fo]
   (try simp only [bh.down, simprocAttr, fo] at ai ⊢); exact ai
 exact aE (an _ (.inl (aG [.bool ((decide (97 ≤ (a0.toNat : Int))) && (decide ((a0.toNat : Int) ≤ 122)))])))
theorem avM (a0 : UInt8) (r : Bool) (h : Gz a0 = some r) : bm aD 241 [.int .u8 (a0.toNat : Int)] (.bool r) [] := by
 refine bX [0] [.tmp 2] Tryz.func241 abc (fun bT an bS => ?_)
 refine ws _ ?_
 refine cN (bY [(2, .bool ((decide (48 ≤ (a0.toNat : Int))) && (decide ((a0.toNat : Int) ≤ 57))))] (fun P ai => ?_) ?_)
 ·rcases Bool.eq_false_or_eq_true (decide (48 ≤ (a0.toNat : Int))) with fo | fo
  ·simp only [aN.down, simprocAttr, fo]
   (try simp only [bh.down, simprocAttr, fo] at ai ⊢); exact ai
  ·simp only [aN.down, simprocAttr, fo]
   (try simp only [bh.down, simprocAttr, fo] at ai ⊢); exact ai
 exact aE (an _ (.inl (aG [.bool ((decide (48 ≤ (a0.toNat : Int))) && (decide ((a0.toNat : Int) ≤ 57)))])))
theorem zD (a0 : List UInt8) (r : Bool) (h : vT a0 = some r) : bm aD 181 [.str a0] (.bool r) [] := by
 refine bX [0] [.tmp 2] Tryz.func181 abp (fun bT an bS => ?_)
 refine ws _ ?_
 refine aL an (fun ef bU bj al => ?_)
 rcases fm h with ⟨bt, h⟩ | ⟨bt, h⟩
 ·refine h2 bt _ ?_
  refine iZ rfl ?_
  refine ws _ ?_
  exact aE (bj _ (.inl (aG [.bool false])))
 ·rcases fm h with ⟨dd, h⟩ | ⟨dd, h⟩
  ·refine h2 (And.intro bt dd) _ ?_
   refine iZ rfl ?_
   refine ws _ ?_
   exact aE (bj _ (.inl (aG [.bool false])))
  ·obtain ⟨ag, hv, h⟩ := aF h
   obtain ⟨al, kv, h⟩ := aF h
   refine cN (bY [(0, .str a0), (16, .bool (!al))] (fun P ai => ?_) ?_)
   ·simp only [aN.down, simprocAttr, e0, bt, dd, hv]
    refine hN (Ho ag _ kv) rfl rfl rfl rfl (.inl (by rfl)) ?_
    simp only [aN.down, simprocAttr, e0, bt, dd, hv]
    (try simp only [bh.down, simprocAttr, bt, dd, hv] at ai ⊢); exact ai
   refine aV h (fun cR h => ?_) (fun cR h => ?_)
   ·simp only [(cV cR), ak.down]
    refine ws _ ?_
    exact aE (bj _ (.inl (aG [.bool false])))
   ·simp only [(bn cR), ak.down]
    refine aY (bU _ (.inl ?_))
    refine aL an (fun j8 hc iV je => ?_)
    refine ws _ ?_
    refine bL iV (fun iH fs fa eD ic => ?_)
    have hq : ∀ (n : Nat) (c9 : Int), vS a0 n c9 = some r → dE aD Nt iH (aa [(0, .str a0), (3, .int .i64 c9)]) := by
     intro dz
     induction dz with
     | zero => intro c9 h; cases (show none = some r from h)
     | succ dz hd =>
      intro c9 h
      replace h : BG (vS a0 dz) a0 c9 = some r := h
      refine dX fa (fun lS hE hj ju => ?_)
      refine aL hj (fun qO k7 lz nI => ?_)
      refine ws _ ?_
      refine aV h (fun fz h => ?_) (fun fz h => ?_)
      ·simp only [fz, ak.down]
       refine aY (k7 _ (.inl ?_))
       refine aL hj (fun OM wz DF qL => ?_)
       refine bL DF (fun avN DG Hp ew zi => ?_)
       obtain ⟨aS, hP, h⟩ := aF h
       obtain ⟨bs, kI, h⟩ := aF h
       rcases fm h with ⟨ig, h⟩ | ⟨ig, h⟩
       ·obtain ⟨bH, lA, h⟩ := aF h
        refine cN (bY [(0, .str a0), (3, .int .i64 c9), (34, .bool (!bH))] (fun P ai => ?_) ?_)
        ·simp only [aN.down, simprocAttr, e0, hP, (cV ig)]
         refine eC (Ho aS _ kI) rfl rfl rfl rfl (.inl (by rfl)) ?_
         simp only [aN.down, simprocAttr, e0, hP, (cV ig)]
         refine hN (avM aS _ lA) rfl rfl rfl rfl (.inl (by rfl)) ?_
         simp only [aN.down, simprocAttr, e0, hP, (cV ig)]
         (try simp only [bh.down, simprocAttr, hP, (cV ig)] at ai ⊢); exact ai
        refine aV h (fun g1 h => ?_) (fun g1 h => ?_)
        ·simp only [(cV g1), ak.down]
         refine ws _ ?_
         exact aE (Hp _ (.inl (aG [.bool false])))
        ·simp only [(bn g1), ak.down]
         refine aY (DG _ (wz _ (.inl ?_)))
         refine wr _ ?_
         exact hE _ (.inr ⟨_, bu rfl, hd (IntKind.i64.wrap (c9 + 1)) h⟩)
       ·refine h3 (And.intro hP (bn ig)) (Ho aS _ kI) _ ?_
        refine rF rfl ?_
        refine aY (DG _ (wz _ (.inl ?_)))
        refine wr _ ?_
        exact hE _ (.inr ⟨_, bu rfl, hd (IntKind.i64.wrap (c9 + 1)) h⟩)
      ·simp only [fz, ak.down]
       refine dV (nI 0 _ (ju 0 _ (eD _ (hc _ (.inl ?_)))))
       refine ws _ ?_
       exact aE (an _ (.inl (aG [.bool true])))
    obtain ⟨n, h⟩ := dQ h
    exact dW (.inr ⟨_, bu rfl, hq n 0 h⟩)
theorem ma (a0 : Int) (U : Int) (a7 : Int) (r : Bool) (h : kF a0 U a7 = some r) : bm aD 61 [.int .i64 a0, .int .i64 U, .int .i64 a7] (.bool r) [] := by
 refine bX [0, 1, 2] [.tmp 6] Tryz.func61 abt (fun bT an bS => ?_)
 refine ws _ ?_
 refine cN (bY [(6, .bool ((decide (U ≤ a0)) && (decide (a0 ≤ a7))))] (fun P ai => ?_) ?_)
 ·rcases Bool.eq_false_or_eq_true (decide (U ≤ a0)) with fo | fo
  ·simp only [aN.down, simprocAttr, fo]
   (try simp only [bh.down, simprocAttr, fo] at ai ⊢); exact ai
  ·simp only [aN.down, simprocAttr, fo]
   (try simp only [bh.down, simprocAttr, fo] at ai ⊢); exact ai
 exact aE (an _ (.inl (aG [.bool ((decide (U ≤ a0)) && (decide (a0 ≤ a7)))])))
theorem ON (a0 : bJ) (r : Int) (h : yy a0 = some r) : bm aD 244 [.ref (cG a0)] (.int .i64 r) [] := by
 refine bX [0] [.tmp 2] Tryz.func244 abG (fun bT an bS => ?_)
 refine ws _ ?_
 refine aL an (fun ef bU bj al => ?_)
 refine ws _ ?_
 refine bL bj (fun eb eI ch bt bs => ?_)
 have tU : ∀ (hI : Bool), yx a0 hI = some r → df aD Nu eb (aa [(6, .int .i64 a0.Kind), (7, .bool hI)]) := by
  intro hI h
  refine aV h (fun dd h => ?_) (fun dd h => ?_)
  ·simp only [dd, ak.down]
   refine ws _ ?_
   exact aE (ch _ (.inl (aG [.int .i64 1])))
  ·simp only [dd, ak.down]
   refine ws _ ?_
   refine aV h (fun eT h => ?_) (fun eT h => ?_)
   ·simp only [eT, ak.down]
    refine ws _ ?_
    exact aE (ch _ (.inl (aG [.int .i64 2])))
   ·simp only [eT, ak.down]
    refine aY (eI _ (bU _ (.inl ?_)))
    refine ws _ ?_
    exact aE (an _ (.inl (aG [.int .i64 0])))
 refine aL ch (fun hr ep dc bH => ?_)
 refine ws _ ?_
 refine aV h (fun dY h => ?_) (fun dY h => ?_)
 ·simp only [dY, ak.down]
  exact aY (ep _ (.inr ⟨_, bu rfl, tU true h⟩))
 ·simp only [dY, ak.down]
  refine ws _ ?_
  refine aV h (fun dx h => ?_) (fun dx h => ?_)
  ·simp only [dx, ak.down]
   exact aY (ep _ (.inr ⟨_, bu rfl, tU true h⟩))
  ·simp only [dx, ak.down]
   refine wr _ ?_
   exact ep _ (.inr ⟨_, bu rfl, tU (a0.Kind == 4) h⟩)
theorem avO (a0 : List bJ) (r : Bool) (h : BI a0 = some r) : bm aD 242 [.slice (a0.map cG)] (.bool r) [] := by
 refine bX [0] [.tmp 2] Tryz.func242 abV (fun bT an bS => ?_)
 refine ws _ ?_
 refine aL an (fun ef bU bj al => ?_)
 refine cN (bY [(0, .slice (a0.map cG)), (12, .bool (((a0.length : Int) == 0) || (decide (20 < (a0.length : Int)))))] (fun P ai => ?_) ?_)
 ·rcases Bool.eq_false_or_eq_true ((a0.length : Int) == 0) with hM | hM
  ·simp only [aN.down, simprocAttr, Dv.down, hM]
   (try simp only [bh.down, simprocAttr, m9.down, hM] at ai ⊢); exact ai
  ·simp only [aN.down, simprocAttr, Dv.down, hM]
   (try simp only [bh.down, simprocAttr, m9.down, hM] at ai ⊢); exact ai
 refine aV h (fun b2 h => ?_) (fun b2 h => ?_)
 ·simp only [b2, ak.down]
  refine ws _ ?_
  exact aE (bj _ (.inl (aG [.bool false])))
 ·simp only [b2, ak.down]
  refine aY (bU _ (.inl ?_))
  refine ws _ ?_
  refine aL an (fun ha g0 gN e9 => ?_)
  refine ws _ ?_
  refine bL gN (fun eU cq cw cR cr => ?_)
  have jS : ∀ (n : Nat) (nC : Int) (oi : Int), s6 a0 n nC oi = some r → dE aD Nv eU (aa [(0, .slice (a0.map cG)), (3, .int .i64 nC), (4, .int .i64 oi)]) := by
   intro fZ
   induction fZ with
   | zero => intro nC oi h; cases (show none = some r from h)
   | succ fZ jT =>
    intro nC oi h
    replace h : BH (s6 a0 fZ) a0 nC oi = some r := h
    refine dX cw (fun ir e_ gf fe => ?_)
    refine aL gf (fun j8 hc iV je => ?_)
    refine ws _ ?_
    refine aV h (fun eD h => ?_) (fun eD h => ?_)
    ·simp only [eD, ak.down]
     refine aY (hc _ (.inl ?_))
     refine aL gf (fun lS hE hj ju => ?_)
     refine bL hj (fun qO k7 lz j9 nI => ?_)
     refine aL lz (fun ox jU jg lR => ?_)
     refine ws _ ?_
     refine aV h (fun eV h => ?_) (fun eV h => ?_)
     ·simp only [eV, ak.down]
      refine ws _ ?_
      exact aE (jg _ (.inl (aG [.bool false])))
     ·simp only [eV, ak.down]
      refine aY (jU _ (.inl ?_))
      obtain ⟨ag, hP, h⟩ := aF h
      obtain ⟨al, kI, h⟩ := aF h
      refine Hi hP (ON ag _ kI) _ ?_
      refine k7 _ (hE _ (.inl ?_))
      refine wr _ ?_
      exact e_ _ (.inr ⟨_, bu rfl, jT (IntKind.i64.wrap (nC + (IntKind.i64.wrap (al - 1)))) (IntKind.i64.wrap (oi + 1)) h⟩)
    ·simp only [eD, ak.down]
     refine dV (je 0 _ (fe 0 _ (cR _ (g0 _ (.inl ?_)))))
     refine ws _ ?_
     exact aE (an _ (.inl (aG [.bool (nC == 0)])))
  obtain ⟨n, h⟩ := dQ h
  exact dW (.inr ⟨_, bu rfl, jS n 1 0 h⟩)
theorem avP (a0 : bJ) (r : Bool) (h : GA a0 = some r) : bm aD 283 [.ref (cG a0)] (.bool r) [] := by
 refine bX [0] [.tmp 2] Tryz.func283 acf (fun bT an bS => ?_)
 refine ws _ ?_
 refine aL an (fun ef bU bj al => ?_)
 refine ws _ ?_
 refine bL bj (fun eb eI ch bt bs => ?_)
 have wA : ∀ (yz : Bool), BJ a0 yz = some r → df aD Nw eb (aa [(0, .ref (cG a0)), (6, .int .i64 a0.Kind), (7, .bool yz)]) := by
  intro yz h
  refine aV h (fun dd h => ?_) (fun dd h => ?_)
  ·simp only [dd, ak.down]
   refine cN (bY [(2, .bool (((a0.Number == 0) && (a0.Name == ([] : List UInt8))) && ((a0.cO.length : Int) == 0)))] (fun P ai => ?_) ?_)
   ·(rcases Bool.eq_false_or_eq_true (a0.Number == 0) with zt | zt) <;> (rcases Bool.eq_false_or_eq_true (a0.Name == ([] : List UInt8)) with m8 | m8) <;>
     (simp only [aN.down, simprocAttr, ov.down, zt, m8]
      (try simp only [bh.down, simprocAttr, m9.down, zt, m8] at ai ⊢); exact ai)
   exact aE (ch _ (.inl (aG [.bool (((a0.Number == 0) && (a0.Name == ([] : List UInt8))) && ((a0.cO.length : Int) == 0))])))
  ·simp only [dd, ak.down]
   refine ws _ ?_
   refine aV h (fun iT h => ?_) (fun iT h => ?_)
   ·simp only [iT, ak.down]
    refine ws _ ?_
    exact aE (ch _ (.inl (aG [.bool (a0.Number == 0)])))
   ·simp only [iT, ak.down]
    refine ws _ ?_
    refine aV h (fun eD h => ?_) (fun eD h => ?_)
    ·simp only [eD, ak.down]
     refine cN (bY [(2, .bool ((a0.Number == 0) && (a0.Name == ([] : List UInt8))))] (fun P ai => ?_) ?_)
     ·rcases Bool.eq_false_or_eq_true (a0.Number == 0) with tM | tM
      ·simp only [aN.down, simprocAttr, ov.down, tM]
       (try simp only [bh.down, simprocAttr, m9.down, tM] at ai ⊢); exact ai
      ·simp only [aN.down, simprocAttr, ov.down, tM]
       (try simp only [bh.down, simprocAttr, m9.down, tM] at ai ⊢); exact ai
     exact aE (ch _ (.inl (aG [.bool ((a0.Number == 0) && (a0.Name == ([] : List UInt8)))])))
    ·simp only [eD, ak.down]
     refine ws _ ?_
     refine aV h (fun fz h => ?_) (fun fz h => ?_)
     ·simp only [fz, ak.down]
      refine cN (bY [(2, .bool ((a0.Name == ([] : List UInt8)) && ((a0.cO.length : Int) == 0)))] (fun P ai => ?_) ?_)
      ·rcases Bool.eq_false_or_eq_true (a0.Name == ([] : List UInt8)) with zE | zE
       ·simp only [aN.down, simprocAttr, ov.down, zE]
        (try simp only [bh.down, simprocAttr, m9.down, zE] at ai ⊢); exact ai
       ·simp only [aN.down, simprocAttr, ov.down, zE]
        (try simp only [bh.down, simprocAttr, m9.down, zE] at ai ⊢); exact ai
      exact aE (ch _ (.inl (aG [.bool ((a0.Name == ([] : List UInt8)) && ((a0.cO.length : Int) == 0))])))
     ·simp only [fz, ak.down]
      refine ws _ ?_
      refine aV h (fun mb h => ?_) (fun mb h => ?_)
      ·simp only [mb, ak.down]
       refine ws _ ?_
       exact aE (ch _ (.inl (aG [.bool (a0.Name == ([] : List UInt8))])))
      ·simp only [mb, ak.down]
       refine aY (eI _ (bU _ (.inl ?_)))
       refine ws _ ?_
       exact aE (an _ (.inl (aG [.bool false])))
 refine aL ch (fun hr ep dc bH => ?_)
 refine ws _ ?_
 refine aV h (fun g1 h => ?_) (fun g1 h => ?_)
 ·simp only [g1, ak.down]
  exact aY (ep _ (.inr ⟨_, bu rfl, wA true h⟩))
 ·simp only [g1, ak.down]
  refine wr _ ?_
  exact ep _ (.inr ⟨_, bu rfl, wA (a0.Kind == 2) h⟩)
theorem avQ (a0 : List bJ) (U : Int) (r : Int) (h : BL a0 U = some r) : bm aD 185 [.slice (a0.map cG), .int .i64 U] (.int .i64 r) [] := by
 refine bX [0] [.tmp 4] Tryz.func185 aco (fun bT an bS => ?_)
 refine ws _ ?_
 refine ws _ ?_
 refine aL an (fun j7 gD dD aS => ?_)
 refine bL dD (fun eb eI ch bt bs => ?_)
 have fA : ∀ (n : Nat) (aT : Int) (aJ : Int), s7 a0 n aT aJ = some r → dE aD Nx eb (aa [(0, .slice (a0.map cG)), (1, .int .i64 aT), (5, .int .i64 aJ)]) := by
  intro cB
  induction cB with
  | zero => intro aT aJ h; cases (show none = some r from h)
  | succ cB ft =>
   intro aT aJ h
   replace h : BK (s7 a0 cB) a0 aT aJ = some r := h
   refine dX ch (fun hr ep dc bH => ?_)
   refine aL dc (fun fk dy dv bE => ?_)
   refine ws _ ?_
   refine aV h (fun bw h => ?_) (fun bw h => ?_)
   ·simp only [bw, ak.down]
    refine aY (dy _ (.inl ?_))
    refine bL dc (fun ev cQ cj eT di => ?_)
    obtain ⟨ag, nU, h⟩ := aF h
    obtain ⟨al, ey, h⟩ := aF h
    refine h3 nU (ON ag _ ey) _ ?_
    refine wr _ ?_
    exact cQ _ (ep _ (.inr ⟨_, bu rfl, ft (IntKind.i64.wrap (aT + 1)) (IntKind.i64.wrap (aJ + (IntKind.i64.wrap (al - 1)))) h⟩))
   ·simp only [bw, ak.down]
    refine dV (bE 0 _ (bH 0 _ (bt _ (gD _ (.inl ?_)))))
    refine ws _ ?_
    exact aE (an _ (.inl (aG [.int .i64 aT])))
 obtain ⟨n, h⟩ := dQ h
 exact dW (.inr ⟨_, bu rfl, fA n U 1 h⟩)
theorem Hq (a0 : bk) (U : Int) (r : Int) (h : rN a0 U = some r) : bm aD 136 [.ref (bC a0), .int .i64 U] (.int .i64 r) [] := by
 refine bX [0, 1] [.tmp 4] Tryz.func136 acz (fun bT an bS => ?_)
 refine ws _ ?_
 refine ws _ ?_
 refine aL an (fun j7 gD dD aS => ?_)
 refine ws _ ?_
 refine bL dD (fun hr ep dc b2 bH => ?_)
 have jw : ∀ (n : Nat) (fH : Int) (fj : Int), rM a0 U n fH fj = some r → dE aD Nz hr (aa [(0, .ref (bC a0)), (1, .int .i64 U), (5, .int .i64 fH), (6, .int .i64 fj)]) := by
  intro fc
  induction fc with
  | zero => intro fH fj h; cases (show none = some r from h)
  | succ fc jx =>
   intro fH fj h
   replace h : BM (rM a0 U fc) a0 U fH fj = some r := h
   refine dX dc (fun fk dy dv bE => ?_)
   refine aL dv (fun hD ea er cP => ?_)
   refine ws _ ?_
   refine aV h (fun eT h => ?_) (fun eT h => ?_)
   ·simp only [eT, ak.down]
    refine aY (ea _ (.inl ?_))
    have Hr : ∀ (vU : Int) (vV : Int), yA (rM a0 U fc) a0 U vU vV = some r → df aD Ny fk (aa [(0, .ref (bC a0)), (1, .int .i64 U), (5, .int .i64 vU), (6, .int .i64 vV)]) := by
     intro vU vV h
     refine wr _ ?_
     exact dy _ (.inr ⟨_, bu rfl, jx vU (IntKind.i64.wrap (vV + 1)) h⟩)
    refine aL dv (fun eU cq cw cr => ?_)
    refine bL cw (fun j8 hc iV dr je => ?_)
    obtain ⟨ag, ei, h⟩ := aF h
    rcases fm h with ⟨dx, h⟩ | ⟨dx, h⟩
    ·obtain ⟨al, cg, h⟩ := aF h
     refine cN (bY [(0, .ref (bC a0)), (1, .int .i64 U), (5, .int .i64 fH), (6, .int .i64 fj), (34, .bool (decide (U < al)))] (fun P ai => ?_) ?_)
     ·simp only [aN.down, simprocAttr, p1.down, ei, dx]
      refine hN (avQ a0.Body fj _ cg) rfl rfl rfl rfl (.inl (by rfl)) ?_
      simp only [aN.down, simprocAttr, p1.down, ei, dx]
      (try simp only [bh.down, simprocAttr, iq.down, ei, dx] at ai ⊢); exact ai
     refine aV h (fun hJ h => ?_) (fun hJ h => ?_)
     ·simp only [hJ, ak.down]
      refine wr _ ?_
      exact hc _ (cq _ (.inr ⟨_, bu rfl, Hr (IntKind.i64.wrap (fH + 1)) fj h⟩))
     ·simp only [hJ, ak.down]
      exact aY (hc _ (cq _ (.inr ⟨_, bu rfl, Hr fH fj h⟩)))
    ·refine h2 (And.intro ei dx) _ ?_
     refine rF rfl ?_
     exact aY (hc _ (cq _ (.inr ⟨_, bu rfl, Hr fH fj h⟩)))
   ·simp only [eT, ak.down]
    refine dV (cP 0 _ (bE 0 _ (b2 _ (gD _ (.inl ?_)))))
    refine ws _ ?_
    exact aE (an _ (.inl (aG [.int .i64 fH])))
 obtain ⟨n, h⟩ := dQ h
 exact dW (.inr ⟨_, bu rfl, jw n a0.dw 0 h⟩)
theorem avR (a0 : b6) (U : Int) (r : Bool) (h : BN a0 U = some r) : bm aD 252 [.ref (cf a0), .int .i64 U] (.bool r) [] := by
 refine bX [0, 1] [.tmp 4] Tryz.func252 acP (fun bT an bS => ?_)
 refine ws _ ?_
 refine aL an (fun ef bU bj al => ?_)
 refine ws _ ?_
 refine bL bj (fun eb eI ch bt bs => ?_)
 refine ws _ ?_
 refine aV h (fun dd h => ?_) (fun dd h => ?_)
 ·simp only [dd, ak.down]
  obtain ⟨ag, hv, h⟩ := aF h
  refine dC (ma a0.Value 0 63 _ hv) _ ?_
  exact aE (ch _ (.inl (aG [.bool ag])))
 ·simp only [dd, ak.down]
  refine ws _ ?_
  refine aV h (fun cR h => ?_) (fun cR h => ?_)
  ·simp only [cR, ak.down]
   obtain ⟨al, ey, h⟩ := aF h
   refine dC (ma a0.Value 0 (IntKind.i64.wrap (U - 1)) _ ey) _ ?_
   exact aE (ch _ (.inl (aG [.bool al])))
  ·simp only [cR, ak.down]
   refine ws _ ?_
   refine aV h (fun eD h => ?_) (fun eD h => ?_)
   ·simp only [eD, ak.down]
    obtain ⟨aS, cg, h⟩ := aF h
    refine dC (ma a0.Value 0 8 _ cg) _ ?_
    exact aE (ch _ (.inl (aG [.bool aS])))
   ·simp only [eD, ak.down]
    refine ws _ ?_
    refine aV h (fun fz h => ?_) (fun fz h => ?_)
    ·simp only [fz, ak.down]
     refine ws _ ?_
     exact aE (ch _ (.inl (aG [.bool (a0.Value == 0)])))
    ·simp only [fz, ak.down]
     refine aY (eI _ (bU _ (.inl ?_)))
     refine ws _ ?_
     exact aE (an _ (.inl (aG [.bool false])))
theorem avS (a0 : b6) (r : Int) (h : GB a0 = some r) : bm aD 253 [.ref (cf a0)] (.int .i64 r) [] := by
 refine bX [0] [.tmp 2] Tryz.func253 acZ (fun bT an bS => ?_)
 refine ws _ ?_
 refine aL an (fun ef bU bj al => ?_)
 refine ws _ ?_
 refine bL bj (fun eb eI ch bt bs => ?_)
 refine ws _ ?_
 refine aV h (fun dd h => ?_) (fun dd h => ?_)
 ·simp only [dd, ak.down]
  refine ws _ ?_
  exact aE (ch _ (.inl (aG [.int .i64 2])))
 ·simp only [dd, ak.down]
  refine ws _ ?_
  refine aV h (fun eT h => ?_) (fun eT h => ?_)
  ·simp only [eT, ak.down]
   refine ws _ ?_
   exact aE (ch _ (.inl (aG [.int .i64 1])))
  ·simp only [eT, ak.down]
   refine aY (eI _ (bU _ (.inl ?_)))
   refine ws _ ?_
   exact aE (an _ (.inl (aG [.int .i64 0])))
theorem avT (a0 : List b6) (U : Int) (a7 : Int) (r : Bool) (h : BP a0 U a7 = some r) : bm aD 206 [.slice (a0.map cf), .int .i64 U, .int .i64 a7] (.bool r) [] := by
 refine bX [0, 1, 2] [.tmp 6] Tryz.func206 adf (fun bT an bS => ?_)
 refine ws _ ?_
 refine aL an (fun ef bU bj al => ?_)
 refine ws _ ?_
 refine aV h (fun bt h => ?_) (fun bt h => ?_)
 ·simp only [bt, ak.down]
  refine ws _ ?_
  exact aE (bj _ (.inl (aG [.bool false])))
 ·simp only [bt, ak.down]
  refine aY (bU _ (.inl ?_))
  refine ws _ ?_
  refine aL an (fun hD ea er cP => ?_)
  refine ws _ ?_
  refine bL er (fun ev cQ cj eT di => ?_)
  have jS : ∀ (n : Nat) (hI : Int) (nD : Int), s8 a0 U n hI nD = some r → dE aD NA ev (aa [(0, .slice (a0.map cf)), (1, .int .i64 U), (7, .int .i64 hI), (8, .int .i64 nD)]) := by
   intro fZ
   induction fZ with
   | zero => intro hI nD h; cases (show none = some r from h)
   | succ fZ jT =>
    intro hI nD h
    replace h : BO (s8 a0 U fZ) a0 U hI nD = some r := h
    refine dX cj (fun eU cq cw cr => ?_)
    refine aL cw (fun ir e_ gf fe => ?_)
    refine ws _ ?_
    refine aV h (fun dY h => ?_) (fun dY h => ?_)
    ·simp only [dY, ak.down]
     refine aY (e_ _ (.inl ?_))
     refine aL cw (fun iH fs fa ic => ?_)
     refine bL fa (fun lS hE hj dx ju => ?_)
     refine aL hj (fun qO k7 lz nI => ?_)
     rcases fm h with ⟨fz, h⟩ | ⟨fz, h⟩
     ·refine h2 fz _ ?_
      refine iZ rfl ?_
      refine ws _ ?_
      exact aE (lz _ (.inl (aG [.bool false])))
     ·obtain ⟨ag, iW, h⟩ := aF h
      obtain ⟨al, na, h⟩ := aF h
      refine cN (bY [(0, .slice (a0.map cf)), (1, .int .i64 U), (7, .int .i64 hI), (8, .int .i64 nD), (28, .bool (!al))] (fun P ai => ?_) ?_)
      ·simp only [aN.down, simprocAttr, nK.down, fz, iW]
       refine hN (avR ag U _ na) rfl rfl rfl rfl (.inl (by rfl)) ?_
       simp only [aN.down, simprocAttr, nK.down, fz, iW]
       (try simp only [bh.down, simprocAttr, cf, fz, iW] at ai ⊢); exact ai
      refine aV h (fun mb h => ?_) (fun mb h => ?_)
      ·simp only [(cV mb), ak.down]
       refine ws _ ?_
       exact aE (lz _ (.inl (aG [.bool false])))
      ·simp only [(bn mb), ak.down]
       refine aY (k7 _ (.inl ?_))
       obtain ⟨aS, lA, h⟩ := aF h
       refine Hi iW (avS ag _ lA) _ ?_
       refine hE _ (fs _ (.inl ?_))
       refine wr _ ?_
       exact cq _ (.inr ⟨_, bu rfl, jT (IntKind.i64.wrap (hI + (IntKind.i64.wrap (aS - 1)))) (IntKind.i64.wrap (nD + 1)) h⟩)
    ·simp only [dY, ak.down]
     refine dV (fe 0 _ (cr 0 _ (eT _ (ea _ (.inl ?_)))))
     refine ws _ ?_
     exact aE (an _ (.inl (aG [.bool (hI == 0)])))
  obtain ⟨n, h⟩ := dQ h
  exact dW (.inr ⟨_, bu rfl, jS n 1 0 h⟩)
theorem avU (a0 : List bk) (U : bk) (a7 : Int) (r : Int) (h : yE a0 U a7 = some r) : bm aD 243 [.slice (a0.map bC), .ref (bC U), .int .i64 a7] (.int .i64 r) [] := by
 refine bX [0, 1, 2] [.tmp 6] Tryz.func243 adT (fun bT an bS => ?_)
 refine ws _ ?_
 obtain ⟨ag, aW, h⟩ := aF h
 refine h2 aW _ ?_
 refine aL an (fun eb eI ch bs => ?_)
 obtain ⟨al, cn, h⟩ := aF h
 refine cN (bY [(0, .slice (a0.map bC)), (1, .ref (bC U)), (2, .int .i64 a7), (7, .bb (cG ag)), (19, .bool (!al))] (fun P ai => ?_) ?_)
 ·refine eC (avP ag _ cn) rfl rfl (by simp only [aN.down, simprocAttr, iq.down, fV, fW, fX, dj, @bR _ eS eS (fun _ => Ha _)] <;> rfl) rfl (.inr (by rfl)) ?_
  simp only [aN.down, simprocAttr, iq.down]
  (try simp only [bh.down, simprocAttr, iq.down] at ai ⊢); exact ai
 refine aV h (fun np h => ?_) (fun np h => ?_)
 ·simp only [(cV np), ak.down]
  refine ws _ ?_
  exact aE (ch _ (.inl (aG [.int .i64 2])))
 ·simp only [(bn np), ak.down]
  refine aY (eI _ (.inl ?_))
  refine aL an (fun ev cQ cj di => ?_)
  have OO : ∀ (yD : Bool), BR a0 U a7 ag yD = some r → df aD NB ev (aa [(0, .slice (a0.map bC)), (1, .ref (bC U)), (2, .int .i64 a7), (7, .bb (cG ag)), (28, .bool yD)]) := by
   intro yD h
   refine aV h (fun cR h => ?_) (fun cR h => ?_)
   ·simp only [cR, ak.down]
    refine ws _ ?_
    exact aE (cj _ (.inl (aG [.int .i64 3])))
   ·simp only [cR, ak.down]
    refine aY (cQ _ (.inl ?_))
    refine aL an (fun j8 hc iV je => ?_)
    have zF : ∀ (yC : Bool), s_ a0 U a7 ag yC = some r → df aD NC j8 (aa [(0, .slice (a0.map bC)), (1, .ref (bC U)), (2, .int .i64 a7), (7, .bb (cG ag)), (51, .bool yC)]) := by
     intro yC h
     refine aV h (fun dY h => ?_) (fun dY h => ?_)
     ·simp only [dY, ak.down]
      refine ws _ ?_
      exact aE (iV _ (.inl (aG [.int .i64 4])))
     ·simp only [dY, ak.down]
      refine aY (hc _ (.inl ?_))
      refine ws _ ?_
      have DH : s9 U a7 ag = some r → df aD NG bT (aa [(1, .ref (bC U)), (2, .int .i64 a7), (7, .bb (cG ag)), (8, .int .i64 (ag.cO.length : Int))]) := by
       intro h
       refine aL an (fun ox jU jg lR => ?_)
       have Hs : ∀ (yB : Bool), vW U a7 ag yB = some r → df aD ND ox (aa [(1, .ref (bC U)), (2, .int .i64 a7), (7, .bb (cG ag)), (8, .int .i64 (ag.cO.length : Int)), (102, .bool yB)]) := by
        intro yB h
        refine aV h (fun fz h => ?_) (fun fz h => ?_)
        ·simp only [fz, ak.down]
         refine ws _ ?_
         exact aE (jg _ (.inl (aG [.int .i64 6])))
        ·simp only [fz, ak.down]
         refine aY (jU _ (.inl ?_))
         obtain ⟨aS, na, h⟩ := aF h
         refine dC (Hq U a7 _ na) _ ?_
         refine aL an (fun zC pd pe j5 => ?_)
         refine cN (bY [(7, .bb (cG ag)), (8, .int .i64 (ag.cO.length : Int)), (9, .int .i64 aS), (112, .bool ((ag.Kind == 4) && (decide (6 ≤ aS))))] (fun P ai => ?_) ?_)
         ·rcases Bool.eq_false_or_eq_true (ag.Kind == 4) with tL | tL
          ·simp only [aN.down, simprocAttr, ov.down, tL]
           (try simp only [bh.down, simprocAttr, m9.down, tL] at ai ⊢); exact ai
          ·simp only [aN.down, simprocAttr, ov.down, tL]
           (try simp only [bh.down, simprocAttr, m9.down, tL] at ai ⊢); exact ai
         refine aV h (fun jh h => ?_) (fun jh h => ?_)
         ·simp only [jh, ak.down]
          refine ws _ ?_
          exact aE (pe _ (.inl (aG [.int .i64 7])))
         ·simp only [jh, ak.down]
          refine aY (pd _ (.inl ?_))
          refine aL an (fun avV Ht DI pa => ?_)
          refine ws _ ?_
          refine bL DI (fun OP n29 Hu jI wj => ?_)
          have avW : ∀ (n : Nat) (oj : Int) (om : Int), rO ag n oj om = some r → dE aD NF OP (aa [(7, .bb (cG ag)), (8, .int .i64 (ag.cO.length : Int)), (9, .int .i64 oj), (10, .int .i64 om)]) := by
           intro Hv
           induction Hv with
           | zero => intro oj om h; cases (show none = some r from h)
           | succ Hv avX =>
            intro oj om h
            replace h : BQ (rO ag Hv) ag oj om = some r := h
            refine dX Hu (fun aCy n30 OQ avY => ?_)
            refine aL OQ (fun avZ n31 OR OS => ?_)
            refine ws _ ?_
            refine aV h (fun iI h => ?_) (fun iI h => ?_)
            ·simp only [iI, ak.down]
             refine aY (n31 _ (.inl ?_))
             refine aL OQ (fun aCz n34 av0 aCA => ?_)
             refine bL av0 (fun aCB n35 av1 pf aCC => ?_)
             obtain ⟨bs, av2, h⟩ := aF h
             obtain ⟨bH, av3, h⟩ := aF h
             refine h3 av2 (avT bs oj 15 _ av3) _ ?_
             refine aV h (fun p4 h => ?_) (fun p4 h => ?_)
             ·simp only [(cV p4), ak.down]
              refine ws _ ?_
              exact aE (av1 _ (.inl (aG [.int .i64 8])))
             ·simp only [(bn p4), ak.down]
              refine aY (n35 _ (n34 _ (.inl ?_)))
              refine wr _ ?_
              exact n30 _ (.inr ⟨_, bu rfl, avX oj (IntKind.i64.wrap (om + 1)) h⟩)
            ·simp only [iI, ak.down]
             refine dV (OS 1 _ (avY 1 _ (jI _ (Ht _ (.inl ?_)))))
             refine ws _ ?_
             exact aE (an _ (.inl (aG [.int .i64 0])))
          obtain ⟨n, h⟩ := dQ h
          exact dW (.inr ⟨_, bu rfl, avW n aS 0 h⟩)
       rcases fm h with ⟨rW, h⟩ | ⟨rW, h⟩
       ·rcases fm h with ⟨qQ, h⟩ | ⟨qQ, h⟩
        ·refine lu (bY (K := eO _) [(1, .ref (bC U)), (2, .int .i64 a7), (7, .bb (cG ag)), (8, .int .i64 (ag.cO.length : Int)), (102, .bool true)] (fun P ai => ?_) ?_)
         ·simp only [aN.down, simprocAttr, p1.down, rW, qQ]
          (try simp only [bh.down, simprocAttr, iq.down, rW, qQ] at ai ⊢); exact ai
         exact .inr ⟨_, bu rfl, Hs true h⟩
        ·obtain ⟨bE, qR, h⟩ := aF h
         refine lu (bY (K := eO _) [(1, .ref (bC U)), (2, .int .i64 a7), (7, .bb (cG ag)), (8, .int .i64 (ag.cO.length : Int)), (102, .bool (bE.Kind != 1))] (fun P ai => ?_) ?_)
         ·simp only [aN.down, simprocAttr, p1.down, rW, qQ, qR]
          (try simp only [bh.down, simprocAttr, iq.down, rW, qQ, qR] at ai ⊢); exact ai
         exact .inr ⟨_, bu rfl, Hs (bE.Kind != 1) h⟩
       ·refine lu (bY (K := eO _) [(1, .ref (bC U)), (2, .int .i64 a7), (7, .bb (cG ag)), (8, .int .i64 (ag.cO.length : Int)), (102, .bool false)] (fun P ai => ?_) ?_)
        ·simp only [aN.down, simprocAttr, p1.down, rW]
         (try simp only [bh.down, simprocAttr, iq.down, rW] at ai ⊢); exact ai
        exact .inr ⟨_, bu rfl, Hs false h⟩
      refine aL an (fun qO k7 lz nI => ?_)
      refine ws _ ?_
      refine bL lz (fun av4 wB zG qS av5 => ?_)
      refine ws _ ?_
      refine aV h (fun Hw h => ?_) (fun Hw h => ?_)
      ·simp only [Hw, ak.down]
       refine cN (bY [(1, .ref (bC U)), (2, .int .i64 a7), (7, .bb (cG ag)), (8, .int .i64 (ag.cO.length : Int)), (69, .bool ((decide (2 < (ag.cO.length : Int))) || ((decide (0 < (ag.cO.length : Int))) && (ag.Name == ([116, 97, 117] : List UInt8)))))] (fun P ai => ?_) ?_)
       ·(rcases Bool.eq_false_or_eq_true (decide (2 < (ag.cO.length : Int))) with zu | zu) <;> (rcases Bool.eq_false_or_eq_true (decide (0 < (ag.cO.length : Int))) with zv | zv) <;>
         (simp only [aN.down, simprocAttr, zx.down, zu, zv]
          (try simp only [bh.down, simprocAttr, iq.down, zu, zv] at ai ⊢); exact ai)
       refine aV h (fun tV h => ?_) (fun tV h => ?_)
       ·simp only [tV, ak.down]
        refine ws _ ?_
        exact aE (zG _ (.inl (aG [.int .i64 5])))
       ·simp only [tV, ak.down]
        exact aY (wB _ (k7 _ (.inr ⟨_, bu rfl, DH h⟩)))
      ·simp only [Hw, ak.down]
       refine ws _ ?_
       refine aV h (fun tW h => ?_) (fun tW h => ?_)
       ·simp only [tW, ak.down]
        refine ws _ ?_
        refine aV h (fun DJ h => ?_) (fun DJ h => ?_)
        ·simp only [DJ, ak.down]
         refine ws _ ?_
         exact aE (zG _ (.inl (aG [.int .i64 5])))
        ·simp only [DJ, ak.down]
         exact aY (wB _ (k7 _ (.inr ⟨_, bu rfl, DH h⟩)))
       ·simp only [tW, ak.down]
        refine ws _ ?_
        refine aV h (fun Hx h => ?_) (fun Hx h => ?_)
        ·simp only [Hx, ak.down]
         obtain ⟨cP, av6, h⟩ := aF h
         refine h2 av6 _ ?_
         refine aV h (fun nb h => ?_) (fun nb h => ?_)
         ·simp only [nb, ak.down]
          refine ws _ ?_
          exact aE (zG _ (.inl (aG [.int .i64 5])))
         ·simp only [nb, ak.down]
          exact aY (wB _ (k7 _ (.inr ⟨_, bu rfl, DH h⟩)))
        ·simp only [Hx, ak.down]
         exact aY (wB _ (k7 _ (.inr ⟨_, bu rfl, DH h⟩)))
    rcases fm h with ⟨mc, h⟩ | ⟨mc, h⟩
    ·obtain ⟨e9, Hy, h⟩ := aF h
     rcases fm h with ⟨pg, h⟩ | ⟨pg, h⟩
     ·refine lu (bY (K := eO _) [(0, .slice (a0.map bC)), (1, .ref (bC U)), (2, .int .i64 a7), (7, .bb (cG ag)), (51, .bool true)] (fun P ai => ?_) ?_)
      ·simp only [aN.down, simprocAttr, jf.down, mc, (cV pg)]
       refine hN (ma ag.Number 1 7 _ Hy) rfl rfl rfl rfl (.inl (by rfl)) ?_
       simp only [aN.down, simprocAttr, jf.down, mc, (cV pg)]
       (try simp only [bh.down, simprocAttr, iq.down, mc, (cV pg)] at ai ⊢); exact ai
      exact .inr ⟨_, bu rfl, zF true h⟩
     ·rcases fm h with ⟨rX, h⟩ | ⟨rX, h⟩
      ·obtain ⟨di, av7, h⟩ := aF h
       refine lu (bY (K := eO _) [(0, .slice (a0.map bC)), (1, .ref (bC U)), (2, .int .i64 a7), (7, .bb (cG ag)), (51, .bool (!di))] (fun P ai => ?_) ?_)
       ·simp only [aN.down, simprocAttr, jf.down, mc, (bn pg), rX]
        refine hN (ma ag.Number 1 7 _ Hy) rfl rfl rfl rfl (.inl (by rfl)) ?_
        simp only [aN.down, simprocAttr, jf.down, mc, (bn pg), rX]
        refine hN (ma ag.Number 0 (IntKind.i64.wrap ((a0.length : Int) - 1)) _ av7) rfl rfl rfl rfl (.inl (by rfl)) ?_
        simp only [aN.down, simprocAttr, jf.down, mc, (bn pg), rX]
        (try simp only [bh.down, simprocAttr, iq.down, mc, (bn pg), rX] at ai ⊢); exact ai
       exact .inr ⟨_, bu rfl, zF (!di) h⟩
      ·refine lu (bY (K := eO _) [(0, .slice (a0.map bC)), (1, .ref (bC U)), (2, .int .i64 a7), (7, .bb (cG ag)), (51, .bool false)] (fun P ai => ?_) ?_)
       ·simp only [aN.down, simprocAttr, jf.down, mc, (bn pg), rX]
        refine hN (ma ag.Number 1 7 _ Hy) rfl rfl rfl rfl (.inl (by rfl)) ?_
        simp only [aN.down, simprocAttr, jf.down, mc, (bn pg), rX]
        (try simp only [bh.down, simprocAttr, iq.down, mc, (bn pg), rX] at ai ⊢); exact ai
       exact .inr ⟨_, bu rfl, zF false h⟩
    ·rcases fm h with ⟨wC, h⟩ | ⟨wC, h⟩
     ·obtain ⟨cr, av8, h⟩ := aF h
      refine lu (bY (K := eO _) [(0, .slice (a0.map bC)), (1, .ref (bC U)), (2, .int .i64 a7), (7, .bb (cG ag)), (51, .bool (!cr))] (fun P ai => ?_) ?_)
      ·simp only [aN.down, simprocAttr, jf.down, mc, wC]
       refine hN (ma ag.Number 0 (IntKind.i64.wrap ((a0.length : Int) - 1)) _ av8) rfl rfl rfl rfl (.inl (by rfl)) ?_
       simp only [aN.down, simprocAttr, jf.down, mc, wC]
       (try simp only [bh.down, simprocAttr, iq.down, mc, wC] at ai ⊢); exact ai
      exact .inr ⟨_, bu rfl, zF (!cr) h⟩
     ·refine lu (bY (K := eO _) [(0, .slice (a0.map bC)), (1, .ref (bC U)), (2, .int .i64 a7), (7, .bb (cG ag)), (51, .bool false)] (fun P ai => ?_) ?_)
      ·simp only [aN.down, simprocAttr, jf.down, mc, wC]
       (try simp only [bh.down, simprocAttr, iq.down, mc, wC] at ai ⊢); exact ai
      exact .inr ⟨_, bu rfl, zF false h⟩
  rcases fm h with ⟨wD, h⟩ | ⟨wD, h⟩
  ·obtain ⟨fe, av9, h⟩ := aF h
   refine lu (bY (K := eO _) [(0, .slice (a0.map bC)), (1, .ref (bC U)), (2, .int .i64 a7), (7, .bb (cG ag)), (28, .bool (!fe))] (fun P ai => ?_) ?_)
   ·simp only [aN.down, simprocAttr, zx.down, wD]
    refine hN (zD ag.Name _ av9) rfl rfl rfl rfl (.inl (by rfl)) ?_
    simp only [aN.down, simprocAttr, zx.down, wD]
    (try simp only [bh.down, simprocAttr, iq.down, wD] at ai ⊢); exact ai
   exact .inr ⟨_, bu rfl, OO (!fe) h⟩
  ·refine lu (bY (K := eO _) [(0, .slice (a0.map bC)), (1, .ref (bC U)), (2, .int .i64 a7), (7, .bb (cG ag)), (28, .bool false)] (fun P ai => ?_) ?_)
   ·simp only [aN.down, simprocAttr, zx.down, wD]
    (try simp only [bh.down, simprocAttr, iq.down, wD] at ai ⊢); exact ai
   exact .inr ⟨_, bu rfl, OO false h⟩
theorem av_ (a0 : List bk) (U : bk) (r : Int × Int) (h : ta a0 U = some r) : bm aD 182 [.slice (a0.map bC), .ref (bC U)] (.tuple [.int .i64 r.1, .int .i64 r.2]) [] := by
 refine bX [0, 1] [.tmp 4, .tmp 5] Tryz.func182 ad7 (fun bT an bS => ?_)
 refine ws _ ?_
 refine aL an (fun ef bU bj al => ?_)
 obtain ⟨ag, cS, h⟩ := aF h
 refine dC (avO U.Body _ cS) _ ?_
 refine aV h (fun b2 h => ?_) (fun b2 h => ?_)
 ·simp only [(cV b2), ak.down]
  refine ws _ ?_
  exact aE (bj _ (.inl (aG [.int .i64 0, .int .i64 1])))
 ·simp only [(bn b2), ak.down]
  refine aY (bU _ (.inl ?_))
  refine aL an (fun hD ea er cP => ?_)
  refine ws _ ?_
  refine bL er (fun ev cQ cj eT di => ?_)
  have hq : ∀ (n : Nat) (mB : Int), rP a0 U n mB = some r → dE aD NH ev (aa [(0, .slice (a0.map bC)), (1, .ref (bC U)), (6, .int .i64 mB)]) := by
   intro dz
   induction dz with
   | zero => intro mB h; cases (show none = some r from h)
   | succ dz hd =>
    intro mB h
    replace h : yF (rP a0 U dz) a0 U mB = some r := h
    refine dX cj (fun eU cq cw cr => ?_)
    refine aL cw (fun ir e_ gf fe => ?_)
    refine ws _ ?_
    refine aV h (fun dY h => ?_) (fun dY h => ?_)
    ·simp only [dY, ak.down]
     refine aY (e_ _ (.inl ?_))
     refine aL cw (fun iH fs fa ic => ?_)
     refine bL fa (fun lS hE hj dx ju => ?_)
     obtain ⟨al, dT, h⟩ := aF h
     refine dC (avU a0 U mB _ dT) _ ?_
     refine ws _ ?_
     refine aV h (fun eV h => ?_) (fun eV h => ?_)
     ·simp only [eV, ak.down]
      refine ws _ ?_
      exact aE (hj _ (.inl (aG [.int .i64 mB, .int .i64 al])))
     ·simp only [eV, ak.down]
      refine aY (hE _ (fs _ (.inl ?_)))
      refine wr _ ?_
      exact cq _ (.inr ⟨_, bu rfl, hd (IntKind.i64.wrap (mB + 1)) h⟩)
    ·simp only [dY, ak.down]
     refine dV (fe 0 _ (cr 0 _ (eT _ (ea _ (.inl ?_)))))
     refine ws _ ?_
     exact aE (an _ (.inl (aG [.int .i64 0, .int .i64 0])))
  obtain ⟨n, h⟩ := dQ h
  exact dW (.inr ⟨_, bu rfl, hq n 0 h⟩)
theorem awa (a0 : List bk) (r : Bool) (h : BV a0 = some r) : bm aD 132 [.slice (a0.map bC)] (.bool r) [] := by
 refine bX [0] [.tmp 2] Tryz.func132 aey (fun bT an bS => ?_)
 refine ws _ ?_
 refine aL an (fun ef bU bj al => ?_)
 refine cN (bY [(0, .slice (a0.map bC)), (15, .bool (((a0.length : Int) == 0) || (decide (4 < (a0.length : Int)))))] (fun P ai => ?_) ?_)
 ·rcases Bool.eq_false_or_eq_true ((a0.length : Int) == 0) with hM | hM
  ·simp only [aN.down, simprocAttr, jf.down, hM]
   (try simp only [bh.down, simprocAttr, iq.down, hM] at ai ⊢); exact ai
  ·simp only [aN.down, simprocAttr, jf.down, hM]
   (try simp only [bh.down, simprocAttr, iq.down, hM] at ai ⊢); exact ai
 refine aV h (fun b2 h => ?_) (fun b2 h => ?_)
 ·simp only [b2, ak.down]
  refine ws _ ?_
  exact aE (bj _ (.inl (aG [.bool false])))
 ·simp only [b2, ak.down]
  refine aY (bU _ (.inl ?_))
  refine aL an (fun hD ea er cP => ?_)
  refine ws _ ?_
  refine bL er (fun ev cQ cj eT di => ?_)
  have hq : ∀ (n : Nat) (c9 : Int), oq a0 n c9 = some r → dE aD NJ ev (aa [(0, .slice (a0.map bC)), (3, .int .i64 c9)]) := by
   intro dz
   induction dz with
   | zero => intro c9 h; cases (show none = some r from h)
   | succ dz hd =>
    intro c9 h
    replace h : BU (oq a0 dz) a0 c9 = some r := h
    refine dX cj (fun eU cq cw cr => ?_)
    refine aL cw (fun ir e_ gf fe => ?_)
    refine ws _ ?_
    refine aV h (fun dY h => ?_) (fun dY h => ?_)
    ·simp only [dY, ak.down]
     refine aY (e_ _ (.inl ?_))
     refine aL cw (fun iH fs fa ic => ?_)
     refine bL fa (fun lS hE hj dx ju => ?_)
     refine aL hj (fun qO k7 lz nI => ?_)
     obtain ⟨ag, e6, h⟩ := aF h
     obtain ⟨al, g2, h⟩ := aF h
     rcases fm h with ⟨ew, h⟩ | ⟨ew, h⟩
     ·refine h3 (And.intro e6 (cV ew)) (zD ag.Name _ g2) _ ?_
      refine iZ rfl ?_
      refine ws _ ?_
      exact aE (lz _ (.inl (aG [.bool false])))
     ·obtain ⟨aS, hP, h⟩ := aF h
      refine cN (bY [(0, .slice (a0.map bC)), (3, .int .i64 c9), (37, .bool (!aS))] (fun P ai => ?_) ?_)
      ·simp only [aN.down, simprocAttr, jf.down, e6, (bn ew)]
       refine eC (zD ag.Name _ g2) rfl rfl rfl rfl (.inl (by rfl)) ?_
       simp only [aN.down, simprocAttr, jf.down, e6, (bn ew)]
       refine hN (ma ag.dw 0 3 _ hP) rfl rfl rfl rfl (.inl (by rfl)) ?_
       simp only [aN.down, simprocAttr, jf.down, e6, (bn ew)]
       (try simp only [bh.down, simprocAttr, iq.down, e6, (bn ew)] at ai ⊢); exact ai
      refine aV h (fun fJ h => ?_) (fun fJ h => ?_)
      ·simp only [(cV fJ), ak.down]
       refine ws _ ?_
       exact aE (lz _ (.inl (aG [.bool false])))
      ·simp only [(bn fJ), ak.down]
       refine aY (k7 _ (.inl ?_))
       refine ws _ ?_
       refine bL hj (fun awb aCD awc g1 Dm => ?_)
       have awd : ∀ (n : Nat) (mC : Int) (nE : Int), tb (oq a0 dz) a0 n mC nE = some r → dE aD NI awb (aa [(0, .slice (a0.map bC)), (3, .int .i64 mC), (4, .int .i64 nE)]) := by
        intro Hz
        induction Hz with
        | zero => intro mC nE h; cases (show none = some r from h)
        | succ Hz awe =>
         intro mC nE h
         replace h : BS (oq a0 dz) (tb (oq a0 dz) a0 Hz) a0 mC nE = some r := h
         refine dX awc (fun avV Ht DI pa => ?_)
         refine aL DI (fun avw Hn OK tG => ?_)
         refine ws _ ?_
         refine aV h (fun iU h => ?_) (fun iU h => ?_)
         ·simp only [iU, ak.down]
          refine aY (Hn _ (.inl ?_))
          refine aL DI (fun avZ n31 OR OS => ?_)
          refine bL OR (fun awf n32 HA oy awg => ?_)
          obtain ⟨bs, nc, h⟩ := aF h
          obtain ⟨bH, DK, h⟩ := aF h
          refine gx rfl (gm [(0, .slice (a0.map bC)), (3, .int .i64 mC), (4, .int .i64 nE), (53, .bool (bs.Name == bH.Name))] (fun P ai => ?_) ?_)
          ·simp only [c7.down, simprocAttr, jf.down, nc, DK]
           refine ⟨fY (by kernel_rfl), ?_⟩
           (try simp only [bh.down, simprocAttr, iq.down, nc, DK] at ai ⊢); exact ai
          refine aV h (fun ph h => ?_) (fun ph h => ?_)
          ·simp only [ph, ak.down]
           refine ws _ ?_
           exact aE (HA _ (.inl (aG [.bool false])))
          ·simp only [ph, ak.down]
           refine aY (n32 _ (n31 _ (.inl ?_)))
           refine wr _ ?_
           exact Ht _ (.inr ⟨_, bu rfl, awe mC (IntKind.i64.wrap (nE + 1)) h⟩)
         ·simp only [iU, ak.down]
          refine dV (tG 2 _ (pa 2 _ (g1 _ (hE _ (fs _ (.inl ?_))))))
          refine wr _ ?_
          exact cq _ (.inr ⟨_, bu rfl, hd (IntKind.i64.wrap (mC + 1)) h⟩)
       obtain ⟨n, h⟩ := dQ h
       exact dW (.inr ⟨_, bu rfl, awd n c9 0 h⟩)
    ·simp only [dY, ak.down]
     refine dV (fe 0 _ (cr 0 _ (eT _ (ea _ (.inl ?_)))))
     refine aL an (fun awh n40 OT OU => ?_)
     refine ws _ ?_
     refine bL OT (fun awi n42 awj qT aCE => ?_)
     have awk : ∀ (n : Nat) (oo : Int), rQ a0 n oo = some r → dE aD NK awi (aa [(0, .slice (a0.map bC)), (5, .int .i64 oo)]) := by
      intro HB
      induction HB with
      | zero => intro oo h; cases (show none = some r from h)
      | succ HB awl =>
       intro oo h
       replace h : BT (rQ a0 HB) a0 oo = some r := h
       refine dX awj (fun awm n43 DL OV => ?_)
       refine aL DL (fun OW n44 DM HC => ?_)
       refine ws _ ?_
       refine aV h (fun HD h => ?_) (fun HD h => ?_)
       ·simp only [HD, ak.down]
        refine aY (n44 _ (.inl ?_))
        refine aL DL (fun aCF awn awo aCG => ?_)
        refine bL awo (fun av4 wB zG qS av5 => ?_)
        obtain ⟨bE, awp, h⟩ := aF h
        obtain ⟨cP, awq, h⟩ := aF h
        refine h3 awp (av_ a0 bE _ awq) _ ?_
        refine ws _ ?_
        refine aV h (fun zH h => ?_) (fun zH h => ?_)
        ·simp only [zH, ak.down]
         refine ws _ ?_
         exact aE (zG _ (.inl (aG [.bool false])))
        ·simp only [zH, ak.down]
         refine aY (wB _ (awn _ (.inl ?_)))
         refine wr _ ?_
         exact n43 _ (.inr ⟨_, bu rfl, awl (IntKind.i64.wrap (oo + 1)) h⟩)
       ·simp only [HD, ak.down]
        refine dV (HC 4 _ (OV 4 _ (qT _ (n40 _ (.inl ?_)))))
        refine ws _ ?_
        exact aE (an _ (.inl (aG [.bool true])))
     obtain ⟨n, h⟩ := dQ h
     exact dW (.inr ⟨_, bu rfl, awk n 0 h⟩)
  obtain ⟨n, h⟩ := dQ h
  exact dW (.inr ⟨_, bu rfl, hq n 0 h⟩)
theorem OX (a0 : List Int) (r : Bool) (h : yG a0 = some r) : bm aD 137 [.slice (a0.map a1)] (.bool r) [] := by
 refine bX [0] [.tmp 2] Tryz.func137 aeI (fun bT an bS => ?_)
 refine ws _ ?_
 refine aL an (fun ef bU bj al => ?_)
 refine ws _ ?_
 refine bL bj (fun eb eI ch bt bs => ?_)
 have fA : ∀ (n : Nat) (js : Int), tc a0 n js = some r → dE aD NL eb (aa [(0, .slice (a0.map a1)), (3, .int .i64 js)]) := by
  intro cB
  induction cB with
  | zero => intro js h; cases (show none = some r from h)
  | succ cB ft =>
   intro js h
   replace h : BW (tc a0 cB) a0 js = some r := h
   refine dX ch (fun hr ep dc bH => ?_)
   refine aL dc (fun fk dy dv bE => ?_)
   refine ws _ ?_
   refine aV h (fun bw h => ?_) (fun bw h => ?_)
   ·simp only [bw, ak.down]
    refine aY (dy _ (.inl ?_))
    refine aL dc (fun ev cQ cj di => ?_)
    refine bL cj (fun eU cq cw cR cr => ?_)
    obtain ⟨ag, ey, h⟩ := aF h
    obtain ⟨al, ee, h⟩ := aF h
    refine h3 ey (ma ag 0 63 _ ee) _ ?_
    refine aV h (fun eD h => ?_) (fun eD h => ?_)
    ·simp only [(cV eD), ak.down]
     refine ws _ ?_
     exact aE (cw _ (.inl (aG [.bool false])))
    ·simp only [(bn eD), ak.down]
     refine aY (cq _ (cQ _ (.inl ?_)))
     refine wr _ ?_
     exact ep _ (.inr ⟨_, bu rfl, ft (IntKind.i64.wrap (js + 1)) h⟩)
   ·simp only [bw, ak.down]
    refine dV (bE 0 _ (bH 0 _ (bt _ (bU _ (.inl ?_)))))
    refine ws _ ?_
    exact aE (an _ (.inl (aG [.bool true])))
 obtain ⟨n, h⟩ := dQ h
 exact dW (.inr ⟨_, bu rfl, fA n 0 h⟩)
theorem awr (a0 : eo) (r : Bool) (h : BZ a0 = some r) : bm aD 133 [.ref (hp a0)] (.bool r) [] := by
 refine bX [0] [.tmp 2] Tryz.func133 aeZ (fun bT an bS => ?_)
 refine ws _ ?_
 refine aL an (fun ef bU bj al => ?_)
 refine cN (bY [(0, .ref (hp a0)), (18, .bool (((a0.c_.length : Int) == 0) || (decide (3 < (a0.c_.length : Int)))))] (fun P ai => ?_) ?_)
 ·rcases Bool.eq_false_or_eq_true ((a0.c_.length : Int) == 0) with hM | hM
  ·simp only [aN.down, simprocAttr, pc.down, hM]
   (try simp only [bh.down, simprocAttr, wq.down, hM] at ai ⊢); exact ai
  ·simp only [aN.down, simprocAttr, pc.down, hM]
   (try simp only [bh.down, simprocAttr, wq.down, hM] at ai ⊢); exact ai
 refine aV h (fun b2 h => ?_) (fun b2 h => ?_)
 ·simp only [b2, ak.down]
  refine ws _ ?_
  exact aE (bj _ (.inl (aG [.bool false])))
 ·simp only [b2, ak.down]
  refine aY (bU _ (.inl ?_))
  refine aL an (fun hD ea er cP => ?_)
  refine ws _ ?_
  refine bL er (fun ev cQ cj eT di => ?_)
  have hq : ∀ (n : Nat) (c9 : Int), td a0 n c9 = some r → dE aD NM ev (aa [(0, .ref (hp a0)), (3, .int .i64 c9)]) := by
   intro dz
   induction dz with
   | zero => intro c9 h; cases (show none = some r from h)
   | succ dz hd =>
    intro c9 h
    replace h : BX (td a0 dz) a0 c9 = some r := h
    refine dX cj (fun eU cq cw cr => ?_)
    refine aL cw (fun ir e_ gf fe => ?_)
    refine ws _ ?_
    refine aV h (fun dY h => ?_) (fun dY h => ?_)
    ·simp only [dY, ak.down]
     refine aY (e_ _ (.inl ?_))
     refine aL cw (fun iH fs fa ic => ?_)
     refine bL fa (fun lS hE hj dx ju => ?_)
     obtain ⟨ag, dT, h⟩ := aF h
     refine h2 dT _ ?_
     refine aL hj (fun HE tX tY qK => ?_)
     obtain ⟨al, iW, h⟩ := aF h
     refine gx rfl (gm [(0, .ref (hp a0)), (3, .int .i64 c9), (4, .bb (fp ag)), (44, .bool (!al))] (fun P ai => ?_) ?_)
     ·simp only [c7.down, simprocAttr, pc.down]
      refine h0 (ma ag.dG 0 (IntKind.i64.wrap ((a0.eH.length : Int) - 1)) _ iW) rfl rfl rfl rfl (.inl (by rfl)) ?_
      simp only [c7.down, simprocAttr, pc.down]
      refine ⟨fY (by kernel_rfl), ?_⟩
      (try simp only [bh.down, simprocAttr, wq.down] at ai ⊢); exact ai
     refine aV h (fun mG h => ?_) (fun mG h => ?_)
     ·simp only [(cV mG), ak.down]
      refine ws _ ?_
      exact aE (tY _ (.inl (aG [.bool false])))
     ·simp only [(bn mG), ak.down]
      refine aY (tX _ (.inl ?_))
      obtain ⟨aS, kJ, h⟩ := aF h
      rcases fm h with ⟨jh, h⟩ | ⟨jh, h⟩
      ·refine gx rfl (gm [(0, .ref (hp a0)), (3, .int .i64 c9), (63, .bool true)] (fun P ai => ?_) ?_)
       ·simp only [c7.down, simprocAttr, pc.down, kJ, jh]
        refine ⟨fY (by kernel_rfl), ?_⟩
        (try simp only [bh.down, simprocAttr, wq.down, kJ, jh] at ai ⊢); exact ai
       refine iZ rfl ?_
       refine ws _ ?_
       exact aE (hj _ (.inl (aG [.bool false])))
      ·obtain ⟨bs, tT, h⟩ := aF h
       refine gx rfl (gm [(0, .ref (hp a0)), (3, .int .i64 c9), (63, .bool (!bs))] (fun P ai => ?_) ?_)
       ·simp only [c7.down, simprocAttr, pc.down, kJ, jh]
        refine k4 (OX ag.cF _ tT) rfl rfl rfl rfl (.inl (by rfl)) ?_
        simp only [c7.down, simprocAttr, pc.down, kJ, jh]
        refine ⟨fY (by kernel_rfl), ?_⟩
        (try simp only [bh.down, simprocAttr, wq.down, kJ, jh] at ai ⊢); exact ai
       refine aV h (fun tZ h => ?_) (fun tZ h => ?_)
       ·simp only [(cV tZ), ak.down]
        refine ws _ ?_
        exact aE (hj _ (.inl (aG [.bool false])))
       ·simp only [(bn tZ), ak.down]
        refine aY (hE _ (fs _ (.inl ?_)))
        refine wr _ ?_
        exact cq _ (.inr ⟨_, bu rfl, hd (IntKind.i64.wrap (c9 + 1)) h⟩)
    ·simp only [dY, ak.down]
     refine dV (fe 0 _ (cr 0 _ (eT _ (ea _ (.inl ?_)))))
     refine ws _ ?_
     exact aE (an _ (.inl (aG [.bool true])))
  obtain ⟨n, h⟩ := dQ h
  exact dW (.inr ⟨_, bu rfl, hq n 0 h⟩)
theorem p5 (a0 : List UInt8) (r : Bool) (h : te a0 = some r) : bm aD 183 [.str a0] (.bool r) [] := by
 refine bX [0] [.tmp 2] Tryz.func183 ae2 (fun bT an bS => ?_)
 refine ws _ ?_
 obtain ⟨ag, aW, h⟩ := aF h
 refine cN (bY [(2, .bool (ag && (!(a0 == ([116, 97, 117] : List UInt8)))))] (fun P ai => ?_) ?_)
 ·rcases Bool.eq_false_or_eq_true (ag) with hM | hM
  ·simp only [aN.down, simprocAttr, hM]
   refine eC (zD a0 _ aW) rfl rfl rfl rfl (.inl (by rfl)) ?_
   simp only [aN.down, simprocAttr, hM]
   (try simp only [bh.down, simprocAttr, hM] at ai ⊢); exact ai
  ·simp only [aN.down, simprocAttr, hM]
   refine eC (zD a0 _ aW) rfl rfl rfl rfl (.inl (by rfl)) ?_
   simp only [aN.down, simprocAttr, hM]
   (try simp only [bh.down, simprocAttr, hM] at ai ⊢); exact ai
 exact aE (an _ (.inl (aG [.bool (ag && (!(a0 == ([116, 97, 117] : List UInt8))))])))
theorem aws (a0 : List cc) (r : Bool) (h : B1 a0 = some r) : bm aD 134 [.slice (a0.map bx)] (.bool r) [] := by
 refine bX [0] [.tmp 2] Tryz.func134 afp (fun bT an bS => ?_)
 refine ws _ ?_
 refine aL an (fun ef bU bj al => ?_)
 refine ws _ ?_
 refine aV h (fun bt h => ?_) (fun bt h => ?_)
 ·simp only [bt, ak.down]
  refine ws _ ?_
  exact aE (bj _ (.inl (aG [.bool false])))
 ·simp only [bt, ak.down]
  refine aY (bU _ (.inl ?_))
  refine aL an (fun fk dy dv bE => ?_)
  refine ws _ ?_
  refine bL dv (fun ha g0 gN bw e9 => ?_)
  have hq : ∀ (n : Nat) (c9 : Int), l7 a0 n c9 = some r → dE aD NN ha (aa [(0, .slice (a0.map bx)), (3, .int .i64 c9)]) := by
   intro dz
   induction dz with
   | zero => intro c9 h; cases (show none = some r from h)
   | succ dz hd =>
    intro c9 h
    replace h : B0 (l7 a0 dz) a0 c9 = some r := h
    refine dX gN (fun ev cQ cj di => ?_)
    refine aL cj (fun eU cq cw cr => ?_)
    refine ws _ ?_
    refine aV h (fun dr h => ?_) (fun dr h => ?_)
    ·simp only [dr, ak.down]
     refine aY (cq _ (.inl ?_))
     refine aL cj (fun ly hb gR jt => ?_)
     refine bL gR (fun iH fs fa eD ic => ?_)
     obtain ⟨ag, cg, h⟩ := aF h
     refine h2 cg _ ?_
     refine aL fa (fun ox jU jg lR => ?_)
     obtain ⟨al, g2, h⟩ := aF h
     rcases fm h with ⟨ew, h⟩ | ⟨ew, h⟩
     ·refine h3 (cV ew) (p5 ag.Left _ g2) _ ?_
      refine iZ rfl ?_
      refine ws _ ?_
      exact aE (jg _ (.inl (aG [.bool false])))
     ·obtain ⟨aS, hP, h⟩ := aF h
      rcases fm h with ⟨fJ, h⟩ | ⟨fJ, h⟩
      ·refine cN (bY [(0, .slice (a0.map bx)), (3, .int .i64 c9), (4, .bb (bx ag)), (41, .bool true)] (fun P ai => ?_) ?_)
       ·simp only [aN.down, simprocAttr, nL.down, (bn ew), (cV fJ)]
        refine eC (p5 ag.Left _ g2) rfl rfl rfl rfl (.inl (by rfl)) ?_
        simp only [aN.down, simprocAttr, nL.down, (bn ew), (cV fJ)]
        refine hN (p5 ag.cp _ hP) rfl rfl rfl rfl (.inl (by rfl)) ?_
        simp only [aN.down, simprocAttr, nL.down, (bn ew), (cV fJ)]
        (try simp only [bh.down, simprocAttr, bx, (bn ew), (cV fJ)] at ai ⊢); exact ai
       refine iZ rfl ?_
       refine ws _ ?_
       exact aE (jg _ (.inl (aG [.bool false])))
      ·obtain ⟨bs, lA, h⟩ := aF h
       refine cN (bY [(0, .slice (a0.map bx)), (3, .int .i64 c9), (4, .bb (bx ag)), (41, .bool ((!bs) || (!(Op.bytesLess ag.Left ag.cp || ag.Left == ag.cp))))] (fun P ai => ?_) ?_)
       ·rcases Bool.eq_false_or_eq_true (bs) with nJ | nJ
        ·simp only [aN.down, simprocAttr, nL.down, (bn ew), (bn fJ), nJ]
         refine eC (p5 ag.Left _ g2) rfl rfl rfl rfl (.inl (by rfl)) ?_
         simp only [aN.down, simprocAttr, nL.down, (bn ew), (bn fJ), nJ]
         refine hN (p5 ag.cp _ hP) rfl rfl rfl rfl (.inl (by rfl)) ?_
         simp only [aN.down, simprocAttr, nL.down, (bn ew), (bn fJ), nJ]
         refine hN (p5 ag.Result _ lA) rfl rfl rfl rfl (.inl (by rfl)) ?_
         simp only [aN.down, simprocAttr, nL.down, (bn ew), (bn fJ), nJ]
         (try simp only [bh.down, simprocAttr, bx, (bn ew), (bn fJ), nJ] at ai ⊢); exact ai
        ·simp only [aN.down, simprocAttr, nL.down, (bn ew), (bn fJ), nJ]
         refine eC (p5 ag.Left _ g2) rfl rfl rfl rfl (.inl (by rfl)) ?_
         simp only [aN.down, simprocAttr, nL.down, (bn ew), (bn fJ), nJ]
         refine hN (p5 ag.cp _ hP) rfl rfl rfl rfl (.inl (by rfl)) ?_
         simp only [aN.down, simprocAttr, nL.down, (bn ew), (bn fJ), nJ]
         refine hN (p5 ag.Result _ lA) rfl rfl rfl rfl (.inl (by rfl)) ?_
         simp only [aN.down, simprocAttr, nL.down, (bn ew), (bn fJ), nJ]
         (try simp only [bh.down, simprocAttr, bx, (bn ew), (bn fJ), nJ] at ai ⊢); exact ai
       refine aV h (fun lT h => ?_) (fun lT h => ?_)
       ·simp only [lT, ak.down]
        refine ws _ ?_
        exact aE (jg _ (.inl (aG [.bool false])))
       ·simp only [lT, ak.down]
        refine aY (jU _ (.inl ?_))
        refine aL fa (fun OP n29 Hu wj => ?_)
        rcases fm h with ⟨jV, h⟩ | ⟨jV, h⟩
        ·obtain ⟨bH, OY, h⟩ := aF h
         refine gx rfl (gm [(0, .slice (a0.map bx)), (3, .int .i64 c9), (4, .bb (bx ag)), (76, .bool ((!(Op.bytesLess bH.Left ag.Left || bH.Left == ag.Left)) || ((bH.Left == ag.Left) && (!(Op.bytesLess bH.cp ag.cp)))))] (fun P ai => ?_) ?_)
         ·(rcases Bool.eq_false_or_eq_true (Op.bytesLess bH.Left ag.Left) with HF | HF) <;> (rcases Bool.eq_false_or_eq_true (bH.Left == ag.Left) with HG | HG) <;>
           (simp only [c7.down, simprocAttr, hC.down, jV, OY, HF, HG]
            refine ⟨fY (by kernel_rfl), ?_⟩
            (try simp only [bh.down, simprocAttr, bx, jV, OY, HF, HG] at ai ⊢); exact ai)
         refine aV h (fun pf h => ?_) (fun pf h => ?_)
         ·simp only [pf, ak.down]
          refine ws _ ?_
          exact aE (Hu _ (.inl (aG [.bool false])))
         ·simp only [pf, ak.down]
          refine aY (n29 _ (.inl ?_))
          refine ws _ ?_
          refine bL fa (fun OZ n38 HH p6 awt => ?_)
          have HI : ∀ (n : Nat) (j4 : Int) (km : Int), o9 (l7 a0 dz) a0 ag n j4 km = some r → dE aD He OZ (aa [(0, .slice (a0.map bx)), (3, .int .i64 j4), (4, .bb (bx ag)), (5, .int .i64 km)]) := by
           intro t_
           induction t_ with
           | zero => intro j4 km h; cases (show none = some r from h)
           | succ t_ HJ =>
            intro j4 km h
            replace h : yH (l7 a0 dz) (o9 (l7 a0 dz) a0 ag t_) a0 ag j4 km = some r := h
            refine dX HH (fun aCH n39 O0 awu => ?_)
            refine aL O0 (fun awh n40 OT OU => ?_)
            refine ws _ ?_
            refine aV h (fun qT h => ?_) (fun qT h => ?_)
            ·simp only [qT, ak.down]
             refine aY (n40 _ (.inl ?_))
             refine aL O0 (fun awm n43 DL OV => ?_)
             refine bL DL (fun OW n44 DM rW HC => ?_)
             obtain ⟨bE, qR, h⟩ := aF h
             refine gx rfl (gm [(0, .slice (a0.map bx)), (3, .int .i64 j4), (4, .bb (bx ag)), (5, .int .i64 km), (100, .bool ((bE.Left == ag.Result) || (bE.cp == ag.Result)))] (fun P ai => ?_) ?_)
             ·rcases Bool.eq_false_or_eq_true (bE.Left == ag.Result) with tK | tK
              ·simp only [c7.down, simprocAttr, hC.down, qR, tK]
               refine ⟨fY (by kernel_rfl), ?_⟩
               (try simp only [bh.down, simprocAttr, bx, qR, tK] at ai ⊢); exact ai
              ·simp only [c7.down, simprocAttr, hC.down, qR, tK]
               refine ⟨fY (by kernel_rfl), ?_⟩
               (try simp only [bh.down, simprocAttr, bx, qR, tK] at ai ⊢); exact ai
             refine aV h (fun qS h => ?_) (fun qS h => ?_)
             ·simp only [qS, ak.down]
              refine ws _ ?_
              exact aE (DM _ (.inl (aG [.bool false])))
             ·simp only [qS, ak.down]
              refine aY (n44 _ (n43 _ (.inl ?_)))
              refine wr _ ?_
              exact n39 _ (.inr ⟨_, bu rfl, HJ j4 (IntKind.i64.wrap (km + 1)) h⟩)
            ·simp only [qT, ak.down]
             refine dV (OU 2 _ (awu 2 _ (p6 _ (fs _ (hb _ (.inl ?_))))))
             refine wr _ ?_
             exact cQ _ (.inr ⟨_, bu rfl, hd (IntKind.i64.wrap (j4 + 1)) h⟩)
          obtain ⟨n, h⟩ := dQ h
          exact dW (.inr ⟨_, bu rfl, HI n c9 0 h⟩)
        ·refine gx rfl (gm [(0, .slice (a0.map bx)), (3, .int .i64 c9), (4, .bb (bx ag)), (76, .bool false)] (fun P ai => ?_) ?_)
         ·simp only [c7.down, simprocAttr, hC.down, jV]
          refine ⟨fY (by kernel_rfl), ?_⟩
          (try simp only [bh.down, simprocAttr, bx, jV] at ai ⊢); exact ai
         refine rF rfl ?_
         refine aY (n29 _ (.inl ?_))
         refine ws _ ?_
         refine bL fa (fun awv n53 aww zH aCI => ?_)
         have HI : ∀ (n : Nat) (j4 : Int) (km : Int), o9 (l7 a0 dz) a0 ag n j4 km = some r → dE aD He awv (aa [(0, .slice (a0.map bx)), (3, .int .i64 j4), (4, .bb (bx ag)), (5, .int .i64 km)]) := by
          intro t_
          induction t_ with
          | zero => intro j4 km h; cases (show none = some r from h)
          | succ t_ HJ =>
           intro j4 km h
           replace h : yH (l7 a0 dz) (o9 (l7 a0 dz) a0 ag t_) a0 ag j4 km = some r := h
           refine dX aww (fun aCJ n54 O1 awx => ?_)
           refine aL O1 (fun aCK awy aCL awz => ?_)
           refine ws _ ?_
           refine aV h (fun tW h => ?_) (fun tW h => ?_)
           ·simp only [tW, ak.down]
            refine aY (awy _ (.inl ?_))
            refine aL O1 (fun aCM awA awB aCN => ?_)
            refine bL awB (fun aCO n59 awC DJ aCP => ?_)
            obtain ⟨cP, DN, h⟩ := aF h
            refine gx rfl (gm [(0, .slice (a0.map bx)), (3, .int .i64 j4), (4, .bb (bx ag)), (5, .int .i64 km), (100, .bool ((cP.Left == ag.Result) || (cP.cp == ag.Result)))] (fun P ai => ?_) ?_)
            ·rcases Bool.eq_false_or_eq_true (cP.Left == ag.Result) with zI | zI
             ·simp only [c7.down, simprocAttr, hC.down, DN, zI]
              refine ⟨fY (by kernel_rfl), ?_⟩
              (try simp only [bh.down, simprocAttr, bx, DN, zI] at ai ⊢); exact ai
             ·simp only [c7.down, simprocAttr, hC.down, DN, zI]
              refine ⟨fY (by kernel_rfl), ?_⟩
              (try simp only [bh.down, simprocAttr, bx, DN, zI] at ai ⊢); exact ai
            refine aV h (fun HK h => ?_) (fun HK h => ?_)
            ·simp only [HK, ak.down]
             refine ws _ ?_
             exact aE (awC _ (.inl (aG [.bool false])))
            ·simp only [HK, ak.down]
             refine aY (n59 _ (awA _ (.inl ?_)))
             refine wr _ ?_
             exact n54 _ (.inr ⟨_, bu rfl, HJ j4 (IntKind.i64.wrap (km + 1)) h⟩)
           ·simp only [tW, ak.down]
            refine dV (awz 2 _ (awx 2 _ (zH _ (fs _ (hb _ (.inl ?_))))))
            refine wr _ ?_
            exact cQ _ (.inr ⟨_, bu rfl, hd (IntKind.i64.wrap (j4 + 1)) h⟩)
         obtain ⟨n, h⟩ := dQ h
         exact dW (.inr ⟨_, bu rfl, HI n c9 0 h⟩)
    ·simp only [dr, ak.down]
     refine dV (cr 0 _ (di 0 _ (bw _ (dy _ (.inl ?_)))))
     refine ws _ ?_
     exact aE (an _ (.inl (aG [.bool true])))
  obtain ⟨n, h⟩ := dQ h
  exact dW (.inr ⟨_, bu rfl, hq n 0 h⟩)
theorem awD (a0 : List (List UInt8)) (r : Bool) (h : B3 a0 = some r) : bm aD 184 [.slice (a0.map bG)] (.bool r) [] := by
 refine bX [0] [.tmp 2] Tryz.func184 afz (fun bT an bS => ?_)
 refine ws _ ?_
 refine aL an (fun ef bU bj al => ?_)
 refine ws _ ?_
 refine bL bj (fun eb eI ch bt bs => ?_)
 have fA : ∀ (n : Nat) (js : Int), tf a0 n js = some r → dE aD NO eb (aa [(0, .slice (a0.map bG)), (3, .int .i64 js)]) := by
  intro cB
  induction cB with
  | zero => intro js h; cases (show none = some r from h)
  | succ cB ft =>
   intro js h
   replace h : B2 (tf a0 cB) a0 js = some r := h
   refine dX ch (fun hr ep dc bH => ?_)
   refine aL dc (fun fk dy dv bE => ?_)
   refine ws _ ?_
   refine aV h (fun bw h => ?_) (fun bw h => ?_)
   ·simp only [bw, ak.down]
    refine aY (dy _ (.inl ?_))
    refine aL dc (fun ev cQ cj di => ?_)
    refine bL cj (fun eU cq cw cR cr => ?_)
    obtain ⟨ag, ey, h⟩ := aF h
    obtain ⟨al, ee, h⟩ := aF h
    refine h3 ey (p5 ag _ ee) _ ?_
    refine aV h (fun eD h => ?_) (fun eD h => ?_)
    ·simp only [(cV eD), ak.down]
     refine ws _ ?_
     exact aE (cw _ (.inl (aG [.bool false])))
    ·simp only [(bn eD), ak.down]
     refine aY (cq _ (cQ _ (.inl ?_)))
     refine wr _ ?_
     exact ep _ (.inr ⟨_, bu rfl, ft (IntKind.i64.wrap (js + 1)) h⟩)
   ·simp only [bw, ak.down]
    refine dV (bE 0 _ (bH 0 _ (bt _ (bU _ (.inl ?_)))))
    refine ws _ ?_
    exact aE (an _ (.inl (aG [.bool true])))
 obtain ⟨n, h⟩ := dQ h
 exact dW (.inr ⟨_, bu rfl, fA n 0 h⟩)
theorem O2 (a0 : List (List UInt8)) (r : Bool) (h : yJ a0 = some r) : bm aD 135 [.slice (a0.map bG)] (.bool r) [] := by
 refine bX [0] [.tmp 2] Tryz.func135 afM (fun bT an bS => ?_)
 refine ws _ ?_
 refine aL an (fun ef bU bj al => ?_)
 rcases fm h with ⟨bt, h⟩ | ⟨bt, h⟩
 ·refine h2 bt _ ?_
  refine iZ rfl ?_
  refine ws _ ?_
  exact aE (bj _ (.inl (aG [.bool false])))
 ·obtain ⟨ag, cn, h⟩ := aF h
  refine cN (bY [(0, .slice (a0.map bG)), (11, .bool (!ag))] (fun P ai => ?_) ?_)
  ·simp only [aN.down, simprocAttr, e0, lx, bG, bt]
   refine hN (awD a0 _ cn) rfl rfl rfl rfl (.inl (by rfl)) ?_
   simp only [aN.down, simprocAttr, e0, lx, bG, bt]
   (try simp only [bh.down, simprocAttr, bG, bt] at ai ⊢); exact ai
  refine aV h (fun np h => ?_) (fun np h => ?_)
  ·simp only [(cV np), ak.down]
   refine ws _ ?_
   exact aE (bj _ (.inl (aG [.bool false])))
  ·simp only [(bn np), ak.down]
   refine aY (bU _ (.inl ?_))
   refine aL an (fun ev cQ cj di => ?_)
   refine ws _ ?_
   refine bL cj (fun ir e_ gf iT fe => ?_)
   have hq : ∀ (n : Nat) (c9 : Int), nF a0 n c9 = some r → dE aD NP ir (aa [(0, .slice (a0.map bG)), (3, .int .i64 c9)]) := by
    intro dz
    induction dz with
    | zero => intro c9 h; cases (show none = some r from h)
    | succ dz hd =>
     intro c9 h
     replace h : yI (nF a0 dz) a0 c9 = some r := h
     refine dX gf (fun j8 hc iV je => ?_)
     refine aL iV (fun ly hb gR jt => ?_)
     refine ws _ ?_
     refine aV h (fun dx h => ?_) (fun dx h => ?_)
     ·simp only [dx, ak.down]
      refine aY (hb _ (.inl ?_))
      refine aL iV (fun qO k7 lz nI => ?_)
      refine bL lz (fun ox jU jg hJ lR => ?_)
      obtain ⟨al, g2, h⟩ := aF h
      obtain ⟨aS, iW, h⟩ := aF h
      refine gx rfl (gm [(0, .slice (a0.map bG)), (3, .int .i64 c9), (27, .bool (!(Op.bytesLess al aS)))] (fun P ai => ?_) ?_)
      ·simp only [c7.down, simprocAttr, e0, lx, bG, g2, iW]
       refine ⟨fY (by kernel_rfl), ?_⟩
       (try simp only [bh.down, simprocAttr, bG, g2, iW] at ai ⊢); exact ai
      refine aV h (fun mG h => ?_) (fun mG h => ?_)
      ·simp only [mG, ak.down]
       refine ws _ ?_
       exact aE (jg _ (.inl (aG [.bool false])))
      ·simp only [mG, ak.down]
       refine aY (jU _ (k7 _ (.inl ?_)))
       refine wr _ ?_
       exact hc _ (.inr ⟨_, bu rfl, hd (IntKind.i64.wrap (c9 + 1)) h⟩)
     ·simp only [dx, ak.down]
      refine dV (jt 0 _ (je 0 _ (iT _ (cQ _ (.inl ?_)))))
      refine ws _ ?_
      exact aE (an _ (.inl (aG [.bool true])))
   obtain ⟨n, h⟩ := dQ h
   exact dW (.inr ⟨_, bu rfl, hq n 1 h⟩)
theorem awE (a0 : eo) (r : Int) (h : B4 a0 = some r) : bm aD 79 [.ref (hp a0)] (.int .i64 r) [] := by
 refine bX [0] [.tmp 2] Tryz.func79 af4 (fun bT an bS => ?_)
 refine ws _ ?_
 refine aL an (fun ef bU bj al => ?_)
 obtain ⟨ag, cS, h⟩ := aF h
 refine dC (awa a0.eH _ cS) _ ?_
 refine aV h (fun b2 h => ?_) (fun b2 h => ?_)
 ·simp only [(cV b2), ak.down]
  refine ws _ ?_
  exact aE (bj _ (.inl (aG [.int .i64 1])))
 ·simp only [(bn b2), ak.down]
  refine aY (bU _ (.inl ?_))
  refine aL an (fun hD ea er cP => ?_)
  obtain ⟨al, kv, h⟩ := aF h
  refine dC (awr a0 _ kv) _ ?_
  refine aV h (fun cR h => ?_) (fun cR h => ?_)
  ·simp only [(cV cR), ak.down]
   refine ws _ ?_
   exact aE (er _ (.inl (aG [.int .i64 2])))
  ·simp only [(bn cR), ak.down]
   refine aY (ea _ (.inl ?_))
   refine aL an (fun j8 hc iV je => ?_)
   obtain ⟨aS, ei, h⟩ := aF h
   refine dC (aws a0.hH _ ei) _ ?_
   refine aV h (fun dx h => ?_) (fun dx h => ?_)
   ·simp only [(cV dx), ak.down]
    refine ws _ ?_
    exact aE (iV _ (.inl (aG [.int .i64 3])))
   ·simp only [(bn dx), ak.down]
    refine aY (hc _ (.inl ?_))
    refine aL an (fun ox jU jg lR => ?_)
    obtain ⟨bs, g2, h⟩ := aF h
    refine dC (O2 a0.hA _ g2) _ ?_
    refine aV h (fun ew h => ?_) (fun ew h => ?_)
    ·simp only [(cV ew), ak.down]
     refine ws _ ?_
     exact aE (jg _ (.inl (aG [.int .i64 4])))
    ·simp only [(bn ew), ak.down]
     refine aY (jU _ (.inl ?_))
     refine aL an (fun zC pd pe j5 => ?_)
     obtain ⟨bH, kJ, h⟩ := aF h
     refine dC (O2 a0.hB _ kJ) _ ?_
     refine aV h (fun jh h => ?_) (fun jh h => ?_)
     ·simp only [(cV jh), ak.down]
      refine ws _ ?_
      exact aE (pe _ (.inl (aG [.int .i64 5])))
     ·simp only [(bn jh), ak.down]
      refine aY (pd _ (.inl ?_))
      refine ws _ ?_
      exact aE (an _ (.inl (aG [.int .i64 0])))
theorem O3 (a0 : eo) (r : Bool) (h : B5 a0 = some r) : bm aD 41 [.ref (hp a0)] (.bool r) [] := by
 refine bX [0] [.tmp 2] Tryz.func41 af7 (fun bT an bS => ?_)
 refine ws _ ?_
 obtain ⟨ag, aW, h⟩ := aF h
 refine dC (awE a0 _ aW) _ ?_
 exact aE (an _ (.inl (aG [.bool (ag == 0)])))
theorem awF (a0 : List bk) (U : bM) (r : Bool) (h : vX a0 U = some r) : bm aD 80 [.slice (a0.map bC), .ref (dF U)] (.bool r) [] := by
 refine bX [0, 1] [.tmp 4] Tryz.func80 agh (fun bT an bS => ?_)
 refine ws _ ?_
 refine aL an (fun ef bU bj al => ?_)
 obtain ⟨ag, cS, h⟩ := aF h
 refine dC (ma U.dG 0 (IntKind.i64.wrap ((a0.length : Int) - 1)) _ cS) _ ?_
 refine aV h (fun b2 h => ?_) (fun b2 h => ?_)
 ·simp only [(cV b2), ak.down]
  refine ws _ ?_
  exact aE (bj _ (.inl (aG [.bool false])))
 ·simp only [(bn b2), ak.down]
  refine aY (bU _ (.inl ?_))
  obtain ⟨al, hv, h⟩ := aF h
  refine h2 hv _ ?_
  refine aL an (fun ev cQ cj di => ?_)
  obtain ⟨aS, nU, h⟩ := aF h
  rcases fm h with ⟨dr, h⟩ | ⟨dr, h⟩
  ·refine gx rfl (gm [(1, .ref (dF U)), (5, .bb (bC al)), (43, .bool true)] (fun P ai => ?_) ?_)
   ·simp only [c7.down, simprocAttr, Dw.down, (cV dr)]
    refine h0 (ma U.Part 0 (IntKind.i64.wrap ((al.Body.length : Int) - 1)) _ nU) rfl rfl rfl rfl (.inl (by rfl)) ?_
    simp only [c7.down, simprocAttr, Dw.down, (cV dr)]
    refine ⟨fY (by kernel_rfl), ?_⟩
    (try simp only [bh.down, simprocAttr, tP.down, (cV dr)] at ai ⊢); exact ai
   refine iZ rfl ?_
   refine ws _ ?_
   exact aE (cj _ (.inl (aG [.bool false])))
  ·obtain ⟨bs, ei, h⟩ := aF h
   refine gx rfl (gm [(1, .ref (dF U)), (5, .bb (bC al)), (43, .bool (bs.Kind == 5))] (fun P ai => ?_) ?_)
   ·simp only [c7.down, simprocAttr, Dw.down, (bn dr), ei]
    refine h0 (ma U.Part 0 (IntKind.i64.wrap ((al.Body.length : Int) - 1)) _ nU) rfl rfl rfl rfl (.inl (by rfl)) ?_
    simp only [c7.down, simprocAttr, Dw.down, (bn dr), ei]
    refine ⟨fY (by kernel_rfl), ?_⟩
    (try simp only [bh.down, simprocAttr, tP.down, (bn dr), ei] at ai ⊢); exact ai
   refine aV h (fun dx h => ?_) (fun dx h => ?_)
   ·simp only [dx, ak.down]
    refine ws _ ?_
    exact aE (cj _ (.inl (aG [.bool false])))
   ·simp only [dx, ak.down]
    refine aY (cQ _ (.inl ?_))
    obtain ⟨bH, e6, h⟩ := aF h
    rcases fm h with ⟨eV, h⟩ | ⟨eV, h⟩
    ·obtain ⟨bE, iW, h⟩ := aF h
     refine gx rfl (gm [(4, .bool bE)] (fun P ai => ?_) ?_)
     ·simp only [c7.down, simprocAttr, tQ.down, eV]
      refine h0 (Hq al U.Part _ e6) rfl rfl (by simp only [c7.down, simprocAttr, tQ.down, eV, fV, fW, fX, dj, @bR _ cG cG (fun _ => zm _)] <;> rfl) rfl (.inr (by rfl)) ?_
      simp only [c7.down, simprocAttr, tQ.down, eV]
      refine k4 (OX U.cF _ iW) rfl rfl rfl rfl (.inl (by rfl)) ?_
      simp only [c7.down, simprocAttr, tQ.down, eV]
      refine ⟨fY (by kernel_rfl), ?_⟩
      (try simp only [bh.down, simprocAttr, tP.down, eV] at ai ⊢); exact ai
     exact aE (an _ (.inl (aG [.bool bE])))
    ·refine gx rfl (gm [(4, .bool false)] (fun P ai => ?_) ?_)
     ·simp only [c7.down, simprocAttr, tQ.down, eV]
      refine h0 (Hq al U.Part _ e6) rfl rfl (by simp only [c7.down, simprocAttr, tQ.down, eV, fV, fW, fX, dj, @bR _ cG cG (fun _ => zm _)] <;> rfl) rfl (.inr (by rfl)) ?_
      simp only [c7.down, simprocAttr, tQ.down, eV]
      refine ⟨fY (by kernel_rfl), ?_⟩
      (try simp only [bh.down, simprocAttr, tP.down, eV] at ai ⊢); exact ai
     exact aE (an _ (.inl (aG [.bool false])))
theorem awG (a0 : eo) (U : List bM) (r : Bool) (h : B7 a0 U = some r) : bm aD 42 [.ref (hp a0), .slice (U.map dF)] (.bool r) [] := by
 refine bX [0, 1] [.tmp 4] Tryz.func42 agu (fun bT an bS => ?_)
 refine ws _ ?_
 refine aL an (fun ef bU bj al => ?_)
 refine ws _ ?_
 refine aV h (fun bt h => ?_) (fun bt h => ?_)
 ·simp only [bt, ak.down]
  refine ws _ ?_
  exact aE (bj _ (.inl (aG [.bool false])))
 ·simp only [bt, ak.down]
  refine aY (bU _ (.inl ?_))
  refine aL an (fun fk dy dv bE => ?_)
  refine ws _ ?_
  refine bL dv (fun ha g0 gN bw e9 => ?_)
  have hq : ∀ (n : Nat) (bW : Int), tg a0 U n bW = some r → dE aD NQ ha (aa [(0, .ref (hp a0)), (1, .slice (U.map dF)), (5, .int .i64 bW)]) := by
   intro dz
   induction dz with
   | zero => intro bW h; cases (show none = some r from h)
   | succ dz hd =>
    intro bW h
    replace h : B6 (tg a0 U dz) a0 U bW = some r := h
    refine dX gN (fun ev cQ cj di => ?_)
    refine aL cj (fun eU cq cw cr => ?_)
    refine ws _ ?_
    refine aV h (fun dr h => ?_) (fun dr h => ?_)
    ·simp only [dr, ak.down]
     refine aY (cq _ (.inl ?_))
     refine aL cj (fun ly hb gR jt => ?_)
     refine bL gR (fun iH fs fa eD ic => ?_)
     obtain ⟨ag, cg, h⟩ := aF h
     obtain ⟨al, dT, h⟩ := aF h
     refine gx rfl (gm [(0, .ref (hp a0)), (1, .slice (U.map dF)), (5, .int .i64 bW), (28, .bool (!al))] (fun P ai => ?_) ?_)
     ·simp only [c7.down, simprocAttr, wt.down, cg]
      refine h0 (awF a0.eH ag _ dT) rfl rfl rfl rfl (.inl (by rfl)) ?_
      simp only [c7.down, simprocAttr, wt.down, cg]
      refine ⟨fY (by kernel_rfl), ?_⟩
      (try simp only [bh.down, simprocAttr, p2.down, cg] at ai ⊢); exact ai
     refine aV h (fun fz h => ?_) (fun fz h => ?_)
     ·simp only [(cV fz), ak.down]
      refine ws _ ?_
      exact aE (fa _ (.inl (aG [.bool false])))
     ·simp only [(bn fz), ak.down]
      refine aY (fs _ (hb _ (.inl ?_)))
      refine wr _ ?_
      exact cQ _ (.inr ⟨_, bu rfl, hd (IntKind.i64.wrap (bW + 1)) h⟩)
    ·simp only [dr, ak.down]
     refine dV (cr 0 _ (di 0 _ (bw _ (dy _ (.inl ?_)))))
     refine ws _ ?_
     exact aE (an _ (.inl (aG [.bool true])))
  obtain ⟨n, h⟩ := dQ h
  exact dW (.inr ⟨_, bu rfl, hq n 0 h⟩)
theorem awH (a0 : List Int) (U : Int) (r : Bool) (h : B9 a0 U = some r) : bm aD 69 [.slice (a0.map a1), .int .i64 U] (.bool r) [] := by
 refine bX [0, 1] [.tmp 4] Tryz.func69 agJ (fun bT an bS => ?_)
 refine ws _ ?_
 refine aL an (fun ef bU bj al => ?_)
 refine ws _ ?_
 refine aV h (fun bt h => ?_) (fun bt h => ?_)
 ·simp only [bt, ak.down]
  refine ws _ ?_
  exact aE (bj _ (.inl (aG [.bool false])))
 ·simp only [bt, ak.down]
  refine aY (bU _ (.inl ?_))
  obtain ⟨aCQ, bV, h⟩ := aF h
  refine cN (bY [(0, .slice (a0.map a1)), (1, .int .i64 U), (5, .ao 1 ((List.replicate (Int.toNat U) false).map mE))] (fun P ai => ?_) ?_)
  ·simp only [aN.down, simprocAttr, oe, Gy, mE, a1, (eA bV).1, (eA bV).2.1, (eA bV).2.2, eQ, List.map_replicate, -Int.reduceNatCast']
   (try simp only [bh.down, simprocAttr, mE, a1, (eA bV).1, (eA bV).2.1, (eA bV).2.2, eQ, List.map_replicate, -Int.reduceNatCast'] at ai ⊢); exact ai
  refine aL an (fun ha g0 gN e9 => ?_)
  refine ws [(0, .slice (a0.map a1)), (1, .int .i64 U), (5, .ao 1 ((List.replicate (Int.toNat U) false).map mE)), (6, .int .i64 0)] ?_
  refine bL gN (fun eU cq cw cR cr => ?_)
  have jS : ∀ (n : Nat) (cK : List Bool) (m4 : Int), th a0 U n cK m4 = some r → dE aD NR eU (aa [(0, .slice (a0.map a1)), (1, .int .i64 U), (5, .ao 1 (cK.map mE)), (6, .int .i64 m4)]) := by
   intro fZ
   induction fZ with
   | zero => intro cK m4 h; cases (show none = some r from h)
   | succ fZ jT =>
    intro cK m4 h
    replace h : B8 (th a0 U fZ) a0 U cK m4 = some r := h
    refine dX cw (fun ir e_ gf fe => ?_)
    refine aL gf (fun j8 hc iV je => ?_)
    refine ws _ ?_
    refine aV h (fun eD h => ?_) (fun eD h => ?_)
    ·simp only [eD, ak.down]
     refine aY (hc _ (.inl ?_))
     refine aL gf (fun lS hE hj ju => ?_)
     refine bL hj (fun qO k7 lz j9 nI => ?_)
     refine aL lz (fun ox jU jg lR => ?_)
     obtain ⟨ag, g2, h⟩ := aF h
     obtain ⟨al, iW, h⟩ := aF h
     rcases fm h with ⟨mG, h⟩ | ⟨mG, h⟩
     ·refine h3 (And.intro g2 (cV mG)) (ma ag 0 (IntKind.i64.wrap (U - 1)) _ iW) _ ?_
      refine iZ rfl ?_
      refine ws _ ?_
      exact aE (jg _ (.inl (aG [.bool false])))
     ·obtain ⟨aS, kI, h⟩ := aF h
      refine h3 (And.intro g2 (And.intro (bn mG) (And.intro kI (c3 kI)))) (ma ag 0 (IntKind.i64.wrap (U - 1)) _ iW) _ ?_
      refine aV h (fun ig h => ?_) (fun ig h => ?_)
      ·simp only [ig, ak.down]
       refine ws _ ?_
       exact aE (jg _ (.inl (aG [.bool false])))
      ·simp only [ig, ak.down]
       refine aY (jU _ (.inl ?_))
       refine kk (bY [(0, .slice (a0.map a1)), (1, .int .i64 U), (5, .ao 1 ((List.set cK (Int.toNat ag) true).map mE)), (6, .int .i64 m4)] (fun P ai => ?_) ?_)
       ·simp only [aN.down, simprocAttr, eG, oe, iQ, Gy, mE, a1, g2, kI, c3 kI, en, dZ]
        (try simp only [bh.down, simprocAttr, mE, a1, g2, kI, c3 kI, en, dZ] at ai ⊢); exact ai
       refine k7 _ (hE _ (.inl ?_))
       refine wr [(0, .slice (a0.map a1)), (1, .int .i64 U), (5, .ao 1 ((List.set cK (Int.toNat ag) true).map mE)), (6, .int .i64 (IntKind.i64.wrap (m4 + 1)))] ?_
       exact e_ _ (.inr ⟨_, bu rfl, jT (List.set cK (Int.toNat ag) true) (IntKind.i64.wrap (m4 + 1)) h⟩)
    ·simp only [eD, ak.down]
     refine dV (je 0 _ (fe 0 _ (cR _ (g0 _ (.inl ?_)))))
     refine ws _ ?_
     exact aE (an _ (.inl (aG [.bool true])))
  obtain ⟨n, h⟩ := dQ h
  exact dW (.inr ⟨_, bu rfl, jS n (List.replicate (Int.toNat U) false) 0 h⟩)
theorem awI (a0 : List Int) (r : (List Int)) (h : yK a0 = some r) : bm aD 117 [.slice (a0.map a1)] (.ao 1 (r.map a1)) [] := by
 refine bX [0] [.tmp 2] Tryz.func117 agM (fun bT an bS => ?_)
 refine ws _ ?_
 obtain ⟨Au, aW, h⟩ := aF h
 (try simp only [List.length_append, List.length_cons, List.length_nil, List.length_map, List.length_replicate, Nat.zero_add, Nat.add_zero, Nat.reduceAdd] at aW)
 refine cN (bY [(2, .ao 1 (a0.map a1))] (fun P ai => ?_) ?_)
 ·simp only [aN.down, simprocAttr, kp.down, (show ∀ s, eW aD s 46 0 [] = some (.ao 1 [], s) from fun s => by kernel_rfl), @mV aD 46 46 2 rfl rfl, mW, mX, mY, all_cons, all_nil, aW, @lp _ a1 1 (fun _ => rfl)]
  (try simp only [bh.down, simprocAttr, a1, (show ∀ s, eW aD s 46 0 [] = some (.ao 1 [], s) from fun s => by kernel_rfl), @mV aD 46 46 2 rfl rfl, mW, mX, mY, all_cons, all_nil, aW, @lp _ a1 1 (fun _ => rfl)] at ai ⊢); exact ai
 exact aE (an _ (.inl (aG [.ao 1 (a0.map a1)])))
theorem awJ (a0 : List bM) (U : List Int) (r : (List bM)) (h : B_ a0 U = some r) : bm aD 70 [.slice (a0.map dF), .slice (U.map a1)] (.ao 3 (r.map cC)) [] := by
 refine bX [0, 1] [.tmp 4] Tryz.func70 agW (fun bT an bS => ?_)
 refine ws _ ?_
 refine h2 (show ∀ s, eW aD s 31 0 [] = some (.ao 3 [], s) from fun s => by kernel_rfl) _ ?_
 refine aL an (fun j7 gD dD aS => ?_)
 refine ws _ ?_
 refine bL dD (fun hr ep dc b2 bH => ?_)
 have jw : ∀ (n : Nat) (fH : List bM) (fj : Int), yL a0 U n fH fj = some r → dE aD NS hr (aa [(0, .slice (a0.map dF)), (1, .slice (U.map a1)), (5, .ao 3 (fH.map cC)), (6, .int .i64 fj)]) := by
  intro fc
  induction fc with
  | zero => intro fH fj h; cases (show none = some r from h)
  | succ fc jx =>
   intro fH fj h
   replace h : GC (yL a0 U fc) a0 U fH fj = some r := h
   refine dX dc (fun fk dy dv bE => ?_)
   refine aL dv (fun hD ea er cP => ?_)
   refine ws _ ?_
   refine aV h (fun eT h => ?_) (fun eT h => ?_)
   ·simp only [eT, ak.down]
    refine aY (ea _ (.inl ?_))
    refine aL dv (fun eU cq cw cr => ?_)
    refine bL cw (fun ir e_ gf iT fe => ?_)
    obtain ⟨ag, ee, h⟩ := aF h
    obtain ⟨al, ei, h⟩ := aF h
    refine h2 (And.intro ee ei) _ ?_
    obtain ⟨aS, cg, h⟩ := aF h
    obtain ⟨qP, dT, h⟩ := aF h
    (try simp only [List.length_append, List.length_cons, List.length_nil, List.length_map, List.length_replicate, Nat.zero_add, Nat.add_zero, Nat.reduceAdd] at dT)
    refine Uj rfl (gm [(0, .slice (a0.map dF)), (1, .slice (U.map a1)), (5, .ao 3 ((fH ++ [(bM.mk al.dG al.Part aS)]).map cC)), (6, .int .i64 fj)] (fun P ai => ?_) ?_)
    ·simp only [c7.down, simprocAttr, Dx.down, @F5 aD 82 [(2, 0), (2, 1), (46, 2)] [(.int .i64 0), (.int .i64 0), .bp] rfl rfl (by kernel_rfl), A0, vB, sY, vC, en, mY, List.nil_append, List.cons_append, @vA aD 31 82 1 3 [(.agg [(.int .i64 0), (.int .i64 0), .bp])] rfl rfl rfl (by kernel_rfl), sX, @mV aD 31 31 82 rfl rfl, mW, mX, all_cons, all_nil, dT, @lp _ cC 3 (fun _ => rfl)]
     refine h0 (awI al.cF _ cg) rfl rfl rfl rfl (.inl (by rfl)) ?_
     simp only [c7.down, simprocAttr, Dx.down, @F5 aD 82 [(2, 0), (2, 1), (46, 2)] [(.int .i64 0), (.int .i64 0), .bp] rfl rfl (by kernel_rfl), A0, vB, sY, vC, en, mY, List.nil_append, List.cons_append, @vA aD 31 82 1 3 [(.agg [(.int .i64 0), (.int .i64 0), .bp])] rfl rfl rfl (by kernel_rfl), sX, @mV aD 31 31 82 rfl rfl, mW, mX, all_cons, all_nil, dT, @lp _ cC 3 (fun _ => rfl)]
     refine ⟨fY (by kernel_rfl), ?_⟩
     (try simp only [bh.down, simprocAttr, a1, dF, cC, @F5 aD 82 [(2, 0), (2, 1), (46, 2)] [(.int .i64 0), (.int .i64 0), .bp] rfl rfl (by kernel_rfl), A0, vB, sY, vC, en, mY, List.nil_append, List.cons_append, @vA aD 31 82 1 3 [(.agg [(.int .i64 0), (.int .i64 0), .bp])] rfl rfl rfl (by kernel_rfl), sX, @mV aD 31 31 82 rfl rfl, mW, mX, all_cons, all_nil, dT, @lp _ cC 3 (fun _ => rfl)] at ai ⊢); exact ai
    refine e_ _ (cq _ (.inl ?_))
    refine wr [(0, .slice (a0.map dF)), (1, .slice (U.map a1)), (5, .ao 3 ((fH ++ [(bM.mk al.dG al.Part aS)]).map cC)), (6, .int .i64 (IntKind.i64.wrap (fj + 1)))] ?_
    exact dy _ (.inr ⟨_, bu rfl, jx (fH ++ [(bM.mk al.dG al.Part aS)]) (IntKind.i64.wrap (fj + 1)) h⟩)
   ·simp only [eT, ak.down]
    refine dV (cP 0 _ (bE 0 _ (b2 _ (gD _ (.inl ?_)))))
    refine ws _ ?_
    exact aE (an _ (.inl (aG [.ao 3 (fH.map cC)])))
 obtain ⟨n, h⟩ := dQ h
 exact dW (.inr ⟨_, bu rfl, jw n [] 0 h⟩)
theorem awK (a0 : eo) (U : List bM) (a7 : List Int) (r : (List bM) × Int) (h : Ca a0 U a7 = some r) : bm aD 24 [hp a0, .slice (U.map dF), .slice (a7.map a1)] (.tuple [.ao 3 (r.1.map cC), .int .i64 r.2]) [] := by
 refine bX [0, 1, 2] [.tmp 6, .tmp 7] Tryz.func24 tL (fun bT an bS => ?_)
 refine ws _ ?_
 refine aL an (fun ef bU bj al => ?_)
 obtain ⟨ag, cS, h⟩ := aF h
 rcases fm h with ⟨b2, h⟩ | ⟨b2, h⟩
 ·refine cN (bY [(1, .slice (U.map dF)), (2, .slice (a7.map a1)), (14, .bool true)] (fun P ai => ?_) ?_)
  ·refine eC (O3 a0 _ cS) rfl rfl (by simp only [aN.down, simprocAttr, p2.down, (cV b2), fV, fW, fX, dj, @bR _ bC bC (fun _ => tH _), @bR _ fp fp (fun _ => tI _), @bR _ bx bx (fun _ => l9 _), @bR _ bG bG (fun _ => ie _), @bR _ bG bG (fun _ => ie _)] <;> rfl) rfl (.inr (by rfl)) ?_
   simp only [aN.down, simprocAttr, p2.down, (cV b2)]
   (try simp only [bh.down, simprocAttr, p2.down, (cV b2)] at ai ⊢); exact ai
  refine iZ rfl ?_
  refine ws _ ?_
  exact aE (bj _ (.inr ⟨[(6, .ao 3 []), (7, .int .i64 1)], nv [] rfl (nx (t := 6) (d := .bp) rfl rfl (.kY _) (by decide) (kl rfl (nw))), aG [.ao 3 [], .int .i64 1]⟩))
 ·obtain ⟨al, bV, h⟩ := aF h
  refine cN (bY [(1, .slice (U.map dF)), (2, .slice (a7.map a1)), (14, .bool (!al))] (fun P ai => ?_) ?_)
  ·refine eC (O3 a0 _ cS) rfl rfl (by simp only [aN.down, simprocAttr, p2.down, (bn b2), fV, fW, fX, dj, @bR _ bC bC (fun _ => tH _), @bR _ fp fp (fun _ => tI _), @bR _ bx bx (fun _ => l9 _), @bR _ bG bG (fun _ => ie _), @bR _ bG bG (fun _ => ie _)] <;> rfl) rfl (.inr (by rfl)) ?_
   simp only [aN.down, simprocAttr, p2.down, (bn b2)]
   refine hN (awG a0 U _ bV) rfl rfl (by simp only [aN.down, simprocAttr, p2.down, (bn b2), fV, fW, fX, dj, @bR _ bC bC (fun _ => tH _), @bR _ fp fp (fun _ => tI _), @bR _ bx bx (fun _ => l9 _), @bR _ bG bG (fun _ => ie _), @bR _ bG bG (fun _ => ie _)] <;> rfl) rfl (.inr (by rfl)) ?_
   simp only [aN.down, simprocAttr, p2.down, (bn b2)]
   (try simp only [bh.down, simprocAttr, p2.down, (bn b2)] at ai ⊢); exact ai
  refine aV h (fun bw h => ?_) (fun bw h => ?_)
  ·simp only [(cV bw), ak.down]
   refine ws _ ?_
   exact aE (bj _ (.inr ⟨[(6, .ao 3 []), (7, .int .i64 1)], nv [] rfl (nx (t := 6) (d := .bp) rfl rfl (.kY _) (by decide) (kl rfl (nw))), aG [.ao 3 [], .int .i64 1]⟩))
  ·simp only [(bn bw), ak.down]
   refine aY (bU _ (.inl ?_))
   refine aL an (fun eU cq cw cr => ?_)
   obtain ⟨aS, ey, h⟩ := aF h
   refine dC (awH a7 (U.length : Int) _ ey) _ ?_
   refine aV h (fun dY h => ?_) (fun dY h => ?_)
   ·simp only [(cV dY), ak.down]
    refine ws _ ?_
    exact aE (cw _ (.inr ⟨[(6, .ao 3 []), (7, .int .i64 2)], nv [] rfl (nx (t := 6) (d := .bp) rfl rfl (.kY _) (by decide) (kl rfl (nw))), aG [.ao 3 [], .int .i64 2]⟩))
   ·simp only [(bn dY), ak.down]
    refine aY (cq _ (.inl ?_))
    obtain ⟨bs, cg, h⟩ := aF h
    refine dC (awJ U a7 _ cg) _ ?_
    exact aE (an _ (.inl (aG [.ao 3 (bs.map cC), .int .i64 0])))
theorem kq (a0 : Int) (U : Int) (a7 : Int) (r : Bool) (h : jQ a0 U a7 = some r) : bm aD 106 [.int .i64 a0, .int .i64 U, .int .i64 a7] (.bool r) [] := by
 refine bX [0, 1, 2] [.tmp 6] Tryz.func106 ag7 (fun bT an bS => ?_)
 refine ws _ ?_
 refine cN (bY [(6, .bool ((decide (U ≤ a0)) && (decide (a0 ≤ a7))))] (fun P ai => ?_) ?_)
 ·rcases Bool.eq_false_or_eq_true (decide (U ≤ a0)) with fo | fo
  ·simp only [aN.down, simprocAttr, fo]
   (try simp only [bh.down, simprocAttr, fo] at ai ⊢); exact ai
  ·simp only [aN.down, simprocAttr, fo]
   (try simp only [bh.down, simprocAttr, fo] at ai ⊢); exact ai
 exact aE (an _ (.inl (aG [.bool ((decide (U ≤ a0)) && (decide (a0 ≤ a7)))])))
theorem awL (a0 : bk) (r : Bool) (h : GD a0 = some r) : bm aD 255 [bC a0] (.bool r) [] := by
 refine bX [0] [.tmp 2] Tryz.func255 ag_ (fun bT an bS => ?_)
 refine ws _ ?_
 obtain ⟨ag, aW, h⟩ := aF h
 refine dC (kq a0.dw 0 3 _ aW) _ ?_
 exact aE (an _ (.inl (aG [.bool (!ag)])))
theorem awM (a0 : List bk) (r : Int) (h : GF a0 = some r) : bm aD 257 [.slice (a0.map bC), .fn 255 []] (.int .i64 r) [] := by
 refine bX [0, 1] [.tmp 4] Tryz.func257 ahk (fun bT an bS => ?_)
 refine ws _ ?_
 refine aL an (fun ef bU bj al => ?_)
 refine ws _ ?_
 refine bL bj (fun eb eI ch bt bs => ?_)
 have fA : ∀ (n : Nat) (cX : Int), vY a0 n cX = some r → dE aD NT eb (aa [(0, .slice (a0.map bC)), (1, .fn 255 []), (7, .int .i64 (a0.length : Int)), (8, .int .i64 cX)]) := by
  intro cB
  induction cB with
  | zero => intro cX h; cases (show none = some r from h)
  | succ cB ft =>
   intro cX h
   replace h : Cb (vY a0 cB) a0 cX = some r := h
   refine dX ch (fun hr ep dc bH => ?_)
   refine ws _ ?_
   refine aL dc (fun hD ea er cP => ?_)
   refine aV h (fun bw h => ?_) (fun bw h => ?_)
   ·simp only [bw, ak.down]
    refine aY (ea _ (.inl ?_))
    refine aL dc (fun ev cQ cj di => ?_)
    refine bL cj (fun eU cq cw cR cr => ?_)
    refine ws _ ?_
    obtain ⟨ag, ee, h⟩ := aF h
    obtain ⟨al, ei, h⟩ := aF h
    refine h3 ee (awL ag _ ei) _ ?_
    refine aV h (fun dx h => ?_) (fun dx h => ?_)
    ·simp only [dx, ak.down]
     refine ws _ ?_
     exact aE (cw _ (.inl (aG [.int .i64 cX])))
    ·simp only [dx, ak.down]
     refine aY (cq _ (cQ _ (.inl ?_)))
     refine wr _ ?_
     exact ep _ (.inr ⟨_, bu rfl, ft (IntKind.i64.wrap (cX + 1)) h⟩)
   ·simp only [bw, ak.down]
    refine dV (cP 0 _ (bH 0 _ (bt _ (bU _ (.inl ?_)))))
    refine ws _ ?_
    exact aE (an _ (.inl (aG [.int .i64 (-1)])))
 obtain ⟨n, h⟩ := dQ h
 exact dW (.inr ⟨_, bu rfl, fA n 0 h⟩)
theorem awN (a0 : List bk) (r : Bool) (h : GG a0 = some r) : bm aD 254 [.slice (a0.map bC), .fn 255 []] (.bool r) [] := by
 refine bX [0, 1] [.tmp 4] Tryz.func254 ahn (fun bT an bS => ?_)
 refine ws _ ?_
 obtain ⟨ag, aW, h⟩ := aF h
 refine dC (awM a0 _ aW) _ ?_
 exact aE (an _ (.inl (aG [.bool (decide (0 ≤ ag))])))
theorem awO (a0 : List bk) (r : Bool) (h : Cc a0 = some r) : bm aD 208 [.slice (a0.map bC)] (.bool r) [] := by
 refine bX [0] [.tmp 2] Tryz.func208 ahq (fun bT an bS => ?_)
 refine ws _ ?_
 obtain ⟨ag, aW, h⟩ := aF h
 refine dC (awN a0 _ aW) _ ?_
 exact aE (an _ (.inl (aG [.bool (!ag)])))
theorem awP (a0 : UInt8) (r : Bool) (h : GH a0 = some r) : bm aD 256 [.int .u8 (a0.toNat : Int)] (.bool r) [] := by
 refine bX [0] [.tmp 2] Tryz.func256 aht (fun bT an bS => ?_)
 refine ws _ ?_
 refine cN (bY [(2, .bool ((decide (48 ≤ (a0.toNat : Int))) && (decide ((a0.toNat : Int) ≤ 57))))] (fun P ai => ?_) ?_)
 ·rcases Bool.eq_false_or_eq_true (decide (48 ≤ (a0.toNat : Int))) with fo | fo
  ·simp only [aN.down, simprocAttr, fo]
   (try simp only [bh.down, simprocAttr, fo] at ai ⊢); exact ai
  ·simp only [aN.down, simprocAttr, fo]
   (try simp only [bh.down, simprocAttr, fo] at ai ⊢); exact ai
 exact aE (an _ (.inl (aG [.bool ((decide (48 ≤ (a0.toNat : Int))) && (decide ((a0.toNat : Int) ≤ 57)))])))
theorem DO (a0 : List UInt8) (r : Bool) (h : yN a0 = some r) : bm aD 209 [.str a0] (.bool r) [] := by
 refine bX [0] [.tmp 2] Tryz.func209 ahF (fun bT an bS => ?_)
 refine ws _ ?_
 refine aL an (fun ef bU bj al => ?_)
 refine ws _ ?_
 refine bL bj (fun eb eI ch bt bs => ?_)
 have fA : ∀ (n : Nat) (e2 : Int), qG a0 n e2 = some r → dE aD NU eb (aa [(0, .str a0), (6, .int .i64 (a0.length : Int)), (7, .int .i64 e2)]) := by
  intro cB
  induction cB with
  | zero => intro e2 h; cases (show none = some r from h)
  | succ cB ft =>
   intro e2 h
   replace h : yM (qG a0 cB) a0 e2 = some r := h
   refine dX ch (fun hr ep dc bH => ?_)
   refine ws _ ?_
   refine aL dc (fun hD ea er cP => ?_)
   refine aV h (fun bw h => ?_) (fun bw h => ?_)
   ·simp only [bw, ak.down]
    refine aY (ea _ (.inl ?_))
    refine aL dc (fun ev cQ cj di => ?_)
    refine bL cj (fun eU cq cw cR cr => ?_)
    refine ws _ ?_
    obtain ⟨ag, ee, h⟩ := aF h
    refine cN (bY [(0, .str a0), (3, .int .i64 e2), (4, .bool ((decide (97 ≤ (ag.toNat : Int))) && (decide ((ag.toNat : Int) ≤ 122)))), (6, .int .i64 (a0.length : Int)), (7, .int .i64 e2)] (fun P ai => ?_) ?_)
    ·rcases Bool.eq_false_or_eq_true (decide (97 ≤ (ag.toNat : Int))) with ou | ou
     ·simp only [aN.down, simprocAttr, e0, ee, ou]
      (try simp only [bh.down, simprocAttr, ee, ou] at ai ⊢); exact ai
     ·simp only [aN.down, simprocAttr, e0, ee, ou]
      (try simp only [bh.down, simprocAttr, ee, ou] at ai ⊢); exact ai
    rcases fm h with ⟨j9, h⟩ | ⟨j9, h⟩
    ·rcases fm h with ⟨hJ, h⟩ | ⟨hJ, h⟩
     ·refine h2 (And.intro j9 hJ) _ ?_
      refine iZ rfl ?_
      refine ws _ ?_
      exact aE (cw _ (.inl (aG [.bool false])))
     ·obtain ⟨al, g2, h⟩ := aF h
      refine cN (bY [(0, .str a0), (6, .int .i64 (a0.length : Int)), (7, .int .i64 e2), (32, .bool (!al))] (fun P ai => ?_) ?_)
      ·simp only [aN.down, simprocAttr, e0, j9, hJ, ee]
       refine hN (awP ag _ g2) rfl rfl rfl rfl (.inl (by rfl)) ?_
       simp only [aN.down, simprocAttr, e0, j9, hJ, ee]
       (try simp only [bh.down, simprocAttr, j9, hJ, ee] at ai ⊢); exact ai
      refine aV h (fun ew h => ?_) (fun ew h => ?_)
      ·simp only [(cV ew), ak.down]
       refine ws _ ?_
       exact aE (cw _ (.inl (aG [.bool false])))
      ·simp only [(bn ew), ak.down]
       refine aY (cq _ (cQ _ (.inl ?_)))
       refine wr _ ?_
       exact ep _ (.inr ⟨_, bu rfl, ft (IntKind.i64.wrap (e2 + 1)) h⟩)
    ·refine h2 j9 _ ?_
     refine rF rfl ?_
     refine aY (cq _ (cQ _ (.inl ?_)))
     refine wr _ ?_
     exact ep _ (.inr ⟨_, bu rfl, ft (IntKind.i64.wrap (e2 + 1)) h⟩)
   ·simp only [bw, ak.down]
    refine dV (cP 0 _ (bH 0 _ (bt _ (bU _ (.inl ?_)))))
    refine cN (bY [(2, .bool ((decide (1 ≤ (a0.length : Int))) && (decide ((a0.length : Int) ≤ 10))))] (fun P ai => ?_) ?_)
    ·rcases Bool.eq_false_or_eq_true (decide (1 ≤ (a0.length : Int))) with tJ | tJ
     ·simp only [aN.down, simprocAttr, e0, tJ]
      (try simp only [bh.down, simprocAttr, tJ] at ai ⊢); exact ai
     ·simp only [aN.down, simprocAttr, e0, tJ]
      (try simp only [bh.down, simprocAttr, tJ] at ai ⊢); exact ai
    exact aE (an _ (.inl (aG [.bool ((decide (1 ≤ (a0.length : Int))) && (decide ((a0.length : Int) ≤ 10)))])))
 obtain ⟨n, h⟩ := dQ h
 exact dW (.inr ⟨_, bu rfl, fA n 0 h⟩)
theorem awQ (a0 : bk) (U : List UInt8) (r : Bool) (h : GI a0 U = some r) : bm aD 258 [bC a0, .ref (.str U)] (.bool r) [] := by
 refine bX [0, 1] [.tmp 3] Tryz.func258 ahI (fun bT an bS => ?_)
 refine ws _ ?_
 refine ws _ ?_
 exact aE (an _ (.inl (aG [.bool (a0.Name == U)])))
theorem awR (a0 : List bk) (U : List UInt8) (r : Int) (h : GJ a0 U = some r) : bm aD 257 [.slice (a0.map bC), .fn 258 [.ref (.str U)]] (.int .i64 r) [] := by
 refine bX [0, 1] [.tmp 4] Tryz.func257 ahT (fun bT an bS => ?_)
 refine ws _ ?_
 refine aL an (fun ef bU bj al => ?_)
 refine ws _ ?_
 refine bL bj (fun eb eI ch bt bs => ?_)
 have fA : ∀ (n : Nat) (cX : Int), vZ a0 U n cX = some r → dE aD NV eb (aa [(0, .slice (a0.map bC)), (1, .fn 258 [.ref (.str U)]), (7, .int .i64 (a0.length : Int)), (8, .int .i64 cX)]) := by
  intro cB
  induction cB with
  | zero => intro cX h; cases (show none = some r from h)
  | succ cB ft =>
   intro cX h
   replace h : Cd (vZ a0 U cB) a0 U cX = some r := h
   refine dX ch (fun hr ep dc bH => ?_)
   refine ws _ ?_
   refine aL dc (fun hD ea er cP => ?_)
   refine aV h (fun bw h => ?_) (fun bw h => ?_)
   ·simp only [bw, ak.down]
    refine aY (ea _ (.inl ?_))
    refine aL dc (fun ev cQ cj di => ?_)
    refine bL cj (fun eU cq cw cR cr => ?_)
    refine ws _ ?_
    obtain ⟨ag, ee, h⟩ := aF h
    obtain ⟨al, ei, h⟩ := aF h
    refine h3 ee (awQ ag U _ ei) _ ?_
    refine aV h (fun dx h => ?_) (fun dx h => ?_)
    ·simp only [dx, ak.down]
     refine ws _ ?_
     exact aE (cw _ (.inl (aG [.int .i64 cX])))
    ·simp only [dx, ak.down]
     refine aY (cq _ (cQ _ (.inl ?_)))
     refine wr _ ?_
     exact ep _ (.inr ⟨_, bu rfl, ft (IntKind.i64.wrap (cX + 1)) h⟩)
   ·simp only [bw, ak.down]
    refine dV (cP 0 _ (bH 0 _ (bt _ (bU _ (.inl ?_)))))
    refine ws _ ?_
    exact aE (an _ (.inl (aG [.int .i64 (-1)])))
 obtain ⟨n, h⟩ := dQ h
 exact dW (.inr ⟨_, bu rfl, fA n 0 h⟩)
theorem awS (a0 : List bk) (U : List UInt8) (r : Int) (h : Ce a0 U = some r) : bm aD 210 [.slice (a0.map bC), .str U] (.int .i64 r) [] := by
 refine bX [0, 1] [.tmp 4] Tryz.func210 ahW (fun bT an bS => ?_)
 refine ws _ ?_
 obtain ⟨ag, aW, h⟩ := aF h
 refine cN (bY [(4, .int .i64 ag)] (fun P ai => ?_) ?_)
 ·simp only [aN.down, simprocAttr, iq.down]
  refine eC (awR a0 U _ aW) rfl rfl (by simp only [aN.down, simprocAttr, iq.down, fV, fW, fX, dj] <;> rfl) rfl (.inr (by rfl)) ?_
  simp only [aN.down, simprocAttr, iq.down]
  (try simp only [bh.down, simprocAttr, iq.down] at ai ⊢); exact ai
 exact aE (an _ (.inl (aG [.int .i64 ag])))
theorem O4 (a0 : bJ) (r : Int) (h : yP a0 = some r) : bm aD 188 [cG a0] (.int .i64 r) [] := by
 refine bX [0] [.tmp 2] Tryz.func188 ah9 (fun bT an bS => ?_)
 refine ws _ ?_
 refine aL an (fun ef bU bj al => ?_)
 refine ws _ ?_
 refine bL bj (fun eb eI ch bt bs => ?_)
 have tU : ∀ (cK : Bool), yO a0 cK = some r → df aD NW eb (aa [(4, .int .i64 a0.Kind), (5, .bool cK)]) := by
  intro cK h
  refine aV h (fun dd h => ?_) (fun dd h => ?_)
  ·simp only [dd, ak.down]
   refine ws _ ?_
   exact aE (ch _ (.inl (aG [.int .i64 1])))
  ·simp only [dd, ak.down]
   refine ws _ ?_
   refine aV h (fun eT h => ?_) (fun eT h => ?_)
   ·simp only [eT, ak.down]
    refine ws _ ?_
    exact aE (ch _ (.inl (aG [.int .i64 2])))
   ·simp only [eT, ak.down]
    refine aY (eI _ (bU _ (.inl ?_)))
    refine ws _ ?_
    exact aE (an _ (.inl (aG [.int .i64 0])))
 refine aL ch (fun hr ep dc bH => ?_)
 refine ws _ ?_
 refine aV h (fun dY h => ?_) (fun dY h => ?_)
 ·simp only [dY, ak.down]
  exact aY (ep _ (.inr ⟨_, bu rfl, tU true h⟩))
 ·simp only [dY, ak.down]
  refine ws _ ?_
  refine aV h (fun dx h => ?_) (fun dx h => ?_)
  ·simp only [dx, ak.down]
   exact aY (ep _ (.inr ⟨_, bu rfl, tU true h⟩))
  ·simp only [dx, ak.down]
   refine wr _ ?_
   exact ep _ (.inr ⟨_, bu rfl, tU (a0.Kind == 4) h⟩)
theorem awT (a0 : bk) (U : Int) (r : Int) (h : Cg a0 U = some r) : bm aD 165 [bC a0, .int .i64 U] (.int .i64 r) [] := by
 refine bX [0] [.tmp 4] Tryz.func165 aik (fun bT an bS => ?_)
 refine ws _ ?_
 refine aL an (fun ef bU bj al => ?_)
 refine ws _ ?_
 refine bL bj (fun eb eI ch bt bs => ?_)
 have fA : ∀ (n : Nat) (aT : Int) (aJ : Int), ti a0 n aT aJ = some r → dE aD NX eb (aa [(1, .int .i64 aT), (2, .bb (bC a0)), (5, .int .i64 aJ)]) := by
  intro cB
  induction cB with
  | zero => intro aT aJ h; cases (show none = some r from h)
  | succ cB ft =>
   intro aT aJ h
   replace h : Cf (ti a0 cB) a0 aT aJ = some r := h
   refine dX ch (fun hr ep dc bH => ?_)
   refine aL dc (fun fk dy dv bE => ?_)
   refine ws _ ?_
   refine aV h (fun bw h => ?_) (fun bw h => ?_)
   ·simp only [bw, ak.down]
    refine aY (dy _ (.inl ?_))
    refine aL dc (fun ev cQ cj di => ?_)
    refine bL cj (fun eU cq cw cR cr => ?_)
    refine aL cw (fun ir e_ gf fe => ?_)
    refine ws _ ?_
    refine aV h (fun dY h => ?_) (fun dY h => ?_)
    ·simp only [dY, ak.down]
     refine ws _ ?_
     exact aE (gf _ (.inl (aG [.int .i64 (-1)])))
    ·simp only [dY, ak.down]
     refine aY (e_ _ (.inl ?_))
     obtain ⟨ag, cg, h⟩ := aF h
     obtain ⟨al, dT, h⟩ := aF h
     refine Hi cg (O4 ag _ dT) _ ?_
     refine cq _ (cQ _ (.inl ?_))
     refine wr _ ?_
     exact ep _ (.inr ⟨_, bu rfl, ft (IntKind.i64.wrap (aT + 1)) (IntKind.i64.wrap (aJ + (IntKind.i64.wrap (al - 1)))) h⟩)
   ·simp only [bw, ak.down]
    refine dV (bE 0 _ (bH 0 _ (bt _ (bU _ (.inl ?_)))))
    refine ws _ ?_
    exact aE (an _ (.inl (aG [.int .i64 aT])))
 obtain ⟨n, h⟩ := dQ h
 exact dW (.inr ⟨_, bu rfl, fA n U 1 h⟩)
theorem awU (l8 : Int → cM → (List cM) → bk → Option (Int × (List cM))) (awV : ∀ (a0 : Int) (U : cM) (a7 : List cM) (a3 : bk) (r : Int × (List cM)), l8 a0 U a7 a3 = some r → my aD 187 2 4 [.int .i64 a0, d_ U, .bb (.ao 2 (a7.map d_)), .ref (bC a3), .ref (.hole)] (.int .i64 r.1) [.hole, .hole, .bb (.ao 2 (r.2.map d_)), .hole, .hole]) (a0 : Int) (U : cM) (a7 : List cM) (a3 : bk) (r : Int × (List cM)) (h : GK l8 a0 U a7 a3 = some r) : my aD 187 2 4 [.int .i64 a0, d_ U, .bb (.ao 2 (a7.map d_)), .ref (bC a3), .ref (.hole)] (.int .i64 r.1) [.hole, .hole, .bb (.ao 2 (r.2.map d_)), .hole, .hole] := by
 refine my.Gv (fx := [0, 1, 2, 3, 4]) Gw [.tmp 7] [(0, .int .i64 a0), (1, d_ U), (2, .bb (.ao 2 (a7.map d_))), (3, .ref (bC a3)), (4, .ref (.hole))] Tryz.func187 rfl rfl aiy (Nat.le_of_ble_eq_true rfl) aix rfl rfl (fun bT an bS => ?_)
 refine ws _ ?_
 obtain ⟨ag, aW, h⟩ := aF h
 refine cN (bY [(0, .int .i64 a0), (2, .bb (.ao 2 ((List.set a7 (Int.toNat a0) U).map d_))), (3, .ref (bC a3)), (4, .ref (.hole)), (6, .bb (d_ U))] (fun P ai => ?_) ?_)
 ·simp only [aN.down, simprocAttr, eG, oe, pZ, s4, bC, cG, cf, d_, eS, aW, c3 aW, en, dZ]
  (try simp only [bh.down, simprocAttr, nM.down, aW, c3 aW, en, dZ] at ai ⊢); exact ai
 obtain ⟨al, cZ, h⟩ := aF h
 refine h2 cZ [(0, .int .i64 a0), (2, .bb (.ao 2 ((List.set a7 (Int.toNat a0) U).map d_))), (3, .ref (bC a3)), (4, .ref (.hole)), (6, .bb (d_ U)), (8, .bb (cG al))] ?_
 refine h2 (show ∀ s, fw aD s 183 [(0, .int .i64 U.scope), (1, .bool (al.Kind == 1))] = some (.agg [.int .i64 U.scope, .bool (al.Kind == 1)], s) from fun s => by kernel_rfl) [(0, .int .i64 a0), (2, .bb (.ao 2 ((List.set a7 (Int.toNat a0) U).map d_))), (3, .ref (bC a3)), (4, .ref (.hole)), (8, .bb (cG al)), (9, .bb (.agg [.int .i64 U.scope, .bool (al.Kind == 1)]))] ?_
 have O5 : ∀ (k6 : Int), Ci l8 a0 U a7 a3 al k6 = some r → df aD NZ bT (aa [(0, .int .i64 a0), (2, .bb (.ao 2 ((List.set a7 (Int.toNat a0) U).map d_))), (3, .ref (bC a3)), (4, .ref (.hole)), (8, .bb (cG al)), (9, .bb (.agg [.int .i64 k6, .bool (al.Kind == 1)]))]) := by
  intro k6 h
  refine ws [(2, .bb (.ao 2 ((List.set a7 (Int.toNat a0) U).map d_))), (3, .ref (bC a3)), (4, .ref (.hole)), (8, .bb (cG al)), (9, .bb (.agg [.int .i64 k6, .bool (al.Kind == 1)])), (10, .int .i64 (IntKind.i64.wrap (a0 + 1)))] ?_
  refine aL an (fun ev cQ cj di => ?_)
  obtain ⟨aS, nU, h⟩ := aF h
  refine dC (O4 al _ nU) [(2, .bb (.ao 2 ((List.set a7 (Int.toNat a0) U).map d_))), (3, .ref (bC a3)), (4, .ref (.hole)), (9, .bb (.agg [.int .i64 k6, .bool (al.Kind == 1)])), (10, .int .i64 (IntKind.i64.wrap (a0 + 1))), (36, .int .i64 aS), (37, .int .i64 0)] ?_
  refine bL cj (fun j8 hc iV dr je => ?_)
  have awW : ∀ (n : Nat) (o_ : List cM) (nG : Int) (ot : Int), rR l8 a3 k6 al aS n o_ nG ot = some r → dE aD NY j8 (aa [(2, .bb (.ao 2 (o_.map d_))), (3, .ref (bC a3)), (4, .ref (.hole)), (9, .bb (.agg [.int .i64 k6, .bool (al.Kind == 1)])), (10, .int .i64 nG), (36, .int .i64 aS), (37, .int .i64 ot)]) := by
   intro HL
   induction HL with
   | zero => intro o_ nG ot h; cases (show none = some r from h)
   | succ HL awX =>
    intro o_ nG ot h
    replace h : Ch l8 (rR l8 a3 k6 al aS HL) a3 k6 al aS o_ nG ot = some r := h
    refine dX iV (fun ly hb gR jt => ?_)
    refine ws _ ?_
    refine aL gR (fun lS hE hj ju => ?_)
    refine aV h (fun j9 h => ?_) (fun j9 h => ?_)
    ·simp only [j9, ak.down]
     refine aY (hE _ (.inl ?_))
     refine aL gR (fun ox jU jg lR => ?_)
     refine bL jg (fun HE tX tY fz qK => ?_)
     obtain ⟨bs, iW, h⟩ := aF h
     refine U3 [(2, .bb (.ao 2 (bs.2.map d_))), (3, .ref (bC a3)), (4, .ref (.hole)), (9, .bb (.agg [.int .i64 k6, .bool (al.Kind == 1)])), (10, .int .i64 bs.1), (36, .int .i64 aS), (37, .int .i64 ot)] (fun P ai => ?_) ?_
     ·simp only [aN.down, simprocAttr, Hj.down, o7]
      refine LX [⟨.int .i64 nG, false, _, .hole⟩, ⟨.agg [.int .i64 k6, .bool (al.Kind == 1)], false, _, .hole⟩, ⟨.h 2 [], true, _, _⟩, ⟨.ref (bC a3), false, _, .hole⟩, ⟨.ref (.hole), false, _, .hole⟩] (awV nG (cM.mk k6 (al.Kind == 1)) o_ a3 _ iW) rfl (by simp only [aN.down, simprocAttr, Hj.down, o7, mZ, lq, ja, fV, fW, fX, dj, or_true, true_or, @bR _ d_ d_ (fun _ => Na _)]) rfl rfl (.inl rfl) ?_
      simp only [aN.down, simprocAttr, Hj.down, o7, lr]
      (try simp only [bh.down, simprocAttr, nM.down, o7] at ai ⊢); exact ai
     refine tX _ (jU _ (.inl ?_))
     refine wr _ ?_
     exact hb _ (.inr ⟨_, bu rfl, awX bs.2 bs.1 (IntKind.i64.wrap (ot + 1)) h⟩)
    ·simp only [j9, ak.down]
     refine dV (ju 0 _ (jt 0 _ (dr _ (cQ _ (.inl ?_)))))
     refine ws _ ?_
     exact aE (an _ (.inl (oc [.int .i64 nG] rfl (by cases jK h; rfl) (by decide) (o4 (m0 (m0 (o5 (by cases jK h; rfl) rfl rfl rfl (m0 (m0 (o6))))))))))
  obtain ⟨n, h⟩ := dQ h
  exact dW (.inr ⟨_, bu rfl, awW n (List.set a7 (Int.toNat a0) U) (IntKind.i64.wrap (a0 + 1)) 0 h⟩)
 refine aL an (fun hD ea er cP => ?_)
 refine ws [(0, .int .i64 a0), (2, .bb (.ao 2 ((List.set a7 (Int.toNat a0) U).map d_))), (3, .ref (bC a3)), (4, .ref (.hole)), (8, .bb (cG al)), (9, .bb (.agg [.int .i64 U.scope, .bool (al.Kind == 1)])), (28, .bool (al.Kind == 4))] ?_
 refine aV h (fun ig h => ?_) (fun ig h => ?_)
 ·simp only [ig, ak.down]
  refine wr [(0, .int .i64 a0), (2, .bb (.ao 2 ((List.set a7 (Int.toNat a0) U).map d_))), (3, .ref (bC a3)), (4, .ref (.hole)), (8, .bb (cG al)), (9, .bb (.agg [.int .i64 (IntKind.i64.wrap (U.scope + 1)), .bool (al.Kind == 1)]))] ?_
  exact ea _ (.inr ⟨_, bu rfl, O5 (IntKind.i64.wrap (U.scope + 1)) h⟩)
 ·simp only [ig, ak.down]
  exact aY (ea _ (.inr ⟨_, bu rfl, O5 U.scope h⟩))
theorem awY : ∀ (n : Nat) (a0 : Int) (U : cM) (a7 : List cM) (a3 : bk) (r : Int × (List cM)), tj n a0 U a7 a3 = some r → my aD 187 2 4 [.int .i64 a0, d_ U, .bb (.ao 2 (a7.map d_)), .ref (bC a3), .ref (.hole)] (.int .i64 r.1) [.hole, .hole, .bb (.ao 2 (r.2.map d_)), .hole, .hole] := by
 intro n
 induction n with
 | zero => intro a0 U a7 a3 r h; cases (show none = some r from h)
 | succ n ih => intro a0 U a7 a3 r h; exact awU (tj n) ih a0 U a7 a3 r h
theorem awZ (a0 : Int) (U : cM) (a7 : List cM) (a3 : bk) (r : Int × (List cM)) (h : Cj a0 U a7 a3 = some r) : my aD 187 2 4 [.int .i64 a0, d_ U, .bb (.ao 2 (a7.map d_)), .ref (bC a3), .ref (.hole)] (.int .i64 r.1) [.hole, .hole, .bb (.ao 2 (r.2.map d_)), .hole, .hole] := by
 obtain ⟨n, h⟩ := dQ h
 exact awY n a0 U a7 a3 r h
theorem HM (a0 : bk) (r : (List cM)) (h : v7 a0 = some r) : bm aD 141 [bC a0] (.ao 2 (r.map d_)) [] := by
 refine bm.VK (fx := [0]) Gw [.tmp 2] [(0, bC a0)] Tryz.func141 rfl rfl aiD (Nat.le_of_ble_eq_true rfl) aiC rfl rfl (fun bT an bS => ?_)
 refine ws _ ?_
 obtain ⟨EV, aW, h⟩ := aF h
 refine cN (bY [(1, .bb (bC a0)), (3, .bb (.ao 2 ((List.replicate (Int.toNat (a0.Body.length : Int)) (cM.mk 0 false)).map d_)))] (fun P ai => ?_) ?_)
 ·simp only [aN.down, simprocAttr, eG, oe, e0, jr, kE, gy, gY, h1, pZ, s4, gd, bC, cG, cf, d_, eS, (eA aW).1, (eA aW).2.1, (eA aW).2.2, eQ, List.map_replicate, -Int.reduceNatCast']
  (try simp only [bh.down, simprocAttr, nM.down, (eA aW).1, (eA aW).2.1, (eA aW).2.2, eQ, List.map_replicate, -Int.reduceNatCast'] at ai ⊢); exact ai
 obtain ⟨ag, cZ, h⟩ := aF h
 refine VI [(3, .bb (.ao 2 (ag.2.map d_)))] (fun P ai => ?_) ?_
 ·simp only [aN.down, simprocAttr, Hk.down, (show ∀ s, fw aD s 183 [(0, .int .i64 a0.dw)] = some (.agg [.int .i64 a0.dw, .bool false], s) from fun s => by kernel_rfl), o7]
  refine LX [⟨.int .i64 0, false, _, .hole⟩, ⟨.agg [.int .i64 a0.dw, .bool false], false, _, .hole⟩, ⟨.h 3 [], true, _, _⟩, ⟨.h 1 [], false, _, .hole⟩, ⟨.ref (.hole), false, _, .hole⟩] (awZ 0 (cM.mk a0.dw false) (List.replicate (Int.toNat (a0.Body.length : Int)) (cM.mk 0 false)) a0 _ cZ) rfl (by simp only [aN.down, simprocAttr, Hk.down, (show ∀ s, fw aD s 183 [(0, .int .i64 a0.dw)] = some (.agg [.int .i64 a0.dw, .bool false], s) from fun s => by kernel_rfl), o7, mZ, lq, ja, fV, fW, fX, dj, or_true, true_or, @bR _ d_ d_ (fun _ => Na _), @bR _ cG cG (fun _ => zm _)]) rfl rfl ((.inr (by simp only [qz, I.de, I.hT, Bool.and_self, @kC _ d_ (fun _ => V4 _)]))) ?_
  simp only [aN.down, simprocAttr, Hk.down, (show ∀ s, fw aD s 183 [(0, .int .i64 a0.dw)] = some (.agg [.int .i64 a0.dw, .bool false], s) from fun s => by kernel_rfl), o7, lr]
  (try simp only [bh.down, simprocAttr, nM.down, (show ∀ s, fw aD s 183 [(0, .int .i64 a0.dw)] = some (.agg [.int .i64 a0.dw, .bool false], s) from fun s => by kernel_rfl), o7] at ai ⊢); exact ai
 refine ws _ ?_
 exact aE (an _ (.inl (aG [.ao 2 (ag.2.map d_)])))
theorem aw0 (a0 : bJ) (r : Bool) (h : GL a0 = some r) : bm aD 286 [cG a0] (.bool r) [] := by
 refine bX [0] [.tmp 2] Tryz.func286 aiI (fun bT an bS => ?_)
 refine ws _ ?_
 refine cN (bY [(1, .bb (cG a0)), (3, .bool ((a0.Kind == 4) || (a0.Kind == 5)))] (fun P ai => ?_) ?_)
 ·rcases Bool.eq_false_or_eq_true (a0.Kind == 4) with fo | fo
  ·simp only [aN.down, simprocAttr, ov.down, fo]
   (try simp only [bh.down, simprocAttr, m9.down, fo] at ai ⊢); exact ai
  ·simp only [aN.down, simprocAttr, ov.down, fo]
   (try simp only [bh.down, simprocAttr, m9.down, fo] at ai ⊢); exact ai
 refine cN (bY [(1, .bb (cG a0)), (3, .bool ((a0.Kind == 4) || (a0.Kind == 5))), (4, .bool (((a0.Kind == 1) || (a0.Kind == 3)) || (a0.Kind == 5)))] (fun P ai => ?_) ?_)
 ·(rcases Bool.eq_false_or_eq_true (a0.Kind == 1) with zw | zw) <;> (rcases Bool.eq_false_or_eq_true (a0.Kind == 3) with lU | lU) <;>
   (simp only [aN.down, simprocAttr, ov.down, zw, lU]
    (try simp only [bh.down, simprocAttr, m9.down, zw, lU] at ai ⊢); exact ai)
 obtain ⟨ag, hv, h⟩ := aF h
 refine cN (bY [(2, .bool (((ag && (((a0.Kind == 4) || (a0.Kind == 5)) || (a0.Number == 0))) && ((a0.Kind == 1) || (a0.Name == ([] : List UInt8)))) && ((((a0.Kind == 1) || (a0.Kind == 3)) || (a0.Kind == 5)) || ((a0.cO.length : Int) == 0))))] (fun P ai => ?_) ?_)
 ·(rcases Bool.eq_false_or_eq_true (ag) with m8 | m8) <;> (rcases Bool.eq_false_or_eq_true (a0.Kind == 4) with rY | rY) <;> (rcases Bool.eq_false_or_eq_true (a0.Kind == 5) with wk | wk) <;> (rcases Bool.eq_false_or_eq_true (a0.Number == 0) with wm | wm) <;> (rcases Bool.eq_false_or_eq_true (a0.Kind == 1) with DP | DP) <;> (rcases Bool.eq_false_or_eq_true (a0.Name == ([] : List UInt8)) with ou | ou) <;> (rcases Bool.eq_false_or_eq_true (a0.Kind == 3) with wo | wo) <;>
   (simp only [aN.down, simprocAttr, ov.down, m8, rY, wk, wm, DP, ou, wo]
    refine eC (kq a0.Kind 0 5 _ hv) rfl rfl rfl rfl (.inl (by rfl)) ?_
    simp only [aN.down, simprocAttr, ov.down, m8, rY, wk, wm, DP, ou, wo]
    (try simp only [bh.down, simprocAttr, m9.down, m8, rY, wk, wm, DP, ou, wo] at ai ⊢); exact ai)
 exact aE (an _ (.inl (aG [.bool (((ag && (((a0.Kind == 4) || (a0.Kind == 5)) || (a0.Number == 0))) && ((a0.Kind == 1) || (a0.Name == ([] : List UInt8)))) && ((((a0.Kind == 1) || (a0.Kind == 3)) || (a0.Kind == 5)) || ((a0.cO.length : Int) == 0)))])))
theorem k8 (a0 : List UInt8) (r : Bool) (h : qH a0 = some r) : bm aD 213 [.str a0] (.bool r) [] := by
 refine bX [0] [.tmp 2] Tryz.func213 aiL (fun bT an bS => ?_)
 refine ws _ ?_
 obtain ⟨ag, aW, h⟩ := aF h
 refine cN (bY [(2, .bool (ag && (!(a0 == ([116, 97, 117] : List UInt8)))))] (fun P ai => ?_) ?_)
 ·rcases Bool.eq_false_or_eq_true (ag) with hM | hM
  ·simp only [aN.down, simprocAttr, hM]
   refine eC (DO a0 _ aW) rfl rfl rfl rfl (.inl (by rfl)) ?_
   simp only [aN.down, simprocAttr, hM]
   (try simp only [bh.down, simprocAttr, hM] at ai ⊢); exact ai
  ·simp only [aN.down, simprocAttr, hM]
   refine eC (DO a0 _ aW) rfl rfl rfl rfl (.inl (by rfl)) ?_
   simp only [aN.down, simprocAttr, hM]
   (try simp only [bh.down, simprocAttr, hM] at ai ⊢); exact ai
 exact aE (an _ (.inl (aG [.bool (ag && (!(a0 == ([116, 97, 117] : List UInt8))))])))
theorem rZ (a0 : Int) (U : Int) (r : Bool) (h : rS a0 U = some r) : bm aD 64 [.int .i64 a0, .int .i64 U] (.bool r) [] := by
 refine bX [0, 1] [.tmp 4] Tryz.func64 aiO (fun bT an bS => ?_)
 refine ws _ ?_
 obtain ⟨ag, aW, h⟩ := aF h
 refine dC (kq a0 0 (IntKind.i64.wrap (U - 1)) _ aW) _ ?_
 exact aE (an _ (.inl (aG [.bool ag])))
theorem aw1 (a0 : bJ) (U : List bk) (r : Bool) (h : GM a0 U = some r) : bm aD 287 [cG a0, .slice (U.map bC)] (.bool r) [] := by
 refine bX [0, 1] [.tmp 4] Tryz.func287 ai2 (fun bT an bS => ?_)
 refine ws _ ?_
 refine ws _ ?_
 refine aL an (fun j7 gD dD aS => ?_)
 refine ws _ ?_
 refine bL dD (fun hr ep dc b2 bH => ?_)
 refine ws _ ?_
 refine aV h (fun np h => ?_) (fun np h => ?_)
 ·simp only [np, ak.down]
  refine cN (bY [(4, .bool (((a0.cO.length : Int) == 0) || ((!(a0.Name == ([116, 97, 117] : List UInt8))) && (decide ((a0.cO.length : Int) ≤ 2)))))] (fun P ai => ?_) ?_)
  ·(rcases Bool.eq_false_or_eq_true ((a0.cO.length : Int) == 0) with m8 | m8) <;> (rcases Bool.eq_false_or_eq_true (a0.Name == ([116, 97, 117] : List UInt8)) with rY | rY) <;>
    (simp only [aN.down, simprocAttr, zx.down, m8, rY]
     (try simp only [bh.down, simprocAttr, iq.down, m8, rY] at ai ⊢); exact ai)
  exact aE (dc _ (.inl (aG [.bool (((a0.cO.length : Int) == 0) || ((!(a0.Name == ([116, 97, 117] : List UInt8))) && (decide ((a0.cO.length : Int) ≤ 2))))])))
 ·simp only [np, ak.down]
  refine ws _ ?_
  refine aV h (fun dr h => ?_) (fun dr h => ?_)
  ·simp only [dr, ak.down]
   refine ws _ ?_
   exact aE (dc _ (.inl (aG [.bool ((a0.cO.length : Int) == 1)])))
  ·simp only [dr, ak.down]
   refine ws _ ?_
   refine aV h (fun dx h => ?_) (fun dx h => ?_)
   ·simp only [dx, ak.down]
    obtain ⟨ag, dT, h⟩ := aF h
    refine h2 dT _ ?_
    exact aE (dc _ (.inl (aG [.bool ((a0.cO.length : Int) == ag.dw)])))
   ·simp only [dx, ak.down]
    refine aY (ep _ (gD _ (.inl ?_)))
    refine ws _ ?_
    exact aE (an _ (.inl (aG [.bool true])))
theorem O6 (a0 : Int) (r : Bool) (h : yQ a0 = some r) : bm aD 191 [.int .i64 a0] (.bool r) [] := by
 refine bX [0] [.tmp 2] Tryz.func191 ai5 (fun bT an bS => ?_)
 refine ws _ ?_
 obtain ⟨ag, aW, h⟩ := aF h
 refine dC (kq a0 0 63 _ aW) _ ?_
 exact aE (an _ (.inl (aG [.bool ag])))
theorem aw2 (a0 : b6) (U : Int) (r : Bool) (h : Ck a0 U = some r) : bm aD 268 [cf a0, .int .i64 U] (.bool r) [] := by
 refine bX [0, 1] [.tmp 4] Tryz.func268 ajk (fun bT an bS => ?_)
 refine ws _ ?_
 refine aL an (fun ef bU bj al => ?_)
 refine ws _ ?_
 refine bL bj (fun eb eI ch bt bs => ?_)
 refine ws _ ?_
 refine aV h (fun dd h => ?_) (fun dd h => ?_)
 ·simp only [dd, ak.down]
  obtain ⟨ag, hv, h⟩ := aF h
  refine dC (O6 a0.Value _ hv) _ ?_
  exact aE (ch _ (.inl (aG [.bool ag])))
 ·simp only [dd, ak.down]
  refine ws _ ?_
  refine aV h (fun cR h => ?_) (fun cR h => ?_)
  ·simp only [cR, ak.down]
   obtain ⟨al, ey, h⟩ := aF h
   refine dC (kq a0.Value 0 (IntKind.i64.wrap (U - 1)) _ ey) _ ?_
   exact aE (ch _ (.inl (aG [.bool al])))
  ·simp only [cR, ak.down]
   refine ws _ ?_
   refine aV h (fun eD h => ?_) (fun eD h => ?_)
   ·simp only [eD, ak.down]
    obtain ⟨aS, cg, h⟩ := aF h
    refine dC (kq a0.Value 0 8 _ cg) _ ?_
    exact aE (ch _ (.inl (aG [.bool aS])))
   ·simp only [eD, ak.down]
    refine ws _ ?_
    refine aV h (fun fz h => ?_) (fun fz h => ?_)
    ·simp only [fz, ak.down]
     refine ws _ ?_
     exact aE (ch _ (.inl (aG [.bool (a0.Value == 0)])))
    ·simp only [fz, ak.down]
     refine aY (eI _ (bU _ (.inl ?_)))
     refine ws _ ?_
     exact aE (an _ (.inl (aG [.bool false])))
theorem aw3 (a0 : b6) (r : Int) (h : GN a0 = some r) : bm aD 269 [cf a0] (.int .i64 r) [] := by
 refine bX [0] [.tmp 2] Tryz.func269 aju (fun bT an bS => ?_)
 refine ws _ ?_
 refine aL an (fun ef bU bj al => ?_)
 refine ws _ ?_
 refine bL bj (fun eb eI ch bt bs => ?_)
 refine ws _ ?_
 refine aV h (fun dd h => ?_) (fun dd h => ?_)
 ·simp only [dd, ak.down]
  refine ws _ ?_
  exact aE (ch _ (.inl (aG [.int .i64 2])))
 ·simp only [dd, ak.down]
  refine ws _ ?_
  refine aV h (fun eT h => ?_) (fun eT h => ?_)
  ·simp only [eT, ak.down]
   refine ws _ ?_
   exact aE (ch _ (.inl (aG [.int .i64 1])))
  ·simp only [eT, ak.down]
   refine aY (eI _ (bU _ (.inl ?_)))
   refine ws _ ?_
   exact aE (an _ (.inl (aG [.int .i64 0])))
theorem aw4 (a0 : List b6) (U : Int) (a7 : Int) (r : Bool) (h : Cm a0 U a7 = some r) : bm aD 226 [.slice (a0.map cf), .int .i64 U, .int .i64 a7] (.bool r) [] := by
 refine bX [0, 1, 2] [.tmp 6] Tryz.func226 ajK (fun bT an bS => ?_)
 refine ws _ ?_
 refine aL an (fun ef bU bj al => ?_)
 obtain ⟨ag, cS, h⟩ := aF h
 rcases fm h with ⟨b2, h⟩ | ⟨b2, h⟩
 ·refine h3 (cV b2) (kq U 0 29 _ cS) _ ?_
  refine iZ rfl ?_
  refine ws _ ?_
  exact aE (bj _ (.inl (aG [.bool false])))
 ·obtain ⟨al, bV, h⟩ := aF h
  rcases fm h with ⟨bw, h⟩ | ⟨bw, h⟩
  ·refine cN (bY [(0, .slice (a0.map cf)), (1, .int .i64 U), (24, .bool true)] (fun P ai => ?_) ?_)
   ·simp only [aN.down, simprocAttr, nK.down, (bn b2), (cV bw)]
    refine eC (kq U 0 29 _ cS) rfl rfl rfl rfl (.inl (by rfl)) ?_
    simp only [aN.down, simprocAttr, nK.down, (bn b2), (cV bw)]
    refine hN (kq a7 1 60 _ bV) rfl rfl rfl rfl (.inl (by rfl)) ?_
    simp only [aN.down, simprocAttr, nK.down, (bn b2), (cV bw)]
    (try simp only [bh.down, simprocAttr, cf, (bn b2), (cV bw)] at ai ⊢); exact ai
   refine iZ rfl ?_
   refine ws _ ?_
   exact aE (bj _ (.inl (aG [.bool false])))
  ·obtain ⟨aS, nm, h⟩ := aF h
   refine cN (bY [(0, .slice (a0.map cf)), (1, .int .i64 U), (24, .bool (!aS))] (fun P ai => ?_) ?_)
   ·simp only [aN.down, simprocAttr, nK.down, (bn b2), (bn bw)]
    refine eC (kq U 0 29 _ cS) rfl rfl rfl rfl (.inl (by rfl)) ?_
    simp only [aN.down, simprocAttr, nK.down, (bn b2), (bn bw)]
    refine hN (kq a7 1 60 _ bV) rfl rfl rfl rfl (.inl (by rfl)) ?_
    simp only [aN.down, simprocAttr, nK.down, (bn b2), (bn bw)]
    refine hN (kq (a0.length : Int) 1 a7 _ nm) rfl rfl rfl rfl (.inl (by rfl)) ?_
    simp only [aN.down, simprocAttr, nK.down, (bn b2), (bn bw)]
    (try simp only [bh.down, simprocAttr, cf, (bn b2), (bn bw)] at ai ⊢); exact ai
   refine aV h (fun iT h => ?_) (fun iT h => ?_)
   ·simp only [(cV iT), ak.down]
    refine ws _ ?_
    exact aE (bj _ (.inl (aG [.bool false])))
   ·simp only [(bn iT), ak.down]
    refine aY (bU _ (.inl ?_))
    refine ws _ ?_
    refine aL an (fun iH fs fa ic => ?_)
    refine ws _ ?_
    refine bL fa (fun qO k7 lz j9 nI => ?_)
    have jS : ∀ (n : Nat) (hI : Int) (nH : Int), tk a0 U n hI nH = some r → dE aD N2 qO (aa [(1, .int .i64 U), (7, .int .i64 hI), (25, .slice (a0.map cf)), (26, .int .i64 (a0.length : Int)), (27, .int .i64 nH)]) := by
     intro fZ
     induction fZ with
     | zero => intro hI nH h; cases (show none = some r from h)
     | succ fZ jT =>
      intro hI nH h
      replace h : Cl (tk a0 U fZ) a0 U hI nH = some r := h
      refine dX lz (fun ox jU jg lR => ?_)
      refine ws _ ?_
      refine aL jg (fun OM wz DF qL => ?_)
      refine aV h (fun ew h => ?_) (fun ew h => ?_)
      ·simp only [ew, ak.down]
       refine aY (wz _ (.inl ?_))
       refine aL jg (fun aw5 HN DQ wi => ?_)
       refine bL DQ (fun zC pd pe mb j5 => ?_)
       obtain ⟨bs, kJ, h⟩ := aF h
       refine h2 kJ _ ?_
       refine aL pe (fun aw6 HO DR zj => ?_)
       rcases fm h with ⟨lT, h⟩ | ⟨lT, h⟩
       ·refine h2 lT _ ?_
        refine iZ rfl ?_
        refine ws _ ?_
        exact aE (DR _ (.inl (aG [.bool false])))
       ·obtain ⟨bH, HP, h⟩ := aF h
        refine cN (bY [(1, .int .i64 U), (7, .int .i64 hI), (9, .bb (cf bs)), (25, .slice (a0.map cf)), (26, .int .i64 (a0.length : Int)), (27, .int .i64 nH), (38, .bool (!bH))] (fun P ai => ?_) ?_)
        ·simp only [aN.down, simprocAttr, eG, gd, cf, lT]
         refine hN (aw2 bs U _ HP) rfl rfl rfl rfl (.inl (by rfl)) ?_
         simp only [aN.down, simprocAttr, eG, gd, cf, lT]
         (try simp only [bh.down, simprocAttr, cf, lT] at ai ⊢); exact ai
        refine aV h (fun iU h => ?_) (fun iU h => ?_)
        ·simp only [(cV iU), ak.down]
         refine ws _ ?_
         exact aE (DR _ (.inl (aG [.bool false])))
        ·simp only [(bn iU), ak.down]
         refine aY (HO _ (.inl ?_))
         obtain ⟨bE, aw7, h⟩ := aF h
         refine avj (aw3 bs _ aw7) _ ?_
         refine pd _ (HN _ (.inl ?_))
         refine wr _ ?_
         exact jU _ (.inr ⟨_, bu rfl, jT (IntKind.i64.wrap (hI + (IntKind.i64.wrap (bE - 1)))) (IntKind.i64.wrap (nH + 1)) h⟩)
      ·simp only [ew, ak.down]
       refine dV (qL 0 _ (lR 0 _ (j9 _ (fs _ (.inl ?_)))))
       refine ws _ ?_
       exact aE (an _ (.inl (aG [.bool (hI == 0)])))
    obtain ⟨n, h⟩ := dQ h
    exact dW (.inr ⟨_, bu rfl, jS n 1 0 h⟩)
theorem aw8 (a0 : List b6) (U : cM) (r : Bool) (h : GO a0 U = some r) : bm aD 288 [.slice (a0.map cf), .ref (d_ U)] (.bool r) [] := by
 refine bX [0, 1] [.tmp 3] Tryz.func288 ajN (fun bT an bS => ?_)
 refine ws _ ?_
 obtain ⟨ag, aW, h⟩ := aF h
 refine dC (aw4 a0 U.scope 15 _ aW) _ ?_
 exact aE (an _ (.inl (aG [.bool (!ag)])))
theorem aw9 (a0 : List (List b6)) (U : cM) (r : Int) (h : GP a0 U = some r) : bm aD 267 [.slice (a0.map eS), .fn 288 [.ref (d_ U)]] (.int .i64 r) [] := by
 refine bX [0, 1] [.tmp 4] Tryz.func267 ajY (fun bT an bS => ?_)
 refine ws _ ?_
 refine aL an (fun ef bU bj al => ?_)
 refine ws _ ?_
 refine bL bj (fun eb eI ch bt bs => ?_)
 have fA : ∀ (n : Nat) (cX : Int), v8 a0 U n cX = some r → dE aD N3 eb (aa [(0, .slice (a0.map eS)), (1, .fn 288 [.ref (d_ U)]), (7, .int .i64 (a0.length : Int)), (8, .int .i64 cX)]) := by
  intro cB
  induction cB with
  | zero => intro cX h; cases (show none = some r from h)
  | succ cB ft =>
   intro cX h
   replace h : Cn (v8 a0 U cB) a0 U cX = some r := h
   refine dX ch (fun hr ep dc bH => ?_)
   refine ws _ ?_
   refine aL dc (fun hD ea er cP => ?_)
   refine aV h (fun bw h => ?_) (fun bw h => ?_)
   ·simp only [bw, ak.down]
    refine aY (ea _ (.inl ?_))
    refine aL dc (fun ev cQ cj di => ?_)
    refine bL cj (fun eU cq cw cR cr => ?_)
    refine ws _ ?_
    obtain ⟨ag, ee, h⟩ := aF h
    obtain ⟨al, ei, h⟩ := aF h
    refine h3 ee (aw8 ag U _ ei) _ ?_
    refine aV h (fun dx h => ?_) (fun dx h => ?_)
    ·simp only [dx, ak.down]
     refine ws _ ?_
     exact aE (cw _ (.inl (aG [.int .i64 cX])))
    ·simp only [dx, ak.down]
     refine aY (cq _ (cQ _ (.inl ?_)))
     refine wr _ ?_
     exact ep _ (.inr ⟨_, bu rfl, ft (IntKind.i64.wrap (cX + 1)) h⟩)
   ·simp only [bw, ak.down]
    refine dV (cP 0 _ (bH 0 _ (bt _ (bU _ (.inl ?_)))))
    refine ws _ ?_
    exact aE (an _ (.inl (aG [.int .i64 (-1)])))
 obtain ⟨n, h⟩ := dQ h
 exact dW (.inr ⟨_, bu rfl, fA n 0 h⟩)
theorem aw_ (a0 : List (List b6)) (U : cM) (r : Bool) (h : Co a0 U = some r) : bm aD 223 [.slice (a0.map eS), .fn 288 [.ref (d_ U)]] (.bool r) [] := by
 refine bX [0, 1] [.tmp 4] Tryz.func223 aj1 (fun bT an bS => ?_)
 refine ws _ ?_
 obtain ⟨ag, aW, h⟩ := aF h
 refine dC (aw9 a0 U _ aW) _ ?_
 exact aE (an _ (.inl (aG [.bool (decide (0 ≤ ag))])))
theorem axa (a0 : bJ) (U : List bk) (a7 : cM) (r : Int) (h : yU a0 U a7 = some r) : bm aD 259 [cG a0, .slice (U.map bC), d_ a7] (.int .i64 r) [] := by
 refine bX [0, 1, 2] [.tmp 6] Tryz.func259 akm (fun bT an bS => ?_)
 refine ws _ ?_
 refine aL an (fun ef bU bj al => ?_)
 refine bL bj (fun j7 gD dD lh aS => ?_)
 obtain ⟨ag, cZ, h⟩ := aF h
 refine dC (aw0 a0 _ cZ) _ ?_
 refine aV h (fun dd h => ?_) (fun dd h => ?_)
 ·simp only [(cV dd), ak.down]
  refine ws _ ?_
  exact aE (dD _ (.inl (aG [.int .i64 2])))
 ·simp only [(bn dd), ak.down]
  have wA : ∀ (yT : Bool), yS a0 U a7 yT = some r → df aD N5 j7 (aa [(1, .slice (U.map bC)), (3, .bb (cG a0)), (5, .bb (d_ a7)), (11, .bool yT)]) := by
   intro yT h
   refine aV h (fun bw h => ?_) (fun bw h => ?_)
   ·simp only [bw, ak.down]
    refine ws _ ?_
    exact aE (dD _ (.inl (aG [.int .i64 3])))
   ·simp only [bw, ak.down]
    have zJ : ∀ (yR : Bool), tl a0 U a7 yR = some r → df aD N4 j7 (aa [(1, .slice (U.map bC)), (3, .bb (cG a0)), (5, .bb (d_ a7)), (26, .bool yR)]) := by
     intro yR h
     refine aV h (fun cR h => ?_) (fun cR h => ?_)
     ·simp only [cR, ak.down]
      refine ws _ ?_
      exact aE (dD _ (.inl (aG [.int .i64 4])))
     ·simp only [cR, ak.down]
      obtain ⟨al, ee, h⟩ := aF h
      refine dC (aw1 a0 U _ ee) _ ?_
      refine aV h (fun eD h => ?_) (fun eD h => ?_)
      ·simp only [(cV eD), ak.down]
       refine ws _ ?_
       exact aE (dD _ (.inl (aG [.int .i64 5])))
      ·simp only [(bn eD), ak.down]
       refine cN (bY [(3, .bb (cG a0)), (5, .bb (d_ a7)), (54, .bool ((a0.Kind == 5) && (!a7.behind)))] (fun P ai => ?_) ?_)
       ·rcases Bool.eq_false_or_eq_true (a0.Kind == 5) with tN | tN
        ·simp only [aN.down, simprocAttr, Dy.down, tN]
         (try simp only [bh.down, simprocAttr, zy.down, tN] at ai ⊢); exact ai
        ·simp only [aN.down, simprocAttr, Dy.down, tN]
         (try simp only [bh.down, simprocAttr, zy.down, tN] at ai ⊢); exact ai
       refine aV h (fun fz h => ?_) (fun fz h => ?_)
       ·simp only [fz, ak.down]
        refine ws _ ?_
        exact aE (dD _ (.inl (aG [.int .i64 6])))
       ·simp only [fz, ak.down]
        refine cN (bY [(3, .bb (cG a0)), (5, .bb (d_ a7)), (63, .bool ((a0.Kind == 4) && (decide (6 ≤ a7.scope))))] (fun P ai => ?_) ?_)
        ·rcases Bool.eq_false_or_eq_true (a0.Kind == 4) with zK | zK
         ·simp only [aN.down, simprocAttr, Dy.down, zK]
          (try simp only [bh.down, simprocAttr, zy.down, zK] at ai ⊢); exact ai
         ·simp only [aN.down, simprocAttr, Dy.down, zK]
          (try simp only [bh.down, simprocAttr, zy.down, zK] at ai ⊢); exact ai
        refine aV h (fun mb h => ?_) (fun mb h => ?_)
        ·simp only [mb, ak.down]
         refine ws _ ?_
         exact aE (dD _ (.inl (aG [.int .i64 7])))
        ·simp only [mb, ak.down]
         obtain ⟨aS, lA, h⟩ := aF h
         refine cN (bY [(72, .bool aS)] (fun P ai => ?_) ?_)
         ·simp only [aN.down, simprocAttr, Hl.down]
          refine eC (aw_ a0.cO a7 _ lA) rfl rfl (by simp only [aN.down, simprocAttr, Hl.down, fV, fW, fX, dj] <;> rfl) rfl (.inr (by rfl)) ?_
          simp only [aN.down, simprocAttr, Hl.down]
          (try simp only [bh.down, simprocAttr, zy.down] at ai ⊢); exact ai
         refine aV h (fun g1 h => ?_) (fun g1 h => ?_)
         ·simp only [g1, ak.down]
          refine ws _ ?_
          exact aE (dD _ (.inl (aG [.int .i64 8])))
         ·simp only [g1, ak.down]
          refine aY (gD _ (bU _ (.inl ?_)))
          refine ws _ ?_
          exact aE (an _ (.inl (aG [.int .i64 0])))
    rcases fm h with ⟨iU, h⟩ | ⟨iU, h⟩
    ·obtain ⟨bs, ua, h⟩ := aF h
     rcases fm h with ⟨oy, h⟩ | ⟨oy, h⟩
     ·refine lu (bY (K := eO _) [(1, .slice (U.map bC)), (3, .bb (cG a0)), (5, .bb (d_ a7)), (26, .bool true)] (fun P ai => ?_) ?_)
      ·simp only [aN.down, simprocAttr, p3.down, iU, (cV oy)]
       refine hN (kq a0.Number 1 7 _ ua) rfl rfl rfl rfl (.inl (by rfl)) ?_
       simp only [aN.down, simprocAttr, p3.down, iU, (cV oy)]
       (try simp only [bh.down, simprocAttr, nM.down, iU, (cV oy)] at ai ⊢); exact ai
      exact .inr ⟨_, bu rfl, zJ true h⟩
     ·rcases fm h with ⟨iI, h⟩ | ⟨iI, h⟩
      ·obtain ⟨bH, nc, h⟩ := aF h
       refine lu (bY (K := eO _) [(1, .slice (U.map bC)), (3, .bb (cG a0)), (5, .bb (d_ a7)), (26, .bool (!bH))] (fun P ai => ?_) ?_)
       ·simp only [aN.down, simprocAttr, p3.down, iU, (bn oy), iI]
        refine hN (kq a0.Number 1 7 _ ua) rfl rfl rfl rfl (.inl (by rfl)) ?_
        simp only [aN.down, simprocAttr, p3.down, iU, (bn oy), iI]
        refine hN (rZ a0.Number (U.length : Int) _ nc) rfl rfl rfl rfl (.inl (by rfl)) ?_
        simp only [aN.down, simprocAttr, p3.down, iU, (bn oy), iI]
        (try simp only [bh.down, simprocAttr, nM.down, iU, (bn oy), iI] at ai ⊢); exact ai
       exact .inr ⟨_, bu rfl, zJ (!bH) h⟩
      ·refine lu (bY (K := eO _) [(1, .slice (U.map bC)), (3, .bb (cG a0)), (5, .bb (d_ a7)), (26, .bool false)] (fun P ai => ?_) ?_)
       ·simp only [aN.down, simprocAttr, p3.down, iU, (bn oy), iI]
        refine hN (kq a0.Number 1 7 _ ua) rfl rfl rfl rfl (.inl (by rfl)) ?_
        simp only [aN.down, simprocAttr, p3.down, iU, (bn oy), iI]
        (try simp only [bh.down, simprocAttr, nM.down, iU, (bn oy), iI] at ai ⊢); exact ai
       exact .inr ⟨_, bu rfl, zJ false h⟩
    ·rcases fm h with ⟨pf, h⟩ | ⟨pf, h⟩
     ·obtain ⟨bE, axb, h⟩ := aF h
      refine lu (bY (K := eO _) [(1, .slice (U.map bC)), (3, .bb (cG a0)), (5, .bb (d_ a7)), (26, .bool (!bE))] (fun P ai => ?_) ?_)
      ·simp only [aN.down, simprocAttr, p3.down, iU, pf]
       refine hN (rZ a0.Number (U.length : Int) _ axb) rfl rfl rfl rfl (.inl (by rfl)) ?_
       simp only [aN.down, simprocAttr, p3.down, iU, pf]
       (try simp only [bh.down, simprocAttr, nM.down, iU, pf] at ai ⊢); exact ai
      exact .inr ⟨_, bu rfl, zJ (!bE) h⟩
     ·refine lu (bY (K := eO _) [(1, .slice (U.map bC)), (3, .bb (cG a0)), (5, .bb (d_ a7)), (26, .bool false)] (fun P ai => ?_) ?_)
      ·simp only [aN.down, simprocAttr, p3.down, iU, pf]
       (try simp only [bh.down, simprocAttr, nM.down, iU, pf] at ai ⊢); exact ai
      exact .inr ⟨_, bu rfl, zJ false h⟩
  rcases fm h with ⟨p6, h⟩ | ⟨p6, h⟩
  ·rcases fm h with ⟨p4, h⟩ | ⟨p4, h⟩
   ·obtain ⟨cP, HQ, h⟩ := aF h
    refine lu (bY (K := eO _) [(1, .slice (U.map bC)), (3, .bb (cG a0)), (5, .bb (d_ a7)), (11, .bool (!cP))] (fun P ai => ?_) ?_)
    ·simp only [aN.down, simprocAttr, Dz.down, p6, p4]
     refine hN (k8 a0.Name _ HQ) rfl rfl rfl rfl (.inl (by rfl)) ?_
     simp only [aN.down, simprocAttr, Dz.down, p6, p4]
     (try simp only [bh.down, simprocAttr, nM.down, p6, p4] at ai ⊢); exact ai
    exact .inr ⟨_, bu rfl, wA (!cP) h⟩
   ·refine lu (bY (K := eO _) [(1, .slice (U.map bC)), (3, .bb (cG a0)), (5, .bb (d_ a7)), (11, .bool false)] (fun P ai => ?_) ?_)
    ·simp only [aN.down, simprocAttr, Dz.down, p6, p4]
     (try simp only [bh.down, simprocAttr, nM.down, p6, p4] at ai ⊢); exact ai
    exact .inr ⟨_, bu rfl, wA false h⟩
  ·refine lu (bY (K := eO _) [(1, .slice (U.map bC)), (3, .bb (cG a0)), (5, .bb (d_ a7)), (11, .bool false)] (fun P ai => ?_) ?_)
   ·simp only [aN.down, simprocAttr, Dz.down, p6]
    (try simp only [bh.down, simprocAttr, nM.down, p6] at ai ⊢); exact ai
   exact .inr ⟨_, bu rfl, wA false h⟩
theorem axc (a0 : List bk) (U : bk) (r : Int × Int) (h : yW a0 U = some r) : bm aD 211 [.slice (a0.map bC), bC U] (.tuple [.int .i64 r.1, .int .i64 r.2]) [] := by
 refine bX [0, 1] [.tmp 4, .tmp 5] Tryz.func211 akC (fun bT an bS => ?_)
 refine ws _ ?_
 refine aL an (fun ef bU bj al => ?_)
 obtain ⟨ag, cS, h⟩ := aF h
 rcases fm h with ⟨b2, h⟩ | ⟨b2, h⟩
 ·refine gx rfl (gm [(0, .slice (a0.map bC)), (3, .bb (bC U)), (22, .bool true)] (fun P ai => ?_) ?_)
  ·simp only [c7.down, simprocAttr, p1.down, (cV b2)]
   refine h0 (kq (U.Body.length : Int) 1 20 _ cS) rfl rfl rfl rfl (.inl (by rfl)) ?_
   simp only [c7.down, simprocAttr, p1.down, (cV b2)]
   refine ⟨fY (by kernel_rfl), ?_⟩
   (try simp only [bh.down, simprocAttr, iq.down, (cV b2)] at ai ⊢); exact ai
  refine iZ rfl ?_
  refine ws _ ?_
  exact aE (bj _ (.inl (aG [.int .i64 0, .int .i64 1])))
 ·obtain ⟨al, bV, h⟩ := aF h
  refine gx rfl (gm [(0, .slice (a0.map bC)), (3, .bb (bC U)), (22, .bool (al != (U.Body.length : Int)))] (fun P ai => ?_) ?_)
  ·simp only [c7.down, simprocAttr, p1.down, (bn b2)]
   refine h0 (kq (U.Body.length : Int) 1 20 _ cS) rfl rfl rfl rfl (.inl (by rfl)) ?_
   simp only [c7.down, simprocAttr, p1.down, (bn b2)]
   refine k4 (awT U 0 _ bV) rfl rfl rfl rfl (.inl (by rfl)) ?_
   simp only [c7.down, simprocAttr, p1.down, (bn b2)]
   refine ⟨fY (by kernel_rfl), ?_⟩
   (try simp only [bh.down, simprocAttr, iq.down, (bn b2)] at ai ⊢); exact ai
  refine aV h (fun bw h => ?_) (fun bw h => ?_)
  ·simp only [bw, ak.down]
   refine ws _ ?_
   exact aE (bj _ (.inl (aG [.int .i64 0, .int .i64 1])))
  ·simp only [bw, ak.down]
   refine aY (bU _ (.inl ?_))
   obtain ⟨aS, nU, h⟩ := aF h
   refine dC (HM U _ nU) _ ?_
   refine aL an (fun j8 hc iV je => ?_)
   refine ws _ ?_
   refine bL iV (fun iH fs fa eD ic => ?_)
   have jS : ∀ (n : Nat) (lQ : Int), rT a0 U aS n lQ = some r → dE aD N6 iH (aa [(0, .slice (a0.map bC)), (6, .ao 2 (aS.map d_)), (26, .slice (U.Body.map cG)), (27, .int .i64 (U.Body.length : Int)), (28, .int .i64 lQ)]) := by
    intro fZ
    induction fZ with
    | zero => intro lQ h; cases (show none = some r from h)
    | succ fZ jT =>
     intro lQ h
     replace h : yV (rT a0 U aS fZ) a0 U aS lQ = some r := h
     refine dX fa (fun lS hE hj ju => ?_)
     refine ws _ ?_
     refine aL hj (fun ox jU jg lR => ?_)
     refine aV h (fun fz h => ?_) (fun fz h => ?_)
     ·simp only [fz, ak.down]
      refine aY (jU _ (.inl ?_))
      refine aL hj (fun OM wz DF qL => ?_)
      refine bL DF (fun avN DG Hp ew zi => ?_)
      obtain ⟨bs, hP, h⟩ := aF h
      refine h2 hP _ ?_
      obtain ⟨bH, kJ, h⟩ := aF h
      obtain ⟨bE, lA, h⟩ := aF h
      refine gx rfl (gm [(0, .slice (a0.map bC)), (6, .ao 2 (aS.map d_)), (7, .int .i64 lQ), (9, .int .i64 bE), (26, .slice (U.Body.map cG)), (27, .int .i64 (U.Body.length : Int)), (28, .int .i64 lQ)] (fun P ai => ?_) ?_)
      ·simp only [c7.down, simprocAttr, eG, oe, e0, gy, gY, h1, pZ, s4, gd, bC, cG, cf, d_, eS, kJ, c3 kJ]
       refine h0 (axa bs a0 bH _ lA) rfl rfl rfl rfl (.inl (by rfl)) ?_
       simp only [c7.down, simprocAttr, eG, oe, e0, gy, gY, h1, pZ, s4, gd, bC, cG, cf, d_, eS, kJ, c3 kJ]
       refine ⟨fY (by kernel_rfl), ?_⟩
       (try simp only [bh.down, simprocAttr, nM.down, kJ, c3 kJ] at ai ⊢); exact ai
      refine ws _ ?_
      refine aV h (fun lT h => ?_) (fun lT h => ?_)
      ·simp only [lT, ak.down]
       refine ws _ ?_
       exact aE (Hp _ (.inl (aG [.int .i64 lQ, .int .i64 bE])))
      ·simp only [lT, ak.down]
       refine aY (DG _ (wz _ (.inl ?_)))
       refine wr _ ?_
       exact hE _ (.inr ⟨_, bu rfl, jT (IntKind.i64.wrap (lQ + 1)) h⟩)
     ·simp only [fz, ak.down]
      refine dV (lR 0 _ (ju 0 _ (eD _ (hc _ (.inl ?_)))))
      refine ws _ ?_
      exact aE (an _ (.inl (aG [.int .i64 0, .int .i64 0])))
   obtain ⟨n, h⟩ := dQ h
   exact dW (.inr ⟨_, bu rfl, jS n 0 h⟩)
theorem axd (a0 : List bk) (r : Bool) (h : Cq a0 = some r) : bm aD 156 [.slice (a0.map bC)] (.bool r) [] := by
 refine bX [0] [.tmp 2] Tryz.func156 akU (fun bT an bS => ?_)
 refine ws _ ?_
 refine aL an (fun ef bU bj al => ?_)
 obtain ⟨ag, cS, h⟩ := aF h
 rcases fm h with ⟨b2, h⟩ | ⟨b2, h⟩
 ·refine h3 (cV b2) (kq (a0.length : Int) 1 4 _ cS) _ ?_
  refine iZ rfl ?_
  refine ws _ ?_
  exact aE (bj _ (.inl (aG [.bool false])))
 ·obtain ⟨al, bV, h⟩ := aF h
  refine cN (bY [(0, .slice (a0.map bC)), (15, .bool (!al))] (fun P ai => ?_) ?_)
  ·simp only [aN.down, simprocAttr, jf.down, (bn b2)]
   refine eC (kq (a0.length : Int) 1 4 _ cS) rfl rfl rfl rfl (.inl (by rfl)) ?_
   simp only [aN.down, simprocAttr, jf.down, (bn b2)]
   refine hN (awO a0 _ bV) rfl rfl rfl rfl (.inl (by rfl)) ?_
   simp only [aN.down, simprocAttr, jf.down, (bn b2)]
   (try simp only [bh.down, simprocAttr, iq.down, (bn b2)] at ai ⊢); exact ai
  refine aV h (fun bw h => ?_) (fun bw h => ?_)
  ·simp only [(cV bw), ak.down]
   refine ws _ ?_
   exact aE (bj _ (.inl (aG [.bool false])))
  ·simp only [(bn bw), ak.down]
   refine aY (bU _ (.inl ?_))
   refine aL an (fun eU cq cw cr => ?_)
   refine ws _ ?_
   refine bL cw (fun j8 hc iV dr je => ?_)
   have hq : ∀ (n : Nat) (mD : Int), tm a0 n mD = some r → dE aD N7 j8 (aa [(0, .slice (a0.map bC)), (16, .slice (a0.map bC)), (17, .int .i64 (a0.length : Int)), (18, .int .i64 mD)]) := by
    intro dz
    induction dz with
    | zero => intro mD h; cases (show none = some r from h)
    | succ dz hd =>
     intro mD h
     replace h : Cp (tm a0 dz) a0 mD = some r := h
     refine dX iV (fun ly hb gR jt => ?_)
     refine ws _ ?_
     refine aL gR (fun lS hE hj ju => ?_)
     refine aV h (fun j9 h => ?_) (fun j9 h => ?_)
     ·simp only [j9, ak.down]
      refine aY (hE _ (.inl ?_))
      refine aL gR (fun ox jU jg lR => ?_)
      refine bL jg (fun HE tX tY fz qK => ?_)
      obtain ⟨aS, iW, h⟩ := aF h
      refine h2 iW _ ?_
      refine aL tY (fun aw5 HN DQ wi => ?_)
      obtain ⟨bs, kI, h⟩ := aF h
      rcases fm h with ⟨ig, h⟩ | ⟨ig, h⟩
      ·refine gx rfl (gm [(0, .slice (a0.map bC)), (4, .bb (bC aS)), (16, .slice (a0.map bC)), (17, .int .i64 (a0.length : Int)), (18, .int .i64 mD), (35, .bool true)] (fun P ai => ?_) ?_)
       ·simp only [c7.down, simprocAttr, jf.down, (cV ig)]
        refine h0 (DO aS.Name _ kI) rfl rfl rfl rfl (.inl (by rfl)) ?_
        simp only [c7.down, simprocAttr, jf.down, (cV ig)]
        refine ⟨fY (by kernel_rfl), ?_⟩
        (try simp only [bh.down, simprocAttr, iq.down, (cV ig)] at ai ⊢); exact ai
       refine iZ rfl ?_
       refine ws _ ?_
       exact aE (DQ _ (.inl (aG [.bool false])))
      ·obtain ⟨bH, DS, h⟩ := aF h
       obtain ⟨bE, tT, h⟩ := aF h
       refine gx rfl (gm [(0, .slice (a0.map bC)), (4, .bb (bC aS)), (16, .slice (a0.map bC)), (17, .int .i64 (a0.length : Int)), (18, .int .i64 mD), (35, .bool (decide (0 ≤ bE)))] (fun P ai => ?_) ?_)
       ·simp only [c7.down, simprocAttr, jf.down, (bn ig), DS, @lp _ bC 3 (fun _ => rfl)]
        refine h0 (DO aS.Name _ kI) rfl rfl rfl rfl (.inl (by rfl)) ?_
        simp only [c7.down, simprocAttr, jf.down, (bn ig), DS, @lp _ bC 3 (fun _ => rfl)]
        refine k4 (awS bH aS.Name _ tT) rfl rfl rfl rfl (.inl (by rfl)) ?_
        simp only [c7.down, simprocAttr, jf.down, (bn ig), DS, @lp _ bC 3 (fun _ => rfl)]
        refine ⟨fY (by kernel_rfl), ?_⟩
        (try simp only [bh.down, simprocAttr, iq.down, (bn ig), DS, @lp _ bC 3 (fun _ => rfl)] at ai ⊢); exact ai
       refine aV h (fun tZ h => ?_) (fun tZ h => ?_)
       ·simp only [tZ, ak.down]
        refine ws _ ?_
        exact aE (DQ _ (.inl (aG [.bool false])))
       ·simp only [tZ, ak.down]
        refine aY (HN _ (.inl ?_))
        obtain ⟨cP, ua, h⟩ := aF h
        refine dC (axc a0 aS _ ua) _ ?_
        refine ws _ ?_
        refine aV h (fun iI h => ?_) (fun iI h => ?_)
        ·simp only [iI, ak.down]
         refine ws _ ?_
         exact aE (tY _ (.inl (aG [.bool false])))
        ·simp only [iI, ak.down]
         refine aY (tX _ (jU _ (.inl ?_)))
         refine wr _ ?_
         exact hb _ (.inr ⟨_, bu rfl, hd (IntKind.i64.wrap (mD + 1)) h⟩)
     ·simp only [j9, ak.down]
      refine dV (ju 0 _ (jt 0 _ (dr _ (cq _ (.inl ?_)))))
      refine ws _ ?_
      exact aE (an _ (.inl (aG [.bool true])))
   obtain ⟨n, h⟩ := dQ h
   exact dW (.inr ⟨_, bu rfl, hq n 0 h⟩)
theorem axe (a0 : Int) (r : Bool) (h : GQ a0 = some r) : bm aD 190 [.int .i64 a0] (.bool r) [] := by
 refine bX [0] [.tmp 2] Tryz.func190 akX (fun bT an bS => ?_)
 refine ws _ ?_
 obtain ⟨ag, aW, h⟩ := aF h
 refine dC (O6 a0 _ aW) _ ?_
 exact aE (an _ (.inl (aG [.bool (!ag)])))
theorem axf (a0 : List Int) (r : Int) (h : GR a0 = some r) : bm aD 246 [.slice (a0.map a1), .fn 190 []] (.int .i64 r) [] := by
 refine bX [0, 1] [.tmp 4] Tryz.func246 ak8 (fun bT an bS => ?_)
 refine ws _ ?_
 refine aL an (fun ef bU bj al => ?_)
 refine ws _ ?_
 refine bL bj (fun eb eI ch bt bs => ?_)
 have fA : ∀ (n : Nat) (cX : Int), v_ a0 n cX = some r → dE aD N8 eb (aa [(0, .slice (a0.map a1)), (1, .fn 190 []), (7, .int .i64 (a0.length : Int)), (8, .int .i64 cX)]) := by
  intro cB
  induction cB with
  | zero => intro cX h; cases (show none = some r from h)
  | succ cB ft =>
   intro cX h
   replace h : Cr (v_ a0 cB) a0 cX = some r := h
   refine dX ch (fun hr ep dc bH => ?_)
   refine ws _ ?_
   refine aL dc (fun hD ea er cP => ?_)
   refine aV h (fun bw h => ?_) (fun bw h => ?_)
   ·simp only [bw, ak.down]
    refine aY (ea _ (.inl ?_))
    refine aL dc (fun ev cQ cj di => ?_)
    refine bL cj (fun eU cq cw cR cr => ?_)
    refine ws _ ?_
    obtain ⟨ag, ee, h⟩ := aF h
    obtain ⟨al, ei, h⟩ := aF h
    refine h3 ee (axe ag _ ei) _ ?_
    refine aV h (fun dx h => ?_) (fun dx h => ?_)
    ·simp only [dx, ak.down]
     refine ws _ ?_
     exact aE (cw _ (.inl (aG [.int .i64 cX])))
    ·simp only [dx, ak.down]
     refine aY (cq _ (cQ _ (.inl ?_)))
     refine wr _ ?_
     exact ep _ (.inr ⟨_, bu rfl, ft (IntKind.i64.wrap (cX + 1)) h⟩)
   ·simp only [bw, ak.down]
    refine dV (cP 0 _ (bH 0 _ (bt _ (bU _ (.inl ?_)))))
    refine ws _ ?_
    exact aE (an _ (.inl (aG [.int .i64 (-1)])))
 obtain ⟨n, h⟩ := dQ h
 exact dW (.inr ⟨_, bu rfl, fA n 0 h⟩)
theorem axg (a0 : List Int) (r : Bool) (h : GS a0 = some r) : bm aD 189 [.slice (a0.map a1), .fn 190 []] (.bool r) [] := by
 refine bX [0, 1] [.tmp 4] Tryz.func189 ala (fun bT an bS => ?_)
 refine ws _ ?_
 obtain ⟨ag, aW, h⟩ := aF h
 refine dC (axf a0 _ aW) _ ?_
 exact aE (an _ (.inl (aG [.bool (decide (0 ≤ ag))])))
theorem O7 (a0 : List Int) (r : Bool) (h : yX a0 = some r) : bm aD 142 [.slice (a0.map a1)] (.bool r) [] := by
 refine bX [0] [.tmp 2] Tryz.func142 ald (fun bT an bS => ?_)
 refine ws _ ?_
 obtain ⟨ag, aW, h⟩ := aF h
 refine dC (axg a0 _ aW) _ ?_
 exact aE (an _ (.inl (aG [.bool (!ag)])))
theorem axh (a0 : List bk) (U : dq) (r : Bool) (h : Cs a0 U = some r) : bm aD 159 [.slice (a0.map bC), fp U] (.bool r) [] := by
 refine bX [0, 1] [.tmp 4] Tryz.func159 alg (fun bT an bS => ?_)
 refine ws _ ?_
 obtain ⟨ag, aW, h⟩ := aF h
 rcases fm h with ⟨bt, h⟩ | ⟨bt, h⟩
 ·obtain ⟨al, cZ, h⟩ := aF h
  rcases fm h with ⟨dd, h⟩ | ⟨dd, h⟩
  ·obtain ⟨aS, bV, h⟩ := aF h
   refine gx rfl (gm [(4, .bool aS)] (fun P ai => ?_) ?_)
   ·simp only [c7.down, simprocAttr, tR.down, bt, cZ, dd]
    refine h0 (rZ U.dG (a0.length : Int) _ aW) rfl rfl rfl rfl (.inl (by rfl)) ?_
    simp only [c7.down, simprocAttr, tR.down, bt, cZ, dd]
    refine k4 (O7 U.cF _ bV) rfl rfl rfl rfl (.inl (by rfl)) ?_
    simp only [c7.down, simprocAttr, tR.down, bt, cZ, dd]
    refine ⟨fY (by kernel_rfl), ?_⟩
    (try simp only [bh.down, simprocAttr, Hm.down, bt, cZ, dd] at ai ⊢); exact ai
   exact aE (an _ (.inl (aG [.bool aS])))
  ·refine gx rfl (gm [(4, .bool false)] (fun P ai => ?_) ?_)
   ·simp only [c7.down, simprocAttr, tR.down, bt, cZ, dd]
    refine h0 (rZ U.dG (a0.length : Int) _ aW) rfl rfl rfl rfl (.inl (by rfl)) ?_
    simp only [c7.down, simprocAttr, tR.down, bt, cZ, dd]
    refine ⟨fY (by kernel_rfl), ?_⟩
    (try simp only [bh.down, simprocAttr, Hm.down, bt, cZ, dd] at ai ⊢); exact ai
   exact aE (an _ (.inl (aG [.bool false])))
 ·refine gx rfl (gm [(4, .bool false)] (fun P ai => ?_) ?_)
  ·simp only [c7.down, simprocAttr, tR.down, bt]
   refine h0 (rZ U.dG (a0.length : Int) _ aW) rfl rfl rfl rfl (.inl (by rfl)) ?_
   simp only [c7.down, simprocAttr, tR.down, bt]
   refine ⟨fY (by kernel_rfl), ?_⟩
   (try simp only [bh.down, simprocAttr, Hm.down, bt] at ai ⊢); exact ai
  exact aE (an _ (.inl (aG [.bool false])))
theorem axi (a0 : dq) (U : eo) (r : Bool) (h : GU a0 U = some r) : bm aD 158 [fp a0, .ref (hp U)] (.bool r) [] := by
 refine bX [0, 1] [.tmp 3] Tryz.func158 alj (fun bT an bS => ?_)
 refine ws _ ?_
 obtain ⟨ag, aW, h⟩ := aF h
 refine dC (axh U.eH a0 _ aW) _ ?_
 exact aE (an _ (.inl (aG [.bool (!ag)])))
theorem axj (a0 : List dq) (U : eo) (r : Int) (h : GV a0 U = some r) : bm aD 212 [.slice (a0.map fp), .fn 158 [.ref (hp U)]] (.int .i64 r) [] := by
 refine bX [0, 1] [.tmp 4] Tryz.func212 alw (fun bT an bS => ?_)
 refine ws _ ?_
 refine aL an (fun ef bU bj al => ?_)
 refine ws _ ?_
 refine bL bj (fun eb eI ch bt bs => ?_)
 have fA : ∀ (n : Nat) (cX : Int), wa a0 U n cX = some r → dE aD N9 eb (aa [(0, .slice (a0.map fp)), (1, .fn 158 [.ref (hp U)]), (7, .int .i64 (a0.length : Int)), (8, .int .i64 cX)]) := by
  intro cB
  induction cB with
  | zero => intro cX h; cases (show none = some r from h)
  | succ cB ft =>
   intro cX h
   replace h : Ct (wa a0 U cB) a0 U cX = some r := h
   refine dX ch (fun hr ep dc bH => ?_)
   refine ws _ ?_
   refine aL dc (fun hD ea er cP => ?_)
   refine aV h (fun bw h => ?_) (fun bw h => ?_)
   ·simp only [bw, ak.down]
    refine aY (ea _ (.inl ?_))
    refine aL dc (fun ev cQ cj di => ?_)
    refine bL cj (fun eU cq cw cR cr => ?_)
    refine ws _ ?_
    obtain ⟨ag, ee, h⟩ := aF h
    obtain ⟨al, ei, h⟩ := aF h
    refine h3 ee (axi ag U _ ei) _ ?_
    refine aV h (fun dx h => ?_) (fun dx h => ?_)
    ·simp only [dx, ak.down]
     refine ws _ ?_
     exact aE (cw _ (.inl (aG [.int .i64 cX])))
    ·simp only [dx, ak.down]
     refine aY (cq _ (cQ _ (.inl ?_)))
     refine wr _ ?_
     exact ep _ (.inr ⟨_, bu rfl, ft (IntKind.i64.wrap (cX + 1)) h⟩)
   ·simp only [bw, ak.down]
    refine dV (cP 0 _ (bH 0 _ (bt _ (bU _ (.inl ?_)))))
    refine ws _ ?_
    exact aE (an _ (.inl (aG [.int .i64 (-1)])))
 obtain ⟨n, h⟩ := dQ h
 exact dW (.inr ⟨_, bu rfl, fA n 0 h⟩)
theorem axk (a0 : List dq) (U : eo) (r : Bool) (h : Cu a0 U = some r) : bm aD 157 [.slice (a0.map fp), .fn 158 [.ref (hp U)]] (.bool r) [] := by
 refine bX [0, 1] [.tmp 4] Tryz.func157 alz (fun bT an bS => ?_)
 refine ws _ ?_
 obtain ⟨ag, aW, h⟩ := aF h
 refine dC (axj a0 U _ aW) _ ?_
 exact aE (an _ (.inl (aG [.bool (decide (0 ≤ ag))])))
theorem O8 (a0 : List UInt8) (r : Bool) (h : cmp_isNaN_string a0 = some r) : bm aD 299 [.str a0] (.bool r) [] := by
 refine bX [0] [.tmp 2] Tryz.func299 alC (fun bT an bS => ?_)
 refine ws _ ?_
 refine ws _ ?_
 exact aE (an _ (.inl (aG [.bool false])))
theorem axl (a0 : List UInt8) (U : List UInt8) (r : Int) (h : Cv a0 U = some r) : bm aD 289 [.str a0, .str U] (.int .i64 r) [] := by
 refine bX [0, 1] [.tmp 4] Tryz.func289 alW (fun bT an bS => ?_)
 refine ws _ ?_
 obtain ⟨ag, aW, h⟩ := aF h
 refine dC (O8 a0 _ aW) _ ?_
 obtain ⟨al, cZ, h⟩ := aF h
 refine dC (O8 U _ cZ) _ ?_
 refine aL an (fun fk dy dv bE => ?_)
 refine ws _ ?_
 refine aV h (fun bw h => ?_) (fun bw h => ?_)
 ·simp only [bw, ak.down]
  refine aL dv (fun ev cQ cj di => ?_)
  refine ws _ ?_
  refine aV h (fun iT h => ?_) (fun iT h => ?_)
  ·simp only [iT, ak.down]
   refine ws _ ?_
   exact aE (cj _ (.inl (aG [.int .i64 0])))
  ·simp only [iT, ak.down]
   refine aY (cQ _ (.inl ?_))
   refine ws _ ?_
   exact aE (dv _ (.inl (aG [.int .i64 (-1)])))
 ·simp only [bw, ak.down]
  refine aY (dy _ (.inl ?_))
  refine aL an (fun iH fs fa ic => ?_)
  refine ws _ ?_
  refine aV h (fun j9 h => ?_) (fun j9 h => ?_)
  ·simp only [j9, ak.down]
   refine ws _ ?_
   exact aE (fa _ (.inl (aG [.int .i64 1])))
  ·simp only [j9, ak.down]
   refine aY (fs _ (.inl ?_))
   refine aL an (fun HE tX tY qK => ?_)
   refine ws _ ?_
   refine aV h (fun ew h => ?_) (fun ew h => ?_)
   ·simp only [ew, ak.down]
    refine ws _ ?_
    exact aE (tY _ (.inl (aG [.int .i64 (-1)])))
   ·simp only [ew, ak.down]
    refine aY (tX _ (.inl ?_))
    refine aL an (fun zC pd pe j5 => ?_)
    refine ws _ ?_
    refine aV h (fun ig h => ?_) (fun ig h => ?_)
    ·simp only [ig, ak.down]
     refine ws _ ?_
     exact aE (pe _ (.inl (aG [.int .i64 1])))
    ·simp only [ig, ak.down]
     refine aY (pd _ (.inl ?_))
     refine ws _ ?_
     exact aE (an _ (.inl (aG [.int .i64 0])))
theorem axm (a0 : List (List UInt8)) (U : List (List UInt8)) (r : Int) (h : Cw a0 U = some r) : bm aD 260 [.slice (a0.map bG), .slice (U.map bG)] (.int .i64 r) [] := by
 refine bX [0, 1] [.tmp 4] Tryz.func260 ame (fun bT an bS => ?_)
 refine ws _ ?_
 refine aL an (fun ef bU bj al => ?_)
 refine ws _ ?_
 refine bL bj (fun eb eI ch bt bs => ?_)
 have fA : ∀ (n : Nat) (m5 : Int), yY a0 U n m5 = some r → dE aD N_ eb (aa [(0, .slice (a0.map bG)), (1, .slice (U.map bG)), (9, .slice (a0.map bG)), (10, .int .i64 (a0.length : Int)), (11, .int .i64 m5)]) := by
  intro cB
  induction cB with
  | zero => intro m5 h; cases (show none = some r from h)
  | succ cB ft =>
   intro m5 h
   replace h : GW (yY a0 U cB) a0 U m5 = some r := h
   refine dX ch (fun hr ep dc bH => ?_)
   refine ws _ ?_
   refine aL dc (fun hD ea er cP => ?_)
   refine aV h (fun bw h => ?_) (fun bw h => ?_)
   ·simp only [bw, ak.down]
    refine aY (ea _ (.inl ?_))
    refine aL dc (fun ev cQ cj di => ?_)
    refine bL cj (fun eU cq cw cR cr => ?_)
    obtain ⟨ag, ey, h⟩ := aF h
    refine h2 ey _ ?_
    refine aL cw (fun ly hb gR jt => ?_)
    refine ws _ ?_
    refine aV h (fun dx h => ?_) (fun dx h => ?_)
    ·simp only [dx, ak.down]
     refine ws _ ?_
     exact aE (gR _ (.inl (aG [.int .i64 1])))
    ·simp only [dx, ak.down]
     refine aY (hb _ (.inl ?_))
     obtain ⟨al, e6, h⟩ := aF h
     refine h2 e6 _ ?_
     obtain ⟨aS, iW, h⟩ := aF h
     refine dC (axl ag al _ iW) _ ?_
     refine ws _ ?_
     refine aV h (fun mb h => ?_) (fun mb h => ?_)
     ·simp only [mb, ak.down]
      refine ws _ ?_
      exact aE (cw _ (.inl (aG [.int .i64 aS])))
     ·simp only [mb, ak.down]
      refine aY (cq _ (cQ _ (.inl ?_)))
      refine wr _ ?_
      exact ep _ (.inr ⟨_, bu rfl, ft (IntKind.i64.wrap (m5 + 1)) h⟩)
   ·simp only [bw, ak.down]
    refine dV (cP 0 _ (bH 0 _ (bt _ (bU _ (.inl ?_)))))
    refine aL an (fun aw6 HO DR zj => ?_)
    refine ws _ ?_
    refine aV h (fun lT h => ?_) (fun lT h => ?_)
    ·simp only [lT, ak.down]
     refine ws _ ?_
     exact aE (DR _ (.inl (aG [.int .i64 (-1)])))
    ·simp only [lT, ak.down]
     refine aY (HO _ (.inl ?_))
     refine ws _ ?_
     exact aE (an _ (.inl (aG [.int .i64 0])))
 obtain ⟨n, h⟩ := dQ h
 exact dW (.inr ⟨_, bu rfl, fA n 0 h⟩)
theorem axn (a0 : cc) (U : cc) (r : Int) (h : Cx a0 U = some r) : bm aD 214 [bx a0, bx U] (.int .i64 r) [] := by
 refine bX [0, 1] [.tmp 4] Tryz.func214 amh (fun bT an bS => ?_)
 refine ws _ ?_
 obtain ⟨ag, aW, h⟩ := aF h
 refine cN (bY [(4, .int .i64 ag)] (fun P ai => ?_) ?_)
 ·simp only [aN.down, simprocAttr, e0, lx, m3, bx, bG, (show ∀ s, eW aD s 25 2 [(0, .str a0.Left), (1, .str a0.cp)] = some (.ao 1 [.str a0.Left, .str a0.cp], s) from fun s => by kernel_rfl), (show ∀ s, eW aD s 25 2 [(0, .str U.Left), (1, .str U.cp)] = some (.ao 1 [.str U.Left, .str U.cp], s) from fun s => by kernel_rfl)]
  refine eC (axm [a0.Left, a0.cp] [U.Left, U.cp] _ aW) rfl rfl (by simp only [aN.down, simprocAttr, e0, lx, m3, bx, bG, (show ∀ s, eW aD s 25 2 [(0, .str a0.Left), (1, .str a0.cp)] = some (.ao 1 [.str a0.Left, .str a0.cp], s) from fun s => by kernel_rfl), (show ∀ s, eW aD s 25 2 [(0, .str U.Left), (1, .str U.cp)] = some (.ao 1 [.str U.Left, .str U.cp], s) from fun s => by kernel_rfl), fV, fW, fX, dj, I.shares, @bR _ bG bG (fun _ => ie _), @bR _ bG bG (fun _ => ie _)] <;> rfl) rfl (.inr (by rfl)) ?_
  simp only [aN.down, simprocAttr, e0, lx, m3, bx, bG, (show ∀ s, eW aD s 25 2 [(0, .str a0.Left), (1, .str a0.cp)] = some (.ao 1 [.str a0.Left, .str a0.cp], s) from fun s => by kernel_rfl), (show ∀ s, eW aD s 25 2 [(0, .str U.Left), (1, .str U.cp)] = some (.ao 1 [.str U.Left, .str U.cp], s) from fun s => by kernel_rfl)]
  (try simp only [bh.down, simprocAttr, bx, bG, (show ∀ s, eW aD s 25 2 [(0, .str a0.Left), (1, .str a0.cp)] = some (.ao 1 [.str a0.Left, .str a0.cp], s) from fun s => by kernel_rfl), (show ∀ s, eW aD s 25 2 [(0, .str U.Left), (1, .str U.cp)] = some (.ao 1 [.str U.Left, .str U.cp], s) from fun s => by kernel_rfl)] at ai ⊢); exact ai
 exact aE (an _ (.inl (aG [.int .i64 ag])))
theorem axo (a0 : cc) (U : cc) (r : Bool) (h : GX a0 U = some r) : bm aD 216 [bx a0, .ref (bx U)] (.bool r) [] := by
 refine bX [0, 1] [.tmp 3] Tryz.func216 amk (fun bT an bS => ?_)
 refine ws _ ?_
 refine cN (bY [(3, .bool ((a0.Left == U.Result) || (a0.cp == U.Result)))] (fun P ai => ?_) ?_)
 ·rcases Bool.eq_false_or_eq_true (a0.Left == U.Result) with fo | fo
  ·simp only [aN.down, simprocAttr, nL.down, fo]
   (try simp only [bh.down, simprocAttr, bx, fo] at ai ⊢); exact ai
  ·simp only [aN.down, simprocAttr, nL.down, fo]
   (try simp only [bh.down, simprocAttr, bx, fo] at ai ⊢); exact ai
 exact aE (an _ (.inl (aG [.bool ((a0.Left == U.Result) || (a0.cp == U.Result))])))
theorem axp (a0 : List cc) (U : cc) (r : Int) (h : GY a0 U = some r) : bm aD 261 [.slice (a0.map bx), .fn 216 [.ref (bx U)]] (.int .i64 r) [] := by
 refine bX [0, 1] [.tmp 4] Tryz.func261 amv (fun bT an bS => ?_)
 refine ws _ ?_
 refine aL an (fun ef bU bj al => ?_)
 refine ws _ ?_
 refine bL bj (fun eb eI ch bt bs => ?_)
 have fA : ∀ (n : Nat) (cX : Int), wb a0 U n cX = some r → dE aD Oa eb (aa [(0, .slice (a0.map bx)), (1, .fn 216 [.ref (bx U)]), (7, .int .i64 (a0.length : Int)), (8, .int .i64 cX)]) := by
  intro cB
  induction cB with
  | zero => intro cX h; cases (show none = some r from h)
  | succ cB ft =>
   intro cX h
   replace h : Cy (wb a0 U cB) a0 U cX = some r := h
   refine dX ch (fun hr ep dc bH => ?_)
   refine ws _ ?_
   refine aL dc (fun hD ea er cP => ?_)
   refine aV h (fun bw h => ?_) (fun bw h => ?_)
   ·simp only [bw, ak.down]
    refine aY (ea _ (.inl ?_))
    refine aL dc (fun ev cQ cj di => ?_)
    refine bL cj (fun eU cq cw cR cr => ?_)
    refine ws _ ?_
    obtain ⟨ag, ee, h⟩ := aF h
    obtain ⟨al, ei, h⟩ := aF h
    refine h3 ee (axo ag U _ ei) _ ?_
    refine aV h (fun dx h => ?_) (fun dx h => ?_)
    ·simp only [dx, ak.down]
     refine ws _ ?_
     exact aE (cw _ (.inl (aG [.int .i64 cX])))
    ·simp only [dx, ak.down]
     refine aY (cq _ (cQ _ (.inl ?_)))
     refine wr _ ?_
     exact ep _ (.inr ⟨_, bu rfl, ft (IntKind.i64.wrap (cX + 1)) h⟩)
   ·simp only [bw, ak.down]
    refine dV (cP 0 _ (bH 0 _ (bt _ (bU _ (.inl ?_)))))
    refine ws _ ?_
    exact aE (an _ (.inl (aG [.int .i64 (-1)])))
 obtain ⟨n, h⟩ := dQ h
 exact dW (.inr ⟨_, bu rfl, fA n 0 h⟩)
theorem O9 (a0 : List cc) (U : cc) (r : Bool) (h : yZ a0 U = some r) : bm aD 215 [.slice (a0.map bx), .fn 216 [.ref (bx U)]] (.bool r) [] := by
 refine bX [0, 1] [.tmp 4] Tryz.func215 amy (fun bT an bS => ?_)
 refine ws _ ?_
 obtain ⟨ag, aW, h⟩ := aF h
 refine dC (axp a0 U _ aW) _ ?_
 exact aE (an _ (.inl (aG [.bool (decide (0 ≤ ag))])))
end Go.Proofs.YtocllehpepigpaaGreat
