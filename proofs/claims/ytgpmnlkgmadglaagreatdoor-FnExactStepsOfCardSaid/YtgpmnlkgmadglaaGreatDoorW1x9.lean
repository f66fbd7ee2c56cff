/- Part of a proof that a law returns true for every input. No condition. -/
import Derived.Test.YtgpmnlkgmadglaaGreatDoorSl
namespace Go.Proofs.YtgpmnlkgmadglaaGreatDoor
open Go Go.cY Go.eR
set_option maxRecDepth 100000
set_option maxHeartbeats 4600000
set_option linter.unusedSimpArgs false
set_option linter.unusedVariables false
theorem b_ (fx : List Nat) (eY : List ResultVar) {f : FuncId} {fn : Func} {c : Code} {dh : J} {ins outs : List I} {r : I} (bz : aA.P.funcs[f]? = some fn) (ab : bu ⟨fn.ntmps, fx⟩ c = some dh.strip)
 (Gs : ∀ Q : Exit → al → Prop, (∀ s, dY (cY.Ends aA fx eY r outs) s → Q .ret s) → (∀ s, dY (cY.Ends aA fx eY r outs) s → Q .normal s) → cy aA dh Q (U (num 0 ins))) (aa : fn.body = some c := by rfl) (k6 : (fn.name == "runtime.NumGoroutine") = false := by rfl) (bc : ins.length ≤ fn.ntmps := by exact Nat.le_of_ble_eq_true rfl) (ha : fn.results.toList = eY := by rfl) (aw : dh.plain = true := by kernel_rfl) : bm aA f ins r outs :=
 bm.Hh Hi eY (num 0 ins) bz aa k6 ab bc ha rfl Gs aw
def kR := PLift.up (And.intro @dm (And.intro @qB (And.intro @y3 (And.intro @eU (And.intro @gE (And.intro @B4 (And.intro @B5 (And.intro @wI (And.intro @qC (And.intro @ib (And.intro @y4 (And.intro @tX (And.intro @B6 (And.intro @jL (And.intro @l0 (And.intro @sy (And.intro @nT (And.intro @qD (And.intro @e_ (And.intro @fT (And.intro @Hk (And.intro @ht (And.intro @Hl (And.intro @Hm (And.intro @eV (And.intro @tY (And.intro @qE (And.intro @tZ (And.intro @nU (And.intro @Hn (And.intro @Ho (And.intro @gu.eq_1 (And.intro @aE.eq_1 (And.intro @bb.eq_1 (And.intro @bV.eq_1 (And.intro @eg.eq_1 (And.intro @b6.eq_1 (And.intro @bj.eq_1 (And.intro @uR (And.intro @dE.eq_1 (And.intro @gd.eq_1 (And.intro @fH.eq_1 (And.intro @i_.eq_1 (And.intro @fb.eq_1 (And.intro @iA.eq_1 (And.intro @cW.eq_1 (And.intro @fk.eq_1 (And.intro @jn.eq_1 (And.intro @kQ (And.intro @fI.eq_1 (And.intro @fl.eq_1 (And.intro @hC.eq_1 (And.intro @cQ.eq_1 (And.intro @DR (And.intro @h4.eq_1 @fA.eq_1)))))))))))))))))))))))))))))))))))))))))))))))))))))))
theorem ws {Q : Exit → al → Prop} {l : List (Nat × I)} {ros : List bU} {k : List Nat} {b : J} (dL : List (Nat × I)) (ar : cy aA b Q (U dL)) (h : ∀ P : List (Nat × I) → Prop, P dL → b9 aA (U l) ros none (fun _ s => P (hR k s)) := by
 intro P aj
 simp only [aP.down, simprocAttr, kR.down]
 (try simp only [bh.down, simprocAttr, kR.down] at aj ⊢)
 exact aj) : cy aA (.seq (.cd ros (some k)) b) Q (U l) :=
 cU (bT dL (h) ar)
theorem eA {Q : Exit → al → Prop} {l : List (Nat × I)} {ros : List bU} {k : List Nat} {b : J} {g : FuncId} {ds : List I} {r : I} (ok : bm aA g ds r []) (dL : List (Nat × I)) (ar : cy aA b Q (U dL)) (h : bm aA g ds r [] → ∀ P : List (Nat × I) → Prop, P dL → b9 aA (U l) ros none (fun _ s => P (hR k s)) := by
 intro uT P aj
 (try simp only [aP.down, simprocAttr, kR.down])
 refine eQ uT rfl rfl rfl rfl (.inl (by rfl)) ?_
 simp only [aP.down, simprocAttr, kR.down]
 (try simp only [bh.down, simprocAttr, kR.down] at aj ⊢)
 exact aj) : cy aA (.seq (.cd ros (some k)) b) Q (U l) :=
 cU (bT dL (h ok) ar)
theorem fm {F : Prop} (bG : F) {Q : Exit → al → Prop} {l : List (Nat × I)} {ros : List bU} {k : List Nat} {b : J} (dL : List (Nat × I)) (ar : cy aA b Q (U dL)) (h : F → ∀ P : List (Nat × I) → Prop, P dL → b9 aA (U l) ros none (fun _ s => P (hR k s)) := by
 intro bG P aj
 simp only [aP.down, simprocAttr, kR.down, bG]
 (try simp only [bh.down, simprocAttr, kR.down, bG] at aj ⊢)
 exact aj) : cy aA (.seq (.cd ros (some k)) b) Q (U l) :=
 cU (bT dL (h bG) ar)
theorem hD {F : Prop} (bG : F) {Q : Exit → al → Prop} {l : List (Nat × I)} {ros : List bU} {k : List Nat} {b : J} {g : FuncId} {ds : List I} {r : I} (ok : bm aA g ds r []) (dL : List (Nat × I)) (ar : cy aA b Q (U dL)) (h : bm aA g ds r [] → F → ∀ P : List (Nat × I) → Prop, P dL → b9 aA (U l) ros none (fun _ s => P (hR k s)) := by
 intro uT bG P aj
 (try simp only [aP.down, simprocAttr, kR.down, bG])
 refine eQ uT rfl rfl rfl rfl (.inl (by rfl)) ?_
 simp only [aP.down, simprocAttr, kR.down, bG]
 (try simp only [bh.down, simprocAttr, kR.down, bG] at aj ⊢)
 exact aj) : cy aA (.seq (.cd ros (some k)) b) Q (U l) :=
 cU (bT dL (h ok bG) ar)
theorem wr {Q : Exit → al → Prop} {l : List (Nat × I)} {ros : List bU} {k : List Nat} (dL : List (Nat × I)) (ar : Q .normal (U dL)) (h : ∀ P : List (Nat × I) → Prop, P dL → b9 aA (U l) ros none (fun _ s => P (hR k s)) := by
 intro P aj
 simp only [aP.down, simprocAttr, kR.down]
 (try simp only [bh.down, simprocAttr, kR.down] at aj ⊢)
 exact aj) : cy aA (.cd ros (some k)) Q (U l) :=
 iY (bT dL (h) ar)
theorem asY {Q : Exit → al → Prop} {l : List (Nat × I)} {ros : List bU} {k : List Nat} {g : FuncId} {ds : List I} {r : I} (ok : bm aA g ds r []) (dL : List (Nat × I)) (ar : Q .normal (U dL)) (h : bm aA g ds r [] → ∀ P : List (Nat × I) → Prop, P dL → b9 aA (U l) ros none (fun _ s => P (hR k s)) := by
 intro uT P aj
 (try simp only [aP.down, simprocAttr, kR.down])
 refine eQ uT rfl rfl rfl rfl (.inl (by rfl)) ?_
 simp only [aP.down, simprocAttr, kR.down]
 (try simp only [bh.down, simprocAttr, kR.down] at aj ⊢)
 exact aj) : cy aA (.cd ros (some k)) Q (U l) :=
 iY (bT dL (h ok) ar)
theorem Ps {F : Prop} (bG : F) {Q : Exit → al → Prop} {l : List (Nat × I)} {ros : List bU} {k : List Nat} (dL : List (Nat × I)) (ar : Q .normal (U dL)) (h : F → ∀ P : List (Nat × I) → Prop, P dL → b9 aA (U l) ros none (fun _ s => P (hR k s)) := by
 intro bG P aj
 simp only [aP.down, simprocAttr, kR.down, bG]
 (try simp only [bh.down, simprocAttr, kR.down, bG] at aj ⊢)
 exact aj) : cy aA (.cd ros (some k)) Q (U l) :=
 iY (bT dL (h bG) ar)
theorem H5 {F : Prop} (bG : F) {Q : Exit → al → Prop} {l : List (Nat × I)} {ros : List bU} {k : List Nat} {g : FuncId} {ds : List I} {r : I} (ok : bm aA g ds r []) (dL : List (Nat × I)) (ar : Q .normal (U dL)) (h : bm aA g ds r [] → F → ∀ P : List (Nat × I) → Prop, P dL → b9 aA (U l) ros none (fun _ s => P (hR k s)) := by
 intro uT bG P aj
 (try simp only [aP.down, simprocAttr, kR.down, bG])
 refine eQ uT rfl rfl rfl rfl (.inl (by rfl)) ?_
 simp only [aP.down, simprocAttr, kR.down, bG]
 (try simp only [bh.down, simprocAttr, kR.down, bG] at aj ⊢)
 exact aj) : cy aA (.cd ros (some k)) Q (U l) :=
 iY (bT dL (h ok bG) ar)
def ig := PLift.up (And.intro @bb.eq_1 (And.intro @bV.eq_1 (And.intro @bj.eq_1 @cW.eq_1)))
def jo := PLift.up (And.intro @dm (And.intro @eU (And.intro @qC (And.intro @jL (And.intro @l0 (And.intro @e_ (And.intro @fT (And.intro @ht (And.intro @eV (And.intro @bb.eq_1 (And.intro @bV.eq_1 (And.intro @bj.eq_1 @cW.eq_1))))))))))))
def kx := PLift.up (And.intro @aE.eq_1 (And.intro @eg.eq_1 (And.intro @b6.eq_1 (And.intro @bj.eq_1 (And.intro @gd.eq_1 (And.intro @fH.eq_1 (And.intro @i_.eq_1 (And.intro @fb.eq_1 (And.intro @fk.eq_1 (And.intro @fI.eq_1 (And.intro @fl.eq_1 (And.intro @hC.eq_1 (And.intro @cQ.eq_1 @fA.eq_1)))))))))))))
def kS := PLift.up (And.intro @aE.eq_1 (And.intro @bb.eq_1 (And.intro @bV.eq_1 (And.intro @eg.eq_1 (And.intro @b6.eq_1 (And.intro @bj.eq_1 @cW.eq_1))))))
def lI := PLift.up (And.intro @aE.eq_1 (And.intro @bb.eq_1 (And.intro @bV.eq_1 (And.intro @bj.eq_1 (And.intro @cW.eq_1 (And.intro @hC.eq_1 @cQ.eq_1))))))
def l3 := PLift.up (And.intro @dm (And.intro @gE @aE.eq_1))
def l4 := PLift.up (And.intro @aE.eq_1 (And.intro @eg.eq_1 (And.intro @b6.eq_1 (And.intro @gd.eq_1 (And.intro @fH.eq_1 (And.intro @i_.eq_1 (And.intro @fb.eq_1 (And.intro @fk.eq_1 (And.intro @hC.eq_1 @cQ.eq_1)))))))))
def nt := PLift.up (And.intro @bV.eq_1 (And.intro @bj.eq_1 @cW.eq_1))
def nu := PLift.up (And.intro @aE.eq_1 (And.intro @bb.eq_1 (And.intro @bV.eq_1 (And.intro @eg.eq_1 (And.intro @bj.eq_1 @cW.eq_1)))))
def n1 := PLift.up (And.intro @dm (And.intro @e_ (And.intro @eV @bj.eq_1)))
def n2 := PLift.up (And.intro @bb.eq_1 (And.intro @bV.eq_1 (And.intro @bj.eq_1 (And.intro @dE.eq_1 @cW.eq_1))))
def oT := PLift.up (And.intro @dm (And.intro @eU (And.intro @e_ (And.intro @fT (And.intro @ht (And.intro @eV (And.intro @bV.eq_1 (And.intro @bj.eq_1 @cW.eq_1))))))))
def qK := PLift.up (And.intro @dm (And.intro @eU (And.intro @jL (And.intro @l0 (And.intro @e_ (And.intro @fT (And.intro @ht (And.intro @eV (And.intro @bb.eq_1 (And.intro @bV.eq_1 (And.intro @bj.eq_1 @cW.eq_1)))))))))))
def qL := PLift.up (And.intro @dm (And.intro @gE (And.intro @ib (And.intro @aE.eq_1 (And.intro @bb.eq_1 (And.intro @bV.eq_1 (And.intro @eg.eq_1 (And.intro @bj.eq_1 @cW.eq_1))))))))
def qM := PLift.up (And.intro @dm (And.intro @gE (And.intro @ib (And.intro @aE.eq_1 @eg.eq_1))))
def qN := PLift.up (And.intro @dm (And.intro @eU (And.intro @qC (And.intro @jL (And.intro @l0 (And.intro @e_ (And.intro @fT (And.intro @ht (And.intro @eV (And.intro @bb.eq_1 (And.intro @bV.eq_1 (And.intro @bj.eq_1 (And.intro @dE.eq_1 @cW.eq_1)))))))))))))
def qO := PLift.up (And.intro @dm (And.intro @Hm (And.intro @eV (And.intro @Hn (And.intro @Ho (And.intro @aE.eq_1 (And.intro @bj.eq_1 @uR)))))))
def qP := PLift.up (And.intro @dm (And.intro @gE (And.intro @B5 (And.intro @aE.eq_1 (And.intro @eg.eq_1 (And.intro @b6.eq_1 (And.intro @bj.eq_1 (And.intro @gd.eq_1 (And.intro @fH.eq_1 (And.intro @i_.eq_1 (And.intro @fb.eq_1 (And.intro @fk.eq_1 (And.intro @fI.eq_1 (And.intro @fl.eq_1 (And.intro @hC.eq_1 (And.intro @cQ.eq_1 @fA.eq_1))))))))))))))))
def rD := PLift.up (And.intro @dm (And.intro @eU (And.intro @gE (And.intro @wI (And.intro @ib (And.intro @sy (And.intro @aE.eq_1 (And.intro @eg.eq_1 @b6.eq_1))))))))
def sQ := PLift.up (And.intro @aE.eq_1 (And.intro @hC.eq_1 @cQ.eq_1))
def sR := PLift.up (And.intro @dm (And.intro @gE (And.intro @B5 (And.intro @aE.eq_1 (And.intro @bb.eq_1 (And.intro @bV.eq_1 (And.intro @eg.eq_1 (And.intro @b6.eq_1 (And.intro @bj.eq_1 (And.intro @gd.eq_1 (And.intro @fH.eq_1 (And.intro @i_.eq_1 (And.intro @fb.eq_1 (And.intro @cW.eq_1 @fk.eq_1))))))))))))))
def sS := PLift.up (And.intro @aE.eq_1 (And.intro @eg.eq_1 (And.intro @b6.eq_1 (And.intro @hC.eq_1 @cQ.eq_1))))
def uU := PLift.up (And.intro @dm (And.intro @eU (And.intro @jL (And.intro @e_ (And.intro @fT (And.intro @ht (And.intro @eV (And.intro @bj.eq_1 (And.intro @fl.eq_1 @fA.eq_1)))))))))
def uV := PLift.up (And.intro @dm (And.intro @eU (And.intro @gE (And.intro @wI (And.intro @ib (And.intro @sy (And.intro @aE.eq_1 (And.intro @hC.eq_1 @cQ.eq_1))))))))
def w_ := PLift.up (And.intro @dm (And.intro @eU (And.intro @gE (And.intro @ib (And.intro @sy (And.intro @e_ (And.intro @fT (And.intro @ht (And.intro @eV (And.intro @aE.eq_1 (And.intro @bV.eq_1 (And.intro @eg.eq_1 (And.intro @b6.eq_1 (And.intro @bj.eq_1 @cW.eq_1))))))))))))))
def xa := PLift.up (And.intro @dm (And.intro @eU (And.intro @gE (And.intro @ib (And.intro @sy (And.intro @aE.eq_1 (And.intro @bb.eq_1 (And.intro @bV.eq_1 (And.intro @bj.eq_1 (And.intro @cW.eq_1 (And.intro @hC.eq_1 @cQ.eq_1)))))))))))
def xb := PLift.up (And.intro @dm (And.intro @eU (And.intro @qC (And.intro @jL (And.intro @l0 (And.intro @e_ (And.intro @fT (And.intro @ht (And.intro @eV (And.intro @bj.eq_1 (And.intro @fI.eq_1 (And.intro @fl.eq_1 @fA.eq_1))))))))))))
def z8 := PLift.up (And.intro @dm (And.intro @eU (And.intro @e_ (And.intro @fT (And.intro @ht (And.intro @eV (And.intro @bb.eq_1 (And.intro @bV.eq_1 (And.intro @bj.eq_1 @cW.eq_1)))))))))
def z_ := PLift.up (And.intro @aE.eq_1 (And.intro @eg.eq_1 @b6.eq_1))
def Aa := PLift.up (And.intro @dm (And.intro @gE (And.intro @aE.eq_1 (And.intro @bb.eq_1 (And.intro @bV.eq_1 (And.intro @eg.eq_1 (And.intro @b6.eq_1 (And.intro @bj.eq_1 @cW.eq_1))))))))
def Ab := PLift.up (And.intro @bV.eq_1 (And.intro @bj.eq_1 (And.intro @dE.eq_1 @cW.eq_1)))
def Ac := PLift.up (And.intro @dm (And.intro @eU (And.intro @gE (And.intro @qC (And.intro @ib (And.intro @jL (And.intro @l0 (And.intro @e_ (And.intro @fT (And.intro @ht (And.intro @eV (And.intro @aE.eq_1 (And.intro @bb.eq_1 (And.intro @bV.eq_1 (And.intro @eg.eq_1 (And.intro @bj.eq_1 @cW.eq_1))))))))))))))))
def Ad := PLift.up (And.intro @dm (And.intro @qB (And.intro @eU (And.intro @gE (And.intro @ib (And.intro @jL (And.intro @l0 (And.intro @e_ (And.intro @fT (And.intro @ht (And.intro @eV (And.intro @qE (And.intro @tZ (And.intro @aE.eq_1 (And.intro @bb.eq_1 (And.intro @bV.eq_1 (And.intro @eg.eq_1 (And.intro @bj.eq_1 (And.intro @dE.eq_1 @cW.eq_1)))))))))))))))))))
def Ae := PLift.up (And.intro @aE.eq_1 (And.intro @bj.eq_1 @DR))
def Af := PLift.up (And.intro @dm (And.intro @gE (And.intro @aE.eq_1 (And.intro @bb.eq_1 (And.intro @bV.eq_1 (And.intro @bj.eq_1 (And.intro @cW.eq_1 (And.intro @hC.eq_1 @cQ.eq_1))))))))
def DT := PLift.up (And.intro @dm (And.intro @eU (And.intro @jL (And.intro @e_ (And.intro @fT (And.intro @ht (And.intro @eV (And.intro @bV.eq_1 (And.intro @bj.eq_1 @cW.eq_1)))))))))
def DU := PLift.up (And.intro @dm (And.intro @eU (And.intro @gE (And.intro @ib (And.intro @jL (And.intro @l0 (And.intro @e_ (And.intro @fT (And.intro @ht (And.intro @eV (And.intro @aE.eq_1 (And.intro @bb.eq_1 (And.intro @bV.eq_1 (And.intro @eg.eq_1 (And.intro @bj.eq_1 @cW.eq_1)))))))))))))))
def DV := PLift.up (And.intro @dm (And.intro @qB (And.intro @eU (And.intro @e_ (And.intro @fT (And.intro @ht (And.intro @eV (And.intro @qE (And.intro @bV.eq_1 (And.intro @bj.eq_1 (And.intro @dE.eq_1 @cW.eq_1)))))))))))
def DW := PLift.up (And.intro @dm (And.intro @eU (And.intro @e_ (And.intro @fT (And.intro @ht (And.intro @eV (And.intro @bb.eq_1 (And.intro @bV.eq_1 (And.intro @bj.eq_1 (And.intro @dE.eq_1 @cW.eq_1))))))))))
def DX := PLift.up (And.intro @dm (And.intro @eU (And.intro @e_ (And.intro @fT (And.intro @ht (And.intro @eV (And.intro @aE.eq_1 (And.intro @bb.eq_1 (And.intro @bV.eq_1 (And.intro @bj.eq_1 (And.intro @cW.eq_1 (And.intro @hC.eq_1 @cQ.eq_1))))))))))))
def DY := PLift.up (And.intro @dm (And.intro @eU (And.intro @jL (And.intro @l0 (And.intro @e_ (And.intro @fT (And.intro @ht (And.intro @eV (And.intro @aE.eq_1 (And.intro @bb.eq_1 (And.intro @bV.eq_1 (And.intro @bj.eq_1 (And.intro @cW.eq_1 (And.intro @hC.eq_1 @cQ.eq_1))))))))))))))
def DZ := PLift.up (And.intro @bj.eq_1 (And.intro @fl.eq_1 @fA.eq_1))
def D0 := PLift.up (And.intro @dm (And.intro @gE (And.intro @B5 (And.intro @ib (And.intro @aE.eq_1 (And.intro @eg.eq_1 (And.intro @b6.eq_1 (And.intro @bj.eq_1 (And.intro @gd.eq_1 (And.intro @fH.eq_1 (And.intro @i_.eq_1 (And.intro @fb.eq_1 (And.intro @fk.eq_1 (And.intro @fI.eq_1 (And.intro @fl.eq_1 (And.intro @hC.eq_1 (And.intro @cQ.eq_1 @fA.eq_1)))))))))))))))))
def H6 := PLift.up (And.intro @dm (And.intro @eU (And.intro @gE (And.intro @wI (And.intro @ib (And.intro @sy (And.intro @aE.eq_1 (And.intro @bb.eq_1 (And.intro @bV.eq_1 (And.intro @eg.eq_1 (And.intro @b6.eq_1 (And.intro @bj.eq_1 @cW.eq_1))))))))))))
def H7 := PLift.up (And.intro @dm (And.intro @qB (And.intro @qE (And.intro @NC (And.intro @bb.eq_1 (And.intro @bV.eq_1 (And.intro @bj.eq_1 (And.intro @dE.eq_1 @cW.eq_1))))))))
def H8 := PLift.up (And.intro @dm (And.intro @qB (And.intro @eU (And.intro @jL (And.intro @l0 (And.intro @e_ (And.intro @fT (And.intro @ht (And.intro @eV (And.intro @qE (And.intro @NC (And.intro @bb.eq_1 (And.intro @bV.eq_1 (And.intro @bj.eq_1 (And.intro @dE.eq_1 @cW.eq_1)))))))))))))))
def H9 := PLift.up (And.intro @dm (And.intro @eU (And.intro @e_ (And.intro @fT (And.intro @ht (And.intro @eV (And.intro @bV.eq_1 (And.intro @bj.eq_1 (And.intro @dE.eq_1 @cW.eq_1)))))))))
def H_ := PLift.up (And.intro @dm (And.intro @eU (And.intro @gE (And.intro @wI (And.intro @qC (And.intro @ib (And.intro @jL (And.intro @l0 (And.intro @sy (And.intro @e_ (And.intro @fT (And.intro @Hk (And.intro @ht (And.intro @Hl (And.intro @eV (And.intro @aE.eq_1 (And.intro @bb.eq_1 (And.intro @bV.eq_1 (And.intro @bj.eq_1 (And.intro @cW.eq_1 (And.intro @hC.eq_1 @cQ.eq_1)))))))))))))))))))))
def Ia := PLift.up (And.intro @dm (And.intro @gE (And.intro @ib (And.intro @aE.eq_1 (And.intro @bb.eq_1 (And.intro @bV.eq_1 (And.intro @eg.eq_1 (And.intro @bj.eq_1 (And.intro @cW.eq_1 (And.intro @hC.eq_1 @cQ.eq_1))))))))))
def Ib := PLift.up (And.intro @dm (And.intro @gE (And.intro @ib (And.intro @aE.eq_1 (And.intro @eg.eq_1 (And.intro @b6.eq_1 (And.intro @bj.eq_1 (And.intro @gd.eq_1 (And.intro @fH.eq_1 (And.intro @i_.eq_1 (And.intro @fb.eq_1 (And.intro @fk.eq_1 (And.intro @fI.eq_1 (And.intro @fl.eq_1 (And.intro @hC.eq_1 (And.intro @cQ.eq_1 @fA.eq_1))))))))))))))))
def Ic := PLift.up (And.intro @dm (And.intro @gE (And.intro @ib (And.intro @aE.eq_1 (And.intro @eg.eq_1 (And.intro @b6.eq_1 (And.intro @gd.eq_1 (And.intro @fH.eq_1 (And.intro @i_.eq_1 (And.intro @fb.eq_1 (And.intro @fk.eq_1 (And.intro @hC.eq_1 @cQ.eq_1))))))))))))
theorem asZ (a0 : List hp) (R : Int) (r : Int) (h : y6 a0 R = some r) : bm aA 181 [.slice (a0.map fb), .int .i64 R] (.int .i64 r) [] := by
 refine b_ [0] [.tmp 4] Tryz.func181 Xq (fun b7 aC bY => ?_)
 refine ws _ ?_
 refine ws _ ?_
 refine aX aC (fun l5 hL dQ a6 => ?_)
 refine ws _ ?_
 refine a8 h (fun c8 h => ?_) (fun c8 h => ?_)
 ·refine ws _ ?_
  exact aM (dQ _ (.inl (aQ [.int .i64 (-1)])))
 ·refine bk (hL _ (.inl ?_))
  refine ws _ ?_
  exact aM (aC _ (.inl (aQ [.int .i64 (IntKind.i64.wrap (R - (a0.length : Int)))])))
theorem as0 (a0 : List (List hp)) (R : Int) (r : Int) (h : B9 a0 R = some r) : bm aA 182 [.slice (a0.map fk), .int .i64 R] (.int .i64 r) [] := by
 refine b_ [0] [.tmp 4] Tryz.func182 XF (fun b7 aC bY => ?_)
 refine ws _ ?_
 refine ws _ ?_
 refine aX aC (fun l5 hL dQ a6 => ?_)
 refine ws _ ?_
 refine a8 h (fun c8 h => ?_) (fun c8 h => ?_)
 ·refine ws _ ?_
  exact aM (dQ _ (.inl (aQ [.int .i64 (-1)])))
 ·refine bk (hL _ (.inl ?_))
  refine aX aC (fun j5 fo fE ch => ?_)
  refine ws _ ?_
  refine b5 fE (fun e0 dw c0 fU dk => ?_)
  have l6 : ∀ (n : Nat) (gY : Int) (gb : Int), B8 a0 n gY gb = some r → ei aA N8 e0 (U [(0, .slice (a0.map fk)), (1, .int .i64 gY), (5, .int .i64 gb)]) := by
   intro m16
   induction m16 with
   | zero => intro gY gb h; cases (show none = some r from h)
   | succ m16 l7 =>
    intro gY gb h
    replace h : ND (B8 a0 m16) a0 gY gb = some r := h
    refine eG c0 (fun gi c1 dc dt => ?_)
    refine aX dc (fun kT gD hT eW => ?_)
    refine ws _ ?_
    refine a8 h (fun fV h => ?_) (fun fV h => ?_)
    ·refine bk (gD _ (.inl ?_))
     refine aX dc (fun kh gG gH gP => ?_)
     refine b5 gH (fun mV iQ ja fJ hK => ?_)
     obtain ⟨ah, eI, h⟩ := aG h
     obtain ⟨ak, gj, h⟩ := aG h
     refine hD eI (asZ ah gY _ gj) _ ?_
     refine ws _ ?_
     refine a8 h (fun ki h => ?_) (fun ki h => ?_)
     ·refine ws _ ?_
      exact aM (ja _ (.inl (aQ [.int .i64 (-1)])))
     ·refine bk (iQ _ (gG _ (.inl ?_)))
      refine wr _ ?_
      exact c1 _ (.inr ⟨_, bH rfl, l7 ak (IntKind.i64.wrap (gb + 1)) h⟩)
    ·refine eE (eW 0 _ (dt 0 _ (fU _ (fo _ (.inl ?_)))))
     refine ws _ ?_
     exact aM (aC _ (.inl (aQ [.int .i64 gY])))
  obtain ⟨n, h⟩ := ed h
  exact eF (.inr ⟨_, bH rfl, l6 n (IntKind.i64.wrap (R - (a0.length : Int))) 0 h⟩)
theorem as1 (a0 : iN) (R : Int) (r : Int) (h : y7 a0 R = some r) : bm aA 227 [fH a0, .int .i64 R] (.int .i64 r) [] := by
 refine b_ [0] [.tmp 4] Tryz.func227 XQ (fun b7 aC bY => ?_)
 refine ws _ ?_
 refine ws _ ?_
 refine aX aC (fun l5 hL dQ a6 => ?_)
 refine ws _ ?_
 refine a8 h (fun c8 h => ?_) (fun c8 h => ?_)
 ·refine ws _ ?_
  exact aM (dQ _ (.inl (aQ [.int .i64 (-1)])))
 ·refine bk (hL _ (.inl ?_))
  obtain ⟨ah, fF, h⟩ := aG h
  refine eA (as0 a0.bN (IntKind.i64.wrap (R - (a0.Name.length : Int))) _ fF) _ ?_
  refine aX aC (fun e0 dw c0 dk => ?_)
  refine ws _ ?_
  refine a8 h (fun pR h => ?_) (fun pR h => ?_)
  ·refine ws _ ?_
   exact aM (c0 _ (.inl (aQ [.int .i64 (-1)])))
  ·refine bk (dw _ (.inl ?_))
   refine ws _ ?_
   exact aM (aC _ (.inl (aQ [.int .i64 ah])))
theorem as2 (a0 : List iN) (R : Int) (r : Int) (h : Ca a0 R = some r) : bm aA 156 [.slice (a0.map fH), .int .i64 R] (.int .i64 r) [] := by
 refine b_ [0] [.tmp 4] Tryz.func156 X5 (fun b7 aC bY => ?_)
 refine ws _ ?_
 refine ws _ ?_
 refine aX aC (fun l5 hL dQ a6 => ?_)
 refine ws _ ?_
 refine a8 h (fun c8 h => ?_) (fun c8 h => ?_)
 ·refine ws _ ?_
  exact aM (dQ _ (.inl (aQ [.int .i64 (-1)])))
 ·refine bk (hL _ (.inl ?_))
  refine aX aC (fun j5 fo fE ch => ?_)
  refine ws _ ?_
  refine b5 fE (fun e0 dw c0 fU dk => ?_)
  have l6 : ∀ (n : Nat) (gY : Int) (gb : Int), B_ a0 n gY gb = some r → ei aA N9 e0 (U [(0, .slice (a0.map fH)), (1, .int .i64 gY), (5, .int .i64 gb)]) := by
   intro m16
   induction m16 with
   | zero => intro gY gb h; cases (show none = some r from h)
   | succ m16 l7 =>
    intro gY gb h
    replace h : NF (B_ a0 m16) a0 gY gb = some r := h
    refine eG c0 (fun gi c1 dc dt => ?_)
    refine aX dc (fun kT gD hT eW => ?_)
    refine ws _ ?_
    refine a8 h (fun fV h => ?_) (fun fV h => ?_)
    ·refine bk (gD _ (.inl ?_))
     refine aX dc (fun kh gG gH gP => ?_)
     refine b5 gH (fun mV iQ ja fJ hK => ?_)
     obtain ⟨ah, eI, h⟩ := aG h
     obtain ⟨ak, gj, h⟩ := aG h
     refine hD eI (as1 ah gY _ gj) _ ?_
     refine ws _ ?_
     refine a8 h (fun ki h => ?_) (fun ki h => ?_)
     ·refine ws _ ?_
      exact aM (ja _ (.inl (aQ [.int .i64 (-1)])))
     ·refine bk (iQ _ (gG _ (.inl ?_)))
      refine wr _ ?_
      exact c1 _ (.inr ⟨_, bH rfl, l7 ak (IntKind.i64.wrap (gb + 1)) h⟩)
    ·refine eE (eW 0 _ (dt 0 _ (fU _ (fo _ (.inl ?_)))))
     refine ws _ ?_
     exact aM (aC _ (.inl (aQ [.int .i64 gY])))
  obtain ⟨n, h⟩ := ed h
  exact eF (.inr ⟨_, bH rfl, l6 n (IntKind.i64.wrap (R - (a0.length : Int))) 0 h⟩)
theorem as3 (a0 : ic) (R : Int) (r : Int) (h : y8 a0 R = some r) : bm aA 94 [gd a0, .int .i64 R] (.int .i64 r) [] := by
 refine b_ [0] [.tmp 4] Tryz.func94 Yf (fun b7 aC bY => ?_)
 refine ws _ ?_
 refine ws _ ?_
 refine aX aC (fun l5 hL dQ a6 => ?_)
 refine ws _ ?_
 refine a8 h (fun c8 h => ?_) (fun c8 h => ?_)
 ·refine ws _ ?_
  exact aM (dQ _ (.inl (aQ [.int .i64 (-1)])))
 ·refine bk (hL _ (.inl ?_))
  obtain ⟨ah, fF, h⟩ := aG h
  refine eA (as2 a0.Body (IntKind.i64.wrap (R - (a0.Name.length : Int))) _ fF) _ ?_
  refine aX aC (fun e0 dw c0 dk => ?_)
  refine ws _ ?_
  refine a8 h (fun pR h => ?_) (fun pR h => ?_)
  ·refine ws _ ?_
   exact aM (c0 _ (.inl (aQ [.int .i64 (-1)])))
  ·refine bk (dw _ (.inl ?_))
   refine ws _ ?_
   exact aM (aC _ (.inl (aQ [.int .i64 ah])))
theorem as4 (a0 : List ic) (R : Int) (r : Int) (h : y9 a0 R = some r) : bm aA 43 [.slice (a0.map gd), .int .i64 R] (.int .i64 r) [] := by
 refine b_ [0] [.tmp 4] Tryz.func43 Yu (fun b7 aC bY => ?_)
 refine ws _ ?_
 refine ws _ ?_
 refine aX aC (fun l5 hL dQ a6 => ?_)
 refine ws _ ?_
 refine a8 h (fun c8 h => ?_) (fun c8 h => ?_)
 ·refine ws _ ?_
  exact aM (dQ _ (.inl (aQ [.int .i64 (-1)])))
 ·refine bk (hL _ (.inl ?_))
  refine aX aC (fun j5 fo fE ch => ?_)
  refine ws _ ?_
  refine b5 fE (fun e0 dw c0 fU dk => ?_)
  have l6 : ∀ (n : Nat) (gY : Int) (gb : Int), Cb a0 n gY gb = some r → ei aA N_ e0 (U [(0, .slice (a0.map gd)), (1, .int .i64 gY), (5, .int .i64 gb)]) := by
   intro m16
   induction m16 with
   | zero => intro gY gb h; cases (show none = some r from h)
   | succ m16 l7 =>
    intro gY gb h
    replace h : NG (Cb a0 m16) a0 gY gb = some r := h
    refine eG c0 (fun gi c1 dc dt => ?_)
    refine aX dc (fun kT gD hT eW => ?_)
    refine ws _ ?_
    refine a8 h (fun fV h => ?_) (fun fV h => ?_)
    ·refine bk (gD _ (.inl ?_))
     refine aX dc (fun kh gG gH gP => ?_)
     refine b5 gH (fun mV iQ ja fJ hK => ?_)
     obtain ⟨ah, eI, h⟩ := aG h
     obtain ⟨ak, gj, h⟩ := aG h
     refine hD eI (as3 ah gY _ gj) _ ?_
     refine ws _ ?_
     refine a8 h (fun ki h => ?_) (fun ki h => ?_)
     ·refine ws _ ?_
      exact aM (ja _ (.inl (aQ [.int .i64 (-1)])))
     ·refine bk (iQ _ (gG _ (.inl ?_)))
      refine wr _ ?_
      exact c1 _ (.inr ⟨_, bH rfl, l7 ak (IntKind.i64.wrap (gb + 1)) h⟩)
    ·refine eE (eW 0 _ (dt 0 _ (fU _ (fo _ (.inl ?_)))))
     refine ws _ ?_
     exact aM (aC _ (.inl (aQ [.int .i64 gY])))
  obtain ⟨n, h⟩ := ed h
  exact eF (.inr ⟨_, bH rfl, l6 n (IntKind.i64.wrap (R - (a0.length : Int))) 0 h⟩)
theorem as5 (a0 : List Int) (R : Int) (r : Int) (h : Cc a0 R = some r) : bm aA 64 [.slice (a0.map aE), .int .i64 R] (.int .i64 r) [] := by
 refine b_ [0] [.tmp 4] Tryz.func64 YB (fun b7 aC bY => ?_)
 refine ws _ ?_
 refine ws _ ?_
 refine aX aC (fun l5 hL dQ a6 => ?_)
 refine ws _ ?_
 refine a8 h (fun c8 h => ?_) (fun c8 h => ?_)
 ·refine ws _ ?_
  exact aM (dQ _ (.inl (aQ [.int .i64 (-1)])))
 ·refine bk (hL _ (.inl ?_))
  refine ws _ ?_
  exact aM (aC _ (.inl (aQ [.int .i64 (IntKind.i64.wrap (R - (a0.length : Int)))])))
theorem as6 (a0 : lE) (R : Int) (r : Int) (h : Cd a0 R = some r) : bm aA 44 [i_ a0, .int .i64 R] (.int .i64 r) [] := by
 refine b_ [0] [.tmp 4] Tryz.func44 YI (fun b7 aC bY => ?_)
 refine ws _ ?_
 obtain ⟨ah, aT, h⟩ := aG h
 refine eA (as5 a0.cD R _ aT) _ ?_
 refine aX aC (fun eB eS ca bl => ?_)
 refine ws _ ?_
 refine a8 h (fun ft h => ?_) (fun ft h => ?_)
 ·refine ws _ ?_
  exact aM (ca _ (.inl (aQ [.int .i64 (-1)])))
 ·refine bk (eS _ (.inl ?_))
  refine ws _ ?_
  exact aM (aC _ (.inl (aQ [.int .i64 ah])))
theorem as7 (a0 : hp) (r : ba) (h : y_ a0 = some r) : bm aA 256 [fb a0] (bj r) [] := by
 refine b_ [0] [.cell 2 278] Tryz.func256 YO (fun b7 aC bY => ?_)
 refine ws _ ?_
 refine ws _ ?_
 refine ws _ ?_
 refine ws _ ?_
 refine ws _ ?_
 exact aM (aC _ (.inl (aQ [bj (ba.mk a0.Kind a0.Value)])))
theorem as8 (a0 : List hp) (r : (List ba)) (h : za a0 = some r) : bm aA 188 [.slice (a0.map fb)] (.au 2 (r.map bj)) [] := by
 refine b_ [0] [.tmp 2] Tryz.func188 YX (fun b7 aC bY => ?_)
 refine ws _ ?_
 obtain ⟨D1, aT, h⟩ := aG h
 refine cU (bT [(0, .slice (a0.map fb)), (3, .au 2 ((List.replicate (Int.toNat (a0.length : Int)) (ba.mk 0 0)).map bj))] (fun P aj => ?_) ?_)
 ·simp only [aP.down, simprocAttr, dm, nT, e_, eV, nU, bj, fb, (gm aT).1, (gm aT).2.1, (gm aT).2.2, e7, List.map_replicate, -Int.reduceNatCast']
  (try simp only [bh.down, simprocAttr, bj, fb, (gm aT).1, (gm aT).2.1, (gm aT).2.2, e7, List.map_replicate, -Int.reduceNatCast'] at aj ⊢); exact aj
 refine aX aC (fun eB eS ca bl => ?_)
 refine ws [(0, .slice (a0.map fb)), (3, .au 2 ((List.replicate (Int.toNat (a0.length : Int)) (ba.mk 0 0)).map bj)), (4, .int .i64 0)] ?_
 refine b5 ca (fun gf dJ dW ft bL => ?_)
 have l8 : ∀ (n : Nat) (dr : List ba) (cT : Int), Ce a0 n dr cT = some r → ei aA Oa gf (U [(0, .slice (a0.map fb)), (3, .au 2 (dr.map bj)), (4, .int .i64 cT)]) := by
  intro m8
  induction m8 with
  | zero => intro dr cT h; cases (show none = some r from h)
  | succ m8 l9 =>
   intro dr cT h
   replace h : NH (Ce a0 m8) a0 dr cT = some r := h
   refine eG dW (fun j5 fo fE ch => ?_)
   refine aX fE (fun kj ky j6 dv => ?_)
   refine ws _ ?_
   refine a8 h (fun e8 h => ?_) (fun e8 h => ?_)
   ·refine bk (ky _ (.inl ?_))
    refine aX fE (fun kT gD hT eW => ?_)
    refine b5 hT (fun l_ iD kU fc iP => ?_)
    obtain ⟨ah, fB, h⟩ := aG h
    obtain ⟨ak, gx, h⟩ := aG h
    obtain ⟨a6, cF, h⟩ := aG h
    refine iY (bT [(0, .slice (a0.map fb)), (3, .au 2 ((List.set dr (Int.toNat cT) ak).map bj)), (4, .int .i64 cT)] (fun P aj => ?_) ?_)
    ·simp only [aP.down, simprocAttr, dm, nT, e_, eV, nU, bj, fb, fB, cF, dd cF, dD, eD]
     refine eQ (as7 ah _ gx) rfl rfl rfl rfl (.inl (by rfl)) ?_
     simp only [aP.down, simprocAttr, dm, nT, e_, eV, nU, bj, fb, fB, cF, dd cF, dD, eD]
     (try simp only [bh.down, simprocAttr, bj, fb, fB, cF, dd cF, dD, eD] at aj ⊢); exact aj
    refine iD _ (gD _ (.inl ?_))
    refine wr [(0, .slice (a0.map fb)), (3, .au 2 ((List.set dr (Int.toNat cT) ak).map bj)), (4, .int .i64 (IntKind.i64.wrap (cT + 1)))] ?_
    exact fo _ (.inr ⟨_, bH rfl, l9 (List.set dr (Int.toNat cT) ak) (IntKind.i64.wrap (cT + 1)) h⟩)
   ·refine eE (dv 0 _ (ch 0 _ (ft _ (eS _ (.inl ?_)))))
    refine ws _ ?_
    exact aM (aC _ (.inl (aQ [.au 2 (dr.map bj)])))
 obtain ⟨n, h⟩ := ed h
 exact eF (.inr ⟨_, bH rfl, l8 n (List.replicate (Int.toNat (a0.length : Int)) (ba.mk 0 0)) 0 h⟩)
theorem as9 (a0 : List (List hp)) (r : (List (List ba))) (h : Cg a0 = some r) : bm aA 189 [.slice (a0.map fk)] (.au 1 (r.map fA)) [] := by
 refine b_ [0] [.tmp 2] Tryz.func189 Y6 (fun b7 aC bY => ?_)
 refine ws _ ?_
 obtain ⟨D1, aT, h⟩ := aG h
 refine cU (bT [(0, .slice (a0.map fk)), (3, .au 1 (List.replicate (Int.toNat (a0.length : Int)) .bo))] (fun P aj => ?_) ?_)
 ·simp only [aP.down, simprocAttr, dm, nT, qD, e_, fT, eV, nU, fb, fk, (gm aT).1, (gm aT).2.1, (gm aT).2.2, e7, List.map_replicate, -Int.reduceNatCast']
  (try simp only [bh.down, simprocAttr, fb, fk, (gm aT).1, (gm aT).2.1, (gm aT).2.2, e7, List.map_replicate, -Int.reduceNatCast'] at aj ⊢); exact aj
 refine aX aC (fun eB eS ca bl => ?_)
 refine ws [(0, .slice (a0.map fk)), (3, .au 1 (List.replicate (Int.toNat (a0.length : Int)) .bo)), (4, .int .i64 0)] ?_
 refine b5 ca (fun gf dJ dW ft bL => ?_)
 have l8 : ∀ (n : Nat) (dr : List (List ba)) (cT : Int), Cf a0 n dr cT = some r → ei aA Ob gf (U [(0, .slice (a0.map fk)), (3, .au 1 (dr.map fA)), (4, .int .i64 cT)]) := by
  intro m8
  induction m8 with
  | zero => intro dr cT h; cases (show none = some r from h)
  | succ m8 l9 =>
   intro dr cT h
   replace h : NI (Cf a0 m8) a0 dr cT = some r := h
   refine eG dW (fun j5 fo fE ch => ?_)
   refine aX fE (fun kj ky j6 dv => ?_)
   refine ws _ ?_
   refine a8 h (fun e8 h => ?_) (fun e8 h => ?_)
   ·refine bk (ky _ (.inl ?_))
    refine aX fE (fun kT gD hT eW => ?_)
    refine b5 hT (fun l_ iD kU fc iP => ?_)
    obtain ⟨ah, fB, h⟩ := aG h
    obtain ⟨ak, gx, h⟩ := aG h
    obtain ⟨a6, cF, h⟩ := aG h
    refine iY (bT [(0, .slice (a0.map fk)), (3, .au 1 ((List.set dr (Int.toNat cT) ak).map fA)), (4, .int .i64 cT)] (fun P aj => ?_) ?_)
    ·simp only [aP.down, simprocAttr, dm, nT, qD, e_, fT, eV, nU, bj, fb, fk, fA, fB, cF, dd cF, dD, eD]
     refine eQ (as8 ah _ gx) rfl rfl rfl rfl (.inl (by rfl)) ?_
     simp only [aP.down, simprocAttr, dm, nT, qD, e_, fT, eV, nU, bj, fb, fk, fA, fB, cF, dd cF, dD, eD]
     (try simp only [bh.down, simprocAttr, bj, fb, fk, fA, fB, cF, dd cF, dD, eD] at aj ⊢); exact aj
    refine iD _ (gD _ (.inl ?_))
    refine wr [(0, .slice (a0.map fk)), (3, .au 1 ((List.set dr (Int.toNat cT) ak).map fA)), (4, .int .i64 (IntKind.i64.wrap (cT + 1)))] ?_
    exact fo _ (.inr ⟨_, bH rfl, l9 (List.set dr (Int.toNat cT) ak) (IntKind.i64.wrap (cT + 1)) h⟩)
   ·refine eE (dv 0 _ (ch 0 _ (ft _ (eS _ (.inl ?_)))))
    refine ws _ ?_
    exact aM (aC _ (.inl (aQ [.au 1 (dr.map fA)])))
 obtain ⟨n, h⟩ := ed h
 exact eF (.inr ⟨_, pF [] rfl (lC (t := 0) (d := .slice (a0.map fk)) rfl (pH (t := 3) (d := .au 1 (List.replicate (Int.toNat (a0.length : Int)) .bo)) (bx := .au 1 ((List.replicate (Int.toNat (a0.length : Int)) []).map fA)) rfl rfl (GP (u := fA) (z := []) (.ly _) _) (by decide) (lC (t := 4) (d := .int .i64 0) rfl (pG)))), l8 n (List.replicate (Int.toNat (a0.length : Int)) []) 0 h⟩)
theorem as_ (a0 : iN) (r : bs) (h : zb a0 = some r) : bm aA 235 [fH a0] (fl r) [] := by
 refine b_ [0] [.cell 2 230] Tryz.func235 Zd (fun b7 aC bY => ?_)
 refine ws _ ?_
 refine ws _ ?_
 refine ws _ ?_
 refine ws _ ?_
 refine ws _ ?_
 obtain ⟨ah, bO, h⟩ := aG h
 refine eA (as9 a0.bN _ bO) _ ?_
 refine ws _ ?_
 exact aM (aC _ (.inl (aQ [fl (bs.mk a0.Kind a0.Number a0.Name ah)])))
theorem ata (a0 : List iN) (r : (List bs)) (h : Ci a0 = some r) : bm aA 161 [.slice (a0.map fH)] (.au 4 (r.map fl)) [] := by
 refine b_ [0] [.tmp 2] Tryz.func161 Zm (fun b7 aC bY => ?_)
 refine ws _ ?_
 obtain ⟨D1, aT, h⟩ := aG h
 refine cU (bT [(0, .slice (a0.map fH)), (3, .au 4 (List.replicate (Int.toNat (a0.length : Int)) (.agg [(.int .i64 0), (.int .i64 0), (.str []), .bo])))] (fun P aj => ?_) ?_)
 ·simp only [aP.down, simprocAttr, dm, eU, tX, jL, nT, qD, e_, fT, ht, eV, tY, nU, fH, fb, fk, (gm aT).1, (gm aT).2.1, (gm aT).2.2, e7, List.map_replicate, -Int.reduceNatCast']
  (try simp only [bh.down, simprocAttr, fH, fb, fk, (gm aT).1, (gm aT).2.1, (gm aT).2.2, e7, List.map_replicate, -Int.reduceNatCast'] at aj ⊢); exact aj
 refine aX aC (fun eB eS ca bl => ?_)
 refine ws [(0, .slice (a0.map fH)), (3, .au 4 (List.replicate (Int.toNat (a0.length : Int)) (.agg [(.int .i64 0), (.int .i64 0), (.str []), .bo]))), (4, .int .i64 0)] ?_
 refine b5 ca (fun gf dJ dW ft bL => ?_)
 have l8 : ∀ (n : Nat) (dr : List bs) (cT : Int), Ch a0 n dr cT = some r → ei aA Oc gf (U [(0, .slice (a0.map fH)), (3, .au 4 (dr.map fl)), (4, .int .i64 cT)]) := by
  intro m8
  induction m8 with
  | zero => intro dr cT h; cases (show none = some r from h)
  | succ m8 l9 =>
   intro dr cT h
   replace h : NJ (Ch a0 m8) a0 dr cT = some r := h
   refine eG dW (fun j5 fo fE ch => ?_)
   refine aX fE (fun kj ky j6 dv => ?_)
   refine ws _ ?_
   refine a8 h (fun e8 h => ?_) (fun e8 h => ?_)
   ·refine bk (ky _ (.inl ?_))
    refine aX fE (fun kT gD hT eW => ?_)
    refine b5 hT (fun l_ iD kU fc iP => ?_)
    obtain ⟨ah, fB, h⟩ := aG h
    obtain ⟨ak, gx, h⟩ := aG h
    obtain ⟨a6, cF, h⟩ := aG h
    refine iY (bT [(0, .slice (a0.map fH)), (3, .au 4 ((List.set dr (Int.toNat cT) ak).map fl)), (4, .int .i64 cT)] (fun P aj => ?_) ?_)
    ·simp only [aP.down, simprocAttr, dm, eU, tX, jL, nT, qD, e_, fT, ht, eV, tY, nU, bj, fH, fb, fk, fl, fA, fB, cF, dd cF, dD, eD]
     refine eQ (as_ ah _ gx) rfl rfl rfl rfl (.inl (by rfl)) ?_
     simp only [aP.down, simprocAttr, dm, eU, tX, jL, nT, qD, e_, fT, ht, eV, tY, nU, bj, fH, fb, fk, fl, fA, fB, cF, dd cF, dD, eD]
     (try simp only [bh.down, simprocAttr, bj, fH, fb, fk, fl, fA, fB, cF, dd cF, dD, eD] at aj ⊢); exact aj
    refine iD _ (gD _ (.inl ?_))
    refine wr [(0, .slice (a0.map fH)), (3, .au 4 ((List.set dr (Int.toNat cT) ak).map fl)), (4, .int .i64 (IntKind.i64.wrap (cT + 1)))] ?_
    exact fo _ (.inr ⟨_, bH rfl, l9 (List.set dr (Int.toNat cT) ak) (IntKind.i64.wrap (cT + 1)) h⟩)
   ·refine eE (dv 0 _ (ch 0 _ (ft _ (eS _ (.inl ?_)))))
    refine ws _ ?_
    exact aM (aC _ (.inl (aQ [.au 4 (dr.map fl)])))
 obtain ⟨n, h⟩ := ed h
 exact eF (.inr ⟨_, pF [] rfl (lC (t := 0) (d := .slice (a0.map fH)) rfl (pH (t := 3) (d := .au 4 (List.replicate (Int.toNat (a0.length : Int)) (.agg [(.int .i64 0), (.int .i64 0), (.str []), .bo]))) (bx := .au 4 ((List.replicate (Int.toNat (a0.length : Int)) (bs.mk 0 0 ([] : List UInt8) [])).map fl)) rfl rfl (GP (u := fl) (z := (bs.mk 0 0 ([] : List UInt8) [])) (.agg (.cons (.refl _) (.cons (.refl _) (.cons (.refl _) (.cons (.ly _) (.nil)))))) _) (by decide) (lC (t := 4) (d := .int .i64 0) rfl (pG)))), l8 n (List.replicate (Int.toNat (a0.length : Int)) (bs.mk 0 0 ([] : List UInt8) [])) 0 h⟩)
theorem atb (a0 : ic) (r : aS) (h : zc a0 = some r) : bm aA 98 [gd a0] (fI r) [] := by
 refine b_ [0] [.cell 2 158] Tryz.func98 Zt (fun b7 aC bY => ?_)
 refine ws _ ?_
 refine ws _ ?_
 refine ws _ ?_
 refine ws _ ?_
 obtain ⟨ah, bZ, h⟩ := aG h
 refine eA (ata a0.Body _ bZ) _ ?_
 refine ws _ ?_
 exact aM (aC _ (.inl (aQ [fI (aS.mk a0.Name a0.c_ ah)])))
theorem xc (a0 : List ic) (r : (List aS)) (h : sA a0 = some r) : bm aA 46 [.slice (a0.map gd)] (.au 3 (r.map fI)) [] := by
 refine b_ [0] [.tmp 2] Tryz.func46 ZC (fun b7 aC bY => ?_)
 refine ws _ ?_
 obtain ⟨D1, aT, h⟩ := aG h
 refine cU (bT [(0, .slice (a0.map gd)), (3, .au 3 (List.replicate (Int.toNat (a0.length : Int)) (.agg [(.str []), (.int .i64 0), .bo])))] (fun P aj => ?_) ?_)
 ·simp only [aP.down, simprocAttr, dm, eU, B4, qC, tX, B6, jL, l0, nT, qD, e_, fT, ht, eV, tY, nU, gd, fH, fb, fk, (gm aT).1, (gm aT).2.1, (gm aT).2.2, e7, List.map_replicate, -Int.reduceNatCast']
  (try simp only [bh.down, simprocAttr, gd, fH, fb, fk, (gm aT).1, (gm aT).2.1, (gm aT).2.2, e7, List.map_replicate, -Int.reduceNatCast'] at aj ⊢); exact aj
 refine aX aC (fun eB eS ca bl => ?_)
 refine ws [(0, .slice (a0.map gd)), (3, .au 3 (List.replicate (Int.toNat (a0.length : Int)) (.agg [(.str []), (.int .i64 0), .bo]))), (4, .int .i64 0)] ?_
 refine b5 ca (fun gf dJ dW ft bL => ?_)
 have l8 : ∀ (n : Nat) (dr : List aS) (cT : Int), Cj a0 n dr cT = some r → ei aA Od gf (U [(0, .slice (a0.map gd)), (3, .au 3 (dr.map fI)), (4, .int .i64 cT)]) := by
  intro m8
  induction m8 with
  | zero => intro dr cT h; cases (show none = some r from h)
  | succ m8 l9 =>
   intro dr cT h
   replace h : NK (Cj a0 m8) a0 dr cT = some r := h
   refine eG dW (fun j5 fo fE ch => ?_)
   refine aX fE (fun kj ky j6 dv => ?_)
   refine ws _ ?_
   refine a8 h (fun e8 h => ?_) (fun e8 h => ?_)
   ·refine bk (ky _ (.inl ?_))
    refine aX fE (fun kT gD hT eW => ?_)
    refine b5 hT (fun l_ iD kU fc iP => ?_)
    obtain ⟨ah, fB, h⟩ := aG h
    obtain ⟨ak, gx, h⟩ := aG h
    obtain ⟨a6, cF, h⟩ := aG h
    refine iY (bT [(0, .slice (a0.map gd)), (3, .au 3 ((List.set dr (Int.toNat cT) ak).map fI)), (4, .int .i64 cT)] (fun P aj => ?_) ?_)
    ·simp only [aP.down, simprocAttr, dm, eU, B4, qC, tX, B6, jL, l0, nT, qD, e_, fT, ht, eV, tY, nU, bj, gd, fH, fb, fk, fI, fl, fA, fB, cF, dd cF, dD, eD]
     refine eQ (atb ah _ gx) rfl rfl rfl rfl (.inl (by rfl)) ?_
     simp only [aP.down, simprocAttr, dm, eU, B4, qC, tX, B6, jL, l0, nT, qD, e_, fT, ht, eV, tY, nU, bj, gd, fH, fb, fk, fI, fl, fA, fB, cF, dd cF, dD, eD]
     (try simp only [bh.down, simprocAttr, bj, gd, fH, fb, fk, fI, fl, fA, fB, cF, dd cF, dD, eD] at aj ⊢); exact aj
    refine iD _ (gD _ (.inl ?_))
    refine wr [(0, .slice (a0.map gd)), (3, .au 3 ((List.set dr (Int.toNat cT) ak).map fI)), (4, .int .i64 (IntKind.i64.wrap (cT + 1)))] ?_
    exact fo _ (.inr ⟨_, bH rfl, l9 (List.set dr (Int.toNat cT) ak) (IntKind.i64.wrap (cT + 1)) h⟩)
   ·refine eE (dv 0 _ (ch 0 _ (ft _ (eS _ (.inl ?_)))))
    refine ws _ ?_
    exact aM (aC _ (.inl (aQ [.au 3 (dr.map fI)])))
 obtain ⟨n, h⟩ := ed h
 exact eF (.inr ⟨_, pF [] rfl (lC (t := 0) (d := .slice (a0.map gd)) rfl (pH (t := 3) (d := .au 3 (List.replicate (Int.toNat (a0.length : Int)) (.agg [(.str []), (.int .i64 0), .bo]))) (bx := .au 3 ((List.replicate (Int.toNat (a0.length : Int)) (aS.mk ([] : List UInt8) 0 [])).map fI)) rfl rfl (GP (u := fI) (z := (aS.mk ([] : List UInt8) 0 [])) (.agg (.cons (.refl _) (.cons (.refl _) (.cons (.ly _) (.nil))))) _) (by decide) (lC (t := 4) (d := .int .i64 0) rfl (pG)))), l8 n (List.replicate (Int.toNat (a0.length : Int)) (aS.mk ([] : List UInt8) 0 [])) 0 h⟩)
theorem atc (a0 : List Int) (r : (List Int)) (h : Cl a0 = some r) : bm aA 14 [.slice (a0.map aE)] (.au 1 (r.map aE)) [] := by
 refine b_ [0] [.tmp 2] Tryz.func14 oS (fun b7 aC bY => ?_)
 refine ws _ ?_
 obtain ⟨atd, aT, h⟩ := aG h
 refine cU (bT [(0, .slice (a0.map aE)), (3, .au 1 ((List.replicate (Int.toNat (a0.length : Int)) 0).map aE))] (fun P aj => ?_) ?_)
 ·simp only [aP.down, simprocAttr, l3.down, (gm aT).1, (gm aT).2.1, (gm aT).2.2, e7, List.map_replicate, -Int.reduceNatCast']
  (try simp only [bh.down, simprocAttr, aE, (gm aT).1, (gm aT).2.1, (gm aT).2.2, e7, List.map_replicate, -Int.reduceNatCast'] at aj ⊢); exact aj
 refine aX aC (fun eB eS ca bl => ?_)
 refine ws [(0, .slice (a0.map aE)), (3, .au 1 ((List.replicate (Int.toNat (a0.length : Int)) 0).map aE)), (4, .int .i64 0)] ?_
 refine b5 ca (fun gf dJ dW ft bL => ?_)
 have l8 : ∀ (n : Nat) (dr : List Int) (cT : Int), Ck a0 n dr cT = some r → ei aA Oe gf (U [(0, .slice (a0.map aE)), (3, .au 1 (dr.map aE)), (4, .int .i64 cT)]) := by
  intro m8
  induction m8 with
  | zero => intro dr cT h; cases (show none = some r from h)
  | succ m8 l9 =>
   intro dr cT h
   replace h : NL (Ck a0 m8) a0 dr cT = some r := h
   refine eG dW (fun j5 fo fE ch => ?_)
   refine aX fE (fun kj ky j6 dv => ?_)
   refine ws _ ?_
   refine a8 h (fun e8 h => ?_) (fun e8 h => ?_)
   ·refine bk (ky _ (.inl ?_))
    refine aX fE (fun kT gD hT eW => ?_)
    refine b5 hT (fun l_ iD kU fc iP => ?_)
    obtain ⟨ah, fB, h⟩ := aG h
    obtain ⟨ak, gx, h⟩ := aG h
    refine iY (bT [(0, .slice (a0.map aE)), (3, .au 1 ((List.set dr (Int.toNat cT) ah).map aE)), (4, .int .i64 cT)] (fun P aj => ?_) ?_)
    ·simp only [aP.down, simprocAttr, l3.down, fB, gx, dd gx, dD, eD]
     (try simp only [bh.down, simprocAttr, aE, fB, gx, dd gx, dD, eD] at aj ⊢); exact aj
    refine iD _ (gD _ (.inl ?_))
    refine wr [(0, .slice (a0.map aE)), (3, .au 1 ((List.set dr (Int.toNat cT) ah).map aE)), (4, .int .i64 (IntKind.i64.wrap (cT + 1)))] ?_
    exact fo _ (.inr ⟨_, bH rfl, l9 (List.set dr (Int.toNat cT) ah) (IntKind.i64.wrap (cT + 1)) h⟩)
   ·refine eE (dv 0 _ (ch 0 _ (ft _ (eS _ (.inl ?_)))))
    refine ws _ ?_
    exact aM (aC _ (.inl (aQ [.au 1 (dr.map aE)])))
 obtain ⟨n, h⟩ := ed h
 exact eF (.inr ⟨_, bH rfl, l8 n (List.replicate (Int.toNat (a0.length : Int)) 0) 0 h⟩)
theorem xd (a0 : lE) (r : dP) (h : ua a0 = some r) : bm aA 47 [i_ a0] (hC r) [] := by
 refine b_ [0] [.cell 2 74] Tryz.func47 ZR (fun b7 aC bY => ?_)
 refine ws _ ?_
 refine ws _ ?_
 refine ws _ ?_
 refine ws _ ?_
 obtain ⟨ah, bZ, h⟩ := aG h
 refine eA (atc a0.cD _ bZ) _ ?_
 refine ws _ ?_
 exact aM (aC _ (.inl (aQ [hC (dP.mk a0.dO a0.Part ah)])))
theorem Ie (a0 : UInt8) (r : Bool) (h : zd a0 = some r) : bm aA 228 [.int .u8 (a0.toNat : Int)] (.bool r) [] := by
 refine b_ [0] [.tmp 2] Tryz.func228 ZU (fun b7 aC bY => ?_)
 refine ws _ ?_
 refine cU (bT [(2, .bool ((decide (97 ≤ (a0.toNat : Int))) && (decide ((a0.toNat : Int) ≤ 122))))] (fun P aj => ?_) ?_)
 ·rcases Bool.eq_false_or_eq_true (decide (97 ≤ (a0.toNat : Int))) with fi | fi
  ·simp only [aP.down, simprocAttr, fi]
   (try simp only [bh.down, simprocAttr, fi] at aj ⊢); exact aj
  ·simp only [aP.down, simprocAttr, fi]
   (try simp only [bh.down, simprocAttr, fi] at aj ⊢); exact aj
 exact aM (aC _ (.inl (aQ [.bool ((decide (97 ≤ (a0.toNat : Int))) && (decide ((a0.toNat : Int) ≤ 122)))])))
theorem ate (a0 : UInt8) (r : Bool) (h : Hp a0 = some r) : bm aA 229 [.int .u8 (a0.toNat : Int)] (.bool r) [] := by
 refine b_ [0] [.tmp 2] Tryz.func229 ZX (fun b7 aC bY => ?_)
 refine ws _ ?_
 refine cU (bT [(2, .bool ((decide (48 ≤ (a0.toNat : Int))) && (decide ((a0.toNat : Int) ≤ 57))))] (fun P aj => ?_) ?_)
 ·rcases Bool.eq_false_or_eq_true (decide (48 ≤ (a0.toNat : Int))) with fi | fi
  ·simp only [aP.down, simprocAttr, fi]
   (try simp only [bh.down, simprocAttr, fi] at aj ⊢); exact aj
  ·simp only [aP.down, simprocAttr, fi]
   (try simp only [bh.down, simprocAttr, fi] at aj ⊢); exact aj
 exact aM (aC _ (.inl (aQ [.bool ((decide (48 ≤ (a0.toNat : Int))) && (decide ((a0.toNat : Int) ≤ 57)))])))
theorem Ig (a0 : List UInt8) (r : Bool) (h : wL a0 = some r) : bm aA 157 [.str a0] (.bool r) [] := by
 refine b_ [0] [.tmp 2] Tryz.func157 Z_ (fun b7 aC bY => ?_)
 refine ws _ ?_
 refine aX aC (fun eh b3 br ak => ?_)
 rcases dU h with ⟨b8, h⟩ | ⟨b8, h⟩
 ·refine fm b8 _ ?_
  refine lB rfl ?_
  refine ws _ ?_
  exact aM (br _ (.inl (aQ [.bool false])))
 ·rcases dU h with ⟨ft, h⟩ | ⟨ft, h⟩
  ·refine fm (And.intro b8 ft) _ ?_
   refine lB rfl ?_
   refine ws _ ?_
   exact aM (br _ (.inl (aQ [.bool false])))
  ·obtain ⟨ah, fF, h⟩ := aG h
   obtain ⟨ak, mg, h⟩ := aG h
   refine cU (bT [(0, .str a0), (16, .bool (!ak))] (fun P aj => ?_) ?_)
   ·simp only [aP.down, simprocAttr, eU, b8, ft, fF]
    refine ix (Ie ah _ mg) rfl rfl rfl rfl (.inl (by rfl)) ?_
    simp only [aP.down, simprocAttr, eU, b8, ft, fF]
    (try simp only [bh.down, simprocAttr, b8, ft, fF] at aj ⊢); exact aj
   refine a8 h (fun e8 h => ?_) (fun e8 h => ?_)
   ·refine ws _ ?_
    exact aM (br _ (.inl (aQ [.bool false])))
   ·refine bk (b3 _ (.inl ?_))
    refine aX aC (fun l_ iD kU iP => ?_)
    refine ws _ ?_
    refine b5 kU (fun kh gG gH gQ gP => ?_)
    have j7 : ∀ (n : Nat) (fy : Int), wK a0 n fy = some r → ei aA Of kh (U [(0, .str a0), (3, .int .i64 fy)]) := by
     intro m14
     induction m14 with
     | zero => intro fy h; cases (show none = some r from h)
     | succ m14 jN =>
      intro fy h
      replace h : Cm (wK a0 m14) a0 fy = some r := h
      refine eG gH (fun mV iQ ja hK => ?_)
      refine aX ja (fun uW mr n3 iO => ?_)
      refine ws _ ?_
      refine a8 h (fun jb h => ?_) (fun jb h => ?_)
      ·refine bk (mr _ (.inl ?_))
       refine aX ja (fun Pt xe D2 sN => ?_)
       refine b5 D2 (fun atf D3 Ih ki w7 => ?_)
       obtain ⟨a6, gk, h⟩ := aG h
       obtain ⟨bl, lJ, h⟩ := aG h
       rcases dU h with ⟨lj, h⟩ | ⟨lj, h⟩
       ·obtain ⟨bq, mW, h⟩ := aG h
        refine cU (bT [(0, .str a0), (3, .int .i64 fy), (34, .bool (!bq))] (fun P aj => ?_) ?_)
        ·simp only [aP.down, simprocAttr, eU, gk, (h3 lj)]
         refine eQ (Ie a6 _ lJ) rfl rfl rfl rfl (.inl (by rfl)) ?_
         simp only [aP.down, simprocAttr, eU, gk, (h3 lj)]
         refine ix (ate a6 _ mW) rfl rfl rfl rfl (.inl (by rfl)) ?_
         simp only [aP.down, simprocAttr, eU, gk, (h3 lj)]
         (try simp only [bh.down, simprocAttr, gk, (h3 lj)] at aj ⊢); exact aj
        refine a8 h (fun sT h => ?_) (fun sT h => ?_)
        ·refine ws _ ?_
         exact aM (Ih _ (.inl (aQ [.bool false])))
        ·refine bk (D3 _ (xe _ (.inl ?_)))
         refine wr _ ?_
         exact iQ _ (.inr ⟨_, bH rfl, jN (IntKind.i64.wrap (fy + 1)) h⟩)
       ·refine hD (And.intro gk (el lj)) (Ie a6 _ lJ) _ ?_
        refine wx rfl ?_
        refine bk (D3 _ (xe _ (.inl ?_)))
        refine wr _ ?_
        exact iQ _ (.inr ⟨_, bH rfl, jN (IntKind.i64.wrap (fy + 1)) h⟩)
      ·refine eE (iO 0 _ (hK 0 _ (gQ _ (iD _ (.inl ?_)))))
       refine ws _ ?_
       exact aM (aC _ (.inl (aQ [.bool true])))
    obtain ⟨n, h⟩ := ed h
    exact eF (.inr ⟨_, bH rfl, j7 n 0 h⟩)
theorem n4 (a0 : Int) (R : Int) (a2 : Int) (r : Bool) (h : lF a0 R a2 = some r) : bm aA 115 [.int .i64 a0, .int .i64 R, .int .i64 a2] (.bool r) [] := by
 refine b_ [0, 1, 2] [.tmp 6] Tryz.func115 aac (fun b7 aC bY => ?_)
 refine ws _ ?_
 refine cU (bT [(6, .bool ((decide (R ≤ a0)) && (decide (a0 ≤ a2))))] (fun P aj => ?_) ?_)
 ·rcases Bool.eq_false_or_eq_true (decide (R ≤ a0)) with fi | fi
  ·simp only [aP.down, simprocAttr, fi]
   (try simp only [bh.down, simprocAttr, fi] at aj ⊢); exact aj
  ·simp only [aP.down, simprocAttr, fi]
   (try simp only [bh.down, simprocAttr, fi] at aj ⊢); exact aj
 exact aM (aC _ (.inl (aQ [.bool ((decide (R ≤ a0)) && (decide (a0 ≤ a2)))])))
theorem Pu (a0 : bs) (r : Int) (h : zf a0 = some r) : bm aA 274 [.ref (bV a0)] (.int .i64 r) [] := by
 refine b_ [0] [.tmp 2] Tryz.func274 aap (fun b7 aC bY => ?_)
 refine ws _ ?_
 refine aX aC (fun eh b3 br ak => ?_)
 refine ws _ ?_
 refine b5 br (fun eB eS ca b8 bl => ?_)
 have uX : ∀ (hv : Bool), ze a0 hv = some r → cy aA Og eB (U [(6, .int .i64 a0.Kind), (7, .bool hv)]) := by
  intro hv h
  refine a8 h (fun ft h => ?_) (fun ft h => ?_)
  ·refine ws _ ?_
   exact aM (ca _ (.inl (aQ [.int .i64 1])))
  ·refine ws _ ?_
   refine a8 h (fun fU h => ?_) (fun fU h => ?_)
   ·refine ws _ ?_
    exact aM (ca _ (.inl (aQ [.int .i64 2])))
   ·refine bk (eS _ (b3 _ (.inl ?_)))
    refine ws _ ?_
    exact aM (aC _ (.inl (aQ [.int .i64 0])))
 refine aX ca (fun ij er dq bq => ?_)
 refine ws _ ?_
 refine a8 h (fun fV h => ?_) (fun fV h => ?_)
 ·simp only [fV, z7.down]
  exact bk (er _ (.inr ⟨_, bH rfl, uX true h⟩))
 ·refine ws _ ?_
  refine a8 h (fun fJ h => ?_) (fun fJ h => ?_)
  ·simp only [fJ, z7.down]
   exact bk (er _ (.inr ⟨_, bH rfl, uX true h⟩))
  ·refine wr _ ?_
   exact er _ (.inr ⟨_, bH rfl, uX (a0.Kind == 4) h⟩)
theorem atg (a0 : List bs) (r : Bool) (h : Co a0 = some r) : bm aA 230 [.slice (a0.map bV)] (.bool r) [] := by
 refine b_ [0] [.tmp 2] Tryz.func230 aaE (fun b7 aC bY => ?_)
 refine ws _ ?_
 refine aX aC (fun eh b3 br ak => ?_)
 refine cU (bT [(0, .slice (a0.map bV)), (12, .bool (((a0.length : Int) == 0) || (decide (20 < (a0.length : Int)))))] (fun P aj => ?_) ?_)
 ·rcases Bool.eq_false_or_eq_true ((a0.length : Int) == 0) with ke | ke
  ·simp only [aP.down, simprocAttr, DT.down, ke]
   (try simp only [bh.down, simprocAttr, nt.down, ke] at aj ⊢); exact aj
  ·simp only [aP.down, simprocAttr, DT.down, ke]
   (try simp only [bh.down, simprocAttr, nt.down, ke] at aj ⊢); exact aj
 refine a8 h (fun c8 h => ?_) (fun c8 h => ?_)
 ·refine ws _ ?_
  exact aM (br _ (.inl (aQ [.bool false])))
 ·refine bk (b3 _ (.inl ?_))
  refine ws _ ?_
  refine aX aC (fun kj ky j6 dv => ?_)
  refine ws _ ?_
  refine b5 j6 (fun gi c1 dc e8 dt => ?_)
  have l6 : ∀ (n : Nat) (fa : Int) (fz : Int), ub a0 n fa fz = some r → ei aA Oh gi (U [(0, .slice (a0.map bV)), (3, .int .i64 fa), (4, .int .i64 fz)]) := by
   intro m16
   induction m16 with
   | zero => intro fa fz h; cases (show none = some r from h)
   | succ m16 l7 =>
    intro fa fz h
    replace h : Cn (ub a0 m16) a0 fa fz = some r := h
    refine eG dc (fun kT gD hT eW => ?_)
    refine aX hT (fun l_ iD kU iP => ?_)
    refine ws _ ?_
    refine a8 h (fun gQ h => ?_) (fun gQ h => ?_)
    ·refine bk (iD _ (.inl ?_))
     refine aX hT (fun mV iQ ja hK => ?_)
     refine b5 ja (fun uW mr n3 n5 iO => ?_)
     refine aX n3 (fun uY nv oU jy => ?_)
     refine ws _ ?_
     refine a8 h (fun iR h => ?_) (fun iR h => ?_)
     ·refine ws _ ?_
      exact aM (oU _ (.inl (aQ [.bool false])))
     ·refine bk (nv _ (.inl ?_))
      obtain ⟨ah, gk, h⟩ := aG h
      obtain ⟨ak, lJ, h⟩ := aG h
      refine H5 gk (Pu ah _ lJ) _ ?_
      refine mr _ (iQ _ (.inl ?_))
      refine wr _ ?_
      exact gD _ (.inr ⟨_, bH rfl, l7 (IntKind.i64.wrap (fa + (IntKind.i64.wrap (ak - 1)))) (IntKind.i64.wrap (fz + 1)) h⟩)
    ·refine eE (iP 0 _ (eW 0 _ (e8 _ (ky _ (.inl ?_)))))
     refine ws _ ?_
     exact aM (aC _ (.inl (aQ [.bool (fa == 0)])))
  obtain ⟨n, h⟩ := ed h
  exact eF (.inr ⟨_, bH rfl, l6 n 1 0 h⟩)
theorem ath (a0 : bs) (r : Bool) (h : Hq a0 = some r) : bm aA 275 [.ref (bV a0)] (.bool r) [] := by
 refine b_ [0] [.tmp 2] Tryz.func275 aaY (fun b7 aC bY => ?_)
 refine ws _ ?_
 refine aX aC (fun eh b3 br ak => ?_)
 refine ws _ ?_
 refine b5 br (fun eB eS ca b8 bl => ?_)
 have xf : ∀ (zg : Bool), Cp a0 zg = some r → cy aA Oi eB (U [(0, .ref (bV a0)), (6, .int .i64 a0.Kind), (7, .bool zg)]) := by
  intro zg h
  refine a8 h (fun ft h => ?_) (fun ft h => ?_)
  ·refine cU (bT [(2, .bool (((a0.Number == 0) && (a0.Name == ([] : List UInt8))) && ((a0.bN.length : Int) == 0)))] (fun P aj => ?_) ?_)
   ·(rcases Bool.eq_false_or_eq_true (a0.Number == 0) with Ii | Ii) <;> (rcases Bool.eq_false_or_eq_true (a0.Name == ([] : List UInt8)) with ns | ns) <;>
     (simp only [aP.down, simprocAttr, oT.down, Ii, ns]
      (try simp only [bh.down, simprocAttr, nt.down, Ii, ns] at aj ⊢); exact aj)
   exact aM (ca _ (.inl (aQ [.bool (((a0.Number == 0) && (a0.Name == ([] : List UInt8))) && ((a0.bN.length : Int) == 0))])))
  ·refine ws _ ?_
   refine a8 h (fun pR h => ?_) (fun pR h => ?_)
   ·refine ws _ ?_
    exact aM (ca _ (.inl (aQ [.bool (a0.Number == 0)])))
   ·refine ws _ ?_
    refine a8 h (fun gQ h => ?_) (fun gQ h => ?_)
    ·refine cU (bT [(2, .bool ((a0.Number == 0) && (a0.Name == ([] : List UInt8))))] (fun P aj => ?_) ?_)
     ·rcases Bool.eq_false_or_eq_true (a0.Number == 0) with Ag | Ag
      ·simp only [aP.down, simprocAttr, oT.down, Ag]
       (try simp only [bh.down, simprocAttr, nt.down, Ag] at aj ⊢); exact aj
      ·simp only [aP.down, simprocAttr, oT.down, Ag]
       (try simp only [bh.down, simprocAttr, nt.down, Ag] at aj ⊢); exact aj
     exact aM (ca _ (.inl (aQ [.bool ((a0.Number == 0) && (a0.Name == ([] : List UInt8)))])))
    ·refine ws _ ?_
     refine a8 h (fun jb h => ?_) (fun jb h => ?_)
     ·refine cU (bT [(2, .bool ((a0.Name == ([] : List UInt8)) && ((a0.bN.length : Int) == 0)))] (fun P aj => ?_) ?_)
      ·rcases Bool.eq_false_or_eq_true (a0.Name == ([] : List UInt8)) with uS | uS
       ·simp only [aP.down, simprocAttr, oT.down, uS]
        (try simp only [bh.down, simprocAttr, nt.down, uS] at aj ⊢); exact aj
       ·simp only [aP.down, simprocAttr, oT.down, uS]
        (try simp only [bh.down, simprocAttr, nt.down, uS] at aj ⊢); exact aj
      exact aM (ca _ (.inl (aQ [.bool ((a0.Name == ([] : List UInt8)) && ((a0.bN.length : Int) == 0))])))
     ·refine ws _ ?_
      refine a8 h (fun sU h => ?_) (fun sU h => ?_)
      ·refine ws _ ?_
       exact aM (ca _ (.inl (aQ [.bool (a0.Name == ([] : List UInt8))])))
      ·refine bk (eS _ (b3 _ (.inl ?_)))
       refine ws _ ?_
       exact aM (aC _ (.inl (aQ [.bool false])))
 refine aX ca (fun ij er dq bq => ?_)
 refine ws _ ?_
 refine a8 h (fun sT h => ?_) (fun sT h => ?_)
 ·simp only [sT, z7.down]
  exact bk (er _ (.inr ⟨_, bH rfl, xf true h⟩))
 ·refine wr _ ?_
  exact er _ (.inr ⟨_, bH rfl, xf (a0.Kind == 2) h⟩)
theorem Pv (a0 : List bs) (R : Int) (r : Int) (h : zh a0 R = some r) : bm aA 232 [.slice (a0.map bV), .int .i64 R] (.int .i64 r) [] := by
 refine b_ [0] [.tmp 4] Tryz.func232 aa6 (fun b7 aC bY => ?_)
 refine ws _ ?_
 refine ws _ ?_
 refine aX aC (fun l5 hL dQ a6 => ?_)
 refine b5 dQ (fun eB eS ca b8 bl => ?_)
 have hf : ∀ (n : Nat) (a7 : Int) (aO : Int), uc a0 n a7 aO = some r → ei aA Oj eB (U [(0, .slice (a0.map bV)), (1, .int .i64 a7), (5, .int .i64 aO)]) := by
  intro m6
  induction m6 with
  | zero => intro a7 aO h; cases (show none = some r from h)
  | succ m6 gR =>
   intro a7 aO h
   replace h : Cq (uc a0 m6) a0 a7 aO = some r := h
   refine eG ca (fun ij er dq bq => ?_)
   refine aX dq (fun gf dJ dW bL => ?_)
   refine ws _ ?_
   refine a8 h (fun c5 h => ?_) (fun c5 h => ?_)
   ·refine bk (dJ _ (.inl ?_))
    refine b5 dq (fun e0 dw c0 fU dk => ?_)
    obtain ⟨ah, kI, h⟩ := aG h
    obtain ⟨ak, eo, h⟩ := aG h
    refine hD kI (Pu ah _ eo) _ ?_
    refine wr _ ?_
    exact dw _ (er _ (.inr ⟨_, bH rfl, gR (IntKind.i64.wrap (a7 + 1)) (IntKind.i64.wrap (aO + (IntKind.i64.wrap (ak - 1)))) h⟩))
   ·refine eE (bL 0 _ (bq 0 _ (b8 _ (hL _ (.inl ?_)))))
    refine ws _ ?_
    exact aM (aC _ (.inl (aQ [.int .i64 a7])))
 obtain ⟨n, h⟩ := ed h
 exact eF (.inr ⟨_, bH rfl, hf n R 1 h⟩)
theorem Ij (a0 : aS) (R : Int) (r : Int) (h : rr a0 R = some r) : bm aA 159 [.ref (bb a0), .int .i64 R] (.int .i64 r) [] := by
 refine b_ [0, 1] [.tmp 4] Tryz.func159 abf (fun b7 aC bY => ?_)
 refine ws _ ?_
 refine ws _ ?_
 refine aX aC (fun l5 hL dQ a6 => ?_)
 refine ws _ ?_
 refine b5 dQ (fun ij er dq c8 bq => ?_)
 have l8 : ∀ (n : Nat) (eb : Int) (hB : Int), sB a0 R n eb hB = some r → ei aA Ol ij (U [(0, .ref (bb a0)), (1, .int .i64 R), (5, .int .i64 eb), (6, .int .i64 hB)]) := by
  intro m8
  induction m8 with
  | zero => intro eb hB h; cases (show none = some r from h)
  | succ m8 l9 =>
   intro eb hB h
   replace h : Cr (sB a0 R m8) a0 R eb hB = some r := h
   refine eG dq (fun gf dJ dW bL => ?_)
   refine aX dW (fun j5 fo fE ch => ?_)
   refine ws _ ?_
   refine a8 h (fun fU h => ?_) (fun fU h => ?_)
   ·refine bk (fo _ (.inl ?_))
    have xg : ∀ (wM : Int) (wN : Int), zi (sB a0 R m8) a0 R wM wN = some r → cy aA Ok gf (U [(0, .ref (bb a0)), (1, .int .i64 R), (5, .int .i64 wM), (6, .int .i64 wN)]) := by
     intro wM wN h
     refine wr _ ?_
     exact dJ _ (.inr ⟨_, bH rfl, l9 wM (IntKind.i64.wrap (wN + 1)) h⟩)
    refine aX dW (fun gi c1 dc dt => ?_)
    refine b5 dc (fun l_ iD kU fc iP => ?_)
    obtain ⟨ah, fB, h⟩ := aG h
    rcases dU h with ⟨fJ, h⟩ | ⟨fJ, h⟩
    ·obtain ⟨ak, cF, h⟩ := aG h
     refine cU (bT [(0, .ref (bb a0)), (1, .int .i64 R), (5, .int .i64 eb), (6, .int .i64 hB), (34, .bool (decide (R < ak)))] (fun P aj => ?_) ?_)
     ·simp only [aP.down, simprocAttr, qK.down, fB, fJ]
      refine ix (Pv a0.Body hB _ cF) rfl rfl rfl rfl (.inl (by rfl)) ?_
      simp only [aP.down, simprocAttr, qK.down, fB, fJ]
      (try simp only [bh.down, simprocAttr, ig.down, fB, fJ] at aj ⊢); exact aj
     refine a8 h (fun lK h => ?_) (fun lK h => ?_)
     ·refine wr _ ?_
      exact iD _ (c1 _ (.inr ⟨_, bH rfl, xg (IntKind.i64.wrap (eb + 1)) hB h⟩))
     ·exact bk (iD _ (c1 _ (.inr ⟨_, bH rfl, xg eb hB h⟩)))
    ·refine fm (And.intro fB fJ) _ ?_
     refine wx rfl ?_
     exact bk (iD _ (c1 _ (.inr ⟨_, bH rfl, xg eb hB h⟩)))
   ·refine eE (ch 0 _ (bL 0 _ (c8 _ (hL _ (.inl ?_)))))
    refine ws _ ?_
    exact aM (aC _ (.inl (aQ [.int .i64 eb])))
 obtain ⟨n, h⟩ := ed h
 exact eF (.inr ⟨_, bH rfl, l8 n a0.c_ 0 h⟩)
theorem ati (a0 : ba) (R : Int) (r : Bool) (h : Cs a0 R = some r) : bm aA 251 [.ref (bj a0), .int .i64 R] (.bool r) [] := by
 refine b_ [0, 1] [.tmp 4] Tryz.func251 abx (fun b7 aC bY => ?_)
 refine ws _ ?_
 refine aX aC (fun eh b3 br ak => ?_)
 refine ws _ ?_
 refine b5 br (fun eB eS ca b8 bl => ?_)
 refine ws _ ?_
 refine a8 h (fun ft h => ?_) (fun ft h => ?_)
 ·obtain ⟨ah, fF, h⟩ := aG h
  refine eA (n4 a0.Value 0 63 _ fF) _ ?_
  exact aM (ca _ (.inl (aQ [.bool ah])))
 ·refine ws _ ?_
  refine a8 h (fun e8 h => ?_) (fun e8 h => ?_)
  ·obtain ⟨ak, eo, h⟩ := aG h
   refine eA (n4 a0.Value 0 (IntKind.i64.wrap (R - 1)) _ eo) _ ?_
   exact aM (ca _ (.inl (aQ [.bool ak])))
  ·refine ws _ ?_
   refine a8 h (fun gQ h => ?_) (fun gQ h => ?_)
   ·obtain ⟨a6, cF, h⟩ := aG h
    refine eA (n4 a0.Value 0 8 _ cF) _ ?_
    exact aM (ca _ (.inl (aQ [.bool a6])))
   ·refine ws _ ?_
    refine a8 h (fun jb h => ?_) (fun jb h => ?_)
    ·refine ws _ ?_
     exact aM (ca _ (.inl (aQ [.bool (a0.Value == 0)])))
    ·refine bk (eS _ (b3 _ (.inl ?_)))
     refine ws _ ?_
     exact aM (aC _ (.inl (aQ [.bool false])))
theorem Pw (a0 : ba) (r : Int) (h : Ct a0 = some r) : bm aA 252 [.ref (bj a0)] (.int .i64 r) [] := by
 refine b_ [0] [.tmp 2] Tryz.func252 abH (fun b7 aC bY => ?_)
 refine ws _ ?_
 refine aX aC (fun eh b3 br ak => ?_)
 refine ws _ ?_
 refine b5 br (fun eB eS ca b8 bl => ?_)
 refine ws _ ?_
 refine a8 h (fun ft h => ?_) (fun ft h => ?_)
 ·refine ws _ ?_
  exact aM (ca _ (.inl (aQ [.int .i64 2])))
 ·refine ws _ ?_
  refine a8 h (fun fU h => ?_) (fun fU h => ?_)
  ·refine ws _ ?_
   exact aM (ca _ (.inl (aQ [.int .i64 1])))
  ·refine bk (eS _ (b3 _ (.inl ?_)))
   refine ws _ ?_
   exact aM (aC _ (.inl (aQ [.int .i64 0])))
theorem atj (a0 : List ba) (R : Int) (a2 : Int) (r : Bool) (h : Cv a0 R a2 = some r) : bm aA 184 [.slice (a0.map bj), .int .i64 R, .int .i64 a2] (.bool r) [] := by
 refine b_ [0, 1, 2] [.tmp 6] Tryz.func184 abW (fun b7 aC bY => ?_)
 refine ws _ ?_
 refine aX aC (fun eh b3 br ak => ?_)
 refine ws _ ?_
 refine a8 h (fun b8 h => ?_) (fun b8 h => ?_)
 ·refine ws _ ?_
  exact aM (br _ (.inl (aQ [.bool false])))
 ·refine bk (b3 _ (.inl ?_))
  refine ws _ ?_
  refine aX aC (fun j5 fo fE ch => ?_)
  refine ws _ ?_
  refine b5 fE (fun e0 dw c0 fU dk => ?_)
  have l6 : ∀ (n : Nat) (hv : Int) (nV : Int), ud a0 R n hv nV = some r → ei aA Om e0 (U [(0, .slice (a0.map bj)), (1, .int .i64 R), (7, .int .i64 hv), (8, .int .i64 nV)]) := by
   intro m16
   induction m16 with
   | zero => intro hv nV h; cases (show none = some r from h)
   | succ m16 l7 =>
    intro hv nV h
    replace h : Cu (ud a0 R m16) a0 R hv nV = some r := h
    refine eG c0 (fun gi c1 dc dt => ?_)
    refine aX dc (fun kT gD hT eW => ?_)
    refine ws _ ?_
    refine a8 h (fun fV h => ?_) (fun fV h => ?_)
    ·refine bk (gD _ (.inl ?_))
     refine aX dc (fun kh gG gH gP => ?_)
     refine b5 gH (fun mV iQ ja fJ hK => ?_)
     refine aX ja (fun uW mr n3 iO => ?_)
     rcases dU h with ⟨jb, h⟩ | ⟨jb, h⟩
     ·refine fm jb _ ?_
      refine lB rfl ?_
      refine ws _ ?_
      exact aM (n3 _ (.inl (aQ [.bool false])))
     ·obtain ⟨ah, hM, h⟩ := aG h
      obtain ⟨ak, jO, h⟩ := aG h
      refine cU (bT [(0, .slice (a0.map bj)), (1, .int .i64 R), (7, .int .i64 hv), (8, .int .i64 nV), (28, .bool (!ak))] (fun P aj => ?_) ?_)
      ·simp only [aP.down, simprocAttr, n1.down, jb, hM]
       refine ix (ati ah R _ jO) rfl rfl rfl rfl (.inl (by rfl)) ?_
       simp only [aP.down, simprocAttr, n1.down, jb, hM]
       (try simp only [bh.down, simprocAttr, bj, jb, hM] at aj ⊢); exact aj
      refine a8 h (fun sU h => ?_) (fun sU h => ?_)
      ·refine ws _ ?_
       exact aM (n3 _ (.inl (aQ [.bool false])))
      ·refine bk (mr _ (.inl ?_))
       obtain ⟨a6, mW, h⟩ := aG h
       refine H5 hM (Pw ah _ mW) _ ?_
       refine iQ _ (gG _ (.inl ?_))
       refine wr _ ?_
       exact c1 _ (.inr ⟨_, bH rfl, l7 (IntKind.i64.wrap (hv + (IntKind.i64.wrap (a6 - 1)))) (IntKind.i64.wrap (nV + 1)) h⟩)
    ·refine eE (eW 0 _ (dt 0 _ (fU _ (fo _ (.inl ?_)))))
     refine ws _ ?_
     exact aM (aC _ (.inl (aQ [.bool (hv == 0)])))
  obtain ⟨n, h⟩ := ed h
  exact eF (.inr ⟨_, bH rfl, l6 n 1 0 h⟩)
theorem atk (a0 : List aS) (R : aS) (a2 : Int) (r : Int) (h : pK a0 R a2 = some r) : bm aA 231 [.slice (a0.map bb), .ref (bb R), .int .i64 a2] (.int .i64 r) [] := by
 refine b_ [0, 1, 2] [.tmp 6] Tryz.func231 acC (fun b7 aC bY => ?_)
 refine ws _ ?_
 obtain ⟨ah, aT, h⟩ := aG h
 refine fm aT _ ?_
 refine aX aC (fun eB eS ca bl => ?_)
 obtain ⟨ak, bZ, h⟩ := aG h
 refine cU (bT [(0, .slice (a0.map bb)), (1, .ref (bb R)), (2, .int .i64 a2), (7, .aU (bV ah)), (19, .bool (!ak))] (fun P aj => ?_) ?_)
 ·refine eQ (ath ah _ bZ) rfl rfl (by simp only [aP.down, simprocAttr, ig.down, e3, e4, e5, cC, @cx _ cW cW (fun _ => HX _)] <;> rfl) rfl (.inr (by rfl)) ?_
  simp only [aP.down, simprocAttr, ig.down]
  (try simp only [bh.down, simprocAttr, ig.down] at aj ⊢); exact aj
 refine a8 h (fun pq h => ?_) (fun pq h => ?_)
 ·refine ws _ ?_
  exact aM (ca _ (.inl (aQ [.int .i64 2])))
 ·refine bk (eS _ (.inl ?_))
  refine aX aC (fun e0 dw c0 dk => ?_)
  have Px : ∀ (zl : Bool), wO a0 R a2 ah zl = some r → cy aA On e0 (U [(0, .slice (a0.map bb)), (1, .ref (bb R)), (2, .int .i64 a2), (7, .aU (bV ah)), (28, .bool zl)]) := by
   intro zl h
   refine a8 h (fun e8 h => ?_) (fun e8 h => ?_)
   ·refine ws _ ?_
    exact aM (c0 _ (.inl (aQ [.int .i64 3])))
   ·refine bk (dw _ (.inl ?_))
    refine aX aC (fun l_ iD kU iP => ?_)
    have Ah : ∀ (zk : Bool), qF a0 R a2 ah zk = some r → cy aA Oo l_ (U [(0, .slice (a0.map bb)), (1, .ref (bb R)), (2, .int .i64 a2), (7, .aU (bV ah)), (51, .bool zk)]) := by
     intro zk h
     refine a8 h (fun fV h => ?_) (fun fV h => ?_)
     ·refine ws _ ?_
      exact aM (kU _ (.inl (aQ [.int .i64 4])))
     ·refine bk (iD _ (.inl ?_))
      refine ws _ ?_
      have D4 : rv R a2 ah = some r → cy aA Ou b7 (U [(1, .ref (bb R)), (2, .int .i64 a2), (7, .aU (bV ah)), (8, .int .i64 (ah.bN.length : Int))]) := by
       intro h
       refine aX aC (fun uY nv oU jy => ?_)
       have uZ : ∀ (zj : Bool), pJ R a2 ah zj = some r → cy aA Oq uY (U [(1, .ref (bb R)), (2, .int .i64 a2), (7, .aU (bV ah)), (8, .int .i64 (ah.bN.length : Int)), (102, .bool zj)]) := by
        intro zj h
        refine a8 h (fun jb h => ?_) (fun jb h => ?_)
        ·refine ws _ ?_
         exact aM (oU _ (.inl (aQ [.int .i64 6])))
        ·refine bk (nv _ (.inl ?_))
         obtain ⟨a6, jO, h⟩ := aG h
         refine eA (Ij R a2 _ jO) _ ?_
         refine aX aC (fun atl Ik Il w8 => ?_)
         refine cU (bT [(7, .aU (bV ah)), (8, .int .i64 (ah.bN.length : Int)), (9, .int .i64 a6), (112, .bool ((ah.Kind == 4) && (decide (6 ≤ a6))))] (fun P aj => ?_) ?_)
         ·rcases Bool.eq_false_or_eq_true (ah.Kind == 4) with Ai | Ai
          ·simp only [aP.down, simprocAttr, oT.down, Ai]
           (try simp only [bh.down, simprocAttr, nt.down, Ai] at aj ⊢); exact aj
          ·simp only [aP.down, simprocAttr, oT.down, Ai]
           (try simp only [bh.down, simprocAttr, nt.down, Ai] at aj ⊢); exact aj
         refine a8 h (fun Aj h => ?_) (fun Aj h => ?_)
         ·refine ws _ ?_
          exact aM (Il _ (.inl (aQ [.int .i64 7])))
         ·refine bk (Ik _ (.inl ?_))
          refine aX aC (fun atm Im D5 Py => ?_)
          refine ws _ ?_
          refine b5 D5 (fun Pz PA D6 Ak PB => ?_)
          have atn : ∀ (n : Nat) (oC : Int) (oD : Int), ru ah n oC oD = some r → ei aA Ot Pz (U [(7, .aU (bV ah)), (8, .int .i64 (ah.bN.length : Int)), (9, .int .i64 oC), (10, .int .i64 oD)]) := by
           intro Io
           induction Io with
           | zero => intro oC oD h; cases (show none = some r from h)
           | succ Io ato =>
            intro oC oD h
            replace h : Cw (ru ah Io) ah oC oD = some r := h
            refine eG D6 (fun atp Ip Iq Ir => ?_)
            refine aX Iq (fun PC Al D7 Is => ?_)
            refine ws _ ?_
            refine a8 h (fun kV h => ?_) (fun kV h => ?_)
            ·refine bk (Al _ (.inl ?_))
             refine aX Iq (fun atq It PD atr => ?_)
             refine b5 PD (fun azQ ats att pS azR => ?_)
             obtain ⟨bl, u0, h⟩ := aG h
             obtain ⟨bq, u1, h⟩ := aG h
             refine hD u0 (atj bl oC 15 _ u1) _ ?_
             refine a8 h (fun qQ h => ?_) (fun qQ h => ?_)
             ·refine ws _ ?_
              exact aM (att _ (.inl (aQ [.int .i64 8])))
             ·refine bk (ats _ (It _ (.inl ?_)))
              refine wr _ ?_
              exact Ip _ (.inr ⟨_, bH rfl, ato oC (IntKind.i64.wrap (oD + 1)) h⟩)
            ·refine eE (Is 1 _ (Ir 1 _ (Ak _ (Im _ (.inl ?_)))))
             refine ws _ ?_
             exact aM (aC _ (.inl (aQ [.int .i64 0])))
          obtain ⟨n, h⟩ := ed h
          exact eF (.inr ⟨_, bH rfl, atn n a6 0 h⟩)
       rcases dU h with ⟨rE, h⟩ | ⟨rE, h⟩
       ·rcases dU h with ⟨u2, h⟩ | ⟨u2, h⟩
        ·refine lD (bT (K := dY _) [(1, .ref (bb R)), (2, .int .i64 a2), (7, .aU (bV ah)), (8, .int .i64 (ah.bN.length : Int)), (102, .bool true)] (fun P aj => ?_) ?_)
         ·simp only [aP.down, simprocAttr, qK.down, rE, u2]
          (try simp only [bh.down, simprocAttr, ig.down, rE, u2] at aj ⊢); exact aj
         exact .inr ⟨_, bH rfl, uZ true h⟩
        ·obtain ⟨bL, PE, h⟩ := aG h
         refine lD (bT (K := dY _) [(1, .ref (bb R)), (2, .int .i64 a2), (7, .aU (bV ah)), (8, .int .i64 (ah.bN.length : Int)), (102, .bool (bL.Kind != 1))] (fun P aj => ?_) ?_)
         ·simp only [aP.down, simprocAttr, qK.down, rE, u2, PE]
          (try simp only [bh.down, simprocAttr, ig.down, rE, u2, PE] at aj ⊢); exact aj
         exact .inr ⟨_, bH rfl, uZ (bL.Kind != 1) h⟩
       ·refine lD (bT (K := dY _) [(1, .ref (bb R)), (2, .int .i64 a2), (7, .aU (bV ah)), (8, .int .i64 (ah.bN.length : Int)), (102, .bool false)] (fun P aj => ?_) ?_)
        ·simp only [aP.down, simprocAttr, qK.down, rE]
         (try simp only [bh.down, simprocAttr, ig.down, rE] at aj ⊢); exact aj
        exact .inr ⟨_, bH rfl, uZ false h⟩
      refine aX aC (fun uW mr n3 iO => ?_)
      refine ws _ ?_
      refine b5 n3 (fun Iu qR rF atu D8 => ?_)
      refine ws _ ?_
      refine a8 h (fun nw h => ?_) (fun nw h => ?_)
      ·refine cU (bT [(1, .ref (bb R)), (2, .int .i64 a2), (7, .aU (bV ah)), (8, .int .i64 (ah.bN.length : Int)), (69, .bool ((decide (2 < (ah.bN.length : Int))) || ((decide (0 < (ah.bN.length : Int))) && (ah.Name == ([116, 97, 117] : List UInt8)))))] (fun P aj => ?_) ?_)
       ·(rcases Bool.eq_false_or_eq_true (decide (2 < (ah.bN.length : Int))) with z6 | z6) <;> (rcases Bool.eq_false_or_eq_true (decide (0 < (ah.bN.length : Int))) with mU | mU) <;>
         (simp only [aP.down, simprocAttr, z8.down, z6, mU]
          (try simp only [bh.down, simprocAttr, ig.down, z6, mU] at aj ⊢); exact aj)
       refine a8 h (fun Iv h => ?_) (fun Iv h => ?_)
       ·refine ws _ ?_
        exact aM (rF _ (.inl (aQ [.int .i64 5])))
       ·exact bk (qR _ (mr _ (.inr ⟨_, bH rfl, D4 h⟩)))
      ·refine ws _ ?_
       refine a8 h (fun atv h => ?_) (fun atv h => ?_)
       ·refine ws _ ?_
        refine a8 h (fun atw h => ?_) (fun atw h => ?_)
        ·refine ws _ ?_
         exact aM (rF _ (.inl (aQ [.int .i64 5])))
        ·exact bk (qR _ (mr _ (.inr ⟨_, bH rfl, D4 h⟩)))
       ·refine ws _ ?_
        refine a8 h (fun atx h => ?_) (fun atx h => ?_)
        ·obtain ⟨ch, aty, h⟩ := aG h
         refine fm aty _ ?_
         refine a8 h (fun atz h => ?_) (fun atz h => ?_)
         ·refine ws _ ?_
          exact aM (rF _ (.inl (aQ [.int .i64 5])))
         ·exact bk (qR _ (mr _ (.inr ⟨_, bH rfl, D4 h⟩)))
        ·exact bk (qR _ (mr _ (.inr ⟨_, bH rfl, D4 h⟩)))
    rcases dU h with ⟨lL, h⟩ | ⟨lL, h⟩
    ·obtain ⟨dv, Iw, h⟩ := aG h
     rcases dU h with ⟨pT, h⟩ | ⟨pT, h⟩
     ·refine lD (bT (K := dY _) [(0, .slice (a0.map bb)), (1, .ref (bb R)), (2, .int .i64 a2), (7, .aU (bV ah)), (51, .bool true)] (fun P aj => ?_) ?_)
      ·simp only [aP.down, simprocAttr, jo.down, lL, (h3 pT)]
       refine ix (n4 ah.Number 1 7 _ Iw) rfl rfl rfl rfl (.inl (by rfl)) ?_
       simp only [aP.down, simprocAttr, jo.down, lL, (h3 pT)]
       (try simp only [bh.down, simprocAttr, ig.down, lL, (h3 pT)] at aj ⊢); exact aj
      exact .inr ⟨_, bH rfl, Ah true h⟩
     ·rcases dU h with ⟨sV, h⟩ | ⟨sV, h⟩
      ·obtain ⟨dk, D9, h⟩ := aG h
       refine lD (bT (K := dY _) [(0, .slice (a0.map bb)), (1, .ref (bb R)), (2, .int .i64 a2), (7, .aU (bV ah)), (51, .bool (!dk))] (fun P aj => ?_) ?_)
       ·simp only [aP.down, simprocAttr, jo.down, lL, (el pT), sV]
        refine ix (n4 ah.Number 1 7 _ Iw) rfl rfl rfl rfl (.inl (by rfl)) ?_
        simp only [aP.down, simprocAttr, jo.down, lL, (el pT), sV]
        refine ix (n4 ah.Number 0 (IntKind.i64.wrap ((a0.length : Int) - 1)) _ D9) rfl rfl rfl rfl (.inl (by rfl)) ?_
        simp only [aP.down, simprocAttr, jo.down, lL, (el pT), sV]
        (try simp only [bh.down, simprocAttr, ig.down, lL, (el pT), sV] at aj ⊢); exact aj
       exact .inr ⟨_, bH rfl, Ah (!dk) h⟩
      ·refine lD (bT (K := dY _) [(0, .slice (a0.map bb)), (1, .ref (bb R)), (2, .int .i64 a2), (7, .aU (bV ah)), (51, .bool false)] (fun P aj => ?_) ?_)
       ·simp only [aP.down, simprocAttr, jo.down, lL, (el pT), sV]
        refine ix (n4 ah.Number 1 7 _ Iw) rfl rfl rfl rfl (.inl (by rfl)) ?_
        simp only [aP.down, simprocAttr, jo.down, lL, (el pT), sV]
        (try simp only [bh.down, simprocAttr, ig.down, lL, (el pT), sV] at aj ⊢); exact aj
       exact .inr ⟨_, bH rfl, Ah false h⟩
    ·rcases dU h with ⟨xh, h⟩ | ⟨xh, h⟩
     ·obtain ⟨dt, atA, h⟩ := aG h
      refine lD (bT (K := dY _) [(0, .slice (a0.map bb)), (1, .ref (bb R)), (2, .int .i64 a2), (7, .aU (bV ah)), (51, .bool (!dt))] (fun P aj => ?_) ?_)
      ·simp only [aP.down, simprocAttr, jo.down, lL, xh]
       refine ix (n4 ah.Number 0 (IntKind.i64.wrap ((a0.length : Int) - 1)) _ atA) rfl rfl rfl rfl (.inl (by rfl)) ?_
       simp only [aP.down, simprocAttr, jo.down, lL, xh]
       (try simp only [bh.down, simprocAttr, ig.down, lL, xh] at aj ⊢); exact aj
      exact .inr ⟨_, bH rfl, Ah (!dt) h⟩
     ·refine lD (bT (K := dY _) [(0, .slice (a0.map bb)), (1, .ref (bb R)), (2, .int .i64 a2), (7, .aU (bV ah)), (51, .bool false)] (fun P aj => ?_) ?_)
      ·simp only [aP.down, simprocAttr, jo.down, lL, xh]
       (try simp only [bh.down, simprocAttr, ig.down, lL, xh] at aj ⊢); exact aj
      exact .inr ⟨_, bH rfl, Ah false h⟩
  rcases dU h with ⟨xi, h⟩ | ⟨xi, h⟩
  ·obtain ⟨eW, atB, h⟩ := aG h
   refine lD (bT (K := dY _) [(0, .slice (a0.map bb)), (1, .ref (bb R)), (2, .int .i64 a2), (7, .aU (bV ah)), (28, .bool (!eW))] (fun P aj => ?_) ?_)
   ·simp only [aP.down, simprocAttr, z8.down, xi]
    refine ix (Ig ah.Name _ atB) rfl rfl rfl rfl (.inl (by rfl)) ?_
    simp only [aP.down, simprocAttr, z8.down, xi]
    (try simp only [bh.down, simprocAttr, ig.down, xi] at aj ⊢); exact aj
   exact .inr ⟨_, bH rfl, Px (!eW) h⟩
  ·refine lD (bT (K := dY _) [(0, .slice (a0.map bb)), (1, .ref (bb R)), (2, .int .i64 a2), (7, .aU (bV ah)), (28, .bool false)] (fun P aj => ?_) ?_)
   ·simp only [aP.down, simprocAttr, z8.down, xi]
    (try simp only [bh.down, simprocAttr, ig.down, xi] at aj ⊢); exact aj
   exact .inr ⟨_, bH rfl, Px false h⟩
theorem atC (a0 : List aS) (R : aS) (r : Int × Int) (h : ry a0 R = some r) : bm aA 158 [.slice (a0.map bb), .ref (bb R)] (.tuple [.int .i64 r.1, .int .i64 r.2]) [] := by
 refine b_ [0, 1] [.tmp 4, .tmp 5] Tryz.func158 acQ (fun b7 aC bY => ?_)
 refine ws _ ?_
 refine aX aC (fun eh b3 br ak => ?_)
 obtain ⟨ah, b2, h⟩ := aG h
 refine eA (atg R.Body _ b2) _ ?_
 refine a8 h (fun c8 h => ?_) (fun c8 h => ?_)
 ·refine ws _ ?_
  exact aM (br _ (.inl (aQ [.int .i64 0, .int .i64 1])))
 ·refine bk (b3 _ (.inl ?_))
  refine aX aC (fun j5 fo fE ch => ?_)
  refine ws _ ?_
  refine b5 fE (fun e0 dw c0 fU dk => ?_)
  have j7 : ∀ (n : Nat) (mQ : Int), qG a0 R n mQ = some r → ei aA Ov e0 (U [(0, .slice (a0.map bb)), (1, .ref (bb R)), (6, .int .i64 mQ)]) := by
   intro m14
   induction m14 with
   | zero => intro mQ h; cases (show none = some r from h)
   | succ m14 jN =>
    intro mQ h
    replace h : wP (qG a0 R m14) a0 R mQ = some r := h
    refine eG c0 (fun gi c1 dc dt => ?_)
    refine aX dc (fun kT gD hT eW => ?_)
    refine ws _ ?_
    refine a8 h (fun fV h => ?_) (fun fV h => ?_)
    ·refine bk (gD _ (.inl ?_))
     refine aX dc (fun kh gG gH gP => ?_)
     refine b5 gH (fun mV iQ ja fJ hK => ?_)
     obtain ⟨ak, eI, h⟩ := aG h
     refine eA (atk a0 R mQ _ eI) _ ?_
     refine ws _ ?_
     refine a8 h (fun iR h => ?_) (fun iR h => ?_)
     ·refine ws _ ?_
      exact aM (ja _ (.inl (aQ [.int .i64 mQ, .int .i64 ak])))
     ·refine bk (iQ _ (gG _ (.inl ?_)))
      refine wr _ ?_
      exact c1 _ (.inr ⟨_, bH rfl, jN (IntKind.i64.wrap (mQ + 1)) h⟩)
    ·refine eE (eW 0 _ (dt 0 _ (fU _ (fo _ (.inl ?_)))))
     refine ws _ ?_
     exact aM (aC _ (.inl (aQ [.int .i64 0, .int .i64 0])))
  obtain ⟨n, h⟩ := ed h
  exact eF (.inr ⟨_, bH rfl, j7 n 0 h⟩)
theorem PF (a0 : List aS) (r : Bool) (h : CA a0 = some r) : bm aA 95 [.slice (a0.map bb)] (.bool r) [] := by
 refine b_ [0] [.tmp 2] Tryz.func95 adj (fun b7 aC bY => ?_)
 refine ws _ ?_
 refine aX aC (fun eh b3 br ak => ?_)
 refine cU (bT [(0, .slice (a0.map bb)), (15, .bool (((a0.length : Int) == 0) || (decide (4 < (a0.length : Int)))))] (fun P aj => ?_) ?_)
 ·rcases Bool.eq_false_or_eq_true ((a0.length : Int) == 0) with ke | ke
  ·simp only [aP.down, simprocAttr, jo.down, ke]
   (try simp only [bh.down, simprocAttr, ig.down, ke] at aj ⊢); exact aj
  ·simp only [aP.down, simprocAttr, jo.down, ke]
   (try simp only [bh.down, simprocAttr, ig.down, ke] at aj ⊢); exact aj
 refine a8 h (fun c8 h => ?_) (fun c8 h => ?_)
 ·refine ws _ ?_
  exact aM (br _ (.inl (aQ [.bool false])))
 ·refine bk (b3 _ (.inl ?_))
  refine aX aC (fun j5 fo fE ch => ?_)
  refine ws _ ?_
  refine b5 fE (fun e0 dw c0 fU dk => ?_)
  have j7 : ∀ (n : Nat) (fy : Int), oF a0 n fy = some r → ei aA Ox e0 (U [(0, .slice (a0.map bb)), (3, .int .i64 fy)]) := by
   intro m14
   induction m14 with
   | zero => intro fy h; cases (show none = some r from h)
   | succ m14 jN =>
    intro fy h
    replace h : Cz (oF a0 m14) a0 fy = some r := h
    refine eG c0 (fun gi c1 dc dt => ?_)
    refine aX dc (fun kT gD hT eW => ?_)
    refine ws _ ?_
    refine a8 h (fun fV h => ?_) (fun fV h => ?_)
    ·refine bk (gD _ (.inl ?_))
     refine aX dc (fun kh gG gH gP => ?_)
     refine b5 gH (fun mV iQ ja fJ hK => ?_)
     refine aX ja (fun uW mr n3 iO => ?_)
     obtain ⟨ah, gj, h⟩ := aG h
     obtain ⟨ak, gy, h⟩ := aG h
     rcases dU h with ⟨ki, h⟩ | ⟨ki, h⟩
     ·refine hD (And.intro gj (h3 ki)) (Ig ah.Name _ gy) _ ?_
      refine lB rfl ?_
      refine ws _ ?_
      exact aM (n3 _ (.inl (aQ [.bool false])))
     ·obtain ⟨a6, gk, h⟩ := aG h
      refine cU (bT [(0, .slice (a0.map bb)), (3, .int .i64 fy), (37, .bool (!a6))] (fun P aj => ?_) ?_)
      ·simp only [aP.down, simprocAttr, jo.down, gj, (el ki)]
       refine eQ (Ig ah.Name _ gy) rfl rfl rfl rfl (.inl (by rfl)) ?_
       simp only [aP.down, simprocAttr, jo.down, gj, (el ki)]
       refine ix (n4 ah.c_ 0 3 _ gk) rfl rfl rfl rfl (.inl (by rfl)) ?_
       simp only [aP.down, simprocAttr, jo.down, gj, (el ki)]
       (try simp only [bh.down, simprocAttr, ig.down, gj, (el ki)] at aj ⊢); exact aj
      refine a8 h (fun u3 h => ?_) (fun u3 h => ?_)
      ·refine ws _ ?_
       exact aM (n3 _ (.inl (aQ [.bool false])))
      ·refine bk (mr _ (.inl ?_))
       refine ws _ ?_
       refine b5 ja (fun PG PH Ix sT atD => ?_)
       have atE : ∀ (n : Nat) (mR : Int) (nW : Int), ue (oF a0 m14) a0 n mR nW = some r → ei aA Ow PG (U [(0, .slice (a0.map bb)), (3, .int .i64 mR), (4, .int .i64 nW)]) := by
        intro Iy
        induction Iy with
        | zero => intro mR nW h; cases (show none = some r from h)
        | succ Iy atF =>
         intro mR nW h
         replace h : Cx (oF a0 m14) (ue (oF a0 m14) a0 Iy) a0 mR nW = some r := h
         refine eG Ix (fun atm Im D5 Py => ?_)
         refine aX D5 (fun PI PJ PK PL => ?_)
         refine ws _ ?_
         refine a8 h (fun kW h => ?_) (fun kW h => ?_)
         ·refine bk (PJ _ (.inl ?_))
          refine aX D5 (fun PC Al D7 Is => ?_)
          refine b5 D7 (fun azS atG atH nx azT => ?_)
          obtain ⟨bl, ny, h⟩ := aG h
          obtain ⟨bq, xj, h⟩ := aG h
          refine hc rfl (gN [(0, .slice (a0.map bb)), (3, .int .i64 mR), (4, .int .i64 nW), (53, .bool (bl.Name == bq.Name))] (fun P aj => ?_) ?_)
          ·simp only [cl.down, simprocAttr, jo.down, ny, xj]
           refine ⟨fS (by kernel_rfl), ?_⟩
           (try simp only [bh.down, simprocAttr, ig.down, ny, xj] at aj ⊢); exact aj
          refine a8 h (fun Iz h => ?_) (fun Iz h => ?_)
          ·refine ws _ ?_
           exact aM (atH _ (.inl (aQ [.bool false])))
          ·refine bk (atG _ (Al _ (.inl ?_)))
           refine wr _ ?_
           exact Im _ (.inr ⟨_, bH rfl, atF mR (IntKind.i64.wrap (nW + 1)) h⟩)
         ·refine eE (PL 2 _ (Py 2 _ (sT _ (iQ _ (gG _ (.inl ?_))))))
          refine wr _ ?_
          exact c1 _ (.inr ⟨_, bH rfl, jN (IntKind.i64.wrap (mR + 1)) h⟩)
       obtain ⟨n, h⟩ := ed h
       exact eF (.inr ⟨_, bH rfl, atE n fy 0 h⟩)
    ·refine eE (eW 0 _ (dt 0 _ (fU _ (fo _ (.inl ?_)))))
     refine aX aC (fun azU atI atJ azV => ?_)
     refine ws _ ?_
     refine b5 atJ (fun PM PN D_ atK PO => ?_)
     have IA : ∀ (n : Nat) (oE : Int), sC a0 n oE = some r → ei aA Oy PM (U [(0, .slice (a0.map bb)), (5, .int .i64 oE)]) := by
      intro u4
      induction u4 with
      | zero => intro oE h; cases (show none = some r from h)
      | succ u4 IB =>
       intro oE h
       replace h : Cy (sC a0 u4) a0 oE = some r := h
       refine eG D_ (fun azW atL PQ atM => ?_)
       refine aX PQ (fun atN IC atO ID => ?_)
       refine ws _ ?_
       refine a8 h (fun IE h => ?_) (fun IE h => ?_)
       ·refine bk (IC _ (.inl ?_))
        refine aX PQ (fun PR Am An IF => ?_)
        refine b5 An (fun Iu qR rF atu D8 => ?_)
        obtain ⟨bL, IG, h⟩ := aG h
        obtain ⟨ch, rG, h⟩ := aG h
        refine hD IG (atC a0 bL _ rG) _ ?_
        refine ws _ ?_
        refine a8 h (fun atP h => ?_) (fun atP h => ?_)
        ·refine ws _ ?_
         exact aM (rF _ (.inl (aQ [.bool false])))
        ·refine bk (qR _ (Am _ (.inl ?_)))
         refine wr _ ?_
         exact atL _ (.inr ⟨_, bH rfl, IB (IntKind.i64.wrap (oE + 1)) h⟩)
       ·refine eE (ID 4 _ (atM 4 _ (atK _ (atI _ (.inl ?_)))))
        refine ws _ ?_
        exact aM (aC _ (.inl (aQ [.bool true])))
     obtain ⟨n, h⟩ := ed h
     exact eF (.inr ⟨_, bH rfl, IA n 0 h⟩)
  obtain ⟨n, h⟩ := ed h
  exact eF (.inr ⟨_, bH rfl, j7 n 0 h⟩)
theorem atQ (a0 : List Int) (r : Bool) (h : CC a0 = some r) : bm aA 117 [.slice (a0.map aE)] (.bool r) [] := by
 refine b_ [0] [.tmp 2] Tryz.func117 adt (fun b7 aC bY => ?_)
 refine ws _ ?_
 refine aX aC (fun eh b3 br ak => ?_)
 refine ws _ ?_
 refine b5 br (fun eB eS ca b8 bl => ?_)
 have hf : ∀ (n : Nat) (oG : Int), uf a0 n oG = some r → ei aA Oz eB (U [(0, .slice (a0.map aE)), (3, .int .i64 oG)]) := by
  intro m6
  induction m6 with
  | zero => intro oG h; cases (show none = some r from h)
  | succ m6 gR =>
   intro oG h
   replace h : CB (uf a0 m6) a0 oG = some r := h
   refine eG ca (fun ij er dq bq => ?_)
   refine aX dq (fun gf dJ dW bL => ?_)
   refine ws _ ?_
   refine a8 h (fun c5 h => ?_) (fun c5 h => ?_)
   ·refine bk (dJ _ (.inl ?_))
    refine aX dq (fun e0 dw c0 dk => ?_)
    refine b5 c0 (fun gi c1 dc e8 dt => ?_)
    obtain ⟨ah, eo, h⟩ := aG h
    obtain ⟨ak, ea, h⟩ := aG h
    refine hD eo (n4 ah 0 63 _ ea) _ ?_
    refine a8 h (fun gQ h => ?_) (fun gQ h => ?_)
    ·refine ws _ ?_
     exact aM (dc _ (.inl (aQ [.bool false])))
    ·refine bk (c1 _ (dw _ (.inl ?_)))
     refine wr _ ?_
     exact er _ (.inr ⟨_, bH rfl, gR (IntKind.i64.wrap (oG + 1)) h⟩)
   ·refine eE (bL 0 _ (bq 0 _ (b8 _ (b3 _ (.inl ?_)))))
    refine ws _ ?_
    exact aM (aC _ (.inl (aQ [.bool true])))
 obtain ⟨n, h⟩ := ed h
 exact eF (.inr ⟨_, bH rfl, hf n 0 h⟩)
theorem atS (a0 : List aS) (R : dP) (r : Bool) (h : wQ a0 R = some r) : bm aA 96 [.slice (a0.map bb), .ref (eg R)] (.bool r) [] := by
 refine b_ [0, 1] [.tmp 4] Tryz.func96 adD (fun b7 aC bY => ?_)
 refine ws _ ?_
 refine aX aC (fun eh b3 br ak => ?_)
 obtain ⟨ah, b2, h⟩ := aG h
 refine eA (n4 R.dO 0 (IntKind.i64.wrap ((a0.length : Int) - 1)) _ b2) _ ?_
 refine a8 h (fun c8 h => ?_) (fun c8 h => ?_)
 ·refine ws _ ?_
  exact aM (br _ (.inl (aQ [.bool false])))
 ·refine bk (b3 _ (.inl ?_))
  obtain ⟨ak, fF, h⟩ := aG h
  refine fm fF _ ?_
  refine aX aC (fun e0 dw c0 dk => ?_)
  obtain ⟨a6, kI, h⟩ := aG h
  rcases dU h with ⟨fc, h⟩ | ⟨fc, h⟩
  ·refine hc rfl (gN [(1, .ref (eg R)), (5, .aU (bb ak)), (43, .bool true)] (fun P aj => ?_) ?_)
   ·simp only [cl.down, simprocAttr, DU.down, (h3 fc)]
    refine fR (n4 R.Part 0 (IntKind.i64.wrap ((ak.Body.length : Int) - 1)) _ kI) rfl rfl rfl rfl (.inl (by rfl)) ?_
    simp only [cl.down, simprocAttr, DU.down, (h3 fc)]
    refine ⟨fS (by kernel_rfl), ?_⟩
    (try simp only [bh.down, simprocAttr, nu.down, (h3 fc)] at aj ⊢); exact aj
   refine lB rfl ?_
   refine ws _ ?_
   exact aM (c0 _ (.inl (aQ [.bool false])))
  ·obtain ⟨bl, fB, h⟩ := aG h
   refine hc rfl (gN [(1, .ref (eg R)), (5, .aU (bb ak)), (43, .bool (bl.Kind == 5))] (fun P aj => ?_) ?_)
   ·simp only [cl.down, simprocAttr, DU.down, (el fc), fB]
    refine fR (n4 R.Part 0 (IntKind.i64.wrap ((ak.Body.length : Int) - 1)) _ kI) rfl rfl rfl rfl (.inl (by rfl)) ?_
    simp only [cl.down, simprocAttr, DU.down, (el fc), fB]
    refine ⟨fS (by kernel_rfl), ?_⟩
    (try simp only [bh.down, simprocAttr, nu.down, (el fc), fB] at aj ⊢); exact aj
   refine a8 h (fun fJ h => ?_) (fun fJ h => ?_)
   ·refine ws _ ?_
    exact aM (c0 _ (.inl (aQ [.bool false])))
   ·refine bk (dw _ (.inl ?_))
    obtain ⟨bq, gj, h⟩ := aG h
    rcases dU h with ⟨iR, h⟩ | ⟨iR, h⟩
    ·obtain ⟨bL, hM, h⟩ := aG h
     refine hc rfl (gN [(4, .bool bL)] (fun P aj => ?_) ?_)
     ·simp only [cl.down, simprocAttr, qL.down, iR]
      refine fR (Ij ak R.Part _ gj) rfl rfl (by simp only [cl.down, simprocAttr, qL.down, iR, e3, e4, e5, cC, @cx _ bV bV (fun _ => zW _)] <;> rfl) rfl (.inr (by rfl)) ?_
      simp only [cl.down, simprocAttr, qL.down, iR]
      refine rm (atQ R.cD _ hM) rfl rfl rfl rfl (.inl (by rfl)) ?_
      simp only [cl.down, simprocAttr, qL.down, iR]
      refine ⟨fS (by kernel_rfl), ?_⟩
      (try simp only [bh.down, simprocAttr, nu.down, iR] at aj ⊢); exact aj
     exact aM (aC _ (.inl (aQ [.bool bL])))
    ·refine hc rfl (gN [(4, .bool false)] (fun P aj => ?_) ?_)
     ·simp only [cl.down, simprocAttr, qL.down, iR]
      refine fR (Ij ak R.Part _ gj) rfl rfl (by simp only [cl.down, simprocAttr, qL.down, iR, e3, e4, e5, cC, @cx _ bV bV (fun _ => zW _)] <;> rfl) rfl (.inr (by rfl)) ?_
      simp only [cl.down, simprocAttr, qL.down, iR]
      refine ⟨fS (by kernel_rfl), ?_⟩
      (try simp only [bh.down, simprocAttr, nu.down, iR] at aj ⊢); exact aj
     exact aM (aC _ (.inl (aQ [.bool false])))
theorem PS (a0 : List Int) (r : (List Int)) (h : zm a0 = some r) : bm aA 118 [.slice (a0.map aE)] (.au 1 (r.map aE)) [] := by
 refine b_ [0] [.tmp 2] Tryz.func118 adG (fun b7 aC bY => ?_)
 refine ws _ ?_
 obtain ⟨Bf, aT, h⟩ := aG h
 (try simp only [iC.down, Nat.reduceAdd] at aT)
 refine cU (bT [(2, .au 1 (a0.map aE))] (fun P aj => ?_) ?_)
 ·simp only [aP.down, simprocAttr, l3.down, (show ∀ s, c9 aA s 22 0 [] = some (.au 1 [], s) from fun s => by kernel_rfl), @gV aA 22 22 2 rfl rfl, gW, gX, ej, all_cons, all_nil, aT, @hd _ aE 1 (fun _ => rfl)]
  (try simp only [bh.down, simprocAttr, aE, (show ∀ s, c9 aA s 22 0 [] = some (.au 1 [], s) from fun s => by kernel_rfl), @gV aA 22 22 2 rfl rfl, gW, gX, ej, all_cons, all_nil, aT, @hd _ aE 1 (fun _ => rfl)] at aj ⊢); exact aj
 exact aM (aC _ (.inl (aQ [.au 1 (a0.map aE)])))
theorem rH (a0 : Bool) (r : Int) (h : oH a0 = some r) : bm aA 253 [.bool a0] (.int .i64 r) [] := by
 refine b_ [0] [.tmp 2] Tryz.func253 adM (fun b7 aC bY => ?_)
 refine ws _ ?_
 refine aX aC (fun eh b3 br ak => ?_)
 refine ws _ ?_
 refine a8 h (fun b8 h => ?_) (fun b8 h => ?_)
 ·refine ws _ ?_
  exact aM (br _ (.inl (aQ [.int .i64 1])))
 ·refine bk (b3 _ (.inl ?_))
  refine ws _ ?_
  exact aM (aC _ (.inl (aQ [.int .i64 0])))
theorem atT (a0 : List ba) (R : Int) (r : Int) (h : CE a0 R = some r) : bm aA 254 [.slice (a0.map bj), .int .i64 R] (.int .i64 r) [] := by
 refine b_ [0] [.tmp 4] Tryz.func254 adU (fun b7 aC bY => ?_)
 refine ws _ ?_
 refine ws _ ?_
 refine aX aC (fun l5 hL dQ a6 => ?_)
 refine b5 dQ (fun eB eS ca b8 bl => ?_)
 have hf : ∀ (n : Nat) (a7 : Int) (aO : Int), ug a0 n a7 aO = some r → ei aA OA eB (U [(0, .slice (a0.map bj)), (1, .int .i64 a7), (5, .int .i64 aO)]) := by
  intro m6
  induction m6 with
  | zero => intro a7 aO h; cases (show none = some r from h)
  | succ m6 gR =>
   intro a7 aO h
   replace h : CD (ug a0 m6) a0 a7 aO = some r := h
   refine eG ca (fun ij er dq bq => ?_)
   refine aX dq (fun gf dJ dW bL => ?_)
   refine ws _ ?_
   refine a8 h (fun c5 h => ?_) (fun c5 h => ?_)
   ·refine bk (dJ _ (.inl ?_))
    refine b5 dq (fun e0 dw c0 fU dk => ?_)
    obtain ⟨ah, kI, h⟩ := aG h
    obtain ⟨ak, eo, h⟩ := aG h
    refine hD kI (Pw ah _ eo) _ ?_
    refine wr _ ?_
    exact dw _ (er _ (.inr ⟨_, bH rfl, gR (IntKind.i64.wrap (a7 + 1)) (IntKind.i64.wrap (aO + (IntKind.i64.wrap (ak - 1)))) h⟩))
   ·refine eE (bL 0 _ (bq 0 _ (b8 _ (hL _ (.inl ?_)))))
    refine ws _ ?_
    exact aM (aC _ (.inl (aQ [.int .i64 a7])))
 obtain ⟨n, h⟩ := ed h
 exact eF (.inr ⟨_, bH rfl, hf n R 1 h⟩)
theorem atU (a0 : Int) (R : Int) (a2 : Int) (r : Int) (h : CF a0 R a2 = some r) : bm aA 255 [.int .i64 a0, .int .i64 R, .int .i64 a2] (.int .i64 r) [] := by
 refine b_ [0, 1, 2] [.tmp 6] Tryz.func255 ael (fun b7 aC bY => ?_)
 refine ws _ ?_
 refine aX aC (fun eh b3 br ak => ?_)
 refine ws _ ?_
 refine b5 br (fun eB eS ca b8 bl => ?_)
 refine ws _ ?_
 refine a8 h (fun ft h => ?_) (fun ft h => ?_)
 ·refine fm (@rn .i64 64 (by decide)) _ ?_
  exact aM (ca _ (.inl (aQ [.int .i64 (Int.tmod (IntKind.i64.wrap (R + a2)) 64)])))
 ·refine ws _ ?_
  refine a8 h (fun fU h => ?_) (fun fU h => ?_)
  ·refine fm (@rn .i64 64 (by decide)) _ ?_
   exact aM (ca _ (.inl (aQ [.int .i64 (Int.tmod (IntKind.i64.wrap ((IntKind.i64.wrap (R - a2)) + 64)) 64)])))
  ·refine ws _ ?_
   refine a8 h (fun fc h => ?_) (fun fc h => ?_)
   ·refine fm (@rn .i64 64 (by decide)) _ ?_
    exact aM (ca _ (.inl (aQ [.int .i64 (Int.tmod (IntKind.i64.wrap (R * a2)) 64)])))
   ·refine ws _ ?_
    refine a8 h (fun fJ h => ?_) (fun fJ h => ?_)
    ·obtain ⟨ah, eI, h⟩ := aG h
     refine eA (rH (R == a2) _ eI) _ ?_
     exact aM (ca _ (.inl (aQ [.int .i64 ah])))
    ·refine ws _ ?_
     refine a8 h (fun iR h => ?_) (fun iR h => ?_)
     ·obtain ⟨ak, jO, h⟩ := aG h
      refine eA (rH (R != a2) _ jO) _ ?_
      exact aM (ca _ (.inl (aQ [.int .i64 ak])))
     ·refine ws _ ?_
      refine a8 h (fun u3 h => ?_) (fun u3 h => ?_)
      ·obtain ⟨a6, mW, h⟩ := aG h
       refine eA (rH (decide (R < a2)) _ mW) _ ?_
       exact aM (ca _ (.inl (aQ [.int .i64 a6])))
      ·refine ws _ ?_
       refine a8 h (fun pU h => ?_) (fun pU h => ?_)
       ·obtain ⟨bl, rI, h⟩ := aG h
        refine eA (rH (decide (R ≤ a2)) _ rI) _ ?_
        exact aM (ca _ (.inl (aQ [.int .i64 bl])))
       ·refine ws _ ?_
        refine a8 h (fun u5 h => ?_) (fun u5 h => ?_)
        ·rcases dU h with ⟨kV, h⟩ | ⟨kV, h⟩
         ·obtain ⟨bq, ny, h⟩ := aG h
          refine hD kV (rH (a2 != 0) _ ny) _ ?_
          exact aM (ca _ (.inl (aQ [.int .i64 bq])))
         ·obtain ⟨bL, xj, h⟩ := aG h
          refine hD kV (rH false _ xj) _ ?_
          exact aM (ca _ (.inl (aQ [.int .i64 bL])))
        ·refine bk (eS _ (b3 _ (.inl ?_)))
         rcases dU h with ⟨u6, h⟩ | ⟨u6, h⟩
         ·obtain ⟨ch, u1, h⟩ := aG h
          refine hD u6 (rH true _ u1) _ ?_
          exact aM (aC _ (.inl (aQ [.int .i64 ch])))
         ·obtain ⟨dv, u7, h⟩ := aG h
          refine hD u6 (rH (a2 != 0) _ u7) _ ?_
          exact aM (aC _ (.inl (aQ [.int .i64 dv])))
theorem atV (wR : (List ba) → (List Int) → Int → Option Int) (IH : ∀ (a0 : List ba) (R : List Int) (a2 : Int) (r : Int), wR a0 R a2 = some r → bm aA 187 [.slice (a0.map bj), .slice (R.map aE), .int .i64 a2] (.int .i64 r) []) (a0 : List ba) (R : List Int) (a2 : Int) (r : Int) (h : Hs wR a0 R a2 = some r) : bm aA 187 [.slice (a0.map bj), .slice (R.map aE), .int .i64 a2] (.int .i64 r) [] := by
 refine b_ [0, 1, 2] [.tmp 6] Tryz.func187 aeA (fun b7 aC bY => ?_)
 refine ws _ ?_
 refine aX aC (fun eh b3 br ak => ?_)
 obtain ⟨ah, b2, h⟩ := aG h
 refine fm b2 _ ?_
 refine b5 br (fun ij er dq c8 bq => ?_)
 refine ws _ ?_
 refine a8 h (fun pq h => ?_) (fun pq h => ?_)
 ·refine fm b2 _ ?_
  exact aM (dq _ (.inl (aQ [.int .i64 ah.Value])))
 ·refine ws _ ?_
  refine a8 h (fun e8 h => ?_) (fun e8 h => ?_)
  ·obtain ⟨ak, eo, h⟩ := aG h
   refine fm (And.intro b2 eo) _ ?_
   exact aM (dq _ (.inl (aQ [.int .i64 ak])))
  ·refine ws _ ?_
   refine a8 h (fun gQ h => ?_) (fun gQ h => ?_)
   ·obtain ⟨a6, cF, h⟩ := aG h
    obtain ⟨bl, eI, h⟩ := aG h
    refine cU (bT [(6, .int .i64 bl)] (fun P aj => ?_) ?_)
    ·simp only [aP.down, simprocAttr, aE, bj]
     refine eQ (IH a0 R (IntKind.i64.wrap (a2 + 1)) _ cF) rfl rfl rfl rfl (.inl (by rfl)) ?_
     simp only [aP.down, simprocAttr, aE, bj]
     refine eQ (rH (a6 == 0) _ eI) rfl rfl rfl rfl (.inl (by rfl)) ?_
     simp only [aP.down, simprocAttr, aE, bj]
     (try simp only [bh.down, simprocAttr, aE, bj] at aj ⊢); exact aj
    exact aM (dq _ (.inl (aQ [.int .i64 bl])))
   ·refine bk (er _ (b3 _ (.inl ?_)))
    obtain ⟨bq, gy, h⟩ := aG h
    refine eA (IH a0 R (IntKind.i64.wrap (a2 + 1)) _ gy) _ ?_
    obtain ⟨bL, jO, h⟩ := aG h
    obtain ⟨ch, gk, h⟩ := aG h
    refine cU (bT [(0, .slice (a0.map bj)), (2, .int .i64 a2), (7, .int .i64 bq), (8, .int .i64 ch)] (fun P aj => ?_) ?_)
    ·simp only [aP.down, simprocAttr, aE, bj]
     refine eQ (atT a0 (IntKind.i64.wrap (a2 + 1)) _ jO) rfl rfl rfl rfl (.inl (by rfl)) ?_
     simp only [aP.down, simprocAttr, aE, bj]
     refine eQ (IH a0 R bL _ gk) rfl rfl rfl rfl (.inl (by rfl)) ?_
     simp only [aP.down, simprocAttr, aE, bj]
     (try simp only [bh.down, simprocAttr, aE, bj] at aj ⊢); exact aj
    obtain ⟨dv, kk, h⟩ := aG h
    refine hD b2 (atU ah.Value bq ch _ kk) _ ?_
    exact aM (aC _ (.inl (aQ [.int .i64 dv])))
theorem atW : ∀ (n : Nat) (a0 : List ba) (R : List Int) (a2 : Int) (r : Int), uh n a0 R a2 = some r → bm aA 187 [.slice (a0.map bj), .slice (R.map aE), .int .i64 a2] (.int .i64 r) [] := by
 intro n
 induction n with
 | zero => intro a0 R a2 r h; cases (show none = some r from h)
 | succ n ih => intro a0 R a2 r h; exact atV (uh n) ih a0 R a2 r h
theorem atX (a0 : List ba) (R : List Int) (a2 : Int) (r : Int) (h : Ht a0 R a2 = some r) : bm aA 187 [.slice (a0.map bj), .slice (R.map aE), .int .i64 a2] (.int .i64 r) [] := by
 obtain ⟨n, h⟩ := ed h
 exact atW n a0 R a2 r h
theorem PT (a0 : List ba) (R : List Int) (r : Int) (h : ui a0 R = some r) : bm aA 119 [.slice (a0.map bj), .slice (R.map aE)] (.int .i64 r) [] := by
 refine b_ [0, 1] [.tmp 4] Tryz.func119 aeD (fun b7 aC bY => ?_)
 refine ws _ ?_
 obtain ⟨ah, aT, h⟩ := aG h
 refine eA (atX a0 R 0 _ aT) _ ?_
 exact aM (aC _ (.inl (aQ [.int .i64 ah])))
theorem PU (a0 : List (List ba)) (R : List Int) (r : (List Int)) (h : zn a0 R = some r) : bm aA 233 [.slice (a0.map cW), .slice (R.map aE)] (.au 1 (r.map aE)) [] := by
 refine b_ [0, 1] [.tmp 4] Tryz.func233 aeM (fun b7 aC bY => ?_)
 refine ws _ ?_
 refine fm (show ∀ s, c9 aA s 22 0 [] = some (.au 1 [], s) from fun s => by kernel_rfl) _ ?_
 refine aX aC (fun l5 hL dQ a6 => ?_)
 refine ws _ ?_
 refine b5 dQ (fun ij er dq c8 bq => ?_)
 have l8 : ∀ (n : Nat) (eb : List Int) (hB : Int), uj a0 R n eb hB = some r → ei aA OB ij (U [(0, .slice (a0.map cW)), (1, .slice (R.map aE)), (5, .au 1 (eb.map aE)), (6, .int .i64 hB)]) := by
  intro m8
  induction m8 with
  | zero => intro eb hB h; cases (show none = some r from h)
  | succ m8 l9 =>
   intro eb hB h
   replace h : CG (uj a0 R m8) a0 R eb hB = some r := h
   refine eG dq (fun gf dJ dW bL => ?_)
   refine aX dW (fun j5 fo fE ch => ?_)
   refine ws _ ?_
   refine a8 h (fun fU h => ?_) (fun fU h => ?_)
   ·refine bk (fo _ (.inl ?_))
    refine aX dW (fun gi c1 dc dt => ?_)
    refine b5 dc (fun kT gD hT pR eW => ?_)
    obtain ⟨ah, ea, h⟩ := aG h
    obtain ⟨ak, fB, h⟩ := aG h
    obtain ⟨u16, gx, h⟩ := aG h
    (try simp only [iC.down, Nat.reduceAdd] at gx)
    refine iY (bT [(0, .slice (a0.map cW)), (1, .slice (R.map aE)), (5, .au 1 ((eb ++ [ak]).map aE)), (6, .int .i64 hB)] (fun P aj => ?_) ?_)
    ·simp only [aP.down, simprocAttr, dm, gE, e_, fT, eV, aE, bj, cW, ea, (show ∀ s, c9 aA s 22 1 [(0, .int .i64 ak)] = some (.au 1 [.int .i64 ak], s) from fun s => by kernel_rfl), @gV aA 22 22 2 rfl rfl, gW, gX, ej, all_cons, all_nil, gx, @hd _ aE 1 (fun _ => rfl)]
     refine eQ (PT ah R _ fB) rfl rfl rfl rfl (.inl (by rfl)) ?_
     simp only [aP.down, simprocAttr, dm, gE, e_, fT, eV, aE, bj, cW, ea, (show ∀ s, c9 aA s 22 1 [(0, .int .i64 ak)] = some (.au 1 [.int .i64 ak], s) from fun s => by kernel_rfl), @gV aA 22 22 2 rfl rfl, gW, gX, ej, all_cons, all_nil, gx, @hd _ aE 1 (fun _ => rfl)]
     (try simp only [bh.down, simprocAttr, aE, bj, cW, ea, (show ∀ s, c9 aA s 22 1 [(0, .int .i64 ak)] = some (.au 1 [.int .i64 ak], s) from fun s => by kernel_rfl), @gV aA 22 22 2 rfl rfl, gW, gX, ej, all_cons, all_nil, gx, @hd _ aE 1 (fun _ => rfl)] at aj ⊢); exact aj
    refine gD _ (c1 _ (.inl ?_))
    refine wr [(0, .slice (a0.map cW)), (1, .slice (R.map aE)), (5, .au 1 ((eb ++ [ak]).map aE)), (6, .int .i64 (IntKind.i64.wrap (hB + 1)))] ?_
    exact dJ _ (.inr ⟨_, bH rfl, l9 (eb ++ [ak]) (IntKind.i64.wrap (hB + 1)) h⟩)
   ·refine eE (ch 0 _ (bL 0 _ (c8 _ (hL _ (.inl ?_)))))
    refine ws _ ?_
    exact aM (aC _ (.inl (aQ [.au 1 (eb.map aE)])))
 obtain ⟨n, h⟩ := ed h
 exact eF (.inr ⟨_, bH rfl, l8 n [] 0 h⟩)
theorem atY (a0 : Int) (r : (List UInt8)) (h : zo a0 = some r) : bm aA 170 [.int .i64 a0] (.str r) [] := by
 refine b_ [0] [.tmp 2] Tryz.func170 ae9 (fun b7 aC bY => ?_)
 refine ws _ ?_
 refine aX aC (fun eh b3 br ak => ?_)
 refine ws _ ?_
 refine a8 h (fun b8 h => ?_) (fun b8 h => ?_)
 ·refine ws _ ?_
  exact aM (br _ (.inl (aQ [.str ([48] : List UInt8)])))
 ·refine bk (b3 _ (.inl ?_))
  refine fm (show ∀ s, c9 aA s 123 0 [] = some (.au 1 [], s) from fun s => by kernel_rfl) _ ?_
  refine aX aC (fun j5 fo fE ch => ?_)
  refine ws _ ?_
  refine b5 fE (fun e0 dw c0 fU dk => ?_)
  have l6 : ∀ (n : Nat) (fa : List UInt8) (fz : Int), qH a0 n fa fz = some r → ei aA OD e0 (U [(0, .int .i64 a0), (3, .au 1 (fa.map gu)), (4, .int .i64 fz)]) := by
   intro m16
   induction m16 with
   | zero => intro fa fz h; cases (show none = some r from h)
   | succ m16 l7 =>
    intro fa fz h
    replace h : CJ (qH a0 m16) a0 fa fz = some r := h
    refine eG c0 (fun gi c1 dc dt => ?_)
    refine aX dc (fun kT gD hT eW => ?_)
    refine ws _ ?_
    refine a8 h (fun fV h => ?_) (fun fV h => ?_)
    ·refine bk (gD _ (.inl ?_))
     refine aX dc (fun kh gG gH gP => ?_)
     refine b5 gH (fun mV iQ ja fJ hK => ?_)
     refine fm (@rn .i64 10 (by decide)) _ ?_
     have PV : ∀ (rz : List UInt8) (sD : Int) (oI : Int), CH (qH a0 m16) a0 rz sD oI = some r → cy aA OC mV (U [(0, .int .i64 a0), (3, .au 1 (rz.map gu)), (4, .int .i64 sD), (5, .int .i64 oI)]) := by
      intro rz sD oI h
      obtain ⟨PW, gy, h⟩ := aG h
      (try simp only [iC.down, Nat.reduceAdd] at gy)
      refine iY (bT [(0, .int .i64 a0), (3, .au 1 ((rz ++ [(mx (IntKind.i64.wrap (48 + oI)))]).map gu)), (4, .int .i64 sD)] (fun P aj => ?_) ?_)
      ·simp only [aP.down, simprocAttr, y3, y4, gu, @BH aA 2 5 .u8 rfl rfl, (show ∀ s, c9 aA s 123 1 [(0, .int .u8 (IntKind.u8.wrap (IntKind.i64.wrap (48 + oI))))] = some (.au 1 [.int .u8 (IntKind.u8.wrap (IntKind.i64.wrap (48 + oI)))], s) from fun s => by kernel_rfl), @gV aA 123 123 5 rfl rfl, gW, gX, ej, all_cons, all_nil, gy, wv]
       (try simp only [bh.down, simprocAttr, gu, @BH aA 2 5 .u8 rfl rfl, (show ∀ s, c9 aA s 123 1 [(0, .int .u8 (IntKind.u8.wrap (IntKind.i64.wrap (48 + oI))))] = some (.au 1 [.int .u8 (IntKind.u8.wrap (IntKind.i64.wrap (48 + oI)))], s) from fun s => by kernel_rfl), @gV aA 123 123 5 rfl rfl, gW, gX, ej, all_cons, all_nil, gy, wv] at aj ⊢); exact aj
      refine iQ _ (gG _ (.inl ?_))
      refine Ps (@Mo .i64 10 (by decide)) [(0, .int .i64 a0), (3, .au 1 ((rz ++ [(mx (IntKind.i64.wrap (48 + oI)))]).map gu)), (4, .int .i64 (IntKind.i64.wrap (Int.tdiv sD 10)))] ?_
      exact c1 _ (.inr ⟨_, bH rfl, l7 (rz ++ [(mx (IntKind.i64.wrap (48 + oI)))]) (IntKind.i64.wrap (Int.tdiv sD 10)) h⟩)
     refine aX ja (fun uY nv oU jy => ?_)
     refine ws _ ?_
     refine a8 h (fun sU h => ?_) (fun sU h => ?_)
     ·refine wr _ ?_
      exact nv _ (.inr ⟨_, bH rfl, PV fa fz (IntKind.i64.wrap (0 - (Int.tmod fz 10))) h⟩)
     ·exact bk (nv _ (.inr ⟨_, bH rfl, PV fa fz (Int.tmod fz 10) h⟩))
    ·refine eE (eW 0 _ (dt 0 _ (fU _ (fo _ (.inl ?_)))))
     have PX : ∀ (lG : List UInt8), sE lG = some r → cy aA OG b7 (U [(3, .au 1 (lG.map gu))]) := by
      intro lG h
      refine fm (show ∀ s, c9 aA s 123 0 [] = some (.au 1 [], s) from fun s => by kernel_rfl) _ ?_
      refine aX aC (fun PG PH Ix atD => ?_)
      refine ws _ ?_
      refine b5 Ix (fun PI PJ PK II PL => ?_)
      have atZ : ∀ (n : Nat) (mo : List UInt8) (np : Int), CI lG n mo np = some r → ei aA OE PI (U [(3, .au 1 (lG.map gu)), (6, .au 1 (mo.map gu)), (7, .int .i64 np)]) := by
       intro IJ
       induction IJ with
       | zero => intro mo np h; cases (show none = some r from h)
       | succ IJ at0 =>
        intro mo np h
        replace h : NM (CI lG IJ) lG mo np = some r := h
        refine eG PK (fun Pz PA D6 PB => ?_)
        refine aX D6 (fun atp Ip Iq Ir => ?_)
        refine ws _ ?_
        refine a8 h (fun nx h => ?_) (fun nx h => ?_)
        ·refine bk (Ip _ (.inl ?_))
         refine aX D6 (fun azX at1 at2 azY => ?_)
         refine b5 at2 (fun atq It PD azZ atr => ?_)
         obtain ⟨ah, xk, h⟩ := aG h
         obtain ⟨az0, u0, h⟩ := aG h
         (try simp only [iC.down, Nat.reduceAdd] at u0)
         refine iY (bT [(3, .au 1 (lG.map gu)), (6, .au 1 ((mo ++ [ah]).map gu)), (7, .int .i64 np)] (fun P aj => ?_) ?_)
         ·simp only [aP.down, simprocAttr, y3, y4, gu, xk, dd xk, (show ∀ s, c9 aA s 123 1 [(0, .int .u8 (ah.toNat : Int))] = some (.au 1 [.int .u8 (ah.toNat : Int)], s) from fun s => by kernel_rfl), @gV aA 123 123 5 rfl rfl, gW, gX, ej, all_cons, all_nil, u0, wv]
          (try simp only [bh.down, simprocAttr, gu, xk, dd xk, (show ∀ s, c9 aA s 123 1 [(0, .int .u8 (ah.toNat : Int))] = some (.au 1 [.int .u8 (ah.toNat : Int)], s) from fun s => by kernel_rfl), @gV aA 123 123 5 rfl rfl, gW, gX, ej, all_cons, all_nil, u0, wv] at aj ⊢); exact aj
         refine It _ (at1 _ (.inl ?_))
         refine wr [(3, .au 1 (lG.map gu)), (6, .au 1 ((mo ++ [ah]).map gu)), (7, .int .i64 (IntKind.i64.wrap (np - 1)))] ?_
         exact PA _ (.inr ⟨_, bH rfl, at0 (mo ++ [ah]) (IntKind.i64.wrap (np - 1)) h⟩)
        ·refine eE (Ir 2 _ (PB 2 _ (II _ (PH _ (.inl ?_)))))
         refine cU (bT [(2, .str mo)] (fun P aj => ?_) ?_)
         ·simp only [aP.down, simprocAttr, gu, (@BI aA 123 9 5 rfl rfl rfl).2.2, BK, BJ]
          (try simp only [bh.down, simprocAttr, gu, (@BI aA 123 9 5 rfl rfl rfl).2.2, BK, BJ] at aj ⊢); exact aj
         exact aM (aC _ (.inl (aQ [.str mo])))
      obtain ⟨n, h⟩ := ed h
      exact eF (.inr ⟨_, bH rfl, atZ n [] (IntKind.i64.wrap ((lG.length : Int) - 1)) h⟩)
     refine aX aC (fun az1 PY az2 az3 => ?_)
     refine ws _ ?_
     refine a8 h (fun Ao h => ?_) (fun Ao h => ?_)
     ·obtain ⟨az4, IK, h⟩ := aG h
      (try simp only [iC.down, Nat.reduceAdd] at IK)
      refine iY (bT [(3, .au 1 ((fa ++ [(45 : UInt8)]).map gu))] (fun P aj => ?_) ?_)
      ·simp only [aP.down, simprocAttr, y3, y4, gu, (show ∀ s, c9 aA s 123 1 [(0, .int .u8 45)] = some (.au 1 [.int .u8 45], s) from fun s => by kernel_rfl), @gV aA 123 123 5 rfl rfl, gW, gX, ej, all_cons, all_nil, IK, wv]
       (try simp only [bh.down, simprocAttr, gu, (show ∀ s, c9 aA s 123 1 [(0, .int .u8 45)] = some (.au 1 [.int .u8 45], s) from fun s => by kernel_rfl), @gV aA 123 123 5 rfl rfl, gW, gX, ej, all_cons, all_nil, IK, wv] at aj ⊢); exact aj
      exact PY _ (.inr ⟨_, bH rfl, PX (fa ++ [(45 : UInt8)]) h⟩)
     ·exact bk (PY _ (.inr ⟨_, bH rfl, PX fa h⟩))
  obtain ⟨n, h⟩ := ed h
  exact eF (.inr ⟨_, bH rfl, l6 n [] a0 h⟩)
theorem at3 (a0 : List Int) (r : (List UInt8)) (h : CM a0 = some r) : bm aA 171 [.slice (a0.map aE)] (.str r) [] := by
 refine b_ [0] [.tmp 2] Tryz.func171 afm (fun b7 aC bY => ?_)
 refine ws _ ?_
 refine aX aC (fun eh b3 br ak => ?_)
 refine ws _ ?_
 refine a8 h (fun b8 h => ?_) (fun b8 h => ?_)
 ·refine ws _ ?_
  exact aM (br _ (.inl (aQ [.str ([45] : List UInt8)])))
 ·refine bk (b3 _ (.inl ?_))
  refine ws _ ?_
  refine aX aC (fun j5 fo fE ch => ?_)
  refine ws _ ?_
  refine b5 fE (fun e0 dw c0 fU dk => ?_)
  have l6 : ∀ (n : Nat) (fa : List UInt8) (fz : Int), sF a0 n fa fz = some r → ei aA OI e0 (U [(0, .slice (a0.map aE)), (3, .str fa), (4, .int .i64 fz)]) := by
   intro m16
   induction m16 with
   | zero => intro fa fz h; cases (show none = some r from h)
   | succ m16 l7 =>
    intro fa fz h
    replace h : CL (sF a0 m16) a0 fa fz = some r := h
    refine eG c0 (fun gi c1 dc dt => ?_)
    refine aX dc (fun kT gD hT eW => ?_)
    refine ws _ ?_
    refine a8 h (fun fV h => ?_) (fun fV h => ?_)
    ·refine bk (gD _ (.inl ?_))
     refine aX dc (fun kh gG gH gP => ?_)
     refine b5 gH (fun mV iQ ja fJ hK => ?_)
     have PZ : ∀ (rA : List UInt8) (rB : Int), CK (sF a0 m16) a0 rA rB = some r → cy aA OH mV (U [(0, .slice (a0.map aE)), (3, .str rA), (4, .int .i64 rB)]) := by
      intro rA rB h
      obtain ⟨ah, gj, h⟩ := aG h
      obtain ⟨ak, gy, h⟩ := aG h
      obtain ⟨at4, hM, h⟩ := aG h
      (try simp only [iC.down, Nat.reduceAdd] at hM)
      refine iY (bT [(0, .slice (a0.map aE)), (3, .str (rA ++ ak)), (4, .int .i64 rB)] (fun P aj => ?_) ?_)
      ·simp only [aP.down, simprocAttr, l3.down, gj, hM, iZ, i1]
       refine eQ (atY ah _ gy) rfl rfl rfl rfl (.inl (by rfl)) ?_
       simp only [aP.down, simprocAttr, l3.down, gj, hM, iZ, i1]
       (try simp only [bh.down, simprocAttr, aE, gj, hM, iZ, i1] at aj ⊢); exact aj
      refine iQ _ (gG _ (.inl ?_))
      refine wr [(0, .slice (a0.map aE)), (3, .str (rA ++ ak)), (4, .int .i64 (IntKind.i64.wrap (rB + 1)))] ?_
      exact c1 _ (.inr ⟨_, bH rfl, l7 (rA ++ ak) (IntKind.i64.wrap (rB + 1)) h⟩)
     refine aX ja (fun uW mr n3 iO => ?_)
     refine ws _ ?_
     refine a8 h (fun u3 h => ?_) (fun u3 h => ?_)
     ·obtain ⟨az5, mW, h⟩ := aG h
      (try simp only [iC.down, Nat.reduceAdd] at mW)
      refine iY (bT [(0, .slice (a0.map aE)), (3, .str (fa ++ ([44] : List UInt8))), (4, .int .i64 fz)] (fun P aj => ?_) ?_)
      ·simp only [aP.down, simprocAttr, aE, mW, iZ, i1]
       (try simp only [bh.down, simprocAttr, aE, mW, iZ, i1] at aj ⊢); exact aj
      exact mr _ (.inr ⟨_, bH rfl, PZ (fa ++ ([44] : List UInt8)) fz h⟩)
     ·exact bk (mr _ (.inr ⟨_, bH rfl, PZ fa fz h⟩))
    ·refine eE (eW 0 _ (dt 0 _ (fU _ (fo _ (.inl ?_)))))
     refine ws _ ?_
     exact aM (aC _ (.inl (aQ [.str fa])))
  obtain ⟨n, h⟩ := ed h
  exact eF (.inr ⟨_, bH rfl, l6 n ([] : List UInt8) 0 h⟩)
theorem at5 (a0 : List UInt8) (R : List Int) (r : (List UInt8)) (h : CN a0 R = some r) : bm aA 120 [.str a0, .slice (R.map aE)] (.str r) [] := by
 refine b_ [0, 1] [.tmp 4] Tryz.func120 afs (fun b7 aC bY => ?_)
 refine ws _ ?_
 refine aX aC (fun eh b3 br ak => ?_)
 refine ws _ ?_
 refine a8 h (fun b8 h => ?_) (fun b8 h => ?_)
 ·refine ws _ ?_
  exact aM (br _ (.inl (aQ [.str a0])))
 ·refine bk (b3 _ (.inl ?_))
  obtain ⟨xl, bO, h⟩ := aG h
  (try simp only [iC.down, Nat.reduceAdd] at bO)
  obtain ⟨ah, fF, h⟩ := aG h
  obtain ⟨xl, mg, h⟩ := aG h
  (try simp only [iC.down, Nat.reduceAdd] at mg)
  obtain ⟨xl, jg, h⟩ := aG h
  (try simp only [iC.down, Nat.reduceAdd] at jg)
  refine cU (bT [(4, .str (((a0 ++ ([40] : List UInt8)) ++ ah) ++ ([41] : List UInt8)))] (fun P aj => ?_) ?_)
  ·simp only [aP.down, simprocAttr, aE, bO, iZ, i1, mg, jg]
   refine eQ (at3 R _ fF) rfl rfl rfl rfl (.inl (by rfl)) ?_
   simp only [aP.down, simprocAttr, aE, bO, iZ, i1, mg, jg]
   (try simp only [bh.down, simprocAttr, aE, bO, iZ, i1, mg, jg] at aj ⊢); exact aj
  exact aM (aC _ (.inl (aQ [.str (((a0 ++ ([40] : List UInt8)) ++ ah) ++ ([41] : List UInt8))])))
theorem at6 (a0 : List Int) (R : List Int) (r : Bool) (h : CP a0 R = some r) : bm aA 122 [.slice (a0.map aE), .slice (R.map aE)] (.bool r) [] := by
 refine b_ [0, 1] [.tmp 4] Tryz.func122 afF (fun b7 aC bY => ?_)
 refine ws _ ?_
 refine aX aC (fun eh b3 br ak => ?_)
 refine ws _ ?_
 refine a8 h (fun b8 h => ?_) (fun b8 h => ?_)
 ·refine ws _ ?_
  exact aM (br _ (.inl (aQ [.bool false])))
 ·refine bk (b3 _ (.inl ?_))
  refine aX aC (fun gf dJ dW bL => ?_)
  refine ws _ ?_
  refine b5 dW (fun kj ky j6 c5 dv => ?_)
  have j7 : ∀ (n : Nat) (cE : Int), uk a0 R n cE = some r → ei aA OJ kj (U [(0, .slice (a0.map aE)), (1, .slice (R.map aE)), (5, .int .i64 cE)]) := by
   intro m14
   induction m14 with
   | zero => intro cE h; cases (show none = some r from h)
   | succ m14 jN =>
    intro cE h
    replace h : CO (uk a0 R m14) a0 R cE = some r := h
    refine eG j6 (fun e0 dw c0 dk => ?_)
    refine aX c0 (fun gi c1 dc dt => ?_)
    refine ws _ ?_
    refine a8 h (fun fc h => ?_) (fun fc h => ?_)
    ·refine bk (c1 _ (.inl ?_))
     refine aX c0 (fun pV j8 jq kg => ?_)
     refine b5 jq (fun kh gG gH gQ gP => ?_)
     obtain ⟨ah, cF, h⟩ := aG h
     obtain ⟨ak, eI, h⟩ := aG h
     refine hc rfl (gN [(0, .slice (a0.map aE)), (1, .slice (R.map aE)), (5, .int .i64 cE), (25, .bool (ah != ak))] (fun P aj => ?_) ?_)
     ·simp only [cl.down, simprocAttr, l3.down, cF, eI]
      refine ⟨fS (by kernel_rfl), ?_⟩
      (try simp only [bh.down, simprocAttr, aE, cF, eI] at aj ⊢); exact aj
     refine a8 h (fun jb h => ?_) (fun jb h => ?_)
     ·refine ws _ ?_
      exact aM (gH _ (.inl (aQ [.bool false])))
     ·refine bk (gG _ (j8 _ (.inl ?_)))
      refine wr _ ?_
      exact dw _ (.inr ⟨_, bH rfl, jN (IntKind.i64.wrap (cE + 1)) h⟩)
    ·refine eE (dt 0 _ (dk 0 _ (c5 _ (dJ _ (.inl ?_)))))
     refine ws _ ?_
     exact aM (aC _ (.inl (aQ [.bool true])))
  obtain ⟨n, h⟩ := ed h
  exact eF (.inr ⟨_, bH rfl, j7 n 0 h⟩)
theorem at7 (a0 : dP) (R : dP) (r : Bool) (h : Hu a0 R = some r) : bm aA 276 [.ref (eg a0), .ref (eg R)] (.bool r) [] := by
 refine b_ [0, 1] [.tmp 4] Tryz.func276 afI (fun b7 aC bY => ?_)
 refine ws _ ?_
 rcases dU h with ⟨hn, h⟩ | ⟨hn, h⟩
 ·rcases dU h with ⟨b8, h⟩ | ⟨b8, h⟩
  ·obtain ⟨ah, cI, h⟩ := aG h
   refine hc rfl (gN [(4, .bool ah)] (fun P aj => ?_) ?_)
   ·simp only [cl.down, simprocAttr, qM.down, hn, b8]
    refine rm (at6 a0.cD R.cD _ cI) rfl rfl rfl rfl (.inl (by rfl)) ?_
    simp only [cl.down, simprocAttr, qM.down, hn, b8]
    refine ⟨fS (by kernel_rfl), ?_⟩
    (try simp only [bh.down, simprocAttr, aE, eg, hn, b8] at aj ⊢); exact aj
   exact aM (aC _ (.inl (aQ [.bool ah])))
  ·refine hc rfl (gN [(4, .bool false)] (fun P aj => ?_) ?_)
   ·simp only [cl.down, simprocAttr, qM.down, hn, b8]
    refine ⟨fS (by kernel_rfl), ?_⟩
    (try simp only [bh.down, simprocAttr, aE, eg, hn, b8] at aj ⊢); exact aj
   exact aM (aC _ (.inl (aQ [.bool false])))
 ·refine hc rfl (gN [(4, .bool false)] (fun P aj => ?_) ?_)
  ·simp only [cl.down, simprocAttr, qM.down, hn]
   refine ⟨fS (by kernel_rfl), ?_⟩
   (try simp only [bh.down, simprocAttr, aE, eg, hn] at aj ⊢); exact aj
  exact aM (aC _ (.inl (aQ [.bool false])))
theorem aua (a0 : List bd) (R : bd) (r : (List bd)) (h : CR a0 R = some r) : bm aA 234 [.au 4 (a0.map b6), b6 R] (.au 4 (r.map b6)) [.hole, .hole] := by
 refine b_ [0, 1] [.tmp 4] Tryz.func234 afS (fun b7 aC bY => ?_)
 refine ws _ ?_
 refine aX aC (fun eh b3 br ak => ?_)
 refine ws _ ?_
 refine b5 br (fun eB eS ca b8 bl => ?_)
 have hf : ∀ (n : Nat) (aO : Int), um a0 R n aO = some r → ei aA OK eB (U [(0, .au 4 (a0.map b6)), (3, .aU (b6 R)), (5, .int .i64 aO)]) := by
  intro m6
  induction m6 with
  | zero => intro aO h; cases (show none = some r from h)
  | succ m6 gR =>
   intro aO h
   replace h : CQ (um a0 R m6) a0 R aO = some r := h
   refine eG ca (fun ij er dq bq => ?_)
   refine aX dq (fun gf dJ dW bL => ?_)
   refine ws _ ?_
   refine a8 h (fun c5 h => ?_) (fun c5 h => ?_)
   ·refine bk (dJ _ (.inl ?_))
    refine aX dq (fun e0 dw c0 dk => ?_)
    refine b5 c0 (fun gi c1 dc e8 dt => ?_)
    obtain ⟨ah, eo, h⟩ := aG h
    rcases dU h with ⟨fV, h⟩ | ⟨fV, h⟩
    ·obtain ⟨ak, fB, h⟩ := aG h
     refine hc rfl (gN [(0, .au 4 (a0.map b6)), (3, .aU (b6 R)), (5, .int .i64 aO), (27, .bool ak)] (fun P aj => ?_) ?_)
     ·simp only [cl.down, simprocAttr, rD.down, eo, dd eo, fV]
      refine rm (at7 ah.Next R.Next _ fB) rfl rfl (by simp only [cl.down, simprocAttr, rD.down, eo, dd eo, fV, e3, e4, e5, cC, @cx _ aE aE (fun _ => gF _), @cx _ aE aE (fun _ => gF _)] <;> rfl) rfl (.inr (by rfl)) ?_
      simp only [cl.down, simprocAttr, rD.down, eo, dd eo, fV]
      refine ⟨fS (by kernel_rfl), ?_⟩
      (try simp only [bh.down, simprocAttr, z_.down, eo, dd eo, fV] at aj ⊢); exact aj
     refine a8 h (fun fJ h => ?_) (fun fJ h => ?_)
     ·refine ws _ ?_
      exact aM (dc _ (.inl (jw [.au 4 (a0.map b6)] rfl (by cases gg h; rfl) (by decide) (jH (ep (ep (jI)))))))
     ·refine bk (c1 _ (dw _ (.inl ?_)))
      refine wr _ ?_
      exact er _ (.inr ⟨_, bH rfl, gR (IntKind.i64.wrap (aO + 1)) h⟩)
    ·refine hc rfl (gN [(0, .au 4 (a0.map b6)), (3, .aU (b6 R)), (5, .int .i64 aO), (27, .bool false)] (fun P aj => ?_) ?_)
     ·simp only [cl.down, simprocAttr, rD.down, eo, dd eo, fV]
      refine ⟨fS (by kernel_rfl), ?_⟩
      (try simp only [bh.down, simprocAttr, z_.down, eo, dd eo, fV] at aj ⊢); exact aj
     refine wx rfl ?_
     refine bk (c1 _ (dw _ (.inl ?_)))
     refine wr _ ?_
     exact er _ (.inr ⟨_, bH rfl, gR (IntKind.i64.wrap (aO + 1)) h⟩)
   ·refine eE (bL 0 _ (bq 0 _ (b8 _ (b3 _ (.inl ?_)))))
    obtain ⟨PW, hM, h⟩ := aG h
    (try simp only [iC.down, Nat.reduceAdd] at hM)
    refine cU (bT [(4, .au 4 ((a0 ++ [R]).map b6))] (fun P aj => ?_) ?_)
    ·simp only [aP.down, simprocAttr, rD.down, (show ∀ s, c9 aA s 69 1 [(0, .agg [.str R.Label, .agg [.int .i64 R.Next.dO, .int .i64 R.Next.Part, .slice (R.Next.cD.map aE)]])] = some (.au 4 [.agg [.str R.Label, .agg [.int .i64 R.Next.dO, .int .i64 R.Next.Part, .slice (R.Next.cD.map aE)]]], s) from fun s => by kernel_rfl), @gV aA 69 69 164 rfl rfl, gW, gX, ej, all_cons, all_nil, hM, @hd _ b6 4 (fun _ => rfl)]
     (try simp only [bh.down, simprocAttr, z_.down, (show ∀ s, c9 aA s 69 1 [(0, .agg [.str R.Label, .agg [.int .i64 R.Next.dO, .int .i64 R.Next.Part, .slice (R.Next.cD.map aE)]])] = some (.au 4 [.agg [.str R.Label, .agg [.int .i64 R.Next.dO, .int .i64 R.Next.Part, .slice (R.Next.cD.map aE)]]], s) from fun s => by kernel_rfl), @gV aA 69 69 164 rfl rfl, gW, gX, ej, all_cons, all_nil, hM, @hd _ b6 4 (fun _ => rfl)] at aj ⊢); exact aj
    exact aM (aC _ (.inl (jw [.au 4 ((a0 ++ [R]).map b6)] rfl (by cases gg h; rfl) (by decide) (jH (ep (ep (jI)))))))
 obtain ⟨n, h⟩ := ed h
 exact eF (.inr ⟨_, bH rfl, hf n 0 h⟩)
theorem aub (jM : (List aS) → Int → Int → (List Int) → (List bd) → Option ((List bd))) (Ea : ∀ (a0 : List aS) (R : Int) (a2 : Int) (a3 : List Int) (a4 : List bd) (r : (List bd)), jM a0 R a2 a3 a4 = some r → bm aA 160 [.slice (a0.map bb), .int .i64 R, .int .i64 a2, .slice (a3.map aE), .au 4 (a4.map b6)] (.au 4 (r.map b6)) [.hole, .hole, .hole, .hole, .hole]) (a0 : List aS) (R : Int) (a2 : Int) (a3 : List Int) (a4 : List bd) (r : (List bd)) (h : sG jM a0 R a2 a3 a4 = some r) : bm aA 160 [.slice (a0.map bb), .int .i64 R, .int .i64 a2, .slice (a3.map aE), .au 4 (a4.map b6)] (.au 4 (r.map b6)) [.hole, .hole, .hole, .hole, .hole] := by
 refine b_ [0, 1, 2, 3] [.tmp 10] Tryz.func160 agm (fun b7 aC bY => ?_)
 refine ws _ ?_
 obtain ⟨ah, aT, h⟩ := aG h
 refine fm aT _ ?_
 obtain ⟨ak, cI, h⟩ := aG h
 refine fm cI _ ?_
 refine aX aC (fun gf dJ dW bL => ?_)
 refine ws _ ?_
 refine a8 h (fun c5 h => ?_) (fun c5 h => ?_)
 ·refine ws _ ?_
  exact aM (dW _ (.inl (jw [.au 4 (a4.map b6)] rfl (by cases gg h; rfl) (by decide) (jH (ep (ep (ep (ep (ep (jI))))))))))
 ·refine bk (dJ _ (.inl ?_))
  have uZ : ∀ (wS : List bd), uo jM a0 R a2 a3 wS = some r → cy aA ON b7 (U [(0, .slice (a0.map bb)), (1, .int .i64 R), (2, .int .i64 a2), (3, .slice (a3.map aE)), (4, .au 4 (wS.map b6))]) := by
   intro wS h
   refine ws _ ?_
   exact aM (aC _ (.inl (jw [.au 4 (wS.map b6)] rfl (by cases gg h; rfl) (by decide) (jH (ep (ep (ep (ep (ep (jI))))))))))
  refine aX aC (fun gi c1 dc dt => ?_)
  refine ws _ ?_
  refine b5 dc (fun pV j8 jq fV kg => ?_)
  refine ws _ ?_
  refine a8 h (fun fJ h => ?_) (fun fJ h => ?_)
  ·obtain ⟨a6, eI, h⟩ := aG h
   refine cU (bT [(2, .int .i64 a2), (3, .slice (a3.map aE)), (4, .au 4 (a4.map b6)), (11, .slice (ah.Body.map bV)), (12, .aU (bV ak)), (13, .aU (.agg [.int .i64 R, .int .i64 (IntKind.i64.wrap (a2 + 1)), .au 1 (a6.map aE)]))] (fun P aj => ?_) ?_)
   ·simp only [aP.down, simprocAttr, dm, gE, ib, aE, bb, bV, eg, b6, bj, cW, @jx aA 74 [(2, 0), (2, 1), (22, 2)] [(.int .i64 0), (.int .i64 0), .bo] rfl rfl (by kernel_rfl), jm, h0, hS, h1, dD, ej, List.nil_append, List.cons_append]
    refine eQ (PS a3 _ eI) rfl rfl rfl rfl (.inl (by rfl)) ?_
    simp only [aP.down, simprocAttr, dm, gE, ib, aE, bb, bV, eg, b6, bj, cW, @jx aA 74 [(2, 0), (2, 1), (22, 2)] [(.int .i64 0), (.int .i64 0), .bo] rfl rfl (by kernel_rfl), jm, h0, hS, h1, dD, ej, List.nil_append, List.cons_append]
    (try simp only [bh.down, simprocAttr, kS.down, @jx aA 74 [(2, 0), (2, 1), (22, 2)] [(.int .i64 0), (.int .i64 0), .bo] rfl rfl (by kernel_rfl), jm, h0, hS, h1, dD, ej, List.nil_append, List.cons_append] at aj ⊢); exact aj
   have P0 : ∀ (uq : Int) (ur : Int) (uu : List Int), zp jM a3 a4 ak uq ur uu = some r → cy aA OL pV (U [(3, .slice (a3.map aE)), (4, .au 4 (a4.map b6)), (12, .aU (bV ak)), (13, .aU (.agg [.int .i64 uq, .int .i64 ur, .au 1 (uu.map aE)]))]) := by
    intro uq ur uu h
    obtain ⟨bl, hM, h⟩ := aG h
    obtain ⟨bq, jO, h⟩ := aG h
    obtain ⟨bL, gk, h⟩ := aG h
    refine hc rfl (gN [(10, .au 4 (bL.map b6))] (fun P aj => ?_) ?_)
    ·simp only [cl.down, simprocAttr, w_.down, @jx aA 164 [(9, 0), (74, 1)] [(.str []), (.agg [(.int .i64 0), (.int .i64 0), .bo])] rfl rfl (by kernel_rfl), jm, h0, hS, h1, dD, ej, List.nil_append, List.cons_append, ld, lb, nR, I.shares, cC, la, @cx _ aE aE (fun _ => gF _)]
     refine fR (PU ak.bN a3 _ hM) rfl rfl rfl rfl (.inl (by rfl)) ?_
     simp only [cl.down, simprocAttr, w_.down, @jx aA 164 [(9, 0), (74, 1)] [(.str []), (.agg [(.int .i64 0), (.int .i64 0), .bo])] rfl rfl (by kernel_rfl), jm, h0, hS, h1, dD, ej, List.nil_append, List.cons_append, ld, lb, nR, I.shares, cC, la, @cx _ aE aE (fun _ => gF _)]
     refine fR (at5 ak.Name bl _ jO) rfl rfl (by simp only [cl.down, simprocAttr, w_.down, @jx aA 164 [(9, 0), (74, 1)] [(.str []), (.agg [(.int .i64 0), (.int .i64 0), .bo])] rfl rfl (by kernel_rfl), jm, h0, hS, h1, dD, ej, List.nil_append, List.cons_append, ld, lb, nR, I.shares, cC, la, @cx _ aE aE (fun _ => gF _), e3, e4, e5, cC, @cx _ aE aE (fun _ => gF _)] <;> rfl) rfl (.inr (by rfl)) ?_
     simp only [cl.down, simprocAttr, w_.down, @jx aA 164 [(9, 0), (74, 1)] [(.str []), (.agg [(.int .i64 0), (.int .i64 0), .bo])] rfl rfl (by kernel_rfl), jm, h0, hS, h1, dD, ej, List.nil_append, List.cons_append, ld, lb, nR, I.shares, cC, la, @cx _ aE aE (fun _ => gF _)]
     refine MD [⟨.h 4 [], true, _, .hole⟩, ⟨.agg [.str bq, .agg [.int .i64 uq, .int .i64 ur, .slice (uu.map aE)]], false, _, .hole⟩] (aua a4 (bd.mk bq (dP.mk uq ur uu)) _ gk) rfl rfl rfl (by simp only [cl.down, simprocAttr, w_.down, @jx aA 164 [(9, 0), (74, 1)] [(.str []), (.agg [(.int .i64 0), (.int .i64 0), .bo])] rfl rfl (by kernel_rfl), jm, h0, hS, h1, dD, ej, List.nil_append, List.cons_append, ld, lb, nR, I.shares, cC, la, @cx _ aE aE (fun _ => gF _), kO, jX, jY, e3, e4, e5, cC, or_true, true_or, @cx _ b6 b6 (fun _ => oQ _)]) rfl rfl (.inl rfl) ?_
     simp only [cl.down, simprocAttr, w_.down, @jx aA 164 [(9, 0), (74, 1)] [(.str []), (.agg [(.int .i64 0), (.int .i64 0), .bo])] rfl rfl (by kernel_rfl), jm, h0, hS, h1, dD, ej, List.nil_append, List.cons_append, ld, lb, nR, I.shares, cC, la, @cx _ aE aE (fun _ => gF _), jZ]
     refine ⟨fS (by kernel_rfl), ?_⟩
     (try simp only [bh.down, simprocAttr, aE, bV, eg, b6, bj, cW, @jx aA 164 [(9, 0), (74, 1)] [(.str []), (.agg [(.int .i64 0), (.int .i64 0), .bo])] rfl rfl (by kernel_rfl), jm, h0, hS, h1, dD, ej, List.nil_append, List.cons_append, ld, lb, nR, I.shares, cC, la, @cx _ aE aE (fun _ => gF _)] at aj ⊢); exact aj
    exact aM (jq _ (.inl (jw [.au 4 (bL.map b6)] rfl (by cases gg h; rfl) (by decide) (jH (ep (ep (ep (ep (ep (jI))))))))))
   refine aX jq (fun IL sW xm sM => ?_)
   obtain ⟨ch, kk, h⟩ := aG h
   refine fm kk _ ?_
   refine a8 h (fun Aj h => ?_) (fun Aj h => ?_)
   ·obtain ⟨dv, xn, h⟩ := aG h
    refine Mb rfl (gN [(3, .slice (a3.map aE)), (4, .au 4 (a4.map b6)), (12, .aU (bV ak)), (13, .aU (.agg [.int .i64 ch.Number, .int .i64 0, .au 1 (dv.map aE)]))] (fun P aj => ?_) ?_)
    ·simp only [cl.down, simprocAttr, dm, eU, gE, ib, jL, e_, fT, ht, eV, aE, bV, eg, b6, bj, cW, kk, @jx aA 74 [(2, 0), (2, 1), (22, 2)] [(.int .i64 0), (.int .i64 0), .bo] rfl rfl (by kernel_rfl), jm, h0, hS, h1, dD, ej, List.nil_append, List.cons_append]
     refine fR (PU ch.bN a3 _ xn) rfl rfl rfl rfl (.inl (by rfl)) ?_
     simp only [cl.down, simprocAttr, dm, eU, gE, ib, jL, e_, fT, ht, eV, aE, bV, eg, b6, bj, cW, kk, @jx aA 74 [(2, 0), (2, 1), (22, 2)] [(.int .i64 0), (.int .i64 0), .bo] rfl rfl (by kernel_rfl), jm, h0, hS, h1, dD, ej, List.nil_append, List.cons_append]
     refine ⟨fS (by kernel_rfl), ?_⟩
     (try simp only [bh.down, simprocAttr, aE, bV, eg, b6, bj, cW, kk, @jx aA 74 [(2, 0), (2, 1), (22, 2)] [(.int .i64 0), (.int .i64 0), .bo] rfl rfl (by kernel_rfl), jm, h0, hS, h1, dD, ej, List.nil_append, List.cons_append] at aj ⊢); exact aj
    exact sW _ (.inr ⟨_, bH rfl, P0 ch.Number 0 dv h⟩)
   ·exact bk (sW _ (.inr ⟨_, bH rfl, P0 R (IntKind.i64.wrap (a2 + 1)) a6 h⟩))
  ·refine ws _ ?_
   refine a8 h (fun Ak h => ?_) (fun Ak h => ?_)
   ·obtain ⟨dk, u9, h⟩ := aG h
    refine cU (bT [(0, .slice (a0.map bb)), (1, .int .i64 R), (2, .int .i64 a2), (3, .slice (a3.map aE)), (4, .au 4 (dk.map b6)), (11, .slice (ah.Body.map bV))] (fun P aj => ?_) ?_)
    ·simp only [aP.down, simprocAttr, kS.down]
     refine k_ [⟨.slice (a0.map bb), false, _, .hole⟩, ⟨.int .i64 R, false, _, .hole⟩, ⟨.int .i64 (IntKind.i64.wrap (a2 + 1)), false, _, .hole⟩, ⟨.slice (a3.map aE), false, _, .hole⟩, ⟨.h 4 [], true, _, .hole⟩] (Ea a0 R (IntKind.i64.wrap (a2 + 1)) a3 a4 _ u9) rfl rfl rfl (by simp only [aP.down, simprocAttr, kS.down, kO, jX, jY, e3, e4, e5, cC, or_true, true_or, @cx _ b6 b6 (fun _ => oQ _)]) rfl rfl (.inl rfl) ?_
     simp only [aP.down, simprocAttr, kS.down, jZ]
     (try simp only [bh.down, simprocAttr, kS.down] at aj ⊢); exact aj
    obtain ⟨dt, u_, h⟩ := aG h
    obtain ⟨eW, ny, h⟩ := aG h
    refine cU (bT [(10, .au 4 (eW.map b6))] (fun P aj => ?_) ?_)
    ·simp only [aP.down, simprocAttr, kS.down]
     refine eQ (Pv ah.Body (IntKind.i64.wrap (a2 + 1)) _ u_) rfl rfl rfl rfl (.inl (by rfl)) ?_
     simp only [aP.down, simprocAttr, kS.down]
     refine k_ [⟨.slice (a0.map bb), false, _, .hole⟩, ⟨.int .i64 R, false, _, .hole⟩, ⟨.int .i64 dt, false, _, .hole⟩, ⟨.slice (a3.map aE), false, _, .hole⟩, ⟨.h 4 [], true, _, .hole⟩] (Ea a0 R dt a3 dk _ ny) rfl rfl rfl (by simp only [aP.down, simprocAttr, kS.down, kO, jX, jY, e3, e4, e5, cC, or_true, true_or, @cx _ b6 b6 (fun _ => oQ _)]) rfl rfl (.inl rfl) ?_
     simp only [aP.down, simprocAttr, kS.down, jZ]
     (try simp only [bh.down, simprocAttr, kS.down] at aj ⊢); exact aj
    exact aM (jq _ (.inl (jw [.au 4 (eW.map b6)] rfl (by cases gg h; rfl) (by decide) (jH (ep (ep (ep (ep (ep (jI))))))))))
   ·refine ws _ ?_
    refine a8 h (fun Iz h => ?_) (fun Iz h => ?_)
    ·obtain ⟨iP, u1, h⟩ := aG h
     obtain ⟨kg, u7, h⟩ := aG h
     refine hD u1 (PT iP a3 _ u7) _ ?_
     refine a8 h (fun auc h => ?_) (fun auc h => ?_)
     ·obtain ⟨gP, aud, h⟩ := aG h
      refine cU (bT [(10, .au 4 (gP.map b6))] (fun P aj => ?_) ?_)
      ·simp only [aP.down, simprocAttr, kS.down]
       refine k_ [⟨.slice (a0.map bb), false, _, .hole⟩, ⟨.int .i64 R, false, _, .hole⟩, ⟨.int .i64 (IntKind.i64.wrap (a2 + 1)), false, _, .hole⟩, ⟨.slice (a3.map aE), false, _, .hole⟩, ⟨.h 4 [], true, _, .hole⟩] (Ea a0 R (IntKind.i64.wrap (a2 + 1)) a3 a4 _ aud) rfl rfl rfl (by simp only [aP.down, simprocAttr, kS.down, kO, jX, jY, e3, e4, e5, cC, or_true, true_or, @cx _ b6 b6 (fun _ => oQ _)]) rfl rfl (.inl rfl) ?_
       simp only [aP.down, simprocAttr, kS.down, jZ]
       (try simp only [bh.down, simprocAttr, kS.down] at aj ⊢); exact aj
      exact aM (jq _ (.inl (jw [.au 4 (gP.map b6)] rfl (by cases gg h; rfl) (by decide) (jH (ep (ep (ep (ep (ep (jI))))))))))
     ·exact bk (j8 _ (c1 _ (.inr ⟨_, bH rfl, uZ a4 h⟩)))
    ·refine ws _ ?_
     refine a8 h (fun rE h => ?_) (fun rE h => ?_)
     ·refine ws _ ?_
      refine b5 jq (fun P1 P2 IM IE aue => ?_)
      have IA : ∀ (n : Nat) (oJ : List bd) (i6 : Int), uv jM a0 R a2 a3 ak n oJ i6 = some r → ei aA OM P1 (U [(0, .slice (a0.map bb)), (1, .int .i64 R), (2, .int .i64 a2), (3, .slice (a3.map aE)), (4, .au 4 (oJ.map b6)), (12, .aU (bV ak)), (14, .int .i64 i6)]) := by
       intro u4
       induction u4 with
       | zero => intro oJ i6 h; cases (show none = some r from h)
       | succ u4 IB =>
        intro oJ i6 h
        replace h : CS jM (uv jM a0 R a2 a3 ak u4) a0 R a2 a3 ak oJ i6 = some r := h
        refine eG IM (fun PR Am An IF => ?_)
        refine aX An (fun Iu qR rF D8 => ?_)
        refine ws _ ?_
        refine a8 h (fun nw h => ?_) (fun nw h => ?_)
        ·refine bk (qR _ (.inl ?_))
         refine aX An (fun az6 auf aug az7 => ?_)
         refine b5 aug (fun az8 auh az9 az_ aAa => ?_)
         obtain ⟨hK, aui, h⟩ := aG h
         obtain ⟨aAb, va, h⟩ := aG h
         (try simp only [iC.down, Nat.reduceAdd] at va)
         obtain ⟨iO, auj, h⟩ := aG h
         refine iY (bT [(0, .slice (a0.map bb)), (1, .int .i64 R), (2, .int .i64 a2), (3, .slice (a3.map aE)), (4, .au 4 (iO.map b6)), (12, .aU (bV ak)), (14, .int .i64 i6)] (fun P aj => ?_) ?_)
         ·simp only [aP.down, simprocAttr, Aa.down, (show ∀ s, c9 aA s 22 1 [(0, .int .i64 i6)] = some (.au 1 [.int .i64 i6], s) from fun s => by kernel_rfl), @gV aA 22 22 2 rfl rfl, gW, gX, ej, all_cons, all_nil, va, @hd _ aE 1 (fun _ => rfl), ld, lb, lA, I.shares, cC, la, @cx _ aE aE (fun _ => gF _)]
          refine eQ (PS a3 _ aui) rfl rfl rfl rfl (.inl (by rfl)) ?_
          simp only [aP.down, simprocAttr, Aa.down, (show ∀ s, c9 aA s 22 1 [(0, .int .i64 i6)] = some (.au 1 [.int .i64 i6], s) from fun s => by kernel_rfl), @gV aA 22 22 2 rfl rfl, gW, gX, ej, all_cons, all_nil, va, @hd _ aE 1 (fun _ => rfl), ld, lb, lA, I.shares, cC, la, @cx _ aE aE (fun _ => gF _)]
          refine k_ [⟨.slice (a0.map bb), false, _, .hole⟩, ⟨.int .i64 R, false, _, .hole⟩, ⟨.int .i64 (IntKind.i64.wrap (a2 + 1)), false, _, .hole⟩, ⟨.slice ((hK ++ [i6]).map aE), false, _, .hole⟩, ⟨.h 4 [], true, _, .hole⟩] (Ea a0 R (IntKind.i64.wrap (a2 + 1)) (hK ++ [i6]) oJ _ auj) rfl rfl (by simp only [aP.down, simprocAttr, Aa.down, (show ∀ s, c9 aA s 22 1 [(0, .int .i64 i6)] = some (.au 1 [.int .i64 i6], s) from fun s => by kernel_rfl), @gV aA 22 22 2 rfl rfl, gW, gX, ej, all_cons, all_nil, va, @hd _ aE 1 (fun _ => rfl), ld, lb, lA, I.shares, cC, la, @cx _ aE aE (fun _ => gF _), List.map_append, List.map_set, List.map_cons, List.map_nil]) (by simp only [aP.down, simprocAttr, Aa.down, (show ∀ s, c9 aA s 22 1 [(0, .int .i64 i6)] = some (.au 1 [.int .i64 i6], s) from fun s => by kernel_rfl), @gV aA 22 22 2 rfl rfl, gW, gX, ej, all_cons, all_nil, va, @hd _ aE 1 (fun _ => rfl), ld, lb, lA, I.shares, cC, la, @cx _ aE aE (fun _ => gF _), kO, jX, jY, e3, e4, e5, cC, or_true, true_or, @cx _ b6 b6 (fun _ => oQ _)]) rfl rfl (.inl rfl) ?_
          simp only [aP.down, simprocAttr, Aa.down, (show ∀ s, c9 aA s 22 1 [(0, .int .i64 i6)] = some (.au 1 [.int .i64 i6], s) from fun s => by kernel_rfl), @gV aA 22 22 2 rfl rfl, gW, gX, ej, all_cons, all_nil, va, @hd _ aE 1 (fun _ => rfl), ld, lb, lA, I.shares, cC, la, @cx _ aE aE (fun _ => gF _), jZ]
          (try simp only [bh.down, simprocAttr, kS.down, (show ∀ s, c9 aA s 22 1 [(0, .int .i64 i6)] = some (.au 1 [.int .i64 i6], s) from fun s => by kernel_rfl), @gV aA 22 22 2 rfl rfl, gW, gX, ej, all_cons, all_nil, va, @hd _ aE 1 (fun _ => rfl), ld, lb, lA, I.shares, cC, la, @cx _ aE aE (fun _ => gF _)] at aj ⊢); exact aj
         refine auh _ (auf _ (.inl ?_))
         refine wr _ ?_
         exact Am _ (.inr ⟨_, bH rfl, IB iO (IntKind.i64.wrap (i6 + 1)) h⟩)
        ·exact eE (D8 1 _ (IF 1 _ (IE _ (j8 _ (c1 _ (.inr ⟨_, bH rfl, uZ oJ h⟩))))))
      obtain ⟨n, h⟩ := ed h
      exact eF (.inr ⟨_, bH rfl, IA n a4 0 h⟩)
     ·exact bk (j8 _ (c1 _ (.inr ⟨_, bH rfl, uZ a4 h⟩)))
theorem auk : ∀ (n : Nat) (a0 : List aS) (R : Int) (a2 : Int) (a3 : List Int) (a4 : List bd) (r : (List bd)), oK n a0 R a2 a3 a4 = some r → bm aA 160 [.slice (a0.map bb), .int .i64 R, .int .i64 a2, .slice (a3.map aE), .au 4 (a4.map b6)] (.au 4 (r.map b6)) [.hole, .hole, .hole, .hole, .hole] := by
 intro n
 induction n with
 | zero => intro a0 R a2 a3 a4 r h; cases (show none = some r from h)
 | succ n ih => intro a0 R a2 a3 a4 r h; exact aub (oK n) ih a0 R a2 a3 a4 r h
theorem aul (a0 : List aS) (R : Int) (a2 : Int) (a3 : List Int) (a4 : List bd) (r : (List bd)) (h : CT a0 R a2 a3 a4 = some r) : bm aA 160 [.slice (a0.map bb), .int .i64 R, .int .i64 a2, .slice (a3.map aE), .au 4 (a4.map b6)] (.au 4 (r.map b6)) [.hole, .hole, .hole, .hole, .hole] := by
 obtain ⟨n, h⟩ := ed h
 exact auk n a0 R a2 a3 a4 r h
theorem aum (a0 : List aS) (ie : Int) (j2 : Int) (j3 : List Int) (r : (List bd) × Bool) (h : Hv a0 ie j2 j3 = some r) : bm aA 97 [.slice (a0.map bb), .aU (.agg [.int .i64 ie, .int .i64 j2, .slice (j3.map aE)])] (.tuple [.au 4 (r.1.map b6), .bool r.2]) [.hole, .aU (.agg [.int .i64 ie, .int .i64 j2, .slice (j3.map aE)])] := by
 refine b_ [0, 1] [.tmp 4, .tmp 5] Tryz.func97 agq (fun b7 aC bY => ?_)
 refine ws _ ?_
 obtain ⟨ah, aT, h⟩ := aG h
 refine hc rfl (gN [(1, .aU (.agg [.int .i64 ie, .int .i64 j2, .slice (j3.map aE)])), (6, .au 4 (ah.map b6))] (fun P aj => ?_) ?_)
 ·simp only [cl.down, simprocAttr, H6.down, (show ∀ s, c9 aA s 69 0 [] = some (.au 4 [], s) from fun s => by kernel_rfl)]
  refine MD [⟨.slice (a0.map bb), false, _, .hole⟩, ⟨.int .i64 ie, false, _, .hole⟩, ⟨.int .i64 j2, false, _, .hole⟩, ⟨.slice (j3.map aE), false, _, .hole⟩, ⟨.h 20 [], true, _, .hole⟩] (aul a0 ie j2 j3 [] _ aT) rfl rfl rfl (by simp only [cl.down, simprocAttr, H6.down, (show ∀ s, c9 aA s 69 0 [] = some (.au 4 [], s) from fun s => by kernel_rfl), kO, jX, jY, e3, e4, e5, cC, or_true, true_or, @cx _ b6 b6 (fun _ => oQ _)]) rfl rfl (.inl rfl) ?_
  simp only [cl.down, simprocAttr, H6.down, (show ∀ s, c9 aA s 69 0 [] = some (.au 4 [], s) from fun s => by kernel_rfl), jZ]
  refine ⟨fS (by kernel_rfl), ?_⟩
  (try simp only [bh.down, simprocAttr, kS.down, (show ∀ s, c9 aA s 69 0 [] = some (.au 4 [], s) from fun s => by kernel_rfl)] at aj ⊢); exact aj
 refine ws _ ?_
 exact aM (aC _ (.inl (jw [.au 4 (ah.map b6), .bool (decide ((ah.length : Int) ≤ 200))] rfl (by cases gg h; rfl) (by decide) (jH (ep (lY (by cases gg h; rfl) rfl rfl rfl (jI)))))))
theorem P3 (a0 : List aS) (R : dP) (r : (List bd) × Int) (h : CU a0 R = some r) : bm aA 45 [.slice (a0.map bb), eg R] (.tuple [.au 4 (r.1.map b6), .int .i64 r.2]) [] := by
 refine b_ [0, 1] [.tmp 4, .tmp 5] Tryz.func45 agA (fun b7 aC bY => ?_)
 refine ws _ ?_
 refine aX aC (fun eh b3 br ak => ?_)
 obtain ⟨ah, b2, h⟩ := aG h
 rcases dU h with ⟨c8, h⟩ | ⟨c8, h⟩
 ·refine hD (h3 c8) (PF a0 _ b2) _ ?_
  refine lB rfl ?_
  refine ws _ ?_
  exact aM (br _ (.inr ⟨[(4, .au 4 []), (5, .int .i64 1)], pF [] rfl (pH (t := 4) (d := .bo) rfl rfl (.ly _) (by decide) (lC rfl (pG))), aQ [.au 4 [], .int .i64 1]⟩))
 ·obtain ⟨ak, bO, h⟩ := aG h
  refine cU (bT [(0, .slice (a0.map bb)), (3, .aU (eg R)), (15, .bool (!ak))] (fun P aj => ?_) ?_)
  ·simp only [aP.down, simprocAttr, nu.down, (el c8)]
   refine eQ (PF a0 _ b2) rfl rfl rfl rfl (.inl (by rfl)) ?_
   simp only [aP.down, simprocAttr, nu.down, (el c8)]
   refine ix (atS a0 R _ bO) rfl rfl (by simp only [aP.down, simprocAttr, nu.down, (el c8), e3, e4, e5, cC, @cx _ aE aE (fun _ => gF _)] <;> rfl) rfl (.inr (by rfl)) ?_
   simp only [aP.down, simprocAttr, nu.down, (el c8)]
   (try simp only [bh.down, simprocAttr, nu.down, (el c8)] at aj ⊢); exact aj
  refine a8 h (fun c5 h => ?_) (fun c5 h => ?_)
  ·refine ws _ ?_
   exact aM (br _ (.inr ⟨[(4, .au 4 []), (5, .int .i64 1)], pF [] rfl (pH (t := 4) (d := .bo) rfl rfl (.ly _) (by decide) (lC rfl (pG))), aQ [.au 4 [], .int .i64 1]⟩))
  ·refine bk (b3 _ (.inl ?_))
   obtain ⟨a6, kI, h⟩ := aG h
   refine cU (bT [(6, .au 4 (a6.1.map b6)), (7, .bool a6.2)] (fun P aj => ?_) ?_)
   ·simp only [aP.down, simprocAttr, kS.down]
    refine k_ [⟨.slice (a0.map bb), false, _, .hole⟩, ⟨.h 3 [], true, _, _⟩] (aum a0 R.dO R.Part R.cD _ kI) rfl rfl rfl (by simp only [aP.down, simprocAttr, kS.down, kO, jX, jY, e3, e4, e5, cC, or_true, true_or, @cx _ aE aE (fun _ => gF _)]) rfl rfl (.inl rfl) ?_
    simp only [aP.down, simprocAttr, kS.down, jZ]
    (try simp only [bh.down, simprocAttr, kS.down] at aj ⊢); exact aj
   refine aX aC (fun l_ iD kU iP => ?_)
   refine ws _ ?_
   refine a8 h (fun gQ h => ?_) (fun gQ h => ?_)
   ·refine ws _ ?_
    exact aM (kU _ (.inr ⟨[(4, .au 4 []), (5, .int .i64 5)], pF [] rfl (pH (t := 4) (d := .bo) rfl rfl (.ly _) (by decide) (lC rfl (pG))), aQ [.au 4 [], .int .i64 5]⟩))
   ·refine bk (iD _ (.inl ?_))
    refine ws _ ?_
    exact aM (aC _ (.inl (aQ [.au 4 (a6.1.map b6), .int .i64 0])))
theorem kX (a0 : Int) (R : Int) (a2 : Int) (r : Bool) (h : j4 a0 R a2 = some r) : bm aA 125 [.int .i64 a0, .int .i64 R, .int .i64 a2] (.bool r) [] := by
 refine b_ [0, 1, 2] [.tmp 6] Tryz.func125 agD (fun b7 aC bY => ?_)
 refine ws _ ?_
 refine cU (bT [(6, .bool ((decide (R ≤ a0)) && (decide (a0 ≤ a2))))] (fun P aj => ?_) ?_)
 ·rcases Bool.eq_false_or_eq_true (decide (R ≤ a0)) with fi | fi
  ·simp only [aP.down, simprocAttr, fi]
   (try simp only [bh.down, simprocAttr, fi] at aj ⊢); exact aj
  ·simp only [aP.down, simprocAttr, fi]
   (try simp only [bh.down, simprocAttr, fi] at aj ⊢); exact aj
 exact aM (aC _ (.inl (aQ [.bool ((decide (R ≤ a0)) && (decide (a0 ≤ a2)))])))
theorem aun (a0 : aS) (r : Bool) (h : Hw a0 = some r) : bm aA 278 [bb a0] (.bool r) [] := by
 refine b_ [0] [.tmp 2] Tryz.func278 agG (fun b7 aC bY => ?_)
 refine ws _ ?_
 obtain ⟨ah, aT, h⟩ := aG h
 refine eA (kX a0.c_ 0 3 _ aT) _ ?_
 exact aM (aC _ (.inl (aQ [.bool (!ah)])))
theorem auo (a0 : List aS) (r : Int) (h : Hx a0 = some r) : bm aA 280 [.slice (a0.map bb), .fn 278 []] (.int .i64 r) [] := by
 refine b_ [0, 1] [.tmp 4] Tryz.func280 agR (fun b7 aC bY => ?_)
 refine ws _ ?_
 refine aX aC (fun eh b3 br ak => ?_)
 refine ws _ ?_
 refine b5 br (fun eB eS ca b8 bl => ?_)
 have hf : ∀ (n : Nat) (dH : Int), wT a0 n dH = some r → ei aA OO eB (U [(0, .slice (a0.map bb)), (1, .fn 278 []), (7, .int .i64 (a0.length : Int)), (8, .int .i64 dH)]) := by
  intro m6
  induction m6 with
  | zero => intro dH h; cases (show none = some r from h)
  | succ m6 gR =>
   intro dH h
   replace h : CV (wT a0 m6) a0 dH = some r := h
   refine eG ca (fun ij er dq bq => ?_)
   refine ws _ ?_
   refine aX dq (fun j5 fo fE ch => ?_)
   refine a8 h (fun c5 h => ?_) (fun c5 h => ?_)
   ·refine bk (fo _ (.inl ?_))
    refine aX dq (fun e0 dw c0 dk => ?_)
    refine b5 c0 (fun gi c1 dc e8 dt => ?_)
    refine ws _ ?_
    obtain ⟨ah, ea, h⟩ := aG h
    obtain ⟨ak, fB, h⟩ := aG h
    refine hD ea (aun ah _ fB) _ ?_
    refine a8 h (fun fJ h => ?_) (fun fJ h => ?_)
    ·refine ws _ ?_
     exact aM (dc _ (.inl (aQ [.int .i64 dH])))
    ·refine bk (c1 _ (dw _ (.inl ?_)))
     refine wr _ ?_
     exact er _ (.inr ⟨_, bH rfl, gR (IntKind.i64.wrap (dH + 1)) h⟩)
   ·refine eE (ch 0 _ (bq 0 _ (b8 _ (b3 _ (.inl ?_)))))
    refine ws _ ?_
    exact aM (aC _ (.inl (aQ [.int .i64 (-1)])))
 obtain ⟨n, h⟩ := ed h
 exact eF (.inr ⟨_, bH rfl, hf n 0 h⟩)
theorem aup (a0 : List aS) (r : Bool) (h : Hy a0 = some r) : bm aA 277 [.slice (a0.map bb), .fn 278 []] (.bool r) [] := by
 refine b_ [0, 1] [.tmp 4] Tryz.func277 agU (fun b7 aC bY => ?_)
 refine ws _ ?_
 obtain ⟨ah, aT, h⟩ := aG h
 refine eA (auo a0 _ aT) _ ?_
 exact aM (aC _ (.inl (aQ [.bool (decide (0 ≤ ah))])))
theorem auq (a0 : List aS) (r : Bool) (h : CW a0 = some r) : bm aA 236 [.slice (a0.map bb)] (.bool r) [] := by
 refine b_ [0] [.tmp 2] Tryz.func236 agX (fun b7 aC bY => ?_)
 refine ws _ ?_
 obtain ⟨ah, aT, h⟩ := aG h
 refine eA (aup a0 _ aT) _ ?_
 exact aM (aC _ (.inl (aQ [.bool (!ah)])))
theorem aur (a0 : UInt8) (r : Bool) (h : Hz a0 = some r) : bm aA 279 [.int .u8 (a0.toNat : Int)] (.bool r) [] := by
 refine b_ [0] [.tmp 2] Tryz.func279 ag0 (fun b7 aC bY => ?_)
 refine ws _ ?_
 refine cU (bT [(2, .bool ((decide (48 ≤ (a0.toNat : Int))) && (decide ((a0.toNat : Int) ≤ 57))))] (fun P aj => ?_) ?_)
 ·rcases Bool.eq_false_or_eq_true (decide (48 ≤ (a0.toNat : Int))) with fi | fi
  ·simp only [aP.down, simprocAttr, fi]
   (try simp only [bh.down, simprocAttr, fi] at aj ⊢); exact aj
  ·simp only [aP.down, simprocAttr, fi]
   (try simp only [bh.down, simprocAttr, fi] at aj ⊢); exact aj
 exact aM (aC _ (.inl (aQ [.bool ((decide (48 ≤ (a0.toNat : Int))) && (decide ((a0.toNat : Int) ≤ 57)))])))
theorem Eb (a0 : List UInt8) (r : Bool) (h : zr a0 = some r) : bm aA 237 [.str a0] (.bool r) [] := by
 refine b_ [0] [.tmp 2] Tryz.func237 ahb (fun b7 aC bY => ?_)
 refine ws _ ?_
 refine aX aC (fun eh b3 br ak => ?_)
 refine ws _ ?_
 refine b5 br (fun eB eS ca b8 bl => ?_)
 have hf : ∀ (n : Nat) (lH : Int), rC a0 n lH = some r → ei aA OP eB (U [(0, .str a0), (6, .int .i64 (a0.length : Int)), (7, .int .i64 lH)]) := by
  intro m6
  induction m6 with
  | zero => intro lH h; cases (show none = some r from h)
  | succ m6 gR =>
   intro lH h
   replace h : zq (rC a0 m6) a0 lH = some r := h
   refine eG ca (fun ij er dq bq => ?_)
   refine ws _ ?_
   refine aX dq (fun j5 fo fE ch => ?_)
   refine a8 h (fun c5 h => ?_) (fun c5 h => ?_)
   ·refine bk (fo _ (.inl ?_))
    refine aX dq (fun e0 dw c0 dk => ?_)
    refine b5 c0 (fun gi c1 dc e8 dt => ?_)
    refine ws _ ?_
    obtain ⟨ah, ea, h⟩ := aG h
    refine cU (bT [(0, .str a0), (3, .int .i64 lH), (4, .bool ((decide (97 ≤ (ah.toNat : Int))) && (decide ((ah.toNat : Int) ≤ 122)))), (6, .int .i64 (a0.length : Int)), (7, .int .i64 lH)] (fun P aj => ?_) ?_)
    ·rcases Bool.eq_false_or_eq_true (decide (97 ≤ (ah.toNat : Int))) with oS | oS
     ·simp only [aP.down, simprocAttr, eU, ea, oS]
      (try simp only [bh.down, simprocAttr, ea, oS] at aj ⊢); exact aj
     ·simp only [aP.down, simprocAttr, eU, ea, oS]
      (try simp only [bh.down, simprocAttr, ea, oS] at aj ⊢); exact aj
    rcases dU h with ⟨n5, h⟩ | ⟨n5, h⟩
    ·rcases dU h with ⟨lK, h⟩ | ⟨lK, h⟩
     ·refine fm (And.intro n5 lK) _ ?_
      refine lB rfl ?_
      refine ws _ ?_
      exact aM (dc _ (.inl (aQ [.bool false])))
     ·obtain ⟨ak, gy, h⟩ := aG h
      refine cU (bT [(0, .str a0), (6, .int .i64 (a0.length : Int)), (7, .int .i64 lH), (32, .bool (!ak))] (fun P aj => ?_) ?_)
      ·simp only [aP.down, simprocAttr, eU, n5, lK, ea]
       refine ix (aur ah _ gy) rfl rfl rfl rfl (.inl (by rfl)) ?_
       simp only [aP.down, simprocAttr, eU, n5, lK, ea]
       (try simp only [bh.down, simprocAttr, n5, lK, ea] at aj ⊢); exact aj
      refine a8 h (fun ki h => ?_) (fun ki h => ?_)
      ·refine ws _ ?_
       exact aM (dc _ (.inl (aQ [.bool false])))
      ·refine bk (c1 _ (dw _ (.inl ?_)))
       refine wr _ ?_
       exact er _ (.inr ⟨_, bH rfl, gR (IntKind.i64.wrap (lH + 1)) h⟩)
    ·refine fm n5 _ ?_
     refine wx rfl ?_
     refine bk (c1 _ (dw _ (.inl ?_)))
     refine wr _ ?_
     exact er _ (.inr ⟨_, bH rfl, gR (IntKind.i64.wrap (lH + 1)) h⟩)
   ·refine eE (ch 0 _ (bq 0 _ (b8 _ (b3 _ (.inl ?_)))))
    refine cU (bT [(2, .bool ((decide (1 ≤ (a0.length : Int))) && (decide ((a0.length : Int) ≤ 10))))] (fun P aj => ?_) ?_)
    ·rcases Bool.eq_false_or_eq_true (decide (1 ≤ (a0.length : Int))) with Ap | Ap
     ·simp only [aP.down, simprocAttr, eU, Ap]
      (try simp only [bh.down, simprocAttr, Ap] at aj ⊢); exact aj
     ·simp only [aP.down, simprocAttr, eU, Ap]
      (try simp only [bh.down, simprocAttr, Ap] at aj ⊢); exact aj
    exact aM (aC _ (.inl (aQ [.bool ((decide (1 ≤ (a0.length : Int))) && (decide ((a0.length : Int) ≤ 10)))])))
 obtain ⟨n, h⟩ := ed h
 exact eF (.inr ⟨_, bH rfl, hf n 0 h⟩)
theorem aus (a0 : aS) (R : List UInt8) (r : Bool) (h : HA a0 R = some r) : bm aA 281 [bb a0, .ref (.str R)] (.bool r) [] := by
 refine b_ [0, 1] [.tmp 3] Tryz.func281 ahe (fun b7 aC bY => ?_)
 refine ws _ ?_
 refine ws _ ?_
 exact aM (aC _ (.inl (aQ [.bool (a0.Name == R)])))
theorem aut (a0 : List aS) (R : List UInt8) (r : Int) (h : HB a0 R = some r) : bm aA 280 [.slice (a0.map bb), .fn 281 [.ref (.str R)]] (.int .i64 r) [] := by
 refine b_ [0, 1] [.tmp 4] Tryz.func280 ahp (fun b7 aC bY => ?_)
 refine ws _ ?_
 refine aX aC (fun eh b3 br ak => ?_)
 refine ws _ ?_
 refine b5 br (fun eB eS ca b8 bl => ?_)
 have hf : ∀ (n : Nat) (dH : Int), wU a0 R n dH = some r → ei aA OQ eB (U [(0, .slice (a0.map bb)), (1, .fn 281 [.ref (.str R)]), (7, .int .i64 (a0.length : Int)), (8, .int .i64 dH)]) := by
  intro m6
  induction m6 with
  | zero => intro dH h; cases (show none = some r from h)
  | succ m6 gR =>
   intro dH h
   replace h : CX (wU a0 R m6) a0 R dH = some r := h
   refine eG ca (fun ij er dq bq => ?_)
   refine ws _ ?_
   refine aX dq (fun j5 fo fE ch => ?_)
   refine a8 h (fun c5 h => ?_) (fun c5 h => ?_)
   ·refine bk (fo _ (.inl ?_))
    refine aX dq (fun e0 dw c0 dk => ?_)
    refine b5 c0 (fun gi c1 dc e8 dt => ?_)
    refine ws _ ?_
    obtain ⟨ah, ea, h⟩ := aG h
    obtain ⟨ak, fB, h⟩ := aG h
    refine hD ea (aus ah R _ fB) _ ?_
    refine a8 h (fun fJ h => ?_) (fun fJ h => ?_)
    ·refine ws _ ?_
     exact aM (dc _ (.inl (aQ [.int .i64 dH])))
    ·refine bk (c1 _ (dw _ (.inl ?_)))
     refine wr _ ?_
     exact er _ (.inr ⟨_, bH rfl, gR (IntKind.i64.wrap (dH + 1)) h⟩)
   ·refine eE (ch 0 _ (bq 0 _ (b8 _ (b3 _ (.inl ?_)))))
    refine ws _ ?_
    exact aM (aC _ (.inl (aQ [.int .i64 (-1)])))
 obtain ⟨n, h⟩ := ed h
 exact eF (.inr ⟨_, bH rfl, hf n 0 h⟩)
theorem auu (a0 : List aS) (R : List UInt8) (r : Int) (h : CY a0 R = some r) : bm aA 238 [.slice (a0.map bb), .str R] (.int .i64 r) [] := by
 refine b_ [0, 1] [.tmp 4] Tryz.func238 ahs (fun b7 aC bY => ?_)
 refine ws _ ?_
 obtain ⟨ah, aT, h⟩ := aG h
 refine cU (bT [(4, .int .i64 ah)] (fun P aj => ?_) ?_)
 ·simp only [aP.down, simprocAttr, ig.down]
  refine eQ (aut a0 R _ aT) rfl rfl (by simp only [aP.down, simprocAttr, ig.down, e3, e4, e5, cC] <;> rfl) rfl (.inr (by rfl)) ?_
  simp only [aP.down, simprocAttr, ig.down]
  (try simp only [bh.down, simprocAttr, ig.down] at aj ⊢); exact aj
 exact aM (aC _ (.inl (aQ [.int .i64 ah])))
theorem P4 (a0 : bs) (r : Int) (h : zt a0 = some r) : bm aA 284 [bV a0] (.int .i64 r) [] := by
 refine b_ [0] [.tmp 2] Tryz.func284 ahF (fun b7 aC bY => ?_)
 refine ws _ ?_
 refine aX aC (fun eh b3 br ak => ?_)
 refine ws _ ?_
 refine b5 br (fun eB eS ca b8 bl => ?_)
 have uX : ∀ (gb : Bool), zs a0 gb = some r → cy aA OR eB (U [(4, .int .i64 a0.Kind), (5, .bool gb)]) := by
  intro gb h
  refine a8 h (fun ft h => ?_) (fun ft h => ?_)
  ·refine ws _ ?_
   exact aM (ca _ (.inl (aQ [.int .i64 1])))
  ·refine ws _ ?_
   refine a8 h (fun fU h => ?_) (fun fU h => ?_)
   ·refine ws _ ?_
    exact aM (ca _ (.inl (aQ [.int .i64 2])))
   ·refine bk (eS _ (b3 _ (.inl ?_)))
    refine ws _ ?_
    exact aM (aC _ (.inl (aQ [.int .i64 0])))
 refine aX ca (fun ij er dq bq => ?_)
 refine ws _ ?_
 refine a8 h (fun fV h => ?_) (fun fV h => ?_)
 ·simp only [fV, z7.down]
  exact bk (er _ (.inr ⟨_, bH rfl, uX true h⟩))
 ·refine ws _ ?_
  refine a8 h (fun fJ h => ?_) (fun fJ h => ?_)
  ·simp only [fJ, z7.down]
   exact bk (er _ (.inr ⟨_, bH rfl, uX true h⟩))
  ·refine wr _ ?_
   exact er _ (.inr ⟨_, bH rfl, uX (a0.Kind == 4) h⟩)
theorem P5 (a0 : aS) (R : Int) (r : Int) (h : zu a0 R = some r) : bm aA 244 [bb a0, .int .i64 R] (.int .i64 r) [] := by
 refine b_ [0] [.tmp 4] Tryz.func244 ahQ (fun b7 aC bY => ?_)
 refine ws _ ?_
 refine aX aC (fun eh b3 br ak => ?_)
 refine ws _ ?_
 refine b5 br (fun eB eS ca b8 bl => ?_)
 have hf : ∀ (n : Nat) (a7 : Int) (aO : Int), uw a0 n a7 aO = some r → ei aA OS eB (U [(1, .int .i64 a7), (2, .aU (bb a0)), (5, .int .i64 aO)]) := by
  intro m6
  induction m6 with
  | zero => intro a7 aO h; cases (show none = some r from h)
  | succ m6 gR =>
   intro a7 aO h
   replace h : CZ (uw a0 m6) a0 a7 aO = some r := h
   refine eG ca (fun ij er dq bq => ?_)
   refine aX dq (fun gf dJ dW bL => ?_)
   refine ws _ ?_
   refine a8 h (fun c5 h => ?_) (fun c5 h => ?_)
   ·refine bk (dJ _ (.inl ?_))
    refine aX dq (fun e0 dw c0 dk => ?_)
    refine b5 c0 (fun gi c1 dc e8 dt => ?_)
    refine aX dc (fun kT gD hT eW => ?_)
    refine ws _ ?_
    refine a8 h (fun fV h => ?_) (fun fV h => ?_)
    ·refine ws _ ?_
     exact aM (hT _ (.inl (aQ [.int .i64 (-1)])))
    ·refine bk (gD _ (.inl ?_))
     obtain ⟨ah, cF, h⟩ := aG h
     obtain ⟨ak, eI, h⟩ := aG h
     refine H5 cF (P4 ah _ eI) _ ?_
     refine c1 _ (dw _ (.inl ?_))
     refine wr _ ?_
     exact er _ (.inr ⟨_, bH rfl, gR (IntKind.i64.wrap (a7 + 1)) (IntKind.i64.wrap (aO + (IntKind.i64.wrap (ak - 1)))) h⟩)
   ·refine eE (bL 0 _ (bq 0 _ (b8 _ (b3 _ (.inl ?_)))))
    refine ws _ ?_
    exact aM (aC _ (.inl (aQ [.int .i64 a7])))
 obtain ⟨n, h⟩ := ed h
 exact eF (.inr ⟨_, bH rfl, hf n R 1 h⟩)
theorem auv (mq : Int → cn → (List cn) → aS → Option (Int × (List cn))) (auw : ∀ (a0 : Int) (R : cn) (a2 : List cn) (a3 : aS) (r : Int × (List cn)), mq a0 R a2 a3 = some r → mP aA 283 2 4 [.int .i64 a0, dE R, .aU (.au 2 (a2.map dE)), .ref (bb a3), .ref (.hole)] (.int .i64 r.1) [.hole, .hole, .aU (.au 2 (r.2.map dE)), .hole, .hole]) (a0 : Int) (R : cn) (a2 : List cn) (a3 : aS) (r : Int × (List cn)) (h : HC mq a0 R a2 a3 = some r) : mP aA 283 2 4 [.int .i64 a0, dE R, .aU (.au 2 (a2.map dE)), .ref (bb a3), .ref (.hole)] (.int .i64 r.1) [.hole, .hole, .aU (.au 2 (r.2.map dE)), .hole, .hole] := by
 refine mP.Hh (fx := [0, 1, 2, 3, 4]) Hi [.tmp 7] [(0, .int .i64 a0), (1, dE R), (2, .aU (.au 2 (a2.map dE))), (3, .ref (bb a3)), (4, .ref (.hole))] Tryz.func283 rfl rfl ah4 (Nat.le_of_ble_eq_true rfl) ah3 rfl rfl (fun b7 aC bY => ?_)
 refine ws _ ?_
 obtain ⟨ah, aT, h⟩ := aG h
 refine cU (bT [(0, .int .i64 a0), (2, .aU (.au 2 ((List.set a2 (Int.toNat a0) R).map dE))), (3, .ref (bb a3)), (4, .ref (.hole)), (6, .aU (dE R))] (fun P aj => ?_) ?_)
 ·simp only [aP.down, simprocAttr, dm, qB, qE, tZ, bb, bV, bj, dE, cW, aT, dd aT, dD, eD]
  (try simp only [bh.down, simprocAttr, n2.down, aT, dd aT, dD, eD] at aj ⊢); exact aj
 obtain ⟨ak, cI, h⟩ := aG h
 refine fm cI [(0, .int .i64 a0), (2, .aU (.au 2 ((List.set a2 (Int.toNat a0) R).map dE))), (3, .ref (bb a3)), (4, .ref (.hole)), (6, .aU (dE R)), (8, .aU (bV ak))] ?_
 refine fm (show ∀ s, ev aA s 309 [(0, .int .i64 R.scope), (1, .bool (ak.Kind == 1))] = some (.agg [.int .i64 R.scope, .bool (ak.Kind == 1)], s) from fun s => by kernel_rfl) [(0, .int .i64 a0), (2, .aU (.au 2 ((List.set a2 (Int.toNat a0) R).map dE))), (3, .ref (bb a3)), (4, .ref (.hole)), (8, .aU (bV ak)), (9, .aU (.agg [.int .i64 R.scope, .bool (ak.Kind == 1)]))] ?_
 have P6 : ∀ (lf : Int), C1 mq a0 R a2 a3 ak lf = some r → cy aA OU b7 (U [(0, .int .i64 a0), (2, .aU (.au 2 ((List.set a2 (Int.toNat a0) R).map dE))), (3, .ref (bb a3)), (4, .ref (.hole)), (8, .aU (bV ak)), (9, .aU (.agg [.int .i64 lf, .bool (ak.Kind == 1)]))]) := by
  intro lf h
  refine ws [(2, .aU (.au 2 ((List.set a2 (Int.toNat a0) R).map dE))), (3, .ref (bb a3)), (4, .ref (.hole)), (8, .aU (bV ak)), (9, .aU (.agg [.int .i64 lf, .bool (ak.Kind == 1)])), (10, .int .i64 (IntKind.i64.wrap (a0 + 1)))] ?_
  refine aX aC (fun e0 dw c0 dk => ?_)
  obtain ⟨a6, kI, h⟩ := aG h
  refine eA (P4 ak _ kI) [(2, .aU (.au 2 ((List.set a2 (Int.toNat a0) R).map dE))), (3, .ref (bb a3)), (4, .ref (.hole)), (9, .aU (.agg [.int .i64 lf, .bool (ak.Kind == 1)])), (10, .int .i64 (IntKind.i64.wrap (a0 + 1))), (36, .int .i64 a6), (37, .int .i64 0)] ?_
  refine b5 c0 (fun l_ iD kU fc iP => ?_)
  have auy : ∀ (n : Nat) (pL : List cn) (nX : Int) (oL : Int), sH mq a3 lf ak a6 n pL nX oL = some r → ei aA OT l_ (U [(2, .aU (.au 2 (pL.map dE))), (3, .ref (bb a3)), (4, .ref (.hole)), (9, .aU (.agg [.int .i64 lf, .bool (ak.Kind == 1)])), (10, .int .i64 nX), (36, .int .i64 a6), (37, .int .i64 oL)]) := by
   intro m20
   induction m20 with
   | zero => intro pL nX oL h; cases (show none = some r from h)
   | succ m20 auz =>
    intro pL nX oL h
    replace h : C0 mq (sH mq a3 lf ak a6 m20) a3 lf ak a6 pL nX oL = some r := h
    refine eG kU (fun pV j8 jq kg => ?_)
    refine ws _ ?_
    refine aX jq (fun mV iQ ja hK => ?_)
    refine a8 h (fun n5 h => ?_) (fun n5 h => ?_)
    ·refine bk (iQ _ (.inl ?_))
     refine aX jq (fun uY nv oU jy => ?_)
     refine b5 oU (fun IL sW xm jb sM => ?_)
     obtain ⟨bl, hM, h⟩ := aG h
     refine V_ [(2, .aU (.au 2 (bl.2.map dE))), (3, .ref (bb a3)), (4, .ref (.hole)), (9, .aU (.agg [.int .i64 lf, .bool (ak.Kind == 1)])), (10, .int .i64 bl.1), (36, .int .i64 a6), (37, .int .i64 oL)] (fun P aj => ?_) ?_
     ·simp only [aP.down, simprocAttr, H7.down, pI]
      refine M3 [⟨.int .i64 nX, false, _, .hole⟩, ⟨.agg [.int .i64 lf, .bool (ak.Kind == 1)], false, _, .hole⟩, ⟨.h 2 [], true, _, _⟩, ⟨.ref (bb a3), false, _, .hole⟩, ⟨.ref (.hole), false, _, .hole⟩] (auw nX (cn.mk lf (ak.Kind == 1)) pL a3 _ hM) rfl (by simp only [aP.down, simprocAttr, H7.down, pI, kO, jX, jY, e3, e4, e5, cC, or_true, true_or, @cx _ dE dE (fun _ => NY _)]) rfl rfl (.inl rfl) ?_
      simp only [aP.down, simprocAttr, H7.down, pI, jZ]
      (try simp only [bh.down, simprocAttr, n2.down, pI] at aj ⊢); exact aj
     refine sW _ (nv _ (.inl ?_))
     refine wr _ ?_
     exact j8 _ (.inr ⟨_, bH rfl, auz bl.2 bl.1 (IntKind.i64.wrap (oL + 1)) h⟩)
    ·refine eE (hK 0 _ (kg 0 _ (fc _ (dw _ (.inl ?_)))))
     refine ws _ ?_
     exact aM (aC _ (.inl (jw [.int .i64 nX] rfl (by cases gg h; rfl) (by decide) (jH (ep (ep (lY (by cases gg h; rfl) rfl rfl rfl (ep (ep (jI))))))))))
  obtain ⟨n, h⟩ := ed h
  exact eF (.inr ⟨_, bH rfl, auy n (List.set a2 (Int.toNat a0) R) (IntKind.i64.wrap (a0 + 1)) 0 h⟩)
 refine aX aC (fun j5 fo fE ch => ?_)
 refine ws [(0, .int .i64 a0), (2, .aU (.au 2 ((List.set a2 (Int.toNat a0) R).map dE))), (3, .ref (bb a3)), (4, .ref (.hole)), (8, .aU (bV ak)), (9, .aU (.agg [.int .i64 R.scope, .bool (ak.Kind == 1)])), (28, .bool (ak.Kind == 4))] ?_
 refine a8 h (fun lj h => ?_) (fun lj h => ?_)
 ·refine wr [(0, .int .i64 a0), (2, .aU (.au 2 ((List.set a2 (Int.toNat a0) R).map dE))), (3, .ref (bb a3)), (4, .ref (.hole)), (8, .aU (bV ak)), (9, .aU (.agg [.int .i64 (IntKind.i64.wrap (R.scope + 1)), .bool (ak.Kind == 1)]))] ?_
  exact fo _ (.inr ⟨_, bH rfl, P6 (IntKind.i64.wrap (R.scope + 1)) h⟩)
 ·exact bk (fo _ (.inr ⟨_, bH rfl, P6 R.scope h⟩))
theorem auA : ∀ (n : Nat) (a0 : Int) (R : cn) (a2 : List cn) (a3 : aS) (r : Int × (List cn)), ux n a0 R a2 a3 = some r → mP aA 283 2 4 [.int .i64 a0, dE R, .aU (.au 2 (a2.map dE)), .ref (bb a3), .ref (.hole)] (.int .i64 r.1) [.hole, .hole, .aU (.au 2 (r.2.map dE)), .hole, .hole] := by
 intro n
 induction n with
 | zero => intro a0 R a2 a3 r h; cases (show none = some r from h)
 | succ n ih => intro a0 R a2 a3 r h; exact auv (ux n) ih a0 R a2 a3 r h
theorem auB (a0 : Int) (R : cn) (a2 : List cn) (a3 : aS) (r : Int × (List cn)) (h : C2 a0 R a2 a3 = some r) : mP aA 283 2 4 [.int .i64 a0, dE R, .aU (.au 2 (a2.map dE)), .ref (bb a3), .ref (.hole)] (.int .i64 r.1) [.hole, .hole, .aU (.au 2 (r.2.map dE)), .hole, .hole] := by
 obtain ⟨n, h⟩ := ed h
 exact auA n a0 R a2 a3 r h
theorem IP (a0 : aS) (r : (List cn)) (h : wV a0 = some r) : bm aA 241 [bb a0] (.au 2 (r.map dE)) [] := by
 refine bm.WT (fx := [0]) Hi [.tmp 2] [(0, bb a0)] Tryz.func241 rfl rfl ah9 (Nat.le_of_ble_eq_true rfl) ah8 rfl rfl (fun b7 aC bY => ?_)
 refine ws _ ?_
 obtain ⟨tw, aT, h⟩ := aG h
 refine cU (bT [(1, .aU (bb a0)), (3, .aU (.au 2 ((List.replicate (Int.toNat (a0.Body.length : Int)) (cn.mk 0 false)).map dE)))] (fun P aj => ?_) ?_)
 ·simp only [aP.down, simprocAttr, dm, qB, eU, jL, l0, e_, fT, ht, eV, qE, tZ, bb, bV, bj, dE, cW, (gm aT).1, (gm aT).2.1, (gm aT).2.2, e7, List.map_replicate, -Int.reduceNatCast']
  (try simp only [bh.down, simprocAttr, n2.down, (gm aT).1, (gm aT).2.1, (gm aT).2.2, e7, List.map_replicate, -Int.reduceNatCast'] at aj ⊢); exact aj
 obtain ⟨ah, cI, h⟩ := aG h
 refine WR [(3, .aU (.au 2 (ah.2.map dE)))] (fun P aj => ?_) ?_
 ·simp only [aP.down, simprocAttr, H8.down, (show ∀ s, ev aA s 309 [(0, .int .i64 a0.c_)] = some (.agg [.int .i64 a0.c_, .bool false], s) from fun s => by kernel_rfl), pI]
  refine M3 [⟨.int .i64 0, false, _, .hole⟩, ⟨.agg [.int .i64 a0.c_, .bool false], false, _, .hole⟩, ⟨.h 3 [], true, _, _⟩, ⟨.h 1 [], false, _, .hole⟩, ⟨.ref (.hole), false, _, .hole⟩] (auB 0 (cn.mk a0.c_ false) (List.replicate (Int.toNat (a0.Body.length : Int)) (cn.mk 0 false)) a0 _ cI) rfl (by simp only [aP.down, simprocAttr, H8.down, (show ∀ s, ev aA s 309 [(0, .int .i64 a0.c_)] = some (.agg [.int .i64 a0.c_, .bool false], s) from fun s => by kernel_rfl), pI, kO, jX, jY, e3, e4, e5, cC, or_true, true_or, @cx _ dE dE (fun _ => NY _), @cx _ bV bV (fun _ => zW _)]) rfl rfl ((.inr (by simp only [sr, I.c3, I.hZ, Bool.and_self, @oA _ dE (fun _ => Xh _)]))) ?_
  simp only [aP.down, simprocAttr, H8.down, (show ∀ s, ev aA s 309 [(0, .int .i64 a0.c_)] = some (.agg [.int .i64 a0.c_, .bool false], s) from fun s => by kernel_rfl), pI, jZ]
  (try simp only [bh.down, simprocAttr, n2.down, (show ∀ s, ev aA s 309 [(0, .int .i64 a0.c_)] = some (.agg [.int .i64 a0.c_, .bool false], s) from fun s => by kernel_rfl), pI] at aj ⊢); exact aj
 refine ws _ ?_
 exact aM (aC _ (.inl (aQ [.au 2 (ah.2.map dE)])))
theorem auC (a0 : bs) (r : Bool) (h : HD a0 = some r) : bm aA 308 [bV a0] (.bool r) [] := by
 refine b_ [0] [.tmp 2] Tryz.func308 aid (fun b7 aC bY => ?_)
 refine ws _ ?_
 refine cU (bT [(1, .aU (bV a0)), (3, .bool ((a0.Kind == 4) || (a0.Kind == 5)))] (fun P aj => ?_) ?_)
 ·rcases Bool.eq_false_or_eq_true (a0.Kind == 4) with fi | fi
  ·simp only [aP.down, simprocAttr, oT.down, fi]
   (try simp only [bh.down, simprocAttr, nt.down, fi] at aj ⊢); exact aj
  ·simp only [aP.down, simprocAttr, oT.down, fi]
   (try simp only [bh.down, simprocAttr, nt.down, fi] at aj ⊢); exact aj
 refine cU (bT [(1, .aU (bV a0)), (3, .bool ((a0.Kind == 4) || (a0.Kind == 5))), (4, .bool (((a0.Kind == 1) || (a0.Kind == 3)) || (a0.Kind == 5)))] (fun P aj => ?_) ?_)
 ·(rcases Bool.eq_false_or_eq_true (a0.Kind == 1) with IQ | IQ) <;> (rcases Bool.eq_false_or_eq_true (a0.Kind == 3) with IU | IU) <;>
   (simp only [aP.down, simprocAttr, oT.down, IQ, IU]
    (try simp only [bh.down, simprocAttr, nt.down, IQ, IU] at aj ⊢); exact aj)
 obtain ⟨ah, fF, h⟩ := aG h
 refine cU (bT [(2, .bool (((ah && (((a0.Kind == 4) || (a0.Kind == 5)) || (a0.Number == 0))) && ((a0.Kind == 1) || (a0.Name == ([] : List UInt8)))) && ((((a0.Kind == 1) || (a0.Kind == 3)) || (a0.Kind == 5)) || ((a0.bN.length : Int) == 0))))] (fun P aj => ?_) ?_)
 ·(rcases Bool.eq_false_or_eq_true (ah) with ns | ns) <;> (rcases Bool.eq_false_or_eq_true (a0.Kind == 4) with sX | sX) <;> (rcases Bool.eq_false_or_eq_true (a0.Kind == 5) with Ec | Ec) <;> (rcases Bool.eq_false_or_eq_true (a0.Number == 0) with Ed | Ed) <;> (rcases Bool.eq_false_or_eq_true (a0.Kind == 1) with Ee | Ee) <;> (rcases Bool.eq_false_or_eq_true (a0.Name == ([] : List UInt8)) with oS | oS) <;> (rcases Bool.eq_false_or_eq_true (a0.Kind == 3) with Ef | Ef) <;>
   (simp only [aP.down, simprocAttr, oT.down, ns, sX, Ec, Ed, Ee, oS, Ef]
    refine eQ (kX a0.Kind 0 5 _ fF) rfl rfl rfl rfl (.inl (by rfl)) ?_
    simp only [aP.down, simprocAttr, oT.down, ns, sX, Ec, Ed, Ee, oS, Ef]
    (try simp only [bh.down, simprocAttr, nt.down, ns, sX, Ec, Ed, Ee, oS, Ef] at aj ⊢); exact aj)
 exact aM (aC _ (.inl (aQ [.bool (((ah && (((a0.Kind == 4) || (a0.Kind == 5)) || (a0.Number == 0))) && ((a0.Kind == 1) || (a0.Name == ([] : List UInt8)))) && ((((a0.Kind == 1) || (a0.Kind == 3)) || (a0.Kind == 5)) || ((a0.bN.length : Int) == 0)))])))
theorem Eg (a0 : List UInt8) (r : Bool) (h : zv a0 = some r) : bm aA 192 [.str a0] (.bool r) [] := by
 refine b_ [0] [.tmp 2] Tryz.func192 aih (fun b7 aC bY => ?_)
 refine ws _ ?_
 obtain ⟨ah, aT, h⟩ := aG h
 refine cU (bT [(2, .bool (ah && (!(a0 == ([116, 97, 117] : List UInt8)))))] (fun P aj => ?_) ?_)
 ·rcases Bool.eq_false_or_eq_true (ah) with ke | ke
  ·simp only [aP.down, simprocAttr, ke]
   refine eQ (Eb a0 _ aT) rfl rfl rfl rfl (.inl (by rfl)) ?_
   simp only [aP.down, simprocAttr, ke]
   (try simp only [bh.down, simprocAttr, ke] at aj ⊢); exact aj
  ·simp only [aP.down, simprocAttr, ke]
   refine eQ (Eb a0 _ aT) rfl rfl rfl rfl (.inl (by rfl)) ?_
   simp only [aP.down, simprocAttr, ke]
   (try simp only [bh.down, simprocAttr, ke] at aj ⊢); exact aj
 exact aM (aC _ (.inl (aQ [.bool (ah && (!(a0 == ([116, 97, 117] : List UInt8))))])))
theorem Aq (a0 : Int) (R : Int) (r : Bool) (h : uy a0 R = some r) : bm aA 240 [.int .i64 a0, .int .i64 R] (.bool r) [] := by
 refine b_ [0, 1] [.tmp 4] Tryz.func240 aik (fun b7 aC bY => ?_)
 refine ws _ ?_
 obtain ⟨ah, aT, h⟩ := aG h
 refine eA (kX a0 0 (IntKind.i64.wrap (R - 1)) _ aT) _ ?_
 exact aM (aC _ (.inl (aQ [.bool ah])))
theorem auD (a0 : bs) (R : List aS) (r : Bool) (h : HE a0 R = some r) : bm aA 309 [bV a0, .slice (R.map bb)] (.bool r) [] := by
 refine b_ [0, 1] [.tmp 4] Tryz.func309 aiy (fun b7 aC bY => ?_)
 refine ws _ ?_
 refine ws _ ?_
 refine aX aC (fun l5 hL dQ a6 => ?_)
 refine ws _ ?_
 refine b5 dQ (fun ij er dq c8 bq => ?_)
 refine ws _ ?_
 refine a8 h (fun pq h => ?_) (fun pq h => ?_)
 ·refine cU (bT [(4, .bool (((a0.bN.length : Int) == 0) || ((!(a0.Name == ([116, 97, 117] : List UInt8))) && (decide ((a0.bN.length : Int) ≤ 2)))))] (fun P aj => ?_) ?_)
  ·(rcases Bool.eq_false_or_eq_true ((a0.bN.length : Int) == 0) with ns | ns) <;> (rcases Bool.eq_false_or_eq_true (a0.Name == ([116, 97, 117] : List UInt8)) with sX | sX) <;>
    (simp only [aP.down, simprocAttr, z8.down, ns, sX]
     (try simp only [bh.down, simprocAttr, ig.down, ns, sX] at aj ⊢); exact aj)
  exact aM (dq _ (.inl (aQ [.bool (((a0.bN.length : Int) == 0) || ((!(a0.Name == ([116, 97, 117] : List UInt8))) && (decide ((a0.bN.length : Int) ≤ 2))))])))
 ·refine ws _ ?_
  refine a8 h (fun fc h => ?_) (fun fc h => ?_)
  ·refine ws _ ?_
   exact aM (dq _ (.inl (aQ [.bool ((a0.bN.length : Int) == 1)])))
  ·refine ws _ ?_
   refine a8 h (fun fJ h => ?_) (fun fJ h => ?_)
   ·obtain ⟨ah, eI, h⟩ := aG h
    refine fm eI _ ?_
    exact aM (dq _ (.inl (aQ [.bool ((a0.bN.length : Int) == ah.c_)])))
   ·refine bk (er _ (hL _ (.inl ?_)))
    refine ws _ ?_
    exact aM (aC _ (.inl (aQ [.bool true])))
theorem P7 (a0 : Int) (r : Bool) (h : zw a0 = some r) : bm aA 198 [.int .i64 a0] (.bool r) [] := by
 refine b_ [0] [.tmp 2] Tryz.func198 aiB (fun b7 aC bY => ?_)
 refine ws _ ?_
 obtain ⟨ah, aT, h⟩ := aG h
 refine eA (kX a0 0 63 _ aT) _ ?_
 exact aM (aC _ (.inl (aQ [.bool ah])))
theorem auE (a0 : ba) (R : Int) (r : Bool) (h : C3 a0 R = some r) : bm aA 259 [bj a0, .int .i64 R] (.bool r) [] := by
 refine b_ [0, 1] [.tmp 4] Tryz.func259 aiR (fun b7 aC bY => ?_)
 refine ws _ ?_
 refine aX aC (fun eh b3 br ak => ?_)
 refine ws _ ?_
 refine b5 br (fun eB eS ca b8 bl => ?_)
 refine ws _ ?_
 refine a8 h (fun ft h => ?_) (fun ft h => ?_)
 ·obtain ⟨ah, fF, h⟩ := aG h
  refine eA (P7 a0.Value _ fF) _ ?_
  exact aM (ca _ (.inl (aQ [.bool ah])))
 ·refine ws _ ?_
  refine a8 h (fun e8 h => ?_) (fun e8 h => ?_)
  ·obtain ⟨ak, eo, h⟩ := aG h
   refine eA (kX a0.Value 0 (IntKind.i64.wrap (R - 1)) _ eo) _ ?_
   exact aM (ca _ (.inl (aQ [.bool ak])))
  ·refine ws _ ?_
   refine a8 h (fun gQ h => ?_) (fun gQ h => ?_)
   ·obtain ⟨a6, cF, h⟩ := aG h
    refine eA (kX a0.Value 0 8 _ cF) _ ?_
    exact aM (ca _ (.inl (aQ [.bool a6])))
   ·refine ws _ ?_
    refine a8 h (fun jb h => ?_) (fun jb h => ?_)
    ·refine ws _ ?_
     exact aM (ca _ (.inl (aQ [.bool (a0.Value == 0)])))
    ·refine bk (eS _ (b3 _ (.inl ?_)))
     refine ws _ ?_
     exact aM (aC _ (.inl (aQ [.bool false])))
theorem P8 (a0 : ba) (r : Int) (h : C4 a0 = some r) : bm aA 260 [bj a0] (.int .i64 r) [] := by
 refine b_ [0] [.tmp 2] Tryz.func260 ai1 (fun b7 aC bY => ?_)
 refine ws _ ?_
 refine aX aC (fun eh b3 br ak => ?_)
 refine ws _ ?_
 refine b5 br (fun eB eS ca b8 bl => ?_)
 refine ws _ ?_
 refine a8 h (fun ft h => ?_) (fun ft h => ?_)
 ·refine ws _ ?_
  exact aM (ca _ (.inl (aQ [.int .i64 2])))
 ·refine ws _ ?_
  refine a8 h (fun fU h => ?_) (fun fU h => ?_)
  ·refine ws _ ?_
   exact aM (ca _ (.inl (aQ [.int .i64 1])))
  ·refine bk (eS _ (b3 _ (.inl ?_)))
   refine ws _ ?_
   exact aM (aC _ (.inl (aQ [.int .i64 0])))
theorem auF (a0 : List ba) (R : Int) (a2 : Int) (r : Bool) (h : C6 a0 R a2 = some r) : bm aA 196 [.slice (a0.map bj), .int .i64 R, .int .i64 a2] (.bool r) [] := by
 refine b_ [0, 1, 2] [.tmp 6] Tryz.func196 ajg (fun b7 aC bY => ?_)
 refine ws _ ?_
 refine aX aC (fun eh b3 br ak => ?_)
 obtain ⟨ah, b2, h⟩ := aG h
 rcases dU h with ⟨c8, h⟩ | ⟨c8, h⟩
 ·refine hD (h3 c8) (kX R 0 29 _ b2) _ ?_
  refine lB rfl ?_
  refine ws _ ?_
  exact aM (br _ (.inl (aQ [.bool false])))
 ·obtain ⟨ak, bO, h⟩ := aG h
  rcases dU h with ⟨c5, h⟩ | ⟨c5, h⟩
  ·refine cU (bT [(0, .slice (a0.map bj)), (1, .int .i64 R), (24, .bool true)] (fun P aj => ?_) ?_)
   ·simp only [aP.down, simprocAttr, n1.down, (el c8), (h3 c5)]
    refine eQ (kX R 0 29 _ b2) rfl rfl rfl rfl (.inl (by rfl)) ?_
    simp only [aP.down, simprocAttr, n1.down, (el c8), (h3 c5)]
    refine ix (kX a2 1 60 _ bO) rfl rfl rfl rfl (.inl (by rfl)) ?_
    simp only [aP.down, simprocAttr, n1.down, (el c8), (h3 c5)]
    (try simp only [bh.down, simprocAttr, bj, (el c8), (h3 c5)] at aj ⊢); exact aj
   refine lB rfl ?_
   refine ws _ ?_
   exact aM (br _ (.inl (aQ [.bool false])))
  ·obtain ⟨a6, jg, h⟩ := aG h
   refine cU (bT [(0, .slice (a0.map bj)), (1, .int .i64 R), (24, .bool (!a6))] (fun P aj => ?_) ?_)
   ·simp only [aP.down, simprocAttr, n1.down, (el c8), (el c5)]
    refine eQ (kX R 0 29 _ b2) rfl rfl rfl rfl (.inl (by rfl)) ?_
    simp only [aP.down, simprocAttr, n1.down, (el c8), (el c5)]
    refine ix (kX a2 1 60 _ bO) rfl rfl rfl rfl (.inl (by rfl)) ?_
    simp only [aP.down, simprocAttr, n1.down, (el c8), (el c5)]
    refine ix (kX (a0.length : Int) 1 a2 _ jg) rfl rfl rfl rfl (.inl (by rfl)) ?_
    simp only [aP.down, simprocAttr, n1.down, (el c8), (el c5)]
    (try simp only [bh.down, simprocAttr, bj, (el c8), (el c5)] at aj ⊢); exact aj
   refine a8 h (fun pR h => ?_) (fun pR h => ?_)
   ·refine ws _ ?_
    exact aM (br _ (.inl (aQ [.bool false])))
   ·refine bk (b3 _ (.inl ?_))
    refine ws _ ?_
    refine aX aC (fun kh gG gH gP => ?_)
    refine ws _ ?_
    refine b5 gH (fun uW mr n3 n5 iO => ?_)
    have l6 : ∀ (n : Nat) (hv : Int) (nY : Int), uz a0 R n hv nY = some r → ei aA OX uW (U [(1, .int .i64 R), (7, .int .i64 hv), (25, .slice (a0.map bj)), (26, .int .i64 (a0.length : Int)), (27, .int .i64 nY)]) := by
     intro m16
     induction m16 with
     | zero => intro hv nY h; cases (show none = some r from h)
     | succ m16 l7 =>
      intro hv nY h
      replace h : C5 (uz a0 R m16) a0 R hv nY = some r := h
      refine eG n3 (fun uY nv oU jy => ?_)
      refine ws _ ?_
      refine aX oU (fun Pt xe D2 sN => ?_)
      refine a8 h (fun ki h => ?_) (fun ki h => ?_)
      ·refine bk (xe _ (.inl ?_))
       refine aX oU (fun auG IV Eh qJ => ?_)
       refine b5 Eh (fun atl Ik Il sU w8 => ?_)
       obtain ⟨bl, kk, h⟩ := aG h
       refine fm kk _ ?_
       refine aX Il (fun auH IW Ei auI => ?_)
       rcases dU h with ⟨pU, h⟩ | ⟨pU, h⟩
       ·refine fm pU _ ?_
        refine lB rfl ?_
        refine ws _ ?_
        exact aM (Ei _ (.inl (aQ [.bool false])))
       ·obtain ⟨bq, rI, h⟩ := aG h
        refine cU (bT [(1, .int .i64 R), (7, .int .i64 hv), (9, .aU (bj bl)), (25, .slice (a0.map bj)), (26, .int .i64 (a0.length : Int)), (27, .int .i64 nY), (38, .bool (!bq))] (fun P aj => ?_) ?_)
        ·simp only [aP.down, simprocAttr, dm, eV, bj, pU]
         refine ix (auE bl R _ rI) rfl rfl rfl rfl (.inl (by rfl)) ?_
         simp only [aP.down, simprocAttr, dm, eV, bj, pU]
         (try simp only [bh.down, simprocAttr, bj, pU] at aj ⊢); exact aj
        refine a8 h (fun kW h => ?_) (fun kW h => ?_)
        ·refine ws _ ?_
         exact aM (Ei _ (.inl (aQ [.bool false])))
        ·refine bk (IW _ (.inl ?_))
         obtain ⟨bL, u_, h⟩ := aG h
         refine asY (P8 bl _ u_) _ ?_
         refine Ik _ (IV _ (.inl ?_))
         refine wr _ ?_
         exact nv _ (.inr ⟨_, bH rfl, l7 (IntKind.i64.wrap (hv + (IntKind.i64.wrap (bL - 1)))) (IntKind.i64.wrap (nY + 1)) h⟩)
      ·refine eE (sN 0 _ (jy 0 _ (n5 _ (gG _ (.inl ?_)))))
       refine ws _ ?_
       exact aM (aC _ (.inl (aQ [.bool (hv == 0)])))
    obtain ⟨n, h⟩ := ed h
    exact eF (.inr ⟨_, bH rfl, l6 n 1 0 h⟩)
theorem auJ (a0 : List ba) (R : cn) (r : Bool) (h : HF a0 R = some r) : bm aA 310 [.slice (a0.map bj), .ref (dE R)] (.bool r) [] := by
 refine b_ [0, 1] [.tmp 3] Tryz.func310 ajj (fun b7 aC bY => ?_)
 refine ws _ ?_
 obtain ⟨ah, aT, h⟩ := aG h
 refine eA (auF a0 R.scope 15 _ aT) _ ?_
 exact aM (aC _ (.inl (aQ [.bool (!ah)])))
theorem auK (a0 : List (List ba)) (R : cn) (r : Int) (h : HG a0 R = some r) : bm aA 257 [.slice (a0.map cW), .fn 310 [.ref (dE R)]] (.int .i64 r) [] := by
 refine b_ [0, 1] [.tmp 4] Tryz.func257 aju (fun b7 aC bY => ?_)
 refine ws _ ?_
 refine aX aC (fun eh b3 br ak => ?_)
 refine ws _ ?_
 refine b5 br (fun eB eS ca b8 bl => ?_)
 have hf : ∀ (n : Nat) (dH : Int), wW a0 R n dH = some r → ei aA OY eB (U [(0, .slice (a0.map cW)), (1, .fn 310 [.ref (dE R)]), (7, .int .i64 (a0.length : Int)), (8, .int .i64 dH)]) := by
  intro m6
  induction m6 with
  | zero => intro dH h; cases (show none = some r from h)
  | succ m6 gR =>
   intro dH h
   replace h : C7 (wW a0 R m6) a0 R dH = some r := h
   refine eG ca (fun ij er dq bq => ?_)
   refine ws _ ?_
   refine aX dq (fun j5 fo fE ch => ?_)
   refine a8 h (fun c5 h => ?_) (fun c5 h => ?_)
   ·refine bk (fo _ (.inl ?_))
    refine aX dq (fun e0 dw c0 dk => ?_)
    refine b5 c0 (fun gi c1 dc e8 dt => ?_)
    refine ws _ ?_
    obtain ⟨ah, ea, h⟩ := aG h
    obtain ⟨ak, fB, h⟩ := aG h
    refine hD ea (auJ ah R _ fB) _ ?_
    refine a8 h (fun fJ h => ?_) (fun fJ h => ?_)
    ·refine ws _ ?_
     exact aM (dc _ (.inl (aQ [.int .i64 dH])))
    ·refine bk (c1 _ (dw _ (.inl ?_)))
     refine wr _ ?_
     exact er _ (.inr ⟨_, bH rfl, gR (IntKind.i64.wrap (dH + 1)) h⟩)
   ·refine eE (ch 0 _ (bq 0 _ (b8 _ (b3 _ (.inl ?_)))))
    refine ws _ ?_
    exact aM (aC _ (.inl (aQ [.int .i64 (-1)])))
 obtain ⟨n, h⟩ := ed h
 exact eF (.inr ⟨_, bH rfl, hf n 0 h⟩)
theorem auL (a0 : List (List ba)) (R : cn) (r : Bool) (h : C8 a0 R = some r) : bm aA 193 [.slice (a0.map cW), .fn 310 [.ref (dE R)]] (.bool r) [] := by
 refine b_ [0, 1] [.tmp 4] Tryz.func193 ajx (fun b7 aC bY => ?_)
 refine ws _ ?_
 obtain ⟨ah, aT, h⟩ := aG h
 refine eA (auK a0 R _ aT) _ ?_
 exact aM (aC _ (.inl (aQ [.bool (decide (0 ≤ ah))])))
theorem auM (a0 : bs) (R : List aS) (a2 : cn) (r : Int) (h : zA a0 R a2 = some r) : bm aA 282 [bV a0, .slice (R.map bb), dE a2] (.int .i64 r) [] := by
 refine b_ [0, 1, 2] [.tmp 6] Tryz.func282 ajT (fun b7 aC bY => ?_)
 refine ws _ ?_
 refine aX aC (fun eh b3 br ak => ?_)
 refine b5 br (fun l5 hL dQ hn a6 => ?_)
 obtain ⟨ah, cI, h⟩ := aG h
 refine eA (auC a0 _ cI) _ ?_
 refine a8 h (fun ft h => ?_) (fun ft h => ?_)
 ·refine ws _ ?_
  exact aM (dQ _ (.inl (aQ [.int .i64 2])))
 ·skip
  have xf : ∀ (zz : Bool), zy a0 R a2 zz = some r → cy aA O0 l5 (U [(1, .slice (R.map bb)), (3, .aU (bV a0)), (5, .aU (dE a2)), (11, .bool zz)]) := by
   intro zz h
   refine a8 h (fun c5 h => ?_) (fun c5 h => ?_)
   ·refine ws _ ?_
    exact aM (dQ _ (.inl (aQ [.int .i64 3])))
   ·skip
    have Ar : ∀ (zx : Bool), uA a0 R a2 zx = some r → cy aA OZ l5 (U [(1, .slice (R.map bb)), (3, .aU (bV a0)), (5, .aU (dE a2)), (26, .bool zx)]) := by
     intro zx h
     refine a8 h (fun e8 h => ?_) (fun e8 h => ?_)
     ·refine ws _ ?_
      exact aM (dQ _ (.inl (aQ [.int .i64 4])))
     ·obtain ⟨ak, ea, h⟩ := aG h
      refine eA (auD a0 R _ ea) _ ?_
      refine a8 h (fun gQ h => ?_) (fun gQ h => ?_)
      ·refine ws _ ?_
       exact aM (dQ _ (.inl (aQ [.int .i64 5])))
      ·refine cU (bT [(3, .aU (bV a0)), (5, .aU (dE a2)), (54, .bool ((a0.Kind == 5) && (!a2.behind)))] (fun P aj => ?_) ?_)
       ·rcases Bool.eq_false_or_eq_true (a0.Kind == 5) with As | As
        ·simp only [aP.down, simprocAttr, DV.down, As]
         (try simp only [bh.down, simprocAttr, Ab.down, As] at aj ⊢); exact aj
        ·simp only [aP.down, simprocAttr, DV.down, As]
         (try simp only [bh.down, simprocAttr, Ab.down, As] at aj ⊢); exact aj
       refine a8 h (fun jb h => ?_) (fun jb h => ?_)
       ·refine ws _ ?_
        exact aM (dQ _ (.inl (aQ [.int .i64 6])))
       ·refine cU (bT [(3, .aU (bV a0)), (5, .aU (dE a2)), (63, .bool ((a0.Kind == 4) && (decide (6 ≤ a2.scope))))] (fun P aj => ?_) ?_)
        ·rcases Bool.eq_false_or_eq_true (a0.Kind == 4) with At | At
         ·simp only [aP.down, simprocAttr, DV.down, At]
          (try simp only [bh.down, simprocAttr, Ab.down, At] at aj ⊢); exact aj
         ·simp only [aP.down, simprocAttr, DV.down, At]
          (try simp only [bh.down, simprocAttr, Ab.down, At] at aj ⊢); exact aj
        refine a8 h (fun sU h => ?_) (fun sU h => ?_)
        ·refine ws _ ?_
         exact aM (dQ _ (.inl (aQ [.int .i64 7])))
        ·obtain ⟨a6, mW, h⟩ := aG h
         refine cU (bT [(72, .bool a6)] (fun P aj => ?_) ?_)
         ·simp only [aP.down, simprocAttr, H9.down]
          refine eQ (auL a0.bN a2 _ mW) rfl rfl (by simp only [aP.down, simprocAttr, H9.down, e3, e4, e5, cC] <;> rfl) rfl (.inr (by rfl)) ?_
          simp only [aP.down, simprocAttr, H9.down]
          (try simp only [bh.down, simprocAttr, Ab.down] at aj ⊢); exact aj
         refine a8 h (fun sT h => ?_) (fun sT h => ?_)
         ·refine ws _ ?_
          exact aM (dQ _ (.inl (aQ [.int .i64 8])))
         ·refine bk (hL _ (b3 _ (.inl ?_)))
          refine ws _ ?_
          exact aM (aC _ (.inl (aQ [.int .i64 0])))
    rcases dU h with ⟨kW, h⟩ | ⟨kW, h⟩
    ·obtain ⟨bl, u9, h⟩ := aG h
     rcases dU h with ⟨nx, h⟩ | ⟨nx, h⟩
     ·refine lD (bT (K := dY _) [(1, .slice (R.map bb)), (3, .aU (bV a0)), (5, .aU (dE a2)), (26, .bool true)] (fun P aj => ?_) ?_)
      ·simp only [aP.down, simprocAttr, qN.down, kW, (h3 nx)]
       refine ix (kX a0.Number 1 7 _ u9) rfl rfl rfl rfl (.inl (by rfl)) ?_
       simp only [aP.down, simprocAttr, qN.down, kW, (h3 nx)]
       (try simp only [bh.down, simprocAttr, n2.down, kW, (h3 nx)] at aj ⊢); exact aj
      exact .inr ⟨_, bH rfl, Ar true h⟩
     ·rcases dU h with ⟨kV, h⟩ | ⟨kV, h⟩
      ·obtain ⟨bq, ny, h⟩ := aG h
       refine lD (bT (K := dY _) [(1, .slice (R.map bb)), (3, .aU (bV a0)), (5, .aU (dE a2)), (26, .bool (!bq))] (fun P aj => ?_) ?_)
       ·simp only [aP.down, simprocAttr, qN.down, kW, (el nx), kV]
        refine ix (kX a0.Number 1 7 _ u9) rfl rfl rfl rfl (.inl (by rfl)) ?_
        simp only [aP.down, simprocAttr, qN.down, kW, (el nx), kV]
        refine ix (Aq a0.Number (R.length : Int) _ ny) rfl rfl rfl rfl (.inl (by rfl)) ?_
        simp only [aP.down, simprocAttr, qN.down, kW, (el nx), kV]
        (try simp only [bh.down, simprocAttr, n2.down, kW, (el nx), kV] at aj ⊢); exact aj
       exact .inr ⟨_, bH rfl, Ar (!bq) h⟩
      ·refine lD (bT (K := dY _) [(1, .slice (R.map bb)), (3, .aU (bV a0)), (5, .aU (dE a2)), (26, .bool false)] (fun P aj => ?_) ?_)
       ·simp only [aP.down, simprocAttr, qN.down, kW, (el nx), kV]
        refine ix (kX a0.Number 1 7 _ u9) rfl rfl rfl rfl (.inl (by rfl)) ?_
        simp only [aP.down, simprocAttr, qN.down, kW, (el nx), kV]
        (try simp only [bh.down, simprocAttr, n2.down, kW, (el nx), kV] at aj ⊢); exact aj
       exact .inr ⟨_, bH rfl, Ar false h⟩
    ·rcases dU h with ⟨pS, h⟩ | ⟨pS, h⟩
     ·obtain ⟨bL, xk, h⟩ := aG h
      refine lD (bT (K := dY _) [(1, .slice (R.map bb)), (3, .aU (bV a0)), (5, .aU (dE a2)), (26, .bool (!bL))] (fun P aj => ?_) ?_)
      ·simp only [aP.down, simprocAttr, qN.down, kW, pS]
       refine ix (Aq a0.Number (R.length : Int) _ xk) rfl rfl rfl rfl (.inl (by rfl)) ?_
       simp only [aP.down, simprocAttr, qN.down, kW, pS]
       (try simp only [bh.down, simprocAttr, n2.down, kW, pS] at aj ⊢); exact aj
      exact .inr ⟨_, bH rfl, Ar (!bL) h⟩
     ·refine lD (bT (K := dY _) [(1, .slice (R.map bb)), (3, .aU (bV a0)), (5, .aU (dE a2)), (26, .bool false)] (fun P aj => ?_) ?_)
      ·simp only [aP.down, simprocAttr, qN.down, kW, pS]
       (try simp only [bh.down, simprocAttr, n2.down, kW, pS] at aj ⊢); exact aj
      exact .inr ⟨_, bH rfl, Ar false h⟩
  rcases dU h with ⟨sY, h⟩ | ⟨sY, h⟩
  ·rcases dU h with ⟨qQ, h⟩ | ⟨qQ, h⟩
   ·obtain ⟨ch, IX, h⟩ := aG h
    refine lD (bT (K := dY _) [(1, .slice (R.map bb)), (3, .aU (bV a0)), (5, .aU (dE a2)), (11, .bool (!ch))] (fun P aj => ?_) ?_)
    ·simp only [aP.down, simprocAttr, DW.down, sY, qQ]
     refine ix (Eg a0.Name _ IX) rfl rfl rfl rfl (.inl (by rfl)) ?_
     simp only [aP.down, simprocAttr, DW.down, sY, qQ]
     (try simp only [bh.down, simprocAttr, n2.down, sY, qQ] at aj ⊢); exact aj
    exact .inr ⟨_, bH rfl, xf (!ch) h⟩
   ·refine lD (bT (K := dY _) [(1, .slice (R.map bb)), (3, .aU (bV a0)), (5, .aU (dE a2)), (11, .bool false)] (fun P aj => ?_) ?_)
    ·simp only [aP.down, simprocAttr, DW.down, sY, qQ]
     (try simp only [bh.down, simprocAttr, n2.down, sY, qQ] at aj ⊢); exact aj
    exact .inr ⟨_, bH rfl, xf false h⟩
  ·refine lD (bT (K := dY _) [(1, .slice (R.map bb)), (3, .aU (bV a0)), (5, .aU (dE a2)), (11, .bool false)] (fun P aj => ?_) ?_)
   ·simp only [aP.down, simprocAttr, DW.down, sY]
    (try simp only [bh.down, simprocAttr, n2.down, sY] at aj ⊢); exact aj
   exact .inr ⟨_, bH rfl, xf false h⟩
theorem auN (a0 : List aS) (R : aS) (r : Int × Int) (h : zC a0 R = some r) : bm aA 239 [.slice (a0.map bb), bb R] (.tuple [.int .i64 r.1, .int .i64 r.2]) [] := by
 refine b_ [0, 1] [.tmp 4, .tmp 5] Tryz.func239 aj9 (fun b7 aC bY => ?_)
 refine ws _ ?_
 refine aX aC (fun eh b3 br ak => ?_)
 obtain ⟨ah, b2, h⟩ := aG h
 rcases dU h with ⟨c8, h⟩ | ⟨c8, h⟩
 ·refine hc rfl (gN [(0, .slice (a0.map bb)), (3, .aU (bb R)), (22, .bool true)] (fun P aj => ?_) ?_)
  ·simp only [cl.down, simprocAttr, qK.down, (h3 c8)]
   refine fR (kX (R.Body.length : Int) 1 20 _ b2) rfl rfl rfl rfl (.inl (by rfl)) ?_
   simp only [cl.down, simprocAttr, qK.down, (h3 c8)]
   refine ⟨fS (by kernel_rfl), ?_⟩
   (try simp only [bh.down, simprocAttr, ig.down, (h3 c8)] at aj ⊢); exact aj
  refine lB rfl ?_
  refine ws _ ?_
  exact aM (br _ (.inl (aQ [.int .i64 0, .int .i64 1])))
 ·obtain ⟨ak, bO, h⟩ := aG h
  refine hc rfl (gN [(0, .slice (a0.map bb)), (3, .aU (bb R)), (22, .bool (ak != (R.Body.length : Int)))] (fun P aj => ?_) ?_)
  ·simp only [cl.down, simprocAttr, qK.down, (el c8)]
   refine fR (kX (R.Body.length : Int) 1 20 _ b2) rfl rfl rfl rfl (.inl (by rfl)) ?_
   simp only [cl.down, simprocAttr, qK.down, (el c8)]
   refine rm (P5 R 0 _ bO) rfl rfl rfl rfl (.inl (by rfl)) ?_
   simp only [cl.down, simprocAttr, qK.down, (el c8)]
   refine ⟨fS (by kernel_rfl), ?_⟩
   (try simp only [bh.down, simprocAttr, ig.down, (el c8)] at aj ⊢); exact aj
  refine a8 h (fun c5 h => ?_) (fun c5 h => ?_)
  ·refine ws _ ?_
   exact aM (br _ (.inl (aQ [.int .i64 0, .int .i64 1])))
  ·refine bk (b3 _ (.inl ?_))
   obtain ⟨a6, kI, h⟩ := aG h
   refine eA (IP R _ kI) _ ?_
   refine aX aC (fun l_ iD kU iP => ?_)
   refine ws _ ?_
   refine b5 kU (fun kh gG gH gQ gP => ?_)
   have l6 : ∀ (n : Nat) (l1 : Int), sI a0 R a6 n l1 = some r → ei aA O1 kh (U [(0, .slice (a0.map bb)), (6, .au 2 (a6.map dE)), (26, .slice (R.Body.map bV)), (27, .int .i64 (R.Body.length : Int)), (28, .int .i64 l1)]) := by
    intro m16
    induction m16 with
    | zero => intro l1 h; cases (show none = some r from h)
    | succ m16 l7 =>
     intro l1 h
     replace h : zB (sI a0 R a6 m16) a0 R a6 l1 = some r := h
     refine eG gH (fun mV iQ ja hK => ?_)
     refine ws _ ?_
     refine aX ja (fun uY nv oU jy => ?_)
     refine a8 h (fun jb h => ?_) (fun jb h => ?_)
     ·refine bk (nv _ (.inl ?_))
      refine aX ja (fun Pt xe D2 sN => ?_)
      refine b5 D2 (fun atf D3 Ih ki w7 => ?_)
      obtain ⟨bl, gk, h⟩ := aG h
      refine fm gk _ ?_
      obtain ⟨bq, kk, h⟩ := aG h
      obtain ⟨bL, mW, h⟩ := aG h
      refine hc rfl (gN [(0, .slice (a0.map bb)), (6, .au 2 (a6.map dE)), (7, .int .i64 l1), (9, .int .i64 bL), (26, .slice (R.Body.map bV)), (27, .int .i64 (R.Body.length : Int)), (28, .int .i64 l1)] (fun P aj => ?_) ?_)
      ·simp only [cl.down, simprocAttr, dm, qB, eU, e_, fT, ht, eV, qE, tZ, bb, bV, bj, dE, cW, kk, dd kk]
       refine fR (auM bl a0 bq _ mW) rfl rfl rfl rfl (.inl (by rfl)) ?_
       simp only [cl.down, simprocAttr, dm, qB, eU, e_, fT, ht, eV, qE, tZ, bb, bV, bj, dE, cW, kk, dd kk]
       refine ⟨fS (by kernel_rfl), ?_⟩
       (try simp only [bh.down, simprocAttr, n2.down, kk, dd kk] at aj ⊢); exact aj
      refine ws _ ?_
      refine a8 h (fun pU h => ?_) (fun pU h => ?_)
      ·refine ws _ ?_
       exact aM (Ih _ (.inl (aQ [.int .i64 l1, .int .i64 bL])))
      ·refine bk (D3 _ (xe _ (.inl ?_)))
       refine wr _ ?_
       exact iQ _ (.inr ⟨_, bH rfl, l7 (IntKind.i64.wrap (l1 + 1)) h⟩)
     ·refine eE (jy 0 _ (hK 0 _ (gQ _ (iD _ (.inl ?_)))))
      refine ws _ ?_
      exact aM (aC _ (.inl (aQ [.int .i64 0, .int .i64 0])))
   obtain ⟨n, h⟩ := ed h
   exact eF (.inr ⟨_, bH rfl, l6 n 0 h⟩)
theorem P9 (a0 : List aS) (r : Bool) (h : C_ a0 = some r) : bm aA 162 [.slice (a0.map bb)] (.bool r) [] := by
 refine b_ [0] [.tmp 2] Tryz.func162 akq (fun b7 aC bY => ?_)
 refine ws _ ?_
 refine aX aC (fun eh b3 br ak => ?_)
 obtain ⟨ah, b2, h⟩ := aG h
 rcases dU h with ⟨c8, h⟩ | ⟨c8, h⟩
 ·refine hD (h3 c8) (kX (a0.length : Int) 1 4 _ b2) _ ?_
  refine lB rfl ?_
  refine ws _ ?_
  exact aM (br _ (.inl (aQ [.bool false])))
 ·obtain ⟨ak, bO, h⟩ := aG h
  refine cU (bT [(0, .slice (a0.map bb)), (15, .bool (!ak))] (fun P aj => ?_) ?_)
  ·simp only [aP.down, simprocAttr, jo.down, (el c8)]
   refine eQ (kX (a0.length : Int) 1 4 _ b2) rfl rfl rfl rfl (.inl (by rfl)) ?_
   simp only [aP.down, simprocAttr, jo.down, (el c8)]
   refine ix (auq a0 _ bO) rfl rfl rfl rfl (.inl (by rfl)) ?_
   simp only [aP.down, simprocAttr, jo.down, (el c8)]
   (try simp only [bh.down, simprocAttr, ig.down, (el c8)] at aj ⊢); exact aj
  refine a8 h (fun c5 h => ?_) (fun c5 h => ?_)
  ·refine ws _ ?_
   exact aM (br _ (.inl (aQ [.bool false])))
  ·refine bk (b3 _ (.inl ?_))
   refine aX aC (fun gi c1 dc dt => ?_)
   refine ws _ ?_
   refine b5 dc (fun l_ iD kU fc iP => ?_)
   have j7 : ∀ (n : Nat) (mS : Int), uB a0 n mS = some r → ei aA O2 l_ (U [(0, .slice (a0.map bb)), (16, .slice (a0.map bb)), (17, .int .i64 (a0.length : Int)), (18, .int .i64 mS)]) := by
    intro m14
    induction m14 with
    | zero => intro mS h; cases (show none = some r from h)
    | succ m14 jN =>
     intro mS h
     replace h : C9 (uB a0 m14) a0 mS = some r := h
     refine eG kU (fun pV j8 jq kg => ?_)
     refine ws _ ?_
     refine aX jq (fun mV iQ ja hK => ?_)
     refine a8 h (fun n5 h => ?_) (fun n5 h => ?_)
     ·refine bk (iQ _ (.inl ?_))
      refine aX jq (fun uY nv oU jy => ?_)
      refine b5 oU (fun IL sW xm jb sM => ?_)
      obtain ⟨a6, hM, h⟩ := aG h
      refine fm hM _ ?_
      refine aX xm (fun auG IV Eh qJ => ?_)
      obtain ⟨bl, lJ, h⟩ := aG h
      rcases dU h with ⟨lj, h⟩ | ⟨lj, h⟩
      ·refine hc rfl (gN [(0, .slice (a0.map bb)), (4, .aU (bb a6)), (16, .slice (a0.map bb)), (17, .int .i64 (a0.length : Int)), (18, .int .i64 mS), (35, .bool true)] (fun P aj => ?_) ?_)
       ·simp only [cl.down, simprocAttr, jo.down, (h3 lj)]
        refine fR (Eb a6.Name _ lJ) rfl rfl rfl rfl (.inl (by rfl)) ?_
        simp only [cl.down, simprocAttr, jo.down, (h3 lj)]
        refine ⟨fS (by kernel_rfl), ?_⟩
        (try simp only [bh.down, simprocAttr, ig.down, (h3 lj)] at aj ⊢); exact aj
       refine lB rfl ?_
       refine ws _ ?_
       exact aM (Eh _ (.inl (aQ [.bool false])))
      ·obtain ⟨bq, xo, h⟩ := aG h
       obtain ⟨bL, xn, h⟩ := aG h
       refine hc rfl (gN [(0, .slice (a0.map bb)), (4, .aU (bb a6)), (16, .slice (a0.map bb)), (17, .int .i64 (a0.length : Int)), (18, .int .i64 mS), (35, .bool (decide (0 ≤ bL)))] (fun P aj => ?_) ?_)
       ·simp only [cl.down, simprocAttr, jo.down, (el lj), xo, @hd _ bb 3 (fun _ => rfl)]
        refine fR (Eb a6.Name _ lJ) rfl rfl rfl rfl (.inl (by rfl)) ?_
        simp only [cl.down, simprocAttr, jo.down, (el lj), xo, @hd _ bb 3 (fun _ => rfl)]
        refine rm (auu bq a6.Name _ xn) rfl rfl rfl rfl (.inl (by rfl)) ?_
        simp only [cl.down, simprocAttr, jo.down, (el lj), xo, @hd _ bb 3 (fun _ => rfl)]
        refine ⟨fS (by kernel_rfl), ?_⟩
        (try simp only [bh.down, simprocAttr, ig.down, (el lj), xo, @hd _ bb 3 (fun _ => rfl)] at aj ⊢); exact aj
       refine a8 h (fun II h => ?_) (fun II h => ?_)
       ·refine ws _ ?_
        exact aM (Eh _ (.inl (aQ [.bool false])))
       ·refine bk (IV _ (.inl ?_))
        obtain ⟨ch, u9, h⟩ := aG h
        refine eA (auN a0 a6 _ u9) _ ?_
        refine ws _ ?_
        refine a8 h (fun kV h => ?_) (fun kV h => ?_)
        ·refine ws _ ?_
         exact aM (xm _ (.inl (aQ [.bool false])))
        ·refine bk (sW _ (nv _ (.inl ?_)))
         refine wr _ ?_
         exact j8 _ (.inr ⟨_, bH rfl, jN (IntKind.i64.wrap (mS + 1)) h⟩)
     ·refine eE (hK 0 _ (kg 0 _ (fc _ (c1 _ (.inl ?_)))))
      refine ws _ ?_
      exact aM (aC _ (.inl (aQ [.bool true])))
   obtain ⟨n, h⟩ := ed h
   exact eF (.inr ⟨_, bH rfl, j7 n 0 h⟩)
theorem auO (a0 : Int) (r : Bool) (h : HH a0 = some r) : bm aA 197 [.int .i64 a0] (.bool r) [] := by
 refine b_ [0] [.tmp 2] Tryz.func197 akt (fun b7 aC bY => ?_)
 refine ws _ ?_
 obtain ⟨ah, aT, h⟩ := aG h
 refine eA (P7 a0 _ aT) _ ?_
 exact aM (aC _ (.inl (aQ [.bool (!ah)])))
theorem auP (a0 : List Int) (r : Int) (h : HI a0 = some r) : bm aA 217 [.slice (a0.map aE), .fn 197 []] (.int .i64 r) [] := by
 refine b_ [0, 1] [.tmp 4] Tryz.func217 akE (fun b7 aC bY => ?_)
 refine ws _ ?_
 refine aX aC (fun eh b3 br ak => ?_)
 refine ws _ ?_
 refine b5 br (fun eB eS ca b8 bl => ?_)
 have hf : ∀ (n : Nat) (dH : Int), wX a0 n dH = some r → ei aA O3 eB (U [(0, .slice (a0.map aE)), (1, .fn 197 []), (7, .int .i64 (a0.length : Int)), (8, .int .i64 dH)]) := by
  intro m6
  induction m6 with
  | zero => intro dH h; cases (show none = some r from h)
  | succ m6 gR =>
   intro dH h
   replace h : Da (wX a0 m6) a0 dH = some r := h
   refine eG ca (fun ij er dq bq => ?_)
   refine ws _ ?_
   refine aX dq (fun j5 fo fE ch => ?_)
   refine a8 h (fun c5 h => ?_) (fun c5 h => ?_)
   ·refine bk (fo _ (.inl ?_))
    refine aX dq (fun e0 dw c0 dk => ?_)
    refine b5 c0 (fun gi c1 dc e8 dt => ?_)
    refine ws _ ?_
    obtain ⟨ah, ea, h⟩ := aG h
    obtain ⟨ak, fB, h⟩ := aG h
    refine hD ea (auO ah _ fB) _ ?_
    refine a8 h (fun fJ h => ?_) (fun fJ h => ?_)
    ·refine ws _ ?_
     exact aM (dc _ (.inl (aQ [.int .i64 dH])))
    ·refine bk (c1 _ (dw _ (.inl ?_)))
     refine wr _ ?_
     exact er _ (.inr ⟨_, bH rfl, gR (IntKind.i64.wrap (dH + 1)) h⟩)
   ·refine eE (ch 0 _ (bq 0 _ (b8 _ (b3 _ (.inl ?_)))))
    refine ws _ ?_
    exact aM (aC _ (.inl (aQ [.int .i64 (-1)])))
 obtain ⟨n, h⟩ := ed h
 exact eF (.inr ⟨_, bH rfl, hf n 0 h⟩)
theorem auQ (a0 : List Int) (r : Bool) (h : HJ a0 = some r) : bm aA 149 [.slice (a0.map aE), .fn 197 []] (.bool r) [] := by
 refine b_ [0, 1] [.tmp 4] Tryz.func149 akH (fun b7 aC bY => ?_)
 refine ws _ ?_
 obtain ⟨ah, aT, h⟩ := aG h
 refine eA (auP a0 _ aT) _ ?_
 exact aM (aC _ (.inl (aQ [.bool (decide (0 ≤ ah))])))
theorem P_ (a0 : List Int) (r : Bool) (h : zD a0 = some r) : bm aA 129 [.slice (a0.map aE)] (.bool r) [] := by
 refine b_ [0] [.tmp 2] Tryz.func129 akK (fun b7 aC bY => ?_)
 refine ws _ ?_
 obtain ⟨ah, aT, h⟩ := aG h
 refine eA (auQ a0 _ aT) _ ?_
 exact aM (aC _ (.inl (aQ [.bool (!ah)])))
theorem auR (a0 : List aS) (R : dP) (r : Bool) (h : Db a0 R = some r) : bm aA 163 [.slice (a0.map bb), eg R] (.bool r) [] := by
 refine b_ [0, 1] [.tmp 4] Tryz.func163 akR (fun b7 aC bY => ?_)
 refine ws _ ?_
 refine aX aC (fun eh b3 br ak => ?_)
 obtain ⟨ah, b2, h⟩ := aG h
 rcases dU h with ⟨c8, h⟩ | ⟨c8, h⟩
 ·refine hc rfl (gN [(0, .slice (a0.map bb)), (3, .aU (eg R)), (24, .bool true)] (fun P aj => ?_) ?_)
  ·simp only [cl.down, simprocAttr, Ac.down, (h3 c8)]
   refine fR (Aq R.dO (a0.length : Int) _ b2) rfl rfl rfl rfl (.inl (by rfl)) ?_
   simp only [cl.down, simprocAttr, Ac.down, (h3 c8)]
   refine ⟨fS (by kernel_rfl), ?_⟩
   (try simp only [bh.down, simprocAttr, nu.down, (h3 c8)] at aj ⊢); exact aj
  refine lB rfl ?_
  refine ws _ ?_
  exact aM (br _ (.inl (aQ [.bool false])))
 ·obtain ⟨ak, bO, h⟩ := aG h
  obtain ⟨a6, fF, h⟩ := aG h
  refine hc rfl (gN [(0, .slice (a0.map bb)), (3, .aU (eg R)), (24, .bool (!a6))] (fun P aj => ?_) ?_)
  ·simp only [cl.down, simprocAttr, Ac.down, (el c8), bO]
   refine fR (Aq R.dO (a0.length : Int) _ b2) rfl rfl rfl rfl (.inl (by rfl)) ?_
   simp only [cl.down, simprocAttr, Ac.down, (el c8), bO]
   refine rm (Aq R.Part (ak.Body.length : Int) _ fF) rfl rfl rfl rfl (.inl (by rfl)) ?_
   simp only [cl.down, simprocAttr, Ac.down, (el c8), bO]
   refine ⟨fS (by kernel_rfl), ?_⟩
   (try simp only [bh.down, simprocAttr, nu.down, (el c8), bO] at aj ⊢); exact aj
  refine a8 h (fun fU h => ?_) (fun fU h => ?_)
  ·refine ws _ ?_
   exact aM (br _ (.inl (aQ [.bool false])))
  ·refine bk (b3 _ (.inl ?_))
   refine fm bO _ ?_
   obtain ⟨bl, ea, h⟩ := aG h
   rcases dU h with ⟨gQ, h⟩ | ⟨gQ, h⟩
   ·obtain ⟨bq, gx, h⟩ := aG h
    obtain ⟨bL, cF, h⟩ := aG h
    rcases dU h with ⟨lK, h⟩ | ⟨lK, h⟩
    ·obtain ⟨ch, gj, h⟩ := aG h
     refine hc rfl (gN [(4, .bool ch)] (fun P aj => ?_) ?_)
     ·simp only [cl.down, simprocAttr, Ad.down, ea, gQ, cF, dd cF, lK]
      refine rm (IP ak _ gx) rfl rfl rfl rfl (.inl (by rfl)) ?_
      simp only [cl.down, simprocAttr, Ad.down, ea, gQ, cF, dd cF, lK]
      refine rm (P_ R.cD _ gj) rfl rfl rfl rfl (.inl (by rfl)) ?_
      simp only [cl.down, simprocAttr, Ad.down, ea, gQ, cF, dd cF, lK]
      refine ⟨fS (by kernel_rfl), ?_⟩
      (try simp only [bh.down, simprocAttr, aE, bb, bV, eg, bj, dE, cW, ea, gQ, cF, dd cF, lK] at aj ⊢); exact aj
     exact aM (aC _ (.inl (aQ [.bool ch])))
    ·refine hc rfl (gN [(4, .bool false)] (fun P aj => ?_) ?_)
     ·simp only [cl.down, simprocAttr, Ad.down, ea, gQ, cF, dd cF, lK]
      refine rm (IP ak _ gx) rfl rfl rfl rfl (.inl (by rfl)) ?_
      simp only [cl.down, simprocAttr, Ad.down, ea, gQ, cF, dd cF, lK]
      refine ⟨fS (by kernel_rfl), ?_⟩
      (try simp only [bh.down, simprocAttr, aE, bb, bV, eg, bj, dE, cW, ea, gQ, cF, dd cF, lK] at aj ⊢); exact aj
     exact aM (aC _ (.inl (aQ [.bool false])))
   ·refine hc rfl (gN [(4, .bool false)] (fun P aj => ?_) ?_)
    ·simp only [cl.down, simprocAttr, dm, qB, eU, gE, ib, jL, l0, e_, fT, ht, eV, qE, tZ, aE, bb, bV, eg, bj, cW, ea, gQ]
     refine ⟨fS (by kernel_rfl), ?_⟩
     (try simp only [bh.down, simprocAttr, nu.down, ea, gQ] at aj ⊢); exact aj
    exact aM (aC _ (.inl (aQ [.bool false])))
theorem auS (a0 : List aS) (R : dP) (r : Bool) (h : HK a0 R = some r) : bm aA 99 [.slice (a0.map bb), eg R] (.bool r) [] := by
 refine b_ [0, 1] [.tmp 4] Tryz.func99 akU (fun b7 aC bY => ?_)
 refine ws _ ?_
 obtain ⟨ah, aT, h⟩ := aG h
 rcases dU h with ⟨b8, h⟩ | ⟨b8, h⟩
 ·obtain ⟨ak, cI, h⟩ := aG h
  refine cU (bT [(4, .bool ak)] (fun P aj => ?_) ?_)
  ·simp only [aP.down, simprocAttr, qL.down, b8]
   refine eQ (P9 a0 _ aT) rfl rfl rfl rfl (.inl (by rfl)) ?_
   simp only [aP.down, simprocAttr, qL.down, b8]
   refine ix (auR a0 R _ cI) rfl rfl rfl rfl (.inl (by rfl)) ?_
   simp only [aP.down, simprocAttr, qL.down, b8]
   (try simp only [bh.down, simprocAttr, nu.down, b8] at aj ⊢); exact aj
  exact aM (aC _ (.inl (aQ [.bool ak])))
 ·refine hD b8 (P9 a0 _ aT) _ ?_
  exact aM (aC _ (.inl (aQ [.bool false])))
theorem auT (oM : (List ba) → Option (ba × (List cq) × (List ba))) (auU : ∀ (a0 : List ba) (r : ba × (List cq) × (List ba)), oM a0 = some r → bm aA 261 [.slice (a0.map bj)] (.tuple [.aU (.agg [bj r.1, .au 1 (r.2.1.map h4)]), .slice (r.2.2.map bj)]) []) (a0 : List ba) (r : ba × (List cq) × (List ba)) (h : HL oM a0 = some r) : bm aA 261 [.slice (a0.map bj)] (.tuple [.aU (.agg [bj r.1, .au 1 (r.2.1.map h4)]), .slice (r.2.2.map bj)]) [] := by
 refine b_ [0] [.tmp 2, .tmp 3] Tryz.func261 ak6 (fun b7 aC bY => ?_)
 refine ws _ ?_
 obtain ⟨ah, aT, h⟩ := aG h
 refine fm (And.intro aT (show ∀ s, ev aA s 336 [(0, .agg [.int .i64 ah.Kind, .int .i64 ah.Value])] = some (.agg [.agg [.int .i64 ah.Kind, .int .i64 ah.Value], .bo], s) from fun s => by kernel_rfl)) _ ?_
 obtain ⟨ak, cI, h⟩ := aG h
 refine fm (And.intro cI (@hd _ bj 2 (fun _ => rfl))) _ ?_
 refine aX aC (fun gf dJ dW bL => ?_)
 obtain ⟨a6, fF, h⟩ := aG h
 refine hD aT (P8 ah _ fF) _ ?_
 refine b5 dW (fun e0 dw c0 fU dk => ?_)
 have auV : ∀ (n : Nat) (mT : List cq) (oN : List ba) (nZ : Int), sJ oM ah a6 n mT oN nZ = some r → ei aA O4 e0 (U [(4, .aU (.agg [bj ah, .au 1 (mT.map h4)])), (5, .slice (oN.map bj)), (17, .int .i64 a6), (18, .int .i64 nZ)]) := by
  intro m10
  induction m10 with
  | zero => intro mT oN nZ h; cases (show none = some r from h)
  | succ m10 auW =>
   intro mT oN nZ h
   replace h : Dc oM (sJ oM ah a6 m10) ah a6 mT oN nZ = some r := h
   refine eG c0 (fun gi c1 dc dt => ?_)
   refine ws _ ?_
   refine aX dc (fun l_ iD kU iP => ?_)
   refine a8 h (fun fV h => ?_) (fun fV h => ?_)
   ·refine bk (iD _ (.inl ?_))
    refine aX dc (fun kh gG gH gP => ?_)
    refine b5 gH (fun mV iQ ja fJ hK => ?_)
    refine ws _ ?_
    obtain ⟨bl, gj, h⟩ := aG h
    refine eA (auU oN _ gj) _ ?_
    obtain ⟨at4, hM, h⟩ := aG h
    (try simp only [iC.down, Nat.reduceAdd] at hM)
    refine iY (bT [(4, .aU (.agg [bj ah, .au 1 ((mT ++ [(cq.mk bl.1 bl.2.1)]).map h4)])), (5, .slice (bl.2.2.map bj)), (17, .int .i64 a6), (18, .int .i64 nZ)] (fun P aj => ?_) ?_)
    ·simp only [aP.down, simprocAttr, dm, Hm, eV, Hn, Ho, bj, DR, kQ, h4, @wy aA 334 271 1 1 [.da] rfl rfl rfl (by kernel_rfl), tS, h0, hS, h1, dD, ej, List.nil_append, List.cons_append, @gV aA 334 334 271 rfl rfl, gW, gX, all_cons, all_nil, hM, @hd _ h4 1 (fun _ => rfl)]
     (try simp only [bh.down, simprocAttr, bj, DR, kQ, h4, @wy aA 334 271 1 1 [.da] rfl rfl rfl (by kernel_rfl), tS, h0, hS, h1, dD, ej, List.nil_append, List.cons_append, @gV aA 334 334 271 rfl rfl, gW, gX, all_cons, all_nil, hM, @hd _ h4 1 (fun _ => rfl)] at aj ⊢); exact aj
    refine iQ _ (gG _ (.inl ?_))
    refine wr [(4, .aU (.agg [bj ah, .au 1 ((mT ++ [(cq.mk bl.1 bl.2.1)]).map h4)])), (5, .slice (bl.2.2.map bj)), (17, .int .i64 a6), (18, .int .i64 (IntKind.i64.wrap (nZ + 1)))] ?_
    exact c1 _ (.inr ⟨_, bH rfl, auW (mT ++ [(cq.mk bl.1 bl.2.1)]) bl.2.2 (IntKind.i64.wrap (nZ + 1)) h⟩)
   ·refine eE (iP 0 _ (dt 0 _ (fU _ (dJ _ (.inl ?_)))))
    refine ws _ ?_
    exact aM (aC _ (.inl (aQ [.aU (.agg [bj ah, .au 1 (mT.map h4)]), .slice (oN.map bj)])))
 obtain ⟨n, h⟩ := ed h
 exact eF (.inr ⟨_, pF [] rfl (pH (t := 4) (d := .aU (.agg [bj ah, .bo])) (bx := .aU (.agg [bj ah, .au 1 []])) rfl rfl (.aU (.agg (.cons (.refl _) (.cons (.ly _) (.nil))))) (by decide) (lC (t := 5) (d := .slice (ak.map bj)) rfl (lC (t := 17) (d := .int .i64 a6) rfl (lC (t := 18) (d := .int .i64 0) rfl (pG))))), auV n [] ak 0 h⟩)
theorem auX : ∀ (n : Nat) (a0 : List ba) (r : ba × (List cq) × (List ba)), wY n a0 = some r → bm aA 261 [.slice (a0.map bj)] (.tuple [.aU (.agg [bj r.1, .au 1 (r.2.1.map h4)]), .slice (r.2.2.map bj)]) [] := by
 intro n
 induction n with
 | zero => intro a0 r h; cases (show none = some r from h)
 | succ n ih => intro a0 r h; exact auT (wY n) ih a0 r h
theorem auY (a0 : List ba) (r : ba × (List cq) × (List ba)) (h : HM a0 = some r) : bm aA 261 [.slice (a0.map bj)] (.tuple [.aU (.agg [bj r.1, .au 1 (r.2.1.map h4)]), .slice (r.2.2.map bj)]) [] := by
 obtain ⟨n, h⟩ := ed h
 exact auX n a0 r h
theorem auZ (a0 : List ba) (r : ba × (List cq)) (h : Dd a0 = some r) : bm aA 199 [.slice (a0.map bj)] (.aU (.agg [bj r.1, .au 1 (r.2.map h4)])) [] := by
 refine b_ [0] [.tmp 2] Tryz.func199 ak_ (fun b7 aC bY => ?_)
 refine ws _ ?_
 obtain ⟨ah, aT, h⟩ := aG h
 refine eA (auY a0 _ aT) _ ?_
 refine ws _ ?_
 exact aM (aC _ (.inl (aQ [.aU (.agg [bj ah.1, .au 1 (ah.2.1.map h4)])])))
theorem rJ (a0 : Bool) (r : Int) (h : oO a0 = some r) : bm aA 263 [.bool a0] (.int .i64 r) [] := by
 refine b_ [0] [.tmp 2] Tryz.func263 alf (fun b7 aC bY => ?_)
 refine ws _ ?_
 refine aX aC (fun eh b3 br ak => ?_)
 refine ws _ ?_
 refine a8 h (fun b8 h => ?_) (fun b8 h => ?_)
 ·refine ws _ ?_
  exact aM (br _ (.inl (aQ [.int .i64 1])))
 ·refine bk (b3 _ (.inl ?_))
  refine ws _ ?_
  exact aM (aC _ (.inl (aQ [.int .i64 0])))
theorem au0 (a0 : Int) (R : Int) (a2 : Int) (r : Int) (h : De a0 R a2 = some r) : bm aA 264 [.int .i64 a0, .int .i64 R, .int .i64 a2] (.int .i64 r) [] := by
 refine b_ [0, 1, 2] [.tmp 6] Tryz.func264 alJ (fun b7 aC bY => ?_)
 refine ws _ ?_
 refine aX aC (fun eh b3 br ak => ?_)
 refine ws _ ?_
 refine b5 br (fun eB eS ca b8 bl => ?_)
 refine ws _ ?_
 refine a8 h (fun ft h => ?_) (fun ft h => ?_)
 ·refine fm (@rn .i64 64 (by decide)) _ ?_
  exact aM (ca _ (.inl (aQ [.int .i64 (Int.tmod (IntKind.i64.wrap (R + a2)) 64)])))
 ·refine ws _ ?_
  refine a8 h (fun fU h => ?_) (fun fU h => ?_)
  ·refine fm (@rn .i64 64 (by decide)) _ ?_
   exact aM (ca _ (.inl (aQ [.int .i64 (Int.tmod (IntKind.i64.wrap ((IntKind.i64.wrap (R - a2)) + 64)) 64)])))
  ·refine ws _ ?_
   refine a8 h (fun fc h => ?_) (fun fc h => ?_)
   ·refine fm (@rn .i64 64 (by decide)) _ ?_
    exact aM (ca _ (.inl (aQ [.int .i64 (Int.tmod (IntKind.i64.wrap (R * a2)) 64)])))
   ·refine ws _ ?_
    refine a8 h (fun fJ h => ?_) (fun fJ h => ?_)
    ·obtain ⟨ah, eI, h⟩ := aG h
     refine eA (rJ (R == a2) _ eI) _ ?_
     exact aM (ca _ (.inl (aQ [.int .i64 ah])))
    ·refine ws _ ?_
     refine a8 h (fun iR h => ?_) (fun iR h => ?_)
     ·obtain ⟨ak, jO, h⟩ := aG h
      refine eA (rJ (R != a2) _ jO) _ ?_
      exact aM (ca _ (.inl (aQ [.int .i64 ak])))
     ·refine ws _ ?_
      refine a8 h (fun u3 h => ?_) (fun u3 h => ?_)
      ·obtain ⟨a6, mW, h⟩ := aG h
       refine eA (rJ (decide (R < a2)) _ mW) _ ?_
       exact aM (ca _ (.inl (aQ [.int .i64 a6])))
      ·refine ws _ ?_
       refine a8 h (fun pU h => ?_) (fun pU h => ?_)
       ·obtain ⟨bl, rI, h⟩ := aG h
        refine eA (rJ (decide (R ≤ a2)) _ rI) _ ?_
        exact aM (ca _ (.inl (aQ [.int .i64 bl])))
       ·refine ws _ ?_
        refine a8 h (fun u5 h => ?_) (fun u5 h => ?_)
        ·rcases dU h with ⟨kV, h⟩ | ⟨kV, h⟩
         ·obtain ⟨bq, ny, h⟩ := aG h
          refine hD kV (rJ (a2 != 0) _ ny) _ ?_
          exact aM (ca _ (.inl (aQ [.int .i64 bq])))
         ·obtain ⟨bL, xj, h⟩ := aG h
          refine hD kV (rJ false _ xj) _ ?_
          exact aM (ca _ (.inl (aQ [.int .i64 bL])))
        ·refine bk (eS _ (b3 _ (.inl ?_)))
         rcases dU h with ⟨u6, h⟩ | ⟨u6, h⟩
         ·obtain ⟨ch, u1, h⟩ := aG h
          refine hD u6 (rJ true _ u1) _ ?_
          exact aM (aC _ (.inl (aQ [.int .i64 ch])))
         ·obtain ⟨dv, u7, h⟩ := aG h
          refine hD u6 (rJ (a2 != 0) _ u7) _ ?_
          exact aM (aC _ (.inl (aQ [.int .i64 dv])))
theorem au1 (wZ : cq → (List Int) → Option Int) (IY : ∀ (a0 : cq) (R : List Int) (r : Int), wZ a0 R = some r → bm aA 203 [.ref (n0 a0), .slice (R.map aE)] (.int .i64 r) []) (a0 : cq) (R : List Int) (r : Int) (h : HN wZ a0 R = some r) : bm aA 203 [.ref (n0 a0), .slice (R.map aE)] (.int .i64 r) [] := by
 refine b_ [0, 1] [.tmp 4] Tryz.func203 alW (fun b7 aC bY => ?_)
 refine ws _ ?_
 refine aX aC (fun eh b3 br ak => ?_)
 refine ws _ ?_
 refine b5 br (fun eB eS ca b8 bl => ?_)
 refine ws _ ?_
 refine a8 h (fun ft h => ?_) (fun ft h => ?_)
 ·refine ws _ ?_
  exact aM (ca _ (.inl (aQ [.int .i64 a0.term.Value])))
 ·refine ws _ ?_
  refine a8 h (fun fU h => ?_) (fun fU h => ?_)
  ·obtain ⟨ah, kI, h⟩ := aG h
   refine fm kI _ ?_
   exact aM (ca _ (.inl (aQ [.int .i64 ah])))
  ·refine ws _ ?_
   refine a8 h (fun fV h => ?_) (fun fV h => ?_)
   ·obtain ⟨ak, gx, h⟩ := aG h
    obtain ⟨a6, cF, h⟩ := aG h
    obtain ⟨bl, eI, h⟩ := aG h
    refine cU (bT [(4, .int .i64 bl)] (fun P aj => ?_) ?_)
    ·simp only [aP.down, simprocAttr, qO.down, kQ, iA, gx]
     refine eQ (IY ak R _ cF) rfl rfl (by simp only [aP.down, simprocAttr, qO.down, kQ, iA, gx, e3, e4, e5, cC] <;> rfl) rfl (.inl (by rfl)) ?_
     simp only [aP.down, simprocAttr, qO.down, kQ, iA, gx]
     refine eQ (rJ (a6 == 0) _ eI) rfl rfl rfl rfl (.inl (by rfl)) ?_
     simp only [aP.down, simprocAttr, qO.down, kQ, iA, gx]
     (try simp only [bh.down, simprocAttr, aE, bj, uR, kQ, iA, gx] at aj ⊢); exact aj
    exact aM (ca _ (.inl (aQ [.int .i64 bl])))
   ·refine bk (eS _ (b3 _ (.inl ?_)))
    obtain ⟨bq, gy, h⟩ := aG h
    obtain ⟨bL, hM, h⟩ := aG h
    obtain ⟨ch, jO, h⟩ := aG h
    obtain ⟨dv, gk, h⟩ := aG h
    obtain ⟨dk, lJ, h⟩ := aG h
    refine hc rfl (gN [(4, .int .i64 dk)] (fun P aj => ?_) ?_)
    ·simp only [cl.down, simprocAttr, qO.down, kQ, iA, gy, jO]
     refine fR (IY bq R _ hM) rfl rfl (by simp only [cl.down, simprocAttr, qO.down, kQ, iA, gy, jO, e3, e4, e5, cC] <;> rfl) rfl (.inl (by rfl)) ?_
     simp only [cl.down, simprocAttr, qO.down, kQ, iA, gy, jO]
     refine fR (IY ch R _ gk) rfl rfl (by simp only [cl.down, simprocAttr, qO.down, kQ, iA, gy, jO, e3, e4, e5, cC] <;> rfl) rfl (.inl (by rfl)) ?_
     simp only [cl.down, simprocAttr, qO.down, kQ, iA, gy, jO]
     refine fR (au0 a0.term.Value bL dv _ lJ) rfl rfl rfl rfl (.inl (by rfl)) ?_
     simp only [cl.down, simprocAttr, qO.down, kQ, iA, gy, jO]
     refine ⟨fS (by kernel_rfl), ?_⟩
     (try simp only [bh.down, simprocAttr, aE, bj, uR, kQ, iA, gy, jO] at aj ⊢); exact aj
    exact aM (aC _ (.inl (aQ [.int .i64 dk])))
theorem au2 : ∀ (n : Nat) (a0 : cq) (R : List Int) (r : Int), uC n a0 R = some r → bm aA 203 [.ref (n0 a0), .slice (R.map aE)] (.int .i64 r) [] := by
 intro n
 induction n with
 | zero => intro a0 R r h; cases (show none = some r from h)
 | succ n ih => intro a0 R r h; exact au1 (uC n) ih a0 R r h
theorem au3 (a0 : cq) (R : List Int) (r : Int) (h : HO a0 R = some r) : bm aA 203 [.ref (n0 a0), .slice (R.map aE)] (.int .i64 r) [] := by
 obtain ⟨n, h⟩ := ed h
 exact au2 n a0 R r h
theorem Qa (a0 : List ba) (R : List Int) (r : Int) (h : w1 a0 R = some r) : bm aA 204 [.slice (a0.map bj), .slice (R.map aE)] (.int .i64 r) [] := by
 refine b_ [0, 1] [.tmp 4] Tryz.func204 alZ (fun b7 aC bY => ?_)
 refine ws _ ?_
 obtain ⟨ah, aT, h⟩ := aG h
 obtain ⟨ak, b2, h⟩ := aG h
 refine cU (bT [(4, .int .i64 ak)] (fun P aj => ?_) ?_)
 ·simp only [aP.down, simprocAttr, Ae.down, kQ, h4]
  refine eQ (auZ a0 _ aT) rfl rfl rfl rfl (.inl (by rfl)) ?_
  simp only [aP.down, simprocAttr, Ae.down, kQ, h4]
  refine eQ (au3 (cq.mk ah.1 ah.2) R _ b2) rfl rfl (by simp only [aP.down, simprocAttr, Ae.down, kQ, h4, uR, iA, e3, e4, e5, cC, @cx _ h4 iA (fun _ => N5 _)] <;> rfl) rfl (.inr (by rfl)) ?_
  simp only [aP.down, simprocAttr, Ae.down, kQ, h4, uR, iA]
  (try simp only [bh.down, simprocAttr, Ae.down, kQ, h4, uR, iA] at aj ⊢); exact aj
 exact aM (aC _ (.inl (aQ [.int .i64 ak])))
theorem Qb (a0 : List (List ba)) (R : List Int) (r : (List Int)) (h : zE a0 R = some r) : bm aA 133 [.slice (a0.map cW), .slice (R.map aE)] (.au 1 (r.map aE)) [] := by
 refine b_ [0, 1] [.tmp 4] Tryz.func133 al9 (fun b7 aC bY => ?_)
 refine ws _ ?_
 refine ws _ ?_
 refine aX aC (fun l5 hL dQ a6 => ?_)
 refine ws _ ?_
 refine b5 dQ (fun ij er dq c8 bq => ?_)
 have l8 : ∀ (n : Nat) (eb : List Int) (nq : Int), uD a0 R n eb nq = some r → ei aA O5 ij (U [(1, .slice (R.map aE)), (5, .au 1 (eb.map aE)), (8, .slice (a0.map cW)), (9, .int .i64 (a0.length : Int)), (10, .int .i64 nq)]) := by
  intro m8
  induction m8 with
  | zero => intro eb nq h; cases (show none = some r from h)
  | succ m8 l9 =>
   intro eb nq h
   replace h : Df (uD a0 R m8) a0 R eb nq = some r := h
   refine eG dq (fun gf dJ dW bL => ?_)
   refine ws _ ?_
   refine aX dW (fun kj ky j6 dv => ?_)
   refine a8 h (fun fU h => ?_) (fun fU h => ?_)
   ·refine bk (ky _ (.inl ?_))
    refine aX dW (fun gi c1 dc dt => ?_)
    refine b5 dc (fun kT gD hT pR eW => ?_)
    obtain ⟨ah, ea, h⟩ := aG h
    refine fm ea _ ?_
    obtain ⟨ak, gx, h⟩ := aG h
    obtain ⟨atd, cF, h⟩ := aG h
    (try simp only [iC.down, Nat.reduceAdd] at cF)
    refine iY (bT [(1, .slice (R.map aE)), (5, .au 1 ((eb ++ [ak]).map aE)), (8, .slice (a0.map cW)), (9, .int .i64 (a0.length : Int)), (10, .int .i64 nq)] (fun P aj => ?_) ?_)
    ·simp only [aP.down, simprocAttr, dm, gE, aE, bj, cW, (show ∀ s, c9 aA s 22 1 [(0, .int .i64 ak)] = some (.au 1 [.int .i64 ak], s) from fun s => by kernel_rfl), @gV aA 22 22 2 rfl rfl, gW, gX, ej, all_cons, all_nil, cF, @hd _ aE 1 (fun _ => rfl)]
     refine eQ (Qa ah R _ gx) rfl rfl rfl rfl (.inl (by rfl)) ?_
     simp only [aP.down, simprocAttr, dm, gE, aE, bj, cW, (show ∀ s, c9 aA s 22 1 [(0, .int .i64 ak)] = some (.au 1 [.int .i64 ak], s) from fun s => by kernel_rfl), @gV aA 22 22 2 rfl rfl, gW, gX, ej, all_cons, all_nil, cF, @hd _ aE 1 (fun _ => rfl)]
     (try simp only [bh.down, simprocAttr, aE, bj, cW, (show ∀ s, c9 aA s 22 1 [(0, .int .i64 ak)] = some (.au 1 [.int .i64 ak], s) from fun s => by kernel_rfl), @gV aA 22 22 2 rfl rfl, gW, gX, ej, all_cons, all_nil, cF, @hd _ aE 1 (fun _ => rfl)] at aj ⊢); exact aj
    refine gD _ (c1 _ (.inl ?_))
    refine wr [(1, .slice (R.map aE)), (5, .au 1 ((eb ++ [ak]).map aE)), (8, .slice (a0.map cW)), (9, .int .i64 (a0.length : Int)), (10, .int .i64 (IntKind.i64.wrap (nq + 1)))] ?_
    exact dJ _ (.inr ⟨_, bH rfl, l9 (eb ++ [ak]) (IntKind.i64.wrap (nq + 1)) h⟩)
   ·refine eE (dv 0 _ (bL 0 _ (c8 _ (hL _ (.inl ?_)))))
    refine ws _ ?_
    exact aM (aC _ (.inl (aQ [.au 1 (eb.map aE)])))
 obtain ⟨n, h⟩ := ed h
 exact eF (.inr ⟨_, pF [] rfl (lC (t := 1) (d := .slice (R.map aE)) rfl (pH (t := 5) (d := .bo) (bx := .au 1 []) rfl rfl (.ly _) (by decide) (lC (t := 8) (d := .slice (a0.map cW)) rfl (lC (t := 9) (d := .int .i64 (a0.length : Int)) rfl (lC (t := 10) (d := .int .i64 0) rfl (pG)))))), l8 n [] 0 h⟩)
theorem au4 (a0 R : Int) (r : List UInt8) (h : zF a0 R = some r) : bm aA 210 [.int .i64 a0, .int .i64 R] (.str r) [] := asW a0 R r h
theorem IZ (a0 : Int) (r : (List UInt8)) (h : uE a0 = some r) : bm aA 144 [.int .i64 a0] (.str r) [] := by
 refine b_ [0] [.tmp 2] Tryz.func144 amb (fun b7 aC bY => ?_)
 refine ws _ ?_
 obtain ⟨ah, aT, h⟩ := aG h
 refine eA (au4 a0 10 _ aT) _ ?_
 exact aM (aC _ (.inl (aQ [.str ah])))
theorem au5 (a0 : List (List UInt8)) (R : List UInt8) (r : List UInt8) (h : strings_Join a0 R = some r) : bm aA 178 [.slice (a0.map jn), .str R] (.str r) [] := asX a0 R r h
theorem Qc (a0 : List Int) (R : List UInt8) (r : (List UInt8)) (h : w2 a0 R = some r) : bm aA 134 [.slice (a0.map aE), .str R] (.str r) [] := by
 refine b_ [0, 1] [.tmp 4] Tryz.func134 aml (fun b7 aC bY => ?_)
 refine ws _ ?_
 obtain ⟨PW, aT, h⟩ := aG h
 refine cU (bT [(0, .slice (a0.map aE)), (1, .str R), (5, .au 1 ((List.replicate (Int.toNat (a0.length : Int)) ([] : List UInt8)).map jn))] (fun P aj => ?_) ?_)
 ·simp only [aP.down, simprocAttr, dm, eU, gE, Hj, aE, jn, (gm aT).1, (gm aT).2.1, (gm aT).2.2, e7, List.map_replicate, -Int.reduceNatCast']
  (try simp only [bh.down, simprocAttr, aE, jn, (gm aT).1, (gm aT).2.1, (gm aT).2.2, e7, List.map_replicate, -Int.reduceNatCast'] at aj ⊢); exact aj
 refine aX aC (fun eB eS ca bl => ?_)
 refine ws [(1, .str R), (5, .au 1 ((List.replicate (Int.toNat (a0.length : Int)) ([] : List UInt8)).map jn)), (11, .slice (a0.map aE)), (12, .int .i64 (a0.length : Int)), (13, .int .i64 0)] ?_
 refine b5 ca (fun gf dJ dW ft bL => ?_)
 have l8 : ∀ (n : Nat) (eb : List (List UInt8)) (lg : Int), uF a0 R n eb lg = some r → ei aA O6 gf (U [(1, .str R), (5, .au 1 (eb.map jn)), (11, .slice (a0.map aE)), (12, .int .i64 (a0.length : Int)), (13, .int .i64 lg)]) := by
  intro m8
  induction m8 with
  | zero => intro eb lg h; cases (show none = some r from h)
  | succ m8 l9 =>
   intro eb lg h
   replace h : Dg (uF a0 R m8) a0 R eb lg = some r := h
   refine eG dW (fun j5 fo fE ch => ?_)
   refine ws _ ?_
   refine aX fE (fun e0 dw c0 dk => ?_)
   refine a8 h (fun e8 h => ?_) (fun e8 h => ?_)
   ·refine bk (dw _ (.inl ?_))
    refine aX fE (fun kT gD hT eW => ?_)
    refine b5 hT (fun l_ iD kU fc iP => ?_)
    obtain ⟨ah, fB, h⟩ := aG h
    refine fm fB _ ?_
    obtain ⟨ak, cF, h⟩ := aG h
    obtain ⟨a6, eI, h⟩ := aG h
    refine iY (bT [(1, .str R), (5, .au 1 ((List.set eb (Int.toNat lg) ak).map jn)), (11, .slice (a0.map aE)), (12, .int .i64 (a0.length : Int)), (13, .int .i64 lg)] (fun P aj => ?_) ?_)
    ·simp only [aP.down, simprocAttr, eU, Hj, aE, jn, eI, dd eI, dD, eD]
     refine eQ (IZ ah _ cF) rfl rfl rfl rfl (.inl (by rfl)) ?_
     simp only [aP.down, simprocAttr, eU, Hj, aE, jn, eI, dd eI, dD, eD]
     (try simp only [bh.down, simprocAttr, aE, jn, eI, dd eI, dD, eD] at aj ⊢); exact aj
    refine iD _ (gD _ (.inl ?_))
    refine wr [(1, .str R), (5, .au 1 ((List.set eb (Int.toNat lg) ak).map jn)), (11, .slice (a0.map aE)), (12, .int .i64 (a0.length : Int)), (13, .int .i64 (IntKind.i64.wrap (lg + 1)))] ?_
    exact fo _ (.inr ⟨_, bH rfl, l9 (List.set eb (Int.toNat lg) ak) (IntKind.i64.wrap (lg + 1)) h⟩)
   ·refine eE (dk 0 _ (ch 0 _ (ft _ (eS _ (.inl ?_)))))
    obtain ⟨bl, hM, h⟩ := aG h
    refine cU (bT [(4, .str bl)] (fun P aj => ?_) ?_)
    ·simp only [aP.down, simprocAttr, aE, jn]
     refine eQ (au5 eb R _ hM) rfl rfl (by simp only [aP.down, simprocAttr, aE, jn, e3, e4, e5, cC, @cx _ jn jn (fun _ => Xd _)] <;> rfl) rfl (.inr (by rfl)) ?_
     simp only [aP.down, simprocAttr, aE, jn]
     (try simp only [bh.down, simprocAttr, aE, jn] at aj ⊢); exact aj
    exact aM (aC _ (.inl (aQ [.str bl])))
 obtain ⟨n, h⟩ := ed h
 exact eF (.inr ⟨_, bH rfl, l8 n (List.replicate (Int.toNat (a0.length : Int)) ([] : List UInt8)) 0 h⟩)
theorem au6 (a0 : List UInt8) (R : List Int) (r : (List UInt8) × Bool) (h : Dh a0 R = some r) : bm aA 132 [.str a0, .slice (R.map aE)] (.tuple [.str r.1, .bool r.2]) [] := by
 refine b_ [0, 1] [.tmp 4, .tmp 5] Tryz.func132 amx (fun b7 aC bY => ?_)
 refine ws _ ?_
 refine aX aC (fun eh b3 br ak => ?_)
 refine b5 br (fun l5 hL dQ hn a6 => ?_)
 refine ws _ ?_
 refine a8 h (fun c8 h => ?_) (fun c8 h => ?_)
 ·refine ws _ ?_
  exact aM (dQ _ (.inl (aQ [.str ([116, 97, 117] : List UInt8), .bool ((R.length : Int) == 0)])))
 ·obtain ⟨ak, mg, h⟩ := aG h
  rcases dU h with ⟨e8, h⟩ | ⟨e8, h⟩
  ·refine hD (h3 e8) (Eg a0 _ mg) _ ?_
   refine lB rfl ?_
   refine ws _ ?_
   exact aM (dQ _ (.inl (aQ [.str ([] : List UInt8), .bool false])))
  ·rcases dU h with ⟨fc, h⟩ | ⟨fc, h⟩
   ·refine hD (And.intro (el e8) fc) (Eg a0 _ mg) _ ?_
    refine lB rfl ?_
    refine ws _ ?_
    exact aM (dQ _ (.inl (aQ [.str ([] : List UInt8), .bool false])))
   ·obtain ⟨a6, fB, h⟩ := aG h
    refine cU (bT [(0, .str a0), (1, .slice (R.map aE)), (12, .bool (!a6))] (fun P aj => ?_) ?_)
    ·simp only [aP.down, simprocAttr, l3.down, (el e8), fc]
     refine eQ (Eg a0 _ mg) rfl rfl rfl rfl (.inl (by rfl)) ?_
     simp only [aP.down, simprocAttr, l3.down, (el e8), fc]
     refine ix (P_ R _ fB) rfl rfl rfl rfl (.inl (by rfl)) ?_
     simp only [aP.down, simprocAttr, l3.down, (el e8), fc]
     (try simp only [bh.down, simprocAttr, aE, (el e8), fc] at aj ⊢); exact aj
    refine a8 h (fun fJ h => ?_) (fun fJ h => ?_)
    ·refine ws _ ?_
     exact aM (dQ _ (.inl (aQ [.str ([] : List UInt8), .bool false])))
    ·refine ws _ ?_
     refine a8 h (fun jb h => ?_) (fun jb h => ?_)
     ·refine ws _ ?_
      exact aM (dQ _ (.inl (aQ [.str a0, .bool true])))
     ·refine bk (hL _ (b3 _ (.inl ?_)))
      obtain ⟨Qd, jO, h⟩ := aG h
      (try simp only [iC.down, Nat.reduceAdd] at jO)
      obtain ⟨bl, gk, h⟩ := aG h
      obtain ⟨Qd, lJ, h⟩ := aG h
      (try simp only [iC.down, Nat.reduceAdd] at lJ)
      obtain ⟨Qd, kk, h⟩ := aG h
      (try simp only [iC.down, Nat.reduceAdd] at kk)
      refine cU (bT [(4, .str (((a0 ++ ([40] : List UInt8)) ++ bl) ++ ([41] : List UInt8))), (5, .bool true)] (fun P aj => ?_) ?_)
      ·simp only [aP.down, simprocAttr, aE, jO, iZ, i1, lJ, kk]
       refine eQ (Qc R ([44] : List UInt8) _ gk) rfl rfl rfl rfl (.inl (by rfl)) ?_
       simp only [aP.down, simprocAttr, aE, jO, iZ, i1, lJ, kk]
       (try simp only [bh.down, simprocAttr, aE, jO, iZ, i1, lJ, kk] at aj ⊢); exact aj
      exact aM (aC _ (.inl (aQ [.str (((a0 ++ ([40] : List UInt8)) ++ bl) ++ ([41] : List UInt8)), .bool true])))
theorem Qe (a0 : List Int) (r : (List Int)) (h : zG a0 = some r) : bm aA 242 [.slice (a0.map aE)] (.au 1 (r.map aE)) [] := by
 refine b_ [0] [.tmp 2] Tryz.func242 amD (fun b7 aC bY => ?_)
 refine ws _ ?_
 refine aX aC (fun eh b3 br ak => ?_)
 rcases dU h with ⟨b8, h⟩ | ⟨b8, h⟩
 ·refine cU (bT [(0, .slice (a0.map aE)), (4, .eT)] (fun P aj => ?_) ?_)
  ·simp only [aP.down, simprocAttr, l3.down, BO, (ME b8), BP]
   (try simp only [bh.down, simprocAttr, aE, BO, (ME b8), BP] at aj ⊢); exact aj
  obtain ⟨bI, h⟩ := RK h
  refine Vp rfl ?_ ?_
  ·replace h := bI
   refine ws _ ?_
   exact aM (br _ (.inr ⟨[(2, .au 1 [])], pF [] rfl (pH (t := 2) (d := .bo) rfl rfl (.ly _) (by decide) (pG)), aQ [.au 1 []]⟩))
  ·refine bk (b3 _ (.inl ?_))
   obtain ⟨u8, fF, h⟩ := aG h
   (try simp only [iC.down, Nat.reduceAdd] at fF)
   refine cU (bT [(2, .au 1 (a0.map aE))] (fun P aj => ?_) ?_)
   ·simp only [aP.down, simprocAttr, l3.down, (show ∀ s, c9 aA s 22 0 [] = some (.au 1 [], s) from fun s => by kernel_rfl), @gV aA 22 22 2 rfl rfl, gW, gX, ej, all_cons, all_nil, fF, @hd _ aE 1 (fun _ => rfl)]
    (try simp only [bh.down, simprocAttr, aE, (show ∀ s, c9 aA s 22 0 [] = some (.au 1 [], s) from fun s => by kernel_rfl), @gV aA 22 22 2 rfl rfl, gW, gX, ej, all_cons, all_nil, fF, @hd _ aE 1 (fun _ => rfl)] at aj ⊢); exact aj
   exact aM (aC _ (.inl (aQ [.au 1 (a0.map aE)])))
 ·refine cU (bT [(0, .slice (a0.map aE)), (4, .bool false)] (fun P aj => ?_) ?_)
  ·simp only [aP.down, simprocAttr, l3.down, BO, (MF b8), BP]
   (try simp only [bh.down, simprocAttr, aE, BO, (MF b8), BP] at aj ⊢); exact aj
  refine wx rfl ?_
  refine bk (b3 _ (.inl ?_))
  obtain ⟨xl, jg, h⟩ := aG h
  (try simp only [iC.down, Nat.reduceAdd] at jg)
  refine cU (bT [(2, .au 1 (a0.map aE))] (fun P aj => ?_) ?_)
  ·simp only [aP.down, simprocAttr, l3.down, (show ∀ s, c9 aA s 22 0 [] = some (.au 1 [], s) from fun s => by kernel_rfl), @gV aA 22 22 2 rfl rfl, gW, gX, ej, all_cons, all_nil, jg, @hd _ aE 1 (fun _ => rfl)]
   (try simp only [bh.down, simprocAttr, aE, (show ∀ s, c9 aA s 22 0 [] = some (.au 1 [], s) from fun s => by kernel_rfl), @gV aA 22 22 2 rfl rfl, gW, gX, ej, all_cons, all_nil, jg, @hd _ aE 1 (fun _ => rfl)] at aj ⊢); exact aj
  exact aM (aC _ (.inl (aQ [.au 1 (a0.map aE)])))
theorem au7 (a0 : Int) (r : Bool) (h : HP a0 = some r) : bm aA 316 [.int .i64 a0] (.bool r) [] := by
 refine b_ [0] [.tmp 2] Tryz.func316 amG (fun b7 aC bY => ?_)
 refine ws _ ?_
 obtain ⟨ah, aT, h⟩ := aG h
 refine eA (kX a0 (-1000000000000) 1000000000000 _ aT) _ ?_
 exact aM (aC _ (.inl (aQ [.bool (!ah)])))
theorem au8 (a0 : List Int) (r : Int) (h : HQ a0 = some r) : bm aA 217 [.slice (a0.map aE), .fn 316 []] (.int .i64 r) [] := by
 refine b_ [0, 1] [.tmp 4] Tryz.func217 amR (fun b7 aC bY => ?_)
 refine ws _ ?_
 refine aX aC (fun eh b3 br ak => ?_)
 refine ws _ ?_
 refine b5 br (fun eB eS ca b8 bl => ?_)
 have hf : ∀ (n : Nat) (dH : Int), uG a0 n dH = some r → ei aA O7 eB (U [(0, .slice (a0.map aE)), (1, .fn 316 []), (7, .int .i64 (a0.length : Int)), (8, .int .i64 dH)]) := by
  intro m6
  induction m6 with
  | zero => intro dH h; cases (show none = some r from h)
  | succ m6 gR =>
   intro dH h
   replace h : Di (uG a0 m6) a0 dH = some r := h
   refine eG ca (fun ij er dq bq => ?_)
   refine ws _ ?_
   refine aX dq (fun j5 fo fE ch => ?_)
   refine a8 h (fun c5 h => ?_) (fun c5 h => ?_)
   ·refine bk (fo _ (.inl ?_))
    refine aX dq (fun e0 dw c0 dk => ?_)
    refine b5 c0 (fun gi c1 dc e8 dt => ?_)
    refine ws _ ?_
    obtain ⟨ah, ea, h⟩ := aG h
    obtain ⟨ak, fB, h⟩ := aG h
    refine hD ea (au7 ah _ fB) _ ?_
    refine a8 h (fun fJ h => ?_) (fun fJ h => ?_)
    ·refine ws _ ?_
     exact aM (dc _ (.inl (aQ [.int .i64 dH])))
    ·refine bk (c1 _ (dw _ (.inl ?_)))
     refine wr _ ?_
     exact er _ (.inr ⟨_, bH rfl, gR (IntKind.i64.wrap (dH + 1)) h⟩)
   ·refine eE (ch 0 _ (bq 0 _ (b8 _ (b3 _ (.inl ?_)))))
    refine ws _ ?_
    exact aM (aC _ (.inl (aQ [.int .i64 (-1)])))
 obtain ⟨n, h⟩ := ed h
 exact eF (.inr ⟨_, bH rfl, hf n 0 h⟩)
theorem au9 (a0 : List Int) (r : Bool) (h : HR a0 = some r) : bm aA 149 [.slice (a0.map aE), .fn 316 []] (.bool r) [] := by
 refine b_ [0, 1] [.tmp 4] Tryz.func149 amU (fun b7 aC bY => ?_)
 refine ws _ ?_
 obtain ⟨ah, aT, h⟩ := aG h
 refine eA (au8 a0 _ aT) _ ?_
 exact aM (aC _ (.inl (aQ [.bool (decide (0 ≤ ah))])))
theorem au_ (a0 : List Int) (r : Bool) (h : Dj a0 = some r) : bm aA 294 [.slice (a0.map aE)] (.bool r) [] := by
 refine b_ [0] [.tmp 2] Tryz.func294 amX (fun b7 aC bY => ?_)
 refine ws _ ?_
 rcases dU h with ⟨hn, h⟩ | ⟨hn, h⟩
 ·obtain ⟨ah, b2, h⟩ := aG h
  refine cU (bT [(2, .bool (!ah))] (fun P aj => ?_) ?_)
  ·simp only [aP.down, simprocAttr, l3.down, hn]
   refine ix (au9 a0 _ b2) rfl rfl rfl rfl (.inl (by rfl)) ?_
   simp only [aP.down, simprocAttr, l3.down, hn]
   (try simp only [bh.down, simprocAttr, aE, hn] at aj ⊢); exact aj
  exact aM (aC _ (.inl (aQ [.bool (!ah)])))
 ·refine fm hn _ ?_
  exact aM (aC _ (.inl (aQ [.bool false])))
theorem ava (a0 : List Int) (r : (List UInt8)) (h : zH a0 = some r) : bm aA 249 [.slice (a0.map aE)] (.str r) [] := by
 refine b_ [0] [.tmp 2] Tryz.func249 am6 (fun b7 aC bY => ?_)
 refine ws _ ?_
 refine aX aC (fun eh b3 br ak => ?_)
 refine b5 br (fun l5 hL dQ hn a6 => ?_)
 obtain ⟨ah, cI, h⟩ := aG h
 refine eA (au_ a0 _ cI) _ ?_
 refine a8 h (fun ft h => ?_) (fun ft h => ?_)
 ·refine ws _ ?_
  exact aM (dQ _ (.inl (aQ [.str ([] : List UInt8)])))
 ·refine ws _ ?_
  refine a8 h (fun fU h => ?_) (fun fU h => ?_)
  ·refine ws _ ?_
   exact aM (dQ _ (.inl (aQ [.str ([45] : List UInt8)])))
  ·refine bk (hL _ (b3 _ (.inl ?_)))
   obtain ⟨ak, eo, h⟩ := aG h
   refine eA (Qc a0 ([44] : List UInt8) _ eo) _ ?_
   exact aM (aC _ (.inl (aQ [.str ak])))
theorem avb (a0 : dP) (r : (List UInt8)) (h : HS a0 = some r) : bm aA 177 [eg a0] (.str r) [] := by
 refine b_ [0] [.tmp 2] Tryz.func177 am9 (fun b7 aC bY => ?_)
 refine ws _ ?_
 obtain ⟨ah, aT, h⟩ := aG h
 obtain ⟨tw, b2, h⟩ := aG h
 (try simp only [iC.down, Nat.reduceAdd] at b2)
 obtain ⟨ak, cI, h⟩ := aG h
 obtain ⟨tw, bZ, h⟩ := aG h
 (try simp only [iC.down, Nat.reduceAdd] at bZ)
 refine hc rfl (gN [(2, .str ((ah ++ ([58] : List UInt8)) ++ ak))] (fun P aj => ?_) ?_)
 ·simp only [cl.down, simprocAttr, qM.down, b2, iZ, i1, bZ]
  refine fR (IZ a0.Part _ aT) rfl rfl rfl rfl (.inl (by rfl)) ?_
  simp only [cl.down, simprocAttr, qM.down, b2, iZ, i1, bZ]
  refine fR (ava a0.cD _ cI) rfl rfl rfl rfl (.inl (by rfl)) ?_
  simp only [cl.down, simprocAttr, qM.down, b2, iZ, i1, bZ]
  refine ⟨fS (by kernel_rfl), ?_⟩
  (try simp only [bh.down, simprocAttr, aE, eg, b2, iZ, i1, bZ] at aj ⊢); exact aj
 exact aM (aC _ (.inl (aQ [.str ((ah ++ ([58] : List UInt8)) ++ ak)])))
theorem avc (a0 : dP) (r : (List UInt8)) (h : Dk a0 = some r) : bm aA 285 [eg a0] (.str r) [] := by
 refine b_ [0] [.tmp 2] Tryz.func285 anb (fun b7 aC bY => ?_)
 refine ws _ ?_
 obtain ⟨ah, aT, h⟩ := aG h
 obtain ⟨tw, b2, h⟩ := aG h
 (try simp only [iC.down, Nat.reduceAdd] at b2)
 obtain ⟨ak, cI, h⟩ := aG h
 obtain ⟨tw, bZ, h⟩ := aG h
 (try simp only [iC.down, Nat.reduceAdd] at bZ)
 refine hc rfl (gN [(2, .str ((ah ++ ([58] : List UInt8)) ++ ak))] (fun P aj => ?_) ?_)
 ·simp only [cl.down, simprocAttr, qM.down, b2, iZ, i1, bZ]
  refine fR (IZ a0.dO _ aT) rfl rfl rfl rfl (.inl (by rfl)) ?_
  simp only [cl.down, simprocAttr, qM.down, b2, iZ, i1, bZ]
  refine fR (avb a0 _ cI) rfl rfl rfl rfl (.inl (by rfl)) ?_
  simp only [cl.down, simprocAttr, qM.down, b2, iZ, i1, bZ]
  refine ⟨fS (by kernel_rfl), ?_⟩
  (try simp only [bh.down, simprocAttr, aE, eg, b2, iZ, i1, bZ] at aj ⊢); exact aj
 exact aM (aC _ (.inl (aQ [.str ((ah ++ ([58] : List UInt8)) ++ ak)])))
theorem avd (eN : List aS) (eO : List bd) (eH : List (List UInt8 × Bool)) (ie : List UInt8) (j2 : Int) (j3 : Int) (qI : List Int) (r : (List aS) × (List bd) × (List (List UInt8 × Bool))) (h : Dl eN eO eH ie j2 j3 qI = some r) : bm aA 243 [.aU (.agg [.slice (eN.map bb), .au 4 (eO.map cQ), .ct (.mp eH)]), .agg [.str ie, .agg [.int .i64 j2, .int .i64 j3, .au 1 (qI.map aE)]]] (.tuple []) [.aU (.agg [.slice (r.1.map bb), .au 4 (r.2.1.map cQ), .ct (.mp r.2.2)]), .hole] := by
 refine b_ [0, 1] [] Tryz.func243 anj (fun b7 aC bY => ?_)
 refine ws _ ?_
 obtain ⟨xl, aT, h⟩ := aG h
 (try simp only [iC.down, Nat.reduceAdd] at aT)
 obtain ⟨ah, b2, h⟩ := aG h
 obtain ⟨xl, cI, h⟩ := aG h
 (try simp only [iC.down, Nat.reduceAdd] at cI)
 refine hc rfl (gN [(0, .aU (.agg [.slice (eN.map bb), .au 4 (eO.map cQ), .ct (.mp eH)])), (1, .agg [.str ie, .agg [.int .i64 j2, .int .i64 j3, .hole]]), (3, .aU (.agg [.str ie, .agg [.int .i64 j2, .int .i64 j3, .au 1 (qI.map aE)]])), (4, .str ((ie ++ ([32] : List UInt8)) ++ ah))] (fun P aj => ?_) ?_)
 ·simp only [cl.down, simprocAttr, xa.down, aT, iZ, i1, cI]
  refine fR (avc (dP.mk j2 j3 qI) _ b2) rfl rfl (by simp only [cl.down, simprocAttr, xa.down, aT, iZ, i1, cI, e3, e4, e5, cC, @cx _ aE aE (fun _ => gF _)] <;> rfl) rfl (.inr (by rfl)) ?_
  simp only [cl.down, simprocAttr, xa.down, aT, iZ, i1, cI]
  refine ⟨fS (by kernel_rfl), ?_⟩
  (try simp only [bh.down, simprocAttr, lI.down, aT, iZ, i1, cI] at aj ⊢); exact aj
 refine fm (And.intro @VM (And.intro @ML (show r8 aA 197 = true from by kernel_rfl))) [(0, .aU (.agg [.slice (eN.map bb), .au 4 (eO.map cQ), .ct (.mp eH)])), (1, .agg [.str ie, .agg [.int .i64 j2, .int .i64 j3, .hole]]), (3, .aU (.agg [.str ie, .agg [.int .i64 j2, .int .i64 j3, .au 1 (qI.map aE)]])), (4, .str ((ie ++ ([32] : List UInt8)) ++ ah)), (18, .bool (!(kC ((ie ++ ([32] : List UInt8)) ++ ah) eH)))] ?_
 refine a8 h (fun pq h => ?_) (fun pq h => ?_)
 ·refine fm (And.intro @VN (And.intro @ML (show r8 aA 197 = true from by kernel_rfl))) [(0, .aU (.agg [.slice (eN.map bb), .au 4 (eO.map cQ), .ct (.mp (kD ((ie ++ ([32] : List UInt8)) ++ ah) true eH))])), (1, .agg [.str ie, .agg [.int .i64 j2, .int .i64 j3, .hole]]), (3, .aU (.agg [.str ie, .agg [.int .i64 j2, .int .i64 j3, .au 1 (qI.map aE)]]))] ?_
  obtain ⟨xl, jg, h⟩ := aG h
  (try simp only [iC.down, Nat.reduceAdd] at jg)
  refine W0 0 7 [1, 2, 3, 4, 5, 6, 7, 0, 8, 9, 10] rfl rfl [(0, .aU (.agg [.slice (eN.map bb), .au 4 ((eO ++ [(bd.mk ie (dP.mk j2 j3 qI))]).map cQ), .ct (.mp (kD ((ie ++ ([32] : List UInt8)) ++ ah) true eH))])), (1, .agg [.str ie, .agg [.int .i64 j2, .int .i64 j3, .hole]])] (fun P aj => ?_) (fun P aj => ?_) ?_
  ·simp only [cl.down, simprocAttr, H_.down, @wy aA 69 164 1 4 [(.agg [(.str []), (.agg [(.int .i64 0), (.int .i64 0), .bo])])] rfl rfl rfl (by kernel_rfl), tS, h0, hS, h1, dD, ej, List.nil_append, List.cons_append, @gV aA 69 69 164 rfl rfl, gW, gX, all_cons, all_nil, jg, @hd _ cQ 4 (fun _ => rfl)]
   refine ⟨fS (by kernel_rfl), ?_⟩
   (try simp only [bh.down, simprocAttr, lI.down, @wy aA 69 164 1 4 [(.agg [(.str []), (.agg [(.int .i64 0), (.int .i64 0), .bo])])] rfl rfl rfl (by kernel_rfl), tS, h0, hS, h1, dD, ej, List.nil_append, List.cons_append, @gV aA 69 69 164 rfl rfl, gW, gX, all_cons, all_nil, jg, @hd _ cQ 4 (fun _ => rfl)] at aj ⊢); exact aj
  ·simp only [qz, List.map_cons, List.map_nil, List.getD_cons_zero, List.getD_cons_succ, simprocAttr]
   simp only [cl.down, simprocAttr, H_.down, @wy aA 69 164 1 4 [(.agg [(.str []), (.agg [(.int .i64 0), (.int .i64 0), .bo])])] rfl rfl rfl (by kernel_rfl), tS, h0, hS, h1, dD, ej, List.nil_append, List.cons_append, @gV aA 69 69 164 rfl rfl, gW, gX, all_cons, all_nil, jg, @hd _ cQ 4 (fun _ => rfl)]
   refine ⟨fS (by kernel_rfl), ?_⟩
   (try simp only [bh.down, simprocAttr, lI.down, @wy aA 69 164 1 4 [(.agg [(.str []), (.agg [(.int .i64 0), (.int .i64 0), .bo])])] rfl rfl rfl (by kernel_rfl), tS, h0, hS, h1, dD, ej, List.nil_append, List.cons_append, @gV aA 69 69 164 rfl rfl, gW, gX, all_cons, all_nil, jg, @hd _ cQ 4 (fun _ => rfl)] at aj ⊢); exact aj
  exact bY _ (.inl (jw [] rfl (by cases gg h; rfl) (by decide) (jH (lY (by cases gg h; rfl) rfl rfl rfl (ep (jI))))))
 ·exact bk (bY _ (.inl (jw [] rfl (by cases gg h; rfl) (by decide) (jH (lY (by cases gg h; rfl) rfl rfl rfl (ep (jI)))))))
end Go.Proofs.YtgpmnlkgmadglaaGreatDoor
