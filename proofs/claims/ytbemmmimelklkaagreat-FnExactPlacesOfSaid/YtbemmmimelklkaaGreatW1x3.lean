/- Part of a proof that a law returns true for every input. No condition. -/
import Derived.Test.YtbemmmimelklkaaGreatC3
namespace Go.Proofs.YtbemmmimelklkaaGreat
open Go Go.dg Go.fJ
set_option maxRecDepth 100000
set_option linter.unusedSimpArgs false
set_option linter.unusedVariables false
def j6 := PLift.up (And.intro @er (And.intro @qI (And.intro @eW (And.intro @r1 (And.intro @r2 (And.intro @r3 (And.intro @kK (And.intro @zX (And.intro @o4 (And.intro @np (And.intro @n_ (And.intro @pL (And.intro @wM (And.intro @ik (And.intro @o5 (And.intro @r4 (And.intro @r5 (And.intro @r6 (And.intro @j4 (And.intro @lK (And.intro @gW (And.intro @il (And.intro @nq (And.intro @mL (And.intro @wN (And.intro @qJ (And.intro @ll (And.intro @mM (And.intro @gw (And.intro @gh (And.intro @o6 (And.intro @ln (And.intro @b3.eq_1 (And.intro @eN.eq_1 (And.intro @bf.eq_1 (And.intro @bm.eq_1 (And.intro @b4.eq_1 (And.intro @eO.eq_1 (And.intro @bP.eq_1 (And.intro @db.eq_1 (And.intro @fM.eq_1 (And.intro @fL.eq_1 (And.intro @fE.eq_1 (And.intro @fu.eq_1 (And.intro @iD.eq_1 (And.intro @ff.eq_1 (And.intro @eu.eq_1 (And.intro @ef.eq_1 (And.intro @ft.eq_1 (And.intro @bu.eq_1 (And.intro @eZ.eq_1 (And.intro @eR.eq_1 (And.intro @e_.eq_1 (And.intro @mi.eq_1 (And.intro @dp.eq_1 @fg.eq_1)))))))))))))))))))))))))))))))))))))))))))))))))))))))
theorem ws {Q : Exit → au → Prop} {l : List (Nat × I)} {ros : List cI} {k : List Nat} {b : R} (ed : List (Nat × I)) (aE : dj aI b Q (aa ed)) (h : ∀ P : List (Nat × I) → Prop, P ed → cy aI (aa l) ros none (fun _ s => P (iR k s)) := by
 intro P ak
 simp only [aX.down, simprocAttr, j6.down]
 (try simp only [bo.down, simprocAttr, j6.down] at ak ⊢)
 exact ak) : dj aI (.seq (.U ros (some k)) b) Q (aa l) :=
 cY (b1 ed (h) aE)
theorem dO {Q : Exit → au → Prop} {l : List (Nat × I)} {ros : List cI} {k : List Nat} {b : R} {g : FuncId} {ds : List I} {r : I} (ok : aT aI g ds r []) (ed : List (Nat × I)) (aE : dj aI b Q (aa ed)) (h : aT aI g ds r [] → ∀ P : List (Nat × I) → Prop, P ed → cy aI (aa l) ros none (fun _ s => P (iR k s)) := by
 intro sJ P ak
 (try simp only [aX.down, simprocAttr, j6.down])
 refine fs sJ rfl rfl rfl rfl (.inl (by rfl)) ?_
 simp only [aX.down, simprocAttr, j6.down]
 (try simp only [bo.down, simprocAttr, j6.down] at ak ⊢)
 exact ak) : dj aI (.seq (.U ros (some k)) b) Q (aa l) :=
 cY (b1 ed (h ok) aE)
theorem g_ {F : Prop} (bD : F) {Q : Exit → au → Prop} {l : List (Nat × I)} {ros : List cI} {k : List Nat} {b : R} (ed : List (Nat × I)) (aE : dj aI b Q (aa ed)) (h : F → ∀ P : List (Nat × I) → Prop, P ed → cy aI (aa l) ros none (fun _ s => P (iR k s)) := by
 intro bD P ak
 simp only [aX.down, simprocAttr, j6.down, bD]
 (try simp only [bo.down, simprocAttr, j6.down, bD] at ak ⊢)
 exact ak) : dj aI (.seq (.U ros (some k)) b) Q (aa l) :=
 cY (b1 ed (h bD) aE)
theorem iE {F : Prop} (bD : F) {Q : Exit → au → Prop} {l : List (Nat × I)} {ros : List cI} {k : List Nat} {b : R} {g : FuncId} {ds : List I} {r : I} (ok : aT aI g ds r []) (ed : List (Nat × I)) (aE : dj aI b Q (aa ed)) (h : aT aI g ds r [] → F → ∀ P : List (Nat × I) → Prop, P ed → cy aI (aa l) ros none (fun _ s => P (iR k s)) := by
 intro sJ bD P ak
 (try simp only [aX.down, simprocAttr, j6.down, bD])
 refine fs sJ rfl rfl rfl rfl (.inl (by rfl)) ?_
 simp only [aX.down, simprocAttr, j6.down, bD]
 (try simp only [bo.down, simprocAttr, j6.down, bD] at ak ⊢)
 exact ak) : dj aI (.seq (.U ros (some k)) b) Q (aa l) :=
 cY (b1 ed (h ok bD) aE)
theorem wr {Q : Exit → au → Prop} {l : List (Nat × I)} {ros : List cI} {k : List Nat} (ed : List (Nat × I)) (aE : Q .normal (aa ed)) (h : ∀ P : List (Nat × I) → Prop, P ed → cy aI (aa l) ros none (fun _ s => P (iR k s)) := by
 intro P ak
 simp only [aX.down, simprocAttr, j6.down]
 (try simp only [bo.down, simprocAttr, j6.down] at ak ⊢)
 exact ak) : dj aI (.U ros (some k)) Q (aa l) :=
 j3 (b1 ed (h) aE)
theorem ao7 {Q : Exit → au → Prop} {l : List (Nat × I)} {ros : List cI} {k : List Nat} {g : FuncId} {ds : List I} {r : I} (ok : aT aI g ds r []) (ed : List (Nat × I)) (aE : Q .normal (aa ed)) (h : aT aI g ds r [] → ∀ P : List (Nat × I) → Prop, P ed → cy aI (aa l) ros none (fun _ s => P (iR k s)) := by
 intro sJ P ak
 (try simp only [aX.down, simprocAttr, j6.down])
 refine fs sJ rfl rfl rfl rfl (.inl (by rfl)) ?_
 simp only [aX.down, simprocAttr, j6.down]
 (try simp only [bo.down, simprocAttr, j6.down] at ak ⊢)
 exact ak) : dj aI (.U ros (some k)) Q (aa l) :=
 j3 (b1 ed (h ok) aE)
theorem ao8 {F : Prop} (bD : F) {Q : Exit → au → Prop} {l : List (Nat × I)} {ros : List cI} {k : List Nat} (ed : List (Nat × I)) (aE : Q .normal (aa ed)) (h : F → ∀ P : List (Nat × I) → Prop, P ed → cy aI (aa l) ros none (fun _ s => P (iR k s)) := by
 intro bD P ak
 simp only [aX.down, simprocAttr, j6.down, bD]
 (try simp only [bo.down, simprocAttr, j6.down, bD] at ak ⊢)
 exact ak) : dj aI (.U ros (some k)) Q (aa l) :=
 j3 (b1 ed (h bD) aE)
theorem Fx {F : Prop} (bD : F) {Q : Exit → au → Prop} {l : List (Nat × I)} {ros : List cI} {k : List Nat} {g : FuncId} {ds : List I} {r : I} (ok : aT aI g ds r []) (ed : List (Nat × I)) (aE : Q .normal (aa ed)) (h : aT aI g ds r [] → F → ∀ P : List (Nat × I) → Prop, P ed → cy aI (aa l) ros none (fun _ s => P (iR k s)) := by
 intro sJ bD P ak
 (try simp only [aX.down, simprocAttr, j6.down, bD])
 refine fs sJ rfl rfl rfl rfl (.inl (by rfl)) ?_
 simp only [aX.down, simprocAttr, j6.down, bD]
 (try simp only [bo.down, simprocAttr, j6.down, bD] at ak ⊢)
 exact ak) : dj aI (.U ros (some k)) Q (aa l) :=
 j3 (b1 ed (h ok bD) aE)
def gT := PLift.up (And.intro @eW (And.intro @pL (And.intro @mL @bm.eq_1)))
def hS := PLift.up (And.intro @bf.eq_1 (And.intro @b4.eq_1 (And.intro @bP.eq_1 @ef.eq_1)))
def iF := PLift.up (And.intro @er (And.intro @eW (And.intro @np (And.intro @j4 (And.intro @lK (And.intro @gW (And.intro @il (And.intro @gw (And.intro @gh (And.intro @bf.eq_1 (And.intro @b4.eq_1 (And.intro @bP.eq_1 @ef.eq_1))))))))))))
def j7 := PLift.up (And.intro @er (And.intro @eW (And.intro @kK (And.intro @np (And.intro @n_ (And.intro @pL (And.intro @wM (And.intro @ik (And.intro @j4 (And.intro @lK (And.intro @gW (And.intro @il (And.intro @nq (And.intro @mL (And.intro @gw (And.intro @gh (And.intro @b3.eq_1 (And.intro @bm.eq_1 (And.intro @bP.eq_1 (And.intro @bu.eq_1 (And.intro @eZ.eq_1 (And.intro @eR.eq_1 (And.intro @e_.eq_1 @fg.eq_1)))))))))))))))))))))))
def lq := PLift.up (And.intro @b3.eq_1 (And.intro @fM.eq_1 (And.intro @fL.eq_1 (And.intro @fE.eq_1 (And.intro @fu.eq_1 (And.intro @iD.eq_1 (And.intro @ff.eq_1 (And.intro @eu.eq_1 (And.intro @ft.eq_1 (And.intro @bu.eq_1 @dp.eq_1))))))))))
def ml := PLift.up (And.intro @b4.eq_1 (And.intro @bP.eq_1 @ef.eq_1))
def mV := PLift.up (And.intro @er (And.intro @gw (And.intro @gh @bP.eq_1)))
def mW := PLift.up (And.intro @eW (And.intro @mL @bm.eq_1))
def mX := PLift.up (And.intro @bf.eq_1 (And.intro @b4.eq_1 (And.intro @bP.eq_1 (And.intro @db.eq_1 @ef.eq_1))))
def nB := PLift.up (And.intro @er (And.intro @eW (And.intro @gW (And.intro @il (And.intro @gw (And.intro @gh (And.intro @b4.eq_1 (And.intro @bP.eq_1 @ef.eq_1))))))))
def nC := PLift.up (And.intro @b3.eq_1 (And.intro @bm.eq_1 (And.intro @bP.eq_1 (And.intro @fM.eq_1 (And.intro @fL.eq_1 (And.intro @fE.eq_1 (And.intro @fu.eq_1 (And.intro @iD.eq_1 (And.intro @ff.eq_1 (And.intro @eu.eq_1 (And.intro @ft.eq_1 (And.intro @bu.eq_1 (And.intro @eZ.eq_1 (And.intro @eR.eq_1 (And.intro @e_.eq_1 (And.intro @mi.eq_1 (And.intro @dp.eq_1 @fg.eq_1)))))))))))))))))
def og := PLift.up (And.intro @er (And.intro @eW (And.intro @kK (And.intro @np (And.intro @n_ (And.intro @pL (And.intro @wM (And.intro @ik (And.intro @j4 (And.intro @lK (And.intro @gW (And.intro @il (And.intro @nq (And.intro @mL (And.intro @gw (And.intro @gh (And.intro @b3.eq_1 (And.intro @eN.eq_1 (And.intro @bf.eq_1 (And.intro @bm.eq_1 (And.intro @b4.eq_1 (And.intro @eO.eq_1 (And.intro @bP.eq_1 (And.intro @ef.eq_1 @bu.eq_1))))))))))))))))))))))))
def pa := PLift.up (And.intro @er (And.intro @eW (And.intro @j4 (And.intro @lK (And.intro @gW (And.intro @il (And.intro @gw (And.intro @gh (And.intro @bf.eq_1 (And.intro @b4.eq_1 (And.intro @bP.eq_1 @ef.eq_1)))))))))))
def pb := PLift.up (And.intro @er (And.intro @eW (And.intro @np (And.intro @j4 (And.intro @lK (And.intro @gW (And.intro @il (And.intro @gw (And.intro @gh (And.intro @bf.eq_1 (And.intro @b4.eq_1 (And.intro @bP.eq_1 (And.intro @db.eq_1 @ef.eq_1)))))))))))))
def pR := PLift.up (And.intro @b3.eq_1 (And.intro @eN.eq_1 (And.intro @bf.eq_1 (And.intro @bm.eq_1 (And.intro @b4.eq_1 (And.intro @eO.eq_1 (And.intro @bP.eq_1 (And.intro @ef.eq_1 @bu.eq_1))))))))
def qV := PLift.up (And.intro @b3.eq_1 (And.intro @eu.eq_1 @dp.eq_1))
def sK := PLift.up (And.intro @er (And.intro @eW (And.intro @np (And.intro @ik (And.intro @j4 (And.intro @lK (And.intro @gW (And.intro @il (And.intro @nq (And.intro @gw (And.intro @gh (And.intro @b3.eq_1 (And.intro @eN.eq_1 (And.intro @bf.eq_1 (And.intro @b4.eq_1 (And.intro @bP.eq_1 @ef.eq_1))))))))))))))))
def sL := PLift.up (And.intro @er (And.intro @eW (And.intro @j4 (And.intro @gW (And.intro @il (And.intro @gw (And.intro @gh (And.intro @bP.eq_1 (And.intro @e_.eq_1 @fg.eq_1)))))))))
def u3 := PLift.up (And.intro @er (And.intro @eW (And.intro @np (And.intro @j4 (And.intro @lK (And.intro @gW (And.intro @il (And.intro @gw (And.intro @gh (And.intro @bP.eq_1 (And.intro @eR.eq_1 (And.intro @e_.eq_1 @fg.eq_1))))))))))))
def u4 := PLift.up (And.intro @b3.eq_1 (And.intro @bm.eq_1 (And.intro @bP.eq_1 (And.intro @bu.eq_1 (And.intro @eZ.eq_1 (And.intro @eR.eq_1 (And.intro @e_.eq_1 @fg.eq_1)))))))
def u5 := PLift.up (And.intro @er (And.intro @eW (And.intro @kK (And.intro @np (And.intro @n_ (And.intro @pL (And.intro @wM (And.intro @ik (And.intro @j4 (And.intro @lK (And.intro @gW (And.intro @il (And.intro @nq (And.intro @mL (And.intro @gw (And.intro @gh (And.intro @b3.eq_1 (And.intro @bm.eq_1 (And.intro @bP.eq_1 (And.intro @fM.eq_1 (And.intro @fL.eq_1 (And.intro @fE.eq_1 (And.intro @fu.eq_1 (And.intro @iD.eq_1 (And.intro @ff.eq_1 (And.intro @eu.eq_1 (And.intro @ft.eq_1 (And.intro @bu.eq_1 (And.intro @eZ.eq_1 (And.intro @eR.eq_1 (And.intro @e_.eq_1 (And.intro @mi.eq_1 (And.intro @dp.eq_1 @fg.eq_1)))))))))))))))))))))))))))))))))
def x4 := PLift.up (And.intro @er (And.intro @eW (And.intro @gW (And.intro @il (And.intro @gw (And.intro @gh (And.intro @bf.eq_1 (And.intro @b4.eq_1 (And.intro @bP.eq_1 @ef.eq_1)))))))))
def x5 := PLift.up (And.intro @b4.eq_1 (And.intro @bP.eq_1 (And.intro @db.eq_1 @ef.eq_1)))
def B5 := PLift.up (And.intro @er (And.intro @eW (And.intro @j4 (And.intro @gW (And.intro @il (And.intro @gw (And.intro @gh (And.intro @b4.eq_1 (And.intro @bP.eq_1 @ef.eq_1)))))))))
def B6 := PLift.up (And.intro @er (And.intro @qI (And.intro @eW (And.intro @gW (And.intro @il (And.intro @qJ (And.intro @gw (And.intro @gh (And.intro @b4.eq_1 (And.intro @bP.eq_1 (And.intro @db.eq_1 @ef.eq_1)))))))))))
def B7 := PLift.up (And.intro @er (And.intro @eW (And.intro @gW (And.intro @il (And.intro @gw (And.intro @gh (And.intro @bf.eq_1 (And.intro @b4.eq_1 (And.intro @bP.eq_1 (And.intro @db.eq_1 @ef.eq_1))))))))))
def B8 := PLift.up (And.intro @bP.eq_1 (And.intro @e_.eq_1 @fg.eq_1))
def B9 := PLift.up (And.intro @er (And.intro @n_ (And.intro @ik (And.intro @nq (And.intro @b3.eq_1 @eZ.eq_1)))))
def B_ := PLift.up (And.intro @er (And.intro @eW (And.intro @r1 (And.intro @r2 (And.intro @r3 (And.intro @kK (And.intro @zX (And.intro @np (And.intro @n_ (And.intro @pL (And.intro @wM (And.intro @ik (And.intro @o5 (And.intro @r4 (And.intro @r5 (And.intro @r6 (And.intro @j4 (And.intro @lK (And.intro @gW (And.intro @il (And.intro @nq (And.intro @mL (And.intro @ll (And.intro @mM (And.intro @gw (And.intro @gh (And.intro @o6 (And.intro @ln (And.intro @b3.eq_1 (And.intro @bm.eq_1 (And.intro @bP.eq_1 (And.intro @fM.eq_1 (And.intro @fL.eq_1 (And.intro @fE.eq_1 (And.intro @fu.eq_1 (And.intro @iD.eq_1 (And.intro @ff.eq_1 (And.intro @eu.eq_1 (And.intro @ft.eq_1 (And.intro @bu.eq_1 (And.intro @eZ.eq_1 (And.intro @eR.eq_1 (And.intro @e_.eq_1 (And.intro @mi.eq_1 (And.intro @dp.eq_1 @fg.eq_1)))))))))))))))))))))))))))))))))))))))))))))
def Ca := PLift.up (And.intro @er (And.intro @eW (And.intro @r1 (And.intro @r2 (And.intro @r3 (And.intro @kK (And.intro @zX (And.intro @ik (And.intro @o5 (And.intro @r4 (And.intro @r5 (And.intro @r6 (And.intro @ll (And.intro @mM (And.intro @o6 (And.intro @ln (And.intro @b3.eq_1 (And.intro @bm.eq_1 (And.intro @bP.eq_1 (And.intro @fM.eq_1 (And.intro @fL.eq_1 (And.intro @fE.eq_1 (And.intro @fu.eq_1 (And.intro @iD.eq_1 (And.intro @ff.eq_1 (And.intro @eu.eq_1 (And.intro @ft.eq_1 (And.intro @bu.eq_1 (And.intro @eZ.eq_1 (And.intro @eR.eq_1 (And.intro @e_.eq_1 (And.intro @mi.eq_1 (And.intro @dp.eq_1 @fg.eq_1)))))))))))))))))))))))))))))))))
def Fy := PLift.up (And.intro @er (And.intro @qI (And.intro @qJ (And.intro @J3 (And.intro @bf.eq_1 (And.intro @b4.eq_1 (And.intro @bP.eq_1 (And.intro @db.eq_1 @ef.eq_1))))))))
def Fz := PLift.up (And.intro @er (And.intro @qI (And.intro @eW (And.intro @j4 (And.intro @lK (And.intro @gW (And.intro @il (And.intro @qJ (And.intro @gw (And.intro @J3 (And.intro @gh (And.intro @bf.eq_1 (And.intro @b4.eq_1 (And.intro @bP.eq_1 (And.intro @db.eq_1 @ef.eq_1)))))))))))))))
def FA := PLift.up (And.intro @er (And.intro @eW (And.intro @gW (And.intro @il (And.intro @gw (And.intro @gh (And.intro @b4.eq_1 (And.intro @bP.eq_1 (And.intro @db.eq_1 @ef.eq_1)))))))))
def FB := PLift.up (And.intro @b3.eq_1 (And.intro @eN.eq_1 (And.intro @bf.eq_1 (And.intro @b4.eq_1 (And.intro @bP.eq_1 @ef.eq_1)))))
def FC := PLift.up (And.intro @er (And.intro @eW (And.intro @r1 (And.intro @r2 (And.intro @r3 (And.intro @kK (And.intro @zX (And.intro @ik (And.intro @o5 (And.intro @r4 (And.intro @r5 (And.intro @r6 (And.intro @ll (And.intro @mM (And.intro @o6 (And.intro @ln (And.intro @b3.eq_1 (And.intro @eN.eq_1 (And.intro @bf.eq_1 (And.intro @bm.eq_1 (And.intro @b4.eq_1 (And.intro @eO.eq_1 (And.intro @bP.eq_1 (And.intro @fM.eq_1 (And.intro @fL.eq_1 (And.intro @fE.eq_1 (And.intro @fu.eq_1 (And.intro @iD.eq_1 (And.intro @ff.eq_1 (And.intro @eu.eq_1 (And.intro @ef.eq_1 (And.intro @ft.eq_1 @bu.eq_1))))))))))))))))))))))))))))))))
theorem ao9 (J : List gO) (ab : Int) (r : Int) (h : wS J ab = some r) : aT aI 136 [.slice (J.map ff), .int .i64 ab] (.int .i64 r) [] := by
 refine aT.bZ (fx := [0]) b0 [.tmp 4] [(0, .slice (J.map ff)), (1, .int .i64 ab)] Tryz.func136 rfl rfl SZ (Nat.le_of_ble_eq_true rfl) rfl rfl (fun bY ao bW => ?_)
 refine ws _ ?_
 refine ws _ ?_
 refine aN (fun kq gZ dX a0 => ?_)
 refine ws _ ?_
 rcases aQ h with ⟨bJ, h⟩ | ⟨bJ, h⟩
 ·refine aW (congrArg I.bool bJ) ?_
  simp only [bJ, Bool.not_true, Bool.not_false]
  refine ws _ ?_
  exact aK (dX _ (ao _ (.inl (aL [.int .i64 (-1)] rfl (by cases aH h; rfl) (by decide) aM))))
 ·refine aZ (congrArg I.bool bJ) ?_
  simp only [bJ, Bool.not_true, Bool.not_false]
  refine a5 (gZ _ (.inl ?_))
  refine ws _ ?_
  exact aK (ao _ (.inl (aL [.int .i64 (IntKind.i64.wrap (ab - (J.length : Int)))] rfl (by cases aH h; rfl) (by decide) aM)))
theorem ao_ (J : List (List gO)) (ab : Int) (r : Int) (h : zZ J ab = some r) : aT aI 137 [.slice (J.map ft), .int .i64 ab] (.int .i64 r) [] := by
 refine aT.bZ (fx := [0]) b0 [.tmp 4] [(0, .slice (J.map ft)), (1, .int .i64 ab)] Tryz.func137 rfl rfl Td (Nat.le_of_ble_eq_true rfl) rfl rfl (fun bY ao bW => ?_)
 refine ws _ ?_
 refine ws _ ?_
 refine aN (fun kq gZ dX a0 => ?_)
 refine ws _ ?_
 rcases aQ h with ⟨bJ, h⟩ | ⟨bJ, h⟩
 ·refine aW (congrArg I.bool bJ) ?_
  simp only [bJ, Bool.not_true, Bool.not_false]
  refine ws _ ?_
  exact aK (dX _ (ao _ (.inl (aL [.int .i64 (-1)] rfl (by cases aH h; rfl) (by decide) aM))))
 ·refine aZ (congrArg I.bool bJ) ?_
  simp only [bJ, Bool.not_true, Bool.not_false]
  refine a5 (gZ _ (.inl ?_))
  refine aN (fun ho dY eV dk => ?_)
  refine ws _ ?_
  refine bH (fun et cH cd dZ dv => ?_)
  have kr : ∀ (n : Nat) (dn : Int) (df : Int), zY J n dn df = some r → dA aI KE et (aa [(0, .slice (J.map ft)), (1, .int .i64 dn), (5, .int .i64 df)]) := by
   intro gx
   induction gx with
   | zero => intro dn df h; cases (show none = some r from h)
   | succ gx ks =>
    intro dn df h
    replace h : J4 (zY J gx) J dn df = some r := h
    refine dN (fun e4 cj cJ c5 => ?_)
    refine aN (fun i6 fF im eF => ?_)
    refine ws _ ?_
    rcases aQ h with ⟨cU, h⟩ | ⟨cU, h⟩
    ·refine aW (congrArg I.bool cU) ?_
     simp only [cU, Bool.not_true, Bool.not_false]
     refine a5 (fF _ (.inl ?_))
     refine aN (fun iG fv eH hn => ?_)
     refine bH (fun mm hT hy ck jh => ?_)
     obtain ⟨af, eI, h⟩ := aO h
     obtain ⟨an, ga, h⟩ := aO h
     refine iE eI (ao9 af dn _ ga) _ ?_
     refine ws _ ?_
     rcases aQ h with ⟨cR, h⟩ | ⟨cR, h⟩
     ·refine aW (congrArg I.bool cR) ?_
      simp only [cR, Bool.not_true, Bool.not_false]
      refine ws _ ?_
      exact aK (hy _ (eH _ (cJ _ (cd _ (eV _ (ao _ (.inl (aL [.int .i64 (-1)] rfl (by cases aH h; rfl) (by decide) aM))))))))
     ·refine aZ (congrArg I.bool cR) ?_
      simp only [cR, Bool.not_true, Bool.not_false]
      refine a5 (hT _ (fv _ (.inl ?_)))
      refine wr _ ?_
      exact cj _ (.inr ⟨_, bq rfl, ks an (IntKind.i64.wrap (df + 1)) h⟩)
    ·refine aZ (congrArg I.bool cU) ?_
     simp only [cU, Bool.not_true, Bool.not_false]
     refine dL (eF 0 _ (c5 0 _ (dZ _ (dY _ (.inl ?_)))))
     refine ws _ ?_
     exact aK (ao _ (.inl (aL [.int .i64 dn] rfl (by cases aH h; rfl) (by decide) aM)))
  obtain ⟨n, h⟩ := dH h
  exact dM (.inr ⟨_, bq rfl, kr n (IntKind.i64.wrap (ab - (J.length : Int))) 0 h⟩)
theorem apa (J : ic) (ab : Int) (r : Int) (h : wT J ab = some r) : aT aI 160 [fu J, .int .i64 ab] (.int .i64 r) [] := by
 refine aT.bZ (fx := [0]) b0 [.tmp 4] [(0, fu J), (1, .int .i64 ab)] Tryz.func160 rfl rfl To (Nat.le_of_ble_eq_true rfl) rfl rfl (fun bY ao bW => ?_)
 refine ws _ ?_
 refine ws _ ?_
 refine aN (fun kq gZ dX a0 => ?_)
 refine ws _ ?_
 rcases aQ h with ⟨bJ, h⟩ | ⟨bJ, h⟩
 ·refine aW (congrArg I.bool bJ) ?_
  simp only [bJ, Bool.not_true, Bool.not_false]
  refine ws _ ?_
  exact aK (dX _ (ao _ (.inl (aL [.int .i64 (-1)] rfl (by cases aH h; rfl) (by decide) aM))))
 ·refine aZ (congrArg I.bool bJ) ?_
  simp only [bJ, Bool.not_true, Bool.not_false]
  refine a5 (gZ _ (.inl ?_))
  obtain ⟨af, iy, h⟩ := aO h
  refine dO (ao_ J.cr (IntKind.i64.wrap (ab - (J.Name.length : Int))) _ iy) _ ?_
  refine aN (fun et cH cd dv => ?_)
  refine ws _ ?_
  rcases aQ h with ⟨fN, h⟩ | ⟨fN, h⟩
  ·refine aW (congrArg I.bool fN) ?_
   simp only [fN, Bool.not_true, Bool.not_false]
   refine ws _ ?_
   exact aK (cd _ (ao _ (.inl (aL [.int .i64 (-1)] rfl (by cases aH h; rfl) (by decide) aM))))
  ·refine aZ (congrArg I.bool fN) ?_
   simp only [fN, Bool.not_true, Bool.not_false]
   refine a5 (cH _ (.inl ?_))
   refine ws _ ?_
   exact aK (ao _ (.inl (aL [.int .i64 af] rfl (by cases aH h; rfl) (by decide) aM)))
theorem apb (J : List ic) (ab : Int) (r : Int) (h : z1 J ab = some r) : aT aI 121 [.slice (J.map fu), .int .i64 ab] (.int .i64 r) [] := by
 refine aT.bZ (fx := [0]) b0 [.tmp 4] [(0, .slice (J.map fu)), (1, .int .i64 ab)] Tryz.func121 rfl rfl TD (Nat.le_of_ble_eq_true rfl) rfl rfl (fun bY ao bW => ?_)
 refine ws _ ?_
 refine ws _ ?_
 refine aN (fun kq gZ dX a0 => ?_)
 refine ws _ ?_
 rcases aQ h with ⟨bJ, h⟩ | ⟨bJ, h⟩
 ·refine aW (congrArg I.bool bJ) ?_
  simp only [bJ, Bool.not_true, Bool.not_false]
  refine ws _ ?_
  exact aK (dX _ (ao _ (.inl (aL [.int .i64 (-1)] rfl (by cases aH h; rfl) (by decide) aM))))
 ·refine aZ (congrArg I.bool bJ) ?_
  simp only [bJ, Bool.not_true, Bool.not_false]
  refine a5 (gZ _ (.inl ?_))
  refine aN (fun ho dY eV dk => ?_)
  refine ws _ ?_
  refine bH (fun et cH cd dZ dv => ?_)
  have kr : ∀ (n : Nat) (dn : Int) (df : Int), z0 J n dn df = some r → dA aI KF et (aa [(0, .slice (J.map fu)), (1, .int .i64 dn), (5, .int .i64 df)]) := by
   intro gx
   induction gx with
   | zero => intro dn df h; cases (show none = some r from h)
   | succ gx ks =>
    intro dn df h
    replace h : J5 (z0 J gx) J dn df = some r := h
    refine dN (fun e4 cj cJ c5 => ?_)
    refine aN (fun i6 fF im eF => ?_)
    refine ws _ ?_
    rcases aQ h with ⟨cU, h⟩ | ⟨cU, h⟩
    ·refine aW (congrArg I.bool cU) ?_
     simp only [cU, Bool.not_true, Bool.not_false]
     refine a5 (fF _ (.inl ?_))
     refine aN (fun iG fv eH hn => ?_)
     refine bH (fun mm hT hy ck jh => ?_)
     obtain ⟨af, eI, h⟩ := aO h
     obtain ⟨an, ga, h⟩ := aO h
     refine iE eI (apa af dn _ ga) _ ?_
     refine ws _ ?_
     rcases aQ h with ⟨cR, h⟩ | ⟨cR, h⟩
     ·refine aW (congrArg I.bool cR) ?_
      simp only [cR, Bool.not_true, Bool.not_false]
      refine ws _ ?_
      exact aK (hy _ (eH _ (cJ _ (cd _ (eV _ (ao _ (.inl (aL [.int .i64 (-1)] rfl (by cases aH h; rfl) (by decide) aM))))))))
     ·refine aZ (congrArg I.bool cR) ?_
      simp only [cR, Bool.not_true, Bool.not_false]
      refine a5 (hT _ (fv _ (.inl ?_)))
      refine wr _ ?_
      exact cj _ (.inr ⟨_, bq rfl, ks an (IntKind.i64.wrap (df + 1)) h⟩)
    ·refine aZ (congrArg I.bool cU) ?_
     simp only [cU, Bool.not_true, Bool.not_false]
     refine dL (eF 0 _ (c5 0 _ (dZ _ (dY _ (.inl ?_)))))
     refine ws _ ?_
     exact aK (ao _ (.inl (aL [.int .i64 dn] rfl (by cases aH h; rfl) (by decide) aM)))
  obtain ⟨n, h⟩ := dH h
  exact dM (.inr ⟨_, bq rfl, kr n (IntKind.i64.wrap (ab - (J.length : Int))) 0 h⟩)
theorem apc (J : h2) (ab : Int) (r : Int) (h : wU J ab = some r) : aT aI 72 [fL J, .int .i64 ab] (.int .i64 r) [] := by
 refine aT.bZ (fx := [0]) b0 [.tmp 4] [(0, fL J), (1, .int .i64 ab)] Tryz.func72 rfl rfl TO (Nat.le_of_ble_eq_true rfl) rfl rfl (fun bY ao bW => ?_)
 refine ws _ ?_
 refine ws _ ?_
 refine aN (fun kq gZ dX a0 => ?_)
 refine ws _ ?_
 rcases aQ h with ⟨bJ, h⟩ | ⟨bJ, h⟩
 ·refine aW (congrArg I.bool bJ) ?_
  simp only [bJ, Bool.not_true, Bool.not_false]
  refine ws _ ?_
  exact aK (dX _ (ao _ (.inl (aL [.int .i64 (-1)] rfl (by cases aH h; rfl) (by decide) aM))))
 ·refine aZ (congrArg I.bool bJ) ?_
  simp only [bJ, Bool.not_true, Bool.not_false]
  refine a5 (gZ _ (.inl ?_))
  obtain ⟨af, iy, h⟩ := aO h
  refine dO (apb J.Body (IntKind.i64.wrap (ab - (J.Name.length : Int))) _ iy) _ ?_
  refine aN (fun et cH cd dv => ?_)
  refine ws _ ?_
  rcases aQ h with ⟨fN, h⟩ | ⟨fN, h⟩
  ·refine aW (congrArg I.bool fN) ?_
   simp only [fN, Bool.not_true, Bool.not_false]
   refine ws _ ?_
   exact aK (cd _ (ao _ (.inl (aL [.int .i64 (-1)] rfl (by cases aH h; rfl) (by decide) aM))))
  ·refine aZ (congrArg I.bool fN) ?_
   simp only [fN, Bool.not_true, Bool.not_false]
   refine a5 (cH _ (.inl ?_))
   refine ws _ ?_
   exact aK (ao _ (.inl (aL [.int .i64 af] rfl (by cases aH h; rfl) (by decide) aM)))
theorem apd (J : List h2) (ab : Int) (r : Int) (h : wV J ab = some r) : aT aI 33 [.slice (J.map fL), .int .i64 ab] (.int .i64 r) [] := by
 refine aT.bZ (fx := [0]) b0 [.tmp 4] [(0, .slice (J.map fL)), (1, .int .i64 ab)] Tryz.func33 rfl rfl xZ (Nat.le_of_ble_eq_true rfl) rfl rfl (fun bY ao bW => ?_)
 refine ws _ ?_
 refine ws _ ?_
 refine aN (fun kq gZ dX a0 => ?_)
 refine ws _ ?_
 rcases aQ h with ⟨bJ, h⟩ | ⟨bJ, h⟩
 ·refine aW (congrArg I.bool bJ) ?_
  simp only [bJ, Bool.not_true, Bool.not_false]
  refine ws _ ?_
  exact aK (dX _ (ao _ (.inl (aL [.int .i64 (-1)] rfl (by cases aH h; rfl) (by decide) aM))))
 ·refine aZ (congrArg I.bool bJ) ?_
  simp only [bJ, Bool.not_true, Bool.not_false]
  refine a5 (gZ _ (.inl ?_))
  refine aN (fun ho dY eV dk => ?_)
  refine ws _ ?_
  refine bH (fun et cH cd dZ dv => ?_)
  have kr : ∀ (n : Nat) (dn : Int) (df : Int), z2 J n dn df = some r → dA aI KG et (aa [(0, .slice (J.map fL)), (1, .int .i64 dn), (5, .int .i64 df)]) := by
   intro gx
   induction gx with
   | zero => intro dn df h; cases (show none = some r from h)
   | succ gx ks =>
    intro dn df h
    replace h : J6 (z2 J gx) J dn df = some r := h
    refine dN (fun e4 cj cJ c5 => ?_)
    refine aN (fun i6 fF im eF => ?_)
    refine ws _ ?_
    rcases aQ h with ⟨cU, h⟩ | ⟨cU, h⟩
    ·refine aW (congrArg I.bool cU) ?_
     simp only [cU, Bool.not_true, Bool.not_false]
     refine a5 (fF _ (.inl ?_))
     refine aN (fun iG fv eH hn => ?_)
     refine bH (fun mm hT hy ck jh => ?_)
     obtain ⟨af, eI, h⟩ := aO h
     obtain ⟨an, ga, h⟩ := aO h
     refine iE eI (apc af dn _ ga) _ ?_
     refine ws _ ?_
     rcases aQ h with ⟨cR, h⟩ | ⟨cR, h⟩
     ·refine aW (congrArg I.bool cR) ?_
      simp only [cR, Bool.not_true, Bool.not_false]
      refine ws _ ?_
      exact aK (hy _ (eH _ (cJ _ (cd _ (eV _ (ao _ (.inl (aL [.int .i64 (-1)] rfl (by cases aH h; rfl) (by decide) aM))))))))
     ·refine aZ (congrArg I.bool cR) ?_
      simp only [cR, Bool.not_true, Bool.not_false]
      refine a5 (hT _ (fv _ (.inl ?_)))
      refine wr _ ?_
      exact cj _ (.inr ⟨_, bq rfl, ks an (IntKind.i64.wrap (df + 1)) h⟩)
    ·refine aZ (congrArg I.bool cU) ?_
     simp only [cU, Bool.not_true, Bool.not_false]
     refine dL (eF 0 _ (c5 0 _ (dZ _ (dY _ (.inl ?_)))))
     refine ws _ ?_
     exact aK (ao _ (.inl (aL [.int .i64 dn] rfl (by cases aH h; rfl) (by decide) aM)))
  obtain ⟨n, h⟩ := dH h
  exact dM (.inr ⟨_, bq rfl, kr n (IntKind.i64.wrap (ab - (J.length : Int))) 0 h⟩)
theorem ape (J : List Int) (ab : Int) (r : Int) (h : z3 J ab = some r) : aT aI 53 [.slice (J.map b3), .int .i64 ab] (.int .i64 r) [] := by
 refine aT.bZ (fx := [0]) b0 [.tmp 4] [(0, .slice (J.map b3)), (1, .int .i64 ab)] Tryz.func53 rfl rfl x0 (Nat.le_of_ble_eq_true rfl) rfl rfl (fun bY ao bW => ?_)
 refine ws _ ?_
 refine ws _ ?_
 refine aN (fun kq gZ dX a0 => ?_)
 refine ws _ ?_
 rcases aQ h with ⟨bJ, h⟩ | ⟨bJ, h⟩
 ·refine aW (congrArg I.bool bJ) ?_
  simp only [bJ, Bool.not_true, Bool.not_false]
  refine ws _ ?_
  exact aK (dX _ (ao _ (.inl (aL [.int .i64 (-1)] rfl (by cases aH h; rfl) (by decide) aM))))
 ·refine aZ (congrArg I.bool bJ) ?_
  simp only [bJ, Bool.not_true, Bool.not_false]
  refine a5 (gZ _ (.inl ?_))
  refine ws _ ?_
  exact aK (ao _ (.inl (aL [.int .i64 (IntKind.i64.wrap (ab - (J.length : Int)))] rfl (by cases aH h; rfl) (by decide) aM)))
theorem apf (J : ie) (ab : Int) (r : Int) (h : wW J ab = some r) : aT aI 73 [fM J, .int .i64 ab] (.int .i64 r) [] := by
 refine aT.bZ (fx := [0]) b0 [.tmp 4] [(0, fM J), (1, .int .i64 ab)] Tryz.func73 rfl rfl Ue (Nat.le_of_ble_eq_true rfl) rfl rfl (fun bY ao bW => ?_)
 refine ws _ ?_
 obtain ⟨af, a3, h⟩ := aO h
 refine dO (ape J.fk ab _ a3) _ ?_
 refine aN (fun dR eJ b9 bp => ?_)
 refine ws _ ?_
 rcases aQ h with ⟨cK, h⟩ | ⟨cK, h⟩
 ·refine aW (congrArg I.bool cK) ?_
  simp only [cK, Bool.not_true, Bool.not_false]
  refine ws _ ?_
  exact aK (b9 _ (ao _ (.inl (aL [.int .i64 (-1)] rfl (by cases aH h; rfl) (by decide) aM))))
 ·refine aZ (congrArg I.bool cK) ?_
  simp only [cK, Bool.not_true, Bool.not_false]
  refine a5 (eJ _ (.inl ?_))
  refine ws _ ?_
  exact aK (ao _ (.inl (aL [.int .i64 af] rfl (by cases aH h; rfl) (by decide) aM)))
theorem apg (J : List ie) (ab : Int) (r : Int) (h : z5 J ab = some r) : aT aI 34 [.slice (J.map fM), .int .i64 ab] (.int .i64 r) [] := by
 refine aT.bZ (fx := [0]) b0 [.tmp 4] [(0, .slice (J.map fM)), (1, .int .i64 ab)] Tryz.func34 rfl rfl x1 (Nat.le_of_ble_eq_true rfl) rfl rfl (fun bY ao bW => ?_)
 refine ws _ ?_
 refine ws _ ?_
 refine aN (fun kq gZ dX a0 => ?_)
 refine ws _ ?_
 rcases aQ h with ⟨bJ, h⟩ | ⟨bJ, h⟩
 ·refine aW (congrArg I.bool bJ) ?_
  simp only [bJ, Bool.not_true, Bool.not_false]
  refine ws _ ?_
  exact aK (dX _ (ao _ (.inl (aL [.int .i64 (-1)] rfl (by cases aH h; rfl) (by decide) aM))))
 ·refine aZ (congrArg I.bool bJ) ?_
  simp only [bJ, Bool.not_true, Bool.not_false]
  refine a5 (gZ _ (.inl ?_))
  refine aN (fun ho dY eV dk => ?_)
  refine ws _ ?_
  refine bH (fun et cH cd dZ dv => ?_)
  have kr : ∀ (n : Nat) (dn : Int) (df : Int), z4 J n dn df = some r → dA aI KH et (aa [(0, .slice (J.map fM)), (1, .int .i64 dn), (5, .int .i64 df)]) := by
   intro gx
   induction gx with
   | zero => intro dn df h; cases (show none = some r from h)
   | succ gx ks =>
    intro dn df h
    replace h : J7 (z4 J gx) J dn df = some r := h
    refine dN (fun e4 cj cJ c5 => ?_)
    refine aN (fun i6 fF im eF => ?_)
    refine ws _ ?_
    rcases aQ h with ⟨cU, h⟩ | ⟨cU, h⟩
    ·refine aW (congrArg I.bool cU) ?_
     simp only [cU, Bool.not_true, Bool.not_false]
     refine a5 (fF _ (.inl ?_))
     refine aN (fun iG fv eH hn => ?_)
     refine bH (fun mm hT hy ck jh => ?_)
     obtain ⟨af, eI, h⟩ := aO h
     obtain ⟨an, ga, h⟩ := aO h
     refine iE eI (apf af dn _ ga) _ ?_
     refine ws _ ?_
     rcases aQ h with ⟨cR, h⟩ | ⟨cR, h⟩
     ·refine aW (congrArg I.bool cR) ?_
      simp only [cR, Bool.not_true, Bool.not_false]
      refine ws _ ?_
      exact aK (hy _ (eH _ (cJ _ (cd _ (eV _ (ao _ (.inl (aL [.int .i64 (-1)] rfl (by cases aH h; rfl) (by decide) aM))))))))
     ·refine aZ (congrArg I.bool cR) ?_
      simp only [cR, Bool.not_true, Bool.not_false]
      refine a5 (hT _ (fv _ (.inl ?_)))
      refine wr _ ?_
      exact cj _ (.inr ⟨_, bq rfl, ks an (IntKind.i64.wrap (df + 1)) h⟩)
    ·refine aZ (congrArg I.bool cU) ?_
     simp only [cU, Bool.not_true, Bool.not_false]
     refine dL (eF 0 _ (c5 0 _ (dZ _ (dY _ (.inl ?_)))))
     refine ws _ ?_
     exact aK (ao _ (.inl (aL [.int .i64 dn] rfl (by cases aH h; rfl) (by decide) aM)))
  obtain ⟨n, h⟩ := dH h
  exact dM (.inr ⟨_, bq rfl, kr n (IntKind.i64.wrap (ab - (J.length : Int))) 0 h⟩)
theorem aph (J : h3) (ab : Int) (r : Int) (h : wX J ab = some r) : aT aI 74 [fE J, .int .i64 ab] (.int .i64 r) [] := by
 refine aT.bZ (fx := [0]) b0 [.tmp 4] [(0, fE J), (1, .int .i64 ab)] Tryz.func74 rfl rfl UH (Nat.le_of_ble_eq_true rfl) rfl rfl (fun bY ao bW => ?_)
 refine ws _ ?_
 refine ws _ ?_
 refine aN (fun kq gZ dX a0 => ?_)
 refine ws _ ?_
 rcases aQ h with ⟨bJ, h⟩ | ⟨bJ, h⟩
 ·refine aW (congrArg I.bool bJ) ?_
  simp only [bJ, Bool.not_true, Bool.not_false]
  refine ws _ ?_
  exact aK (dX _ (ao _ (.inl (aL [.int .i64 (-1)] rfl (by cases aH h; rfl) (by decide) aM))))
 ·refine aZ (congrArg I.bool bJ) ?_
  simp only [bJ, Bool.not_true, Bool.not_false]
  refine a5 (gZ _ (.inl ?_))
  refine ws _ ?_
  refine aN (fun hz hA gp gi => ?_)
  refine ws _ ?_
  rcases aQ h with ⟨b2, h⟩ | ⟨b2, h⟩
  ·refine aW (congrArg I.bool b2) ?_
   simp only [b2, Bool.not_true, Bool.not_false]
   refine ws _ ?_
   exact aK (gp _ (ao _ (.inl (aL [.int .i64 (-1)] rfl (by cases aH h; rfl) (by decide) aM))))
  ·refine aZ (congrArg I.bool b2) ?_
   simp only [b2, Bool.not_true, Bool.not_false]
   refine a5 (hA _ (.inl ?_))
   refine ws _ ?_
   refine aN (fun lr g0 gj jg => ?_)
   refine ws _ ?_
   rcases aQ h with ⟨ck, h⟩ | ⟨ck, h⟩
   ·refine aW (congrArg I.bool ck) ?_
    simp only [ck, Bool.not_true, Bool.not_false]
    refine ws _ ?_
    exact aK (gj _ (ao _ (.inl (aL [.int .i64 (-1)] rfl (by cases aH h; rfl) (by decide) aM))))
   ·refine aZ (congrArg I.bool ck) ?_
    simp only [ck, Bool.not_true, Bool.not_false]
    refine a5 (g0 _ (.inl ?_))
    refine ws _ ?_
    exact aK (ao _ (.inl (aL [.int .i64 (IntKind.i64.wrap ((IntKind.i64.wrap ((IntKind.i64.wrap (ab - (J.Left.length : Int))) - (J.b_.length : Int))) - (J.Result.length : Int)))] rfl (by cases aH h; rfl) (by decide) aM)))
theorem api (J : List h3) (ab : Int) (r : Int) (h : z7 J ab = some r) : aT aI 35 [.slice (J.map fE), .int .i64 ab] (.int .i64 r) [] := by
 refine aT.bZ (fx := [0]) b0 [.tmp 4] [(0, .slice (J.map fE)), (1, .int .i64 ab)] Tryz.func35 rfl rfl UX (Nat.le_of_ble_eq_true rfl) rfl rfl (fun bY ao bW => ?_)
 refine ws _ ?_
 refine ws _ ?_
 refine aN (fun kq gZ dX a0 => ?_)
 refine ws _ ?_
 rcases aQ h with ⟨bJ, h⟩ | ⟨bJ, h⟩
 ·refine aW (congrArg I.bool bJ) ?_
  simp only [bJ, Bool.not_true, Bool.not_false]
  refine ws _ ?_
  exact aK (dX _ (ao _ (.inl (aL [.int .i64 (-1)] rfl (by cases aH h; rfl) (by decide) aM))))
 ·refine aZ (congrArg I.bool bJ) ?_
  simp only [bJ, Bool.not_true, Bool.not_false]
  refine a5 (gZ _ (.inl ?_))
  refine aN (fun ho dY eV dk => ?_)
  refine ws _ ?_
  refine bH (fun et cH cd dZ dv => ?_)
  have kr : ∀ (n : Nat) (dn : Int) (df : Int), z6 J n dn df = some r → dA aI KI et (aa [(0, .slice (J.map fE)), (1, .int .i64 dn), (5, .int .i64 df)]) := by
   intro gx
   induction gx with
   | zero => intro dn df h; cases (show none = some r from h)
   | succ gx ks =>
    intro dn df h
    replace h : J8 (z6 J gx) J dn df = some r := h
    refine dN (fun e4 cj cJ c5 => ?_)
    refine aN (fun i6 fF im eF => ?_)
    refine ws _ ?_
    rcases aQ h with ⟨cU, h⟩ | ⟨cU, h⟩
    ·refine aW (congrArg I.bool cU) ?_
     simp only [cU, Bool.not_true, Bool.not_false]
     refine a5 (fF _ (.inl ?_))
     refine aN (fun iG fv eH hn => ?_)
     refine bH (fun mm hT hy ck jh => ?_)
     obtain ⟨af, eI, h⟩ := aO h
     obtain ⟨an, ga, h⟩ := aO h
     refine iE eI (aph af dn _ ga) _ ?_
     refine ws _ ?_
     rcases aQ h with ⟨cR, h⟩ | ⟨cR, h⟩
     ·refine aW (congrArg I.bool cR) ?_
      simp only [cR, Bool.not_true, Bool.not_false]
      refine ws _ ?_
      exact aK (hy _ (eH _ (cJ _ (cd _ (eV _ (ao _ (.inl (aL [.int .i64 (-1)] rfl (by cases aH h; rfl) (by decide) aM))))))))
     ·refine aZ (congrArg I.bool cR) ?_
      simp only [cR, Bool.not_true, Bool.not_false]
      refine a5 (hT _ (fv _ (.inl ?_)))
      refine wr _ ?_
      exact cj _ (.inr ⟨_, bq rfl, ks an (IntKind.i64.wrap (df + 1)) h⟩)
    ·refine aZ (congrArg I.bool cU) ?_
     simp only [cU, Bool.not_true, Bool.not_false]
     refine dL (eF 0 _ (c5 0 _ (dZ _ (dY _ (.inl ?_)))))
     refine ws _ ?_
     exact aK (ao _ (.inl (aL [.int .i64 dn] rfl (by cases aH h; rfl) (by decide) aM)))
  obtain ⟨n, h⟩ := dH h
  exact dM (.inr ⟨_, bq rfl, kr n (IntKind.i64.wrap (ab - (J.length : Int))) 0 h⟩)
theorem L1 (J : List (List UInt8)) (ab : Int) (r : Int) (h : wY J ab = some r) : aT aI 36 [.slice (J.map bu), .int .i64 ab] (.int .i64 r) [] := by
 refine aT.bZ (fx := [0]) b0 [.tmp 4] [(0, .slice (J.map bu)), (1, .int .i64 ab)] Tryz.func36 rfl rfl od (Nat.le_of_ble_eq_true rfl) rfl rfl (fun bY ao bW => ?_)
 refine ws _ ?_
 refine ws _ ?_
 refine aN (fun kq gZ dX a0 => ?_)
 refine ws _ ?_
 rcases aQ h with ⟨bJ, h⟩ | ⟨bJ, h⟩
 ·refine aW (congrArg I.bool bJ) ?_
  simp only [bJ, Bool.not_true, Bool.not_false]
  refine ws _ ?_
  exact aK (dX _ (ao _ (.inl (aL [.int .i64 (-1)] rfl (by cases aH h; rfl) (by decide) aM))))
 ·refine aZ (congrArg I.bool bJ) ?_
  simp only [bJ, Bool.not_true, Bool.not_false]
  refine a5 (gZ _ (.inl ?_))
  refine aN (fun ho dY eV dk => ?_)
  refine ws _ ?_
  refine bH (fun et cH cd dZ dv => ?_)
  have kr : ∀ (n : Nat) (dn : Int) (df : Int), z8 J n dn df = some r → dA aI KJ et (aa [(0, .slice (J.map bu)), (1, .int .i64 dn), (5, .int .i64 df)]) := by
   intro gx
   induction gx with
   | zero => intro dn df h; cases (show none = some r from h)
   | succ gx ks =>
    intro dn df h
    replace h : J9 (z8 J gx) J dn df = some r := h
    refine dN (fun e4 cj cJ c5 => ?_)
    refine aN (fun i6 fF im eF => ?_)
    refine ws _ ?_
    rcases aQ h with ⟨cU, h⟩ | ⟨cU, h⟩
    ·refine aW (congrArg I.bool cU) ?_
     simp only [cU, Bool.not_true, Bool.not_false]
     refine a5 (fF _ (.inl ?_))
     refine aN (fun iG fv eH hn => ?_)
     refine bH (fun mm hT hy ck jh => ?_)
     obtain ⟨af, eI, h⟩ := aO h
     refine g_ eI _ ?_
     refine ws _ ?_
     rcases aQ h with ⟨ej, h⟩ | ⟨ej, h⟩
     ·refine aW (congrArg I.bool ej) ?_
      simp only [ej, Bool.not_true, Bool.not_false]
      refine ws _ ?_
      exact aK (hy _ (eH _ (cJ _ (cd _ (eV _ (ao _ (.inl (aL [.int .i64 (-1)] rfl (by cases aH h; rfl) (by decide) aM))))))))
     ·refine aZ (congrArg I.bool ej) ?_
      simp only [ej, Bool.not_true, Bool.not_false]
      refine a5 (hT _ (fv _ (.inl ?_)))
      refine wr _ ?_
      exact cj _ (.inr ⟨_, bq rfl, ks (IntKind.i64.wrap (dn - (af.length : Int))) (IntKind.i64.wrap (df + 1)) h⟩)
    ·refine aZ (congrArg I.bool cU) ?_
     simp only [cU, Bool.not_true, Bool.not_false]
     refine dL (eF 0 _ (c5 0 _ (dZ _ (dY _ (.inl ?_)))))
     refine ws _ ?_
     exact aK (ao _ (.inl (aL [.int .i64 dn] rfl (by cases aH h; rfl) (by decide) aM)))
  obtain ⟨n, h⟩ := dH h
  exact dM (.inr ⟨_, bq rfl, kr n (IntKind.i64.wrap (ab - (J.length : Int))) 0 h⟩)
set_option maxHeartbeats 600000 in
theorem apj (J : km) (ab : Int) (r : Int) (h : wZ J ab = some r) : aT aI 7 [iD J, .int .i64 ab] (.int .i64 r) [] := by
 refine aT.bZ (fx := [0]) b0 [.tmp 4] [(0, iD J), (1, .int .i64 ab)] Tryz.func7 rfl rfl Vw (Nat.le_of_ble_eq_true rfl) rfl rfl (fun bY ao bW => ?_)
 refine ws _ ?_
 obtain ⟨af, a3, h⟩ := aO h
 refine dO (apd J.bQ ab _ a3) _ ?_
 refine aN (fun dR eJ b9 bp => ?_)
 refine ws _ ?_
 rcases aQ h with ⟨cK, h⟩ | ⟨cK, h⟩
 ·refine aW (congrArg I.bool cK) ?_
  simp only [cK, Bool.not_true, Bool.not_false]
  refine ws _ ?_
  exact aK (b9 _ (ao _ (.inl (aL [.int .i64 (-1)] rfl (by cases aH h; rfl) (by decide) aM))))
 ·refine aZ (congrArg I.bool cK) ?_
  simp only [cK, Bool.not_true, Bool.not_false]
  refine a5 (eJ _ (.inl ?_))
  obtain ⟨an, kz, h⟩ := aO h
  refine dO (apg J.cX af _ kz) _ ?_
  refine aN (fun e4 cj cJ c5 => ?_)
  refine ws _ ?_
  rcases aQ h with ⟨cG, h⟩ | ⟨cG, h⟩
  ·refine aW (congrArg I.bool cG) ?_
   simp only [cG, Bool.not_true, Bool.not_false]
   refine ws _ ?_
   exact aK (cJ _ (ao _ (.inl (aL [.int .i64 (-1)] rfl (by cases aH h; rfl) (by decide) aM))))
  ·refine aZ (congrArg I.bool cG) ?_
   simp only [cG, Bool.not_true, Bool.not_false]
   refine a5 (cj _ (.inl ?_))
   obtain ⟨a0, e0, h⟩ := aO h
   refine dO (api J.gX an _ e0) _ ?_
   refine aN (fun oh j8 ju lP => ?_)
   refine ws _ ?_
   rcases aQ h with ⟨ea, h⟩ | ⟨ea, h⟩
   ·refine aW (congrArg I.bool ea) ?_
    simp only [ea, Bool.not_true, Bool.not_false]
    refine ws _ ?_
    exact aK (ju _ (ao _ (.inl (aL [.int .i64 (-1)] rfl (by cases aH h; rfl) (by decide) aM))))
   ·refine aZ (congrArg I.bool ea) ?_
    simp only [ea, Bool.not_true, Bool.not_false]
    refine a5 (j8 _ (.inl ?_))
    obtain ⟨bp, nD, h⟩ := aO h
    refine dO (L1 J.gQ a0 _ nD) _ ?_
    refine aN (fun sM k8 lQ sN => ?_)
    refine ws _ ?_
    rcases aQ h with ⟨ha, h⟩ | ⟨ha, h⟩
    ·refine aW (congrArg I.bool ha) ?_
     simp only [ha, Bool.not_true, Bool.not_false]
     refine ws _ ?_
     exact aK (lQ _ (ao _ (.inl (aL [.int .i64 (-1)] rfl (by cases aH h; rfl) (by decide) aM))))
    ·refine aZ (congrArg I.bool ha) ?_
     simp only [ha, Bool.not_true, Bool.not_false]
     refine a5 (k8 _ (.inl ?_))
     obtain ⟨bs, x6, h⟩ := aO h
     refine dO (L1 J.gR bp _ x6) _ ?_
     refine aN (fun apk FD L2 L3 => ?_)
     refine ws _ ?_
     rcases aQ h with ⟨gF, h⟩ | ⟨gF, h⟩
     ·refine aW (congrArg I.bool gF) ?_
      simp only [gF, Bool.not_true, Bool.not_false]
      refine ws _ ?_
      exact aK (L2 _ (ao _ (.inl (aL [.int .i64 (-1)] rfl (by cases aH h; rfl) (by decide) aM))))
     ·refine aZ (congrArg I.bool gF) ?_
      simp only [gF, Bool.not_true, Bool.not_false]
      refine a5 (FD _ (.inl ?_))
      refine ws _ ?_
      exact aK (ao _ (.inl (aL [.int .i64 bs] rfl (by cases aH h; rfl) (by decide) aM)))
theorem apl (J : gO) (r : bO) (h : w1 J = some r) : aT aI 177 [ff J] (bP r) [] := by
 refine aT.bZ (fx := [0]) b0 [.cell 2 191] [(0, ff J)] Tryz.func177 rfl rfl VC (Nat.le_of_ble_eq_true rfl) rfl rfl (fun bY ao bW => ?_)
 refine ws _ ?_
 refine ws _ ?_
 refine ws _ ?_
 refine ws _ ?_
 refine ws _ ?_
 exact aK (ao _ (.inl (aL [bP (bO.mk J.Kind J.Value)] rfl (by cases aH h; rfl) (by decide) aM)))
theorem apm (J : List gO) (r : (List bO)) (h : w2 J = some r) : aT aI 144 [.slice (J.map ff)] (.aw 2 (r.map bP)) [] := by
 refine aT.bZ (fx := [0]) b0 [.tmp 2] [(0, .slice (J.map ff))] Tryz.func144 rfl rfl VL (Nat.le_of_ble_eq_true rfl) rfl rfl (fun bY ao bW => ?_)
 refine ws _ ?_
 obtain ⟨u6, a3, h⟩ := aO h
 refine cY (b1 [(0, .slice (J.map ff)), (3, .aw 2 ((List.replicate (Int.toNat (J.length : Int)) (bO.mk 0 0)).map bP))] (fun P ak => ?_) ?_)
 ·simp only [aX.down, simprocAttr, er, ll, gw, gh, ln, bP, ff, (e1 a3).1, (e1 a3).2.1, (e1 a3).2.2, eU, List.map_replicate, -Int.reduceNatCast']
  (try simp only [bo.down, simprocAttr, bP, ff, (e1 a3).1, (e1 a3).2.1, (e1 a3).2.2, eU, List.map_replicate, -Int.reduceNatCast'] at ak ⊢); exact ak
 refine aN (fun dR eJ b9 bp => ?_)
 refine ws [(0, .slice (J.map ff)), (3, .aw 2 ((List.replicate (Int.toNat (J.length : Int)) (bO.mk 0 0)).map bP)), (4, .int .i64 0)] ?_
 refine bH (fun fh dB dK cK b7 => ?_)
 have jK : ∀ (n : Nat) (bC : List bO) (bt : Int), z9 J n bC bt = some r → dA aI KK fh (aa [(0, .slice (J.map ff)), (3, .aw 2 (bC.map bP)), (4, .int .i64 bt)]) := by
  intro eM
  induction eM with
  | zero => intro bC bt h; cases (show none = some r from h)
  | succ eM jL =>
   intro bC bt h
   replace h : J_ (z9 J eM) J bC bt = some r := h
   refine dN (fun ho dY eV dk => ?_)
   refine aN (fun hz hA gp gi => ?_)
   refine ws _ ?_
   rcases aQ h with ⟨b2, h⟩ | ⟨b2, h⟩
   ·refine aW (congrArg I.bool b2) ?_
    simp only [b2, Bool.not_true, Bool.not_false]
    refine a5 (hA _ (.inl ?_))
    refine aN (fun i6 fF im eF => ?_)
    refine bH (fun j9 g1 iH cG i5 => ?_)
    obtain ⟨af, e5, h⟩ := aO h
    obtain ⟨an, e0, h⟩ := aO h
    obtain ⟨a0, cN, h⟩ := aO h
    refine j3 (b1 [(0, .slice (J.map ff)), (3, .aw 2 ((List.set bC (Int.toNat bt) an).map bP)), (4, .int .i64 bt)] (fun P ak => ?_) ?_)
    ·simp only [aX.down, simprocAttr, er, ll, gw, gh, ln, bP, ff, e5, cN, c_ cN, ep, ei]
     refine fs (apl af _ e0) rfl rfl rfl rfl (.inl (by rfl)) ?_
     simp only [aX.down, simprocAttr, er, ll, gw, gh, ln, bP, ff, e5, cN, c_ cN, ep, ei]
     (try simp only [bo.down, simprocAttr, bP, ff, e5, cN, c_ cN, ep, ei] at ak ⊢); exact ak
    refine g1 _ (fF _ (.inl ?_))
    refine wr [(0, .slice (J.map ff)), (3, .aw 2 ((List.set bC (Int.toNat bt) an).map bP)), (4, .int .i64 (IntKind.i64.wrap (bt + 1)))] ?_
    exact dY _ (.inr ⟨_, bq rfl, jL (List.set bC (Int.toNat bt) an) (IntKind.i64.wrap (bt + 1)) h⟩)
   ·refine aZ (congrArg I.bool b2) ?_
    simp only [b2, Bool.not_true, Bool.not_false]
    refine dL (gi 0 _ (dk 0 _ (cK _ (eJ _ (.inl ?_)))))
    refine ws _ ?_
    exact aK (ao _ (.inl (aL [.aw 2 (bC.map bP)] rfl (by cases aH h; rfl) (by decide) aM)))
 obtain ⟨n, h⟩ := dH h
 exact dM (.inr ⟨_, bq rfl, jK n (List.replicate (Int.toNat (J.length : Int)) (bO.mk 0 0)) 0 h⟩)
theorem apn (J : List (List gO)) (r : (List (List bO))) (h : Aa J = some r) : aT aI 145 [.slice (J.map ft)] (.aw 1 (r.map fg)) [] := by
 refine aT.bZ (fx := [0]) b0 [.tmp 2] [(0, .slice (J.map ft))] Tryz.func145 rfl rfl VU (Nat.le_of_ble_eq_true rfl) rfl rfl (fun bY ao bW => ?_)
 refine ws _ ?_
 obtain ⟨u6, a3, h⟩ := aO h
 refine cY (b1 [(0, .slice (J.map ft)), (3, .aw 1 (List.replicate (Int.toNat (J.length : Int)) .bg))] (fun P ak => ?_) ?_)
 ·simp only [aX.down, simprocAttr, er, gW, ll, mM, gw, gh, ln, ff, ft, (e1 a3).1, (e1 a3).2.1, (e1 a3).2.2, eU, List.map_replicate, -Int.reduceNatCast']
  (try simp only [bo.down, simprocAttr, ff, ft, (e1 a3).1, (e1 a3).2.1, (e1 a3).2.2, eU, List.map_replicate, -Int.reduceNatCast'] at ak ⊢); exact ak
 refine aN (fun dR eJ b9 bp => ?_)
 refine ws [(0, .slice (J.map ft)), (3, .aw 1 (List.replicate (Int.toNat (J.length : Int)) .bg)), (4, .int .i64 0)] ?_
 refine bH (fun fh dB dK cK b7 => ?_)
 have jK : ∀ (n : Nat) (bC : List (List bO)) (bt : Int), z_ J n bC bt = some r → dA aI KL fh (aa [(0, .slice (J.map ft)), (3, .aw 1 (bC.map fg)), (4, .int .i64 bt)]) := by
  intro eM
  induction eM with
  | zero => intro bC bt h; cases (show none = some r from h)
  | succ eM jL =>
   intro bC bt h
   replace h : Ka (z_ J eM) J bC bt = some r := h
   refine dN (fun ho dY eV dk => ?_)
   refine aN (fun hz hA gp gi => ?_)
   refine ws _ ?_
   rcases aQ h with ⟨b2, h⟩ | ⟨b2, h⟩
   ·refine aW (congrArg I.bool b2) ?_
    simp only [b2, Bool.not_true, Bool.not_false]
    refine a5 (hA _ (.inl ?_))
    refine aN (fun i6 fF im eF => ?_)
    refine bH (fun j9 g1 iH cG i5 => ?_)
    obtain ⟨af, e5, h⟩ := aO h
    obtain ⟨an, e0, h⟩ := aO h
    obtain ⟨a0, cN, h⟩ := aO h
    refine j3 (b1 [(0, .slice (J.map ft)), (3, .aw 1 ((List.set bC (Int.toNat bt) an).map fg)), (4, .int .i64 bt)] (fun P ak => ?_) ?_)
    ·simp only [aX.down, simprocAttr, er, gW, ll, mM, gw, gh, ln, bP, ff, ft, fg, e5, cN, c_ cN, ep, ei]
     refine fs (apm af _ e0) rfl rfl rfl rfl (.inl (by rfl)) ?_
     simp only [aX.down, simprocAttr, er, gW, ll, mM, gw, gh, ln, bP, ff, ft, fg, e5, cN, c_ cN, ep, ei]
     (try simp only [bo.down, simprocAttr, bP, ff, ft, fg, e5, cN, c_ cN, ep, ei] at ak ⊢); exact ak
    refine g1 _ (fF _ (.inl ?_))
    refine wr [(0, .slice (J.map ft)), (3, .aw 1 ((List.set bC (Int.toNat bt) an).map fg)), (4, .int .i64 (IntKind.i64.wrap (bt + 1)))] ?_
    exact dY _ (.inr ⟨_, bq rfl, jL (List.set bC (Int.toNat bt) an) (IntKind.i64.wrap (bt + 1)) h⟩)
   ·refine aZ (congrArg I.bool b2) ?_
    simp only [b2, Bool.not_true, Bool.not_false]
    refine dL (gi 0 _ (dk 0 _ (cK _ (eJ _ (.inl ?_)))))
    refine ws _ ?_
    exact aK (ao _ (.inl (aL [.aw 1 (bC.map fg)] rfl (by cases aH h; rfl) (by decide) aM)))
 obtain ⟨n, h⟩ := dH h
 exact dM (.inr ⟨_, n3 [] rfl (lk (t := 0) (d := .slice (J.map ft)) rfl (n5 (t := 3) (d := .aw 1 (List.replicate (Int.toNat (J.length : Int)) .bg)) (bE := .aw 1 ((List.replicate (Int.toNat (J.length : Int)) []).map fg)) rfl rfl (zH (u := fg) (z := []) (.lG _) _) (by decide) (lk (t := 4) (d := .int .i64 0) rfl (n4)))), jK n (List.replicate (Int.toNat (J.length : Int)) []) 0 h⟩)
theorem apo (J : ic) (r : bx) (h : w3 J = some r) : aT aI 164 [fu J] (e_ r) [] := by
 refine aT.bZ (fx := [0]) b0 [.cell 2 122] [(0, fu J)] Tryz.func164 rfl rfl V2 (Nat.le_of_ble_eq_true rfl) rfl rfl (fun bY ao bW => ?_)
 refine ws _ ?_
 refine ws _ ?_
 refine ws _ ?_
 refine ws _ ?_
 refine ws _ ?_
 obtain ⟨af, cf, h⟩ := aO h
 refine dO (apn J.cr _ cf) _ ?_
 refine ws _ ?_
 exact aK (ao _ (.inl (aL [e_ (bx.mk J.Kind J.Number J.Name af)] rfl (by cases aH h; rfl) (by decide) aM)))
theorem apq (J : List ic) (r : (List bx)) (h : Ac J = some r) : aT aI 126 [.slice (J.map fu)] (.aw 4 (r.map e_)) [] := by
 refine aT.bZ (fx := [0]) b0 [.tmp 2] [(0, .slice (J.map fu))] Tryz.func126 rfl rfl Wa (Nat.le_of_ble_eq_true rfl) rfl rfl (fun bY ao bW => ?_)
 refine ws _ ?_
 obtain ⟨u6, a3, h⟩ := aO h
 refine cY (b1 [(0, .slice (J.map fu)), (3, .aw 4 (List.replicate (Int.toNat (J.length : Int)) (.agg [(.int .i64 0), (.int .i64 0), (.str []), .bg])))] (fun P ak => ?_) ?_)
 ·simp only [aX.down, simprocAttr, er, eW, o5, j4, gW, il, ll, mM, gw, gh, o6, ln, fu, ff, ft, (e1 a3).1, (e1 a3).2.1, (e1 a3).2.2, eU, List.map_replicate, -Int.reduceNatCast']
  (try simp only [bo.down, simprocAttr, fu, ff, ft, (e1 a3).1, (e1 a3).2.1, (e1 a3).2.2, eU, List.map_replicate, -Int.reduceNatCast'] at ak ⊢); exact ak
 refine aN (fun dR eJ b9 bp => ?_)
 refine ws [(0, .slice (J.map fu)), (3, .aw 4 (List.replicate (Int.toNat (J.length : Int)) (.agg [(.int .i64 0), (.int .i64 0), (.str []), .bg]))), (4, .int .i64 0)] ?_
 refine bH (fun fh dB dK cK b7 => ?_)
 have jK : ∀ (n : Nat) (bC : List bx) (bt : Int), Ab J n bC bt = some r → dA aI KM fh (aa [(0, .slice (J.map fu)), (3, .aw 4 (bC.map e_)), (4, .int .i64 bt)]) := by
  intro eM
  induction eM with
  | zero => intro bC bt h; cases (show none = some r from h)
  | succ eM jL =>
   intro bC bt h
   replace h : Kb (Ab J eM) J bC bt = some r := h
   refine dN (fun ho dY eV dk => ?_)
   refine aN (fun hz hA gp gi => ?_)
   refine ws _ ?_
   rcases aQ h with ⟨b2, h⟩ | ⟨b2, h⟩
   ·refine aW (congrArg I.bool b2) ?_
    simp only [b2, Bool.not_true, Bool.not_false]
    refine a5 (hA _ (.inl ?_))
    refine aN (fun i6 fF im eF => ?_)
    refine bH (fun j9 g1 iH cG i5 => ?_)
    obtain ⟨af, e5, h⟩ := aO h
    obtain ⟨an, e0, h⟩ := aO h
    obtain ⟨a0, cN, h⟩ := aO h
    refine j3 (b1 [(0, .slice (J.map fu)), (3, .aw 4 ((List.set bC (Int.toNat bt) an).map e_)), (4, .int .i64 bt)] (fun P ak => ?_) ?_)
    ·simp only [aX.down, simprocAttr, er, eW, o5, j4, gW, il, ll, mM, gw, gh, o6, ln, bP, fu, ff, ft, e_, fg, e5, cN, c_ cN, ep, ei]
     refine fs (apo af _ e0) rfl rfl rfl rfl (.inl (by rfl)) ?_
     simp only [aX.down, simprocAttr, er, eW, o5, j4, gW, il, ll, mM, gw, gh, o6, ln, bP, fu, ff, ft, e_, fg, e5, cN, c_ cN, ep, ei]
     (try simp only [bo.down, simprocAttr, bP, fu, ff, ft, e_, fg, e5, cN, c_ cN, ep, ei] at ak ⊢); exact ak
    refine g1 _ (fF _ (.inl ?_))
    refine wr [(0, .slice (J.map fu)), (3, .aw 4 ((List.set bC (Int.toNat bt) an).map e_)), (4, .int .i64 (IntKind.i64.wrap (bt + 1)))] ?_
    exact dY _ (.inr ⟨_, bq rfl, jL (List.set bC (Int.toNat bt) an) (IntKind.i64.wrap (bt + 1)) h⟩)
   ·refine aZ (congrArg I.bool b2) ?_
    simp only [b2, Bool.not_true, Bool.not_false]
    refine dL (gi 0 _ (dk 0 _ (cK _ (eJ _ (.inl ?_)))))
    refine ws _ ?_
    exact aK (ao _ (.inl (aL [.aw 4 (bC.map e_)] rfl (by cases aH h; rfl) (by decide) aM)))
 obtain ⟨n, h⟩ := dH h
 exact dM (.inr ⟨_, n3 [] rfl (lk (t := 0) (d := .slice (J.map fu)) rfl (n5 (t := 3) (d := .aw 4 (List.replicate (Int.toNat (J.length : Int)) (.agg [(.int .i64 0), (.int .i64 0), (.str []), .bg]))) (bE := .aw 4 ((List.replicate (Int.toNat (J.length : Int)) (bx.mk 0 0 ([] : List UInt8) [])).map e_)) rfl rfl (zH (u := e_) (z := (bx.mk 0 0 ([] : List UInt8) [])) (.agg (.cons (.refl _) (.cons (.refl _) (.cons (.refl _) (.cons (.lG _) (.nil)))))) _) (by decide) (lk (t := 4) (d := .int .i64 0) rfl (n4)))), jK n (List.replicate (Int.toNat (J.length : Int)) (bx.mk 0 0 ([] : List UInt8) [])) 0 h⟩)
theorem apr (J : h2) (r : a9) (h : w4 J = some r) : aT aI 76 [fL J] (eR r) [] := by
 refine aT.bZ (fx := [0]) b0 [.cell 2 119] [(0, fL J)] Tryz.func76 rfl rfl Wh (Nat.le_of_ble_eq_true rfl) rfl rfl (fun bY ao bW => ?_)
 refine ws _ ?_
 refine ws _ ?_
 refine ws _ ?_
 refine ws _ ?_
 obtain ⟨af, cl, h⟩ := aO h
 refine dO (apq J.Body _ cl) _ ?_
 refine ws _ ?_
 exact aK (ao _ (.inl (aL [eR (a9.mk J.Name J.cZ af)] rfl (by cases aH h; rfl) (by decide) aM)))
theorem aps (J : List h2) (r : (List a9)) (h : w5 J = some r) : aT aI 39 [.slice (J.map fL)] (.aw 3 (r.map eR)) [] := by
 refine aT.bZ (fx := [0]) b0 [.tmp 2] [(0, .slice (J.map fL))] Tryz.func39 rfl rfl Wq (Nat.le_of_ble_eq_true rfl) rfl rfl (fun bY ao bW => ?_)
 refine ws _ ?_
 obtain ⟨u6, a3, h⟩ := aO h
 refine cY (b1 [(0, .slice (J.map fL)), (3, .aw 3 (List.replicate (Int.toNat (J.length : Int)) (.agg [(.str []), (.int .i64 0), .bg])))] (fun P ak => ?_) ?_)
 ·simp only [aX.down, simprocAttr, er, eW, r1, np, o5, r4, j4, lK, gW, il, ll, mM, gw, gh, o6, ln, fL, fu, ff, ft, (e1 a3).1, (e1 a3).2.1, (e1 a3).2.2, eU, List.map_replicate, -Int.reduceNatCast']
  (try simp only [bo.down, simprocAttr, fL, fu, ff, ft, (e1 a3).1, (e1 a3).2.1, (e1 a3).2.2, eU, List.map_replicate, -Int.reduceNatCast'] at ak ⊢); exact ak
 refine aN (fun dR eJ b9 bp => ?_)
 refine ws [(0, .slice (J.map fL)), (3, .aw 3 (List.replicate (Int.toNat (J.length : Int)) (.agg [(.str []), (.int .i64 0), .bg]))), (4, .int .i64 0)] ?_
 refine bH (fun fh dB dK cK b7 => ?_)
 have jK : ∀ (n : Nat) (bC : List a9) (bt : Int), Ad J n bC bt = some r → dA aI KN fh (aa [(0, .slice (J.map fL)), (3, .aw 3 (bC.map eR)), (4, .int .i64 bt)]) := by
  intro eM
  induction eM with
  | zero => intro bC bt h; cases (show none = some r from h)
  | succ eM jL =>
   intro bC bt h
   replace h : Kc (Ad J eM) J bC bt = some r := h
   refine dN (fun ho dY eV dk => ?_)
   refine aN (fun hz hA gp gi => ?_)
   refine ws _ ?_
   rcases aQ h with ⟨b2, h⟩ | ⟨b2, h⟩
   ·refine aW (congrArg I.bool b2) ?_
    simp only [b2, Bool.not_true, Bool.not_false]
    refine a5 (hA _ (.inl ?_))
    refine aN (fun i6 fF im eF => ?_)
    refine bH (fun j9 g1 iH cG i5 => ?_)
    obtain ⟨af, e5, h⟩ := aO h
    obtain ⟨an, e0, h⟩ := aO h
    obtain ⟨a0, cN, h⟩ := aO h
    refine j3 (b1 [(0, .slice (J.map fL)), (3, .aw 3 ((List.set bC (Int.toNat bt) an).map eR)), (4, .int .i64 bt)] (fun P ak => ?_) ?_)
    ·simp only [aX.down, simprocAttr, er, eW, r1, np, o5, r4, j4, lK, gW, il, ll, mM, gw, gh, o6, ln, bP, fL, fu, ff, ft, eR, e_, fg, e5, cN, c_ cN, ep, ei]
     refine fs (apr af _ e0) rfl rfl rfl rfl (.inl (by rfl)) ?_
     simp only [aX.down, simprocAttr, er, eW, r1, np, o5, r4, j4, lK, gW, il, ll, mM, gw, gh, o6, ln, bP, fL, fu, ff, ft, eR, e_, fg, e5, cN, c_ cN, ep, ei]
     (try simp only [bo.down, simprocAttr, bP, fL, fu, ff, ft, eR, e_, fg, e5, cN, c_ cN, ep, ei] at ak ⊢); exact ak
    refine g1 _ (fF _ (.inl ?_))
    refine wr [(0, .slice (J.map fL)), (3, .aw 3 ((List.set bC (Int.toNat bt) an).map eR)), (4, .int .i64 (IntKind.i64.wrap (bt + 1)))] ?_
    exact dY _ (.inr ⟨_, bq rfl, jL (List.set bC (Int.toNat bt) an) (IntKind.i64.wrap (bt + 1)) h⟩)
   ·refine aZ (congrArg I.bool b2) ?_
    simp only [b2, Bool.not_true, Bool.not_false]
    refine dL (gi 0 _ (dk 0 _ (cK _ (eJ _ (.inl ?_)))))
    refine ws _ ?_
    exact aK (ao _ (.inl (aL [.aw 3 (bC.map eR)] rfl (by cases aH h; rfl) (by decide) aM)))
 obtain ⟨n, h⟩ := dH h
 exact dM (.inr ⟨_, n3 [] rfl (lk (t := 0) (d := .slice (J.map fL)) rfl (n5 (t := 3) (d := .aw 3 (List.replicate (Int.toNat (J.length : Int)) (.agg [(.str []), (.int .i64 0), .bg]))) (bE := .aw 3 ((List.replicate (Int.toNat (J.length : Int)) (a9.mk ([] : List UInt8) 0 [])).map eR)) rfl rfl (zH (u := eR) (z := (a9.mk ([] : List UInt8) 0 [])) (.agg (.cons (.refl _) (.cons (.refl _) (.cons (.lG _) (.nil))))) _) (by decide) (lk (t := 4) (d := .int .i64 0) rfl (n4)))), jK n (List.replicate (Int.toNat (J.length : Int)) (a9.mk ([] : List UInt8) 0 [])) 0 h⟩)
theorem apt (J : List Int) (r : (List Int)) (h : Af J = some r) : aT aI 59 [.slice (J.map b3)] (.aw 1 (r.map b3)) [] := by
 refine aT.bZ (fx := [0]) b0 [.tmp 2] [(0, .slice (J.map b3))] Tryz.func59 rfl rfl oe (Nat.le_of_ble_eq_true rfl) rfl rfl (fun bY ao bW => ?_)
 refine ws _ ?_
 obtain ⟨apu, a3, h⟩ := aO h
 refine cY (b1 [(0, .slice (J.map b3)), (3, .aw 1 ((List.replicate (Int.toNat (J.length : Int)) 0).map b3))] (fun P ak => ?_) ?_)
 ·simp only [aX.down, simprocAttr, er, ik, b3, (e1 a3).1, (e1 a3).2.1, (e1 a3).2.2, eU, List.map_replicate, -Int.reduceNatCast']
  (try simp only [bo.down, simprocAttr, b3, (e1 a3).1, (e1 a3).2.1, (e1 a3).2.2, eU, List.map_replicate, -Int.reduceNatCast'] at ak ⊢); exact ak
 refine aN (fun dR eJ b9 bp => ?_)
 refine ws [(0, .slice (J.map b3)), (3, .aw 1 ((List.replicate (Int.toNat (J.length : Int)) 0).map b3)), (4, .int .i64 0)] ?_
 refine bH (fun fh dB dK cK b7 => ?_)
 have jK : ∀ (n : Nat) (bC : List Int) (bt : Int), Ae J n bC bt = some r → dA aI KO fh (aa [(0, .slice (J.map b3)), (3, .aw 1 (bC.map b3)), (4, .int .i64 bt)]) := by
  intro eM
  induction eM with
  | zero => intro bC bt h; cases (show none = some r from h)
  | succ eM jL =>
   intro bC bt h
   replace h : Kd (Ae J eM) J bC bt = some r := h
   refine dN (fun ho dY eV dk => ?_)
   refine aN (fun hz hA gp gi => ?_)
   refine ws _ ?_
   rcases aQ h with ⟨b2, h⟩ | ⟨b2, h⟩
   ·refine aW (congrArg I.bool b2) ?_
    simp only [b2, Bool.not_true, Bool.not_false]
    refine a5 (hA _ (.inl ?_))
    refine aN (fun i6 fF im eF => ?_)
    refine bH (fun j9 g1 iH cG i5 => ?_)
    obtain ⟨af, e5, h⟩ := aO h
    obtain ⟨an, e0, h⟩ := aO h
    refine j3 (b1 [(0, .slice (J.map b3)), (3, .aw 1 ((List.set bC (Int.toNat bt) af).map b3)), (4, .int .i64 bt)] (fun P ak => ?_) ?_)
    ·simp only [aX.down, simprocAttr, er, ik, b3, e5, e0, c_ e0, ep, ei]
     (try simp only [bo.down, simprocAttr, b3, e5, e0, c_ e0, ep, ei] at ak ⊢); exact ak
    refine g1 _ (fF _ (.inl ?_))
    refine wr [(0, .slice (J.map b3)), (3, .aw 1 ((List.set bC (Int.toNat bt) af).map b3)), (4, .int .i64 (IntKind.i64.wrap (bt + 1)))] ?_
    exact dY _ (.inr ⟨_, bq rfl, jL (List.set bC (Int.toNat bt) af) (IntKind.i64.wrap (bt + 1)) h⟩)
   ·refine aZ (congrArg I.bool b2) ?_
    simp only [b2, Bool.not_true, Bool.not_false]
    refine dL (gi 0 _ (dk 0 _ (cK _ (eJ _ (.inl ?_)))))
    refine ws _ ?_
    exact aK (ao _ (.inl (aL [.aw 1 (bC.map b3)] rfl (by cases aH h; rfl) (by decide) aM)))
 obtain ⟨n, h⟩ := dH h
 exact dM (.inr ⟨_, bq rfl, jK n (List.replicate (Int.toNat (J.length : Int)) 0) 0 h⟩)
theorem apv (J : ie) (r : c2) (h : w6 J = some r) : aT aI 77 [fM J] (eZ r) [] := by
 refine aT.bZ (fx := [0]) b0 [.cell 2 124] [(0, fM J)] Tryz.func77 rfl rfl WE (Nat.le_of_ble_eq_true rfl) rfl rfl (fun bY ao bW => ?_)
 refine ws _ ?_
 refine ws _ ?_
 refine ws _ ?_
 obtain ⟨af, c6, h⟩ := aO h
 refine dO (apt J.fk _ c6) _ ?_
 refine ws _ ?_
 exact aK (ao _ (.inl (aL [eZ (c2.mk J.gP af)] rfl (by cases aH h; rfl) (by decide) aM)))
theorem apw (J : List ie) (r : (List c2)) (h : Ah J = some r) : aT aI 40 [.slice (J.map fM)] (.aw 2 (r.map eZ)) [] := by
 refine aT.bZ (fx := [0]) b0 [.tmp 2] [(0, .slice (J.map fM))] Tryz.func40 rfl rfl WO (Nat.le_of_ble_eq_true rfl) rfl rfl (fun bY ao bW => ?_)
 refine ws _ ?_
 obtain ⟨u6, a3, h⟩ := aO h
 refine cY (b1 [(0, .slice (J.map fM)), (3, .aw 2 (List.replicate (Int.toNat (J.length : Int)) (.agg [(.int .i64 0), .bg])))] (fun P ak => ?_) ?_)
 ·simp only [aX.down, simprocAttr, er, r2, n_, ik, r5, nq, b3, fM, (e1 a3).1, (e1 a3).2.1, (e1 a3).2.2, eU, List.map_replicate, -Int.reduceNatCast']
  (try simp only [bo.down, simprocAttr, b3, fM, (e1 a3).1, (e1 a3).2.1, (e1 a3).2.2, eU, List.map_replicate, -Int.reduceNatCast'] at ak ⊢); exact ak
 refine aN (fun dR eJ b9 bp => ?_)
 refine ws [(0, .slice (J.map fM)), (3, .aw 2 (List.replicate (Int.toNat (J.length : Int)) (.agg [(.int .i64 0), .bg]))), (4, .int .i64 0)] ?_
 refine bH (fun fh dB dK cK b7 => ?_)
 have jK : ∀ (n : Nat) (bC : List c2) (bt : Int), Ag J n bC bt = some r → dA aI KP fh (aa [(0, .slice (J.map fM)), (3, .aw 2 (bC.map eZ)), (4, .int .i64 bt)]) := by
  intro eM
  induction eM with
  | zero => intro bC bt h; cases (show none = some r from h)
  | succ eM jL =>
   intro bC bt h
   replace h : Ke (Ag J eM) J bC bt = some r := h
   refine dN (fun ho dY eV dk => ?_)
   refine aN (fun hz hA gp gi => ?_)
   refine ws _ ?_
   rcases aQ h with ⟨b2, h⟩ | ⟨b2, h⟩
   ·refine aW (congrArg I.bool b2) ?_
    simp only [b2, Bool.not_true, Bool.not_false]
    refine a5 (hA _ (.inl ?_))
    refine aN (fun i6 fF im eF => ?_)
    refine bH (fun j9 g1 iH cG i5 => ?_)
    obtain ⟨af, e5, h⟩ := aO h
    obtain ⟨an, e0, h⟩ := aO h
    obtain ⟨a0, cN, h⟩ := aO h
    refine j3 (b1 [(0, .slice (J.map fM)), (3, .aw 2 ((List.set bC (Int.toNat bt) an).map eZ)), (4, .int .i64 bt)] (fun P ak => ?_) ?_)
    ·simp only [aX.down, simprocAttr, er, r2, n_, ik, r5, nq, b3, fM, eZ, e5, cN, c_ cN, ep, ei]
     refine fs (apv af _ e0) rfl rfl rfl rfl (.inl (by rfl)) ?_
     simp only [aX.down, simprocAttr, er, r2, n_, ik, r5, nq, b3, fM, eZ, e5, cN, c_ cN, ep, ei]
     (try simp only [bo.down, simprocAttr, b3, fM, eZ, e5, cN, c_ cN, ep, ei] at ak ⊢); exact ak
    refine g1 _ (fF _ (.inl ?_))
    refine wr [(0, .slice (J.map fM)), (3, .aw 2 ((List.set bC (Int.toNat bt) an).map eZ)), (4, .int .i64 (IntKind.i64.wrap (bt + 1)))] ?_
    exact dY _ (.inr ⟨_, bq rfl, jL (List.set bC (Int.toNat bt) an) (IntKind.i64.wrap (bt + 1)) h⟩)
   ·refine aZ (congrArg I.bool b2) ?_
    simp only [b2, Bool.not_true, Bool.not_false]
    refine dL (gi 0 _ (dk 0 _ (cK _ (eJ _ (.inl ?_)))))
    refine ws _ ?_
    exact aK (ao _ (.inl (aL [.aw 2 (bC.map eZ)] rfl (by cases aH h; rfl) (by decide) aM)))
 obtain ⟨n, h⟩ := dH h
 exact dM (.inr ⟨_, n3 [] rfl (lk (t := 0) (d := .slice (J.map fM)) rfl (n5 (t := 3) (d := .aw 2 (List.replicate (Int.toNat (J.length : Int)) (.agg [(.int .i64 0), .bg]))) (bE := .aw 2 ((List.replicate (Int.toNat (J.length : Int)) (c2.mk 0 [])).map eZ)) rfl rfl (zH (u := eZ) (z := (c2.mk 0 [])) (.agg (.cons (.refl _) (.cons (.lG _) (.nil)))) _) (by decide) (lk (t := 4) (d := .int .i64 0) rfl (n4)))), jK n (List.replicate (Int.toNat (J.length : Int)) (c2.mk 0 [])) 0 h⟩)
theorem apx (J : h3) (r : bR) (h : w7 J = some r) : aT aI 78 [fE J] (bm r) [] := by
 refine aT.bZ (fx := [0]) b0 [.cell 2 126] [(0, fE J)] Tryz.func78 rfl rfl WW (Nat.le_of_ble_eq_true rfl) rfl rfl (fun bY ao bW => ?_)
 refine ws _ ?_
 refine ws _ ?_
 refine ws _ ?_
 refine ws _ ?_
 refine ws _ ?_
 refine ws _ ?_
 exact aK (ao _ (.inl (aL [bm (bR.mk J.Left J.b_ J.Result)] rfl (by cases aH h; rfl) (by decide) aM)))
theorem apy (J : List h3) (r : (List bR)) (h : Aj J = some r) : aT aI 41 [.slice (J.map fE)] (.aw 3 (r.map bm)) [] := by
 refine aT.bZ (fx := [0]) b0 [.tmp 2] [(0, .slice (J.map fE))] Tryz.func41 rfl rfl W5 (Nat.le_of_ble_eq_true rfl) rfl rfl (fun bY ao bW => ?_)
 refine ws _ ?_
 obtain ⟨u6, a3, h⟩ := aO h
 refine cY (b1 [(0, .slice (J.map fE)), (3, .aw 3 ((List.replicate (Int.toNat (J.length : Int)) (bR.mk ([] : List UInt8) ([] : List UInt8) ([] : List UInt8))).map bm))] (fun P ak => ?_) ?_)
 ·simp only [aX.down, simprocAttr, eW, r3, pL, r6, mL, bm, fE, (e1 a3).1, (e1 a3).2.1, (e1 a3).2.2, eU, List.map_replicate, -Int.reduceNatCast']
  (try simp only [bo.down, simprocAttr, bm, fE, (e1 a3).1, (e1 a3).2.1, (e1 a3).2.2, eU, List.map_replicate, -Int.reduceNatCast'] at ak ⊢); exact ak
 refine aN (fun dR eJ b9 bp => ?_)
 refine ws [(0, .slice (J.map fE)), (3, .aw 3 ((List.replicate (Int.toNat (J.length : Int)) (bR.mk ([] : List UInt8) ([] : List UInt8) ([] : List UInt8))).map bm)), (4, .int .i64 0)] ?_
 refine bH (fun fh dB dK cK b7 => ?_)
 have jK : ∀ (n : Nat) (bC : List bR) (bt : Int), Ai J n bC bt = some r → dA aI KQ fh (aa [(0, .slice (J.map fE)), (3, .aw 3 (bC.map bm)), (4, .int .i64 bt)]) := by
  intro eM
  induction eM with
  | zero => intro bC bt h; cases (show none = some r from h)
  | succ eM jL =>
   intro bC bt h
   replace h : Kf (Ai J eM) J bC bt = some r := h
   refine dN (fun ho dY eV dk => ?_)
   refine aN (fun hz hA gp gi => ?_)
   refine ws _ ?_
   rcases aQ h with ⟨b2, h⟩ | ⟨b2, h⟩
   ·refine aW (congrArg I.bool b2) ?_
    simp only [b2, Bool.not_true, Bool.not_false]
    refine a5 (hA _ (.inl ?_))
    refine aN (fun i6 fF im eF => ?_)
    refine bH (fun j9 g1 iH cG i5 => ?_)
    obtain ⟨af, e5, h⟩ := aO h
    obtain ⟨an, e0, h⟩ := aO h
    obtain ⟨a0, cN, h⟩ := aO h
    refine j3 (b1 [(0, .slice (J.map fE)), (3, .aw 3 ((List.set bC (Int.toNat bt) an).map bm)), (4, .int .i64 bt)] (fun P ak => ?_) ?_)
    ·simp only [aX.down, simprocAttr, eW, r3, pL, r6, mL, bm, fE, e5, cN, c_ cN, ep, ei]
     refine fs (apx af _ e0) rfl rfl rfl rfl (.inl (by rfl)) ?_
     simp only [aX.down, simprocAttr, eW, r3, pL, r6, mL, bm, fE, e5, cN, c_ cN, ep, ei]
     (try simp only [bo.down, simprocAttr, bm, fE, e5, cN, c_ cN, ep, ei] at ak ⊢); exact ak
    refine g1 _ (fF _ (.inl ?_))
    refine wr [(0, .slice (J.map fE)), (3, .aw 3 ((List.set bC (Int.toNat bt) an).map bm)), (4, .int .i64 (IntKind.i64.wrap (bt + 1)))] ?_
    exact dY _ (.inr ⟨_, bq rfl, jL (List.set bC (Int.toNat bt) an) (IntKind.i64.wrap (bt + 1)) h⟩)
   ·refine aZ (congrArg I.bool b2) ?_
    simp only [b2, Bool.not_true, Bool.not_false]
    refine dL (gi 0 _ (dk 0 _ (cK _ (eJ _ (.inl ?_)))))
    refine ws _ ?_
    exact aK (ao _ (.inl (aL [.aw 3 (bC.map bm)] rfl (by cases aH h; rfl) (by decide) aM)))
 obtain ⟨n, h⟩ := dH h
 exact dM (.inr ⟨_, bq rfl, jK n (List.replicate (Int.toNat (J.length : Int)) (bR.mk ([] : List UInt8) ([] : List UInt8) ([] : List UInt8))) 0 h⟩)
theorem L4 (J : List (List UInt8)) (r : (List (List UInt8))) (h : w8 J = some r) : aT aI 42 [.slice (J.map bu)] (.aw 1 (r.map bu)) [] := by
 refine aT.bZ (fx := [0]) b0 [.tmp 2] [(0, .slice (J.map bu))] Tryz.func42 rfl rfl Xd (Nat.le_of_ble_eq_true rfl) rfl rfl (fun bY ao bW => ?_)
 refine ws _ ?_
 obtain ⟨apu, a3, h⟩ := aO h
 refine cY (b1 [(0, .slice (J.map bu)), (3, .aw 1 ((List.replicate (Int.toNat (J.length : Int)) ([] : List UInt8)).map bu))] (fun P ak => ?_) ?_)
 ·simp only [aX.down, simprocAttr, eW, kK, bu, (e1 a3).1, (e1 a3).2.1, (e1 a3).2.2, eU, List.map_replicate, -Int.reduceNatCast']
  (try simp only [bo.down, simprocAttr, bu, (e1 a3).1, (e1 a3).2.1, (e1 a3).2.2, eU, List.map_replicate, -Int.reduceNatCast'] at ak ⊢); exact ak
 refine aN (fun dR eJ b9 bp => ?_)
 refine ws [(0, .slice (J.map bu)), (3, .aw 1 ((List.replicate (Int.toNat (J.length : Int)) ([] : List UInt8)).map bu)), (4, .int .i64 0)] ?_
 refine bH (fun fh dB dK cK b7 => ?_)
 have jK : ∀ (n : Nat) (bC : List (List UInt8)) (bt : Int), Ak J n bC bt = some r → dA aI KR fh (aa [(0, .slice (J.map bu)), (3, .aw 1 (bC.map bu)), (4, .int .i64 bt)]) := by
  intro eM
  induction eM with
  | zero => intro bC bt h; cases (show none = some r from h)
  | succ eM jL =>
   intro bC bt h
   replace h : Kg (Ak J eM) J bC bt = some r := h
   refine dN (fun ho dY eV dk => ?_)
   refine aN (fun hz hA gp gi => ?_)
   refine ws _ ?_
   rcases aQ h with ⟨b2, h⟩ | ⟨b2, h⟩
   ·refine aW (congrArg I.bool b2) ?_
    simp only [b2, Bool.not_true, Bool.not_false]
    refine a5 (hA _ (.inl ?_))
    refine aN (fun i6 fF im eF => ?_)
    refine bH (fun j9 g1 iH cG i5 => ?_)
    obtain ⟨af, e5, h⟩ := aO h
    obtain ⟨an, e0, h⟩ := aO h
    refine j3 (b1 [(0, .slice (J.map bu)), (3, .aw 1 ((List.set bC (Int.toNat bt) af).map bu)), (4, .int .i64 bt)] (fun P ak => ?_) ?_)
    ·simp only [aX.down, simprocAttr, eW, kK, bu, e5, e0, c_ e0, ep, ei]
     (try simp only [bo.down, simprocAttr, bu, e5, e0, c_ e0, ep, ei] at ak ⊢); exact ak
    refine g1 _ (fF _ (.inl ?_))
    refine wr [(0, .slice (J.map bu)), (3, .aw 1 ((List.set bC (Int.toNat bt) af).map bu)), (4, .int .i64 (IntKind.i64.wrap (bt + 1)))] ?_
    exact dY _ (.inr ⟨_, bq rfl, jL (List.set bC (Int.toNat bt) af) (IntKind.i64.wrap (bt + 1)) h⟩)
   ·refine aZ (congrArg I.bool b2) ?_
    simp only [b2, Bool.not_true, Bool.not_false]
    refine dL (gi 0 _ (dk 0 _ (cK _ (eJ _ (.inl ?_)))))
    refine ws _ ?_
    exact aK (ao _ (.inl (aL [.aw 1 (bC.map bu)] rfl (by cases aH h; rfl) (by decide) aM)))
 obtain ⟨n, h⟩ := dH h
 exact dM (.inr ⟨_, bq rfl, jK n (List.replicate (Int.toNat (J.length : Int)) ([] : List UInt8)) 0 h⟩)
theorem Cb (J : km) (r : dU) (h : qK J = some r) : aT aI 9 [iD J] (mi r) [] := by
 refine aT.bZ (fx := [0]) b0 [.cell 2 36] [(0, iD J)] Tryz.func9 rfl rfl mj (Nat.le_of_ble_eq_true rfl) rfl rfl (fun bY ao bW => ?_)
 refine ws _ ?_
 refine ws _ ?_
 obtain ⟨af, c1, h⟩ := aO h
 refine dO (aps J.bQ _ c1) _ ?_
 obtain ⟨an, cl, h⟩ := aO h
 refine dO (apw J.cX _ cl) _ ?_
 obtain ⟨a0, iy, h⟩ := aO h
 refine dO (apy J.gX _ iy) _ ?_
 obtain ⟨bp, nM, h⟩ := aO h
 refine dO (L4 J.gQ _ nM) _ ?_
 obtain ⟨bs, dJ, h⟩ := aO h
 refine dO (L4 J.gR _ dJ) _ ?_
 refine ws _ ?_
 exact aK (ao _ (.inl (aL [mi (dU.mk af an a0 bp bs)] rfl (by cases aH h; rfl) (by decide) aM)))
theorem FE (J : UInt8) (r : Bool) (h : w9 J = some r) : aT aI 196 [.int .u8 (J.toNat : Int)] (.bool r) [] := by
 refine aT.bZ (fx := [0]) b0 [.tmp 2] [(0, .int .u8 (J.toNat : Int))] Tryz.func196 rfl rfl Xn (Nat.le_of_ble_eq_true rfl) rfl rfl (fun bY ao bW => ?_)
 refine ws _ ?_
 refine cY (b1 [(2, .bool ((decide (97 ≤ (J.toNat : Int))) && (decide ((J.toNat : Int) ≤ 122))))] (fun P ak => ?_) ?_)
 ·rcases Bool.eq_false_or_eq_true (decide (97 ≤ (J.toNat : Int))) with eY | eY
  ·simp only [aX.down, simprocAttr, eY]
   (try simp only [bo.down, simprocAttr, eY] at ak ⊢); exact ak
  ·simp only [aX.down, simprocAttr, eY]
   (try simp only [bo.down, simprocAttr, eY] at ak ⊢); exact ak
 exact aK (ao _ (.inl (aL [.bool ((decide (97 ≤ (J.toNat : Int))) && (decide ((J.toNat : Int) ≤ 122)))] rfl (by cases aH h; rfl) (by decide) aM)))
theorem apz (J : UInt8) (r : Bool) (h : EU J = some r) : aT aI 197 [.int .u8 (J.toNat : Int)] (.bool r) [] := by
 refine aT.bZ (fx := [0]) b0 [.tmp 2] [(0, .int .u8 (J.toNat : Int))] Tryz.func197 rfl rfl Xq (Nat.le_of_ble_eq_true rfl) rfl rfl (fun bY ao bW => ?_)
 refine ws _ ?_
 refine cY (b1 [(2, .bool ((decide (48 ≤ (J.toNat : Int))) && (decide ((J.toNat : Int) ≤ 57))))] (fun P ak => ?_) ?_)
 ·rcases Bool.eq_false_or_eq_true (decide (48 ≤ (J.toNat : Int))) with eY | eY
  ·simp only [aX.down, simprocAttr, eY]
   (try simp only [bo.down, simprocAttr, eY] at ak ⊢); exact ak
  ·simp only [aX.down, simprocAttr, eY]
   (try simp only [bo.down, simprocAttr, eY] at ak ⊢); exact ak
 exact aK (ao _ (.inl (aL [.bool ((decide (48 ≤ (J.toNat : Int))) && (decide ((J.toNat : Int) ≤ 57)))] rfl (by cases aH h; rfl) (by decide) aM)))
set_option maxHeartbeats 600000 in
theorem x7 (J : List UInt8) (r : Bool) (h : uG J = some r) : aT aI 161 [.str J] (.bool r) [] := by
 refine aT.bZ (fx := [0]) b0 [.tmp 2] [(0, .str J)] Tryz.func161 rfl rfl XD (Nat.le_of_ble_eq_true rfl) rfl rfl (fun bY ao bW => ?_)
 refine ws _ ?_
 refine aN (fun eo bX bn an => ?_)
 rcases aQ h with ⟨bk, h⟩ | ⟨bk, h⟩
 ·refine g_ bk _ ?_
  refine aW rfl ?_
  refine ws _ ?_
  exact aK (bn _ (ao _ (.inl (aL [.bool false] rfl (by cases aH h; rfl) (by decide) aM))))
 ·rcases aQ h with ⟨cK, h⟩ | ⟨cK, h⟩
  ·refine g_ (And.intro bk cK) _ ?_
   refine aW rfl ?_
   refine ws _ ?_
   exact aK (bn _ (ao _ (.inl (aL [.bool false] rfl (by cases aH h; rfl) (by decide) aM))))
  ·obtain ⟨af, iy, h⟩ := aO h
   obtain ⟨an, kz, h⟩ := aO h
   refine cY (b1 [(0, .str J), (16, .bool (!an))] (fun P ak => ?_) ?_)
   ·simp only [aX.down, simprocAttr, eW, bk, cK, iy]
    refine ht (FE af _ kz) rfl rfl rfl rfl (.inl (by rfl)) ?_
    simp only [aX.down, simprocAttr, eW, bk, cK, iy]
    (try simp only [bo.down, simprocAttr, bk, cK, iy] at ak ⊢); exact ak
   rcases aQ h with ⟨b2, h⟩ | ⟨b2, h⟩
   ·refine aW (congrArg I.bool b2) ?_
    simp only [(c8 b2), Bool.not_true, Bool.not_false]
    refine ws _ ?_
    exact aK (bn _ (ao _ (.inl (aL [.bool false] rfl (by cases aH h; rfl) (by decide) aM))))
   ·refine aZ (congrArg I.bool b2) ?_
    simp only [(br b2), Bool.not_true, Bool.not_false]
    refine a5 (bX _ (.inl ?_))
    refine aN (fun j9 g1 iH i5 => ?_)
    refine ws _ ?_
    refine bH (fun iG fv eH eB hn => ?_)
    have hp : ∀ (n : Nat) (cM : Int), uF J n cM = some r → dA aI KS iG (aa [(0, .str J), (3, .int .i64 cM)]) := by
     intro dx
     induction dx with
     | zero => intro cM h; cases (show none = some r from h)
     | succ dx g2 =>
      intro cM h
      replace h : Al (uF J dx) J cM = some r := h
      refine dN (fun mm hT hy jh => ?_)
      refine aN (fun oh j8 ju lP => ?_)
      refine ws _ ?_
      rcases aQ h with ⟨ea, h⟩ | ⟨ea, h⟩
      ·refine aW (congrArg I.bool ea) ?_
       simp only [ea, Bool.not_true, Bool.not_false]
       refine a5 (j8 _ (.inl ?_))
       refine aN (fun Cc pc u7 sO => ?_)
       refine bH (fun apA Cd FF cR apB => ?_)
       obtain ⟨a0, hB, h⟩ := aO h
       obtain ⟨bp, pS, h⟩ := aO h
       rcases aQ h with ⟨ha, h⟩ | ⟨ha, h⟩
       ·obtain ⟨bs, jM, h⟩ := aO h
        refine cY (b1 [(0, .str J), (3, .int .i64 cM), (34, .bool (!bs))] (fun P ak => ?_) ?_)
        ·simp only [aX.down, simprocAttr, eW, hB, (c8 ha)]
         refine fs (FE a0 _ pS) rfl rfl rfl rfl (.inl (by rfl)) ?_
         simp only [aX.down, simprocAttr, eW, hB, (c8 ha)]
         refine ht (apz a0 _ jM) rfl rfl rfl rfl (.inl (by rfl)) ?_
         simp only [aX.down, simprocAttr, eW, hB, (c8 ha)]
         (try simp only [bo.down, simprocAttr, hB, (c8 ha)] at ak ⊢); exact ak
        rcases aQ h with ⟨e6, h⟩ | ⟨e6, h⟩
        ·refine aW (congrArg I.bool e6) ?_
         simp only [(c8 e6), Bool.not_true, Bool.not_false]
         refine ws _ ?_
         exact aK (FF _ (u7 _ (hy _ (eH _ (iH _ (ao _ (.inl (aL [.bool false] rfl (by cases aH h; rfl) (by decide) aM))))))))
        ·refine aZ (congrArg I.bool e6) ?_
         simp only [(br e6), Bool.not_true, Bool.not_false]
         refine a5 (Cd _ (pc _ (.inl ?_)))
         refine wr _ ?_
         exact hT _ (.inr ⟨_, bq rfl, g2 (IntKind.i64.wrap (cM + 1)) h⟩)
       ·refine iE (And.intro hB (br ha)) (FE a0 _ pS) _ ?_
        refine aZ rfl ?_
        refine a5 (Cd _ (pc _ (.inl ?_)))
        refine wr _ ?_
        exact hT _ (.inr ⟨_, bq rfl, g2 (IntKind.i64.wrap (cM + 1)) h⟩)
      ·refine aZ (congrArg I.bool ea) ?_
       simp only [ea, Bool.not_true, Bool.not_false]
       refine dL (lP 0 _ (jh 0 _ (eB _ (g1 _ (.inl ?_)))))
       refine ws _ ?_
       exact aK (ao _ (.inl (aL [.bool true] rfl (by cases aH h; rfl) (by decide) aM)))
    obtain ⟨n, h⟩ := dH h
    exact dM (.inr ⟨_, bq rfl, hp n 0 h⟩)
theorem oi (J : Int) (ab : Int) (bj : Int) (r : Bool) (h : lL J ab bj = some r) : aT aI 87 [.int .i64 J, .int .i64 ab, .int .i64 bj] (.bool r) [] := by
 refine aT.bZ (fx := [0, 1, 2]) b0 [.tmp 6] [(0, .int .i64 J), (1, .int .i64 ab), (2, .int .i64 bj)] Tryz.func87 rfl rfl XG (Nat.le_of_ble_eq_true rfl) rfl rfl (fun bY ao bW => ?_)
 refine ws _ ?_
 refine cY (b1 [(6, .bool ((decide (ab ≤ J)) && (decide (J ≤ bj))))] (fun P ak => ?_) ?_)
 ·rcases Bool.eq_false_or_eq_true (decide (ab ≤ J)) with eY | eY
  ·simp only [aX.down, simprocAttr, eY]
   (try simp only [bo.down, simprocAttr, eY] at ak ⊢); exact ak
  ·simp only [aX.down, simprocAttr, eY]
   (try simp only [bo.down, simprocAttr, eY] at ak ⊢); exact ak
 exact aK (ao _ (.inl (aL [.bool ((decide (ab ≤ J)) && (decide (J ≤ bj)))] rfl (by cases aH h; rfl) (by decide) aM)))
theorem L5 (J : bx) (r : Int) (h : xa J = some r) : aT aI 216 [.ref (b4 J)] (.int .i64 r) [] := by
 refine aT.bZ (fx := [0]) b0 [.tmp 2] [(0, .ref (b4 J))] Tryz.func216 rfl rfl XT (Nat.le_of_ble_eq_true rfl) rfl rfl (fun bY ao bW => ?_)
 refine ws _ ?_
 refine aN (fun eo bX bn an => ?_)
 refine ws _ ?_
 refine bH (fun dR eJ b9 bk bp => ?_)
 have sP : ∀ (gY : Bool), w_ J gY = some r → dj aI KT dR (aa [(6, .int .i64 J.Kind), (7, .bool gY)]) := by
  intro gY h
  rcases aQ h with ⟨cK, h⟩ | ⟨cK, h⟩
  ·refine aW (congrArg I.bool cK) ?_
   simp only [cK, Bool.not_true, Bool.not_false]
   refine ws _ ?_
   exact aK (b9 _ (bn _ (ao _ (.inl (aL [.int .i64 1] rfl (by cases aH h; rfl) (by decide) aM)))))
  ·refine aZ (congrArg I.bool cK) ?_
   simp only [cK, Bool.not_true, Bool.not_false]
   refine ws _ ?_
   rcases aQ h with ⟨dZ, h⟩ | ⟨dZ, h⟩
   ·refine aW (congrArg I.bool dZ) ?_
    simp only [dZ, Bool.not_true, Bool.not_false]
    refine ws _ ?_
    exact aK (b9 _ (bn _ (ao _ (.inl (aL [.int .i64 2] rfl (by cases aH h; rfl) (by decide) aM)))))
   ·refine aZ (congrArg I.bool dZ) ?_
    simp only [dZ, Bool.not_true, Bool.not_false]
    refine a5 (eJ _ (bX _ (.inl ?_)))
    refine ws _ ?_
    exact aK (ao _ (.inl (aL [.int .i64 0] rfl (by cases aH h; rfl) (by decide) aM)))
 refine aN (fun g3 dS dD bs => ?_)
 refine ws _ ?_
 rcases aQ h with ⟨cU, h⟩ | ⟨cU, h⟩
 ·refine aW (congrArg I.bool cU) ?_
  simp only [cU, Bool.not_true, Bool.not_false]
  exact a5 (dS _ (.inr ⟨_, bq rfl, sP true h⟩))
 ·refine aZ (congrArg I.bool cU) ?_
  simp only [cU, Bool.not_true, Bool.not_false]
  refine ws _ ?_
  rcases aQ h with ⟨ck, h⟩ | ⟨ck, h⟩
  ·refine aW (congrArg I.bool ck) ?_
   simp only [ck, Bool.not_true, Bool.not_false]
   exact a5 (dS _ (.inr ⟨_, bq rfl, sP true h⟩))
  ·refine aZ (congrArg I.bool ck) ?_
   simp only [ck, Bool.not_true, Bool.not_false]
   refine wr _ ?_
   exact dS _ (.inr ⟨_, bq rfl, sP (J.Kind == 4) h⟩)
theorem apC (J : List bx) (r : Bool) (h : An J = some r) : aT aI 198 [.slice (J.map b4)] (.bool r) [] := by
 refine aT.bZ (fx := [0]) b0 [.tmp 2] [(0, .slice (J.map b4))] Tryz.func198 rfl rfl X8 (Nat.le_of_ble_eq_true rfl) rfl rfl (fun bY ao bW => ?_)
 refine ws _ ?_
 refine aN (fun eo bX bn an => ?_)
 refine cY (b1 [(0, .slice (J.map b4)), (12, .bool (((J.length : Int) == 0) || (decide (20 < (J.length : Int)))))] (fun P ak => ?_) ?_)
 ·rcases Bool.eq_false_or_eq_true ((J.length : Int) == 0) with g7 | g7
  ·simp only [aX.down, simprocAttr, B5.down, g7]
   (try simp only [bo.down, simprocAttr, ml.down, g7] at ak ⊢); exact ak
  ·simp only [aX.down, simprocAttr, B5.down, g7]
   (try simp only [bo.down, simprocAttr, ml.down, g7] at ak ⊢); exact ak
 rcases aQ h with ⟨bJ, h⟩ | ⟨bJ, h⟩
 ·refine aW (congrArg I.bool bJ) ?_
  simp only [bJ, Bool.not_true, Bool.not_false]
  refine ws _ ?_
  exact aK (bn _ (ao _ (.inl (aL [.bool false] rfl (by cases aH h; rfl) (by decide) aM))))
 ·refine aZ (congrArg I.bool bJ) ?_
  simp only [bJ, Bool.not_true, Bool.not_false]
  refine a5 (bX _ (.inl ?_))
  refine ws _ ?_
  refine aN (fun hz hA gp gi => ?_)
  refine ws _ ?_
  refine bH (fun e4 cj cJ b2 c5 => ?_)
  have kr : ∀ (n : Nat) (mN : Int) (nr : Int), r7 J n mN nr = some r → dA aI KU e4 (aa [(0, .slice (J.map b4)), (3, .int .i64 mN), (4, .int .i64 nr)]) := by
   intro gx
   induction gx with
   | zero => intro mN nr h; cases (show none = some r from h)
   | succ gx ks =>
    intro mN nr h
    replace h : Am (r7 J gx) J mN nr = some r := h
    refine dN (fun i6 fF im eF => ?_)
    refine aN (fun j9 g1 iH i5 => ?_)
    refine ws _ ?_
    rcases aQ h with ⟨eB, h⟩ | ⟨eB, h⟩
    ·refine aW (congrArg I.bool eB) ?_
     simp only [eB, Bool.not_true, Bool.not_false]
     refine a5 (g1 _ (.inl ?_))
     refine aN (fun mm hT hy jh => ?_)
     refine bH (fun oh j8 ju h4 lP => ?_)
     refine aN (fun mn jv i7 mo => ?_)
     refine ws _ ?_
     rcases aQ h with ⟨ej, h⟩ | ⟨ej, h⟩
     ·refine aW (congrArg I.bool ej) ?_
      simp only [ej, Bool.not_true, Bool.not_false]
      refine ws _ ?_
      exact aK (i7 _ (ju _ (hy _ (im _ (cJ _ (gp _ (ao _ (.inl (aL [.bool false] rfl (by cases aH h; rfl) (by decide) aM)))))))))
     ·refine aZ (congrArg I.bool ej) ?_
      simp only [ej, Bool.not_true, Bool.not_false]
      refine a5 (jv _ (.inl ?_))
      obtain ⟨af, hB, h⟩ := aO h
      obtain ⟨an, pS, h⟩ := aO h
      refine Fx hB (L5 af _ pS) _ ?_
      refine j8 _ (hT _ (.inl ?_))
      refine wr _ ?_
      exact fF _ (.inr ⟨_, bq rfl, ks (IntKind.i64.wrap (mN + (IntKind.i64.wrap (an - 1)))) (IntKind.i64.wrap (nr + 1)) h⟩)
    ·refine aZ (congrArg I.bool eB) ?_
     simp only [eB, Bool.not_true, Bool.not_false]
     refine dL (i5 0 _ (eF 0 _ (b2 _ (hA _ (.inl ?_)))))
     refine ws _ ?_
     exact aK (ao _ (.inl (aL [.bool (mN == 0)] rfl (by cases aH h; rfl) (by decide) aM)))
  obtain ⟨n, h⟩ := dH h
  exact dM (.inr ⟨_, bq rfl, kr n 1 0 h⟩)
set_option maxHeartbeats 600000 in
theorem apD (J : bx) (r : Bool) (h : EV J = some r) : aT aI 217 [.ref (b4 J)] (.bool r) [] := by
 refine aT.bZ (fx := [0]) b0 [.tmp 2] [(0, .ref (b4 J))] Tryz.func217 rfl rfl Yr (Nat.le_of_ble_eq_true rfl) rfl rfl (fun bY ao bW => ?_)
 refine ws _ ?_
 refine aN (fun eo bX bn an => ?_)
 refine ws _ ?_
 refine bH (fun dR eJ b9 bk bp => ?_)
 have u9 : ∀ (xb : Bool), Ao J xb = some r → dj aI KV dR (aa [(0, .ref (b4 J)), (6, .int .i64 J.Kind), (7, .bool xb)]) := by
  intro xb h
  rcases aQ h with ⟨cK, h⟩ | ⟨cK, h⟩
  ·refine aW (congrArg I.bool cK) ?_
   simp only [cK, Bool.not_true, Bool.not_false]
   refine cY (b1 [(2, .bool (((J.Number == 0) && (J.Name == ([] : List UInt8))) && ((J.cr.length : Int) == 0)))] (fun P ak => ?_) ?_)
   ·(rcases Bool.eq_false_or_eq_true (J.Number == 0) with x2 | x2) <;> (rcases Bool.eq_false_or_eq_true (J.Name == ([] : List UInt8)) with mj | mj) <;>
     (simp only [aX.down, simprocAttr, nB.down, x2, mj]
      (try simp only [bo.down, simprocAttr, ml.down, x2, mj] at ak ⊢); exact ak)
   exact aK (b9 _ (bn _ (ao _ (.inl (aL [.bool (((J.Number == 0) && (J.Name == ([] : List UInt8))) && ((J.cr.length : Int) == 0))] rfl (by cases aH h; rfl) (by decide) aM)))))
  ·refine aZ (congrArg I.bool cK) ?_
   simp only [cK, Bool.not_true, Bool.not_false]
   refine ws _ ?_
   rcases aQ h with ⟨fN, h⟩ | ⟨fN, h⟩
   ·refine aW (congrArg I.bool fN) ?_
    simp only [fN, Bool.not_true, Bool.not_false]
    refine ws _ ?_
    exact aK (b9 _ (bn _ (ao _ (.inl (aL [.bool (J.Number == 0)] rfl (by cases aH h; rfl) (by decide) aM)))))
   ·refine aZ (congrArg I.bool fN) ?_
    simp only [fN, Bool.not_true, Bool.not_false]
    refine ws _ ?_
    rcases aQ h with ⟨eB, h⟩ | ⟨eB, h⟩
    ·refine aW (congrArg I.bool eB) ?_
     simp only [eB, Bool.not_true, Bool.not_false]
     refine cY (b1 [(2, .bool ((J.Number == 0) && (J.Name == ([] : List UInt8))))] (fun P ak => ?_) ?_)
     ·rcases Bool.eq_false_or_eq_true (J.Number == 0) with x8 | x8
      ·simp only [aX.down, simprocAttr, nB.down, x8]
       (try simp only [bo.down, simprocAttr, ml.down, x8] at ak ⊢); exact ak
      ·simp only [aX.down, simprocAttr, nB.down, x8]
       (try simp only [bo.down, simprocAttr, ml.down, x8] at ak ⊢); exact ak
     exact aK (b9 _ (bn _ (ao _ (.inl (aL [.bool ((J.Number == 0) && (J.Name == ([] : List UInt8)))] rfl (by cases aH h; rfl) (by decide) aM)))))
    ·refine aZ (congrArg I.bool eB) ?_
     simp only [eB, Bool.not_true, Bool.not_false]
     refine ws _ ?_
     rcases aQ h with ⟨ea, h⟩ | ⟨ea, h⟩
     ·refine aW (congrArg I.bool ea) ?_
      simp only [ea, Bool.not_true, Bool.not_false]
      refine cY (b1 [(2, .bool ((J.Name == ([] : List UInt8)) && ((J.cr.length : Int) == 0)))] (fun P ak => ?_) ?_)
      ·rcases Bool.eq_false_or_eq_true (J.Name == ([] : List UInt8)) with x9 | x9
       ·simp only [aX.down, simprocAttr, nB.down, x9]
        (try simp only [bo.down, simprocAttr, ml.down, x9] at ak ⊢); exact ak
       ·simp only [aX.down, simprocAttr, nB.down, x9]
        (try simp only [bo.down, simprocAttr, ml.down, x9] at ak ⊢); exact ak
      exact aK (b9 _ (bn _ (ao _ (.inl (aL [.bool ((J.Name == ([] : List UInt8)) && ((J.cr.length : Int) == 0))] rfl (by cases aH h; rfl) (by decide) aM)))))
     ·refine aZ (congrArg I.bool ea) ?_
      simp only [ea, Bool.not_true, Bool.not_false]
      refine ws _ ?_
      rcases aQ h with ⟨i9, h⟩ | ⟨i9, h⟩
      ·refine aW (congrArg I.bool i9) ?_
       simp only [i9, Bool.not_true, Bool.not_false]
       refine ws _ ?_
       exact aK (b9 _ (bn _ (ao _ (.inl (aL [.bool (J.Name == ([] : List UInt8))] rfl (by cases aH h; rfl) (by decide) aM)))))
      ·refine aZ (congrArg I.bool i9) ?_
       simp only [i9, Bool.not_true, Bool.not_false]
       refine a5 (eJ _ (bX _ (.inl ?_)))
       refine ws _ ?_
       exact aK (ao _ (.inl (aL [.bool false] rfl (by cases aH h; rfl) (by decide) aM)))
 refine aN (fun g3 dS dD bs => ?_)
 refine ws _ ?_
 rcases aQ h with ⟨e6, h⟩ | ⟨e6, h⟩
 ·refine aW (congrArg I.bool e6) ?_
  simp only [e6, Bool.not_true, Bool.not_false]
  exact a5 (dS _ (.inr ⟨_, bq rfl, u9 true h⟩))
 ·refine aZ (congrArg I.bool e6) ?_
  simp only [e6, Bool.not_true, Bool.not_false]
  refine wr _ ?_
  exact dS _ (.inr ⟨_, bq rfl, u9 (J.Kind == 2) h⟩)
theorem apE (J : List bx) (ab : Int) (r : Int) (h : Aq J ab = some r) : aT aI 224 [.slice (J.map b4), .int .i64 ab] (.int .i64 r) [] := by
 refine aT.bZ (fx := [0]) b0 [.tmp 4] [(0, .slice (J.map b4)), (1, .int .i64 ab)] Tryz.func224 rfl rfl Yz (Nat.le_of_ble_eq_true rfl) rfl rfl (fun bY ao bW => ?_)
 refine ws _ ?_
 refine ws _ ?_
 refine aN (fun kq gZ dX a0 => ?_)
 refine bH (fun dR eJ b9 bk bp => ?_)
 have fl : ∀ (n : Nat) (aY : Int) (aJ : Int), r8 J n aY aJ = some r → dA aI KW dR (aa [(0, .slice (J.map b4)), (1, .int .i64 aY), (5, .int .i64 aJ)]) := by
  intro ch
  induction ch with
  | zero => intro aY aJ h; cases (show none = some r from h)
  | succ ch e7 =>
   intro aY aJ h
   replace h : Ap (r8 J ch) J aY aJ = some r := h
   refine dN (fun g3 dS dD bs => ?_)
   refine aN (fun fh dB dK b7 => ?_)
   refine ws _ ?_
   rcases aQ h with ⟨a6, h⟩ | ⟨a6, h⟩
   ·refine aW (congrArg I.bool a6) ?_
    simp only [a6, Bool.not_true, Bool.not_false]
    refine a5 (dB _ (.inl ?_))
    refine bH (fun et cH cd dZ dv => ?_)
    obtain ⟨af, nN, h⟩ := aO h
    obtain ⟨an, dJ, h⟩ := aO h
    refine iE nN (L5 af _ dJ) _ ?_
    refine wr _ ?_
    exact cH _ (dS _ (.inr ⟨_, bq rfl, e7 (IntKind.i64.wrap (aY + 1)) (IntKind.i64.wrap (aJ + (IntKind.i64.wrap (an - 1)))) h⟩))
   ·refine aZ (congrArg I.bool a6) ?_
    simp only [a6, Bool.not_true, Bool.not_false]
    refine dL (b7 0 _ (bs 0 _ (bk _ (gZ _ (.inl ?_)))))
    refine ws _ ?_
    exact aK (ao _ (.inl (aL [.int .i64 aY] rfl (by cases aH h; rfl) (by decide) aM)))
 obtain ⟨n, h⟩ := dH h
 exact dM (.inr ⟨_, bq rfl, fl n ab 1 h⟩)
theorem apF (J : a9) (ab : Int) (r : Int) (h : uJ J ab = some r) : aT aI 218 [.ref (bf J), .int .i64 ab] (.int .i64 r) [] := by
 refine aT.bZ (fx := [0, 1]) b0 [.tmp 4] [(0, .ref (bf J)), (1, .int .i64 ab)] Tryz.func218 rfl rfl YJ (Nat.le_of_ble_eq_true rfl) rfl rfl (fun bY ao bW => ?_)
 refine ws _ ?_
 refine ws _ ?_
 refine aN (fun kq gZ dX a0 => ?_)
 refine ws _ ?_
 refine bH (fun g3 dS dD bJ bs => ?_)
 have jK : ∀ (n : Nat) (k6 : Int) (ko : Int), qL J ab n k6 ko = some r → dA aI KY g3 (aa [(0, .ref (bf J)), (1, .int .i64 ab), (5, .int .i64 k6), (6, .int .i64 ko)]) := by
  intro eM
  induction eM with
  | zero => intro k6 ko h; cases (show none = some r from h)
  | succ eM jL =>
   intro k6 ko h
   replace h : Ar (qL J ab eM) J ab k6 ko = some r := h
   refine dN (fun fh dB dK b7 => ?_)
   refine aN (fun ho dY eV dk => ?_)
   refine ws _ ?_
   rcases aQ h with ⟨dZ, h⟩ | ⟨dZ, h⟩
   ·refine aW (congrArg I.bool dZ) ?_
    simp only [dZ, Bool.not_true, Bool.not_false]
    refine a5 (dY _ (.inl ?_))
    have FG : ∀ (uH : Int) (uI : Int), xc (qL J ab eM) J ab uH uI = some r → dj aI KX fh (aa [(0, .ref (bf J)), (1, .int .i64 ab), (5, .int .i64 uH), (6, .int .i64 uI)]) := by
     intro uH uI h
     refine wr _ ?_
     exact dB _ (.inr ⟨_, bq rfl, jL uH (IntKind.i64.wrap (uI + 1)) h⟩)
    refine aN (fun e4 cj cJ c5 => ?_)
    refine bH (fun j9 g1 iH cG i5 => ?_)
    obtain ⟨af, e5, h⟩ := aO h
    rcases aQ h with ⟨ck, h⟩ | ⟨ck, h⟩
    ·obtain ⟨an, cN, h⟩ := aO h
     refine cY (b1 [(0, .ref (bf J)), (1, .int .i64 ab), (5, .int .i64 k6), (6, .int .i64 ko), (34, .bool (decide (ab < an)))] (fun P ak => ?_) ?_)
     ·simp only [aX.down, simprocAttr, pa.down, e5, ck]
      refine ht (apE J.Body ko _ cN) rfl rfl rfl rfl (.inl (by rfl)) ?_
      simp only [aX.down, simprocAttr, pa.down, e5, ck]
      (try simp only [bo.down, simprocAttr, hS.down, e5, ck] at ak ⊢); exact ak
     rcases aQ h with ⟨hU, h⟩ | ⟨hU, h⟩
     ·refine aW (congrArg I.bool hU) ?_
      simp only [hU, Bool.not_true, Bool.not_false]
      refine wr _ ?_
      exact g1 _ (cj _ (.inr ⟨_, bq rfl, FG (IntKind.i64.wrap (k6 + 1)) ko h⟩))
     ·refine aZ (congrArg I.bool hU) ?_
      simp only [hU, Bool.not_true, Bool.not_false]
      exact a5 (g1 _ (cj _ (.inr ⟨_, bq rfl, FG k6 ko h⟩)))
    ·refine g_ (And.intro e5 ck) _ ?_
     refine aZ rfl ?_
     exact a5 (g1 _ (cj _ (.inr ⟨_, bq rfl, FG k6 ko h⟩)))
   ·refine aZ (congrArg I.bool dZ) ?_
    simp only [dZ, Bool.not_true, Bool.not_false]
    refine dL (dk 0 _ (b7 0 _ (bJ _ (gZ _ (.inl ?_)))))
    refine ws _ ?_
    exact aK (ao _ (.inl (aL [.int .i64 k6] rfl (by cases aH h; rfl) (by decide) aM)))
 obtain ⟨n, h⟩ := dH h
 exact dM (.inr ⟨_, bq rfl, jK n J.cZ 0 h⟩)
theorem apG (J : bO) (ab : Int) (r : Bool) (h : As J ab = some r) : aT aI 175 [.ref (bP J), .int .i64 ab] (.bool r) [] := by
 refine aT.bZ (fx := [0, 1]) b0 [.tmp 4] [(0, .ref (bP J)), (1, .int .i64 ab)] Tryz.func175 rfl rfl YZ (Nat.le_of_ble_eq_true rfl) rfl rfl (fun bY ao bW => ?_)
 refine ws _ ?_
 refine aN (fun eo bX bn an => ?_)
 refine ws _ ?_
 refine bH (fun dR eJ b9 bk bp => ?_)
 refine ws _ ?_
 rcases aQ h with ⟨cK, h⟩ | ⟨cK, h⟩
 ·refine aW (congrArg I.bool cK) ?_
  simp only [cK, Bool.not_true, Bool.not_false]
  obtain ⟨af, iy, h⟩ := aO h
  refine dO (oi J.Value 0 63 _ iy) _ ?_
  exact aK (b9 _ (bn _ (ao _ (.inl (aL [.bool af] rfl (by cases aH h; rfl) (by decide) aM)))))
 ·refine aZ (congrArg I.bool cK) ?_
  simp only [cK, Bool.not_true, Bool.not_false]
  refine ws _ ?_
  rcases aQ h with ⟨b2, h⟩ | ⟨b2, h⟩
  ·refine aW (congrArg I.bool b2) ?_
   simp only [b2, Bool.not_true, Bool.not_false]
   obtain ⟨an, dJ, h⟩ := aO h
   refine dO (oi J.Value 0 (IntKind.i64.wrap (ab - 1)) _ dJ) _ ?_
   exact aK (b9 _ (bn _ (ao _ (.inl (aL [.bool an] rfl (by cases aH h; rfl) (by decide) aM)))))
  ·refine aZ (congrArg I.bool b2) ?_
   simp only [b2, Bool.not_true, Bool.not_false]
   refine ws _ ?_
   rcases aQ h with ⟨eB, h⟩ | ⟨eB, h⟩
   ·refine aW (congrArg I.bool eB) ?_
    simp only [eB, Bool.not_true, Bool.not_false]
    obtain ⟨a0, cN, h⟩ := aO h
    refine dO (oi J.Value 0 8 _ cN) _ ?_
    exact aK (b9 _ (bn _ (ao _ (.inl (aL [.bool a0] rfl (by cases aH h; rfl) (by decide) aM)))))
   ·refine aZ (congrArg I.bool eB) ?_
    simp only [eB, Bool.not_true, Bool.not_false]
    refine ws _ ?_
    rcases aQ h with ⟨ea, h⟩ | ⟨ea, h⟩
    ·refine aW (congrArg I.bool ea) ?_
     simp only [ea, Bool.not_true, Bool.not_false]
     refine ws _ ?_
     exact aK (b9 _ (bn _ (ao _ (.inl (aL [.bool (J.Value == 0)] rfl (by cases aH h; rfl) (by decide) aM)))))
    ·refine aZ (congrArg I.bool ea) ?_
     simp only [ea, Bool.not_true, Bool.not_false]
     refine a5 (eJ _ (bX _ (.inl ?_)))
     refine ws _ ?_
     exact aK (ao _ (.inl (aL [.bool false] rfl (by cases aH h; rfl) (by decide) aM)))
theorem apH (J : bO) (r : Int) (h : EW J = some r) : aT aI 176 [.ref (bP J)] (.int .i64 r) [] := by
 refine aT.bZ (fx := [0]) b0 [.tmp 2] [(0, .ref (bP J))] Tryz.func176 rfl rfl Y9 (Nat.le_of_ble_eq_true rfl) rfl rfl (fun bY ao bW => ?_)
 refine ws _ ?_
 refine aN (fun eo bX bn an => ?_)
 refine ws _ ?_
 refine bH (fun dR eJ b9 bk bp => ?_)
 refine ws _ ?_
 rcases aQ h with ⟨cK, h⟩ | ⟨cK, h⟩
 ·refine aW (congrArg I.bool cK) ?_
  simp only [cK, Bool.not_true, Bool.not_false]
  refine ws _ ?_
  exact aK (b9 _ (bn _ (ao _ (.inl (aL [.int .i64 2] rfl (by cases aH h; rfl) (by decide) aM)))))
 ·refine aZ (congrArg I.bool cK) ?_
  simp only [cK, Bool.not_true, Bool.not_false]
  refine ws _ ?_
  rcases aQ h with ⟨dZ, h⟩ | ⟨dZ, h⟩
  ·refine aW (congrArg I.bool dZ) ?_
   simp only [dZ, Bool.not_true, Bool.not_false]
   refine ws _ ?_
   exact aK (b9 _ (bn _ (ao _ (.inl (aL [.int .i64 1] rfl (by cases aH h; rfl) (by decide) aM)))))
  ·refine aZ (congrArg I.bool dZ) ?_
   simp only [dZ, Bool.not_true, Bool.not_false]
   refine a5 (eJ _ (bX _ (.inl ?_)))
   refine ws _ ?_
   exact aK (ao _ (.inl (aL [.int .i64 0] rfl (by cases aH h; rfl) (by decide) aM)))
set_option maxHeartbeats 600000 in
theorem apI (J : List bO) (ab : Int) (bj : Int) (r : Bool) (h : Au J ab bj = some r) : aT aI 140 [.slice (J.map bP), .int .i64 ab, .int .i64 bj] (.bool r) [] := by
 refine aT.bZ (fx := [0, 1, 2]) b0 [.tmp 6] [(0, .slice (J.map bP)), (1, .int .i64 ab), (2, .int .i64 bj)] Tryz.func140 rfl rfl Zn (Nat.le_of_ble_eq_true rfl) rfl rfl (fun bY ao bW => ?_)
 refine ws _ ?_
 refine aN (fun eo bX bn an => ?_)
 refine ws _ ?_
 rcases aQ h with ⟨bk, h⟩ | ⟨bk, h⟩
 ·refine aW (congrArg I.bool bk) ?_
  simp only [bk, Bool.not_true, Bool.not_false]
  refine ws _ ?_
  exact aK (bn _ (ao _ (.inl (aL [.bool false] rfl (by cases aH h; rfl) (by decide) aM))))
 ·refine aZ (congrArg I.bool bk) ?_
  simp only [bk, Bool.not_true, Bool.not_false]
  refine a5 (bX _ (.inl ?_))
  refine ws _ ?_
  refine aN (fun ho dY eV dk => ?_)
  refine ws _ ?_
  refine bH (fun et cH cd dZ dv => ?_)
  have kr : ∀ (n : Nat) (gY : Int) (mO : Int), r9 J ab n gY mO = some r → dA aI KZ et (aa [(0, .slice (J.map bP)), (1, .int .i64 ab), (7, .int .i64 gY), (8, .int .i64 mO)]) := by
   intro gx
   induction gx with
   | zero => intro gY mO h; cases (show none = some r from h)
   | succ gx ks =>
    intro gY mO h
    replace h : At (r9 J ab gx) J ab gY mO = some r := h
    refine dN (fun e4 cj cJ c5 => ?_)
    refine aN (fun i6 fF im eF => ?_)
    refine ws _ ?_
    rcases aQ h with ⟨cU, h⟩ | ⟨cU, h⟩
    ·refine aW (congrArg I.bool cU) ?_
     simp only [cU, Bool.not_true, Bool.not_false]
     refine a5 (fF _ (.inl ?_))
     refine aN (fun iG fv eH hn => ?_)
     refine bH (fun mm hT hy ck jh => ?_)
     refine aN (fun oh j8 ju lP => ?_)
     rcases aQ h with ⟨ea, h⟩ | ⟨ea, h⟩
     ·refine g_ ea _ ?_
      refine aW rfl ?_
      refine ws _ ?_
      exact aK (ju _ (hy _ (eH _ (cJ _ (cd _ (eV _ (ao _ (.inl (aL [.bool false] rfl (by cases aH h; rfl) (by decide) aM)))))))))
     ·obtain ⟨af, jN, h⟩ := aO h
      obtain ⟨an, nD, h⟩ := aO h
      refine cY (b1 [(0, .slice (J.map bP)), (1, .int .i64 ab), (7, .int .i64 gY), (8, .int .i64 mO), (28, .bool (!an))] (fun P ak => ?_) ?_)
      ·simp only [aX.down, simprocAttr, mV.down, ea, jN]
       refine ht (apG af ab _ nD) rfl rfl rfl rfl (.inl (by rfl)) ?_
       simp only [aX.down, simprocAttr, mV.down, ea, jN]
       (try simp only [bo.down, simprocAttr, bP, ea, jN] at ak ⊢); exact ak
      rcases aQ h with ⟨i9, h⟩ | ⟨i9, h⟩
      ·refine aW (congrArg I.bool i9) ?_
       simp only [(c8 i9), Bool.not_true, Bool.not_false]
       refine ws _ ?_
       exact aK (ju _ (hy _ (eH _ (cJ _ (cd _ (eV _ (ao _ (.inl (aL [.bool false] rfl (by cases aH h; rfl) (by decide) aM)))))))))
      ·refine aZ (congrArg I.bool i9) ?_
       simp only [(br i9), Bool.not_true, Bool.not_false]
       refine a5 (j8 _ (.inl ?_))
       obtain ⟨a0, jM, h⟩ := aO h
       refine Fx jN (apH af _ jM) _ ?_
       refine hT _ (fv _ (.inl ?_))
       refine wr _ ?_
       exact cj _ (.inr ⟨_, bq rfl, ks (IntKind.i64.wrap (gY + (IntKind.i64.wrap (a0 - 1)))) (IntKind.i64.wrap (mO + 1)) h⟩)
    ·refine aZ (congrArg I.bool cU) ?_
     simp only [cU, Bool.not_true, Bool.not_false]
     refine dL (eF 0 _ (c5 0 _ (dZ _ (dY _ (.inl ?_)))))
     refine ws _ ?_
     exact aK (ao _ (.inl (aL [.bool (gY == 0)] rfl (by cases aH h; rfl) (by decide) aM)))
  obtain ⟨n, h⟩ := dH h
  exact dM (.inr ⟨_, bq rfl, kr n 1 0 h⟩)
set_option maxHeartbeats 1200000 in
theorem apJ (J : List a9) (ab : a9) (bj : Int) (r : Int) (h : xg J ab bj = some r) : aT aI 199 [.slice (J.map bf), .ref (bf ab), .int .i64 bj] (.int .i64 r) [] := by
 refine aT.bZ (fx := [0, 1, 2]) b0 [.tmp 6] [(0, .slice (J.map bf)), (1, .ref (bf ab)), (2, .int .i64 bj)] Tryz.func199 rfl rfl Z1 (Nat.le_of_ble_eq_true rfl) rfl rfl (fun bY ao bW => ?_)
 refine ws _ ?_
 obtain ⟨af, a3, h⟩ := aO h
 refine g_ a3 _ ?_
 refine aN (fun dR eJ b9 bp => ?_)
 obtain ⟨an, cl, h⟩ := aO h
 refine cY (b1 [(0, .slice (J.map bf)), (1, .ref (bf ab)), (2, .int .i64 bj), (7, .a8 (b4 af)), (19, .bool (!an))] (fun P ak => ?_) ?_)
 ·refine fs (apD af _ cl) rfl rfl (by simp only [aX.down, simprocAttr, hS.down, hi, hj, hk, du, @cp _ ef ef (fun _ => Fq _)] <;> rfl) rfl (.inr (by rfl)) ?_
  simp only [aX.down, simprocAttr, hS.down]
  (try simp only [bo.down, simprocAttr, hS.down] at ak ⊢); exact ak
 rcases aQ h with ⟨iO, h⟩ | ⟨iO, h⟩
 ·refine aW (congrArg I.bool iO) ?_
  simp only [(c8 iO), Bool.not_true, Bool.not_false]
  refine ws _ ?_
  exact aK (b9 _ (ao _ (.inl (aL [.int .i64 2] rfl (by cases aH h; rfl) (by decide) aM))))
 ·refine aZ (congrArg I.bool iO) ?_
  simp only [(br iO), Bool.not_true, Bool.not_false]
  refine a5 (eJ _ (.inl ?_))
  refine aN (fun et cH cd dv => ?_)
  have L6 : ∀ (xf : Bool), Aw J ab bj af xf = some r → dj aI K0 et (aa [(0, .slice (J.map bf)), (1, .ref (bf ab)), (2, .int .i64 bj), (7, .a8 (b4 af)), (28, .bool xf)]) := by
   intro xf h
   rcases aQ h with ⟨b2, h⟩ | ⟨b2, h⟩
   ·refine aW (congrArg I.bool b2) ?_
    simp only [b2, Bool.not_true, Bool.not_false]
    refine ws _ ?_
    exact aK (cd _ (ao _ (.inl (aL [.int .i64 3] rfl (by cases aH h; rfl) (by decide) aM))))
   ·refine aZ (congrArg I.bool b2) ?_
    simp only [b2, Bool.not_true, Bool.not_false]
    refine a5 (cH _ (.inl ?_))
    refine aN (fun j9 g1 iH i5 => ?_)
    have x_ : ∀ (xe : Bool), sa J ab bj af xe = some r → dj aI K1 j9 (aa [(0, .slice (J.map bf)), (1, .ref (bf ab)), (2, .int .i64 bj), (7, .a8 (b4 af)), (51, .bool xe)]) := by
     intro xe h
     rcases aQ h with ⟨cU, h⟩ | ⟨cU, h⟩
     ·refine aW (congrArg I.bool cU) ?_
      simp only [cU, Bool.not_true, Bool.not_false]
      refine ws _ ?_
      exact aK (iH _ (ao _ (.inl (aL [.int .i64 4] rfl (by cases aH h; rfl) (by decide) aM))))
     ·refine aZ (congrArg I.bool cU) ?_
      simp only [cU, Bool.not_true, Bool.not_false]
      refine a5 (g1 _ (.inl ?_))
      refine ws _ ?_
      have Ce : r_ ab bj af = some r → dj aI K4 bY (aa [(1, .ref (bf ab)), (2, .int .i64 bj), (7, .a8 (b4 af)), (8, .int .i64 (af.cr.length : Int))]) := by
       intro h
       refine aN (fun mn jv i7 mo => ?_)
       have FH : ∀ (xd : Bool), uK ab bj af xd = some r → dj aI K2 mn (aa [(1, .ref (bf ab)), (2, .int .i64 bj), (7, .a8 (b4 af)), (8, .int .i64 (af.cr.length : Int)), (102, .bool xd)]) := by
        intro xd h
        rcases aQ h with ⟨ea, h⟩ | ⟨ea, h⟩
        ·refine aW (congrArg I.bool ea) ?_
         simp only [ea, Bool.not_true, Bool.not_false]
         refine ws _ ?_
         exact aK (i7 _ (ao _ (.inl (aL [.int .i64 6] rfl (by cases aH h; rfl) (by decide) aM))))
        ·refine aZ (congrArg I.bool ea) ?_
         simp only [ea, Bool.not_true, Bool.not_false]
         refine a5 (jv _ (.inl ?_))
         obtain ⟨a0, nD, h⟩ := aO h
         refine dO (apF ab bj _ nD) _ ?_
         refine aN (fun sM k8 lQ sN => ?_)
         refine cY (b1 [(7, .a8 (b4 af)), (8, .int .i64 (af.cr.length : Int)), (9, .int .i64 a0), (112, .bool ((af.Kind == 4) && (decide (6 ≤ a0))))] (fun P ak => ?_) ?_)
         ·rcases Bool.eq_false_or_eq_true (af.Kind == 4) with ya | ya
          ·simp only [aX.down, simprocAttr, nB.down, ya]
           (try simp only [bo.down, simprocAttr, ml.down, ya] at ak ⊢); exact ak
          ·simp only [aX.down, simprocAttr, nB.down, ya]
           (try simp only [bo.down, simprocAttr, ml.down, ya] at ak ⊢); exact ak
         rcases aQ h with ⟨hV, h⟩ | ⟨hV, h⟩
         ·refine aW (congrArg I.bool hV) ?_
          simp only [hV, Bool.not_true, Bool.not_false]
          refine ws _ ?_
          exact aK (lQ _ (ao _ (.inl (aL [.int .i64 7] rfl (by cases aH h; rfl) (by decide) aM))))
         ·refine aZ (congrArg I.bool hV) ?_
          simp only [hV, Bool.not_true, Bool.not_false]
          refine a5 (k8 _ (.inl ?_))
          refine aN (fun apK FI FJ L7 => ?_)
          refine ws _ ?_
          refine bH (fun L8 FK FL hW apL => ?_)
          have apM : ∀ (n : Nat) (ns : Int) (nt : Int), qM af n ns nt = some r → dA aI K3 L8 (aa [(7, .a8 (b4 af)), (8, .int .i64 (af.cr.length : Int)), (9, .int .i64 ns), (10, .int .i64 nt)]) := by
           intro FM
           induction FM with
           | zero => intro ns nt h; cases (show none = some r from h)
           | succ FM apN =>
            intro ns nt h
            replace h : Av (qM af FM) af ns nt = some r := h
            refine dN (fun avX apO apP apQ => ?_)
            refine aN (fun L9 yb yc FN => ?_)
            refine ws _ ?_
            rcases aQ h with ⟨fT, h⟩ | ⟨fT, h⟩
            ·refine aW (congrArg I.bool fT) ?_
             simp only [fT, Bool.not_true, Bool.not_false]
             refine a5 (yb _ (.inl ?_))
             refine aN (fun avY apR apS avZ => ?_)
             refine bH (fun av0 apT apU mY av1 => ?_)
             obtain ⟨bp, apV, h⟩ := aO h
             obtain ⟨bs, apW, h⟩ := aO h
             refine iE apV (apI bp ns 15 _ apW) _ ?_
             rcases aQ h with ⟨nE, h⟩ | ⟨nE, h⟩
             ·refine aW (congrArg I.bool nE) ?_
              simp only [(c8 nE), Bool.not_true, Bool.not_false]
              refine ws _ ?_
              exact aK (apU _ (apS _ (apP _ (FL _ (FJ _ (ao _ (.inl (aL [.int .i64 8] rfl (by cases aH h; rfl) (by decide) aM))))))))
             ·refine aZ (congrArg I.bool nE) ?_
              simp only [(br nE), Bool.not_true, Bool.not_false]
              refine a5 (apT _ (apR _ (.inl ?_)))
              refine wr _ ?_
              exact apO _ (.inr ⟨_, bq rfl, apN ns (IntKind.i64.wrap (nt + 1)) h⟩)
            ·refine aZ (congrArg I.bool fT) ?_
             simp only [fT, Bool.not_true, Bool.not_false]
             refine dL (FN 1 _ (apQ 1 _ (hW _ (FI _ (.inl ?_)))))
             refine ws _ ?_
             exact aK (ao _ (.inl (aL [.int .i64 0] rfl (by cases aH h; rfl) (by decide) aM)))
          obtain ⟨n, h⟩ := dH h
          exact dM (.inr ⟨_, bq rfl, apM n a0 0 h⟩)
       rcases aQ h with ⟨qW, h⟩ | ⟨qW, h⟩
       ·rcases aQ h with ⟨oj, h⟩ | ⟨oj, h⟩
        ·refine kl (b1 (K := eA _) [(1, .ref (bf ab)), (2, .int .i64 bj), (7, .a8 (b4 af)), (8, .int .i64 (af.cr.length : Int)), (102, .bool true)] (fun P ak => ?_) ?_)
         ·simp only [aX.down, simprocAttr, pa.down, qW, oj]
          (try simp only [bo.down, simprocAttr, hS.down, qW, oj] at ak ⊢); exact ak
         exact .inr ⟨_, bq rfl, FH true h⟩
        ·obtain ⟨b7, sQ, h⟩ := aO h
         refine kl (b1 (K := eA _) [(1, .ref (bf ab)), (2, .int .i64 bj), (7, .a8 (b4 af)), (8, .int .i64 (af.cr.length : Int)), (102, .bool (b7.Kind != 1))] (fun P ak => ?_) ?_)
         ·simp only [aX.down, simprocAttr, pa.down, qW, oj, sQ]
          (try simp only [bo.down, simprocAttr, hS.down, qW, oj, sQ] at ak ⊢); exact ak
         exact .inr ⟨_, bq rfl, FH (b7.Kind != 1) h⟩
       ·refine kl (b1 (K := eA _) [(1, .ref (bf ab)), (2, .int .i64 bj), (7, .a8 (b4 af)), (8, .int .i64 (af.cr.length : Int)), (102, .bool false)] (fun P ak => ?_) ?_)
        ·simp only [aX.down, simprocAttr, pa.down, qW]
         (try simp only [bo.down, simprocAttr, hS.down, qW] at ak ⊢); exact ak
        exact .inr ⟨_, bq rfl, FH false h⟩
      refine aN (fun oh j8 ju lP => ?_)
      refine ws _ ?_
      refine bH (fun apX u_ yd sR apY => ?_)
      refine ws _ ?_
      rcases aQ h with ⟨ye, h⟩ | ⟨ye, h⟩
      ·refine aW (congrArg I.bool ye) ?_
       simp only [ye, Bool.not_true, Bool.not_false]
       refine cY (b1 [(1, .ref (bf ab)), (2, .int .i64 bj), (7, .a8 (b4 af)), (8, .int .i64 (af.cr.length : Int)), (69, .bool ((decide (2 < (af.cr.length : Int))) || ((decide (0 < (af.cr.length : Int))) && (af.Name == ([116, 97, 117] : List UInt8)))))] (fun P ak => ?_) ?_)
       ·(rcases Bool.eq_false_or_eq_true (decide (2 < (af.cr.length : Int))) with x3 | x3) <;> (rcases Bool.eq_false_or_eq_true (decide (0 < (af.cr.length : Int))) with x0 | x0) <;>
         (simp only [aX.down, simprocAttr, x4.down, x3, x0]
          (try simp only [bo.down, simprocAttr, hS.down, x3, x0] at ak ⊢); exact ak)
       rcases aQ h with ⟨yf, h⟩ | ⟨yf, h⟩
       ·refine aW (congrArg I.bool yf) ?_
        simp only [yf, Bool.not_true, Bool.not_false]
        refine ws _ ?_
        exact aK (yd _ (ju _ (ao _ (.inl (aL [.int .i64 5] rfl (by cases aH h; rfl) (by decide) aM)))))
       ·refine aZ (congrArg I.bool yf) ?_
        simp only [yf, Bool.not_true, Bool.not_false]
        exact a5 (u_ _ (j8 _ (.inr ⟨_, bq rfl, Ce h⟩)))
      ·refine aZ (congrArg I.bool ye) ?_
       simp only [ye, Bool.not_true, Bool.not_false]
       refine ws _ ?_
       rcases aQ h with ⟨om, h⟩ | ⟨om, h⟩
       ·refine aW (congrArg I.bool om) ?_
        simp only [om, Bool.not_true, Bool.not_false]
        refine ws _ ?_
        rcases aQ h with ⟨va, h⟩ | ⟨va, h⟩
        ·refine aW (congrArg I.bool va) ?_
         simp only [va, Bool.not_true, Bool.not_false]
         refine ws _ ?_
         exact aK (yd _ (ju _ (ao _ (.inl (aL [.int .i64 5] rfl (by cases aH h; rfl) (by decide) aM)))))
        ·refine aZ (congrArg I.bool va) ?_
         simp only [va, Bool.not_true, Bool.not_false]
         exact a5 (u_ _ (j8 _ (.inr ⟨_, bq rfl, Ce h⟩)))
       ·refine aZ (congrArg I.bool om) ?_
        simp only [om, Bool.not_true, Bool.not_false]
        refine ws _ ?_
        rcases aQ h with ⟨yg, h⟩ | ⟨yg, h⟩
        ·refine aW (congrArg I.bool yg) ?_
         simp only [yg, Bool.not_true, Bool.not_false]
         obtain ⟨dk, FO, h⟩ := aO h
         refine g_ FO _ ?_
         rcases aQ h with ⟨yh, h⟩ | ⟨yh, h⟩
         ·refine aW (congrArg I.bool yh) ?_
          simp only [yh, Bool.not_true, Bool.not_false]
          refine ws _ ?_
          exact aK (yd _ (ju _ (ao _ (.inl (aL [.int .i64 5] rfl (by cases aH h; rfl) (by decide) aM)))))
         ·refine aZ (congrArg I.bool yh) ?_
          simp only [yh, Bool.not_true, Bool.not_false]
          exact a5 (u_ _ (j8 _ (.inr ⟨_, bq rfl, Ce h⟩)))
        ·refine aZ (congrArg I.bool yg) ?_
         simp only [yg, Bool.not_true, Bool.not_false]
         exact a5 (u_ _ (j8 _ (.inr ⟨_, bq rfl, Ce h⟩)))
    rcases aQ h with ⟨lu, h⟩ | ⟨lu, h⟩
    ·obtain ⟨gi, FP, h⟩ := aO h
     rcases aQ h with ⟨oo, h⟩ | ⟨oo, h⟩
     ·refine kl (b1 (K := eA _) [(0, .slice (J.map bf)), (1, .ref (bf ab)), (2, .int .i64 bj), (7, .a8 (b4 af)), (51, .bool true)] (fun P ak => ?_) ?_)
      ·simp only [aX.down, simprocAttr, iF.down, lu, (c8 oo)]
       refine ht (oi af.Number 1 7 _ FP) rfl rfl rfl rfl (.inl (by rfl)) ?_
       simp only [aX.down, simprocAttr, iF.down, lu, (c8 oo)]
       (try simp only [bo.down, simprocAttr, hS.down, lu, (c8 oo)] at ak ⊢); exact ak
      exact .inr ⟨_, bq rfl, x_ true h⟩
     ·rcases aQ h with ⟨mq, h⟩ | ⟨mq, h⟩
      ·obtain ⟨dv, apZ, h⟩ := aO h
       refine kl (b1 (K := eA _) [(0, .slice (J.map bf)), (1, .ref (bf ab)), (2, .int .i64 bj), (7, .a8 (b4 af)), (51, .bool (!dv))] (fun P ak => ?_) ?_)
       ·simp only [aX.down, simprocAttr, iF.down, lu, (br oo), mq]
        refine ht (oi af.Number 1 7 _ FP) rfl rfl rfl rfl (.inl (by rfl)) ?_
        simp only [aX.down, simprocAttr, iF.down, lu, (br oo), mq]
        refine ht (oi af.Number 0 (IntKind.i64.wrap ((J.length : Int) - 1)) _ apZ) rfl rfl rfl rfl (.inl (by rfl)) ?_
        simp only [aX.down, simprocAttr, iF.down, lu, (br oo), mq]
        (try simp only [bo.down, simprocAttr, hS.down, lu, (br oo), mq] at ak ⊢); exact ak
       exact .inr ⟨_, bq rfl, x_ (!dv) h⟩
      ·refine kl (b1 (K := eA _) [(0, .slice (J.map bf)), (1, .ref (bf ab)), (2, .int .i64 bj), (7, .a8 (b4 af)), (51, .bool false)] (fun P ak => ?_) ?_)
       ·simp only [aX.down, simprocAttr, iF.down, lu, (br oo), mq]
        refine ht (oi af.Number 1 7 _ FP) rfl rfl rfl rfl (.inl (by rfl)) ?_
        simp only [aX.down, simprocAttr, iF.down, lu, (br oo), mq]
        (try simp only [bo.down, simprocAttr, hS.down, lu, (br oo), mq] at ak ⊢); exact ak
       exact .inr ⟨_, bq rfl, x_ false h⟩
    ·rcases aQ h with ⟨vb, h⟩ | ⟨vb, h⟩
     ·obtain ⟨c5, ap0, h⟩ := aO h
      refine kl (b1 (K := eA _) [(0, .slice (J.map bf)), (1, .ref (bf ab)), (2, .int .i64 bj), (7, .a8 (b4 af)), (51, .bool (!c5))] (fun P ak => ?_) ?_)
      ·simp only [aX.down, simprocAttr, iF.down, lu, vb]
       refine ht (oi af.Number 0 (IntKind.i64.wrap ((J.length : Int) - 1)) _ ap0) rfl rfl rfl rfl (.inl (by rfl)) ?_
       simp only [aX.down, simprocAttr, iF.down, lu, vb]
       (try simp only [bo.down, simprocAttr, hS.down, lu, vb] at ak ⊢); exact ak
      exact .inr ⟨_, bq rfl, x_ (!c5) h⟩
     ·refine kl (b1 (K := eA _) [(0, .slice (J.map bf)), (1, .ref (bf ab)), (2, .int .i64 bj), (7, .a8 (b4 af)), (51, .bool false)] (fun P ak => ?_) ?_)
      ·simp only [aX.down, simprocAttr, iF.down, lu, vb]
       (try simp only [bo.down, simprocAttr, hS.down, lu, vb] at ak ⊢); exact ak
      exact .inr ⟨_, bq rfl, x_ false h⟩
  rcases aQ h with ⟨vc, h⟩ | ⟨vc, h⟩
  ·obtain ⟨eF, ap1, h⟩ := aO h
   refine kl (b1 (K := eA _) [(0, .slice (J.map bf)), (1, .ref (bf ab)), (2, .int .i64 bj), (7, .a8 (b4 af)), (28, .bool (!eF))] (fun P ak => ?_) ?_)
   ·simp only [aX.down, simprocAttr, x4.down, vc]
    refine ht (x7 af.Name _ ap1) rfl rfl rfl rfl (.inl (by rfl)) ?_
    simp only [aX.down, simprocAttr, x4.down, vc]
    (try simp only [bo.down, simprocAttr, hS.down, vc] at ak ⊢); exact ak
   exact .inr ⟨_, bq rfl, L6 (!eF) h⟩
  ·refine kl (b1 (K := eA _) [(0, .slice (J.map bf)), (1, .ref (bf ab)), (2, .int .i64 bj), (7, .a8 (b4 af)), (28, .bool false)] (fun P ak => ?_) ?_)
   ·simp only [aX.down, simprocAttr, x4.down, vc]
    (try simp only [bo.down, simprocAttr, hS.down, vc] at ak ⊢); exact ak
   exact .inr ⟨_, bq rfl, L6 false h⟩
theorem ap2 (J : List a9) (ab : a9) (r : Int × Int) (h : sb J ab = some r) : aT aI 162 [.slice (J.map bf), .ref (bf ab)] (.tuple [.int .i64 r.1, .int .i64 r.2]) [] := by
 refine aT.bZ (fx := [0, 1]) b0 [.tmp 4, .tmp 5] [(0, .slice (J.map bf)), (1, .ref (bf ab))] Tryz.func162 rfl rfl aae (Nat.le_of_ble_eq_true rfl) rfl rfl (fun bY ao bW => ?_)
 refine ws _ ?_
 refine aN (fun eo bX bn an => ?_)
 obtain ⟨af, c1, h⟩ := aO h
 refine dO (apC ab.Body _ c1) _ ?_
 rcases aQ h with ⟨bJ, h⟩ | ⟨bJ, h⟩
 ·refine aW (congrArg I.bool bJ) ?_
  simp only [(c8 bJ), Bool.not_true, Bool.not_false]
  refine ws _ ?_
  exact aK (bn _ (ao _ (.inl (aL [.int .i64 0, .int .i64 1] rfl (by cases aH h; rfl) (by decide) aM))))
 ·refine aZ (congrArg I.bool bJ) ?_
  simp only [(br bJ), Bool.not_true, Bool.not_false]
  refine a5 (bX _ (.inl ?_))
  refine aN (fun ho dY eV dk => ?_)
  refine ws _ ?_
  refine bH (fun et cH cd dZ dv => ?_)
  have hp : ∀ (n : Nat) (lM : Int), qN J ab n lM = some r → dA aI K5 et (aa [(0, .slice (J.map bf)), (1, .ref (bf ab)), (6, .int .i64 lM)]) := by
   intro dx
   induction dx with
   | zero => intro lM h; cases (show none = some r from h)
   | succ dx g2 =>
    intro lM h
    replace h : xh (qN J ab dx) J ab lM = some r := h
    refine dN (fun e4 cj cJ c5 => ?_)
    refine aN (fun i6 fF im eF => ?_)
    refine ws _ ?_
    rcases aQ h with ⟨cU, h⟩ | ⟨cU, h⟩
    ·refine aW (congrArg I.bool cU) ?_
     simp only [cU, Bool.not_true, Bool.not_false]
     refine a5 (fF _ (.inl ?_))
     refine aN (fun iG fv eH hn => ?_)
     refine bH (fun mm hT hy ck jh => ?_)
     obtain ⟨an, eI, h⟩ := aO h
     refine dO (apJ J ab lM _ eI) _ ?_
     refine ws _ ?_
     rcases aQ h with ⟨ej, h⟩ | ⟨ej, h⟩
     ·refine aW (congrArg I.bool ej) ?_
      simp only [ej, Bool.not_true, Bool.not_false]
      refine ws _ ?_
      exact aK (hy _ (eH _ (cJ _ (cd _ (eV _ (ao _ (.inl (aL [.int .i64 lM, .int .i64 an] rfl (by cases aH h; rfl) (by decide) aM))))))))
     ·refine aZ (congrArg I.bool ej) ?_
      simp only [ej, Bool.not_true, Bool.not_false]
      refine a5 (hT _ (fv _ (.inl ?_)))
      refine wr _ ?_
      exact cj _ (.inr ⟨_, bq rfl, g2 (IntKind.i64.wrap (lM + 1)) h⟩)
    ·refine aZ (congrArg I.bool cU) ?_
     simp only [cU, Bool.not_true, Bool.not_false]
     refine dL (eF 0 _ (c5 0 _ (dZ _ (dY _ (.inl ?_)))))
     refine ws _ ?_
     exact aK (ao _ (.inl (aL [.int .i64 0, .int .i64 0] rfl (by cases aH h; rfl) (by decide) aM)))
  obtain ⟨n, h⟩ := dH h
  exact dM (.inr ⟨_, bq rfl, hp n 0 h⟩)
set_option maxHeartbeats 1200000 in
theorem ap3 (J : List a9) (r : Bool) (h : AA J = some r) : aT aI 122 [.slice (J.map bf)] (.bool r) [] := by
 refine aT.bZ (fx := [0]) b0 [.tmp 2] [(0, .slice (J.map bf))] Tryz.func122 rfl rfl aaG (Nat.le_of_ble_eq_true rfl) rfl rfl (fun bY ao bW => ?_)
 refine ws _ ?_
 refine aN (fun eo bX bn an => ?_)
 refine cY (b1 [(0, .slice (J.map bf)), (15, .bool (((J.length : Int) == 0) || (decide (4 < (J.length : Int)))))] (fun P ak => ?_) ?_)
 ·rcases Bool.eq_false_or_eq_true ((J.length : Int) == 0) with g7 | g7
  ·simp only [aX.down, simprocAttr, iF.down, g7]
   (try simp only [bo.down, simprocAttr, hS.down, g7] at ak ⊢); exact ak
  ·simp only [aX.down, simprocAttr, iF.down, g7]
   (try simp only [bo.down, simprocAttr, hS.down, g7] at ak ⊢); exact ak
 rcases aQ h with ⟨bJ, h⟩ | ⟨bJ, h⟩
 ·refine aW (congrArg I.bool bJ) ?_
  simp only [bJ, Bool.not_true, Bool.not_false]
  refine ws _ ?_
  exact aK (bn _ (ao _ (.inl (aL [.bool false] rfl (by cases aH h; rfl) (by decide) aM))))
 ·refine aZ (congrArg I.bool bJ) ?_
  simp only [bJ, Bool.not_true, Bool.not_false]
  refine a5 (bX _ (.inl ?_))
  refine aN (fun ho dY eV dk => ?_)
  refine ws _ ?_
  refine bH (fun et cH cd dZ dv => ?_)
  have hp : ∀ (n : Nat) (cM : Int), nv J n cM = some r → dA aI K7 et (aa [(0, .slice (J.map bf)), (3, .int .i64 cM)]) := by
   intro dx
   induction dx with
   | zero => intro cM h; cases (show none = some r from h)
   | succ dx g2 =>
    intro cM h
    replace h : Az (nv J dx) J cM = some r := h
    refine dN (fun e4 cj cJ c5 => ?_)
    refine aN (fun i6 fF im eF => ?_)
    refine ws _ ?_
    rcases aQ h with ⟨cU, h⟩ | ⟨cU, h⟩
    ·refine aW (congrArg I.bool cU) ?_
     simp only [cU, Bool.not_true, Bool.not_false]
     refine a5 (fF _ (.inl ?_))
     refine aN (fun iG fv eH hn => ?_)
     refine bH (fun mm hT hy ck jh => ?_)
     refine aN (fun oh j8 ju lP => ?_)
     obtain ⟨af, ga, h⟩ := aO h
     obtain ⟨an, hq, h⟩ := aO h
     rcases aQ h with ⟨cR, h⟩ | ⟨cR, h⟩
     ·refine iE (And.intro ga (c8 cR)) (x7 af.Name _ hq) _ ?_
      refine aW rfl ?_
      refine ws _ ?_
      exact aK (ju _ (hy _ (eH _ (cJ _ (cd _ (eV _ (ao _ (.inl (aL [.bool false] rfl (by cases aH h; rfl) (by decide) aM)))))))))
     ·obtain ⟨a0, hB, h⟩ := aO h
      refine cY (b1 [(0, .slice (J.map bf)), (3, .int .i64 cM), (37, .bool (!a0))] (fun P ak => ?_) ?_)
      ·simp only [aX.down, simprocAttr, iF.down, ga, (br cR)]
       refine fs (x7 af.Name _ hq) rfl rfl rfl rfl (.inl (by rfl)) ?_
       simp only [aX.down, simprocAttr, iF.down, ga, (br cR)]
       refine ht (oi af.cZ 0 3 _ hB) rfl rfl rfl rfl (.inl (by rfl)) ?_
       simp only [aX.down, simprocAttr, iF.down, ga, (br cR)]
       (try simp only [bo.down, simprocAttr, hS.down, ga, (br cR)] at ak ⊢); exact ak
      rcases aQ h with ⟨e8, h⟩ | ⟨e8, h⟩
      ·refine aW (congrArg I.bool e8) ?_
       simp only [(c8 e8), Bool.not_true, Bool.not_false]
       refine ws _ ?_
       exact aK (ju _ (hy _ (eH _ (cJ _ (cd _ (eV _ (ao _ (.inl (aL [.bool false] rfl (by cases aH h; rfl) (by decide) aM)))))))))
      ·refine aZ (congrArg I.bool e8) ?_
       simp only [(br e8), Bool.not_true, Bool.not_false]
       refine a5 (j8 _ (.inl ?_))
       refine ws _ ?_
       refine bH (fun ap4 av2 ap5 e6 av3 => ?_)
       have ap6 : ∀ (n : Nat) (lN : Int) (mP : Int), sc (nv J dx) J n lN mP = some r → dA aI K6 ap4 (aa [(0, .slice (J.map bf)), (3, .int .i64 lN), (4, .int .i64 mP)]) := by
        intro FQ
        induction FQ with
        | zero => intro lN mP h; cases (show none = some r from h)
        | succ FQ ap7 =>
         intro lN mP h
         replace h : Ax (nv J dx) (sc (nv J dx) J FQ) J lN mP = some r := h
         refine dN (fun apK FI FJ L7 => ?_)
         refine aN (fun apk FD L2 L3 => ?_)
         refine ws _ ?_
         rcases aQ h with ⟨gF, h⟩ | ⟨gF, h⟩
         ·refine aW (congrArg I.bool gF) ?_
          simp only [gF, Bool.not_true, Bool.not_false]
          refine a5 (FD _ (.inl ?_))
          refine aN (fun L9 yb yc FN => ?_)
          refine bH (fun av4 ap8 ap9 kM av5 => ?_)
          obtain ⟨bp, lR, h⟩ := aO h
          obtain ⟨bs, sS, h⟩ := aO h
          refine hg rfl (hh [(0, .slice (J.map bf)), (3, .int .i64 lN), (4, .int .i64 mP), (53, .bool (bp.Name == bs.Name))] (fun P ak => ?_) ?_)
          ·simp only [dF.down, simprocAttr, iF.down, lR, sS]
           refine ⟨gV (by kernel_rfl), ?_⟩
           (try simp only [bo.down, simprocAttr, hS.down, lR, sS] at ak ⊢); exact ak
          rcases aQ h with ⟨oq, h⟩ | ⟨oq, h⟩
          ·refine aW (congrArg I.bool oq) ?_
           simp only [oq, Bool.not_true, Bool.not_false]
           refine ws _ ?_
           exact aK (ap9 _ (yc _ (FJ _ (ap5 _ (hy _ (eH _ (cJ _ (cd _ (eV _ (ao _ (.inl (aL [.bool false] rfl (by cases aH h; rfl) (by decide) aM))))))))))))
          ·refine aZ (congrArg I.bool oq) ?_
           simp only [oq, Bool.not_true, Bool.not_false]
           refine a5 (ap8 _ (yb _ (.inl ?_)))
           refine wr _ ?_
           exact FI _ (.inr ⟨_, bq rfl, ap7 lN (IntKind.i64.wrap (mP + 1)) h⟩)
         ·refine aZ (congrArg I.bool gF) ?_
          simp only [gF, Bool.not_true, Bool.not_false]
          refine dL (L3 2 _ (L7 2 _ (e6 _ (hT _ (fv _ (.inl ?_))))))
          refine wr _ ?_
          exact cj _ (.inr ⟨_, bq rfl, g2 (IntKind.i64.wrap (lN + 1)) h⟩)
       obtain ⟨n, h⟩ := dH h
       exact dM (.inr ⟨_, bq rfl, ap6 n cM 0 h⟩)
    ·refine aZ (congrArg I.bool cU) ?_
     simp only [cU, Bool.not_true, Bool.not_false]
     refine dL (eF 0 _ (c5 0 _ (dZ _ (dY _ (.inl ?_)))))
     refine aN (fun ap_ FR L_ Ma => ?_)
     refine ws _ ?_
     refine bH (fun aqa av6 aqb sT av7 => ?_)
     have aqc : ∀ (n : Nat) (nu : Int), qO J n nu = some r → dA aI K8 aqa (aa [(0, .slice (J.map bf)), (5, .int .i64 nu)]) := by
      intro FT
      induction FT with
      | zero => intro nu h; cases (show none = some r from h)
      | succ FT aqd =>
       intro nu h
       replace h : Ay (qO J FT) J nu = some r := h
       refine dN (fun aqe FU FV Mb => ?_)
       refine aN (fun aqf FW Mc Md => ?_)
       refine ws _ ?_
       rcases aQ h with ⟨yi, h⟩ | ⟨yi, h⟩
       ·refine aW (congrArg I.bool yi) ?_
        simp only [yi, Bool.not_true, Bool.not_false]
        refine a5 (FW _ (.inl ?_))
        refine aN (fun av8 aqg aqh av9 => ?_)
        refine bH (fun apX u_ yd sR apY => ?_)
        obtain ⟨b7, aqi, h⟩ := aO h
        obtain ⟨dk, aqj, h⟩ := aO h
        refine iE aqi (ap2 J b7 _ aqj) _ ?_
        refine ws _ ?_
        rcases aQ h with ⟨sU, h⟩ | ⟨sU, h⟩
        ·refine aW (congrArg I.bool sU) ?_
         simp only [sU, Bool.not_true, Bool.not_false]
         refine ws _ ?_
         exact aK (yd _ (aqh _ (FV _ (aqb _ (L_ _ (ao _ (.inl (aL [.bool false] rfl (by cases aH h; rfl) (by decide) aM))))))))
        ·refine aZ (congrArg I.bool sU) ?_
         simp only [sU, Bool.not_true, Bool.not_false]
         refine a5 (u_ _ (aqg _ (.inl ?_)))
         refine wr _ ?_
         exact FU _ (.inr ⟨_, bq rfl, aqd (IntKind.i64.wrap (nu + 1)) h⟩)
       ·refine aZ (congrArg I.bool yi) ?_
        simp only [yi, Bool.not_true, Bool.not_false]
        refine dL (Md 4 _ (Mb 4 _ (sT _ (FR _ (.inl ?_)))))
        refine ws _ ?_
        exact aK (ao _ (.inl (aL [.bool true] rfl (by cases aH h; rfl) (by decide) aM)))
     obtain ⟨n, h⟩ := dH h
     exact dM (.inr ⟨_, bq rfl, aqc n 0 h⟩)
  obtain ⟨n, h⟩ := dH h
  exact dM (.inr ⟨_, bq rfl, hp n 0 h⟩)
theorem aqk (J : List Int) (r : Bool) (h : AD J = some r) : aT aI 138 [.slice (J.map b3)] (.bool r) [] := by
 refine aT.bZ (fx := [0]) b0 [.tmp 2] [(0, .slice (J.map b3))] Tryz.func138 rfl rfl aaQ (Nat.le_of_ble_eq_true rfl) rfl rfl (fun bY ao bW => ?_)
 refine ws _ ?_
 refine aN (fun eo bX bn an => ?_)
 refine ws _ ?_
 refine bH (fun dR eJ b9 bk bp => ?_)
 have fl : ∀ (n : Nat) (iT : Int), sd J n iT = some r → dA aI K9 dR (aa [(0, .slice (J.map b3)), (3, .int .i64 iT)]) := by
  intro ch
  induction ch with
  | zero => intro iT h; cases (show none = some r from h)
  | succ ch e7 =>
   intro iT h
   replace h : AB (sd J ch) J iT = some r := h
   refine dN (fun g3 dS dD bs => ?_)
   refine aN (fun fh dB dK b7 => ?_)
   refine ws _ ?_
   rcases aQ h with ⟨a6, h⟩ | ⟨a6, h⟩
   ·refine aW (congrArg I.bool a6) ?_
    simp only [a6, Bool.not_true, Bool.not_false]
    refine a5 (dB _ (.inl ?_))
    refine aN (fun et cH cd dv => ?_)
    refine bH (fun e4 cj cJ b2 c5 => ?_)
    obtain ⟨af, dJ, h⟩ := aO h
    obtain ⟨an, ez, h⟩ := aO h
    refine iE dJ (oi af 0 63 _ ez) _ ?_
    rcases aQ h with ⟨eB, h⟩ | ⟨eB, h⟩
    ·refine aW (congrArg I.bool eB) ?_
     simp only [(c8 eB), Bool.not_true, Bool.not_false]
     refine ws _ ?_
     exact aK (cJ _ (cd _ (dD _ (b9 _ (bn _ (ao _ (.inl (aL [.bool false] rfl (by cases aH h; rfl) (by decide) aM))))))))
    ·refine aZ (congrArg I.bool eB) ?_
     simp only [(br eB), Bool.not_true, Bool.not_false]
     refine a5 (cj _ (cH _ (.inl ?_)))
     refine wr _ ?_
     exact dS _ (.inr ⟨_, bq rfl, e7 (IntKind.i64.wrap (iT + 1)) h⟩)
   ·refine aZ (congrArg I.bool a6) ?_
    simp only [a6, Bool.not_true, Bool.not_false]
    refine dL (b7 0 _ (bs 0 _ (bk _ (bX _ (.inl ?_)))))
    refine ws _ ?_
    exact aK (ao _ (.inl (aL [.bool true] rfl (by cases aH h; rfl) (by decide) aM)))
 obtain ⟨n, h⟩ := dH h
 exact dM (.inr ⟨_, bq rfl, fl n 0 h⟩)
set_option maxHeartbeats 1400000 in
theorem aql (J : dU) (r : Bool) (h : AF J = some r) : aT aI 123 [.ref (eO J)] (.bool r) [] := by
 refine aT.bZ (fx := [0]) b0 [.tmp 2] [(0, .ref (eO J))] Tryz.func123 rfl rfl aa7 (Nat.le_of_ble_eq_true rfl) rfl rfl (fun bY ao bW => ?_)
 refine ws _ ?_
 refine aN (fun eo bX bn an => ?_)
 refine cY (b1 [(0, .ref (eO J)), (18, .bool (((J.cX.length : Int) == 0) || (decide (3 < (J.cX.length : Int)))))] (fun P ak => ?_) ?_)
 ·rcases Bool.eq_false_or_eq_true ((J.cX.length : Int) == 0) with g7 | g7
  ·simp only [aX.down, simprocAttr, og.down, g7]
   (try simp only [bo.down, simprocAttr, pR.down, g7] at ak ⊢); exact ak
  ·simp only [aX.down, simprocAttr, og.down, g7]
   (try simp only [bo.down, simprocAttr, pR.down, g7] at ak ⊢); exact ak
 rcases aQ h with ⟨bJ, h⟩ | ⟨bJ, h⟩
 ·refine aW (congrArg I.bool bJ) ?_
  simp only [bJ, Bool.not_true, Bool.not_false]
  refine ws _ ?_
  exact aK (bn _ (ao _ (.inl (aL [.bool false] rfl (by cases aH h; rfl) (by decide) aM))))
 ·refine aZ (congrArg I.bool bJ) ?_
  simp only [bJ, Bool.not_true, Bool.not_false]
  refine a5 (bX _ (.inl ?_))
  refine aN (fun ho dY eV dk => ?_)
  refine ws _ ?_
  refine bH (fun et cH cd dZ dv => ?_)
  have hp : ∀ (n : Nat) (cM : Int), se J n cM = some r → dA aI K_ et (aa [(0, .ref (eO J)), (3, .int .i64 cM)]) := by
   intro dx
   induction dx with
   | zero => intro cM h; cases (show none = some r from h)
   | succ dx g2 =>
    intro cM h
    replace h : AE (se J dx) J cM = some r := h
    refine dN (fun e4 cj cJ c5 => ?_)
    refine aN (fun i6 fF im eF => ?_)
    refine ws _ ?_
    rcases aQ h with ⟨cU, h⟩ | ⟨cU, h⟩
    ·refine aW (congrArg I.bool cU) ?_
     simp only [cU, Bool.not_true, Bool.not_false]
     refine a5 (fF _ (.inl ?_))
     refine aN (fun iG fv eH hn => ?_)
     refine bH (fun mm hT hy ck jh => ?_)
     obtain ⟨af, eI, h⟩ := aO h
     refine g_ eI _ ?_
     refine aN (fun yj pT pU yk => ?_)
     obtain ⟨an, jN, h⟩ := aO h
     refine hg rfl (hh [(0, .ref (eO J)), (3, .int .i64 cM), (4, .a8 (eN af)), (44, .bool (!an))] (fun P ak => ?_) ?_)
     ·simp only [dF.down, simprocAttr, og.down]
      refine i3 (oi af.gP 0 (IntKind.i64.wrap ((J.bQ.length : Int) - 1)) _ jN) rfl rfl rfl rfl (.inl (by rfl)) ?_
      simp only [dF.down, simprocAttr, og.down]
      refine ⟨gV (by kernel_rfl), ?_⟩
      (try simp only [bo.down, simprocAttr, pR.down] at ak ⊢); exact ak
     rcases aQ h with ⟨jj, h⟩ | ⟨jj, h⟩
     ·refine aW (congrArg I.bool jj) ?_
      simp only [(c8 jj), Bool.not_true, Bool.not_false]
      refine ws _ ?_
      exact aK (pU _ (hy _ (eH _ (cJ _ (cd _ (eV _ (ao _ (.inl (aL [.bool false] rfl (by cases aH h; rfl) (by decide) aM)))))))))
     ·refine aZ (congrArg I.bool jj) ?_
      simp only [(br jj), Bool.not_true, Bool.not_false]
      refine a5 (pT _ (.inl ?_))
      obtain ⟨a0, jw, h⟩ := aO h
      rcases aQ h with ⟨hV, h⟩ | ⟨hV, h⟩
      ·refine hg rfl (hh [(0, .ref (eO J)), (3, .int .i64 cM), (63, .bool true)] (fun P ak => ?_) ?_)
       ·simp only [dF.down, simprocAttr, og.down, jw, hV]
        refine ⟨gV (by kernel_rfl), ?_⟩
        (try simp only [bo.down, simprocAttr, pR.down, jw, hV] at ak ⊢); exact ak
       refine aW rfl ?_
       refine ws _ ?_
       exact aK (hy _ (eH _ (cJ _ (cd _ (eV _ (ao _ (.inl (aL [.bool false] rfl (by cases aH h; rfl) (by decide) aM))))))))
      ·obtain ⟨bp, x6, h⟩ := aO h
       refine hg rfl (hh [(0, .ref (eO J)), (3, .int .i64 cM), (63, .bool (!bp))] (fun P ak => ?_) ?_)
       ·simp only [dF.down, simprocAttr, og.down, jw, hV]
        refine mb (aqk af.fk _ x6) rfl rfl rfl rfl (.inl (by rfl)) ?_
        simp only [dF.down, simprocAttr, og.down, jw, hV]
        refine ⟨gV (by kernel_rfl), ?_⟩
        (try simp only [bo.down, simprocAttr, pR.down, jw, hV] at ak ⊢); exact ak
       rcases aQ h with ⟨ot, h⟩ | ⟨ot, h⟩
       ·refine aW (congrArg I.bool ot) ?_
        simp only [(c8 ot), Bool.not_true, Bool.not_false]
        refine ws _ ?_
        exact aK (hy _ (eH _ (cJ _ (cd _ (eV _ (ao _ (.inl (aL [.bool false] rfl (by cases aH h; rfl) (by decide) aM))))))))
       ·refine aZ (congrArg I.bool ot) ?_
        simp only [(br ot), Bool.not_true, Bool.not_false]
        refine a5 (hT _ (fv _ (.inl ?_)))
        refine wr _ ?_
        exact cj _ (.inr ⟨_, bq rfl, g2 (IntKind.i64.wrap (cM + 1)) h⟩)
    ·refine aZ (congrArg I.bool cU) ?_
     simp only [cU, Bool.not_true, Bool.not_false]
     refine dL (eF 0 _ (c5 0 _ (dZ _ (dY _ (.inl ?_)))))
     refine ws _ ?_
     exact aK (ao _ (.inl (aL [.bool true] rfl (by cases aH h; rfl) (by decide) aM)))
  obtain ⟨n, h⟩ := dH h
  exact dM (.inr ⟨_, bq rfl, hp n 0 h⟩)
theorem pd (J : List UInt8) (r : Bool) (h : sf J = some r) : aT aI 141 [.str J] (.bool r) [] := by
 refine aT.bZ (fx := [0]) b0 [.tmp 2] [(0, .str J)] Tryz.func141 rfl rfl aa_ (Nat.le_of_ble_eq_true rfl) rfl rfl (fun bY ao bW => ?_)
 refine ws _ ?_
 obtain ⟨af, a3, h⟩ := aO h
 refine cY (b1 [(2, .bool (af && (!(J == ([116, 97, 117] : List UInt8)))))] (fun P ak => ?_) ?_)
 ·rcases Bool.eq_false_or_eq_true (af) with g7 | g7
  ·simp only [aX.down, simprocAttr, g7]
   refine fs (x7 J _ a3) rfl rfl rfl rfl (.inl (by rfl)) ?_
   simp only [aX.down, simprocAttr, g7]
   (try simp only [bo.down, simprocAttr, g7] at ak ⊢); exact ak
  ·simp only [aX.down, simprocAttr, g7]
   refine fs (x7 J _ a3) rfl rfl rfl rfl (.inl (by rfl)) ?_
   simp only [aX.down, simprocAttr, g7]
   (try simp only [bo.down, simprocAttr, g7] at ak ⊢); exact ak
 exact aK (ao _ (.inl (aL [.bool (af && (!(J == ([116, 97, 117] : List UInt8))))] rfl (by cases aH h; rfl) (by decide) aM)))
set_option maxHeartbeats 2200000 in
theorem aqm (J : List bR) (r : Bool) (h : AH J = some r) : aT aI 124 [.slice (J.map bm)] (.bool r) [] := by
 refine aT.bZ (fx := [0]) b0 [.tmp 2] [(0, .slice (J.map bm))] Tryz.func124 rfl rfl aby (Nat.le_of_ble_eq_true rfl) rfl rfl (fun bY ao bW => ?_)
 refine ws _ ?_
 refine aN (fun eo bX bn an => ?_)
 refine ws _ ?_
 rcases aQ h with ⟨bk, h⟩ | ⟨bk, h⟩
 ·refine aW (congrArg I.bool bk) ?_
  simp only [bk, Bool.not_true, Bool.not_false]
  refine ws _ ?_
  exact aK (bn _ (ao _ (.inl (aL [.bool false] rfl (by cases aH h; rfl) (by decide) aM))))
 ·refine aZ (congrArg I.bool bk) ?_
  simp only [bk, Bool.not_true, Bool.not_false]
  refine a5 (bX _ (.inl ?_))
  refine aN (fun fh dB dK b7 => ?_)
  refine ws _ ?_
  refine bH (fun hz hA gp a6 gi => ?_)
  have hp : ∀ (n : Nat) (cM : Int), lo J n cM = some r → dA aI La hz (aa [(0, .slice (J.map bm)), (3, .int .i64 cM)]) := by
   intro dx
   induction dx with
   | zero => intro cM h; cases (show none = some r from h)
   | succ dx g2 =>
    intro cM h
    replace h : AG (lo J dx) J cM = some r := h
    refine dN (fun et cH cd dv => ?_)
    refine aN (fun e4 cj cJ c5 => ?_)
    refine ws _ ?_
    rcases aQ h with ⟨cG, h⟩ | ⟨cG, h⟩
    ·refine aW (congrArg I.bool cG) ?_
     simp only [cG, Bool.not_true, Bool.not_false]
     refine a5 (cj _ (.inl ?_))
     refine aN (fun lr g0 gj jg => ?_)
     refine bH (fun iG fv eH eB hn => ?_)
     obtain ⟨af, cN, h⟩ := aO h
     refine g_ cN _ ?_
     refine aN (fun mn jv i7 mo => ?_)
     obtain ⟨an, hq, h⟩ := aO h
     rcases aQ h with ⟨cR, h⟩ | ⟨cR, h⟩
     ·refine iE (c8 cR) (pd af.Left _ hq) _ ?_
      refine aW rfl ?_
      refine ws _ ?_
      exact aK (i7 _ (eH _ (gj _ (cd _ (gp _ (dK _ (ao _ (.inl (aL [.bool false] rfl (by cases aH h; rfl) (by decide) aM)))))))))
     ·obtain ⟨a0, hB, h⟩ := aO h
      rcases aQ h with ⟨e8, h⟩ | ⟨e8, h⟩
      ·refine cY (b1 [(0, .slice (J.map bm)), (3, .int .i64 cM), (4, .a8 (bm af)), (41, .bool true)] (fun P ak => ?_) ?_)
       ·simp only [aX.down, simprocAttr, mW.down, (br cR), (c8 e8)]
        refine fs (pd af.Left _ hq) rfl rfl rfl rfl (.inl (by rfl)) ?_
        simp only [aX.down, simprocAttr, mW.down, (br cR), (c8 e8)]
        refine ht (pd af.b_ _ hB) rfl rfl rfl rfl (.inl (by rfl)) ?_
        simp only [aX.down, simprocAttr, mW.down, (br cR), (c8 e8)]
        (try simp only [bo.down, simprocAttr, bm, (br cR), (c8 e8)] at ak ⊢); exact ak
       refine aW rfl ?_
       refine ws _ ?_
       exact aK (i7 _ (eH _ (gj _ (cd _ (gp _ (dK _ (ao _ (.inl (aL [.bool false] rfl (by cases aH h; rfl) (by decide) aM)))))))))
      ·obtain ⟨bp, jM, h⟩ := aO h
       refine cY (b1 [(0, .slice (J.map bm)), (3, .int .i64 cM), (4, .a8 (bm af)), (41, .bool ((!bp) || (!(Op.bytesLess af.Left af.b_ || af.Left == af.b_))))] (fun P ak => ?_) ?_)
       ·rcases Bool.eq_false_or_eq_true (bp) with ou | ou
        ·simp only [aX.down, simprocAttr, mW.down, (br cR), (br e8), ou]
         refine fs (pd af.Left _ hq) rfl rfl rfl rfl (.inl (by rfl)) ?_
         simp only [aX.down, simprocAttr, mW.down, (br cR), (br e8), ou]
         refine ht (pd af.b_ _ hB) rfl rfl rfl rfl (.inl (by rfl)) ?_
         simp only [aX.down, simprocAttr, mW.down, (br cR), (br e8), ou]
         refine ht (pd af.Result _ jM) rfl rfl rfl rfl (.inl (by rfl)) ?_
         simp only [aX.down, simprocAttr, mW.down, (br cR), (br e8), ou]
         (try simp only [bo.down, simprocAttr, bm, (br cR), (br e8), ou] at ak ⊢); exact ak
        ·simp only [aX.down, simprocAttr, mW.down, (br cR), (br e8), ou]
         refine fs (pd af.Left _ hq) rfl rfl rfl rfl (.inl (by rfl)) ?_
         simp only [aX.down, simprocAttr, mW.down, (br cR), (br e8), ou]
         refine ht (pd af.b_ _ hB) rfl rfl rfl rfl (.inl (by rfl)) ?_
         simp only [aX.down, simprocAttr, mW.down, (br cR), (br e8), ou]
         refine ht (pd af.Result _ jM) rfl rfl rfl rfl (.inl (by rfl)) ?_
         simp only [aX.down, simprocAttr, mW.down, (br cR), (br e8), ou]
         (try simp only [bo.down, simprocAttr, bm, (br cR), (br e8), ou] at ak ⊢); exact ak
       rcases aQ h with ⟨hC, h⟩ | ⟨hC, h⟩
       ·refine aW (congrArg I.bool hC) ?_
        simp only [hC, Bool.not_true, Bool.not_false]
        refine ws _ ?_
        exact aK (i7 _ (eH _ (gj _ (cd _ (gp _ (dK _ (ao _ (.inl (aL [.bool false] rfl (by cases aH h; rfl) (by decide) aM)))))))))
       ·refine aZ (congrArg I.bool hC) ?_
        simp only [hC, Bool.not_true, Bool.not_false]
        refine a5 (jv _ (.inl ?_))
        refine aN (fun L8 FK FL apL => ?_)
        rcases aQ h with ⟨jk, h⟩ | ⟨jk, h⟩
        ·obtain ⟨bs, Me, h⟩ := aO h
         refine hg rfl (hh [(0, .slice (J.map bm)), (3, .int .i64 cM), (4, .a8 (bm af)), (76, .bool ((!(Op.bytesLess bs.Left af.Left || bs.Left == af.Left)) || ((bs.Left == af.Left) && (!(Op.bytesLess bs.b_ af.b_)))))] (fun P ak => ?_) ?_)
         ·(rcases Bool.eq_false_or_eq_true (Op.bytesLess bs.Left af.Left) with xZ | xZ) <;> (rcases Bool.eq_false_or_eq_true (bs.Left == af.Left) with x1 | x1) <;>
           (simp only [dF.down, simprocAttr, gT.down, jk, Me, xZ, x1]
            refine ⟨gV (by kernel_rfl), ?_⟩
            (try simp only [bo.down, simprocAttr, bm, jk, Me, xZ, x1] at ak ⊢); exact ak)
         rcases aQ h with ⟨mY, h⟩ | ⟨mY, h⟩
         ·refine aW (congrArg I.bool mY) ?_
          simp only [mY, Bool.not_true, Bool.not_false]
          refine ws _ ?_
          exact aK (FL _ (eH _ (gj _ (cd _ (gp _ (dK _ (ao _ (.inl (aL [.bool false] rfl (by cases aH h; rfl) (by decide) aM)))))))))
         ·refine aZ (congrArg I.bool mY) ?_
          simp only [mY, Bool.not_true, Bool.not_false]
          refine a5 (FK _ (.inl ?_))
          refine ws _ ?_
          refine bH (fun aqn av_ aqo pe awa => ?_)
          have FX : ∀ (n : Nat) (js : Int) (jI : Int), oa (lo J dx) J af n js jI = some r → dA aI Fv aqn (aa [(0, .slice (J.map bm)), (3, .int .i64 js), (4, .a8 (bm af)), (5, .int .i64 jI)]) := by
           intro sV
           induction sV with
           | zero => intro js jI h; cases (show none = some r from h)
           | succ sV FY =>
            intro js jI h
            replace h : xi (lo J dx) (oa (lo J dx) J af sV) J af js jI = some r := h
            refine dN (fun awb aqp aqq aqr => ?_)
            refine aN (fun ap_ FR L_ Ma => ?_)
            refine ws _ ?_
            rcases aQ h with ⟨sT, h⟩ | ⟨sT, h⟩
            ·refine aW (congrArg I.bool sT) ?_
             simp only [sT, Bool.not_true, Bool.not_false]
             refine a5 (FR _ (.inl ?_))
             refine aN (fun aqe FU FV Mb => ?_)
             refine bH (fun aqf FW Mc qW Md => ?_)
             obtain ⟨b7, sQ, h⟩ := aO h
             refine hg rfl (hh [(0, .slice (J.map bm)), (3, .int .i64 js), (4, .a8 (bm af)), (5, .int .i64 jI), (100, .bool ((b7.Left == af.Result) || (b7.b_ == af.Result)))] (fun P ak => ?_) ?_)
             ·rcases Bool.eq_false_or_eq_true (b7.Left == af.Result) with sH | sH
              ·simp only [dF.down, simprocAttr, gT.down, sQ, sH]
               refine ⟨gV (by kernel_rfl), ?_⟩
               (try simp only [bo.down, simprocAttr, bm, sQ, sH] at ak ⊢); exact ak
              ·simp only [dF.down, simprocAttr, gT.down, sQ, sH]
               refine ⟨gV (by kernel_rfl), ?_⟩
               (try simp only [bo.down, simprocAttr, bm, sQ, sH] at ak ⊢); exact ak
             rcases aQ h with ⟨sR, h⟩ | ⟨sR, h⟩
             ·refine aW (congrArg I.bool sR) ?_
              simp only [sR, Bool.not_true, Bool.not_false]
              refine ws _ ?_
              exact aK (Mc _ (FV _ (aqq _ (aqo _ (eH _ (gj _ (cd _ (gp _ (dK _ (ao _ (.inl (aL [.bool false] rfl (by cases aH h; rfl) (by decide) aM))))))))))))
             ·refine aZ (congrArg I.bool sR) ?_
              simp only [sR, Bool.not_true, Bool.not_false]
              refine a5 (FW _ (FU _ (.inl ?_)))
              refine wr _ ?_
              exact aqp _ (.inr ⟨_, bq rfl, FY js (IntKind.i64.wrap (jI + 1)) h⟩)
            ·refine aZ (congrArg I.bool sT) ?_
             simp only [sT, Bool.not_true, Bool.not_false]
             refine dL (Ma 2 _ (aqr 2 _ (pe _ (fv _ (g0 _ (.inl ?_))))))
             refine wr _ ?_
             exact cH _ (.inr ⟨_, bq rfl, g2 (IntKind.i64.wrap (js + 1)) h⟩)
          obtain ⟨n, h⟩ := dH h
          exact dM (.inr ⟨_, bq rfl, FX n cM 0 h⟩)
        ·refine hg rfl (hh [(0, .slice (J.map bm)), (3, .int .i64 cM), (4, .a8 (bm af)), (76, .bool false)] (fun P ak => ?_) ?_)
         ·simp only [dF.down, simprocAttr, gT.down, jk]
          refine ⟨gV (by kernel_rfl), ?_⟩
          (try simp only [bo.down, simprocAttr, bm, jk] at ak ⊢); exact ak
         refine aZ rfl ?_
         refine a5 (FK _ (.inl ?_))
         refine ws _ ?_
         refine bH (fun aqs awc aqt sU awd => ?_)
         have FX : ∀ (n : Nat) (js : Int) (jI : Int), oa (lo J dx) J af n js jI = some r → dA aI Fv aqs (aa [(0, .slice (J.map bm)), (3, .int .i64 js), (4, .a8 (bm af)), (5, .int .i64 jI)]) := by
          intro sV
          induction sV with
          | zero => intro js jI h; cases (show none = some r from h)
          | succ sV FY =>
           intro js jI h
           replace h : xi (lo J dx) (oa (lo J dx) J af sV) J af js jI = some r := h
           refine dN (fun awe aqu aqv aqw => ?_)
           refine aN (fun awf aqx awg aqy => ?_)
           refine ws _ ?_
           rcases aQ h with ⟨om, h⟩ | ⟨om, h⟩
           ·refine aW (congrArg I.bool om) ?_
            simp only [om, Bool.not_true, Bool.not_false]
            refine a5 (aqx _ (.inl ?_))
            refine aN (fun awh aqz aqA awi => ?_)
            refine bH (fun awj aqB aqC va awk => ?_)
            obtain ⟨dk, Cf, h⟩ := aO h
            refine hg rfl (hh [(0, .slice (J.map bm)), (3, .int .i64 js), (4, .a8 (bm af)), (5, .int .i64 jI), (100, .bool ((dk.Left == af.Result) || (dk.b_ == af.Result)))] (fun P ak => ?_) ?_)
            ·rcases Bool.eq_false_or_eq_true (dk.Left == af.Result) with yl | yl
             ·simp only [dF.down, simprocAttr, gT.down, Cf, yl]
              refine ⟨gV (by kernel_rfl), ?_⟩
              (try simp only [bo.down, simprocAttr, bm, Cf, yl] at ak ⊢); exact ak
             ·simp only [dF.down, simprocAttr, gT.down, Cf, yl]
              refine ⟨gV (by kernel_rfl), ?_⟩
              (try simp only [bo.down, simprocAttr, bm, Cf, yl] at ak ⊢); exact ak
            rcases aQ h with ⟨ym, h⟩ | ⟨ym, h⟩
            ·refine aW (congrArg I.bool ym) ?_
             simp only [ym, Bool.not_true, Bool.not_false]
             refine ws _ ?_
             exact aK (aqC _ (aqA _ (aqv _ (aqt _ (eH _ (gj _ (cd _ (gp _ (dK _ (ao _ (.inl (aL [.bool false] rfl (by cases aH h; rfl) (by decide) aM))))))))))))
            ·refine aZ (congrArg I.bool ym) ?_
             simp only [ym, Bool.not_true, Bool.not_false]
             refine a5 (aqB _ (aqz _ (.inl ?_)))
             refine wr _ ?_
             exact aqu _ (.inr ⟨_, bq rfl, FY js (IntKind.i64.wrap (jI + 1)) h⟩)
           ·refine aZ (congrArg I.bool om) ?_
            simp only [om, Bool.not_true, Bool.not_false]
            refine dL (aqy 2 _ (aqw 2 _ (sU _ (fv _ (g0 _ (.inl ?_))))))
            refine wr _ ?_
            exact cH _ (.inr ⟨_, bq rfl, g2 (IntKind.i64.wrap (js + 1)) h⟩)
         obtain ⟨n, h⟩ := dH h
         exact dM (.inr ⟨_, bq rfl, FX n cM 0 h⟩)
    ·refine aZ (congrArg I.bool cG) ?_
     simp only [cG, Bool.not_true, Bool.not_false]
     refine dL (c5 0 _ (dv 0 _ (a6 _ (dB _ (.inl ?_)))))
     refine ws _ ?_
     exact aK (ao _ (.inl (aL [.bool true] rfl (by cases aH h; rfl) (by decide) aM)))
  obtain ⟨n, h⟩ := dH h
  exact dM (.inr ⟨_, bq rfl, hp n 0 h⟩)
theorem aqD (J : List (List UInt8)) (r : Bool) (h : AK J = some r) : aT aI 163 [.slice (J.map bu)] (.bool r) [] := by
 refine aT.bZ (fx := [0]) b0 [.tmp 2] [(0, .slice (J.map bu))] Tryz.func163 rfl rfl abI (Nat.le_of_ble_eq_true rfl) rfl rfl (fun bY ao bW => ?_)
 refine ws _ ?_
 refine aN (fun eo bX bn an => ?_)
 refine ws _ ?_
 refine bH (fun dR eJ b9 bk bp => ?_)
 have fl : ∀ (n : Nat) (iT : Int), sg J n iT = some r → dA aI Lb dR (aa [(0, .slice (J.map bu)), (3, .int .i64 iT)]) := by
  intro ch
  induction ch with
  | zero => intro iT h; cases (show none = some r from h)
  | succ ch e7 =>
   intro iT h
   replace h : AJ (sg J ch) J iT = some r := h
   refine dN (fun g3 dS dD bs => ?_)
   refine aN (fun fh dB dK b7 => ?_)
   refine ws _ ?_
   rcases aQ h with ⟨a6, h⟩ | ⟨a6, h⟩
   ·refine aW (congrArg I.bool a6) ?_
    simp only [a6, Bool.not_true, Bool.not_false]
    refine a5 (dB _ (.inl ?_))
    refine aN (fun et cH cd dv => ?_)
    refine bH (fun e4 cj cJ b2 c5 => ?_)
    obtain ⟨af, dJ, h⟩ := aO h
    obtain ⟨an, ez, h⟩ := aO h
    refine iE dJ (pd af _ ez) _ ?_
    rcases aQ h with ⟨eB, h⟩ | ⟨eB, h⟩
    ·refine aW (congrArg I.bool eB) ?_
     simp only [(c8 eB), Bool.not_true, Bool.not_false]
     refine ws _ ?_
     exact aK (cJ _ (cd _ (dD _ (b9 _ (bn _ (ao _ (.inl (aL [.bool false] rfl (by cases aH h; rfl) (by decide) aM))))))))
    ·refine aZ (congrArg I.bool eB) ?_
     simp only [(br eB), Bool.not_true, Bool.not_false]
     refine a5 (cj _ (cH _ (.inl ?_)))
     refine wr _ ?_
     exact dS _ (.inr ⟨_, bq rfl, e7 (IntKind.i64.wrap (iT + 1)) h⟩)
   ·refine aZ (congrArg I.bool a6) ?_
    simp only [a6, Bool.not_true, Bool.not_false]
    refine dL (b7 0 _ (bs 0 _ (bk _ (bX _ (.inl ?_)))))
    refine ws _ ?_
    exact aK (ao _ (.inl (aL [.bool true] rfl (by cases aH h; rfl) (by decide) aM)))
 obtain ⟨n, h⟩ := dH h
 exact dM (.inr ⟨_, bq rfl, fl n 0 h⟩)
set_option maxHeartbeats 800000 in
theorem Mf (J : List (List UInt8)) (r : Bool) (h : xk J = some r) : aT aI 125 [.slice (J.map bu)] (.bool r) [] := by
 refine aT.bZ (fx := [0]) b0 [.tmp 2] [(0, .slice (J.map bu))] Tryz.func125 rfl rfl abV (Nat.le_of_ble_eq_true rfl) rfl rfl (fun bY ao bW => ?_)
 refine ws _ ?_
 refine aN (fun eo bX bn an => ?_)
 rcases aQ h with ⟨bk, h⟩ | ⟨bk, h⟩
 ·refine g_ bk _ ?_
  refine aW rfl ?_
  refine ws _ ?_
  exact aK (bn _ (ao _ (.inl (aL [.bool false] rfl (by cases aH h; rfl) (by decide) aM))))
 ·obtain ⟨af, cl, h⟩ := aO h
  refine cY (b1 [(0, .slice (J.map bu)), (11, .bool (!af))] (fun P ak => ?_) ?_)
  ·simp only [aX.down, simprocAttr, eW, kK, bu, bk]
   refine ht (aqD J _ cl) rfl rfl rfl rfl (.inl (by rfl)) ?_
   simp only [aX.down, simprocAttr, eW, kK, bu, bk]
   (try simp only [bo.down, simprocAttr, bu, bk] at ak ⊢); exact ak
  rcases aQ h with ⟨iO, h⟩ | ⟨iO, h⟩
  ·refine aW (congrArg I.bool iO) ?_
   simp only [(c8 iO), Bool.not_true, Bool.not_false]
   refine ws _ ?_
   exact aK (bn _ (ao _ (.inl (aL [.bool false] rfl (by cases aH h; rfl) (by decide) aM))))
  ·refine aZ (congrArg I.bool iO) ?_
   simp only [(br iO), Bool.not_true, Bool.not_false]
   refine a5 (bX _ (.inl ?_))
   refine aN (fun et cH cd dv => ?_)
   refine ws _ ?_
   refine bH (fun i6 fF im fN eF => ?_)
   have hp : ∀ (n : Nat) (cM : Int), mQ J n cM = some r → dA aI Lc i6 (aa [(0, .slice (J.map bu)), (3, .int .i64 cM)]) := by
    intro dx
    induction dx with
    | zero => intro cM h; cases (show none = some r from h)
    | succ dx g2 =>
     intro cM h
     replace h : xj (mQ J dx) J cM = some r := h
     refine dN (fun j9 g1 iH i5 => ?_)
     refine aN (fun lr g0 gj jg => ?_)
     refine ws _ ?_
     rcases aQ h with ⟨ck, h⟩ | ⟨ck, h⟩
     ·refine aW (congrArg I.bool ck) ?_
      simp only [ck, Bool.not_true, Bool.not_false]
      refine a5 (g0 _ (.inl ?_))
      refine aN (fun oh j8 ju lP => ?_)
      refine bH (fun mn jv i7 hU mo => ?_)
      obtain ⟨an, hq, h⟩ := aO h
      obtain ⟨a0, jN, h⟩ := aO h
      refine hg rfl (hh [(0, .slice (J.map bu)), (3, .int .i64 cM), (27, .bool (!(Op.bytesLess an a0)))] (fun P ak => ?_) ?_)
      ·simp only [dF.down, simprocAttr, eW, kK, bu, hq, jN]
       refine ⟨gV (by kernel_rfl), ?_⟩
       (try simp only [bo.down, simprocAttr, bu, hq, jN] at ak ⊢); exact ak
      rcases aQ h with ⟨jj, h⟩ | ⟨jj, h⟩
      ·refine aW (congrArg I.bool jj) ?_
       simp only [jj, Bool.not_true, Bool.not_false]
       refine ws _ ?_
       exact aK (i7 _ (ju _ (iH _ (im _ (cd _ (ao _ (.inl (aL [.bool false] rfl (by cases aH h; rfl) (by decide) aM))))))))
      ·refine aZ (congrArg I.bool jj) ?_
       simp only [jj, Bool.not_true, Bool.not_false]
       refine a5 (jv _ (j8 _ (.inl ?_)))
       refine wr _ ?_
       exact g1 _ (.inr ⟨_, bq rfl, g2 (IntKind.i64.wrap (cM + 1)) h⟩)
     ·refine aZ (congrArg I.bool ck) ?_
      simp only [ck, Bool.not_true, Bool.not_false]
      refine dL (jg 0 _ (i5 0 _ (fN _ (cH _ (.inl ?_)))))
      refine ws _ ?_
      exact aK (ao _ (.inl (aL [.bool true] rfl (by cases aH h; rfl) (by decide) aM)))
   obtain ⟨n, h⟩ := dH h
   exact dM (.inr ⟨_, bq rfl, hp n 1 h⟩)
theorem aqE (J : dU) (r : Int) (h : AL J = some r) : aT aI 75 [.ref (eO J)] (.int .i64 r) [] := by
 refine aT.bZ (fx := [0]) b0 [.tmp 2] [(0, .ref (eO J))] Tryz.func75 rfl rfl acd (Nat.le_of_ble_eq_true rfl) rfl rfl (fun bY ao bW => ?_)
 refine ws _ ?_
 refine aN (fun eo bX bn an => ?_)
 obtain ⟨af, c1, h⟩ := aO h
 refine dO (ap3 J.bQ _ c1) _ ?_
 rcases aQ h with ⟨bJ, h⟩ | ⟨bJ, h⟩
 ·refine aW (congrArg I.bool bJ) ?_
  simp only [(c8 bJ), Bool.not_true, Bool.not_false]
  refine ws _ ?_
  exact aK (bn _ (ao _ (.inl (aL [.int .i64 1] rfl (by cases aH h; rfl) (by decide) aM))))
 ·refine aZ (congrArg I.bool bJ) ?_
  simp only [(br bJ), Bool.not_true, Bool.not_false]
  refine a5 (bX _ (.inl ?_))
  refine aN (fun ho dY eV dk => ?_)
  obtain ⟨an, kz, h⟩ := aO h
  refine dO (aql J _ kz) _ ?_
  rcases aQ h with ⟨b2, h⟩ | ⟨b2, h⟩
  ·refine aW (congrArg I.bool b2) ?_
   simp only [(c8 b2), Bool.not_true, Bool.not_false]
   refine ws _ ?_
   exact aK (eV _ (ao _ (.inl (aL [.int .i64 2] rfl (by cases aH h; rfl) (by decide) aM))))
  ·refine aZ (congrArg I.bool b2) ?_
   simp only [(br b2), Bool.not_true, Bool.not_false]
   refine a5 (dY _ (.inl ?_))
   refine aN (fun j9 g1 iH i5 => ?_)
   obtain ⟨a0, e5, h⟩ := aO h
   refine dO (aqm J.gX _ e5) _ ?_
   rcases aQ h with ⟨ck, h⟩ | ⟨ck, h⟩
   ·refine aW (congrArg I.bool ck) ?_
    simp only [(c8 ck), Bool.not_true, Bool.not_false]
    refine ws _ ?_
    exact aK (iH _ (ao _ (.inl (aL [.int .i64 3] rfl (by cases aH h; rfl) (by decide) aM))))
   ·refine aZ (congrArg I.bool ck) ?_
    simp only [(br ck), Bool.not_true, Bool.not_false]
    refine a5 (g1 _ (.inl ?_))
    refine aN (fun mn jv i7 mo => ?_)
    obtain ⟨bp, hq, h⟩ := aO h
    refine dO (Mf J.gQ _ hq) _ ?_
    rcases aQ h with ⟨cR, h⟩ | ⟨cR, h⟩
    ·refine aW (congrArg I.bool cR) ?_
     simp only [(c8 cR), Bool.not_true, Bool.not_false]
     refine ws _ ?_
     exact aK (i7 _ (ao _ (.inl (aL [.int .i64 4] rfl (by cases aH h; rfl) (by decide) aM))))
    ·refine aZ (congrArg I.bool cR) ?_
     simp only [(br cR), Bool.not_true, Bool.not_false]
     refine a5 (jv _ (.inl ?_))
     refine aN (fun sM k8 lQ sN => ?_)
     obtain ⟨bs, jw, h⟩ := aO h
     refine dO (Mf J.gR _ jw) _ ?_
     rcases aQ h with ⟨hV, h⟩ | ⟨hV, h⟩
     ·refine aW (congrArg I.bool hV) ?_
      simp only [(c8 hV), Bool.not_true, Bool.not_false]
      refine ws _ ?_
      exact aK (lQ _ (ao _ (.inl (aL [.int .i64 5] rfl (by cases aH h; rfl) (by decide) aM))))
     ·refine aZ (congrArg I.bool hV) ?_
      simp only [(br hV), Bool.not_true, Bool.not_false]
      refine a5 (k8 _ (.inl ?_))
      refine ws _ ?_
      exact aK (ao _ (.inl (aL [.int .i64 0] rfl (by cases aH h; rfl) (by decide) aM)))
theorem aqF (J : dU) (r : Bool) (h : AM J = some r) : aT aI 37 [.ref (eO J)] (.bool r) [] := by
 refine aT.bZ (fx := [0]) b0 [.tmp 2] [(0, .ref (eO J))] Tryz.func37 rfl rfl acg (Nat.le_of_ble_eq_true rfl) rfl rfl (fun bY ao bW => ?_)
 refine ws _ ?_
 obtain ⟨af, a3, h⟩ := aO h
 refine dO (aqE J _ a3) _ ?_
 exact aK (ao _ (.inl (aL [.bool (af == 0)] rfl (by cases aH h; rfl) (by decide) aM)))
set_option maxHeartbeats 600000 in
theorem aqG (J : dU) (r : (List (List Int))) (h : AP J = some r) : aT aI 38 [.ref (eO J)] (.aw 1 (r.map eu)) [] := by
 refine aT.bZ (fx := [0]) b0 [.tmp 2] [(0, .ref (eO J))] Tryz.func38 rfl rfl acy (Nat.le_of_ble_eq_true rfl) rfl rfl (fun bY ao bW => ?_)
 refine ws _ ?_
 refine g_ (show ∀ s, eh aI s 29 0 [] = some (.aw 1 [], s) from fun s => by kernel_rfl) _ ?_
 refine aN (fun kq gZ dX a0 => ?_)
 refine ws _ ?_
 refine bH (fun g3 dS dD bJ bs => ?_)
 have jK : ∀ (n : Nat) (bC : List (List Int)) (bt : Int), nw J n bC bt = some r → dA aI Lf g3 (aa [(0, .ref (eO J)), (3, .aw 1 (bC.map dp)), (4, .int .i64 bt)]) := by
  intro eM
  induction eM with
  | zero => intro bC bt h; cases (show none = some r from h)
  | succ eM jL =>
   intro bC bt h
   replace h : AO (nw J eM) J bC bt = some r := h
   refine dN (fun fh dB dK b7 => ?_)
   refine aN (fun ho dY eV dk => ?_)
   refine ws _ ?_
   rcases aQ h with ⟨dZ, h⟩ | ⟨dZ, h⟩
   ·refine aW (congrArg I.bool dZ) ?_
    simp only [dZ, Bool.not_true, Bool.not_false]
    refine a5 (dY _ (.inl ?_))
    refine aN (fun e4 cj cJ c5 => ?_)
    refine bH (fun i6 fF im fN eF => ?_)
    obtain ⟨af, ez, h⟩ := aO h
    refine g_ ez _ ?_
    obtain ⟨u32, e0, h⟩ := aO h
    (try simp only [List.length_append, List.length_cons, List.length_nil, List.length_map, List.length_replicate, Nat.zero_add, Nat.add_zero, Nat.reduceAdd] at e0)
    refine cY (b1 [(0, .ref (eO J)), (3, .aw 1 ((bC ++ [[bt, 0]]).map dp)), (4, .int .i64 bt), (5, .slice (af.Body.map b4))] (fun P ak => ?_) ?_)
    ·simp only [aX.down, simprocAttr, er, o4, ik, b3, eN, bf, bm, b4, eO, bP, ef, bu, dp, (show ∀ s, eh aI s 43 2 [(0, .int .i64 bt), (1, .int .i64 0)] = some (.aw 1 [.int .i64 bt, .int .i64 0], s) from fun s => by kernel_rfl), @qz aI 29 43 1 1 [.bg] rfl rfl rfl (by kernel_rfl), pH, qA, pI, qB, ep, qy, List.nil_append, List.cons_append, @qv aI 29 29 43 rfl rfl, qw, qx, all_cons, all_nil, e0, @nn _ dp 1 (fun _ => rfl)]
     (try simp only [bo.down, simprocAttr, b3, eN, bf, bm, b4, eO, bP, ef, bu, dp, (show ∀ s, eh aI s 43 2 [(0, .int .i64 bt), (1, .int .i64 0)] = some (.aw 1 [.int .i64 bt, .int .i64 0], s) from fun s => by kernel_rfl), @qz aI 29 43 1 1 [.bg] rfl rfl rfl (by kernel_rfl), pH, qA, pI, qB, ep, qy, List.nil_append, List.cons_append, @qv aI 29 29 43 rfl rfl, qw, qx, all_cons, all_nil, e0, @nn _ dp 1 (fun _ => rfl)] at ak ⊢); exact ak
    refine ws [(0, .ref (eO J)), (3, .aw 1 ((bC ++ [[bt, 0]]).map dp)), (4, .int .i64 bt), (5, .slice (af.Body.map b4)), (6, .int .i64 1)] ?_
    refine bH (fun mn jv i7 hU mo => ?_)
    have aqH : ∀ (n : Nat) (kL : List (List Int)) (i4 : Int) (iU : Int), pM (nw J eM) J af n kL i4 iU = some r → dA aI Le mn (aa [(0, .ref (eO J)), (3, .aw 1 (kL.map dp)), (4, .int .i64 i4), (5, .slice (af.Body.map b4)), (6, .int .i64 iU)]) := by
     intro Cg
     induction Cg with
     | zero => intro kL i4 iU h; cases (show none = some r from h)
     | succ Cg aqI =>
      intro kL i4 iU h
      replace h : AN (nw J eM) (pM (nw J eM) J af Cg) J af kL i4 iU = some r := h
      refine dN (fun yj pT pU yk => ?_)
      refine aN (fun Cc pc u7 sO => ?_)
      refine ws _ ?_
      rcases aQ h with ⟨jj, h⟩ | ⟨jj, h⟩
      ·refine aW (congrArg I.bool jj) ?_
       simp only [jj, Bool.not_true, Bool.not_false]
       refine a5 (pc _ (.inl ?_))
       have qX : ∀ (mR : List (List Int)) (mS : Int) (uL : Int), xl (nw J eM) (pM (nw J eM) J af Cg) J af mR mS uL = some r → dj aI Ld yj (aa [(0, .ref (eO J)), (3, .aw 1 (mR.map dp)), (4, .int .i64 mS), (5, .slice (af.Body.map b4)), (6, .int .i64 uL)]) := by
        intro mR mS uL h
        refine wr _ ?_
        exact pT _ (.inr ⟨_, bq rfl, aqI mR mS (IntKind.i64.wrap (uL + 1)) h⟩)
       refine aN (fun sM k8 lQ sN => ?_)
       refine bH (fun awl FZ awm ha awn => ?_)
       obtain ⟨an, sW, h⟩ := aO h
       rcases aQ h with ⟨hC, h⟩ | ⟨hC, h⟩
       ·obtain ⟨a0, vd, h⟩ := aO h
        refine g_ (And.intro sW (And.intro hC vd)) _ ?_
        rcases aQ h with ⟨hW, h⟩ | ⟨hW, h⟩
        ·refine aW (congrArg I.bool hW) ?_
         simp only [hW, Bool.not_true, Bool.not_false]
         obtain ⟨awo, ov, h⟩ := aO h
         (try simp only [List.length_append, List.length_cons, List.length_nil, List.length_map, List.length_replicate, Nat.zero_add, Nat.add_zero, Nat.reduceAdd] at ov)
         refine j3 (b1 [(0, .ref (eO J)), (3, .aw 1 ((kL ++ [[i4, iU]]).map dp)), (4, .int .i64 i4), (5, .slice (af.Body.map b4)), (6, .int .i64 iU)] (fun P ak => ?_) ?_)
         ·simp only [aX.down, simprocAttr, er, o4, ik, b3, eN, bf, bm, b4, eO, bP, ef, bu, dp, (show ∀ s, eh aI s 43 2 [(0, .int .i64 i4), (1, .int .i64 iU)] = some (.aw 1 [.int .i64 i4, .int .i64 iU], s) from fun s => by kernel_rfl), @qz aI 29 43 1 1 [.bg] rfl rfl rfl (by kernel_rfl), pH, qA, pI, qB, ep, qy, List.nil_append, List.cons_append, @qv aI 29 29 43 rfl rfl, qw, qx, all_cons, all_nil, ov, @nn _ dp 1 (fun _ => rfl)]
          (try simp only [bo.down, simprocAttr, b3, eN, bf, bm, b4, eO, bP, ef, bu, dp, (show ∀ s, eh aI s 43 2 [(0, .int .i64 i4), (1, .int .i64 iU)] = some (.aw 1 [.int .i64 i4, .int .i64 iU], s) from fun s => by kernel_rfl), @qz aI 29 43 1 1 [.bg] rfl rfl rfl (by kernel_rfl), pH, qA, pI, qB, ep, qy, List.nil_append, List.cons_append, @qv aI 29 29 43 rfl rfl, qw, qx, all_cons, all_nil, ov, @nn _ dp 1 (fun _ => rfl)] at ak ⊢); exact ak
         exact FZ _ (k8 _ (.inr ⟨_, bq rfl, qX (kL ++ [[i4, iU]]) i4 iU h⟩))
        ·refine aZ (congrArg I.bool hW) ?_
         simp only [hW, Bool.not_true, Bool.not_false]
         exact a5 (FZ _ (k8 _ (.inr ⟨_, bq rfl, qX kL i4 iU h⟩)))
       ·refine g_ (And.intro sW hC) _ ?_
        refine aZ rfl ?_
        exact a5 (FZ _ (k8 _ (.inr ⟨_, bq rfl, qX kL i4 iU h⟩)))
      ·refine aZ (congrArg I.bool jj) ?_
       simp only [jj, Bool.not_true, Bool.not_false]
       refine dL (sO 2 _ (yk 2 _ (hU _ (fF _ (cj _ (.inl ?_))))))
       refine wr _ ?_
       exact dB _ (.inr ⟨_, bq rfl, jL kL (IntKind.i64.wrap (i4 + 1)) h⟩)
    obtain ⟨n, h⟩ := dH h
    exact dM (.inr ⟨_, bq rfl, aqH n (bC ++ [[bt, 0]]) bt 1 h⟩)
   ·refine aZ (congrArg I.bool dZ) ?_
    simp only [dZ, Bool.not_true, Bool.not_false]
    refine dL (dk 0 _ (b7 0 _ (bJ _ (gZ _ (.inl ?_)))))
    refine ws _ ?_
    exact aK (ao _ (.inr ⟨[(2, .aw 1 (bC.map eu))], n3 [] rfl (n5 (t := 2) (d := .aw 1 (bC.map dp)) rfl rfl (.aw (Jq (fun _ => Ex rfl rfl (o9 _)) _)) (by decide) (n4)), aL [.aw 1 (bC.map eu)] rfl (by cases aH h; rfl) (by decide) aM⟩))
 obtain ⟨n, h⟩ := dH h
 exact dM (.inr ⟨_, bq rfl, jK n [] 0 h⟩)
theorem aqJ (J : dU) (r : (List (List Int)) × Int) (h : AQ J = some r) : aT aI 8 [eO J] (.tuple [.aw 1 (r.1.map eu), .int .i64 r.2]) [] := by
 refine aT.bZ (fx := [0]) b0 [.tmp 2, .tmp 3] [(0, eO J)] Tryz.func8 rfl rfl x2 (Nat.le_of_ble_eq_true rfl) rfl rfl (fun bY ao bW => ?_)
 refine ws _ ?_
 refine aN (fun eo bX bn an => ?_)
 obtain ⟨af, c1, h⟩ := aO h
 refine kl (b1 (K := eA _) [(1, .a8 (eO J)), (6, .bool (!af))] (fun P ak => ?_) (Rp [(1, .ref (eO J)), (6, .bool (!af))] (n3 [] rfl (n5 (t := 1) (d := .a8 (eO J)) (bE := .ref (eO J)) rfl rfl (Ex rfl rfl (by simp only [du, I.share, I.shares, SP] <;> rfl)) (by decide) (lk rfl (n4)))) ?_))
 ·refine fs (aqF J _ c1) rfl rfl (by simp only [aX.down, simprocAttr, pR.down, hi, hj, hk, du, @cp _ bf bf (fun _ => BW _), @cp _ eN eN (fun _ => B0 _), @cp _ bm bm (fun _ => nz _), @cp _ bu bu (fun _ => ji _), @cp _ bu bu (fun _ => ji _)] <;> rfl) rfl (.inr (by rfl)) ?_
  simp only [aX.down, simprocAttr, pR.down]
  (try simp only [bo.down, simprocAttr, pR.down] at ak ⊢); exact ak
 rcases aQ h with ⟨bJ, h⟩ | ⟨bJ, h⟩
 ·refine aW (congrArg I.bool bJ) ?_
  simp only [(c8 bJ), Bool.not_true, Bool.not_false]
  refine ws _ ?_
  exact aK (bn _ (ao _ (.inr ⟨[(2, .aw 1 []), (3, .int .i64 1)], n3 [] rfl (n5 (t := 2) (d := .bg) rfl rfl (.lG _) (by decide) (lk rfl (n4))), aL [.aw 1 [], .int .i64 1] rfl (by cases aH h; rfl) (by decide) aM⟩)))
 ·refine aZ (congrArg I.bool bJ) ?_
  simp only [(br bJ), Bool.not_true, Bool.not_false]
  refine a5 (bX _ (.inl ?_))
  obtain ⟨an, iy, h⟩ := aO h
  refine dO (aqG J _ iy) _ ?_
  refine aN (fun et cH cd dv => ?_)
  refine ws _ ?_
  rcases aQ h with ⟨fN, h⟩ | ⟨fN, h⟩
  ·refine aW (congrArg I.bool fN) ?_
   simp only [fN, Bool.not_true, Bool.not_false]
   refine ws _ ?_
   exact aK (cd _ (ao _ (.inr ⟨[(2, .aw 1 []), (3, .int .i64 5)], n3 [] rfl (n5 (t := 2) (d := .bg) rfl rfl (.lG _) (by decide) (lk rfl (n4))), aL [.aw 1 [], .int .i64 5] rfl (by cases aH h; rfl) (by decide) aM⟩)))
  ·refine aZ (congrArg I.bool fN) ?_
   simp only [fN, Bool.not_true, Bool.not_false]
   refine a5 (cH _ (.inl ?_))
   refine ws _ ?_
   exact aK (ao _ (.inl (aL [.aw 1 (an.map eu), .int .i64 0] rfl (by cases aH h; rfl) (by decide) aM)))
theorem jO (J : Int) (ab : Int) (bj : Int) (r : Bool) (h : jf J ab bj = some r) : aT aI 95 [.int .i64 J, .int .i64 ab, .int .i64 bj] (.bool r) [] := by
 refine aT.bZ (fx := [0, 1, 2]) b0 [.tmp 6] [(0, .int .i64 J), (1, .int .i64 ab), (2, .int .i64 bj)] Tryz.func95 rfl rfl acJ (Nat.le_of_ble_eq_true rfl) rfl rfl (fun bY ao bW => ?_)
 refine ws _ ?_
 refine cY (b1 [(6, .bool ((decide (ab ≤ J)) && (decide (J ≤ bj))))] (fun P ak => ?_) ?_)
 ·rcases Bool.eq_false_or_eq_true (decide (ab ≤ J)) with eY | eY
  ·simp only [aX.down, simprocAttr, eY]
   (try simp only [bo.down, simprocAttr, eY] at ak ⊢); exact ak
  ·simp only [aX.down, simprocAttr, eY]
   (try simp only [bo.down, simprocAttr, eY] at ak ⊢); exact ak
 exact aK (ao _ (.inl (aL [.bool ((decide (ab ≤ J)) && (decide (J ≤ bj)))] rfl (by cases aH h; rfl) (by decide) aM)))
theorem aqK (J : a9) (r : Bool) (h : EX J = some r) : aT aI 201 [bf J] (.bool r) [] := by
 refine aT.bZ (fx := [0]) b0 [.tmp 2] [(0, bf J)] Tryz.func201 rfl rfl acM (Nat.le_of_ble_eq_true rfl) rfl rfl (fun bY ao bW => ?_)
 refine ws _ ?_
 obtain ⟨af, a3, h⟩ := aO h
 refine dO (jO J.cZ 0 3 _ a3) _ ?_
 exact aK (ao _ (.inl (aL [.bool (!af)] rfl (by cases aH h; rfl) (by decide) aM)))
theorem aqL (J : List a9) (r : Int) (h : EY J = some r) : aT aI 203 [.slice (J.map bf), .fn 201 []] (.int .i64 r) [] := by
 refine aT.bZ (fx := [0, 1]) b0 [.tmp 4] [(0, .slice (J.map bf)), (1, .fn 201 [])] Tryz.func203 rfl rfl acX (Nat.le_of_ble_eq_true rfl) rfl rfl (fun bY ao bW => ?_)
 refine ws _ ?_
 refine aN (fun eo bX bn an => ?_)
 refine ws _ ?_
 refine bH (fun dR eJ b9 bk bp => ?_)
 have fl : ∀ (n : Nat) (c3 : Int), uM J n c3 = some r → dA aI Lg dR (aa [(0, .slice (J.map bf)), (1, .fn 201 []), (7, .int .i64 (J.length : Int)), (8, .int .i64 c3)]) := by
  intro ch
  induction ch with
  | zero => intro c3 h; cases (show none = some r from h)
  | succ ch e7 =>
   intro c3 h
   replace h : AR (uM J ch) J c3 = some r := h
   refine dN (fun g3 dS dD bs => ?_)
   refine ws _ ?_
   refine aN (fun ho dY eV dk => ?_)
   rcases aQ h with ⟨a6, h⟩ | ⟨a6, h⟩
   ·refine aW (congrArg I.bool a6) ?_
    simp only [a6, Bool.not_true, Bool.not_false]
    refine a5 (dY _ (.inl ?_))
    refine aN (fun et cH cd dv => ?_)
    refine bH (fun e4 cj cJ b2 c5 => ?_)
    refine ws _ ?_
    obtain ⟨af, ez, h⟩ := aO h
    obtain ⟨an, e5, h⟩ := aO h
    refine iE ez (aqK af _ e5) _ ?_
    rcases aQ h with ⟨ck, h⟩ | ⟨ck, h⟩
    ·refine aW (congrArg I.bool ck) ?_
     simp only [ck, Bool.not_true, Bool.not_false]
     refine ws _ ?_
     exact aK (cJ _ (cd _ (dD _ (b9 _ (bn _ (ao _ (.inl (aL [.int .i64 c3] rfl (by cases aH h; rfl) (by decide) aM))))))))
    ·refine aZ (congrArg I.bool ck) ?_
     simp only [ck, Bool.not_true, Bool.not_false]
     refine a5 (cj _ (cH _ (.inl ?_)))
     refine wr _ ?_
     exact dS _ (.inr ⟨_, bq rfl, e7 (IntKind.i64.wrap (c3 + 1)) h⟩)
   ·refine aZ (congrArg I.bool a6) ?_
    simp only [a6, Bool.not_true, Bool.not_false]
    refine dL (dk 0 _ (bs 0 _ (bk _ (bX _ (.inl ?_)))))
    refine ws _ ?_
    exact aK (ao _ (.inl (aL [.int .i64 (-1)] rfl (by cases aH h; rfl) (by decide) aM)))
 obtain ⟨n, h⟩ := dH h
 exact dM (.inr ⟨_, bq rfl, fl n 0 h⟩)
theorem aqM (J : List a9) (r : Bool) (h : EZ J = some r) : aT aI 200 [.slice (J.map bf), .fn 201 []] (.bool r) [] := by
 refine aT.bZ (fx := [0, 1]) b0 [.tmp 4] [(0, .slice (J.map bf)), (1, .fn 201 [])] Tryz.func200 rfl rfl ac0 (Nat.le_of_ble_eq_true rfl) rfl rfl (fun bY ao bW => ?_)
 refine ws _ ?_
 obtain ⟨af, a3, h⟩ := aO h
 refine dO (aqL J _ a3) _ ?_
 exact aK (ao _ (.inl (aL [.bool (decide (0 ≤ af))] rfl (by cases aH h; rfl) (by decide) aM)))
theorem aqN (J : List a9) (r : Bool) (h : AS J = some r) : aT aI 165 [.slice (J.map bf)] (.bool r) [] := by
 refine aT.bZ (fx := [0]) b0 [.tmp 2] [(0, .slice (J.map bf))] Tryz.func165 rfl rfl ac3 (Nat.le_of_ble_eq_true rfl) rfl rfl (fun bY ao bW => ?_)
 refine ws _ ?_
 obtain ⟨af, a3, h⟩ := aO h
 refine dO (aqM J _ a3) _ ?_
 exact aK (ao _ (.inl (aL [.bool (!af)] rfl (by cases aH h; rfl) (by decide) aM)))
theorem aqO (J : UInt8) (r : Bool) (h : E0 J = some r) : aT aI 202 [.int .u8 (J.toNat : Int)] (.bool r) [] := by
 refine aT.bZ (fx := [0]) b0 [.tmp 2] [(0, .int .u8 (J.toNat : Int))] Tryz.func202 rfl rfl ac6 (Nat.le_of_ble_eq_true rfl) rfl rfl (fun bY ao bW => ?_)
 refine ws _ ?_
 refine cY (b1 [(2, .bool ((decide (48 ≤ (J.toNat : Int))) && (decide ((J.toNat : Int) ≤ 57))))] (fun P ak => ?_) ?_)
 ·rcases Bool.eq_false_or_eq_true (decide (48 ≤ (J.toNat : Int))) with eY | eY
  ·simp only [aX.down, simprocAttr, eY]
   (try simp only [bo.down, simprocAttr, eY] at ak ⊢); exact ak
  ·simp only [aX.down, simprocAttr, eY]
   (try simp only [bo.down, simprocAttr, eY] at ak ⊢); exact ak
 exact aK (ao _ (.inl (aL [.bool ((decide (48 ≤ (J.toNat : Int))) && (decide ((J.toNat : Int) ≤ 57)))] rfl (by cases aH h; rfl) (by decide) aM)))
set_option maxHeartbeats 600000 in
theorem Ch (J : List UInt8) (r : Bool) (h : xo J = some r) : aT aI 166 [.str J] (.bool r) [] := by
 refine aT.bZ (fx := [0]) b0 [.tmp 2] [(0, .str J)] Tryz.func166 rfl rfl adj (Nat.le_of_ble_eq_true rfl) rfl rfl (fun bY ao bW => ?_)
 refine ws _ ?_
 refine aN (fun eo bX bn an => ?_)
 refine ws _ ?_
 refine bH (fun dR eJ b9 bk bp => ?_)
 have fl : ∀ (n : Nat) (eG : Int), pN J n eG = some r → dA aI Lh dR (aa [(0, .str J), (6, .int .i64 (J.length : Int)), (7, .int .i64 eG)]) := by
  intro ch
  induction ch with
  | zero => intro eG h; cases (show none = some r from h)
  | succ ch e7 =>
   intro eG h
   replace h : xn (pN J ch) J eG = some r := h
   refine dN (fun g3 dS dD bs => ?_)
   refine ws _ ?_
   refine aN (fun ho dY eV dk => ?_)
   rcases aQ h with ⟨a6, h⟩ | ⟨a6, h⟩
   ·refine aW (congrArg I.bool a6) ?_
    simp only [a6, Bool.not_true, Bool.not_false]
    refine a5 (dY _ (.inl ?_))
    refine aN (fun et cH cd dv => ?_)
    refine bH (fun e4 cj cJ b2 c5 => ?_)
    refine ws _ ?_
    obtain ⟨af, ez, h⟩ := aO h
    refine cY (b1 [(0, .str J), (3, .int .i64 eG), (4, .bool ((decide (97 ≤ (af.toNat : Int))) && (decide ((af.toNat : Int) ≤ 122)))), (6, .int .i64 (J.length : Int)), (7, .int .i64 eG)] (fun P ak => ?_) ?_)
    ·rcases Bool.eq_false_or_eq_true (decide (97 ≤ (af.toNat : Int))) with nA | nA
     ·simp only [aX.down, simprocAttr, eW, ez, nA]
      (try simp only [bo.down, simprocAttr, ez, nA] at ak ⊢); exact ak
     ·simp only [aX.down, simprocAttr, eW, ez, nA]
      (try simp only [bo.down, simprocAttr, ez, nA] at ak ⊢); exact ak
    rcases aQ h with ⟨h4, h⟩ | ⟨h4, h⟩
    ·rcases aQ h with ⟨hU, h⟩ | ⟨hU, h⟩
     ·refine g_ (And.intro h4 hU) _ ?_
      refine aW rfl ?_
      refine ws _ ?_
      exact aK (cJ _ (cd _ (dD _ (b9 _ (bn _ (ao _ (.inl (aL [.bool false] rfl (by cases aH h; rfl) (by decide) aM))))))))
     ·obtain ⟨an, hq, h⟩ := aO h
      refine cY (b1 [(0, .str J), (6, .int .i64 (J.length : Int)), (7, .int .i64 eG), (32, .bool (!an))] (fun P ak => ?_) ?_)
      ·simp only [aX.down, simprocAttr, eW, h4, hU, ez]
       refine ht (aqO af _ hq) rfl rfl rfl rfl (.inl (by rfl)) ?_
       simp only [aX.down, simprocAttr, eW, h4, hU, ez]
       (try simp only [bo.down, simprocAttr, h4, hU, ez] at ak ⊢); exact ak
      rcases aQ h with ⟨cR, h⟩ | ⟨cR, h⟩
      ·refine aW (congrArg I.bool cR) ?_
       simp only [(c8 cR), Bool.not_true, Bool.not_false]
       refine ws _ ?_
       exact aK (cJ _ (cd _ (dD _ (b9 _ (bn _ (ao _ (.inl (aL [.bool false] rfl (by cases aH h; rfl) (by decide) aM))))))))
      ·refine aZ (congrArg I.bool cR) ?_
       simp only [(br cR), Bool.not_true, Bool.not_false]
       refine a5 (cj _ (cH _ (.inl ?_)))
       refine wr _ ?_
       exact dS _ (.inr ⟨_, bq rfl, e7 (IntKind.i64.wrap (eG + 1)) h⟩)
    ·refine g_ h4 _ ?_
     refine aZ rfl ?_
     refine a5 (cj _ (cH _ (.inl ?_)))
     refine wr _ ?_
     exact dS _ (.inr ⟨_, bq rfl, e7 (IntKind.i64.wrap (eG + 1)) h⟩)
   ·refine aZ (congrArg I.bool a6) ?_
    simp only [a6, Bool.not_true, Bool.not_false]
    refine dL (dk 0 _ (bs 0 _ (bk _ (bX _ (.inl ?_)))))
    refine cY (b1 [(2, .bool ((decide (1 ≤ (J.length : Int))) && (decide ((J.length : Int) ≤ 10))))] (fun P ak => ?_) ?_)
    ·rcases Bool.eq_false_or_eq_true (decide (1 ≤ (J.length : Int))) with sI | sI
     ·simp only [aX.down, simprocAttr, eW, sI]
      (try simp only [bo.down, simprocAttr, sI] at ak ⊢); exact ak
     ·simp only [aX.down, simprocAttr, eW, sI]
      (try simp only [bo.down, simprocAttr, sI] at ak ⊢); exact ak
    exact aK (ao _ (.inl (aL [.bool ((decide (1 ≤ (J.length : Int))) && (decide ((J.length : Int) ≤ 10)))] rfl (by cases aH h; rfl) (by decide) aM)))
 obtain ⟨n, h⟩ := dH h
 exact dM (.inr ⟨_, bq rfl, fl n 0 h⟩)
theorem aqP (J : a9) (ab : List UInt8) (r : Bool) (h : E1 J ab = some r) : aT aI 204 [bf J, .ref (.str ab)] (.bool r) [] := by
 refine aT.bZ (fx := [0, 1]) b0 [.tmp 3] [(0, bf J), (1, .ref (.str ab))] Tryz.func204 rfl rfl adm (Nat.le_of_ble_eq_true rfl) rfl rfl (fun bY ao bW => ?_)
 refine ws _ ?_
 refine ws _ ?_
 exact aK (ao _ (.inl (aL [.bool (J.Name == ab)] rfl (by cases aH h; rfl) (by decide) aM)))
theorem aqQ (J : List a9) (ab : List UInt8) (r : Int) (h : E2 J ab = some r) : aT aI 203 [.slice (J.map bf), .fn 204 [.ref (.str ab)]] (.int .i64 r) [] := by
 refine aT.bZ (fx := [0, 1]) b0 [.tmp 4] [(0, .slice (J.map bf)), (1, .fn 204 [.ref (.str ab)])] Tryz.func203 rfl rfl adx (Nat.le_of_ble_eq_true rfl) rfl rfl (fun bY ao bW => ?_)
 refine ws _ ?_
 refine aN (fun eo bX bn an => ?_)
 refine ws _ ?_
 refine bH (fun dR eJ b9 bk bp => ?_)
 have fl : ∀ (n : Nat) (c3 : Int), uN J ab n c3 = some r → dA aI Li dR (aa [(0, .slice (J.map bf)), (1, .fn 204 [.ref (.str ab)]), (7, .int .i64 (J.length : Int)), (8, .int .i64 c3)]) := by
  intro ch
  induction ch with
  | zero => intro c3 h; cases (show none = some r from h)
  | succ ch e7 =>
   intro c3 h
   replace h : AU (uN J ab ch) J ab c3 = some r := h
   refine dN (fun g3 dS dD bs => ?_)
   refine ws _ ?_
   refine aN (fun ho dY eV dk => ?_)
   rcases aQ h with ⟨a6, h⟩ | ⟨a6, h⟩
   ·refine aW (congrArg I.bool a6) ?_
    simp only [a6, Bool.not_true, Bool.not_false]
    refine a5 (dY _ (.inl ?_))
    refine aN (fun et cH cd dv => ?_)
    refine bH (fun e4 cj cJ b2 c5 => ?_)
    refine ws _ ?_
    obtain ⟨af, ez, h⟩ := aO h
    obtain ⟨an, e5, h⟩ := aO h
    refine iE ez (aqP af ab _ e5) _ ?_
    rcases aQ h with ⟨ck, h⟩ | ⟨ck, h⟩
    ·refine aW (congrArg I.bool ck) ?_
     simp only [ck, Bool.not_true, Bool.not_false]
     refine ws _ ?_
     exact aK (cJ _ (cd _ (dD _ (b9 _ (bn _ (ao _ (.inl (aL [.int .i64 c3] rfl (by cases aH h; rfl) (by decide) aM))))))))
    ·refine aZ (congrArg I.bool ck) ?_
     simp only [ck, Bool.not_true, Bool.not_false]
     refine a5 (cj _ (cH _ (.inl ?_)))
     refine wr _ ?_
     exact dS _ (.inr ⟨_, bq rfl, e7 (IntKind.i64.wrap (c3 + 1)) h⟩)
   ·refine aZ (congrArg I.bool a6) ?_
    simp only [a6, Bool.not_true, Bool.not_false]
    refine dL (dk 0 _ (bs 0 _ (bk _ (bX _ (.inl ?_)))))
    refine ws _ ?_
    exact aK (ao _ (.inl (aL [.int .i64 (-1)] rfl (by cases aH h; rfl) (by decide) aM)))
 obtain ⟨n, h⟩ := dH h
 exact dM (.inr ⟨_, bq rfl, fl n 0 h⟩)
theorem aqR (J : List a9) (ab : List UInt8) (r : Int) (h : AV J ab = some r) : aT aI 167 [.slice (J.map bf), .str ab] (.int .i64 r) [] := by
 refine aT.bZ (fx := [0, 1]) b0 [.tmp 4] [(0, .slice (J.map bf)), (1, .str ab)] Tryz.func167 rfl rfl adA (Nat.le_of_ble_eq_true rfl) rfl rfl (fun bY ao bW => ?_)
 refine ws _ ?_
 obtain ⟨af, a3, h⟩ := aO h
 refine cY (b1 [(4, .int .i64 af)] (fun P ak => ?_) ?_)
 ·simp only [aX.down, simprocAttr, hS.down]
  refine fs (aqQ J ab _ a3) rfl rfl (by simp only [aX.down, simprocAttr, hS.down, hi, hj, hk, du] <;> rfl) rfl (.inr (by rfl)) ?_
  simp only [aX.down, simprocAttr, hS.down]
  (try simp only [bo.down, simprocAttr, hS.down] at ak ⊢); exact ak
 exact aK (ao _ (.inl (aL [.int .i64 af] rfl (by cases aH h; rfl) (by decide) aM)))
theorem Mg (J : bx) (r : Int) (h : xq J = some r) : aT aI 134 [b4 J] (.int .i64 r) [] := by
 refine aT.bZ (fx := [0]) b0 [.tmp 2] [(0, b4 J)] Tryz.func134 rfl rfl adN (Nat.le_of_ble_eq_true rfl) rfl rfl (fun bY ao bW => ?_)
 refine ws _ ?_
 refine aN (fun eo bX bn an => ?_)
 refine ws _ ?_
 refine bH (fun dR eJ b9 bk bp => ?_)
 have sP : ∀ (df : Bool), xp J df = some r → dj aI Lj dR (aa [(4, .int .i64 J.Kind), (5, .bool df)]) := by
  intro df h
  rcases aQ h with ⟨cK, h⟩ | ⟨cK, h⟩
  ·refine aW (congrArg I.bool cK) ?_
   simp only [cK, Bool.not_true, Bool.not_false]
   refine ws _ ?_
   exact aK (b9 _ (bn _ (ao _ (.inl (aL [.int .i64 1] rfl (by cases aH h; rfl) (by decide) aM)))))
  ·refine aZ (congrArg I.bool cK) ?_
   simp only [cK, Bool.not_true, Bool.not_false]
   refine ws _ ?_
   rcases aQ h with ⟨dZ, h⟩ | ⟨dZ, h⟩
   ·refine aW (congrArg I.bool dZ) ?_
    simp only [dZ, Bool.not_true, Bool.not_false]
    refine ws _ ?_
    exact aK (b9 _ (bn _ (ao _ (.inl (aL [.int .i64 2] rfl (by cases aH h; rfl) (by decide) aM)))))
   ·refine aZ (congrArg I.bool dZ) ?_
    simp only [dZ, Bool.not_true, Bool.not_false]
    refine a5 (eJ _ (bX _ (.inl ?_)))
    refine ws _ ?_
    exact aK (ao _ (.inl (aL [.int .i64 0] rfl (by cases aH h; rfl) (by decide) aM)))
 refine aN (fun g3 dS dD bs => ?_)
 refine ws _ ?_
 rcases aQ h with ⟨cU, h⟩ | ⟨cU, h⟩
 ·refine aW (congrArg I.bool cU) ?_
  simp only [cU, Bool.not_true, Bool.not_false]
  exact a5 (dS _ (.inr ⟨_, bq rfl, sP true h⟩))
 ·refine aZ (congrArg I.bool cU) ?_
  simp only [cU, Bool.not_true, Bool.not_false]
  refine ws _ ?_
  rcases aQ h with ⟨ck, h⟩ | ⟨ck, h⟩
  ·refine aW (congrArg I.bool ck) ?_
   simp only [ck, Bool.not_true, Bool.not_false]
   exact a5 (dS _ (.inr ⟨_, bq rfl, sP true h⟩))
  ·refine aZ (congrArg I.bool ck) ?_
   simp only [ck, Bool.not_true, Bool.not_false]
   refine wr _ ?_
   exact dS _ (.inr ⟨_, bq rfl, sP (J.Kind == 4) h⟩)
theorem aqS (J : a9) (ab : Int) (r : Int) (h : AX J ab = some r) : aT aI 205 [bf J, .int .i64 ab] (.int .i64 r) [] := by
 refine aT.bZ (fx := [0]) b0 [.tmp 4] [(0, bf J), (1, .int .i64 ab)] Tryz.func205 rfl rfl adY (Nat.le_of_ble_eq_true rfl) rfl rfl (fun bY ao bW => ?_)
 refine ws _ ?_
 refine aN (fun eo bX bn an => ?_)
 refine ws _ ?_
 refine bH (fun dR eJ b9 bk bp => ?_)
 have fl : ∀ (n : Nat) (aY : Int) (aJ : Int), si J n aY aJ = some r → dA aI Lk dR (aa [(1, .int .i64 aY), (2, .a8 (bf J)), (5, .int .i64 aJ)]) := by
  intro ch
  induction ch with
  | zero => intro aY aJ h; cases (show none = some r from h)
  | succ ch e7 =>
   intro aY aJ h
   replace h : AW (si J ch) J aY aJ = some r := h
   refine dN (fun g3 dS dD bs => ?_)
   refine aN (fun fh dB dK b7 => ?_)
   refine ws _ ?_
   rcases aQ h with ⟨a6, h⟩ | ⟨a6, h⟩
   ·refine aW (congrArg I.bool a6) ?_
    simp only [a6, Bool.not_true, Bool.not_false]
    refine a5 (dB _ (.inl ?_))
    refine aN (fun et cH cd dv => ?_)
    refine bH (fun e4 cj cJ b2 c5 => ?_)
    refine aN (fun i6 fF im eF => ?_)
    refine ws _ ?_
    rcases aQ h with ⟨cU, h⟩ | ⟨cU, h⟩
    ·refine aW (congrArg I.bool cU) ?_
     simp only [cU, Bool.not_true, Bool.not_false]
     refine ws _ ?_
     exact aK (im _ (cJ _ (cd _ (dD _ (b9 _ (bn _ (ao _ (.inl (aL [.int .i64 (-1)] rfl (by cases aH h; rfl) (by decide) aM)))))))))
    ·refine aZ (congrArg I.bool cU) ?_
     simp only [cU, Bool.not_true, Bool.not_false]
     refine a5 (fF _ (.inl ?_))
     obtain ⟨af, cN, h⟩ := aO h
     obtain ⟨an, eI, h⟩ := aO h
     refine Fx cN (Mg af _ eI) _ ?_
     refine cj _ (cH _ (.inl ?_))
     refine wr _ ?_
     exact dS _ (.inr ⟨_, bq rfl, e7 (IntKind.i64.wrap (aY + 1)) (IntKind.i64.wrap (aJ + (IntKind.i64.wrap (an - 1)))) h⟩)
   ·refine aZ (congrArg I.bool a6) ?_
    simp only [a6, Bool.not_true, Bool.not_false]
    refine dL (b7 0 _ (bs 0 _ (bk _ (bX _ (.inl ?_)))))
    refine ws _ ?_
    exact aK (ao _ (.inl (aL [.int .i64 aY] rfl (by cases aH h; rfl) (by decide) aM)))
 obtain ⟨n, h⟩ := dH h
 exact dM (.inr ⟨_, bq rfl, fl n ab 1 h⟩)
theorem aqT (lp : Int → cg → (List cg) → a9 → Option (Int × (List cg))) (aqU : ∀ (J : Int) (ab : cg) (bj : List cg) (dy : a9) (r : Int × (List cg)), lp J ab bj dy = some r → lJ aI 133 2 4 [.int .i64 J, db ab, .a8 (.aw 2 (bj.map db)), .ref (bf dy), .ref (.hole)] (.int .i64 r.1) [.hole, .hole, .a8 (.aw 2 (r.2.map db)), .hole, .hole]) (J : Int) (ab : cg) (bj : List cg) (dy : a9) (r : Int × (List cg)) (h : E3 lp J ab bj dy = some r) : lJ aI 133 2 4 [.int .i64 J, db ab, .a8 (.aw 2 (bj.map db)), .ref (bf dy), .ref (.hole)] (.int .i64 r.1) [.hole, .hole, .a8 (.aw 2 (r.2.map db)), .hole, .hole] := by
 refine lJ.bZ (fx := [0, 1, 2, 3, 4]) b0 [.tmp 7] [(0, .int .i64 J), (1, db ab), (2, .a8 (.aw 2 (bj.map db))), (3, .ref (bf dy)), (4, .ref (.hole))] Tryz.func133 rfl rfl aeb (Nat.le_of_ble_eq_true rfl) aea rfl rfl (fun bY ao bW => ?_)
 refine ws _ ?_
 obtain ⟨af, a3, h⟩ := aO h
 refine cY (b1 [(0, .int .i64 J), (2, .a8 (.aw 2 ((List.set bj (Int.toNat J) ab).map db))), (3, .ref (bf dy)), (4, .ref (.hole)), (6, .a8 (db ab))] (fun P ak => ?_) ?_)
 ·simp only [aX.down, simprocAttr, er, qI, wN, qJ, bf, b4, bP, db, ef, a3, c_ a3, ep, ei]
  (try simp only [bo.down, simprocAttr, mX.down, a3, c_ a3, ep, ei] at ak ⊢); exact ak
 obtain ⟨an, c6, h⟩ := aO h
 refine g_ c6 [(0, .int .i64 J), (2, .a8 (.aw 2 ((List.set bj (Int.toNat J) ab).map db))), (3, .ref (bf dy)), (4, .ref (.hole)), (6, .a8 (db ab)), (8, .a8 (b4 an))] ?_
 refine g_ (show ∀ s, fX aI s 132 [(0, .int .i64 ab.scope), (1, .bool (an.Kind == 1))] = some (.agg [.int .i64 ab.scope, .bool (an.Kind == 1)], s) from fun s => by kernel_rfl) [(0, .int .i64 J), (2, .a8 (.aw 2 ((List.set bj (Int.toNat J) ab).map db))), (3, .ref (bf dy)), (4, .ref (.hole)), (8, .a8 (b4 an)), (9, .a8 (.agg [.int .i64 ab.scope, .bool (an.Kind == 1)]))] ?_
 have Mh : ∀ (kp : Int), AZ lp J ab bj dy an kp = some r → dj aI Lm bY (aa [(0, .int .i64 J), (2, .a8 (.aw 2 ((List.set bj (Int.toNat J) ab).map db))), (3, .ref (bf dy)), (4, .ref (.hole)), (8, .a8 (b4 an)), (9, .a8 (.agg [.int .i64 kp, .bool (an.Kind == 1)]))]) := by
  intro kp h
  refine ws [(2, .a8 (.aw 2 ((List.set bj (Int.toNat J) ab).map db))), (3, .ref (bf dy)), (4, .ref (.hole)), (8, .a8 (b4 an)), (9, .a8 (.agg [.int .i64 kp, .bool (an.Kind == 1)])), (10, .int .i64 (IntKind.i64.wrap (J + 1)))] ?_
  refine aN (fun et cH cd dv => ?_)
  obtain ⟨a0, nN, h⟩ := aO h
  refine dO (Mg an _ nN) [(2, .a8 (.aw 2 ((List.set bj (Int.toNat J) ab).map db))), (3, .ref (bf dy)), (4, .ref (.hole)), (9, .a8 (.agg [.int .i64 kp, .bool (an.Kind == 1)])), (10, .int .i64 (IntKind.i64.wrap (J + 1))), (36, .int .i64 a0), (37, .int .i64 0)] ?_
  refine bH (fun j9 g1 iH cG i5 => ?_)
  have aqV : ∀ (n : Nat) (ob : List cg) (mT : Int) (nx : Int), qP lp dy kp an a0 n ob mT nx = some r → dA aI Ll j9 (aa [(2, .a8 (.aw 2 (ob.map db))), (3, .ref (bf dy)), (4, .ref (.hole)), (9, .a8 (.agg [.int .i64 kp, .bool (an.Kind == 1)])), (10, .int .i64 mT), (36, .int .i64 a0), (37, .int .i64 nx)]) := by
   intro F1
   induction F1 with
   | zero => intro ob mT nx h; cases (show none = some r from h)
   | succ F1 aqW =>
    intro ob mT nx h
    replace h : AY lp (qP lp dy kp an a0 F1) dy kp an a0 ob mT nx = some r := h
    refine dN (fun lr g0 gj jg => ?_)
    refine ws _ ?_
    refine aN (fun mm hT hy jh => ?_)
    rcases aQ h with ⟨h4, h⟩ | ⟨h4, h⟩
    ·refine aW (congrArg I.bool h4) ?_
     simp only [h4, Bool.not_true, Bool.not_false]
     refine a5 (hT _ (.inl ?_))
     refine aN (fun mn jv i7 mo => ?_)
     refine bH (fun yj pT pU ea yk => ?_)
     obtain ⟨bp, jN, h⟩ := aO h
     refine RO [(2, .a8 (.aw 2 (bp.2.map db))), (3, .ref (bf dy)), (4, .ref (.hole)), (9, .a8 (.agg [.int .i64 kp, .bool (an.Kind == 1)])), (10, .int .i64 bp.1), (36, .int .i64 a0), (37, .int .i64 nx)] (fun P ak => ?_) ?_
     ·simp only [aX.down, simprocAttr, Fy.down, n9]
      refine JG [⟨.int .i64 mT, false, _, .hole⟩, ⟨.agg [.int .i64 kp, .bool (an.Kind == 1)], false, _, .hole⟩, ⟨.h 2 [], true, _, _⟩, ⟨.ref (bf dy), false, _, .hole⟩, ⟨.ref (.hole), false, _, .hole⟩] (aqU mT (cg.mk kp (an.Kind == 1)) ob dy _ jN) rfl (by simp only [aX.down, simprocAttr, Fy.down, n9, o1, mc, jr, hi, hj, hk, du, or_true, true_or, @cp _ db db (fun _ => KD _)]) rfl rfl (.inl rfl) ?_
      simp only [aX.down, simprocAttr, Fy.down, n9, me]
      (try simp only [bo.down, simprocAttr, mX.down, n9] at ak ⊢); exact ak
     refine pT _ (jv _ (.inl ?_))
     refine wr _ ?_
     exact g0 _ (.inr ⟨_, bq rfl, aqW bp.2 bp.1 (IntKind.i64.wrap (nx + 1)) h⟩)
    ·refine aZ (congrArg I.bool h4) ?_
     simp only [h4, Bool.not_true, Bool.not_false]
     refine dL (jh 0 _ (jg 0 _ (cG _ (cH _ (.inl ?_)))))
     refine ws _ ?_
     exact aK (ao _ (.inl (aL [.int .i64 mT] rfl (by cases aH h; rfl) (by decide) (n6 (mf (mf (n7 (by cases aH h; rfl) rfl rfl rfl (mf (mf (n8))))))))))
  obtain ⟨n, h⟩ := dH h
  exact dM (.inr ⟨_, bq rfl, aqV n (List.set bj (Int.toNat J) ab) (IntKind.i64.wrap (J + 1)) 0 h⟩)
 refine aN (fun ho dY eV dk => ?_)
 refine ws [(0, .int .i64 J), (2, .a8 (.aw 2 ((List.set bj (Int.toNat J) ab).map db))), (3, .ref (bf dy)), (4, .ref (.hole)), (8, .a8 (b4 an)), (9, .a8 (.agg [.int .i64 ab.scope, .bool (an.Kind == 1)])), (28, .bool (an.Kind == 4))] ?_
 rcases aQ h with ⟨ha, h⟩ | ⟨ha, h⟩
 ·refine aW (congrArg I.bool ha) ?_
  simp only [ha, Bool.not_true, Bool.not_false]
  refine wr [(0, .int .i64 J), (2, .a8 (.aw 2 ((List.set bj (Int.toNat J) ab).map db))), (3, .ref (bf dy)), (4, .ref (.hole)), (8, .a8 (b4 an)), (9, .a8 (.agg [.int .i64 (IntKind.i64.wrap (ab.scope + 1)), .bool (an.Kind == 1)]))] ?_
  exact dY _ (.inr ⟨_, bq rfl, Mh (IntKind.i64.wrap (ab.scope + 1)) h⟩)
 ·refine aZ (congrArg I.bool ha) ?_
  simp only [ha, Bool.not_true, Bool.not_false]
  exact a5 (dY _ (.inr ⟨_, bq rfl, Mh ab.scope h⟩))
theorem aqX : ∀ (n : Nat) (J : Int) (ab : cg) (bj : List cg) (dy : a9) (r : Int × (List cg)), sj n J ab bj dy = some r → lJ aI 133 2 4 [.int .i64 J, db ab, .a8 (.aw 2 (bj.map db)), .ref (bf dy), .ref (.hole)] (.int .i64 r.1) [.hole, .hole, .a8 (.aw 2 (r.2.map db)), .hole, .hole] := by
 intro n
 induction n with
 | zero => intro J ab bj dy r h; cases (show none = some r from h)
 | succ n ih => intro J ab bj dy r h; exact aqT (sj n) ih J ab bj dy r h
theorem aqY (J : Int) (ab : cg) (bj : List cg) (dy : a9) (r : Int × (List cg)) (h : A0 J ab bj dy = some r) : lJ aI 133 2 4 [.int .i64 J, db ab, .a8 (.aw 2 (bj.map db)), .ref (bf dy), .ref (.hole)] (.int .i64 r.1) [.hole, .hole, .a8 (.aw 2 (r.2.map db)), .hole, .hole] := by
 obtain ⟨n, h⟩ := dH h
 exact aqX n J ab bj dy r h
theorem Mi (J : a9) (r : (List cg)) (h : xr J = some r) : aT aI 80 [bf J] (.aw 2 (r.map db)) [] := by
 refine aT.Sz (fx := [0]) b0 [.tmp 2] [(0, bf J)] Tryz.func80 rfl rfl aeg (Nat.le_of_ble_eq_true rfl) aef rfl rfl (fun bY ao bW => ?_)
 refine ws _ ?_
 obtain ⟨Dl, a3, h⟩ := aO h
 refine cY (b1 [(1, .a8 (bf J)), (3, .a8 (.aw 2 ((List.replicate (Int.toNat (J.Body.length : Int)) (cg.mk 0 false)).map db)))] (fun P ak => ?_) ?_)
 ·simp only [aX.down, simprocAttr, er, qI, eW, j4, lK, gW, il, wN, qJ, gw, gh, bf, b4, bP, db, ef, (e1 a3).1, (e1 a3).2.1, (e1 a3).2.2, eU, List.map_replicate, -Int.reduceNatCast']
  (try simp only [bo.down, simprocAttr, mX.down, (e1 a3).1, (e1 a3).2.1, (e1 a3).2.2, eU, List.map_replicate, -Int.reduceNatCast'] at ak ⊢); exact ak
 obtain ⟨af, c6, h⟩ := aO h
 refine Sw [(3, .a8 (.aw 2 (af.2.map db)))] (fun P ak => ?_) ?_
 ·simp only [aX.down, simprocAttr, Fz.down, (show ∀ s, fX aI s 132 [(0, .int .i64 J.cZ)] = some (.agg [.int .i64 J.cZ, .bool false], s) from fun s => by kernel_rfl), n9]
  refine JG [⟨.int .i64 0, false, _, .hole⟩, ⟨.agg [.int .i64 J.cZ, .bool false], false, _, .hole⟩, ⟨.h 3 [], true, _, _⟩, ⟨.h 1 [], false, _, .hole⟩, ⟨.ref (.hole), false, _, .hole⟩] (aqY 0 (cg.mk J.cZ false) (List.replicate (Int.toNat (J.Body.length : Int)) (cg.mk 0 false)) J _ c6) rfl (by simp only [aX.down, simprocAttr, Fz.down, (show ∀ s, fX aI s 132 [(0, .int .i64 J.cZ)] = some (.agg [.int .i64 J.cZ, .bool false], s) from fun s => by kernel_rfl), n9, o1, mc, jr, hi, hj, hk, du, or_true, true_or, @cp _ db db (fun _ => KD _), @cp _ b4 b4 (fun _ => Fs _)]) rfl rfl ((.inr (by simp only [pJ, I.cW, I.hJ, Bool.and_self, @kI _ db (fun _ => SR _)]))) ?_
  simp only [aX.down, simprocAttr, Fz.down, (show ∀ s, fX aI s 132 [(0, .int .i64 J.cZ)] = some (.agg [.int .i64 J.cZ, .bool false], s) from fun s => by kernel_rfl), n9, me]
  (try simp only [bo.down, simprocAttr, mX.down, (show ∀ s, fX aI s 132 [(0, .int .i64 J.cZ)] = some (.agg [.int .i64 J.cZ, .bool false], s) from fun s => by kernel_rfl), n9] at ak ⊢); exact ak
 refine ws _ ?_
 exact aK (ao _ (.inl (aL [.aw 2 (af.2.map db)] rfl (by cases aH h; rfl) (by decide) aM)))
set_option maxHeartbeats 4600000 in
theorem aqZ (J : bx) (r : Bool) (h : E4 J = some r) : aT aI 219 [b4 J] (.bool r) [] := by
 refine aT.bZ (fx := [0]) b0 [.tmp 2] [(0, b4 J)] Tryz.func219 rfl rfl ael (Nat.le_of_ble_eq_true rfl) rfl rfl (fun bY ao bW => ?_)
 refine ws _ ?_
 refine cY (b1 [(1, .a8 (b4 J)), (3, .bool ((J.Kind == 4) || (J.Kind == 5)))] (fun P ak => ?_) ?_)
 ·rcases Bool.eq_false_or_eq_true (J.Kind == 4) with eY | eY
  ·simp only [aX.down, simprocAttr, nB.down, eY]
   (try simp only [bo.down, simprocAttr, ml.down, eY] at ak ⊢); exact ak
  ·simp only [aX.down, simprocAttr, nB.down, eY]
   (try simp only [bo.down, simprocAttr, ml.down, eY] at ak ⊢); exact ak
 refine cY (b1 [(1, .a8 (b4 J)), (3, .bool ((J.Kind == 4) || (J.Kind == 5))), (4, .bool (((J.Kind == 1) || (J.Kind == 3)) || (J.Kind == 5)))] (fun P ak => ?_) ?_)
 ·(rcases Bool.eq_false_or_eq_true (J.Kind == 1) with F2 | F2) <;> (rcases Bool.eq_false_or_eq_true (J.Kind == 3) with F3 | F3) <;>
   (simp only [aX.down, simprocAttr, nB.down, F2, F3]
    (try simp only [bo.down, simprocAttr, ml.down, F2, F3] at ak ⊢); exact ak)
 obtain ⟨af, iy, h⟩ := aO h
 refine cY (b1 [(2, .bool (((af && (((J.Kind == 4) || (J.Kind == 5)) || (J.Number == 0))) && ((J.Kind == 1) || (J.Name == ([] : List UInt8)))) && ((((J.Kind == 1) || (J.Kind == 3)) || (J.Kind == 5)) || ((J.cr.length : Int) == 0))))] (fun P ak => ?_) ?_)
 ·(rcases Bool.eq_false_or_eq_true (af) with mj | mj) <;> (rcases Bool.eq_false_or_eq_true (J.Kind == 4) with o_ | o_) <;> (rcases Bool.eq_false_or_eq_true (J.Kind == 5) with uZ | uZ) <;> (rcases Bool.eq_false_or_eq_true (J.Number == 0) with u0 | u0) <;> (rcases Bool.eq_false_or_eq_true (J.Kind == 1) with u1 | u1) <;> (rcases Bool.eq_false_or_eq_true (J.Name == ([] : List UInt8)) with nA | nA) <;> (rcases Bool.eq_false_or_eq_true (J.Kind == 3) with u2 | u2) <;>
   (simp only [aX.down, simprocAttr, nB.down, mj, o_, uZ, u0, u1, nA, u2]
    refine fs (jO J.Kind 0 5 _ iy) rfl rfl rfl rfl (.inl (by rfl)) ?_
    simp only [aX.down, simprocAttr, nB.down, mj, o_, uZ, u0, u1, nA, u2]
    (try simp only [bo.down, simprocAttr, ml.down, mj, o_, uZ, u0, u1, nA, u2] at ak ⊢); exact ak)
 exact aK (ao _ (.inl (aL [.bool (((af && (((J.Kind == 4) || (J.Kind == 5)) || (J.Number == 0))) && ((J.Kind == 1) || (J.Name == ([] : List UInt8)))) && ((((J.Kind == 1) || (J.Kind == 3)) || (J.Kind == 5)) || ((J.cr.length : Int) == 0)))] rfl (by cases aH h; rfl) (by decide) aM)))
theorem kt (J : List UInt8) (r : Bool) (h : pO J = some r) : aT aI 149 [.str J] (.bool r) [] := by
 refine aT.bZ (fx := [0]) b0 [.tmp 2] [(0, .str J)] Tryz.func149 rfl rfl aeo (Nat.le_of_ble_eq_true rfl) rfl rfl (fun bY ao bW => ?_)
 refine ws _ ?_
 obtain ⟨af, a3, h⟩ := aO h
 refine cY (b1 [(2, .bool (af && (!(J == ([116, 97, 117] : List UInt8)))))] (fun P ak => ?_) ?_)
 ·rcases Bool.eq_false_or_eq_true (af) with g7 | g7
  ·simp only [aX.down, simprocAttr, g7]
   refine fs (Ch J _ a3) rfl rfl rfl rfl (.inl (by rfl)) ?_
   simp only [aX.down, simprocAttr, g7]
   (try simp only [bo.down, simprocAttr, g7] at ak ⊢); exact ak
  ·simp only [aX.down, simprocAttr, g7]
   refine fs (Ch J _ a3) rfl rfl rfl rfl (.inl (by rfl)) ?_
   simp only [aX.down, simprocAttr, g7]
   (try simp only [bo.down, simprocAttr, g7] at ak ⊢); exact ak
 exact aK (ao _ (.inl (aL [.bool (af && (!(J == ([116, 97, 117] : List UInt8))))] rfl (by cases aH h; rfl) (by decide) aM)))
theorem yn (J : Int) (ab : Int) (r : Bool) (h : uO J ab = some r) : aT aI 170 [.int .i64 J, .int .i64 ab] (.bool r) [] := by
 refine aT.bZ (fx := [0, 1]) b0 [.tmp 4] [(0, .int .i64 J), (1, .int .i64 ab)] Tryz.func170 rfl rfl aer (Nat.le_of_ble_eq_true rfl) rfl rfl (fun bY ao bW => ?_)
 refine ws _ ?_
 obtain ⟨af, a3, h⟩ := aO h
 refine dO (jO J 0 (IntKind.i64.wrap (ab - 1)) _ a3) _ ?_
 exact aK (ao _ (.inl (aL [.bool af] rfl (by cases aH h; rfl) (by decide) aM)))
theorem aq0 (J : bx) (ab : List a9) (r : Bool) (h : E5 J ab = some r) : aT aI 220 [b4 J, .slice (ab.map bf)] (.bool r) [] := by
 refine aT.bZ (fx := [0, 1]) b0 [.tmp 4] [(0, b4 J), (1, .slice (ab.map bf))] Tryz.func220 rfl rfl aeF (Nat.le_of_ble_eq_true rfl) rfl rfl (fun bY ao bW => ?_)
 refine ws _ ?_
 refine ws _ ?_
 refine aN (fun kq gZ dX a0 => ?_)
 refine ws _ ?_
 refine bH (fun g3 dS dD bJ bs => ?_)
 refine ws _ ?_
 rcases aQ h with ⟨iO, h⟩ | ⟨iO, h⟩
 ·refine aW (congrArg I.bool iO) ?_
  simp only [iO, Bool.not_true, Bool.not_false]
  refine cY (b1 [(4, .bool (((J.cr.length : Int) == 0) || ((!(J.Name == ([116, 97, 117] : List UInt8))) && (decide ((J.cr.length : Int) ≤ 2)))))] (fun P ak => ?_) ?_)
  ·(rcases Bool.eq_false_or_eq_true ((J.cr.length : Int) == 0) with mj | mj) <;> (rcases Bool.eq_false_or_eq_true (J.Name == ([116, 97, 117] : List UInt8)) with o_ | o_) <;>
    (simp only [aX.down, simprocAttr, x4.down, mj, o_]
     (try simp only [bo.down, simprocAttr, hS.down, mj, o_] at ak ⊢); exact ak)
  exact aK (dD _ (dX _ (ao _ (.inl (aL [.bool (((J.cr.length : Int) == 0) || ((!(J.Name == ([116, 97, 117] : List UInt8))) && (decide ((J.cr.length : Int) ≤ 2))))] rfl (by cases aH h; rfl) (by decide) aM)))))
 ·refine aZ (congrArg I.bool iO) ?_
  simp only [iO, Bool.not_true, Bool.not_false]
  refine ws _ ?_
  rcases aQ h with ⟨cG, h⟩ | ⟨cG, h⟩
  ·refine aW (congrArg I.bool cG) ?_
   simp only [cG, Bool.not_true, Bool.not_false]
   refine ws _ ?_
   exact aK (dD _ (dX _ (ao _ (.inl (aL [.bool ((J.cr.length : Int) == 1)] rfl (by cases aH h; rfl) (by decide) aM)))))
  ·refine aZ (congrArg I.bool cG) ?_
   simp only [cG, Bool.not_true, Bool.not_false]
   refine ws _ ?_
   rcases aQ h with ⟨ck, h⟩ | ⟨ck, h⟩
   ·refine aW (congrArg I.bool ck) ?_
    simp only [ck, Bool.not_true, Bool.not_false]
    obtain ⟨af, eI, h⟩ := aO h
    refine g_ eI _ ?_
    exact aK (dD _ (dX _ (ao _ (.inl (aL [.bool ((J.cr.length : Int) == af.cZ)] rfl (by cases aH h; rfl) (by decide) aM)))))
   ·refine aZ (congrArg I.bool ck) ?_
    simp only [ck, Bool.not_true, Bool.not_false]
    refine a5 (dS _ (gZ _ (.inl ?_)))
    refine ws _ ?_
    exact aK (ao _ (.inl (aL [.bool true] rfl (by cases aH h; rfl) (by decide) aM)))
theorem Mj (J : Int) (r : Bool) (h : xt J = some r) : aT aI 180 [.int .i64 J] (.bool r) [] := by
 refine aT.bZ (fx := [0]) b0 [.tmp 2] [(0, .int .i64 J)] Tryz.func180 rfl rfl aeI (Nat.le_of_ble_eq_true rfl) rfl rfl (fun bY ao bW => ?_)
 refine ws _ ?_
 obtain ⟨af, a3, h⟩ := aO h
 refine dO (jO J 0 63 _ a3) _ ?_
 exact aK (ao _ (.inl (aL [.bool af] rfl (by cases aH h; rfl) (by decide) aM)))
theorem aq1 (J : bO) (ab : Int) (r : Bool) (h : A1 J ab = some r) : aT aI 182 [bP J, .int .i64 ab] (.bool r) [] := by
 refine aT.bZ (fx := [0, 1]) b0 [.tmp 4] [(0, bP J), (1, .int .i64 ab)] Tryz.func182 rfl rfl aeY (Nat.le_of_ble_eq_true rfl) rfl rfl (fun bY ao bW => ?_)
 refine ws _ ?_
 refine aN (fun eo bX bn an => ?_)
 refine ws _ ?_
 refine bH (fun dR eJ b9 bk bp => ?_)
 refine ws _ ?_
 rcases aQ h with ⟨cK, h⟩ | ⟨cK, h⟩
 ·refine aW (congrArg I.bool cK) ?_
  simp only [cK, Bool.not_true, Bool.not_false]
  obtain ⟨af, iy, h⟩ := aO h
  refine dO (Mj J.Value _ iy) _ ?_
  exact aK (b9 _ (bn _ (ao _ (.inl (aL [.bool af] rfl (by cases aH h; rfl) (by decide) aM)))))
 ·refine aZ (congrArg I.bool cK) ?_
  simp only [cK, Bool.not_true, Bool.not_false]
  refine ws _ ?_
  rcases aQ h with ⟨b2, h⟩ | ⟨b2, h⟩
  ·refine aW (congrArg I.bool b2) ?_
   simp only [b2, Bool.not_true, Bool.not_false]
   obtain ⟨an, dJ, h⟩ := aO h
   refine dO (jO J.Value 0 (IntKind.i64.wrap (ab - 1)) _ dJ) _ ?_
   exact aK (b9 _ (bn _ (ao _ (.inl (aL [.bool an] rfl (by cases aH h; rfl) (by decide) aM)))))
  ·refine aZ (congrArg I.bool b2) ?_
   simp only [b2, Bool.not_true, Bool.not_false]
   refine ws _ ?_
   rcases aQ h with ⟨eB, h⟩ | ⟨eB, h⟩
   ·refine aW (congrArg I.bool eB) ?_
    simp only [eB, Bool.not_true, Bool.not_false]
    obtain ⟨a0, cN, h⟩ := aO h
    refine dO (jO J.Value 0 8 _ cN) _ ?_
    exact aK (b9 _ (bn _ (ao _ (.inl (aL [.bool a0] rfl (by cases aH h; rfl) (by decide) aM)))))
   ·refine aZ (congrArg I.bool eB) ?_
    simp only [eB, Bool.not_true, Bool.not_false]
    refine ws _ ?_
    rcases aQ h with ⟨ea, h⟩ | ⟨ea, h⟩
    ·refine aW (congrArg I.bool ea) ?_
     simp only [ea, Bool.not_true, Bool.not_false]
     refine ws _ ?_
     exact aK (b9 _ (bn _ (ao _ (.inl (aL [.bool (J.Value == 0)] rfl (by cases aH h; rfl) (by decide) aM)))))
    ·refine aZ (congrArg I.bool ea) ?_
     simp only [ea, Bool.not_true, Bool.not_false]
     refine a5 (eJ _ (bX _ (.inl ?_)))
     refine ws _ ?_
     exact aK (ao _ (.inl (aL [.bool false] rfl (by cases aH h; rfl) (by decide) aM)))
theorem aq2 (J : bO) (r : Int) (h : E6 J = some r) : aT aI 183 [bP J] (.int .i64 r) [] := by
 refine aT.bZ (fx := [0]) b0 [.tmp 2] [(0, bP J)] Tryz.func183 rfl rfl ae8 (Nat.le_of_ble_eq_true rfl) rfl rfl (fun bY ao bW => ?_)
 refine ws _ ?_
 refine aN (fun eo bX bn an => ?_)
 refine ws _ ?_
 refine bH (fun dR eJ b9 bk bp => ?_)
 refine ws _ ?_
 rcases aQ h with ⟨cK, h⟩ | ⟨cK, h⟩
 ·refine aW (congrArg I.bool cK) ?_
  simp only [cK, Bool.not_true, Bool.not_false]
  refine ws _ ?_
  exact aK (b9 _ (bn _ (ao _ (.inl (aL [.int .i64 2] rfl (by cases aH h; rfl) (by decide) aM)))))
 ·refine aZ (congrArg I.bool cK) ?_
  simp only [cK, Bool.not_true, Bool.not_false]
  refine ws _ ?_
  rcases aQ h with ⟨dZ, h⟩ | ⟨dZ, h⟩
  ·refine aW (congrArg I.bool dZ) ?_
   simp only [dZ, Bool.not_true, Bool.not_false]
   refine ws _ ?_
   exact aK (b9 _ (bn _ (ao _ (.inl (aL [.int .i64 1] rfl (by cases aH h; rfl) (by decide) aM)))))
  ·refine aZ (congrArg I.bool dZ) ?_
   simp only [dZ, Bool.not_true, Bool.not_false]
   refine a5 (eJ _ (bX _ (.inl ?_)))
   refine ws _ ?_
   exact aK (ao _ (.inl (aL [.int .i64 0] rfl (by cases aH h; rfl) (by decide) aM)))
set_option maxHeartbeats 600000 in
theorem aq3 (J : List bO) (ab : Int) (bj : Int) (r : Bool) (h : A3 J ab bj = some r) : aT aI 153 [.slice (J.map bP), .int .i64 ab, .int .i64 bj] (.bool r) [] := by
 refine aT.bZ (fx := [0, 1, 2]) b0 [.tmp 6] [(0, .slice (J.map bP)), (1, .int .i64 ab), (2, .int .i64 bj)] Tryz.func153 rfl rfl afn (Nat.le_of_ble_eq_true rfl) rfl rfl (fun bY ao bW => ?_)
 refine ws _ ?_
 refine aN (fun eo bX bn an => ?_)
 obtain ⟨af, c1, h⟩ := aO h
 rcases aQ h with ⟨bJ, h⟩ | ⟨bJ, h⟩
 ·refine iE (c8 bJ) (jO ab 0 29 _ c1) _ ?_
  refine aW rfl ?_
  refine ws _ ?_
  exact aK (bn _ (ao _ (.inl (aL [.bool false] rfl (by cases aH h; rfl) (by decide) aM))))
 ·obtain ⟨an, cf, h⟩ := aO h
  rcases aQ h with ⟨a6, h⟩ | ⟨a6, h⟩
  ·refine cY (b1 [(0, .slice (J.map bP)), (1, .int .i64 ab), (24, .bool true)] (fun P ak => ?_) ?_)
   ·simp only [aX.down, simprocAttr, mV.down, (br bJ), (c8 a6)]
    refine fs (jO ab 0 29 _ c1) rfl rfl rfl rfl (.inl (by rfl)) ?_
    simp only [aX.down, simprocAttr, mV.down, (br bJ), (c8 a6)]
    refine ht (jO bj 1 60 _ cf) rfl rfl rfl rfl (.inl (by rfl)) ?_
    simp only [aX.down, simprocAttr, mV.down, (br bJ), (c8 a6)]
    (try simp only [bo.down, simprocAttr, bP, (br bJ), (c8 a6)] at ak ⊢); exact ak
   refine aW rfl ?_
   refine ws _ ?_
   exact aK (bn _ (ao _ (.inl (aL [.bool false] rfl (by cases aH h; rfl) (by decide) aM))))
  ·obtain ⟨a0, nM, h⟩ := aO h
   refine cY (b1 [(0, .slice (J.map bP)), (1, .int .i64 ab), (24, .bool (!a0))] (fun P ak => ?_) ?_)
   ·simp only [aX.down, simprocAttr, mV.down, (br bJ), (br a6)]
    refine fs (jO ab 0 29 _ c1) rfl rfl rfl rfl (.inl (by rfl)) ?_
    simp only [aX.down, simprocAttr, mV.down, (br bJ), (br a6)]
    refine ht (jO bj 1 60 _ cf) rfl rfl rfl rfl (.inl (by rfl)) ?_
    simp only [aX.down, simprocAttr, mV.down, (br bJ), (br a6)]
    refine ht (jO (J.length : Int) 1 bj _ nM) rfl rfl rfl rfl (.inl (by rfl)) ?_
    simp only [aX.down, simprocAttr, mV.down, (br bJ), (br a6)]
    (try simp only [bo.down, simprocAttr, bP, (br bJ), (br a6)] at ak ⊢); exact ak
   rcases aQ h with ⟨fN, h⟩ | ⟨fN, h⟩
   ·refine aW (congrArg I.bool fN) ?_
    simp only [(c8 fN), Bool.not_true, Bool.not_false]
    refine ws _ ?_
    exact aK (bn _ (ao _ (.inl (aL [.bool false] rfl (by cases aH h; rfl) (by decide) aM))))
   ·refine aZ (congrArg I.bool fN) ?_
    simp only [(br fN), Bool.not_true, Bool.not_false]
    refine a5 (bX _ (.inl ?_))
    refine ws _ ?_
    refine aN (fun iG fv eH hn => ?_)
    refine ws _ ?_
    refine bH (fun oh j8 ju h4 lP => ?_)
    have kr : ∀ (n : Nat) (gY : Int) (mU : Int), sk J ab n gY mU = some r → dA aI Lp oh (aa [(1, .int .i64 ab), (7, .int .i64 gY), (25, .slice (J.map bP)), (26, .int .i64 (J.length : Int)), (27, .int .i64 mU)]) := by
     intro gx
     induction gx with
     | zero => intro gY mU h; cases (show none = some r from h)
     | succ gx ks =>
      intro gY mU h
      replace h : A2 (sk J ab gx) J ab gY mU = some r := h
      refine dN (fun mn jv i7 mo => ?_)
      refine ws _ ?_
      refine aN (fun Cc pc u7 sO => ?_)
      rcases aQ h with ⟨cR, h⟩ | ⟨cR, h⟩
      ·refine aW (congrArg I.bool cR) ?_
       simp only [cR, Bool.not_true, Bool.not_false]
       refine a5 (pc _ (.inl ?_))
       refine aN (fun Mk qY ve Ml => ?_)
       refine bH (fun sM k8 lQ i9 sN => ?_)
       obtain ⟨bp, jw, h⟩ := aO h
       refine g_ jw _ ?_
       refine aN (fun aq4 F4 Ci aq5 => ?_)
       rcases aQ h with ⟨hC, h⟩ | ⟨hC, h⟩
       ·refine g_ hC _ ?_
        refine aW rfl ?_
        refine ws _ ?_
        exact aK (Ci _ (lQ _ (ve _ (i7 _ (ju _ (eH _ (ao _ (.inl (aL [.bool false] rfl (by cases aH h; rfl) (by decide) aM)))))))))
       ·obtain ⟨bs, yo, h⟩ := aO h
        refine cY (b1 [(1, .int .i64 ab), (7, .int .i64 gY), (9, .a8 (bP bp)), (25, .slice (J.map bP)), (26, .int .i64 (J.length : Int)), (27, .int .i64 mU), (38, .bool (!bs))] (fun P ak => ?_) ?_)
        ·simp only [aX.down, simprocAttr, er, gh, bP, hC]
         refine ht (aq1 bp ab _ yo) rfl rfl rfl rfl (.inl (by rfl)) ?_
         simp only [aX.down, simprocAttr, er, gh, bP, hC]
         (try simp only [bo.down, simprocAttr, bP, hC] at ak ⊢); exact ak
        rcases aQ h with ⟨gF, h⟩ | ⟨gF, h⟩
        ·refine aW (congrArg I.bool gF) ?_
         simp only [(c8 gF), Bool.not_true, Bool.not_false]
         refine ws _ ?_
         exact aK (Ci _ (lQ _ (ve _ (i7 _ (ju _ (eH _ (ao _ (.inl (aL [.bool false] rfl (by cases aH h; rfl) (by decide) aM)))))))))
        ·refine aZ (congrArg I.bool gF) ?_
         simp only [(br gF), Bool.not_true, Bool.not_false]
         refine a5 (F4 _ (.inl ?_))
         obtain ⟨b7, aq6, h⟩ := aO h
         refine ao7 (aq2 bp _ aq6) _ ?_
         refine k8 _ (qY _ (.inl ?_))
         refine wr _ ?_
         exact jv _ (.inr ⟨_, bq rfl, ks (IntKind.i64.wrap (gY + (IntKind.i64.wrap (b7 - 1)))) (IntKind.i64.wrap (mU + 1)) h⟩)
      ·refine aZ (congrArg I.bool cR) ?_
       simp only [cR, Bool.not_true, Bool.not_false]
       refine dL (sO 0 _ (mo 0 _ (h4 _ (fv _ (.inl ?_)))))
       refine ws _ ?_
       exact aK (ao _ (.inl (aL [.bool (gY == 0)] rfl (by cases aH h; rfl) (by decide) aM)))
    obtain ⟨n, h⟩ := dH h
    exact dM (.inr ⟨_, bq rfl, kr n 1 0 h⟩)
theorem aq7 (J : List bO) (ab : cg) (r : Bool) (h : E7 J ab = some r) : aT aI 221 [.slice (J.map bP), .ref (db ab)] (.bool r) [] := by
 refine aT.bZ (fx := [0, 1]) b0 [.tmp 3] [(0, .slice (J.map bP)), (1, .ref (db ab))] Tryz.func221 rfl rfl afq (Nat.le_of_ble_eq_true rfl) rfl rfl (fun bY ao bW => ?_)
 refine ws _ ?_
 obtain ⟨af, a3, h⟩ := aO h
 refine dO (aq3 J ab.scope 15 _ a3) _ ?_
 exact aK (ao _ (.inl (aL [.bool (!af)] rfl (by cases aH h; rfl) (by decide) aM)))
theorem aq8 (J : List (List bO)) (ab : cg) (r : Int) (h : E8 J ab = some r) : aT aI 181 [.slice (J.map ef), .fn 221 [.ref (db ab)]] (.int .i64 r) [] := by
 refine aT.bZ (fx := [0, 1]) b0 [.tmp 4] [(0, .slice (J.map ef)), (1, .fn 221 [.ref (db ab)])] Tryz.func181 rfl rfl afB (Nat.le_of_ble_eq_true rfl) rfl rfl (fun bY ao bW => ?_)
 refine ws _ ?_
 refine aN (fun eo bX bn an => ?_)
 refine ws _ ?_
 refine bH (fun dR eJ b9 bk bp => ?_)
 have fl : ∀ (n : Nat) (c3 : Int), uP J ab n c3 = some r → dA aI Lq dR (aa [(0, .slice (J.map ef)), (1, .fn 221 [.ref (db ab)]), (7, .int .i64 (J.length : Int)), (8, .int .i64 c3)]) := by
  intro ch
  induction ch with
  | zero => intro c3 h; cases (show none = some r from h)
  | succ ch e7 =>
   intro c3 h
   replace h : A4 (uP J ab ch) J ab c3 = some r := h
   refine dN (fun g3 dS dD bs => ?_)
   refine ws _ ?_
   refine aN (fun ho dY eV dk => ?_)
   rcases aQ h with ⟨a6, h⟩ | ⟨a6, h⟩
   ·refine aW (congrArg I.bool a6) ?_
    simp only [a6, Bool.not_true, Bool.not_false]
    refine a5 (dY _ (.inl ?_))
    refine aN (fun et cH cd dv => ?_)
    refine bH (fun e4 cj cJ b2 c5 => ?_)
    refine ws _ ?_
    obtain ⟨af, ez, h⟩ := aO h
    obtain ⟨an, e5, h⟩ := aO h
    refine iE ez (aq7 af ab _ e5) _ ?_
    rcases aQ h with ⟨ck, h⟩ | ⟨ck, h⟩
    ·refine aW (congrArg I.bool ck) ?_
     simp only [ck, Bool.not_true, Bool.not_false]
     refine ws _ ?_
     exact aK (cJ _ (cd _ (dD _ (b9 _ (bn _ (ao _ (.inl (aL [.int .i64 c3] rfl (by cases aH h; rfl) (by decide) aM))))))))
    ·refine aZ (congrArg I.bool ck) ?_
     simp only [ck, Bool.not_true, Bool.not_false]
     refine a5 (cj _ (cH _ (.inl ?_)))
     refine wr _ ?_
     exact dS _ (.inr ⟨_, bq rfl, e7 (IntKind.i64.wrap (c3 + 1)) h⟩)
   ·refine aZ (congrArg I.bool a6) ?_
    simp only [a6, Bool.not_true, Bool.not_false]
    refine dL (dk 0 _ (bs 0 _ (bk _ (bX _ (.inl ?_)))))
    refine ws _ ?_
    exact aK (ao _ (.inl (aL [.int .i64 (-1)] rfl (by cases aH h; rfl) (by decide) aM)))
 obtain ⟨n, h⟩ := dH h
 exact dM (.inr ⟨_, bq rfl, fl n 0 h⟩)
theorem aq9 (J : List (List bO)) (ab : cg) (r : Bool) (h : A5 J ab = some r) : aT aI 150 [.slice (J.map ef), .fn 221 [.ref (db ab)]] (.bool r) [] := by
 refine aT.bZ (fx := [0, 1]) b0 [.tmp 4] [(0, .slice (J.map ef)), (1, .fn 221 [.ref (db ab)])] Tryz.func150 rfl rfl afE (Nat.le_of_ble_eq_true rfl) rfl rfl (fun bY ao bW => ?_)
 refine ws _ ?_
 obtain ⟨af, a3, h⟩ := aO h
 refine dO (aq8 J ab _ a3) _ ?_
 exact aK (ao _ (.inl (aL [.bool (decide (0 ≤ af))] rfl (by cases aH h; rfl) (by decide) aM)))
set_option maxHeartbeats 800000 in
theorem aq_ (J : bx) (ab : List a9) (bj : cg) (r : Int) (h : xx J ab bj = some r) : aT aI 206 [b4 J, .slice (ab.map bf), db bj] (.int .i64 r) [] := by
 refine aT.bZ (fx := [0, 1, 2]) b0 [.tmp 6] [(0, b4 J), (1, .slice (ab.map bf)), (2, db bj)] Tryz.func206 rfl rfl af0 (Nat.le_of_ble_eq_true rfl) rfl rfl (fun bY ao bW => ?_)
 refine ws _ ?_
 refine aN (fun eo bX bn an => ?_)
 refine bH (fun kq gZ dX l1 a0 => ?_)
 obtain ⟨af, c6, h⟩ := aO h
 refine dO (aqZ J _ c6) _ ?_
 rcases aQ h with ⟨cK, h⟩ | ⟨cK, h⟩
 ·refine aW (congrArg I.bool cK) ?_
  simp only [(c8 cK), Bool.not_true, Bool.not_false]
  refine ws _ ?_
  exact aK (dX _ (bn _ (ao _ (.inl (aL [.int .i64 2] rfl (by cases aH h; rfl) (by decide) aM)))))
 ·refine aZ (congrArg I.bool cK) ?_
  simp only [(br cK), Bool.not_true, Bool.not_false]
  have u9 : ∀ (xw : Bool), xv J ab bj xw = some r → dj aI Ls kq (aa [(1, .slice (ab.map bf)), (3, .a8 (b4 J)), (5, .a8 (db bj)), (11, .bool xw)]) := by
   intro xw h
   rcases aQ h with ⟨a6, h⟩ | ⟨a6, h⟩
   ·refine aW (congrArg I.bool a6) ?_
    simp only [a6, Bool.not_true, Bool.not_false]
    refine ws _ ?_
    exact aK (dX _ (bn _ (ao _ (.inl (aL [.int .i64 3] rfl (by cases aH h; rfl) (by decide) aM)))))
   ·refine aZ (congrArg I.bool a6) ?_
    simp only [a6, Bool.not_true, Bool.not_false]
    have yp : ∀ (xu : Bool), sl J ab bj xu = some r → dj aI Lr kq (aa [(1, .slice (ab.map bf)), (3, .a8 (b4 J)), (5, .a8 (db bj)), (26, .bool xu)]) := by
     intro xu h
     rcases aQ h with ⟨b2, h⟩ | ⟨b2, h⟩
     ·refine aW (congrArg I.bool b2) ?_
      simp only [b2, Bool.not_true, Bool.not_false]
      refine ws _ ?_
      exact aK (dX _ (bn _ (ao _ (.inl (aL [.int .i64 4] rfl (by cases aH h; rfl) (by decide) aM)))))
     ·refine aZ (congrArg I.bool b2) ?_
      simp only [b2, Bool.not_true, Bool.not_false]
      obtain ⟨an, ez, h⟩ := aO h
      refine dO (aq0 J ab _ ez) _ ?_
      rcases aQ h with ⟨eB, h⟩ | ⟨eB, h⟩
      ·refine aW (congrArg I.bool eB) ?_
       simp only [(c8 eB), Bool.not_true, Bool.not_false]
       refine ws _ ?_
       exact aK (dX _ (bn _ (ao _ (.inl (aL [.int .i64 5] rfl (by cases aH h; rfl) (by decide) aM)))))
      ·refine aZ (congrArg I.bool eB) ?_
       simp only [(br eB), Bool.not_true, Bool.not_false]
       refine cY (b1 [(3, .a8 (b4 J)), (5, .a8 (db bj)), (54, .bool ((J.Kind == 5) && (!bj.behind)))] (fun P ak => ?_) ?_)
       ·rcases Bool.eq_false_or_eq_true (J.Kind == 5) with yq | yq
        ·simp only [aX.down, simprocAttr, B6.down, yq]
         (try simp only [bo.down, simprocAttr, x5.down, yq] at ak ⊢); exact ak
        ·simp only [aX.down, simprocAttr, B6.down, yq]
         (try simp only [bo.down, simprocAttr, x5.down, yq] at ak ⊢); exact ak
       rcases aQ h with ⟨ea, h⟩ | ⟨ea, h⟩
       ·refine aW (congrArg I.bool ea) ?_
        simp only [ea, Bool.not_true, Bool.not_false]
        refine ws _ ?_
        exact aK (dX _ (bn _ (ao _ (.inl (aL [.int .i64 6] rfl (by cases aH h; rfl) (by decide) aM)))))
       ·refine aZ (congrArg I.bool ea) ?_
        simp only [ea, Bool.not_true, Bool.not_false]
        refine cY (b1 [(3, .a8 (b4 J)), (5, .a8 (db bj)), (63, .bool ((J.Kind == 4) && (decide (6 ≤ bj.scope))))] (fun P ak => ?_) ?_)
        ·rcases Bool.eq_false_or_eq_true (J.Kind == 4) with sG | sG
         ·simp only [aX.down, simprocAttr, B6.down, sG]
          (try simp only [bo.down, simprocAttr, x5.down, sG] at ak ⊢); exact ak
         ·simp only [aX.down, simprocAttr, B6.down, sG]
          (try simp only [bo.down, simprocAttr, x5.down, sG] at ak ⊢); exact ak
        rcases aQ h with ⟨i9, h⟩ | ⟨i9, h⟩
        ·refine aW (congrArg I.bool i9) ?_
         simp only [i9, Bool.not_true, Bool.not_false]
         refine ws _ ?_
         exact aK (dX _ (bn _ (ao _ (.inl (aL [.int .i64 7] rfl (by cases aH h; rfl) (by decide) aM)))))
        ·refine aZ (congrArg I.bool i9) ?_
         simp only [i9, Bool.not_true, Bool.not_false]
         obtain ⟨a0, jM, h⟩ := aO h
         refine cY (b1 [(72, .bool a0)] (fun P ak => ?_) ?_)
         ·simp only [aX.down, simprocAttr, FA.down]
          refine fs (aq9 J.cr bj _ jM) rfl rfl (by simp only [aX.down, simprocAttr, FA.down, hi, hj, hk, du] <;> rfl) rfl (.inr (by rfl)) ?_
          simp only [aX.down, simprocAttr, FA.down]
          (try simp only [bo.down, simprocAttr, x5.down] at ak ⊢); exact ak
         rcases aQ h with ⟨e6, h⟩ | ⟨e6, h⟩
         ·refine aW (congrArg I.bool e6) ?_
          simp only [e6, Bool.not_true, Bool.not_false]
          refine ws _ ?_
          exact aK (dX _ (bn _ (ao _ (.inl (aL [.int .i64 8] rfl (by cases aH h; rfl) (by decide) aM)))))
         ·refine aZ (congrArg I.bool e6) ?_
          simp only [e6, Bool.not_true, Bool.not_false]
          refine a5 (gZ _ (bX _ (.inl ?_)))
          refine ws _ ?_
          exact aK (ao _ (.inl (aL [.int .i64 0] rfl (by cases aH h; rfl) (by decide) aM)))
    rcases aQ h with ⟨gF, h⟩ | ⟨gF, h⟩
    ·obtain ⟨bp, ov, h⟩ := aO h
     rcases aQ h with ⟨kM, h⟩ | ⟨kM, h⟩
     ·refine kl (b1 (K := eA _) [(1, .slice (ab.map bf)), (3, .a8 (b4 J)), (5, .a8 (db bj)), (26, .bool true)] (fun P ak => ?_) ?_)
      ·simp only [aX.down, simprocAttr, pb.down, gF, (c8 kM)]
       refine ht (jO J.Number 1 7 _ ov) rfl rfl rfl rfl (.inl (by rfl)) ?_
       simp only [aX.down, simprocAttr, pb.down, gF, (c8 kM)]
       (try simp only [bo.down, simprocAttr, mX.down, gF, (c8 kM)] at ak ⊢); exact ak
      exact .inr ⟨_, bq rfl, yp true h⟩
     ·rcases aQ h with ⟨fT, h⟩ | ⟨fT, h⟩
      ·obtain ⟨bs, lR, h⟩ := aO h
       refine kl (b1 (K := eA _) [(1, .slice (ab.map bf)), (3, .a8 (b4 J)), (5, .a8 (db bj)), (26, .bool (!bs))] (fun P ak => ?_) ?_)
       ·simp only [aX.down, simprocAttr, pb.down, gF, (br kM), fT]
        refine ht (jO J.Number 1 7 _ ov) rfl rfl rfl rfl (.inl (by rfl)) ?_
        simp only [aX.down, simprocAttr, pb.down, gF, (br kM), fT]
        refine ht (yn J.Number (ab.length : Int) _ lR) rfl rfl rfl rfl (.inl (by rfl)) ?_
        simp only [aX.down, simprocAttr, pb.down, gF, (br kM), fT]
        (try simp only [bo.down, simprocAttr, mX.down, gF, (br kM), fT] at ak ⊢); exact ak
       exact .inr ⟨_, bq rfl, yp (!bs) h⟩
      ·refine kl (b1 (K := eA _) [(1, .slice (ab.map bf)), (3, .a8 (b4 J)), (5, .a8 (db bj)), (26, .bool false)] (fun P ak => ?_) ?_)
       ·simp only [aX.down, simprocAttr, pb.down, gF, (br kM), fT]
        refine ht (jO J.Number 1 7 _ ov) rfl rfl rfl rfl (.inl (by rfl)) ?_
        simp only [aX.down, simprocAttr, pb.down, gF, (br kM), fT]
        (try simp only [bo.down, simprocAttr, mX.down, gF, (br kM), fT] at ak ⊢); exact ak
       exact .inr ⟨_, bq rfl, yp false h⟩
    ·rcases aQ h with ⟨mY, h⟩ | ⟨mY, h⟩
     ·obtain ⟨b7, ara, h⟩ := aO h
      refine kl (b1 (K := eA _) [(1, .slice (ab.map bf)), (3, .a8 (b4 J)), (5, .a8 (db bj)), (26, .bool (!b7))] (fun P ak => ?_) ?_)
      ·simp only [aX.down, simprocAttr, pb.down, gF, mY]
       refine ht (yn J.Number (ab.length : Int) _ ara) rfl rfl rfl rfl (.inl (by rfl)) ?_
       simp only [aX.down, simprocAttr, pb.down, gF, mY]
       (try simp only [bo.down, simprocAttr, mX.down, gF, mY] at ak ⊢); exact ak
      exact .inr ⟨_, bq rfl, yp (!b7) h⟩
     ·refine kl (b1 (K := eA _) [(1, .slice (ab.map bf)), (3, .a8 (b4 J)), (5, .a8 (db bj)), (26, .bool false)] (fun P ak => ?_) ?_)
      ·simp only [aX.down, simprocAttr, pb.down, gF, mY]
       (try simp only [bo.down, simprocAttr, mX.down, gF, mY] at ak ⊢); exact ak
      exact .inr ⟨_, bq rfl, yp false h⟩
  rcases aQ h with ⟨pe, h⟩ | ⟨pe, h⟩
  ·rcases aQ h with ⟨nE, h⟩ | ⟨nE, h⟩
   ·obtain ⟨dk, arb, h⟩ := aO h
    refine kl (b1 (K := eA _) [(1, .slice (ab.map bf)), (3, .a8 (b4 J)), (5, .a8 (db bj)), (11, .bool (!dk))] (fun P ak => ?_) ?_)
    ·simp only [aX.down, simprocAttr, B7.down, pe, nE]
     refine ht (kt J.Name _ arb) rfl rfl rfl rfl (.inl (by rfl)) ?_
     simp only [aX.down, simprocAttr, B7.down, pe, nE]
     (try simp only [bo.down, simprocAttr, mX.down, pe, nE] at ak ⊢); exact ak
    exact .inr ⟨_, bq rfl, u9 (!dk) h⟩
   ·refine kl (b1 (K := eA _) [(1, .slice (ab.map bf)), (3, .a8 (b4 J)), (5, .a8 (db bj)), (11, .bool false)] (fun P ak => ?_) ?_)
    ·simp only [aX.down, simprocAttr, B7.down, pe, nE]
     (try simp only [bo.down, simprocAttr, mX.down, pe, nE] at ak ⊢); exact ak
    exact .inr ⟨_, bq rfl, u9 false h⟩
  ·refine kl (b1 (K := eA _) [(1, .slice (ab.map bf)), (3, .a8 (b4 J)), (5, .a8 (db bj)), (11, .bool false)] (fun P ak => ?_) ?_)
   ·simp only [aX.down, simprocAttr, B7.down, pe]
    (try simp only [bo.down, simprocAttr, mX.down, pe] at ak ⊢); exact ak
   exact .inr ⟨_, bq rfl, u9 false h⟩
set_option maxHeartbeats 1400000 in
theorem arc (J : List a9) (ab : a9) (r : Int × Int) (h : xz J ab = some r) : aT aI 168 [.slice (J.map bf), bf ab] (.tuple [.int .i64 r.1, .int .i64 r.2]) [] := by
 refine aT.bZ (fx := [0, 1]) b0 [.tmp 4, .tmp 5] [(0, .slice (J.map bf)), (1, bf ab)] Tryz.func168 rfl rfl agf (Nat.le_of_ble_eq_true rfl) rfl rfl (fun bY ao bW => ?_)
 refine ws _ ?_
 refine aN (fun eo bX bn an => ?_)
 obtain ⟨af, c1, h⟩ := aO h
 rcases aQ h with ⟨bJ, h⟩ | ⟨bJ, h⟩
 ·refine hg rfl (hh [(0, .slice (J.map bf)), (3, .a8 (bf ab)), (22, .bool true)] (fun P ak => ?_) ?_)
  ·simp only [dF.down, simprocAttr, pa.down, (c8 bJ)]
   refine i3 (jO (ab.Body.length : Int) 1 20 _ c1) rfl rfl rfl rfl (.inl (by rfl)) ?_
   simp only [dF.down, simprocAttr, pa.down, (c8 bJ)]
   refine ⟨gV (by kernel_rfl), ?_⟩
   (try simp only [bo.down, simprocAttr, hS.down, (c8 bJ)] at ak ⊢); exact ak
  refine aW rfl ?_
  refine ws _ ?_
  exact aK (bn _ (ao _ (.inl (aL [.int .i64 0, .int .i64 1] rfl (by cases aH h; rfl) (by decide) aM))))
 ·obtain ⟨an, cf, h⟩ := aO h
  refine hg rfl (hh [(0, .slice (J.map bf)), (3, .a8 (bf ab)), (22, .bool (an != (ab.Body.length : Int)))] (fun P ak => ?_) ?_)
  ·simp only [dF.down, simprocAttr, pa.down, (br bJ)]
   refine i3 (jO (ab.Body.length : Int) 1 20 _ c1) rfl rfl rfl rfl (.inl (by rfl)) ?_
   simp only [dF.down, simprocAttr, pa.down, (br bJ)]
   refine mb (aqS ab 0 _ cf) rfl rfl rfl rfl (.inl (by rfl)) ?_
   simp only [dF.down, simprocAttr, pa.down, (br bJ)]
   refine ⟨gV (by kernel_rfl), ?_⟩
   (try simp only [bo.down, simprocAttr, hS.down, (br bJ)] at ak ⊢); exact ak
  rcases aQ h with ⟨a6, h⟩ | ⟨a6, h⟩
  ·refine aW (congrArg I.bool a6) ?_
   simp only [a6, Bool.not_true, Bool.not_false]
   refine ws _ ?_
   exact aK (bn _ (ao _ (.inl (aL [.int .i64 0, .int .i64 1] rfl (by cases aH h; rfl) (by decide) aM))))
  ·refine aZ (congrArg I.bool a6) ?_
   simp only [a6, Bool.not_true, Bool.not_false]
   refine a5 (bX _ (.inl ?_))
   obtain ⟨a0, nN, h⟩ := aO h
   refine dO (Mi ab _ nN) _ ?_
   refine aN (fun j9 g1 iH i5 => ?_)
   refine ws _ ?_
   refine bH (fun iG fv eH eB hn => ?_)
   have kr : ∀ (n : Nat) (k7 : Int), qQ J ab a0 n k7 = some r → dA aI Lt iG (aa [(0, .slice (J.map bf)), (6, .aw 2 (a0.map db)), (26, .slice (ab.Body.map b4)), (27, .int .i64 (ab.Body.length : Int)), (28, .int .i64 k7)]) := by
    intro gx
    induction gx with
    | zero => intro k7 h; cases (show none = some r from h)
    | succ gx ks =>
     intro k7 h
     replace h : xy (qQ J ab a0 gx) J ab a0 k7 = some r := h
     refine dN (fun mm hT hy jh => ?_)
     refine ws _ ?_
     refine aN (fun mn jv i7 mo => ?_)
     rcases aQ h with ⟨ea, h⟩ | ⟨ea, h⟩
     ·refine aW (congrArg I.bool ea) ?_
      simp only [ea, Bool.not_true, Bool.not_false]
      refine a5 (jv _ (.inl ?_))
      refine aN (fun Cc pc u7 sO => ?_)
      refine bH (fun apA Cd FF cR apB => ?_)
      obtain ⟨bp, hB, h⟩ := aO h
      refine g_ hB _ ?_
      obtain ⟨bs, jw, h⟩ := aO h
      obtain ⟨b7, jM, h⟩ := aO h
      refine hg rfl (hh [(0, .slice (J.map bf)), (6, .aw 2 (a0.map db)), (7, .int .i64 k7), (9, .int .i64 b7), (26, .slice (ab.Body.map b4)), (27, .int .i64 (ab.Body.length : Int)), (28, .int .i64 k7)] (fun P ak => ?_) ?_)
      ·simp only [dF.down, simprocAttr, er, qI, eW, gW, il, wN, qJ, gw, gh, bf, b4, bP, db, ef, jw, c_ jw]
       refine i3 (aq_ bp J bs _ jM) rfl rfl rfl rfl (.inl (by rfl)) ?_
       simp only [dF.down, simprocAttr, er, qI, eW, gW, il, wN, qJ, gw, gh, bf, b4, bP, db, ef, jw, c_ jw]
       refine ⟨gV (by kernel_rfl), ?_⟩
       (try simp only [bo.down, simprocAttr, mX.down, jw, c_ jw] at ak ⊢); exact ak
      refine ws _ ?_
      rcases aQ h with ⟨hC, h⟩ | ⟨hC, h⟩
      ·refine aW (congrArg I.bool hC) ?_
       simp only [hC, Bool.not_true, Bool.not_false]
       refine ws _ ?_
       exact aK (FF _ (u7 _ (hy _ (eH _ (iH _ (ao _ (.inl (aL [.int .i64 k7, .int .i64 b7] rfl (by cases aH h; rfl) (by decide) aM))))))))
      ·refine aZ (congrArg I.bool hC) ?_
       simp only [hC, Bool.not_true, Bool.not_false]
       refine a5 (Cd _ (pc _ (.inl ?_)))
       refine wr _ ?_
       exact hT _ (.inr ⟨_, bq rfl, ks (IntKind.i64.wrap (k7 + 1)) h⟩)
     ·refine aZ (congrArg I.bool ea) ?_
      simp only [ea, Bool.not_true, Bool.not_false]
      refine dL (mo 0 _ (jh 0 _ (eB _ (g1 _ (.inl ?_)))))
      refine ws _ ?_
      exact aK (ao _ (.inl (aL [.int .i64 0, .int .i64 0] rfl (by cases aH h; rfl) (by decide) aM)))
   obtain ⟨n, h⟩ := dH h
   exact dM (.inr ⟨_, bq rfl, kr n 0 h⟩)
set_option maxHeartbeats 1200000 in
theorem ard (J : List a9) (r : Bool) (h : A7 J = some r) : aT aI 127 [.slice (J.map bf)] (.bool r) [] := by
 refine aT.bZ (fx := [0]) b0 [.tmp 2] [(0, .slice (J.map bf))] Tryz.func127 rfl rfl agy (Nat.le_of_ble_eq_true rfl) rfl rfl (fun bY ao bW => ?_)
 refine ws _ ?_
 refine aN (fun eo bX bn an => ?_)
 obtain ⟨af, c1, h⟩ := aO h
 rcases aQ h with ⟨bJ, h⟩ | ⟨bJ, h⟩
 ·refine iE (c8 bJ) (jO (J.length : Int) 1 4 _ c1) _ ?_
  refine aW rfl ?_
  refine ws _ ?_
  exact aK (bn _ (ao _ (.inl (aL [.bool false] rfl (by cases aH h; rfl) (by decide) aM))))
 ·obtain ⟨an, cf, h⟩ := aO h
  refine cY (b1 [(0, .slice (J.map bf)), (15, .bool (!an))] (fun P ak => ?_) ?_)
  ·simp only [aX.down, simprocAttr, iF.down, (br bJ)]
   refine fs (jO (J.length : Int) 1 4 _ c1) rfl rfl rfl rfl (.inl (by rfl)) ?_
   simp only [aX.down, simprocAttr, iF.down, (br bJ)]
   refine ht (aqN J _ cf) rfl rfl rfl rfl (.inl (by rfl)) ?_
   simp only [aX.down, simprocAttr, iF.down, (br bJ)]
   (try simp only [bo.down, simprocAttr, hS.down, (br bJ)] at ak ⊢); exact ak
  rcases aQ h with ⟨a6, h⟩ | ⟨a6, h⟩
  ·refine aW (congrArg I.bool a6) ?_
   simp only [(c8 a6), Bool.not_true, Bool.not_false]
   refine ws _ ?_
   exact aK (bn _ (ao _ (.inl (aL [.bool false] rfl (by cases aH h; rfl) (by decide) aM))))
  ·refine aZ (congrArg I.bool a6) ?_
   simp only [(br a6), Bool.not_true, Bool.not_false]
   refine a5 (bX _ (.inl ?_))
   refine aN (fun e4 cj cJ c5 => ?_)
   refine ws _ ?_
   refine bH (fun j9 g1 iH cG i5 => ?_)
   have hp : ∀ (n : Nat) (lO : Int), sm J n lO = some r → dA aI Lu j9 (aa [(0, .slice (J.map bf)), (16, .slice (J.map bf)), (17, .int .i64 (J.length : Int)), (18, .int .i64 lO)]) := by
    intro dx
    induction dx with
    | zero => intro lO h; cases (show none = some r from h)
    | succ dx g2 =>
     intro lO h
     replace h : A6 (sm J dx) J lO = some r := h
     refine dN (fun lr g0 gj jg => ?_)
     refine ws _ ?_
     refine aN (fun mm hT hy jh => ?_)
     rcases aQ h with ⟨h4, h⟩ | ⟨h4, h⟩
     ·refine aW (congrArg I.bool h4) ?_
      simp only [h4, Bool.not_true, Bool.not_false]
      refine a5 (hT _ (.inl ?_))
      refine aN (fun mn jv i7 mo => ?_)
      refine bH (fun yj pT pU ea yk => ?_)
      obtain ⟨a0, jN, h⟩ := aO h
      refine g_ jN _ ?_
      refine aN (fun Mk qY ve Ml => ?_)
      obtain ⟨bp, pS, h⟩ := aO h
      rcases aQ h with ⟨ha, h⟩ | ⟨ha, h⟩
      ·refine hg rfl (hh [(0, .slice (J.map bf)), (4, .a8 (bf a0)), (16, .slice (J.map bf)), (17, .int .i64 (J.length : Int)), (18, .int .i64 lO), (35, .bool true)] (fun P ak => ?_) ?_)
       ·simp only [dF.down, simprocAttr, iF.down, (c8 ha)]
        refine i3 (Ch a0.Name _ pS) rfl rfl rfl rfl (.inl (by rfl)) ?_
        simp only [dF.down, simprocAttr, iF.down, (c8 ha)]
        refine ⟨gV (by kernel_rfl), ?_⟩
        (try simp only [bo.down, simprocAttr, hS.down, (c8 ha)] at ak ⊢); exact ak
       refine aW rfl ?_
       refine ws _ ?_
       exact aK (ve _ (pU _ (i7 _ (gj _ (iH _ (cJ _ (ao _ (.inl (aL [.bool false] rfl (by cases aH h; rfl) (by decide) aM)))))))))
      ·obtain ⟨bs, sW, h⟩ := aO h
       obtain ⟨b7, x6, h⟩ := aO h
       refine hg rfl (hh [(0, .slice (J.map bf)), (4, .a8 (bf a0)), (16, .slice (J.map bf)), (17, .int .i64 (J.length : Int)), (18, .int .i64 lO), (35, .bool (decide (0 ≤ b7)))] (fun P ak => ?_) ?_)
       ·simp only [dF.down, simprocAttr, iF.down, (br ha), sW, @nn _ bf 3 (fun _ => rfl)]
        refine i3 (Ch a0.Name _ pS) rfl rfl rfl rfl (.inl (by rfl)) ?_
        simp only [dF.down, simprocAttr, iF.down, (br ha), sW, @nn _ bf 3 (fun _ => rfl)]
        refine mb (aqR bs a0.Name _ x6) rfl rfl rfl rfl (.inl (by rfl)) ?_
        simp only [dF.down, simprocAttr, iF.down, (br ha), sW, @nn _ bf 3 (fun _ => rfl)]
        refine ⟨gV (by kernel_rfl), ?_⟩
        (try simp only [bo.down, simprocAttr, hS.down, (br ha), sW, @nn _ bf 3 (fun _ => rfl)] at ak ⊢); exact ak
       rcases aQ h with ⟨ot, h⟩ | ⟨ot, h⟩
       ·refine aW (congrArg I.bool ot) ?_
        simp only [ot, Bool.not_true, Bool.not_false]
        refine ws _ ?_
        exact aK (ve _ (pU _ (i7 _ (gj _ (iH _ (cJ _ (ao _ (.inl (aL [.bool false] rfl (by cases aH h; rfl) (by decide) aM)))))))))
       ·refine aZ (congrArg I.bool ot) ?_
        simp only [ot, Bool.not_true, Bool.not_false]
        refine a5 (qY _ (.inl ?_))
        obtain ⟨dk, ov, h⟩ := aO h
        refine dO (arc J a0 _ ov) _ ?_
        refine ws _ ?_
        rcases aQ h with ⟨fT, h⟩ | ⟨fT, h⟩
        ·refine aW (congrArg I.bool fT) ?_
         simp only [fT, Bool.not_true, Bool.not_false]
         refine ws _ ?_
         exact aK (pU _ (i7 _ (gj _ (iH _ (cJ _ (ao _ (.inl (aL [.bool false] rfl (by cases aH h; rfl) (by decide) aM))))))))
        ·refine aZ (congrArg I.bool fT) ?_
         simp only [fT, Bool.not_true, Bool.not_false]
         refine a5 (pT _ (jv _ (.inl ?_)))
         refine wr _ ?_
         exact g0 _ (.inr ⟨_, bq rfl, g2 (IntKind.i64.wrap (lO + 1)) h⟩)
     ·refine aZ (congrArg I.bool h4) ?_
      simp only [h4, Bool.not_true, Bool.not_false]
      refine dL (jh 0 _ (jg 0 _ (cG _ (cj _ (.inl ?_)))))
      refine ws _ ?_
      exact aK (ao _ (.inl (aL [.bool true] rfl (by cases aH h; rfl) (by decide) aM)))
   obtain ⟨n, h⟩ := dH h
   exact dM (.inr ⟨_, bq rfl, hp n 0 h⟩)
theorem arf (J : Int) (r : Bool) (h : E9 J = some r) : aT aI 179 [.int .i64 J] (.bool r) [] := by
 refine aT.bZ (fx := [0]) b0 [.tmp 2] [(0, .int .i64 J)] Tryz.func179 rfl rfl agB (Nat.le_of_ble_eq_true rfl) rfl rfl (fun bY ao bW => ?_)
 refine ws _ ?_
 obtain ⟨af, a3, h⟩ := aO h
 refine dO (Mj J _ a3) _ ?_
 exact aK (ao _ (.inl (aL [.bool (!af)] rfl (by cases aH h; rfl) (by decide) aM)))
theorem arh (J : List Int) (r : Int) (h : E_ J = some r) : aT aI 209 [.slice (J.map b3), .fn 179 []] (.int .i64 r) [] := by
 refine aT.bZ (fx := [0, 1]) b0 [.tmp 4] [(0, .slice (J.map b3)), (1, .fn 179 [])] Tryz.func209 rfl rfl agM (Nat.le_of_ble_eq_true rfl) rfl rfl (fun bY ao bW => ?_)
 refine ws _ ?_
 refine aN (fun eo bX bn an => ?_)
 refine ws _ ?_
 refine bH (fun dR eJ b9 bk bp => ?_)
 have fl : ∀ (n : Nat) (c3 : Int), uQ J n c3 = some r → dA aI Lv dR (aa [(0, .slice (J.map b3)), (1, .fn 179 []), (7, .int .i64 (J.length : Int)), (8, .int .i64 c3)]) := by
  intro ch
  induction ch with
  | zero => intro c3 h; cases (show none = some r from h)
  | succ ch e7 =>
   intro c3 h
   replace h : A8 (uQ J ch) J c3 = some r := h
   refine dN (fun g3 dS dD bs => ?_)
   refine ws _ ?_
   refine aN (fun ho dY eV dk => ?_)
   rcases aQ h with ⟨a6, h⟩ | ⟨a6, h⟩
   ·refine aW (congrArg I.bool a6) ?_
    simp only [a6, Bool.not_true, Bool.not_false]
    refine a5 (dY _ (.inl ?_))
    refine aN (fun et cH cd dv => ?_)
    refine bH (fun e4 cj cJ b2 c5 => ?_)
    refine ws _ ?_
    obtain ⟨af, ez, h⟩ := aO h
    obtain ⟨an, e5, h⟩ := aO h
    refine iE ez (arf af _ e5) _ ?_
    rcases aQ h with ⟨ck, h⟩ | ⟨ck, h⟩
    ·refine aW (congrArg I.bool ck) ?_
     simp only [ck, Bool.not_true, Bool.not_false]
     refine ws _ ?_
     exact aK (cJ _ (cd _ (dD _ (b9 _ (bn _ (ao _ (.inl (aL [.int .i64 c3] rfl (by cases aH h; rfl) (by decide) aM))))))))
    ·refine aZ (congrArg I.bool ck) ?_
     simp only [ck, Bool.not_true, Bool.not_false]
     refine a5 (cj _ (cH _ (.inl ?_)))
     refine wr _ ?_
     exact dS _ (.inr ⟨_, bq rfl, e7 (IntKind.i64.wrap (c3 + 1)) h⟩)
   ·refine aZ (congrArg I.bool a6) ?_
    simp only [a6, Bool.not_true, Bool.not_false]
    refine dL (dk 0 _ (bs 0 _ (bk _ (bX _ (.inl ?_)))))
    refine ws _ ?_
    exact aK (ao _ (.inl (aL [.int .i64 (-1)] rfl (by cases aH h; rfl) (by decide) aM)))
 obtain ⟨n, h⟩ := dH h
 exact dM (.inr ⟨_, bq rfl, fl n 0 h⟩)
theorem ari (J : List Int) (r : Bool) (h : Fa J = some r) : aT aI 178 [.slice (J.map b3), .fn 179 []] (.bool r) [] := by
 refine aT.bZ (fx := [0, 1]) b0 [.tmp 4] [(0, .slice (J.map b3)), (1, .fn 179 [])] Tryz.func178 rfl rfl agP (Nat.le_of_ble_eq_true rfl) rfl rfl (fun bY ao bW => ?_)
 refine ws _ ?_
 obtain ⟨af, a3, h⟩ := aO h
 refine dO (arh J _ a3) _ ?_
 exact aK (ao _ (.inl (aL [.bool (decide (0 ≤ af))] rfl (by cases aH h; rfl) (by decide) aM)))
theorem arj (J : List Int) (r : Bool) (h : A9 J = some r) : aT aI 146 [.slice (J.map b3)] (.bool r) [] := by
 refine aT.bZ (fx := [0]) b0 [.tmp 2] [(0, .slice (J.map b3))] Tryz.func146 rfl rfl agS (Nat.le_of_ble_eq_true rfl) rfl rfl (fun bY ao bW => ?_)
 refine ws _ ?_
 obtain ⟨af, a3, h⟩ := aO h
 refine dO (ari J _ a3) _ ?_
 exact aK (ao _ (.inl (aL [.bool (!af)] rfl (by cases aH h; rfl) (by decide) aM)))
set_option maxHeartbeats 1200000 in
theorem ark (J : List a9) (ab : c2) (r : Bool) (h : A_ J ab = some r) : aT aI 130 [.slice (J.map bf), eN ab] (.bool r) [] := by
 refine aT.bZ (fx := [0, 1]) b0 [.tmp 4] [(0, .slice (J.map bf)), (1, eN ab)] Tryz.func130 rfl rfl agV (Nat.le_of_ble_eq_true rfl) rfl rfl (fun bY ao bW => ?_)
 refine ws _ ?_
 obtain ⟨af, a3, h⟩ := aO h
 rcases aQ h with ⟨bk, h⟩ | ⟨bk, h⟩
 ·obtain ⟨an, c6, h⟩ := aO h
  rcases aQ h with ⟨cK, h⟩ | ⟨cK, h⟩
  ·obtain ⟨a0, cf, h⟩ := aO h
   refine hg rfl (hh [(4, .bool a0)] (fun P ak => ?_) ?_)
   ·simp only [dF.down, simprocAttr, sK.down, bk, c6, cK]
    refine i3 (yn ab.gP (J.length : Int) _ a3) rfl rfl rfl rfl (.inl (by rfl)) ?_
    simp only [dF.down, simprocAttr, sK.down, bk, c6, cK]
    refine mb (arj ab.fk _ cf) rfl rfl rfl rfl (.inl (by rfl)) ?_
    simp only [dF.down, simprocAttr, sK.down, bk, c6, cK]
    refine ⟨gV (by kernel_rfl), ?_⟩
    (try simp only [bo.down, simprocAttr, FB.down, bk, c6, cK] at ak ⊢); exact ak
   exact aK (ao _ (.inl (aL [.bool a0] rfl (by cases aH h; rfl) (by decide) aM)))
  ·refine hg rfl (hh [(4, .bool false)] (fun P ak => ?_) ?_)
   ·simp only [dF.down, simprocAttr, sK.down, bk, c6, cK]
    refine i3 (yn ab.gP (J.length : Int) _ a3) rfl rfl rfl rfl (.inl (by rfl)) ?_
    simp only [dF.down, simprocAttr, sK.down, bk, c6, cK]
    refine ⟨gV (by kernel_rfl), ?_⟩
    (try simp only [bo.down, simprocAttr, FB.down, bk, c6, cK] at ak ⊢); exact ak
   exact aK (ao _ (.inl (aL [.bool false] rfl (by cases aH h; rfl) (by decide) aM)))
 ·refine hg rfl (hh [(4, .bool false)] (fun P ak => ?_) ?_)
  ·simp only [dF.down, simprocAttr, sK.down, bk]
   refine i3 (yn ab.gP (J.length : Int) _ a3) rfl rfl rfl rfl (.inl (by rfl)) ?_
   simp only [dF.down, simprocAttr, sK.down, bk]
   refine ⟨gV (by kernel_rfl), ?_⟩
   (try simp only [bo.down, simprocAttr, FB.down, bk] at ak ⊢); exact ak
  exact aK (ao _ (.inl (aL [.bool false] rfl (by cases aH h; rfl) (by decide) aM)))
theorem arl (J : c2) (ab : dU) (r : Bool) (h : Fb J ab = some r) : aT aI 129 [eN J, .ref (eO ab)] (.bool r) [] := by
 refine aT.bZ (fx := [0, 1]) b0 [.tmp 3] [(0, eN J), (1, .ref (eO ab))] Tryz.func129 rfl rfl agY (Nat.le_of_ble_eq_true rfl) rfl rfl (fun bY ao bW => ?_)
 refine ws _ ?_
 obtain ⟨af, a3, h⟩ := aO h
 refine dO (ark ab.bQ J _ a3) _ ?_
 exact aK (ao _ (.inl (aL [.bool (!af)] rfl (by cases aH h; rfl) (by decide) aM)))
theorem arn (J : List c2) (ab : dU) (r : Int) (h : Fe J ab = some r) : aT aI 169 [.slice (J.map eN), .fn 129 [.ref (eO ab)]] (.int .i64 r) [] := by
 refine aT.bZ (fx := [0, 1]) b0 [.tmp 4] [(0, .slice (J.map eN)), (1, .fn 129 [.ref (eO ab)])] Tryz.func169 rfl rfl ag9 (Nat.le_of_ble_eq_true rfl) rfl rfl (fun bY ao bW => ?_)
 refine ws _ ?_
 refine aN (fun eo bX bn an => ?_)
 refine ws _ ?_
 refine bH (fun dR eJ b9 bk bp => ?_)
 have fl : ∀ (n : Nat) (c3 : Int), uR J ab n c3 = some r → dA aI Lw dR (aa [(0, .slice (J.map eN)), (1, .fn 129 [.ref (eO ab)]), (7, .int .i64 (J.length : Int)), (8, .int .i64 c3)]) := by
  intro ch
  induction ch with
  | zero => intro c3 h; cases (show none = some r from h)
  | succ ch e7 =>
   intro c3 h
   replace h : Ba (uR J ab ch) J ab c3 = some r := h
   refine dN (fun g3 dS dD bs => ?_)
   refine ws _ ?_
   refine aN (fun ho dY eV dk => ?_)
   rcases aQ h with ⟨a6, h⟩ | ⟨a6, h⟩
   ·refine aW (congrArg I.bool a6) ?_
    simp only [a6, Bool.not_true, Bool.not_false]
    refine a5 (dY _ (.inl ?_))
    refine aN (fun et cH cd dv => ?_)
    refine bH (fun e4 cj cJ b2 c5 => ?_)
    refine ws _ ?_
    obtain ⟨af, ez, h⟩ := aO h
    obtain ⟨an, e5, h⟩ := aO h
    refine iE ez (arl af ab _ e5) _ ?_
    rcases aQ h with ⟨ck, h⟩ | ⟨ck, h⟩
    ·refine aW (congrArg I.bool ck) ?_
     simp only [ck, Bool.not_true, Bool.not_false]
     refine ws _ ?_
     exact aK (cJ _ (cd _ (dD _ (b9 _ (bn _ (ao _ (.inl (aL [.int .i64 c3] rfl (by cases aH h; rfl) (by decide) aM))))))))
    ·refine aZ (congrArg I.bool ck) ?_
     simp only [ck, Bool.not_true, Bool.not_false]
     refine a5 (cj _ (cH _ (.inl ?_)))
     refine wr _ ?_
     exact dS _ (.inr ⟨_, bq rfl, e7 (IntKind.i64.wrap (c3 + 1)) h⟩)
   ·refine aZ (congrArg I.bool a6) ?_
    simp only [a6, Bool.not_true, Bool.not_false]
    refine dL (dk 0 _ (bs 0 _ (bk _ (bX _ (.inl ?_)))))
    refine ws _ ?_
    exact aK (ao _ (.inl (aL [.int .i64 (-1)] rfl (by cases aH h; rfl) (by decide) aM)))
 obtain ⟨n, h⟩ := dH h
 exact dM (.inr ⟨_, bq rfl, fl n 0 h⟩)
theorem aro (J : List c2) (ab : dU) (r : Bool) (h : Bb J ab = some r) : aT aI 128 [.slice (J.map eN), .fn 129 [.ref (eO ab)]] (.bool r) [] := by
 refine aT.bZ (fx := [0, 1]) b0 [.tmp 4] [(0, .slice (J.map eN)), (1, .fn 129 [.ref (eO ab)])] Tryz.func128 rfl rfl ahb (Nat.le_of_ble_eq_true rfl) rfl rfl (fun bY ao bW => ?_)
 refine ws _ ?_
 obtain ⟨af, a3, h⟩ := aO h
 refine dO (arn J ab _ a3) _ ?_
 exact aK (ao _ (.inl (aL [.bool (decide (0 ≤ af))] rfl (by cases aH h; rfl) (by decide) aM)))
theorem Mm (J : List UInt8) (r : Bool) (h : Bc J = some r) : aT aI 225 [.str J] (.bool r) [] := by
 refine aT.bZ (fx := [0]) b0 [.tmp 2] [(0, .str J)] Tryz.func225 rfl rfl ahe (Nat.le_of_ble_eq_true rfl) rfl rfl (fun bY ao bW => ?_)
 refine ws _ ?_
 refine ws _ ?_
 exact aK (ao _ (.inl (aL [.bool false] rfl (by cases aH h; rfl) (by decide) aM)))
end Go.Proofs.YtbemmmimelklkaaGreat
