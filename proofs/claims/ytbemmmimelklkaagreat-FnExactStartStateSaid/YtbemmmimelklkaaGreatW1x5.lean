/- Part of a proof that a law returns true for every input. No condition. -/
import Derived.Test.YtbemmmimelklkaaGreatC5
namespace Go.Proofs.YtbemmmimelklkaaGreat
open Go Go.dk Go.f_
set_option maxRecDepth 100000
set_option linter.unusedSimpArgs false
set_option linter.unusedVariables false
def j1 := PLift.up (And.intro @eb (And.intro @qm (And.intro @eX (And.intro @rK (And.intro @rL (And.intro @rM (And.intro @kE (And.intro @zv (And.intro @nh (And.intro @nY (And.intro @px (And.intro @wc (And.intro @hQ (And.intro @qn (And.intro @qo (And.intro @oU (And.intro @rN (And.intro @rO (And.intro @rP (And.intro @j0 (And.intro @lG (And.intro @g0 (And.intro @ig (And.intro @la (And.intro @mB (And.intro @we (And.intro @qp (And.intro @lb (And.intro @mC (And.intro @gw (And.intro @gg (And.intro @oV (And.intro @ld (And.intro @bA.eq_1 (And.intro @ep.eq_1 (And.intro @bp.eq_1 (And.intro @bo.eq_1 (And.intro @cb.eq_1 (And.intro @ed.eq_1 (And.intro @e0.eq_1 (And.intro @bQ.eq_1 (And.intro @dx.eq_1 (And.intro @fP.eq_1 (And.intro @fO.eq_1 (And.intro @fG.eq_1 (And.intro @fv.eq_1 (And.intro @iA.eq_1 (And.intro @fj.eq_1 (And.intro @eG.eq_1 (And.intro @fu.eq_1 (And.intro @bu.eq_1 (And.intro @eZ.eq_1 (And.intro @eQ.eq_1 (And.intro @fb.eq_1 (And.intro @dH.eq_1 (And.intro @l_.eq_1 @fk.eq_1))))))))))))))))))))))))))))))))))))))))))))))))))))))))
theorem ws {Q : Exit → ar → Prop} {l : List (Nat × I)} {ros : List cK} {k : List Nat} {b : R} (ei : List (Nat × I)) (aE : db aJ b Q (aa ei)) (h : ∀ P : List (Nat × I) → Prop, P ei → cv aJ (aa l) ros none (fun _ s => P (iv k s)) := by
 intro P ak
 simp only [aY.down, simprocAttr, j1.down]
 (try simp only [bn.down, simprocAttr, j1.down] at ak ⊢)
 exact ak) : db aJ (.seq (.U ros (some k)) b) Q (aa l) :=
 cT (b1 ei (h) aE)
theorem dK {Q : Exit → ar → Prop} {l : List (Nat × I)} {ros : List cK} {k : List Nat} {b : R} {g : FuncId} {ds : List I} {r : I} (ok : aR aJ g ds r []) (ei : List (Nat × I)) (aE : db aJ b Q (aa ei)) (h : aR aJ g ds r [] → ∀ P : List (Nat × I) → Prop, P ei → cv aJ (aa l) ros none (fun _ s => P (iv k s)) := by
 intro sq P ak
 (try simp only [aY.down, simprocAttr, j1.down])
 refine ft sq rfl rfl rfl rfl (.inl (by rfl)) ?_
 simp only [aY.down, simprocAttr, j1.down]
 (try simp only [bn.down, simprocAttr, j1.down] at ak ⊢)
 exact ak) : db aJ (.seq (.U ros (some k)) b) Q (aa l) :=
 cT (b1 ei (h ok) aE)
theorem hR {F : Prop} (bE : F) {Q : Exit → ar → Prop} {l : List (Nat × I)} {ros : List cK} {k : List Nat} {b : R} (ei : List (Nat × I)) (aE : db aJ b Q (aa ei)) (h : F → ∀ P : List (Nat × I) → Prop, P ei → cv aJ (aa l) ros none (fun _ s => P (iv k s)) := by
 intro bE P ak
 simp only [aY.down, simprocAttr, j1.down, bE]
 (try simp only [bn.down, simprocAttr, j1.down, bE] at ak ⊢)
 exact ak) : db aJ (.seq (.U ros (some k)) b) Q (aa l) :=
 cT (b1 ei (h bE) aE)
theorem iB {F : Prop} (bE : F) {Q : Exit → ar → Prop} {l : List (Nat × I)} {ros : List cK} {k : List Nat} {b : R} {g : FuncId} {ds : List I} {r : I} (ok : aR aJ g ds r []) (ei : List (Nat × I)) (aE : db aJ b Q (aa ei)) (h : aR aJ g ds r [] → F → ∀ P : List (Nat × I) → Prop, P ei → cv aJ (aa l) ros none (fun _ s => P (iv k s)) := by
 intro sq bE P ak
 (try simp only [aY.down, simprocAttr, j1.down, bE])
 refine ft sq rfl rfl rfl rfl (.inl (by rfl)) ?_
 simp only [aY.down, simprocAttr, j1.down, bE]
 (try simp only [bn.down, simprocAttr, j1.down, bE] at ak ⊢)
 exact ak) : db aJ (.seq (.U ros (some k)) b) Q (aa l) :=
 cT (b1 ei (h ok bE) aE)
theorem wr {Q : Exit → ar → Prop} {l : List (Nat × I)} {ros : List cK} {k : List Nat} (ei : List (Nat × I)) (aE : Q .normal (aa ei)) (h : ∀ P : List (Nat × I) → Prop, P ei → cv aJ (aa l) ros none (fun _ s => P (iv k s)) := by
 intro P ak
 simp only [aY.down, simprocAttr, j1.down]
 (try simp only [bn.down, simprocAttr, j1.down] at ak ⊢)
 exact ak) : db aJ (.U ros (some k)) Q (aa l) :=
 kW (b1 ei (h) aE)
theorem ao0 {Q : Exit → ar → Prop} {l : List (Nat × I)} {ros : List cK} {k : List Nat} {g : FuncId} {ds : List I} {r : I} (ok : aR aJ g ds r []) (ei : List (Nat × I)) (aE : Q .normal (aa ei)) (h : aR aJ g ds r [] → ∀ P : List (Nat × I) → Prop, P ei → cv aJ (aa l) ros none (fun _ s => P (iv k s)) := by
 intro sq P ak
 (try simp only [aY.down, simprocAttr, j1.down])
 refine ft sq rfl rfl rfl rfl (.inl (by rfl)) ?_
 simp only [aY.down, simprocAttr, j1.down]
 (try simp only [bn.down, simprocAttr, j1.down] at ak ⊢)
 exact ak) : db aJ (.U ros (some k)) Q (aa l) :=
 kW (b1 ei (h ok) aE)
theorem ao1 {F : Prop} (bE : F) {Q : Exit → ar → Prop} {l : List (Nat × I)} {ros : List cK} {k : List Nat} (ei : List (Nat × I)) (aE : Q .normal (aa ei)) (h : F → ∀ P : List (Nat × I) → Prop, P ei → cv aJ (aa l) ros none (fun _ s => P (iv k s)) := by
 intro bE P ak
 simp only [aY.down, simprocAttr, j1.down, bE]
 (try simp only [bn.down, simprocAttr, j1.down, bE] at ak ⊢)
 exact ak) : db aJ (.U ros (some k)) Q (aa l) :=
 kW (b1 ei (h bE) aE)
theorem E5 {F : Prop} (bE : F) {Q : Exit → ar → Prop} {l : List (Nat × I)} {ros : List cK} {k : List Nat} {g : FuncId} {ds : List I} {r : I} (ok : aR aJ g ds r []) (ei : List (Nat × I)) (aE : Q .normal (aa ei)) (h : aR aJ g ds r [] → F → ∀ P : List (Nat × I) → Prop, P ei → cv aJ (aa l) ros none (fun _ s => P (iv k s)) := by
 intro sq bE P ak
 (try simp only [aY.down, simprocAttr, j1.down, bE])
 refine ft sq rfl rfl rfl rfl (.inl (by rfl)) ?_
 simp only [aY.down, simprocAttr, j1.down, bE]
 (try simp only [bn.down, simprocAttr, j1.down, bE] at ak ⊢)
 exact ak) : db aJ (.U ros (some k)) Q (aa l) :=
 kW (b1 ei (h ok bE) aE)
def gV := PLift.up (And.intro @eX (And.intro @px (And.intro @mB @bo.eq_1)))
def hS := PLift.up (And.intro @bp.eq_1 (And.intro @cb.eq_1 (And.intro @bQ.eq_1 @eG.eq_1)))
def iC := PLift.up (And.intro @eb (And.intro @eX (And.intro @nh (And.intro @j0 (And.intro @lG (And.intro @g0 (And.intro @ig (And.intro @gw (And.intro @gg (And.intro @bp.eq_1 (And.intro @cb.eq_1 (And.intro @bQ.eq_1 @eG.eq_1))))))))))))
def j2 := PLift.up (And.intro @eb (And.intro @eX (And.intro @kE (And.intro @nh (And.intro @nY (And.intro @px (And.intro @wc (And.intro @hQ (And.intro @j0 (And.intro @lG (And.intro @g0 (And.intro @ig (And.intro @la (And.intro @mB (And.intro @gw (And.intro @gg (And.intro @bA.eq_1 (And.intro @bo.eq_1 (And.intro @bQ.eq_1 (And.intro @bu.eq_1 (And.intro @eZ.eq_1 (And.intro @eQ.eq_1 (And.intro @fb.eq_1 @fk.eq_1)))))))))))))))))))))))
def lh := PLift.up (And.intro @bA.eq_1 (And.intro @ed.eq_1 (And.intro @fP.eq_1 (And.intro @fO.eq_1 (And.intro @fG.eq_1 (And.intro @fv.eq_1 (And.intro @iA.eq_1 (And.intro @fj.eq_1 (And.intro @fu.eq_1 (And.intro @bu.eq_1 @dH.eq_1))))))))))
def mb := PLift.up (And.intro @cb.eq_1 (And.intro @bQ.eq_1 @eG.eq_1))
def mK := PLift.up (And.intro @eb (And.intro @gw (And.intro @gg @bQ.eq_1)))
def mL := PLift.up (And.intro @eX (And.intro @mB @bo.eq_1))
def mM := PLift.up (And.intro @bp.eq_1 (And.intro @cb.eq_1 (And.intro @bQ.eq_1 (And.intro @dx.eq_1 @eG.eq_1))))
def nr := PLift.up (And.intro @eb (And.intro @eX (And.intro @g0 (And.intro @ig (And.intro @gw (And.intro @gg (And.intro @cb.eq_1 (And.intro @bQ.eq_1 @eG.eq_1))))))))
def ns := PLift.up (And.intro @bA.eq_1 (And.intro @bo.eq_1 (And.intro @ed.eq_1 (And.intro @bQ.eq_1 (And.intro @fP.eq_1 (And.intro @fO.eq_1 (And.intro @fG.eq_1 (And.intro @fv.eq_1 (And.intro @iA.eq_1 (And.intro @fj.eq_1 (And.intro @fu.eq_1 (And.intro @bu.eq_1 (And.intro @eZ.eq_1 (And.intro @eQ.eq_1 (And.intro @fb.eq_1 (And.intro @dH.eq_1 (And.intro @l_.eq_1 @fk.eq_1)))))))))))))))))
def n4 := PLift.up (And.intro @eb (And.intro @eX (And.intro @kE (And.intro @nh (And.intro @nY (And.intro @px (And.intro @wc (And.intro @hQ (And.intro @j0 (And.intro @lG (And.intro @g0 (And.intro @ig (And.intro @la (And.intro @mB (And.intro @gw (And.intro @gg (And.intro @bA.eq_1 (And.intro @ep.eq_1 (And.intro @bp.eq_1 (And.intro @bo.eq_1 (And.intro @cb.eq_1 (And.intro @e0.eq_1 (And.intro @bQ.eq_1 (And.intro @eG.eq_1 @bu.eq_1))))))))))))))))))))))))
def oY := PLift.up (And.intro @eb (And.intro @eX (And.intro @j0 (And.intro @lG (And.intro @g0 (And.intro @ig (And.intro @gw (And.intro @gg (And.intro @bp.eq_1 (And.intro @cb.eq_1 (And.intro @bQ.eq_1 @eG.eq_1)))))))))))
def oZ := PLift.up (And.intro @eb (And.intro @eX (And.intro @nh (And.intro @j0 (And.intro @lG (And.intro @g0 (And.intro @ig (And.intro @gw (And.intro @gg (And.intro @bp.eq_1 (And.intro @cb.eq_1 (And.intro @bQ.eq_1 (And.intro @dx.eq_1 @eG.eq_1)))))))))))))
def pD := PLift.up (And.intro @bA.eq_1 (And.intro @ep.eq_1 (And.intro @bp.eq_1 (And.intro @bo.eq_1 (And.intro @cb.eq_1 (And.intro @e0.eq_1 (And.intro @bQ.eq_1 (And.intro @eG.eq_1 @bu.eq_1))))))))
def qC := PLift.up (And.intro @bA.eq_1 (And.intro @ed.eq_1 @dH.eq_1))
def sr := PLift.up (And.intro @eb (And.intro @eX (And.intro @nh (And.intro @hQ (And.intro @j0 (And.intro @lG (And.intro @g0 (And.intro @ig (And.intro @la (And.intro @gw (And.intro @gg (And.intro @bA.eq_1 (And.intro @ep.eq_1 (And.intro @bp.eq_1 (And.intro @cb.eq_1 (And.intro @bQ.eq_1 @eG.eq_1))))))))))))))))
def ss := PLift.up (And.intro @eb (And.intro @eX (And.intro @j0 (And.intro @g0 (And.intro @ig (And.intro @gw (And.intro @gg (And.intro @bQ.eq_1 (And.intro @fb.eq_1 @fk.eq_1)))))))))
def uE := PLift.up (And.intro @eb (And.intro @eX (And.intro @nh (And.intro @j0 (And.intro @lG (And.intro @g0 (And.intro @ig (And.intro @gw (And.intro @gg (And.intro @bQ.eq_1 (And.intro @eQ.eq_1 (And.intro @fb.eq_1 @fk.eq_1))))))))))))
def uF := PLift.up (And.intro @bA.eq_1 (And.intro @bo.eq_1 (And.intro @bQ.eq_1 (And.intro @bu.eq_1 (And.intro @eZ.eq_1 (And.intro @eQ.eq_1 (And.intro @fb.eq_1 @fk.eq_1)))))))
def uG := PLift.up (And.intro @eb (And.intro @eX (And.intro @kE (And.intro @nh (And.intro @nY (And.intro @px (And.intro @wc (And.intro @hQ (And.intro @j0 (And.intro @lG (And.intro @g0 (And.intro @ig (And.intro @la (And.intro @mB (And.intro @gw (And.intro @gg (And.intro @bA.eq_1 (And.intro @bo.eq_1 (And.intro @ed.eq_1 (And.intro @bQ.eq_1 (And.intro @fP.eq_1 (And.intro @fO.eq_1 (And.intro @fG.eq_1 (And.intro @fv.eq_1 (And.intro @iA.eq_1 (And.intro @fj.eq_1 (And.intro @fu.eq_1 (And.intro @bu.eq_1 (And.intro @eZ.eq_1 (And.intro @eQ.eq_1 (And.intro @fb.eq_1 (And.intro @dH.eq_1 (And.intro @l_.eq_1 @fk.eq_1)))))))))))))))))))))))))))))))))
def xB := PLift.up (And.intro @eb (And.intro @eX (And.intro @g0 (And.intro @ig (And.intro @gw (And.intro @gg (And.intro @bp.eq_1 (And.intro @cb.eq_1 (And.intro @bQ.eq_1 @eG.eq_1)))))))))
def xC := PLift.up (And.intro @cb.eq_1 (And.intro @bQ.eq_1 (And.intro @dx.eq_1 @eG.eq_1)))
def xD := PLift.up (And.intro @eb (And.intro @hQ (And.intro @qn (And.intro @qo (And.intro @bA.eq_1 @dH.eq_1)))))
def BF := PLift.up (And.intro @eb (And.intro @eX (And.intro @j0 (And.intro @g0 (And.intro @ig (And.intro @gw (And.intro @gg (And.intro @cb.eq_1 (And.intro @bQ.eq_1 @eG.eq_1)))))))))
def BG := PLift.up (And.intro @eb (And.intro @qm (And.intro @eX (And.intro @g0 (And.intro @ig (And.intro @qp (And.intro @gw (And.intro @gg (And.intro @cb.eq_1 (And.intro @bQ.eq_1 (And.intro @dx.eq_1 @eG.eq_1)))))))))))
def BH := PLift.up (And.intro @eb (And.intro @eX (And.intro @g0 (And.intro @ig (And.intro @gw (And.intro @gg (And.intro @bp.eq_1 (And.intro @cb.eq_1 (And.intro @bQ.eq_1 (And.intro @dx.eq_1 @eG.eq_1))))))))))
def BI := PLift.up (And.intro @bQ.eq_1 (And.intro @fb.eq_1 @fk.eq_1))
def BJ := PLift.up (And.intro @eb (And.intro @nY (And.intro @hQ (And.intro @la (And.intro @bA.eq_1 @eZ.eq_1)))))
def BK := PLift.up (And.intro @eb (And.intro @eX (And.intro @rK (And.intro @rL (And.intro @rM (And.intro @kE (And.intro @zv (And.intro @nh (And.intro @nY (And.intro @px (And.intro @wc (And.intro @hQ (And.intro @oU (And.intro @rN (And.intro @rO (And.intro @rP (And.intro @j0 (And.intro @lG (And.intro @g0 (And.intro @ig (And.intro @la (And.intro @mB (And.intro @lb (And.intro @mC (And.intro @gw (And.intro @gg (And.intro @oV (And.intro @ld (And.intro @bA.eq_1 (And.intro @bo.eq_1 (And.intro @ed.eq_1 (And.intro @bQ.eq_1 (And.intro @fP.eq_1 (And.intro @fO.eq_1 (And.intro @fG.eq_1 (And.intro @fv.eq_1 (And.intro @iA.eq_1 (And.intro @fj.eq_1 (And.intro @fu.eq_1 (And.intro @bu.eq_1 (And.intro @eZ.eq_1 (And.intro @eQ.eq_1 (And.intro @fb.eq_1 (And.intro @dH.eq_1 (And.intro @l_.eq_1 @fk.eq_1)))))))))))))))))))))))))))))))))))))))))))))
def BL := PLift.up (And.intro @eb (And.intro @eX (And.intro @rK (And.intro @rL (And.intro @rM (And.intro @kE (And.intro @zv (And.intro @hQ (And.intro @oU (And.intro @rN (And.intro @rO (And.intro @rP (And.intro @lb (And.intro @mC (And.intro @oV (And.intro @ld (And.intro @bA.eq_1 (And.intro @bo.eq_1 (And.intro @ed.eq_1 (And.intro @bQ.eq_1 (And.intro @fP.eq_1 (And.intro @fO.eq_1 (And.intro @fG.eq_1 (And.intro @fv.eq_1 (And.intro @iA.eq_1 (And.intro @fj.eq_1 (And.intro @fu.eq_1 (And.intro @bu.eq_1 (And.intro @eZ.eq_1 (And.intro @eQ.eq_1 (And.intro @fb.eq_1 (And.intro @dH.eq_1 (And.intro @l_.eq_1 @fk.eq_1)))))))))))))))))))))))))))))))))
def E6 := PLift.up (And.intro @eb (And.intro @qm (And.intro @qp (And.intro @JK (And.intro @bp.eq_1 (And.intro @cb.eq_1 (And.intro @bQ.eq_1 (And.intro @dx.eq_1 @eG.eq_1))))))))
def E7 := PLift.up (And.intro @eb (And.intro @qm (And.intro @eX (And.intro @j0 (And.intro @lG (And.intro @g0 (And.intro @ig (And.intro @qp (And.intro @gw (And.intro @JK (And.intro @gg (And.intro @bp.eq_1 (And.intro @cb.eq_1 (And.intro @bQ.eq_1 (And.intro @dx.eq_1 @eG.eq_1)))))))))))))))
def E8 := PLift.up (And.intro @eb (And.intro @eX (And.intro @g0 (And.intro @ig (And.intro @gw (And.intro @gg (And.intro @cb.eq_1 (And.intro @bQ.eq_1 (And.intro @dx.eq_1 @eG.eq_1)))))))))
def E9 := PLift.up (And.intro @bA.eq_1 (And.intro @ep.eq_1 (And.intro @bp.eq_1 (And.intro @cb.eq_1 (And.intro @bQ.eq_1 @eG.eq_1)))))
def E_ := PLift.up (And.intro @eb (And.intro @eX (And.intro @rK (And.intro @rL (And.intro @rM (And.intro @kE (And.intro @zv (And.intro @hQ (And.intro @oU (And.intro @rN (And.intro @rO (And.intro @rP (And.intro @lb (And.intro @mC (And.intro @oV (And.intro @ld (And.intro @bA.eq_1 (And.intro @ep.eq_1 (And.intro @bp.eq_1 (And.intro @bo.eq_1 (And.intro @cb.eq_1 (And.intro @ed.eq_1 (And.intro @e0.eq_1 (And.intro @bQ.eq_1 (And.intro @fP.eq_1 (And.intro @fO.eq_1 (And.intro @fG.eq_1 (And.intro @fv.eq_1 (And.intro @iA.eq_1 (And.intro @fj.eq_1 (And.intro @eG.eq_1 (And.intro @fu.eq_1 @bu.eq_1))))))))))))))))))))))))))))))))
theorem ao2 (J : List gS) (ab : Int) (r : Int) (h : wk J ab = some r) : aR aJ 136 [.slice (J.map fj), .int .i64 ab] (.int .i64 r) [] := by
 refine aR.bY (fx := [0]) bZ [.tmp 4] [(0, .slice (J.map fj)), (1, .int .i64 ab)] Tryz.func136 rfl rfl Sz (Nat.le_of_ble_eq_true rfl) rfl rfl (fun bV an bS => ?_)
 refine ws _ ?_
 refine ws _ ?_
 refine aN (fun kk gK dO aZ => ?_)
 refine ws _ ?_
 rcases aT h with ⟨bI, h⟩ | ⟨bI, h⟩
 ·refine aX (congrArg I.bool bI) ?_
  simp only [bI, Bool.not_true, Bool.not_false]
  refine ws _ ?_
  exact aK (dO _ (an _ (.inl (aL [.int .i64 (-1)] rfl (by cases aH h; rfl) (by decide) aM))))
 ·refine a0 (congrArg I.bool bI) ?_
  simp only [bI, Bool.not_true, Bool.not_false]
  refine a5 (gK _ (.inl ?_))
  refine ws _ ?_
  exact aK (an _ (.inl (aL [.int .i64 (IntKind.i64.wrap (ab - (J.length : Int)))] rfl (by cases aH h; rfl) (by decide) aM)))
theorem ao3 (J : List (List gS)) (ab : Int) (r : Int) (h : zx J ab = some r) : aR aJ 137 [.slice (J.map fu), .int .i64 ab] (.int .i64 r) [] := by
 refine aR.bY (fx := [0]) bZ [.tmp 4] [(0, .slice (J.map fu)), (1, .int .i64 ab)] Tryz.func137 rfl rfl SO (Nat.le_of_ble_eq_true rfl) rfl rfl (fun bV an bS => ?_)
 refine ws _ ?_
 refine ws _ ?_
 refine aN (fun kk gK dO aZ => ?_)
 refine ws _ ?_
 rcases aT h with ⟨bI, h⟩ | ⟨bI, h⟩
 ·refine aX (congrArg I.bool bI) ?_
  simp only [bI, Bool.not_true, Bool.not_false]
  refine ws _ ?_
  exact aK (dO _ (an _ (.inl (aL [.int .i64 (-1)] rfl (by cases aH h; rfl) (by decide) aM))))
 ·refine a0 (congrArg I.bool bI) ?_
  simp only [bI, Bool.not_true, Bool.not_false]
  refine a5 (gK _ (.inl ?_))
  refine aN (fun hp dZ eW dm => ?_)
  refine ws _ ?_
  refine bK (fun ey cQ cg d_ dB => ?_)
  have kl : ∀ (n : Nat) (dq : Int) (dh : Int), zw J n dq dh = some r → dG aJ Kk ey (aa [(0, .slice (J.map fu)), (1, .int .i64 dq), (5, .int .i64 dh)]) := by
   intro gx
   induction gx with
   | zero => intro dq dh h; cases (show none = some r from h)
   | succ gx km =>
    intro dq dh h
    replace h : JL (zw J gx) J dq dh = some r := h
    refine dW (fun e1 cd cA c4 => ?_)
    refine aN (fun iP fw h1 eF => ?_)
    refine ws _ ?_
    rcases aT h with ⟨cH, h⟩ | ⟨cH, h⟩
    ·refine aX (congrArg I.bool cH) ?_
     simp only [cH, Bool.not_true, Bool.not_false]
     refine a5 (fw _ (.inl ?_))
     refine aN (fun iD fy eJ ho => ?_)
     refine bK (fun mc hT hz cB je => ?_)
     obtain ⟨ag, eK, h⟩ := aO h
     obtain ⟨ao, e9, h⟩ := aO h
     refine iB eK (ao2 ag dq _ e9) _ ?_
     refine ws _ ?_
     rcases aT h with ⟨cZ, h⟩ | ⟨cZ, h⟩
     ·refine aX (congrArg I.bool cZ) ?_
      simp only [cZ, Bool.not_true, Bool.not_false]
      refine ws _ ?_
      exact aK (hz _ (eJ _ (cA _ (cg _ (eW _ (an _ (.inl (aL [.int .i64 (-1)] rfl (by cases aH h; rfl) (by decide) aM))))))))
     ·refine a0 (congrArg I.bool cZ) ?_
      simp only [cZ, Bool.not_true, Bool.not_false]
      refine a5 (hT _ (fy _ (.inl ?_)))
      refine wr _ ?_
      exact cd _ (.inr ⟨_, bx rfl, km ao (IntKind.i64.wrap (dh + 1)) h⟩)
    ·refine a0 (congrArg I.bool cH) ?_
     simp only [cH, Bool.not_true, Bool.not_false]
     refine dU (eF 0 _ (c4 0 _ (d_ _ (dZ _ (.inl ?_)))))
     refine ws _ ?_
     exact aK (an _ (.inl (aL [.int .i64 dq] rfl (by cases aH h; rfl) (by decide) aM)))
  obtain ⟨n, h⟩ := dM h
  exact dV (.inr ⟨_, bx rfl, kl n (IntKind.i64.wrap (ab - (J.length : Int))) 0 h⟩)
theorem ao4 (J : h_) (ab : Int) (r : Int) (h : wm J ab = some r) : aR aJ 160 [fv J, .int .i64 ab] (.int .i64 r) [] := by
 refine aR.bY (fx := [0]) bZ [.tmp 4] [(0, fv J), (1, .int .i64 ab)] Tryz.func160 rfl rfl S0 (Nat.le_of_ble_eq_true rfl) rfl rfl (fun bV an bS => ?_)
 refine ws _ ?_
 refine ws _ ?_
 refine aN (fun kk gK dO aZ => ?_)
 refine ws _ ?_
 rcases aT h with ⟨bI, h⟩ | ⟨bI, h⟩
 ·refine aX (congrArg I.bool bI) ?_
  simp only [bI, Bool.not_true, Bool.not_false]
  refine ws _ ?_
  exact aK (dO _ (an _ (.inl (aL [.int .i64 (-1)] rfl (by cases aH h; rfl) (by decide) aM))))
 ·refine a0 (congrArg I.bool bI) ?_
  simp only [bI, Bool.not_true, Bool.not_false]
  refine a5 (gK _ (.inl ?_))
  obtain ⟨ag, hN, h⟩ := aO h
  refine dK (ao3 J.cq (IntKind.i64.wrap (ab - (J.Name.length : Int))) _ hN) _ ?_
  refine aN (fun ey cQ cg dB => ?_)
  refine ws _ ?_
  rcases aT h with ⟨hq, h⟩ | ⟨hq, h⟩
  ·refine aX (congrArg I.bool hq) ?_
   simp only [hq, Bool.not_true, Bool.not_false]
   refine ws _ ?_
   exact aK (cg _ (an _ (.inl (aL [.int .i64 (-1)] rfl (by cases aH h; rfl) (by decide) aM))))
  ·refine a0 (congrArg I.bool hq) ?_
   simp only [hq, Bool.not_true, Bool.not_false]
   refine a5 (cQ _ (.inl ?_))
   refine ws _ ?_
   exact aK (an _ (.inl (aL [.int .i64 ag] rfl (by cases aH h; rfl) (by decide) aM)))
theorem ao5 (J : List h_) (ab : Int) (r : Int) (h : zz J ab = some r) : aR aJ 121 [.slice (J.map fv), .int .i64 ab] (.int .i64 r) [] := by
 refine aR.bY (fx := [0]) bZ [.tmp 4] [(0, .slice (J.map fv)), (1, .int .i64 ab)] Tryz.func121 rfl rfl Te (Nat.le_of_ble_eq_true rfl) rfl rfl (fun bV an bS => ?_)
 refine ws _ ?_
 refine ws _ ?_
 refine aN (fun kk gK dO aZ => ?_)
 refine ws _ ?_
 rcases aT h with ⟨bI, h⟩ | ⟨bI, h⟩
 ·refine aX (congrArg I.bool bI) ?_
  simp only [bI, Bool.not_true, Bool.not_false]
  refine ws _ ?_
  exact aK (dO _ (an _ (.inl (aL [.int .i64 (-1)] rfl (by cases aH h; rfl) (by decide) aM))))
 ·refine a0 (congrArg I.bool bI) ?_
  simp only [bI, Bool.not_true, Bool.not_false]
  refine a5 (gK _ (.inl ?_))
  refine aN (fun hp dZ eW dm => ?_)
  refine ws _ ?_
  refine bK (fun ey cQ cg d_ dB => ?_)
  have kl : ∀ (n : Nat) (dq : Int) (dh : Int), zy J n dq dh = some r → dG aJ Kl ey (aa [(0, .slice (J.map fv)), (1, .int .i64 dq), (5, .int .i64 dh)]) := by
   intro gx
   induction gx with
   | zero => intro dq dh h; cases (show none = some r from h)
   | succ gx km =>
    intro dq dh h
    replace h : JM (zy J gx) J dq dh = some r := h
    refine dW (fun e1 cd cA c4 => ?_)
    refine aN (fun iP fw h1 eF => ?_)
    refine ws _ ?_
    rcases aT h with ⟨cH, h⟩ | ⟨cH, h⟩
    ·refine aX (congrArg I.bool cH) ?_
     simp only [cH, Bool.not_true, Bool.not_false]
     refine a5 (fw _ (.inl ?_))
     refine aN (fun iD fy eJ ho => ?_)
     refine bK (fun mc hT hz cB je => ?_)
     obtain ⟨ag, eK, h⟩ := aO h
     obtain ⟨ao, e9, h⟩ := aO h
     refine iB eK (ao4 ag dq _ e9) _ ?_
     refine ws _ ?_
     rcases aT h with ⟨cZ, h⟩ | ⟨cZ, h⟩
     ·refine aX (congrArg I.bool cZ) ?_
      simp only [cZ, Bool.not_true, Bool.not_false]
      refine ws _ ?_
      exact aK (hz _ (eJ _ (cA _ (cg _ (eW _ (an _ (.inl (aL [.int .i64 (-1)] rfl (by cases aH h; rfl) (by decide) aM))))))))
     ·refine a0 (congrArg I.bool cZ) ?_
      simp only [cZ, Bool.not_true, Bool.not_false]
      refine a5 (hT _ (fy _ (.inl ?_)))
      refine wr _ ?_
      exact cd _ (.inr ⟨_, bx rfl, km ao (IntKind.i64.wrap (dh + 1)) h⟩)
    ·refine a0 (congrArg I.bool cH) ?_
     simp only [cH, Bool.not_true, Bool.not_false]
     refine dU (eF 0 _ (c4 0 _ (d_ _ (dZ _ (.inl ?_)))))
     refine ws _ ?_
     exact aK (an _ (.inl (aL [.int .i64 dq] rfl (by cases aH h; rfl) (by decide) aM)))
  obtain ⟨n, h⟩ := dM h
  exact dV (.inr ⟨_, bx rfl, kl n (IntKind.i64.wrap (ab - (J.length : Int))) 0 h⟩)
theorem ao6 (J : hZ) (ab : Int) (r : Int) (h : wo J ab = some r) : aR aJ 72 [fO J, .int .i64 ab] (.int .i64 r) [] := by
 refine aR.bY (fx := [0]) bZ [.tmp 4] [(0, fO J), (1, .int .i64 ab)] Tryz.func72 rfl rfl Tp (Nat.le_of_ble_eq_true rfl) rfl rfl (fun bV an bS => ?_)
 refine ws _ ?_
 refine ws _ ?_
 refine aN (fun kk gK dO aZ => ?_)
 refine ws _ ?_
 rcases aT h with ⟨bI, h⟩ | ⟨bI, h⟩
 ·refine aX (congrArg I.bool bI) ?_
  simp only [bI, Bool.not_true, Bool.not_false]
  refine ws _ ?_
  exact aK (dO _ (an _ (.inl (aL [.int .i64 (-1)] rfl (by cases aH h; rfl) (by decide) aM))))
 ·refine a0 (congrArg I.bool bI) ?_
  simp only [bI, Bool.not_true, Bool.not_false]
  refine a5 (gK _ (.inl ?_))
  obtain ⟨ag, hN, h⟩ := aO h
  refine dK (ao5 J.Body (IntKind.i64.wrap (ab - (J.Name.length : Int))) _ hN) _ ?_
  refine aN (fun ey cQ cg dB => ?_)
  refine ws _ ?_
  rcases aT h with ⟨hq, h⟩ | ⟨hq, h⟩
  ·refine aX (congrArg I.bool hq) ?_
   simp only [hq, Bool.not_true, Bool.not_false]
   refine ws _ ?_
   exact aK (cg _ (an _ (.inl (aL [.int .i64 (-1)] rfl (by cases aH h; rfl) (by decide) aM))))
  ·refine a0 (congrArg I.bool hq) ?_
   simp only [hq, Bool.not_true, Bool.not_false]
   refine a5 (cQ _ (.inl ?_))
   refine ws _ ?_
   exact aK (an _ (.inl (aL [.int .i64 ag] rfl (by cases aH h; rfl) (by decide) aM)))
theorem ao7 (J : List hZ) (ab : Int) (r : Int) (h : wq J ab = some r) : aR aJ 33 [.slice (J.map fO), .int .i64 ab] (.int .i64 r) [] := by
 refine aR.bY (fx := [0]) bZ [.tmp 4] [(0, .slice (J.map fO)), (1, .int .i64 ab)] Tryz.func33 rfl rfl xw (Nat.le_of_ble_eq_true rfl) rfl rfl (fun bV an bS => ?_)
 refine ws _ ?_
 refine ws _ ?_
 refine aN (fun kk gK dO aZ => ?_)
 refine ws _ ?_
 rcases aT h with ⟨bI, h⟩ | ⟨bI, h⟩
 ·refine aX (congrArg I.bool bI) ?_
  simp only [bI, Bool.not_true, Bool.not_false]
  refine ws _ ?_
  exact aK (dO _ (an _ (.inl (aL [.int .i64 (-1)] rfl (by cases aH h; rfl) (by decide) aM))))
 ·refine a0 (congrArg I.bool bI) ?_
  simp only [bI, Bool.not_true, Bool.not_false]
  refine a5 (gK _ (.inl ?_))
  refine aN (fun hp dZ eW dm => ?_)
  refine ws _ ?_
  refine bK (fun ey cQ cg d_ dB => ?_)
  have kl : ∀ (n : Nat) (dq : Int) (dh : Int), zA J n dq dh = some r → dG aJ Km ey (aa [(0, .slice (J.map fO)), (1, .int .i64 dq), (5, .int .i64 dh)]) := by
   intro gx
   induction gx with
   | zero => intro dq dh h; cases (show none = some r from h)
   | succ gx km =>
    intro dq dh h
    replace h : JN (zA J gx) J dq dh = some r := h
    refine dW (fun e1 cd cA c4 => ?_)
    refine aN (fun iP fw h1 eF => ?_)
    refine ws _ ?_
    rcases aT h with ⟨cH, h⟩ | ⟨cH, h⟩
    ·refine aX (congrArg I.bool cH) ?_
     simp only [cH, Bool.not_true, Bool.not_false]
     refine a5 (fw _ (.inl ?_))
     refine aN (fun iD fy eJ ho => ?_)
     refine bK (fun mc hT hz cB je => ?_)
     obtain ⟨ag, eK, h⟩ := aO h
     obtain ⟨ao, e9, h⟩ := aO h
     refine iB eK (ao6 ag dq _ e9) _ ?_
     refine ws _ ?_
     rcases aT h with ⟨cZ, h⟩ | ⟨cZ, h⟩
     ·refine aX (congrArg I.bool cZ) ?_
      simp only [cZ, Bool.not_true, Bool.not_false]
      refine ws _ ?_
      exact aK (hz _ (eJ _ (cA _ (cg _ (eW _ (an _ (.inl (aL [.int .i64 (-1)] rfl (by cases aH h; rfl) (by decide) aM))))))))
     ·refine a0 (congrArg I.bool cZ) ?_
      simp only [cZ, Bool.not_true, Bool.not_false]
      refine a5 (hT _ (fy _ (.inl ?_)))
      refine wr _ ?_
      exact cd _ (.inr ⟨_, bx rfl, km ao (IntKind.i64.wrap (dh + 1)) h⟩)
    ·refine a0 (congrArg I.bool cH) ?_
     simp only [cH, Bool.not_true, Bool.not_false]
     refine dU (eF 0 _ (c4 0 _ (d_ _ (dZ _ (.inl ?_)))))
     refine ws _ ?_
     exact aK (an _ (.inl (aL [.int .i64 dq] rfl (by cases aH h; rfl) (by decide) aM)))
  obtain ⟨n, h⟩ := dM h
  exact dV (.inr ⟨_, bx rfl, kl n (IntKind.i64.wrap (ab - (J.length : Int))) 0 h⟩)
theorem ao8 (J : List Int) (ab : Int) (r : Int) (h : zB J ab = some r) : aR aJ 53 [.slice (J.map bA), .int .i64 ab] (.int .i64 r) [] := by
 refine aR.bY (fx := [0]) bZ [.tmp 4] [(0, .slice (J.map bA)), (1, .int .i64 ab)] Tryz.func53 rfl rfl xx (Nat.le_of_ble_eq_true rfl) rfl rfl (fun bV an bS => ?_)
 refine ws _ ?_
 refine ws _ ?_
 refine aN (fun kk gK dO aZ => ?_)
 refine ws _ ?_
 rcases aT h with ⟨bI, h⟩ | ⟨bI, h⟩
 ·refine aX (congrArg I.bool bI) ?_
  simp only [bI, Bool.not_true, Bool.not_false]
  refine ws _ ?_
  exact aK (dO _ (an _ (.inl (aL [.int .i64 (-1)] rfl (by cases aH h; rfl) (by decide) aM))))
 ·refine a0 (congrArg I.bool bI) ?_
  simp only [bI, Bool.not_true, Bool.not_false]
  refine a5 (gK _ (.inl ?_))
  refine ws _ ?_
  exact aK (an _ (.inl (aL [.int .i64 (IntKind.i64.wrap (ab - (J.length : Int)))] rfl (by cases aH h; rfl) (by decide) aM)))
theorem ao9 (J : ia) (ab : Int) (r : Int) (h : wt J ab = some r) : aR aJ 73 [fP J, .int .i64 ab] (.int .i64 r) [] := by
 refine aR.bY (fx := [0]) bZ [.tmp 4] [(0, fP J), (1, .int .i64 ab)] Tryz.func73 rfl rfl TQ (Nat.le_of_ble_eq_true rfl) rfl rfl (fun bV an bS => ?_)
 refine ws _ ?_
 obtain ⟨ag, a2, h⟩ := aO h
 refine dK (ao8 J.c3 ab _ a2) _ ?_
 refine aN (fun dQ eL b9 bl => ?_)
 refine ws _ ?_
 rcases aT h with ⟨cL, h⟩ | ⟨cL, h⟩
 ·refine aX (congrArg I.bool cL) ?_
  simp only [cL, Bool.not_true, Bool.not_false]
  refine ws _ ?_
  exact aK (b9 _ (an _ (.inl (aL [.int .i64 (-1)] rfl (by cases aH h; rfl) (by decide) aM))))
 ·refine a0 (congrArg I.bool cL) ?_
  simp only [cL, Bool.not_true, Bool.not_false]
  refine a5 (eL _ (.inl ?_))
  refine ws _ ?_
  exact aK (an _ (.inl (aL [.int .i64 ag] rfl (by cases aH h; rfl) (by decide) aM)))
theorem ao_ (J : List ia) (ab : Int) (r : Int) (h : zD J ab = some r) : aR aJ 34 [.slice (J.map fP), .int .i64 ab] (.int .i64 r) [] := by
 refine aR.bY (fx := [0]) bZ [.tmp 4] [(0, .slice (J.map fP)), (1, .int .i64 ab)] Tryz.func34 rfl rfl xy (Nat.le_of_ble_eq_true rfl) rfl rfl (fun bV an bS => ?_)
 refine ws _ ?_
 refine ws _ ?_
 refine aN (fun kk gK dO aZ => ?_)
 refine ws _ ?_
 rcases aT h with ⟨bI, h⟩ | ⟨bI, h⟩
 ·refine aX (congrArg I.bool bI) ?_
  simp only [bI, Bool.not_true, Bool.not_false]
  refine ws _ ?_
  exact aK (dO _ (an _ (.inl (aL [.int .i64 (-1)] rfl (by cases aH h; rfl) (by decide) aM))))
 ·refine a0 (congrArg I.bool bI) ?_
  simp only [bI, Bool.not_true, Bool.not_false]
  refine a5 (gK _ (.inl ?_))
  refine aN (fun hp dZ eW dm => ?_)
  refine ws _ ?_
  refine bK (fun ey cQ cg d_ dB => ?_)
  have kl : ∀ (n : Nat) (dq : Int) (dh : Int), zC J n dq dh = some r → dG aJ Kn ey (aa [(0, .slice (J.map fP)), (1, .int .i64 dq), (5, .int .i64 dh)]) := by
   intro gx
   induction gx with
   | zero => intro dq dh h; cases (show none = some r from h)
   | succ gx km =>
    intro dq dh h
    replace h : JO (zC J gx) J dq dh = some r := h
    refine dW (fun e1 cd cA c4 => ?_)
    refine aN (fun iP fw h1 eF => ?_)
    refine ws _ ?_
    rcases aT h with ⟨cH, h⟩ | ⟨cH, h⟩
    ·refine aX (congrArg I.bool cH) ?_
     simp only [cH, Bool.not_true, Bool.not_false]
     refine a5 (fw _ (.inl ?_))
     refine aN (fun iD fy eJ ho => ?_)
     refine bK (fun mc hT hz cB je => ?_)
     obtain ⟨ag, eK, h⟩ := aO h
     obtain ⟨ao, e9, h⟩ := aO h
     refine iB eK (ao9 ag dq _ e9) _ ?_
     refine ws _ ?_
     rcases aT h with ⟨cZ, h⟩ | ⟨cZ, h⟩
     ·refine aX (congrArg I.bool cZ) ?_
      simp only [cZ, Bool.not_true, Bool.not_false]
      refine ws _ ?_
      exact aK (hz _ (eJ _ (cA _ (cg _ (eW _ (an _ (.inl (aL [.int .i64 (-1)] rfl (by cases aH h; rfl) (by decide) aM))))))))
     ·refine a0 (congrArg I.bool cZ) ?_
      simp only [cZ, Bool.not_true, Bool.not_false]
      refine a5 (hT _ (fy _ (.inl ?_)))
      refine wr _ ?_
      exact cd _ (.inr ⟨_, bx rfl, km ao (IntKind.i64.wrap (dh + 1)) h⟩)
    ·refine a0 (congrArg I.bool cH) ?_
     simp only [cH, Bool.not_true, Bool.not_false]
     refine dU (eF 0 _ (c4 0 _ (d_ _ (dZ _ (.inl ?_)))))
     refine ws _ ?_
     exact aK (an _ (.inl (aL [.int .i64 dq] rfl (by cases aH h; rfl) (by decide) aM)))
  obtain ⟨n, h⟩ := dM h
  exact dV (.inr ⟨_, bx rfl, kl n (IntKind.i64.wrap (ab - (J.length : Int))) 0 h⟩)
theorem apa (J : h0) (ab : Int) (r : Int) (h : wu J ab = some r) : aR aJ 74 [fG J, .int .i64 ab] (.int .i64 r) [] := by
 refine aR.bY (fx := [0]) bZ [.tmp 4] [(0, fG J), (1, .int .i64 ab)] Tryz.func74 rfl rfl Ui (Nat.le_of_ble_eq_true rfl) rfl rfl (fun bV an bS => ?_)
 refine ws _ ?_
 refine ws _ ?_
 refine aN (fun kk gK dO aZ => ?_)
 refine ws _ ?_
 rcases aT h with ⟨bI, h⟩ | ⟨bI, h⟩
 ·refine aX (congrArg I.bool bI) ?_
  simp only [bI, Bool.not_true, Bool.not_false]
  refine ws _ ?_
  exact aK (dO _ (an _ (.inl (aL [.int .i64 (-1)] rfl (by cases aH h; rfl) (by decide) aM))))
 ·refine a0 (congrArg I.bool bI) ?_
  simp only [bI, Bool.not_true, Bool.not_false]
  refine a5 (gK _ (.inl ?_))
  refine ws _ ?_
  refine aN (fun hA hB gn gh => ?_)
  refine ws _ ?_
  rcases aT h with ⟨b2, h⟩ | ⟨b2, h⟩
  ·refine aX (congrArg I.bool b2) ?_
   simp only [b2, Bool.not_true, Bool.not_false]
   refine ws _ ?_
   exact aK (gn _ (an _ (.inl (aL [.int .i64 (-1)] rfl (by cases aH h; rfl) (by decide) aM))))
  ·refine a0 (congrArg I.bool b2) ?_
   simp only [b2, Bool.not_true, Bool.not_false]
   refine a5 (hB _ (.inl ?_))
   refine ws _ ?_
   refine aN (fun lj g3 gi jd => ?_)
   refine ws _ ?_
   rcases aT h with ⟨cB, h⟩ | ⟨cB, h⟩
   ·refine aX (congrArg I.bool cB) ?_
    simp only [cB, Bool.not_true, Bool.not_false]
    refine ws _ ?_
    exact aK (gi _ (an _ (.inl (aL [.int .i64 (-1)] rfl (by cases aH h; rfl) (by decide) aM))))
   ·refine a0 (congrArg I.bool cB) ?_
    simp only [cB, Bool.not_true, Bool.not_false]
    refine a5 (g3 _ (.inl ?_))
    refine ws _ ?_
    exact aK (an _ (.inl (aL [.int .i64 (IntKind.i64.wrap ((IntKind.i64.wrap ((IntKind.i64.wrap (ab - (J.Left.length : Int))) - (J.b6.length : Int))) - (J.Result.length : Int)))] rfl (by cases aH h; rfl) (by decide) aM)))
theorem apb (J : List h0) (ab : Int) (r : Int) (h : zF J ab = some r) : aR aJ 35 [.slice (J.map fG), .int .i64 ab] (.int .i64 r) [] := by
 refine aR.bY (fx := [0]) bZ [.tmp 4] [(0, .slice (J.map fG)), (1, .int .i64 ab)] Tryz.func35 rfl rfl Ux (Nat.le_of_ble_eq_true rfl) rfl rfl (fun bV an bS => ?_)
 refine ws _ ?_
 refine ws _ ?_
 refine aN (fun kk gK dO aZ => ?_)
 refine ws _ ?_
 rcases aT h with ⟨bI, h⟩ | ⟨bI, h⟩
 ·refine aX (congrArg I.bool bI) ?_
  simp only [bI, Bool.not_true, Bool.not_false]
  refine ws _ ?_
  exact aK (dO _ (an _ (.inl (aL [.int .i64 (-1)] rfl (by cases aH h; rfl) (by decide) aM))))
 ·refine a0 (congrArg I.bool bI) ?_
  simp only [bI, Bool.not_true, Bool.not_false]
  refine a5 (gK _ (.inl ?_))
  refine aN (fun hp dZ eW dm => ?_)
  refine ws _ ?_
  refine bK (fun ey cQ cg d_ dB => ?_)
  have kl : ∀ (n : Nat) (dq : Int) (dh : Int), zE J n dq dh = some r → dG aJ Ko ey (aa [(0, .slice (J.map fG)), (1, .int .i64 dq), (5, .int .i64 dh)]) := by
   intro gx
   induction gx with
   | zero => intro dq dh h; cases (show none = some r from h)
   | succ gx km =>
    intro dq dh h
    replace h : JP (zE J gx) J dq dh = some r := h
    refine dW (fun e1 cd cA c4 => ?_)
    refine aN (fun iP fw h1 eF => ?_)
    refine ws _ ?_
    rcases aT h with ⟨cH, h⟩ | ⟨cH, h⟩
    ·refine aX (congrArg I.bool cH) ?_
     simp only [cH, Bool.not_true, Bool.not_false]
     refine a5 (fw _ (.inl ?_))
     refine aN (fun iD fy eJ ho => ?_)
     refine bK (fun mc hT hz cB je => ?_)
     obtain ⟨ag, eK, h⟩ := aO h
     obtain ⟨ao, e9, h⟩ := aO h
     refine iB eK (apa ag dq _ e9) _ ?_
     refine ws _ ?_
     rcases aT h with ⟨cZ, h⟩ | ⟨cZ, h⟩
     ·refine aX (congrArg I.bool cZ) ?_
      simp only [cZ, Bool.not_true, Bool.not_false]
      refine ws _ ?_
      exact aK (hz _ (eJ _ (cA _ (cg _ (eW _ (an _ (.inl (aL [.int .i64 (-1)] rfl (by cases aH h; rfl) (by decide) aM))))))))
     ·refine a0 (congrArg I.bool cZ) ?_
      simp only [cZ, Bool.not_true, Bool.not_false]
      refine a5 (hT _ (fy _ (.inl ?_)))
      refine wr _ ?_
      exact cd _ (.inr ⟨_, bx rfl, km ao (IntKind.i64.wrap (dh + 1)) h⟩)
    ·refine a0 (congrArg I.bool cH) ?_
     simp only [cH, Bool.not_true, Bool.not_false]
     refine dU (eF 0 _ (c4 0 _ (d_ _ (dZ _ (.inl ?_)))))
     refine ws _ ?_
     exact aK (an _ (.inl (aL [.int .i64 dq] rfl (by cases aH h; rfl) (by decide) aM)))
  obtain ⟨n, h⟩ := dM h
  exact dV (.inr ⟨_, bx rfl, kl n (IntKind.i64.wrap (ab - (J.length : Int))) 0 h⟩)
theorem LB (J : List (List UInt8)) (ab : Int) (r : Int) (h : wv J ab = some r) : aR aJ 36 [.slice (J.map bu), .int .i64 ab] (.int .i64 r) [] := by
 refine aR.bY (fx := [0]) bZ [.tmp 4] [(0, .slice (J.map bu)), (1, .int .i64 ab)] Tryz.func36 rfl rfl n2 (Nat.le_of_ble_eq_true rfl) rfl rfl (fun bV an bS => ?_)
 refine ws _ ?_
 refine ws _ ?_
 refine aN (fun kk gK dO aZ => ?_)
 refine ws _ ?_
 rcases aT h with ⟨bI, h⟩ | ⟨bI, h⟩
 ·refine aX (congrArg I.bool bI) ?_
  simp only [bI, Bool.not_true, Bool.not_false]
  refine ws _ ?_
  exact aK (dO _ (an _ (.inl (aL [.int .i64 (-1)] rfl (by cases aH h; rfl) (by decide) aM))))
 ·refine a0 (congrArg I.bool bI) ?_
  simp only [bI, Bool.not_true, Bool.not_false]
  refine a5 (gK _ (.inl ?_))
  refine aN (fun hp dZ eW dm => ?_)
  refine ws _ ?_
  refine bK (fun ey cQ cg d_ dB => ?_)
  have kl : ∀ (n : Nat) (dq : Int) (dh : Int), zG J n dq dh = some r → dG aJ Kp ey (aa [(0, .slice (J.map bu)), (1, .int .i64 dq), (5, .int .i64 dh)]) := by
   intro gx
   induction gx with
   | zero => intro dq dh h; cases (show none = some r from h)
   | succ gx km =>
    intro dq dh h
    replace h : JQ (zG J gx) J dq dh = some r := h
    refine dW (fun e1 cd cA c4 => ?_)
    refine aN (fun iP fw h1 eF => ?_)
    refine ws _ ?_
    rcases aT h with ⟨cH, h⟩ | ⟨cH, h⟩
    ·refine aX (congrArg I.bool cH) ?_
     simp only [cH, Bool.not_true, Bool.not_false]
     refine a5 (fw _ (.inl ?_))
     refine aN (fun iD fy eJ ho => ?_)
     refine bK (fun mc hT hz cB je => ?_)
     obtain ⟨ag, eK, h⟩ := aO h
     refine hR eK _ ?_
     refine ws _ ?_
     rcases aT h with ⟨dL, h⟩ | ⟨dL, h⟩
     ·refine aX (congrArg I.bool dL) ?_
      simp only [dL, Bool.not_true, Bool.not_false]
      refine ws _ ?_
      exact aK (hz _ (eJ _ (cA _ (cg _ (eW _ (an _ (.inl (aL [.int .i64 (-1)] rfl (by cases aH h; rfl) (by decide) aM))))))))
     ·refine a0 (congrArg I.bool dL) ?_
      simp only [dL, Bool.not_true, Bool.not_false]
      refine a5 (hT _ (fy _ (.inl ?_)))
      refine wr _ ?_
      exact cd _ (.inr ⟨_, bx rfl, km (IntKind.i64.wrap (dq - (ag.length : Int))) (IntKind.i64.wrap (dh + 1)) h⟩)
    ·refine a0 (congrArg I.bool cH) ?_
     simp only [cH, Bool.not_true, Bool.not_false]
     refine dU (eF 0 _ (c4 0 _ (d_ _ (dZ _ (.inl ?_)))))
     refine ws _ ?_
     exact aK (an _ (.inl (aL [.int .i64 dq] rfl (by cases aH h; rfl) (by decide) aM)))
  obtain ⟨n, h⟩ := dM h
  exact dV (.inr ⟨_, bx rfl, kl n (IntKind.i64.wrap (ab - (J.length : Int))) 0 h⟩)
set_option maxHeartbeats 600000 in
theorem apc (J : kg) (ab : Int) (r : Int) (h : wx J ab = some r) : aR aJ 7 [iA J, .int .i64 ab] (.int .i64 r) [] := by
 refine aR.bY (fx := [0]) bZ [.tmp 4] [(0, iA J), (1, .int .i64 ab)] Tryz.func7 rfl rfl U8 (Nat.le_of_ble_eq_true rfl) rfl rfl (fun bV an bS => ?_)
 refine ws _ ?_
 obtain ⟨ag, a2, h⟩ := aO h
 refine dK (ao7 J.e8 ab _ a2) _ ?_
 refine aN (fun dQ eL b9 bl => ?_)
 refine ws _ ?_
 rcases aT h with ⟨cL, h⟩ | ⟨cL, h⟩
 ·refine aX (congrArg I.bool cL) ?_
  simp only [cL, Bool.not_true, Bool.not_false]
  refine ws _ ?_
  exact aK (b9 _ (an _ (.inl (aL [.int .i64 (-1)] rfl (by cases aH h; rfl) (by decide) aM))))
 ·refine a0 (congrArg I.bool cL) ?_
  simp only [cL, Bool.not_true, Bool.not_false]
  refine a5 (eL _ (.inl ?_))
  obtain ⟨ao, ku, h⟩ := aO h
  refine dK (ao_ J.b_ ag _ ku) _ ?_
  refine aN (fun e1 cd cA c4 => ?_)
  refine ws _ ?_
  rcases aT h with ⟨cI, h⟩ | ⟨cI, h⟩
  ·refine aX (congrArg I.bool cI) ?_
   simp only [cI, Bool.not_true, Bool.not_false]
   refine ws _ ?_
   exact aK (cA _ (an _ (.inl (aL [.int .i64 (-1)] rfl (by cases aH h; rfl) (by decide) aM))))
  ·refine a0 (congrArg I.bool cI) ?_
   simp only [cI, Bool.not_true, Bool.not_false]
   refine a5 (cd _ (.inl ?_))
   obtain ⟨aZ, eR, h⟩ := aO h
   refine dK (apb J.g1 ao _ eR) _ ?_
   refine aN (fun pE kn jG l9 => ?_)
   refine ws _ ?_
   rcases aT h with ⟨ee, h⟩ | ⟨ee, h⟩
   ·refine aX (congrArg I.bool ee) ?_
    simp only [ee, Bool.not_true, Bool.not_false]
    refine ws _ ?_
    exact aK (jG _ (an _ (.inl (aL [.int .i64 (-1)] rfl (by cases aH h; rfl) (by decide) aM))))
   ·refine a0 (congrArg I.bool ee) ?_
    simp only [ee, Bool.not_true, Bool.not_false]
    refine a5 (kn _ (.inl ?_))
    obtain ⟨bl, nt, h⟩ := aO h
    refine dK (LB J.gT aZ _ nt) _ ?_
    refine aN (fun uH mN me uI => ?_)
    refine ws _ ?_
    rcases aT h with ⟨hr, h⟩ | ⟨hr, h⟩
    ·refine aX (congrArg I.bool hr) ?_
     simp only [hr, Bool.not_true, Bool.not_false]
     refine ws _ ?_
     exact aK (me _ (an _ (.inl (aL [.int .i64 (-1)] rfl (by cases aH h; rfl) (by decide) aM))))
    ·refine a0 (congrArg I.bool hr) ?_
     simp only [hr, Bool.not_true, Bool.not_false]
     refine a5 (mN _ (.inl ?_))
     obtain ⟨br, xE, h⟩ := aO h
     refine dK (LB J.gU bl _ xE) _ ?_
     refine aN (fun apd Fa LC LD => ?_)
     refine ws _ ?_
     rcases aT h with ⟨hb, h⟩ | ⟨hb, h⟩
     ·refine aX (congrArg I.bool hb) ?_
      simp only [hb, Bool.not_true, Bool.not_false]
      refine ws _ ?_
      exact aK (LC _ (an _ (.inl (aL [.int .i64 (-1)] rfl (by cases aH h; rfl) (by decide) aM))))
     ·refine a0 (congrArg I.bool hb) ?_
      simp only [hb, Bool.not_true, Bool.not_false]
      refine a5 (Fa _ (.inl ?_))
      refine ws _ ?_
      exact aK (an _ (.inl (aL [.int .i64 br] rfl (by cases aH h; rfl) (by decide) aM)))
theorem ape (J : gS) (r : bP) (h : wy J = some r) : aR aJ 177 [fj J] (bQ r) [] := by
 refine aR.bY (fx := [0]) bZ [.cell 2 191] [(0, fj J)] Tryz.func177 rfl rfl Vd (Nat.le_of_ble_eq_true rfl) rfl rfl (fun bV an bS => ?_)
 refine ws _ ?_
 refine ws _ ?_
 refine ws _ ?_
 refine ws _ ?_
 refine ws _ ?_
 exact aK (an _ (.inl (aL [bQ (bP.mk J.Kind J.Value)] rfl (by cases aH h; rfl) (by decide) aM)))
theorem apf (J : List gS) (r : (List bP)) (h : wz J = some r) : aR aJ 144 [.slice (J.map fj)] (.aw 2 (r.map bQ)) [] := by
 refine aR.bY (fx := [0]) bZ [.tmp 2] [(0, .slice (J.map fj))] Tryz.func144 rfl rfl Vm (Nat.le_of_ble_eq_true rfl) rfl rfl (fun bV an bS => ?_)
 refine ws _ ?_
 obtain ⟨uJ, a2, h⟩ := aO h
 refine cT (b1 [(0, .slice (J.map fj)), (3, .aw 2 ((List.replicate (Int.toNat (J.length : Int)) (bP.mk 0 0)).map bQ))] (fun P ak => ?_) ?_)
 ·simp only [aY.down, simprocAttr, eb, lb, gw, gg, ld, bQ, fj, (e2 a2).1, (e2 a2).2.1, (e2 a2).2.2, eV, List.map_replicate, -Int.reduceNatCast']
  (try simp only [bn.down, simprocAttr, bQ, fj, (e2 a2).1, (e2 a2).2.1, (e2 a2).2.2, eV, List.map_replicate, -Int.reduceNatCast'] at ak ⊢); exact ak
 refine aN (fun dQ eL b9 bl => ?_)
 refine ws [(0, .slice (J.map fj)), (3, .aw 2 ((List.replicate (Int.toNat (J.length : Int)) (bP.mk 0 0)).map bQ)), (4, .int .i64 0)] ?_
 refine bK (fun fc dv dF cL b4 => ?_)
 have jH : ∀ (n : Nat) (bC : List bP) (bw : Int), zH J n bC bw = some r → dG aJ Kq fc (aa [(0, .slice (J.map fj)), (3, .aw 2 (bC.map bQ)), (4, .int .i64 bw)]) := by
  intro fm
  induction fm with
  | zero => intro bC bw h; cases (show none = some r from h)
  | succ fm jI =>
   intro bC bw h
   replace h : JR (zH J fm) J bC bw = some r := h
   refine dW (fun hp dZ eW dm => ?_)
   refine aN (fun hA hB gn gh => ?_)
   refine ws _ ?_
   rcases aT h with ⟨b2, h⟩ | ⟨b2, h⟩
   ·refine aX (congrArg I.bool b2) ?_
    simp only [b2, Bool.not_true, Bool.not_false]
    refine a5 (hB _ (.inl ?_))
    refine aN (fun iP fw h1 eF => ?_)
    refine bK (fun j3 g4 iE cI i1 => ?_)
    obtain ⟨ag, e5, h⟩ := aO h
    obtain ⟨ao, eR, h⟩ := aO h
    obtain ⟨aZ, cr, h⟩ := aO h
    refine kW (b1 [(0, .slice (J.map fj)), (3, .aw 2 ((List.set bC (Int.toNat bw) ao).map bQ)), (4, .int .i64 bw)] (fun P ak => ?_) ?_)
    ·simp only [aY.down, simprocAttr, eb, lb, gw, gg, ld, bQ, fj, e5, cr, c6 cr, el, dT]
     refine ft (ape ag _ eR) rfl rfl rfl rfl (.inl (by rfl)) ?_
     simp only [aY.down, simprocAttr, eb, lb, gw, gg, ld, bQ, fj, e5, cr, c6 cr, el, dT]
     (try simp only [bn.down, simprocAttr, bQ, fj, e5, cr, c6 cr, el, dT] at ak ⊢); exact ak
    refine g4 _ (fw _ (.inl ?_))
    refine wr [(0, .slice (J.map fj)), (3, .aw 2 ((List.set bC (Int.toNat bw) ao).map bQ)), (4, .int .i64 (IntKind.i64.wrap (bw + 1)))] ?_
    exact dZ _ (.inr ⟨_, bx rfl, jI (List.set bC (Int.toNat bw) ao) (IntKind.i64.wrap (bw + 1)) h⟩)
   ·refine a0 (congrArg I.bool b2) ?_
    simp only [b2, Bool.not_true, Bool.not_false]
    refine dU (gh 0 _ (dm 0 _ (cL _ (eL _ (.inl ?_)))))
    refine ws _ ?_
    exact aK (an _ (.inl (aL [.aw 2 (bC.map bQ)] rfl (by cases aH h; rfl) (by decide) aM)))
 obtain ⟨n, h⟩ := dM h
 exact dV (.inr ⟨_, bx rfl, jH n (List.replicate (Int.toNat (J.length : Int)) (bP.mk 0 0)) 0 h⟩)
theorem apg (J : List (List gS)) (r : (List (List bP))) (h : zJ J = some r) : aR aJ 145 [.slice (J.map fu)] (.aw 1 (r.map fk)) [] := by
 refine aR.bY (fx := [0]) bZ [.tmp 2] [(0, .slice (J.map fu))] Tryz.func145 rfl rfl Vv (Nat.le_of_ble_eq_true rfl) rfl rfl (fun bV an bS => ?_)
 refine ws _ ?_
 obtain ⟨uJ, a2, h⟩ := aO h
 refine cT (b1 [(0, .slice (J.map fu)), (3, .aw 1 (List.replicate (Int.toNat (J.length : Int)) .bc))] (fun P ak => ?_) ?_)
 ·simp only [aY.down, simprocAttr, eb, g0, lb, mC, gw, gg, ld, fj, fu, (e2 a2).1, (e2 a2).2.1, (e2 a2).2.2, eV, List.map_replicate, -Int.reduceNatCast']
  (try simp only [bn.down, simprocAttr, fj, fu, (e2 a2).1, (e2 a2).2.1, (e2 a2).2.2, eV, List.map_replicate, -Int.reduceNatCast'] at ak ⊢); exact ak
 refine aN (fun dQ eL b9 bl => ?_)
 refine ws [(0, .slice (J.map fu)), (3, .aw 1 (List.replicate (Int.toNat (J.length : Int)) .bc)), (4, .int .i64 0)] ?_
 refine bK (fun fc dv dF cL b4 => ?_)
 have jH : ∀ (n : Nat) (bC : List (List bP)) (bw : Int), zI J n bC bw = some r → dG aJ Kr fc (aa [(0, .slice (J.map fu)), (3, .aw 1 (bC.map fk)), (4, .int .i64 bw)]) := by
  intro fm
  induction fm with
  | zero => intro bC bw h; cases (show none = some r from h)
  | succ fm jI =>
   intro bC bw h
   replace h : JS (zI J fm) J bC bw = some r := h
   refine dW (fun hp dZ eW dm => ?_)
   refine aN (fun hA hB gn gh => ?_)
   refine ws _ ?_
   rcases aT h with ⟨b2, h⟩ | ⟨b2, h⟩
   ·refine aX (congrArg I.bool b2) ?_
    simp only [b2, Bool.not_true, Bool.not_false]
    refine a5 (hB _ (.inl ?_))
    refine aN (fun iP fw h1 eF => ?_)
    refine bK (fun j3 g4 iE cI i1 => ?_)
    obtain ⟨ag, e5, h⟩ := aO h
    obtain ⟨ao, eR, h⟩ := aO h
    obtain ⟨aZ, cr, h⟩ := aO h
    refine kW (b1 [(0, .slice (J.map fu)), (3, .aw 1 ((List.set bC (Int.toNat bw) ao).map fk)), (4, .int .i64 bw)] (fun P ak => ?_) ?_)
    ·simp only [aY.down, simprocAttr, eb, g0, lb, mC, gw, gg, ld, bQ, fj, fu, fk, e5, cr, c6 cr, el, dT]
     refine ft (apf ag _ eR) rfl rfl rfl rfl (.inl (by rfl)) ?_
     simp only [aY.down, simprocAttr, eb, g0, lb, mC, gw, gg, ld, bQ, fj, fu, fk, e5, cr, c6 cr, el, dT]
     (try simp only [bn.down, simprocAttr, bQ, fj, fu, fk, e5, cr, c6 cr, el, dT] at ak ⊢); exact ak
    refine g4 _ (fw _ (.inl ?_))
    refine wr [(0, .slice (J.map fu)), (3, .aw 1 ((List.set bC (Int.toNat bw) ao).map fk)), (4, .int .i64 (IntKind.i64.wrap (bw + 1)))] ?_
    exact dZ _ (.inr ⟨_, bx rfl, jI (List.set bC (Int.toNat bw) ao) (IntKind.i64.wrap (bw + 1)) h⟩)
   ·refine a0 (congrArg I.bool b2) ?_
    simp only [b2, Bool.not_true, Bool.not_false]
    refine dU (gh 0 _ (dm 0 _ (cL _ (eL _ (.inl ?_)))))
    refine ws _ ?_
    exact aK (an _ (.inl (aL [.aw 1 (bC.map fk)] rfl (by cases aH h; rfl) (by decide) aM)))
 obtain ⟨n, h⟩ := dM h
 exact dV (.inr ⟨_, oN [] rfl (l3 (t := 0) (d := .slice (J.map fu)) rfl (oP (t := 3) (d := .aw 1 (List.replicate (Int.toNat (J.length : Int)) .bc)) (bF := .aw 1 ((List.replicate (Int.toNat (J.length : Int)) []).map fk)) rfl rfl (zd (u := fk) (z := []) (.lY _) _) (by decide) (l3 (t := 4) (d := .int .i64 0) rfl (oO)))), jH n (List.replicate (Int.toNat (J.length : Int)) []) 0 h⟩)
theorem aph (J : h_) (r : bz) (h : wA J = some r) : aR aJ 164 [fv J] (fb r) [] := by
 refine aR.bY (fx := [0]) bZ [.cell 2 122] [(0, fv J)] Tryz.func164 rfl rfl VD (Nat.le_of_ble_eq_true rfl) rfl rfl (fun bV an bS => ?_)
 refine ws _ ?_
 refine ws _ ?_
 refine ws _ ?_
 refine ws _ ?_
 refine ws _ ?_
 obtain ⟨ag, cf, h⟩ := aO h
 refine dK (apg J.cq _ cf) _ ?_
 refine ws _ ?_
 exact aK (an _ (.inl (aL [fb (bz.mk J.Kind J.Number J.Name ag)] rfl (by cases aH h; rfl) (by decide) aM)))
theorem api (J : List h_) (r : (List bz)) (h : zL J = some r) : aR aJ 126 [.slice (J.map fv)] (.aw 4 (r.map fb)) [] := by
 refine aR.bY (fx := [0]) bZ [.tmp 2] [(0, .slice (J.map fv))] Tryz.func126 rfl rfl VM (Nat.le_of_ble_eq_true rfl) rfl rfl (fun bV an bS => ?_)
 refine ws _ ?_
 obtain ⟨uJ, a2, h⟩ := aO h
 refine cT (b1 [(0, .slice (J.map fv)), (3, .aw 4 (List.replicate (Int.toNat (J.length : Int)) (.agg [(.int .i64 0), (.int .i64 0), (.str []), .bc])))] (fun P ak => ?_) ?_)
 ·simp only [aY.down, simprocAttr, eb, eX, oU, j0, g0, ig, lb, mC, gw, gg, oV, ld, fv, fj, fu, (e2 a2).1, (e2 a2).2.1, (e2 a2).2.2, eV, List.map_replicate, -Int.reduceNatCast']
  (try simp only [bn.down, simprocAttr, fv, fj, fu, (e2 a2).1, (e2 a2).2.1, (e2 a2).2.2, eV, List.map_replicate, -Int.reduceNatCast'] at ak ⊢); exact ak
 refine aN (fun dQ eL b9 bl => ?_)
 refine ws [(0, .slice (J.map fv)), (3, .aw 4 (List.replicate (Int.toNat (J.length : Int)) (.agg [(.int .i64 0), (.int .i64 0), (.str []), .bc]))), (4, .int .i64 0)] ?_
 refine bK (fun fc dv dF cL b4 => ?_)
 have jH : ∀ (n : Nat) (bC : List bz) (bw : Int), zK J n bC bw = some r → dG aJ Ks fc (aa [(0, .slice (J.map fv)), (3, .aw 4 (bC.map fb)), (4, .int .i64 bw)]) := by
  intro fm
  induction fm with
  | zero => intro bC bw h; cases (show none = some r from h)
  | succ fm jI =>
   intro bC bw h
   replace h : JT (zK J fm) J bC bw = some r := h
   refine dW (fun hp dZ eW dm => ?_)
   refine aN (fun hA hB gn gh => ?_)
   refine ws _ ?_
   rcases aT h with ⟨b2, h⟩ | ⟨b2, h⟩
   ·refine aX (congrArg I.bool b2) ?_
    simp only [b2, Bool.not_true, Bool.not_false]
    refine a5 (hB _ (.inl ?_))
    refine aN (fun iP fw h1 eF => ?_)
    refine bK (fun j3 g4 iE cI i1 => ?_)
    obtain ⟨ag, e5, h⟩ := aO h
    obtain ⟨ao, eR, h⟩ := aO h
    obtain ⟨aZ, cr, h⟩ := aO h
    refine kW (b1 [(0, .slice (J.map fv)), (3, .aw 4 ((List.set bC (Int.toNat bw) ao).map fb)), (4, .int .i64 bw)] (fun P ak => ?_) ?_)
    ·simp only [aY.down, simprocAttr, eb, eX, oU, j0, g0, ig, lb, mC, gw, gg, oV, ld, bQ, fv, fj, fu, fb, fk, e5, cr, c6 cr, el, dT]
     refine ft (aph ag _ eR) rfl rfl rfl rfl (.inl (by rfl)) ?_
     simp only [aY.down, simprocAttr, eb, eX, oU, j0, g0, ig, lb, mC, gw, gg, oV, ld, bQ, fv, fj, fu, fb, fk, e5, cr, c6 cr, el, dT]
     (try simp only [bn.down, simprocAttr, bQ, fv, fj, fu, fb, fk, e5, cr, c6 cr, el, dT] at ak ⊢); exact ak
    refine g4 _ (fw _ (.inl ?_))
    refine wr [(0, .slice (J.map fv)), (3, .aw 4 ((List.set bC (Int.toNat bw) ao).map fb)), (4, .int .i64 (IntKind.i64.wrap (bw + 1)))] ?_
    exact dZ _ (.inr ⟨_, bx rfl, jI (List.set bC (Int.toNat bw) ao) (IntKind.i64.wrap (bw + 1)) h⟩)
   ·refine a0 (congrArg I.bool b2) ?_
    simp only [b2, Bool.not_true, Bool.not_false]
    refine dU (gh 0 _ (dm 0 _ (cL _ (eL _ (.inl ?_)))))
    refine ws _ ?_
    exact aK (an _ (.inl (aL [.aw 4 (bC.map fb)] rfl (by cases aH h; rfl) (by decide) aM)))
 obtain ⟨n, h⟩ := dM h
 exact dV (.inr ⟨_, oN [] rfl (l3 (t := 0) (d := .slice (J.map fv)) rfl (oP (t := 3) (d := .aw 4 (List.replicate (Int.toNat (J.length : Int)) (.agg [(.int .i64 0), (.int .i64 0), (.str []), .bc]))) (bF := .aw 4 ((List.replicate (Int.toNat (J.length : Int)) (bz.mk 0 0 ([] : List UInt8) [])).map fb)) rfl rfl (zd (u := fb) (z := (bz.mk 0 0 ([] : List UInt8) [])) (.agg (.cons (.refl _) (.cons (.refl _) (.cons (.refl _) (.cons (.lY _) (.nil)))))) _) (by decide) (l3 (t := 4) (d := .int .i64 0) rfl (oO)))), jH n (List.replicate (Int.toNat (J.length : Int)) (bz.mk 0 0 ([] : List UInt8) [])) 0 h⟩)
theorem apj (J : hZ) (r : bb) (h : wB J = some r) : aR aJ 76 [fO J] (eQ r) [] := by
 refine aR.bY (fx := [0]) bZ [.cell 2 119] [(0, fO J)] Tryz.func76 rfl rfl VT (Nat.le_of_ble_eq_true rfl) rfl rfl (fun bV an bS => ?_)
 refine ws _ ?_
 refine ws _ ?_
 refine ws _ ?_
 refine ws _ ?_
 obtain ⟨ag, cl, h⟩ := aO h
 refine dK (api J.Body _ cl) _ ?_
 refine ws _ ?_
 exact aK (an _ (.inl (aL [eQ (bb.mk J.Name J.dc ag)] rfl (by cases aH h; rfl) (by decide) aM)))
theorem apk (J : List hZ) (r : (List bb)) (h : wC J = some r) : aR aJ 39 [.slice (J.map fO)] (.aw 3 (r.map eQ)) [] := by
 refine aR.bY (fx := [0]) bZ [.tmp 2] [(0, .slice (J.map fO))] Tryz.func39 rfl rfl V2 (Nat.le_of_ble_eq_true rfl) rfl rfl (fun bV an bS => ?_)
 refine ws _ ?_
 obtain ⟨uJ, a2, h⟩ := aO h
 refine cT (b1 [(0, .slice (J.map fO)), (3, .aw 3 (List.replicate (Int.toNat (J.length : Int)) (.agg [(.str []), (.int .i64 0), .bc])))] (fun P ak => ?_) ?_)
 ·simp only [aY.down, simprocAttr, eb, eX, rK, nh, oU, rN, j0, lG, g0, ig, lb, mC, gw, gg, oV, ld, fO, fv, fj, fu, (e2 a2).1, (e2 a2).2.1, (e2 a2).2.2, eV, List.map_replicate, -Int.reduceNatCast']
  (try simp only [bn.down, simprocAttr, fO, fv, fj, fu, (e2 a2).1, (e2 a2).2.1, (e2 a2).2.2, eV, List.map_replicate, -Int.reduceNatCast'] at ak ⊢); exact ak
 refine aN (fun dQ eL b9 bl => ?_)
 refine ws [(0, .slice (J.map fO)), (3, .aw 3 (List.replicate (Int.toNat (J.length : Int)) (.agg [(.str []), (.int .i64 0), .bc]))), (4, .int .i64 0)] ?_
 refine bK (fun fc dv dF cL b4 => ?_)
 have jH : ∀ (n : Nat) (bC : List bb) (bw : Int), zM J n bC bw = some r → dG aJ Kt fc (aa [(0, .slice (J.map fO)), (3, .aw 3 (bC.map eQ)), (4, .int .i64 bw)]) := by
  intro fm
  induction fm with
  | zero => intro bC bw h; cases (show none = some r from h)
  | succ fm jI =>
   intro bC bw h
   replace h : JU (zM J fm) J bC bw = some r := h
   refine dW (fun hp dZ eW dm => ?_)
   refine aN (fun hA hB gn gh => ?_)
   refine ws _ ?_
   rcases aT h with ⟨b2, h⟩ | ⟨b2, h⟩
   ·refine aX (congrArg I.bool b2) ?_
    simp only [b2, Bool.not_true, Bool.not_false]
    refine a5 (hB _ (.inl ?_))
    refine aN (fun iP fw h1 eF => ?_)
    refine bK (fun j3 g4 iE cI i1 => ?_)
    obtain ⟨ag, e5, h⟩ := aO h
    obtain ⟨ao, eR, h⟩ := aO h
    obtain ⟨aZ, cr, h⟩ := aO h
    refine kW (b1 [(0, .slice (J.map fO)), (3, .aw 3 ((List.set bC (Int.toNat bw) ao).map eQ)), (4, .int .i64 bw)] (fun P ak => ?_) ?_)
    ·simp only [aY.down, simprocAttr, eb, eX, rK, nh, oU, rN, j0, lG, g0, ig, lb, mC, gw, gg, oV, ld, bQ, fO, fv, fj, fu, eQ, fb, fk, e5, cr, c6 cr, el, dT]
     refine ft (apj ag _ eR) rfl rfl rfl rfl (.inl (by rfl)) ?_
     simp only [aY.down, simprocAttr, eb, eX, rK, nh, oU, rN, j0, lG, g0, ig, lb, mC, gw, gg, oV, ld, bQ, fO, fv, fj, fu, eQ, fb, fk, e5, cr, c6 cr, el, dT]
     (try simp only [bn.down, simprocAttr, bQ, fO, fv, fj, fu, eQ, fb, fk, e5, cr, c6 cr, el, dT] at ak ⊢); exact ak
    refine g4 _ (fw _ (.inl ?_))
    refine wr [(0, .slice (J.map fO)), (3, .aw 3 ((List.set bC (Int.toNat bw) ao).map eQ)), (4, .int .i64 (IntKind.i64.wrap (bw + 1)))] ?_
    exact dZ _ (.inr ⟨_, bx rfl, jI (List.set bC (Int.toNat bw) ao) (IntKind.i64.wrap (bw + 1)) h⟩)
   ·refine a0 (congrArg I.bool b2) ?_
    simp only [b2, Bool.not_true, Bool.not_false]
    refine dU (gh 0 _ (dm 0 _ (cL _ (eL _ (.inl ?_)))))
    refine ws _ ?_
    exact aK (an _ (.inl (aL [.aw 3 (bC.map eQ)] rfl (by cases aH h; rfl) (by decide) aM)))
 obtain ⟨n, h⟩ := dM h
 exact dV (.inr ⟨_, oN [] rfl (l3 (t := 0) (d := .slice (J.map fO)) rfl (oP (t := 3) (d := .aw 3 (List.replicate (Int.toNat (J.length : Int)) (.agg [(.str []), (.int .i64 0), .bc]))) (bF := .aw 3 ((List.replicate (Int.toNat (J.length : Int)) (bb.mk ([] : List UInt8) 0 [])).map eQ)) rfl rfl (zd (u := eQ) (z := (bb.mk ([] : List UInt8) 0 [])) (.agg (.cons (.refl _) (.cons (.refl _) (.cons (.lY _) (.nil))))) _) (by decide) (l3 (t := 4) (d := .int .i64 0) rfl (oO)))), jH n (List.replicate (Int.toNat (J.length : Int)) (bb.mk ([] : List UInt8) 0 [])) 0 h⟩)
theorem apl (J : List Int) (r : (List Int)) (h : zO J = some r) : aR aJ 59 [.slice (J.map bA)] (.aw 1 (r.map bA)) [] := by
 refine aR.bY (fx := [0]) bZ [.tmp 2] [(0, .slice (J.map bA))] Tryz.func59 rfl rfl n3 (Nat.le_of_ble_eq_true rfl) rfl rfl (fun bV an bS => ?_)
 refine ws _ ?_
 obtain ⟨Fb, a2, h⟩ := aO h
 refine cT (b1 [(0, .slice (J.map bA)), (3, .aw 1 ((List.replicate (Int.toNat (J.length : Int)) 0).map bA))] (fun P ak => ?_) ?_)
 ·simp only [aY.down, simprocAttr, eb, hQ, bA, (e2 a2).1, (e2 a2).2.1, (e2 a2).2.2, eV, List.map_replicate, -Int.reduceNatCast']
  (try simp only [bn.down, simprocAttr, bA, (e2 a2).1, (e2 a2).2.1, (e2 a2).2.2, eV, List.map_replicate, -Int.reduceNatCast'] at ak ⊢); exact ak
 refine aN (fun dQ eL b9 bl => ?_)
 refine ws [(0, .slice (J.map bA)), (3, .aw 1 ((List.replicate (Int.toNat (J.length : Int)) 0).map bA)), (4, .int .i64 0)] ?_
 refine bK (fun fc dv dF cL b4 => ?_)
 have jH : ∀ (n : Nat) (bC : List Int) (bw : Int), zN J n bC bw = some r → dG aJ Ku fc (aa [(0, .slice (J.map bA)), (3, .aw 1 (bC.map bA)), (4, .int .i64 bw)]) := by
  intro fm
  induction fm with
  | zero => intro bC bw h; cases (show none = some r from h)
  | succ fm jI =>
   intro bC bw h
   replace h : JV (zN J fm) J bC bw = some r := h
   refine dW (fun hp dZ eW dm => ?_)
   refine aN (fun hA hB gn gh => ?_)
   refine ws _ ?_
   rcases aT h with ⟨b2, h⟩ | ⟨b2, h⟩
   ·refine aX (congrArg I.bool b2) ?_
    simp only [b2, Bool.not_true, Bool.not_false]
    refine a5 (hB _ (.inl ?_))
    refine aN (fun iP fw h1 eF => ?_)
    refine bK (fun j3 g4 iE cI i1 => ?_)
    obtain ⟨ag, e5, h⟩ := aO h
    obtain ⟨ao, eR, h⟩ := aO h
    refine kW (b1 [(0, .slice (J.map bA)), (3, .aw 1 ((List.set bC (Int.toNat bw) ag).map bA)), (4, .int .i64 bw)] (fun P ak => ?_) ?_)
    ·simp only [aY.down, simprocAttr, eb, hQ, bA, e5, eR, c6 eR, el, dT]
     (try simp only [bn.down, simprocAttr, bA, e5, eR, c6 eR, el, dT] at ak ⊢); exact ak
    refine g4 _ (fw _ (.inl ?_))
    refine wr [(0, .slice (J.map bA)), (3, .aw 1 ((List.set bC (Int.toNat bw) ag).map bA)), (4, .int .i64 (IntKind.i64.wrap (bw + 1)))] ?_
    exact dZ _ (.inr ⟨_, bx rfl, jI (List.set bC (Int.toNat bw) ag) (IntKind.i64.wrap (bw + 1)) h⟩)
   ·refine a0 (congrArg I.bool b2) ?_
    simp only [b2, Bool.not_true, Bool.not_false]
    refine dU (gh 0 _ (dm 0 _ (cL _ (eL _ (.inl ?_)))))
    refine ws _ ?_
    exact aK (an _ (.inl (aL [.aw 1 (bC.map bA)] rfl (by cases aH h; rfl) (by decide) aM)))
 obtain ⟨n, h⟩ := dM h
 exact dV (.inr ⟨_, bx rfl, jH n (List.replicate (Int.toNat (J.length : Int)) 0) 0 h⟩)
theorem apm (J : ia) (r : cX) (h : wD J = some r) : aR aJ 77 [fP J] (eZ r) [] := by
 refine aR.bY (fx := [0]) bZ [.cell 2 124] [(0, fP J)] Tryz.func77 rfl rfl Wf (Nat.le_of_ble_eq_true rfl) rfl rfl (fun bV an bS => ?_)
 refine ws _ ?_
 refine ws _ ?_
 refine ws _ ?_
 obtain ⟨ag, c9, h⟩ := aO h
 refine dK (apl J.c3 _ c9) _ ?_
 refine ws _ ?_
 exact aK (an _ (.inl (aL [eZ (cX.mk J.eo ag)] rfl (by cases aH h; rfl) (by decide) aM)))
theorem apn (J : List ia) (r : (List cX)) (h : zQ J = some r) : aR aJ 40 [.slice (J.map fP)] (.aw 2 (r.map eZ)) [] := by
 refine aR.bY (fx := [0]) bZ [.tmp 2] [(0, .slice (J.map fP))] Tryz.func40 rfl rfl Wo (Nat.le_of_ble_eq_true rfl) rfl rfl (fun bV an bS => ?_)
 refine ws _ ?_
 obtain ⟨uJ, a2, h⟩ := aO h
 refine cT (b1 [(0, .slice (J.map fP)), (3, .aw 2 (List.replicate (Int.toNat (J.length : Int)) (.agg [(.int .i64 0), .bc])))] (fun P ak => ?_) ?_)
 ·simp only [aY.down, simprocAttr, eb, rL, nY, hQ, rO, la, bA, fP, (e2 a2).1, (e2 a2).2.1, (e2 a2).2.2, eV, List.map_replicate, -Int.reduceNatCast']
  (try simp only [bn.down, simprocAttr, bA, fP, (e2 a2).1, (e2 a2).2.1, (e2 a2).2.2, eV, List.map_replicate, -Int.reduceNatCast'] at ak ⊢); exact ak
 refine aN (fun dQ eL b9 bl => ?_)
 refine ws [(0, .slice (J.map fP)), (3, .aw 2 (List.replicate (Int.toNat (J.length : Int)) (.agg [(.int .i64 0), .bc]))), (4, .int .i64 0)] ?_
 refine bK (fun fc dv dF cL b4 => ?_)
 have jH : ∀ (n : Nat) (bC : List cX) (bw : Int), zP J n bC bw = some r → dG aJ Kv fc (aa [(0, .slice (J.map fP)), (3, .aw 2 (bC.map eZ)), (4, .int .i64 bw)]) := by
  intro fm
  induction fm with
  | zero => intro bC bw h; cases (show none = some r from h)
  | succ fm jI =>
   intro bC bw h
   replace h : JW (zP J fm) J bC bw = some r := h
   refine dW (fun hp dZ eW dm => ?_)
   refine aN (fun hA hB gn gh => ?_)
   refine ws _ ?_
   rcases aT h with ⟨b2, h⟩ | ⟨b2, h⟩
   ·refine aX (congrArg I.bool b2) ?_
    simp only [b2, Bool.not_true, Bool.not_false]
    refine a5 (hB _ (.inl ?_))
    refine aN (fun iP fw h1 eF => ?_)
    refine bK (fun j3 g4 iE cI i1 => ?_)
    obtain ⟨ag, e5, h⟩ := aO h
    obtain ⟨ao, eR, h⟩ := aO h
    obtain ⟨aZ, cr, h⟩ := aO h
    refine kW (b1 [(0, .slice (J.map fP)), (3, .aw 2 ((List.set bC (Int.toNat bw) ao).map eZ)), (4, .int .i64 bw)] (fun P ak => ?_) ?_)
    ·simp only [aY.down, simprocAttr, eb, rL, nY, hQ, rO, la, bA, fP, eZ, e5, cr, c6 cr, el, dT]
     refine ft (apm ag _ eR) rfl rfl rfl rfl (.inl (by rfl)) ?_
     simp only [aY.down, simprocAttr, eb, rL, nY, hQ, rO, la, bA, fP, eZ, e5, cr, c6 cr, el, dT]
     (try simp only [bn.down, simprocAttr, bA, fP, eZ, e5, cr, c6 cr, el, dT] at ak ⊢); exact ak
    refine g4 _ (fw _ (.inl ?_))
    refine wr [(0, .slice (J.map fP)), (3, .aw 2 ((List.set bC (Int.toNat bw) ao).map eZ)), (4, .int .i64 (IntKind.i64.wrap (bw + 1)))] ?_
    exact dZ _ (.inr ⟨_, bx rfl, jI (List.set bC (Int.toNat bw) ao) (IntKind.i64.wrap (bw + 1)) h⟩)
   ·refine a0 (congrArg I.bool b2) ?_
    simp only [b2, Bool.not_true, Bool.not_false]
    refine dU (gh 0 _ (dm 0 _ (cL _ (eL _ (.inl ?_)))))
    refine ws _ ?_
    exact aK (an _ (.inl (aL [.aw 2 (bC.map eZ)] rfl (by cases aH h; rfl) (by decide) aM)))
 obtain ⟨n, h⟩ := dM h
 exact dV (.inr ⟨_, oN [] rfl (l3 (t := 0) (d := .slice (J.map fP)) rfl (oP (t := 3) (d := .aw 2 (List.replicate (Int.toNat (J.length : Int)) (.agg [(.int .i64 0), .bc]))) (bF := .aw 2 ((List.replicate (Int.toNat (J.length : Int)) (cX.mk 0 [])).map eZ)) rfl rfl (zd (u := eZ) (z := (cX.mk 0 [])) (.agg (.cons (.refl _) (.cons (.lY _) (.nil)))) _) (by decide) (l3 (t := 4) (d := .int .i64 0) rfl (oO)))), jH n (List.replicate (Int.toNat (J.length : Int)) (cX.mk 0 [])) 0 h⟩)
theorem apo (J : h0) (r : bT) (h : wE J = some r) : aR aJ 78 [fG J] (bo r) [] := by
 refine aR.bY (fx := [0]) bZ [.cell 2 126] [(0, fG J)] Tryz.func78 rfl rfl Wv (Nat.le_of_ble_eq_true rfl) rfl rfl (fun bV an bS => ?_)
 refine ws _ ?_
 refine ws _ ?_
 refine ws _ ?_
 refine ws _ ?_
 refine ws _ ?_
 refine ws _ ?_
 exact aK (an _ (.inl (aL [bo (bT.mk J.Left J.b6 J.Result)] rfl (by cases aH h; rfl) (by decide) aM)))
theorem apq (J : List h0) (r : (List bT)) (h : zS J = some r) : aR aJ 41 [.slice (J.map fG)] (.aw 3 (r.map bo)) [] := by
 refine aR.bY (fx := [0]) bZ [.tmp 2] [(0, .slice (J.map fG))] Tryz.func41 rfl rfl WE (Nat.le_of_ble_eq_true rfl) rfl rfl (fun bV an bS => ?_)
 refine ws _ ?_
 obtain ⟨uJ, a2, h⟩ := aO h
 refine cT (b1 [(0, .slice (J.map fG)), (3, .aw 3 ((List.replicate (Int.toNat (J.length : Int)) (bT.mk ([] : List UInt8) ([] : List UInt8) ([] : List UInt8))).map bo))] (fun P ak => ?_) ?_)
 ·simp only [aY.down, simprocAttr, eX, rM, px, rP, mB, bo, fG, (e2 a2).1, (e2 a2).2.1, (e2 a2).2.2, eV, List.map_replicate, -Int.reduceNatCast']
  (try simp only [bn.down, simprocAttr, bo, fG, (e2 a2).1, (e2 a2).2.1, (e2 a2).2.2, eV, List.map_replicate, -Int.reduceNatCast'] at ak ⊢); exact ak
 refine aN (fun dQ eL b9 bl => ?_)
 refine ws [(0, .slice (J.map fG)), (3, .aw 3 ((List.replicate (Int.toNat (J.length : Int)) (bT.mk ([] : List UInt8) ([] : List UInt8) ([] : List UInt8))).map bo)), (4, .int .i64 0)] ?_
 refine bK (fun fc dv dF cL b4 => ?_)
 have jH : ∀ (n : Nat) (bC : List bT) (bw : Int), zR J n bC bw = some r → dG aJ Kw fc (aa [(0, .slice (J.map fG)), (3, .aw 3 (bC.map bo)), (4, .int .i64 bw)]) := by
  intro fm
  induction fm with
  | zero => intro bC bw h; cases (show none = some r from h)
  | succ fm jI =>
   intro bC bw h
   replace h : JX (zR J fm) J bC bw = some r := h
   refine dW (fun hp dZ eW dm => ?_)
   refine aN (fun hA hB gn gh => ?_)
   refine ws _ ?_
   rcases aT h with ⟨b2, h⟩ | ⟨b2, h⟩
   ·refine aX (congrArg I.bool b2) ?_
    simp only [b2, Bool.not_true, Bool.not_false]
    refine a5 (hB _ (.inl ?_))
    refine aN (fun iP fw h1 eF => ?_)
    refine bK (fun j3 g4 iE cI i1 => ?_)
    obtain ⟨ag, e5, h⟩ := aO h
    obtain ⟨ao, eR, h⟩ := aO h
    obtain ⟨aZ, cr, h⟩ := aO h
    refine kW (b1 [(0, .slice (J.map fG)), (3, .aw 3 ((List.set bC (Int.toNat bw) ao).map bo)), (4, .int .i64 bw)] (fun P ak => ?_) ?_)
    ·simp only [aY.down, simprocAttr, eX, rM, px, rP, mB, bo, fG, e5, cr, c6 cr, el, dT]
     refine ft (apo ag _ eR) rfl rfl rfl rfl (.inl (by rfl)) ?_
     simp only [aY.down, simprocAttr, eX, rM, px, rP, mB, bo, fG, e5, cr, c6 cr, el, dT]
     (try simp only [bn.down, simprocAttr, bo, fG, e5, cr, c6 cr, el, dT] at ak ⊢); exact ak
    refine g4 _ (fw _ (.inl ?_))
    refine wr [(0, .slice (J.map fG)), (3, .aw 3 ((List.set bC (Int.toNat bw) ao).map bo)), (4, .int .i64 (IntKind.i64.wrap (bw + 1)))] ?_
    exact dZ _ (.inr ⟨_, bx rfl, jI (List.set bC (Int.toNat bw) ao) (IntKind.i64.wrap (bw + 1)) h⟩)
   ·refine a0 (congrArg I.bool b2) ?_
    simp only [b2, Bool.not_true, Bool.not_false]
    refine dU (gh 0 _ (dm 0 _ (cL _ (eL _ (.inl ?_)))))
    refine ws _ ?_
    exact aK (an _ (.inl (aL [.aw 3 (bC.map bo)] rfl (by cases aH h; rfl) (by decide) aM)))
 obtain ⟨n, h⟩ := dM h
 exact dV (.inr ⟨_, bx rfl, jH n (List.replicate (Int.toNat (J.length : Int)) (bT.mk ([] : List UInt8) ([] : List UInt8) ([] : List UInt8))) 0 h⟩)
theorem LF (J : List (List UInt8)) (r : (List (List UInt8))) (h : wF J = some r) : aR aJ 42 [.slice (J.map bu)] (.aw 1 (r.map bu)) [] := by
 refine aR.bY (fx := [0]) bZ [.tmp 2] [(0, .slice (J.map bu))] Tryz.func42 rfl rfl WO (Nat.le_of_ble_eq_true rfl) rfl rfl (fun bV an bS => ?_)
 refine ws _ ?_
 obtain ⟨Fb, a2, h⟩ := aO h
 refine cT (b1 [(0, .slice (J.map bu)), (3, .aw 1 ((List.replicate (Int.toNat (J.length : Int)) ([] : List UInt8)).map bu))] (fun P ak => ?_) ?_)
 ·simp only [aY.down, simprocAttr, eX, kE, bu, (e2 a2).1, (e2 a2).2.1, (e2 a2).2.2, eV, List.map_replicate, -Int.reduceNatCast']
  (try simp only [bn.down, simprocAttr, bu, (e2 a2).1, (e2 a2).2.1, (e2 a2).2.2, eV, List.map_replicate, -Int.reduceNatCast'] at ak ⊢); exact ak
 refine aN (fun dQ eL b9 bl => ?_)
 refine ws [(0, .slice (J.map bu)), (3, .aw 1 ((List.replicate (Int.toNat (J.length : Int)) ([] : List UInt8)).map bu)), (4, .int .i64 0)] ?_
 refine bK (fun fc dv dF cL b4 => ?_)
 have jH : ∀ (n : Nat) (bC : List (List UInt8)) (bw : Int), zT J n bC bw = some r → dG aJ Kx fc (aa [(0, .slice (J.map bu)), (3, .aw 1 (bC.map bu)), (4, .int .i64 bw)]) := by
  intro fm
  induction fm with
  | zero => intro bC bw h; cases (show none = some r from h)
  | succ fm jI =>
   intro bC bw h
   replace h : JY (zT J fm) J bC bw = some r := h
   refine dW (fun hp dZ eW dm => ?_)
   refine aN (fun hA hB gn gh => ?_)
   refine ws _ ?_
   rcases aT h with ⟨b2, h⟩ | ⟨b2, h⟩
   ·refine aX (congrArg I.bool b2) ?_
    simp only [b2, Bool.not_true, Bool.not_false]
    refine a5 (hB _ (.inl ?_))
    refine aN (fun iP fw h1 eF => ?_)
    refine bK (fun j3 g4 iE cI i1 => ?_)
    obtain ⟨ag, e5, h⟩ := aO h
    obtain ⟨ao, eR, h⟩ := aO h
    refine kW (b1 [(0, .slice (J.map bu)), (3, .aw 1 ((List.set bC (Int.toNat bw) ag).map bu)), (4, .int .i64 bw)] (fun P ak => ?_) ?_)
    ·simp only [aY.down, simprocAttr, eX, kE, bu, e5, eR, c6 eR, el, dT]
     (try simp only [bn.down, simprocAttr, bu, e5, eR, c6 eR, el, dT] at ak ⊢); exact ak
    refine g4 _ (fw _ (.inl ?_))
    refine wr [(0, .slice (J.map bu)), (3, .aw 1 ((List.set bC (Int.toNat bw) ag).map bu)), (4, .int .i64 (IntKind.i64.wrap (bw + 1)))] ?_
    exact dZ _ (.inr ⟨_, bx rfl, jI (List.set bC (Int.toNat bw) ag) (IntKind.i64.wrap (bw + 1)) h⟩)
   ·refine a0 (congrArg I.bool b2) ?_
    simp only [b2, Bool.not_true, Bool.not_false]
    refine dU (gh 0 _ (dm 0 _ (cL _ (eL _ (.inl ?_)))))
    refine ws _ ?_
    exact aK (an _ (.inl (aL [.aw 1 (bC.map bu)] rfl (by cases aH h; rfl) (by decide) aM)))
 obtain ⟨n, h⟩ := dM h
 exact dV (.inr ⟨_, bx rfl, jH n (List.replicate (Int.toNat (J.length : Int)) ([] : List UInt8)) 0 h⟩)
theorem BM (J : kg) (r : ev) (h : qq J = some r) : aR aJ 9 [iA J] (l_ r) [] := by
 refine aR.bY (fx := [0]) bZ [.cell 2 36] [(0, iA J)] Tryz.func9 rfl rfl ma (Nat.le_of_ble_eq_true rfl) rfl rfl (fun bV an bS => ?_)
 refine ws _ ?_
 refine ws _ ?_
 obtain ⟨ag, c1, h⟩ := aO h
 refine dK (apk J.e8 _ c1) _ ?_
 obtain ⟨ao, cl, h⟩ := aO h
 refine dK (apn J.b_ _ cl) _ ?_
 obtain ⟨aZ, hN, h⟩ := aO h
 refine dK (apq J.g1 _ hN) _ ?_
 obtain ⟨bl, lr, h⟩ := aO h
 refine dK (LF J.gT _ lr) _ ?_
 obtain ⟨br, eh, h⟩ := aO h
 refine dK (LF J.gU _ eh) _ ?_
 refine ws _ ?_
 exact aK (an _ (.inl (aL [l_ (ev.mk ag ao aZ bl br)] rfl (by cases aH h; rfl) (by decide) aM)))
theorem Fe (J : UInt8) (r : Bool) (h : wG J = some r) : aR aJ 196 [.int .u8 (J.toNat : Int)] (.bool r) [] := by
 refine aR.bY (fx := [0]) bZ [.tmp 2] [(0, .int .u8 (J.toNat : Int))] Tryz.func196 rfl rfl WZ (Nat.le_of_ble_eq_true rfl) rfl rfl (fun bV an bS => ?_)
 refine ws _ ?_
 refine cT (b1 [(2, .bool ((decide (97 ≤ (J.toNat : Int))) && (decide ((J.toNat : Int) ≤ 122))))] (fun P ak => ?_) ?_)
 ·rcases Bool.eq_false_or_eq_true (decide (97 ≤ (J.toNat : Int))) with e6 | e6
  ·simp only [aY.down, simprocAttr, e6]
   (try simp only [bn.down, simprocAttr, e6] at ak ⊢); exact ak
  ·simp only [aY.down, simprocAttr, e6]
   (try simp only [bn.down, simprocAttr, e6] at ak ⊢); exact ak
 exact aK (an _ (.inl (aL [.bool ((decide (97 ≤ (J.toNat : Int))) && (decide ((J.toNat : Int) ≤ 122)))] rfl (by cases aH h; rfl) (by decide) aM)))
theorem apr (J : UInt8) (r : Bool) (h : Et J = some r) : aR aJ 197 [.int .u8 (J.toNat : Int)] (.bool r) [] := by
 refine aR.bY (fx := [0]) bZ [.tmp 2] [(0, .int .u8 (J.toNat : Int))] Tryz.func197 rfl rfl W2 (Nat.le_of_ble_eq_true rfl) rfl rfl (fun bV an bS => ?_)
 refine ws _ ?_
 refine cT (b1 [(2, .bool ((decide (48 ≤ (J.toNat : Int))) && (decide ((J.toNat : Int) ≤ 57))))] (fun P ak => ?_) ?_)
 ·rcases Bool.eq_false_or_eq_true (decide (48 ≤ (J.toNat : Int))) with e6 | e6
  ·simp only [aY.down, simprocAttr, e6]
   (try simp only [bn.down, simprocAttr, e6] at ak ⊢); exact ak
  ·simp only [aY.down, simprocAttr, e6]
   (try simp only [bn.down, simprocAttr, e6] at ak ⊢); exact ak
 exact aK (an _ (.inl (aL [.bool ((decide (48 ≤ (J.toNat : Int))) && (decide ((J.toNat : Int) ≤ 57)))] rfl (by cases aH h; rfl) (by decide) aM)))
set_option maxHeartbeats 600000 in
theorem xF (J : List UInt8) (r : Bool) (h : uj J = some r) : aR aJ 161 [.str J] (.bool r) [] := by
 refine aR.bY (fx := [0]) bZ [.tmp 2] [(0, .str J)] Tryz.func161 rfl rfl Xe (Nat.le_of_ble_eq_true rfl) rfl rfl (fun bV an bS => ?_)
 refine ws _ ?_
 refine aN (fun ek bR bj ao => ?_)
 rcases aT h with ⟨ba, h⟩ | ⟨ba, h⟩
 ·refine hR ba _ ?_
  refine aX rfl ?_
  refine ws _ ?_
  exact aK (bj _ (an _ (.inl (aL [.bool false] rfl (by cases aH h; rfl) (by decide) aM))))
 ·rcases aT h with ⟨cL, h⟩ | ⟨cL, h⟩
  ·refine hR (And.intro ba cL) _ ?_
   refine aX rfl ?_
   refine ws _ ?_
   exact aK (bj _ (an _ (.inl (aL [.bool false] rfl (by cases aH h; rfl) (by decide) aM))))
  ·obtain ⟨ag, hN, h⟩ := aO h
   obtain ⟨ao, ku, h⟩ := aO h
   refine cT (b1 [(0, .str J), (16, .bool (!ao))] (fun P ak => ?_) ?_)
   ·simp only [aY.down, simprocAttr, eX, ba, cL, hN]
    refine hy (Fe ag _ ku) rfl rfl rfl rfl (.inl (by rfl)) ?_
    simp only [aY.down, simprocAttr, eX, ba, cL, hN]
    (try simp only [bn.down, simprocAttr, ba, cL, hN] at ak ⊢); exact ak
   rcases aT h with ⟨b2, h⟩ | ⟨b2, h⟩
   ·refine aX (congrArg I.bool b2) ?_
    simp only [(c8 b2), Bool.not_true, Bool.not_false]
    refine ws _ ?_
    exact aK (bj _ (an _ (.inl (aL [.bool false] rfl (by cases aH h; rfl) (by decide) aM))))
   ·refine a0 (congrArg I.bool b2) ?_
    simp only [(bq b2), Bool.not_true, Bool.not_false]
    refine a5 (bR _ (.inl ?_))
    refine aN (fun j3 g4 iE i1 => ?_)
    refine ws _ ?_
    refine bK (fun iD fy eJ ef ho => ?_)
    have hs : ∀ (n : Nat) (cN : Int), ui J n cN = some r → dG aJ Ky iD (aa [(0, .str J), (3, .int .i64 cN)]) := by
     intro dy
     induction dy with
     | zero => intro cN h; cases (show none = some r from h)
     | succ dy g5 =>
      intro cN h
      replace h : zU (ui J dy) J cN = some r := h
      refine dW (fun mc hT hz je => ?_)
      refine aN (fun pE kn jG l9 => ?_)
      refine ws _ ?_
      rcases aT h with ⟨ee, h⟩ | ⟨ee, h⟩
      ·refine aX (congrArg I.bool ee) ?_
       simp only [ee, Bool.not_true, Bool.not_false]
       refine a5 (kn _ (.inl ?_))
       refine aN (fun LG uK BN Ff => ?_)
       refine bK (fun aps BO Fg cZ apt => ?_)
       obtain ⟨aZ, hC, h⟩ := aO h
       obtain ⟨bl, n5, h⟩ := aO h
       rcases aT h with ⟨hr, h⟩ | ⟨hr, h⟩
       ·obtain ⟨br, kF, h⟩ := aO h
        refine cT (b1 [(0, .str J), (3, .int .i64 cN), (34, .bool (!br))] (fun P ak => ?_) ?_)
        ·simp only [aY.down, simprocAttr, eX, hC, (c8 hr)]
         refine ft (Fe aZ _ n5) rfl rfl rfl rfl (.inl (by rfl)) ?_
         simp only [aY.down, simprocAttr, eX, hC, (c8 hr)]
         refine hy (apr aZ _ kF) rfl rfl rfl rfl (.inl (by rfl)) ?_
         simp only [aY.down, simprocAttr, eX, hC, (c8 hr)]
         (try simp only [bn.down, simprocAttr, hC, (c8 hr)] at ak ⊢); exact ak
        rcases aT h with ⟨e_, h⟩ | ⟨e_, h⟩
        ·refine aX (congrArg I.bool e_) ?_
         simp only [(c8 e_), Bool.not_true, Bool.not_false]
         refine ws _ ?_
         exact aK (Fg _ (BN _ (hz _ (eJ _ (iE _ (an _ (.inl (aL [.bool false] rfl (by cases aH h; rfl) (by decide) aM))))))))
        ·refine a0 (congrArg I.bool e_) ?_
         simp only [(bq e_), Bool.not_true, Bool.not_false]
         refine a5 (BO _ (uK _ (.inl ?_)))
         refine wr _ ?_
         exact hT _ (.inr ⟨_, bx rfl, g5 (IntKind.i64.wrap (cN + 1)) h⟩)
       ·refine iB (And.intro hC (bq hr)) (Fe aZ _ n5) _ ?_
        refine a0 rfl ?_
        refine a5 (BO _ (uK _ (.inl ?_)))
        refine wr _ ?_
        exact hT _ (.inr ⟨_, bx rfl, g5 (IntKind.i64.wrap (cN + 1)) h⟩)
      ·refine a0 (congrArg I.bool ee) ?_
       simp only [ee, Bool.not_true, Bool.not_false]
       refine dU (l9 0 _ (je 0 _ (ef _ (g4 _ (.inl ?_)))))
       refine ws _ ?_
       exact aK (an _ (.inl (aL [.bool true] rfl (by cases aH h; rfl) (by decide) aM)))
    obtain ⟨n, h⟩ := dM h
    exact dV (.inr ⟨_, bx rfl, hs n 0 h⟩)
theorem n6 (J : Int) (ab : Int) (bk : Int) (r : Bool) (h : lH J ab bk = some r) : aR aJ 87 [.int .i64 J, .int .i64 ab, .int .i64 bk] (.bool r) [] := by
 refine aR.bY (fx := [0, 1, 2]) bZ [.tmp 6] [(0, .int .i64 J), (1, .int .i64 ab), (2, .int .i64 bk)] Tryz.func87 rfl rfl Xh (Nat.le_of_ble_eq_true rfl) rfl rfl (fun bV an bS => ?_)
 refine ws _ ?_
 refine cT (b1 [(6, .bool ((decide (ab ≤ J)) && (decide (J ≤ bk))))] (fun P ak => ?_) ?_)
 ·rcases Bool.eq_false_or_eq_true (decide (ab ≤ J)) with e6 | e6
  ·simp only [aY.down, simprocAttr, e6]
   (try simp only [bn.down, simprocAttr, e6] at ak ⊢); exact ak
  ·simp only [aY.down, simprocAttr, e6]
   (try simp only [bn.down, simprocAttr, e6] at ak ⊢); exact ak
 exact aK (an _ (.inl (aL [.bool ((decide (ab ≤ J)) && (decide (J ≤ bk)))] rfl (by cases aH h; rfl) (by decide) aM)))
theorem LH (J : bz) (r : Int) (h : wI J = some r) : aR aJ 216 [.ref (cb J)] (.int .i64 r) [] := by
 refine aR.bY (fx := [0]) bZ [.tmp 2] [(0, .ref (cb J))] Tryz.func216 rfl rfl Xu (Nat.le_of_ble_eq_true rfl) rfl rfl (fun bV an bS => ?_)
 refine ws _ ?_
 refine aN (fun ek bR bj ao => ?_)
 refine ws _ ?_
 refine bK (fun dQ eL b9 ba bl => ?_)
 have su : ∀ (g2 : Bool), wH J g2 = some r → db aJ Kz dQ (aa [(6, .int .i64 J.Kind), (7, .bool g2)]) := by
  intro g2 h
  rcases aT h with ⟨cL, h⟩ | ⟨cL, h⟩
  ·refine aX (congrArg I.bool cL) ?_
   simp only [cL, Bool.not_true, Bool.not_false]
   refine ws _ ?_
   exact aK (b9 _ (bj _ (an _ (.inl (aL [.int .i64 1] rfl (by cases aH h; rfl) (by decide) aM)))))
  ·refine a0 (congrArg I.bool cL) ?_
   simp only [cL, Bool.not_true, Bool.not_false]
   refine ws _ ?_
   rcases aT h with ⟨d_, h⟩ | ⟨d_, h⟩
   ·refine aX (congrArg I.bool d_) ?_
    simp only [d_, Bool.not_true, Bool.not_false]
    refine ws _ ?_
    exact aK (b9 _ (bj _ (an _ (.inl (aL [.int .i64 2] rfl (by cases aH h; rfl) (by decide) aM)))))
   ·refine a0 (congrArg I.bool d_) ?_
    simp only [d_, Bool.not_true, Bool.not_false]
    refine a5 (eL _ (bR _ (.inl ?_)))
    refine ws _ ?_
    exact aK (an _ (.inl (aL [.int .i64 0] rfl (by cases aH h; rfl) (by decide) aM)))
 refine aN (fun g6 dR dJ br => ?_)
 refine ws _ ?_
 rcases aT h with ⟨cH, h⟩ | ⟨cH, h⟩
 ·refine aX (congrArg I.bool cH) ?_
  simp only [cH, Bool.not_true, Bool.not_false]
  exact a5 (dR _ (.inr ⟨_, bx rfl, su true h⟩))
 ·refine a0 (congrArg I.bool cH) ?_
  simp only [cH, Bool.not_true, Bool.not_false]
  refine ws _ ?_
  rcases aT h with ⟨cB, h⟩ | ⟨cB, h⟩
  ·refine aX (congrArg I.bool cB) ?_
   simp only [cB, Bool.not_true, Bool.not_false]
   exact a5 (dR _ (.inr ⟨_, bx rfl, su true h⟩))
  ·refine a0 (congrArg I.bool cB) ?_
   simp only [cB, Bool.not_true, Bool.not_false]
   refine wr _ ?_
   exact dR _ (.inr ⟨_, bx rfl, su (J.Kind == 4) h⟩)
theorem apu (J : List bz) (r : Bool) (h : zW J = some r) : aR aJ 198 [.slice (J.map cb)] (.bool r) [] := by
 refine aR.bY (fx := [0]) bZ [.tmp 2] [(0, .slice (J.map cb))] Tryz.func198 rfl rfl XJ (Nat.le_of_ble_eq_true rfl) rfl rfl (fun bV an bS => ?_)
 refine ws _ ?_
 refine aN (fun ek bR bj ao => ?_)
 refine cT (b1 [(0, .slice (J.map cb)), (12, .bool (((J.length : Int) == 0) || (decide (20 < (J.length : Int)))))] (fun P ak => ?_) ?_)
 ·rcases Bool.eq_false_or_eq_true ((J.length : Int) == 0) with ha | ha
  ·simp only [aY.down, simprocAttr, BF.down, ha]
   (try simp only [bn.down, simprocAttr, mb.down, ha] at ak ⊢); exact ak
  ·simp only [aY.down, simprocAttr, BF.down, ha]
   (try simp only [bn.down, simprocAttr, mb.down, ha] at ak ⊢); exact ak
 rcases aT h with ⟨bI, h⟩ | ⟨bI, h⟩
 ·refine aX (congrArg I.bool bI) ?_
  simp only [bI, Bool.not_true, Bool.not_false]
  refine ws _ ?_
  exact aK (bj _ (an _ (.inl (aL [.bool false] rfl (by cases aH h; rfl) (by decide) aM))))
 ·refine a0 (congrArg I.bool bI) ?_
  simp only [bI, Bool.not_true, Bool.not_false]
  refine a5 (bR _ (.inl ?_))
  refine ws _ ?_
  refine aN (fun hA hB gn gh => ?_)
  refine ws _ ?_
  refine bK (fun e1 cd cA b2 c4 => ?_)
  have kl : ∀ (n : Nat) (mD : Int) (ni : Int), rQ J n mD ni = some r → dG aJ KA e1 (aa [(0, .slice (J.map cb)), (3, .int .i64 mD), (4, .int .i64 ni)]) := by
   intro gx
   induction gx with
   | zero => intro mD ni h; cases (show none = some r from h)
   | succ gx km =>
    intro mD ni h
    replace h : zV (rQ J gx) J mD ni = some r := h
    refine dW (fun iP fw h1 eF => ?_)
    refine aN (fun j3 g4 iE i1 => ?_)
    refine ws _ ?_
    rcases aT h with ⟨ef, h⟩ | ⟨ef, h⟩
    ·refine aX (congrArg I.bool ef) ?_
     simp only [ef, Bool.not_true, Bool.not_false]
     refine a5 (g4 _ (.inl ?_))
     refine aN (fun mc hT hz je => ?_)
     refine bK (fun pE kn jG ij l9 => ?_)
     refine aN (fun n7 jJ i2 nu => ?_)
     refine ws _ ?_
     rcases aT h with ⟨dL, h⟩ | ⟨dL, h⟩
     ·refine aX (congrArg I.bool dL) ?_
      simp only [dL, Bool.not_true, Bool.not_false]
      refine ws _ ?_
      exact aK (i2 _ (jG _ (hz _ (h1 _ (cA _ (gn _ (an _ (.inl (aL [.bool false] rfl (by cases aH h; rfl) (by decide) aM)))))))))
     ·refine a0 (congrArg I.bool dL) ?_
      simp only [dL, Bool.not_true, Bool.not_false]
      refine a5 (jJ _ (.inl ?_))
      obtain ⟨ag, hC, h⟩ := aO h
      obtain ⟨ao, n5, h⟩ := aO h
      refine E5 hC (LH ag _ n5) _ ?_
      refine kn _ (hT _ (.inl ?_))
      refine wr _ ?_
      exact fw _ (.inr ⟨_, bx rfl, km (IntKind.i64.wrap (mD + (IntKind.i64.wrap (ao - 1)))) (IntKind.i64.wrap (ni + 1)) h⟩)
    ·refine a0 (congrArg I.bool ef) ?_
     simp only [ef, Bool.not_true, Bool.not_false]
     refine dU (i1 0 _ (eF 0 _ (b2 _ (hB _ (.inl ?_)))))
     refine ws _ ?_
     exact aK (an _ (.inl (aL [.bool (mD == 0)] rfl (by cases aH h; rfl) (by decide) aM)))
  obtain ⟨n, h⟩ := dM h
  exact dV (.inr ⟨_, bx rfl, kl n 1 0 h⟩)
set_option maxHeartbeats 600000 in
theorem apv (J : bz) (r : Bool) (h : Eu J = some r) : aR aJ 217 [.ref (cb J)] (.bool r) [] := by
 refine aR.bY (fx := [0]) bZ [.tmp 2] [(0, .ref (cb J))] Tryz.func217 rfl rfl X3 (Nat.le_of_ble_eq_true rfl) rfl rfl (fun bV an bS => ?_)
 refine ws _ ?_
 refine aN (fun ek bR bj ao => ?_)
 refine ws _ ?_
 refine bK (fun dQ eL b9 ba bl => ?_)
 have uL : ∀ (wJ : Bool), zX J wJ = some r → db aJ KB dQ (aa [(0, .ref (cb J)), (6, .int .i64 J.Kind), (7, .bool wJ)]) := by
  intro wJ h
  rcases aT h with ⟨cL, h⟩ | ⟨cL, h⟩
  ·refine aX (congrArg I.bool cL) ?_
   simp only [cL, Bool.not_true, Bool.not_false]
   refine cT (b1 [(2, .bool (((J.Number == 0) && (J.Name == ([] : List UInt8))) && ((J.cq.length : Int) == 0)))] (fun P ak => ?_) ?_)
   ·(rcases Bool.eq_false_or_eq_true (J.Number == 0) with Fh | Fh) <;> (rcases Bool.eq_false_or_eq_true (J.Name == ([] : List UInt8)) with ma | ma) <;>
     (simp only [aY.down, simprocAttr, nr.down, Fh, ma]
      (try simp only [bn.down, simprocAttr, mb.down, Fh, ma] at ak ⊢); exact ak)
   exact aK (b9 _ (bj _ (an _ (.inl (aL [.bool (((J.Number == 0) && (J.Name == ([] : List UInt8))) && ((J.cq.length : Int) == 0))] rfl (by cases aH h; rfl) (by decide) aM)))))
  ·refine a0 (congrArg I.bool cL) ?_
   simp only [cL, Bool.not_true, Bool.not_false]
   refine ws _ ?_
   rcases aT h with ⟨hq, h⟩ | ⟨hq, h⟩
   ·refine aX (congrArg I.bool hq) ?_
    simp only [hq, Bool.not_true, Bool.not_false]
    refine ws _ ?_
    exact aK (b9 _ (bj _ (an _ (.inl (aL [.bool (J.Number == 0)] rfl (by cases aH h; rfl) (by decide) aM)))))
   ·refine a0 (congrArg I.bool hq) ?_
    simp only [hq, Bool.not_true, Bool.not_false]
    refine ws _ ?_
    rcases aT h with ⟨ef, h⟩ | ⟨ef, h⟩
    ·refine aX (congrArg I.bool ef) ?_
     simp only [ef, Bool.not_true, Bool.not_false]
     refine cT (b1 [(2, .bool ((J.Number == 0) && (J.Name == ([] : List UInt8))))] (fun P ak => ?_) ?_)
     ·rcases Bool.eq_false_or_eq_true (J.Number == 0) with xG | xG
      ·simp only [aY.down, simprocAttr, nr.down, xG]
       (try simp only [bn.down, simprocAttr, mb.down, xG] at ak ⊢); exact ak
      ·simp only [aY.down, simprocAttr, nr.down, xG]
       (try simp only [bn.down, simprocAttr, mb.down, xG] at ak ⊢); exact ak
     exact aK (b9 _ (bj _ (an _ (.inl (aL [.bool ((J.Number == 0) && (J.Name == ([] : List UInt8)))] rfl (by cases aH h; rfl) (by decide) aM)))))
    ·refine a0 (congrArg I.bool ef) ?_
     simp only [ef, Bool.not_true, Bool.not_false]
     refine ws _ ?_
     rcases aT h with ⟨ee, h⟩ | ⟨ee, h⟩
     ·refine aX (congrArg I.bool ee) ?_
      simp only [ee, Bool.not_true, Bool.not_false]
      refine cT (b1 [(2, .bool ((J.Name == ([] : List UInt8)) && ((J.cq.length : Int) == 0)))] (fun P ak => ?_) ?_)
      ·rcases Bool.eq_false_or_eq_true (J.Name == ([] : List UInt8)) with xH | xH
       ·simp only [aY.down, simprocAttr, nr.down, xH]
        (try simp only [bn.down, simprocAttr, mb.down, xH] at ak ⊢); exact ak
       ·simp only [aY.down, simprocAttr, nr.down, xH]
        (try simp only [bn.down, simprocAttr, mb.down, xH] at ak ⊢); exact ak
      exact aK (b9 _ (bj _ (an _ (.inl (aL [.bool ((J.Name == ([] : List UInt8)) && ((J.cq.length : Int) == 0))] rfl (by cases aH h; rfl) (by decide) aM)))))
     ·refine a0 (congrArg I.bool ee) ?_
      simp only [ee, Bool.not_true, Bool.not_false]
      refine ws _ ?_
      rcases aT h with ⟨i3, h⟩ | ⟨i3, h⟩
      ·refine aX (congrArg I.bool i3) ?_
       simp only [i3, Bool.not_true, Bool.not_false]
       refine ws _ ?_
       exact aK (b9 _ (bj _ (an _ (.inl (aL [.bool (J.Name == ([] : List UInt8))] rfl (by cases aH h; rfl) (by decide) aM)))))
      ·refine a0 (congrArg I.bool i3) ?_
       simp only [i3, Bool.not_true, Bool.not_false]
       refine a5 (eL _ (bR _ (.inl ?_)))
       refine ws _ ?_
       exact aK (an _ (.inl (aL [.bool false] rfl (by cases aH h; rfl) (by decide) aM)))
 refine aN (fun g6 dR dJ br => ?_)
 refine ws _ ?_
 rcases aT h with ⟨e_, h⟩ | ⟨e_, h⟩
 ·refine aX (congrArg I.bool e_) ?_
  simp only [e_, Bool.not_true, Bool.not_false]
  exact a5 (dR _ (.inr ⟨_, bx rfl, uL true h⟩))
 ·refine a0 (congrArg I.bool e_) ?_
  simp only [e_, Bool.not_true, Bool.not_false]
  refine wr _ ?_
  exact dR _ (.inr ⟨_, bx rfl, uL (J.Kind == 2) h⟩)
theorem apw (J : List bz) (ab : Int) (r : Int) (h : zZ J ab = some r) : aR aJ 224 [.slice (J.map cb), .int .i64 ab] (.int .i64 r) [] := by
 refine aR.bY (fx := [0]) bZ [.tmp 4] [(0, .slice (J.map cb)), (1, .int .i64 ab)] Tryz.func224 rfl rfl Ya (Nat.le_of_ble_eq_true rfl) rfl rfl (fun bV an bS => ?_)
 refine ws _ ?_
 refine ws _ ?_
 refine aN (fun kk gK dO aZ => ?_)
 refine bK (fun dQ eL b9 ba bl => ?_)
 have fo : ∀ (n : Nat) (aV : Int) (aG : Int), rR J n aV aG = some r → dG aJ KC dQ (aa [(0, .slice (J.map cb)), (1, .int .i64 aV), (5, .int .i64 aG)]) := by
  intro ch
  induction ch with
  | zero => intro aV aG h; cases (show none = some r from h)
  | succ ch fa =>
   intro aV aG h
   replace h : zY (rR J ch) J aV aG = some r := h
   refine dW (fun g6 dR dJ br => ?_)
   refine aN (fun fc dv dF b4 => ?_)
   refine ws _ ?_
   rcases aT h with ⟨a6, h⟩ | ⟨a6, h⟩
   ·refine aX (congrArg I.bool a6) ?_
    simp only [a6, Bool.not_true, Bool.not_false]
    refine a5 (dv _ (.inl ?_))
    refine bK (fun ey cQ cg d_ dB => ?_)
    obtain ⟨ag, nE, h⟩ := aO h
    obtain ⟨ao, eh, h⟩ := aO h
    refine iB nE (LH ag _ eh) _ ?_
    refine wr _ ?_
    exact cQ _ (dR _ (.inr ⟨_, bx rfl, fa (IntKind.i64.wrap (aV + 1)) (IntKind.i64.wrap (aG + (IntKind.i64.wrap (ao - 1)))) h⟩))
   ·refine a0 (congrArg I.bool a6) ?_
    simp only [a6, Bool.not_true, Bool.not_false]
    refine dU (b4 0 _ (br 0 _ (ba _ (gK _ (.inl ?_)))))
    refine ws _ ?_
    exact aK (an _ (.inl (aL [.int .i64 aV] rfl (by cases aH h; rfl) (by decide) aM)))
 obtain ⟨n, h⟩ := dM h
 exact dV (.inr ⟨_, bx rfl, fo n ab 1 h⟩)
theorem apx (J : bb) (ab : Int) (r : Int) (h : uo J ab = some r) : aR aJ 218 [.ref (bp J), .int .i64 ab] (.int .i64 r) [] := by
 refine aR.bY (fx := [0, 1]) bZ [.tmp 4] [(0, .ref (bp J)), (1, .int .i64 ab)] Tryz.func218 rfl rfl Yk (Nat.le_of_ble_eq_true rfl) rfl rfl (fun bV an bS => ?_)
 refine ws _ ?_
 refine ws _ ?_
 refine aN (fun kk gK dO aZ => ?_)
 refine ws _ ?_
 refine bK (fun g6 dR dJ bI br => ?_)
 have jH : ∀ (n : Nat) (kY : Int) (ki : Int), qs J ab n kY ki = some r → dG aJ KE g6 (aa [(0, .ref (bp J)), (1, .int .i64 ab), (5, .int .i64 kY), (6, .int .i64 ki)]) := by
  intro fm
  induction fm with
  | zero => intro kY ki h; cases (show none = some r from h)
  | succ fm jI =>
   intro kY ki h
   replace h : z0 (qs J ab fm) J ab kY ki = some r := h
   refine dW (fun fc dv dF b4 => ?_)
   refine aN (fun hp dZ eW dm => ?_)
   refine ws _ ?_
   rcases aT h with ⟨d_, h⟩ | ⟨d_, h⟩
   ·refine aX (congrArg I.bool d_) ?_
    simp only [d_, Bool.not_true, Bool.not_false]
    refine a5 (dZ _ (.inl ?_))
    have Fi : ∀ (uk : Int) (um : Int), wK (qs J ab fm) J ab uk um = some r → db aJ KD fc (aa [(0, .ref (bp J)), (1, .int .i64 ab), (5, .int .i64 uk), (6, .int .i64 um)]) := by
     intro uk um h
     refine wr _ ?_
     exact dv _ (.inr ⟨_, bx rfl, jI uk (IntKind.i64.wrap (um + 1)) h⟩)
    refine aN (fun e1 cd cA c4 => ?_)
    refine bK (fun j3 g4 iE cI i1 => ?_)
    obtain ⟨ag, e5, h⟩ := aO h
    rcases aT h with ⟨cB, h⟩ | ⟨cB, h⟩
    ·obtain ⟨ao, cr, h⟩ := aO h
     refine cT (b1 [(0, .ref (bp J)), (1, .int .i64 ab), (5, .int .i64 kY), (6, .int .i64 ki), (34, .bool (decide (ab < ao)))] (fun P ak => ?_) ?_)
     ·simp only [aY.down, simprocAttr, oY.down, e5, cB]
      refine hy (apw J.Body ki _ cr) rfl rfl rfl rfl (.inl (by rfl)) ?_
      simp only [aY.down, simprocAttr, oY.down, e5, cB]
      (try simp only [bn.down, simprocAttr, hS.down, e5, cB] at ak ⊢); exact ak
     rcases aT h with ⟨ib, h⟩ | ⟨ib, h⟩
     ·refine aX (congrArg I.bool ib) ?_
      simp only [ib, Bool.not_true, Bool.not_false]
      refine wr _ ?_
      exact g4 _ (cd _ (.inr ⟨_, bx rfl, Fi (IntKind.i64.wrap (kY + 1)) ki h⟩))
     ·refine a0 (congrArg I.bool ib) ?_
      simp only [ib, Bool.not_true, Bool.not_false]
      exact a5 (g4 _ (cd _ (.inr ⟨_, bx rfl, Fi kY ki h⟩)))
    ·refine hR (And.intro e5 cB) _ ?_
     refine a0 rfl ?_
     exact a5 (g4 _ (cd _ (.inr ⟨_, bx rfl, Fi kY ki h⟩)))
   ·refine a0 (congrArg I.bool d_) ?_
    simp only [d_, Bool.not_true, Bool.not_false]
    refine dU (dm 0 _ (b4 0 _ (bI _ (gK _ (.inl ?_)))))
    refine ws _ ?_
    exact aK (an _ (.inl (aL [.int .i64 kY] rfl (by cases aH h; rfl) (by decide) aM)))
 obtain ⟨n, h⟩ := dM h
 exact dV (.inr ⟨_, bx rfl, jH n J.dc 0 h⟩)
theorem apy (J : bP) (ab : Int) (r : Bool) (h : z1 J ab = some r) : aR aJ 175 [.ref (bQ J), .int .i64 ab] (.bool r) [] := by
 refine aR.bY (fx := [0, 1]) bZ [.tmp 4] [(0, .ref (bQ J)), (1, .int .i64 ab)] Tryz.func175 rfl rfl YA (Nat.le_of_ble_eq_true rfl) rfl rfl (fun bV an bS => ?_)
 refine ws _ ?_
 refine aN (fun ek bR bj ao => ?_)
 refine ws _ ?_
 refine bK (fun dQ eL b9 ba bl => ?_)
 refine ws _ ?_
 rcases aT h with ⟨cL, h⟩ | ⟨cL, h⟩
 ·refine aX (congrArg I.bool cL) ?_
  simp only [cL, Bool.not_true, Bool.not_false]
  obtain ⟨ag, hN, h⟩ := aO h
  refine dK (n6 J.Value 0 63 _ hN) _ ?_
  exact aK (b9 _ (bj _ (an _ (.inl (aL [.bool ag] rfl (by cases aH h; rfl) (by decide) aM)))))
 ·refine a0 (congrArg I.bool cL) ?_
  simp only [cL, Bool.not_true, Bool.not_false]
  refine ws _ ?_
  rcases aT h with ⟨b2, h⟩ | ⟨b2, h⟩
  ·refine aX (congrArg I.bool b2) ?_
   simp only [b2, Bool.not_true, Bool.not_false]
   obtain ⟨ao, eh, h⟩ := aO h
   refine dK (n6 J.Value 0 (IntKind.i64.wrap (ab - 1)) _ eh) _ ?_
   exact aK (b9 _ (bj _ (an _ (.inl (aL [.bool ao] rfl (by cases aH h; rfl) (by decide) aM)))))
  ·refine a0 (congrArg I.bool b2) ?_
   simp only [b2, Bool.not_true, Bool.not_false]
   refine ws _ ?_
   rcases aT h with ⟨ef, h⟩ | ⟨ef, h⟩
   ·refine aX (congrArg I.bool ef) ?_
    simp only [ef, Bool.not_true, Bool.not_false]
    obtain ⟨aZ, cr, h⟩ := aO h
    refine dK (n6 J.Value 0 8 _ cr) _ ?_
    exact aK (b9 _ (bj _ (an _ (.inl (aL [.bool aZ] rfl (by cases aH h; rfl) (by decide) aM)))))
   ·refine a0 (congrArg I.bool ef) ?_
    simp only [ef, Bool.not_true, Bool.not_false]
    refine ws _ ?_
    rcases aT h with ⟨ee, h⟩ | ⟨ee, h⟩
    ·refine aX (congrArg I.bool ee) ?_
     simp only [ee, Bool.not_true, Bool.not_false]
     refine ws _ ?_
     exact aK (b9 _ (bj _ (an _ (.inl (aL [.bool (J.Value == 0)] rfl (by cases aH h; rfl) (by decide) aM)))))
    ·refine a0 (congrArg I.bool ee) ?_
     simp only [ee, Bool.not_true, Bool.not_false]
     refine a5 (eL _ (bR _ (.inl ?_)))
     refine ws _ ?_
     exact aK (an _ (.inl (aL [.bool false] rfl (by cases aH h; rfl) (by decide) aM)))
theorem apz (J : bP) (r : Int) (h : Ev J = some r) : aR aJ 176 [.ref (bQ J)] (.int .i64 r) [] := by
 refine aR.bY (fx := [0]) bZ [.tmp 2] [(0, .ref (bQ J))] Tryz.func176 rfl rfl YK (Nat.le_of_ble_eq_true rfl) rfl rfl (fun bV an bS => ?_)
 refine ws _ ?_
 refine aN (fun ek bR bj ao => ?_)
 refine ws _ ?_
 refine bK (fun dQ eL b9 ba bl => ?_)
 refine ws _ ?_
 rcases aT h with ⟨cL, h⟩ | ⟨cL, h⟩
 ·refine aX (congrArg I.bool cL) ?_
  simp only [cL, Bool.not_true, Bool.not_false]
  refine ws _ ?_
  exact aK (b9 _ (bj _ (an _ (.inl (aL [.int .i64 2] rfl (by cases aH h; rfl) (by decide) aM)))))
 ·refine a0 (congrArg I.bool cL) ?_
  simp only [cL, Bool.not_true, Bool.not_false]
  refine ws _ ?_
  rcases aT h with ⟨d_, h⟩ | ⟨d_, h⟩
  ·refine aX (congrArg I.bool d_) ?_
   simp only [d_, Bool.not_true, Bool.not_false]
   refine ws _ ?_
   exact aK (b9 _ (bj _ (an _ (.inl (aL [.int .i64 1] rfl (by cases aH h; rfl) (by decide) aM)))))
  ·refine a0 (congrArg I.bool d_) ?_
   simp only [d_, Bool.not_true, Bool.not_false]
   refine a5 (eL _ (bR _ (.inl ?_)))
   refine ws _ ?_
   exact aK (an _ (.inl (aL [.int .i64 0] rfl (by cases aH h; rfl) (by decide) aM)))
set_option maxHeartbeats 600000 in
theorem apA (J : List bP) (ab : Int) (bk : Int) (r : Bool) (h : z3 J ab bk = some r) : aR aJ 140 [.slice (J.map bQ), .int .i64 ab, .int .i64 bk] (.bool r) [] := by
 refine aR.bY (fx := [0, 1, 2]) bZ [.tmp 6] [(0, .slice (J.map bQ)), (1, .int .i64 ab), (2, .int .i64 bk)] Tryz.func140 rfl rfl YZ (Nat.le_of_ble_eq_true rfl) rfl rfl (fun bV an bS => ?_)
 refine ws _ ?_
 refine aN (fun ek bR bj ao => ?_)
 refine ws _ ?_
 rcases aT h with ⟨ba, h⟩ | ⟨ba, h⟩
 ·refine aX (congrArg I.bool ba) ?_
  simp only [ba, Bool.not_true, Bool.not_false]
  refine ws _ ?_
  exact aK (bj _ (an _ (.inl (aL [.bool false] rfl (by cases aH h; rfl) (by decide) aM))))
 ·refine a0 (congrArg I.bool ba) ?_
  simp only [ba, Bool.not_true, Bool.not_false]
  refine a5 (bR _ (.inl ?_))
  refine ws _ ?_
  refine aN (fun hp dZ eW dm => ?_)
  refine ws _ ?_
  refine bK (fun ey cQ cg d_ dB => ?_)
  have kl : ∀ (n : Nat) (g2 : Int) (mE : Int), rS J ab n g2 mE = some r → dG aJ KF ey (aa [(0, .slice (J.map bQ)), (1, .int .i64 ab), (7, .int .i64 g2), (8, .int .i64 mE)]) := by
   intro gx
   induction gx with
   | zero => intro g2 mE h; cases (show none = some r from h)
   | succ gx km =>
    intro g2 mE h
    replace h : z2 (rS J ab gx) J ab g2 mE = some r := h
    refine dW (fun e1 cd cA c4 => ?_)
    refine aN (fun iP fw h1 eF => ?_)
    refine ws _ ?_
    rcases aT h with ⟨cH, h⟩ | ⟨cH, h⟩
    ·refine aX (congrArg I.bool cH) ?_
     simp only [cH, Bool.not_true, Bool.not_false]
     refine a5 (fw _ (.inl ?_))
     refine aN (fun iD fy eJ ho => ?_)
     refine bK (fun mc hT hz cB je => ?_)
     refine aN (fun pE kn jG l9 => ?_)
     rcases aT h with ⟨ee, h⟩ | ⟨ee, h⟩
     ·refine hR ee _ ?_
      refine aX rfl ?_
      refine ws _ ?_
      exact aK (jG _ (hz _ (eJ _ (cA _ (cg _ (eW _ (an _ (.inl (aL [.bool false] rfl (by cases aH h; rfl) (by decide) aM)))))))))
     ·obtain ⟨ag, jK, h⟩ := aO h
      obtain ⟨ao, nt, h⟩ := aO h
      refine cT (b1 [(0, .slice (J.map bQ)), (1, .int .i64 ab), (7, .int .i64 g2), (8, .int .i64 mE), (28, .bool (!ao))] (fun P ak => ?_) ?_)
      ·simp only [aY.down, simprocAttr, mK.down, ee, jK]
       refine hy (apy ag ab _ nt) rfl rfl rfl rfl (.inl (by rfl)) ?_
       simp only [aY.down, simprocAttr, mK.down, ee, jK]
       (try simp only [bn.down, simprocAttr, bQ, ee, jK] at ak ⊢); exact ak
      rcases aT h with ⟨i3, h⟩ | ⟨i3, h⟩
      ·refine aX (congrArg I.bool i3) ?_
       simp only [(c8 i3), Bool.not_true, Bool.not_false]
       refine ws _ ?_
       exact aK (jG _ (hz _ (eJ _ (cA _ (cg _ (eW _ (an _ (.inl (aL [.bool false] rfl (by cases aH h; rfl) (by decide) aM)))))))))
      ·refine a0 (congrArg I.bool i3) ?_
       simp only [(bq i3), Bool.not_true, Bool.not_false]
       refine a5 (kn _ (.inl ?_))
       obtain ⟨aZ, kF, h⟩ := aO h
       refine E5 jK (apz ag _ kF) _ ?_
       refine hT _ (fy _ (.inl ?_))
       refine wr _ ?_
       exact cd _ (.inr ⟨_, bx rfl, km (IntKind.i64.wrap (g2 + (IntKind.i64.wrap (aZ - 1)))) (IntKind.i64.wrap (mE + 1)) h⟩)
    ·refine a0 (congrArg I.bool cH) ?_
     simp only [cH, Bool.not_true, Bool.not_false]
     refine dU (eF 0 _ (c4 0 _ (d_ _ (dZ _ (.inl ?_)))))
     refine ws _ ?_
     exact aK (an _ (.inl (aL [.bool (g2 == 0)] rfl (by cases aH h; rfl) (by decide) aM)))
  obtain ⟨n, h⟩ := dM h
  exact dV (.inr ⟨_, bx rfl, kl n 1 0 h⟩)
set_option maxHeartbeats 1200000 in
theorem apB (J : List bb) (ab : bb) (bk : Int) (r : Int) (h : wO J ab bk = some r) : aR aJ 199 [.slice (J.map bp), .ref (bp ab), .int .i64 bk] (.int .i64 r) [] := by
 refine aR.bY (fx := [0, 1, 2]) bZ [.tmp 6] [(0, .slice (J.map bp)), (1, .ref (bp ab)), (2, .int .i64 bk)] Tryz.func199 rfl rfl ZC (Nat.le_of_ble_eq_true rfl) rfl rfl (fun bV an bS => ?_)
 refine ws _ ?_
 obtain ⟨ag, a2, h⟩ := aO h
 refine hR a2 _ ?_
 refine aN (fun dQ eL b9 bl => ?_)
 obtain ⟨ao, cl, h⟩ := aO h
 refine cT (b1 [(0, .slice (J.map bp)), (1, .ref (bp ab)), (2, .int .i64 bk), (7, .a8 (cb ag)), (19, .bool (!ao))] (fun P ak => ?_) ?_)
 ·refine ft (apv ag _ cl) rfl rfl (by simp only [aY.down, simprocAttr, hS.down, hj, hk, hn, dn, @cj _ eG eG (fun _ => EZ _)] <;> rfl) rfl (.inr (by rfl)) ?_
  simp only [aY.down, simprocAttr, hS.down]
  (try simp only [bn.down, simprocAttr, hS.down] at ak ⊢); exact ak
 rcases aT h with ⟨iL, h⟩ | ⟨iL, h⟩
 ·refine aX (congrArg I.bool iL) ?_
  simp only [(c8 iL), Bool.not_true, Bool.not_false]
  refine ws _ ?_
  exact aK (b9 _ (an _ (.inl (aL [.int .i64 2] rfl (by cases aH h; rfl) (by decide) aM))))
 ·refine a0 (congrArg I.bool iL) ?_
  simp only [(bq iL), Bool.not_true, Bool.not_false]
  refine a5 (eL _ (.inl ?_))
  refine aN (fun ey cQ cg dB => ?_)
  have LI : ∀ (wN : Bool), z5 J ab bk ag wN = some r → db aJ KG ey (aa [(0, .slice (J.map bp)), (1, .ref (bp ab)), (2, .int .i64 bk), (7, .a8 (cb ag)), (28, .bool wN)]) := by
   intro wN h
   rcases aT h with ⟨b2, h⟩ | ⟨b2, h⟩
   ·refine aX (congrArg I.bool b2) ?_
    simp only [b2, Bool.not_true, Bool.not_false]
    refine ws _ ?_
    exact aK (cg _ (an _ (.inl (aL [.int .i64 3] rfl (by cases aH h; rfl) (by decide) aM))))
   ·refine a0 (congrArg I.bool b2) ?_
    simp only [b2, Bool.not_true, Bool.not_false]
    refine a5 (cQ _ (.inl ?_))
    refine aN (fun j3 g4 iE i1 => ?_)
    have xI : ∀ (wM : Bool), rU J ab bk ag wM = some r → db aJ KH j3 (aa [(0, .slice (J.map bp)), (1, .ref (bp ab)), (2, .int .i64 bk), (7, .a8 (cb ag)), (51, .bool wM)]) := by
     intro wM h
     rcases aT h with ⟨cH, h⟩ | ⟨cH, h⟩
     ·refine aX (congrArg I.bool cH) ?_
      simp only [cH, Bool.not_true, Bool.not_false]
      refine ws _ ?_
      exact aK (iE _ (an _ (.inl (aL [.int .i64 4] rfl (by cases aH h; rfl) (by decide) aM))))
     ·refine a0 (congrArg I.bool cH) ?_
      simp only [cH, Bool.not_true, Bool.not_false]
      refine a5 (g4 _ (.inl ?_))
      refine ws _ ?_
      have BP : rT ab bk ag = some r → db aJ KK bV (aa [(1, .ref (bp ab)), (2, .int .i64 bk), (7, .a8 (cb ag)), (8, .int .i64 (ag.cq.length : Int))]) := by
       intro h
       refine aN (fun n7 jJ i2 nu => ?_)
       have Fj : ∀ (wL : Bool), uq ab bk ag wL = some r → db aJ KI n7 (aa [(1, .ref (bp ab)), (2, .int .i64 bk), (7, .a8 (cb ag)), (8, .int .i64 (ag.cq.length : Int)), (102, .bool wL)]) := by
        intro wL h
        rcases aT h with ⟨ee, h⟩ | ⟨ee, h⟩
        ·refine aX (congrArg I.bool ee) ?_
         simp only [ee, Bool.not_true, Bool.not_false]
         refine ws _ ?_
         exact aK (i2 _ (an _ (.inl (aL [.int .i64 6] rfl (by cases aH h; rfl) (by decide) aM))))
        ·refine a0 (congrArg I.bool ee) ?_
         simp only [ee, Bool.not_true, Bool.not_false]
         refine a5 (jJ _ (.inl ?_))
         obtain ⟨aZ, nt, h⟩ := aO h
         refine dK (apx ab bk _ nt) _ ?_
         refine aN (fun uH mN me uI => ?_)
         refine cT (b1 [(7, .a8 (cb ag)), (8, .int .i64 (ag.cq.length : Int)), (9, .int .i64 aZ), (112, .bool ((ag.Kind == 4) && (decide (6 ≤ aZ))))] (fun P ak => ?_) ?_)
         ·rcases Bool.eq_false_or_eq_true (ag.Kind == 4) with xJ | xJ
          ·simp only [aY.down, simprocAttr, nr.down, xJ]
           (try simp only [bn.down, simprocAttr, mb.down, xJ] at ak ⊢); exact ak
          ·simp only [aY.down, simprocAttr, nr.down, xJ]
           (try simp only [bn.down, simprocAttr, mb.down, xJ] at ak ⊢); exact ak
         rcases aT h with ⟨gW, h⟩ | ⟨gW, h⟩
         ·refine aX (congrArg I.bool gW) ?_
          simp only [gW, Bool.not_true, Bool.not_false]
          refine ws _ ?_
          exact aK (me _ (an _ (.inl (aL [.int .i64 7] rfl (by cases aH h; rfl) (by decide) aM))))
         ·refine a0 (congrArg I.bool gW) ?_
          simp only [gW, Bool.not_true, Bool.not_false]
          refine a5 (mN _ (.inl ?_))
          refine aN (fun apC Fk Fl LJ => ?_)
          refine ws _ ?_
          refine bK (fun LK Fm Fo i4 apD => ?_)
          have apE : ∀ (n : Nat) (nj : Int) (nk : Int), qt ag n nj nk = some r → dG aJ KJ LK (aa [(7, .a8 (cb ag)), (8, .int .i64 (ag.cq.length : Int)), (9, .int .i64 nj), (10, .int .i64 nk)]) := by
           intro Fp
           induction Fp with
           | zero => intro nj nk h; cases (show none = some r from h)
           | succ Fp apF =>
            intro nj nk h
            replace h : z4 (qt ag Fp) ag nj nk = some r := h
            refine dW (fun avW apG apH apI => ?_)
            refine aN (fun LL xK xL Fq => ?_)
            refine ws _ ?_
            rcases aT h with ⟨fX, h⟩ | ⟨fX, h⟩
            ·refine aX (congrArg I.bool fX) ?_
             simp only [fX, Bool.not_true, Bool.not_false]
             refine a5 (xK _ (.inl ?_))
             refine aN (fun avX apJ apK avY => ?_)
             refine bK (fun avZ apL apM mO av0 => ?_)
             obtain ⟨bl, apN, h⟩ := aO h
             obtain ⟨br, apO, h⟩ := aO h
             refine iB apN (apA bl nj 15 _ apO) _ ?_
             rcases aT h with ⟨nv, h⟩ | ⟨nv, h⟩
             ·refine aX (congrArg I.bool nv) ?_
              simp only [(c8 nv), Bool.not_true, Bool.not_false]
              refine ws _ ?_
              exact aK (apM _ (apK _ (apH _ (Fo _ (Fl _ (an _ (.inl (aL [.int .i64 8] rfl (by cases aH h; rfl) (by decide) aM))))))))
             ·refine a0 (congrArg I.bool nv) ?_
              simp only [(bq nv), Bool.not_true, Bool.not_false]
              refine a5 (apL _ (apJ _ (.inl ?_)))
              refine wr _ ?_
              exact apG _ (.inr ⟨_, bx rfl, apF nj (IntKind.i64.wrap (nk + 1)) h⟩)
            ·refine a0 (congrArg I.bool fX) ?_
             simp only [fX, Bool.not_true, Bool.not_false]
             refine dU (Fq 1 _ (apI 1 _ (i4 _ (Fk _ (.inl ?_)))))
             refine ws _ ?_
             exact aK (an _ (.inl (aL [.int .i64 0] rfl (by cases aH h; rfl) (by decide) aM)))
          obtain ⟨n, h⟩ := dM h
          exact dV (.inr ⟨_, bx rfl, apE n aZ 0 h⟩)
       rcases aT h with ⟨qD, h⟩ | ⟨qD, h⟩
       ·rcases aT h with ⟨n8, h⟩ | ⟨n8, h⟩
        ·refine kf (b1 (K := eE _) [(1, .ref (bp ab)), (2, .int .i64 bk), (7, .a8 (cb ag)), (8, .int .i64 (ag.cq.length : Int)), (102, .bool true)] (fun P ak => ?_) ?_)
         ·simp only [aY.down, simprocAttr, oY.down, qD, n8]
          (try simp only [bn.down, simprocAttr, hS.down, qD, n8] at ak ⊢); exact ak
         exact .inr ⟨_, bx rfl, Fj true h⟩
        ·obtain ⟨b4, sv, h⟩ := aO h
         refine kf (b1 (K := eE _) [(1, .ref (bp ab)), (2, .int .i64 bk), (7, .a8 (cb ag)), (8, .int .i64 (ag.cq.length : Int)), (102, .bool (b4.Kind != 1))] (fun P ak => ?_) ?_)
         ·simp only [aY.down, simprocAttr, oY.down, qD, n8, sv]
          (try simp only [bn.down, simprocAttr, hS.down, qD, n8, sv] at ak ⊢); exact ak
         exact .inr ⟨_, bx rfl, Fj (b4.Kind != 1) h⟩
       ·refine kf (b1 (K := eE _) [(1, .ref (bp ab)), (2, .int .i64 bk), (7, .a8 (cb ag)), (8, .int .i64 (ag.cq.length : Int)), (102, .bool false)] (fun P ak => ?_) ?_)
        ·simp only [aY.down, simprocAttr, oY.down, qD]
         (try simp only [bn.down, simprocAttr, hS.down, qD] at ak ⊢); exact ak
        exact .inr ⟨_, bx rfl, Fj false h⟩
      refine aN (fun pE kn jG l9 => ?_)
      refine ws _ ?_
      refine bK (fun apP uM xM sw apQ => ?_)
      refine ws _ ?_
      rcases aT h with ⟨xN, h⟩ | ⟨xN, h⟩
      ·refine aX (congrArg I.bool xN) ?_
       simp only [xN, Bool.not_true, Bool.not_false]
       refine cT (b1 [(1, .ref (bp ab)), (2, .int .i64 bk), (7, .a8 (cb ag)), (8, .int .i64 (ag.cq.length : Int)), (69, .bool ((decide (2 < (ag.cq.length : Int))) || ((decide (0 < (ag.cq.length : Int))) && (ag.Name == ([116, 97, 117] : List UInt8)))))] (fun P ak => ?_) ?_)
       ·(rcases Bool.eq_false_or_eq_true (decide (2 < (ag.cq.length : Int))) with xz | xz) <;> (rcases Bool.eq_false_or_eq_true (decide (0 < (ag.cq.length : Int))) with xx | xx) <;>
         (simp only [aY.down, simprocAttr, xB.down, xz, xx]
          (try simp only [bn.down, simprocAttr, hS.down, xz, xx] at ak ⊢); exact ak)
       rcases aT h with ⟨xO, h⟩ | ⟨xO, h⟩
       ·refine aX (congrArg I.bool xO) ?_
        simp only [xO, Bool.not_true, Bool.not_false]
        refine ws _ ?_
        exact aK (xM _ (jG _ (an _ (.inl (aL [.int .i64 5] rfl (by cases aH h; rfl) (by decide) aM)))))
       ·refine a0 (congrArg I.bool xO) ?_
        simp only [xO, Bool.not_true, Bool.not_false]
        exact a5 (uM _ (kn _ (.inr ⟨_, bx rfl, BP h⟩)))
      ·refine a0 (congrArg I.bool xN) ?_
       simp only [xN, Bool.not_true, Bool.not_false]
       refine ws _ ?_
       rcases aT h with ⟨n9, h⟩ | ⟨n9, h⟩
       ·refine aX (congrArg I.bool n9) ?_
        simp only [n9, Bool.not_true, Bool.not_false]
        refine ws _ ?_
        rcases aT h with ⟨uN, h⟩ | ⟨uN, h⟩
        ·refine aX (congrArg I.bool uN) ?_
         simp only [uN, Bool.not_true, Bool.not_false]
         refine ws _ ?_
         exact aK (xM _ (jG _ (an _ (.inl (aL [.int .i64 5] rfl (by cases aH h; rfl) (by decide) aM)))))
        ·refine a0 (congrArg I.bool uN) ?_
         simp only [uN, Bool.not_true, Bool.not_false]
         exact a5 (uM _ (kn _ (.inr ⟨_, bx rfl, BP h⟩)))
       ·refine a0 (congrArg I.bool n9) ?_
        simp only [n9, Bool.not_true, Bool.not_false]
        refine ws _ ?_
        rcases aT h with ⟨xP, h⟩ | ⟨xP, h⟩
        ·refine aX (congrArg I.bool xP) ?_
         simp only [xP, Bool.not_true, Bool.not_false]
         obtain ⟨dm, Fs, h⟩ := aO h
         refine hR Fs _ ?_
         rcases aT h with ⟨xQ, h⟩ | ⟨xQ, h⟩
         ·refine aX (congrArg I.bool xQ) ?_
          simp only [xQ, Bool.not_true, Bool.not_false]
          refine ws _ ?_
          exact aK (xM _ (jG _ (an _ (.inl (aL [.int .i64 5] rfl (by cases aH h; rfl) (by decide) aM)))))
         ·refine a0 (congrArg I.bool xQ) ?_
          simp only [xQ, Bool.not_true, Bool.not_false]
          exact a5 (uM _ (kn _ (.inr ⟨_, bx rfl, BP h⟩)))
        ·refine a0 (congrArg I.bool xP) ?_
         simp only [xP, Bool.not_true, Bool.not_false]
         exact a5 (uM _ (kn _ (.inr ⟨_, bx rfl, BP h⟩)))
    rcases aT h with ⟨lk, h⟩ | ⟨lk, h⟩
    ·obtain ⟨gh, Ft, h⟩ := aO h
     rcases aT h with ⟨n_, h⟩ | ⟨n_, h⟩
     ·refine kf (b1 (K := eE _) [(0, .slice (J.map bp)), (1, .ref (bp ab)), (2, .int .i64 bk), (7, .a8 (cb ag)), (51, .bool true)] (fun P ak => ?_) ?_)
      ·simp only [aY.down, simprocAttr, iC.down, lk, (c8 n_)]
       refine hy (n6 ag.Number 1 7 _ Ft) rfl rfl rfl rfl (.inl (by rfl)) ?_
       simp only [aY.down, simprocAttr, iC.down, lk, (c8 n_)]
       (try simp only [bn.down, simprocAttr, hS.down, lk, (c8 n_)] at ak ⊢); exact ak
      exact .inr ⟨_, bx rfl, xI true h⟩
     ·rcases aT h with ⟨mf, h⟩ | ⟨mf, h⟩
      ·obtain ⟨dB, apR, h⟩ := aO h
       refine kf (b1 (K := eE _) [(0, .slice (J.map bp)), (1, .ref (bp ab)), (2, .int .i64 bk), (7, .a8 (cb ag)), (51, .bool (!dB))] (fun P ak => ?_) ?_)
       ·simp only [aY.down, simprocAttr, iC.down, lk, (bq n_), mf]
        refine hy (n6 ag.Number 1 7 _ Ft) rfl rfl rfl rfl (.inl (by rfl)) ?_
        simp only [aY.down, simprocAttr, iC.down, lk, (bq n_), mf]
        refine hy (n6 ag.Number 0 (IntKind.i64.wrap ((J.length : Int) - 1)) _ apR) rfl rfl rfl rfl (.inl (by rfl)) ?_
        simp only [aY.down, simprocAttr, iC.down, lk, (bq n_), mf]
        (try simp only [bn.down, simprocAttr, hS.down, lk, (bq n_), mf] at ak ⊢); exact ak
       exact .inr ⟨_, bx rfl, xI (!dB) h⟩
      ·refine kf (b1 (K := eE _) [(0, .slice (J.map bp)), (1, .ref (bp ab)), (2, .int .i64 bk), (7, .a8 (cb ag)), (51, .bool false)] (fun P ak => ?_) ?_)
       ·simp only [aY.down, simprocAttr, iC.down, lk, (bq n_), mf]
        refine hy (n6 ag.Number 1 7 _ Ft) rfl rfl rfl rfl (.inl (by rfl)) ?_
        simp only [aY.down, simprocAttr, iC.down, lk, (bq n_), mf]
        (try simp only [bn.down, simprocAttr, hS.down, lk, (bq n_), mf] at ak ⊢); exact ak
       exact .inr ⟨_, bx rfl, xI false h⟩
    ·rcases aT h with ⟨uO, h⟩ | ⟨uO, h⟩
     ·obtain ⟨c4, apS, h⟩ := aO h
      refine kf (b1 (K := eE _) [(0, .slice (J.map bp)), (1, .ref (bp ab)), (2, .int .i64 bk), (7, .a8 (cb ag)), (51, .bool (!c4))] (fun P ak => ?_) ?_)
      ·simp only [aY.down, simprocAttr, iC.down, lk, uO]
       refine hy (n6 ag.Number 0 (IntKind.i64.wrap ((J.length : Int) - 1)) _ apS) rfl rfl rfl rfl (.inl (by rfl)) ?_
       simp only [aY.down, simprocAttr, iC.down, lk, uO]
       (try simp only [bn.down, simprocAttr, hS.down, lk, uO] at ak ⊢); exact ak
      exact .inr ⟨_, bx rfl, xI (!c4) h⟩
     ·refine kf (b1 (K := eE _) [(0, .slice (J.map bp)), (1, .ref (bp ab)), (2, .int .i64 bk), (7, .a8 (cb ag)), (51, .bool false)] (fun P ak => ?_) ?_)
      ·simp only [aY.down, simprocAttr, iC.down, lk, uO]
       (try simp only [bn.down, simprocAttr, hS.down, lk, uO] at ak ⊢); exact ak
      exact .inr ⟨_, bx rfl, xI false h⟩
  rcases aT h with ⟨uP, h⟩ | ⟨uP, h⟩
  ·obtain ⟨eF, apT, h⟩ := aO h
   refine kf (b1 (K := eE _) [(0, .slice (J.map bp)), (1, .ref (bp ab)), (2, .int .i64 bk), (7, .a8 (cb ag)), (28, .bool (!eF))] (fun P ak => ?_) ?_)
   ·simp only [aY.down, simprocAttr, xB.down, uP]
    refine hy (xF ag.Name _ apT) rfl rfl rfl rfl (.inl (by rfl)) ?_
    simp only [aY.down, simprocAttr, xB.down, uP]
    (try simp only [bn.down, simprocAttr, hS.down, uP] at ak ⊢); exact ak
   exact .inr ⟨_, bx rfl, LI (!eF) h⟩
  ·refine kf (b1 (K := eE _) [(0, .slice (J.map bp)), (1, .ref (bp ab)), (2, .int .i64 bk), (7, .a8 (cb ag)), (28, .bool false)] (fun P ak => ?_) ?_)
   ·simp only [aY.down, simprocAttr, xB.down, uP]
    (try simp only [bn.down, simprocAttr, hS.down, uP] at ak ⊢); exact ak
   exact .inr ⟨_, bx rfl, LI false h⟩
theorem apU (J : List bb) (ab : bb) (r : Int × Int) (h : rV J ab = some r) : aR aJ 162 [.slice (J.map bp), .ref (bp ab)] (.tuple [.int .i64 r.1, .int .i64 r.2]) [] := by
 refine aR.bY (fx := [0, 1]) bZ [.tmp 4, .tmp 5] [(0, .slice (J.map bp)), (1, .ref (bp ab))] Tryz.func162 rfl rfl ZQ (Nat.le_of_ble_eq_true rfl) rfl rfl (fun bV an bS => ?_)
 refine ws _ ?_
 refine aN (fun ek bR bj ao => ?_)
 obtain ⟨ag, c1, h⟩ := aO h
 refine dK (apu ab.Body _ c1) _ ?_
 rcases aT h with ⟨bI, h⟩ | ⟨bI, h⟩
 ·refine aX (congrArg I.bool bI) ?_
  simp only [(c8 bI), Bool.not_true, Bool.not_false]
  refine ws _ ?_
  exact aK (bj _ (an _ (.inl (aL [.int .i64 0, .int .i64 1] rfl (by cases aH h; rfl) (by decide) aM))))
 ·refine a0 (congrArg I.bool bI) ?_
  simp only [(bq bI), Bool.not_true, Bool.not_false]
  refine a5 (bR _ (.inl ?_))
  refine aN (fun hp dZ eW dm => ?_)
  refine ws _ ?_
  refine bK (fun ey cQ cg d_ dB => ?_)
  have hs : ∀ (n : Nat) (lI : Int), qu J ab n lI = some r → dG aJ KL ey (aa [(0, .slice (J.map bp)), (1, .ref (bp ab)), (6, .int .i64 lI)]) := by
   intro dy
   induction dy with
   | zero => intro lI h; cases (show none = some r from h)
   | succ dy g5 =>
    intro lI h
    replace h : wP (qu J ab dy) J ab lI = some r := h
    refine dW (fun e1 cd cA c4 => ?_)
    refine aN (fun iP fw h1 eF => ?_)
    refine ws _ ?_
    rcases aT h with ⟨cH, h⟩ | ⟨cH, h⟩
    ·refine aX (congrArg I.bool cH) ?_
     simp only [cH, Bool.not_true, Bool.not_false]
     refine a5 (fw _ (.inl ?_))
     refine aN (fun iD fy eJ ho => ?_)
     refine bK (fun mc hT hz cB je => ?_)
     obtain ⟨ao, eK, h⟩ := aO h
     refine dK (apB J ab lI _ eK) _ ?_
     refine ws _ ?_
     rcases aT h with ⟨dL, h⟩ | ⟨dL, h⟩
     ·refine aX (congrArg I.bool dL) ?_
      simp only [dL, Bool.not_true, Bool.not_false]
      refine ws _ ?_
      exact aK (hz _ (eJ _ (cA _ (cg _ (eW _ (an _ (.inl (aL [.int .i64 lI, .int .i64 ao] rfl (by cases aH h; rfl) (by decide) aM))))))))
     ·refine a0 (congrArg I.bool dL) ?_
      simp only [dL, Bool.not_true, Bool.not_false]
      refine a5 (hT _ (fy _ (.inl ?_)))
      refine wr _ ?_
      exact cd _ (.inr ⟨_, bx rfl, g5 (IntKind.i64.wrap (lI + 1)) h⟩)
    ·refine a0 (congrArg I.bool cH) ?_
     simp only [cH, Bool.not_true, Bool.not_false]
     refine dU (eF 0 _ (c4 0 _ (d_ _ (dZ _ (.inl ?_)))))
     refine ws _ ?_
     exact aK (an _ (.inl (aL [.int .i64 0, .int .i64 0] rfl (by cases aH h; rfl) (by decide) aM)))
  obtain ⟨n, h⟩ := dM h
  exact dV (.inr ⟨_, bx rfl, hs n 0 h⟩)
set_option maxHeartbeats 1200000 in
theorem apV (J : List bb) (r : Bool) (h : z9 J = some r) : aR aJ 122 [.slice (J.map bp)] (.bool r) [] := by
 refine aR.bY (fx := [0]) bZ [.tmp 2] [(0, .slice (J.map bp))] Tryz.func122 rfl rfl aah (Nat.le_of_ble_eq_true rfl) rfl rfl (fun bV an bS => ?_)
 refine ws _ ?_
 refine aN (fun ek bR bj ao => ?_)
 refine cT (b1 [(0, .slice (J.map bp)), (15, .bool (((J.length : Int) == 0) || (decide (4 < (J.length : Int)))))] (fun P ak => ?_) ?_)
 ·rcases Bool.eq_false_or_eq_true ((J.length : Int) == 0) with ha | ha
  ·simp only [aY.down, simprocAttr, iC.down, ha]
   (try simp only [bn.down, simprocAttr, hS.down, ha] at ak ⊢); exact ak
  ·simp only [aY.down, simprocAttr, iC.down, ha]
   (try simp only [bn.down, simprocAttr, hS.down, ha] at ak ⊢); exact ak
 rcases aT h with ⟨bI, h⟩ | ⟨bI, h⟩
 ·refine aX (congrArg I.bool bI) ?_
  simp only [bI, Bool.not_true, Bool.not_false]
  refine ws _ ?_
  exact aK (bj _ (an _ (.inl (aL [.bool false] rfl (by cases aH h; rfl) (by decide) aM))))
 ·refine a0 (congrArg I.bool bI) ?_
  simp only [bI, Bool.not_true, Bool.not_false]
  refine a5 (bR _ (.inl ?_))
  refine aN (fun hp dZ eW dm => ?_)
  refine ws _ ?_
  refine bK (fun ey cQ cg d_ dB => ?_)
  have hs : ∀ (n : Nat) (cN : Int), nn J n cN = some r → dG aJ KN ey (aa [(0, .slice (J.map bp)), (3, .int .i64 cN)]) := by
   intro dy
   induction dy with
   | zero => intro cN h; cases (show none = some r from h)
   | succ dy g5 =>
    intro cN h
    replace h : z8 (nn J dy) J cN = some r := h
    refine dW (fun e1 cd cA c4 => ?_)
    refine aN (fun iP fw h1 eF => ?_)
    refine ws _ ?_
    rcases aT h with ⟨cH, h⟩ | ⟨cH, h⟩
    ·refine aX (congrArg I.bool cH) ?_
     simp only [cH, Bool.not_true, Bool.not_false]
     refine a5 (fw _ (.inl ?_))
     refine aN (fun iD fy eJ ho => ?_)
     refine bK (fun mc hT hz cB je => ?_)
     refine aN (fun pE kn jG l9 => ?_)
     obtain ⟨ag, e9, h⟩ := aO h
     obtain ⟨ao, g7, h⟩ := aO h
     rcases aT h with ⟨cZ, h⟩ | ⟨cZ, h⟩
     ·refine iB (And.intro e9 (c8 cZ)) (xF ag.Name _ g7) _ ?_
      refine aX rfl ?_
      refine ws _ ?_
      exact aK (jG _ (hz _ (eJ _ (cA _ (cg _ (eW _ (an _ (.inl (aL [.bool false] rfl (by cases aH h; rfl) (by decide) aM)))))))))
     ·obtain ⟨aZ, hC, h⟩ := aO h
      refine cT (b1 [(0, .slice (J.map bp)), (3, .int .i64 cN), (37, .bool (!aZ))] (fun P ak => ?_) ?_)
      ·simp only [aY.down, simprocAttr, iC.down, e9, (bq cZ)]
       refine ft (xF ag.Name _ g7) rfl rfl rfl rfl (.inl (by rfl)) ?_
       simp only [aY.down, simprocAttr, iC.down, e9, (bq cZ)]
       refine hy (n6 ag.dc 0 3 _ hC) rfl rfl rfl rfl (.inl (by rfl)) ?_
       simp only [aY.down, simprocAttr, iC.down, e9, (bq cZ)]
       (try simp only [bn.down, simprocAttr, hS.down, e9, (bq cZ)] at ak ⊢); exact ak
      rcases aT h with ⟨fe, h⟩ | ⟨fe, h⟩
      ·refine aX (congrArg I.bool fe) ?_
       simp only [(c8 fe), Bool.not_true, Bool.not_false]
       refine ws _ ?_
       exact aK (jG _ (hz _ (eJ _ (cA _ (cg _ (eW _ (an _ (.inl (aL [.bool false] rfl (by cases aH h; rfl) (by decide) aM)))))))))
      ·refine a0 (congrArg I.bool fe) ?_
       simp only [(bq fe), Bool.not_true, Bool.not_false]
       refine a5 (kn _ (.inl ?_))
       refine ws _ ?_
       refine bK (fun apW av1 apX e_ av2 => ?_)
       have apY : ∀ (n : Nat) (lJ : Int) (mF : Int), rW (nn J dy) J n lJ mF = some r → dG aJ KM apW (aa [(0, .slice (J.map bp)), (3, .int .i64 lJ), (4, .int .i64 mF)]) := by
        intro Fu
        induction Fu with
        | zero => intro lJ mF h; cases (show none = some r from h)
        | succ Fu apZ =>
         intro lJ mF h
         replace h : z6 (nn J dy) (rW (nn J dy) J Fu) J lJ mF = some r := h
         refine dW (fun apC Fk Fl LJ => ?_)
         refine aN (fun apd Fa LC LD => ?_)
         refine ws _ ?_
         rcases aT h with ⟨hb, h⟩ | ⟨hb, h⟩
         ·refine aX (congrArg I.bool hb) ?_
          simp only [hb, Bool.not_true, Bool.not_false]
          refine a5 (Fa _ (.inl ?_))
          refine aN (fun LL xK xL Fq => ?_)
          refine bK (fun av3 ap0 ap1 nw av4 => ?_)
          obtain ⟨bl, oa, h⟩ := aO h
          obtain ⟨br, sx, h⟩ := aO h
          refine hi rfl (gY [(0, .slice (J.map bp)), (3, .int .i64 lJ), (4, .int .i64 mF), (53, .bool (bl.Name == br.Name))] (fun P ak => ?_) ?_)
          ·simp only [dp.down, simprocAttr, iC.down, oa, sx]
           refine ⟨gJ (by kernel_rfl), ?_⟩
           (try simp only [bn.down, simprocAttr, hS.down, oa, sx] at ak ⊢); exact ak
          rcases aT h with ⟨ob, h⟩ | ⟨ob, h⟩
          ·refine aX (congrArg I.bool ob) ?_
           simp only [ob, Bool.not_true, Bool.not_false]
           refine ws _ ?_
           exact aK (ap1 _ (xL _ (Fl _ (apX _ (hz _ (eJ _ (cA _ (cg _ (eW _ (an _ (.inl (aL [.bool false] rfl (by cases aH h; rfl) (by decide) aM))))))))))))
          ·refine a0 (congrArg I.bool ob) ?_
           simp only [ob, Bool.not_true, Bool.not_false]
           refine a5 (ap0 _ (xK _ (.inl ?_)))
           refine wr _ ?_
           exact Fk _ (.inr ⟨_, bx rfl, apZ lJ (IntKind.i64.wrap (mF + 1)) h⟩)
         ·refine a0 (congrArg I.bool hb) ?_
          simp only [hb, Bool.not_true, Bool.not_false]
          refine dU (LD 2 _ (LJ 2 _ (e_ _ (hT _ (fy _ (.inl ?_))))))
          refine wr _ ?_
          exact cd _ (.inr ⟨_, bx rfl, g5 (IntKind.i64.wrap (lJ + 1)) h⟩)
       obtain ⟨n, h⟩ := dM h
       exact dV (.inr ⟨_, bx rfl, apY n cN 0 h⟩)
    ·refine a0 (congrArg I.bool cH) ?_
     simp only [cH, Bool.not_true, Bool.not_false]
     refine dU (eF 0 _ (c4 0 _ (d_ _ (dZ _ (.inl ?_)))))
     refine aN (fun ap2 Fv LM LN => ?_)
     refine ws _ ?_
     refine bK (fun ap3 av5 ap4 sy av6 => ?_)
     have ap5 : ∀ (n : Nat) (nm : Int), qv J n nm = some r → dG aJ KO ap3 (aa [(0, .slice (J.map bp)), (5, .int .i64 nm)]) := by
      intro Fw
      induction Fw with
      | zero => intro nm h; cases (show none = some r from h)
      | succ Fw ap6 =>
       intro nm h
       replace h : z7 (qv J Fw) J nm = some r := h
       refine dW (fun ap7 Fx Fy LO => ?_)
       refine aN (fun ap8 Fz LP LQ => ?_)
       refine ws _ ?_
       rcases aT h with ⟨xR, h⟩ | ⟨xR, h⟩
       ·refine aX (congrArg I.bool xR) ?_
        simp only [xR, Bool.not_true, Bool.not_false]
        refine a5 (Fz _ (.inl ?_))
        refine aN (fun av7 ap9 ap_ av8 => ?_)
        refine bK (fun apP uM xM sw apQ => ?_)
        obtain ⟨b4, aqa, h⟩ := aO h
        obtain ⟨dm, aqb, h⟩ := aO h
        refine iB aqa (apU J b4 _ aqb) _ ?_
        refine ws _ ?_
        rcases aT h with ⟨sA, h⟩ | ⟨sA, h⟩
        ·refine aX (congrArg I.bool sA) ?_
         simp only [sA, Bool.not_true, Bool.not_false]
         refine ws _ ?_
         exact aK (xM _ (ap_ _ (Fy _ (ap4 _ (LM _ (an _ (.inl (aL [.bool false] rfl (by cases aH h; rfl) (by decide) aM))))))))
        ·refine a0 (congrArg I.bool sA) ?_
         simp only [sA, Bool.not_true, Bool.not_false]
         refine a5 (uM _ (ap9 _ (.inl ?_)))
         refine wr _ ?_
         exact Fx _ (.inr ⟨_, bx rfl, ap6 (IntKind.i64.wrap (nm + 1)) h⟩)
       ·refine a0 (congrArg I.bool xR) ?_
        simp only [xR, Bool.not_true, Bool.not_false]
        refine dU (LQ 4 _ (LO 4 _ (sy _ (Fv _ (.inl ?_)))))
        refine ws _ ?_
        exact aK (an _ (.inl (aL [.bool true] rfl (by cases aH h; rfl) (by decide) aM)))
     obtain ⟨n, h⟩ := dM h
     exact dV (.inr ⟨_, bx rfl, ap5 n 0 h⟩)
  obtain ⟨n, h⟩ := dM h
  exact dV (.inr ⟨_, bx rfl, hs n 0 h⟩)
theorem aqc (J : List Int) (r : Bool) (h : Aa J = some r) : aR aJ 138 [.slice (J.map bA)] (.bool r) [] := by
 refine aR.bY (fx := [0]) bZ [.tmp 2] [(0, .slice (J.map bA))] Tryz.func138 rfl rfl aar (Nat.le_of_ble_eq_true rfl) rfl rfl (fun bV an bS => ?_)
 refine ws _ ?_
 refine aN (fun ek bR bj ao => ?_)
 refine ws _ ?_
 refine bK (fun dQ eL b9 ba bl => ?_)
 have fo : ∀ (n : Nat) (iO : Int), rX J n iO = some r → dG aJ KP dQ (aa [(0, .slice (J.map bA)), (3, .int .i64 iO)]) := by
  intro ch
  induction ch with
  | zero => intro iO h; cases (show none = some r from h)
  | succ ch fa =>
   intro iO h
   replace h : z_ (rX J ch) J iO = some r := h
   refine dW (fun g6 dR dJ br => ?_)
   refine aN (fun fc dv dF b4 => ?_)
   refine ws _ ?_
   rcases aT h with ⟨a6, h⟩ | ⟨a6, h⟩
   ·refine aX (congrArg I.bool a6) ?_
    simp only [a6, Bool.not_true, Bool.not_false]
    refine a5 (dv _ (.inl ?_))
    refine aN (fun ey cQ cg dB => ?_)
    refine bK (fun e1 cd cA b2 c4 => ?_)
    obtain ⟨ag, eh, h⟩ := aO h
    obtain ⟨ao, eC, h⟩ := aO h
    refine iB eh (n6 ag 0 63 _ eC) _ ?_
    rcases aT h with ⟨ef, h⟩ | ⟨ef, h⟩
    ·refine aX (congrArg I.bool ef) ?_
     simp only [(c8 ef), Bool.not_true, Bool.not_false]
     refine ws _ ?_
     exact aK (cA _ (cg _ (dJ _ (b9 _ (bj _ (an _ (.inl (aL [.bool false] rfl (by cases aH h; rfl) (by decide) aM))))))))
    ·refine a0 (congrArg I.bool ef) ?_
     simp only [(bq ef), Bool.not_true, Bool.not_false]
     refine a5 (cd _ (cQ _ (.inl ?_)))
     refine wr _ ?_
     exact dR _ (.inr ⟨_, bx rfl, fa (IntKind.i64.wrap (iO + 1)) h⟩)
   ·refine a0 (congrArg I.bool a6) ?_
    simp only [a6, Bool.not_true, Bool.not_false]
    refine dU (b4 0 _ (br 0 _ (ba _ (bR _ (.inl ?_)))))
    refine ws _ ?_
    exact aK (an _ (.inl (aL [.bool true] rfl (by cases aH h; rfl) (by decide) aM)))
 obtain ⟨n, h⟩ := dM h
 exact dV (.inr ⟨_, bx rfl, fo n 0 h⟩)
set_option maxHeartbeats 1400000 in
theorem aqd (J : ev) (r : Bool) (h : Ac J = some r) : aR aJ 123 [.ref (e0 J)] (.bool r) [] := by
 refine aR.bY (fx := [0]) bZ [.tmp 2] [(0, .ref (e0 J))] Tryz.func123 rfl rfl aaI (Nat.le_of_ble_eq_true rfl) rfl rfl (fun bV an bS => ?_)
 refine ws _ ?_
 refine aN (fun ek bR bj ao => ?_)
 refine cT (b1 [(0, .ref (e0 J)), (18, .bool (((J.b_.length : Int) == 0) || (decide (3 < (J.b_.length : Int)))))] (fun P ak => ?_) ?_)
 ·rcases Bool.eq_false_or_eq_true ((J.b_.length : Int) == 0) with ha | ha
  ·simp only [aY.down, simprocAttr, n4.down, ha]
   (try simp only [bn.down, simprocAttr, pD.down, ha] at ak ⊢); exact ak
  ·simp only [aY.down, simprocAttr, n4.down, ha]
   (try simp only [bn.down, simprocAttr, pD.down, ha] at ak ⊢); exact ak
 rcases aT h with ⟨bI, h⟩ | ⟨bI, h⟩
 ·refine aX (congrArg I.bool bI) ?_
  simp only [bI, Bool.not_true, Bool.not_false]
  refine ws _ ?_
  exact aK (bj _ (an _ (.inl (aL [.bool false] rfl (by cases aH h; rfl) (by decide) aM))))
 ·refine a0 (congrArg I.bool bI) ?_
  simp only [bI, Bool.not_true, Bool.not_false]
  refine a5 (bR _ (.inl ?_))
  refine aN (fun hp dZ eW dm => ?_)
  refine ws _ ?_
  refine bK (fun ey cQ cg d_ dB => ?_)
  have hs : ∀ (n : Nat) (cN : Int), rY J n cN = some r → dG aJ KQ ey (aa [(0, .ref (e0 J)), (3, .int .i64 cN)]) := by
   intro dy
   induction dy with
   | zero => intro cN h; cases (show none = some r from h)
   | succ dy g5 =>
    intro cN h
    replace h : Ab (rY J dy) J cN = some r := h
    refine dW (fun e1 cd cA c4 => ?_)
    refine aN (fun iP fw h1 eF => ?_)
    refine ws _ ?_
    rcases aT h with ⟨cH, h⟩ | ⟨cH, h⟩
    ·refine aX (congrArg I.bool cH) ?_
     simp only [cH, Bool.not_true, Bool.not_false]
     refine a5 (fw _ (.inl ?_))
     refine aN (fun iD fy eJ ho => ?_)
     refine bK (fun mc hT hz cB je => ?_)
     obtain ⟨ag, eK, h⟩ := aO h
     refine hR eK _ ?_
     refine aN (fun FA sB qE FB => ?_)
     obtain ⟨ao, jK, h⟩ := aO h
     refine hi rfl (gY [(0, .ref (e0 J)), (3, .int .i64 cN), (4, .a8 (ep ag)), (44, .bool (!ao))] (fun P ak => ?_) ?_)
     ·simp only [dp.down, simprocAttr, n4.down]
      refine iw (n6 ag.eo 0 (IntKind.i64.wrap ((J.e8.length : Int) - 1)) _ jK) rfl rfl rfl rfl (.inl (by rfl)) ?_
      simp only [dp.down, simprocAttr, n4.down]
      refine ⟨gJ (by kernel_rfl), ?_⟩
      (try simp only [bn.down, simprocAttr, pD.down] at ak ⊢); exact ak
     rcases aT h with ⟨k1, h⟩ | ⟨k1, h⟩
     ·refine aX (congrArg I.bool k1) ?_
      simp only [(c8 k1), Bool.not_true, Bool.not_false]
      refine ws _ ?_
      exact aK (qE _ (hz _ (eJ _ (cA _ (cg _ (eW _ (an _ (.inl (aL [.bool false] rfl (by cases aH h; rfl) (by decide) aM)))))))))
     ·refine a0 (congrArg I.bool k1) ?_
      simp only [(bq k1), Bool.not_true, Bool.not_false]
      refine a5 (sB _ (.inl ?_))
      obtain ⟨aZ, jr, h⟩ := aO h
      rcases aT h with ⟨gW, h⟩ | ⟨gW, h⟩
      ·refine hi rfl (gY [(0, .ref (e0 J)), (3, .int .i64 cN), (63, .bool true)] (fun P ak => ?_) ?_)
       ·simp only [dp.down, simprocAttr, n4.down, jr, gW]
        refine ⟨gJ (by kernel_rfl), ?_⟩
        (try simp only [bn.down, simprocAttr, pD.down, jr, gW] at ak ⊢); exact ak
       refine aX rfl ?_
       refine ws _ ?_
       exact aK (hz _ (eJ _ (cA _ (cg _ (eW _ (an _ (.inl (aL [.bool false] rfl (by cases aH h; rfl) (by decide) aM))))))))
      ·obtain ⟨bl, xE, h⟩ := aO h
       refine hi rfl (gY [(0, .ref (e0 J)), (3, .int .i64 cN), (63, .bool (!bl))] (fun P ak => ?_) ?_)
       ·simp only [dp.down, simprocAttr, n4.down, jr, gW]
        refine l1 (aqc ag.c3 _ xE) rfl rfl rfl rfl (.inl (by rfl)) ?_
        simp only [dp.down, simprocAttr, n4.down, jr, gW]
        refine ⟨gJ (by kernel_rfl), ?_⟩
        (try simp only [bn.down, simprocAttr, pD.down, jr, gW] at ak ⊢); exact ak
       rcases aT h with ⟨oc, h⟩ | ⟨oc, h⟩
       ·refine aX (congrArg I.bool oc) ?_
        simp only [(c8 oc), Bool.not_true, Bool.not_false]
        refine ws _ ?_
        exact aK (hz _ (eJ _ (cA _ (cg _ (eW _ (an _ (.inl (aL [.bool false] rfl (by cases aH h; rfl) (by decide) aM))))))))
       ·refine a0 (congrArg I.bool oc) ?_
        simp only [(bq oc), Bool.not_true, Bool.not_false]
        refine a5 (hT _ (fy _ (.inl ?_)))
        refine wr _ ?_
        exact cd _ (.inr ⟨_, bx rfl, g5 (IntKind.i64.wrap (cN + 1)) h⟩)
    ·refine a0 (congrArg I.bool cH) ?_
     simp only [cH, Bool.not_true, Bool.not_false]
     refine dU (eF 0 _ (c4 0 _ (d_ _ (dZ _ (.inl ?_)))))
     refine ws _ ?_
     exact aK (an _ (.inl (aL [.bool true] rfl (by cases aH h; rfl) (by decide) aM)))
  obtain ⟨n, h⟩ := dM h
  exact dV (.inr ⟨_, bx rfl, hs n 0 h⟩)
theorem o0 (J : List UInt8) (r : Bool) (h : rZ J = some r) : aR aJ 141 [.str J] (.bool r) [] := by
 refine aR.bY (fx := [0]) bZ [.tmp 2] [(0, .str J)] Tryz.func141 rfl rfl aaL (Nat.le_of_ble_eq_true rfl) rfl rfl (fun bV an bS => ?_)
 refine ws _ ?_
 obtain ⟨ag, a2, h⟩ := aO h
 refine cT (b1 [(2, .bool (ag && (!(J == ([116, 97, 117] : List UInt8)))))] (fun P ak => ?_) ?_)
 ·rcases Bool.eq_false_or_eq_true (ag) with ha | ha
  ·simp only [aY.down, simprocAttr, ha]
   refine ft (xF J _ a2) rfl rfl rfl rfl (.inl (by rfl)) ?_
   simp only [aY.down, simprocAttr, ha]
   (try simp only [bn.down, simprocAttr, ha] at ak ⊢); exact ak
  ·simp only [aY.down, simprocAttr, ha]
   refine ft (xF J _ a2) rfl rfl rfl rfl (.inl (by rfl)) ?_
   simp only [aY.down, simprocAttr, ha]
   (try simp only [bn.down, simprocAttr, ha] at ak ⊢); exact ak
 exact aK (an _ (.inl (aL [.bool (ag && (!(J == ([116, 97, 117] : List UInt8))))] rfl (by cases aH h; rfl) (by decide) aM)))
set_option maxHeartbeats 2200000 in
theorem aqe (J : List bT) (r : Bool) (h : Ae J = some r) : aR aJ 124 [.slice (J.map bo)] (.bool r) [] := by
 refine aR.bY (fx := [0]) bZ [.tmp 2] [(0, .slice (J.map bo))] Tryz.func124 rfl rfl aa9 (Nat.le_of_ble_eq_true rfl) rfl rfl (fun bV an bS => ?_)
 refine ws _ ?_
 refine aN (fun ek bR bj ao => ?_)
 refine ws _ ?_
 rcases aT h with ⟨ba, h⟩ | ⟨ba, h⟩
 ·refine aX (congrArg I.bool ba) ?_
  simp only [ba, Bool.not_true, Bool.not_false]
  refine ws _ ?_
  exact aK (bj _ (an _ (.inl (aL [.bool false] rfl (by cases aH h; rfl) (by decide) aM))))
 ·refine a0 (congrArg I.bool ba) ?_
  simp only [ba, Bool.not_true, Bool.not_false]
  refine a5 (bR _ (.inl ?_))
  refine aN (fun fc dv dF b4 => ?_)
  refine ws _ ?_
  refine bK (fun hA hB gn a6 gh => ?_)
  have hs : ∀ (n : Nat) (cN : Int), lf J n cN = some r → dG aJ KR hA (aa [(0, .slice (J.map bo)), (3, .int .i64 cN)]) := by
   intro dy
   induction dy with
   | zero => intro cN h; cases (show none = some r from h)
   | succ dy g5 =>
    intro cN h
    replace h : Ad (lf J dy) J cN = some r := h
    refine dW (fun ey cQ cg dB => ?_)
    refine aN (fun e1 cd cA c4 => ?_)
    refine ws _ ?_
    rcases aT h with ⟨cI, h⟩ | ⟨cI, h⟩
    ·refine aX (congrArg I.bool cI) ?_
     simp only [cI, Bool.not_true, Bool.not_false]
     refine a5 (cd _ (.inl ?_))
     refine aN (fun lj g3 gi jd => ?_)
     refine bK (fun iD fy eJ ef ho => ?_)
     obtain ⟨ag, cr, h⟩ := aO h
     refine hR cr _ ?_
     refine aN (fun n7 jJ i2 nu => ?_)
     obtain ⟨ao, g7, h⟩ := aO h
     rcases aT h with ⟨cZ, h⟩ | ⟨cZ, h⟩
     ·refine iB (c8 cZ) (o0 ag.Left _ g7) _ ?_
      refine aX rfl ?_
      refine ws _ ?_
      exact aK (i2 _ (eJ _ (gi _ (cg _ (gn _ (dF _ (an _ (.inl (aL [.bool false] rfl (by cases aH h; rfl) (by decide) aM)))))))))
     ·obtain ⟨aZ, hC, h⟩ := aO h
      rcases aT h with ⟨fe, h⟩ | ⟨fe, h⟩
      ·refine cT (b1 [(0, .slice (J.map bo)), (3, .int .i64 cN), (4, .a8 (bo ag)), (41, .bool true)] (fun P ak => ?_) ?_)
       ·simp only [aY.down, simprocAttr, mL.down, (bq cZ), (c8 fe)]
        refine ft (o0 ag.Left _ g7) rfl rfl rfl rfl (.inl (by rfl)) ?_
        simp only [aY.down, simprocAttr, mL.down, (bq cZ), (c8 fe)]
        refine hy (o0 ag.b6 _ hC) rfl rfl rfl rfl (.inl (by rfl)) ?_
        simp only [aY.down, simprocAttr, mL.down, (bq cZ), (c8 fe)]
        (try simp only [bn.down, simprocAttr, bo, (bq cZ), (c8 fe)] at ak ⊢); exact ak
       refine aX rfl ?_
       refine ws _ ?_
       exact aK (i2 _ (eJ _ (gi _ (cg _ (gn _ (dF _ (an _ (.inl (aL [.bool false] rfl (by cases aH h; rfl) (by decide) aM)))))))))
      ·obtain ⟨bl, kF, h⟩ := aO h
       refine cT (b1 [(0, .slice (J.map bo)), (3, .int .i64 cN), (4, .a8 (bo ag)), (41, .bool ((!bl) || (!(Op.bytesLess ag.Left ag.b6 || ag.Left == ag.b6))))] (fun P ak => ?_) ?_)
       ·rcases Bool.eq_false_or_eq_true (bl) with mJ | mJ
        ·simp only [aY.down, simprocAttr, mL.down, (bq cZ), (bq fe), mJ]
         refine ft (o0 ag.Left _ g7) rfl rfl rfl rfl (.inl (by rfl)) ?_
         simp only [aY.down, simprocAttr, mL.down, (bq cZ), (bq fe), mJ]
         refine hy (o0 ag.b6 _ hC) rfl rfl rfl rfl (.inl (by rfl)) ?_
         simp only [aY.down, simprocAttr, mL.down, (bq cZ), (bq fe), mJ]
         refine hy (o0 ag.Result _ kF) rfl rfl rfl rfl (.inl (by rfl)) ?_
         simp only [aY.down, simprocAttr, mL.down, (bq cZ), (bq fe), mJ]
         (try simp only [bn.down, simprocAttr, bo, (bq cZ), (bq fe), mJ] at ak ⊢); exact ak
        ·simp only [aY.down, simprocAttr, mL.down, (bq cZ), (bq fe), mJ]
         refine ft (o0 ag.Left _ g7) rfl rfl rfl rfl (.inl (by rfl)) ?_
         simp only [aY.down, simprocAttr, mL.down, (bq cZ), (bq fe), mJ]
         refine hy (o0 ag.b6 _ hC) rfl rfl rfl rfl (.inl (by rfl)) ?_
         simp only [aY.down, simprocAttr, mL.down, (bq cZ), (bq fe), mJ]
         refine hy (o0 ag.Result _ kF) rfl rfl rfl rfl (.inl (by rfl)) ?_
         simp only [aY.down, simprocAttr, mL.down, (bq cZ), (bq fe), mJ]
         (try simp only [bn.down, simprocAttr, bo, (bq cZ), (bq fe), mJ] at ak ⊢); exact ak
       rcases aT h with ⟨jg, h⟩ | ⟨jg, h⟩
       ·refine aX (congrArg I.bool jg) ?_
        simp only [jg, Bool.not_true, Bool.not_false]
        refine ws _ ?_
        exact aK (i2 _ (eJ _ (gi _ (cg _ (gn _ (dF _ (an _ (.inl (aL [.bool false] rfl (by cases aH h; rfl) (by decide) aM)))))))))
       ·refine a0 (congrArg I.bool jg) ?_
        simp only [jg, Bool.not_true, Bool.not_false]
        refine a5 (jJ _ (.inl ?_))
        refine aN (fun LK Fm Fo apD => ?_)
        rcases aT h with ⟨jh, h⟩ | ⟨jh, h⟩
        ·obtain ⟨br, LR, h⟩ := aO h
         refine hi rfl (gY [(0, .slice (J.map bo)), (3, .int .i64 cN), (4, .a8 (bo ag)), (76, .bool ((!(Op.bytesLess br.Left ag.Left || br.Left == ag.Left)) || ((br.Left == ag.Left) && (!(Op.bytesLess br.b6 ag.b6)))))] (fun P ak => ?_) ?_)
         ·(rcases Bool.eq_false_or_eq_true (Op.bytesLess br.Left ag.Left) with xw | xw) <;> (rcases Bool.eq_false_or_eq_true (br.Left == ag.Left) with xy | xy) <;>
           (simp only [dp.down, simprocAttr, gV.down, jh, LR, xw, xy]
            refine ⟨gJ (by kernel_rfl), ?_⟩
            (try simp only [bn.down, simprocAttr, bo, jh, LR, xw, xy] at ak ⊢); exact ak)
         rcases aT h with ⟨mO, h⟩ | ⟨mO, h⟩
         ·refine aX (congrArg I.bool mO) ?_
          simp only [mO, Bool.not_true, Bool.not_false]
          refine ws _ ?_
          exact aK (Fo _ (eJ _ (gi _ (cg _ (gn _ (dF _ (an _ (.inl (aL [.bool false] rfl (by cases aH h; rfl) (by decide) aM)))))))))
         ·refine a0 (congrArg I.bool mO) ?_
          simp only [mO, Bool.not_true, Bool.not_false]
          refine a5 (Fm _ (.inl ?_))
          refine ws _ ?_
          refine bK (fun aqf av9 aqg o1 av_ => ?_)
          have FC : ∀ (n : Nat) (jq : Int) (jE : Int), nZ (lf J dy) J ag n jq jE = some r → dG aJ E3 aqf (aa [(0, .slice (J.map bo)), (3, .int .i64 jq), (4, .a8 (bo ag)), (5, .int .i64 jE)]) := by
           intro sC
           induction sC with
           | zero => intro jq jE h; cases (show none = some r from h)
           | succ sC FD =>
            intro jq jE h
            replace h : wQ (lf J dy) (nZ (lf J dy) J ag sC) J ag jq jE = some r := h
            refine dW (fun awa aqh aqi aqj => ?_)
            refine aN (fun ap2 Fv LM LN => ?_)
            refine ws _ ?_
            rcases aT h with ⟨sy, h⟩ | ⟨sy, h⟩
            ·refine aX (congrArg I.bool sy) ?_
             simp only [sy, Bool.not_true, Bool.not_false]
             refine a5 (Fv _ (.inl ?_))
             refine aN (fun ap7 Fx Fy LO => ?_)
             refine bK (fun ap8 Fz LP qD LQ => ?_)
             obtain ⟨b4, sv, h⟩ := aO h
             refine hi rfl (gY [(0, .slice (J.map bo)), (3, .int .i64 jq), (4, .a8 (bo ag)), (5, .int .i64 jE), (100, .bool ((b4.Left == ag.Result) || (b4.b6 == ag.Result)))] (fun P ak => ?_) ?_)
             ·rcases Bool.eq_false_or_eq_true (b4.Left == ag.Result) with sn | sn
              ·simp only [dp.down, simprocAttr, gV.down, sv, sn]
               refine ⟨gJ (by kernel_rfl), ?_⟩
               (try simp only [bn.down, simprocAttr, bo, sv, sn] at ak ⊢); exact ak
              ·simp only [dp.down, simprocAttr, gV.down, sv, sn]
               refine ⟨gJ (by kernel_rfl), ?_⟩
               (try simp only [bn.down, simprocAttr, bo, sv, sn] at ak ⊢); exact ak
             rcases aT h with ⟨sw, h⟩ | ⟨sw, h⟩
             ·refine aX (congrArg I.bool sw) ?_
              simp only [sw, Bool.not_true, Bool.not_false]
              refine ws _ ?_
              exact aK (LP _ (Fy _ (aqi _ (aqg _ (eJ _ (gi _ (cg _ (gn _ (dF _ (an _ (.inl (aL [.bool false] rfl (by cases aH h; rfl) (by decide) aM))))))))))))
             ·refine a0 (congrArg I.bool sw) ?_
              simp only [sw, Bool.not_true, Bool.not_false]
              refine a5 (Fz _ (Fx _ (.inl ?_)))
              refine wr _ ?_
              exact aqh _ (.inr ⟨_, bx rfl, FD jq (IntKind.i64.wrap (jE + 1)) h⟩)
            ·refine a0 (congrArg I.bool sy) ?_
             simp only [sy, Bool.not_true, Bool.not_false]
             refine dU (LN 2 _ (aqj 2 _ (o1 _ (fy _ (g3 _ (.inl ?_))))))
             refine wr _ ?_
             exact cQ _ (.inr ⟨_, bx rfl, g5 (IntKind.i64.wrap (jq + 1)) h⟩)
          obtain ⟨n, h⟩ := dM h
          exact dV (.inr ⟨_, bx rfl, FC n cN 0 h⟩)
        ·refine hi rfl (gY [(0, .slice (J.map bo)), (3, .int .i64 cN), (4, .a8 (bo ag)), (76, .bool false)] (fun P ak => ?_) ?_)
         ·simp only [dp.down, simprocAttr, gV.down, jh]
          refine ⟨gJ (by kernel_rfl), ?_⟩
          (try simp only [bn.down, simprocAttr, bo, jh] at ak ⊢); exact ak
         refine a0 rfl ?_
         refine a5 (Fm _ (.inl ?_))
         refine ws _ ?_
         refine bK (fun aqk awb aql sA awc => ?_)
         have FC : ∀ (n : Nat) (jq : Int) (jE : Int), nZ (lf J dy) J ag n jq jE = some r → dG aJ E3 aqk (aa [(0, .slice (J.map bo)), (3, .int .i64 jq), (4, .a8 (bo ag)), (5, .int .i64 jE)]) := by
          intro sC
          induction sC with
          | zero => intro jq jE h; cases (show none = some r from h)
          | succ sC FD =>
           intro jq jE h
           replace h : wQ (lf J dy) (nZ (lf J dy) J ag sC) J ag jq jE = some r := h
           refine dW (fun awd aqm aqn aqo => ?_)
           refine aN (fun awe aqp awf aqq => ?_)
           refine ws _ ?_
           rcases aT h with ⟨n9, h⟩ | ⟨n9, h⟩
           ·refine aX (congrArg I.bool n9) ?_
            simp only [n9, Bool.not_true, Bool.not_false]
            refine a5 (aqp _ (.inl ?_))
            refine aN (fun awg aqr aqs awh => ?_)
            refine bK (fun awi aqt aqu uN awj => ?_)
            obtain ⟨dm, BQ, h⟩ := aO h
            refine hi rfl (gY [(0, .slice (J.map bo)), (3, .int .i64 jq), (4, .a8 (bo ag)), (5, .int .i64 jE), (100, .bool ((dm.Left == ag.Result) || (dm.b6 == ag.Result)))] (fun P ak => ?_) ?_)
            ·rcases Bool.eq_false_or_eq_true (dm.Left == ag.Result) with xS | xS
             ·simp only [dp.down, simprocAttr, gV.down, BQ, xS]
              refine ⟨gJ (by kernel_rfl), ?_⟩
              (try simp only [bn.down, simprocAttr, bo, BQ, xS] at ak ⊢); exact ak
             ·simp only [dp.down, simprocAttr, gV.down, BQ, xS]
              refine ⟨gJ (by kernel_rfl), ?_⟩
              (try simp only [bn.down, simprocAttr, bo, BQ, xS] at ak ⊢); exact ak
            rcases aT h with ⟨xT, h⟩ | ⟨xT, h⟩
            ·refine aX (congrArg I.bool xT) ?_
             simp only [xT, Bool.not_true, Bool.not_false]
             refine ws _ ?_
             exact aK (aqu _ (aqs _ (aqn _ (aql _ (eJ _ (gi _ (cg _ (gn _ (dF _ (an _ (.inl (aL [.bool false] rfl (by cases aH h; rfl) (by decide) aM))))))))))))
            ·refine a0 (congrArg I.bool xT) ?_
             simp only [xT, Bool.not_true, Bool.not_false]
             refine a5 (aqt _ (aqr _ (.inl ?_)))
             refine wr _ ?_
             exact aqm _ (.inr ⟨_, bx rfl, FD jq (IntKind.i64.wrap (jE + 1)) h⟩)
           ·refine a0 (congrArg I.bool n9) ?_
            simp only [n9, Bool.not_true, Bool.not_false]
            refine dU (aqq 2 _ (aqo 2 _ (sA _ (fy _ (g3 _ (.inl ?_))))))
            refine wr _ ?_
            exact cQ _ (.inr ⟨_, bx rfl, g5 (IntKind.i64.wrap (jq + 1)) h⟩)
         obtain ⟨n, h⟩ := dM h
         exact dV (.inr ⟨_, bx rfl, FC n cN 0 h⟩)
    ·refine a0 (congrArg I.bool cI) ?_
     simp only [cI, Bool.not_true, Bool.not_false]
     refine dU (c4 0 _ (dB 0 _ (a6 _ (dv _ (.inl ?_)))))
     refine ws _ ?_
     exact aK (an _ (.inl (aL [.bool true] rfl (by cases aH h; rfl) (by decide) aM)))
  obtain ⟨n, h⟩ := dM h
  exact dV (.inr ⟨_, bx rfl, hs n 0 h⟩)
theorem aqv (J : List (List UInt8)) (r : Bool) (h : Ag J = some r) : aR aJ 163 [.slice (J.map bu)] (.bool r) [] := by
 refine aR.bY (fx := [0]) bZ [.tmp 2] [(0, .slice (J.map bu))] Tryz.func163 rfl rfl abi (Nat.le_of_ble_eq_true rfl) rfl rfl (fun bV an bS => ?_)
 refine ws _ ?_
 refine aN (fun ek bR bj ao => ?_)
 refine ws _ ?_
 refine bK (fun dQ eL b9 ba bl => ?_)
 have fo : ∀ (n : Nat) (iO : Int), r0 J n iO = some r → dG aJ KS dQ (aa [(0, .slice (J.map bu)), (3, .int .i64 iO)]) := by
  intro ch
  induction ch with
  | zero => intro iO h; cases (show none = some r from h)
  | succ ch fa =>
   intro iO h
   replace h : Af (r0 J ch) J iO = some r := h
   refine dW (fun g6 dR dJ br => ?_)
   refine aN (fun fc dv dF b4 => ?_)
   refine ws _ ?_
   rcases aT h with ⟨a6, h⟩ | ⟨a6, h⟩
   ·refine aX (congrArg I.bool a6) ?_
    simp only [a6, Bool.not_true, Bool.not_false]
    refine a5 (dv _ (.inl ?_))
    refine aN (fun ey cQ cg dB => ?_)
    refine bK (fun e1 cd cA b2 c4 => ?_)
    obtain ⟨ag, eh, h⟩ := aO h
    obtain ⟨ao, eC, h⟩ := aO h
    refine iB eh (o0 ag _ eC) _ ?_
    rcases aT h with ⟨ef, h⟩ | ⟨ef, h⟩
    ·refine aX (congrArg I.bool ef) ?_
     simp only [(c8 ef), Bool.not_true, Bool.not_false]
     refine ws _ ?_
     exact aK (cA _ (cg _ (dJ _ (b9 _ (bj _ (an _ (.inl (aL [.bool false] rfl (by cases aH h; rfl) (by decide) aM))))))))
    ·refine a0 (congrArg I.bool ef) ?_
     simp only [(bq ef), Bool.not_true, Bool.not_false]
     refine a5 (cd _ (cQ _ (.inl ?_)))
     refine wr _ ?_
     exact dR _ (.inr ⟨_, bx rfl, fa (IntKind.i64.wrap (iO + 1)) h⟩)
   ·refine a0 (congrArg I.bool a6) ?_
    simp only [a6, Bool.not_true, Bool.not_false]
    refine dU (b4 0 _ (br 0 _ (ba _ (bR _ (.inl ?_)))))
    refine ws _ ?_
    exact aK (an _ (.inl (aL [.bool true] rfl (by cases aH h; rfl) (by decide) aM)))
 obtain ⟨n, h⟩ := dM h
 exact dV (.inr ⟨_, bx rfl, fo n 0 h⟩)
set_option maxHeartbeats 800000 in
theorem LS (J : List (List UInt8)) (r : Bool) (h : wS J = some r) : aR aJ 125 [.slice (J.map bu)] (.bool r) [] := by
 refine aR.bY (fx := [0]) bZ [.tmp 2] [(0, .slice (J.map bu))] Tryz.func125 rfl rfl abw (Nat.le_of_ble_eq_true rfl) rfl rfl (fun bV an bS => ?_)
 refine ws _ ?_
 refine aN (fun ek bR bj ao => ?_)
 rcases aT h with ⟨ba, h⟩ | ⟨ba, h⟩
 ·refine hR ba _ ?_
  refine aX rfl ?_
  refine ws _ ?_
  exact aK (bj _ (an _ (.inl (aL [.bool false] rfl (by cases aH h; rfl) (by decide) aM))))
 ·obtain ⟨ag, cl, h⟩ := aO h
  refine cT (b1 [(0, .slice (J.map bu)), (11, .bool (!ag))] (fun P ak => ?_) ?_)
  ·simp only [aY.down, simprocAttr, eX, kE, bu, ba]
   refine hy (aqv J _ cl) rfl rfl rfl rfl (.inl (by rfl)) ?_
   simp only [aY.down, simprocAttr, eX, kE, bu, ba]
   (try simp only [bn.down, simprocAttr, bu, ba] at ak ⊢); exact ak
  rcases aT h with ⟨iL, h⟩ | ⟨iL, h⟩
  ·refine aX (congrArg I.bool iL) ?_
   simp only [(c8 iL), Bool.not_true, Bool.not_false]
   refine ws _ ?_
   exact aK (bj _ (an _ (.inl (aL [.bool false] rfl (by cases aH h; rfl) (by decide) aM))))
  ·refine a0 (congrArg I.bool iL) ?_
   simp only [(bq iL), Bool.not_true, Bool.not_false]
   refine a5 (bR _ (.inl ?_))
   refine aN (fun ey cQ cg dB => ?_)
   refine ws _ ?_
   refine bK (fun iP fw h1 hq eF => ?_)
   have hs : ∀ (n : Nat) (cN : Int), mG J n cN = some r → dG aJ KT iP (aa [(0, .slice (J.map bu)), (3, .int .i64 cN)]) := by
    intro dy
    induction dy with
    | zero => intro cN h; cases (show none = some r from h)
    | succ dy g5 =>
     intro cN h
     replace h : wR (mG J dy) J cN = some r := h
     refine dW (fun j3 g4 iE i1 => ?_)
     refine aN (fun lj g3 gi jd => ?_)
     refine ws _ ?_
     rcases aT h with ⟨cB, h⟩ | ⟨cB, h⟩
     ·refine aX (congrArg I.bool cB) ?_
      simp only [cB, Bool.not_true, Bool.not_false]
      refine a5 (g3 _ (.inl ?_))
      refine aN (fun pE kn jG l9 => ?_)
      refine bK (fun n7 jJ i2 ib nu => ?_)
      obtain ⟨ao, g7, h⟩ := aO h
      obtain ⟨aZ, jK, h⟩ := aO h
      refine hi rfl (gY [(0, .slice (J.map bu)), (3, .int .i64 cN), (27, .bool (!(Op.bytesLess ao aZ)))] (fun P ak => ?_) ?_)
      ·simp only [dp.down, simprocAttr, eX, kE, bu, g7, jK]
       refine ⟨gJ (by kernel_rfl), ?_⟩
       (try simp only [bn.down, simprocAttr, bu, g7, jK] at ak ⊢); exact ak
      rcases aT h with ⟨k1, h⟩ | ⟨k1, h⟩
      ·refine aX (congrArg I.bool k1) ?_
       simp only [k1, Bool.not_true, Bool.not_false]
       refine ws _ ?_
       exact aK (i2 _ (jG _ (iE _ (h1 _ (cg _ (an _ (.inl (aL [.bool false] rfl (by cases aH h; rfl) (by decide) aM))))))))
      ·refine a0 (congrArg I.bool k1) ?_
       simp only [k1, Bool.not_true, Bool.not_false]
       refine a5 (jJ _ (kn _ (.inl ?_)))
       refine wr _ ?_
       exact g4 _ (.inr ⟨_, bx rfl, g5 (IntKind.i64.wrap (cN + 1)) h⟩)
     ·refine a0 (congrArg I.bool cB) ?_
      simp only [cB, Bool.not_true, Bool.not_false]
      refine dU (jd 0 _ (i1 0 _ (hq _ (cQ _ (.inl ?_)))))
      refine ws _ ?_
      exact aK (an _ (.inl (aL [.bool true] rfl (by cases aH h; rfl) (by decide) aM)))
   obtain ⟨n, h⟩ := dM h
   exact dV (.inr ⟨_, bx rfl, hs n 1 h⟩)
theorem aqw (J : ev) (r : Int) (h : Ah J = some r) : aR aJ 75 [.ref (e0 J)] (.int .i64 r) [] := by
 refine aR.bY (fx := [0]) bZ [.tmp 2] [(0, .ref (e0 J))] Tryz.func75 rfl rfl abO (Nat.le_of_ble_eq_true rfl) rfl rfl (fun bV an bS => ?_)
 refine ws _ ?_
 refine aN (fun ek bR bj ao => ?_)
 obtain ⟨ag, c1, h⟩ := aO h
 refine dK (apV J.e8 _ c1) _ ?_
 rcases aT h with ⟨bI, h⟩ | ⟨bI, h⟩
 ·refine aX (congrArg I.bool bI) ?_
  simp only [(c8 bI), Bool.not_true, Bool.not_false]
  refine ws _ ?_
  exact aK (bj _ (an _ (.inl (aL [.int .i64 1] rfl (by cases aH h; rfl) (by decide) aM))))
 ·refine a0 (congrArg I.bool bI) ?_
  simp only [(bq bI), Bool.not_true, Bool.not_false]
  refine a5 (bR _ (.inl ?_))
  refine aN (fun hp dZ eW dm => ?_)
  obtain ⟨ao, ku, h⟩ := aO h
  refine dK (aqd J _ ku) _ ?_
  rcases aT h with ⟨b2, h⟩ | ⟨b2, h⟩
  ·refine aX (congrArg I.bool b2) ?_
   simp only [(c8 b2), Bool.not_true, Bool.not_false]
   refine ws _ ?_
   exact aK (eW _ (an _ (.inl (aL [.int .i64 2] rfl (by cases aH h; rfl) (by decide) aM))))
  ·refine a0 (congrArg I.bool b2) ?_
   simp only [(bq b2), Bool.not_true, Bool.not_false]
   refine a5 (dZ _ (.inl ?_))
   refine aN (fun j3 g4 iE i1 => ?_)
   obtain ⟨aZ, e5, h⟩ := aO h
   refine dK (aqe J.g1 _ e5) _ ?_
   rcases aT h with ⟨cB, h⟩ | ⟨cB, h⟩
   ·refine aX (congrArg I.bool cB) ?_
    simp only [(c8 cB), Bool.not_true, Bool.not_false]
    refine ws _ ?_
    exact aK (iE _ (an _ (.inl (aL [.int .i64 3] rfl (by cases aH h; rfl) (by decide) aM))))
   ·refine a0 (congrArg I.bool cB) ?_
    simp only [(bq cB), Bool.not_true, Bool.not_false]
    refine a5 (g4 _ (.inl ?_))
    refine aN (fun n7 jJ i2 nu => ?_)
    obtain ⟨bl, g7, h⟩ := aO h
    refine dK (LS J.gT _ g7) _ ?_
    rcases aT h with ⟨cZ, h⟩ | ⟨cZ, h⟩
    ·refine aX (congrArg I.bool cZ) ?_
     simp only [(c8 cZ), Bool.not_true, Bool.not_false]
     refine ws _ ?_
     exact aK (i2 _ (an _ (.inl (aL [.int .i64 4] rfl (by cases aH h; rfl) (by decide) aM))))
    ·refine a0 (congrArg I.bool cZ) ?_
     simp only [(bq cZ), Bool.not_true, Bool.not_false]
     refine a5 (jJ _ (.inl ?_))
     refine aN (fun uH mN me uI => ?_)
     obtain ⟨br, jr, h⟩ := aO h
     refine dK (LS J.gU _ jr) _ ?_
     rcases aT h with ⟨gW, h⟩ | ⟨gW, h⟩
     ·refine aX (congrArg I.bool gW) ?_
      simp only [(c8 gW), Bool.not_true, Bool.not_false]
      refine ws _ ?_
      exact aK (me _ (an _ (.inl (aL [.int .i64 5] rfl (by cases aH h; rfl) (by decide) aM))))
     ·refine a0 (congrArg I.bool gW) ?_
      simp only [(bq gW), Bool.not_true, Bool.not_false]
      refine a5 (mN _ (.inl ?_))
      refine ws _ ?_
      exact aK (an _ (.inl (aL [.int .i64 0] rfl (by cases aH h; rfl) (by decide) aM)))
theorem aqx (J : ev) (r : Bool) (h : Ai J = some r) : aR aJ 37 [.ref (e0 J)] (.bool r) [] := by
 refine aR.bY (fx := [0]) bZ [.tmp 2] [(0, .ref (e0 J))] Tryz.func37 rfl rfl abR (Nat.le_of_ble_eq_true rfl) rfl rfl (fun bV an bS => ?_)
 refine ws _ ?_
 obtain ⟨ag, a2, h⟩ := aO h
 refine dK (aqw J _ a2) _ ?_
 exact aK (an _ (.inl (aL [.bool (ag == 0)] rfl (by cases aH h; rfl) (by decide) aM)))
theorem aqy (J : List Int) (r : (List Int)) (h : Aj J = some r) : aR aJ 91 [.slice (J.map bA)] (.aw 1 (r.map bA)) [] := by
 refine aR.bY (fx := [0]) bZ [.tmp 2] [(0, .slice (J.map bA))] Tryz.func91 rfl rfl abU (Nat.le_of_ble_eq_true rfl) rfl rfl (fun bV an bS => ?_)
 refine ws _ ?_
 obtain ⟨yM, a2, h⟩ := aO h
 (try simp only [List.length_append, List.length_cons, List.length_nil, List.length_map, List.length_replicate, Nat.zero_add, Nat.add_zero, Nat.reduceAdd] at a2)
 refine cT (b1 [(2, .aw 1 (J.map bA))] (fun P ak => ?_) ?_)
 ·simp only [aY.down, simprocAttr, eb, hQ, bA, (show ∀ s, eD aJ s 43 0 [] = some (.aw 1 [], s) from fun s => by kernel_rfl), @nc aJ 43 43 2 rfl rfl, nd, nf, ng, all_cons, all_nil, a2, @k_ _ bA 1 (fun _ => rfl)]
  (try simp only [bn.down, simprocAttr, bA, (show ∀ s, eD aJ s 43 0 [] = some (.aw 1 [], s) from fun s => by kernel_rfl), @nc aJ 43 43 2 rfl rfl, nd, nf, ng, all_cons, all_nil, a2, @k_ _ bA 1 (fun _ => rfl)] at ak ⊢); exact ak
 exact aK (an _ (.inl (aL [.aw 1 (J.map bA)] rfl (by cases aH h; rfl) (by decide) aM)))
set_option maxHeartbeats 800000 in
theorem aqz (J : ev) (r : (List cU)) (h : Al J = some r) : aR aJ 67 [.ref (e0 J)] (.aw 3 (r.map ed)) [] := by
 refine aR.bY (fx := [0]) bZ [.tmp 2] [(0, .ref (e0 J))] Tryz.func67 rfl rfl ab4 (Nat.le_of_ble_eq_true rfl) rfl rfl (fun bV an bS => ?_)
 refine ws _ ?_
 refine hR (show ∀ s, eD aJ s 59 0 [] = some (.aw 3 [], s) from fun s => by kernel_rfl) _ ?_
 refine aN (fun kk gK dO aZ => ?_)
 refine ws _ ?_
 refine bK (fun g6 dR dJ bI br => ?_)
 have jH : ∀ (n : Nat) (bC : List cU) (bw : Int), r1 J n bC bw = some r → dG aJ KU g6 (aa [(0, .ref (e0 J)), (3, .aw 3 (bC.map dH)), (4, .int .i64 bw)]) := by
  intro fm
  induction fm with
  | zero => intro bC bw h; cases (show none = some r from h)
  | succ fm jI =>
   intro bC bw h
   replace h : Ak (r1 J fm) J bC bw = some r := h
   refine dW (fun fc dv dF b4 => ?_)
   refine aN (fun hp dZ eW dm => ?_)
   refine ws _ ?_
   rcases aT h with ⟨d_, h⟩ | ⟨d_, h⟩
   ·refine aX (congrArg I.bool d_) ?_
    simp only [d_, Bool.not_true, Bool.not_false]
    refine a5 (dZ _ (.inl ?_))
    refine aN (fun e1 cd cA c4 => ?_)
    refine bK (fun iP fw h1 hq eF => ?_)
    obtain ⟨ag, eC, h⟩ := aO h
    refine hR eC _ ?_
    obtain ⟨ao, eR, h⟩ := aO h
    obtain ⟨Fb, cr, h⟩ := aO h
    (try simp only [List.length_append, List.length_cons, List.length_nil, List.length_map, List.length_replicate, Nat.zero_add, Nat.add_zero, Nat.reduceAdd] at cr)
    refine Iv rfl (gY [(0, .ref (e0 J)), (3, .aw 3 ((bC ++ [(cU.mk ag.eo 0 ao)]).map dH)), (4, .int .i64 bw)] (fun P ak => ?_) ?_)
    ·simp only [dp.down, simprocAttr, eb, hQ, qn, qo, la, bA, ep, bp, bo, cb, e0, bQ, eG, bu, dH, @tY aJ 104 [(2, 0), (2, 1), (43, 2)] [(.int .i64 0), (.int .i64 0), .bc] rfl rfl (by kernel_rfl), rG, tZ, rH, t_, el, ng, List.nil_append, List.cons_append, @tX aJ 59 104 1 3 [(.agg [(.int .i64 0), (.int .i64 0), .bc])] rfl rfl rfl (by kernel_rfl), rF, @nc aJ 59 59 104 rfl rfl, nd, nf, all_cons, all_nil, cr, @k_ _ dH 3 (fun _ => rfl)]
     refine iw (aqy ag.c3 _ eR) rfl rfl rfl rfl (.inl (by rfl)) ?_
     simp only [dp.down, simprocAttr, eb, hQ, qn, qo, la, bA, ep, bp, bo, cb, e0, bQ, eG, bu, dH, @tY aJ 104 [(2, 0), (2, 1), (43, 2)] [(.int .i64 0), (.int .i64 0), .bc] rfl rfl (by kernel_rfl), rG, tZ, rH, t_, el, ng, List.nil_append, List.cons_append, @tX aJ 59 104 1 3 [(.agg [(.int .i64 0), (.int .i64 0), .bc])] rfl rfl rfl (by kernel_rfl), rF, @nc aJ 59 59 104 rfl rfl, nd, nf, all_cons, all_nil, cr, @k_ _ dH 3 (fun _ => rfl)]
     refine ⟨gJ (by kernel_rfl), ?_⟩
     (try simp only [bn.down, simprocAttr, bA, ep, bp, bo, cb, e0, bQ, eG, bu, dH, @tY aJ 104 [(2, 0), (2, 1), (43, 2)] [(.int .i64 0), (.int .i64 0), .bc] rfl rfl (by kernel_rfl), rG, tZ, rH, t_, el, ng, List.nil_append, List.cons_append, @tX aJ 59 104 1 3 [(.agg [(.int .i64 0), (.int .i64 0), .bc])] rfl rfl rfl (by kernel_rfl), rF, @nc aJ 59 59 104 rfl rfl, nd, nf, all_cons, all_nil, cr, @k_ _ dH 3 (fun _ => rfl)] at ak ⊢); exact ak
    refine fw _ (cd _ (.inl ?_))
    refine wr [(0, .ref (e0 J)), (3, .aw 3 ((bC ++ [(cU.mk ag.eo 0 ao)]).map dH)), (4, .int .i64 (IntKind.i64.wrap (bw + 1)))] ?_
    exact dv _ (.inr ⟨_, bx rfl, jI (bC ++ [(cU.mk ag.eo 0 ao)]) (IntKind.i64.wrap (bw + 1)) h⟩)
   ·refine a0 (congrArg I.bool d_) ?_
    simp only [d_, Bool.not_true, Bool.not_false]
    refine dU (dm 0 _ (b4 0 _ (bI _ (gK _ (.inl ?_)))))
    refine ws _ ?_
    exact aK (an _ (.inr ⟨[(2, .aw 3 (bC.map ed))], oN [] rfl (oP (t := 2) (d := .aw 3 (bC.map dH)) rfl rfl (.aw (I8 (fun _ => D7 rfl rfl (oX _)) _)) (by decide) (oO)), aL [.aw 3 (bC.map ed)] rfl (by cases aH h; rfl) (by decide) aM⟩))
 obtain ⟨n, h⟩ := dM h
 exact dV (.inr ⟨_, bx rfl, jH n [] 0 h⟩)
theorem aqA (J : ev) (r : (List cU) × Int) (h : Am J = some r) : aR aJ 26 [e0 J] (.tuple [.aw 3 (r.1.map ed), .int .i64 r.2]) [] := by
 refine aR.bY (fx := [0]) bZ [.tmp 2, .tmp 3] [(0, e0 J)] Tryz.func26 rfl rfl mJ (Nat.le_of_ble_eq_true rfl) rfl rfl (fun bV an bS => ?_)
 refine ws _ ?_
 refine aN (fun ek bR bj ao => ?_)
 obtain ⟨ag, c1, h⟩ := aO h
 refine kf (b1 (K := eE _) [(1, .a8 (e0 J)), (5, .bool (!ag))] (fun P ak => ?_) (Q0 [(1, .ref (e0 J)), (5, .bool (!ag))] (oN [] rfl (oP (t := 1) (d := .a8 (e0 J)) (bF := .ref (e0 J)) rfl rfl (D7 rfl rfl (by simp only [dn, I.share, I.shares, Sp] <;> rfl)) (by decide) (l3 rfl (oO)))) ?_))
 ·refine ft (aqx J _ c1) rfl rfl (by simp only [aY.down, simprocAttr, pD.down, hj, hk, hn, dn, @cj _ bp bp (fun _ => Bv _), @cj _ ep ep (fun _ => Bz _), @cj _ bo bo (fun _ => nq _), @cj _ bu bu (fun _ => jf _), @cj _ bu bu (fun _ => jf _)] <;> rfl) rfl (.inr (by rfl)) ?_
  simp only [aY.down, simprocAttr, pD.down]
  (try simp only [bn.down, simprocAttr, pD.down] at ak ⊢); exact ak
 rcases aT h with ⟨bI, h⟩ | ⟨bI, h⟩
 ·refine aX (congrArg I.bool bI) ?_
  simp only [(c8 bI), Bool.not_true, Bool.not_false]
  refine ws _ ?_
  exact aK (bj _ (an _ (.inr ⟨[(2, .aw 3 []), (3, .int .i64 1)], oN [] rfl (oP (t := 2) (d := .bc) rfl rfl (.lY _) (by decide) (l3 rfl (oO))), aL [.aw 3 [], .int .i64 1] rfl (by cases aH h; rfl) (by decide) aM⟩)))
 ·refine a0 (congrArg I.bool bI) ?_
  simp only [(bq bI), Bool.not_true, Bool.not_false]
  refine a5 (bR _ (.inl ?_))
  obtain ⟨ao, hN, h⟩ := aO h
  refine dK (aqz J _ hN) _ ?_
  exact aK (an _ (.inl (aL [.aw 3 (ao.map ed), .int .i64 0] rfl (by cases aH h; rfl) (by decide) aM)))
theorem jL (J : Int) (ab : Int) (bk : Int) (r : Bool) (h : jc J ab bk = some r) : aR aJ 95 [.int .i64 J, .int .i64 ab, .int .i64 bk] (.bool r) [] := by
 refine aR.bY (fx := [0, 1, 2]) bZ [.tmp 6] [(0, .int .i64 J), (1, .int .i64 ab), (2, .int .i64 bk)] Tryz.func95 rfl rfl acb (Nat.le_of_ble_eq_true rfl) rfl rfl (fun bV an bS => ?_)
 refine ws _ ?_
 refine cT (b1 [(6, .bool ((decide (ab ≤ J)) && (decide (J ≤ bk))))] (fun P ak => ?_) ?_)
 ·rcases Bool.eq_false_or_eq_true (decide (ab ≤ J)) with e6 | e6
  ·simp only [aY.down, simprocAttr, e6]
   (try simp only [bn.down, simprocAttr, e6] at ak ⊢); exact ak
  ·simp only [aY.down, simprocAttr, e6]
   (try simp only [bn.down, simprocAttr, e6] at ak ⊢); exact ak
 exact aK (an _ (.inl (aL [.bool ((decide (ab ≤ J)) && (decide (J ≤ bk)))] rfl (by cases aH h; rfl) (by decide) aM)))
theorem aqB (J : bb) (r : Bool) (h : Ew J = some r) : aR aJ 201 [bp J] (.bool r) [] := by
 refine aR.bY (fx := [0]) bZ [.tmp 2] [(0, bp J)] Tryz.func201 rfl rfl acf (Nat.le_of_ble_eq_true rfl) rfl rfl (fun bV an bS => ?_)
 refine ws _ ?_
 obtain ⟨ag, a2, h⟩ := aO h
 refine dK (jL J.dc 0 3 _ a2) _ ?_
 exact aK (an _ (.inl (aL [.bool (!ag)] rfl (by cases aH h; rfl) (by decide) aM)))
theorem aqC (J : List bb) (r : Int) (h : Ex J = some r) : aR aJ 203 [.slice (J.map bp), .fn 201 []] (.int .i64 r) [] := by
 refine aR.bY (fx := [0, 1]) bZ [.tmp 4] [(0, .slice (J.map bp)), (1, .fn 201 [])] Tryz.func203 rfl rfl acr (Nat.le_of_ble_eq_true rfl) rfl rfl (fun bV an bS => ?_)
 refine ws _ ?_
 refine aN (fun ek bR bj ao => ?_)
 refine ws _ ?_
 refine bK (fun dQ eL b9 ba bl => ?_)
 have fo : ∀ (n : Nat) (c5 : Int), ur J n c5 = some r → dG aJ KV dQ (aa [(0, .slice (J.map bp)), (1, .fn 201 []), (7, .int .i64 (J.length : Int)), (8, .int .i64 c5)]) := by
  intro ch
  induction ch with
  | zero => intro c5 h; cases (show none = some r from h)
  | succ ch fa =>
   intro c5 h
   replace h : An (ur J ch) J c5 = some r := h
   refine dW (fun g6 dR dJ br => ?_)
   refine ws _ ?_
   refine aN (fun hp dZ eW dm => ?_)
   rcases aT h with ⟨a6, h⟩ | ⟨a6, h⟩
   ·refine aX (congrArg I.bool a6) ?_
    simp only [a6, Bool.not_true, Bool.not_false]
    refine a5 (dZ _ (.inl ?_))
    refine aN (fun ey cQ cg dB => ?_)
    refine bK (fun e1 cd cA b2 c4 => ?_)
    refine ws _ ?_
    obtain ⟨ag, eC, h⟩ := aO h
    obtain ⟨ao, e5, h⟩ := aO h
    refine iB eC (aqB ag _ e5) _ ?_
    rcases aT h with ⟨cB, h⟩ | ⟨cB, h⟩
    ·refine aX (congrArg I.bool cB) ?_
     simp only [cB, Bool.not_true, Bool.not_false]
     refine ws _ ?_
     exact aK (cA _ (cg _ (dJ _ (b9 _ (bj _ (an _ (.inl (aL [.int .i64 c5] rfl (by cases aH h; rfl) (by decide) aM))))))))
    ·refine a0 (congrArg I.bool cB) ?_
     simp only [cB, Bool.not_true, Bool.not_false]
     refine a5 (cd _ (cQ _ (.inl ?_)))
     refine wr _ ?_
     exact dR _ (.inr ⟨_, bx rfl, fa (IntKind.i64.wrap (c5 + 1)) h⟩)
   ·refine a0 (congrArg I.bool a6) ?_
    simp only [a6, Bool.not_true, Bool.not_false]
    refine dU (dm 0 _ (br 0 _ (ba _ (bR _ (.inl ?_)))))
    refine ws _ ?_
    exact aK (an _ (.inl (aL [.int .i64 (-1)] rfl (by cases aH h; rfl) (by decide) aM)))
 obtain ⟨n, h⟩ := dM h
 exact dV (.inr ⟨_, bx rfl, fo n 0 h⟩)
theorem aqD (J : List bb) (r : Bool) (h : Ey J = some r) : aR aJ 200 [.slice (J.map bp), .fn 201 []] (.bool r) [] := by
 refine aR.bY (fx := [0, 1]) bZ [.tmp 4] [(0, .slice (J.map bp)), (1, .fn 201 [])] Tryz.func200 rfl rfl acv (Nat.le_of_ble_eq_true rfl) rfl rfl (fun bV an bS => ?_)
 refine ws _ ?_
 obtain ⟨ag, a2, h⟩ := aO h
 refine dK (aqC J _ a2) _ ?_
 exact aK (an _ (.inl (aL [.bool (decide (0 ≤ ag))] rfl (by cases aH h; rfl) (by decide) aM)))
theorem aqE (J : List bb) (r : Bool) (h : Ao J = some r) : aR aJ 165 [.slice (J.map bp)] (.bool r) [] := by
 refine aR.bY (fx := [0]) bZ [.tmp 2] [(0, .slice (J.map bp))] Tryz.func165 rfl rfl acy (Nat.le_of_ble_eq_true rfl) rfl rfl (fun bV an bS => ?_)
 refine ws _ ?_
 obtain ⟨ag, a2, h⟩ := aO h
 refine dK (aqD J _ a2) _ ?_
 exact aK (an _ (.inl (aL [.bool (!ag)] rfl (by cases aH h; rfl) (by decide) aM)))
theorem aqF (J : UInt8) (r : Bool) (h : Ez J = some r) : aR aJ 202 [.int .u8 (J.toNat : Int)] (.bool r) [] := by
 refine aR.bY (fx := [0]) bZ [.tmp 2] [(0, .int .u8 (J.toNat : Int))] Tryz.func202 rfl rfl acB (Nat.le_of_ble_eq_true rfl) rfl rfl (fun bV an bS => ?_)
 refine ws _ ?_
 refine cT (b1 [(2, .bool ((decide (48 ≤ (J.toNat : Int))) && (decide ((J.toNat : Int) ≤ 57))))] (fun P ak => ?_) ?_)
 ·rcases Bool.eq_false_or_eq_true (decide (48 ≤ (J.toNat : Int))) with e6 | e6
  ·simp only [aY.down, simprocAttr, e6]
   (try simp only [bn.down, simprocAttr, e6] at ak ⊢); exact ak
  ·simp only [aY.down, simprocAttr, e6]
   (try simp only [bn.down, simprocAttr, e6] at ak ⊢); exact ak
 exact aK (an _ (.inl (aL [.bool ((decide (48 ≤ (J.toNat : Int))) && (decide ((J.toNat : Int) ≤ 57)))] rfl (by cases aH h; rfl) (by decide) aM)))
set_option maxHeartbeats 600000 in
theorem BR (J : List UInt8) (r : Bool) (h : wU J = some r) : aR aJ 166 [.str J] (.bool r) [] := by
 refine aR.bY (fx := [0]) bZ [.tmp 2] [(0, .str J)] Tryz.func166 rfl rfl acN (Nat.le_of_ble_eq_true rfl) rfl rfl (fun bV an bS => ?_)
 refine ws _ ?_
 refine aN (fun ek bR bj ao => ?_)
 refine ws _ ?_
 refine bK (fun dQ eL b9 ba bl => ?_)
 have fo : ∀ (n : Nat) (eI : Int), py J n eI = some r → dG aJ KW dQ (aa [(0, .str J), (6, .int .i64 (J.length : Int)), (7, .int .i64 eI)]) := by
  intro ch
  induction ch with
  | zero => intro eI h; cases (show none = some r from h)
  | succ ch fa =>
   intro eI h
   replace h : wT (py J ch) J eI = some r := h
   refine dW (fun g6 dR dJ br => ?_)
   refine ws _ ?_
   refine aN (fun hp dZ eW dm => ?_)
   rcases aT h with ⟨a6, h⟩ | ⟨a6, h⟩
   ·refine aX (congrArg I.bool a6) ?_
    simp only [a6, Bool.not_true, Bool.not_false]
    refine a5 (dZ _ (.inl ?_))
    refine aN (fun ey cQ cg dB => ?_)
    refine bK (fun e1 cd cA b2 c4 => ?_)
    refine ws _ ?_
    obtain ⟨ag, eC, h⟩ := aO h
    refine cT (b1 [(0, .str J), (3, .int .i64 eI), (4, .bool ((decide (97 ≤ (ag.toNat : Int))) && (decide ((ag.toNat : Int) ≤ 122)))), (6, .int .i64 (J.length : Int)), (7, .int .i64 eI)] (fun P ak => ?_) ?_)
    ·rcases Bool.eq_false_or_eq_true (decide (97 ≤ (ag.toNat : Int))) with o2 | o2
     ·simp only [aY.down, simprocAttr, eX, eC, o2]
      (try simp only [bn.down, simprocAttr, eC, o2] at ak ⊢); exact ak
     ·simp only [aY.down, simprocAttr, eX, eC, o2]
      (try simp only [bn.down, simprocAttr, eC, o2] at ak ⊢); exact ak
    rcases aT h with ⟨ij, h⟩ | ⟨ij, h⟩
    ·rcases aT h with ⟨ib, h⟩ | ⟨ib, h⟩
     ·refine hR (And.intro ij ib) _ ?_
      refine aX rfl ?_
      refine ws _ ?_
      exact aK (cA _ (cg _ (dJ _ (b9 _ (bj _ (an _ (.inl (aL [.bool false] rfl (by cases aH h; rfl) (by decide) aM))))))))
     ·obtain ⟨ao, g7, h⟩ := aO h
      refine cT (b1 [(0, .str J), (6, .int .i64 (J.length : Int)), (7, .int .i64 eI), (32, .bool (!ao))] (fun P ak => ?_) ?_)
      ·simp only [aY.down, simprocAttr, eX, ij, ib, eC]
       refine hy (aqF ag _ g7) rfl rfl rfl rfl (.inl (by rfl)) ?_
       simp only [aY.down, simprocAttr, eX, ij, ib, eC]
       (try simp only [bn.down, simprocAttr, ij, ib, eC] at ak ⊢); exact ak
      rcases aT h with ⟨cZ, h⟩ | ⟨cZ, h⟩
      ·refine aX (congrArg I.bool cZ) ?_
       simp only [(c8 cZ), Bool.not_true, Bool.not_false]
       refine ws _ ?_
       exact aK (cA _ (cg _ (dJ _ (b9 _ (bj _ (an _ (.inl (aL [.bool false] rfl (by cases aH h; rfl) (by decide) aM))))))))
      ·refine a0 (congrArg I.bool cZ) ?_
       simp only [(bq cZ), Bool.not_true, Bool.not_false]
       refine a5 (cd _ (cQ _ (.inl ?_)))
       refine wr _ ?_
       exact dR _ (.inr ⟨_, bx rfl, fa (IntKind.i64.wrap (eI + 1)) h⟩)
    ·refine hR ij _ ?_
     refine a0 rfl ?_
     refine a5 (cd _ (cQ _ (.inl ?_)))
     refine wr _ ?_
     exact dR _ (.inr ⟨_, bx rfl, fa (IntKind.i64.wrap (eI + 1)) h⟩)
   ·refine a0 (congrArg I.bool a6) ?_
    simp only [a6, Bool.not_true, Bool.not_false]
    refine dU (dm 0 _ (br 0 _ (ba _ (bR _ (.inl ?_)))))
    refine cT (b1 [(2, .bool ((decide (1 ≤ (J.length : Int))) && (decide ((J.length : Int) ≤ 10))))] (fun P ak => ?_) ?_)
    ·rcases Bool.eq_false_or_eq_true (decide (1 ≤ (J.length : Int))) with so | so
     ·simp only [aY.down, simprocAttr, eX, so]
      (try simp only [bn.down, simprocAttr, so] at ak ⊢); exact ak
     ·simp only [aY.down, simprocAttr, eX, so]
      (try simp only [bn.down, simprocAttr, so] at ak ⊢); exact ak
    exact aK (an _ (.inl (aL [.bool ((decide (1 ≤ (J.length : Int))) && (decide ((J.length : Int) ≤ 10)))] rfl (by cases aH h; rfl) (by decide) aM)))
 obtain ⟨n, h⟩ := dM h
 exact dV (.inr ⟨_, bx rfl, fo n 0 h⟩)
theorem aqG (J : bb) (ab : List UInt8) (r : Bool) (h : EA J ab = some r) : aR aJ 204 [bp J, .ref (.str ab)] (.bool r) [] := by
 refine aR.bY (fx := [0, 1]) bZ [.tmp 3] [(0, bp J), (1, .ref (.str ab))] Tryz.func204 rfl rfl acQ (Nat.le_of_ble_eq_true rfl) rfl rfl (fun bV an bS => ?_)
 refine ws _ ?_
 refine ws _ ?_
 exact aK (an _ (.inl (aL [.bool (J.Name == ab)] rfl (by cases aH h; rfl) (by decide) aM)))
theorem aqH (J : List bb) (ab : List UInt8) (r : Int) (h : EB J ab = some r) : aR aJ 203 [.slice (J.map bp), .fn 204 [.ref (.str ab)]] (.int .i64 r) [] := by
 refine aR.bY (fx := [0, 1]) bZ [.tmp 4] [(0, .slice (J.map bp)), (1, .fn 204 [.ref (.str ab)])] Tryz.func203 rfl rfl ac1 (Nat.le_of_ble_eq_true rfl) rfl rfl (fun bV an bS => ?_)
 refine ws _ ?_
 refine aN (fun ek bR bj ao => ?_)
 refine ws _ ?_
 refine bK (fun dQ eL b9 ba bl => ?_)
 have fo : ∀ (n : Nat) (c5 : Int), uu J ab n c5 = some r → dG aJ KX dQ (aa [(0, .slice (J.map bp)), (1, .fn 204 [.ref (.str ab)]), (7, .int .i64 (J.length : Int)), (8, .int .i64 c5)]) := by
  intro ch
  induction ch with
  | zero => intro c5 h; cases (show none = some r from h)
  | succ ch fa =>
   intro c5 h
   replace h : Ap (uu J ab ch) J ab c5 = some r := h
   refine dW (fun g6 dR dJ br => ?_)
   refine ws _ ?_
   refine aN (fun hp dZ eW dm => ?_)
   rcases aT h with ⟨a6, h⟩ | ⟨a6, h⟩
   ·refine aX (congrArg I.bool a6) ?_
    simp only [a6, Bool.not_true, Bool.not_false]
    refine a5 (dZ _ (.inl ?_))
    refine aN (fun ey cQ cg dB => ?_)
    refine bK (fun e1 cd cA b2 c4 => ?_)
    refine ws _ ?_
    obtain ⟨ag, eC, h⟩ := aO h
    obtain ⟨ao, e5, h⟩ := aO h
    refine iB eC (aqG ag ab _ e5) _ ?_
    rcases aT h with ⟨cB, h⟩ | ⟨cB, h⟩
    ·refine aX (congrArg I.bool cB) ?_
     simp only [cB, Bool.not_true, Bool.not_false]
     refine ws _ ?_
     exact aK (cA _ (cg _ (dJ _ (b9 _ (bj _ (an _ (.inl (aL [.int .i64 c5] rfl (by cases aH h; rfl) (by decide) aM))))))))
    ·refine a0 (congrArg I.bool cB) ?_
     simp only [cB, Bool.not_true, Bool.not_false]
     refine a5 (cd _ (cQ _ (.inl ?_)))
     refine wr _ ?_
     exact dR _ (.inr ⟨_, bx rfl, fa (IntKind.i64.wrap (c5 + 1)) h⟩)
   ·refine a0 (congrArg I.bool a6) ?_
    simp only [a6, Bool.not_true, Bool.not_false]
    refine dU (dm 0 _ (br 0 _ (ba _ (bR _ (.inl ?_)))))
    refine ws _ ?_
    exact aK (an _ (.inl (aL [.int .i64 (-1)] rfl (by cases aH h; rfl) (by decide) aM)))
 obtain ⟨n, h⟩ := dM h
 exact dV (.inr ⟨_, bx rfl, fo n 0 h⟩)
theorem aqI (J : List bb) (ab : List UInt8) (r : Int) (h : Aq J ab = some r) : aR aJ 167 [.slice (J.map bp), .str ab] (.int .i64 r) [] := by
 refine aR.bY (fx := [0, 1]) bZ [.tmp 4] [(0, .slice (J.map bp)), (1, .str ab)] Tryz.func167 rfl rfl ac4 (Nat.le_of_ble_eq_true rfl) rfl rfl (fun bV an bS => ?_)
 refine ws _ ?_
 obtain ⟨ag, a2, h⟩ := aO h
 refine cT (b1 [(4, .int .i64 ag)] (fun P ak => ?_) ?_)
 ·simp only [aY.down, simprocAttr, hS.down]
  refine ft (aqH J ab _ a2) rfl rfl (by simp only [aY.down, simprocAttr, hS.down, hj, hk, hn, dn] <;> rfl) rfl (.inr (by rfl)) ?_
  simp only [aY.down, simprocAttr, hS.down]
  (try simp only [bn.down, simprocAttr, hS.down] at ak ⊢); exact ak
 exact aK (an _ (.inl (aL [.int .i64 ag] rfl (by cases aH h; rfl) (by decide) aM)))
theorem LU (J : bz) (r : Int) (h : wW J = some r) : aR aJ 134 [cb J] (.int .i64 r) [] := by
 refine aR.bY (fx := [0]) bZ [.tmp 2] [(0, cb J)] Tryz.func134 rfl rfl adi (Nat.le_of_ble_eq_true rfl) rfl rfl (fun bV an bS => ?_)
 refine ws _ ?_
 refine aN (fun ek bR bj ao => ?_)
 refine ws _ ?_
 refine bK (fun dQ eL b9 ba bl => ?_)
 have su : ∀ (dh : Bool), wV J dh = some r → db aJ KY dQ (aa [(4, .int .i64 J.Kind), (5, .bool dh)]) := by
  intro dh h
  rcases aT h with ⟨cL, h⟩ | ⟨cL, h⟩
  ·refine aX (congrArg I.bool cL) ?_
   simp only [cL, Bool.not_true, Bool.not_false]
   refine ws _ ?_
   exact aK (b9 _ (bj _ (an _ (.inl (aL [.int .i64 1] rfl (by cases aH h; rfl) (by decide) aM)))))
  ·refine a0 (congrArg I.bool cL) ?_
   simp only [cL, Bool.not_true, Bool.not_false]
   refine ws _ ?_
   rcases aT h with ⟨d_, h⟩ | ⟨d_, h⟩
   ·refine aX (congrArg I.bool d_) ?_
    simp only [d_, Bool.not_true, Bool.not_false]
    refine ws _ ?_
    exact aK (b9 _ (bj _ (an _ (.inl (aL [.int .i64 2] rfl (by cases aH h; rfl) (by decide) aM)))))
   ·refine a0 (congrArg I.bool d_) ?_
    simp only [d_, Bool.not_true, Bool.not_false]
    refine a5 (eL _ (bR _ (.inl ?_)))
    refine ws _ ?_
    exact aK (an _ (.inl (aL [.int .i64 0] rfl (by cases aH h; rfl) (by decide) aM)))
 refine aN (fun g6 dR dJ br => ?_)
 refine ws _ ?_
 rcases aT h with ⟨cH, h⟩ | ⟨cH, h⟩
 ·refine aX (congrArg I.bool cH) ?_
  simp only [cH, Bool.not_true, Bool.not_false]
  exact a5 (dR _ (.inr ⟨_, bx rfl, su true h⟩))
 ·refine a0 (congrArg I.bool cH) ?_
  simp only [cH, Bool.not_true, Bool.not_false]
  refine ws _ ?_
  rcases aT h with ⟨cB, h⟩ | ⟨cB, h⟩
  ·refine aX (congrArg I.bool cB) ?_
   simp only [cB, Bool.not_true, Bool.not_false]
   exact a5 (dR _ (.inr ⟨_, bx rfl, su true h⟩))
  ·refine a0 (congrArg I.bool cB) ?_
   simp only [cB, Bool.not_true, Bool.not_false]
   refine wr _ ?_
   exact dR _ (.inr ⟨_, bx rfl, su (J.Kind == 4) h⟩)
theorem aqJ (J : bb) (ab : Int) (r : Int) (h : As J ab = some r) : aR aJ 205 [bp J, .int .i64 ab] (.int .i64 r) [] := by
 refine aR.bY (fx := [0]) bZ [.tmp 4] [(0, bp J), (1, .int .i64 ab)] Tryz.func205 rfl rfl adt (Nat.le_of_ble_eq_true rfl) rfl rfl (fun bV an bS => ?_)
 refine ws _ ?_
 refine aN (fun ek bR bj ao => ?_)
 refine ws _ ?_
 refine bK (fun dQ eL b9 ba bl => ?_)
 have fo : ∀ (n : Nat) (aV : Int) (aG : Int), r2 J n aV aG = some r → dG aJ KZ dQ (aa [(1, .int .i64 aV), (2, .a8 (bp J)), (5, .int .i64 aG)]) := by
  intro ch
  induction ch with
  | zero => intro aV aG h; cases (show none = some r from h)
  | succ ch fa =>
   intro aV aG h
   replace h : Ar (r2 J ch) J aV aG = some r := h
   refine dW (fun g6 dR dJ br => ?_)
   refine aN (fun fc dv dF b4 => ?_)
   refine ws _ ?_
   rcases aT h with ⟨a6, h⟩ | ⟨a6, h⟩
   ·refine aX (congrArg I.bool a6) ?_
    simp only [a6, Bool.not_true, Bool.not_false]
    refine a5 (dv _ (.inl ?_))
    refine aN (fun ey cQ cg dB => ?_)
    refine bK (fun e1 cd cA b2 c4 => ?_)
    refine aN (fun iP fw h1 eF => ?_)
    refine ws _ ?_
    rcases aT h with ⟨cH, h⟩ | ⟨cH, h⟩
    ·refine aX (congrArg I.bool cH) ?_
     simp only [cH, Bool.not_true, Bool.not_false]
     refine ws _ ?_
     exact aK (h1 _ (cA _ (cg _ (dJ _ (b9 _ (bj _ (an _ (.inl (aL [.int .i64 (-1)] rfl (by cases aH h; rfl) (by decide) aM)))))))))
    ·refine a0 (congrArg I.bool cH) ?_
     simp only [cH, Bool.not_true, Bool.not_false]
     refine a5 (fw _ (.inl ?_))
     obtain ⟨ag, cr, h⟩ := aO h
     obtain ⟨ao, eK, h⟩ := aO h
     refine E5 cr (LU ag _ eK) _ ?_
     refine cd _ (cQ _ (.inl ?_))
     refine wr _ ?_
     exact dR _ (.inr ⟨_, bx rfl, fa (IntKind.i64.wrap (aV + 1)) (IntKind.i64.wrap (aG + (IntKind.i64.wrap (ao - 1)))) h⟩)
   ·refine a0 (congrArg I.bool a6) ?_
    simp only [a6, Bool.not_true, Bool.not_false]
    refine dU (b4 0 _ (br 0 _ (ba _ (bR _ (.inl ?_)))))
    refine ws _ ?_
    exact aK (an _ (.inl (aL [.int .i64 aV] rfl (by cases aH h; rfl) (by decide) aM)))
 obtain ⟨n, h⟩ := dM h
 exact dV (.inr ⟨_, bx rfl, fo n ab 1 h⟩)
theorem aqK (lg : Int → cn → (List cn) → bb → Option (Int × (List cn))) (aqL : ∀ (J : Int) (ab : cn) (bk : List cn) (dz : bb) (r : Int × (List cn)), lg J ab bk dz = some r → lF aJ 133 2 4 [.int .i64 J, dx ab, .a8 (.aw 2 (bk.map dx)), .ref (bp dz), .ref (.hole)] (.int .i64 r.1) [.hole, .hole, .a8 (.aw 2 (r.2.map dx)), .hole, .hole]) (J : Int) (ab : cn) (bk : List cn) (dz : bb) (r : Int × (List cn)) (h : EC lg J ab bk dz = some r) : lF aJ 133 2 4 [.int .i64 J, dx ab, .a8 (.aw 2 (bk.map dx)), .ref (bp dz), .ref (.hole)] (.int .i64 r.1) [.hole, .hole, .a8 (.aw 2 (r.2.map dx)), .hole, .hole] := by
 refine lF.bY (fx := [0, 1, 2, 3, 4]) bZ [.tmp 7] [(0, .int .i64 J), (1, dx ab), (2, .a8 (.aw 2 (bk.map dx))), (3, .ref (bp dz)), (4, .ref (.hole))] Tryz.func133 rfl rfl adH (Nat.le_of_ble_eq_true rfl) adG rfl rfl (fun bV an bS => ?_)
 refine ws _ ?_
 obtain ⟨ag, a2, h⟩ := aO h
 refine cT (b1 [(0, .int .i64 J), (2, .a8 (.aw 2 ((List.set bk (Int.toNat J) ab).map dx))), (3, .ref (bp dz)), (4, .ref (.hole)), (6, .a8 (dx ab))] (fun P ak => ?_) ?_)
 ·simp only [aY.down, simprocAttr, eb, qm, we, qp, bp, cb, bQ, dx, eG, a2, c6 a2, el, dT]
  (try simp only [bn.down, simprocAttr, mM.down, a2, c6 a2, el, dT] at ak ⊢); exact ak
 obtain ⟨ao, c9, h⟩ := aO h
 refine hR c9 [(0, .int .i64 J), (2, .a8 (.aw 2 ((List.set bk (Int.toNat J) ab).map dx))), (3, .ref (bp dz)), (4, .ref (.hole)), (6, .a8 (dx ab)), (8, .a8 (cb ao))] ?_
 refine hR (show ∀ s, fC aJ s 132 [(0, .int .i64 ab.scope), (1, .bool (ao.Kind == 1))] = some (.agg [.int .i64 ab.scope, .bool (ao.Kind == 1)], s) from fun s => by kernel_rfl) [(0, .int .i64 J), (2, .a8 (.aw 2 ((List.set bk (Int.toNat J) ab).map dx))), (3, .ref (bp dz)), (4, .ref (.hole)), (8, .a8 (cb ao)), (9, .a8 (.agg [.int .i64 ab.scope, .bool (ao.Kind == 1)]))] ?_
 have LV : ∀ (kj : Int), Au lg J ab bk dz ao kj = some r → db aJ K1 bV (aa [(0, .int .i64 J), (2, .a8 (.aw 2 ((List.set bk (Int.toNat J) ab).map dx))), (3, .ref (bp dz)), (4, .ref (.hole)), (8, .a8 (cb ao)), (9, .a8 (.agg [.int .i64 kj, .bool (ao.Kind == 1)]))]) := by
  intro kj h
  refine ws [(2, .a8 (.aw 2 ((List.set bk (Int.toNat J) ab).map dx))), (3, .ref (bp dz)), (4, .ref (.hole)), (8, .a8 (cb ao)), (9, .a8 (.agg [.int .i64 kj, .bool (ao.Kind == 1)])), (10, .int .i64 (IntKind.i64.wrap (J + 1)))] ?_
  refine aN (fun ey cQ cg dB => ?_)
  obtain ⟨aZ, nE, h⟩ := aO h
  refine dK (LU ao _ nE) [(2, .a8 (.aw 2 ((List.set bk (Int.toNat J) ab).map dx))), (3, .ref (bp dz)), (4, .ref (.hole)), (9, .a8 (.agg [.int .i64 kj, .bool (ao.Kind == 1)])), (10, .int .i64 (IntKind.i64.wrap (J + 1))), (36, .int .i64 aZ), (37, .int .i64 0)] ?_
  refine bK (fun j3 g4 iE cI i1 => ?_)
  have aqM : ∀ (n : Nat) (n0 : List cn) (mH : Int) (np : Int), qw lg dz kj ao aZ n n0 mH np = some r → dG aJ K0 j3 (aa [(2, .a8 (.aw 2 (n0.map dx))), (3, .ref (bp dz)), (4, .ref (.hole)), (9, .a8 (.agg [.int .i64 kj, .bool (ao.Kind == 1)])), (10, .int .i64 mH), (36, .int .i64 aZ), (37, .int .i64 np)]) := by
   intro FE
   induction FE with
   | zero => intro n0 mH np h; cases (show none = some r from h)
   | succ FE aqN =>
    intro n0 mH np h
    replace h : At lg (qw lg dz kj ao aZ FE) dz kj ao aZ n0 mH np = some r := h
    refine dW (fun lj g3 gi jd => ?_)
    refine ws _ ?_
    refine aN (fun mc hT hz je => ?_)
    rcases aT h with ⟨ij, h⟩ | ⟨ij, h⟩
    ·refine aX (congrArg I.bool ij) ?_
     simp only [ij, Bool.not_true, Bool.not_false]
     refine a5 (hT _ (.inl ?_))
     refine aN (fun n7 jJ i2 nu => ?_)
     refine bK (fun FA sB qE ee FB => ?_)
     obtain ⟨bl, jK, h⟩ := aO h
     refine Rp [(2, .a8 (.aw 2 (bl.2.map dx))), (3, .ref (bp dz)), (4, .ref (.hole)), (9, .a8 (.agg [.int .i64 kj, .bool (ao.Kind == 1)])), (10, .int .i64 bl.1), (36, .int .i64 aZ), (37, .int .i64 np)] (fun P ak => ?_) ?_
     ·simp only [aY.down, simprocAttr, E6.down, nX]
      refine Jn [⟨.int .i64 mH, false, _, .hole⟩, ⟨.agg [.int .i64 kj, .bool (ao.Kind == 1)], false, _, .hole⟩, ⟨.h 2 [], true, _, _⟩, ⟨.ref (bp dz), false, _, .hole⟩, ⟨.ref (.hole), false, _, .hole⟩] (aqL mH (cn.mk kj (ao.Kind == 1)) n0 dz _ jK) rfl (by simp only [aY.down, simprocAttr, E6.down, nX, oR, l4, jo, hj, hk, hn, dn, or_true, true_or, @cj _ dx dx (fun _ => Kj _)]) rfl rfl (.inl rfl) ?_
      simp only [aY.down, simprocAttr, E6.down, nX, l5]
      (try simp only [bn.down, simprocAttr, mM.down, nX] at ak ⊢); exact ak
     refine sB _ (jJ _ (.inl ?_))
     refine wr _ ?_
     exact g3 _ (.inr ⟨_, bx rfl, aqN bl.2 bl.1 (IntKind.i64.wrap (np + 1)) h⟩)
    ·refine a0 (congrArg I.bool ij) ?_
     simp only [ij, Bool.not_true, Bool.not_false]
     refine dU (je 0 _ (jd 0 _ (cI _ (cQ _ (.inl ?_)))))
     refine ws _ ?_
     exact aK (an _ (.inl (aL [.int .i64 mH] rfl (by cases aH h; rfl) (by decide) (nU (l6 (l6 (nV (by cases aH h; rfl) rfl rfl rfl (l6 (l6 (nW))))))))))
  obtain ⟨n, h⟩ := dM h
  exact dV (.inr ⟨_, bx rfl, aqM n (List.set bk (Int.toNat J) ab) (IntKind.i64.wrap (J + 1)) 0 h⟩)
 refine aN (fun hp dZ eW dm => ?_)
 refine ws [(0, .int .i64 J), (2, .a8 (.aw 2 ((List.set bk (Int.toNat J) ab).map dx))), (3, .ref (bp dz)), (4, .ref (.hole)), (8, .a8 (cb ao)), (9, .a8 (.agg [.int .i64 ab.scope, .bool (ao.Kind == 1)])), (28, .bool (ao.Kind == 4))] ?_
 rcases aT h with ⟨hr, h⟩ | ⟨hr, h⟩
 ·refine aX (congrArg I.bool hr) ?_
  simp only [hr, Bool.not_true, Bool.not_false]
  refine wr [(0, .int .i64 J), (2, .a8 (.aw 2 ((List.set bk (Int.toNat J) ab).map dx))), (3, .ref (bp dz)), (4, .ref (.hole)), (8, .a8 (cb ao)), (9, .a8 (.agg [.int .i64 (IntKind.i64.wrap (ab.scope + 1)), .bool (ao.Kind == 1)]))] ?_
  exact dZ _ (.inr ⟨_, bx rfl, LV (IntKind.i64.wrap (ab.scope + 1)) h⟩)
 ·refine a0 (congrArg I.bool hr) ?_
  simp only [hr, Bool.not_true, Bool.not_false]
  exact a5 (dZ _ (.inr ⟨_, bx rfl, LV ab.scope h⟩))
theorem aqO : ∀ (n : Nat) (J : Int) (ab : cn) (bk : List cn) (dz : bb) (r : Int × (List cn)), r3 n J ab bk dz = some r → lF aJ 133 2 4 [.int .i64 J, dx ab, .a8 (.aw 2 (bk.map dx)), .ref (bp dz), .ref (.hole)] (.int .i64 r.1) [.hole, .hole, .a8 (.aw 2 (r.2.map dx)), .hole, .hole] := by
 intro n
 induction n with
 | zero => intro J ab bk dz r h; cases (show none = some r from h)
 | succ n ih => intro J ab bk dz r h; exact aqK (r3 n) ih J ab bk dz r h
theorem aqP (J : Int) (ab : cn) (bk : List cn) (dz : bb) (r : Int × (List cn)) (h : Av J ab bk dz = some r) : lF aJ 133 2 4 [.int .i64 J, dx ab, .a8 (.aw 2 (bk.map dx)), .ref (bp dz), .ref (.hole)] (.int .i64 r.1) [.hole, .hole, .a8 (.aw 2 (r.2.map dx)), .hole, .hole] := by
 obtain ⟨n, h⟩ := dM h
 exact aqO n J ab bk dz r h
theorem aqQ (J : bb) (r : (List cn)) (h : Aw J = some r) : aR aJ 80 [bp J] (.aw 2 (r.map dx)) [] := by
 refine aR.R9 (fx := [0]) bZ [.tmp 2] [(0, bp J)] Tryz.func80 rfl rfl adM (Nat.le_of_ble_eq_true rfl) adL rfl rfl (fun bV an bS => ?_)
 refine ws _ ?_
 obtain ⟨CX, a2, h⟩ := aO h
 refine cT (b1 [(1, .a8 (bp J)), (3, .a8 (.aw 2 ((List.replicate (Int.toNat (J.Body.length : Int)) (cn.mk 0 false)).map dx)))] (fun P ak => ?_) ?_)
 ·simp only [aY.down, simprocAttr, eb, qm, eX, j0, lG, g0, ig, we, qp, gw, gg, bp, cb, bQ, dx, eG, (e2 a2).1, (e2 a2).2.1, (e2 a2).2.2, eV, List.map_replicate, -Int.reduceNatCast']
  (try simp only [bn.down, simprocAttr, mM.down, (e2 a2).1, (e2 a2).2.1, (e2 a2).2.2, eV, List.map_replicate, -Int.reduceNatCast'] at ak ⊢); exact ak
 obtain ⟨ag, c9, h⟩ := aO h
 refine R7 [(3, .a8 (.aw 2 (ag.2.map dx)))] (fun P ak => ?_) ?_
 ·simp only [aY.down, simprocAttr, E7.down, (show ∀ s, fC aJ s 132 [(0, .int .i64 J.dc)] = some (.agg [.int .i64 J.dc, .bool false], s) from fun s => by kernel_rfl), nX]
  refine Jn [⟨.int .i64 0, false, _, .hole⟩, ⟨.agg [.int .i64 J.dc, .bool false], false, _, .hole⟩, ⟨.h 3 [], true, _, _⟩, ⟨.h 1 [], false, _, .hole⟩, ⟨.ref (.hole), false, _, .hole⟩] (aqP 0 (cn.mk J.dc false) (List.replicate (Int.toNat (J.Body.length : Int)) (cn.mk 0 false)) J _ c9) rfl (by simp only [aY.down, simprocAttr, E7.down, (show ∀ s, fC aJ s 132 [(0, .int .i64 J.dc)] = some (.agg [.int .i64 J.dc, .bool false], s) from fun s => by kernel_rfl), nX, oR, l4, jo, hj, hk, hn, dn, or_true, true_or, @cj _ dx dx (fun _ => Kj _), @cj _ cb cb (fun _ => E0 _)]) rfl rfl ((.inr (by simp only [pv, I.cW, I.hx, Bool.and_self, @kd _ dx (fun _ => Sr _)]))) ?_
  simp only [aY.down, simprocAttr, E7.down, (show ∀ s, fC aJ s 132 [(0, .int .i64 J.dc)] = some (.agg [.int .i64 J.dc, .bool false], s) from fun s => by kernel_rfl), nX, l5]
  (try simp only [bn.down, simprocAttr, mM.down, (show ∀ s, fC aJ s 132 [(0, .int .i64 J.dc)] = some (.agg [.int .i64 J.dc, .bool false], s) from fun s => by kernel_rfl), nX] at ak ⊢); exact ak
 refine ws _ ?_
 exact aK (an _ (.inl (aL [.aw 2 (ag.2.map dx)] rfl (by cases aH h; rfl) (by decide) aM)))
set_option maxHeartbeats 4600000 in
theorem aqR (J : bz) (r : Bool) (h : ED J = some r) : aR aJ 219 [cb J] (.bool r) [] := by
 refine aR.bY (fx := [0]) bZ [.tmp 2] [(0, cb J)] Tryz.func219 rfl rfl adR (Nat.le_of_ble_eq_true rfl) rfl rfl (fun bV an bS => ?_)
 refine ws _ ?_
 refine cT (b1 [(1, .a8 (cb J)), (3, .bool ((J.Kind == 4) || (J.Kind == 5)))] (fun P ak => ?_) ?_)
 ·rcases Bool.eq_false_or_eq_true (J.Kind == 4) with e6 | e6
  ·simp only [aY.down, simprocAttr, nr.down, e6]
   (try simp only [bn.down, simprocAttr, mb.down, e6] at ak ⊢); exact ak
  ·simp only [aY.down, simprocAttr, nr.down, e6]
   (try simp only [bn.down, simprocAttr, mb.down, e6] at ak ⊢); exact ak
 refine cT (b1 [(1, .a8 (cb J)), (3, .bool ((J.Kind == 4) || (J.Kind == 5))), (4, .bool (((J.Kind == 1) || (J.Kind == 3)) || (J.Kind == 5)))] (fun P ak => ?_) ?_)
 ·(rcases Bool.eq_false_or_eq_true (J.Kind == 1) with xA | xA) <;> (rcases Bool.eq_false_or_eq_true (J.Kind == 3) with FF | FF) <;>
   (simp only [aY.down, simprocAttr, nr.down, xA, FF]
    (try simp only [bn.down, simprocAttr, mb.down, xA, FF] at ak ⊢); exact ak)
 obtain ⟨ag, hN, h⟩ := aO h
 refine cT (b1 [(2, .bool (((ag && (((J.Kind == 4) || (J.Kind == 5)) || (J.Number == 0))) && ((J.Kind == 1) || (J.Name == ([] : List UInt8)))) && ((((J.Kind == 1) || (J.Kind == 3)) || (J.Kind == 5)) || ((J.cq.length : Int) == 0))))] (fun P ak => ?_) ?_)
 ·(rcases Bool.eq_false_or_eq_true (ag) with ma | ma) <;> (rcases Bool.eq_false_or_eq_true (J.Kind == 4) with qF | qF) <;> (rcases Bool.eq_false_or_eq_true (J.Kind == 5) with BS | BS) <;> (rcases Bool.eq_false_or_eq_true (J.Number == 0) with uC | uC) <;> (rcases Bool.eq_false_or_eq_true (J.Kind == 1) with uD | uD) <;> (rcases Bool.eq_false_or_eq_true (J.Name == ([] : List UInt8)) with o2 | o2) <;> (rcases Bool.eq_false_or_eq_true (J.Kind == 3) with BT | BT) <;>
   (simp only [aY.down, simprocAttr, nr.down, ma, qF, BS, uC, uD, o2, BT]
    refine ft (jL J.Kind 0 5 _ hN) rfl rfl rfl rfl (.inl (by rfl)) ?_
    simp only [aY.down, simprocAttr, nr.down, ma, qF, BS, uC, uD, o2, BT]
    (try simp only [bn.down, simprocAttr, mb.down, ma, qF, BS, uC, uD, o2, BT] at ak ⊢); exact ak)
 exact aK (an _ (.inl (aL [.bool (((ag && (((J.Kind == 4) || (J.Kind == 5)) || (J.Number == 0))) && ((J.Kind == 1) || (J.Name == ([] : List UInt8)))) && ((((J.Kind == 1) || (J.Kind == 3)) || (J.Kind == 5)) || ((J.cq.length : Int) == 0)))] rfl (by cases aH h; rfl) (by decide) aM)))
theorem ko (J : List UInt8) (r : Bool) (h : pz J = some r) : aR aJ 149 [.str J] (.bool r) [] := by
 refine aR.bY (fx := [0]) bZ [.tmp 2] [(0, .str J)] Tryz.func149 rfl rfl adU (Nat.le_of_ble_eq_true rfl) rfl rfl (fun bV an bS => ?_)
 refine ws _ ?_
 obtain ⟨ag, a2, h⟩ := aO h
 refine cT (b1 [(2, .bool (ag && (!(J == ([116, 97, 117] : List UInt8)))))] (fun P ak => ?_) ?_)
 ·rcases Bool.eq_false_or_eq_true (ag) with ha | ha
  ·simp only [aY.down, simprocAttr, ha]
   refine ft (BR J _ a2) rfl rfl rfl rfl (.inl (by rfl)) ?_
   simp only [aY.down, simprocAttr, ha]
   (try simp only [bn.down, simprocAttr, ha] at ak ⊢); exact ak
  ·simp only [aY.down, simprocAttr, ha]
   refine ft (BR J _ a2) rfl rfl rfl rfl (.inl (by rfl)) ?_
   simp only [aY.down, simprocAttr, ha]
   (try simp only [bn.down, simprocAttr, ha] at ak ⊢); exact ak
 exact aK (an _ (.inl (aL [.bool (ag && (!(J == ([116, 97, 117] : List UInt8))))] rfl (by cases aH h; rfl) (by decide) aM)))
theorem xU (J : Int) (ab : Int) (r : Bool) (h : uv J ab = some r) : aR aJ 170 [.int .i64 J, .int .i64 ab] (.bool r) [] := by
 refine aR.bY (fx := [0, 1]) bZ [.tmp 4] [(0, .int .i64 J), (1, .int .i64 ab)] Tryz.func170 rfl rfl adX (Nat.le_of_ble_eq_true rfl) rfl rfl (fun bV an bS => ?_)
 refine ws _ ?_
 obtain ⟨ag, a2, h⟩ := aO h
 refine dK (jL J 0 (IntKind.i64.wrap (ab - 1)) _ a2) _ ?_
 exact aK (an _ (.inl (aL [.bool ag] rfl (by cases aH h; rfl) (by decide) aM)))
theorem aqS (J : bz) (ab : List bb) (r : Bool) (h : EE J ab = some r) : aR aJ 220 [cb J, .slice (ab.map bp)] (.bool r) [] := by
 refine aR.bY (fx := [0, 1]) bZ [.tmp 4] [(0, cb J), (1, .slice (ab.map bp))] Tryz.func220 rfl rfl aea (Nat.le_of_ble_eq_true rfl) rfl rfl (fun bV an bS => ?_)
 refine ws _ ?_
 refine ws _ ?_
 refine aN (fun kk gK dO aZ => ?_)
 refine ws _ ?_
 refine bK (fun g6 dR dJ bI br => ?_)
 refine ws _ ?_
 rcases aT h with ⟨iL, h⟩ | ⟨iL, h⟩
 ·refine aX (congrArg I.bool iL) ?_
  simp only [iL, Bool.not_true, Bool.not_false]
  refine cT (b1 [(4, .bool (((J.cq.length : Int) == 0) || ((!(J.Name == ([116, 97, 117] : List UInt8))) && (decide ((J.cq.length : Int) ≤ 2)))))] (fun P ak => ?_) ?_)
  ·(rcases Bool.eq_false_or_eq_true ((J.cq.length : Int) == 0) with ma | ma) <;> (rcases Bool.eq_false_or_eq_true (J.Name == ([116, 97, 117] : List UInt8)) with qF | qF) <;>
    (simp only [aY.down, simprocAttr, xB.down, ma, qF]
     (try simp only [bn.down, simprocAttr, hS.down, ma, qF] at ak ⊢); exact ak)
  exact aK (dJ _ (dO _ (an _ (.inl (aL [.bool (((J.cq.length : Int) == 0) || ((!(J.Name == ([116, 97, 117] : List UInt8))) && (decide ((J.cq.length : Int) ≤ 2))))] rfl (by cases aH h; rfl) (by decide) aM)))))
 ·refine a0 (congrArg I.bool iL) ?_
  simp only [iL, Bool.not_true, Bool.not_false]
  refine ws _ ?_
  rcases aT h with ⟨cI, h⟩ | ⟨cI, h⟩
  ·refine aX (congrArg I.bool cI) ?_
   simp only [cI, Bool.not_true, Bool.not_false]
   refine ws _ ?_
   exact aK (dJ _ (dO _ (an _ (.inl (aL [.bool ((J.cq.length : Int) == 1)] rfl (by cases aH h; rfl) (by decide) aM)))))
  ·refine a0 (congrArg I.bool cI) ?_
   simp only [cI, Bool.not_true, Bool.not_false]
   refine ws _ ?_
   rcases aT h with ⟨cB, h⟩ | ⟨cB, h⟩
   ·refine aX (congrArg I.bool cB) ?_
    simp only [cB, Bool.not_true, Bool.not_false]
    obtain ⟨ag, eK, h⟩ := aO h
    refine hR eK _ ?_
    exact aK (dJ _ (dO _ (an _ (.inl (aL [.bool ((J.cq.length : Int) == ag.dc)] rfl (by cases aH h; rfl) (by decide) aM)))))
   ·refine a0 (congrArg I.bool cB) ?_
    simp only [cB, Bool.not_true, Bool.not_false]
    refine a5 (dR _ (gK _ (.inl ?_)))
    refine ws _ ?_
    exact aK (an _ (.inl (aL [.bool true] rfl (by cases aH h; rfl) (by decide) aM)))
theorem LW (J : Int) (r : Bool) (h : wX J = some r) : aR aJ 180 [.int .i64 J] (.bool r) [] := by
 refine aR.bY (fx := [0]) bZ [.tmp 2] [(0, .int .i64 J)] Tryz.func180 rfl rfl aed (Nat.le_of_ble_eq_true rfl) rfl rfl (fun bV an bS => ?_)
 refine ws _ ?_
 obtain ⟨ag, a2, h⟩ := aO h
 refine dK (jL J 0 63 _ a2) _ ?_
 exact aK (an _ (.inl (aL [.bool ag] rfl (by cases aH h; rfl) (by decide) aM)))
theorem aqT (J : bP) (ab : Int) (r : Bool) (h : Ax J ab = some r) : aR aJ 182 [bQ J, .int .i64 ab] (.bool r) [] := by
 refine aR.bY (fx := [0, 1]) bZ [.tmp 4] [(0, bQ J), (1, .int .i64 ab)] Tryz.func182 rfl rfl aet (Nat.le_of_ble_eq_true rfl) rfl rfl (fun bV an bS => ?_)
 refine ws _ ?_
 refine aN (fun ek bR bj ao => ?_)
 refine ws _ ?_
 refine bK (fun dQ eL b9 ba bl => ?_)
 refine ws _ ?_
 rcases aT h with ⟨cL, h⟩ | ⟨cL, h⟩
 ·refine aX (congrArg I.bool cL) ?_
  simp only [cL, Bool.not_true, Bool.not_false]
  obtain ⟨ag, hN, h⟩ := aO h
  refine dK (LW J.Value _ hN) _ ?_
  exact aK (b9 _ (bj _ (an _ (.inl (aL [.bool ag] rfl (by cases aH h; rfl) (by decide) aM)))))
 ·refine a0 (congrArg I.bool cL) ?_
  simp only [cL, Bool.not_true, Bool.not_false]
  refine ws _ ?_
  rcases aT h with ⟨b2, h⟩ | ⟨b2, h⟩
  ·refine aX (congrArg I.bool b2) ?_
   simp only [b2, Bool.not_true, Bool.not_false]
   obtain ⟨ao, eh, h⟩ := aO h
   refine dK (jL J.Value 0 (IntKind.i64.wrap (ab - 1)) _ eh) _ ?_
   exact aK (b9 _ (bj _ (an _ (.inl (aL [.bool ao] rfl (by cases aH h; rfl) (by decide) aM)))))
  ·refine a0 (congrArg I.bool b2) ?_
   simp only [b2, Bool.not_true, Bool.not_false]
   refine ws _ ?_
   rcases aT h with ⟨ef, h⟩ | ⟨ef, h⟩
   ·refine aX (congrArg I.bool ef) ?_
    simp only [ef, Bool.not_true, Bool.not_false]
    obtain ⟨aZ, cr, h⟩ := aO h
    refine dK (jL J.Value 0 8 _ cr) _ ?_
    exact aK (b9 _ (bj _ (an _ (.inl (aL [.bool aZ] rfl (by cases aH h; rfl) (by decide) aM)))))
   ·refine a0 (congrArg I.bool ef) ?_
    simp only [ef, Bool.not_true, Bool.not_false]
    refine ws _ ?_
    rcases aT h with ⟨ee, h⟩ | ⟨ee, h⟩
    ·refine aX (congrArg I.bool ee) ?_
     simp only [ee, Bool.not_true, Bool.not_false]
     refine ws _ ?_
     exact aK (b9 _ (bj _ (an _ (.inl (aL [.bool (J.Value == 0)] rfl (by cases aH h; rfl) (by decide) aM)))))
    ·refine a0 (congrArg I.bool ee) ?_
     simp only [ee, Bool.not_true, Bool.not_false]
     refine a5 (eL _ (bR _ (.inl ?_)))
     refine ws _ ?_
     exact aK (an _ (.inl (aL [.bool false] rfl (by cases aH h; rfl) (by decide) aM)))
theorem aqU (J : bP) (r : Int) (h : EF J = some r) : aR aJ 183 [bQ J] (.int .i64 r) [] := by
 refine aR.bY (fx := [0]) bZ [.tmp 2] [(0, bQ J)] Tryz.func183 rfl rfl aeD (Nat.le_of_ble_eq_true rfl) rfl rfl (fun bV an bS => ?_)
 refine ws _ ?_
 refine aN (fun ek bR bj ao => ?_)
 refine ws _ ?_
 refine bK (fun dQ eL b9 ba bl => ?_)
 refine ws _ ?_
 rcases aT h with ⟨cL, h⟩ | ⟨cL, h⟩
 ·refine aX (congrArg I.bool cL) ?_
  simp only [cL, Bool.not_true, Bool.not_false]
  refine ws _ ?_
  exact aK (b9 _ (bj _ (an _ (.inl (aL [.int .i64 2] rfl (by cases aH h; rfl) (by decide) aM)))))
 ·refine a0 (congrArg I.bool cL) ?_
  simp only [cL, Bool.not_true, Bool.not_false]
  refine ws _ ?_
  rcases aT h with ⟨d_, h⟩ | ⟨d_, h⟩
  ·refine aX (congrArg I.bool d_) ?_
   simp only [d_, Bool.not_true, Bool.not_false]
   refine ws _ ?_
   exact aK (b9 _ (bj _ (an _ (.inl (aL [.int .i64 1] rfl (by cases aH h; rfl) (by decide) aM)))))
  ·refine a0 (congrArg I.bool d_) ?_
   simp only [d_, Bool.not_true, Bool.not_false]
   refine a5 (eL _ (bR _ (.inl ?_)))
   refine ws _ ?_
   exact aK (an _ (.inl (aL [.int .i64 0] rfl (by cases aH h; rfl) (by decide) aM)))
set_option maxHeartbeats 600000 in
theorem aqV (J : List bP) (ab : Int) (bk : Int) (r : Bool) (h : Az J ab bk = some r) : aR aJ 153 [.slice (J.map bQ), .int .i64 ab, .int .i64 bk] (.bool r) [] := by
 refine aR.bY (fx := [0, 1, 2]) bZ [.tmp 6] [(0, .slice (J.map bQ)), (1, .int .i64 ab), (2, .int .i64 bk)] Tryz.func153 rfl rfl aeT (Nat.le_of_ble_eq_true rfl) rfl rfl (fun bV an bS => ?_)
 refine ws _ ?_
 refine aN (fun ek bR bj ao => ?_)
 obtain ⟨ag, c1, h⟩ := aO h
 rcases aT h with ⟨bI, h⟩ | ⟨bI, h⟩
 ·refine iB (c8 bI) (jL ab 0 29 _ c1) _ ?_
  refine aX rfl ?_
  refine ws _ ?_
  exact aK (bj _ (an _ (.inl (aL [.bool false] rfl (by cases aH h; rfl) (by decide) aM))))
 ·obtain ⟨ao, cf, h⟩ := aO h
  rcases aT h with ⟨a6, h⟩ | ⟨a6, h⟩
  ·refine cT (b1 [(0, .slice (J.map bQ)), (1, .int .i64 ab), (24, .bool true)] (fun P ak => ?_) ?_)
   ·simp only [aY.down, simprocAttr, mK.down, (bq bI), (c8 a6)]
    refine ft (jL ab 0 29 _ c1) rfl rfl rfl rfl (.inl (by rfl)) ?_
    simp only [aY.down, simprocAttr, mK.down, (bq bI), (c8 a6)]
    refine hy (jL bk 1 60 _ cf) rfl rfl rfl rfl (.inl (by rfl)) ?_
    simp only [aY.down, simprocAttr, mK.down, (bq bI), (c8 a6)]
    (try simp only [bn.down, simprocAttr, bQ, (bq bI), (c8 a6)] at ak ⊢); exact ak
   refine aX rfl ?_
   refine ws _ ?_
   exact aK (bj _ (an _ (.inl (aL [.bool false] rfl (by cases aH h; rfl) (by decide) aM))))
  ·obtain ⟨aZ, lr, h⟩ := aO h
   refine cT (b1 [(0, .slice (J.map bQ)), (1, .int .i64 ab), (24, .bool (!aZ))] (fun P ak => ?_) ?_)
   ·simp only [aY.down, simprocAttr, mK.down, (bq bI), (bq a6)]
    refine ft (jL ab 0 29 _ c1) rfl rfl rfl rfl (.inl (by rfl)) ?_
    simp only [aY.down, simprocAttr, mK.down, (bq bI), (bq a6)]
    refine hy (jL bk 1 60 _ cf) rfl rfl rfl rfl (.inl (by rfl)) ?_
    simp only [aY.down, simprocAttr, mK.down, (bq bI), (bq a6)]
    refine hy (jL (J.length : Int) 1 bk _ lr) rfl rfl rfl rfl (.inl (by rfl)) ?_
    simp only [aY.down, simprocAttr, mK.down, (bq bI), (bq a6)]
    (try simp only [bn.down, simprocAttr, bQ, (bq bI), (bq a6)] at ak ⊢); exact ak
   rcases aT h with ⟨hq, h⟩ | ⟨hq, h⟩
   ·refine aX (congrArg I.bool hq) ?_
    simp only [(c8 hq), Bool.not_true, Bool.not_false]
    refine ws _ ?_
    exact aK (bj _ (an _ (.inl (aL [.bool false] rfl (by cases aH h; rfl) (by decide) aM))))
   ·refine a0 (congrArg I.bool hq) ?_
    simp only [(bq hq), Bool.not_true, Bool.not_false]
    refine a5 (bR _ (.inl ?_))
    refine ws _ ?_
    refine aN (fun iD fy eJ ho => ?_)
    refine ws _ ?_
    refine bK (fun pE kn jG ij l9 => ?_)
    have kl : ∀ (n : Nat) (g2 : Int) (mI : Int), r4 J ab n g2 mI = some r → dG aJ K4 pE (aa [(1, .int .i64 ab), (7, .int .i64 g2), (25, .slice (J.map bQ)), (26, .int .i64 (J.length : Int)), (27, .int .i64 mI)]) := by
     intro gx
     induction gx with
     | zero => intro g2 mI h; cases (show none = some r from h)
     | succ gx km =>
      intro g2 mI h
      replace h : Ay (r4 J ab gx) J ab g2 mI = some r := h
      refine dW (fun n7 jJ i2 nu => ?_)
      refine ws _ ?_
      refine aN (fun LG uK BN Ff => ?_)
      rcases aT h with ⟨cZ, h⟩ | ⟨cZ, h⟩
      ·refine aX (congrArg I.bool cZ) ?_
       simp only [cZ, Bool.not_true, Bool.not_false]
       refine a5 (uK _ (.inl ?_))
       refine aN (fun aqW FG xV aqX => ?_)
       refine bK (fun uH mN me i3 uI => ?_)
       obtain ⟨bl, jr, h⟩ := aO h
       refine hR jr _ ?_
       refine aN (fun aqY FH BU aqZ => ?_)
       rcases aT h with ⟨jg, h⟩ | ⟨jg, h⟩
       ·refine hR jg _ ?_
        refine aX rfl ?_
        refine ws _ ?_
        exact aK (BU _ (me _ (xV _ (i2 _ (jG _ (eJ _ (an _ (.inl (aL [.bool false] rfl (by cases aH h; rfl) (by decide) aM)))))))))
       ·obtain ⟨br, aq0, h⟩ := aO h
        refine cT (b1 [(1, .int .i64 ab), (7, .int .i64 g2), (9, .a8 (bQ bl)), (25, .slice (J.map bQ)), (26, .int .i64 (J.length : Int)), (27, .int .i64 mI), (38, .bool (!br))] (fun P ak => ?_) ?_)
        ·simp only [aY.down, simprocAttr, eb, gg, bQ, jg]
         refine hy (aqT bl ab _ aq0) rfl rfl rfl rfl (.inl (by rfl)) ?_
         simp only [aY.down, simprocAttr, eb, gg, bQ, jg]
         (try simp only [bn.down, simprocAttr, bQ, jg] at ak ⊢); exact ak
        rcases aT h with ⟨hb, h⟩ | ⟨hb, h⟩
        ·refine aX (congrArg I.bool hb) ?_
         simp only [(c8 hb), Bool.not_true, Bool.not_false]
         refine ws _ ?_
         exact aK (BU _ (me _ (xV _ (i2 _ (jG _ (eJ _ (an _ (.inl (aL [.bool false] rfl (by cases aH h; rfl) (by decide) aM)))))))))
        ·refine a0 (congrArg I.bool hb) ?_
         simp only [(bq hb), Bool.not_true, Bool.not_false]
         refine a5 (FH _ (.inl ?_))
         obtain ⟨b4, aq1, h⟩ := aO h
         refine ao0 (aqU bl _ aq1) _ ?_
         refine mN _ (FG _ (.inl ?_))
         refine wr _ ?_
         exact jJ _ (.inr ⟨_, bx rfl, km (IntKind.i64.wrap (g2 + (IntKind.i64.wrap (b4 - 1)))) (IntKind.i64.wrap (mI + 1)) h⟩)
      ·refine a0 (congrArg I.bool cZ) ?_
       simp only [cZ, Bool.not_true, Bool.not_false]
       refine dU (Ff 0 _ (nu 0 _ (ij _ (fy _ (.inl ?_)))))
       refine ws _ ?_
       exact aK (an _ (.inl (aL [.bool (g2 == 0)] rfl (by cases aH h; rfl) (by decide) aM)))
    obtain ⟨n, h⟩ := dM h
    exact dV (.inr ⟨_, bx rfl, kl n 1 0 h⟩)
theorem aq2 (J : List bP) (ab : cn) (r : Bool) (h : EG J ab = some r) : aR aJ 221 [.slice (J.map bQ), .ref (dx ab)] (.bool r) [] := by
 refine aR.bY (fx := [0, 1]) bZ [.tmp 3] [(0, .slice (J.map bQ)), (1, .ref (dx ab))] Tryz.func221 rfl rfl aeW (Nat.le_of_ble_eq_true rfl) rfl rfl (fun bV an bS => ?_)
 refine ws _ ?_
 obtain ⟨ag, a2, h⟩ := aO h
 refine dK (aqV J ab.scope 15 _ a2) _ ?_
 exact aK (an _ (.inl (aL [.bool (!ag)] rfl (by cases aH h; rfl) (by decide) aM)))
theorem aq3 (J : List (List bP)) (ab : cn) (r : Int) (h : EH J ab = some r) : aR aJ 181 [.slice (J.map eG), .fn 221 [.ref (dx ab)]] (.int .i64 r) [] := by
 refine aR.bY (fx := [0, 1]) bZ [.tmp 4] [(0, .slice (J.map eG)), (1, .fn 221 [.ref (dx ab)])] Tryz.func181 rfl rfl ae7 (Nat.le_of_ble_eq_true rfl) rfl rfl (fun bV an bS => ?_)
 refine ws _ ?_
 refine aN (fun ek bR bj ao => ?_)
 refine ws _ ?_
 refine bK (fun dQ eL b9 ba bl => ?_)
 have fo : ∀ (n : Nat) (c5 : Int), uw J ab n c5 = some r → dG aJ K5 dQ (aa [(0, .slice (J.map eG)), (1, .fn 221 [.ref (dx ab)]), (7, .int .i64 (J.length : Int)), (8, .int .i64 c5)]) := by
  intro ch
  induction ch with
  | zero => intro c5 h; cases (show none = some r from h)
  | succ ch fa =>
   intro c5 h
   replace h : AA (uw J ab ch) J ab c5 = some r := h
   refine dW (fun g6 dR dJ br => ?_)
   refine ws _ ?_
   refine aN (fun hp dZ eW dm => ?_)
   rcases aT h with ⟨a6, h⟩ | ⟨a6, h⟩
   ·refine aX (congrArg I.bool a6) ?_
    simp only [a6, Bool.not_true, Bool.not_false]
    refine a5 (dZ _ (.inl ?_))
    refine aN (fun ey cQ cg dB => ?_)
    refine bK (fun e1 cd cA b2 c4 => ?_)
    refine ws _ ?_
    obtain ⟨ag, eC, h⟩ := aO h
    obtain ⟨ao, e5, h⟩ := aO h
    refine iB eC (aq2 ag ab _ e5) _ ?_
    rcases aT h with ⟨cB, h⟩ | ⟨cB, h⟩
    ·refine aX (congrArg I.bool cB) ?_
     simp only [cB, Bool.not_true, Bool.not_false]
     refine ws _ ?_
     exact aK (cA _ (cg _ (dJ _ (b9 _ (bj _ (an _ (.inl (aL [.int .i64 c5] rfl (by cases aH h; rfl) (by decide) aM))))))))
    ·refine a0 (congrArg I.bool cB) ?_
     simp only [cB, Bool.not_true, Bool.not_false]
     refine a5 (cd _ (cQ _ (.inl ?_)))
     refine wr _ ?_
     exact dR _ (.inr ⟨_, bx rfl, fa (IntKind.i64.wrap (c5 + 1)) h⟩)
   ·refine a0 (congrArg I.bool a6) ?_
    simp only [a6, Bool.not_true, Bool.not_false]
    refine dU (dm 0 _ (br 0 _ (ba _ (bR _ (.inl ?_)))))
    refine ws _ ?_
    exact aK (an _ (.inl (aL [.int .i64 (-1)] rfl (by cases aH h; rfl) (by decide) aM)))
 obtain ⟨n, h⟩ := dM h
 exact dV (.inr ⟨_, bx rfl, fo n 0 h⟩)
theorem aq4 (J : List (List bP)) (ab : cn) (r : Bool) (h : AB J ab = some r) : aR aJ 150 [.slice (J.map eG), .fn 221 [.ref (dx ab)]] (.bool r) [] := by
 refine aR.bY (fx := [0, 1]) bZ [.tmp 4] [(0, .slice (J.map eG)), (1, .fn 221 [.ref (dx ab)])] Tryz.func150 rfl rfl ae_ (Nat.le_of_ble_eq_true rfl) rfl rfl (fun bV an bS => ?_)
 refine ws _ ?_
 obtain ⟨ag, a2, h⟩ := aO h
 refine dK (aq3 J ab _ a2) _ ?_
 exact aK (an _ (.inl (aL [.bool (decide (0 ≤ ag))] rfl (by cases aH h; rfl) (by decide) aM)))
set_option maxHeartbeats 800000 in
theorem aq5 (J : bz) (ab : List bb) (bk : cn) (r : Int) (h : w2 J ab bk = some r) : aR aJ 206 [cb J, .slice (ab.map bp), dx bk] (.int .i64 r) [] := by
 refine aR.bY (fx := [0, 1, 2]) bZ [.tmp 6] [(0, cb J), (1, .slice (ab.map bp)), (2, dx bk)] Tryz.func206 rfl rfl afv (Nat.le_of_ble_eq_true rfl) rfl rfl (fun bV an bS => ?_)
 refine ws _ ?_
 refine aN (fun ek bR bj ao => ?_)
 refine bK (fun kk gK dO lz aZ => ?_)
 obtain ⟨ag, c9, h⟩ := aO h
 refine dK (aqR J _ c9) _ ?_
 rcases aT h with ⟨cL, h⟩ | ⟨cL, h⟩
 ·refine aX (congrArg I.bool cL) ?_
  simp only [(c8 cL), Bool.not_true, Bool.not_false]
  refine ws _ ?_
  exact aK (dO _ (bj _ (an _ (.inl (aL [.int .i64 2] rfl (by cases aH h; rfl) (by decide) aM)))))
 ·refine a0 (congrArg I.bool cL) ?_
  simp only [(bq cL), Bool.not_true, Bool.not_false]
  have uL : ∀ (w1 : Bool), wZ J ab bk w1 = some r → db aJ K7 kk (aa [(1, .slice (ab.map bp)), (3, .a8 (cb J)), (5, .a8 (dx bk)), (11, .bool w1)]) := by
   intro w1 h
   rcases aT h with ⟨a6, h⟩ | ⟨a6, h⟩
   ·refine aX (congrArg I.bool a6) ?_
    simp only [a6, Bool.not_true, Bool.not_false]
    refine ws _ ?_
    exact aK (dO _ (bj _ (an _ (.inl (aL [.int .i64 3] rfl (by cases aH h; rfl) (by decide) aM)))))
   ·refine a0 (congrArg I.bool a6) ?_
    simp only [a6, Bool.not_true, Bool.not_false]
    have xW : ∀ (wY : Bool), r5 J ab bk wY = some r → db aJ K6 kk (aa [(1, .slice (ab.map bp)), (3, .a8 (cb J)), (5, .a8 (dx bk)), (26, .bool wY)]) := by
     intro wY h
     rcases aT h with ⟨b2, h⟩ | ⟨b2, h⟩
     ·refine aX (congrArg I.bool b2) ?_
      simp only [b2, Bool.not_true, Bool.not_false]
      refine ws _ ?_
      exact aK (dO _ (bj _ (an _ (.inl (aL [.int .i64 4] rfl (by cases aH h; rfl) (by decide) aM)))))
     ·refine a0 (congrArg I.bool b2) ?_
      simp only [b2, Bool.not_true, Bool.not_false]
      obtain ⟨ao, eC, h⟩ := aO h
      refine dK (aqS J ab _ eC) _ ?_
      rcases aT h with ⟨ef, h⟩ | ⟨ef, h⟩
      ·refine aX (congrArg I.bool ef) ?_
       simp only [(c8 ef), Bool.not_true, Bool.not_false]
       refine ws _ ?_
       exact aK (dO _ (bj _ (an _ (.inl (aL [.int .i64 5] rfl (by cases aH h; rfl) (by decide) aM)))))
      ·refine a0 (congrArg I.bool ef) ?_
       simp only [(bq ef), Bool.not_true, Bool.not_false]
       refine cT (b1 [(3, .a8 (cb J)), (5, .a8 (dx bk)), (54, .bool ((J.Kind == 5) && (!bk.behind)))] (fun P ak => ?_) ?_)
       ·rcases Bool.eq_false_or_eq_true (J.Kind == 5) with xX | xX
        ·simp only [aY.down, simprocAttr, BG.down, xX]
         (try simp only [bn.down, simprocAttr, xC.down, xX] at ak ⊢); exact ak
        ·simp only [aY.down, simprocAttr, BG.down, xX]
         (try simp only [bn.down, simprocAttr, xC.down, xX] at ak ⊢); exact ak
       rcases aT h with ⟨ee, h⟩ | ⟨ee, h⟩
       ·refine aX (congrArg I.bool ee) ?_
        simp only [ee, Bool.not_true, Bool.not_false]
        refine ws _ ?_
        exact aK (dO _ (bj _ (an _ (.inl (aL [.int .i64 6] rfl (by cases aH h; rfl) (by decide) aM)))))
       ·refine a0 (congrArg I.bool ee) ?_
        simp only [ee, Bool.not_true, Bool.not_false]
        refine cT (b1 [(3, .a8 (cb J)), (5, .a8 (dx bk)), (63, .bool ((J.Kind == 4) && (decide (6 ≤ bk.scope))))] (fun P ak => ?_) ?_)
        ·rcases Bool.eq_false_or_eq_true (J.Kind == 4) with sm | sm
         ·simp only [aY.down, simprocAttr, BG.down, sm]
          (try simp only [bn.down, simprocAttr, xC.down, sm] at ak ⊢); exact ak
         ·simp only [aY.down, simprocAttr, BG.down, sm]
          (try simp only [bn.down, simprocAttr, xC.down, sm] at ak ⊢); exact ak
        rcases aT h with ⟨i3, h⟩ | ⟨i3, h⟩
        ·refine aX (congrArg I.bool i3) ?_
         simp only [i3, Bool.not_true, Bool.not_false]
         refine ws _ ?_
         exact aK (dO _ (bj _ (an _ (.inl (aL [.int .i64 7] rfl (by cases aH h; rfl) (by decide) aM)))))
        ·refine a0 (congrArg I.bool i3) ?_
         simp only [i3, Bool.not_true, Bool.not_false]
         obtain ⟨aZ, kF, h⟩ := aO h
         refine cT (b1 [(72, .bool aZ)] (fun P ak => ?_) ?_)
         ·simp only [aY.down, simprocAttr, E8.down]
          refine ft (aq4 J.cq bk _ kF) rfl rfl (by simp only [aY.down, simprocAttr, E8.down, hj, hk, hn, dn] <;> rfl) rfl (.inr (by rfl)) ?_
          simp only [aY.down, simprocAttr, E8.down]
          (try simp only [bn.down, simprocAttr, xC.down] at ak ⊢); exact ak
         rcases aT h with ⟨e_, h⟩ | ⟨e_, h⟩
         ·refine aX (congrArg I.bool e_) ?_
          simp only [e_, Bool.not_true, Bool.not_false]
          refine ws _ ?_
          exact aK (dO _ (bj _ (an _ (.inl (aL [.int .i64 8] rfl (by cases aH h; rfl) (by decide) aM)))))
         ·refine a0 (congrArg I.bool e_) ?_
          simp only [e_, Bool.not_true, Bool.not_false]
          refine a5 (gK _ (bR _ (.inl ?_)))
          refine ws _ ?_
          exact aK (an _ (.inl (aL [.int .i64 0] rfl (by cases aH h; rfl) (by decide) aM)))
    rcases aT h with ⟨hb, h⟩ | ⟨hb, h⟩
    ·obtain ⟨bl, xY, h⟩ := aO h
     rcases aT h with ⟨nw, h⟩ | ⟨nw, h⟩
     ·refine kf (b1 (K := eE _) [(1, .slice (ab.map bp)), (3, .a8 (cb J)), (5, .a8 (dx bk)), (26, .bool true)] (fun P ak => ?_) ?_)
      ·simp only [aY.down, simprocAttr, oZ.down, hb, (c8 nw)]
       refine hy (jL J.Number 1 7 _ xY) rfl rfl rfl rfl (.inl (by rfl)) ?_
       simp only [aY.down, simprocAttr, oZ.down, hb, (c8 nw)]
       (try simp only [bn.down, simprocAttr, mM.down, hb, (c8 nw)] at ak ⊢); exact ak
      exact .inr ⟨_, bx rfl, xW true h⟩
     ·rcases aT h with ⟨fX, h⟩ | ⟨fX, h⟩
      ·obtain ⟨br, oa, h⟩ := aO h
       refine kf (b1 (K := eE _) [(1, .slice (ab.map bp)), (3, .a8 (cb J)), (5, .a8 (dx bk)), (26, .bool (!br))] (fun P ak => ?_) ?_)
       ·simp only [aY.down, simprocAttr, oZ.down, hb, (bq nw), fX]
        refine hy (jL J.Number 1 7 _ xY) rfl rfl rfl rfl (.inl (by rfl)) ?_
        simp only [aY.down, simprocAttr, oZ.down, hb, (bq nw), fX]
        refine hy (xU J.Number (ab.length : Int) _ oa) rfl rfl rfl rfl (.inl (by rfl)) ?_
        simp only [aY.down, simprocAttr, oZ.down, hb, (bq nw), fX]
        (try simp only [bn.down, simprocAttr, mM.down, hb, (bq nw), fX] at ak ⊢); exact ak
       exact .inr ⟨_, bx rfl, xW (!br) h⟩
      ·refine kf (b1 (K := eE _) [(1, .slice (ab.map bp)), (3, .a8 (cb J)), (5, .a8 (dx bk)), (26, .bool false)] (fun P ak => ?_) ?_)
       ·simp only [aY.down, simprocAttr, oZ.down, hb, (bq nw), fX]
        refine hy (jL J.Number 1 7 _ xY) rfl rfl rfl rfl (.inl (by rfl)) ?_
        simp only [aY.down, simprocAttr, oZ.down, hb, (bq nw), fX]
        (try simp only [bn.down, simprocAttr, mM.down, hb, (bq nw), fX] at ak ⊢); exact ak
       exact .inr ⟨_, bx rfl, xW false h⟩
    ·rcases aT h with ⟨mO, h⟩ | ⟨mO, h⟩
     ·obtain ⟨b4, aq6, h⟩ := aO h
      refine kf (b1 (K := eE _) [(1, .slice (ab.map bp)), (3, .a8 (cb J)), (5, .a8 (dx bk)), (26, .bool (!b4))] (fun P ak => ?_) ?_)
      ·simp only [aY.down, simprocAttr, oZ.down, hb, mO]
       refine hy (xU J.Number (ab.length : Int) _ aq6) rfl rfl rfl rfl (.inl (by rfl)) ?_
       simp only [aY.down, simprocAttr, oZ.down, hb, mO]
       (try simp only [bn.down, simprocAttr, mM.down, hb, mO] at ak ⊢); exact ak
      exact .inr ⟨_, bx rfl, xW (!b4) h⟩
     ·refine kf (b1 (K := eE _) [(1, .slice (ab.map bp)), (3, .a8 (cb J)), (5, .a8 (dx bk)), (26, .bool false)] (fun P ak => ?_) ?_)
      ·simp only [aY.down, simprocAttr, oZ.down, hb, mO]
       (try simp only [bn.down, simprocAttr, mM.down, hb, mO] at ak ⊢); exact ak
      exact .inr ⟨_, bx rfl, xW false h⟩
  rcases aT h with ⟨o1, h⟩ | ⟨o1, h⟩
  ·rcases aT h with ⟨nv, h⟩ | ⟨nv, h⟩
   ·obtain ⟨dm, aq7, h⟩ := aO h
    refine kf (b1 (K := eE _) [(1, .slice (ab.map bp)), (3, .a8 (cb J)), (5, .a8 (dx bk)), (11, .bool (!dm))] (fun P ak => ?_) ?_)
    ·simp only [aY.down, simprocAttr, BH.down, o1, nv]
     refine hy (ko J.Name _ aq7) rfl rfl rfl rfl (.inl (by rfl)) ?_
     simp only [aY.down, simprocAttr, BH.down, o1, nv]
     (try simp only [bn.down, simprocAttr, mM.down, o1, nv] at ak ⊢); exact ak
    exact .inr ⟨_, bx rfl, uL (!dm) h⟩
   ·refine kf (b1 (K := eE _) [(1, .slice (ab.map bp)), (3, .a8 (cb J)), (5, .a8 (dx bk)), (11, .bool false)] (fun P ak => ?_) ?_)
    ·simp only [aY.down, simprocAttr, BH.down, o1, nv]
     (try simp only [bn.down, simprocAttr, mM.down, o1, nv] at ak ⊢); exact ak
    exact .inr ⟨_, bx rfl, uL false h⟩
  ·refine kf (b1 (K := eE _) [(1, .slice (ab.map bp)), (3, .a8 (cb J)), (5, .a8 (dx bk)), (11, .bool false)] (fun P ak => ?_) ?_)
   ·simp only [aY.down, simprocAttr, BH.down, o1]
    (try simp only [bn.down, simprocAttr, mM.down, o1] at ak ⊢); exact ak
   exact .inr ⟨_, bx rfl, uL false h⟩
set_option maxHeartbeats 1400000 in
theorem aq8 (J : List bb) (ab : bb) (r : Int × Int) (h : w4 J ab = some r) : aR aJ 168 [.slice (J.map bp), bp ab] (.tuple [.int .i64 r.1, .int .i64 r.2]) [] := by
 refine aR.bY (fx := [0, 1]) bZ [.tmp 4, .tmp 5] [(0, .slice (J.map bp)), (1, bp ab)] Tryz.func168 rfl rfl afL (Nat.le_of_ble_eq_true rfl) rfl rfl (fun bV an bS => ?_)
 refine ws _ ?_
 refine aN (fun ek bR bj ao => ?_)
 obtain ⟨ag, c1, h⟩ := aO h
 rcases aT h with ⟨bI, h⟩ | ⟨bI, h⟩
 ·refine hi rfl (gY [(0, .slice (J.map bp)), (3, .a8 (bp ab)), (22, .bool true)] (fun P ak => ?_) ?_)
  ·simp only [dp.down, simprocAttr, oY.down, (c8 bI)]
   refine iw (jL (ab.Body.length : Int) 1 20 _ c1) rfl rfl rfl rfl (.inl (by rfl)) ?_
   simp only [dp.down, simprocAttr, oY.down, (c8 bI)]
   refine ⟨gJ (by kernel_rfl), ?_⟩
   (try simp only [bn.down, simprocAttr, hS.down, (c8 bI)] at ak ⊢); exact ak
  refine aX rfl ?_
  refine ws _ ?_
  exact aK (bj _ (an _ (.inl (aL [.int .i64 0, .int .i64 1] rfl (by cases aH h; rfl) (by decide) aM))))
 ·obtain ⟨ao, cf, h⟩ := aO h
  refine hi rfl (gY [(0, .slice (J.map bp)), (3, .a8 (bp ab)), (22, .bool (ao != (ab.Body.length : Int)))] (fun P ak => ?_) ?_)
  ·simp only [dp.down, simprocAttr, oY.down, (bq bI)]
   refine iw (jL (ab.Body.length : Int) 1 20 _ c1) rfl rfl rfl rfl (.inl (by rfl)) ?_
   simp only [dp.down, simprocAttr, oY.down, (bq bI)]
   refine l1 (aqJ ab 0 _ cf) rfl rfl rfl rfl (.inl (by rfl)) ?_
   simp only [dp.down, simprocAttr, oY.down, (bq bI)]
   refine ⟨gJ (by kernel_rfl), ?_⟩
   (try simp only [bn.down, simprocAttr, hS.down, (bq bI)] at ak ⊢); exact ak
  rcases aT h with ⟨a6, h⟩ | ⟨a6, h⟩
  ·refine aX (congrArg I.bool a6) ?_
   simp only [a6, Bool.not_true, Bool.not_false]
   refine ws _ ?_
   exact aK (bj _ (an _ (.inl (aL [.int .i64 0, .int .i64 1] rfl (by cases aH h; rfl) (by decide) aM))))
  ·refine a0 (congrArg I.bool a6) ?_
   simp only [a6, Bool.not_true, Bool.not_false]
   refine a5 (bR _ (.inl ?_))
   obtain ⟨aZ, nE, h⟩ := aO h
   refine dK (aqQ ab _ nE) _ ?_
   refine aN (fun j3 g4 iE i1 => ?_)
   refine ws _ ?_
   refine bK (fun iD fy eJ ef ho => ?_)
   have kl : ∀ (n : Nat) (kZ : Int), qx J ab aZ n kZ = some r → dG aJ K8 iD (aa [(0, .slice (J.map bp)), (6, .aw 2 (aZ.map dx)), (26, .slice (ab.Body.map cb)), (27, .int .i64 (ab.Body.length : Int)), (28, .int .i64 kZ)]) := by
    intro gx
    induction gx with
    | zero => intro kZ h; cases (show none = some r from h)
    | succ gx km =>
     intro kZ h
     replace h : w3 (qx J ab aZ gx) J ab aZ kZ = some r := h
     refine dW (fun mc hT hz je => ?_)
     refine ws _ ?_
     refine aN (fun n7 jJ i2 nu => ?_)
     rcases aT h with ⟨ee, h⟩ | ⟨ee, h⟩
     ·refine aX (congrArg I.bool ee) ?_
      simp only [ee, Bool.not_true, Bool.not_false]
      refine a5 (jJ _ (.inl ?_))
      refine aN (fun LG uK BN Ff => ?_)
      refine bK (fun aps BO Fg cZ apt => ?_)
      obtain ⟨bl, hC, h⟩ := aO h
      refine hR hC _ ?_
      obtain ⟨br, jr, h⟩ := aO h
      obtain ⟨b4, kF, h⟩ := aO h
      refine hi rfl (gY [(0, .slice (J.map bp)), (6, .aw 2 (aZ.map dx)), (7, .int .i64 kZ), (9, .int .i64 b4), (26, .slice (ab.Body.map cb)), (27, .int .i64 (ab.Body.length : Int)), (28, .int .i64 kZ)] (fun P ak => ?_) ?_)
      ·simp only [dp.down, simprocAttr, eb, qm, eX, g0, ig, we, qp, gw, gg, bp, cb, bQ, dx, eG, jr, c6 jr]
       refine iw (aq5 bl J br _ kF) rfl rfl rfl rfl (.inl (by rfl)) ?_
       simp only [dp.down, simprocAttr, eb, qm, eX, g0, ig, we, qp, gw, gg, bp, cb, bQ, dx, eG, jr, c6 jr]
       refine ⟨gJ (by kernel_rfl), ?_⟩
       (try simp only [bn.down, simprocAttr, mM.down, jr, c6 jr] at ak ⊢); exact ak
      refine ws _ ?_
      rcases aT h with ⟨jg, h⟩ | ⟨jg, h⟩
      ·refine aX (congrArg I.bool jg) ?_
       simp only [jg, Bool.not_true, Bool.not_false]
       refine ws _ ?_
       exact aK (Fg _ (BN _ (hz _ (eJ _ (iE _ (an _ (.inl (aL [.int .i64 kZ, .int .i64 b4] rfl (by cases aH h; rfl) (by decide) aM))))))))
      ·refine a0 (congrArg I.bool jg) ?_
       simp only [jg, Bool.not_true, Bool.not_false]
       refine a5 (BO _ (uK _ (.inl ?_)))
       refine wr _ ?_
       exact hT _ (.inr ⟨_, bx rfl, km (IntKind.i64.wrap (kZ + 1)) h⟩)
     ·refine a0 (congrArg I.bool ee) ?_
      simp only [ee, Bool.not_true, Bool.not_false]
      refine dU (nu 0 _ (je 0 _ (ef _ (g4 _ (.inl ?_)))))
      refine ws _ ?_
      exact aK (an _ (.inl (aL [.int .i64 0, .int .i64 0] rfl (by cases aH h; rfl) (by decide) aM)))
   obtain ⟨n, h⟩ := dM h
   exact dV (.inr ⟨_, bx rfl, kl n 0 h⟩)
set_option maxHeartbeats 1200000 in
theorem aq9 (J : List bb) (r : Bool) (h : AE J = some r) : aR aJ 127 [.slice (J.map bp)] (.bool r) [] := by
 refine aR.bY (fx := [0]) bZ [.tmp 2] [(0, .slice (J.map bp))] Tryz.func127 rfl rfl af3 (Nat.le_of_ble_eq_true rfl) rfl rfl (fun bV an bS => ?_)
 refine ws _ ?_
 refine aN (fun ek bR bj ao => ?_)
 obtain ⟨ag, c1, h⟩ := aO h
 rcases aT h with ⟨bI, h⟩ | ⟨bI, h⟩
 ·refine iB (c8 bI) (jL (J.length : Int) 1 4 _ c1) _ ?_
  refine aX rfl ?_
  refine ws _ ?_
  exact aK (bj _ (an _ (.inl (aL [.bool false] rfl (by cases aH h; rfl) (by decide) aM))))
 ·obtain ⟨ao, cf, h⟩ := aO h
  refine cT (b1 [(0, .slice (J.map bp)), (15, .bool (!ao))] (fun P ak => ?_) ?_)
  ·simp only [aY.down, simprocAttr, iC.down, (bq bI)]
   refine ft (jL (J.length : Int) 1 4 _ c1) rfl rfl rfl rfl (.inl (by rfl)) ?_
   simp only [aY.down, simprocAttr, iC.down, (bq bI)]
   refine hy (aqE J _ cf) rfl rfl rfl rfl (.inl (by rfl)) ?_
   simp only [aY.down, simprocAttr, iC.down, (bq bI)]
   (try simp only [bn.down, simprocAttr, hS.down, (bq bI)] at ak ⊢); exact ak
  rcases aT h with ⟨a6, h⟩ | ⟨a6, h⟩
  ·refine aX (congrArg I.bool a6) ?_
   simp only [(c8 a6), Bool.not_true, Bool.not_false]
   refine ws _ ?_
   exact aK (bj _ (an _ (.inl (aL [.bool false] rfl (by cases aH h; rfl) (by decide) aM))))
  ·refine a0 (congrArg I.bool a6) ?_
   simp only [(bq a6), Bool.not_true, Bool.not_false]
   refine a5 (bR _ (.inl ?_))
   refine aN (fun e1 cd cA c4 => ?_)
   refine ws _ ?_
   refine bK (fun j3 g4 iE cI i1 => ?_)
   have hs : ∀ (n : Nat) (lK : Int), r6 J n lK = some r → dG aJ K9 j3 (aa [(0, .slice (J.map bp)), (16, .slice (J.map bp)), (17, .int .i64 (J.length : Int)), (18, .int .i64 lK)]) := by
    intro dy
    induction dy with
    | zero => intro lK h; cases (show none = some r from h)
    | succ dy g5 =>
     intro lK h
     replace h : AD (r6 J dy) J lK = some r := h
     refine dW (fun lj g3 gi jd => ?_)
     refine ws _ ?_
     refine aN (fun mc hT hz je => ?_)
     rcases aT h with ⟨ij, h⟩ | ⟨ij, h⟩
     ·refine aX (congrArg I.bool ij) ?_
      simp only [ij, Bool.not_true, Bool.not_false]
      refine a5 (hT _ (.inl ?_))
      refine aN (fun n7 jJ i2 nu => ?_)
      refine bK (fun FA sB qE ee FB => ?_)
      obtain ⟨aZ, jK, h⟩ := aO h
      refine hR jK _ ?_
      refine aN (fun aqW FG xV aqX => ?_)
      obtain ⟨bl, n5, h⟩ := aO h
      rcases aT h with ⟨hr, h⟩ | ⟨hr, h⟩
      ·refine hi rfl (gY [(0, .slice (J.map bp)), (4, .a8 (bp aZ)), (16, .slice (J.map bp)), (17, .int .i64 (J.length : Int)), (18, .int .i64 lK), (35, .bool true)] (fun P ak => ?_) ?_)
       ·simp only [dp.down, simprocAttr, iC.down, (c8 hr)]
        refine iw (BR aZ.Name _ n5) rfl rfl rfl rfl (.inl (by rfl)) ?_
        simp only [dp.down, simprocAttr, iC.down, (c8 hr)]
        refine ⟨gJ (by kernel_rfl), ?_⟩
        (try simp only [bn.down, simprocAttr, hS.down, (c8 hr)] at ak ⊢); exact ak
       refine aX rfl ?_
       refine ws _ ?_
       exact aK (xV _ (qE _ (i2 _ (gi _ (iE _ (cA _ (an _ (.inl (aL [.bool false] rfl (by cases aH h; rfl) (by decide) aM)))))))))
      ·obtain ⟨br, BV, h⟩ := aO h
       obtain ⟨b4, xE, h⟩ := aO h
       refine hi rfl (gY [(0, .slice (J.map bp)), (4, .a8 (bp aZ)), (16, .slice (J.map bp)), (17, .int .i64 (J.length : Int)), (18, .int .i64 lK), (35, .bool (decide (0 ≤ b4)))] (fun P ak => ?_) ?_)
       ·simp only [dp.down, simprocAttr, iC.down, (bq hr), BV, @k_ _ bp 3 (fun _ => rfl)]
        refine iw (BR aZ.Name _ n5) rfl rfl rfl rfl (.inl (by rfl)) ?_
        simp only [dp.down, simprocAttr, iC.down, (bq hr), BV, @k_ _ bp 3 (fun _ => rfl)]
        refine l1 (aqI br aZ.Name _ xE) rfl rfl rfl rfl (.inl (by rfl)) ?_
        simp only [dp.down, simprocAttr, iC.down, (bq hr), BV, @k_ _ bp 3 (fun _ => rfl)]
        refine ⟨gJ (by kernel_rfl), ?_⟩
        (try simp only [bn.down, simprocAttr, hS.down, (bq hr), BV, @k_ _ bp 3 (fun _ => rfl)] at ak ⊢); exact ak
       rcases aT h with ⟨oc, h⟩ | ⟨oc, h⟩
       ·refine aX (congrArg I.bool oc) ?_
        simp only [oc, Bool.not_true, Bool.not_false]
        refine ws _ ?_
        exact aK (xV _ (qE _ (i2 _ (gi _ (iE _ (cA _ (an _ (.inl (aL [.bool false] rfl (by cases aH h; rfl) (by decide) aM)))))))))
       ·refine a0 (congrArg I.bool oc) ?_
        simp only [oc, Bool.not_true, Bool.not_false]
        refine a5 (FG _ (.inl ?_))
        obtain ⟨dm, xY, h⟩ := aO h
        refine dK (aq8 J aZ _ xY) _ ?_
        refine ws _ ?_
        rcases aT h with ⟨fX, h⟩ | ⟨fX, h⟩
        ·refine aX (congrArg I.bool fX) ?_
         simp only [fX, Bool.not_true, Bool.not_false]
         refine ws _ ?_
         exact aK (qE _ (i2 _ (gi _ (iE _ (cA _ (an _ (.inl (aL [.bool false] rfl (by cases aH h; rfl) (by decide) aM))))))))
        ·refine a0 (congrArg I.bool fX) ?_
         simp only [fX, Bool.not_true, Bool.not_false]
         refine a5 (sB _ (jJ _ (.inl ?_)))
         refine wr _ ?_
         exact g3 _ (.inr ⟨_, bx rfl, g5 (IntKind.i64.wrap (lK + 1)) h⟩)
     ·refine a0 (congrArg I.bool ij) ?_
      simp only [ij, Bool.not_true, Bool.not_false]
      refine dU (je 0 _ (jd 0 _ (cI _ (cd _ (.inl ?_)))))
      refine ws _ ?_
      exact aK (an _ (.inl (aL [.bool true] rfl (by cases aH h; rfl) (by decide) aM)))
   obtain ⟨n, h⟩ := dM h
   exact dV (.inr ⟨_, bx rfl, hs n 0 h⟩)
theorem aq_ (J : Int) (r : Bool) (h : EI J = some r) : aR aJ 179 [.int .i64 J] (.bool r) [] := by
 refine aR.bY (fx := [0]) bZ [.tmp 2] [(0, .int .i64 J)] Tryz.func179 rfl rfl af6 (Nat.le_of_ble_eq_true rfl) rfl rfl (fun bV an bS => ?_)
 refine ws _ ?_
 obtain ⟨ag, a2, h⟩ := aO h
 refine dK (LW J _ a2) _ ?_
 exact aK (an _ (.inl (aL [.bool (!ag)] rfl (by cases aH h; rfl) (by decide) aM)))
theorem ara (J : List Int) (r : Int) (h : EJ J = some r) : aR aJ 209 [.slice (J.map bA), .fn 179 []] (.int .i64 r) [] := by
 refine aR.bY (fx := [0, 1]) bZ [.tmp 4] [(0, .slice (J.map bA)), (1, .fn 179 [])] Tryz.func209 rfl rfl agh (Nat.le_of_ble_eq_true rfl) rfl rfl (fun bV an bS => ?_)
 refine ws _ ?_
 refine aN (fun ek bR bj ao => ?_)
 refine ws _ ?_
 refine bK (fun dQ eL b9 ba bl => ?_)
 have fo : ∀ (n : Nat) (c5 : Int), ux J n c5 = some r → dG aJ K_ dQ (aa [(0, .slice (J.map bA)), (1, .fn 179 []), (7, .int .i64 (J.length : Int)), (8, .int .i64 c5)]) := by
  intro ch
  induction ch with
  | zero => intro c5 h; cases (show none = some r from h)
  | succ ch fa =>
   intro c5 h
   replace h : AF (ux J ch) J c5 = some r := h
   refine dW (fun g6 dR dJ br => ?_)
   refine ws _ ?_
   refine aN (fun hp dZ eW dm => ?_)
   rcases aT h with ⟨a6, h⟩ | ⟨a6, h⟩
   ·refine aX (congrArg I.bool a6) ?_
    simp only [a6, Bool.not_true, Bool.not_false]
    refine a5 (dZ _ (.inl ?_))
    refine aN (fun ey cQ cg dB => ?_)
    refine bK (fun e1 cd cA b2 c4 => ?_)
    refine ws _ ?_
    obtain ⟨ag, eC, h⟩ := aO h
    obtain ⟨ao, e5, h⟩ := aO h
    refine iB eC (aq_ ag _ e5) _ ?_
    rcases aT h with ⟨cB, h⟩ | ⟨cB, h⟩
    ·refine aX (congrArg I.bool cB) ?_
     simp only [cB, Bool.not_true, Bool.not_false]
     refine ws _ ?_
     exact aK (cA _ (cg _ (dJ _ (b9 _ (bj _ (an _ (.inl (aL [.int .i64 c5] rfl (by cases aH h; rfl) (by decide) aM))))))))
    ·refine a0 (congrArg I.bool cB) ?_
     simp only [cB, Bool.not_true, Bool.not_false]
     refine a5 (cd _ (cQ _ (.inl ?_)))
     refine wr _ ?_
     exact dR _ (.inr ⟨_, bx rfl, fa (IntKind.i64.wrap (c5 + 1)) h⟩)
   ·refine a0 (congrArg I.bool a6) ?_
    simp only [a6, Bool.not_true, Bool.not_false]
    refine dU (dm 0 _ (br 0 _ (ba _ (bR _ (.inl ?_)))))
    refine ws _ ?_
    exact aK (an _ (.inl (aL [.int .i64 (-1)] rfl (by cases aH h; rfl) (by decide) aM)))
 obtain ⟨n, h⟩ := dM h
 exact dV (.inr ⟨_, bx rfl, fo n 0 h⟩)
theorem arb (J : List Int) (r : Bool) (h : EK J = some r) : aR aJ 178 [.slice (J.map bA), .fn 179 []] (.bool r) [] := by
 refine aR.bY (fx := [0, 1]) bZ [.tmp 4] [(0, .slice (J.map bA)), (1, .fn 179 [])] Tryz.func178 rfl rfl agk (Nat.le_of_ble_eq_true rfl) rfl rfl (fun bV an bS => ?_)
 refine ws _ ?_
 obtain ⟨ag, a2, h⟩ := aO h
 refine dK (ara J _ a2) _ ?_
 exact aK (an _ (.inl (aL [.bool (decide (0 ≤ ag))] rfl (by cases aH h; rfl) (by decide) aM)))
theorem arc (J : List Int) (r : Bool) (h : AG J = some r) : aR aJ 146 [.slice (J.map bA)] (.bool r) [] := by
 refine aR.bY (fx := [0]) bZ [.tmp 2] [(0, .slice (J.map bA))] Tryz.func146 rfl rfl agn (Nat.le_of_ble_eq_true rfl) rfl rfl (fun bV an bS => ?_)
 refine ws _ ?_
 obtain ⟨ag, a2, h⟩ := aO h
 refine dK (arb J _ a2) _ ?_
 exact aK (an _ (.inl (aL [.bool (!ag)] rfl (by cases aH h; rfl) (by decide) aM)))
set_option maxHeartbeats 1200000 in
theorem ard (J : List bb) (ab : cX) (r : Bool) (h : AH J ab = some r) : aR aJ 130 [.slice (J.map bp), ep ab] (.bool r) [] := by
 refine aR.bY (fx := [0, 1]) bZ [.tmp 4] [(0, .slice (J.map bp)), (1, ep ab)] Tryz.func130 rfl rfl agq (Nat.le_of_ble_eq_true rfl) rfl rfl (fun bV an bS => ?_)
 refine ws _ ?_
 obtain ⟨ag, a2, h⟩ := aO h
 rcases aT h with ⟨ba, h⟩ | ⟨ba, h⟩
 ·obtain ⟨ao, c9, h⟩ := aO h
  rcases aT h with ⟨cL, h⟩ | ⟨cL, h⟩
  ·obtain ⟨aZ, cf, h⟩ := aO h
   refine hi rfl (gY [(4, .bool aZ)] (fun P ak => ?_) ?_)
   ·simp only [dp.down, simprocAttr, sr.down, ba, c9, cL]
    refine iw (xU ab.eo (J.length : Int) _ a2) rfl rfl rfl rfl (.inl (by rfl)) ?_
    simp only [dp.down, simprocAttr, sr.down, ba, c9, cL]
    refine l1 (arc ab.c3 _ cf) rfl rfl rfl rfl (.inl (by rfl)) ?_
    simp only [dp.down, simprocAttr, sr.down, ba, c9, cL]
    refine ⟨gJ (by kernel_rfl), ?_⟩
    (try simp only [bn.down, simprocAttr, E9.down, ba, c9, cL] at ak ⊢); exact ak
   exact aK (an _ (.inl (aL [.bool aZ] rfl (by cases aH h; rfl) (by decide) aM)))
  ·refine hi rfl (gY [(4, .bool false)] (fun P ak => ?_) ?_)
   ·simp only [dp.down, simprocAttr, sr.down, ba, c9, cL]
    refine iw (xU ab.eo (J.length : Int) _ a2) rfl rfl rfl rfl (.inl (by rfl)) ?_
    simp only [dp.down, simprocAttr, sr.down, ba, c9, cL]
    refine ⟨gJ (by kernel_rfl), ?_⟩
    (try simp only [bn.down, simprocAttr, E9.down, ba, c9, cL] at ak ⊢); exact ak
   exact aK (an _ (.inl (aL [.bool false] rfl (by cases aH h; rfl) (by decide) aM)))
 ·refine hi rfl (gY [(4, .bool false)] (fun P ak => ?_) ?_)
  ·simp only [dp.down, simprocAttr, sr.down, ba]
   refine iw (xU ab.eo (J.length : Int) _ a2) rfl rfl rfl rfl (.inl (by rfl)) ?_
   simp only [dp.down, simprocAttr, sr.down, ba]
   refine ⟨gJ (by kernel_rfl), ?_⟩
   (try simp only [bn.down, simprocAttr, E9.down, ba] at ak ⊢); exact ak
  exact aK (an _ (.inl (aL [.bool false] rfl (by cases aH h; rfl) (by decide) aM)))
theorem arf (J : cX) (ab : ev) (r : Bool) (h : EL J ab = some r) : aR aJ 129 [ep J, .ref (e0 ab)] (.bool r) [] := by
 refine aR.bY (fx := [0, 1]) bZ [.tmp 3] [(0, ep J), (1, .ref (e0 ab))] Tryz.func129 rfl rfl agt (Nat.le_of_ble_eq_true rfl) rfl rfl (fun bV an bS => ?_)
 refine ws _ ?_
 obtain ⟨ag, a2, h⟩ := aO h
 refine dK (ard ab.e8 J _ a2) _ ?_
 exact aK (an _ (.inl (aL [.bool (!ag)] rfl (by cases aH h; rfl) (by decide) aM)))
theorem arh (J : List cX) (ab : ev) (r : Int) (h : EM J ab = some r) : aR aJ 169 [.slice (J.map ep), .fn 129 [.ref (e0 ab)]] (.int .i64 r) [] := by
 refine aR.bY (fx := [0, 1]) bZ [.tmp 4] [(0, .slice (J.map ep)), (1, .fn 129 [.ref (e0 ab)])] Tryz.func169 rfl rfl agE (Nat.le_of_ble_eq_true rfl) rfl rfl (fun bV an bS => ?_)
 refine ws _ ?_
 refine aN (fun ek bR bj ao => ?_)
 refine ws _ ?_
 refine bK (fun dQ eL b9 ba bl => ?_)
 have fo : ∀ (n : Nat) (c5 : Int), uy J ab n c5 = some r → dG aJ La dQ (aa [(0, .slice (J.map ep)), (1, .fn 129 [.ref (e0 ab)]), (7, .int .i64 (J.length : Int)), (8, .int .i64 c5)]) := by
  intro ch
  induction ch with
  | zero => intro c5 h; cases (show none = some r from h)
  | succ ch fa =>
   intro c5 h
   replace h : AJ (uy J ab ch) J ab c5 = some r := h
   refine dW (fun g6 dR dJ br => ?_)
   refine ws _ ?_
   refine aN (fun hp dZ eW dm => ?_)
   rcases aT h with ⟨a6, h⟩ | ⟨a6, h⟩
   ·refine aX (congrArg I.bool a6) ?_
    simp only [a6, Bool.not_true, Bool.not_false]
    refine a5 (dZ _ (.inl ?_))
    refine aN (fun ey cQ cg dB => ?_)
    refine bK (fun e1 cd cA b2 c4 => ?_)
    refine ws _ ?_
    obtain ⟨ag, eC, h⟩ := aO h
    obtain ⟨ao, e5, h⟩ := aO h
    refine iB eC (arf ag ab _ e5) _ ?_
    rcases aT h with ⟨cB, h⟩ | ⟨cB, h⟩
    ·refine aX (congrArg I.bool cB) ?_
     simp only [cB, Bool.not_true, Bool.not_false]
     refine ws _ ?_
     exact aK (cA _ (cg _ (dJ _ (b9 _ (bj _ (an _ (.inl (aL [.int .i64 c5] rfl (by cases aH h; rfl) (by decide) aM))))))))
    ·refine a0 (congrArg I.bool cB) ?_
     simp only [cB, Bool.not_true, Bool.not_false]
     refine a5 (cd _ (cQ _ (.inl ?_)))
     refine wr _ ?_
     exact dR _ (.inr ⟨_, bx rfl, fa (IntKind.i64.wrap (c5 + 1)) h⟩)
   ·refine a0 (congrArg I.bool a6) ?_
    simp only [a6, Bool.not_true, Bool.not_false]
    refine dU (dm 0 _ (br 0 _ (ba _ (bR _ (.inl ?_)))))
    refine ws _ ?_
    exact aK (an _ (.inl (aL [.int .i64 (-1)] rfl (by cases aH h; rfl) (by decide) aM)))
 obtain ⟨n, h⟩ := dM h
 exact dV (.inr ⟨_, bx rfl, fo n 0 h⟩)
theorem ari (J : List cX) (ab : ev) (r : Bool) (h : AK J ab = some r) : aR aJ 128 [.slice (J.map ep), .fn 129 [.ref (e0 ab)]] (.bool r) [] := by
 refine aR.bY (fx := [0, 1]) bZ [.tmp 4] [(0, .slice (J.map ep)), (1, .fn 129 [.ref (e0 ab)])] Tryz.func128 rfl rfl agH (Nat.le_of_ble_eq_true rfl) rfl rfl (fun bV an bS => ?_)
 refine ws _ ?_
 obtain ⟨ag, a2, h⟩ := aO h
 refine dK (arh J ab _ a2) _ ?_
 exact aK (an _ (.inl (aL [.bool (decide (0 ≤ ag))] rfl (by cases aH h; rfl) (by decide) aM)))
theorem LX (J : List UInt8) (r : Bool) (h : AL J = some r) : aR aJ 225 [.str J] (.bool r) [] := by
 refine aR.bY (fx := [0]) bZ [.tmp 2] [(0, .str J)] Tryz.func225 rfl rfl agK (Nat.le_of_ble_eq_true rfl) rfl rfl (fun bV an bS => ?_)
 refine ws _ ?_
 refine ws _ ?_
 exact aK (an _ (.inl (aL [.bool false] rfl (by cases aH h; rfl) (by decide) aM)))
theorem arj (J : List UInt8) (ab : List UInt8) (r : Int) (h : AM J ab = some r) : aR aJ 222 [.str J, .str ab] (.int .i64 r) [] := by
 refine aR.bY (fx := [0, 1]) bZ [.tmp 4] [(0, .str J), (1, .str ab)] Tryz.func222 rfl rfl ag4 (Nat.le_of_ble_eq_true rfl) rfl rfl (fun bV an bS => ?_)
 refine ws _ ?_
 obtain ⟨ag, a2, h⟩ := aO h
 refine dK (LX J _ a2) _ ?_
 obtain ⟨ao, c9, h⟩ := aO h
 refine dK (LX ab _ c9) _ ?_
 refine aN (fun fc dv dF b4 => ?_)
 refine ws _ ?_
 rcases aT h with ⟨a6, h⟩ | ⟨a6, h⟩
 ·refine aX (congrArg I.bool a6) ?_
  simp only [a6, Bool.not_true, Bool.not_false]
  refine aN (fun ey cQ cg dB => ?_)
  refine ws _ ?_
  rcases aT h with ⟨hq, h⟩ | ⟨hq, h⟩
  ·refine aX (congrArg I.bool hq) ?_
   simp only [hq, Bool.not_true, Bool.not_false]
   refine ws _ ?_
   exact aK (cg _ (dF _ (an _ (.inl (aL [.int .i64 0] rfl (by cases aH h; rfl) (by decide) aM)))))
  ·refine a0 (congrArg I.bool hq) ?_
   simp only [hq, Bool.not_true, Bool.not_false]
   refine a5 (cQ _ (.inl ?_))
   refine ws _ ?_
   exact aK (dF _ (an _ (.inl (aL [.int .i64 (-1)] rfl (by cases aH h; rfl) (by decide) aM))))
 ·refine a0 (congrArg I.bool a6) ?_
  simp only [a6, Bool.not_true, Bool.not_false]
  refine a5 (dv _ (.inl ?_))
  refine aN (fun iD fy eJ ho => ?_)
  refine ws _ ?_
  rcases aT h with ⟨ij, h⟩ | ⟨ij, h⟩
  ·refine aX (congrArg I.bool ij) ?_
   simp only [ij, Bool.not_true, Bool.not_false]
   refine ws _ ?_
   exact aK (eJ _ (an _ (.inl (aL [.int .i64 1] rfl (by cases aH h; rfl) (by decide) aM))))
  ·refine a0 (congrArg I.bool ij) ?_
   simp only [ij, Bool.not_true, Bool.not_false]
   refine a5 (fy _ (.inl ?_))
   refine aN (fun FA sB qE FB => ?_)
   refine ws _ ?_
   rcases aT h with ⟨cZ, h⟩ | ⟨cZ, h⟩
   ·refine aX (congrArg I.bool cZ) ?_
    simp only [cZ, Bool.not_true, Bool.not_false]
    refine ws _ ?_
    exact aK (qE _ (an _ (.inl (aL [.int .i64 (-1)] rfl (by cases aH h; rfl) (by decide) aM))))
   ·refine a0 (congrArg I.bool cZ) ?_
    simp only [cZ, Bool.not_true, Bool.not_false]
    refine a5 (sB _ (.inl ?_))
    refine aN (fun uH mN me uI => ?_)
    refine ws _ ?_
    rcases aT h with ⟨hr, h⟩ | ⟨hr, h⟩
    ·refine aX (congrArg I.bool hr) ?_
     simp only [hr, Bool.not_true, Bool.not_false]
     refine ws _ ?_
     exact aK (me _ (an _ (.inl (aL [.int .i64 1] rfl (by cases aH h; rfl) (by decide) aM))))
    ·refine a0 (congrArg I.bool hr) ?_
     simp only [hr, Bool.not_true, Bool.not_false]
     refine a5 (mN _ (.inl ?_))
     refine ws _ ?_
     exact aK (an _ (.inl (aL [.int .i64 0] rfl (by cases aH h; rfl) (by decide) aM)))
end Go.Proofs.YtbemmmimelklkaaGreat
