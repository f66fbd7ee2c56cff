/- Part of a proof that a law returns true for every input. No condition. -/
import Derived.Test.YtgpmnlkgmadglaaGreatDoorSl
namespace Go.Proofs.YtgpmnlkgmadglaaGreatDoor
open Go Go.c0 Go.eV
set_option maxRecDepth 100000
set_option maxHeartbeats 4600000
set_option linter.unusedSimpArgs false
set_option linter.unusedVariables false
theorem bR (fx : List Nat) (fu : List ResultVar) {f : FuncId} {fn : Func} {c : Code} {dq : J} {ins outs : List I} {r : I} (br : aE.P.funcs[f]? = some fn) (ad : bj ⟨fn.ntmps, fx⟩ c = some dq.strip)
 (DS : ∀ Q : Exit → ao → Prop, (∀ s, el (c0.Ends aE fx fu r outs) s → Q .ret s) → (∀ s, el (c0.Ends aE fx fu r outs) s → Q .normal s) → cW aE dq Q (aa (num 0 ins))) (ab : fn.body = some c := by rfl) (kt : (fn.name == "runtime.NumGoroutine") = false := by rfl) (aY : ins.length ≤ fn.ntmps := by exact Nat.le_of_ble_eq_true rfl) (hk : fn.results.toList = fu := by rfl) (ar : dq.plain = true := by kernel_rfl) : bh aE f ins r outs :=
 bh.EE EF fu (num 0 ins) br ab kt ad aY hk rfl DS ar
def kl := PLift.up (And.intro @dS (And.intro @pb (And.intro @zu (And.intro @ez (And.intro @g_ (And.intro @kj (And.intro @ur (And.intro @zv (And.intro @mj (And.intro @lf (And.intro @uu (And.intro @uv (And.intro @EG (And.intro @zw (And.intro @nw (And.intro @om (And.intro @r7 (And.intro @r8 (And.intro @zx (And.intro @pT (And.intro @uw (And.intro @ju (And.intro @kk (And.intro @lU (And.intro @nx (And.intro @gp (And.intro @gT (And.intro @hQ (And.intro @ux (And.intro @uy (And.intro @mL (And.intro @lV (And.intro @fZ (And.intro @pU (And.intro @pc (And.intro @r9 (And.intro @lW (And.intro @gl.eq_1 (And.intro @bD.eq_1 (And.intro @e7.eq_1 (And.intro @bq.eq_1 (And.intro @bB.eq_1 (And.intro @cc.eq_1 (And.intro @dU.eq_1 (And.intro @e2.eq_1 (And.intro @cq.eq_1 (And.intro @dA.eq_1 (And.intro @gD.eq_1 (And.intro @gC.eq_1 (And.intro @gw.eq_1 (And.intro @gg.eq_1 (And.intro @hH.eq_1 (And.intro @mo.eq_1 (And.intro @fH.eq_1 (And.intro @en.eq_1 (And.intro @fQ.eq_1 (And.intro @bw.eq_1 (And.intro @hV.eq_1 (And.intro @hU.eq_1 (And.intro @h8.eq_1 (And.intro @iM.eq_1 (And.intro @nF.eq_1 @hT.eq_1))))))))))))))))))))))))))))))))))))))))))))))))))))))))))))))
theorem ws {Q : Exit → ao → Prop} {l : List (Nat × I)} {ros : List b2} {k : List Nat} {b : J} (ep : List (Nat × I)) (az : cW aE b Q (aa ep)) (h : ∀ P : List (Nat × I) → Prop, P ep → cI aE (aa l) ros none (fun _ s => P (iT k s)) := by
 intro P ak
 simp only [aZ.down, simprocAttr, kl.down]
 (try simp only [bn.down, simprocAttr, kl.down] at ak ⊢)
 exact ak) : cW aE (.seq (.R ros (some k)) b) Q (aa l) :=
 dK (cl ep (h) az)
theorem di {Q : Exit → ao → Prop} {l : List (Nat × I)} {ros : List b2} {k : List Nat} {b : J} {g : FuncId} {ds : List I} {r : I} (ok : bh aE g ds r []) (ep : List (Nat × I)) (az : cW aE b Q (aa ep)) (h : bh aE g ds r [] → ∀ P : List (Nat × I) → Prop, P ep → cI aE (aa l) ros none (fun _ s => P (iT k s)) := by
 intro sE P ak
 (try simp only [aZ.down, simprocAttr, kl.down])
 refine fw sE rfl rfl rfl rfl (.inl (by rfl)) ?_
 simp only [aZ.down, simprocAttr, kl.down]
 (try simp only [bn.down, simprocAttr, kl.down] at ak ⊢)
 exact ak) : cW aE (.seq (.R ros (some k)) b) Q (aa l) :=
 dK (cl ep (h ok) az)
theorem hW {F : Prop} (bu : F) {Q : Exit → ao → Prop} {l : List (Nat × I)} {ros : List b2} {k : List Nat} {b : J} (ep : List (Nat × I)) (az : cW aE b Q (aa ep)) (h : F → ∀ P : List (Nat × I) → Prop, P ep → cI aE (aa l) ros none (fun _ s => P (iT k s)) := by
 intro bu P ak
 simp only [aZ.down, simprocAttr, kl.down, bu]
 (try simp only [bn.down, simprocAttr, kl.down, bu] at ak ⊢)
 exact ak) : cW aE (.seq (.R ros (some k)) b) Q (aa l) :=
 dK (cl ep (h bu) az)
theorem hX {F : Prop} (bu : F) {Q : Exit → ao → Prop} {l : List (Nat × I)} {ros : List b2} {k : List Nat} {b : J} {g : FuncId} {ds : List I} {r : I} (ok : bh aE g ds r []) (ep : List (Nat × I)) (az : cW aE b Q (aa ep)) (h : bh aE g ds r [] → F → ∀ P : List (Nat × I) → Prop, P ep → cI aE (aa l) ros none (fun _ s => P (iT k s)) := by
 intro sE bu P ak
 (try simp only [aZ.down, simprocAttr, kl.down, bu])
 refine fw sE rfl rfl rfl rfl (.inl (by rfl)) ?_
 simp only [aZ.down, simprocAttr, kl.down, bu]
 (try simp only [bn.down, simprocAttr, kl.down, bu] at ak ⊢)
 exact ak) : cW aE (.seq (.R ros (some k)) b) Q (aa l) :=
 dK (cl ep (h ok bu) az)
theorem wr {Q : Exit → ao → Prop} {l : List (Nat × I)} {ros : List b2} {k : List Nat} (ep : List (Nat × I)) (az : Q .normal (aa ep)) (h : ∀ P : List (Nat × I) → Prop, P ep → cI aE (aa l) ros none (fun _ s => P (iT k s)) := by
 intro P ak
 simp only [aZ.down, simprocAttr, kl.down]
 (try simp only [bn.down, simprocAttr, kl.down] at ak ⊢)
 exact ak) : cW aE (.R ros (some k)) Q (aa l) :=
 kf (cl ep (h) az)
theorem aqZ {Q : Exit → ao → Prop} {l : List (Nat × I)} {ros : List b2} {k : List Nat} {g : FuncId} {ds : List I} {r : I} (ok : bh aE g ds r []) (ep : List (Nat × I)) (az : Q .normal (aa ep)) (h : bh aE g ds r [] → ∀ P : List (Nat × I) → Prop, P ep → cI aE (aa l) ros none (fun _ s => P (iT k s)) := by
 intro sE P ak
 (try simp only [aZ.down, simprocAttr, kl.down])
 refine fw sE rfl rfl rfl rfl (.inl (by rfl)) ?_
 simp only [aZ.down, simprocAttr, kl.down]
 (try simp only [bn.down, simprocAttr, kl.down] at ak ⊢)
 exact ak) : cW aE (.R ros (some k)) Q (aa l) :=
 kf (cl ep (h ok) az)
theorem aq0 {F : Prop} (bu : F) {Q : Exit → ao → Prop} {l : List (Nat × I)} {ros : List b2} {k : List Nat} (ep : List (Nat × I)) (az : Q .normal (aa ep)) (h : F → ∀ P : List (Nat × I) → Prop, P ep → cI aE (aa l) ros none (fun _ s => P (iT k s)) := by
 intro bu P ak
 simp only [aZ.down, simprocAttr, kl.down, bu]
 (try simp only [bn.down, simprocAttr, kl.down, bu] at ak ⊢)
 exact ak) : cW aE (.R ros (some k)) Q (aa l) :=
 kf (cl ep (h bu) az)
theorem Fs {F : Prop} (bu : F) {Q : Exit → ao → Prop} {l : List (Nat × I)} {ros : List b2} {k : List Nat} {g : FuncId} {ds : List I} {r : I} (ok : bh aE g ds r []) (ep : List (Nat × I)) (az : Q .normal (aa ep)) (h : bh aE g ds r [] → F → ∀ P : List (Nat × I) → Prop, P ep → cI aE (aa l) ros none (fun _ s => P (iT k s)) := by
 intro sE bu P ak
 (try simp only [aZ.down, simprocAttr, kl.down, bu])
 refine fw sE rfl rfl rfl rfl (.inl (by rfl)) ?_
 simp only [aZ.down, simprocAttr, kl.down, bu]
 (try simp only [bn.down, simprocAttr, kl.down, bu] at ak ⊢)
 exact ak) : cW aE (.R ros (some k)) Q (aa l) :=
 kf (cl ep (h ok bu) az)
def h9 := PLift.up (And.intro @bq.eq_1 (And.intro @cc.eq_1 (And.intro @cq.eq_1 @en.eq_1)))
def h_ := PLift.up (And.intro @ez (And.intro @om (And.intro @lV @bB.eq_1)))
def iW := PLift.up (And.intro @dS (And.intro @ez (And.intro @mj (And.intro @ju (And.intro @kk (And.intro @gp (And.intro @gT (And.intro @hQ (And.intro @fZ (And.intro @bq.eq_1 (And.intro @cc.eq_1 (And.intro @cq.eq_1 @en.eq_1))))))))))))
def jO := PLift.up (And.intro @bD.eq_1 (And.intro @e7.eq_1 (And.intro @bq.eq_1 (And.intro @bB.eq_1 (And.intro @cc.eq_1 (And.intro @dU.eq_1 (And.intro @e2.eq_1 (And.intro @cq.eq_1 (And.intro @en.eq_1 @bw.eq_1)))))))))
def mq := PLift.up (And.intro @cc.eq_1 (And.intro @cq.eq_1 @en.eq_1))
def mR := PLift.up (And.intro @ez (And.intro @lV @bB.eq_1))
def mS := PLift.up (And.intro @bq.eq_1 (And.intro @cc.eq_1 (And.intro @cq.eq_1 (And.intro @dA.eq_1 @en.eq_1))))
def nH := PLift.up (And.intro @dS (And.intro @ez (And.intro @gp (And.intro @gT (And.intro @hQ (And.intro @fZ (And.intro @cc.eq_1 (And.intro @cq.eq_1 @en.eq_1))))))))
def ot := PLift.up (And.intro @dS (And.intro @gp (And.intro @fZ @cq.eq_1)))
def ou := PLift.up (And.intro @dS (And.intro @ez (And.intro @g_ (And.intro @kj (And.intro @mj (And.intro @nw (And.intro @om (And.intro @r7 (And.intro @ju (And.intro @kk (And.intro @gp (And.intro @gT (And.intro @hQ (And.intro @mL (And.intro @lV (And.intro @fZ (And.intro @bD.eq_1 (And.intro @e7.eq_1 (And.intro @bq.eq_1 (And.intro @bB.eq_1 (And.intro @cc.eq_1 (And.intro @e2.eq_1 (And.intro @cq.eq_1 (And.intro @en.eq_1 @bw.eq_1))))))))))))))))))))))))
def pf := PLift.up (And.intro @dS (And.intro @ez (And.intro @ju (And.intro @kk (And.intro @gp (And.intro @gT (And.intro @hQ (And.intro @fZ (And.intro @bq.eq_1 (And.intro @cc.eq_1 (And.intro @cq.eq_1 @en.eq_1)))))))))))
def pg := PLift.up (And.intro @dS (And.intro @ez (And.intro @mj (And.intro @ju (And.intro @kk (And.intro @gp (And.intro @gT (And.intro @hQ (And.intro @fZ (And.intro @bq.eq_1 (And.intro @cc.eq_1 (And.intro @cq.eq_1 (And.intro @dA.eq_1 @en.eq_1)))))))))))))
def p2 := PLift.up (And.intro @dS (And.intro @ez (And.intro @g_ (And.intro @kj (And.intro @mj (And.intro @lf (And.intro @nw (And.intro @om (And.intro @r7 (And.intro @r8 (And.intro @ju (And.intro @kk (And.intro @gp (And.intro @gT (And.intro @hQ (And.intro @mL (And.intro @lV (And.intro @fZ (And.intro @bD.eq_1 (And.intro @e7.eq_1 (And.intro @bq.eq_1 (And.intro @bB.eq_1 (And.intro @cc.eq_1 (And.intro @dU.eq_1 (And.intro @e2.eq_1 (And.intro @cq.eq_1 (And.intro @en.eq_1 @bw.eq_1)))))))))))))))))))))))))))
def sF := PLift.up (And.intro @bD.eq_1 (And.intro @bq.eq_1 (And.intro @cc.eq_1 (And.intro @dU.eq_1 (And.intro @cq.eq_1 @en.eq_1)))))
def sG := PLift.up (And.intro @dS (And.intro @g_ (And.intro @lf (And.intro @bD.eq_1 (And.intro @bq.eq_1 (And.intro @cc.eq_1 (And.intro @dU.eq_1 (And.intro @cq.eq_1 @en.eq_1))))))))
def sH := PLift.up (And.intro @dS (And.intro @ez (And.intro @g_ (And.intro @mj (And.intro @ju (And.intro @kk (And.intro @gp (And.intro @gT (And.intro @hQ (And.intro @mL (And.intro @fZ (And.intro @bD.eq_1 (And.intro @e7.eq_1 (And.intro @bq.eq_1 (And.intro @cc.eq_1 (And.intro @cq.eq_1 @en.eq_1))))))))))))))))
def uW := PLift.up (And.intro @bD.eq_1 (And.intro @hH.eq_1 @iM.eq_1))
def uX := PLift.up (And.intro @bD.eq_1 (And.intro @e7.eq_1 (And.intro @bq.eq_1 (And.intro @bB.eq_1 (And.intro @cc.eq_1 (And.intro @e2.eq_1 (And.intro @cq.eq_1 (And.intro @en.eq_1 @bw.eq_1))))))))
def xY := PLift.up (And.intro @dS (And.intro @ez (And.intro @gp (And.intro @gT (And.intro @hQ (And.intro @fZ (And.intro @bq.eq_1 (And.intro @cc.eq_1 (And.intro @cq.eq_1 @en.eq_1)))))))))
def xZ := PLift.up (And.intro @cc.eq_1 (And.intro @cq.eq_1 (And.intro @dA.eq_1 @en.eq_1)))
def x0 := PLift.up (And.intro @dS (And.intro @ez (And.intro @g_ (And.intro @mj (And.intro @lf (And.intro @ju (And.intro @kk (And.intro @gp (And.intro @gT (And.intro @hQ (And.intro @fZ (And.intro @bD.eq_1 (And.intro @bq.eq_1 (And.intro @cc.eq_1 (And.intro @dU.eq_1 (And.intro @cq.eq_1 @en.eq_1))))))))))))))))
def x1 := PLift.up (And.intro @dS (And.intro @pb (And.intro @ez (And.intro @g_ (And.intro @lf (And.intro @ju (And.intro @kk (And.intro @gp (And.intro @gT (And.intro @hQ (And.intro @fZ (And.intro @pc (And.intro @r9 (And.intro @bD.eq_1 (And.intro @bq.eq_1 (And.intro @cc.eq_1 (And.intro @dU.eq_1 (And.intro @cq.eq_1 (And.intro @dA.eq_1 @en.eq_1)))))))))))))))))))
def x2 := PLift.up (And.intro @dS (And.intro @ez (And.intro @g_ (And.intro @kj (And.intro @ur (And.intro @uu (And.intro @uv (And.intro @EG (And.intro @pT (And.intro @uw (And.intro @lU (And.intro @nx (And.intro @ux (And.intro @uy (And.intro @pU (And.intro @lW (And.intro @bD.eq_1 (And.intro @bB.eq_1 (And.intro @cq.eq_1 (And.intro @gD.eq_1 (And.intro @gC.eq_1 (And.intro @gw.eq_1 (And.intro @gg.eq_1 (And.intro @hH.eq_1 (And.intro @mo.eq_1 (And.intro @fH.eq_1 (And.intro @fQ.eq_1 (And.intro @bw.eq_1 (And.intro @hV.eq_1 (And.intro @hU.eq_1 (And.intro @h8.eq_1 (And.intro @iM.eq_1 (And.intro @nF.eq_1 @hT.eq_1)))))))))))))))))))))))))))))))))
def BG := PLift.up (And.intro @dS (And.intro @ez (And.intro @ju (And.intro @gp (And.intro @gT (And.intro @hQ (And.intro @fZ (And.intro @cc.eq_1 (And.intro @cq.eq_1 @en.eq_1)))))))))
def BH := PLift.up (And.intro @dS (And.intro @ez (And.intro @g_ (And.intro @lf (And.intro @ju (And.intro @kk (And.intro @gp (And.intro @gT (And.intro @hQ (And.intro @fZ (And.intro @bD.eq_1 (And.intro @bq.eq_1 (And.intro @cc.eq_1 (And.intro @dU.eq_1 (And.intro @cq.eq_1 @en.eq_1)))))))))))))))
def BI := PLift.up (And.intro @dS (And.intro @pb (And.intro @ez (And.intro @gp (And.intro @gT (And.intro @hQ (And.intro @fZ (And.intro @pc (And.intro @cc.eq_1 (And.intro @cq.eq_1 (And.intro @dA.eq_1 @en.eq_1)))))))))))
def BJ := PLift.up (And.intro @dS (And.intro @ez (And.intro @gp (And.intro @gT (And.intro @hQ (And.intro @fZ (And.intro @bq.eq_1 (And.intro @cc.eq_1 (And.intro @cq.eq_1 (And.intro @dA.eq_1 @en.eq_1))))))))))
def BK := PLift.up (And.intro @dS (And.intro @ez (And.intro @g_ (And.intro @kj (And.intro @ur (And.intro @mj (And.intro @uu (And.intro @uv (And.intro @EG (And.intro @nw (And.intro @om (And.intro @r7 (And.intro @pT (And.intro @uw (And.intro @ju (And.intro @kk (And.intro @lU (And.intro @nx (And.intro @gp (And.intro @gT (And.intro @hQ (And.intro @ux (And.intro @uy (And.intro @mL (And.intro @lV (And.intro @fZ (And.intro @pU (And.intro @lW (And.intro @bD.eq_1 (And.intro @bB.eq_1 (And.intro @cq.eq_1 (And.intro @gD.eq_1 (And.intro @gC.eq_1 (And.intro @gw.eq_1 (And.intro @gg.eq_1 (And.intro @hH.eq_1 (And.intro @mo.eq_1 (And.intro @fH.eq_1 (And.intro @fQ.eq_1 (And.intro @bw.eq_1 (And.intro @hV.eq_1 (And.intro @hU.eq_1 (And.intro @h8.eq_1 (And.intro @iM.eq_1 (And.intro @nF.eq_1 @hT.eq_1)))))))))))))))))))))))))))))))))))))))))))))
def Ft := PLift.up (And.intro @dS (And.intro @pb (And.intro @pc (And.intro @KN (And.intro @bq.eq_1 (And.intro @cc.eq_1 (And.intro @cq.eq_1 (And.intro @dA.eq_1 @en.eq_1))))))))
def Fu := PLift.up (And.intro @dS (And.intro @pb (And.intro @ez (And.intro @ju (And.intro @kk (And.intro @gp (And.intro @gT (And.intro @hQ (And.intro @fZ (And.intro @pc (And.intro @KN (And.intro @bq.eq_1 (And.intro @cc.eq_1 (And.intro @cq.eq_1 (And.intro @dA.eq_1 @en.eq_1)))))))))))))))
def Fv := PLift.up (And.intro @dS (And.intro @ez (And.intro @gp (And.intro @gT (And.intro @hQ (And.intro @fZ (And.intro @cc.eq_1 (And.intro @cq.eq_1 (And.intro @dA.eq_1 @en.eq_1)))))))))
def Fw := PLift.up (And.intro @bD.eq_1 (And.intro @e7.eq_1 (And.intro @bq.eq_1 (And.intro @cc.eq_1 (And.intro @cq.eq_1 @en.eq_1)))))
def Fx := PLift.up (And.intro @bD.eq_1 (And.intro @bB.eq_1 (And.intro @cq.eq_1 (And.intro @gD.eq_1 (And.intro @gC.eq_1 (And.intro @gw.eq_1 (And.intro @gg.eq_1 (And.intro @hH.eq_1 (And.intro @mo.eq_1 (And.intro @fH.eq_1 (And.intro @fQ.eq_1 (And.intro @bw.eq_1 (And.intro @hV.eq_1 (And.intro @hU.eq_1 (And.intro @h8.eq_1 (And.intro @iM.eq_1 (And.intro @nF.eq_1 @hT.eq_1)))))))))))))))))
def Fy := PLift.up (And.intro @dS (And.intro @ez (And.intro @g_ (And.intro @kj (And.intro @mj (And.intro @nw (And.intro @om (And.intro @r7 (And.intro @ju (And.intro @kk (And.intro @gp (And.intro @gT (And.intro @hQ (And.intro @mL (And.intro @lV (And.intro @fZ (And.intro @bD.eq_1 (And.intro @bB.eq_1 (And.intro @cq.eq_1 (And.intro @gD.eq_1 (And.intro @gC.eq_1 (And.intro @gw.eq_1 (And.intro @gg.eq_1 (And.intro @hH.eq_1 (And.intro @mo.eq_1 (And.intro @fH.eq_1 (And.intro @fQ.eq_1 (And.intro @bw.eq_1 (And.intro @hV.eq_1 (And.intro @hU.eq_1 (And.intro @h8.eq_1 (And.intro @iM.eq_1 (And.intro @nF.eq_1 @hT.eq_1)))))))))))))))))))))))))))))))))
theorem aq1 (a0 : List gU) (U : Int) (r : Int) (h : wO a0 U = some r) : bh aE 181 [.slice (a0.map fH), .int .i64 U] (.int .i64 r) [] := by
 refine bR [0] [.tmp 4] Tryz.func181 Ud (fun bM an bO => ?_)
 refine ws _ ?_
 refine ws _ ?_
 refine aJ an (fun j3 gx dm a6 => ?_)
 refine ws _ ?_
 refine aU h (fun bE h => ?_) (fun bE h => ?_)
 ·simp only [bE, aj.down]
  refine ws _ ?_
  exact aC (dm _ (.inl (aD [.int .i64 (-1)])))
 ·simp only [bE, aj.down]
  refine aW (gx _ (.inl ?_))
  refine ws _ ?_
  exact aC (an _ (.inl (aD [.int .i64 (IntKind.i64.wrap (U - (a0.length : Int)))])))
theorem aq2 (a0 : List (List gU)) (U : Int) (r : Int) (h : zz a0 U = some r) : bh aE 182 [.slice (a0.map fQ), .int .i64 U] (.int .i64 r) [] := by
 refine bR [0] [.tmp 4] Tryz.func182 Us (fun bM an bO => ?_)
 refine ws _ ?_
 refine ws _ ?_
 refine aJ an (fun j3 gx dm a6 => ?_)
 refine ws _ ?_
 refine aU h (fun bE h => ?_) (fun bE h => ?_)
 ·simp only [bE, aj.down]
  refine ws _ ?_
  exact aC (dm _ (.inl (aD [.int .i64 (-1)])))
 ·simp only [bE, aj.down]
  refine aW (gx _ (.inl ?_))
  refine aJ an (fun gy dn dx cH => ?_)
  refine ws _ ?_
  refine bJ dx (fun ev c_ cw ed dF => ?_)
  have jg : ∀ (n : Nat) (c3 : Int) (cN : Int), zy a0 n c3 cN = some r → dE aE Ls ev (aa [(0, .slice (a0.map fQ)), (1, .int .i64 c3), (5, .int .i64 cN)]) := by
   intro m16
   induction m16 with
   | zero => intro c3 cN h; cases (show none = some r from h)
   | succ m16 jh =>
    intro c3 cN h
    replace h : KO (zy a0 m16) a0 c3 cN = some r := h
    refine ea cw (fun ff cE cx da => ?_)
    refine aJ cx (fun ia eO fI eS => ?_)
    refine ws _ ?_
    refine aU h (fun dd h => ?_) (fun dd h => ?_)
    ·simp only [dd, aj.down]
     refine aW (eO _ (.inl ?_))
     refine aJ cx (fun ib eP eB iE => ?_)
     refine bJ eB (fun kB gV gE c4 j4 => ?_)
     obtain ⟨af, dM, h⟩ := aH h
     obtain ⟨ay, eK, h⟩ := aH h
     refine hX dM (aq1 af c3 _ eK) _ ?_
     refine ws _ ?_
     refine aU h (fun dN h => ?_) (fun dN h => ?_)
     ·simp only [dN, aj.down]
      refine ws _ ?_
      exact aC (gE _ (.inl (aD [.int .i64 (-1)])))
     ·simp only [dN, aj.down]
      refine aW (gV _ (eP _ (.inl ?_)))
      refine wr _ ?_
      exact cE _ (.inr ⟨_, bs rfl, jh ay (IntKind.i64.wrap (cN + 1)) h⟩)
    ·simp only [dd, aj.down]
     refine dY (eS 0 _ (da 0 _ (ed _ (dn _ (.inl ?_)))))
     refine ws _ ?_
     exact aC (an _ (.inl (aD [.int .i64 c3])))
  obtain ⟨n, h⟩ := dR h
  exact dZ (.inr ⟨_, bs rfl, jg n (IntKind.i64.wrap (U - (a0.length : Int))) 0 h⟩)
theorem aq3 (a0 : iB) (U : Int) (r : Int) (h : wP a0 U = some r) : bh aE 227 [gg a0, .int .i64 U] (.int .i64 r) [] := by
 refine bR [0] [.tmp 4] Tryz.func227 UD (fun bM an bO => ?_)
 refine ws _ ?_
 refine ws _ ?_
 refine aJ an (fun j3 gx dm a6 => ?_)
 refine ws _ ?_
 refine aU h (fun bE h => ?_) (fun bE h => ?_)
 ·simp only [bE, aj.down]
  refine ws _ ?_
  exact aC (dm _ (.inl (aD [.int .i64 (-1)])))
 ·simp only [bE, aj.down]
  refine aW (gx _ (.inl ?_))
  obtain ⟨af, hi, h⟩ := aH h
  refine di (aq2 a0.dz (IntKind.i64.wrap (U - (a0.Name.length : Int))) _ hi) _ ?_
  refine aJ an (fun ev c_ cw dF => ?_)
  refine ws _ ?_
  refine aU h (fun jC h => ?_) (fun jC h => ?_)
  ·simp only [jC, aj.down]
   refine ws _ ?_
   exact aC (cw _ (.inl (aD [.int .i64 (-1)])))
  ·simp only [jC, aj.down]
   refine aW (c_ _ (.inl ?_))
   refine ws _ ?_
   exact aC (an _ (.inl (aD [.int .i64 af])))
theorem aq4 (a0 : List iB) (U : Int) (r : Int) (h : zB a0 U = some r) : bh aE 156 [.slice (a0.map gg), .int .i64 U] (.int .i64 r) [] := by
 refine bR [0] [.tmp 4] Tryz.func156 US (fun bM an bO => ?_)
 refine ws _ ?_
 refine ws _ ?_
 refine aJ an (fun j3 gx dm a6 => ?_)
 refine ws _ ?_
 refine aU h (fun bE h => ?_) (fun bE h => ?_)
 ·simp only [bE, aj.down]
  refine ws _ ?_
  exact aC (dm _ (.inl (aD [.int .i64 (-1)])))
 ·simp only [bE, aj.down]
  refine aW (gx _ (.inl ?_))
  refine aJ an (fun gy dn dx cH => ?_)
  refine ws _ ?_
  refine bJ dx (fun ev c_ cw ed dF => ?_)
  have jg : ∀ (n : Nat) (c3 : Int) (cN : Int), zA a0 n c3 cN = some r → dE aE Lt ev (aa [(0, .slice (a0.map gg)), (1, .int .i64 c3), (5, .int .i64 cN)]) := by
   intro m16
   induction m16 with
   | zero => intro c3 cN h; cases (show none = some r from h)
   | succ m16 jh =>
    intro c3 cN h
    replace h : KP (zA a0 m16) a0 c3 cN = some r := h
    refine ea cw (fun ff cE cx da => ?_)
    refine aJ cx (fun ia eO fI eS => ?_)
    refine ws _ ?_
    refine aU h (fun dd h => ?_) (fun dd h => ?_)
    ·simp only [dd, aj.down]
     refine aW (eO _ (.inl ?_))
     refine aJ cx (fun ib eP eB iE => ?_)
     refine bJ eB (fun kB gV gE c4 j4 => ?_)
     obtain ⟨af, dM, h⟩ := aH h
     obtain ⟨ay, eK, h⟩ := aH h
     refine hX dM (aq3 af c3 _ eK) _ ?_
     refine ws _ ?_
     refine aU h (fun dN h => ?_) (fun dN h => ?_)
     ·simp only [dN, aj.down]
      refine ws _ ?_
      exact aC (gE _ (.inl (aD [.int .i64 (-1)])))
     ·simp only [dN, aj.down]
      refine aW (gV _ (eP _ (.inl ?_)))
      refine wr _ ?_
      exact cE _ (.inr ⟨_, bs rfl, jh ay (IntKind.i64.wrap (cN + 1)) h⟩)
    ·simp only [dd, aj.down]
     refine dY (eS 0 _ (da 0 _ (ed _ (dn _ (.inl ?_)))))
     refine ws _ ?_
     exact aC (an _ (.inl (aD [.int .i64 c3])))
  obtain ⟨n, h⟩ := dR h
  exact dZ (.inr ⟨_, bs rfl, jg n (IntKind.i64.wrap (U - (a0.length : Int))) 0 h⟩)
theorem aq5 (a0 : iu) (U : Int) (r : Int) (h : wQ a0 U = some r) : bh aE 94 [gC a0, .int .i64 U] (.int .i64 r) [] := by
 refine bR [0] [.tmp 4] Tryz.func94 U4 (fun bM an bO => ?_)
 refine ws _ ?_
 refine ws _ ?_
 refine aJ an (fun j3 gx dm a6 => ?_)
 refine ws _ ?_
 refine aU h (fun bE h => ?_) (fun bE h => ?_)
 ·simp only [bE, aj.down]
  refine ws _ ?_
  exact aC (dm _ (.inl (aD [.int .i64 (-1)])))
 ·simp only [bE, aj.down]
  refine aW (gx _ (.inl ?_))
  obtain ⟨af, hi, h⟩ := aH h
  refine di (aq4 a0.Body (IntKind.i64.wrap (U - (a0.Name.length : Int))) _ hi) _ ?_
  refine aJ an (fun ev c_ cw dF => ?_)
  refine ws _ ?_
  refine aU h (fun jC h => ?_) (fun jC h => ?_)
  ·simp only [jC, aj.down]
   refine ws _ ?_
   exact aC (cw _ (.inl (aD [.int .i64 (-1)])))
  ·simp only [jC, aj.down]
   refine aW (c_ _ (.inl ?_))
   refine ws _ ?_
   exact aC (an _ (.inl (aD [.int .i64 af])))
theorem aq6 (a0 : List iu) (U : Int) (r : Int) (h : wR a0 U = some r) : bh aE 43 [.slice (a0.map gC), .int .i64 U] (.int .i64 r) [] := by
 refine bR [0] [.tmp 4] Tryz.func43 Vi (fun bM an bO => ?_)
 refine ws _ ?_
 refine ws _ ?_
 refine aJ an (fun j3 gx dm a6 => ?_)
 refine ws _ ?_
 refine aU h (fun bE h => ?_) (fun bE h => ?_)
 ·simp only [bE, aj.down]
  refine ws _ ?_
  exact aC (dm _ (.inl (aD [.int .i64 (-1)])))
 ·simp only [bE, aj.down]
  refine aW (gx _ (.inl ?_))
  refine aJ an (fun gy dn dx cH => ?_)
  refine ws _ ?_
  refine bJ dx (fun ev c_ cw ed dF => ?_)
  have jg : ∀ (n : Nat) (c3 : Int) (cN : Int), zC a0 n c3 cN = some r → dE aE Lu ev (aa [(0, .slice (a0.map gC)), (1, .int .i64 c3), (5, .int .i64 cN)]) := by
   intro m16
   induction m16 with
   | zero => intro c3 cN h; cases (show none = some r from h)
   | succ m16 jh =>
    intro c3 cN h
    replace h : KQ (zC a0 m16) a0 c3 cN = some r := h
    refine ea cw (fun ff cE cx da => ?_)
    refine aJ cx (fun ia eO fI eS => ?_)
    refine ws _ ?_
    refine aU h (fun dd h => ?_) (fun dd h => ?_)
    ·simp only [dd, aj.down]
     refine aW (eO _ (.inl ?_))
     refine aJ cx (fun ib eP eB iE => ?_)
     refine bJ eB (fun kB gV gE c4 j4 => ?_)
     obtain ⟨af, dM, h⟩ := aH h
     obtain ⟨ay, eK, h⟩ := aH h
     refine hX dM (aq5 af c3 _ eK) _ ?_
     refine ws _ ?_
     refine aU h (fun dN h => ?_) (fun dN h => ?_)
     ·simp only [dN, aj.down]
      refine ws _ ?_
      exact aC (gE _ (.inl (aD [.int .i64 (-1)])))
     ·simp only [dN, aj.down]
      refine aW (gV _ (eP _ (.inl ?_)))
      refine wr _ ?_
      exact cE _ (.inr ⟨_, bs rfl, jh ay (IntKind.i64.wrap (cN + 1)) h⟩)
    ·simp only [dd, aj.down]
     refine dY (eS 0 _ (da 0 _ (ed _ (dn _ (.inl ?_)))))
     refine ws _ ?_
     exact aC (an _ (.inl (aD [.int .i64 c3])))
  obtain ⟨n, h⟩ := dR h
  exact dZ (.inr ⟨_, bs rfl, jg n (IntKind.i64.wrap (U - (a0.length : Int))) 0 h⟩)
theorem MP (a0 : List Int) (U : Int) (r : Int) (h : wS a0 U = some r) : bh aE 64 [.slice (a0.map bD), .int .i64 U] (.int .i64 r) [] := by
 refine bR [0] [.tmp 4] Tryz.func64 Vp (fun bM an bO => ?_)
 refine ws _ ?_
 refine ws _ ?_
 refine aJ an (fun j3 gx dm a6 => ?_)
 refine ws _ ?_
 refine aU h (fun bE h => ?_) (fun bE h => ?_)
 ·simp only [bE, aj.down]
  refine ws _ ?_
  exact aC (dm _ (.inl (aD [.int .i64 (-1)])))
 ·simp only [bE, aj.down]
  refine aW (gx _ (.inl ?_))
  refine ws _ ?_
  exact aC (an _ (.inl (aD [.int .i64 (IntKind.i64.wrap (U - (a0.length : Int)))])))
theorem aq7 (a0 : iC) (U : Int) (r : Int) (h : wT a0 U = some r) : bh aE 166 [gD a0, .int .i64 U] (.int .i64 r) [] := by
 refine bR [0] [.tmp 4] Tryz.func166 Vw (fun bM an bO => ?_)
 refine ws _ ?_
 obtain ⟨af, aQ, h⟩ := aH h
 refine di (MP a0.cX U _ aQ) _ ?_
 refine aJ an (fun eT eL ch bW => ?_)
 refine ws _ ?_
 refine aU h (fun cL h => ?_) (fun cL h => ?_)
 ·simp only [cL, aj.down]
  refine ws _ ?_
  exact aC (ch _ (.inl (aD [.int .i64 (-1)])))
 ·simp only [cL, aj.down]
  refine aW (eL _ (.inl ?_))
  refine ws _ ?_
  exact aC (an _ (.inl (aD [.int .i64 af])))
theorem aq8 (a0 : List iC) (U : Int) (r : Int) (h : zE a0 U = some r) : bh aE 104 [.slice (a0.map gD), .int .i64 U] (.int .i64 r) [] := by
 refine bR [0] [.tmp 4] Tryz.func104 VL (fun bM an bO => ?_)
 refine ws _ ?_
 refine ws _ ?_
 refine aJ an (fun j3 gx dm a6 => ?_)
 refine ws _ ?_
 refine aU h (fun bE h => ?_) (fun bE h => ?_)
 ·simp only [bE, aj.down]
  refine ws _ ?_
  exact aC (dm _ (.inl (aD [.int .i64 (-1)])))
 ·simp only [bE, aj.down]
  refine aW (gx _ (.inl ?_))
  refine aJ an (fun gy dn dx cH => ?_)
  refine ws _ ?_
  refine bJ dx (fun ev c_ cw ed dF => ?_)
  have jg : ∀ (n : Nat) (c3 : Int) (cN : Int), zD a0 n c3 cN = some r → dE aE Lv ev (aa [(0, .slice (a0.map gD)), (1, .int .i64 c3), (5, .int .i64 cN)]) := by
   intro m16
   induction m16 with
   | zero => intro c3 cN h; cases (show none = some r from h)
   | succ m16 jh =>
    intro c3 cN h
    replace h : KR (zD a0 m16) a0 c3 cN = some r := h
    refine ea cw (fun ff cE cx da => ?_)
    refine aJ cx (fun ia eO fI eS => ?_)
    refine ws _ ?_
    refine aU h (fun dd h => ?_) (fun dd h => ?_)
    ·simp only [dd, aj.down]
     refine aW (eO _ (.inl ?_))
     refine aJ cx (fun ib eP eB iE => ?_)
     refine bJ eB (fun kB gV gE c4 j4 => ?_)
     obtain ⟨af, dM, h⟩ := aH h
     obtain ⟨ay, eK, h⟩ := aH h
     refine hX dM (aq7 af c3 _ eK) _ ?_
     refine ws _ ?_
     refine aU h (fun dN h => ?_) (fun dN h => ?_)
     ·simp only [dN, aj.down]
      refine ws _ ?_
      exact aC (gE _ (.inl (aD [.int .i64 (-1)])))
     ·simp only [dN, aj.down]
      refine aW (gV _ (eP _ (.inl ?_)))
      refine wr _ ?_
      exact cE _ (.inr ⟨_, bs rfl, jh ay (IntKind.i64.wrap (cN + 1)) h⟩)
    ·simp only [dd, aj.down]
     refine dY (eS 0 _ (da 0 _ (ed _ (dn _ (.inl ?_)))))
     refine ws _ ?_
     exact aC (an _ (.inl (aD [.int .i64 c3])))
  obtain ⟨n, h⟩ := dR h
  exact dZ (.inr ⟨_, bs rfl, jg n (IntKind.i64.wrap (U - (a0.length : Int))) 0 h⟩)
theorem aq9 (a0 : iv) (U : Int) (r : Int) (h : wU a0 U = some r) : bh aE 167 [gw a0, .int .i64 U] (.int .i64 r) [] := by
 refine bR [0] [.tmp 4] Tryz.func167 V0 (fun bM an bO => ?_)
 refine ws _ ?_
 refine ws _ ?_
 refine aJ an (fun j3 gx dm a6 => ?_)
 refine ws _ ?_
 refine aU h (fun bE h => ?_) (fun bE h => ?_)
 ·simp only [bE, aj.down]
  refine ws _ ?_
  exact aC (dm _ (.inl (aD [.int .i64 (-1)])))
 ·simp only [bE, aj.down]
  refine aW (gx _ (.inl ?_))
  refine ws _ ?_
  refine aJ an (fun hx hn hc fP => ?_)
  refine ws _ ?_
  refine aU h (fun cP h => ?_) (fun cP h => ?_)
  ·simp only [cP, aj.down]
   refine ws _ ?_
   exact aC (hc _ (.inl (aD [.int .i64 (-1)])))
  ·simp only [cP, aj.down]
   refine aW (hn _ (.inl ?_))
   refine ws _ ?_
   refine aJ an (fun lx hd gF kC => ?_)
   refine ws _ ?_
   refine aU h (fun c4 h => ?_) (fun c4 h => ?_)
   ·simp only [c4, aj.down]
    refine ws _ ?_
    exact aC (gF _ (.inl (aD [.int .i64 (-1)])))
   ·simp only [c4, aj.down]
    refine aW (hd _ (.inl ?_))
    refine ws _ ?_
    exact aC (an _ (.inl (aD [.int .i64 (IntKind.i64.wrap ((IntKind.i64.wrap ((IntKind.i64.wrap (U - (a0.Left.length : Int))) - (a0.cp.length : Int))) - (a0.Result.length : Int)))])))
theorem aq_ (a0 : List iv) (U : Int) (r : Int) (h : zG a0 U = some r) : bh aE 105 [.slice (a0.map gw), .int .i64 U] (.int .i64 r) [] := by
 refine bR [0] [.tmp 4] Tryz.func105 We (fun bM an bO => ?_)
 refine ws _ ?_
 refine ws _ ?_
 refine aJ an (fun j3 gx dm a6 => ?_)
 refine ws _ ?_
 refine aU h (fun bE h => ?_) (fun bE h => ?_)
 ·simp only [bE, aj.down]
  refine ws _ ?_
  exact aC (dm _ (.inl (aD [.int .i64 (-1)])))
 ·simp only [bE, aj.down]
  refine aW (gx _ (.inl ?_))
  refine aJ an (fun gy dn dx cH => ?_)
  refine ws _ ?_
  refine bJ dx (fun ev c_ cw ed dF => ?_)
  have jg : ∀ (n : Nat) (c3 : Int) (cN : Int), zF a0 n c3 cN = some r → dE aE Lw ev (aa [(0, .slice (a0.map gw)), (1, .int .i64 c3), (5, .int .i64 cN)]) := by
   intro m16
   induction m16 with
   | zero => intro c3 cN h; cases (show none = some r from h)
   | succ m16 jh =>
    intro c3 cN h
    replace h : KS (zF a0 m16) a0 c3 cN = some r := h
    refine ea cw (fun ff cE cx da => ?_)
    refine aJ cx (fun ia eO fI eS => ?_)
    refine ws _ ?_
    refine aU h (fun dd h => ?_) (fun dd h => ?_)
    ·simp only [dd, aj.down]
     refine aW (eO _ (.inl ?_))
     refine aJ cx (fun ib eP eB iE => ?_)
     refine bJ eB (fun kB gV gE c4 j4 => ?_)
     obtain ⟨af, dM, h⟩ := aH h
     obtain ⟨ay, eK, h⟩ := aH h
     refine hX dM (aq9 af c3 _ eK) _ ?_
     refine ws _ ?_
     refine aU h (fun dN h => ?_) (fun dN h => ?_)
     ·simp only [dN, aj.down]
      refine ws _ ?_
      exact aC (gE _ (.inl (aD [.int .i64 (-1)])))
     ·simp only [dN, aj.down]
      refine aW (gV _ (eP _ (.inl ?_)))
      refine wr _ ?_
      exact cE _ (.inr ⟨_, bs rfl, jh ay (IntKind.i64.wrap (cN + 1)) h⟩)
    ·simp only [dd, aj.down]
     refine dY (eS 0 _ (da 0 _ (ed _ (dn _ (.inl ?_)))))
     refine ws _ ?_
     exact aC (an _ (.inl (aD [.int .i64 c3])))
  obtain ⟨n, h⟩ := dR h
  exact dZ (.inr ⟨_, bs rfl, jg n (IntKind.i64.wrap (U - (a0.length : Int))) 0 h⟩)
theorem MQ (a0 : List (List UInt8)) (U : Int) (r : Int) (h : wV a0 U = some r) : bh aE 28 [.slice (a0.map bw), .int .i64 U] (.int .i64 r) [] := by
 refine bR [0] [.tmp 4] Tryz.func28 Wt (fun bM an bO => ?_)
 refine ws _ ?_
 refine ws _ ?_
 refine aJ an (fun j3 gx dm a6 => ?_)
 refine ws _ ?_
 refine aU h (fun bE h => ?_) (fun bE h => ?_)
 ·simp only [bE, aj.down]
  refine ws _ ?_
  exact aC (dm _ (.inl (aD [.int .i64 (-1)])))
 ·simp only [bE, aj.down]
  refine aW (gx _ (.inl ?_))
  refine aJ an (fun gy dn dx cH => ?_)
  refine ws _ ?_
  refine bJ dx (fun ev c_ cw ed dF => ?_)
  have jg : ∀ (n : Nat) (c3 : Int) (cN : Int), zH a0 n c3 cN = some r → dE aE Lx ev (aa [(0, .slice (a0.map bw)), (1, .int .i64 c3), (5, .int .i64 cN)]) := by
   intro m16
   induction m16 with
   | zero => intro c3 cN h; cases (show none = some r from h)
   | succ m16 jh =>
    intro c3 cN h
    replace h : KT (zH a0 m16) a0 c3 cN = some r := h
    refine ea cw (fun ff cE cx da => ?_)
    refine aJ cx (fun ia eO fI eS => ?_)
    refine ws _ ?_
    refine aU h (fun dd h => ?_) (fun dd h => ?_)
    ·simp only [dd, aj.down]
     refine aW (eO _ (.inl ?_))
     refine aJ cx (fun ib eP eB iE => ?_)
     refine bJ eB (fun kB gV gE c4 j4 => ?_)
     obtain ⟨af, dM, h⟩ := aH h
     refine hW dM _ ?_
     refine ws _ ?_
     refine aU h (fun eW h => ?_) (fun eW h => ?_)
     ·simp only [eW, aj.down]
      refine ws _ ?_
      exact aC (gE _ (.inl (aD [.int .i64 (-1)])))
     ·simp only [eW, aj.down]
      refine aW (gV _ (eP _ (.inl ?_)))
      refine wr _ ?_
      exact cE _ (.inr ⟨_, bs rfl, jh (IntKind.i64.wrap (c3 - (af.length : Int))) (IntKind.i64.wrap (cN + 1)) h⟩)
    ·simp only [dd, aj.down]
     refine dY (eS 0 _ (da 0 _ (ed _ (dn _ (.inl ?_)))))
     refine ws _ ?_
     exact aC (an _ (.inl (aD [.int .i64 c3])))
  obtain ⟨n, h⟩ := dR h
  exact dZ (.inr ⟨_, bs rfl, jg n (IntKind.i64.wrap (U - (a0.length : Int))) 0 h⟩)
theorem ara (a0 : kx) (U : Int) (r : Int) (h : wW a0 U = some r) : bh aE 56 [mo a0, .int .i64 U] (.int .i64 r) [] := by
 refine bR [0] [.tmp 4] Tryz.func56 WS (fun bM an bO => ?_)
 refine ws _ ?_
 obtain ⟨af, aQ, h⟩ := aH h
 refine di (aq6 a0.df U _ aQ) _ ?_
 refine aJ an (fun eT eL ch bW => ?_)
 refine ws _ ?_
 refine aU h (fun cL h => ?_) (fun cL h => ?_)
 ·simp only [cL, aj.down]
  refine ws _ ?_
  exact aC (ch _ (.inl (aD [.int .i64 (-1)])))
 ·simp only [cL, aj.down]
  refine aW (eL _ (.inl ?_))
  obtain ⟨ay, ln, h⟩ := aH h
  refine di (aq8 a0.cY af _ ln) _ ?_
  refine aJ an (fun ff cE cx da => ?_)
  refine ws _ ?_
  refine aU h (fun dj h => ?_) (fun dj h => ?_)
  ·simp only [dj, aj.down]
   refine ws _ ?_
   exact aC (cx _ (.inl (aD [.int .i64 (-1)])))
  ·simp only [dj, aj.down]
   refine aW (cE _ (.inl ?_))
   obtain ⟨a6, gN, h⟩ := aH h
   refine di (aq_ a0.hR ay _ gN) _ ?_
   refine aJ an (fun p3 km lh p4 => ?_)
   refine ws _ ?_
   refine aU h (fun e8 h => ?_) (fun e8 h => ?_)
   ·simp only [e8, aj.down]
    refine ws _ ?_
    exact aC (lh _ (.inl (aD [.int .i64 (-1)])))
   ·simp only [e8, aj.down]
    refine aW (km _ (.inl ?_))
    obtain ⟨bW, ov, h⟩ := aH h
    refine di (MQ a0.hF a6 _ ov) _ ?_
    refine aJ an (fun x3 ow ox x4 => ?_)
    refine ws _ ?_
    refine aU h (fun iN h => ?_) (fun iN h => ?_)
    ·simp only [iN, aj.down]
     refine ws _ ?_
     exact aC (ox _ (.inl (aD [.int .i64 (-1)])))
    ·simp only [iN, aj.down]
     refine aW (ow _ (.inl ?_))
     obtain ⟨cf, p5, h⟩ := aH h
     refine di (MQ a0.hG bW _ p5) _ ?_
     refine aJ an (fun Fz BL BM FA => ?_)
     refine ws _ ?_
     refine aU h (fun iF h => ?_) (fun iF h => ?_)
     ·simp only [iF, aj.down]
      refine ws _ ?_
      exact aC (BM _ (.inl (aD [.int .i64 (-1)])))
     ·simp only [iF, aj.down]
      refine aW (BL _ (.inl ?_))
      refine ws _ ?_
      exact aC (an _ (.inl (aD [.int .i64 cf])))
theorem arb (a0 : iw) (U : Int) (r : Int) (h : wX a0 U = some r) : bh aE 44 [hH a0, .int .i64 U] (.int .i64 r) [] := by
 refine bR [0] [.tmp 4] Tryz.func44 WZ (fun bM an bO => ?_)
 refine ws _ ?_
 obtain ⟨af, aQ, h⟩ := aH h
 refine di (MP a0.cX U _ aQ) _ ?_
 refine aJ an (fun eT eL ch bW => ?_)
 refine ws _ ?_
 refine aU h (fun cL h => ?_) (fun cL h => ?_)
 ·simp only [cL, aj.down]
  refine ws _ ?_
  exact aC (ch _ (.inl (aD [.int .i64 (-1)])))
 ·simp only [cL, aj.down]
  refine aW (eL _ (.inl ?_))
  refine ws _ ?_
  exact aC (an _ (.inl (aD [.int .i64 af])))
theorem arc (a0 : List iw) (U : Int) (r : Int) (h : zJ a0 U = some r) : bh aE 57 [.slice (a0.map hH), .int .i64 U] (.int .i64 r) [] := by
 refine bR [0] [.tmp 4] Tryz.func57 Xd (fun bM an bO => ?_)
 refine ws _ ?_
 refine ws _ ?_
 refine aJ an (fun j3 gx dm a6 => ?_)
 refine ws _ ?_
 refine aU h (fun bE h => ?_) (fun bE h => ?_)
 ·simp only [bE, aj.down]
  refine ws _ ?_
  exact aC (dm _ (.inl (aD [.int .i64 (-1)])))
 ·simp only [bE, aj.down]
  refine aW (gx _ (.inl ?_))
  refine aJ an (fun gy dn dx cH => ?_)
  refine ws _ ?_
  refine bJ dx (fun ev c_ cw ed dF => ?_)
  have jg : ∀ (n : Nat) (c3 : Int) (cN : Int), zI a0 n c3 cN = some r → dE aE Ly ev (aa [(0, .slice (a0.map hH)), (1, .int .i64 c3), (5, .int .i64 cN)]) := by
   intro m16
   induction m16 with
   | zero => intro c3 cN h; cases (show none = some r from h)
   | succ m16 jh =>
    intro c3 cN h
    replace h : KU (zI a0 m16) a0 c3 cN = some r := h
    refine ea cw (fun ff cE cx da => ?_)
    refine aJ cx (fun ia eO fI eS => ?_)
    refine ws _ ?_
    refine aU h (fun dd h => ?_) (fun dd h => ?_)
    ·simp only [dd, aj.down]
     refine aW (eO _ (.inl ?_))
     refine aJ cx (fun ib eP eB iE => ?_)
     refine bJ eB (fun kB gV gE c4 j4 => ?_)
     obtain ⟨af, dM, h⟩ := aH h
     obtain ⟨ay, eK, h⟩ := aH h
     refine hX dM (arb af c3 _ eK) _ ?_
     refine ws _ ?_
     refine aU h (fun dN h => ?_) (fun dN h => ?_)
     ·simp only [dN, aj.down]
      refine ws _ ?_
      exact aC (gE _ (.inl (aD [.int .i64 (-1)])))
     ·simp only [dN, aj.down]
      refine aW (gV _ (eP _ (.inl ?_)))
      refine wr _ ?_
      exact cE _ (.inr ⟨_, bs rfl, jh ay (IntKind.i64.wrap (cN + 1)) h⟩)
    ·simp only [dd, aj.down]
     refine dY (eS 0 _ (da 0 _ (ed _ (dn _ (.inl ?_)))))
     refine ws _ ?_
     exact aC (an _ (.inl (aD [.int .i64 c3])))
  obtain ⟨n, h⟩ := dR h
  exact dZ (.inr ⟨_, bs rfl, jg n (IntKind.i64.wrap (U - (a0.length : Int))) 0 h⟩)
theorem ard (a0 : gU) (r : cA) (h : wY a0 = some r) : bh aE 256 [fH a0] (cq r) [] := by
 refine bR [0] [.cell 2 278] Tryz.func256 Xj (fun bM an bO => ?_)
 refine ws _ ?_
 refine ws _ ?_
 refine ws _ ?_
 refine ws _ ?_
 refine ws _ ?_
 exact aC (an _ (.inl (aD [cq (cA.mk a0.Kind a0.Value)])))
theorem arf (a0 : List gU) (r : (List cA)) (h : wZ a0 = some r) : bh aE 188 [.slice (a0.map fH)] (.aP 2 (r.map cq)) [] := by
 refine bR [0] [.tmp 2] Tryz.func188 Xs (fun bM an bO => ?_)
 refine ws _ ?_
 obtain ⟨uY, aQ, h⟩ := aH h
 refine dK (cl [(0, .slice (a0.map fH)), (3, .aP 2 ((List.replicate (Int.toNat (a0.length : Int)) (cA.mk 0 0)).map cq))] (fun P ak => ?_) ?_)
 ·simp only [aZ.down, simprocAttr, dS, lU, gp, fZ, lW, cq, fH, (dV aQ).1, (dV aQ).2.1, (dV aQ).2.2, er, List.map_replicate, -Int.reduceNatCast']
  (try simp only [bn.down, simprocAttr, cq, fH, (dV aQ).1, (dV aQ).2.1, (dV aQ).2.2, er, List.map_replicate, -Int.reduceNatCast'] at ak ⊢); exact ak
 refine aJ an (fun eT eL ch bW => ?_)
 refine ws [(0, .slice (a0.map fH)), (3, .aP 2 ((List.replicate (Int.toNat (a0.length : Int)) (cA.mk 0 0)).map cq)), (4, .int .i64 0)] ?_
 refine bJ ch (fun fz eG dI cL cO => ?_)
 have ji : ∀ (n : Nat) (bK : List cA) (bo : Int), zK a0 n bK bo = some r → dE aE Lz fz (aa [(0, .slice (a0.map fH)), (3, .aP 2 (bK.map cq)), (4, .int .i64 bo)]) := by
  intro m8
  induction m8 with
  | zero => intro bK bo h; cases (show none = some r from h)
  | succ m8 jj =>
   intro bK bo h
   replace h : KV (zK a0 m8) a0 bK bo = some r := h
   refine ea dI (fun gy dn dx cH => ?_)
   refine aJ dx (fun hx hn hc fP => ?_)
   refine ws _ ?_
   refine aU h (fun cP h => ?_) (fun cP h => ?_)
   ·simp only [cP, aj.down]
    refine aW (hn _ (.inl ?_))
    refine aJ dx (fun ia eO fI eS => ?_)
    refine bJ fI (fun jD f_ ix dj iV => ?_)
    obtain ⟨af, dD, h⟩ := aH h
    obtain ⟨ay, gN, h⟩ := aH h
    obtain ⟨a6, bY, h⟩ := aH h
    refine kf (cl [(0, .slice (a0.map fH)), (3, .aP 2 ((List.set bK (Int.toNat bo) ay).map cq)), (4, .int .i64 bo)] (fun P ak => ?_) ?_)
    ·simp only [aZ.down, simprocAttr, dS, lU, gp, fZ, lW, cq, fH, dD, bY, fR bY, h6, gn]
     refine fw (ard af _ gN) rfl rfl rfl rfl (.inl (by rfl)) ?_
     simp only [aZ.down, simprocAttr, dS, lU, gp, fZ, lW, cq, fH, dD, bY, fR bY, h6, gn]
     (try simp only [bn.down, simprocAttr, cq, fH, dD, bY, fR bY, h6, gn] at ak ⊢); exact ak
    refine f_ _ (eO _ (.inl ?_))
    refine wr [(0, .slice (a0.map fH)), (3, .aP 2 ((List.set bK (Int.toNat bo) ay).map cq)), (4, .int .i64 (IntKind.i64.wrap (bo + 1)))] ?_
    exact dn _ (.inr ⟨_, bs rfl, jj (List.set bK (Int.toNat bo) ay) (IntKind.i64.wrap (bo + 1)) h⟩)
   ·simp only [cP, aj.down]
    refine dY (fP 0 _ (cH 0 _ (cL _ (eL _ (.inl ?_)))))
    refine ws _ ?_
    exact aC (an _ (.inl (aD [.aP 2 (bK.map cq)])))
 obtain ⟨n, h⟩ := dR h
 exact dZ (.inr ⟨_, bs rfl, ji n (List.replicate (Int.toNat (a0.length : Int)) (cA.mk 0 0)) 0 h⟩)
theorem arh (a0 : List (List gU)) (r : (List (List cA))) (h : zM a0 = some r) : bh aE 189 [.slice (a0.map fQ)] (.aP 1 (r.map hT)) [] := by
 refine bR [0] [.tmp 2] Tryz.func189 XB (fun bM an bO => ?_)
 refine ws _ ?_
 obtain ⟨uY, aQ, h⟩ := aH h
 refine dK (cl [(0, .slice (a0.map fQ)), (3, .aP 1 (List.replicate (Int.toNat (a0.length : Int)) .bp))] (fun P ak => ?_) ?_)
 ·simp only [aZ.down, simprocAttr, dS, lU, nx, gp, gT, fZ, lW, fH, fQ, (dV aQ).1, (dV aQ).2.1, (dV aQ).2.2, er, List.map_replicate, -Int.reduceNatCast']
  (try simp only [bn.down, simprocAttr, fH, fQ, (dV aQ).1, (dV aQ).2.1, (dV aQ).2.2, er, List.map_replicate, -Int.reduceNatCast'] at ak ⊢); exact ak
 refine aJ an (fun eT eL ch bW => ?_)
 refine ws [(0, .slice (a0.map fQ)), (3, .aP 1 (List.replicate (Int.toNat (a0.length : Int)) .bp)), (4, .int .i64 0)] ?_
 refine bJ ch (fun fz eG dI cL cO => ?_)
 have ji : ∀ (n : Nat) (bK : List (List cA)) (bo : Int), zL a0 n bK bo = some r → dE aE LA fz (aa [(0, .slice (a0.map fQ)), (3, .aP 1 (bK.map hT)), (4, .int .i64 bo)]) := by
  intro m8
  induction m8 with
  | zero => intro bK bo h; cases (show none = some r from h)
  | succ m8 jj =>
   intro bK bo h
   replace h : KW (zL a0 m8) a0 bK bo = some r := h
   refine ea dI (fun gy dn dx cH => ?_)
   refine aJ dx (fun hx hn hc fP => ?_)
   refine ws _ ?_
   refine aU h (fun cP h => ?_) (fun cP h => ?_)
   ·simp only [cP, aj.down]
    refine aW (hn _ (.inl ?_))
    refine aJ dx (fun ia eO fI eS => ?_)
    refine bJ fI (fun jD f_ ix dj iV => ?_)
    obtain ⟨af, dD, h⟩ := aH h
    obtain ⟨ay, gN, h⟩ := aH h
    obtain ⟨a6, bY, h⟩ := aH h
    refine kf (cl [(0, .slice (a0.map fQ)), (3, .aP 1 ((List.set bK (Int.toNat bo) ay).map hT)), (4, .int .i64 bo)] (fun P ak => ?_) ?_)
    ·simp only [aZ.down, simprocAttr, dS, lU, nx, gp, gT, fZ, lW, cq, fH, fQ, hT, dD, bY, fR bY, h6, gn]
     refine fw (arf af _ gN) rfl rfl rfl rfl (.inl (by rfl)) ?_
     simp only [aZ.down, simprocAttr, dS, lU, nx, gp, gT, fZ, lW, cq, fH, fQ, hT, dD, bY, fR bY, h6, gn]
     (try simp only [bn.down, simprocAttr, cq, fH, fQ, hT, dD, bY, fR bY, h6, gn] at ak ⊢); exact ak
    refine f_ _ (eO _ (.inl ?_))
    refine wr [(0, .slice (a0.map fQ)), (3, .aP 1 ((List.set bK (Int.toNat bo) ay).map hT)), (4, .int .i64 (IntKind.i64.wrap (bo + 1)))] ?_
    exact dn _ (.inr ⟨_, bs rfl, jj (List.set bK (Int.toNat bo) ay) (IntKind.i64.wrap (bo + 1)) h⟩)
   ·simp only [cP, aj.down]
    refine dY (fP 0 _ (cH 0 _ (cL _ (eL _ (.inl ?_)))))
    refine ws _ ?_
    exact aC (an _ (.inl (aD [.aP 1 (bK.map hT)])))
 obtain ⟨n, h⟩ := dR h
 exact dZ (.inr ⟨_, ug [] rfl (mi (t := 0) (d := .slice (a0.map fQ)) rfl (ui (t := 3) (d := .aP 1 (List.replicate (Int.toNat (a0.length : Int)) .bp)) (bz := .aP 1 ((List.replicate (Int.toNat (a0.length : Int)) []).map hT)) rfl rfl (wD (u := hT) (z := []) (.nt _) _) (by decide) (mi (t := 4) (d := .int .i64 0) rfl (uh)))), ji n (List.replicate (Int.toNat (a0.length : Int)) []) 0 h⟩)
theorem ari (a0 : iB) (r : b7) (h : w1 a0 = some r) : bh aE 235 [gg a0] (h8 r) [] := by
 refine bR [0] [.cell 2 230] Tryz.func235 XJ (fun bM an bO => ?_)
 refine ws _ ?_
 refine ws _ ?_
 refine ws _ ?_
 refine ws _ ?_
 refine ws _ ?_
 obtain ⟨af, bS, h⟩ := aH h
 refine di (arh a0.dz _ bS) _ ?_
 refine ws _ ?_
 exact aC (an _ (.inl (aD [h8 (b7.mk a0.Kind a0.Number a0.Name af)])))
theorem arj (a0 : List iB) (r : (List b7)) (h : zO a0 = some r) : bh aE 161 [.slice (a0.map gg)] (.aP 4 (r.map h8)) [] := by
 refine bR [0] [.tmp 2] Tryz.func161 XS (fun bM an bO => ?_)
 refine ws _ ?_
 obtain ⟨uY, aQ, h⟩ := aH h
 refine dK (cl [(0, .slice (a0.map gg)), (3, .aP 4 (List.replicate (Int.toNat (a0.length : Int)) (.agg [(.int .i64 0), (.int .i64 0), (.str []), .bp])))] (fun P ak => ?_) ?_)
 ·simp only [aZ.down, simprocAttr, dS, ez, pT, ju, lU, nx, gp, gT, hQ, fZ, pU, lW, gg, fH, fQ, (dV aQ).1, (dV aQ).2.1, (dV aQ).2.2, er, List.map_replicate, -Int.reduceNatCast']
  (try simp only [bn.down, simprocAttr, gg, fH, fQ, (dV aQ).1, (dV aQ).2.1, (dV aQ).2.2, er, List.map_replicate, -Int.reduceNatCast'] at ak ⊢); exact ak
 refine aJ an (fun eT eL ch bW => ?_)
 refine ws [(0, .slice (a0.map gg)), (3, .aP 4 (List.replicate (Int.toNat (a0.length : Int)) (.agg [(.int .i64 0), (.int .i64 0), (.str []), .bp]))), (4, .int .i64 0)] ?_
 refine bJ ch (fun fz eG dI cL cO => ?_)
 have ji : ∀ (n : Nat) (bK : List b7) (bo : Int), zN a0 n bK bo = some r → dE aE LB fz (aa [(0, .slice (a0.map gg)), (3, .aP 4 (bK.map h8)), (4, .int .i64 bo)]) := by
  intro m8
  induction m8 with
  | zero => intro bK bo h; cases (show none = some r from h)
  | succ m8 jj =>
   intro bK bo h
   replace h : KX (zN a0 m8) a0 bK bo = some r := h
   refine ea dI (fun gy dn dx cH => ?_)
   refine aJ dx (fun hx hn hc fP => ?_)
   refine ws _ ?_
   refine aU h (fun cP h => ?_) (fun cP h => ?_)
   ·simp only [cP, aj.down]
    refine aW (hn _ (.inl ?_))
    refine aJ dx (fun ia eO fI eS => ?_)
    refine bJ fI (fun jD f_ ix dj iV => ?_)
    obtain ⟨af, dD, h⟩ := aH h
    obtain ⟨ay, gN, h⟩ := aH h
    obtain ⟨a6, bY, h⟩ := aH h
    refine kf (cl [(0, .slice (a0.map gg)), (3, .aP 4 ((List.set bK (Int.toNat bo) ay).map h8)), (4, .int .i64 bo)] (fun P ak => ?_) ?_)
    ·simp only [aZ.down, simprocAttr, dS, ez, pT, ju, lU, nx, gp, gT, hQ, fZ, pU, lW, cq, gg, fH, fQ, h8, hT, dD, bY, fR bY, h6, gn]
     refine fw (ari af _ gN) rfl rfl rfl rfl (.inl (by rfl)) ?_
     simp only [aZ.down, simprocAttr, dS, ez, pT, ju, lU, nx, gp, gT, hQ, fZ, pU, lW, cq, gg, fH, fQ, h8, hT, dD, bY, fR bY, h6, gn]
     (try simp only [bn.down, simprocAttr, cq, gg, fH, fQ, h8, hT, dD, bY, fR bY, h6, gn] at ak ⊢); exact ak
    refine f_ _ (eO _ (.inl ?_))
    refine wr [(0, .slice (a0.map gg)), (3, .aP 4 ((List.set bK (Int.toNat bo) ay).map h8)), (4, .int .i64 (IntKind.i64.wrap (bo + 1)))] ?_
    exact dn _ (.inr ⟨_, bs rfl, jj (List.set bK (Int.toNat bo) ay) (IntKind.i64.wrap (bo + 1)) h⟩)
   ·simp only [cP, aj.down]
    refine dY (fP 0 _ (cH 0 _ (cL _ (eL _ (.inl ?_)))))
    refine ws _ ?_
    exact aC (an _ (.inl (aD [.aP 4 (bK.map h8)])))
 obtain ⟨n, h⟩ := dR h
 exact dZ (.inr ⟨_, ug [] rfl (mi (t := 0) (d := .slice (a0.map gg)) rfl (ui (t := 3) (d := .aP 4 (List.replicate (Int.toNat (a0.length : Int)) (.agg [(.int .i64 0), (.int .i64 0), (.str []), .bp]))) (bz := .aP 4 ((List.replicate (Int.toNat (a0.length : Int)) (b7.mk 0 0 ([] : List UInt8) [])).map h8)) rfl rfl (wD (u := h8) (z := (b7.mk 0 0 ([] : List UInt8) [])) (.agg (.cons (.refl _) (.cons (.refl _) (.cons (.refl _) (.cons (.nt _) (.nil)))))) _) (by decide) (mi (t := 4) (d := .int .i64 0) rfl (uh)))), ji n (List.replicate (Int.toNat (a0.length : Int)) (b7.mk 0 0 ([] : List UInt8) [])) 0 h⟩)
theorem ark (a0 : iu) (r : bm) (h : w2 a0 = some r) : bh aE 98 [gC a0] (hU r) [] := by
 refine bR [0] [.cell 2 158] Tryz.func98 XZ (fun bM an bO => ?_)
 refine ws _ ?_
 refine ws _ ?_
 refine ws _ ?_
 refine ws _ ?_
 obtain ⟨af, bZ, h⟩ := aH h
 refine di (arj a0.Body _ bZ) _ ?_
 refine ws _ ?_
 exact aC (an _ (.inl (aD [hU (bm.mk a0.Name a0.dL af)])))
theorem arl (a0 : List iu) (r : (List bm)) (h : w3 a0 = some r) : bh aE 46 [.slice (a0.map gC)] (.aP 3 (r.map hU)) [] := by
 refine bR [0] [.tmp 2] Tryz.func46 X8 (fun bM an bO => ?_)
 refine ws _ ?_
 obtain ⟨uY, aQ, h⟩ := aH h
 refine dK (cl [(0, .slice (a0.map gC)), (3, .aP 3 (List.replicate (Int.toNat (a0.length : Int)) (.agg [(.str []), (.int .i64 0), .bp])))] (fun P ak => ?_) ?_)
 ·simp only [aZ.down, simprocAttr, dS, ez, ur, mj, pT, uw, ju, kk, lU, nx, gp, gT, hQ, fZ, pU, lW, gC, gg, fH, fQ, (dV aQ).1, (dV aQ).2.1, (dV aQ).2.2, er, List.map_replicate, -Int.reduceNatCast']
  (try simp only [bn.down, simprocAttr, gC, gg, fH, fQ, (dV aQ).1, (dV aQ).2.1, (dV aQ).2.2, er, List.map_replicate, -Int.reduceNatCast'] at ak ⊢); exact ak
 refine aJ an (fun eT eL ch bW => ?_)
 refine ws [(0, .slice (a0.map gC)), (3, .aP 3 (List.replicate (Int.toNat (a0.length : Int)) (.agg [(.str []), (.int .i64 0), .bp]))), (4, .int .i64 0)] ?_
 refine bJ ch (fun fz eG dI cL cO => ?_)
 have ji : ∀ (n : Nat) (bK : List bm) (bo : Int), zP a0 n bK bo = some r → dE aE LC fz (aa [(0, .slice (a0.map gC)), (3, .aP 3 (bK.map hU)), (4, .int .i64 bo)]) := by
  intro m8
  induction m8 with
  | zero => intro bK bo h; cases (show none = some r from h)
  | succ m8 jj =>
   intro bK bo h
   replace h : KY (zP a0 m8) a0 bK bo = some r := h
   refine ea dI (fun gy dn dx cH => ?_)
   refine aJ dx (fun hx hn hc fP => ?_)
   refine ws _ ?_
   refine aU h (fun cP h => ?_) (fun cP h => ?_)
   ·simp only [cP, aj.down]
    refine aW (hn _ (.inl ?_))
    refine aJ dx (fun ia eO fI eS => ?_)
    refine bJ fI (fun jD f_ ix dj iV => ?_)
    obtain ⟨af, dD, h⟩ := aH h
    obtain ⟨ay, gN, h⟩ := aH h
    obtain ⟨a6, bY, h⟩ := aH h
    refine kf (cl [(0, .slice (a0.map gC)), (3, .aP 3 ((List.set bK (Int.toNat bo) ay).map hU)), (4, .int .i64 bo)] (fun P ak => ?_) ?_)
    ·simp only [aZ.down, simprocAttr, dS, ez, ur, mj, pT, uw, ju, kk, lU, nx, gp, gT, hQ, fZ, pU, lW, cq, gC, gg, fH, fQ, hU, h8, hT, dD, bY, fR bY, h6, gn]
     refine fw (ark af _ gN) rfl rfl rfl rfl (.inl (by rfl)) ?_
     simp only [aZ.down, simprocAttr, dS, ez, ur, mj, pT, uw, ju, kk, lU, nx, gp, gT, hQ, fZ, pU, lW, cq, gC, gg, fH, fQ, hU, h8, hT, dD, bY, fR bY, h6, gn]
     (try simp only [bn.down, simprocAttr, cq, gC, gg, fH, fQ, hU, h8, hT, dD, bY, fR bY, h6, gn] at ak ⊢); exact ak
    refine f_ _ (eO _ (.inl ?_))
    refine wr [(0, .slice (a0.map gC)), (3, .aP 3 ((List.set bK (Int.toNat bo) ay).map hU)), (4, .int .i64 (IntKind.i64.wrap (bo + 1)))] ?_
    exact dn _ (.inr ⟨_, bs rfl, jj (List.set bK (Int.toNat bo) ay) (IntKind.i64.wrap (bo + 1)) h⟩)
   ·simp only [cP, aj.down]
    refine dY (fP 0 _ (cH 0 _ (cL _ (eL _ (.inl ?_)))))
    refine ws _ ?_
    exact aC (an _ (.inl (aD [.aP 3 (bK.map hU)])))
 obtain ⟨n, h⟩ := dR h
 exact dZ (.inr ⟨_, ug [] rfl (mi (t := 0) (d := .slice (a0.map gC)) rfl (ui (t := 3) (d := .aP 3 (List.replicate (Int.toNat (a0.length : Int)) (.agg [(.str []), (.int .i64 0), .bp]))) (bz := .aP 3 ((List.replicate (Int.toNat (a0.length : Int)) (bm.mk ([] : List UInt8) 0 [])).map hU)) rfl rfl (wD (u := hU) (z := (bm.mk ([] : List UInt8) 0 [])) (.agg (.cons (.refl _) (.cons (.refl _) (.cons (.nt _) (.nil))))) _) (by decide) (mi (t := 4) (d := .int .i64 0) rfl (uh)))), ji n (List.replicate (Int.toNat (a0.length : Int)) (bm.mk ([] : List UInt8) 0 [])) 0 h⟩)
theorem MR (a0 : List Int) (r : (List Int)) (h : w4 a0 = some r) : bh aE 14 [.slice (a0.map bD)] (.aP 1 (r.map bD)) [] := by
 refine bR [0] [.tmp 2] Tryz.func14 nG (fun bM an bO => ?_)
 refine ws _ ?_
 obtain ⟨arn, aQ, h⟩ := aH h
 refine dK (cl [(0, .slice (a0.map bD)), (3, .aP 1 ((List.replicate (Int.toNat (a0.length : Int)) 0).map bD))] (fun P ak => ?_) ?_)
 ·simp only [aZ.down, simprocAttr, dS, g_, bD, (dV aQ).1, (dV aQ).2.1, (dV aQ).2.2, er, List.map_replicate, -Int.reduceNatCast']
  (try simp only [bn.down, simprocAttr, bD, (dV aQ).1, (dV aQ).2.1, (dV aQ).2.2, er, List.map_replicate, -Int.reduceNatCast'] at ak ⊢); exact ak
 refine aJ an (fun eT eL ch bW => ?_)
 refine ws [(0, .slice (a0.map bD)), (3, .aP 1 ((List.replicate (Int.toNat (a0.length : Int)) 0).map bD)), (4, .int .i64 0)] ?_
 refine bJ ch (fun fz eG dI cL cO => ?_)
 have ji : ∀ (n : Nat) (bK : List Int) (bo : Int), zQ a0 n bK bo = some r → dE aE LD fz (aa [(0, .slice (a0.map bD)), (3, .aP 1 (bK.map bD)), (4, .int .i64 bo)]) := by
  intro m8
  induction m8 with
  | zero => intro bK bo h; cases (show none = some r from h)
  | succ m8 jj =>
   intro bK bo h
   replace h : KZ (zQ a0 m8) a0 bK bo = some r := h
   refine ea dI (fun gy dn dx cH => ?_)
   refine aJ dx (fun hx hn hc fP => ?_)
   refine ws _ ?_
   refine aU h (fun cP h => ?_) (fun cP h => ?_)
   ·simp only [cP, aj.down]
    refine aW (hn _ (.inl ?_))
    refine aJ dx (fun ia eO fI eS => ?_)
    refine bJ fI (fun jD f_ ix dj iV => ?_)
    obtain ⟨af, dD, h⟩ := aH h
    obtain ⟨ay, gN, h⟩ := aH h
    refine kf (cl [(0, .slice (a0.map bD)), (3, .aP 1 ((List.set bK (Int.toNat bo) af).map bD)), (4, .int .i64 bo)] (fun P ak => ?_) ?_)
    ·simp only [aZ.down, simprocAttr, dS, g_, bD, dD, gN, fR gN, h6, gn]
     (try simp only [bn.down, simprocAttr, bD, dD, gN, fR gN, h6, gn] at ak ⊢); exact ak
    refine f_ _ (eO _ (.inl ?_))
    refine wr [(0, .slice (a0.map bD)), (3, .aP 1 ((List.set bK (Int.toNat bo) af).map bD)), (4, .int .i64 (IntKind.i64.wrap (bo + 1)))] ?_
    exact dn _ (.inr ⟨_, bs rfl, jj (List.set bK (Int.toNat bo) af) (IntKind.i64.wrap (bo + 1)) h⟩)
   ·simp only [cP, aj.down]
    refine dY (fP 0 _ (cH 0 _ (cL _ (eL _ (.inl ?_)))))
    refine ws _ ?_
    exact aC (an _ (.inl (aD [.aP 1 (bK.map bD)])))
 obtain ⟨n, h⟩ := dR h
 exact dZ (.inr ⟨_, bs rfl, ji n (List.replicate (Int.toNat (a0.length : Int)) 0) 0 h⟩)
theorem aro (a0 : iC) (r : eF) (h : w5 a0 = some r) : bh aE 172 [gD a0] (hV r) [] := by
 refine bR [0] [.cell 2 248] Tryz.func172 Yl (fun bM an bO => ?_)
 refine ws _ ?_
 refine ws _ ?_
 refine ws _ ?_
 obtain ⟨af, cR, h⟩ := aH h
 refine di (MR a0.cX _ cR) _ ?_
 refine ws _ ?_
 exact aC (an _ (.inl (aD [hV (eF.mk a0.dT af)])))
theorem arp (a0 : List iC) (r : (List eF)) (h : zS a0 = some r) : bh aE 108 [.slice (a0.map gD)] (.aP 2 (r.map hV)) [] := by
 refine bR [0] [.tmp 2] Tryz.func108 Yu (fun bM an bO => ?_)
 refine ws _ ?_
 obtain ⟨uY, aQ, h⟩ := aH h
 refine dK (cl [(0, .slice (a0.map gD)), (3, .aP 2 (List.replicate (Int.toNat (a0.length : Int)) (.agg [(.int .i64 0), .bp])))] (fun P ak => ?_) ?_)
 ·simp only [aZ.down, simprocAttr, dS, g_, uu, nw, ux, mL, bD, gD, (dV aQ).1, (dV aQ).2.1, (dV aQ).2.2, er, List.map_replicate, -Int.reduceNatCast']
  (try simp only [bn.down, simprocAttr, bD, gD, (dV aQ).1, (dV aQ).2.1, (dV aQ).2.2, er, List.map_replicate, -Int.reduceNatCast'] at ak ⊢); exact ak
 refine aJ an (fun eT eL ch bW => ?_)
 refine ws [(0, .slice (a0.map gD)), (3, .aP 2 (List.replicate (Int.toNat (a0.length : Int)) (.agg [(.int .i64 0), .bp]))), (4, .int .i64 0)] ?_
 refine bJ ch (fun fz eG dI cL cO => ?_)
 have ji : ∀ (n : Nat) (bK : List eF) (bo : Int), zR a0 n bK bo = some r → dE aE LF fz (aa [(0, .slice (a0.map gD)), (3, .aP 2 (bK.map hV)), (4, .int .i64 bo)]) := by
  intro m8
  induction m8 with
  | zero => intro bK bo h; cases (show none = some r from h)
  | succ m8 jj =>
   intro bK bo h
   replace h : K0 (zR a0 m8) a0 bK bo = some r := h
   refine ea dI (fun gy dn dx cH => ?_)
   refine aJ dx (fun hx hn hc fP => ?_)
   refine ws _ ?_
   refine aU h (fun cP h => ?_) (fun cP h => ?_)
   ·simp only [cP, aj.down]
    refine aW (hn _ (.inl ?_))
    refine aJ dx (fun ia eO fI eS => ?_)
    refine bJ fI (fun jD f_ ix dj iV => ?_)
    obtain ⟨af, dD, h⟩ := aH h
    obtain ⟨ay, gN, h⟩ := aH h
    obtain ⟨a6, bY, h⟩ := aH h
    refine kf (cl [(0, .slice (a0.map gD)), (3, .aP 2 ((List.set bK (Int.toNat bo) ay).map hV)), (4, .int .i64 bo)] (fun P ak => ?_) ?_)
    ·simp only [aZ.down, simprocAttr, dS, g_, uu, nw, ux, mL, bD, gD, hV, dD, bY, fR bY, h6, gn]
     refine fw (aro af _ gN) rfl rfl rfl rfl (.inl (by rfl)) ?_
     simp only [aZ.down, simprocAttr, dS, g_, uu, nw, ux, mL, bD, gD, hV, dD, bY, fR bY, h6, gn]
     (try simp only [bn.down, simprocAttr, bD, gD, hV, dD, bY, fR bY, h6, gn] at ak ⊢); exact ak
    refine f_ _ (eO _ (.inl ?_))
    refine wr [(0, .slice (a0.map gD)), (3, .aP 2 ((List.set bK (Int.toNat bo) ay).map hV)), (4, .int .i64 (IntKind.i64.wrap (bo + 1)))] ?_
    exact dn _ (.inr ⟨_, bs rfl, jj (List.set bK (Int.toNat bo) ay) (IntKind.i64.wrap (bo + 1)) h⟩)
   ·simp only [cP, aj.down]
    refine dY (fP 0 _ (cH 0 _ (cL _ (eL _ (.inl ?_)))))
    refine ws _ ?_
    exact aC (an _ (.inl (aD [.aP 2 (bK.map hV)])))
 obtain ⟨n, h⟩ := dR h
 exact dZ (.inr ⟨_, ug [] rfl (mi (t := 0) (d := .slice (a0.map gD)) rfl (ui (t := 3) (d := .aP 2 (List.replicate (Int.toNat (a0.length : Int)) (.agg [(.int .i64 0), .bp]))) (bz := .aP 2 ((List.replicate (Int.toNat (a0.length : Int)) (eF.mk 0 [])).map hV)) rfl rfl (wD (u := hV) (z := (eF.mk 0 [])) (.agg (.cons (.refl _) (.cons (.nt _) (.nil)))) _) (by decide) (mi (t := 4) (d := .int .i64 0) rfl (uh)))), ji n (List.replicate (Int.toNat (a0.length : Int)) (eF.mk 0 [])) 0 h⟩)
theorem arq (a0 : iv) (r : c2) (h : w6 a0 = some r) : bh aE 173 [gw a0] (bB r) [] := by
 refine bR [0] [.cell 2 250] Tryz.func173 YB (fun bM an bO => ?_)
 refine ws _ ?_
 refine ws _ ?_
 refine ws _ ?_
 refine ws _ ?_
 refine ws _ ?_
 refine ws _ ?_
 exact aC (an _ (.inl (aD [bB (c2.mk a0.Left a0.cp a0.Result)])))
theorem ars (a0 : List iv) (r : (List c2)) (h : zU a0 = some r) : bh aE 109 [.slice (a0.map gw)] (.aP 3 (r.map bB)) [] := by
 refine bR [0] [.tmp 2] Tryz.func109 YK (fun bM an bO => ?_)
 refine ws _ ?_
 obtain ⟨uY, aQ, h⟩ := aH h
 refine dK (cl [(0, .slice (a0.map gw)), (3, .aP 3 ((List.replicate (Int.toNat (a0.length : Int)) (c2.mk ([] : List UInt8) ([] : List UInt8) ([] : List UInt8))).map bB))] (fun P ak => ?_) ?_)
 ·simp only [aZ.down, simprocAttr, ez, uv, om, uy, lV, bB, gw, (dV aQ).1, (dV aQ).2.1, (dV aQ).2.2, er, List.map_replicate, -Int.reduceNatCast']
  (try simp only [bn.down, simprocAttr, bB, gw, (dV aQ).1, (dV aQ).2.1, (dV aQ).2.2, er, List.map_replicate, -Int.reduceNatCast'] at ak ⊢); exact ak
 refine aJ an (fun eT eL ch bW => ?_)
 refine ws [(0, .slice (a0.map gw)), (3, .aP 3 ((List.replicate (Int.toNat (a0.length : Int)) (c2.mk ([] : List UInt8) ([] : List UInt8) ([] : List UInt8))).map bB)), (4, .int .i64 0)] ?_
 refine bJ ch (fun fz eG dI cL cO => ?_)
 have ji : ∀ (n : Nat) (bK : List c2) (bo : Int), zT a0 n bK bo = some r → dE aE LG fz (aa [(0, .slice (a0.map gw)), (3, .aP 3 (bK.map bB)), (4, .int .i64 bo)]) := by
  intro m8
  induction m8 with
  | zero => intro bK bo h; cases (show none = some r from h)
  | succ m8 jj =>
   intro bK bo h
   replace h : K1 (zT a0 m8) a0 bK bo = some r := h
   refine ea dI (fun gy dn dx cH => ?_)
   refine aJ dx (fun hx hn hc fP => ?_)
   refine ws _ ?_
   refine aU h (fun cP h => ?_) (fun cP h => ?_)
   ·simp only [cP, aj.down]
    refine aW (hn _ (.inl ?_))
    refine aJ dx (fun ia eO fI eS => ?_)
    refine bJ fI (fun jD f_ ix dj iV => ?_)
    obtain ⟨af, dD, h⟩ := aH h
    obtain ⟨ay, gN, h⟩ := aH h
    obtain ⟨a6, bY, h⟩ := aH h
    refine kf (cl [(0, .slice (a0.map gw)), (3, .aP 3 ((List.set bK (Int.toNat bo) ay).map bB)), (4, .int .i64 bo)] (fun P ak => ?_) ?_)
    ·simp only [aZ.down, simprocAttr, ez, uv, om, uy, lV, bB, gw, dD, bY, fR bY, h6, gn]
     refine fw (arq af _ gN) rfl rfl rfl rfl (.inl (by rfl)) ?_
     simp only [aZ.down, simprocAttr, ez, uv, om, uy, lV, bB, gw, dD, bY, fR bY, h6, gn]
     (try simp only [bn.down, simprocAttr, bB, gw, dD, bY, fR bY, h6, gn] at ak ⊢); exact ak
    refine f_ _ (eO _ (.inl ?_))
    refine wr [(0, .slice (a0.map gw)), (3, .aP 3 ((List.set bK (Int.toNat bo) ay).map bB)), (4, .int .i64 (IntKind.i64.wrap (bo + 1)))] ?_
    exact dn _ (.inr ⟨_, bs rfl, jj (List.set bK (Int.toNat bo) ay) (IntKind.i64.wrap (bo + 1)) h⟩)
   ·simp only [cP, aj.down]
    refine dY (fP 0 _ (cH 0 _ (cL _ (eL _ (.inl ?_)))))
    refine ws _ ?_
    exact aC (an _ (.inl (aD [.aP 3 (bK.map bB)])))
 obtain ⟨n, h⟩ := dR h
 exact dZ (.inr ⟨_, bs rfl, ji n (List.replicate (Int.toNat (a0.length : Int)) (c2.mk ([] : List UInt8) ([] : List UInt8) ([] : List UInt8))) 0 h⟩)
theorem MS (a0 : List (List UInt8)) (r : (List (List UInt8))) (h : w7 a0 = some r) : bh aE 30 [.slice (a0.map bw)] (.aP 1 (r.map bw)) [] := by
 refine bR [0] [.tmp 2] Tryz.func30 YT (fun bM an bO => ?_)
 refine ws _ ?_
 obtain ⟨arn, aQ, h⟩ := aH h
 refine dK (cl [(0, .slice (a0.map bw)), (3, .aP 1 ((List.replicate (Int.toNat (a0.length : Int)) ([] : List UInt8)).map bw))] (fun P ak => ?_) ?_)
 ·simp only [aZ.down, simprocAttr, ez, kj, bw, (dV aQ).1, (dV aQ).2.1, (dV aQ).2.2, er, List.map_replicate, -Int.reduceNatCast']
  (try simp only [bn.down, simprocAttr, bw, (dV aQ).1, (dV aQ).2.1, (dV aQ).2.2, er, List.map_replicate, -Int.reduceNatCast'] at ak ⊢); exact ak
 refine aJ an (fun eT eL ch bW => ?_)
 refine ws [(0, .slice (a0.map bw)), (3, .aP 1 ((List.replicate (Int.toNat (a0.length : Int)) ([] : List UInt8)).map bw)), (4, .int .i64 0)] ?_
 refine bJ ch (fun fz eG dI cL cO => ?_)
 have ji : ∀ (n : Nat) (bK : List (List UInt8)) (bo : Int), zV a0 n bK bo = some r → dE aE LH fz (aa [(0, .slice (a0.map bw)), (3, .aP 1 (bK.map bw)), (4, .int .i64 bo)]) := by
  intro m8
  induction m8 with
  | zero => intro bK bo h; cases (show none = some r from h)
  | succ m8 jj =>
   intro bK bo h
   replace h : K2 (zV a0 m8) a0 bK bo = some r := h
   refine ea dI (fun gy dn dx cH => ?_)
   refine aJ dx (fun hx hn hc fP => ?_)
   refine ws _ ?_
   refine aU h (fun cP h => ?_) (fun cP h => ?_)
   ·simp only [cP, aj.down]
    refine aW (hn _ (.inl ?_))
    refine aJ dx (fun ia eO fI eS => ?_)
    refine bJ fI (fun jD f_ ix dj iV => ?_)
    obtain ⟨af, dD, h⟩ := aH h
    obtain ⟨ay, gN, h⟩ := aH h
    refine kf (cl [(0, .slice (a0.map bw)), (3, .aP 1 ((List.set bK (Int.toNat bo) af).map bw)), (4, .int .i64 bo)] (fun P ak => ?_) ?_)
    ·simp only [aZ.down, simprocAttr, ez, kj, bw, dD, gN, fR gN, h6, gn]
     (try simp only [bn.down, simprocAttr, bw, dD, gN, fR gN, h6, gn] at ak ⊢); exact ak
    refine f_ _ (eO _ (.inl ?_))
    refine wr [(0, .slice (a0.map bw)), (3, .aP 1 ((List.set bK (Int.toNat bo) af).map bw)), (4, .int .i64 (IntKind.i64.wrap (bo + 1)))] ?_
    exact dn _ (.inr ⟨_, bs rfl, jj (List.set bK (Int.toNat bo) af) (IntKind.i64.wrap (bo + 1)) h⟩)
   ·simp only [cP, aj.down]
    refine dY (fP 0 _ (cH 0 _ (cL _ (eL _ (.inl ?_)))))
    refine ws _ ?_
    exact aC (an _ (.inl (aD [.aP 1 (bK.map bw)])))
 obtain ⟨n, h⟩ := dR h
 exact dZ (.inr ⟨_, bs rfl, ji n (List.replicate (Int.toNat (a0.length : Int)) ([] : List UInt8)) 0 h⟩)
theorem FB (a0 : kx) (r : dh) (h : r_ a0 = some r) : bh aE 59 [mo a0] (nF r) [] := by
 refine bR [0] [.cell 2 94] Tryz.func59 Y2 (fun bM an bO => ?_)
 refine ws _ ?_
 refine ws _ ?_
 obtain ⟨af, ca, h⟩ := aH h
 refine di (arl a0.df _ ca) _ ?_
 obtain ⟨ay, bZ, h⟩ := aH h
 refine di (arp a0.cY _ bZ) _ ?_
 obtain ⟨a6, hi, h⟩ := aH h
 refine di (ars a0.hR _ hi) _ ?_
 obtain ⟨bW, n0, h⟩ := aH h
 refine di (MS a0.hF _ n0) _ ?_
 obtain ⟨cf, iJ, h⟩ := aH h
 refine di (MS a0.hG _ iJ) _ ?_
 refine ws _ ?_
 exact aC (an _ (.inl (aD [nF (dh.mk af ay a6 bW cf)])))
theorem art (a0 : iw) (r : c8) (h : w8 a0 = some r) : bh aE 47 [hH a0] (iM r) [] := by
 refine bR [0] [.cell 2 74] Tryz.func47 sC (fun bM an bO => ?_)
 refine ws _ ?_
 refine ws _ ?_
 refine ws _ ?_
 refine ws _ ?_
 obtain ⟨af, bZ, h⟩ := aH h
 refine di (MR a0.cX _ bZ) _ ?_
 refine ws _ ?_
 exact aC (an _ (.inl (aD [iM (c8.mk a0.dT a0.Part af)])))
theorem FC (a0 : List iw) (r : (List c8)) (h : uC a0 = some r) : bh aE 60 [.slice (a0.map hH)] (.aP 3 (r.map iM)) [] := by
 refine bR [0] [.tmp 2] Tryz.func60 Zg (fun bM an bO => ?_)
 refine ws _ ?_
 obtain ⟨uY, aQ, h⟩ := aH h
 refine dK (cl [(0, .slice (a0.map hH)), (3, .aP 3 (List.replicate (Int.toNat (a0.length : Int)) (.agg [(.int .i64 0), (.int .i64 0), .bp])))] (fun P ak => ?_) ?_)
 ·simp only [aZ.down, simprocAttr, dS, g_, zv, lf, zw, r8, bD, hH, (dV aQ).1, (dV aQ).2.1, (dV aQ).2.2, er, List.map_replicate, -Int.reduceNatCast']
  (try simp only [bn.down, simprocAttr, bD, hH, (dV aQ).1, (dV aQ).2.1, (dV aQ).2.2, er, List.map_replicate, -Int.reduceNatCast'] at ak ⊢); exact ak
 refine aJ an (fun eT eL ch bW => ?_)
 refine ws [(0, .slice (a0.map hH)), (3, .aP 3 (List.replicate (Int.toNat (a0.length : Int)) (.agg [(.int .i64 0), (.int .i64 0), .bp]))), (4, .int .i64 0)] ?_
 refine bJ ch (fun fz eG dI cL cO => ?_)
 have ji : ∀ (n : Nat) (bK : List c8) (bo : Int), zW a0 n bK bo = some r → dE aE LI fz (aa [(0, .slice (a0.map hH)), (3, .aP 3 (bK.map iM)), (4, .int .i64 bo)]) := by
  intro m8
  induction m8 with
  | zero => intro bK bo h; cases (show none = some r from h)
  | succ m8 jj =>
   intro bK bo h
   replace h : K3 (zW a0 m8) a0 bK bo = some r := h
   refine ea dI (fun gy dn dx cH => ?_)
   refine aJ dx (fun hx hn hc fP => ?_)
   refine ws _ ?_
   refine aU h (fun cP h => ?_) (fun cP h => ?_)
   ·simp only [cP, aj.down]
    refine aW (hn _ (.inl ?_))
    refine aJ dx (fun ia eO fI eS => ?_)
    refine bJ fI (fun jD f_ ix dj iV => ?_)
    obtain ⟨af, dD, h⟩ := aH h
    obtain ⟨ay, gN, h⟩ := aH h
    obtain ⟨a6, bY, h⟩ := aH h
    refine kf (cl [(0, .slice (a0.map hH)), (3, .aP 3 ((List.set bK (Int.toNat bo) ay).map iM)), (4, .int .i64 bo)] (fun P ak => ?_) ?_)
    ·simp only [aZ.down, simprocAttr, dS, g_, zv, lf, zw, r8, bD, hH, iM, dD, bY, fR bY, h6, gn]
     refine fw (art af _ gN) rfl rfl rfl rfl (.inl (by rfl)) ?_
     simp only [aZ.down, simprocAttr, dS, g_, zv, lf, zw, r8, bD, hH, iM, dD, bY, fR bY, h6, gn]
     (try simp only [bn.down, simprocAttr, uW.down, dD, bY, fR bY, h6, gn] at ak ⊢); exact ak
    refine f_ _ (eO _ (.inl ?_))
    refine wr [(0, .slice (a0.map hH)), (3, .aP 3 ((List.set bK (Int.toNat bo) ay).map iM)), (4, .int .i64 (IntKind.i64.wrap (bo + 1)))] ?_
    exact dn _ (.inr ⟨_, bs rfl, jj (List.set bK (Int.toNat bo) ay) (IntKind.i64.wrap (bo + 1)) h⟩)
   ·simp only [cP, aj.down]
    refine dY (fP 0 _ (cH 0 _ (cL _ (eL _ (.inl ?_)))))
    refine ws _ ?_
    exact aC (an _ (.inl (aD [.aP 3 (bK.map iM)])))
 obtain ⟨n, h⟩ := dR h
 exact dZ (.inr ⟨_, ug [] rfl (mi (t := 0) (d := .slice (a0.map hH)) rfl (ui (t := 3) (d := .aP 3 (List.replicate (Int.toNat (a0.length : Int)) (.agg [(.int .i64 0), (.int .i64 0), .bp]))) (bz := .aP 3 ((List.replicate (Int.toNat (a0.length : Int)) (c8.mk 0 0 [])).map iM)) rfl rfl (wD (u := iM) (z := (c8.mk 0 0 [])) (.agg (.cons (.refl _) (.cons (.refl _) (.cons (.nt _) (.nil))))) _) (by decide) (mi (t := 4) (d := .int .i64 0) rfl (uh)))), ji n (List.replicate (Int.toNat (a0.length : Int)) (c8.mk 0 0 [])) 0 h⟩)
theorem FD (a0 : UInt8) (r : Bool) (h : w9 a0 = some r) : bh aE 228 [.int .u8 (a0.toNat : Int)] (.bool r) [] := by
 refine bR [0] [.tmp 2] Tryz.func228 Zj (fun bM an bO => ?_)
 refine ws _ ?_
 refine dK (cl [(2, .bool ((decide (97 ≤ (a0.toNat : Int))) && (decide ((a0.toNat : Int) ≤ 122))))] (fun P ak => ?_) ?_)
 ·rcases Bool.eq_false_or_eq_true (decide (97 ≤ (a0.toNat : Int))) with fb | fb
  ·simp only [aZ.down, simprocAttr, fb]
   (try simp only [bn.down, simprocAttr, fb] at ak ⊢); exact ak
  ·simp only [aZ.down, simprocAttr, fb]
   (try simp only [bn.down, simprocAttr, fb] at ak ⊢); exact ak
 exact aC (an _ (.inl (aD [.bool ((decide (97 ≤ (a0.toNat : Int))) && (decide ((a0.toNat : Int) ≤ 122)))])))
theorem aru (a0 : UInt8) (r : Bool) (h : EH a0 = some r) : bh aE 229 [.int .u8 (a0.toNat : Int)] (.bool r) [] := by
 refine bR [0] [.tmp 2] Tryz.func229 Zm (fun bM an bO => ?_)
 refine ws _ ?_
 refine dK (cl [(2, .bool ((decide (48 ≤ (a0.toNat : Int))) && (decide ((a0.toNat : Int) ≤ 57))))] (fun P ak => ?_) ?_)
 ·rcases Bool.eq_false_or_eq_true (decide (48 ≤ (a0.toNat : Int))) with fb | fb
  ·simp only [aZ.down, simprocAttr, fb]
   (try simp only [bn.down, simprocAttr, fb] at ak ⊢); exact ak
  ·simp only [aZ.down, simprocAttr, fb]
   (try simp only [bn.down, simprocAttr, fb] at ak ⊢); exact ak
 exact aC (an _ (.inl (aD [.bool ((decide (48 ≤ (a0.toNat : Int))) && (decide ((a0.toNat : Int) ≤ 57)))])))
theorem x5 (a0 : List UInt8) (r : Bool) (h : uE a0 = some r) : bh aE 157 [.str a0] (.bool r) [] := by
 refine bR [0] [.tmp 2] Tryz.func157 Zz (fun bM an bO => ?_)
 refine ws _ ?_
 refine aJ an (fun et b0 bg ay => ?_)
 rcases eZ h with ⟨bA, h⟩ | ⟨bA, h⟩
 ·refine hW bA _ ?_
  refine jc rfl ?_
  refine ws _ ?_
  exact aC (bg _ (.inl (aD [.bool false])))
 ·rcases eZ h with ⟨cL, h⟩ | ⟨cL, h⟩
  ·refine hW (And.intro bA cL) _ ?_
   refine jc rfl ?_
   refine ws _ ?_
   exact aC (bg _ (.inl (aD [.bool false])))
  ·obtain ⟨af, hi, h⟩ := aH h
   obtain ⟨ay, ln, h⟩ := aH h
   refine dK (cl [(0, .str a0), (16, .bool (!ay))] (fun P ak => ?_) ?_)
   ·simp only [aZ.down, simprocAttr, ez, bA, cL, hi]
    refine hv (FD af _ ln) rfl rfl rfl rfl (.inl (by rfl)) ?_
    simp only [aZ.down, simprocAttr, ez, bA, cL, hi]
    (try simp only [bn.down, simprocAttr, bA, cL, hi] at ak ⊢); exact ak
   refine aU h (fun cP h => ?_) (fun cP h => ?_)
   ·simp only [(cG cP), aj.down]
    refine ws _ ?_
    exact aC (bg _ (.inl (aD [.bool false])))
   ·simp only [(bd cP), aj.down]
    refine aW (b0 _ (.inl ?_))
    refine aJ an (fun jD f_ ix iV => ?_)
    refine ws _ ?_
    refine bJ ix (fun ib eP eB eX iE => ?_)
    have hy : ∀ (n : Nat) (dk : Int), uD a0 n dk = some r → dE aE LJ ib (aa [(0, .str a0), (3, .int .i64 dk)]) := by
     intro m14
     induction m14 with
     | zero => intro dk h; cases (show none = some r from h)
     | succ m14 hf =>
      intro dk h
      replace h : zX (uD a0 m14) a0 dk = some r := h
      refine ea eB (fun kB gV gE j4 => ?_)
      refine aJ gE (fun p3 km lh p4 => ?_)
      refine ws _ ?_
      refine aU h (fun e8 h => ?_) (fun e8 h => ?_)
      ·simp only [e8, aj.down]
       refine aW (km _ (.inl ?_))
       refine aJ gE (fun MT uZ BN FE => ?_)
       refine bJ BN (fun arv BO FF dN arw => ?_)
       obtain ⟨a6, hI, h⟩ := aH h
       obtain ⟨bW, sI, h⟩ := aH h
       rcases eZ h with ⟨iN, h⟩ | ⟨iN, h⟩
       ·obtain ⟨cf, kn, h⟩ := aH h
        refine dK (cl [(0, .str a0), (3, .int .i64 dk), (34, .bool (!cf))] (fun P ak => ?_) ?_)
        ·simp only [aZ.down, simprocAttr, ez, hI, (cG iN)]
         refine fw (FD a6 _ sI) rfl rfl rfl rfl (.inl (by rfl)) ?_
         simp only [aZ.down, simprocAttr, ez, hI, (cG iN)]
         refine hv (aru a6 _ kn) rfl rfl rfl rfl (.inl (by rfl)) ?_
         simp only [aZ.down, simprocAttr, ez, hI, (cG iN)]
         (try simp only [bn.down, simprocAttr, hI, (cG iN)] at ak ⊢); exact ak
        refine aU h (fun gq h => ?_) (fun gq h => ?_)
        ·simp only [(cG gq), aj.down]
         refine ws _ ?_
         exact aC (FF _ (.inl (aD [.bool false])))
        ·simp only [(bd gq), aj.down]
         refine aW (BO _ (uZ _ (.inl ?_)))
         refine wr _ ?_
         exact gV _ (.inr ⟨_, bs rfl, hf (IntKind.i64.wrap (dk + 1)) h⟩)
       ·refine hX (And.intro hI (bd iN)) (FD a6 _ sI) _ ?_
        refine r0 rfl ?_
        refine aW (BO _ (uZ _ (.inl ?_)))
        refine wr _ ?_
        exact gV _ (.inr ⟨_, bs rfl, hf (IntKind.i64.wrap (dk + 1)) h⟩)
      ·simp only [e8, aj.down]
       refine dY (p4 0 _ (j4 0 _ (eX _ (f_ _ (.inl ?_)))))
       refine ws _ ?_
       exact aC (an _ (.inl (aD [.bool true])))
    obtain ⟨n, h⟩ := dR h
    exact dZ (.inr ⟨_, bs rfl, hy n 0 h⟩)
theorem mr (a0 : Int) (U : Int) (a2 : Int) (r : Bool) (h : ky a0 U a2 = some r) : bh aE 115 [.int .i64 a0, .int .i64 U, .int .i64 a2] (.bool r) [] := by
 refine bR [0, 1, 2] [.tmp 6] Tryz.func115 ZC (fun bM an bO => ?_)
 refine ws _ ?_
 refine dK (cl [(6, .bool ((decide (U ≤ a0)) && (decide (a0 ≤ a2))))] (fun P ak => ?_) ?_)
 ·rcases Bool.eq_false_or_eq_true (decide (U ≤ a0)) with fb | fb
  ·simp only [aZ.down, simprocAttr, fb]
   (try simp only [bn.down, simprocAttr, fb] at ak ⊢); exact ak
  ·simp only [aZ.down, simprocAttr, fb]
   (try simp only [bn.down, simprocAttr, fb] at ak ⊢); exact ak
 exact aC (an _ (.inl (aD [.bool ((decide (U ≤ a0)) && (decide (a0 ≤ a2)))])))
theorem MU (a0 : b7) (r : Int) (h : xa a0 = some r) : bh aE 274 [.ref (cc a0)] (.int .i64 r) [] := by
 refine bR [0] [.tmp 2] Tryz.func274 ZP (fun bM an bO => ?_)
 refine ws _ ?_
 refine aJ an (fun et b0 bg ay => ?_)
 refine ws _ ?_
 refine bJ bg (fun eT eL ch bA bW => ?_)
 have sJ : ∀ (ha : Bool), w_ a0 ha = some r → cW aE LK eT (aa [(6, .int .i64 a0.Kind), (7, .bool ha)]) := by
  intro ha h
  refine aU h (fun cL h => ?_) (fun cL h => ?_)
  ·simp only [cL, aj.down]
   refine ws _ ?_
   exact aC (ch _ (.inl (aD [.int .i64 1])))
  ·simp only [cL, aj.down]
   refine ws _ ?_
   refine aU h (fun ed h => ?_) (fun ed h => ?_)
   ·simp only [ed, aj.down]
    refine ws _ ?_
    exact aC (ch _ (.inl (aD [.int .i64 2])))
   ·simp only [ed, aj.down]
    refine aW (eL _ (b0 _ (.inl ?_)))
    refine ws _ ?_
    exact aC (an _ (.inl (aD [.int .i64 0])))
 refine aJ ch (fun iX e3 dW cf => ?_)
 refine ws _ ?_
 refine aU h (fun dd h => ?_) (fun dd h => ?_)
 ·simp only [dd, aj.down]
  exact aW (e3 _ (.inr ⟨_, bs rfl, sJ true h⟩))
 ·simp only [dd, aj.down]
  refine ws _ ?_
  refine aU h (fun c4 h => ?_) (fun c4 h => ?_)
  ·simp only [c4, aj.down]
   exact aW (e3 _ (.inr ⟨_, bs rfl, sJ true h⟩))
  ·simp only [c4, aj.down]
   refine wr _ ?_
   exact e3 _ (.inr ⟨_, bs rfl, sJ (a0.Kind == 4) h⟩)
theorem arx (a0 : List b7) (r : Bool) (h : zZ a0 = some r) : bh aE 230 [.slice (a0.map cc)] (.bool r) [] := by
 refine bR [0] [.tmp 2] Tryz.func230 Z4 (fun bM an bO => ?_)
 refine ws _ ?_
 refine aJ an (fun et b0 bg ay => ?_)
 refine dK (cl [(0, .slice (a0.map cc)), (12, .bool (((a0.length : Int) == 0) || (decide (20 < (a0.length : Int)))))] (fun P ak => ?_) ?_)
 ·rcases Bool.eq_false_or_eq_true ((a0.length : Int) == 0) with hl | hl
  ·simp only [aZ.down, simprocAttr, BG.down, hl]
   (try simp only [bn.down, simprocAttr, mq.down, hl] at ak ⊢); exact ak
  ·simp only [aZ.down, simprocAttr, BG.down, hl]
   (try simp only [bn.down, simprocAttr, mq.down, hl] at ak ⊢); exact ak
 refine aU h (fun bE h => ?_) (fun bE h => ?_)
 ·simp only [bE, aj.down]
  refine ws _ ?_
  exact aC (bg _ (.inl (aD [.bool false])))
 ·simp only [bE, aj.down]
  refine aW (b0 _ (.inl ?_))
  refine ws _ ?_
  refine aJ an (fun hx hn hc fP => ?_)
  refine ws _ ?_
  refine bJ hc (fun ff cE cx cP da => ?_)
  have jg : ∀ (n : Nat) (fe : Int) (fo : Int), sa a0 n fe fo = some r → dE aE LL ff (aa [(0, .slice (a0.map cc)), (3, .int .i64 fe), (4, .int .i64 fo)]) := by
   intro m16
   induction m16 with
   | zero => intro fe fo h; cases (show none = some r from h)
   | succ m16 jh =>
    intro fe fo h
    replace h : zY (sa a0 m16) a0 fe fo = some r := h
    refine ea cx (fun ia eO fI eS => ?_)
    refine aJ fI (fun jD f_ ix iV => ?_)
    refine ws _ ?_
    refine aU h (fun eX h => ?_) (fun eX h => ?_)
    ·simp only [eX, aj.down]
     refine aW (f_ _ (.inl ?_))
     refine aJ fI (fun kB gV gE j4 => ?_)
     refine bJ gE (fun p3 km lh j5 p4 => ?_)
     refine aJ lh (fun oy jP jQ nI => ?_)
     refine ws _ ?_
     refine aU h (fun eW h => ?_) (fun eW h => ?_)
     ·simp only [eW, aj.down]
      refine ws _ ?_
      exact aC (jQ _ (.inl (aD [.bool false])))
     ·simp only [eW, aj.down]
      refine aW (jP _ (.inl ?_))
      obtain ⟨af, hI, h⟩ := aH h
      obtain ⟨ay, sI, h⟩ := aH h
      refine Fs hI (MU af _ sI) _ ?_
      refine km _ (gV _ (.inl ?_))
      refine wr _ ?_
      exact eO _ (.inr ⟨_, bs rfl, jh (IntKind.i64.wrap (fe + (IntKind.i64.wrap (ay - 1)))) (IntKind.i64.wrap (fo + 1)) h⟩)
    ·simp only [eX, aj.down]
     refine dY (iV 0 _ (eS 0 _ (cP _ (hn _ (.inl ?_)))))
     refine ws _ ?_
     exact aC (an _ (.inl (aD [.bool (fe == 0)])))
  obtain ⟨n, h⟩ := dR h
  exact dZ (.inr ⟨_, bs rfl, jg n 1 0 h⟩)
theorem ary (a0 : b7) (r : Bool) (h : EI a0 = some r) : bh aE 275 [.ref (cc a0)] (.bool r) [] := by
 refine bR [0] [.tmp 2] Tryz.func275 aan (fun bM an bO => ?_)
 refine ws _ ?_
 refine aJ an (fun et b0 bg ay => ?_)
 refine ws _ ?_
 refine bJ bg (fun eT eL ch bA bW => ?_)
 have u0 : ∀ (xb : Bool), z1 a0 xb = some r → cW aE LM eT (aa [(0, .ref (cc a0)), (6, .int .i64 a0.Kind), (7, .bool xb)]) := by
  intro xb h
  refine aU h (fun cL h => ?_) (fun cL h => ?_)
  ·simp only [cL, aj.down]
   refine dK (cl [(2, .bool (((a0.Number == 0) && (a0.Name == ([] : List UInt8))) && ((a0.dz.length : Int) == 0)))] (fun P ak => ?_) ?_)
   ·(rcases Bool.eq_false_or_eq_true (a0.Number == 0) with FG | FG) <;> (rcases Bool.eq_false_or_eq_true (a0.Name == ([] : List UInt8)) with nJ | nJ) <;>
     (simp only [aZ.down, simprocAttr, nH.down, FG, nJ]
      (try simp only [bn.down, simprocAttr, mq.down, FG, nJ] at ak ⊢); exact ak)
   exact aC (ch _ (.inl (aD [.bool (((a0.Number == 0) && (a0.Name == ([] : List UInt8))) && ((a0.dz.length : Int) == 0))])))
  ·simp only [cL, aj.down]
   refine ws _ ?_
   refine aU h (fun jC h => ?_) (fun jC h => ?_)
   ·simp only [jC, aj.down]
    refine ws _ ?_
    exact aC (ch _ (.inl (aD [.bool (a0.Number == 0)])))
   ·simp only [jC, aj.down]
    refine ws _ ?_
    refine aU h (fun eX h => ?_) (fun eX h => ?_)
    ·simp only [eX, aj.down]
     refine dK (cl [(2, .bool ((a0.Number == 0) && (a0.Name == ([] : List UInt8))))] (fun P ak => ?_) ?_)
     ·rcases Bool.eq_false_or_eq_true (a0.Number == 0) with x6 | x6
      ·simp only [aZ.down, simprocAttr, nH.down, x6]
       (try simp only [bn.down, simprocAttr, mq.down, x6] at ak ⊢); exact ak
      ·simp only [aZ.down, simprocAttr, nH.down, x6]
       (try simp only [bn.down, simprocAttr, mq.down, x6] at ak ⊢); exact ak
     exact aC (ch _ (.inl (aD [.bool ((a0.Number == 0) && (a0.Name == ([] : List UInt8)))])))
    ·simp only [eX, aj.down]
     refine ws _ ?_
     refine aU h (fun e8 h => ?_) (fun e8 h => ?_)
     ·simp only [e8, aj.down]
      refine dK (cl [(2, .bool ((a0.Name == ([] : List UInt8)) && ((a0.dz.length : Int) == 0)))] (fun P ak => ?_) ?_)
      ·rcases Bool.eq_false_or_eq_true (a0.Name == ([] : List UInt8)) with x7 | x7
       ·simp only [aZ.down, simprocAttr, nH.down, x7]
        (try simp only [bn.down, simprocAttr, mq.down, x7] at ak ⊢); exact ak
       ·simp only [aZ.down, simprocAttr, nH.down, x7]
        (try simp only [bn.down, simprocAttr, mq.down, x7] at ak ⊢); exact ak
      exact aC (ch _ (.inl (aD [.bool ((a0.Name == ([] : List UInt8)) && ((a0.dz.length : Int) == 0))])))
     ·simp only [e8, aj.down]
      refine ws _ ?_
      refine aU h (fun ko h => ?_) (fun ko h => ?_)
      ·simp only [ko, aj.down]
       refine ws _ ?_
       exact aC (ch _ (.inl (aD [.bool (a0.Name == ([] : List UInt8))])))
      ·simp only [ko, aj.down]
       refine aW (eL _ (b0 _ (.inl ?_)))
       refine ws _ ?_
       exact aC (an _ (.inl (aD [.bool false])))
 refine aJ ch (fun iX e3 dW cf => ?_)
 refine ws _ ?_
 refine aU h (fun gq h => ?_) (fun gq h => ?_)
 ·simp only [gq, aj.down]
  exact aW (e3 _ (.inr ⟨_, bs rfl, u0 true h⟩))
 ·simp only [gq, aj.down]
  refine wr _ ?_
  exact e3 _ (.inr ⟨_, bs rfl, u0 (a0.Kind == 2) h⟩)
theorem arz (a0 : List b7) (U : Int) (r : Int) (h : z7 a0 U = some r) : bh aE 232 [.slice (a0.map cc), .int .i64 U] (.int .i64 r) [] := by
 refine bR [0] [.tmp 4] Tryz.func232 aav (fun bM an bO => ?_)
 refine ws _ ?_
 refine ws _ ?_
 refine aJ an (fun j3 gx dm a6 => ?_)
 refine bJ dm (fun eT eL ch bA bW => ?_)
 have hY : ∀ (n : Nat) (iD : Int) (jB : Int), sb a0 n iD jB = some r → dE aE LN eT (aa [(0, .slice (a0.map cc)), (1, .int .i64 iD), (5, .int .i64 jB)]) := by
  intro m6
  induction m6 with
  | zero => intro iD jB h; cases (show none = some r from h)
  | succ m6 ho =>
   intro iD jB h
   replace h : z6 (sb a0 m6) a0 iD jB = some r := h
   refine ea ch (fun iX e3 dW cf => ?_)
   refine aJ dW (fun fz eG dI cO => ?_)
   refine ws _ ?_
   refine aU h (fun bQ h => ?_) (fun bQ h => ?_)
   ·simp only [bQ, aj.down]
    refine aW (eG _ (.inl ?_))
    refine bJ dW (fun ev c_ cw ed dF => ?_)
    obtain ⟨af, oS, h⟩ := aH h
    obtain ⟨ay, iJ, h⟩ := aH h
    refine hX oS (MU af _ iJ) _ ?_
    refine wr _ ?_
    exact c_ _ (e3 _ (.inr ⟨_, bs rfl, ho (IntKind.i64.wrap (iD + 1)) (IntKind.i64.wrap (jB + (IntKind.i64.wrap (ay - 1)))) h⟩))
   ·simp only [bQ, aj.down]
    refine dY (cO 0 _ (cf 0 _ (bA _ (gx _ (.inl ?_)))))
    refine ws _ ?_
    exact aC (an _ (.inl (aD [.int .i64 iD])))
 obtain ⟨n, h⟩ := dR h
 exact dZ (.inr ⟨_, bs rfl, hY n U 1 h⟩)
theorem FH (a0 : bm) (U : Int) (r : Int) (h : qM a0 U = some r) : bh aE 159 [.ref (bq a0), .int .i64 U] (.int .i64 r) [] := by
 refine bR [0, 1] [.tmp 4] Tryz.func159 aaF (fun bM an bO => ?_)
 refine ws _ ?_
 refine ws _ ?_
 refine aJ an (fun j3 gx dm a6 => ?_)
 refine ws _ ?_
 refine bJ dm (fun iX e3 dW bE cf => ?_)
 have ji : ∀ (n : Nat) (eb : Int) (hb : Int), qL a0 U n eb hb = some r → dE aE LP iX (aa [(0, .ref (bq a0)), (1, .int .i64 U), (5, .int .i64 eb), (6, .int .i64 hb)]) := by
  intro m8
  induction m8 with
  | zero => intro eb hb h; cases (show none = some r from h)
  | succ m8 jj =>
   intro eb hb h
   replace h : z8 (qL a0 U m8) a0 U eb hb = some r := h
   refine ea dW (fun fz eG dI cO => ?_)
   refine aJ dI (fun gy dn dx cH => ?_)
   refine ws _ ?_
   refine aU h (fun ed h => ?_) (fun ed h => ?_)
   ·simp only [ed, aj.down]
    refine aW (dn _ (.inl ?_))
    have FI : ∀ (uF : Int) (uG : Int), xc (qL a0 U m8) a0 U uF uG = some r → cW aE LO fz (aa [(0, .ref (bq a0)), (1, .int .i64 U), (5, .int .i64 uF), (6, .int .i64 uG)]) := by
     intro uF uG h
     refine wr _ ?_
     exact eG _ (.inr ⟨_, bs rfl, jj uF (IntKind.i64.wrap (uG + 1)) h⟩)
    refine aJ dI (fun ff cE cx da => ?_)
    refine bJ cx (fun jD f_ ix dj iV => ?_)
    obtain ⟨af, dD, h⟩ := aH h
    rcases eZ h with ⟨c4, h⟩ | ⟨c4, h⟩
    ·obtain ⟨ay, bY, h⟩ := aH h
     refine dK (cl [(0, .ref (bq a0)), (1, .int .i64 U), (5, .int .i64 eb), (6, .int .i64 hb), (34, .bool (decide (U < ay)))] (fun P ak => ?_) ?_)
     ·simp only [aZ.down, simprocAttr, pf.down, dD, c4]
      refine hv (arz a0.Body hb _ bY) rfl rfl rfl rfl (.inl (by rfl)) ?_
      simp only [aZ.down, simprocAttr, pf.down, dD, c4]
      (try simp only [bn.down, simprocAttr, h9.down, dD, c4] at ak ⊢); exact ak
     refine aU h (fun hZ h => ?_) (fun hZ h => ?_)
     ·simp only [hZ, aj.down]
      refine wr _ ?_
      exact f_ _ (cE _ (.inr ⟨_, bs rfl, FI (IntKind.i64.wrap (eb + 1)) hb h⟩))
     ·simp only [hZ, aj.down]
      exact aW (f_ _ (cE _ (.inr ⟨_, bs rfl, FI eb hb h⟩)))
    ·refine hW (And.intro dD c4) _ ?_
     refine r0 rfl ?_
     exact aW (f_ _ (cE _ (.inr ⟨_, bs rfl, FI eb hb h⟩)))
   ·simp only [ed, aj.down]
    refine dY (cH 0 _ (cO 0 _ (bE _ (gx _ (.inl ?_)))))
    refine ws _ ?_
    exact aC (an _ (.inl (aD [.int .i64 eb])))
 obtain ⟨n, h⟩ := dR h
 exact dZ (.inr ⟨_, bs rfl, ji n a0.dL 0 h⟩)
theorem arA (a0 : cA) (U : Int) (r : Bool) (h : z_ a0 U = some r) : bh aE 251 [.ref (cq a0), .int .i64 U] (.bool r) [] := by
 refine bR [0, 1] [.tmp 4] Tryz.func251 aaV (fun bM an bO => ?_)
 refine ws _ ?_
 refine aJ an (fun et b0 bg ay => ?_)
 refine ws _ ?_
 refine bJ bg (fun eT eL ch bA bW => ?_)
 refine ws _ ?_
 refine aU h (fun cL h => ?_) (fun cL h => ?_)
 ·simp only [cL, aj.down]
  obtain ⟨af, hi, h⟩ := aH h
  refine di (mr a0.Value 0 63 _ hi) _ ?_
  exact aC (ch _ (.inl (aD [.bool af])))
 ·simp only [cL, aj.down]
  refine ws _ ?_
  refine aU h (fun cP h => ?_) (fun cP h => ?_)
  ·simp only [cP, aj.down]
   obtain ⟨ay, iJ, h⟩ := aH h
   refine di (mr a0.Value 0 (IntKind.i64.wrap (U - 1)) _ iJ) _ ?_
   exact aC (ch _ (.inl (aD [.bool ay])))
  ·simp only [cP, aj.down]
   refine ws _ ?_
   refine aU h (fun eX h => ?_) (fun eX h => ?_)
   ·simp only [eX, aj.down]
    obtain ⟨a6, bY, h⟩ := aH h
    refine di (mr a0.Value 0 8 _ bY) _ ?_
    exact aC (ch _ (.inl (aD [.bool a6])))
   ·simp only [eX, aj.down]
    refine ws _ ?_
    refine aU h (fun e8 h => ?_) (fun e8 h => ?_)
    ·simp only [e8, aj.down]
     refine ws _ ?_
     exact aC (ch _ (.inl (aD [.bool (a0.Value == 0)])))
    ·simp only [e8, aj.down]
     refine aW (eL _ (b0 _ (.inl ?_)))
     refine ws _ ?_
     exact aC (an _ (.inl (aD [.bool false])))
theorem arB (a0 : cA) (r : Int) (h : EJ a0 = some r) : bh aE 252 [.ref (cq a0)] (.int .i64 r) [] := by
 refine bR [0] [.tmp 2] Tryz.func252 aa5 (fun bM an bO => ?_)
 refine ws _ ?_
 refine aJ an (fun et b0 bg ay => ?_)
 refine ws _ ?_
 refine bJ bg (fun eT eL ch bA bW => ?_)
 refine ws _ ?_
 refine aU h (fun cL h => ?_) (fun cL h => ?_)
 ·simp only [cL, aj.down]
  refine ws _ ?_
  exact aC (ch _ (.inl (aD [.int .i64 2])))
 ·simp only [cL, aj.down]
  refine ws _ ?_
  refine aU h (fun ed h => ?_) (fun ed h => ?_)
  ·simp only [ed, aj.down]
   refine ws _ ?_
   exact aC (ch _ (.inl (aD [.int .i64 1])))
  ·simp only [ed, aj.down]
   refine aW (eL _ (b0 _ (.inl ?_)))
   refine ws _ ?_
   exact aC (an _ (.inl (aD [.int .i64 0])))
theorem arC (a0 : List cA) (U : Int) (a2 : Int) (r : Bool) (h : Ab a0 U a2 = some r) : bh aE 184 [.slice (a0.map cq), .int .i64 U, .int .i64 a2] (.bool r) [] := by
 refine bR [0, 1, 2] [.tmp 6] Tryz.func184 abk (fun bM an bO => ?_)
 refine ws _ ?_
 refine aJ an (fun et b0 bg ay => ?_)
 refine ws _ ?_
 refine aU h (fun bA h => ?_) (fun bA h => ?_)
 ·simp only [bA, aj.down]
  refine ws _ ?_
  exact aC (bg _ (.inl (aD [.bool false])))
 ·simp only [bA, aj.down]
  refine aW (b0 _ (.inl ?_))
  refine ws _ ?_
  refine aJ an (fun gy dn dx cH => ?_)
  refine ws _ ?_
  refine bJ dx (fun ev c_ cw ed dF => ?_)
  have jg : ∀ (n : Nat) (ha : Int) (mM : Int), sc a0 U n ha mM = some r → dE aE LQ ev (aa [(0, .slice (a0.map cq)), (1, .int .i64 U), (7, .int .i64 ha), (8, .int .i64 mM)]) := by
   intro m16
   induction m16 with
   | zero => intro ha mM h; cases (show none = some r from h)
   | succ m16 jh =>
    intro ha mM h
    replace h : Aa (sc a0 U m16) a0 U ha mM = some r := h
    refine ea cw (fun ff cE cx da => ?_)
    refine aJ cx (fun ia eO fI eS => ?_)
    refine ws _ ?_
    refine aU h (fun dd h => ?_) (fun dd h => ?_)
    ·simp only [dd, aj.down]
     refine aW (eO _ (.inl ?_))
     refine aJ cx (fun ib eP eB iE => ?_)
     refine bJ eB (fun kB gV gE c4 j4 => ?_)
     refine aJ gE (fun p3 km lh p4 => ?_)
     rcases eZ h with ⟨e8, h⟩ | ⟨e8, h⟩
     ·refine hW e8 _ ?_
      refine jc rfl ?_
      refine ws _ ?_
      exact aC (lh _ (.inl (aD [.bool false])))
     ·obtain ⟨af, ic, h⟩ := aH h
      obtain ⟨ay, ov, h⟩ := aH h
      refine dK (cl [(0, .slice (a0.map cq)), (1, .int .i64 U), (7, .int .i64 ha), (8, .int .i64 mM), (28, .bool (!ay))] (fun P ak => ?_) ?_)
      ·simp only [aZ.down, simprocAttr, ot.down, e8, ic]
       refine hv (arA af U _ ov) rfl rfl rfl rfl (.inl (by rfl)) ?_
       simp only [aZ.down, simprocAttr, ot.down, e8, ic]
       (try simp only [bn.down, simprocAttr, cq, e8, ic] at ak ⊢); exact ak
      refine aU h (fun ko h => ?_) (fun ko h => ?_)
      ·simp only [(cG ko), aj.down]
       refine ws _ ?_
       exact aC (lh _ (.inl (aD [.bool false])))
      ·simp only [(bd ko), aj.down]
       refine aW (km _ (.inl ?_))
       obtain ⟨a6, kn, h⟩ := aH h
       refine Fs ic (arB af _ kn) _ ?_
       refine gV _ (eP _ (.inl ?_))
       refine wr _ ?_
       exact cE _ (.inr ⟨_, bs rfl, jh (IntKind.i64.wrap (ha + (IntKind.i64.wrap (a6 - 1)))) (IntKind.i64.wrap (mM + 1)) h⟩)
    ·simp only [dd, aj.down]
     refine dY (eS 0 _ (da 0 _ (ed _ (dn _ (.inl ?_)))))
     refine ws _ ?_
     exact aC (an _ (.inl (aD [.bool (ha == 0)])))
  obtain ⟨n, h⟩ := dR h
  exact dZ (.inr ⟨_, bs rfl, jg n 1 0 h⟩)
theorem arD (a0 : List bm) (U : bm) (a2 : Int) (r : Int) (h : xg a0 U a2 = some r) : bh aE 231 [.slice (a0.map bq), .ref (bq U), .int .i64 a2] (.int .i64 r) [] := by
 refine bR [0, 1, 2] [.tmp 6] Tryz.func231 abZ (fun bM an bO => ?_)
 refine ws _ ?_
 obtain ⟨af, aQ, h⟩ := aH h
 refine hW aQ _ ?_
 refine aJ an (fun eT eL ch bW => ?_)
 obtain ⟨ay, bZ, h⟩ := aH h
 refine dK (cl [(0, .slice (a0.map bq)), (1, .ref (bq U)), (2, .int .i64 a2), (7, .a7 (cc af)), (19, .bool (!ay))] (fun P ak => ?_) ?_)
 ·refine fw (ary af _ bZ) rfl rfl (by simp only [aZ.down, simprocAttr, h9.down, kg, kh, ki, ef, @cF _ en en (fun _ => Fm _)] <;> rfl) rfl (.inr (by rfl)) ?_
  simp only [aZ.down, simprocAttr, h9.down]
  (try simp only [bn.down, simprocAttr, h9.down] at ak ⊢); exact ak
 refine aU h (fun k5 h => ?_) (fun k5 h => ?_)
 ·simp only [(cG k5), aj.down]
  refine ws _ ?_
  exact aC (ch _ (.inl (aD [.int .i64 2])))
 ·simp only [(bd k5), aj.down]
  refine aW (eL _ (.inl ?_))
  refine aJ an (fun ev c_ cw dF => ?_)
  have MV : ∀ (xf : Bool), Ad a0 U a2 af xf = some r → cW aE LR ev (aa [(0, .slice (a0.map bq)), (1, .ref (bq U)), (2, .int .i64 a2), (7, .a7 (cc af)), (28, .bool xf)]) := by
   intro xf h
   refine aU h (fun cP h => ?_) (fun cP h => ?_)
   ·simp only [cP, aj.down]
    refine ws _ ?_
    exact aC (cw _ (.inl (aD [.int .i64 3])))
   ·simp only [cP, aj.down]
    refine aW (c_ _ (.inl ?_))
    refine aJ an (fun jD f_ ix iV => ?_)
    have qY : ∀ (xe : Bool), se a0 U a2 af xe = some r → cW aE LS jD (aa [(0, .slice (a0.map bq)), (1, .ref (bq U)), (2, .int .i64 a2), (7, .a7 (cc af)), (51, .bool xe)]) := by
     intro xe h
     refine aU h (fun dd h => ?_) (fun dd h => ?_)
     ·simp only [dd, aj.down]
      refine ws _ ?_
      exact aC (ix _ (.inl (aD [.int .i64 4])))
     ·simp only [dd, aj.down]
      refine aW (f_ _ (.inl ?_))
      refine ws _ ?_
      have BP : sd U a2 af = some r → cW aE LW bM (aa [(1, .ref (bq U)), (2, .int .i64 a2), (7, .a7 (cc af)), (8, .int .i64 (af.dz.length : Int))]) := by
       intro h
       refine aJ an (fun oy jP jQ nI => ?_)
       have FJ : ∀ (xd : Bool), uH U a2 af xd = some r → cW aE LU oy (aa [(1, .ref (bq U)), (2, .int .i64 a2), (7, .a7 (cc af)), (8, .int .i64 (af.dz.length : Int)), (102, .bool xd)]) := by
        intro xd h
        refine aU h (fun e8 h => ?_) (fun e8 h => ?_)
        ·simp only [e8, aj.down]
         refine ws _ ?_
         exact aC (jQ _ (.inl (aD [.int .i64 6])))
        ·simp only [e8, aj.down]
         refine aW (jP _ (.inl ?_))
         obtain ⟨a6, ov, h⟩ := aH h
         refine di (FH U a2 _ ov) _ ?_
         refine aJ an (fun x3 ow ox x4 => ?_)
         refine dK (cl [(7, .a7 (cc af)), (8, .int .i64 (af.dz.length : Int)), (9, .int .i64 a6), (112, .bool ((af.Kind == 4) && (decide (6 ≤ a6))))] (fun P ak => ?_) ?_)
         ·rcases Bool.eq_false_or_eq_true (af.Kind == 4) with x8 | x8
          ·simp only [aZ.down, simprocAttr, nH.down, x8]
           (try simp only [bn.down, simprocAttr, mq.down, x8] at ak ⊢); exact ak
          ·simp only [aZ.down, simprocAttr, nH.down, x8]
           (try simp only [bn.down, simprocAttr, mq.down, x8] at ak ⊢); exact ak
         refine aU h (fun iY h => ?_) (fun iY h => ?_)
         ·simp only [iY, aj.down]
          refine ws _ ?_
          exact aC (ox _ (.inl (aD [.int .i64 7])))
         ·simp only [iY, aj.down]
          refine aW (ow _ (.inl ?_))
          refine aJ an (fun arE FK BQ MW => ?_)
          refine ws _ ?_
          refine bJ BQ (fun BR sK qZ jv BS => ?_)
          have arF : ∀ (n : Nat) (ny : Int) (nz : Int), qN af n ny nz = some r → dE aE LV BR (aa [(7, .a7 (cc af)), (8, .int .i64 (af.dz.length : Int)), (9, .int .i64 ny), (10, .int .i64 nz)]) := by
           intro FL
           induction FL with
           | zero => intro ny nz h; cases (show none = some r from h)
           | succ FL arG =>
            intro ny nz h
            replace h : Ac (qN af FL) af ny nz = some r := h
            refine ea qZ (fun arH FM FN FO => ?_)
            refine aJ FN (fun arI FP MX MY => ?_)
            refine ws _ ?_
            refine aU h (fun hz h => ?_) (fun hz h => ?_)
            ·simp only [hz, aj.down]
             refine aW (FP _ (.inl ?_))
             refine aJ FN (fun arJ FQ MZ arK => ?_)
             refine bJ MZ (fun arL FR FT oz arM => ?_)
             obtain ⟨bW, sL, h⟩ := aH h
             obtain ⟨cf, FU, h⟩ := aH h
             refine hX sL (arC bW ny 15 _ FU) _ ?_
             refine aU h (fun mu h => ?_) (fun mu h => ?_)
             ·simp only [(cG mu), aj.down]
              refine ws _ ?_
              exact aC (FT _ (.inl (aD [.int .i64 8])))
             ·simp only [(bd mu), aj.down]
              refine aW (FR _ (FQ _ (.inl ?_)))
              refine wr _ ?_
              exact FM _ (.inr ⟨_, bs rfl, arG ny (IntKind.i64.wrap (nz + 1)) h⟩)
            ·simp only [hz, aj.down]
             refine dY (MY 1 _ (FO 1 _ (jv _ (FK _ (.inl ?_)))))
             refine ws _ ?_
             exact aC (an _ (.inl (aD [.int .i64 0])))
          obtain ⟨n, h⟩ := dR h
          exact dZ (.inr ⟨_, bs rfl, arF n a6 0 h⟩)
       rcases eZ h with ⟨q0, h⟩ | ⟨q0, h⟩
       ·rcases eZ h with ⟨p6, h⟩ | ⟨p6, h⟩
        ·refine kP (cl (K := el _) [(1, .ref (bq U)), (2, .int .i64 a2), (7, .a7 (cc af)), (8, .int .i64 (af.dz.length : Int)), (102, .bool true)] (fun P ak => ?_) ?_)
         ·simp only [aZ.down, simprocAttr, pf.down, q0, p6]
          (try simp only [bn.down, simprocAttr, h9.down, q0, p6] at ak ⊢); exact ak
         exact .inr ⟨_, bs rfl, FJ true h⟩
        ·obtain ⟨cO, sM, h⟩ := aH h
         refine kP (cl (K := el _) [(1, .ref (bq U)), (2, .int .i64 a2), (7, .a7 (cc af)), (8, .int .i64 (af.dz.length : Int)), (102, .bool (cO.Kind != 1))] (fun P ak => ?_) ?_)
         ·simp only [aZ.down, simprocAttr, pf.down, q0, p6, sM]
          (try simp only [bn.down, simprocAttr, h9.down, q0, p6, sM] at ak ⊢); exact ak
         exact .inr ⟨_, bs rfl, FJ (cO.Kind != 1) h⟩
       ·refine kP (cl (K := el _) [(1, .ref (bq U)), (2, .int .i64 a2), (7, .a7 (cc af)), (8, .int .i64 (af.dz.length : Int)), (102, .bool false)] (fun P ak => ?_) ?_)
        ·simp only [aZ.down, simprocAttr, pf.down, q0]
         (try simp only [bn.down, simprocAttr, h9.down, q0] at ak ⊢); exact ak
        exact .inr ⟨_, bs rfl, FJ false h⟩
      refine aJ an (fun p3 km lh p4 => ?_)
      refine ws _ ?_
      refine bJ lh (fun arN u1 x9 x_ arO => ?_)
      refine ws _ ?_
      refine aU h (fun FV h => ?_) (fun FV h => ?_)
      ·simp only [FV, aj.down]
       refine dK (cl [(1, .ref (bq U)), (2, .int .i64 a2), (7, .a7 (cc af)), (8, .int .i64 (af.dz.length : Int)), (69, .bool ((decide (2 < (af.dz.length : Int))) || ((decide (0 < (af.dz.length : Int))) && (af.Name == ([116, 97, 117] : List UInt8)))))] (fun P ak => ?_) ?_)
       ·(rcases Bool.eq_false_or_eq_true (decide (2 < (af.dz.length : Int))) with FW | FW) <;> (rcases Bool.eq_false_or_eq_true (decide (0 < (af.dz.length : Int))) with FX | FX) <;>
         (simp only [aZ.down, simprocAttr, xY.down, FW, FX]
          (try simp only [bn.down, simprocAttr, h9.down, FW, FX] at ak ⊢); exact ak)
       refine aU h (fun FY h => ?_) (fun FY h => ?_)
       ·simp only [FY, aj.down]
        refine ws _ ?_
        exact aC (x9 _ (.inl (aD [.int .i64 5])))
       ·simp only [FY, aj.down]
        exact aW (u1 _ (km _ (.inr ⟨_, bs rfl, BP h⟩)))
      ·simp only [FV, aj.down]
       refine ws _ ?_
       refine aU h (fun sN h => ?_) (fun sN h => ?_)
       ·simp only [sN, aj.down]
        refine ws _ ?_
        refine aU h (fun BT h => ?_) (fun BT h => ?_)
        ·simp only [BT, aj.down]
         refine ws _ ?_
         exact aC (x9 _ (.inl (aD [.int .i64 5])))
        ·simp only [BT, aj.down]
         exact aW (u1 _ (km _ (.inr ⟨_, bs rfl, BP h⟩)))
       ·simp only [sN, aj.down]
        refine ws _ ?_
        refine aU h (fun FZ h => ?_) (fun FZ h => ?_)
        ·simp only [FZ, aj.down]
         obtain ⟨cH, arP, h⟩ := aH h
         refine hW arP _ ?_
         refine aU h (fun F1 h => ?_) (fun F1 h => ?_)
         ·simp only [F1, aj.down]
          refine ws _ ?_
          exact aC (x9 _ (.inl (aD [.int .i64 5])))
         ·simp only [F1, aj.down]
          exact aW (u1 _ (km _ (.inr ⟨_, bs rfl, BP h⟩)))
        ·simp only [FZ, aj.down]
         exact aW (u1 _ (km _ (.inr ⟨_, bs rfl, BP h⟩)))
    rcases eZ h with ⟨ly, h⟩ | ⟨ly, h⟩
    ·obtain ⟨fP, F2, h⟩ := aH h
     rcases eZ h with ⟨oA, h⟩ | ⟨oA, h⟩
     ·refine kP (cl (K := el _) [(0, .slice (a0.map bq)), (1, .ref (bq U)), (2, .int .i64 a2), (7, .a7 (cc af)), (51, .bool true)] (fun P ak => ?_) ?_)
      ·simp only [aZ.down, simprocAttr, iW.down, ly, (cG oA)]
       refine hv (mr af.Number 1 7 _ F2) rfl rfl rfl rfl (.inl (by rfl)) ?_
       simp only [aZ.down, simprocAttr, iW.down, ly, (cG oA)]
       (try simp only [bn.down, simprocAttr, h9.down, ly, (cG oA)] at ak ⊢); exact ak
      exact .inr ⟨_, bs rfl, qY true h⟩
     ·rcases eZ h with ⟨q1, h⟩ | ⟨q1, h⟩
      ·obtain ⟨dF, arQ, h⟩ := aH h
       refine kP (cl (K := el _) [(0, .slice (a0.map bq)), (1, .ref (bq U)), (2, .int .i64 a2), (7, .a7 (cc af)), (51, .bool (!dF))] (fun P ak => ?_) ?_)
       ·simp only [aZ.down, simprocAttr, iW.down, ly, (bd oA), q1]
        refine hv (mr af.Number 1 7 _ F2) rfl rfl rfl rfl (.inl (by rfl)) ?_
        simp only [aZ.down, simprocAttr, iW.down, ly, (bd oA), q1]
        refine hv (mr af.Number 0 (IntKind.i64.wrap ((a0.length : Int) - 1)) _ arQ) rfl rfl rfl rfl (.inl (by rfl)) ?_
        simp only [aZ.down, simprocAttr, iW.down, ly, (bd oA), q1]
        (try simp only [bn.down, simprocAttr, h9.down, ly, (bd oA), q1] at ak ⊢); exact ak
       exact .inr ⟨_, bs rfl, qY (!dF) h⟩
      ·refine kP (cl (K := el _) [(0, .slice (a0.map bq)), (1, .ref (bq U)), (2, .int .i64 a2), (7, .a7 (cc af)), (51, .bool false)] (fun P ak => ?_) ?_)
       ·simp only [aZ.down, simprocAttr, iW.down, ly, (bd oA), q1]
        refine hv (mr af.Number 1 7 _ F2) rfl rfl rfl rfl (.inl (by rfl)) ?_
        simp only [aZ.down, simprocAttr, iW.down, ly, (bd oA), q1]
        (try simp only [bn.down, simprocAttr, h9.down, ly, (bd oA), q1] at ak ⊢); exact ak
       exact .inr ⟨_, bs rfl, qY false h⟩
    ·rcases eZ h with ⟨u2, h⟩ | ⟨u2, h⟩
     ·obtain ⟨da, arR, h⟩ := aH h
      refine kP (cl (K := el _) [(0, .slice (a0.map bq)), (1, .ref (bq U)), (2, .int .i64 a2), (7, .a7 (cc af)), (51, .bool (!da))] (fun P ak => ?_) ?_)
      ·simp only [aZ.down, simprocAttr, iW.down, ly, u2]
       refine hv (mr af.Number 0 (IntKind.i64.wrap ((a0.length : Int) - 1)) _ arR) rfl rfl rfl rfl (.inl (by rfl)) ?_
       simp only [aZ.down, simprocAttr, iW.down, ly, u2]
       (try simp only [bn.down, simprocAttr, h9.down, ly, u2] at ak ⊢); exact ak
      exact .inr ⟨_, bs rfl, qY (!da) h⟩
     ·refine kP (cl (K := el _) [(0, .slice (a0.map bq)), (1, .ref (bq U)), (2, .int .i64 a2), (7, .a7 (cc af)), (51, .bool false)] (fun P ak => ?_) ?_)
      ·simp only [aZ.down, simprocAttr, iW.down, ly, u2]
       (try simp only [bn.down, simprocAttr, h9.down, ly, u2] at ak ⊢); exact ak
      exact .inr ⟨_, bs rfl, qY false h⟩
  rcases eZ h with ⟨u3, h⟩ | ⟨u3, h⟩
  ·obtain ⟨eS, arS, h⟩ := aH h
   refine kP (cl (K := el _) [(0, .slice (a0.map bq)), (1, .ref (bq U)), (2, .int .i64 a2), (7, .a7 (cc af)), (28, .bool (!eS))] (fun P ak => ?_) ?_)
   ·simp only [aZ.down, simprocAttr, xY.down, u3]
    refine hv (x5 af.Name _ arS) rfl rfl rfl rfl (.inl (by rfl)) ?_
    simp only [aZ.down, simprocAttr, xY.down, u3]
    (try simp only [bn.down, simprocAttr, h9.down, u3] at ak ⊢); exact ak
   exact .inr ⟨_, bs rfl, MV (!eS) h⟩
  ·refine kP (cl (K := el _) [(0, .slice (a0.map bq)), (1, .ref (bq U)), (2, .int .i64 a2), (7, .a7 (cc af)), (28, .bool false)] (fun P ak => ?_) ?_)
   ·simp only [aZ.down, simprocAttr, xY.down, u3]
    (try simp only [bn.down, simprocAttr, h9.down, u3] at ak ⊢); exact ak
   exact .inr ⟨_, bs rfl, MV false h⟩
theorem arT (a0 : List bm) (U : bm) (r : Int × Int) (h : sf a0 U = some r) : bh aE 158 [.slice (a0.map bq), .ref (bq U)] (.tuple [.int .i64 r.1, .int .i64 r.2]) [] := by
 refine bR [0, 1] [.tmp 4, .tmp 5] Tryz.func158 acd (fun bM an bO => ?_)
 refine ws _ ?_
 refine aJ an (fun et b0 bg ay => ?_)
 obtain ⟨af, ca, h⟩ := aH h
 refine di (arx U.Body _ ca) _ ?_
 refine aU h (fun bE h => ?_) (fun bE h => ?_)
 ·simp only [(cG bE), aj.down]
  refine ws _ ?_
  exact aC (bg _ (.inl (aD [.int .i64 0, .int .i64 1])))
 ·simp only [(bd bE), aj.down]
  refine aW (b0 _ (.inl ?_))
  refine aJ an (fun gy dn dx cH => ?_)
  refine ws _ ?_
  refine bJ dx (fun ev c_ cw ed dF => ?_)
  have hy : ∀ (n : Nat) (lX : Int), qO a0 U n lX = some r → dE aE LX ev (aa [(0, .slice (a0.map bq)), (1, .ref (bq U)), (6, .int .i64 lX)]) := by
   intro m14
   induction m14 with
   | zero => intro lX h; cases (show none = some r from h)
   | succ m14 hf =>
    intro lX h
    replace h : xh (qO a0 U m14) a0 U lX = some r := h
    refine ea cw (fun ff cE cx da => ?_)
    refine aJ cx (fun ia eO fI eS => ?_)
    refine ws _ ?_
    refine aU h (fun dd h => ?_) (fun dd h => ?_)
    ·simp only [dd, aj.down]
     refine aW (eO _ (.inl ?_))
     refine aJ cx (fun ib eP eB iE => ?_)
     refine bJ eB (fun kB gV gE c4 j4 => ?_)
     obtain ⟨ay, dM, h⟩ := aH h
     refine di (arD a0 U lX _ dM) _ ?_
     refine ws _ ?_
     refine aU h (fun eW h => ?_) (fun eW h => ?_)
     ·simp only [eW, aj.down]
      refine ws _ ?_
      exact aC (gE _ (.inl (aD [.int .i64 lX, .int .i64 ay])))
     ·simp only [eW, aj.down]
      refine aW (gV _ (eP _ (.inl ?_)))
      refine wr _ ?_
      exact cE _ (.inr ⟨_, bs rfl, hf (IntKind.i64.wrap (lX + 1)) h⟩)
    ·simp only [dd, aj.down]
     refine dY (eS 0 _ (da 0 _ (ed _ (dn _ (.inl ?_)))))
     refine ws _ ?_
     exact aC (an _ (.inl (aD [.int .i64 0, .int .i64 0])))
  obtain ⟨n, h⟩ := dR h
  exact dZ (.inr ⟨_, bs rfl, hy n 0 h⟩)
theorem arU (a0 : List bm) (r : Bool) (h : Ah a0 = some r) : bh aE 95 [.slice (a0.map bq)] (.bool r) [] := by
 refine bR [0] [.tmp 2] Tryz.func95 acH (fun bM an bO => ?_)
 refine ws _ ?_
 refine aJ an (fun et b0 bg ay => ?_)
 refine dK (cl [(0, .slice (a0.map bq)), (15, .bool (((a0.length : Int) == 0) || (decide (4 < (a0.length : Int)))))] (fun P ak => ?_) ?_)
 ·rcases Bool.eq_false_or_eq_true ((a0.length : Int) == 0) with hl | hl
  ·simp only [aZ.down, simprocAttr, iW.down, hl]
   (try simp only [bn.down, simprocAttr, h9.down, hl] at ak ⊢); exact ak
  ·simp only [aZ.down, simprocAttr, iW.down, hl]
   (try simp only [bn.down, simprocAttr, h9.down, hl] at ak ⊢); exact ak
 refine aU h (fun bE h => ?_) (fun bE h => ?_)
 ·simp only [bE, aj.down]
  refine ws _ ?_
  exact aC (bg _ (.inl (aD [.bool false])))
 ·simp only [bE, aj.down]
  refine aW (b0 _ (.inl ?_))
  refine aJ an (fun gy dn dx cH => ?_)
  refine ws _ ?_
  refine bJ dx (fun ev c_ cw ed dF => ?_)
  have hy : ∀ (n : Nat) (dk : Int), nB a0 n dk = some r → dE aE LZ ev (aa [(0, .slice (a0.map bq)), (3, .int .i64 dk)]) := by
   intro m14
   induction m14 with
   | zero => intro dk h; cases (show none = some r from h)
   | succ m14 hf =>
    intro dk h
    replace h : Ag (nB a0 m14) a0 dk = some r := h
    refine ea cw (fun ff cE cx da => ?_)
    refine aJ cx (fun ia eO fI eS => ?_)
    refine ws _ ?_
    refine aU h (fun dd h => ?_) (fun dd h => ?_)
    ·simp only [dd, aj.down]
     refine aW (eO _ (.inl ?_))
     refine aJ cx (fun ib eP eB iE => ?_)
     refine bJ eB (fun kB gV gE c4 j4 => ?_)
     refine aJ gE (fun p3 km lh p4 => ?_)
     obtain ⟨af, eK, h⟩ := aH h
     obtain ⟨ay, hA, h⟩ := aH h
     rcases eZ h with ⟨dN, h⟩ | ⟨dN, h⟩
     ·refine hX (And.intro eK (cG dN)) (x5 af.Name _ hA) _ ?_
      refine jc rfl ?_
      refine ws _ ?_
      exact aC (lh _ (.inl (aD [.bool false])))
     ·obtain ⟨a6, hI, h⟩ := aH h
      refine dK (cl [(0, .slice (a0.map bq)), (3, .int .i64 dk), (37, .bool (!a6))] (fun P ak => ?_) ?_)
      ·simp only [aZ.down, simprocAttr, iW.down, eK, (bd dN)]
       refine fw (x5 af.Name _ hA) rfl rfl rfl rfl (.inl (by rfl)) ?_
       simp only [aZ.down, simprocAttr, iW.down, eK, (bd dN)]
       refine hv (mr af.dL 0 3 _ hI) rfl rfl rfl rfl (.inl (by rfl)) ?_
       simp only [aZ.down, simprocAttr, iW.down, eK, (bd dN)]
       (try simp only [bn.down, simprocAttr, h9.down, eK, (bd dN)] at ak ⊢); exact ak
      refine aU h (fun eY h => ?_) (fun eY h => ?_)
      ·simp only [(cG eY), aj.down]
       refine ws _ ?_
       exact aC (lh _ (.inl (aD [.bool false])))
      ·simp only [(bd eY), aj.down]
       refine aW (km _ (.inl ?_))
       refine ws _ ?_
       refine bJ gE (fun M0 M1 F3 gq arV => ?_)
       have arW : ∀ (n : Nat) (lY : Int) (mN : Int), sg (nB a0 m14) a0 n lY mN = some r → dE aE LY M0 (aa [(0, .slice (a0.map bq)), (3, .int .i64 lY), (4, .int .i64 mN)]) := by
        intro F4
        induction F4 with
        | zero => intro lY mN h; cases (show none = some r from h)
        | succ F4 arX =>
         intro lY mN h
         replace h : Ae (nB a0 m14) (sg (nB a0 m14) a0 F4) a0 lY mN = some r := h
         refine ea F3 (fun arE FK BQ MW => ?_)
         refine aJ BQ (fun Fz BL BM FA => ?_)
         refine ws _ ?_
         refine aU h (fun iF h => ?_) (fun iF h => ?_)
         ·simp only [iF, aj.down]
          refine aW (BL _ (.inl ?_))
          refine aJ BQ (fun arI FP MX MY => ?_)
          refine bJ MX (fun axV arY arZ lz axW => ?_)
          obtain ⟨bW, oB, h⟩ := aH h
          obtain ⟨cf, BU, h⟩ := aH h
          refine fG rfl (fq [(0, .slice (a0.map bq)), (3, .int .i64 lY), (4, .int .i64 mN), (53, .bool (bW.Name == cf.Name))] (fun P ak => ?_) ?_)
          ·simp only [ct.down, simprocAttr, iW.down, oB, BU]
           refine ⟨fk (by kernel_rfl), ?_⟩
           (try simp only [bn.down, simprocAttr, h9.down, oB, BU] at ak ⊢); exact ak
          refine aU h (fun sO h => ?_) (fun sO h => ?_)
          ·simp only [sO, aj.down]
           refine ws _ ?_
           exact aC (arZ _ (.inl (aD [.bool false])))
          ·simp only [sO, aj.down]
           refine aW (arY _ (FP _ (.inl ?_)))
           refine wr _ ?_
           exact FK _ (.inr ⟨_, bs rfl, arX lY (IntKind.i64.wrap (mN + 1)) h⟩)
         ·simp only [iF, aj.down]
          refine dY (FA 2 _ (MW 2 _ (gq _ (gV _ (eP _ (.inl ?_))))))
          refine wr _ ?_
          exact cE _ (.inr ⟨_, bs rfl, hf (IntKind.i64.wrap (lY + 1)) h⟩)
       obtain ⟨n, h⟩ := dR h
       exact dZ (.inr ⟨_, bs rfl, arW n dk 0 h⟩)
    ·simp only [dd, aj.down]
     refine dY (eS 0 _ (da 0 _ (ed _ (dn _ (.inl ?_)))))
     refine aJ an (fun ar0 F5 M3 M4 => ?_)
     refine ws _ ?_
     refine bJ M3 (fun ar1 axX ar2 ya axY => ?_)
     have ar3 : ∀ (n : Nat) (nA : Int), qP a0 n nA = some r → dE aE L0 ar1 (aa [(0, .slice (a0.map bq)), (5, .int .i64 nA)]) := by
      intro F6
      induction F6 with
      | zero => intro nA h; cases (show none = some r from h)
      | succ F6 ar4 =>
       intro nA h
       replace h : Af (qP a0 F6) a0 nA = some r := h
       refine ea ar2 (fun ar5 F7 BV M5 => ?_)
       refine aJ BV (fun ar6 F8 M6 M7 => ?_)
       refine ws _ ?_
       refine aU h (fun F9 h => ?_) (fun F9 h => ?_)
       ·simp only [F9, aj.down]
        refine aW (F8 _ (.inl ?_))
        refine aJ BV (fun axZ ar7 ar8 ax0 => ?_)
        refine bJ ar8 (fun arN u1 x9 x_ arO => ?_)
        obtain ⟨cO, ar9, h⟩ := aH h
        obtain ⟨cH, ar_, h⟩ := aH h
        refine hX ar9 (arT a0 cO _ ar_) _ ?_
        refine ws _ ?_
        refine aU h (fun yb h => ?_) (fun yb h => ?_)
        ·simp only [yb, aj.down]
         refine ws _ ?_
         exact aC (x9 _ (.inl (aD [.bool false])))
        ·simp only [yb, aj.down]
         refine aW (u1 _ (ar7 _ (.inl ?_)))
         refine wr _ ?_
         exact F7 _ (.inr ⟨_, bs rfl, ar4 (IntKind.i64.wrap (nA + 1)) h⟩)
       ·simp only [F9, aj.down]
        refine dY (M7 4 _ (M5 4 _ (ya _ (F5 _ (.inl ?_)))))
        refine ws _ ?_
        exact aC (an _ (.inl (aD [.bool true])))
     obtain ⟨n, h⟩ := dR h
     exact dZ (.inr ⟨_, bs rfl, ar3 n 0 h⟩)
  obtain ⟨n, h⟩ := dR h
  exact dZ (.inr ⟨_, bs rfl, hy n 0 h⟩)
theorem M8 (a0 : List Int) (r : Bool) (h : xi a0 = some r) : bh aE 117 [.slice (a0.map bD)] (.bool r) [] := by
 refine bR [0] [.tmp 2] Tryz.func117 acR (fun bM an bO => ?_)
 refine ws _ ?_
 refine aJ an (fun et b0 bg ay => ?_)
 refine ws _ ?_
 refine bJ bg (fun eT eL ch bA bW => ?_)
 have hY : ∀ (n : Nat) (jd : Int), si a0 n jd = some r → dE aE L1 eT (aa [(0, .slice (a0.map bD)), (3, .int .i64 jd)]) := by
  intro m6
  induction m6 with
  | zero => intro jd h; cases (show none = some r from h)
  | succ m6 ho =>
   intro jd h
   replace h : Ai (si a0 m6) a0 jd = some r := h
   refine ea ch (fun iX e3 dW cf => ?_)
   refine aJ dW (fun fz eG dI cO => ?_)
   refine ws _ ?_
   refine aU h (fun bQ h => ?_) (fun bQ h => ?_)
   ·simp only [bQ, aj.down]
    refine aW (eG _ (.inl ?_))
    refine aJ dW (fun ev c_ cw dF => ?_)
    refine bJ cw (fun ff cE cx cP da => ?_)
    obtain ⟨af, iJ, h⟩ := aH h
    obtain ⟨ay, fV, h⟩ := aH h
    refine hX iJ (mr af 0 63 _ fV) _ ?_
    refine aU h (fun eX h => ?_) (fun eX h => ?_)
    ·simp only [(cG eX), aj.down]
     refine ws _ ?_
     exact aC (cx _ (.inl (aD [.bool false])))
    ·simp only [(bd eX), aj.down]
     refine aW (cE _ (c_ _ (.inl ?_)))
     refine wr _ ?_
     exact e3 _ (.inr ⟨_, bs rfl, ho (IntKind.i64.wrap (jd + 1)) h⟩)
   ·simp only [bQ, aj.down]
    refine dY (cO 0 _ (cf 0 _ (bA _ (b0 _ (.inl ?_)))))
    refine ws _ ?_
    exact aC (an _ (.inl (aD [.bool true])))
 obtain ⟨n, h⟩ := dR h
 exact dZ (.inr ⟨_, bs rfl, hY n 0 h⟩)
theorem asa (a0 : dh) (r : Bool) (h : Ak a0 = some r) : bh aE 286 [.ref (e2 a0)] (.bool r) [] := by
 refine bR [0] [.tmp 2] Tryz.func286 ac8 (fun bM an bO => ?_)
 refine ws _ ?_
 refine aJ an (fun et b0 bg ay => ?_)
 refine dK (cl [(0, .ref (e2 a0)), (18, .bool (((a0.cY.length : Int) == 0) || (decide (3 < (a0.cY.length : Int)))))] (fun P ak => ?_) ?_)
 ·rcases Bool.eq_false_or_eq_true ((a0.cY.length : Int) == 0) with hl | hl
  ·simp only [aZ.down, simprocAttr, ou.down, hl]
   (try simp only [bn.down, simprocAttr, uX.down, hl] at ak ⊢); exact ak
  ·simp only [aZ.down, simprocAttr, ou.down, hl]
   (try simp only [bn.down, simprocAttr, uX.down, hl] at ak ⊢); exact ak
 refine aU h (fun bE h => ?_) (fun bE h => ?_)
 ·simp only [bE, aj.down]
  refine ws _ ?_
  exact aC (bg _ (.inl (aD [.bool false])))
 ·simp only [bE, aj.down]
  refine aW (b0 _ (.inl ?_))
  refine aJ an (fun gy dn dx cH => ?_)
  refine ws _ ?_
  refine bJ dx (fun ev c_ cw ed dF => ?_)
  have hy : ∀ (n : Nat) (dk : Int), sj a0 n dk = some r → dE aE L2 ev (aa [(0, .ref (e2 a0)), (3, .int .i64 dk)]) := by
   intro m14
   induction m14 with
   | zero => intro dk h; cases (show none = some r from h)
   | succ m14 hf =>
    intro dk h
    replace h : Aj (sj a0 m14) a0 dk = some r := h
    refine ea cw (fun ff cE cx da => ?_)
    refine aJ cx (fun ia eO fI eS => ?_)
    refine ws _ ?_
    refine aU h (fun dd h => ?_) (fun dd h => ?_)
    ·simp only [dd, aj.down]
     refine aW (eO _ (.inl ?_))
     refine aJ cx (fun ib eP eB iE => ?_)
     refine bJ eB (fun kB gV gE c4 j4 => ?_)
     obtain ⟨af, dM, h⟩ := aH h
     refine hW dM _ ?_
     refine aJ gE (fun F_ sP sQ Ga => ?_)
     obtain ⟨ay, ic, h⟩ := aH h
     refine fG rfl (fq [(0, .ref (e2 a0)), (3, .int .i64 dk), (4, .a7 (e7 af)), (44, .bool (!ay))] (fun P ak => ?_) ?_)
     ·simp only [ct.down, simprocAttr, ou.down]
      refine gS (mr af.dT 0 (IntKind.i64.wrap ((a0.df.length : Int) - 1)) _ ic) rfl rfl rfl rfl (.inl (by rfl)) ?_
      simp only [ct.down, simprocAttr, ou.down]
      refine ⟨fk (by kernel_rfl), ?_⟩
      (try simp only [bn.down, simprocAttr, uX.down] at ak ⊢); exact ak
     refine aU h (fun oC h => ?_) (fun oC h => ?_)
     ·simp only [(cG oC), aj.down]
      refine ws _ ?_
      exact aC (sQ _ (.inl (aD [.bool false])))
     ·simp only [(bd oC), aj.down]
      refine aW (sP _ (.inl ?_))
      obtain ⟨a6, jR, h⟩ := aH h
      rcases eZ h with ⟨iY, h⟩ | ⟨iY, h⟩
      ·refine fG rfl (fq [(0, .ref (e2 a0)), (3, .int .i64 dk), (63, .bool true)] (fun P ak => ?_) ?_)
       ·simp only [ct.down, simprocAttr, ou.down, jR, iY]
        refine ⟨fk (by kernel_rfl), ?_⟩
        (try simp only [bn.down, simprocAttr, uX.down, jR, iY] at ak ⊢); exact ak
       refine jc rfl ?_
       refine ws _ ?_
       exact aC (gE _ (.inl (aD [.bool false])))
      ·obtain ⟨bW, p5, h⟩ := aH h
       refine fG rfl (fq [(0, .ref (e2 a0)), (3, .int .i64 dk), (63, .bool (!bW))] (fun P ak => ?_) ?_)
       ·simp only [ct.down, simprocAttr, ou.down, jR, iY]
        refine kv (M8 af.cX _ p5) rfl rfl rfl rfl (.inl (by rfl)) ?_
        simp only [ct.down, simprocAttr, ou.down, jR, iY]
        refine ⟨fk (by kernel_rfl), ?_⟩
        (try simp only [bn.down, simprocAttr, uX.down, jR, iY] at ak ⊢); exact ak
       refine aU h (fun p7 h => ?_) (fun p7 h => ?_)
       ·simp only [(cG p7), aj.down]
        refine ws _ ?_
        exact aC (gE _ (.inl (aD [.bool false])))
       ·simp only [(bd p7), aj.down]
        refine aW (gV _ (eP _ (.inl ?_)))
        refine wr _ ?_
        exact cE _ (.inr ⟨_, bs rfl, hf (IntKind.i64.wrap (dk + 1)) h⟩)
    ·simp only [dd, aj.down]
     refine dY (eS 0 _ (da 0 _ (ed _ (dn _ (.inl ?_)))))
     refine ws _ ?_
     exact aC (an _ (.inl (aD [.bool true])))
  obtain ⟨n, h⟩ := dR h
  exact dZ (.inr ⟨_, bs rfl, hy n 0 h⟩)
theorem ph (a0 : List UInt8) (r : Bool) (h : sk a0 = some r) : bh aE 185 [.str a0] (.bool r) [] := by
 refine bR [0] [.tmp 2] Tryz.func185 ada (fun bM an bO => ?_)
 refine ws _ ?_
 obtain ⟨af, aQ, h⟩ := aH h
 refine dK (cl [(2, .bool (af && (!(a0 == ([116, 97, 117] : List UInt8)))))] (fun P ak => ?_) ?_)
 ·rcases Bool.eq_false_or_eq_true (af) with hl | hl
  ·simp only [aZ.down, simprocAttr, hl]
   refine fw (x5 a0 _ aQ) rfl rfl rfl rfl (.inl (by rfl)) ?_
   simp only [aZ.down, simprocAttr, hl]
   (try simp only [bn.down, simprocAttr, hl] at ak ⊢); exact ak
  ·simp only [aZ.down, simprocAttr, hl]
   refine fw (x5 a0 _ aQ) rfl rfl rfl rfl (.inl (by rfl)) ?_
   simp only [aZ.down, simprocAttr, hl]
   (try simp only [bn.down, simprocAttr, hl] at ak ⊢); exact ak
 exact aC (an _ (.inl (aD [.bool (af && (!(a0 == ([116, 97, 117] : List UInt8))))])))
theorem asb (a0 : List c2) (r : Bool) (h : Am a0 = some r) : bh aE 287 [.slice (a0.map bB)] (.bool r) [] := by
 refine bR [0] [.tmp 2] Tryz.func287 adA (fun bM an bO => ?_)
 refine ws _ ?_
 refine aJ an (fun et b0 bg ay => ?_)
 refine ws _ ?_
 refine aU h (fun bA h => ?_) (fun bA h => ?_)
 ·simp only [bA, aj.down]
  refine ws _ ?_
  exact aC (bg _ (.inl (aD [.bool false])))
 ·simp only [bA, aj.down]
  refine aW (b0 _ (.inl ?_))
  refine aJ an (fun fz eG dI cO => ?_)
  refine ws _ ?_
  refine bJ dI (fun hx hn hc bQ fP => ?_)
  have hy : ∀ (n : Nat) (dk : Int), lr a0 n dk = some r → dE aE L3 hx (aa [(0, .slice (a0.map bB)), (3, .int .i64 dk)]) := by
   intro m14
   induction m14 with
   | zero => intro dk h; cases (show none = some r from h)
   | succ m14 hf =>
    intro dk h
    replace h : Al (lr a0 m14) a0 dk = some r := h
    refine ea hc (fun ev c_ cw dF => ?_)
    refine aJ cw (fun ff cE cx da => ?_)
    refine ws _ ?_
    refine aU h (fun dj h => ?_) (fun dj h => ?_)
    ·simp only [dj, aj.down]
     refine aW (cE _ (.inl ?_))
     refine aJ cw (fun lx hd gF kC => ?_)
     refine bJ gF (fun ib eP eB eX iE => ?_)
     obtain ⟨af, bY, h⟩ := aH h
     refine hW bY _ ?_
     refine aJ eB (fun oy jP jQ nI => ?_)
     obtain ⟨ay, hA, h⟩ := aH h
     rcases eZ h with ⟨dN, h⟩ | ⟨dN, h⟩
     ·refine hX (cG dN) (ph af.Left _ hA) _ ?_
      refine jc rfl ?_
      refine ws _ ?_
      exact aC (jQ _ (.inl (aD [.bool false])))
     ·obtain ⟨a6, hI, h⟩ := aH h
      rcases eZ h with ⟨eY, h⟩ | ⟨eY, h⟩
      ·refine dK (cl [(0, .slice (a0.map bB)), (3, .int .i64 dk), (4, .a7 (bB af)), (41, .bool true)] (fun P ak => ?_) ?_)
       ·simp only [aZ.down, simprocAttr, mR.down, (bd dN), (cG eY)]
        refine fw (ph af.Left _ hA) rfl rfl rfl rfl (.inl (by rfl)) ?_
        simp only [aZ.down, simprocAttr, mR.down, (bd dN), (cG eY)]
        refine hv (ph af.cp _ hI) rfl rfl rfl rfl (.inl (by rfl)) ?_
        simp only [aZ.down, simprocAttr, mR.down, (bd dN), (cG eY)]
        (try simp only [bn.down, simprocAttr, bB, (bd dN), (cG eY)] at ak ⊢); exact ak
       refine jc rfl ?_
       refine ws _ ?_
       exact aC (jQ _ (.inl (aD [.bool false])))
      ·obtain ⟨bW, kn, h⟩ := aH h
       refine dK (cl [(0, .slice (a0.map bB)), (3, .int .i64 dk), (4, .a7 (bB af)), (41, .bool ((!bW) || (!(Op.bytesLess af.Left af.cp || af.Left == af.cp))))] (fun P ak => ?_) ?_)
       ·rcases Bool.eq_false_or_eq_true (bW) with oD | oD
        ·simp only [aZ.down, simprocAttr, mR.down, (bd dN), (bd eY), oD]
         refine fw (ph af.Left _ hA) rfl rfl rfl rfl (.inl (by rfl)) ?_
         simp only [aZ.down, simprocAttr, mR.down, (bd dN), (bd eY), oD]
         refine hv (ph af.cp _ hI) rfl rfl rfl rfl (.inl (by rfl)) ?_
         simp only [aZ.down, simprocAttr, mR.down, (bd dN), (bd eY), oD]
         refine hv (ph af.Result _ kn) rfl rfl rfl rfl (.inl (by rfl)) ?_
         simp only [aZ.down, simprocAttr, mR.down, (bd dN), (bd eY), oD]
         (try simp only [bn.down, simprocAttr, bB, (bd dN), (bd eY), oD] at ak ⊢); exact ak
        ·simp only [aZ.down, simprocAttr, mR.down, (bd dN), (bd eY), oD]
         refine fw (ph af.Left _ hA) rfl rfl rfl rfl (.inl (by rfl)) ?_
         simp only [aZ.down, simprocAttr, mR.down, (bd dN), (bd eY), oD]
         refine hv (ph af.cp _ hI) rfl rfl rfl rfl (.inl (by rfl)) ?_
         simp only [aZ.down, simprocAttr, mR.down, (bd dN), (bd eY), oD]
         refine hv (ph af.Result _ kn) rfl rfl rfl rfl (.inl (by rfl)) ?_
         simp only [aZ.down, simprocAttr, mR.down, (bd dN), (bd eY), oD]
         (try simp only [bn.down, simprocAttr, bB, (bd dN), (bd eY), oD] at ak ⊢); exact ak
       refine aU h (fun j6 h => ?_) (fun j6 h => ?_)
       ·simp only [j6, aj.down]
        refine ws _ ?_
        exact aC (jQ _ (.inl (aD [.bool false])))
       ·simp only [j6, aj.down]
        refine aW (jP _ (.inl ?_))
        refine aJ eB (fun BR sK qZ BS => ?_)
        rcases eZ h with ⟨jE, h⟩ | ⟨jE, h⟩
        ·obtain ⟨cf, BW, h⟩ := aH h
         refine fG rfl (fq [(0, .slice (a0.map bB)), (3, .int .i64 dk), (4, .a7 (bB af)), (76, .bool ((!(Op.bytesLess cf.Left af.Left || cf.Left == af.Left)) || ((cf.Left == af.Left) && (!(Op.bytesLess cf.cp af.cp)))))] (fun P ak => ?_) ?_)
         ·(rcases Bool.eq_false_or_eq_true (Op.bytesLess cf.Left af.Left) with Gb | Gb) <;> (rcases Bool.eq_false_or_eq_true (cf.Left == af.Left) with Gc | Gc) <;>
           (simp only [ct.down, simprocAttr, h_.down, jE, BW, Gb, Gc]
            refine ⟨fk (by kernel_rfl), ?_⟩
            (try simp only [bn.down, simprocAttr, bB, jE, BW, Gb, Gc] at ak ⊢); exact ak)
         refine aU h (fun oz h => ?_) (fun oz h => ?_)
         ·simp only [oz, aj.down]
          refine ws _ ?_
          exact aC (qZ _ (.inl (aD [.bool false])))
         ·simp only [oz, aj.down]
          refine aW (sK _ (.inl ?_))
          refine ws _ ?_
          refine bJ eB (fun asc ax1 asd pj ax2 => ?_)
          have Gd : ∀ (n : Nat) (jN : Int) (j2 : Int), oo (lr a0 m14) a0 af n jN j2 = some r → dE aE Fo asc (aa [(0, .slice (a0.map bB)), (3, .int .i64 jN), (4, .a7 (bB af)), (5, .int .i64 j2)]) := by
           intro sR
           induction sR with
           | zero => intro jN j2 h; cases (show none = some r from h)
           | succ sR Ge =>
            intro jN j2 h
            replace h : xj (lr a0 m14) (oo (lr a0 m14) a0 af sR) a0 af jN j2 = some r := h
            refine ea asd (fun ax3 ase M9 asf => ?_)
            refine aJ M9 (fun ar0 F5 M3 M4 => ?_)
            refine ws _ ?_
            refine aU h (fun ya h => ?_) (fun ya h => ?_)
            ·simp only [ya, aj.down]
             refine aW (F5 _ (.inl ?_))
             refine aJ M9 (fun ar5 F7 BV M5 => ?_)
             refine bJ BV (fun ar6 F8 M6 q0 M7 => ?_)
             obtain ⟨cO, sM, h⟩ := aH h
             refine fG rfl (fq [(0, .slice (a0.map bB)), (3, .int .i64 jN), (4, .a7 (bB af)), (5, .int .i64 j2), (100, .bool ((cO.Left == af.Result) || (cO.cp == af.Result)))] (fun P ak => ?_) ?_)
             ·rcases Bool.eq_false_or_eq_true (cO.Left == af.Result) with sC | sC
              ·simp only [ct.down, simprocAttr, h_.down, sM, sC]
               refine ⟨fk (by kernel_rfl), ?_⟩
               (try simp only [bn.down, simprocAttr, bB, sM, sC] at ak ⊢); exact ak
              ·simp only [ct.down, simprocAttr, h_.down, sM, sC]
               refine ⟨fk (by kernel_rfl), ?_⟩
               (try simp only [bn.down, simprocAttr, bB, sM, sC] at ak ⊢); exact ak
             refine aU h (fun x_ h => ?_) (fun x_ h => ?_)
             ·simp only [x_, aj.down]
              refine ws _ ?_
              exact aC (M6 _ (.inl (aD [.bool false])))
             ·simp only [x_, aj.down]
              refine aW (F8 _ (F7 _ (.inl ?_)))
              refine wr _ ?_
              exact ase _ (.inr ⟨_, bs rfl, Ge jN (IntKind.i64.wrap (j2 + 1)) h⟩)
            ·simp only [ya, aj.down]
             refine dY (M4 2 _ (asf 2 _ (pj _ (eP _ (hd _ (.inl ?_))))))
             refine wr _ ?_
             exact c_ _ (.inr ⟨_, bs rfl, hf (IntKind.i64.wrap (jN + 1)) h⟩)
          obtain ⟨n, h⟩ := dR h
          exact dZ (.inr ⟨_, bs rfl, Gd n dk 0 h⟩)
        ·refine fG rfl (fq [(0, .slice (a0.map bB)), (3, .int .i64 dk), (4, .a7 (bB af)), (76, .bool false)] (fun P ak => ?_) ?_)
         ·simp only [ct.down, simprocAttr, h_.down, jE]
          refine ⟨fk (by kernel_rfl), ?_⟩
          (try simp only [bn.down, simprocAttr, bB, jE] at ak ⊢); exact ak
         refine r0 rfl ?_
         refine aW (sK _ (.inl ?_))
         refine ws _ ?_
         refine bJ eB (fun asg ax4 ash yb ax5 => ?_)
         have Gd : ∀ (n : Nat) (jN : Int) (j2 : Int), oo (lr a0 m14) a0 af n jN j2 = some r → dE aE Fo asg (aa [(0, .slice (a0.map bB)), (3, .int .i64 jN), (4, .a7 (bB af)), (5, .int .i64 j2)]) := by
          intro sR
          induction sR with
          | zero => intro jN j2 h; cases (show none = some r from h)
          | succ sR Ge =>
           intro jN j2 h
           replace h : xj (lr a0 m14) (oo (lr a0 m14) a0 af sR) a0 af jN j2 = some r := h
           refine ea ash (fun ax6 asi M_ asj => ?_)
           refine aJ M_ (fun ax7 asl ax8 asm => ?_)
           refine ws _ ?_
           refine aU h (fun sN h => ?_) (fun sN h => ?_)
           ·simp only [sN, aj.down]
            refine aW (asl _ (.inl ?_))
            refine aJ M_ (fun ax9 asn aso ax_ => ?_)
            refine bJ aso (fun aya asp asq BT ayb => ?_)
            obtain ⟨cH, BX, h⟩ := aH h
            refine fG rfl (fq [(0, .slice (a0.map bB)), (3, .int .i64 jN), (4, .a7 (bB af)), (5, .int .i64 j2), (100, .bool ((cH.Left == af.Result) || (cH.cp == af.Result)))] (fun P ak => ?_) ?_)
            ·rcases Bool.eq_false_or_eq_true (cH.Left == af.Result) with sD | sD
             ·simp only [ct.down, simprocAttr, h_.down, BX, sD]
              refine ⟨fk (by kernel_rfl), ?_⟩
              (try simp only [bn.down, simprocAttr, bB, BX, sD] at ak ⊢); exact ak
             ·simp only [ct.down, simprocAttr, h_.down, BX, sD]
              refine ⟨fk (by kernel_rfl), ?_⟩
              (try simp only [bn.down, simprocAttr, bB, BX, sD] at ak ⊢); exact ak
            refine aU h (fun Gf h => ?_) (fun Gf h => ?_)
            ·simp only [Gf, aj.down]
             refine ws _ ?_
             exact aC (asq _ (.inl (aD [.bool false])))
            ·simp only [Gf, aj.down]
             refine aW (asp _ (asn _ (.inl ?_)))
             refine wr _ ?_
             exact asi _ (.inr ⟨_, bs rfl, Ge jN (IntKind.i64.wrap (j2 + 1)) h⟩)
           ·simp only [sN, aj.down]
            refine dY (asm 2 _ (asj 2 _ (yb _ (eP _ (hd _ (.inl ?_))))))
            refine wr _ ?_
            exact c_ _ (.inr ⟨_, bs rfl, hf (IntKind.i64.wrap (jN + 1)) h⟩)
         obtain ⟨n, h⟩ := dR h
         exact dZ (.inr ⟨_, bs rfl, Gd n dk 0 h⟩)
    ·simp only [dj, aj.down]
     refine dY (da 0 _ (dF 0 _ (bQ _ (eG _ (.inl ?_)))))
     refine ws _ ?_
     exact aC (an _ (.inl (aD [.bool true])))
  obtain ⟨n, h⟩ := dR h
  exact dZ (.inr ⟨_, bs rfl, hy n 0 h⟩)
theorem asr (a0 : List (List UInt8)) (r : Bool) (h : Ao a0 = some r) : bh aE 311 [.slice (a0.map bw)] (.bool r) [] := by
 refine bR [0] [.tmp 2] Tryz.func311 adK (fun bM an bO => ?_)
 refine ws _ ?_
 refine aJ an (fun et b0 bg ay => ?_)
 refine ws _ ?_
 refine bJ bg (fun eT eL ch bA bW => ?_)
 have hY : ∀ (n : Nat) (jd : Int), sl a0 n jd = some r → dE aE L4 eT (aa [(0, .slice (a0.map bw)), (3, .int .i64 jd)]) := by
  intro m6
  induction m6 with
  | zero => intro jd h; cases (show none = some r from h)
  | succ m6 ho =>
   intro jd h
   replace h : An (sl a0 m6) a0 jd = some r := h
   refine ea ch (fun iX e3 dW cf => ?_)
   refine aJ dW (fun fz eG dI cO => ?_)
   refine ws _ ?_
   refine aU h (fun bQ h => ?_) (fun bQ h => ?_)
   ·simp only [bQ, aj.down]
    refine aW (eG _ (.inl ?_))
    refine aJ dW (fun ev c_ cw dF => ?_)
    refine bJ cw (fun ff cE cx cP da => ?_)
    obtain ⟨af, iJ, h⟩ := aH h
    obtain ⟨ay, fV, h⟩ := aH h
    refine hX iJ (ph af _ fV) _ ?_
    refine aU h (fun eX h => ?_) (fun eX h => ?_)
    ·simp only [(cG eX), aj.down]
     refine ws _ ?_
     exact aC (cx _ (.inl (aD [.bool false])))
    ·simp only [(bd eX), aj.down]
     refine aW (cE _ (c_ _ (.inl ?_)))
     refine wr _ ?_
     exact e3 _ (.inr ⟨_, bs rfl, ho (IntKind.i64.wrap (jd + 1)) h⟩)
   ·simp only [bQ, aj.down]
    refine dY (cO 0 _ (cf 0 _ (bA _ (b0 _ (.inl ?_)))))
    refine ws _ ?_
    exact aC (an _ (.inl (aD [.bool true])))
 obtain ⟨n, h⟩ := dR h
 exact dZ (.inr ⟨_, bs rfl, hY n 0 h⟩)
theorem Na (a0 : List (List UInt8)) (r : Bool) (h : xl a0 = some r) : bh aE 288 [.slice (a0.map bw)] (.bool r) [] := by
 refine bR [0] [.tmp 2] Tryz.func288 adX (fun bM an bO => ?_)
 refine ws _ ?_
 refine aJ an (fun et b0 bg ay => ?_)
 rcases eZ h with ⟨bA, h⟩ | ⟨bA, h⟩
 ·refine hW bA _ ?_
  refine jc rfl ?_
  refine ws _ ?_
  exact aC (bg _ (.inl (aD [.bool false])))
 ·obtain ⟨af, bZ, h⟩ := aH h
  refine dK (cl [(0, .slice (a0.map bw)), (11, .bool (!af))] (fun P ak => ?_) ?_)
  ·simp only [aZ.down, simprocAttr, ez, kj, bw, bA]
   refine hv (asr a0 _ bZ) rfl rfl rfl rfl (.inl (by rfl)) ?_
   simp only [aZ.down, simprocAttr, ez, kj, bw, bA]
   (try simp only [bn.down, simprocAttr, bw, bA] at ak ⊢); exact ak
  refine aU h (fun k5 h => ?_) (fun k5 h => ?_)
  ·simp only [(cG k5), aj.down]
   refine ws _ ?_
   exact aC (bg _ (.inl (aD [.bool false])))
  ·simp only [(bd k5), aj.down]
   refine aW (b0 _ (.inl ?_))
   refine aJ an (fun ev c_ cw dF => ?_)
   refine ws _ ?_
   refine bJ cw (fun ia eO fI jC eS => ?_)
   have hy : ∀ (n : Nat) (dk : Int), mO a0 n dk = some r → dE aE L5 ia (aa [(0, .slice (a0.map bw)), (3, .int .i64 dk)]) := by
    intro m14
    induction m14 with
    | zero => intro dk h; cases (show none = some r from h)
    | succ m14 hf =>
     intro dk h
     replace h : xk (mO a0 m14) a0 dk = some r := h
     refine ea fI (fun jD f_ ix iV => ?_)
     refine aJ ix (fun lx hd gF kC => ?_)
     refine ws _ ?_
     refine aU h (fun c4 h => ?_) (fun c4 h => ?_)
     ·simp only [c4, aj.down]
      refine aW (hd _ (.inl ?_))
      refine aJ ix (fun p3 km lh p4 => ?_)
      refine bJ lh (fun oy jP jQ hZ nI => ?_)
      obtain ⟨ay, hA, h⟩ := aH h
      obtain ⟨a6, ic, h⟩ := aH h
      refine fG rfl (fq [(0, .slice (a0.map bw)), (3, .int .i64 dk), (27, .bool (!(Op.bytesLess ay a6)))] (fun P ak => ?_) ?_)
      ·simp only [ct.down, simprocAttr, ez, kj, bw, hA, ic]
       refine ⟨fk (by kernel_rfl), ?_⟩
       (try simp only [bn.down, simprocAttr, bw, hA, ic] at ak ⊢); exact ak
      refine aU h (fun oC h => ?_) (fun oC h => ?_)
      ·simp only [oC, aj.down]
       refine ws _ ?_
       exact aC (jQ _ (.inl (aD [.bool false])))
      ·simp only [oC, aj.down]
       refine aW (jP _ (km _ (.inl ?_)))
       refine wr _ ?_
       exact f_ _ (.inr ⟨_, bs rfl, hf (IntKind.i64.wrap (dk + 1)) h⟩)
     ·simp only [c4, aj.down]
      refine dY (kC 0 _ (iV 0 _ (jC _ (c_ _ (.inl ?_)))))
      refine ws _ ?_
      exact aC (an _ (.inl (aD [.bool true])))
   obtain ⟨n, h⟩ := dR h
   exact dZ (.inr ⟨_, bs rfl, hy n 1 h⟩)
theorem ass (a0 : dh) (r : Int) (h : Ap a0 = some r) : bh aE 246 [.ref (e2 a0)] (.int .i64 r) [] := by
 refine bR [0] [.tmp 2] Tryz.func246 aee (fun bM an bO => ?_)
 refine ws _ ?_
 refine aJ an (fun et b0 bg ay => ?_)
 obtain ⟨af, ca, h⟩ := aH h
 refine di (arU a0.df _ ca) _ ?_
 refine aU h (fun bE h => ?_) (fun bE h => ?_)
 ·simp only [(cG bE), aj.down]
  refine ws _ ?_
  exact aC (bg _ (.inl (aD [.int .i64 1])))
 ·simp only [(bd bE), aj.down]
  refine aW (b0 _ (.inl ?_))
  refine aJ an (fun gy dn dx cH => ?_)
  obtain ⟨ay, ln, h⟩ := aH h
  refine di (asa a0 _ ln) _ ?_
  refine aU h (fun cP h => ?_) (fun cP h => ?_)
  ·simp only [(cG cP), aj.down]
   refine ws _ ?_
   exact aC (dx _ (.inl (aD [.int .i64 2])))
  ·simp only [(bd cP), aj.down]
   refine aW (dn _ (.inl ?_))
   refine aJ an (fun jD f_ ix iV => ?_)
   obtain ⟨a6, dD, h⟩ := aH h
   refine di (asb a0.hR _ dD) _ ?_
   refine aU h (fun c4 h => ?_) (fun c4 h => ?_)
   ·simp only [(cG c4), aj.down]
    refine ws _ ?_
    exact aC (ix _ (.inl (aD [.int .i64 3])))
   ·simp only [(bd c4), aj.down]
    refine aW (f_ _ (.inl ?_))
    refine aJ an (fun oy jP jQ nI => ?_)
    obtain ⟨bW, hA, h⟩ := aH h
    refine di (Na a0.hF _ hA) _ ?_
    refine aU h (fun dN h => ?_) (fun dN h => ?_)
    ·simp only [(cG dN), aj.down]
     refine ws _ ?_
     exact aC (jQ _ (.inl (aD [.int .i64 4])))
    ·simp only [(bd dN), aj.down]
     refine aW (jP _ (.inl ?_))
     refine aJ an (fun x3 ow ox x4 => ?_)
     obtain ⟨cf, jR, h⟩ := aH h
     refine di (Na a0.hG _ jR) _ ?_
     refine aU h (fun iY h => ?_) (fun iY h => ?_)
     ·simp only [(cG iY), aj.down]
      refine ws _ ?_
      exact aC (ox _ (.inl (aD [.int .i64 5])))
     ·simp only [(bd iY), aj.down]
      refine aW (ow _ (.inl ?_))
      refine ws _ ?_
      exact aC (an _ (.inl (aD [.int .i64 0])))
theorem Nb (a0 : dh) (r : Bool) (h : Aq a0 = some r) : bh aE 168 [.ref (e2 a0)] (.bool r) [] := by
 refine bR [0] [.tmp 2] Tryz.func168 aeh (fun bM an bO => ?_)
 refine ws _ ?_
 obtain ⟨af, aQ, h⟩ := aH h
 refine di (ass a0 _ aQ) _ ?_
 exact aC (an _ (.inl (aD [.bool (af == 0)])))
theorem ast (a0 : List bm) (U : c8) (r : Bool) (h : sn a0 U = some r) : bh aE 96 [.slice (a0.map bq), .ref (dU U)] (.bool r) [] := by
 refine bR [0, 1] [.tmp 4] Tryz.func96 aer (fun bM an bO => ?_)
 refine ws _ ?_
 refine aJ an (fun et b0 bg ay => ?_)
 obtain ⟨af, ca, h⟩ := aH h
 refine di (mr U.dT 0 (IntKind.i64.wrap ((a0.length : Int) - 1)) _ ca) _ ?_
 refine aU h (fun bE h => ?_) (fun bE h => ?_)
 ·simp only [(cG bE), aj.down]
  refine ws _ ?_
  exact aC (bg _ (.inl (aD [.bool false])))
 ·simp only [(bd bE), aj.down]
  refine aW (b0 _ (.inl ?_))
  obtain ⟨ay, hi, h⟩ := aH h
  refine hW hi _ ?_
  refine aJ an (fun ev c_ cw dF => ?_)
  obtain ⟨a6, oS, h⟩ := aH h
  rcases eZ h with ⟨dj, h⟩ | ⟨dj, h⟩
  ·refine fG rfl (fq [(1, .ref (dU U)), (5, .a7 (bq ay)), (43, .bool true)] (fun P ak => ?_) ?_)
   ·simp only [ct.down, simprocAttr, BH.down, (cG dj)]
    refine gS (mr U.Part 0 (IntKind.i64.wrap ((ay.Body.length : Int) - 1)) _ oS) rfl rfl rfl rfl (.inl (by rfl)) ?_
    simp only [ct.down, simprocAttr, BH.down, (cG dj)]
    refine ⟨fk (by kernel_rfl), ?_⟩
    (try simp only [bn.down, simprocAttr, sF.down, (cG dj)] at ak ⊢); exact ak
   refine jc rfl ?_
   refine ws _ ?_
   exact aC (cw _ (.inl (aD [.bool false])))
  ·obtain ⟨bW, dD, h⟩ := aH h
   refine fG rfl (fq [(1, .ref (dU U)), (5, .a7 (bq ay)), (43, .bool (bW.Kind == 5))] (fun P ak => ?_) ?_)
   ·simp only [ct.down, simprocAttr, BH.down, (bd dj), dD]
    refine gS (mr U.Part 0 (IntKind.i64.wrap ((ay.Body.length : Int) - 1)) _ oS) rfl rfl rfl rfl (.inl (by rfl)) ?_
    simp only [ct.down, simprocAttr, BH.down, (bd dj), dD]
    refine ⟨fk (by kernel_rfl), ?_⟩
    (try simp only [bn.down, simprocAttr, sF.down, (bd dj), dD] at ak ⊢); exact ak
   refine aU h (fun c4 h => ?_) (fun c4 h => ?_)
   ·simp only [c4, aj.down]
    refine ws _ ?_
    exact aC (cw _ (.inl (aD [.bool false])))
   ·simp only [c4, aj.down]
    refine aW (c_ _ (.inl ?_))
    obtain ⟨cf, eK, h⟩ := aH h
    rcases eZ h with ⟨eW, h⟩ | ⟨eW, h⟩
    ·obtain ⟨cO, ic, h⟩ := aH h
     refine fG rfl (fq [(4, .bool cO)] (fun P ak => ?_) ?_)
     ·simp only [ct.down, simprocAttr, sG.down, eW]
      refine gS (FH ay U.Part _ eK) rfl rfl (by simp only [ct.down, simprocAttr, sG.down, eW, kg, kh, ki, ef, @cF _ cc cc (fun _ => xR _)] <;> rfl) rfl (.inr (by rfl)) ?_
      simp only [ct.down, simprocAttr, sG.down, eW]
      refine kv (M8 U.cX _ ic) rfl rfl rfl rfl (.inl (by rfl)) ?_
      simp only [ct.down, simprocAttr, sG.down, eW]
      refine ⟨fk (by kernel_rfl), ?_⟩
      (try simp only [bn.down, simprocAttr, sF.down, eW] at ak ⊢); exact ak
     exact aC (an _ (.inl (aD [.bool cO])))
    ·refine fG rfl (fq [(4, .bool false)] (fun P ak => ?_) ?_)
     ·simp only [ct.down, simprocAttr, sG.down, eW]
      refine gS (FH ay U.Part _ eK) rfl rfl (by simp only [ct.down, simprocAttr, sG.down, eW, kg, kh, ki, ef, @cF _ cc cc (fun _ => xR _)] <;> rfl) rfl (.inr (by rfl)) ?_
      simp only [ct.down, simprocAttr, sG.down, eW]
      refine ⟨fk (by kernel_rfl), ?_⟩
      (try simp only [bn.down, simprocAttr, sF.down, eW] at ak ⊢); exact ak
     exact aC (an _ (.inl (aD [.bool false])))
theorem asu (a0 : dh) (U : List c8) (r : Bool) (h : As a0 U = some r) : bh aE 169 [.ref (e2 a0), .slice (U.map dU)] (.bool r) [] := by
 refine bR [0, 1] [.tmp 4] Tryz.func169 aeE (fun bM an bO => ?_)
 refine ws _ ?_
 refine aJ an (fun et b0 bg ay => ?_)
 refine ws _ ?_
 refine aU h (fun bA h => ?_) (fun bA h => ?_)
 ·simp only [bA, aj.down]
  refine ws _ ?_
  exact aC (bg _ (.inl (aD [.bool false])))
 ·simp only [bA, aj.down]
  refine aW (b0 _ (.inl ?_))
  refine aJ an (fun fz eG dI cO => ?_)
  refine ws _ ?_
  refine bJ dI (fun hx hn hc bQ fP => ?_)
  have hy : ∀ (n : Nat) (bC : Int), so a0 U n bC = some r → dE aE L6 hx (aa [(0, .ref (e2 a0)), (1, .slice (U.map dU)), (5, .int .i64 bC)]) := by
   intro m14
   induction m14 with
   | zero => intro bC h; cases (show none = some r from h)
   | succ m14 hf =>
    intro bC h
    replace h : Ar (so a0 U m14) a0 U bC = some r := h
    refine ea hc (fun ev c_ cw dF => ?_)
    refine aJ cw (fun ff cE cx da => ?_)
    refine ws _ ?_
    refine aU h (fun dj h => ?_) (fun dj h => ?_)
    ·simp only [dj, aj.down]
     refine aW (cE _ (.inl ?_))
     refine aJ cw (fun lx hd gF kC => ?_)
     refine bJ gF (fun ib eP eB eX iE => ?_)
     obtain ⟨af, bY, h⟩ := aH h
     obtain ⟨ay, dM, h⟩ := aH h
     refine fG rfl (fq [(0, .ref (e2 a0)), (1, .slice (U.map dU)), (5, .int .i64 bC), (28, .bool (!ay))] (fun P ak => ?_) ?_)
     ·simp only [ct.down, simprocAttr, p2.down, bY]
      refine gS (ast a0.df af _ dM) rfl rfl rfl rfl (.inl (by rfl)) ?_
      simp only [ct.down, simprocAttr, p2.down, bY]
      refine ⟨fk (by kernel_rfl), ?_⟩
      (try simp only [bn.down, simprocAttr, jO.down, bY] at ak ⊢); exact ak
     refine aU h (fun e8 h => ?_) (fun e8 h => ?_)
     ·simp only [(cG e8), aj.down]
      refine ws _ ?_
      exact aC (eB _ (.inl (aD [.bool false])))
     ·simp only [(bd e8), aj.down]
      refine aW (eP _ (hd _ (.inl ?_)))
      refine wr _ ?_
      exact c_ _ (.inr ⟨_, bs rfl, hf (IntKind.i64.wrap (bC + 1)) h⟩)
    ·simp only [dj, aj.down]
     refine dY (da 0 _ (dF 0 _ (bQ _ (eG _ (.inl ?_)))))
     refine ws _ ?_
     exact aC (an _ (.inl (aD [.bool true])))
  obtain ⟨n, h⟩ := dR h
  exact dZ (.inr ⟨_, bs rfl, hy n 0 h⟩)
theorem asv (a0 : dh) (U : List c8) (r : Int) (h : EK a0 U = some r) : bh aE 106 [.ref (e2 a0), .slice (U.map dU)] (.int .i64 r) [] := by
 refine bR [0, 1] [.tmp 4] Tryz.func106 aeK (fun bM an bO => ?_)
 refine ws _ ?_
 refine aJ an (fun et b0 bg ay => ?_)
 obtain ⟨af, ca, h⟩ := aH h
 rcases eZ h with ⟨bE, h⟩ | ⟨bE, h⟩
 ·refine hX (cG bE) (Nb a0 _ ca) _ ?_
  refine jc rfl ?_
  refine ws _ ?_
  exact aC (bg _ (.inl (aD [.int .i64 1])))
 ·obtain ⟨ay, bS, h⟩ := aH h
  refine dK (cl [(13, .bool (!ay))] (fun P ak => ?_) ?_)
  ·simp only [aZ.down, simprocAttr, jO.down, (bd bE)]
   refine fw (Nb a0 _ ca) rfl rfl rfl rfl (.inl (by rfl)) ?_
   simp only [aZ.down, simprocAttr, jO.down, (bd bE)]
   refine hv (asu a0 U _ bS) rfl rfl rfl rfl (.inl (by rfl)) ?_
   simp only [aZ.down, simprocAttr, jO.down, (bd bE)]
   (try simp only [bn.down, simprocAttr, jO.down, (bd bE)] at ak ⊢); exact ak
  refine aU h (fun bQ h => ?_) (fun bQ h => ?_)
  ·simp only [(cG bQ), aj.down]
   refine ws _ ?_
   exact aC (bg _ (.inl (aD [.int .i64 1])))
  ·simp only [(bd bQ), aj.down]
   refine aW (b0 _ (.inl ?_))
   refine ws _ ?_
   exact aC (an _ (.inl (aD [.int .i64 0])))
theorem Nc (a0 : Int) (r : (List UInt8)) (h : uI a0 = some r) : bh aE 170 [.int .i64 a0] (.str r) [] := by
 refine bR [0] [.tmp 2] Tryz.func170 ae7 (fun bM an bO => ?_)
 refine ws _ ?_
 refine aJ an (fun et b0 bg ay => ?_)
 refine ws _ ?_
 refine aU h (fun bA h => ?_) (fun bA h => ?_)
 ·simp only [bA, aj.down]
  refine ws _ ?_
  exact aC (bg _ (.inl (aD [.str ([48] : List UInt8)])))
 ·simp only [bA, aj.down]
  refine aW (b0 _ (.inl ?_))
  refine hW (show ∀ s, eD aE s 123 0 [] = some (.aP 1 [], s) from fun s => by kernel_rfl) _ ?_
  refine aJ an (fun gy dn dx cH => ?_)
  refine ws _ ?_
  refine bJ dx (fun ev c_ cw ed dF => ?_)
  have jg : ∀ (n : Nat) (fe : List UInt8) (fo : Int), pd a0 n fe fo = some r → dE aE L8 ev (aa [(0, .int .i64 a0), (3, .aP 1 (fe.map gl)), (4, .int .i64 fo)]) := by
   intro m16
   induction m16 with
   | zero => intro fe fo h; cases (show none = some r from h)
   | succ m16 jh =>
    intro fe fo h
    replace h : Av (pd a0 m16) a0 fe fo = some r := h
    refine ea cw (fun ff cE cx da => ?_)
    refine aJ cx (fun ia eO fI eS => ?_)
    refine ws _ ?_
    refine aU h (fun dd h => ?_) (fun dd h => ?_)
    ·simp only [dd, aj.down]
     refine aW (eO _ (.inl ?_))
     refine aJ cx (fun ib eP eB iE => ?_)
     refine bJ eB (fun kB gV gE c4 j4 => ?_)
     refine hW (@St .i64 10 (by decide)) _ ?_
     have Nd : ∀ (pV : List UInt8) (qQ : Int) (nC : Int), At (pd a0 m16) a0 pV qQ nC = some r → cW aE L7 kB (aa [(0, .int .i64 a0), (3, .aP 1 (pV.map gl)), (4, .int .i64 qQ), (5, .int .i64 nC)]) := by
      intro pV qQ nC h
      obtain ⟨BZ, hA, h⟩ := aH h
      (try simp only [List.length_append, List.length_cons, List.length_nil, List.length_map, List.length_replicate, Nat.zero_add, Nat.add_zero, Nat.reduceAdd] at hA)
      refine kf (cl [(0, .int .i64 a0), (3, .aP 1 ((pV ++ [(oN (IntKind.i64.wrap (48 + nC)))]).map gl)), (4, .int .i64 qQ)] (fun P ak => ?_) ?_)
      ·simp only [aZ.down, simprocAttr, zu, zx, gl, @JH aE 2 5 .u8 rfl rfl, (show ∀ s, eD aE s 123 1 [(0, .int .u8 (IntKind.u8.wrap (IntKind.i64.wrap (48 + nC))))] = some (.aP 1 [.int .u8 (IntKind.u8.wrap (IntKind.i64.wrap (48 + nC)))], s) from fun s => by kernel_rfl), @pM aE 123 123 5 rfl rfl, pN, pO, pP, all_cons, all_nil, hA, uf]
       (try simp only [bn.down, simprocAttr, gl, @JH aE 2 5 .u8 rfl rfl, (show ∀ s, eD aE s 123 1 [(0, .int .u8 (IntKind.u8.wrap (IntKind.i64.wrap (48 + nC))))] = some (.aP 1 [.int .u8 (IntKind.u8.wrap (IntKind.i64.wrap (48 + nC)))], s) from fun s => by kernel_rfl), @pM aE 123 123 5 rfl rfl, pN, pO, pP, all_cons, all_nil, hA, uf] at ak ⊢); exact ak
      refine gV _ (eP _ (.inl ?_))
      refine aq0 (@Ss .i64 10 (by decide)) [(0, .int .i64 a0), (3, .aP 1 ((pV ++ [(oN (IntKind.i64.wrap (48 + nC)))]).map gl)), (4, .int .i64 (IntKind.i64.wrap (Int.tdiv qQ 10)))] ?_
      exact cE _ (.inr ⟨_, bs rfl, jh (pV ++ [(oN (IntKind.i64.wrap (48 + nC)))]) (IntKind.i64.wrap (Int.tdiv qQ 10)) h⟩)
     refine aJ gE (fun oy jP jQ nI => ?_)
     refine ws _ ?_
     refine aU h (fun ko h => ?_) (fun ko h => ?_)
     ·simp only [ko, aj.down]
      refine wr _ ?_
      exact jP _ (.inr ⟨_, bs rfl, Nd fe fo (IntKind.i64.wrap (0 - (Int.tmod fo 10))) h⟩)
     ·simp only [ko, aj.down]
      exact aW (jP _ (.inr ⟨_, bs rfl, Nd fe fo (Int.tmod fo 10) h⟩))
    ·simp only [dd, aj.down]
     refine dY (eS 0 _ (da 0 _ (ed _ (dn _ (.inl ?_)))))
     have Nf : ∀ (kR : List UInt8), qR kR = some r → cW aE L_ bM (aa [(3, .aP 1 (kR.map gl))]) := by
      intro kR h
      refine hW (show ∀ s, eD aE s 123 0 [] = some (.aP 1 [], s) from fun s => by kernel_rfl) _ ?_
      refine aJ an (fun M0 M1 F3 arV => ?_)
      refine ws _ ?_
      refine bJ F3 (fun Fz BL BM p7 FA => ?_)
      have asw : ∀ (n : Nat) (lu : List UInt8) (ml : Int), Au kR n lu ml = some r → dE aE L9 Fz (aa [(3, .aP 1 (kR.map gl)), (6, .aP 1 (lu.map gl)), (7, .int .i64 ml)]) := by
       intro Gg
       induction Gg with
       | zero => intro lu ml h; cases (show none = some r from h)
       | succ Gg asx =>
        intro lu ml h
        replace h : K4 (Au kR Gg) kR lu ml = some r := h
        refine ea BM (fun BR sK qZ BS => ?_)
        refine aJ qZ (fun arH FM FN FO => ?_)
        refine ws _ ?_
        refine aU h (fun lz h => ?_) (fun lz h => ?_)
        ·simp only [lz, aj.down]
         refine aW (FM _ (.inl ?_))
         refine aJ qZ (fun ayc asy asz ayd => ?_)
         refine bJ asz (fun arJ FQ MZ aye arK => ?_)
         obtain ⟨af, u4, h⟩ := aH h
         obtain ⟨ayf, sL, h⟩ := aH h
         (try simp only [List.length_append, List.length_cons, List.length_nil, List.length_map, List.length_replicate, Nat.zero_add, Nat.add_zero, Nat.reduceAdd] at sL)
         refine kf (cl [(3, .aP 1 (kR.map gl)), (6, .aP 1 ((lu ++ [af]).map gl)), (7, .int .i64 ml)] (fun P ak => ?_) ?_)
         ·simp only [aZ.down, simprocAttr, zu, zx, gl, u4, fR u4, (show ∀ s, eD aE s 123 1 [(0, .int .u8 (af.toNat : Int))] = some (.aP 1 [.int .u8 (af.toNat : Int)], s) from fun s => by kernel_rfl), @pM aE 123 123 5 rfl rfl, pN, pO, pP, all_cons, all_nil, sL, uf]
          (try simp only [bn.down, simprocAttr, gl, u4, fR u4, (show ∀ s, eD aE s 123 1 [(0, .int .u8 (af.toNat : Int))] = some (.aP 1 [.int .u8 (af.toNat : Int)], s) from fun s => by kernel_rfl), @pM aE 123 123 5 rfl rfl, pN, pO, pP, all_cons, all_nil, sL, uf] at ak ⊢); exact ak
         refine FQ _ (asy _ (.inl ?_))
         refine wr [(3, .aP 1 (kR.map gl)), (6, .aP 1 ((lu ++ [af]).map gl)), (7, .int .i64 (IntKind.i64.wrap (ml - 1)))] ?_
         exact sK _ (.inr ⟨_, bs rfl, asx (lu ++ [af]) (IntKind.i64.wrap (ml - 1)) h⟩)
        ·simp only [lz, aj.down]
         refine dY (FO 2 _ (BS 2 _ (p7 _ (M1 _ (.inl ?_)))))
         refine dK (cl [(2, .str lu)] (fun P ak => ?_) ?_)
         ·simp only [aZ.down, simprocAttr, gl, (@JJ aE 123 9 5 rfl rfl rfl).2.2, JM, JK]
          (try simp only [bn.down, simprocAttr, gl, (@JJ aE 123 9 5 rfl rfl rfl).2.2, JM, JK] at ak ⊢); exact ak
         exact aC (an _ (.inl (aD [.str lu])))
      obtain ⟨n, h⟩ := dR h
      exact dZ (.inr ⟨_, bs rfl, asw n [] (IntKind.i64.wrap ((kR.length : Int) - 1)) h⟩)
     refine aJ an (fun ayg Ng ayh ayi => ?_)
     refine ws _ ?_
     refine aU h (fun Gh h => ?_) (fun Gh h => ?_)
     ·simp only [Gh, aj.down]
      obtain ⟨ayj, Gi, h⟩ := aH h
      (try simp only [List.length_append, List.length_cons, List.length_nil, List.length_map, List.length_replicate, Nat.zero_add, Nat.add_zero, Nat.reduceAdd] at Gi)
      refine kf (cl [(3, .aP 1 ((fe ++ [(45 : UInt8)]).map gl))] (fun P ak => ?_) ?_)
      ·simp only [aZ.down, simprocAttr, zu, zx, gl, (show ∀ s, eD aE s 123 1 [(0, .int .u8 45)] = some (.aP 1 [.int .u8 45], s) from fun s => by kernel_rfl), @pM aE 123 123 5 rfl rfl, pN, pO, pP, all_cons, all_nil, Gi, uf]
       (try simp only [bn.down, simprocAttr, gl, (show ∀ s, eD aE s 123 1 [(0, .int .u8 45)] = some (.aP 1 [.int .u8 45], s) from fun s => by kernel_rfl), @pM aE 123 123 5 rfl rfl, pN, pO, pP, all_cons, all_nil, Gi, uf] at ak ⊢); exact ak
      exact Ng _ (.inr ⟨_, bs rfl, Nf (fe ++ [(45 : UInt8)]) h⟩)
     ·simp only [Gh, aj.down]
      exact aW (Ng _ (.inr ⟨_, bs rfl, Nf fe h⟩))
  obtain ⟨n, h⟩ := dR h
  exact dZ (.inr ⟨_, bs rfl, jg n [] a0 h⟩)
theorem asA (a0 : List Int) (r : (List UInt8)) (h : Ay a0 = some r) : bh aE 171 [.slice (a0.map bD)] (.str r) [] := by
 refine bR [0] [.tmp 2] Tryz.func171 afk (fun bM an bO => ?_)
 refine ws _ ?_
 refine aJ an (fun et b0 bg ay => ?_)
 refine ws _ ?_
 refine aU h (fun bA h => ?_) (fun bA h => ?_)
 ·simp only [bA, aj.down]
  refine ws _ ?_
  exact aC (bg _ (.inl (aD [.str ([45] : List UInt8)])))
 ·simp only [bA, aj.down]
  refine aW (b0 _ (.inl ?_))
  refine ws _ ?_
  refine aJ an (fun gy dn dx cH => ?_)
  refine ws _ ?_
  refine bJ dx (fun ev c_ cw ed dF => ?_)
  have jg : ∀ (n : Nat) (fe : List UInt8) (fo : Int), qS a0 n fe fo = some r → dE aE Mb ev (aa [(0, .slice (a0.map bD)), (3, .str fe), (4, .int .i64 fo)]) := by
   intro m16
   induction m16 with
   | zero => intro fe fo h; cases (show none = some r from h)
   | succ m16 jh =>
    intro fe fo h
    replace h : Ax (qS a0 m16) a0 fe fo = some r := h
    refine ea cw (fun ff cE cx da => ?_)
    refine aJ cx (fun ia eO fI eS => ?_)
    refine ws _ ?_
    refine aU h (fun dd h => ?_) (fun dd h => ?_)
    ·simp only [dd, aj.down]
     refine aW (eO _ (.inl ?_))
     refine aJ cx (fun ib eP eB iE => ?_)
     refine bJ eB (fun kB gV gE c4 j4 => ?_)
     have Nh : ∀ (pW : List UInt8) (pX : Int), Aw (qS a0 m16) a0 pW pX = some r → cW aE Ma kB (aa [(0, .slice (a0.map bD)), (3, .str pW), (4, .int .i64 pX)]) := by
      intro pW pX h
      obtain ⟨af, eK, h⟩ := aH h
      obtain ⟨ay, hA, h⟩ := aH h
      obtain ⟨ayk, ic, h⟩ := aH h
      (try simp only [List.length_append, List.length_cons, List.length_nil, List.length_map, List.length_replicate, Nat.zero_add, Nat.add_zero, Nat.reduceAdd] at ic)
      refine kf (cl [(0, .slice (a0.map bD)), (3, .str (pW ++ ay)), (4, .int .i64 pX)] (fun P ak => ?_) ?_)
      ·simp only [aZ.down, simprocAttr, dS, g_, bD, eK, ic, kN, kO]
       refine fw (Nc af _ hA) rfl rfl rfl rfl (.inl (by rfl)) ?_
       simp only [aZ.down, simprocAttr, dS, g_, bD, eK, ic, kN, kO]
       (try simp only [bn.down, simprocAttr, bD, eK, ic, kN, kO] at ak ⊢); exact ak
      refine gV _ (eP _ (.inl ?_))
      refine wr [(0, .slice (a0.map bD)), (3, .str (pW ++ ay)), (4, .int .i64 (IntKind.i64.wrap (pX + 1)))] ?_
      exact cE _ (.inr ⟨_, bs rfl, jh (pW ++ ay) (IntKind.i64.wrap (pX + 1)) h⟩)
     refine aJ gE (fun p3 km lh p4 => ?_)
     refine ws _ ?_
     refine aU h (fun eY h => ?_) (fun eY h => ?_)
     ·simp only [eY, aj.down]
      obtain ⟨ayl, kn, h⟩ := aH h
      (try simp only [List.length_append, List.length_cons, List.length_nil, List.length_map, List.length_replicate, Nat.zero_add, Nat.add_zero, Nat.reduceAdd] at kn)
      refine kf (cl [(0, .slice (a0.map bD)), (3, .str (fe ++ ([44] : List UInt8))), (4, .int .i64 fo)] (fun P ak => ?_) ?_)
      ·simp only [aZ.down, simprocAttr, bD, kn, kN, kO]
       (try simp only [bn.down, simprocAttr, bD, kn, kN, kO] at ak ⊢); exact ak
      exact km _ (.inr ⟨_, bs rfl, Nh (fe ++ ([44] : List UInt8)) fo h⟩)
     ·simp only [eY, aj.down]
      exact aW (km _ (.inr ⟨_, bs rfl, Nh fe fo h⟩))
    ·simp only [dd, aj.down]
     refine dY (eS 0 _ (da 0 _ (ed _ (dn _ (.inl ?_)))))
     refine ws _ ?_
     exact aC (an _ (.inl (aD [.str fe])))
  obtain ⟨n, h⟩ := dR h
  exact dZ (.inr ⟨_, bs rfl, jg n ([] : List UInt8) 0 h⟩)
theorem asB (a0 : dh) (U : List c8) (r : (List UInt8)) (h : AB a0 U = some r) : bh aE 107 [.ref (e2 a0), .slice (U.map dU)] (.str r) [] := by
 refine bR [0, 1] [.tmp 4] Tryz.func107 afv (fun bM an bO => ?_)
 refine ws _ ?_
 refine ws _ ?_
 refine aJ an (fun j3 gx dm a6 => ?_)
 refine ws _ ?_
 refine bJ dm (fun iX e3 dW bE cf => ?_)
 have ji : ∀ (n : Nat) (eb : List UInt8) (hb : Int), qT a0 U n eb hb = some r → dE aE Md iX (aa [(0, .ref (e2 a0)), (1, .slice (U.map dU)), (5, .str eb), (6, .int .i64 hb)]) := by
  intro m8
  induction m8 with
  | zero => intro eb hb h; cases (show none = some r from h)
  | succ m8 jj =>
   intro eb hb h
   replace h : AA (qT a0 U m8) a0 U eb hb = some r := h
   refine ea dW (fun fz eG dI cO => ?_)
   refine aJ dI (fun gy dn dx cH => ?_)
   refine ws _ ?_
   refine aU h (fun ed h => ?_) (fun ed h => ?_)
   ·simp only [ed, aj.down]
    refine aW (dn _ (.inl ?_))
    refine aJ dI (fun ff cE cx da => ?_)
    refine bJ cx (fun ia eO fI jC eS => ?_)
    have qY : ∀ (pY : List UInt8) (pZ : Int), Az (qT a0 U m8) a0 U pY pZ = some r → cW aE Mc ia (aa [(0, .ref (e2 a0)), (1, .slice (U.map dU)), (5, .str pY), (6, .int .i64 pZ)]) := by
     intro pY pZ h
     obtain ⟨af, dD, h⟩ := aH h
     obtain ⟨ay, gN, h⟩ := aH h
     obtain ⟨B0, bY, h⟩ := aH h
     (try simp only [List.length_append, List.length_cons, List.length_nil, List.length_map, List.length_replicate, Nat.zero_add, Nat.add_zero, Nat.reduceAdd] at bY)
     obtain ⟨a6, dM, h⟩ := aH h
     obtain ⟨B0, eK, h⟩ := aH h
     (try simp only [List.length_append, List.length_cons, List.length_nil, List.length_map, List.length_replicate, Nat.zero_add, Nat.add_zero, Nat.reduceAdd] at eK)
     obtain ⟨B0, hA, h⟩ := aH h
     (try simp only [List.length_append, List.length_cons, List.length_nil, List.length_map, List.length_replicate, Nat.zero_add, Nat.add_zero, Nat.reduceAdd] at hA)
     obtain ⟨bW, ic, h⟩ := aH h
     obtain ⟨B0, ov, h⟩ := aH h
     (try simp only [List.length_append, List.length_cons, List.length_nil, List.length_map, List.length_replicate, Nat.zero_add, Nat.add_zero, Nat.reduceAdd] at ov)
     obtain ⟨B0, hI, h⟩ := aH h
     (try simp only [List.length_append, List.length_cons, List.length_nil, List.length_map, List.length_replicate, Nat.zero_add, Nat.add_zero, Nat.reduceAdd] at hI)
     refine Ju rfl (fq [(0, .ref (e2 a0)), (1, .slice (U.map dU)), (5, .str (pY ++ ((((ay.Name ++ ([58] : List UInt8)) ++ a6) ++ ([58] : List UInt8)) ++ bW))), (6, .int .i64 pZ)] (fun P ak => ?_) ?_)
     ·simp only [ct.down, simprocAttr, p2.down, dD, gN, bY, kN, kO, eK, hA, ov, hI]
      refine gS (Nc af.Part _ dM) rfl rfl rfl rfl (.inl (by rfl)) ?_
      simp only [ct.down, simprocAttr, p2.down, dD, gN, bY, kN, kO, eK, hA, ov, hI]
      refine gS (asA af.cX _ ic) rfl rfl rfl rfl (.inl (by rfl)) ?_
      simp only [ct.down, simprocAttr, p2.down, dD, gN, bY, kN, kO, eK, hA, ov, hI]
      refine ⟨fk (by kernel_rfl), ?_⟩
      (try simp only [bn.down, simprocAttr, jO.down, dD, gN, bY, kN, kO, eK, hA, ov, hI] at ak ⊢); exact ak
     refine eO _ (cE _ (.inl ?_))
     refine wr [(0, .ref (e2 a0)), (1, .slice (U.map dU)), (5, .str (pY ++ ((((ay.Name ++ ([58] : List UInt8)) ++ a6) ++ ([58] : List UInt8)) ++ bW))), (6, .int .i64 (IntKind.i64.wrap (pZ + 1)))] ?_
     exact eG _ (.inr ⟨_, bs rfl, jj (pY ++ ((((ay.Name ++ ([58] : List UInt8)) ++ a6) ++ ([58] : List UInt8)) ++ bW)) (IntKind.i64.wrap (pZ + 1)) h⟩)
    refine aJ fI (fun jD f_ ix iV => ?_)
    refine ws _ ?_
    refine aU h (fun iY h => ?_) (fun iY h => ?_)
    ·simp only [iY, aj.down]
     obtain ⟨aym, p5, h⟩ := aH h
     (try simp only [List.length_append, List.length_cons, List.length_nil, List.length_map, List.length_replicate, Nat.zero_add, Nat.add_zero, Nat.reduceAdd] at p5)
     refine kf (cl [(0, .ref (e2 a0)), (1, .slice (U.map dU)), (5, .str (eb ++ ([32] : List UInt8))), (6, .int .i64 hb)] (fun P ak => ?_) ?_)
     ·simp only [aZ.down, simprocAttr, jO.down, p5, kN, kO]
      (try simp only [bn.down, simprocAttr, jO.down, p5, kN, kO] at ak ⊢); exact ak
     exact f_ _ (.inr ⟨_, bs rfl, qY (eb ++ ([32] : List UInt8)) hb h⟩)
    ·simp only [iY, aj.down]
     exact aW (f_ _ (.inr ⟨_, bs rfl, qY eb hb h⟩))
   ·simp only [ed, aj.down]
    refine dY (cH 0 _ (cO 0 _ (bE _ (gx _ (.inl ?_)))))
    refine ws _ ?_
    exact aC (an _ (.inl (aD [.str eb])))
 obtain ⟨n, h⟩ := dR h
 exact dZ (.inr ⟨_, bs rfl, ji n ([] : List UInt8) 0 h⟩)
theorem asC (a0 : dh) (U : List c8) (r : (List UInt8)) (h : AD a0 U = some r) : bh aE 58 [e2 a0, .slice (U.map dU)] (.str r) [] := by
 refine bR [0, 1] [.tmp 4] Tryz.func58 afB (fun bM an bO => ?_)
 refine ws _ ?_
 refine aJ an (fun et b0 bg ay => ?_)
 obtain ⟨af, ca, h⟩ := aH h
 refine dK (cl [(1, .slice (U.map dU)), (2, .a7 (e2 a0)), (7, .bool (af != 0))] (fun P ak => ?_) ?_)
 ·simp only [aZ.down, simprocAttr, jO.down]
  refine fw (asv a0 U _ ca) rfl rfl (by simp only [aZ.down, simprocAttr, jO.down, kg, kh, ki, ef, @cF _ bq bq (fun _ => uS _), @cF _ e7 e7 (fun _ => uU _), @cF _ bB bB (fun _ => nE _), @cF _ bw bw (fun _ => jf _), @cF _ bw bw (fun _ => jf _)] <;> rfl) rfl (.inr (by rfl)) ?_
  simp only [aZ.down, simprocAttr, jO.down]
  (try simp only [bn.down, simprocAttr, jO.down] at ak ⊢); exact ak
 refine aU h (fun bE h => ?_) (fun bE h => ?_)
 ·simp only [bE, aj.down]
  refine ws _ ?_
  exact aC (bg _ (.inl (aD [.str ([] : List UInt8)])))
 ·simp only [bE, aj.down]
  refine aW (b0 _ (.inl ?_))
  obtain ⟨ay, hi, h⟩ := aH h
  refine dK (cl [(4, .str ay)] (fun P ak => ?_) ?_)
  ·simp only [aZ.down, simprocAttr, jO.down]
   refine fw (asB a0 U _ hi) rfl rfl (by simp only [aZ.down, simprocAttr, jO.down, kg, kh, ki, ef, @cF _ bq bq (fun _ => uS _), @cF _ e7 e7 (fun _ => uU _), @cF _ bB bB (fun _ => nE _), @cF _ bw bw (fun _ => jf _), @cF _ bw bw (fun _ => jf _)] <;> rfl) rfl (.inr (by rfl)) ?_
   simp only [aZ.down, simprocAttr, jO.down]
   (try simp only [bn.down, simprocAttr, jO.down] at ak ⊢); exact ak
  exact aC (an _ (.inl (aD [.str ay])))
theorem jS (a0 : Int) (U : Int) (a2 : Int) (r : Bool) (h : je a0 U a2 = some r) : bh aE 125 [.int .i64 a0, .int .i64 U, .int .i64 a2] (.bool r) [] := by
 refine bR [0, 1, 2] [.tmp 6] Tryz.func125 afE (fun bM an bO => ?_)
 refine ws _ ?_
 refine dK (cl [(6, .bool ((decide (U ≤ a0)) && (decide (a0 ≤ a2))))] (fun P ak => ?_) ?_)
 ·rcases Bool.eq_false_or_eq_true (decide (U ≤ a0)) with fb | fb
  ·simp only [aZ.down, simprocAttr, fb]
   (try simp only [bn.down, simprocAttr, fb] at ak ⊢); exact ak
  ·simp only [aZ.down, simprocAttr, fb]
   (try simp only [bn.down, simprocAttr, fb] at ak ⊢); exact ak
 exact aC (an _ (.inl (aD [.bool ((decide (U ≤ a0)) && (decide (a0 ≤ a2)))])))
theorem asD (a0 : bm) (r : Bool) (h : EL a0 = some r) : bh aE 278 [bq a0] (.bool r) [] := by
 refine bR [0] [.tmp 2] Tryz.func278 afH (fun bM an bO => ?_)
 refine ws _ ?_
 obtain ⟨af, aQ, h⟩ := aH h
 refine di (jS a0.dL 0 3 _ aQ) _ ?_
 exact aC (an _ (.inl (aD [.bool (!af)])))
theorem asE (a0 : List bm) (r : Int) (h : EM a0 = some r) : bh aE 280 [.slice (a0.map bq), .fn 278 []] (.int .i64 r) [] := by
 refine bR [0, 1] [.tmp 4] Tryz.func280 afS (fun bM an bO => ?_)
 refine ws _ ?_
 refine aJ an (fun et b0 bg ay => ?_)
 refine ws _ ?_
 refine bJ bg (fun eT eL ch bA bW => ?_)
 have hY : ∀ (n : Nat) (b9 : Int), uJ a0 n b9 = some r → dE aE Me eT (aa [(0, .slice (a0.map bq)), (1, .fn 278 []), (7, .int .i64 (a0.length : Int)), (8, .int .i64 b9)]) := by
  intro m6
  induction m6 with
  | zero => intro b9 h; cases (show none = some r from h)
  | succ m6 ho =>
   intro b9 h
   replace h : AE (uJ a0 m6) a0 b9 = some r := h
   refine ea ch (fun iX e3 dW cf => ?_)
   refine ws _ ?_
   refine aJ dW (fun gy dn dx cH => ?_)
   refine aU h (fun bQ h => ?_) (fun bQ h => ?_)
   ·simp only [bQ, aj.down]
    refine aW (dn _ (.inl ?_))
    refine aJ dW (fun ev c_ cw dF => ?_)
    refine bJ cw (fun ff cE cx cP da => ?_)
    refine ws _ ?_
    obtain ⟨af, fV, h⟩ := aH h
    obtain ⟨ay, dD, h⟩ := aH h
    refine hX fV (asD af _ dD) _ ?_
    refine aU h (fun c4 h => ?_) (fun c4 h => ?_)
    ·simp only [c4, aj.down]
     refine ws _ ?_
     exact aC (cx _ (.inl (aD [.int .i64 b9])))
    ·simp only [c4, aj.down]
     refine aW (cE _ (c_ _ (.inl ?_)))
     refine wr _ ?_
     exact e3 _ (.inr ⟨_, bs rfl, ho (IntKind.i64.wrap (b9 + 1)) h⟩)
   ·simp only [bQ, aj.down]
    refine dY (cH 0 _ (cf 0 _ (bA _ (b0 _ (.inl ?_)))))
    refine ws _ ?_
    exact aC (an _ (.inl (aD [.int .i64 (-1)])))
 obtain ⟨n, h⟩ := dR h
 exact dZ (.inr ⟨_, bs rfl, hY n 0 h⟩)
theorem asF (a0 : List bm) (r : Bool) (h : EN a0 = some r) : bh aE 277 [.slice (a0.map bq), .fn 278 []] (.bool r) [] := by
 refine bR [0, 1] [.tmp 4] Tryz.func277 afV (fun bM an bO => ?_)
 refine ws _ ?_
 obtain ⟨af, aQ, h⟩ := aH h
 refine di (asE a0 _ aQ) _ ?_
 exact aC (an _ (.inl (aD [.bool (decide (0 ≤ af))])))
theorem asG (a0 : List bm) (r : Bool) (h : AF a0 = some r) : bh aE 236 [.slice (a0.map bq)] (.bool r) [] := by
 refine bR [0] [.tmp 2] Tryz.func236 afY (fun bM an bO => ?_)
 refine ws _ ?_
 obtain ⟨af, aQ, h⟩ := aH h
 refine di (asF a0 _ aQ) _ ?_
 exact aC (an _ (.inl (aD [.bool (!af)])))
theorem asH (a0 : UInt8) (r : Bool) (h : EO a0 = some r) : bh aE 279 [.int .u8 (a0.toNat : Int)] (.bool r) [] := by
 refine bR [0] [.tmp 2] Tryz.func279 af1 (fun bM an bO => ?_)
 refine ws _ ?_
 refine dK (cl [(2, .bool ((decide (48 ≤ (a0.toNat : Int))) && (decide ((a0.toNat : Int) ≤ 57))))] (fun P ak => ?_) ?_)
 ·rcases Bool.eq_false_or_eq_true (decide (48 ≤ (a0.toNat : Int))) with fb | fb
  ·simp only [aZ.down, simprocAttr, fb]
   (try simp only [bn.down, simprocAttr, fb] at ak ⊢); exact ak
  ·simp only [aZ.down, simprocAttr, fb]
   (try simp only [bn.down, simprocAttr, fb] at ak ⊢); exact ak
 exact aC (an _ (.inl (aD [.bool ((decide (48 ≤ (a0.toNat : Int))) && (decide ((a0.toNat : Int) ≤ 57)))])))
theorem B1 (a0 : List UInt8) (r : Bool) (h : xn a0 = some r) : bh aE 237 [.str a0] (.bool r) [] := by
 refine bR [0] [.tmp 2] Tryz.func237 agc (fun bM an bO => ?_)
 refine ws _ ?_
 refine aJ an (fun et b0 bg ay => ?_)
 refine ws _ ?_
 refine bJ bg (fun eT eL ch bA bW => ?_)
 have hY : ∀ (n : Nat) (eA : Int), p0 a0 n eA = some r → dE aE Mf eT (aa [(0, .str a0), (6, .int .i64 (a0.length : Int)), (7, .int .i64 eA)]) := by
  intro m6
  induction m6 with
  | zero => intro eA h; cases (show none = some r from h)
  | succ m6 ho =>
   intro eA h
   replace h : xm (p0 a0 m6) a0 eA = some r := h
   refine ea ch (fun iX e3 dW cf => ?_)
   refine ws _ ?_
   refine aJ dW (fun gy dn dx cH => ?_)
   refine aU h (fun bQ h => ?_) (fun bQ h => ?_)
   ·simp only [bQ, aj.down]
    refine aW (dn _ (.inl ?_))
    refine aJ dW (fun ev c_ cw dF => ?_)
    refine bJ cw (fun ff cE cx cP da => ?_)
    refine ws _ ?_
    obtain ⟨af, fV, h⟩ := aH h
    refine dK (cl [(0, .str a0), (3, .int .i64 eA), (4, .bool ((decide (97 ≤ (af.toNat : Int))) && (decide ((af.toNat : Int) ≤ 122)))), (6, .int .i64 (a0.length : Int)), (7, .int .i64 eA)] (fun P ak => ?_) ?_)
    ·rcases Bool.eq_false_or_eq_true (decide (97 ≤ (af.toNat : Int))) with nG | nG
     ·simp only [aZ.down, simprocAttr, ez, fV, nG]
      (try simp only [bn.down, simprocAttr, fV, nG] at ak ⊢); exact ak
     ·simp only [aZ.down, simprocAttr, ez, fV, nG]
      (try simp only [bn.down, simprocAttr, fV, nG] at ak ⊢); exact ak
    rcases eZ h with ⟨j5, h⟩ | ⟨j5, h⟩
    ·rcases eZ h with ⟨hZ, h⟩ | ⟨hZ, h⟩
     ·refine hW (And.intro j5 hZ) _ ?_
      refine jc rfl ?_
      refine ws _ ?_
      exact aC (cx _ (.inl (aD [.bool false])))
     ·obtain ⟨ay, hA, h⟩ := aH h
      refine dK (cl [(0, .str a0), (6, .int .i64 (a0.length : Int)), (7, .int .i64 eA), (32, .bool (!ay))] (fun P ak => ?_) ?_)
      ·simp only [aZ.down, simprocAttr, ez, j5, hZ, fV]
       refine hv (asH af _ hA) rfl rfl rfl rfl (.inl (by rfl)) ?_
       simp only [aZ.down, simprocAttr, ez, j5, hZ, fV]
       (try simp only [bn.down, simprocAttr, j5, hZ, fV] at ak ⊢); exact ak
      refine aU h (fun dN h => ?_) (fun dN h => ?_)
      ·simp only [(cG dN), aj.down]
       refine ws _ ?_
       exact aC (cx _ (.inl (aD [.bool false])))
      ·simp only [(bd dN), aj.down]
       refine aW (cE _ (c_ _ (.inl ?_)))
       refine wr _ ?_
       exact e3 _ (.inr ⟨_, bs rfl, ho (IntKind.i64.wrap (eA + 1)) h⟩)
    ·refine hW j5 _ ?_
     refine r0 rfl ?_
     refine aW (cE _ (c_ _ (.inl ?_)))
     refine wr _ ?_
     exact e3 _ (.inr ⟨_, bs rfl, ho (IntKind.i64.wrap (eA + 1)) h⟩)
   ·simp only [bQ, aj.down]
    refine dY (cH 0 _ (cf 0 _ (bA _ (b0 _ (.inl ?_)))))
    refine dK (cl [(2, .bool ((decide (1 ≤ (a0.length : Int))) && (decide ((a0.length : Int) ≤ 10))))] (fun P ak => ?_) ?_)
    ·rcases Bool.eq_false_or_eq_true (decide (1 ≤ (a0.length : Int))) with yc | yc
     ·simp only [aZ.down, simprocAttr, ez, yc]
      (try simp only [bn.down, simprocAttr, yc] at ak ⊢); exact ak
     ·simp only [aZ.down, simprocAttr, ez, yc]
      (try simp only [bn.down, simprocAttr, yc] at ak ⊢); exact ak
    exact aC (an _ (.inl (aD [.bool ((decide (1 ≤ (a0.length : Int))) && (decide ((a0.length : Int) ≤ 10)))])))
 obtain ⟨n, h⟩ := dR h
 exact dZ (.inr ⟨_, bs rfl, hY n 0 h⟩)
theorem asI (a0 : bm) (U : List UInt8) (r : Bool) (h : EP a0 U = some r) : bh aE 281 [bq a0, .ref (.str U)] (.bool r) [] := by
 refine bR [0, 1] [.tmp 3] Tryz.func281 agf (fun bM an bO => ?_)
 refine ws _ ?_
 refine ws _ ?_
 exact aC (an _ (.inl (aD [.bool (a0.Name == U)])))
theorem asJ (a0 : List bm) (U : List UInt8) (r : Int) (h : ER a0 U = some r) : bh aE 280 [.slice (a0.map bq), .fn 281 [.ref (.str U)]] (.int .i64 r) [] := by
 refine bR [0, 1] [.tmp 4] Tryz.func280 agr (fun bM an bO => ?_)
 refine ws _ ?_
 refine aJ an (fun et b0 bg ay => ?_)
 refine ws _ ?_
 refine bJ bg (fun eT eL ch bA bW => ?_)
 have hY : ∀ (n : Nat) (b9 : Int), uK a0 U n b9 = some r → dE aE Mg eT (aa [(0, .slice (a0.map bq)), (1, .fn 281 [.ref (.str U)]), (7, .int .i64 (a0.length : Int)), (8, .int .i64 b9)]) := by
  intro m6
  induction m6 with
  | zero => intro b9 h; cases (show none = some r from h)
  | succ m6 ho =>
   intro b9 h
   replace h : AG (uK a0 U m6) a0 U b9 = some r := h
   refine ea ch (fun iX e3 dW cf => ?_)
   refine ws _ ?_
   refine aJ dW (fun gy dn dx cH => ?_)
   refine aU h (fun bQ h => ?_) (fun bQ h => ?_)
   ·simp only [bQ, aj.down]
    refine aW (dn _ (.inl ?_))
    refine aJ dW (fun ev c_ cw dF => ?_)
    refine bJ cw (fun ff cE cx cP da => ?_)
    refine ws _ ?_
    obtain ⟨af, fV, h⟩ := aH h
    obtain ⟨ay, dD, h⟩ := aH h
    refine hX fV (asI af U _ dD) _ ?_
    refine aU h (fun c4 h => ?_) (fun c4 h => ?_)
    ·simp only [c4, aj.down]
     refine ws _ ?_
     exact aC (cx _ (.inl (aD [.int .i64 b9])))
    ·simp only [c4, aj.down]
     refine aW (cE _ (c_ _ (.inl ?_)))
     refine wr _ ?_
     exact e3 _ (.inr ⟨_, bs rfl, ho (IntKind.i64.wrap (b9 + 1)) h⟩)
   ·simp only [bQ, aj.down]
    refine dY (cH 0 _ (cf 0 _ (bA _ (b0 _ (.inl ?_)))))
    refine ws _ ?_
    exact aC (an _ (.inl (aD [.int .i64 (-1)])))
 obtain ⟨n, h⟩ := dR h
 exact dZ (.inr ⟨_, bs rfl, hY n 0 h⟩)
theorem asK (a0 : List bm) (U : List UInt8) (r : Int) (h : AH a0 U = some r) : bh aE 238 [.slice (a0.map bq), .str U] (.int .i64 r) [] := by
 refine bR [0, 1] [.tmp 4] Tryz.func238 agu (fun bM an bO => ?_)
 refine ws _ ?_
 obtain ⟨af, aQ, h⟩ := aH h
 refine dK (cl [(4, .int .i64 af)] (fun P ak => ?_) ?_)
 ·simp only [aZ.down, simprocAttr, h9.down]
  refine fw (asJ a0 U _ aQ) rfl rfl (by simp only [aZ.down, simprocAttr, h9.down, kg, kh, ki, ef] <;> rfl) rfl (.inr (by rfl)) ?_
  simp only [aZ.down, simprocAttr, h9.down]
  (try simp only [bn.down, simprocAttr, h9.down] at ak ⊢); exact ak
 exact aC (an _ (.inl (aD [.int .i64 af])))
theorem Ni (a0 : b7) (r : Int) (h : xp a0 = some r) : bh aE 284 [cc a0] (.int .i64 r) [] := by
 refine bR [0] [.tmp 2] Tryz.func284 agH (fun bM an bO => ?_)
 refine ws _ ?_
 refine aJ an (fun et b0 bg ay => ?_)
 refine ws _ ?_
 refine bJ bg (fun eT eL ch bA bW => ?_)
 have sJ : ∀ (cN : Bool), xo a0 cN = some r → cW aE Mh eT (aa [(4, .int .i64 a0.Kind), (5, .bool cN)]) := by
  intro cN h
  refine aU h (fun cL h => ?_) (fun cL h => ?_)
  ·simp only [cL, aj.down]
   refine ws _ ?_
   exact aC (ch _ (.inl (aD [.int .i64 1])))
  ·simp only [cL, aj.down]
   refine ws _ ?_
   refine aU h (fun ed h => ?_) (fun ed h => ?_)
   ·simp only [ed, aj.down]
    refine ws _ ?_
    exact aC (ch _ (.inl (aD [.int .i64 2])))
   ·simp only [ed, aj.down]
    refine aW (eL _ (b0 _ (.inl ?_)))
    refine ws _ ?_
    exact aC (an _ (.inl (aD [.int .i64 0])))
 refine aJ ch (fun iX e3 dW cf => ?_)
 refine ws _ ?_
 refine aU h (fun dd h => ?_) (fun dd h => ?_)
 ·simp only [dd, aj.down]
  exact aW (e3 _ (.inr ⟨_, bs rfl, sJ true h⟩))
 ·simp only [dd, aj.down]
  refine ws _ ?_
  refine aU h (fun c4 h => ?_) (fun c4 h => ?_)
  ·simp only [c4, aj.down]
   exact aW (e3 _ (.inr ⟨_, bs rfl, sJ true h⟩))
  ·simp only [c4, aj.down]
   refine wr _ ?_
   exact e3 _ (.inr ⟨_, bs rfl, sJ (a0.Kind == 4) h⟩)
theorem asL (a0 : bm) (U : Int) (r : Int) (h : AK a0 U = some r) : bh aE 244 [bq a0, .int .i64 U] (.int .i64 r) [] := by
 refine bR [0] [.tmp 4] Tryz.func244 agS (fun bM an bO => ?_)
 refine ws _ ?_
 refine aJ an (fun et b0 bg ay => ?_)
 refine ws _ ?_
 refine bJ bg (fun eT eL ch bA bW => ?_)
 have hY : ∀ (n : Nat) (iD : Int) (jB : Int), sq a0 n iD jB = some r → dE aE Mi eT (aa [(1, .int .i64 iD), (2, .a7 (bq a0)), (5, .int .i64 jB)]) := by
  intro m6
  induction m6 with
  | zero => intro iD jB h; cases (show none = some r from h)
  | succ m6 ho =>
   intro iD jB h
   replace h : AJ (sq a0 m6) a0 iD jB = some r := h
   refine ea ch (fun iX e3 dW cf => ?_)
   refine aJ dW (fun fz eG dI cO => ?_)
   refine ws _ ?_
   refine aU h (fun bQ h => ?_) (fun bQ h => ?_)
   ·simp only [bQ, aj.down]
    refine aW (eG _ (.inl ?_))
    refine aJ dW (fun ev c_ cw dF => ?_)
    refine bJ cw (fun ff cE cx cP da => ?_)
    refine aJ cx (fun ia eO fI eS => ?_)
    refine ws _ ?_
    refine aU h (fun dd h => ?_) (fun dd h => ?_)
    ·simp only [dd, aj.down]
     refine ws _ ?_
     exact aC (fI _ (.inl (aD [.int .i64 (-1)])))
    ·simp only [dd, aj.down]
     refine aW (eO _ (.inl ?_))
     obtain ⟨af, bY, h⟩ := aH h
     obtain ⟨ay, dM, h⟩ := aH h
     refine Fs bY (Ni af _ dM) _ ?_
     refine cE _ (c_ _ (.inl ?_))
     refine wr _ ?_
     exact e3 _ (.inr ⟨_, bs rfl, ho (IntKind.i64.wrap (iD + 1)) (IntKind.i64.wrap (jB + (IntKind.i64.wrap (ay - 1)))) h⟩)
   ·simp only [bQ, aj.down]
    refine dY (cO 0 _ (cf 0 _ (bA _ (b0 _ (.inl ?_)))))
    refine ws _ ?_
    exact aC (an _ (.inl (aD [.int .i64 iD])))
 obtain ⟨n, h⟩ := dR h
 exact dZ (.inr ⟨_, bs rfl, hY n U 1 h⟩)
theorem asM (lv : Int → cm → (List cm) → bm → Option (Int × (List cm))) (asN : ∀ (a0 : Int) (U : cm) (a2 : List cm) (a3 : bm) (r : Int × (List cm)), lv a0 U a2 a3 = some r → lT aE 283 2 4 [.int .i64 a0, dA U, .a7 (.aP 2 (a2.map dA)), .ref (bq a3), .ref (.hole)] (.int .i64 r.1) [.hole, .hole, .a7 (.aP 2 (r.2.map dA)), .hole, .hole]) (a0 : Int) (U : cm) (a2 : List cm) (a3 : bm) (r : Int × (List cm)) (h : ES lv a0 U a2 a3 = some r) : lT aE 283 2 4 [.int .i64 a0, dA U, .a7 (.aP 2 (a2.map dA)), .ref (bq a3), .ref (.hole)] (.int .i64 r.1) [.hole, .hole, .a7 (.aP 2 (r.2.map dA)), .hole, .hole] := by
 refine lT.EE (fx := [0, 1, 2, 3, 4]) EF [.tmp 7] [(0, .int .i64 a0), (1, dA U), (2, .a7 (.aP 2 (a2.map dA))), (3, .ref (bq a3)), (4, .ref (.hole))] Tryz.func283 rfl rfl ag6 (Nat.le_of_ble_eq_true rfl) ag5 rfl rfl (fun bM an bO => ?_)
 refine ws _ ?_
 obtain ⟨af, aQ, h⟩ := aH h
 refine dK (cl [(0, .int .i64 a0), (2, .a7 (.aP 2 ((List.set a2 (Int.toNat a0) U).map dA))), (3, .ref (bq a3)), (4, .ref (.hole)), (6, .a7 (dA U))] (fun P ak => ?_) ?_)
 ·simp only [aZ.down, simprocAttr, dS, pb, pc, r9, bq, cc, cq, dA, en, aQ, fR aQ, h6, gn]
  (try simp only [bn.down, simprocAttr, mS.down, aQ, fR aQ, h6, gn] at ak ⊢); exact ak
 obtain ⟨ay, cR, h⟩ := aH h
 refine hW cR [(0, .int .i64 a0), (2, .a7 (.aP 2 ((List.set a2 (Int.toNat a0) U).map dA))), (3, .ref (bq a3)), (4, .ref (.hole)), (6, .a7 (dA U)), (8, .a7 (cc ay))] ?_
 refine hW (show ∀ s, fM aE s 309 [(0, .int .i64 U.scope), (1, .bool (ay.Kind == 1))] = some (.agg [.int .i64 U.scope, .bool (ay.Kind == 1)], s) from fun s => by kernel_rfl) [(0, .int .i64 a0), (2, .a7 (.aP 2 ((List.set a2 (Int.toNat a0) U).map dA))), (3, .ref (bq a3)), (4, .ref (.hole)), (8, .a7 (cc ay)), (9, .a7 (.agg [.int .i64 U.scope, .bool (ay.Kind == 1)]))] ?_
 have Nj : ∀ (kz : Int), AM lv a0 U a2 a3 ay kz = some r → cW aE Mk bM (aa [(0, .int .i64 a0), (2, .a7 (.aP 2 ((List.set a2 (Int.toNat a0) U).map dA))), (3, .ref (bq a3)), (4, .ref (.hole)), (8, .a7 (cc ay)), (9, .a7 (.agg [.int .i64 kz, .bool (ay.Kind == 1)]))]) := by
  intro kz h
  refine ws [(2, .a7 (.aP 2 ((List.set a2 (Int.toNat a0) U).map dA))), (3, .ref (bq a3)), (4, .ref (.hole)), (8, .a7 (cc ay)), (9, .a7 (.agg [.int .i64 kz, .bool (ay.Kind == 1)])), (10, .int .i64 (IntKind.i64.wrap (a0 + 1)))] ?_
  refine aJ an (fun ev c_ cw dF => ?_)
  obtain ⟨a6, oS, h⟩ := aH h
  refine di (Ni ay _ oS) [(2, .a7 (.aP 2 ((List.set a2 (Int.toNat a0) U).map dA))), (3, .ref (bq a3)), (4, .ref (.hole)), (9, .a7 (.agg [.int .i64 kz, .bool (ay.Kind == 1)])), (10, .int .i64 (IntKind.i64.wrap (a0 + 1))), (36, .int .i64 a6), (37, .int .i64 0)] ?_
  refine bJ cw (fun jD f_ ix dj iV => ?_)
  have asO : ∀ (n : Nat) (oq : List cm) (mP : Int) (nD : Int), qU lv a3 kz ay a6 n oq mP nD = some r → dE aE Mj jD (aa [(2, .a7 (.aP 2 (oq.map dA))), (3, .ref (bq a3)), (4, .ref (.hole)), (9, .a7 (.agg [.int .i64 kz, .bool (ay.Kind == 1)])), (10, .int .i64 mP), (36, .int .i64 a6), (37, .int .i64 nD)]) := by
   intro m20
   induction m20 with
   | zero => intro oq mP nD h; cases (show none = some r from h)
   | succ m20 asP =>
    intro oq mP nD h
    replace h : AL lv (qU lv a3 kz ay a6 m20) a3 kz ay a6 oq mP nD = some r := h
    refine ea ix (fun lx hd gF kC => ?_)
    refine ws _ ?_
    refine aJ gF (fun kB gV gE j4 => ?_)
    refine aU h (fun j5 h => ?_) (fun j5 h => ?_)
    ·simp only [j5, aj.down]
     refine aW (gV _ (.inl ?_))
     refine aJ gF (fun oy jP jQ nI => ?_)
     refine bJ jQ (fun F_ sP sQ e8 Ga => ?_)
     obtain ⟨bW, ic, h⟩ := aH h
     refine S8 [(2, .a7 (.aP 2 (bW.2.map dA))), (3, .ref (bq a3)), (4, .ref (.hole)), (9, .a7 (.agg [.int .i64 kz, .bool (ay.Kind == 1)])), (10, .int .i64 bW.1), (36, .int .i64 a6), (37, .int .i64 nD)] (fun P ak => ?_) ?_
     ·simp only [aZ.down, simprocAttr, Ft.down, oh]
      refine Kk [⟨.int .i64 mP, false, _, .hole⟩, ⟨.agg [.int .i64 kz, .bool (ay.Kind == 1)], false, _, .hole⟩, ⟨.h 2 [], true, _, _⟩, ⟨.ref (bq a3), false, _, .hole⟩, ⟨.ref (.hole), false, _, .hole⟩] (asN mP (cm.mk kz (ay.Kind == 1)) oq a3 _ ic) rfl (by simp only [aZ.down, simprocAttr, Ft.down, oh, Eh, J3, J4, kg, kh, ki, ef, or_true, true_or, @cF _ dA dA (fun _ => Lr _)]) rfl rfl (.inl rfl) ?_
      simp only [aZ.down, simprocAttr, Ft.down, oh, J5]
      (try simp only [bn.down, simprocAttr, mS.down, oh] at ak ⊢); exact ak
     refine sP _ (jP _ (.inl ?_))
     refine wr _ ?_
     exact hd _ (.inr ⟨_, bs rfl, asP bW.2 bW.1 (IntKind.i64.wrap (nD + 1)) h⟩)
    ·simp only [j5, aj.down]
     refine dY (j4 0 _ (kC 0 _ (dj _ (c_ _ (.inl ?_)))))
     refine ws _ ?_
     exact aC (an _ (.inl (JE [.int .i64 mP] rfl (by cases Cp h; rfl) (by decide) (SI (zi (zi (SJ (by cases Cp h; rfl) rfl rfl rfl (zi (zi (SK))))))))))
  obtain ⟨n, h⟩ := dR h
  exact dZ (.inr ⟨_, bs rfl, asO n (List.set a2 (Int.toNat a0) U) (IntKind.i64.wrap (a0 + 1)) 0 h⟩)
 refine aJ an (fun gy dn dx cH => ?_)
 refine ws [(0, .int .i64 a0), (2, .a7 (.aP 2 ((List.set a2 (Int.toNat a0) U).map dA))), (3, .ref (bq a3)), (4, .ref (.hole)), (8, .a7 (cc ay)), (9, .a7 (.agg [.int .i64 U.scope, .bool (ay.Kind == 1)])), (28, .bool (ay.Kind == 4))] ?_
 refine aU h (fun iN h => ?_) (fun iN h => ?_)
 ·simp only [iN, aj.down]
  refine wr [(0, .int .i64 a0), (2, .a7 (.aP 2 ((List.set a2 (Int.toNat a0) U).map dA))), (3, .ref (bq a3)), (4, .ref (.hole)), (8, .a7 (cc ay)), (9, .a7 (.agg [.int .i64 (IntKind.i64.wrap (U.scope + 1)), .bool (ay.Kind == 1)]))] ?_
  exact dn _ (.inr ⟨_, bs rfl, Nj (IntKind.i64.wrap (U.scope + 1)) h⟩)
 ·simp only [iN, aj.down]
  exact aW (dn _ (.inr ⟨_, bs rfl, Nj U.scope h⟩))
theorem asQ : ∀ (n : Nat) (a0 : Int) (U : cm) (a2 : List cm) (a3 : bm) (r : Int × (List cm)), sr n a0 U a2 a3 = some r → lT aE 283 2 4 [.int .i64 a0, dA U, .a7 (.aP 2 (a2.map dA)), .ref (bq a3), .ref (.hole)] (.int .i64 r.1) [.hole, .hole, .a7 (.aP 2 (r.2.map dA)), .hole, .hole] := by
 intro n
 induction n with
 | zero => intro a0 U a2 a3 r h; cases (show none = some r from h)
 | succ n ih => intro a0 U a2 a3 r h; exact asM (sr n) ih a0 U a2 a3 r h
theorem asR (a0 : Int) (U : cm) (a2 : List cm) (a3 : bm) (r : Int × (List cm)) (h : AN a0 U a2 a3 = some r) : lT aE 283 2 4 [.int .i64 a0, dA U, .a7 (.aP 2 (a2.map dA)), .ref (bq a3), .ref (.hole)] (.int .i64 r.1) [.hole, .hole, .a7 (.aP 2 (r.2.map dA)), .hole, .hole] := by
 obtain ⟨n, h⟩ := dR h
 exact asQ n a0 U a2 a3 r h
theorem Gj (a0 : bm) (r : (List cm)) (h : uL a0 = some r) : bh aE 241 [bq a0] (.aP 2 (r.map dA)) [] := by
 refine bh.TP (fx := [0]) EF [.tmp 2] [(0, bq a0)] Tryz.func241 rfl rfl aha (Nat.le_of_ble_eq_true rfl) ag_ rfl rfl (fun bM an bO => ?_)
 refine ws _ ?_
 obtain ⟨vN, aQ, h⟩ := aH h
 refine dK (cl [(1, .a7 (bq a0)), (3, .a7 (.aP 2 ((List.replicate (Int.toNat (a0.Body.length : Int)) (cm.mk 0 false)).map dA)))] (fun P ak => ?_) ?_)
 ·simp only [aZ.down, simprocAttr, dS, pb, ez, ju, kk, gp, gT, hQ, fZ, pc, r9, bq, cc, cq, dA, en, (dV aQ).1, (dV aQ).2.1, (dV aQ).2.2, er, List.map_replicate, -Int.reduceNatCast']
  (try simp only [bn.down, simprocAttr, mS.down, (dV aQ).1, (dV aQ).2.1, (dV aQ).2.2, er, List.map_replicate, -Int.reduceNatCast'] at ak ⊢); exact ak
 obtain ⟨af, cR, h⟩ := aH h
 refine TN [(3, .a7 (.aP 2 (af.2.map dA)))] (fun P ak => ?_) ?_
 ·simp only [aZ.down, simprocAttr, Fu.down, (show ∀ s, fM aE s 309 [(0, .int .i64 a0.dL)] = some (.agg [.int .i64 a0.dL, .bool false], s) from fun s => by kernel_rfl), oh]
  refine Kk [⟨.int .i64 0, false, _, .hole⟩, ⟨.agg [.int .i64 a0.dL, .bool false], false, _, .hole⟩, ⟨.h 3 [], true, _, _⟩, ⟨.h 1 [], false, _, .hole⟩, ⟨.ref (.hole), false, _, .hole⟩] (asR 0 (cm.mk a0.dL false) (List.replicate (Int.toNat (a0.Body.length : Int)) (cm.mk 0 false)) a0 _ cR) rfl (by simp only [aZ.down, simprocAttr, Fu.down, (show ∀ s, fM aE s 309 [(0, .int .i64 a0.dL)] = some (.agg [.int .i64 a0.dL, .bool false], s) from fun s => by kernel_rfl), oh, Eh, J3, J4, kg, kh, ki, ef, or_true, true_or, @cF _ dA dA (fun _ => Lr _), @cF _ cc cc (fun _ => xR _)]) rfl rfl ((.inr (by simp only [wE, I.c7, I.h5, Bool.and_self, @lb _ dA (fun _ => T7 _)]))) ?_
  simp only [aZ.down, simprocAttr, Fu.down, (show ∀ s, fM aE s 309 [(0, .int .i64 a0.dL)] = some (.agg [.int .i64 a0.dL, .bool false], s) from fun s => by kernel_rfl), oh, J5]
  (try simp only [bn.down, simprocAttr, mS.down, (show ∀ s, fM aE s 309 [(0, .int .i64 a0.dL)] = some (.agg [.int .i64 a0.dL, .bool false], s) from fun s => by kernel_rfl), oh] at ak ⊢); exact ak
 refine ws _ ?_
 exact aC (an _ (.inl (aD [.aP 2 (af.2.map dA)])))
theorem asS (a0 : b7) (r : Bool) (h : ET a0 = some r) : bh aE 308 [cc a0] (.bool r) [] := by
 refine bR [0] [.tmp 2] Tryz.func308 ahf (fun bM an bO => ?_)
 refine ws _ ?_
 refine dK (cl [(1, .a7 (cc a0)), (3, .bool ((a0.Kind == 4) || (a0.Kind == 5)))] (fun P ak => ?_) ?_)
 ·rcases Bool.eq_false_or_eq_true (a0.Kind == 4) with fb | fb
  ·simp only [aZ.down, simprocAttr, nH.down, fb]
   (try simp only [bn.down, simprocAttr, mq.down, fb] at ak ⊢); exact ak
  ·simp only [aZ.down, simprocAttr, nH.down, fb]
   (try simp only [bn.down, simprocAttr, mq.down, fb] at ak ⊢); exact ak
 refine dK (cl [(1, .a7 (cc a0)), (3, .bool ((a0.Kind == 4) || (a0.Kind == 5))), (4, .bool (((a0.Kind == 1) || (a0.Kind == 3)) || (a0.Kind == 5)))] (fun P ak => ?_) ?_)
 ·(rcases Bool.eq_false_or_eq_true (a0.Kind == 1) with Gk | Gk) <;> (rcases Bool.eq_false_or_eq_true (a0.Kind == 3) with Gl | Gl) <;>
   (simp only [aZ.down, simprocAttr, nH.down, Gk, Gl]
    (try simp only [bn.down, simprocAttr, mq.down, Gk, Gl] at ak ⊢); exact ak)
 obtain ⟨af, hi, h⟩ := aH h
 refine dK (cl [(2, .bool (((af && (((a0.Kind == 4) || (a0.Kind == 5)) || (a0.Number == 0))) && ((a0.Kind == 1) || (a0.Name == ([] : List UInt8)))) && ((((a0.Kind == 1) || (a0.Kind == 3)) || (a0.Kind == 5)) || ((a0.dz.length : Int) == 0))))] (fun P ak => ?_) ?_)
 ·(rcases Bool.eq_false_or_eq_true (af) with nJ | nJ) <;> (rcases Bool.eq_false_or_eq_true (a0.Kind == 4) with pe | pe) <;> (rcases Bool.eq_false_or_eq_true (a0.Kind == 5) with B2 | B2) <;> (rcases Bool.eq_false_or_eq_true (a0.Number == 0) with B3 | B3) <;> (rcases Bool.eq_false_or_eq_true (a0.Kind == 1) with B4 | B4) <;> (rcases Bool.eq_false_or_eq_true (a0.Name == ([] : List UInt8)) with nG | nG) <;> (rcases Bool.eq_false_or_eq_true (a0.Kind == 3) with B5 | B5) <;>
   (simp only [aZ.down, simprocAttr, nH.down, nJ, pe, B2, B3, B4, nG, B5]
    refine fw (jS a0.Kind 0 5 _ hi) rfl rfl rfl rfl (.inl (by rfl)) ?_
    simp only [aZ.down, simprocAttr, nH.down, nJ, pe, B2, B3, B4, nG, B5]
    (try simp only [bn.down, simprocAttr, mq.down, nJ, pe, B2, B3, B4, nG, B5] at ak ⊢); exact ak)
 exact aC (an _ (.inl (aD [.bool (((af && (((a0.Kind == 4) || (a0.Kind == 5)) || (a0.Number == 0))) && ((a0.Kind == 1) || (a0.Name == ([] : List UInt8)))) && ((((a0.Kind == 1) || (a0.Kind == 3)) || (a0.Kind == 5)) || ((a0.dz.length : Int) == 0)))])))
theorem kD (a0 : List UInt8) (r : Bool) (h : p1 a0 = some r) : bh aE 192 [.str a0] (.bool r) [] := by
 refine bR [0] [.tmp 2] Tryz.func192 ahi (fun bM an bO => ?_)
 refine ws _ ?_
 obtain ⟨af, aQ, h⟩ := aH h
 refine dK (cl [(2, .bool (af && (!(a0 == ([116, 97, 117] : List UInt8)))))] (fun P ak => ?_) ?_)
 ·rcases Bool.eq_false_or_eq_true (af) with hl | hl
  ·simp only [aZ.down, simprocAttr, hl]
   refine fw (B1 a0 _ aQ) rfl rfl rfl rfl (.inl (by rfl)) ?_
   simp only [aZ.down, simprocAttr, hl]
   (try simp only [bn.down, simprocAttr, hl] at ak ⊢); exact ak
  ·simp only [aZ.down, simprocAttr, hl]
   refine fw (B1 a0 _ aQ) rfl rfl rfl rfl (.inl (by rfl)) ?_
   simp only [aZ.down, simprocAttr, hl]
   (try simp only [bn.down, simprocAttr, hl] at ak ⊢); exact ak
 exact aC (an _ (.inl (aD [.bool (af && (!(a0 == ([116, 97, 117] : List UInt8))))])))
theorem q2 (a0 : Int) (U : Int) (r : Bool) (h : qV a0 U = some r) : bh aE 240 [.int .i64 a0, .int .i64 U] (.bool r) [] := by
 refine bR [0, 1] [.tmp 4] Tryz.func240 ahl (fun bM an bO => ?_)
 refine ws _ ?_
 obtain ⟨af, aQ, h⟩ := aH h
 refine di (jS a0 0 (IntKind.i64.wrap (U - 1)) _ aQ) _ ?_
 exact aC (an _ (.inl (aD [.bool af])))
theorem asT (a0 : b7) (U : List bm) (r : Bool) (h : EU a0 U = some r) : bh aE 309 [cc a0, .slice (U.map bq)] (.bool r) [] := by
 refine bR [0, 1] [.tmp 4] Tryz.func309 ahz (fun bM an bO => ?_)
 refine ws _ ?_
 refine ws _ ?_
 refine aJ an (fun j3 gx dm a6 => ?_)
 refine ws _ ?_
 refine bJ dm (fun iX e3 dW bE cf => ?_)
 refine ws _ ?_
 refine aU h (fun k5 h => ?_) (fun k5 h => ?_)
 ·simp only [k5, aj.down]
  refine dK (cl [(4, .bool (((a0.dz.length : Int) == 0) || ((!(a0.Name == ([116, 97, 117] : List UInt8))) && (decide ((a0.dz.length : Int) ≤ 2)))))] (fun P ak => ?_) ?_)
  ·(rcases Bool.eq_false_or_eq_true ((a0.dz.length : Int) == 0) with nJ | nJ) <;> (rcases Bool.eq_false_or_eq_true (a0.Name == ([116, 97, 117] : List UInt8)) with pe | pe) <;>
    (simp only [aZ.down, simprocAttr, xY.down, nJ, pe]
     (try simp only [bn.down, simprocAttr, h9.down, nJ, pe] at ak ⊢); exact ak)
  exact aC (dW _ (.inl (aD [.bool (((a0.dz.length : Int) == 0) || ((!(a0.Name == ([116, 97, 117] : List UInt8))) && (decide ((a0.dz.length : Int) ≤ 2))))])))
 ·simp only [k5, aj.down]
  refine ws _ ?_
  refine aU h (fun dj h => ?_) (fun dj h => ?_)
  ·simp only [dj, aj.down]
   refine ws _ ?_
   exact aC (dW _ (.inl (aD [.bool ((a0.dz.length : Int) == 1)])))
  ·simp only [dj, aj.down]
   refine ws _ ?_
   refine aU h (fun c4 h => ?_) (fun c4 h => ?_)
   ·simp only [c4, aj.down]
    obtain ⟨af, dM, h⟩ := aH h
    refine hW dM _ ?_
    exact aC (dW _ (.inl (aD [.bool ((a0.dz.length : Int) == af.dL)])))
   ·simp only [c4, aj.down]
    refine aW (e3 _ (gx _ (.inl ?_)))
    refine ws _ ?_
    exact aC (an _ (.inl (aD [.bool true])))
theorem Nk (a0 : Int) (r : Bool) (h : xq a0 = some r) : bh aE 198 [.int .i64 a0] (.bool r) [] := by
 refine bR [0] [.tmp 2] Tryz.func198 ahC (fun bM an bO => ?_)
 refine ws _ ?_
 obtain ⟨af, aQ, h⟩ := aH h
 refine di (jS a0 0 63 _ aQ) _ ?_
 exact aC (an _ (.inl (aD [.bool af])))
theorem asU (a0 : cA) (U : Int) (r : Bool) (h : AO a0 U = some r) : bh aE 259 [cq a0, .int .i64 U] (.bool r) [] := by
 refine bR [0, 1] [.tmp 4] Tryz.func259 ahS (fun bM an bO => ?_)
 refine ws _ ?_
 refine aJ an (fun et b0 bg ay => ?_)
 refine ws _ ?_
 refine bJ bg (fun eT eL ch bA bW => ?_)
 refine ws _ ?_
 refine aU h (fun cL h => ?_) (fun cL h => ?_)
 ·simp only [cL, aj.down]
  obtain ⟨af, hi, h⟩ := aH h
  refine di (Nk a0.Value _ hi) _ ?_
  exact aC (ch _ (.inl (aD [.bool af])))
 ·simp only [cL, aj.down]
  refine ws _ ?_
  refine aU h (fun cP h => ?_) (fun cP h => ?_)
  ·simp only [cP, aj.down]
   obtain ⟨ay, iJ, h⟩ := aH h
   refine di (jS a0.Value 0 (IntKind.i64.wrap (U - 1)) _ iJ) _ ?_
   exact aC (ch _ (.inl (aD [.bool ay])))
  ·simp only [cP, aj.down]
   refine ws _ ?_
   refine aU h (fun eX h => ?_) (fun eX h => ?_)
   ·simp only [eX, aj.down]
    obtain ⟨a6, bY, h⟩ := aH h
    refine di (jS a0.Value 0 8 _ bY) _ ?_
    exact aC (ch _ (.inl (aD [.bool a6])))
   ·simp only [eX, aj.down]
    refine ws _ ?_
    refine aU h (fun e8 h => ?_) (fun e8 h => ?_)
    ·simp only [e8, aj.down]
     refine ws _ ?_
     exact aC (ch _ (.inl (aD [.bool (a0.Value == 0)])))
    ·simp only [e8, aj.down]
     refine aW (eL _ (b0 _ (.inl ?_)))
     refine ws _ ?_
     exact aC (an _ (.inl (aD [.bool false])))
theorem asV (a0 : cA) (r : Int) (h : EV a0 = some r) : bh aE 260 [cq a0] (.int .i64 r) [] := by
 refine bR [0] [.tmp 2] Tryz.func260 ah2 (fun bM an bO => ?_)
 refine ws _ ?_
 refine aJ an (fun et b0 bg ay => ?_)
 refine ws _ ?_
 refine bJ bg (fun eT eL ch bA bW => ?_)
 refine ws _ ?_
 refine aU h (fun cL h => ?_) (fun cL h => ?_)
 ·simp only [cL, aj.down]
  refine ws _ ?_
  exact aC (ch _ (.inl (aD [.int .i64 2])))
 ·simp only [cL, aj.down]
  refine ws _ ?_
  refine aU h (fun ed h => ?_) (fun ed h => ?_)
  ·simp only [ed, aj.down]
   refine ws _ ?_
   exact aC (ch _ (.inl (aD [.int .i64 1])))
  ·simp only [ed, aj.down]
   refine aW (eL _ (b0 _ (.inl ?_)))
   refine ws _ ?_
   exact aC (an _ (.inl (aD [.int .i64 0])))
theorem asW (a0 : List cA) (U : Int) (a2 : Int) (r : Bool) (h : AQ a0 U a2 = some r) : bh aE 196 [.slice (a0.map cq), .int .i64 U, .int .i64 a2] (.bool r) [] := by
 refine bR [0, 1, 2] [.tmp 6] Tryz.func196 aii (fun bM an bO => ?_)
 refine ws _ ?_
 refine aJ an (fun et b0 bg ay => ?_)
 obtain ⟨af, ca, h⟩ := aH h
 rcases eZ h with ⟨bE, h⟩ | ⟨bE, h⟩
 ·refine hX (cG bE) (jS U 0 29 _ ca) _ ?_
  refine jc rfl ?_
  refine ws _ ?_
  exact aC (bg _ (.inl (aD [.bool false])))
 ·obtain ⟨ay, bS, h⟩ := aH h
  rcases eZ h with ⟨bQ, h⟩ | ⟨bQ, h⟩
  ·refine dK (cl [(0, .slice (a0.map cq)), (1, .int .i64 U), (24, .bool true)] (fun P ak => ?_) ?_)
   ·simp only [aZ.down, simprocAttr, ot.down, (bd bE), (cG bQ)]
    refine fw (jS U 0 29 _ ca) rfl rfl rfl rfl (.inl (by rfl)) ?_
    simp only [aZ.down, simprocAttr, ot.down, (bd bE), (cG bQ)]
    refine hv (jS a2 1 60 _ bS) rfl rfl rfl rfl (.inl (by rfl)) ?_
    simp only [aZ.down, simprocAttr, ot.down, (bd bE), (cG bQ)]
    (try simp only [bn.down, simprocAttr, cq, (bd bE), (cG bQ)] at ak ⊢); exact ak
   refine jc rfl ?_
   refine ws _ ?_
   exact aC (bg _ (.inl (aD [.bool false])))
  ·obtain ⟨a6, n0, h⟩ := aH h
   refine dK (cl [(0, .slice (a0.map cq)), (1, .int .i64 U), (24, .bool (!a6))] (fun P ak => ?_) ?_)
   ·simp only [aZ.down, simprocAttr, ot.down, (bd bE), (bd bQ)]
    refine fw (jS U 0 29 _ ca) rfl rfl rfl rfl (.inl (by rfl)) ?_
    simp only [aZ.down, simprocAttr, ot.down, (bd bE), (bd bQ)]
    refine hv (jS a2 1 60 _ bS) rfl rfl rfl rfl (.inl (by rfl)) ?_
    simp only [aZ.down, simprocAttr, ot.down, (bd bE), (bd bQ)]
    refine hv (jS (a0.length : Int) 1 a2 _ n0) rfl rfl rfl rfl (.inl (by rfl)) ?_
    simp only [aZ.down, simprocAttr, ot.down, (bd bE), (bd bQ)]
    (try simp only [bn.down, simprocAttr, cq, (bd bE), (bd bQ)] at ak ⊢); exact ak
   refine aU h (fun jC h => ?_) (fun jC h => ?_)
   ·simp only [(cG jC), aj.down]
    refine ws _ ?_
    exact aC (bg _ (.inl (aD [.bool false])))
   ·simp only [(bd jC), aj.down]
    refine aW (b0 _ (.inl ?_))
    refine ws _ ?_
    refine aJ an (fun ib eP eB iE => ?_)
    refine ws _ ?_
    refine bJ eB (fun p3 km lh j5 p4 => ?_)
    have jg : ∀ (n : Nat) (ha : Int) (mQ : Int), ss a0 U n ha mQ = some r → dE aE Mn p3 (aa [(1, .int .i64 U), (7, .int .i64 ha), (25, .slice (a0.map cq)), (26, .int .i64 (a0.length : Int)), (27, .int .i64 mQ)]) := by
     intro m16
     induction m16 with
     | zero => intro ha mQ h; cases (show none = some r from h)
     | succ m16 jh =>
      intro ha mQ h
      replace h : AP (ss a0 U m16) a0 U ha mQ = some r := h
      refine ea lh (fun oy jP jQ nI => ?_)
      refine ws _ ?_
      refine aJ jQ (fun MT uZ BN FE => ?_)
      refine aU h (fun dN h => ?_) (fun dN h => ?_)
      ·simp only [dN, aj.down]
       refine aW (uZ _ (.inl ?_))
       refine aJ jQ (fun asX Gm B6 asY => ?_)
       refine bJ B6 (fun x3 ow ox ko x4 => ?_)
       obtain ⟨bW, jR, h⟩ := aH h
       refine hW jR _ ?_
       refine aJ ox (fun Nl yd u5 Nn => ?_)
       rcases eZ h with ⟨j6, h⟩ | ⟨j6, h⟩
       ·refine hW j6 _ ?_
        refine jc rfl ?_
        refine ws _ ?_
        exact aC (u5 _ (.inl (aD [.bool false])))
       ·obtain ⟨cf, asZ, h⟩ := aH h
        refine dK (cl [(1, .int .i64 U), (7, .int .i64 ha), (9, .a7 (cq bW)), (25, .slice (a0.map cq)), (26, .int .i64 (a0.length : Int)), (27, .int .i64 mQ), (38, .bool (!cf))] (fun P ak => ?_) ?_)
        ·simp only [aZ.down, simprocAttr, dS, fZ, cq, j6]
         refine hv (asU bW U _ asZ) rfl rfl rfl rfl (.inl (by rfl)) ?_
         simp only [aZ.down, simprocAttr, dS, fZ, cq, j6]
         (try simp only [bn.down, simprocAttr, cq, j6] at ak ⊢); exact ak
        refine aU h (fun iF h => ?_) (fun iF h => ?_)
        ·simp only [(cG iF), aj.down]
         refine ws _ ?_
         exact aC (u5 _ (.inl (aD [.bool false])))
        ·simp only [(bd iF), aj.down]
         refine aW (yd _ (.inl ?_))
         obtain ⟨cO, as0, h⟩ := aH h
         refine aqZ (asV bW _ as0) _ ?_
         refine ow _ (Gm _ (.inl ?_))
         refine wr _ ?_
         exact jP _ (.inr ⟨_, bs rfl, jh (IntKind.i64.wrap (ha + (IntKind.i64.wrap (cO - 1)))) (IntKind.i64.wrap (mQ + 1)) h⟩)
      ·simp only [dN, aj.down]
       refine dY (FE 0 _ (nI 0 _ (j5 _ (eP _ (.inl ?_)))))
       refine ws _ ?_
       exact aC (an _ (.inl (aD [.bool (ha == 0)])))
    obtain ⟨n, h⟩ := dR h
    exact dZ (.inr ⟨_, bs rfl, jg n 1 0 h⟩)
theorem as1 (a0 : List cA) (U : cm) (r : Bool) (h : EW a0 U = some r) : bh aE 310 [.slice (a0.map cq), .ref (dA U)] (.bool r) [] := by
 refine bR [0, 1] [.tmp 3] Tryz.func310 ail (fun bM an bO => ?_)
 refine ws _ ?_
 obtain ⟨af, aQ, h⟩ := aH h
 refine di (asW a0 U.scope 15 _ aQ) _ ?_
 exact aC (an _ (.inl (aD [.bool (!af)])))
theorem as2 (a0 : List (List cA)) (U : cm) (r : Int) (h : EX a0 U = some r) : bh aE 257 [.slice (a0.map en), .fn 310 [.ref (dA U)]] (.int .i64 r) [] := by
 refine bR [0, 1] [.tmp 4] Tryz.func257 aiw (fun bM an bO => ?_)
 refine ws _ ?_
 refine aJ an (fun et b0 bg ay => ?_)
 refine ws _ ?_
 refine bJ bg (fun eT eL ch bA bW => ?_)
 have hY : ∀ (n : Nat) (b9 : Int), uM a0 U n b9 = some r → dE aE Mo eT (aa [(0, .slice (a0.map en)), (1, .fn 310 [.ref (dA U)]), (7, .int .i64 (a0.length : Int)), (8, .int .i64 b9)]) := by
  intro m6
  induction m6 with
  | zero => intro b9 h; cases (show none = some r from h)
  | succ m6 ho =>
   intro b9 h
   replace h : AR (uM a0 U m6) a0 U b9 = some r := h
   refine ea ch (fun iX e3 dW cf => ?_)
   refine ws _ ?_
   refine aJ dW (fun gy dn dx cH => ?_)
   refine aU h (fun bQ h => ?_) (fun bQ h => ?_)
   ·simp only [bQ, aj.down]
    refine aW (dn _ (.inl ?_))
    refine aJ dW (fun ev c_ cw dF => ?_)
    refine bJ cw (fun ff cE cx cP da => ?_)
    refine ws _ ?_
    obtain ⟨af, fV, h⟩ := aH h
    obtain ⟨ay, dD, h⟩ := aH h
    refine hX fV (as1 af U _ dD) _ ?_
    refine aU h (fun c4 h => ?_) (fun c4 h => ?_)
    ·simp only [c4, aj.down]
     refine ws _ ?_
     exact aC (cx _ (.inl (aD [.int .i64 b9])))
    ·simp only [c4, aj.down]
     refine aW (cE _ (c_ _ (.inl ?_)))
     refine wr _ ?_
     exact e3 _ (.inr ⟨_, bs rfl, ho (IntKind.i64.wrap (b9 + 1)) h⟩)
   ·simp only [bQ, aj.down]
    refine dY (cH 0 _ (cf 0 _ (bA _ (b0 _ (.inl ?_)))))
    refine ws _ ?_
    exact aC (an _ (.inl (aD [.int .i64 (-1)])))
 obtain ⟨n, h⟩ := dR h
 exact dZ (.inr ⟨_, bs rfl, hY n 0 h⟩)
theorem as3 (a0 : List (List cA)) (U : cm) (r : Bool) (h : AU a0 U = some r) : bh aE 193 [.slice (a0.map en), .fn 310 [.ref (dA U)]] (.bool r) [] := by
 refine bR [0, 1] [.tmp 4] Tryz.func193 aiz (fun bM an bO => ?_)
 refine ws _ ?_
 obtain ⟨af, aQ, h⟩ := aH h
 refine di (as2 a0 U _ aQ) _ ?_
 exact aC (an _ (.inl (aD [.bool (decide (0 ≤ af))])))
theorem as4 (a0 : b7) (U : List bm) (a2 : cm) (r : Int) (h : xv a0 U a2 = some r) : bh aE 282 [cc a0, .slice (U.map bq), dA a2] (.int .i64 r) [] := by
 refine bR [0, 1, 2] [.tmp 6] Tryz.func282 aiV (fun bM an bO => ?_)
 refine ws _ ?_
 refine aJ an (fun et b0 bg ay => ?_)
 refine bJ bg (fun j3 gx dm kr a6 => ?_)
 obtain ⟨af, cR, h⟩ := aH h
 refine di (asS a0 _ cR) _ ?_
 refine aU h (fun cL h => ?_) (fun cL h => ?_)
 ·simp only [(cG cL), aj.down]
  refine ws _ ?_
  exact aC (dm _ (.inl (aD [.int .i64 2])))
 ·simp only [(bd cL), aj.down]
  have u0 : ∀ (xu : Bool), xt a0 U a2 xu = some r → cW aE Mq j3 (aa [(1, .slice (U.map bq)), (3, .a7 (cc a0)), (5, .a7 (dA a2)), (11, .bool xu)]) := by
   intro xu h
   refine aU h (fun bQ h => ?_) (fun bQ h => ?_)
   ·simp only [bQ, aj.down]
    refine ws _ ?_
    exact aC (dm _ (.inl (aD [.int .i64 3])))
   ·simp only [bQ, aj.down]
    have ye : ∀ (xr : Bool), su a0 U a2 xr = some r → cW aE Mp j3 (aa [(1, .slice (U.map bq)), (3, .a7 (cc a0)), (5, .a7 (dA a2)), (26, .bool xr)]) := by
     intro xr h
     refine aU h (fun cP h => ?_) (fun cP h => ?_)
     ·simp only [cP, aj.down]
      refine ws _ ?_
      exact aC (dm _ (.inl (aD [.int .i64 4])))
     ·simp only [cP, aj.down]
      obtain ⟨ay, fV, h⟩ := aH h
      refine di (asT a0 U _ fV) _ ?_
      refine aU h (fun eX h => ?_) (fun eX h => ?_)
      ·simp only [(cG eX), aj.down]
       refine ws _ ?_
       exact aC (dm _ (.inl (aD [.int .i64 5])))
      ·simp only [(bd eX), aj.down]
       refine dK (cl [(3, .a7 (cc a0)), (5, .a7 (dA a2)), (54, .bool ((a0.Kind == 5) && (!a2.behind)))] (fun P ak => ?_) ?_)
       ·rcases Bool.eq_false_or_eq_true (a0.Kind == 5) with yf | yf
        ·simp only [aZ.down, simprocAttr, BI.down, yf]
         (try simp only [bn.down, simprocAttr, xZ.down, yf] at ak ⊢); exact ak
        ·simp only [aZ.down, simprocAttr, BI.down, yf]
         (try simp only [bn.down, simprocAttr, xZ.down, yf] at ak ⊢); exact ak
       refine aU h (fun e8 h => ?_) (fun e8 h => ?_)
       ·simp only [e8, aj.down]
        refine ws _ ?_
        exact aC (dm _ (.inl (aD [.int .i64 6])))
       ·simp only [e8, aj.down]
        refine dK (cl [(3, .a7 (cc a0)), (5, .a7 (dA a2)), (63, .bool ((a0.Kind == 4) && (decide (6 ≤ a2.scope))))] (fun P ak => ?_) ?_)
        ·rcases Bool.eq_false_or_eq_true (a0.Kind == 4) with yg | yg
         ·simp only [aZ.down, simprocAttr, BI.down, yg]
          (try simp only [bn.down, simprocAttr, xZ.down, yg] at ak ⊢); exact ak
         ·simp only [aZ.down, simprocAttr, BI.down, yg]
          (try simp only [bn.down, simprocAttr, xZ.down, yg] at ak ⊢); exact ak
        refine aU h (fun ko h => ?_) (fun ko h => ?_)
        ·simp only [ko, aj.down]
         refine ws _ ?_
         exact aC (dm _ (.inl (aD [.int .i64 7])))
        ·simp only [ko, aj.down]
         obtain ⟨a6, kn, h⟩ := aH h
         refine dK (cl [(72, .bool a6)] (fun P ak => ?_) ?_)
         ·simp only [aZ.down, simprocAttr, Fv.down]
          refine fw (as3 a0.dz a2 _ kn) rfl rfl (by simp only [aZ.down, simprocAttr, Fv.down, kg, kh, ki, ef] <;> rfl) rfl (.inr (by rfl)) ?_
          simp only [aZ.down, simprocAttr, Fv.down]
          (try simp only [bn.down, simprocAttr, xZ.down] at ak ⊢); exact ak
         refine aU h (fun gq h => ?_) (fun gq h => ?_)
         ·simp only [gq, aj.down]
          refine ws _ ?_
          exact aC (dm _ (.inl (aD [.int .i64 8])))
         ·simp only [gq, aj.down]
          refine aW (gx _ (b0 _ (.inl ?_)))
          refine ws _ ?_
          exact aC (an _ (.inl (aD [.int .i64 0])))
    rcases eZ h with ⟨iF, h⟩ | ⟨iF, h⟩
    ·obtain ⟨bW, sS, h⟩ := aH h
     rcases eZ h with ⟨lz, h⟩ | ⟨lz, h⟩
     ·refine kP (cl (K := el _) [(1, .slice (U.map bq)), (3, .a7 (cc a0)), (5, .a7 (dA a2)), (26, .bool true)] (fun P ak => ?_) ?_)
      ·simp only [aZ.down, simprocAttr, pg.down, iF, (cG lz)]
       refine hv (jS a0.Number 1 7 _ sS) rfl rfl rfl rfl (.inl (by rfl)) ?_
       simp only [aZ.down, simprocAttr, pg.down, iF, (cG lz)]
       (try simp only [bn.down, simprocAttr, mS.down, iF, (cG lz)] at ak ⊢); exact ak
      exact .inr ⟨_, bs rfl, ye true h⟩
     ·rcases eZ h with ⟨hz, h⟩ | ⟨hz, h⟩
      ·obtain ⟨cf, oB, h⟩ := aH h
       refine kP (cl (K := el _) [(1, .slice (U.map bq)), (3, .a7 (cc a0)), (5, .a7 (dA a2)), (26, .bool (!cf))] (fun P ak => ?_) ?_)
       ·simp only [aZ.down, simprocAttr, pg.down, iF, (bd lz), hz]
        refine hv (jS a0.Number 1 7 _ sS) rfl rfl rfl rfl (.inl (by rfl)) ?_
        simp only [aZ.down, simprocAttr, pg.down, iF, (bd lz), hz]
        refine hv (q2 a0.Number (U.length : Int) _ oB) rfl rfl rfl rfl (.inl (by rfl)) ?_
        simp only [aZ.down, simprocAttr, pg.down, iF, (bd lz), hz]
        (try simp only [bn.down, simprocAttr, mS.down, iF, (bd lz), hz] at ak ⊢); exact ak
       exact .inr ⟨_, bs rfl, ye (!cf) h⟩
      ·refine kP (cl (K := el _) [(1, .slice (U.map bq)), (3, .a7 (cc a0)), (5, .a7 (dA a2)), (26, .bool false)] (fun P ak => ?_) ?_)
       ·simp only [aZ.down, simprocAttr, pg.down, iF, (bd lz), hz]
        refine hv (jS a0.Number 1 7 _ sS) rfl rfl rfl rfl (.inl (by rfl)) ?_
        simp only [aZ.down, simprocAttr, pg.down, iF, (bd lz), hz]
        (try simp only [bn.down, simprocAttr, mS.down, iF, (bd lz), hz] at ak ⊢); exact ak
       exact .inr ⟨_, bs rfl, ye false h⟩
    ·rcases eZ h with ⟨oz, h⟩ | ⟨oz, h⟩
     ·obtain ⟨cO, u4, h⟩ := aH h
      refine kP (cl (K := el _) [(1, .slice (U.map bq)), (3, .a7 (cc a0)), (5, .a7 (dA a2)), (26, .bool (!cO))] (fun P ak => ?_) ?_)
      ·simp only [aZ.down, simprocAttr, pg.down, iF, oz]
       refine hv (q2 a0.Number (U.length : Int) _ u4) rfl rfl rfl rfl (.inl (by rfl)) ?_
       simp only [aZ.down, simprocAttr, pg.down, iF, oz]
       (try simp only [bn.down, simprocAttr, mS.down, iF, oz] at ak ⊢); exact ak
      exact .inr ⟨_, bs rfl, ye (!cO) h⟩
     ·refine kP (cl (K := el _) [(1, .slice (U.map bq)), (3, .a7 (cc a0)), (5, .a7 (dA a2)), (26, .bool false)] (fun P ak => ?_) ?_)
      ·simp only [aZ.down, simprocAttr, pg.down, iF, oz]
       (try simp only [bn.down, simprocAttr, mS.down, iF, oz] at ak ⊢); exact ak
      exact .inr ⟨_, bs rfl, ye false h⟩
  rcases eZ h with ⟨pj, h⟩ | ⟨pj, h⟩
  ·rcases eZ h with ⟨mu, h⟩ | ⟨mu, h⟩
   ·obtain ⟨cH, as5, h⟩ := aH h
    refine kP (cl (K := el _) [(1, .slice (U.map bq)), (3, .a7 (cc a0)), (5, .a7 (dA a2)), (11, .bool (!cH))] (fun P ak => ?_) ?_)
    ·simp only [aZ.down, simprocAttr, BJ.down, pj, mu]
     refine hv (kD a0.Name _ as5) rfl rfl rfl rfl (.inl (by rfl)) ?_
     simp only [aZ.down, simprocAttr, BJ.down, pj, mu]
     (try simp only [bn.down, simprocAttr, mS.down, pj, mu] at ak ⊢); exact ak
    exact .inr ⟨_, bs rfl, u0 (!cH) h⟩
   ·refine kP (cl (K := el _) [(1, .slice (U.map bq)), (3, .a7 (cc a0)), (5, .a7 (dA a2)), (11, .bool false)] (fun P ak => ?_) ?_)
    ·simp only [aZ.down, simprocAttr, BJ.down, pj, mu]
     (try simp only [bn.down, simprocAttr, mS.down, pj, mu] at ak ⊢); exact ak
    exact .inr ⟨_, bs rfl, u0 false h⟩
  ·refine kP (cl (K := el _) [(1, .slice (U.map bq)), (3, .a7 (cc a0)), (5, .a7 (dA a2)), (11, .bool false)] (fun P ak => ?_) ?_)
   ·simp only [aZ.down, simprocAttr, BJ.down, pj]
    (try simp only [bn.down, simprocAttr, mS.down, pj] at ak ⊢); exact ak
   exact .inr ⟨_, bs rfl, u0 false h⟩
theorem as6 (a0 : List bm) (U : bm) (r : Int × Int) (h : xx a0 U = some r) : bh aE 239 [.slice (a0.map bq), bq U] (.tuple [.int .i64 r.1, .int .i64 r.2]) [] := by
 refine bR [0, 1] [.tmp 4, .tmp 5] Tryz.func239 aja (fun bM an bO => ?_)
 refine ws _ ?_
 refine aJ an (fun et b0 bg ay => ?_)
 obtain ⟨af, ca, h⟩ := aH h
 rcases eZ h with ⟨bE, h⟩ | ⟨bE, h⟩
 ·refine fG rfl (fq [(0, .slice (a0.map bq)), (3, .a7 (bq U)), (22, .bool true)] (fun P ak => ?_) ?_)
  ·simp only [ct.down, simprocAttr, pf.down, (cG bE)]
   refine gS (jS (U.Body.length : Int) 1 20 _ ca) rfl rfl rfl rfl (.inl (by rfl)) ?_
   simp only [ct.down, simprocAttr, pf.down, (cG bE)]
   refine ⟨fk (by kernel_rfl), ?_⟩
   (try simp only [bn.down, simprocAttr, h9.down, (cG bE)] at ak ⊢); exact ak
  refine jc rfl ?_
  refine ws _ ?_
  exact aC (bg _ (.inl (aD [.int .i64 0, .int .i64 1])))
 ·obtain ⟨ay, bS, h⟩ := aH h
  refine fG rfl (fq [(0, .slice (a0.map bq)), (3, .a7 (bq U)), (22, .bool (ay != (U.Body.length : Int)))] (fun P ak => ?_) ?_)
  ·simp only [ct.down, simprocAttr, pf.down, (bd bE)]
   refine gS (jS (U.Body.length : Int) 1 20 _ ca) rfl rfl rfl rfl (.inl (by rfl)) ?_
   simp only [ct.down, simprocAttr, pf.down, (bd bE)]
   refine kv (asL U 0 _ bS) rfl rfl rfl rfl (.inl (by rfl)) ?_
   simp only [ct.down, simprocAttr, pf.down, (bd bE)]
   refine ⟨fk (by kernel_rfl), ?_⟩
   (try simp only [bn.down, simprocAttr, h9.down, (bd bE)] at ak ⊢); exact ak
  refine aU h (fun bQ h => ?_) (fun bQ h => ?_)
  ·simp only [bQ, aj.down]
   refine ws _ ?_
   exact aC (bg _ (.inl (aD [.int .i64 0, .int .i64 1])))
  ·simp only [bQ, aj.down]
   refine aW (b0 _ (.inl ?_))
   obtain ⟨a6, oS, h⟩ := aH h
   refine di (Gj U _ oS) _ ?_
   refine aJ an (fun jD f_ ix iV => ?_)
   refine ws _ ?_
   refine bJ ix (fun ib eP eB eX iE => ?_)
   have jg : ∀ (n : Nat) (lg : Int), qW a0 U a6 n lg = some r → dE aE Mr ib (aa [(0, .slice (a0.map bq)), (6, .aP 2 (a6.map dA)), (26, .slice (U.Body.map cc)), (27, .int .i64 (U.Body.length : Int)), (28, .int .i64 lg)]) := by
    intro m16
    induction m16 with
    | zero => intro lg h; cases (show none = some r from h)
    | succ m16 jh =>
     intro lg h
     replace h : xw (qW a0 U a6 m16) a0 U a6 lg = some r := h
     refine ea eB (fun kB gV gE j4 => ?_)
     refine ws _ ?_
     refine aJ gE (fun oy jP jQ nI => ?_)
     refine aU h (fun e8 h => ?_) (fun e8 h => ?_)
     ·simp only [e8, aj.down]
      refine aW (jP _ (.inl ?_))
      refine aJ gE (fun MT uZ BN FE => ?_)
      refine bJ BN (fun arv BO FF dN arw => ?_)
      obtain ⟨bW, hI, h⟩ := aH h
      refine hW hI _ ?_
      obtain ⟨cf, jR, h⟩ := aH h
      obtain ⟨cO, kn, h⟩ := aH h
      refine fG rfl (fq [(0, .slice (a0.map bq)), (6, .aP 2 (a6.map dA)), (7, .int .i64 lg), (9, .int .i64 cO), (26, .slice (U.Body.map cc)), (27, .int .i64 (U.Body.length : Int)), (28, .int .i64 lg)] (fun P ak => ?_) ?_)
      ·simp only [ct.down, simprocAttr, dS, pb, ez, gp, gT, hQ, fZ, pc, r9, bq, cc, cq, dA, en, jR, fR jR]
       refine gS (as4 bW a0 cf _ kn) rfl rfl rfl rfl (.inl (by rfl)) ?_
       simp only [ct.down, simprocAttr, dS, pb, ez, gp, gT, hQ, fZ, pc, r9, bq, cc, cq, dA, en, jR, fR jR]
       refine ⟨fk (by kernel_rfl), ?_⟩
       (try simp only [bn.down, simprocAttr, mS.down, jR, fR jR] at ak ⊢); exact ak
      refine ws _ ?_
      refine aU h (fun j6 h => ?_) (fun j6 h => ?_)
      ·simp only [j6, aj.down]
       refine ws _ ?_
       exact aC (FF _ (.inl (aD [.int .i64 lg, .int .i64 cO])))
      ·simp only [j6, aj.down]
       refine aW (BO _ (uZ _ (.inl ?_)))
       refine wr _ ?_
       exact gV _ (.inr ⟨_, bs rfl, jh (IntKind.i64.wrap (lg + 1)) h⟩)
     ·simp only [e8, aj.down]
      refine dY (nI 0 _ (j4 0 _ (eX _ (f_ _ (.inl ?_)))))
      refine ws _ ?_
      exact aC (an _ (.inl (aD [.int .i64 0, .int .i64 0])))
   obtain ⟨n, h⟩ := dR h
   exact dZ (.inr ⟨_, bs rfl, jg n 0 h⟩)
theorem as7 (a0 : List bm) (r : Bool) (h : AW a0 = some r) : bh aE 162 [.slice (a0.map bq)] (.bool r) [] := by
 refine bR [0] [.tmp 2] Tryz.func162 ajs (fun bM an bO => ?_)
 refine ws _ ?_
 refine aJ an (fun et b0 bg ay => ?_)
 obtain ⟨af, ca, h⟩ := aH h
 rcases eZ h with ⟨bE, h⟩ | ⟨bE, h⟩
 ·refine hX (cG bE) (jS (a0.length : Int) 1 4 _ ca) _ ?_
  refine jc rfl ?_
  refine ws _ ?_
  exact aC (bg _ (.inl (aD [.bool false])))
 ·obtain ⟨ay, bS, h⟩ := aH h
  refine dK (cl [(0, .slice (a0.map bq)), (15, .bool (!ay))] (fun P ak => ?_) ?_)
  ·simp only [aZ.down, simprocAttr, iW.down, (bd bE)]
   refine fw (jS (a0.length : Int) 1 4 _ ca) rfl rfl rfl rfl (.inl (by rfl)) ?_
   simp only [aZ.down, simprocAttr, iW.down, (bd bE)]
   refine hv (asG a0 _ bS) rfl rfl rfl rfl (.inl (by rfl)) ?_
   simp only [aZ.down, simprocAttr, iW.down, (bd bE)]
   (try simp only [bn.down, simprocAttr, h9.down, (bd bE)] at ak ⊢); exact ak
  refine aU h (fun bQ h => ?_) (fun bQ h => ?_)
  ·simp only [(cG bQ), aj.down]
   refine ws _ ?_
   exact aC (bg _ (.inl (aD [.bool false])))
  ·simp only [(bd bQ), aj.down]
   refine aW (b0 _ (.inl ?_))
   refine aJ an (fun ff cE cx da => ?_)
   refine ws _ ?_
   refine bJ cx (fun jD f_ ix dj iV => ?_)
   have hy : ∀ (n : Nat) (lZ : Int), sv a0 n lZ = some r → dE aE Ms jD (aa [(0, .slice (a0.map bq)), (16, .slice (a0.map bq)), (17, .int .i64 (a0.length : Int)), (18, .int .i64 lZ)]) := by
    intro m14
    induction m14 with
    | zero => intro lZ h; cases (show none = some r from h)
    | succ m14 hf =>
     intro lZ h
     replace h : AV (sv a0 m14) a0 lZ = some r := h
     refine ea ix (fun lx hd gF kC => ?_)
     refine ws _ ?_
     refine aJ gF (fun kB gV gE j4 => ?_)
     refine aU h (fun j5 h => ?_) (fun j5 h => ?_)
     ·simp only [j5, aj.down]
      refine aW (gV _ (.inl ?_))
      refine aJ gF (fun oy jP jQ nI => ?_)
      refine bJ jQ (fun F_ sP sQ e8 Ga => ?_)
      obtain ⟨a6, ic, h⟩ := aH h
      refine hW ic _ ?_
      refine aJ sQ (fun asX Gm B6 asY => ?_)
      obtain ⟨bW, sI, h⟩ := aH h
      rcases eZ h with ⟨iN, h⟩ | ⟨iN, h⟩
      ·refine fG rfl (fq [(0, .slice (a0.map bq)), (4, .a7 (bq a6)), (16, .slice (a0.map bq)), (17, .int .i64 (a0.length : Int)), (18, .int .i64 lZ), (35, .bool true)] (fun P ak => ?_) ?_)
       ·simp only [ct.down, simprocAttr, iW.down, (cG iN)]
        refine gS (B1 a6.Name _ sI) rfl rfl rfl rfl (.inl (by rfl)) ?_
        simp only [ct.down, simprocAttr, iW.down, (cG iN)]
        refine ⟨fk (by kernel_rfl), ?_⟩
        (try simp only [bn.down, simprocAttr, h9.down, (cG iN)] at ak ⊢); exact ak
       refine jc rfl ?_
       refine ws _ ?_
       exact aC (B6 _ (.inl (aD [.bool false])))
      ·obtain ⟨cf, B7, h⟩ := aH h
       obtain ⟨cO, p5, h⟩ := aH h
       refine fG rfl (fq [(0, .slice (a0.map bq)), (4, .a7 (bq a6)), (16, .slice (a0.map bq)), (17, .int .i64 (a0.length : Int)), (18, .int .i64 lZ), (35, .bool (decide (0 ≤ cO)))] (fun P ak => ?_) ?_)
       ·simp only [ct.down, simprocAttr, iW.down, (bd iN), B7, @r1 _ bq 3 (fun _ => rfl)]
        refine gS (B1 a6.Name _ sI) rfl rfl rfl rfl (.inl (by rfl)) ?_
        simp only [ct.down, simprocAttr, iW.down, (bd iN), B7, @r1 _ bq 3 (fun _ => rfl)]
        refine kv (asK cf a6.Name _ p5) rfl rfl rfl rfl (.inl (by rfl)) ?_
        simp only [ct.down, simprocAttr, iW.down, (bd iN), B7, @r1 _ bq 3 (fun _ => rfl)]
        refine ⟨fk (by kernel_rfl), ?_⟩
        (try simp only [bn.down, simprocAttr, h9.down, (bd iN), B7, @r1 _ bq 3 (fun _ => rfl)] at ak ⊢); exact ak
       refine aU h (fun p7 h => ?_) (fun p7 h => ?_)
       ·simp only [p7, aj.down]
        refine ws _ ?_
        exact aC (B6 _ (.inl (aD [.bool false])))
       ·simp only [p7, aj.down]
        refine aW (Gm _ (.inl ?_))
        obtain ⟨cH, sS, h⟩ := aH h
        refine di (as6 a0 a6 _ sS) _ ?_
        refine ws _ ?_
        refine aU h (fun hz h => ?_) (fun hz h => ?_)
        ·simp only [hz, aj.down]
         refine ws _ ?_
         exact aC (sQ _ (.inl (aD [.bool false])))
        ·simp only [hz, aj.down]
         refine aW (sP _ (jP _ (.inl ?_)))
         refine wr _ ?_
         exact hd _ (.inr ⟨_, bs rfl, hf (IntKind.i64.wrap (lZ + 1)) h⟩)
     ·simp only [j5, aj.down]
      refine dY (j4 0 _ (kC 0 _ (dj _ (cE _ (.inl ?_)))))
      refine ws _ ?_
      exact aC (an _ (.inl (aD [.bool true])))
   obtain ⟨n, h⟩ := dR h
   exact dZ (.inr ⟨_, bs rfl, hy n 0 h⟩)
theorem as8 (a0 : Int) (r : Bool) (h : EY a0 = some r) : bh aE 197 [.int .i64 a0] (.bool r) [] := by
 refine bR [0] [.tmp 2] Tryz.func197 ajv (fun bM an bO => ?_)
 refine ws _ ?_
 obtain ⟨af, aQ, h⟩ := aH h
 refine di (Nk a0 _ aQ) _ ?_
 exact aC (an _ (.inl (aD [.bool (!af)])))
theorem as9 (a0 : List Int) (r : Int) (h : EZ a0 = some r) : bh aE 217 [.slice (a0.map bD), .fn 197 []] (.int .i64 r) [] := by
 refine bR [0, 1] [.tmp 4] Tryz.func217 ajG (fun bM an bO => ?_)
 refine ws _ ?_
 refine aJ an (fun et b0 bg ay => ?_)
 refine ws _ ?_
 refine bJ bg (fun eT eL ch bA bW => ?_)
 have hY : ∀ (n : Nat) (b9 : Int), uN a0 n b9 = some r → dE aE Mt eT (aa [(0, .slice (a0.map bD)), (1, .fn 197 []), (7, .int .i64 (a0.length : Int)), (8, .int .i64 b9)]) := by
  intro m6
  induction m6 with
  | zero => intro b9 h; cases (show none = some r from h)
  | succ m6 ho =>
   intro b9 h
   replace h : AX (uN a0 m6) a0 b9 = some r := h
   refine ea ch (fun iX e3 dW cf => ?_)
   refine ws _ ?_
   refine aJ dW (fun gy dn dx cH => ?_)
   refine aU h (fun bQ h => ?_) (fun bQ h => ?_)
   ·simp only [bQ, aj.down]
    refine aW (dn _ (.inl ?_))
    refine aJ dW (fun ev c_ cw dF => ?_)
    refine bJ cw (fun ff cE cx cP da => ?_)
    refine ws _ ?_
    obtain ⟨af, fV, h⟩ := aH h
    obtain ⟨ay, dD, h⟩ := aH h
    refine hX fV (as8 af _ dD) _ ?_
    refine aU h (fun c4 h => ?_) (fun c4 h => ?_)
    ·simp only [c4, aj.down]
     refine ws _ ?_
     exact aC (cx _ (.inl (aD [.int .i64 b9])))
    ·simp only [c4, aj.down]
     refine aW (cE _ (c_ _ (.inl ?_)))
     refine wr _ ?_
     exact e3 _ (.inr ⟨_, bs rfl, ho (IntKind.i64.wrap (b9 + 1)) h⟩)
   ·simp only [bQ, aj.down]
    refine dY (cH 0 _ (cf 0 _ (bA _ (b0 _ (.inl ?_)))))
    refine ws _ ?_
    exact aC (an _ (.inl (aD [.int .i64 (-1)])))
 obtain ⟨n, h⟩ := dR h
 exact dZ (.inr ⟨_, bs rfl, hY n 0 h⟩)
theorem as_ (a0 : List Int) (r : Bool) (h : E0 a0 = some r) : bh aE 149 [.slice (a0.map bD), .fn 197 []] (.bool r) [] := by
 refine bR [0, 1] [.tmp 4] Tryz.func149 ajJ (fun bM an bO => ?_)
 refine ws _ ?_
 obtain ⟨af, aQ, h⟩ := aH h
 refine di (as9 a0 _ aQ) _ ?_
 exact aC (an _ (.inl (aD [.bool (decide (0 ≤ af))])))
theorem Np (a0 : List Int) (r : Bool) (h : xy a0 = some r) : bh aE 129 [.slice (a0.map bD)] (.bool r) [] := by
 refine bR [0] [.tmp 2] Tryz.func129 ajM (fun bM an bO => ?_)
 refine ws _ ?_
 obtain ⟨af, aQ, h⟩ := aH h
 refine di (as_ a0 _ aQ) _ ?_
 exact aC (an _ (.inl (aD [.bool (!af)])))
theorem ata (a0 : List bm) (U : eF) (r : Bool) (h : AY a0 U = some r) : bh aE 291 [.slice (a0.map bq), e7 U] (.bool r) [] := by
 refine bR [0, 1] [.tmp 4] Tryz.func291 ajP (fun bM an bO => ?_)
 refine ws _ ?_
 obtain ⟨af, aQ, h⟩ := aH h
 rcases eZ h with ⟨bA, h⟩ | ⟨bA, h⟩
 ·obtain ⟨ay, cR, h⟩ := aH h
  rcases eZ h with ⟨cL, h⟩ | ⟨cL, h⟩
  ·obtain ⟨a6, bS, h⟩ := aH h
   refine fG rfl (fq [(4, .bool a6)] (fun P ak => ?_) ?_)
   ·simp only [ct.down, simprocAttr, sH.down, bA, cR, cL]
    refine gS (q2 U.dT (a0.length : Int) _ aQ) rfl rfl rfl rfl (.inl (by rfl)) ?_
    simp only [ct.down, simprocAttr, sH.down, bA, cR, cL]
    refine kv (Np U.cX _ bS) rfl rfl rfl rfl (.inl (by rfl)) ?_
    simp only [ct.down, simprocAttr, sH.down, bA, cR, cL]
    refine ⟨fk (by kernel_rfl), ?_⟩
    (try simp only [bn.down, simprocAttr, Fw.down, bA, cR, cL] at ak ⊢); exact ak
   exact aC (an _ (.inl (aD [.bool a6])))
  ·refine fG rfl (fq [(4, .bool false)] (fun P ak => ?_) ?_)
   ·simp only [ct.down, simprocAttr, sH.down, bA, cR, cL]
    refine gS (q2 U.dT (a0.length : Int) _ aQ) rfl rfl rfl rfl (.inl (by rfl)) ?_
    simp only [ct.down, simprocAttr, sH.down, bA, cR, cL]
    refine ⟨fk (by kernel_rfl), ?_⟩
    (try simp only [bn.down, simprocAttr, Fw.down, bA, cR, cL] at ak ⊢); exact ak
   exact aC (an _ (.inl (aD [.bool false])))
 ·refine fG rfl (fq [(4, .bool false)] (fun P ak => ?_) ?_)
  ·simp only [ct.down, simprocAttr, sH.down, bA]
   refine gS (q2 U.dT (a0.length : Int) _ aQ) rfl rfl rfl rfl (.inl (by rfl)) ?_
   simp only [ct.down, simprocAttr, sH.down, bA]
   refine ⟨fk (by kernel_rfl), ?_⟩
   (try simp only [bn.down, simprocAttr, Fw.down, bA] at ak ⊢); exact ak
  exact aC (an _ (.inl (aD [.bool false])))
theorem atb (a0 : eF) (U : dh) (r : Bool) (h : E1 a0 U = some r) : bh aE 290 [e7 a0, .ref (e2 U)] (.bool r) [] := by
 refine bR [0, 1] [.tmp 3] Tryz.func290 ajS (fun bM an bO => ?_)
 refine ws _ ?_
 obtain ⟨af, aQ, h⟩ := aH h
 refine di (ata U.df a0 _ aQ) _ ?_
 exact aC (an _ (.inl (aD [.bool (!af)])))
theorem atc (a0 : List eF) (U : dh) (r : Int) (h : E2 a0 U = some r) : bh aE 312 [.slice (a0.map e7), .fn 290 [.ref (e2 U)]] (.int .i64 r) [] := by
 refine bR [0, 1] [.tmp 4] Tryz.func312 aj3 (fun bM an bO => ?_)
 refine ws _ ?_
 refine aJ an (fun et b0 bg ay => ?_)
 refine ws _ ?_
 refine bJ bg (fun eT eL ch bA bW => ?_)
 have hY : ∀ (n : Nat) (b9 : Int), uO a0 U n b9 = some r → dE aE Mu eT (aa [(0, .slice (a0.map e7)), (1, .fn 290 [.ref (e2 U)]), (7, .int .i64 (a0.length : Int)), (8, .int .i64 b9)]) := by
  intro m6
  induction m6 with
  | zero => intro b9 h; cases (show none = some r from h)
  | succ m6 ho =>
   intro b9 h
   replace h : AZ (uO a0 U m6) a0 U b9 = some r := h
   refine ea ch (fun iX e3 dW cf => ?_)
   refine ws _ ?_
   refine aJ dW (fun gy dn dx cH => ?_)
   refine aU h (fun bQ h => ?_) (fun bQ h => ?_)
   ·simp only [bQ, aj.down]
    refine aW (dn _ (.inl ?_))
    refine aJ dW (fun ev c_ cw dF => ?_)
    refine bJ cw (fun ff cE cx cP da => ?_)
    refine ws _ ?_
    obtain ⟨af, fV, h⟩ := aH h
    obtain ⟨ay, dD, h⟩ := aH h
    refine hX fV (atb af U _ dD) _ ?_
    refine aU h (fun c4 h => ?_) (fun c4 h => ?_)
    ·simp only [c4, aj.down]
     refine ws _ ?_
     exact aC (cx _ (.inl (aD [.int .i64 b9])))
    ·simp only [c4, aj.down]
     refine aW (cE _ (c_ _ (.inl ?_)))
     refine wr _ ?_
     exact e3 _ (.inr ⟨_, bs rfl, ho (IntKind.i64.wrap (b9 + 1)) h⟩)
   ·simp only [bQ, aj.down]
    refine dY (cH 0 _ (cf 0 _ (bA _ (b0 _ (.inl ?_)))))
    refine ws _ ?_
    exact aC (an _ (.inl (aD [.int .i64 (-1)])))
 obtain ⟨n, h⟩ := dR h
 exact dZ (.inr ⟨_, bs rfl, hY n 0 h⟩)
theorem atd (a0 : List eF) (U : dh) (r : Bool) (h : A0 a0 U = some r) : bh aE 289 [.slice (a0.map e7), .fn 290 [.ref (e2 U)]] (.bool r) [] := by
 refine bR [0, 1] [.tmp 4] Tryz.func289 aj6 (fun bM an bO => ?_)
 refine ws _ ?_
 obtain ⟨af, aQ, h⟩ := aH h
 refine di (atc a0 U _ aQ) _ ?_
 exact aC (an _ (.inl (aD [.bool (decide (0 ≤ af))])))
theorem Nq (a0 : List UInt8) (r : Bool) (h : A1 a0 = some r) : bh aE 352 [.str a0] (.bool r) [] := by
 refine bR [0] [.tmp 2] Tryz.func352 aj9 (fun bM an bO => ?_)
 refine ws _ ?_
 refine ws _ ?_
 exact aC (an _ (.inl (aD [.bool false])))
theorem ate (a0 : List UInt8) (U : List UInt8) (r : Int) (h : A2 a0 U = some r) : bh aE 345 [.str a0, .str U] (.int .i64 r) [] := by
 refine bR [0, 1] [.tmp 4] Tryz.func345 aks (fun bM an bO => ?_)
 refine ws _ ?_
 obtain ⟨af, aQ, h⟩ := aH h
 refine di (Nq a0 _ aQ) _ ?_
 obtain ⟨ay, cR, h⟩ := aH h
 refine di (Nq U _ cR) _ ?_
 refine aJ an (fun fz eG dI cO => ?_)
 refine ws _ ?_
 refine aU h (fun bQ h => ?_) (fun bQ h => ?_)
 ·simp only [bQ, aj.down]
  refine aJ dI (fun ev c_ cw dF => ?_)
  refine ws _ ?_
  refine aU h (fun jC h => ?_) (fun jC h => ?_)
  ·simp only [jC, aj.down]
   refine ws _ ?_
   exact aC (cw _ (.inl (aD [.int .i64 0])))
  ·simp only [jC, aj.down]
   refine aW (c_ _ (.inl ?_))
   refine ws _ ?_
   exact aC (dI _ (.inl (aD [.int .i64 (-1)])))
 ·simp only [bQ, aj.down]
  refine aW (eG _ (.inl ?_))
  refine aJ an (fun ib eP eB iE => ?_)
  refine ws _ ?_
  refine aU h (fun j5 h => ?_) (fun j5 h => ?_)
  ·simp only [j5, aj.down]
   refine ws _ ?_
   exact aC (eB _ (.inl (aD [.int .i64 1])))
  ·simp only [j5, aj.down]
   refine aW (eP _ (.inl ?_))
   refine aJ an (fun F_ sP sQ Ga => ?_)
   refine ws _ ?_
   refine aU h (fun dN h => ?_) (fun dN h => ?_)
   ·simp only [dN, aj.down]
    refine ws _ ?_
    exact aC (sQ _ (.inl (aD [.int .i64 (-1)])))
   ·simp only [dN, aj.down]
    refine aW (sP _ (.inl ?_))
    refine aJ an (fun x3 ow ox x4 => ?_)
    refine ws _ ?_
    refine aU h (fun iN h => ?_) (fun iN h => ?_)
    ·simp only [iN, aj.down]
     refine ws _ ?_
     exact aC (ox _ (.inl (aD [.int .i64 1])))
    ·simp only [iN, aj.down]
     refine aW (ow _ (.inl ?_))
     refine ws _ ?_
     exact aC (an _ (.inl (aD [.int .i64 0])))
theorem atf (a0 : List (List UInt8)) (U : List (List UInt8)) (r : Int) (h : A3 a0 U = some r) : bh aE 331 [.slice (a0.map bw), .slice (U.map bw)] (.int .i64 r) [] := by
 refine bR [0, 1] [.tmp 4] Tryz.func331 akL (fun bM an bO => ?_)
 refine ws _ ?_
 refine aJ an (fun et b0 bg ay => ?_)
 refine ws _ ?_
 refine bJ bg (fun eT eL ch bA bW => ?_)
 have hY : ∀ (n : Nat) (mm : Int), xz a0 U n mm = some r → dE aE Mv eT (aa [(0, .slice (a0.map bw)), (1, .slice (U.map bw)), (9, .slice (a0.map bw)), (10, .int .i64 (a0.length : Int)), (11, .int .i64 mm)]) := by
  intro m6
  induction m6 with
  | zero => intro mm h; cases (show none = some r from h)
  | succ m6 ho =>
   intro mm h
   replace h : E3 (xz a0 U m6) a0 U mm = some r := h
   refine ea ch (fun iX e3 dW cf => ?_)
   refine ws _ ?_
   refine aJ dW (fun gy dn dx cH => ?_)
   refine aU h (fun bQ h => ?_) (fun bQ h => ?_)
   ·simp only [bQ, aj.down]
    refine aW (dn _ (.inl ?_))
    refine aJ dW (fun ev c_ cw dF => ?_)
    refine bJ cw (fun ff cE cx cP da => ?_)
    obtain ⟨af, iJ, h⟩ := aH h
    refine hW iJ _ ?_
    refine aJ cx (fun lx hd gF kC => ?_)
    refine ws _ ?_
    refine aU h (fun c4 h => ?_) (fun c4 h => ?_)
    ·simp only [c4, aj.down]
     refine ws _ ?_
     exact aC (gF _ (.inl (aD [.int .i64 1])))
    ·simp only [c4, aj.down]
     refine aW (hd _ (.inl ?_))
     obtain ⟨ay, eK, h⟩ := aH h
     refine hW eK _ ?_
     obtain ⟨a6, ic, h⟩ := aH h
     refine di (ate af ay _ ic) _ ?_
     refine ws _ ?_
     refine aU h (fun ko h => ?_) (fun ko h => ?_)
     ·simp only [ko, aj.down]
      refine ws _ ?_
      exact aC (cx _ (.inl (aD [.int .i64 a6])))
     ·simp only [ko, aj.down]
      refine aW (cE _ (c_ _ (.inl ?_)))
      refine wr _ ?_
      exact e3 _ (.inr ⟨_, bs rfl, ho (IntKind.i64.wrap (mm + 1)) h⟩)
   ·simp only [bQ, aj.down]
    refine dY (cH 0 _ (cf 0 _ (bA _ (b0 _ (.inl ?_)))))
    refine aJ an (fun Nl yd u5 Nn => ?_)
    refine ws _ ?_
    refine aU h (fun j6 h => ?_) (fun j6 h => ?_)
    ·simp only [j6, aj.down]
     refine ws _ ?_
     exact aC (u5 _ (.inl (aD [.int .i64 (-1)])))
    ·simp only [j6, aj.down]
     refine aW (yd _ (.inl ?_))
     refine ws _ ?_
     exact aC (an _ (.inl (aD [.int .i64 0])))
 obtain ⟨n, h⟩ := dR h
 exact dZ (.inr ⟨_, bs rfl, hY n 0 h⟩)
theorem atg (a0 : c2) (U : c2) (r : Int) (h : A4 a0 U = some r) : bh aE 313 [bB a0, bB U] (.int .i64 r) [] := by
 refine bR [0, 1] [.tmp 4] Tryz.func313 akO (fun bM an bO => ?_)
 refine ws _ ?_
 obtain ⟨af, aQ, h⟩ := aH h
 refine dK (cl [(4, .int .i64 af)] (fun P ak => ?_) ?_)
 ·simp only [aZ.down, simprocAttr, ez, kj, lV, bB, bw, (show ∀ s, eD aE s 49 2 [(0, .str a0.Left), (1, .str a0.cp)] = some (.aP 1 [.str a0.Left, .str a0.cp], s) from fun s => by kernel_rfl), (show ∀ s, eD aE s 49 2 [(0, .str U.Left), (1, .str U.cp)] = some (.aP 1 [.str U.Left, .str U.cp], s) from fun s => by kernel_rfl)]
  refine fw (atf [a0.Left, a0.cp] [U.Left, U.cp] _ aQ) rfl rfl (by simp only [aZ.down, simprocAttr, ez, kj, lV, bB, bw, (show ∀ s, eD aE s 49 2 [(0, .str a0.Left), (1, .str a0.cp)] = some (.aP 1 [.str a0.Left, .str a0.cp], s) from fun s => by kernel_rfl), (show ∀ s, eD aE s 49 2 [(0, .str U.Left), (1, .str U.cp)] = some (.aP 1 [.str U.Left, .str U.cp], s) from fun s => by kernel_rfl), kg, kh, ki, ef, I.shares, @cF _ bw bw (fun _ => jf _), @cF _ bw bw (fun _ => jf _)] <;> rfl) rfl (.inr (by rfl)) ?_
  simp only [aZ.down, simprocAttr, ez, kj, lV, bB, bw, (show ∀ s, eD aE s 49 2 [(0, .str a0.Left), (1, .str a0.cp)] = some (.aP 1 [.str a0.Left, .str a0.cp], s) from fun s => by kernel_rfl), (show ∀ s, eD aE s 49 2 [(0, .str U.Left), (1, .str U.cp)] = some (.aP 1 [.str U.Left, .str U.cp], s) from fun s => by kernel_rfl)]
  (try simp only [bn.down, simprocAttr, bB, bw, (show ∀ s, eD aE s 49 2 [(0, .str a0.Left), (1, .str a0.cp)] = some (.aP 1 [.str a0.Left, .str a0.cp], s) from fun s => by kernel_rfl), (show ∀ s, eD aE s 49 2 [(0, .str U.Left), (1, .str U.cp)] = some (.aP 1 [.str U.Left, .str U.cp], s) from fun s => by kernel_rfl)] at ak ⊢); exact ak
 exact aC (an _ (.inl (aD [.int .i64 af])))
theorem ath (a0 : c2) (U : c2) (r : Bool) (h : E4 a0 U = some r) : bh aE 315 [bB a0, .ref (bB U)] (.bool r) [] := by
 refine bR [0, 1] [.tmp 3] Tryz.func315 akR (fun bM an bO => ?_)
 refine ws _ ?_
 refine dK (cl [(3, .bool ((a0.Left == U.Result) || (a0.cp == U.Result)))] (fun P ak => ?_) ?_)
 ·rcases Bool.eq_false_or_eq_true (a0.Left == U.Result) with fb | fb
  ·simp only [aZ.down, simprocAttr, mR.down, fb]
   (try simp only [bn.down, simprocAttr, bB, fb] at ak ⊢); exact ak
  ·simp only [aZ.down, simprocAttr, mR.down, fb]
   (try simp only [bn.down, simprocAttr, bB, fb] at ak ⊢); exact ak
 exact aC (an _ (.inl (aD [.bool ((a0.Left == U.Result) || (a0.cp == U.Result))])))
theorem ati (a0 : List c2) (U : c2) (r : Int) (h : E5 a0 U = some r) : bh aE 332 [.slice (a0.map bB), .fn 315 [.ref (bB U)]] (.int .i64 r) [] := by
 refine bR [0, 1] [.tmp 4] Tryz.func332 ak2 (fun bM an bO => ?_)
 refine ws _ ?_
 refine aJ an (fun et b0 bg ay => ?_)
 refine ws _ ?_
 refine bJ bg (fun eT eL ch bA bW => ?_)
 have hY : ∀ (n : Nat) (b9 : Int), uP a0 U n b9 = some r → dE aE Mw eT (aa [(0, .slice (a0.map bB)), (1, .fn 315 [.ref (bB U)]), (7, .int .i64 (a0.length : Int)), (8, .int .i64 b9)]) := by
  intro m6
  induction m6 with
  | zero => intro b9 h; cases (show none = some r from h)
  | succ m6 ho =>
   intro b9 h
   replace h : A5 (uP a0 U m6) a0 U b9 = some r := h
   refine ea ch (fun iX e3 dW cf => ?_)
   refine ws _ ?_
   refine aJ dW (fun gy dn dx cH => ?_)
   refine aU h (fun bQ h => ?_) (fun bQ h => ?_)
   ·simp only [bQ, aj.down]
    refine aW (dn _ (.inl ?_))
    refine aJ dW (fun ev c_ cw dF => ?_)
    refine bJ cw (fun ff cE cx cP da => ?_)
    refine ws _ ?_
    obtain ⟨af, fV, h⟩ := aH h
    obtain ⟨ay, dD, h⟩ := aH h
    refine hX fV (ath af U _ dD) _ ?_
    refine aU h (fun c4 h => ?_) (fun c4 h => ?_)
    ·simp only [c4, aj.down]
     refine ws _ ?_
     exact aC (cx _ (.inl (aD [.int .i64 b9])))
    ·simp only [c4, aj.down]
     refine aW (cE _ (c_ _ (.inl ?_)))
     refine wr _ ?_
     exact e3 _ (.inr ⟨_, bs rfl, ho (IntKind.i64.wrap (b9 + 1)) h⟩)
   ·simp only [bQ, aj.down]
    refine dY (cH 0 _ (cf 0 _ (bA _ (b0 _ (.inl ?_)))))
    refine ws _ ?_
    exact aC (an _ (.inl (aD [.int .i64 (-1)])))
 obtain ⟨n, h⟩ := dR h
 exact dZ (.inr ⟨_, bs rfl, hY n 0 h⟩)
theorem Nr (a0 : List c2) (U : c2) (r : Bool) (h : xA a0 U = some r) : bh aE 314 [.slice (a0.map bB), .fn 315 [.ref (bB U)]] (.bool r) [] := by
 refine bR [0, 1] [.tmp 4] Tryz.func314 ak5 (fun bM an bO => ?_)
 refine ws _ ?_
 obtain ⟨af, aQ, h⟩ := aH h
 refine di (ati a0 U _ aQ) _ ?_
 exact aC (an _ (.inl (aD [.bool (decide (0 ≤ af))])))
end Go.Proofs.YtgpmnlkgmadglaaGreatDoor
