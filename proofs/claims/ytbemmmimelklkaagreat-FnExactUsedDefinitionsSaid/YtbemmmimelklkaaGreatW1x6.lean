/- Part of a proof that a law returns true for every input. No condition. -/
import Derived.Test.YtbemmmimelklkaaGreatSl
namespace Go.Proofs.YtbemmmimelklkaaGreat
open Go Go.c5 Go.eR
set_option maxRecDepth 100000
set_option maxHeartbeats 4600000
set_option linter.unusedSimpArgs false
set_option linter.unusedVariables false
def j9 := PLift.up (And.intro @ey (And.intro @q9 (And.intro @eU (And.intro @u7 (And.intro @u9 (And.intro @u_ (And.intro @lk (And.intro @F_ (And.intro @nN (And.intro @oC (And.intro @p9 (And.intro @xB (And.intro @jf (And.intro @p_ (And.intro @va (And.intro @vb (And.intro @vc (And.intro @jS (And.intro @lX (And.intro @gP (And.intro @h3 (And.intro @m4 (And.intro @m5 (And.intro @xC (And.intro @q_ (And.intro @lY (And.intro @nO (And.intro @gn (And.intro @ga (And.intro @qa (And.intro @lZ (And.intro @aU.eq_1 (And.intro @ez.eq_1 (And.intro @bB.eq_1 (And.intro @bt.eq_1 (And.intro @cd.eq_1 (And.intro @ep.eq_1 (And.intro @b0.eq_1 (And.intro @dE.eq_1 (And.intro @gf.eq_1 (And.intro @gd.eq_1 (And.intro @fR.eq_1 (And.intro @fH.eq_1 (And.intro @jh.eq_1 (And.intro @ft.eq_1 (And.intro @eC.eq_1 (And.intro @fG.eq_1 (And.intro @bF.eq_1 (And.intro @e0.eq_1 (And.intro @eO.eq_1 (And.intro @fh.eq_1 (And.intro @mF.eq_1 @fl.eq_1))))))))))))))))))))))))))))))))))))))))))))))))))))
theorem ws {Q : Exit → ax → Prop} {l : List (Nat × I)} {ros : List cO} {k : List Nat} {b : J} (ev : List (Nat × I)) (aD : dh aG b Q (aa ev)) (h : ∀ P : List (Nat × I) → Prop, P ev → cE aG (aa l) ros none (fun _ s => P (iP k s)) := by
 intro P aj
 simp only [aT.down, simprocAttr, j9.down]
 (try simp only [bn.down, simprocAttr, j9.down] at aj ⊢)
 exact aj) : dh aG (.seq (.R ros (some k)) b) Q (aa l) :=
 cU (bX ev (h) aD)
theorem dZ {Q : Exit → ax → Prop} {l : List (Nat × I)} {ros : List cO} {k : List Nat} {b : J} {g : FuncId} {ds : List I} {r : I} (ok : aQ aG g ds r []) (ev : List (Nat × I)) (aD : dh aG b Q (aa ev)) (h : aQ aG g ds r [] → ∀ P : List (Nat × I) → Prop, P ev → cE aG (aa l) ros none (fun _ s => P (iP k s)) := by
 intro tf P aj
 (try simp only [aT.down, simprocAttr, j9.down])
 refine e6 tf rfl rfl rfl rfl (.inl (by rfl)) ?_
 simp only [aT.down, simprocAttr, j9.down]
 (try simp only [bn.down, simprocAttr, j9.down] at aj ⊢)
 exact aj) : dh aG (.seq (.R ros (some k)) b) Q (aa l) :=
 cU (bX ev (h ok) aD)
theorem g1 {F : Prop} (bH : F) {Q : Exit → ax → Prop} {l : List (Nat × I)} {ros : List cO} {k : List Nat} {b : J} (ev : List (Nat × I)) (aD : dh aG b Q (aa ev)) (h : F → ∀ P : List (Nat × I) → Prop, P ev → cE aG (aa l) ros none (fun _ s => P (iP k s)) := by
 intro bH P aj
 simp only [aT.down, simprocAttr, j9.down, bH]
 (try simp only [bn.down, simprocAttr, j9.down, bH] at aj ⊢)
 exact aj) : dh aG (.seq (.R ros (some k)) b) Q (aa l) :=
 cU (bX ev (h bH) aD)
theorem iV {F : Prop} (bH : F) {Q : Exit → ax → Prop} {l : List (Nat × I)} {ros : List cO} {k : List Nat} {b : J} {g : FuncId} {ds : List I} {r : I} (ok : aQ aG g ds r []) (ev : List (Nat × I)) (aD : dh aG b Q (aa ev)) (h : aQ aG g ds r [] → F → ∀ P : List (Nat × I) → Prop, P ev → cE aG (aa l) ros none (fun _ s => P (iP k s)) := by
 intro tf bH P aj
 (try simp only [aT.down, simprocAttr, j9.down, bH])
 refine e6 tf rfl rfl rfl rfl (.inl (by rfl)) ?_
 simp only [aT.down, simprocAttr, j9.down, bH]
 (try simp only [bn.down, simprocAttr, j9.down, bH] at aj ⊢)
 exact aj) : dh aG (.seq (.R ros (some k)) b) Q (aa l) :=
 cU (bX ev (h ok bH) aD)
theorem wr {Q : Exit → ax → Prop} {l : List (Nat × I)} {ros : List cO} {k : List Nat} (ev : List (Nat × I)) (aD : Q .normal (aa ev)) (h : ∀ P : List (Nat × I) → Prop, P ev → cE aG (aa l) ros none (fun _ s => P (iP k s)) := by
 intro P aj
 simp only [aT.down, simprocAttr, j9.down]
 (try simp only [bn.down, simprocAttr, j9.down] at aj ⊢)
 exact aj) : dh aG (.R ros (some k)) Q (aa l) :=
 iR (bX ev (h) aD)
theorem arM {Q : Exit → ax → Prop} {l : List (Nat × I)} {ros : List cO} {k : List Nat} {g : FuncId} {ds : List I} {r : I} (ok : aQ aG g ds r []) (ev : List (Nat × I)) (aD : Q .normal (aa ev)) (h : aQ aG g ds r [] → ∀ P : List (Nat × I) → Prop, P ev → cE aG (aa l) ros none (fun _ s => P (iP k s)) := by
 intro tf P aj
 (try simp only [aT.down, simprocAttr, j9.down])
 refine e6 tf rfl rfl rfl rfl (.inl (by rfl)) ?_
 simp only [aT.down, simprocAttr, j9.down]
 (try simp only [bn.down, simprocAttr, j9.down] at aj ⊢)
 exact aj) : dh aG (.R ros (some k)) Q (aa l) :=
 iR (bX ev (h ok) aD)
theorem arN {F : Prop} (bH : F) {Q : Exit → ax → Prop} {l : List (Nat × I)} {ros : List cO} {k : List Nat} (ev : List (Nat × I)) (aD : Q .normal (aa ev)) (h : F → ∀ P : List (Nat × I) → Prop, P ev → cE aG (aa l) ros none (fun _ s => P (iP k s)) := by
 intro bH P aj
 simp only [aT.down, simprocAttr, j9.down, bH]
 (try simp only [bn.down, simprocAttr, j9.down, bH] at aj ⊢)
 exact aj) : dh aG (.R ros (some k)) Q (aa l) :=
 iR (bX ev (h bH) aD)
theorem GO {F : Prop} (bH : F) {Q : Exit → ax → Prop} {l : List (Nat × I)} {ros : List cO} {k : List Nat} {g : FuncId} {ds : List I} {r : I} (ok : aQ aG g ds r []) (ev : List (Nat × I)) (aD : Q .normal (aa ev)) (h : aQ aG g ds r [] → F → ∀ P : List (Nat × I) → Prop, P ev → cE aG (aa l) ros none (fun _ s => P (iP k s)) := by
 intro tf bH P aj
 (try simp only [aT.down, simprocAttr, j9.down, bH])
 refine e6 tf rfl rfl rfl rfl (.inl (by rfl)) ?_
 simp only [aT.down, simprocAttr, j9.down, bH]
 (try simp only [bn.down, simprocAttr, j9.down, bH] at aj ⊢)
 exact aj) : dh aG (.R ros (some k)) Q (aa l) :=
 iR (bX ev (h ok bH) aD)
def g2 := PLift.up (And.intro @eU (And.intro @p9 (And.intro @m5 @bt.eq_1)))
def hU := PLift.up (And.intro @bB.eq_1 (And.intro @cd.eq_1 (And.intro @b0.eq_1 @eC.eq_1)))
def hV := PLift.up (And.intro @aU.eq_1 (And.intro @ez.eq_1 (And.intro @bB.eq_1 (And.intro @bt.eq_1 (And.intro @cd.eq_1 (And.intro @ep.eq_1 (And.intro @b0.eq_1 (And.intro @eC.eq_1 @bF.eq_1))))))))
def iG := PLift.up (And.intro @ey (And.intro @eU (And.intro @nN (And.intro @jS (And.intro @lX (And.intro @gP (And.intro @h3 (And.intro @gn (And.intro @ga (And.intro @bB.eq_1 (And.intro @cd.eq_1 (And.intro @b0.eq_1 @eC.eq_1))))))))))))
def j_ := PLift.up (And.intro @ey (And.intro @eU (And.intro @lk (And.intro @nN (And.intro @oC (And.intro @p9 (And.intro @xB (And.intro @jf (And.intro @jS (And.intro @lX (And.intro @gP (And.intro @h3 (And.intro @m4 (And.intro @m5 (And.intro @gn (And.intro @ga (And.intro @aU.eq_1 (And.intro @bt.eq_1 (And.intro @b0.eq_1 (And.intro @bF.eq_1 (And.intro @e0.eq_1 (And.intro @eO.eq_1 (And.intro @fh.eq_1 @fl.eq_1)))))))))))))))))))))))
def kR := PLift.up (And.intro @ey (And.intro @eU (And.intro @lk (And.intro @nN (And.intro @oC (And.intro @p9 (And.intro @xB (And.intro @jf (And.intro @jS (And.intro @lX (And.intro @gP (And.intro @h3 (And.intro @m4 (And.intro @m5 (And.intro @gn (And.intro @ga (And.intro @aU.eq_1 (And.intro @ez.eq_1 (And.intro @bB.eq_1 (And.intro @bt.eq_1 (And.intro @cd.eq_1 (And.intro @ep.eq_1 (And.intro @b0.eq_1 (And.intro @eC.eq_1 @bF.eq_1))))))))))))))))))))))))
def lF := PLift.up (And.intro @aU.eq_1 (And.intro @gf.eq_1 (And.intro @gd.eq_1 (And.intro @fR.eq_1 (And.intro @fH.eq_1 (And.intro @jh.eq_1 (And.intro @ft.eq_1 (And.intro @fG.eq_1 @bF.eq_1))))))))
def mH := PLift.up (And.intro @cd.eq_1 (And.intro @b0.eq_1 @eC.eq_1))
def nk := PLift.up (And.intro @ey (And.intro @gn (And.intro @ga @b0.eq_1)))
def nm := PLift.up (And.intro @eU (And.intro @m5 @bt.eq_1))
def nn := PLift.up (And.intro @bB.eq_1 (And.intro @cd.eq_1 (And.intro @b0.eq_1 (And.intro @dE.eq_1 @eC.eq_1))))
def np := PLift.up (And.intro @aU.eq_1 (And.intro @bt.eq_1 (And.intro @b0.eq_1 (And.intro @gf.eq_1 (And.intro @gd.eq_1 (And.intro @fR.eq_1 (And.intro @fH.eq_1 (And.intro @jh.eq_1 (And.intro @ft.eq_1 (And.intro @fG.eq_1 (And.intro @bF.eq_1 (And.intro @e0.eq_1 (And.intro @eO.eq_1 (And.intro @fh.eq_1 (And.intro @mF.eq_1 @fl.eq_1)))))))))))))))
def nW := PLift.up (And.intro @ey (And.intro @eU (And.intro @gP (And.intro @h3 (And.intro @gn (And.intro @ga (And.intro @cd.eq_1 (And.intro @b0.eq_1 @eC.eq_1))))))))
def pz := PLift.up (And.intro @ey (And.intro @eU (And.intro @jS (And.intro @lX (And.intro @gP (And.intro @h3 (And.intro @gn (And.intro @ga (And.intro @bB.eq_1 (And.intro @cd.eq_1 (And.intro @b0.eq_1 @eC.eq_1)))))))))))
def pA := PLift.up (And.intro @ey (And.intro @eU (And.intro @nN (And.intro @jS (And.intro @lX (And.intro @gP (And.intro @h3 (And.intro @gn (And.intro @ga (And.intro @bB.eq_1 (And.intro @cd.eq_1 (And.intro @b0.eq_1 (And.intro @dE.eq_1 @eC.eq_1)))))))))))))
def ru := PLift.up (And.intro @ey (And.intro @eU (And.intro @u7 (And.intro @u9 (And.intro @u_ (And.intro @lk (And.intro @F_ (And.intro @jf (And.intro @p_ (And.intro @va (And.intro @vb (And.intro @vc (And.intro @lY (And.intro @nO (And.intro @qa (And.intro @lZ (And.intro @aU.eq_1 (And.intro @bt.eq_1 (And.intro @b0.eq_1 (And.intro @gf.eq_1 (And.intro @gd.eq_1 (And.intro @fR.eq_1 (And.intro @fH.eq_1 (And.intro @jh.eq_1 (And.intro @ft.eq_1 (And.intro @fG.eq_1 (And.intro @bF.eq_1 (And.intro @e0.eq_1 (And.intro @eO.eq_1 (And.intro @fh.eq_1 (And.intro @mF.eq_1 @fl.eq_1)))))))))))))))))))))))))))))))
def tg := PLift.up (And.intro @ey (And.intro @eU (And.intro @nN (And.intro @jf (And.intro @jS (And.intro @lX (And.intro @gP (And.intro @h3 (And.intro @m4 (And.intro @gn (And.intro @ga (And.intro @aU.eq_1 (And.intro @ez.eq_1 (And.intro @bB.eq_1 (And.intro @cd.eq_1 (And.intro @b0.eq_1 @eC.eq_1))))))))))))))))
def th := PLift.up (And.intro @ey (And.intro @eU (And.intro @jS (And.intro @gP (And.intro @h3 (And.intro @gn (And.intro @ga (And.intro @b0.eq_1 (And.intro @fh.eq_1 @fl.eq_1)))))))))
def vI := PLift.up (And.intro @aU.eq_1 (And.intro @cd.eq_1 (And.intro @b0.eq_1 @eC.eq_1)))
def vJ := PLift.up (And.intro @ey (And.intro @eU (And.intro @nN (And.intro @jS (And.intro @lX (And.intro @gP (And.intro @h3 (And.intro @gn (And.intro @ga (And.intro @b0.eq_1 (And.intro @eO.eq_1 (And.intro @fh.eq_1 @fl.eq_1))))))))))))
def vK := PLift.up (And.intro @aU.eq_1 (And.intro @bt.eq_1 (And.intro @b0.eq_1 (And.intro @bF.eq_1 (And.intro @e0.eq_1 (And.intro @eO.eq_1 (And.intro @fh.eq_1 @fl.eq_1)))))))
def vL := PLift.up (And.intro @ey (And.intro @eU (And.intro @lk (And.intro @nN (And.intro @oC (And.intro @p9 (And.intro @xB (And.intro @jf (And.intro @jS (And.intro @lX (And.intro @gP (And.intro @h3 (And.intro @m4 (And.intro @m5 (And.intro @gn (And.intro @ga (And.intro @aU.eq_1 (And.intro @bt.eq_1 (And.intro @b0.eq_1 (And.intro @gf.eq_1 (And.intro @gd.eq_1 (And.intro @fR.eq_1 (And.intro @fH.eq_1 (And.intro @jh.eq_1 (And.intro @ft.eq_1 (And.intro @fG.eq_1 (And.intro @bF.eq_1 (And.intro @e0.eq_1 (And.intro @eO.eq_1 (And.intro @fh.eq_1 (And.intro @mF.eq_1 @fl.eq_1)))))))))))))))))))))))))))))))
def yT := PLift.up (And.intro @ey (And.intro @eU (And.intro @gP (And.intro @h3 (And.intro @gn (And.intro @ga (And.intro @bB.eq_1 (And.intro @cd.eq_1 (And.intro @b0.eq_1 @eC.eq_1)))))))))
def yU := PLift.up (And.intro @cd.eq_1 (And.intro @b0.eq_1 (And.intro @dE.eq_1 @eC.eq_1)))
def C6 := PLift.up (And.intro @ey (And.intro @eU (And.intro @jS (And.intro @gP (And.intro @h3 (And.intro @gn (And.intro @ga (And.intro @cd.eq_1 (And.intro @b0.eq_1 @eC.eq_1)))))))))
def C7 := PLift.up (And.intro @ey (And.intro @jf (And.intro @aU.eq_1 (And.intro @ez.eq_1 (And.intro @bB.eq_1 (And.intro @bt.eq_1 (And.intro @cd.eq_1 (And.intro @ep.eq_1 (And.intro @b0.eq_1 (And.intro @eC.eq_1 @bF.eq_1))))))))))
def C8 := PLift.up (And.intro @ey (And.intro @q9 (And.intro @eU (And.intro @gP (And.intro @h3 (And.intro @q_ (And.intro @gn (And.intro @ga (And.intro @cd.eq_1 (And.intro @b0.eq_1 (And.intro @dE.eq_1 @eC.eq_1)))))))))))
def C9 := PLift.up (And.intro @ey (And.intro @eU (And.intro @gP (And.intro @h3 (And.intro @gn (And.intro @ga (And.intro @bB.eq_1 (And.intro @cd.eq_1 (And.intro @b0.eq_1 (And.intro @dE.eq_1 @eC.eq_1))))))))))
def C_ := PLift.up (And.intro @b0.eq_1 (And.intro @fh.eq_1 @fl.eq_1))
def Da := PLift.up (And.intro @ey (And.intro @oC (And.intro @jf (And.intro @m4 (And.intro @aU.eq_1 @e0.eq_1)))))
def Db := PLift.up (And.intro @ey (And.intro @eU (And.intro @u7 (And.intro @u9 (And.intro @u_ (And.intro @lk (And.intro @F_ (And.intro @nN (And.intro @oC (And.intro @p9 (And.intro @xB (And.intro @jf (And.intro @p_ (And.intro @va (And.intro @vb (And.intro @vc (And.intro @jS (And.intro @lX (And.intro @gP (And.intro @h3 (And.intro @m4 (And.intro @m5 (And.intro @lY (And.intro @nO (And.intro @gn (And.intro @ga (And.intro @qa (And.intro @lZ (And.intro @aU.eq_1 (And.intro @bt.eq_1 (And.intro @b0.eq_1 (And.intro @gf.eq_1 (And.intro @gd.eq_1 (And.intro @fR.eq_1 (And.intro @fH.eq_1 (And.intro @jh.eq_1 (And.intro @ft.eq_1 (And.intro @fG.eq_1 (And.intro @bF.eq_1 (And.intro @e0.eq_1 (And.intro @eO.eq_1 (And.intro @fh.eq_1 (And.intro @mF.eq_1 @fl.eq_1)))))))))))))))))))))))))))))))))))))))))))
def GP := PLift.up (And.intro @ey (And.intro @eU (And.intro @jS (And.intro @gP (And.intro @h3 (And.intro @gn (And.intro @ga (And.intro @aU.eq_1 (And.intro @cd.eq_1 (And.intro @b0.eq_1 @eC.eq_1))))))))))
def GQ := PLift.up (And.intro @ey (And.intro @q9 (And.intro @q_ (And.intro @LD (And.intro @bB.eq_1 (And.intro @cd.eq_1 (And.intro @b0.eq_1 (And.intro @dE.eq_1 @eC.eq_1))))))))
def GR := PLift.up (And.intro @ey (And.intro @q9 (And.intro @eU (And.intro @jS (And.intro @lX (And.intro @gP (And.intro @h3 (And.intro @q_ (And.intro @gn (And.intro @LD (And.intro @ga (And.intro @bB.eq_1 (And.intro @cd.eq_1 (And.intro @b0.eq_1 (And.intro @dE.eq_1 @eC.eq_1)))))))))))))))
def GS := PLift.up (And.intro @ey (And.intro @eU (And.intro @gP (And.intro @h3 (And.intro @gn (And.intro @ga (And.intro @cd.eq_1 (And.intro @b0.eq_1 (And.intro @dE.eq_1 @eC.eq_1)))))))))
def GU := PLift.up (And.intro @aU.eq_1 (And.intro @ez.eq_1 (And.intro @bB.eq_1 (And.intro @cd.eq_1 (And.intro @b0.eq_1 @eC.eq_1)))))
theorem arO (a0 : List gY) (U : Int) (r : Int) (h : xH a0 U = some r) : aQ aG 136 [.slice (a0.map ft), .int .i64 U] (.int .i64 r) [] := by
 refine aQ.b7 (fx := [0]) b8 [.tmp 4] [(0, .slice (a0.map ft)), (1, .int .i64 U)] Tryz.func136 rfl rfl UY (Nat.le_of_ble_eq_true rfl) rfl rfl (fun b1 an b2 => ?_)
 refine ws _ ?_
 refine ws _ ?_
 refine aM (fun jV gE dP a2 => ?_)
 refine ws _ ?_
 rcases aS h with ⟨bO, h⟩ | ⟨bO, h⟩
 ·refine aZ (congrArg I.bool bO) ?_
  simp only [bO, al.down]
  refine ws _ ?_
  exact aJ (dP _ (an _ (.inl (aK [.int .i64 (-1)] rfl (by cases aI h; rfl) (by decide) aO))))
 ·refine a6 (congrArg I.bool bO) ?_
  simp only [bO, al.down]
  refine a_ (gE _ (.inl ?_))
  refine ws _ ?_
  exact aJ (an _ (.inl (aK [.int .i64 (IntKind.i64.wrap (U - (a0.length : Int)))] rfl (by cases aI h; rfl) (by decide) aO)))
theorem arP (a0 : List (List gY)) (U : Int) (r : Int) (h : AW a0 U = some r) : aQ aG 137 [.slice (a0.map fG), .int .i64 U] (.int .i64 r) [] := by
 refine aQ.b7 (fx := [0]) b8 [.tmp 4] [(0, .slice (a0.map fG)), (1, .int .i64 U)] Tryz.func137 rfl rfl Vc (Nat.le_of_ble_eq_true rfl) rfl rfl (fun b1 an b2 => ?_)
 refine ws _ ?_
 refine ws _ ?_
 refine aM (fun jV gE dP a2 => ?_)
 refine ws _ ?_
 rcases aS h with ⟨bO, h⟩ | ⟨bO, h⟩
 ·refine aZ (congrArg I.bool bO) ?_
  simp only [bO, al.down]
  refine ws _ ?_
  exact aJ (dP _ (an _ (.inl (aK [.int .i64 (-1)] rfl (by cases aI h; rfl) (by decide) aO))))
 ·refine a6 (congrArg I.bool bO) ?_
  simp only [bO, al.down]
  refine a_ (gE _ (.inl ?_))
  refine aM (fun g3 dM eM cZ => ?_)
  refine ws _ ?_
  refine bK (fun eG c3 cD dt dQ => ?_)
  have ku : ∀ (n : Nat) (dw : Int) (dp : Int), AV a0 n dw dp = some r → du aG Md eG (aa [(0, .slice (a0.map fG)), (1, .int .i64 dw), (5, .int .i64 dp)]) := by
   intro gF
   induction gF with
   | zero => intro dw dp h; cases (show none = some r from h)
   | succ gF kv =>
    intro dw dp h
    replace h : LF (AV a0 gF) a0 dw dp = some r := h
    refine dH (fun e8 cq cP de => ?_)
    refine aM (fun iW fu il eB => ?_)
    refine ws _ ?_
    rcases aS h with ⟨c0, h⟩ | ⟨c0, h⟩
    ·refine aZ (congrArg I.bool c0) ?_
     simp only [c0, al.down]
     refine a_ (fu _ (.inl ?_))
     refine aM (fun iX fI eS hA => ?_)
     refine bK (fun mI hW hB cu jv => ?_)
     obtain ⟨ag, eT, h⟩ := aL h
     obtain ⟨au, fS, h⟩ := aL h
     refine iV eT (arO ag dw _ fS) _ ?_
     refine ws _ ?_
     rcases aS h with ⟨c7, h⟩ | ⟨c7, h⟩
     ·refine aZ (congrArg I.bool c7) ?_
      simp only [c7, al.down]
      refine ws _ ?_
      exact aJ (hB _ (eS _ (cP _ (cD _ (eM _ (an _ (.inl (aK [.int .i64 (-1)] rfl (by cases aI h; rfl) (by decide) aO))))))))
     ·refine a6 (congrArg I.bool c7) ?_
      simp only [c7, al.down]
      refine a_ (hW _ (fI _ (.inl ?_)))
      refine wr _ ?_
      exact cq _ (.inr ⟨_, br rfl, kv au (IntKind.i64.wrap (dp + 1)) h⟩)
    ·refine a6 (congrArg I.bool c0) ?_
     simp only [c0, al.down]
     refine dL (eB 0 _ (de 0 _ (dt _ (dM _ (.inl ?_)))))
     refine ws _ ?_
     exact aJ (an _ (.inl (aK [.int .i64 dw] rfl (by cases aI h; rfl) (by decide) aO)))
  obtain ⟨n, h⟩ := dx h
  exact dG (.inr ⟨_, br rfl, ku n (IntKind.i64.wrap (U - (a0.length : Int))) 0 h⟩)
theorem arQ (a0 : ij) (U : Int) (r : Int) (h : xI a0 U = some r) : aQ aG 160 [fH a0, .int .i64 U] (.int .i64 r) [] := by
 refine aQ.b7 (fx := [0]) b8 [.tmp 4] [(0, fH a0), (1, .int .i64 U)] Tryz.func160 rfl rfl Vn (Nat.le_of_ble_eq_true rfl) rfl rfl (fun b1 an b2 => ?_)
 refine ws _ ?_
 refine ws _ ?_
 refine aM (fun jV gE dP a2 => ?_)
 refine ws _ ?_
 rcases aS h with ⟨bO, h⟩ | ⟨bO, h⟩
 ·refine aZ (congrArg I.bool bO) ?_
  simp only [bO, al.down]
  refine ws _ ?_
  exact aJ (dP _ (an _ (.inl (aK [.int .i64 (-1)] rfl (by cases aI h; rfl) (by decide) aO))))
 ·refine a6 (congrArg I.bool bO) ?_
  simp only [bO, al.down]
  refine a_ (gE _ (.inl ?_))
  obtain ⟨ag, iB, h⟩ := aL h
  refine dZ (arP a0.cA (IntKind.i64.wrap (U - (a0.Name.length : Int))) _ iB) _ ?_
  refine aM (fun eG c3 cD dQ => ?_)
  refine ws _ ?_
  rcases aS h with ⟨ho, h⟩ | ⟨ho, h⟩
  ·refine aZ (congrArg I.bool ho) ?_
   simp only [ho, al.down]
   refine ws _ ?_
   exact aJ (cD _ (an _ (.inl (aK [.int .i64 (-1)] rfl (by cases aI h; rfl) (by decide) aO))))
  ·refine a6 (congrArg I.bool ho) ?_
   simp only [ho, al.down]
   refine a_ (c3 _ (.inl ?_))
   refine ws _ ?_
   exact aJ (an _ (.inl (aK [.int .i64 ag] rfl (by cases aI h; rfl) (by decide) aO)))
theorem arR (a0 : List ij) (U : Int) (r : Int) (h : AY a0 U = some r) : aQ aG 121 [.slice (a0.map fH), .int .i64 U] (.int .i64 r) [] := by
 refine aQ.b7 (fx := [0]) b8 [.tmp 4] [(0, .slice (a0.map fH)), (1, .int .i64 U)] Tryz.func121 rfl rfl VC (Nat.le_of_ble_eq_true rfl) rfl rfl (fun b1 an b2 => ?_)
 refine ws _ ?_
 refine ws _ ?_
 refine aM (fun jV gE dP a2 => ?_)
 refine ws _ ?_
 rcases aS h with ⟨bO, h⟩ | ⟨bO, h⟩
 ·refine aZ (congrArg I.bool bO) ?_
  simp only [bO, al.down]
  refine ws _ ?_
  exact aJ (dP _ (an _ (.inl (aK [.int .i64 (-1)] rfl (by cases aI h; rfl) (by decide) aO))))
 ·refine a6 (congrArg I.bool bO) ?_
  simp only [bO, al.down]
  refine a_ (gE _ (.inl ?_))
  refine aM (fun g3 dM eM cZ => ?_)
  refine ws _ ?_
  refine bK (fun eG c3 cD dt dQ => ?_)
  have ku : ∀ (n : Nat) (dw : Int) (dp : Int), AX a0 n dw dp = some r → du aG Me eG (aa [(0, .slice (a0.map fH)), (1, .int .i64 dw), (5, .int .i64 dp)]) := by
   intro gF
   induction gF with
   | zero => intro dw dp h; cases (show none = some r from h)
   | succ gF kv =>
    intro dw dp h
    replace h : LG (AX a0 gF) a0 dw dp = some r := h
    refine dH (fun e8 cq cP de => ?_)
    refine aM (fun iW fu il eB => ?_)
    refine ws _ ?_
    rcases aS h with ⟨c0, h⟩ | ⟨c0, h⟩
    ·refine aZ (congrArg I.bool c0) ?_
     simp only [c0, al.down]
     refine a_ (fu _ (.inl ?_))
     refine aM (fun iX fI eS hA => ?_)
     refine bK (fun mI hW hB cu jv => ?_)
     obtain ⟨ag, eT, h⟩ := aL h
     obtain ⟨au, fS, h⟩ := aL h
     refine iV eT (arQ ag dw _ fS) _ ?_
     refine ws _ ?_
     rcases aS h with ⟨c7, h⟩ | ⟨c7, h⟩
     ·refine aZ (congrArg I.bool c7) ?_
      simp only [c7, al.down]
      refine ws _ ?_
      exact aJ (hB _ (eS _ (cP _ (cD _ (eM _ (an _ (.inl (aK [.int .i64 (-1)] rfl (by cases aI h; rfl) (by decide) aO))))))))
     ·refine a6 (congrArg I.bool c7) ?_
      simp only [c7, al.down]
      refine a_ (hW _ (fI _ (.inl ?_)))
      refine wr _ ?_
      exact cq _ (.inr ⟨_, br rfl, kv au (IntKind.i64.wrap (dp + 1)) h⟩)
    ·refine a6 (congrArg I.bool c0) ?_
     simp only [c0, al.down]
     refine dL (eB 0 _ (de 0 _ (dt _ (dM _ (.inl ?_)))))
     refine ws _ ?_
     exact aJ (an _ (.inl (aK [.int .i64 dw] rfl (by cases aI h; rfl) (by decide) aO)))
  obtain ⟨n, h⟩ := dx h
  exact dG (.inr ⟨_, br rfl, ku n (IntKind.i64.wrap (U - (a0.length : Int))) 0 h⟩)
theorem arS (a0 : h4) (U : Int) (r : Int) (h : xJ a0 U = some r) : aQ aG 72 [gd a0, .int .i64 U] (.int .i64 r) [] := by
 refine aQ.b7 (fx := [0]) b8 [.tmp 4] [(0, gd a0), (1, .int .i64 U)] Tryz.func72 rfl rfl VN (Nat.le_of_ble_eq_true rfl) rfl rfl (fun b1 an b2 => ?_)
 refine ws _ ?_
 refine ws _ ?_
 refine aM (fun jV gE dP a2 => ?_)
 refine ws _ ?_
 rcases aS h with ⟨bO, h⟩ | ⟨bO, h⟩
 ·refine aZ (congrArg I.bool bO) ?_
  simp only [bO, al.down]
  refine ws _ ?_
  exact aJ (dP _ (an _ (.inl (aK [.int .i64 (-1)] rfl (by cases aI h; rfl) (by decide) aO))))
 ·refine a6 (congrArg I.bool bO) ?_
  simp only [bO, al.down]
  refine a_ (gE _ (.inl ?_))
  obtain ⟨ag, iB, h⟩ := aL h
  refine dZ (arR a0.Body (IntKind.i64.wrap (U - (a0.Name.length : Int))) _ iB) _ ?_
  refine aM (fun eG c3 cD dQ => ?_)
  refine ws _ ?_
  rcases aS h with ⟨ho, h⟩ | ⟨ho, h⟩
  ·refine aZ (congrArg I.bool ho) ?_
   simp only [ho, al.down]
   refine ws _ ?_
   exact aJ (cD _ (an _ (.inl (aK [.int .i64 (-1)] rfl (by cases aI h; rfl) (by decide) aO))))
  ·refine a6 (congrArg I.bool ho) ?_
   simp only [ho, al.down]
   refine a_ (c3 _ (.inl ?_))
   refine ws _ ?_
   exact aJ (an _ (.inl (aK [.int .i64 ag] rfl (by cases aI h; rfl) (by decide) aO)))
theorem arT (a0 : List h4) (U : Int) (r : Int) (h : xK a0 U = some r) : aQ aG 33 [.slice (a0.map gd), .int .i64 U] (.int .i64 r) [] := by
 refine aQ.b7 (fx := [0]) b8 [.tmp 4] [(0, .slice (a0.map gd)), (1, .int .i64 U)] Tryz.func33 rfl rfl yO (Nat.le_of_ble_eq_true rfl) rfl rfl (fun b1 an b2 => ?_)
 refine ws _ ?_
 refine ws _ ?_
 refine aM (fun jV gE dP a2 => ?_)
 refine ws _ ?_
 rcases aS h with ⟨bO, h⟩ | ⟨bO, h⟩
 ·refine aZ (congrArg I.bool bO) ?_
  simp only [bO, al.down]
  refine ws _ ?_
  exact aJ (dP _ (an _ (.inl (aK [.int .i64 (-1)] rfl (by cases aI h; rfl) (by decide) aO))))
 ·refine a6 (congrArg I.bool bO) ?_
  simp only [bO, al.down]
  refine a_ (gE _ (.inl ?_))
  refine aM (fun g3 dM eM cZ => ?_)
  refine ws _ ?_
  refine bK (fun eG c3 cD dt dQ => ?_)
  have ku : ∀ (n : Nat) (dw : Int) (dp : Int), AZ a0 n dw dp = some r → du aG Mf eG (aa [(0, .slice (a0.map gd)), (1, .int .i64 dw), (5, .int .i64 dp)]) := by
   intro gF
   induction gF with
   | zero => intro dw dp h; cases (show none = some r from h)
   | succ gF kv =>
    intro dw dp h
    replace h : LH (AZ a0 gF) a0 dw dp = some r := h
    refine dH (fun e8 cq cP de => ?_)
    refine aM (fun iW fu il eB => ?_)
    refine ws _ ?_
    rcases aS h with ⟨c0, h⟩ | ⟨c0, h⟩
    ·refine aZ (congrArg I.bool c0) ?_
     simp only [c0, al.down]
     refine a_ (fu _ (.inl ?_))
     refine aM (fun iX fI eS hA => ?_)
     refine bK (fun mI hW hB cu jv => ?_)
     obtain ⟨ag, eT, h⟩ := aL h
     obtain ⟨au, fS, h⟩ := aL h
     refine iV eT (arS ag dw _ fS) _ ?_
     refine ws _ ?_
     rcases aS h with ⟨c7, h⟩ | ⟨c7, h⟩
     ·refine aZ (congrArg I.bool c7) ?_
      simp only [c7, al.down]
      refine ws _ ?_
      exact aJ (hB _ (eS _ (cP _ (cD _ (eM _ (an _ (.inl (aK [.int .i64 (-1)] rfl (by cases aI h; rfl) (by decide) aO))))))))
     ·refine a6 (congrArg I.bool c7) ?_
      simp only [c7, al.down]
      refine a_ (hW _ (fI _ (.inl ?_)))
      refine wr _ ?_
      exact cq _ (.inr ⟨_, br rfl, kv au (IntKind.i64.wrap (dp + 1)) h⟩)
    ·refine a6 (congrArg I.bool c0) ?_
     simp only [c0, al.down]
     refine dL (eB 0 _ (de 0 _ (dt _ (dM _ (.inl ?_)))))
     refine ws _ ?_
     exact aJ (an _ (.inl (aK [.int .i64 dw] rfl (by cases aI h; rfl) (by decide) aO)))
  obtain ⟨n, h⟩ := dx h
  exact dG (.inr ⟨_, br rfl, ku n (IntKind.i64.wrap (U - (a0.length : Int))) 0 h⟩)
theorem arU (a0 : List Int) (U : Int) (r : Int) (h : A0 a0 U = some r) : aQ aG 53 [.slice (a0.map aU), .int .i64 U] (.int .i64 r) [] := by
 refine aQ.b7 (fx := [0]) b8 [.tmp 4] [(0, .slice (a0.map aU)), (1, .int .i64 U)] Tryz.func53 rfl rfl yP (Nat.le_of_ble_eq_true rfl) rfl rfl (fun b1 an b2 => ?_)
 refine ws _ ?_
 refine ws _ ?_
 refine aM (fun jV gE dP a2 => ?_)
 refine ws _ ?_
 rcases aS h with ⟨bO, h⟩ | ⟨bO, h⟩
 ·refine aZ (congrArg I.bool bO) ?_
  simp only [bO, al.down]
  refine ws _ ?_
  exact aJ (dP _ (an _ (.inl (aK [.int .i64 (-1)] rfl (by cases aI h; rfl) (by decide) aO))))
 ·refine a6 (congrArg I.bool bO) ?_
  simp only [bO, al.down]
  refine a_ (gE _ (.inl ?_))
  refine ws _ ?_
  exact aJ (an _ (.inl (aK [.int .i64 (IntKind.i64.wrap (U - (a0.length : Int)))] rfl (by cases aI h; rfl) (by decide) aO)))
theorem arV (a0 : ik) (U : Int) (r : Int) (h : xL a0 U = some r) : aQ aG 73 [gf a0, .int .i64 U] (.int .i64 r) [] := by
 refine aQ.b7 (fx := [0]) b8 [.tmp 4] [(0, gf a0), (1, .int .i64 U)] Tryz.func73 rfl rfl Wd (Nat.le_of_ble_eq_true rfl) rfl rfl (fun b1 an b2 => ?_)
 refine ws _ ?_
 obtain ⟨ag, a8, h⟩ := aL h
 refine dZ (arU a0.fq U _ a8) _ ?_
 refine aM (fun ed dW cj bj => ?_)
 refine ws _ ?_
 rcases aS h with ⟨cM, h⟩ | ⟨cM, h⟩
 ·refine aZ (congrArg I.bool cM) ?_
  simp only [cM, al.down]
  refine ws _ ?_
  exact aJ (cj _ (an _ (.inl (aK [.int .i64 (-1)] rfl (by cases aI h; rfl) (by decide) aO))))
 ·refine a6 (congrArg I.bool cM) ?_
  simp only [cM, al.down]
  refine a_ (dW _ (.inl ?_))
  refine ws _ ?_
  exact aJ (an _ (.inl (aK [.int .i64 ag] rfl (by cases aI h; rfl) (by decide) aO)))
theorem arW (a0 : List ik) (U : Int) (r : Int) (h : A2 a0 U = some r) : aQ aG 34 [.slice (a0.map gf), .int .i64 U] (.int .i64 r) [] := by
 refine aQ.b7 (fx := [0]) b8 [.tmp 4] [(0, .slice (a0.map gf)), (1, .int .i64 U)] Tryz.func34 rfl rfl yQ (Nat.le_of_ble_eq_true rfl) rfl rfl (fun b1 an b2 => ?_)
 refine ws _ ?_
 refine ws _ ?_
 refine aM (fun jV gE dP a2 => ?_)
 refine ws _ ?_
 rcases aS h with ⟨bO, h⟩ | ⟨bO, h⟩
 ·refine aZ (congrArg I.bool bO) ?_
  simp only [bO, al.down]
  refine ws _ ?_
  exact aJ (dP _ (an _ (.inl (aK [.int .i64 (-1)] rfl (by cases aI h; rfl) (by decide) aO))))
 ·refine a6 (congrArg I.bool bO) ?_
  simp only [bO, al.down]
  refine a_ (gE _ (.inl ?_))
  refine aM (fun g3 dM eM cZ => ?_)
  refine ws _ ?_
  refine bK (fun eG c3 cD dt dQ => ?_)
  have ku : ∀ (n : Nat) (dw : Int) (dp : Int), A1 a0 n dw dp = some r → du aG Mg eG (aa [(0, .slice (a0.map gf)), (1, .int .i64 dw), (5, .int .i64 dp)]) := by
   intro gF
   induction gF with
   | zero => intro dw dp h; cases (show none = some r from h)
   | succ gF kv =>
    intro dw dp h
    replace h : LI (A1 a0 gF) a0 dw dp = some r := h
    refine dH (fun e8 cq cP de => ?_)
    refine aM (fun iW fu il eB => ?_)
    refine ws _ ?_
    rcases aS h with ⟨c0, h⟩ | ⟨c0, h⟩
    ·refine aZ (congrArg I.bool c0) ?_
     simp only [c0, al.down]
     refine a_ (fu _ (.inl ?_))
     refine aM (fun iX fI eS hA => ?_)
     refine bK (fun mI hW hB cu jv => ?_)
     obtain ⟨ag, eT, h⟩ := aL h
     obtain ⟨au, fS, h⟩ := aL h
     refine iV eT (arV ag dw _ fS) _ ?_
     refine ws _ ?_
     rcases aS h with ⟨c7, h⟩ | ⟨c7, h⟩
     ·refine aZ (congrArg I.bool c7) ?_
      simp only [c7, al.down]
      refine ws _ ?_
      exact aJ (hB _ (eS _ (cP _ (cD _ (eM _ (an _ (.inl (aK [.int .i64 (-1)] rfl (by cases aI h; rfl) (by decide) aO))))))))
     ·refine a6 (congrArg I.bool c7) ?_
      simp only [c7, al.down]
      refine a_ (hW _ (fI _ (.inl ?_)))
      refine wr _ ?_
      exact cq _ (.inr ⟨_, br rfl, kv au (IntKind.i64.wrap (dp + 1)) h⟩)
    ·refine a6 (congrArg I.bool c0) ?_
     simp only [c0, al.down]
     refine dL (eB 0 _ (de 0 _ (dt _ (dM _ (.inl ?_)))))
     refine ws _ ?_
     exact aJ (an _ (.inl (aK [.int .i64 dw] rfl (by cases aI h; rfl) (by decide) aO)))
  obtain ⟨n, h⟩ := dx h
  exact dG (.inr ⟨_, br rfl, ku n (IntKind.i64.wrap (U - (a0.length : Int))) 0 h⟩)
theorem arX (a0 : h5) (U : Int) (r : Int) (h : xM a0 U = some r) : aQ aG 74 [fR a0, .int .i64 U] (.int .i64 r) [] := by
 refine aQ.b7 (fx := [0]) b8 [.tmp 4] [(0, fR a0), (1, .int .i64 U)] Tryz.func74 rfl rfl WH (Nat.le_of_ble_eq_true rfl) rfl rfl (fun b1 an b2 => ?_)
 refine ws _ ?_
 refine ws _ ?_
 refine aM (fun jV gE dP a2 => ?_)
 refine ws _ ?_
 rcases aS h with ⟨bO, h⟩ | ⟨bO, h⟩
 ·refine aZ (congrArg I.bool bO) ?_
  simp only [bO, al.down]
  refine ws _ ?_
  exact aJ (dP _ (an _ (.inl (aK [.int .i64 (-1)] rfl (by cases aI h; rfl) (by decide) aO))))
 ·refine a6 (congrArg I.bool bO) ?_
  simp only [bO, al.down]
  refine a_ (gE _ (.inl ?_))
  refine ws _ ?_
  refine aM (fun hC g9 gv e7 => ?_)
  refine ws _ ?_
  rcases aS h with ⟨b5, h⟩ | ⟨b5, h⟩
  ·refine aZ (congrArg I.bool b5) ?_
   simp only [b5, al.down]
   refine ws _ ?_
   exact aJ (gv _ (an _ (.inl (aK [.int .i64 (-1)] rfl (by cases aI h; rfl) (by decide) aO))))
  ·refine a6 (congrArg I.bool b5) ?_
   simp only [b5, al.down]
   refine a_ (g9 _ (.inl ?_))
   refine ws _ ?_
   refine aM (fun lG gL gw ju => ?_)
   refine ws _ ?_
   rcases aS h with ⟨cu, h⟩ | ⟨cu, h⟩
   ·refine aZ (congrArg I.bool cu) ?_
    simp only [cu, al.down]
    refine ws _ ?_
    exact aJ (gw _ (an _ (.inl (aK [.int .i64 (-1)] rfl (by cases aI h; rfl) (by decide) aO))))
   ·refine a6 (congrArg I.bool cu) ?_
    simp only [cu, al.down]
    refine a_ (gL _ (.inl ?_))
    refine ws _ ?_
    exact aJ (an _ (.inl (aK [.int .i64 (IntKind.i64.wrap ((IntKind.i64.wrap ((IntKind.i64.wrap (U - (a0.Left.length : Int))) - (a0.ch.length : Int))) - (a0.Result.length : Int)))] rfl (by cases aI h; rfl) (by decide) aO)))
theorem arY (a0 : List h5) (U : Int) (r : Int) (h : A4 a0 U = some r) : aQ aG 35 [.slice (a0.map fR), .int .i64 U] (.int .i64 r) [] := by
 refine aQ.b7 (fx := [0]) b8 [.tmp 4] [(0, .slice (a0.map fR)), (1, .int .i64 U)] Tryz.func35 rfl rfl WX (Nat.le_of_ble_eq_true rfl) rfl rfl (fun b1 an b2 => ?_)
 refine ws _ ?_
 refine ws _ ?_
 refine aM (fun jV gE dP a2 => ?_)
 refine ws _ ?_
 rcases aS h with ⟨bO, h⟩ | ⟨bO, h⟩
 ·refine aZ (congrArg I.bool bO) ?_
  simp only [bO, al.down]
  refine ws _ ?_
  exact aJ (dP _ (an _ (.inl (aK [.int .i64 (-1)] rfl (by cases aI h; rfl) (by decide) aO))))
 ·refine a6 (congrArg I.bool bO) ?_
  simp only [bO, al.down]
  refine a_ (gE _ (.inl ?_))
  refine aM (fun g3 dM eM cZ => ?_)
  refine ws _ ?_
  refine bK (fun eG c3 cD dt dQ => ?_)
  have ku : ∀ (n : Nat) (dw : Int) (dp : Int), A3 a0 n dw dp = some r → du aG Mh eG (aa [(0, .slice (a0.map fR)), (1, .int .i64 dw), (5, .int .i64 dp)]) := by
   intro gF
   induction gF with
   | zero => intro dw dp h; cases (show none = some r from h)
   | succ gF kv =>
    intro dw dp h
    replace h : LJ (A3 a0 gF) a0 dw dp = some r := h
    refine dH (fun e8 cq cP de => ?_)
    refine aM (fun iW fu il eB => ?_)
    refine ws _ ?_
    rcases aS h with ⟨c0, h⟩ | ⟨c0, h⟩
    ·refine aZ (congrArg I.bool c0) ?_
     simp only [c0, al.down]
     refine a_ (fu _ (.inl ?_))
     refine aM (fun iX fI eS hA => ?_)
     refine bK (fun mI hW hB cu jv => ?_)
     obtain ⟨ag, eT, h⟩ := aL h
     obtain ⟨au, fS, h⟩ := aL h
     refine iV eT (arX ag dw _ fS) _ ?_
     refine ws _ ?_
     rcases aS h with ⟨c7, h⟩ | ⟨c7, h⟩
     ·refine aZ (congrArg I.bool c7) ?_
      simp only [c7, al.down]
      refine ws _ ?_
      exact aJ (hB _ (eS _ (cP _ (cD _ (eM _ (an _ (.inl (aK [.int .i64 (-1)] rfl (by cases aI h; rfl) (by decide) aO))))))))
     ·refine a6 (congrArg I.bool c7) ?_
      simp only [c7, al.down]
      refine a_ (hW _ (fI _ (.inl ?_)))
      refine wr _ ?_
      exact cq _ (.inr ⟨_, br rfl, kv au (IntKind.i64.wrap (dp + 1)) h⟩)
    ·refine a6 (congrArg I.bool c0) ?_
     simp only [c0, al.down]
     refine dL (eB 0 _ (de 0 _ (dt _ (dM _ (.inl ?_)))))
     refine ws _ ?_
     exact aJ (an _ (.inl (aK [.int .i64 dw] rfl (by cases aI h; rfl) (by decide) aO)))
  obtain ⟨n, h⟩ := dx h
  exact dG (.inr ⟨_, br rfl, ku n (IntKind.i64.wrap (U - (a0.length : Int))) 0 h⟩)
theorem NK (a0 : List (List UInt8)) (U : Int) (r : Int) (h : xN a0 U = some r) : aQ aG 36 [.slice (a0.map bF), .int .i64 U] (.int .i64 r) [] := by
 refine aQ.b7 (fx := [0]) b8 [.tmp 4] [(0, .slice (a0.map bF)), (1, .int .i64 U)] Tryz.func36 rfl rfl oH (Nat.le_of_ble_eq_true rfl) rfl rfl (fun b1 an b2 => ?_)
 refine ws _ ?_
 refine ws _ ?_
 refine aM (fun jV gE dP a2 => ?_)
 refine ws _ ?_
 rcases aS h with ⟨bO, h⟩ | ⟨bO, h⟩
 ·refine aZ (congrArg I.bool bO) ?_
  simp only [bO, al.down]
  refine ws _ ?_
  exact aJ (dP _ (an _ (.inl (aK [.int .i64 (-1)] rfl (by cases aI h; rfl) (by decide) aO))))
 ·refine a6 (congrArg I.bool bO) ?_
  simp only [bO, al.down]
  refine a_ (gE _ (.inl ?_))
  refine aM (fun g3 dM eM cZ => ?_)
  refine ws _ ?_
  refine bK (fun eG c3 cD dt dQ => ?_)
  have ku : ∀ (n : Nat) (dw : Int) (dp : Int), A5 a0 n dw dp = some r → du aG Mi eG (aa [(0, .slice (a0.map bF)), (1, .int .i64 dw), (5, .int .i64 dp)]) := by
   intro gF
   induction gF with
   | zero => intro dw dp h; cases (show none = some r from h)
   | succ gF kv =>
    intro dw dp h
    replace h : LK (A5 a0 gF) a0 dw dp = some r := h
    refine dH (fun e8 cq cP de => ?_)
    refine aM (fun iW fu il eB => ?_)
    refine ws _ ?_
    rcases aS h with ⟨c0, h⟩ | ⟨c0, h⟩
    ·refine aZ (congrArg I.bool c0) ?_
     simp only [c0, al.down]
     refine a_ (fu _ (.inl ?_))
     refine aM (fun iX fI eS hA => ?_)
     refine bK (fun mI hW hB cu jv => ?_)
     obtain ⟨ag, eT, h⟩ := aL h
     refine g1 eT _ ?_
     refine ws _ ?_
     rcases aS h with ⟨en, h⟩ | ⟨en, h⟩
     ·refine aZ (congrArg I.bool en) ?_
      simp only [en, al.down]
      refine ws _ ?_
      exact aJ (hB _ (eS _ (cP _ (cD _ (eM _ (an _ (.inl (aK [.int .i64 (-1)] rfl (by cases aI h; rfl) (by decide) aO))))))))
     ·refine a6 (congrArg I.bool en) ?_
      simp only [en, al.down]
      refine a_ (hW _ (fI _ (.inl ?_)))
      refine wr _ ?_
      exact cq _ (.inr ⟨_, br rfl, kv (IntKind.i64.wrap (dw - (ag.length : Int))) (IntKind.i64.wrap (dp + 1)) h⟩)
    ·refine a6 (congrArg I.bool c0) ?_
     simp only [c0, al.down]
     refine dL (eB 0 _ (de 0 _ (dt _ (dM _ (.inl ?_)))))
     refine ws _ ?_
     exact aJ (an _ (.inl (aK [.int .i64 dw] rfl (by cases aI h; rfl) (by decide) aO)))
  obtain ⟨n, h⟩ := dx h
  exact dG (.inr ⟨_, br rfl, ku n (IntKind.i64.wrap (U - (a0.length : Int))) 0 h⟩)
theorem arZ (a0 : kn) (U : Int) (r : Int) (h : xO a0 U = some r) : aQ aG 7 [jh a0, .int .i64 U] (.int .i64 r) [] := by
 refine aQ.b7 (fx := [0]) b8 [.tmp 4] [(0, jh a0), (1, .int .i64 U)] Tryz.func7 rfl rfl Xw (Nat.le_of_ble_eq_true rfl) rfl rfl (fun b1 an b2 => ?_)
 refine ws _ ?_
 obtain ⟨ag, a8, h⟩ := aL h
 refine dZ (arT a0.b3 U _ a8) _ ?_
 refine aM (fun ed dW cj bj => ?_)
 refine ws _ ?_
 rcases aS h with ⟨cM, h⟩ | ⟨cM, h⟩
 ·refine aZ (congrArg I.bool cM) ?_
  simp only [cM, al.down]
  refine ws _ ?_
  exact aJ (cj _ (an _ (.inl (aK [.int .i64 (-1)] rfl (by cases aI h; rfl) (by decide) aO))))
 ·refine a6 (congrArg I.bool cM) ?_
  simp only [cM, al.down]
  refine a_ (dW _ (.inl ?_))
  obtain ⟨au, kG, h⟩ := aL h
  refine dZ (arW a0.cn ag _ kG) _ ?_
  refine aM (fun e8 cq cP de => ?_)
  refine ws _ ?_
  rcases aS h with ⟨cT, h⟩ | ⟨cT, h⟩
  ·refine aZ (congrArg I.bool cT) ?_
   simp only [cT, al.down]
   refine ws _ ?_
   exact aJ (cP _ (an _ (.inl (aK [.int .i64 (-1)] rfl (by cases aI h; rfl) (by decide) aO))))
  ·refine a6 (congrArg I.bool cT) ?_
   simp only [cT, al.down]
   refine a_ (cq _ (.inl ?_))
   obtain ⟨a2, e1, h⟩ := aL h
   refine dZ (arY a0.g7 au _ e1) _ ?_
   refine aM (fun oJ ka jw l7 => ?_)
   refine ws _ ?_
   rcases aS h with ⟨eg, h⟩ | ⟨eg, h⟩
   ·refine aZ (congrArg I.bool eg) ?_
    simp only [eg, al.down]
    refine ws _ ?_
    exact aJ (jw _ (an _ (.inl (aK [.int .i64 (-1)] rfl (by cases aI h; rfl) (by decide) aO))))
   ·refine a6 (congrArg I.bool eg) ?_
    simp only [eg, al.down]
    refine a_ (ka _ (.inl ?_))
    obtain ⟨bj, nX, h⟩ := aL h
    refine dZ (NK a0.gZ a2 _ nX) _ ?_
    refine aM (fun vM nq mJ vN => ?_)
    refine ws _ ?_
    rcases aS h with ⟨gG, h⟩ | ⟨gG, h⟩
    ·refine aZ (congrArg I.bool gG) ?_
     simp only [gG, al.down]
     refine ws _ ?_
     exact aJ (mJ _ (an _ (.inl (aK [.int .i64 (-1)] rfl (by cases aI h; rfl) (by decide) aO))))
    ·refine a6 (congrArg I.bool gG) ?_
     simp only [gG, al.down]
     refine a_ (nq _ (.inl ?_))
     obtain ⟨bp, nY, h⟩ := aL h
     refine dZ (NK a0.g0 bj _ nY) _ ?_
     refine aM (fun NL yV GV GW => ?_)
     refine ws _ ?_
     rcases aS h with ⟨gl, h⟩ | ⟨gl, h⟩
     ·refine aZ (congrArg I.bool gl) ?_
      simp only [gl, al.down]
      refine ws _ ?_
      exact aJ (GV _ (an _ (.inl (aK [.int .i64 (-1)] rfl (by cases aI h; rfl) (by decide) aO))))
     ·refine a6 (congrArg I.bool gl) ?_
      simp only [gl, al.down]
      refine a_ (yV _ (.inl ?_))
      refine ws _ ?_
      exact aJ (an _ (.inl (aK [.int .i64 bp] rfl (by cases aI h; rfl) (by decide) aO)))
theorem ar0 (a0 : gY) (r : bW) (h : xP a0 = some r) : aQ aG 177 [ft a0] (b0 r) [] := by
 refine aQ.b7 (fx := [0]) b8 [.cell 2 191] [(0, ft a0)] Tryz.func177 rfl rfl XC (Nat.le_of_ble_eq_true rfl) rfl rfl (fun b1 an b2 => ?_)
 refine ws _ ?_
 refine ws _ ?_
 refine ws _ ?_
 refine ws _ ?_
 refine ws _ ?_
 exact aJ (an _ (.inl (aK [b0 (bW.mk a0.Kind a0.Value)] rfl (by cases aI h; rfl) (by decide) aO)))
theorem ar1 (a0 : List gY) (r : (List bW)) (h : xQ a0 = some r) : aQ aG 144 [.slice (a0.map ft)] (.ar 2 (r.map b0)) [] := by
 refine aQ.b7 (fx := [0]) b8 [.tmp 2] [(0, .slice (a0.map ft))] Tryz.func144 rfl rfl XL (Nat.le_of_ble_eq_true rfl) rfl rfl (fun b1 an b2 => ?_)
 refine ws _ ?_
 obtain ⟨ti, a8, h⟩ := aL h
 refine cU (bX [(0, .slice (a0.map ft)), (3, .ar 2 ((List.replicate (Int.toNat (a0.length : Int)) (bW.mk 0 0)).map b0))] (fun P aj => ?_) ?_)
 ·simp only [aT.down, simprocAttr, ey, lY, gn, ga, lZ, b0, ft, (e3 a8).1, (e3 a8).2.1, (e3 a8).2.2, eX, List.map_replicate, -Int.reduceNatCast']
  (try simp only [bn.down, simprocAttr, b0, ft, (e3 a8).1, (e3 a8).2.1, (e3 a8).2.2, eX, List.map_replicate, -Int.reduceNatCast'] at aj ⊢); exact aj
 refine aM (fun ed dW cj bj => ?_)
 refine ws [(0, .slice (a0.map ft)), (3, .ar 2 ((List.replicate (Int.toNat (a0.length : Int)) (bW.mk 0 0)).map b0)), (4, .int .i64 0)] ?_
 refine bK (fun e_ dN dX cM bU => ?_)
 have iY : ∀ (n : Nat) (bA : List bW) (bx : Int), A6 a0 n bA bx = some r → du aG Mj e_ (aa [(0, .slice (a0.map ft)), (3, .ar 2 (bA.map b0)), (4, .int .i64 bx)]) := by
  intro eK
  induction eK with
  | zero => intro bA bx h; cases (show none = some r from h)
  | succ eK iZ =>
   intro bA bx h
   replace h : LL (A6 a0 eK) a0 bA bx = some r := h
   refine dH (fun g3 dM eM cZ => ?_)
   refine aM (fun hC g9 gv e7 => ?_)
   refine ws _ ?_
   rcases aS h with ⟨b5, h⟩ | ⟨b5, h⟩
   ·refine aZ (congrArg I.bool b5) ?_
    simp only [b5, al.down]
    refine a_ (g9 _ (.inl ?_))
    refine aM (fun iW fu il eB => ?_)
    refine bK (fun ji gg h6 cT iv => ?_)
    obtain ⟨ag, er, h⟩ := aL h
    obtain ⟨au, e1, h⟩ := aL h
    obtain ⟨a2, cV, h⟩ := aL h
    refine iR (bX [(0, .slice (a0.map ft)), (3, .ar 2 ((List.set bA (Int.toNat bx) au).map b0)), (4, .int .i64 bx)] (fun P aj => ?_) ?_)
    ·simp only [aT.down, simprocAttr, ey, lY, gn, ga, lZ, b0, ft, er, cV, c8 cV, eZ, el]
     refine e6 (ar0 ag _ e1) rfl rfl rfl rfl (.inl (by rfl)) ?_
     simp only [aT.down, simprocAttr, ey, lY, gn, ga, lZ, b0, ft, er, cV, c8 cV, eZ, el]
     (try simp only [bn.down, simprocAttr, b0, ft, er, cV, c8 cV, eZ, el] at aj ⊢); exact aj
    refine gg _ (fu _ (.inl ?_))
    refine wr [(0, .slice (a0.map ft)), (3, .ar 2 ((List.set bA (Int.toNat bx) au).map b0)), (4, .int .i64 (IntKind.i64.wrap (bx + 1)))] ?_
    exact dM _ (.inr ⟨_, br rfl, iZ (List.set bA (Int.toNat bx) au) (IntKind.i64.wrap (bx + 1)) h⟩)
   ·refine a6 (congrArg I.bool b5) ?_
    simp only [b5, al.down]
    refine dL (e7 0 _ (cZ 0 _ (cM _ (dW _ (.inl ?_)))))
    refine ws _ ?_
    exact aJ (an _ (.inl (aK [.ar 2 (bA.map b0)] rfl (by cases aI h; rfl) (by decide) aO)))
 obtain ⟨n, h⟩ := dx h
 exact dG (.inr ⟨_, br rfl, iY n (List.replicate (Int.toNat (a0.length : Int)) (bW.mk 0 0)) 0 h⟩)
theorem ar2 (a0 : List (List gY)) (r : (List (List bW))) (h : A8 a0 = some r) : aQ aG 145 [.slice (a0.map fG)] (.ar 1 (r.map fl)) [] := by
 refine aQ.b7 (fx := [0]) b8 [.tmp 2] [(0, .slice (a0.map fG))] Tryz.func145 rfl rfl XU (Nat.le_of_ble_eq_true rfl) rfl rfl (fun b1 an b2 => ?_)
 refine ws _ ?_
 obtain ⟨ti, a8, h⟩ := aL h
 refine cU (bX [(0, .slice (a0.map fG)), (3, .ar 1 (List.replicate (Int.toNat (a0.length : Int)) .bu))] (fun P aj => ?_) ?_)
 ·simp only [aT.down, simprocAttr, ey, gP, lY, nO, gn, ga, lZ, ft, fG, (e3 a8).1, (e3 a8).2.1, (e3 a8).2.2, eX, List.map_replicate, -Int.reduceNatCast']
  (try simp only [bn.down, simprocAttr, ft, fG, (e3 a8).1, (e3 a8).2.1, (e3 a8).2.2, eX, List.map_replicate, -Int.reduceNatCast'] at aj ⊢); exact aj
 refine aM (fun ed dW cj bj => ?_)
 refine ws [(0, .slice (a0.map fG)), (3, .ar 1 (List.replicate (Int.toNat (a0.length : Int)) .bu)), (4, .int .i64 0)] ?_
 refine bK (fun e_ dN dX cM bU => ?_)
 have iY : ∀ (n : Nat) (bA : List (List bW)) (bx : Int), A7 a0 n bA bx = some r → du aG Mk e_ (aa [(0, .slice (a0.map fG)), (3, .ar 1 (bA.map fl)), (4, .int .i64 bx)]) := by
  intro eK
  induction eK with
  | zero => intro bA bx h; cases (show none = some r from h)
  | succ eK iZ =>
   intro bA bx h
   replace h : LM (A7 a0 eK) a0 bA bx = some r := h
   refine dH (fun g3 dM eM cZ => ?_)
   refine aM (fun hC g9 gv e7 => ?_)
   refine ws _ ?_
   rcases aS h with ⟨b5, h⟩ | ⟨b5, h⟩
   ·refine aZ (congrArg I.bool b5) ?_
    simp only [b5, al.down]
    refine a_ (g9 _ (.inl ?_))
    refine aM (fun iW fu il eB => ?_)
    refine bK (fun ji gg h6 cT iv => ?_)
    obtain ⟨ag, er, h⟩ := aL h
    obtain ⟨au, e1, h⟩ := aL h
    obtain ⟨a2, cV, h⟩ := aL h
    refine iR (bX [(0, .slice (a0.map fG)), (3, .ar 1 ((List.set bA (Int.toNat bx) au).map fl)), (4, .int .i64 bx)] (fun P aj => ?_) ?_)
    ·simp only [aT.down, simprocAttr, ey, gP, lY, nO, gn, ga, lZ, b0, ft, fG, fl, er, cV, c8 cV, eZ, el]
     refine e6 (ar1 ag _ e1) rfl rfl rfl rfl (.inl (by rfl)) ?_
     simp only [aT.down, simprocAttr, ey, gP, lY, nO, gn, ga, lZ, b0, ft, fG, fl, er, cV, c8 cV, eZ, el]
     (try simp only [bn.down, simprocAttr, b0, ft, fG, fl, er, cV, c8 cV, eZ, el] at aj ⊢); exact aj
    refine gg _ (fu _ (.inl ?_))
    refine wr [(0, .slice (a0.map fG)), (3, .ar 1 ((List.set bA (Int.toNat bx) au).map fl)), (4, .int .i64 (IntKind.i64.wrap (bx + 1)))] ?_
    exact dM _ (.inr ⟨_, br rfl, iZ (List.set bA (Int.toNat bx) au) (IntKind.i64.wrap (bx + 1)) h⟩)
   ·refine a6 (congrArg I.bool b5) ?_
    simp only [b5, al.down]
    refine dL (e7 0 _ (cZ 0 _ (cM _ (dW _ (.inl ?_)))))
    refine ws _ ?_
    exact aJ (an _ (.inl (aK [.ar 1 (bA.map fl)] rfl (by cases aI h; rfl) (by decide) aO)))
 obtain ⟨n, h⟩ := dx h
 exact dG (.inr ⟨_, q1 [] rfl (lf (t := 0) (d := .slice (a0.map fG)) rfl (q3 (t := 3) (d := .ar 1 (List.replicate (Int.toNat (a0.length : Int)) .bu)) (bL := .ar 1 ((List.replicate (Int.toNat (a0.length : Int)) []).map fl)) rfl rfl (AA (u := fl) (z := []) (.mo _) _) (by decide) (lf (t := 4) (d := .int .i64 0) rfl (q2)))), iY n (List.replicate (Int.toNat (a0.length : Int)) []) 0 h⟩)
theorem ar3 (a0 : ij) (r : bE) (h : xR a0 = some r) : aQ aG 164 [fH a0] (fh r) [] := by
 refine aQ.b7 (fx := [0]) b8 [.cell 2 122] [(0, fH a0)] Tryz.func164 rfl rfl X2 (Nat.le_of_ble_eq_true rfl) rfl rfl (fun b1 an b2 => ?_)
 refine ws _ ?_
 refine ws _ ?_
 refine ws _ ?_
 refine ws _ ?_
 refine ws _ ?_
 obtain ⟨ag, cr, h⟩ := aL h
 refine dZ (ar2 a0.cA _ cr) _ ?_
 refine ws _ ?_
 exact aJ (an _ (.inl (aK [fh (bE.mk a0.Kind a0.Number a0.Name ag)] rfl (by cases aI h; rfl) (by decide) aO)))
theorem ar4 (a0 : List ij) (r : (List bE)) (h : A_ a0 = some r) : aQ aG 126 [.slice (a0.map fH)] (.ar 4 (r.map fh)) [] := by
 refine aQ.b7 (fx := [0]) b8 [.tmp 2] [(0, .slice (a0.map fH))] Tryz.func126 rfl rfl Ya (Nat.le_of_ble_eq_true rfl) rfl rfl (fun b1 an b2 => ?_)
 refine ws _ ?_
 obtain ⟨ti, a8, h⟩ := aL h
 refine cU (bX [(0, .slice (a0.map fH)), (3, .ar 4 (List.replicate (Int.toNat (a0.length : Int)) (.agg [(.int .i64 0), (.int .i64 0), (.str []), .bu])))] (fun P aj => ?_) ?_)
 ·simp only [aT.down, simprocAttr, ey, eU, p_, jS, gP, h3, lY, nO, gn, ga, qa, lZ, fH, ft, fG, (e3 a8).1, (e3 a8).2.1, (e3 a8).2.2, eX, List.map_replicate, -Int.reduceNatCast']
  (try simp only [bn.down, simprocAttr, fH, ft, fG, (e3 a8).1, (e3 a8).2.1, (e3 a8).2.2, eX, List.map_replicate, -Int.reduceNatCast'] at aj ⊢); exact aj
 refine aM (fun ed dW cj bj => ?_)
 refine ws [(0, .slice (a0.map fH)), (3, .ar 4 (List.replicate (Int.toNat (a0.length : Int)) (.agg [(.int .i64 0), (.int .i64 0), (.str []), .bu]))), (4, .int .i64 0)] ?_
 refine bK (fun e_ dN dX cM bU => ?_)
 have iY : ∀ (n : Nat) (bA : List bE) (bx : Int), A9 a0 n bA bx = some r → du aG Ml e_ (aa [(0, .slice (a0.map fH)), (3, .ar 4 (bA.map fh)), (4, .int .i64 bx)]) := by
  intro eK
  induction eK with
  | zero => intro bA bx h; cases (show none = some r from h)
  | succ eK iZ =>
   intro bA bx h
   replace h : LN (A9 a0 eK) a0 bA bx = some r := h
   refine dH (fun g3 dM eM cZ => ?_)
   refine aM (fun hC g9 gv e7 => ?_)
   refine ws _ ?_
   rcases aS h with ⟨b5, h⟩ | ⟨b5, h⟩
   ·refine aZ (congrArg I.bool b5) ?_
    simp only [b5, al.down]
    refine a_ (g9 _ (.inl ?_))
    refine aM (fun iW fu il eB => ?_)
    refine bK (fun ji gg h6 cT iv => ?_)
    obtain ⟨ag, er, h⟩ := aL h
    obtain ⟨au, e1, h⟩ := aL h
    obtain ⟨a2, cV, h⟩ := aL h
    refine iR (bX [(0, .slice (a0.map fH)), (3, .ar 4 ((List.set bA (Int.toNat bx) au).map fh)), (4, .int .i64 bx)] (fun P aj => ?_) ?_)
    ·simp only [aT.down, simprocAttr, ey, eU, p_, jS, gP, h3, lY, nO, gn, ga, qa, lZ, b0, fH, ft, fG, fh, fl, er, cV, c8 cV, eZ, el]
     refine e6 (ar3 ag _ e1) rfl rfl rfl rfl (.inl (by rfl)) ?_
     simp only [aT.down, simprocAttr, ey, eU, p_, jS, gP, h3, lY, nO, gn, ga, qa, lZ, b0, fH, ft, fG, fh, fl, er, cV, c8 cV, eZ, el]
     (try simp only [bn.down, simprocAttr, b0, fH, ft, fG, fh, fl, er, cV, c8 cV, eZ, el] at aj ⊢); exact aj
    refine gg _ (fu _ (.inl ?_))
    refine wr [(0, .slice (a0.map fH)), (3, .ar 4 ((List.set bA (Int.toNat bx) au).map fh)), (4, .int .i64 (IntKind.i64.wrap (bx + 1)))] ?_
    exact dM _ (.inr ⟨_, br rfl, iZ (List.set bA (Int.toNat bx) au) (IntKind.i64.wrap (bx + 1)) h⟩)
   ·refine a6 (congrArg I.bool b5) ?_
    simp only [b5, al.down]
    refine dL (e7 0 _ (cZ 0 _ (cM _ (dW _ (.inl ?_)))))
    refine ws _ ?_
    exact aJ (an _ (.inl (aK [.ar 4 (bA.map fh)] rfl (by cases aI h; rfl) (by decide) aO)))
 obtain ⟨n, h⟩ := dx h
 exact dG (.inr ⟨_, q1 [] rfl (lf (t := 0) (d := .slice (a0.map fH)) rfl (q3 (t := 3) (d := .ar 4 (List.replicate (Int.toNat (a0.length : Int)) (.agg [(.int .i64 0), (.int .i64 0), (.str []), .bu]))) (bL := .ar 4 ((List.replicate (Int.toNat (a0.length : Int)) (bE.mk 0 0 ([] : List UInt8) [])).map fh)) rfl rfl (AA (u := fh) (z := (bE.mk 0 0 ([] : List UInt8) [])) (.agg (.cons (.refl _) (.cons (.refl _) (.cons (.refl _) (.cons (.mo _) (.nil)))))) _) (by decide) (lf (t := 4) (d := .int .i64 0) rfl (q2)))), iY n (List.replicate (Int.toNat (a0.length : Int)) (bE.mk 0 0 ([] : List UInt8) [])) 0 h⟩)
theorem ar5 (a0 : h4) (r : bg) (h : xS a0 = some r) : aQ aG 76 [gd a0] (eO r) [] := by
 refine aQ.b7 (fx := [0]) b8 [.cell 2 119] [(0, gd a0)] Tryz.func76 rfl rfl Yh (Nat.le_of_ble_eq_true rfl) rfl rfl (fun b1 an b2 => ?_)
 refine ws _ ?_
 refine ws _ ?_
 refine ws _ ?_
 refine ws _ ?_
 obtain ⟨ag, cv, h⟩ := aL h
 refine dZ (ar4 a0.Body _ cv) _ ?_
 refine ws _ ?_
 exact aJ (an _ (.inl (aK [eO (bg.mk a0.Name a0.dj ag)] rfl (by cases aI h; rfl) (by decide) aO)))
theorem ar6 (a0 : List h4) (r : (List bg)) (h : xT a0 = some r) : aQ aG 39 [.slice (a0.map gd)] (.ar 3 (r.map eO)) [] := by
 refine aQ.b7 (fx := [0]) b8 [.tmp 2] [(0, .slice (a0.map gd))] Tryz.func39 rfl rfl Yq (Nat.le_of_ble_eq_true rfl) rfl rfl (fun b1 an b2 => ?_)
 refine ws _ ?_
 obtain ⟨ti, a8, h⟩ := aL h
 refine cU (bX [(0, .slice (a0.map gd)), (3, .ar 3 (List.replicate (Int.toNat (a0.length : Int)) (.agg [(.str []), (.int .i64 0), .bu])))] (fun P aj => ?_) ?_)
 ·simp only [aT.down, simprocAttr, ey, eU, u7, nN, p_, va, jS, lX, gP, h3, lY, nO, gn, ga, qa, lZ, gd, fH, ft, fG, (e3 a8).1, (e3 a8).2.1, (e3 a8).2.2, eX, List.map_replicate, -Int.reduceNatCast']
  (try simp only [bn.down, simprocAttr, gd, fH, ft, fG, (e3 a8).1, (e3 a8).2.1, (e3 a8).2.2, eX, List.map_replicate, -Int.reduceNatCast'] at aj ⊢); exact aj
 refine aM (fun ed dW cj bj => ?_)
 refine ws [(0, .slice (a0.map gd)), (3, .ar 3 (List.replicate (Int.toNat (a0.length : Int)) (.agg [(.str []), (.int .i64 0), .bu]))), (4, .int .i64 0)] ?_
 refine bK (fun e_ dN dX cM bU => ?_)
 have iY : ∀ (n : Nat) (bA : List bg) (bx : Int), Ba a0 n bA bx = some r → du aG Mm e_ (aa [(0, .slice (a0.map gd)), (3, .ar 3 (bA.map eO)), (4, .int .i64 bx)]) := by
  intro eK
  induction eK with
  | zero => intro bA bx h; cases (show none = some r from h)
  | succ eK iZ =>
   intro bA bx h
   replace h : LO (Ba a0 eK) a0 bA bx = some r := h
   refine dH (fun g3 dM eM cZ => ?_)
   refine aM (fun hC g9 gv e7 => ?_)
   refine ws _ ?_
   rcases aS h with ⟨b5, h⟩ | ⟨b5, h⟩
   ·refine aZ (congrArg I.bool b5) ?_
    simp only [b5, al.down]
    refine a_ (g9 _ (.inl ?_))
    refine aM (fun iW fu il eB => ?_)
    refine bK (fun ji gg h6 cT iv => ?_)
    obtain ⟨ag, er, h⟩ := aL h
    obtain ⟨au, e1, h⟩ := aL h
    obtain ⟨a2, cV, h⟩ := aL h
    refine iR (bX [(0, .slice (a0.map gd)), (3, .ar 3 ((List.set bA (Int.toNat bx) au).map eO)), (4, .int .i64 bx)] (fun P aj => ?_) ?_)
    ·simp only [aT.down, simprocAttr, ey, eU, u7, nN, p_, va, jS, lX, gP, h3, lY, nO, gn, ga, qa, lZ, b0, gd, fH, ft, fG, eO, fh, fl, er, cV, c8 cV, eZ, el]
     refine e6 (ar5 ag _ e1) rfl rfl rfl rfl (.inl (by rfl)) ?_
     simp only [aT.down, simprocAttr, ey, eU, u7, nN, p_, va, jS, lX, gP, h3, lY, nO, gn, ga, qa, lZ, b0, gd, fH, ft, fG, eO, fh, fl, er, cV, c8 cV, eZ, el]
     (try simp only [bn.down, simprocAttr, b0, gd, fH, ft, fG, eO, fh, fl, er, cV, c8 cV, eZ, el] at aj ⊢); exact aj
    refine gg _ (fu _ (.inl ?_))
    refine wr [(0, .slice (a0.map gd)), (3, .ar 3 ((List.set bA (Int.toNat bx) au).map eO)), (4, .int .i64 (IntKind.i64.wrap (bx + 1)))] ?_
    exact dM _ (.inr ⟨_, br rfl, iZ (List.set bA (Int.toNat bx) au) (IntKind.i64.wrap (bx + 1)) h⟩)
   ·refine a6 (congrArg I.bool b5) ?_
    simp only [b5, al.down]
    refine dL (e7 0 _ (cZ 0 _ (cM _ (dW _ (.inl ?_)))))
    refine ws _ ?_
    exact aJ (an _ (.inl (aK [.ar 3 (bA.map eO)] rfl (by cases aI h; rfl) (by decide) aO)))
 obtain ⟨n, h⟩ := dx h
 exact dG (.inr ⟨_, q1 [] rfl (lf (t := 0) (d := .slice (a0.map gd)) rfl (q3 (t := 3) (d := .ar 3 (List.replicate (Int.toNat (a0.length : Int)) (.agg [(.str []), (.int .i64 0), .bu]))) (bL := .ar 3 ((List.replicate (Int.toNat (a0.length : Int)) (bg.mk ([] : List UInt8) 0 [])).map eO)) rfl rfl (AA (u := eO) (z := (bg.mk ([] : List UInt8) 0 [])) (.agg (.cons (.refl _) (.cons (.refl _) (.cons (.mo _) (.nil))))) _) (by decide) (lf (t := 4) (d := .int .i64 0) rfl (q2)))), iY n (List.replicate (Int.toNat (a0.length : Int)) (bg.mk ([] : List UInt8) 0 [])) 0 h⟩)
theorem ar7 (a0 : List Int) (r : (List Int)) (h : Bc a0 = some r) : aQ aG 59 [.slice (a0.map aU)] (.ar 1 (r.map aU)) [] := by
 refine aQ.b7 (fx := [0]) b8 [.tmp 2] [(0, .slice (a0.map aU))] Tryz.func59 rfl rfl oI (Nat.le_of_ble_eq_true rfl) rfl rfl (fun b1 an b2 => ?_)
 refine ws _ ?_
 obtain ⟨NM, a8, h⟩ := aL h
 refine cU (bX [(0, .slice (a0.map aU)), (3, .ar 1 ((List.replicate (Int.toNat (a0.length : Int)) 0).map aU))] (fun P aj => ?_) ?_)
 ·simp only [aT.down, simprocAttr, ey, jf, aU, (e3 a8).1, (e3 a8).2.1, (e3 a8).2.2, eX, List.map_replicate, -Int.reduceNatCast']
  (try simp only [bn.down, simprocAttr, aU, (e3 a8).1, (e3 a8).2.1, (e3 a8).2.2, eX, List.map_replicate, -Int.reduceNatCast'] at aj ⊢); exact aj
 refine aM (fun ed dW cj bj => ?_)
 refine ws [(0, .slice (a0.map aU)), (3, .ar 1 ((List.replicate (Int.toNat (a0.length : Int)) 0).map aU)), (4, .int .i64 0)] ?_
 refine bK (fun e_ dN dX cM bU => ?_)
 have iY : ∀ (n : Nat) (bA : List Int) (bx : Int), Bb a0 n bA bx = some r → du aG Mn e_ (aa [(0, .slice (a0.map aU)), (3, .ar 1 (bA.map aU)), (4, .int .i64 bx)]) := by
  intro eK
  induction eK with
  | zero => intro bA bx h; cases (show none = some r from h)
  | succ eK iZ =>
   intro bA bx h
   replace h : LP (Bb a0 eK) a0 bA bx = some r := h
   refine dH (fun g3 dM eM cZ => ?_)
   refine aM (fun hC g9 gv e7 => ?_)
   refine ws _ ?_
   rcases aS h with ⟨b5, h⟩ | ⟨b5, h⟩
   ·refine aZ (congrArg I.bool b5) ?_
    simp only [b5, al.down]
    refine a_ (g9 _ (.inl ?_))
    refine aM (fun iW fu il eB => ?_)
    refine bK (fun ji gg h6 cT iv => ?_)
    obtain ⟨ag, er, h⟩ := aL h
    obtain ⟨au, e1, h⟩ := aL h
    refine iR (bX [(0, .slice (a0.map aU)), (3, .ar 1 ((List.set bA (Int.toNat bx) ag).map aU)), (4, .int .i64 bx)] (fun P aj => ?_) ?_)
    ·simp only [aT.down, simprocAttr, ey, jf, aU, er, e1, c8 e1, eZ, el]
     (try simp only [bn.down, simprocAttr, aU, er, e1, c8 e1, eZ, el] at aj ⊢); exact aj
    refine gg _ (fu _ (.inl ?_))
    refine wr [(0, .slice (a0.map aU)), (3, .ar 1 ((List.set bA (Int.toNat bx) ag).map aU)), (4, .int .i64 (IntKind.i64.wrap (bx + 1)))] ?_
    exact dM _ (.inr ⟨_, br rfl, iZ (List.set bA (Int.toNat bx) ag) (IntKind.i64.wrap (bx + 1)) h⟩)
   ·refine a6 (congrArg I.bool b5) ?_
    simp only [b5, al.down]
    refine dL (e7 0 _ (cZ 0 _ (cM _ (dW _ (.inl ?_)))))
    refine ws _ ?_
    exact aJ (an _ (.inl (aK [.ar 1 (bA.map aU)] rfl (by cases aI h; rfl) (by decide) aO)))
 obtain ⟨n, h⟩ := dx h
 exact dG (.inr ⟨_, br rfl, iY n (List.replicate (Int.toNat (a0.length : Int)) 0) 0 h⟩)
theorem ar8 (a0 : ik) (r : dc) (h : xU a0 = some r) : aQ aG 77 [gf a0] (e0 r) [] := by
 refine aQ.b7 (fx := [0]) b8 [.cell 2 124] [(0, gf a0)] Tryz.func77 rfl rfl YE (Nat.le_of_ble_eq_true rfl) rfl rfl (fun b1 an b2 => ?_)
 refine ws _ ?_
 refine ws _ ?_
 refine ws _ ?_
 obtain ⟨ag, da, h⟩ := aL h
 refine dZ (ar7 a0.fq _ da) _ ?_
 refine ws _ ?_
 exact aJ (an _ (.inl (aK [e0 (dc.mk a0.fe ag)] rfl (by cases aI h; rfl) (by decide) aO)))
theorem ar9 (a0 : List ik) (r : (List dc)) (h : Be a0 = some r) : aQ aG 40 [.slice (a0.map gf)] (.ar 2 (r.map e0)) [] := by
 refine aQ.b7 (fx := [0]) b8 [.tmp 2] [(0, .slice (a0.map gf))] Tryz.func40 rfl rfl YN (Nat.le_of_ble_eq_true rfl) rfl rfl (fun b1 an b2 => ?_)
 refine ws _ ?_
 obtain ⟨ti, a8, h⟩ := aL h
 refine cU (bX [(0, .slice (a0.map gf)), (3, .ar 2 (List.replicate (Int.toNat (a0.length : Int)) (.agg [(.int .i64 0), .bu])))] (fun P aj => ?_) ?_)
 ·simp only [aT.down, simprocAttr, ey, u9, oC, jf, vb, m4, aU, gf, (e3 a8).1, (e3 a8).2.1, (e3 a8).2.2, eX, List.map_replicate, -Int.reduceNatCast']
  (try simp only [bn.down, simprocAttr, aU, gf, (e3 a8).1, (e3 a8).2.1, (e3 a8).2.2, eX, List.map_replicate, -Int.reduceNatCast'] at aj ⊢); exact aj
 refine aM (fun ed dW cj bj => ?_)
 refine ws [(0, .slice (a0.map gf)), (3, .ar 2 (List.replicate (Int.toNat (a0.length : Int)) (.agg [(.int .i64 0), .bu]))), (4, .int .i64 0)] ?_
 refine bK (fun e_ dN dX cM bU => ?_)
 have iY : ∀ (n : Nat) (bA : List dc) (bx : Int), Bd a0 n bA bx = some r → du aG Mo e_ (aa [(0, .slice (a0.map gf)), (3, .ar 2 (bA.map e0)), (4, .int .i64 bx)]) := by
  intro eK
  induction eK with
  | zero => intro bA bx h; cases (show none = some r from h)
  | succ eK iZ =>
   intro bA bx h
   replace h : LQ (Bd a0 eK) a0 bA bx = some r := h
   refine dH (fun g3 dM eM cZ => ?_)
   refine aM (fun hC g9 gv e7 => ?_)
   refine ws _ ?_
   rcases aS h with ⟨b5, h⟩ | ⟨b5, h⟩
   ·refine aZ (congrArg I.bool b5) ?_
    simp only [b5, al.down]
    refine a_ (g9 _ (.inl ?_))
    refine aM (fun iW fu il eB => ?_)
    refine bK (fun ji gg h6 cT iv => ?_)
    obtain ⟨ag, er, h⟩ := aL h
    obtain ⟨au, e1, h⟩ := aL h
    obtain ⟨a2, cV, h⟩ := aL h
    refine iR (bX [(0, .slice (a0.map gf)), (3, .ar 2 ((List.set bA (Int.toNat bx) au).map e0)), (4, .int .i64 bx)] (fun P aj => ?_) ?_)
    ·simp only [aT.down, simprocAttr, ey, u9, oC, jf, vb, m4, aU, gf, e0, er, cV, c8 cV, eZ, el]
     refine e6 (ar8 ag _ e1) rfl rfl rfl rfl (.inl (by rfl)) ?_
     simp only [aT.down, simprocAttr, ey, u9, oC, jf, vb, m4, aU, gf, e0, er, cV, c8 cV, eZ, el]
     (try simp only [bn.down, simprocAttr, aU, gf, e0, er, cV, c8 cV, eZ, el] at aj ⊢); exact aj
    refine gg _ (fu _ (.inl ?_))
    refine wr [(0, .slice (a0.map gf)), (3, .ar 2 ((List.set bA (Int.toNat bx) au).map e0)), (4, .int .i64 (IntKind.i64.wrap (bx + 1)))] ?_
    exact dM _ (.inr ⟨_, br rfl, iZ (List.set bA (Int.toNat bx) au) (IntKind.i64.wrap (bx + 1)) h⟩)
   ·refine a6 (congrArg I.bool b5) ?_
    simp only [b5, al.down]
    refine dL (e7 0 _ (cZ 0 _ (cM _ (dW _ (.inl ?_)))))
    refine ws _ ?_
    exact aJ (an _ (.inl (aK [.ar 2 (bA.map e0)] rfl (by cases aI h; rfl) (by decide) aO)))
 obtain ⟨n, h⟩ := dx h
 exact dG (.inr ⟨_, q1 [] rfl (lf (t := 0) (d := .slice (a0.map gf)) rfl (q3 (t := 3) (d := .ar 2 (List.replicate (Int.toNat (a0.length : Int)) (.agg [(.int .i64 0), .bu]))) (bL := .ar 2 ((List.replicate (Int.toNat (a0.length : Int)) (dc.mk 0 [])).map e0)) rfl rfl (AA (u := e0) (z := (dc.mk 0 [])) (.agg (.cons (.refl _) (.cons (.mo _) (.nil)))) _) (by decide) (lf (t := 4) (d := .int .i64 0) rfl (q2)))), iY n (List.replicate (Int.toNat (a0.length : Int)) (dc.mk 0 [])) 0 h⟩)
theorem ar_ (a0 : h5) (r : b4) (h : xV a0 = some r) : aQ aG 78 [fR a0] (bt r) [] := by
 refine aQ.b7 (fx := [0]) b8 [.cell 2 126] [(0, fR a0)] Tryz.func78 rfl rfl YU (Nat.le_of_ble_eq_true rfl) rfl rfl (fun b1 an b2 => ?_)
 refine ws _ ?_
 refine ws _ ?_
 refine ws _ ?_
 refine ws _ ?_
 refine ws _ ?_
 refine ws _ ?_
 exact aJ (an _ (.inl (aK [bt (b4.mk a0.Left a0.ch a0.Result)] rfl (by cases aI h; rfl) (by decide) aO)))
theorem asa (a0 : List h5) (r : (List b4)) (h : Bg a0 = some r) : aQ aG 41 [.slice (a0.map fR)] (.ar 3 (r.map bt)) [] := by
 refine aQ.b7 (fx := [0]) b8 [.tmp 2] [(0, .slice (a0.map fR))] Tryz.func41 rfl rfl Y3 (Nat.le_of_ble_eq_true rfl) rfl rfl (fun b1 an b2 => ?_)
 refine ws _ ?_
 obtain ⟨ti, a8, h⟩ := aL h
 refine cU (bX [(0, .slice (a0.map fR)), (3, .ar 3 ((List.replicate (Int.toNat (a0.length : Int)) (b4.mk ([] : List UInt8) ([] : List UInt8) ([] : List UInt8))).map bt))] (fun P aj => ?_) ?_)
 ·simp only [aT.down, simprocAttr, eU, u_, p9, vc, m5, bt, fR, (e3 a8).1, (e3 a8).2.1, (e3 a8).2.2, eX, List.map_replicate, -Int.reduceNatCast']
  (try simp only [bn.down, simprocAttr, bt, fR, (e3 a8).1, (e3 a8).2.1, (e3 a8).2.2, eX, List.map_replicate, -Int.reduceNatCast'] at aj ⊢); exact aj
 refine aM (fun ed dW cj bj => ?_)
 refine ws [(0, .slice (a0.map fR)), (3, .ar 3 ((List.replicate (Int.toNat (a0.length : Int)) (b4.mk ([] : List UInt8) ([] : List UInt8) ([] : List UInt8))).map bt)), (4, .int .i64 0)] ?_
 refine bK (fun e_ dN dX cM bU => ?_)
 have iY : ∀ (n : Nat) (bA : List b4) (bx : Int), Bf a0 n bA bx = some r → du aG Mp e_ (aa [(0, .slice (a0.map fR)), (3, .ar 3 (bA.map bt)), (4, .int .i64 bx)]) := by
  intro eK
  induction eK with
  | zero => intro bA bx h; cases (show none = some r from h)
  | succ eK iZ =>
   intro bA bx h
   replace h : LR (Bf a0 eK) a0 bA bx = some r := h
   refine dH (fun g3 dM eM cZ => ?_)
   refine aM (fun hC g9 gv e7 => ?_)
   refine ws _ ?_
   rcases aS h with ⟨b5, h⟩ | ⟨b5, h⟩
   ·refine aZ (congrArg I.bool b5) ?_
    simp only [b5, al.down]
    refine a_ (g9 _ (.inl ?_))
    refine aM (fun iW fu il eB => ?_)
    refine bK (fun ji gg h6 cT iv => ?_)
    obtain ⟨ag, er, h⟩ := aL h
    obtain ⟨au, e1, h⟩ := aL h
    obtain ⟨a2, cV, h⟩ := aL h
    refine iR (bX [(0, .slice (a0.map fR)), (3, .ar 3 ((List.set bA (Int.toNat bx) au).map bt)), (4, .int .i64 bx)] (fun P aj => ?_) ?_)
    ·simp only [aT.down, simprocAttr, eU, u_, p9, vc, m5, bt, fR, er, cV, c8 cV, eZ, el]
     refine e6 (ar_ ag _ e1) rfl rfl rfl rfl (.inl (by rfl)) ?_
     simp only [aT.down, simprocAttr, eU, u_, p9, vc, m5, bt, fR, er, cV, c8 cV, eZ, el]
     (try simp only [bn.down, simprocAttr, bt, fR, er, cV, c8 cV, eZ, el] at aj ⊢); exact aj
    refine gg _ (fu _ (.inl ?_))
    refine wr [(0, .slice (a0.map fR)), (3, .ar 3 ((List.set bA (Int.toNat bx) au).map bt)), (4, .int .i64 (IntKind.i64.wrap (bx + 1)))] ?_
    exact dM _ (.inr ⟨_, br rfl, iZ (List.set bA (Int.toNat bx) au) (IntKind.i64.wrap (bx + 1)) h⟩)
   ·refine a6 (congrArg I.bool b5) ?_
    simp only [b5, al.down]
    refine dL (e7 0 _ (cZ 0 _ (cM _ (dW _ (.inl ?_)))))
    refine ws _ ?_
    exact aJ (an _ (.inl (aK [.ar 3 (bA.map bt)] rfl (by cases aI h; rfl) (by decide) aO)))
 obtain ⟨n, h⟩ := dx h
 exact dG (.inr ⟨_, br rfl, iY n (List.replicate (Int.toNat (a0.length : Int)) (b4.mk ([] : List UInt8) ([] : List UInt8) ([] : List UInt8))) 0 h⟩)
theorem NN (a0 : List (List UInt8)) (r : (List (List UInt8))) (h : xW a0 = some r) : aQ aG 42 [.slice (a0.map bF)] (.ar 1 (r.map bF)) [] := by
 refine aQ.b7 (fx := [0]) b8 [.tmp 2] [(0, .slice (a0.map bF))] Tryz.func42 rfl rfl Zb (Nat.le_of_ble_eq_true rfl) rfl rfl (fun b1 an b2 => ?_)
 refine ws _ ?_
 obtain ⟨NM, a8, h⟩ := aL h
 refine cU (bX [(0, .slice (a0.map bF)), (3, .ar 1 ((List.replicate (Int.toNat (a0.length : Int)) ([] : List UInt8)).map bF))] (fun P aj => ?_) ?_)
 ·simp only [aT.down, simprocAttr, eU, lk, bF, (e3 a8).1, (e3 a8).2.1, (e3 a8).2.2, eX, List.map_replicate, -Int.reduceNatCast']
  (try simp only [bn.down, simprocAttr, bF, (e3 a8).1, (e3 a8).2.1, (e3 a8).2.2, eX, List.map_replicate, -Int.reduceNatCast'] at aj ⊢); exact aj
 refine aM (fun ed dW cj bj => ?_)
 refine ws [(0, .slice (a0.map bF)), (3, .ar 1 ((List.replicate (Int.toNat (a0.length : Int)) ([] : List UInt8)).map bF)), (4, .int .i64 0)] ?_
 refine bK (fun e_ dN dX cM bU => ?_)
 have iY : ∀ (n : Nat) (bA : List (List UInt8)) (bx : Int), Bh a0 n bA bx = some r → du aG Mq e_ (aa [(0, .slice (a0.map bF)), (3, .ar 1 (bA.map bF)), (4, .int .i64 bx)]) := by
  intro eK
  induction eK with
  | zero => intro bA bx h; cases (show none = some r from h)
  | succ eK iZ =>
   intro bA bx h
   replace h : LS (Bh a0 eK) a0 bA bx = some r := h
   refine dH (fun g3 dM eM cZ => ?_)
   refine aM (fun hC g9 gv e7 => ?_)
   refine ws _ ?_
   rcases aS h with ⟨b5, h⟩ | ⟨b5, h⟩
   ·refine aZ (congrArg I.bool b5) ?_
    simp only [b5, al.down]
    refine a_ (g9 _ (.inl ?_))
    refine aM (fun iW fu il eB => ?_)
    refine bK (fun ji gg h6 cT iv => ?_)
    obtain ⟨ag, er, h⟩ := aL h
    obtain ⟨au, e1, h⟩ := aL h
    refine iR (bX [(0, .slice (a0.map bF)), (3, .ar 1 ((List.set bA (Int.toNat bx) ag).map bF)), (4, .int .i64 bx)] (fun P aj => ?_) ?_)
    ·simp only [aT.down, simprocAttr, eU, lk, bF, er, e1, c8 e1, eZ, el]
     (try simp only [bn.down, simprocAttr, bF, er, e1, c8 e1, eZ, el] at aj ⊢); exact aj
    refine gg _ (fu _ (.inl ?_))
    refine wr [(0, .slice (a0.map bF)), (3, .ar 1 ((List.set bA (Int.toNat bx) ag).map bF)), (4, .int .i64 (IntKind.i64.wrap (bx + 1)))] ?_
    exact dM _ (.inr ⟨_, br rfl, iZ (List.set bA (Int.toNat bx) ag) (IntKind.i64.wrap (bx + 1)) h⟩)
   ·refine a6 (congrArg I.bool b5) ?_
    simp only [b5, al.down]
    refine dL (e7 0 _ (cZ 0 _ (cM _ (dW _ (.inl ?_)))))
    refine ws _ ?_
    exact aJ (an _ (.inl (aK [.ar 1 (bA.map bF)] rfl (by cases aI h; rfl) (by decide) aO)))
 obtain ⟨n, h⟩ := dx h
 exact dG (.inr ⟨_, br rfl, iY n (List.replicate (Int.toNat (a0.length : Int)) ([] : List UInt8)) 0 h⟩)
theorem Dc (a0 : kn) (r : dv) (h : ra a0 = some r) : aQ aG 9 [jh a0] (mF r) [] := by
 refine aQ.b7 (fx := [0]) b8 [.cell 2 36] [(0, jh a0)] Tryz.func9 rfl rfl mG (Nat.le_of_ble_eq_true rfl) rfl rfl (fun b1 an b2 => ?_)
 refine ws _ ?_
 refine ws _ ?_
 obtain ⟨ag, c6, h⟩ := aL h
 refine dZ (ar6 a0.b3 _ c6) _ ?_
 obtain ⟨au, cv, h⟩ := aL h
 refine dZ (ar9 a0.cn _ cv) _ ?_
 obtain ⟨a2, iB, h⟩ := aL h
 refine dZ (asa a0.g7 _ iB) _ ?_
 obtain ⟨bj, n_, h⟩ := aL h
 refine dZ (NN a0.gZ _ n_) _ ?_
 obtain ⟨bp, eJ, h⟩ := aL h
 refine dZ (NN a0.g0 _ eJ) _ ?_
 refine ws _ ?_
 exact aJ (an _ (.inl (aK [mF (dv.mk ag au a2 bj bp)] rfl (by cases aI h; rfl) (by decide) aO)))
theorem GX (a0 : UInt8) (r : Bool) (h : xX a0 = some r) : aQ aG 196 [.int .u8 (a0.toNat : Int)] (.bool r) [] := by
 refine aQ.b7 (fx := [0]) b8 [.tmp 2] [(0, .int .u8 (a0.toNat : Int))] Tryz.func196 rfl rfl Zl (Nat.le_of_ble_eq_true rfl) rfl rfl (fun b1 an b2 => ?_)
 refine ws _ ?_
 refine cU (bX [(2, .bool ((decide (97 ≤ (a0.toNat : Int))) && (decide ((a0.toNat : Int) ≤ 122))))] (fun P aj => ?_) ?_)
 ·rcases Bool.eq_false_or_eq_true (decide (97 ≤ (a0.toNat : Int))) with e9 | e9
  ·simp only [aT.down, simprocAttr, e9]
   (try simp only [bn.down, simprocAttr, e9] at aj ⊢); exact aj
  ·simp only [aT.down, simprocAttr, e9]
   (try simp only [bn.down, simprocAttr, e9] at aj ⊢); exact aj
 exact aJ (an _ (.inl (aK [.bool ((decide (97 ≤ (a0.toNat : Int))) && (decide ((a0.toNat : Int) ≤ 122)))] rfl (by cases aI h; rfl) (by decide) aO)))
theorem asb (a0 : UInt8) (r : Bool) (h : Ga a0 = some r) : aQ aG 197 [.int .u8 (a0.toNat : Int)] (.bool r) [] := by
 refine aQ.b7 (fx := [0]) b8 [.tmp 2] [(0, .int .u8 (a0.toNat : Int))] Tryz.func197 rfl rfl Zo (Nat.le_of_ble_eq_true rfl) rfl rfl (fun b1 an b2 => ?_)
 refine ws _ ?_
 refine cU (bX [(2, .bool ((decide (48 ≤ (a0.toNat : Int))) && (decide ((a0.toNat : Int) ≤ 57))))] (fun P aj => ?_) ?_)
 ·rcases Bool.eq_false_or_eq_true (decide (48 ≤ (a0.toNat : Int))) with e9 | e9
  ·simp only [aT.down, simprocAttr, e9]
   (try simp only [bn.down, simprocAttr, e9] at aj ⊢); exact aj
  ·simp only [aT.down, simprocAttr, e9]
   (try simp only [bn.down, simprocAttr, e9] at aj ⊢); exact aj
 exact aJ (an _ (.inl (aK [.bool ((decide (48 ≤ (a0.toNat : Int))) && (decide ((a0.toNat : Int) ≤ 57)))] rfl (by cases aI h; rfl) (by decide) aO)))
theorem yW (a0 : List UInt8) (r : Bool) (h : vg a0 = some r) : aQ aG 161 [.str a0] (.bool r) [] := by
 refine aQ.b7 (fx := [0]) b8 [.tmp 2] [(0, .str a0)] Tryz.func161 rfl rfl ZB (Nat.le_of_ble_eq_true rfl) rfl rfl (fun b1 an b2 => ?_)
 refine ws _ ?_
 refine aM (fun ew ca bw au => ?_)
 rcases aS h with ⟨bz, h⟩ | ⟨bz, h⟩
 ·refine g1 bz _ ?_
  refine aZ rfl ?_
  refine ws _ ?_
  exact aJ (bw _ (an _ (.inl (aK [.bool false] rfl (by cases aI h; rfl) (by decide) aO))))
 ·rcases aS h with ⟨cM, h⟩ | ⟨cM, h⟩
  ·refine g1 (And.intro bz cM) _ ?_
   refine aZ rfl ?_
   refine ws _ ?_
   exact aJ (bw _ (an _ (.inl (aK [.bool false] rfl (by cases aI h; rfl) (by decide) aO))))
  ·obtain ⟨ag, iB, h⟩ := aL h
   obtain ⟨au, kG, h⟩ := aL h
   refine cU (bX [(0, .str a0), (16, .bool (!au))] (fun P aj => ?_) ?_)
   ·simp only [aT.down, simprocAttr, eU, bz, cM, iB]
    refine hy (GX ag _ kG) rfl rfl rfl rfl (.inl (by rfl)) ?_
    simp only [aT.down, simprocAttr, eU, bz, cM, iB]
    (try simp only [bn.down, simprocAttr, bz, cM, iB] at aj ⊢); exact aj
   rcases aS h with ⟨b5, h⟩ | ⟨b5, h⟩
   ·refine aZ (congrArg I.bool b5) ?_
    simp only [(db b5), al.down]
    refine ws _ ?_
    exact aJ (bw _ (an _ (.inl (aK [.bool false] rfl (by cases aI h; rfl) (by decide) aO))))
   ·refine a6 (congrArg I.bool b5) ?_
    simp only [(bC b5), al.down]
    refine a_ (ca _ (.inl ?_))
    refine aM (fun ji gg h6 iv => ?_)
    refine ws _ ?_
    refine bK (fun iX fI eS ei hA => ?_)
    have hM : ∀ (n : Nat) (cS : Int), vf a0 n cS = some r → du aG Mr iX (aa [(0, .str a0), (3, .int .i64 cS)]) := by
     intro dR
     induction dR with
     | zero => intro cS h; cases (show none = some r from h)
     | succ dR hp =>
      intro cS h
      replace h : Bi (vf a0 dR) a0 cS = some r := h
      refine dH (fun mI hW hB jv => ?_)
      refine aM (fun oJ ka jw l7 => ?_)
      refine ws _ ?_
      rcases aS h with ⟨eg, h⟩ | ⟨eg, h⟩
      ·refine aZ (congrArg I.bool eg) ?_
       simp only [eg, al.down]
       refine a_ (ka _ (.inl ?_))
       refine aM (fun Dd tj yX De => ?_)
       refine bK (fun NO vO Df c7 GY => ?_)
       obtain ⟨a2, hh, h⟩ := aL h
       obtain ⟨bj, qn, h⟩ := aL h
       rcases aS h with ⟨gG, h⟩ | ⟨gG, h⟩
       ·obtain ⟨bp, kS, h⟩ := aL h
        refine cU (bX [(0, .str a0), (3, .int .i64 cS), (34, .bool (!bp))] (fun P aj => ?_) ?_)
        ·simp only [aT.down, simprocAttr, eU, hh, (db gG)]
         refine e6 (GX a2 _ qn) rfl rfl rfl rfl (.inl (by rfl)) ?_
         simp only [aT.down, simprocAttr, eU, hh, (db gG)]
         refine hy (asb a2 _ kS) rfl rfl rfl rfl (.inl (by rfl)) ?_
         simp only [aT.down, simprocAttr, eU, hh, (db gG)]
         (try simp only [bn.down, simprocAttr, hh, (db gG)] at aj ⊢); exact aj
        rcases aS h with ⟨ff, h⟩ | ⟨ff, h⟩
        ·refine aZ (congrArg I.bool ff) ?_
         simp only [(db ff), al.down]
         refine ws _ ?_
         exact aJ (Df _ (yX _ (hB _ (eS _ (h6 _ (an _ (.inl (aK [.bool false] rfl (by cases aI h; rfl) (by decide) aO))))))))
        ·refine a6 (congrArg I.bool ff) ?_
         simp only [(bC ff), al.down]
         refine a_ (vO _ (tj _ (.inl ?_)))
         refine wr _ ?_
         exact hW _ (.inr ⟨_, br rfl, hp (IntKind.i64.wrap (cS + 1)) h⟩)
       ·refine iV (And.intro hh (bC gG)) (GX a2 _ qn) _ ?_
        refine a6 rfl ?_
        refine a_ (vO _ (tj _ (.inl ?_)))
        refine wr _ ?_
        exact hW _ (.inr ⟨_, br rfl, hp (IntKind.i64.wrap (cS + 1)) h⟩)
      ·refine a6 (congrArg I.bool eg) ?_
       simp only [eg, al.down]
       refine dL (l7 0 _ (jv 0 _ (ei _ (gg _ (.inl ?_)))))
       refine ws _ ?_
       exact aJ (an _ (.inl (aK [.bool true] rfl (by cases aI h; rfl) (by decide) aO)))
    obtain ⟨n, h⟩ := dx h
    exact dG (.inr ⟨_, br rfl, hM n 0 h⟩)
theorem oK (a0 : Int) (U : Int) (bq : Int) (r : Bool) (h : lz a0 U bq = some r) : aQ aG 87 [.int .i64 a0, .int .i64 U, .int .i64 bq] (.bool r) [] := by
 refine aQ.b7 (fx := [0, 1, 2]) b8 [.tmp 6] [(0, .int .i64 a0), (1, .int .i64 U), (2, .int .i64 bq)] Tryz.func87 rfl rfl ZE (Nat.le_of_ble_eq_true rfl) rfl rfl (fun b1 an b2 => ?_)
 refine ws _ ?_
 refine cU (bX [(6, .bool ((decide (U ≤ a0)) && (decide (a0 ≤ bq))))] (fun P aj => ?_) ?_)
 ·rcases Bool.eq_false_or_eq_true (decide (U ≤ a0)) with e9 | e9
  ·simp only [aT.down, simprocAttr, e9]
   (try simp only [bn.down, simprocAttr, e9] at aj ⊢); exact aj
  ·simp only [aT.down, simprocAttr, e9]
   (try simp only [bn.down, simprocAttr, e9] at aj ⊢); exact aj
 exact aJ (an _ (.inl (aK [.bool ((decide (U ≤ a0)) && (decide (a0 ≤ bq)))] rfl (by cases aI h; rfl) (by decide) aO)))
theorem NP (a0 : bE) (r : Int) (h : xZ a0 = some r) : aQ aG 216 [.ref (cd a0)] (.int .i64 r) [] := by
 refine aQ.b7 (fx := [0]) b8 [.tmp 2] [(0, .ref (cd a0))] Tryz.func216 rfl rfl ZR (Nat.le_of_ble_eq_true rfl) rfl rfl (fun b1 an b2 => ?_)
 refine ws _ ?_
 refine aM (fun ew ca bw au => ?_)
 refine ws _ ?_
 refine bK (fun ed dW cj bz bj => ?_)
 have tk : ∀ (g8 : Bool), xY a0 g8 = some r → dh aG Ms ed (aa [(6, .int .i64 a0.Kind), (7, .bool g8)]) := by
  intro g8 h
  rcases aS h with ⟨cM, h⟩ | ⟨cM, h⟩
  ·refine aZ (congrArg I.bool cM) ?_
   simp only [cM, al.down]
   refine ws _ ?_
   exact aJ (cj _ (bw _ (an _ (.inl (aK [.int .i64 1] rfl (by cases aI h; rfl) (by decide) aO)))))
  ·refine a6 (congrArg I.bool cM) ?_
   simp only [cM, al.down]
   refine ws _ ?_
   rcases aS h with ⟨dt, h⟩ | ⟨dt, h⟩
   ·refine aZ (congrArg I.bool dt) ?_
    simp only [dt, al.down]
    refine ws _ ?_
    exact aJ (cj _ (bw _ (an _ (.inl (aK [.int .i64 2] rfl (by cases aI h; rfl) (by decide) aO)))))
   ·refine a6 (congrArg I.bool dt) ?_
    simp only [dt, al.down]
    refine a_ (dW _ (ca _ (.inl ?_)))
    refine ws _ ?_
    exact aJ (an _ (.inl (aK [.int .i64 0] rfl (by cases aI h; rfl) (by decide) aO)))
 refine aM (fun gM d_ dV bp => ?_)
 refine ws _ ?_
 rcases aS h with ⟨c0, h⟩ | ⟨c0, h⟩
 ·refine aZ (congrArg I.bool c0) ?_
  simp only [c0, al.down]
  exact a_ (d_ _ (.inr ⟨_, br rfl, tk true h⟩))
 ·refine a6 (congrArg I.bool c0) ?_
  simp only [c0, al.down]
  refine ws _ ?_
  rcases aS h with ⟨cu, h⟩ | ⟨cu, h⟩
  ·refine aZ (congrArg I.bool cu) ?_
   simp only [cu, al.down]
   exact a_ (d_ _ (.inr ⟨_, br rfl, tk true h⟩))
  ·refine a6 (congrArg I.bool cu) ?_
   simp only [cu, al.down]
   refine wr _ ?_
   exact d_ _ (.inr ⟨_, br rfl, tk (a0.Kind == 4) h⟩)
theorem asc (a0 : List bE) (r : Bool) (h : x0 a0 = some r) : aQ aG 198 [.slice (a0.map cd)] (.bool r) [] := by
 refine aQ.b7 (fx := [0]) b8 [.tmp 2] [(0, .slice (a0.map cd))] Tryz.func198 rfl rfl Z6 (Nat.le_of_ble_eq_true rfl) rfl rfl (fun b1 an b2 => ?_)
 refine ws _ ?_
 refine aM (fun ew ca bw au => ?_)
 refine cU (bX [(0, .slice (a0.map cd)), (12, .bool (((a0.length : Int) == 0) || (decide (20 < (a0.length : Int)))))] (fun P aj => ?_) ?_)
 ·rcases Bool.eq_false_or_eq_true ((a0.length : Int) == 0) with hc | hc
  ·simp only [aT.down, simprocAttr, C6.down, hc]
   (try simp only [bn.down, simprocAttr, mH.down, hc] at aj ⊢); exact aj
  ·simp only [aT.down, simprocAttr, C6.down, hc]
   (try simp only [bn.down, simprocAttr, mH.down, hc] at aj ⊢); exact aj
 rcases aS h with ⟨bO, h⟩ | ⟨bO, h⟩
 ·refine aZ (congrArg I.bool bO) ?_
  simp only [bO, al.down]
  refine ws _ ?_
  exact aJ (bw _ (an _ (.inl (aK [.bool false] rfl (by cases aI h; rfl) (by decide) aO))))
 ·refine a6 (congrArg I.bool bO) ?_
  simp only [bO, al.down]
  refine a_ (ca _ (.inl ?_))
  refine ws _ ?_
  refine aM (fun hC g9 gv e7 => ?_)
  refine ws _ ?_
  refine bK (fun e8 cq cP b5 de => ?_)
  have ku : ∀ (n : Nat) (m6 : Int) (nP : Int), sG a0 n m6 nP = some r → du aG Mt e8 (aa [(0, .slice (a0.map cd)), (3, .int .i64 m6), (4, .int .i64 nP)]) := by
   intro gF
   induction gF with
   | zero => intro m6 nP h; cases (show none = some r from h)
   | succ gF kv =>
    intro m6 nP h
    replace h : Bj (sG a0 gF) a0 m6 nP = some r := h
    refine dH (fun iW fu il eB => ?_)
    refine aM (fun ji gg h6 iv => ?_)
    refine ws _ ?_
    rcases aS h with ⟨ei, h⟩ | ⟨ei, h⟩
    ·refine aZ (congrArg I.bool ei) ?_
     simp only [ei, al.down]
     refine a_ (gg _ (.inl ?_))
     refine aM (fun mI hW hB jv => ?_)
     refine bK (fun oJ ka jw hi l7 => ?_)
     refine aM (fun nZ jx i0 nr => ?_)
     refine ws _ ?_
     rcases aS h with ⟨en, h⟩ | ⟨en, h⟩
     ·refine aZ (congrArg I.bool en) ?_
      simp only [en, al.down]
      refine ws _ ?_
      exact aJ (i0 _ (jw _ (hB _ (il _ (cP _ (gv _ (an _ (.inl (aK [.bool false] rfl (by cases aI h; rfl) (by decide) aO)))))))))
     ·refine a6 (congrArg I.bool en) ?_
      simp only [en, al.down]
      refine a_ (jx _ (.inl ?_))
      obtain ⟨ag, hh, h⟩ := aL h
      obtain ⟨au, qn, h⟩ := aL h
      refine GO hh (NP ag _ qn) _ ?_
      refine ka _ (hW _ (.inl ?_))
      refine wr _ ?_
      exact fu _ (.inr ⟨_, br rfl, kv (IntKind.i64.wrap (m6 + (IntKind.i64.wrap (au - 1)))) (IntKind.i64.wrap (nP + 1)) h⟩)
    ·refine a6 (congrArg I.bool ei) ?_
     simp only [ei, al.down]
     refine dL (iv 0 _ (eB 0 _ (b5 _ (g9 _ (.inl ?_)))))
     refine ws _ ?_
     exact aJ (an _ (.inl (aK [.bool (m6 == 0)] rfl (by cases aI h; rfl) (by decide) aO)))
  obtain ⟨n, h⟩ := dx h
  exact dG (.inr ⟨_, br rfl, ku n 1 0 h⟩)
theorem asd (a0 : bE) (r : Bool) (h : Bl a0 = some r) : aQ aG 217 [.ref (cd a0)] (.bool r) [] := by
 refine aQ.b7 (fx := [0]) b8 [.tmp 2] [(0, .ref (cd a0))] Tryz.func217 rfl rfl aap (Nat.le_of_ble_eq_true rfl) rfl rfl (fun b1 an b2 => ?_)
 refine ws _ ?_
 refine aM (fun ew ca bw au => ?_)
 refine ws _ ?_
 refine bK (fun ed dW cj bz bj => ?_)
 have vP : ∀ (x1 : Bool), Bk a0 x1 = some r → dh aG Mu ed (aa [(0, .ref (cd a0)), (6, .int .i64 a0.Kind), (7, .bool x1)]) := by
  intro x1 h
  rcases aS h with ⟨cM, h⟩ | ⟨cM, h⟩
  ·refine aZ (congrArg I.bool cM) ?_
   simp only [cM, al.down]
   refine cU (bX [(2, .bool (((a0.Number == 0) && (a0.Name == ([] : List UInt8))) && ((a0.cA.length : Int) == 0)))] (fun P aj => ?_) ?_)
   ·(rcases Bool.eq_false_or_eq_true (a0.Number == 0) with GZ | GZ) <;> (rcases Bool.eq_false_or_eq_true (a0.Name == ([] : List UInt8)) with mG | mG) <;>
     (simp only [aT.down, simprocAttr, nW.down, GZ, mG]
      (try simp only [bn.down, simprocAttr, mH.down, GZ, mG] at aj ⊢); exact aj)
   exact aJ (cj _ (bw _ (an _ (.inl (aK [.bool (((a0.Number == 0) && (a0.Name == ([] : List UInt8))) && ((a0.cA.length : Int) == 0))] rfl (by cases aI h; rfl) (by decide) aO)))))
  ·refine a6 (congrArg I.bool cM) ?_
   simp only [cM, al.down]
   refine ws _ ?_
   rcases aS h with ⟨ho, h⟩ | ⟨ho, h⟩
   ·refine aZ (congrArg I.bool ho) ?_
    simp only [ho, al.down]
    refine ws _ ?_
    exact aJ (cj _ (bw _ (an _ (.inl (aK [.bool (a0.Number == 0)] rfl (by cases aI h; rfl) (by decide) aO)))))
   ·refine a6 (congrArg I.bool ho) ?_
    simp only [ho, al.down]
    refine ws _ ?_
    rcases aS h with ⟨ei, h⟩ | ⟨ei, h⟩
    ·refine aZ (congrArg I.bool ei) ?_
     simp only [ei, al.down]
     refine cU (bX [(2, .bool ((a0.Number == 0) && (a0.Name == ([] : List UInt8))))] (fun P aj => ?_) ?_)
     ·rcases Bool.eq_false_or_eq_true (a0.Number == 0) with yY | yY
      ·simp only [aT.down, simprocAttr, nW.down, yY]
       (try simp only [bn.down, simprocAttr, mH.down, yY] at aj ⊢); exact aj
      ·simp only [aT.down, simprocAttr, nW.down, yY]
       (try simp only [bn.down, simprocAttr, mH.down, yY] at aj ⊢); exact aj
     exact aJ (cj _ (bw _ (an _ (.inl (aK [.bool ((a0.Number == 0) && (a0.Name == ([] : List UInt8)))] rfl (by cases aI h; rfl) (by decide) aO)))))
    ·refine a6 (congrArg I.bool ei) ?_
     simp only [ei, al.down]
     refine ws _ ?_
     rcases aS h with ⟨eg, h⟩ | ⟨eg, h⟩
     ·refine aZ (congrArg I.bool eg) ?_
      simp only [eg, al.down]
      refine cU (bX [(2, .bool ((a0.Name == ([] : List UInt8)) && ((a0.cA.length : Int) == 0)))] (fun P aj => ?_) ?_)
      ·rcases Bool.eq_false_or_eq_true (a0.Name == ([] : List UInt8)) with yZ | yZ
       ·simp only [aT.down, simprocAttr, nW.down, yZ]
        (try simp only [bn.down, simprocAttr, mH.down, yZ] at aj ⊢); exact aj
       ·simp only [aT.down, simprocAttr, nW.down, yZ]
        (try simp only [bn.down, simprocAttr, mH.down, yZ] at aj ⊢); exact aj
      exact aJ (cj _ (bw _ (an _ (.inl (aK [.bool ((a0.Name == ([] : List UInt8)) && ((a0.cA.length : Int) == 0))] rfl (by cases aI h; rfl) (by decide) aO)))))
     ·refine a6 (congrArg I.bool eg) ?_
      simp only [eg, al.down]
      refine ws _ ?_
      rcases aS h with ⟨jj, h⟩ | ⟨jj, h⟩
      ·refine aZ (congrArg I.bool jj) ?_
       simp only [jj, al.down]
       refine ws _ ?_
       exact aJ (cj _ (bw _ (an _ (.inl (aK [.bool (a0.Name == ([] : List UInt8))] rfl (by cases aI h; rfl) (by decide) aO)))))
      ·refine a6 (congrArg I.bool jj) ?_
       simp only [jj, al.down]
       refine a_ (dW _ (ca _ (.inl ?_)))
       refine ws _ ?_
       exact aJ (an _ (.inl (aK [.bool false] rfl (by cases aI h; rfl) (by decide) aO)))
 refine aM (fun gM d_ dV bp => ?_)
 refine ws _ ?_
 rcases aS h with ⟨ff, h⟩ | ⟨ff, h⟩
 ·refine aZ (congrArg I.bool ff) ?_
  simp only [ff, al.down]
  exact a_ (d_ _ (.inr ⟨_, br rfl, vP true h⟩))
 ·refine a6 (congrArg I.bool ff) ?_
  simp only [ff, al.down]
  refine wr _ ?_
  exact d_ _ (.inr ⟨_, br rfl, vP (a0.Kind == 2) h⟩)
theorem ase (a0 : List bE) (U : Int) (r : Int) (h : Bn a0 U = some r) : aQ aG 224 [.slice (a0.map cd), .int .i64 U] (.int .i64 r) [] := by
 refine aQ.b7 (fx := [0]) b8 [.tmp 4] [(0, .slice (a0.map cd)), (1, .int .i64 U)] Tryz.func224 rfl rfl aax (Nat.le_of_ble_eq_true rfl) rfl rfl (fun b1 an b2 => ?_)
 refine ws _ ?_
 refine ws _ ?_
 refine aM (fun jV gE dP a2 => ?_)
 refine bK (fun ed dW cj bz bj => ?_)
 have fz : ∀ (n : Nat) (ba : Int) (aX : Int), sH a0 n ba aX = some r → du aG Mv ed (aa [(0, .slice (a0.map cd)), (1, .int .i64 ba), (5, .int .i64 aX)]) := by
  intro cC
  induction cC with
  | zero => intro ba aX h; cases (show none = some r from h)
  | succ cC fm =>
   intro ba aX h
   replace h : Bm (sH a0 cC) a0 ba aX = some r := h
   refine dH (fun gM d_ dV bp => ?_)
   refine aM (fun e_ dN dX bU => ?_)
   refine ws _ ?_
   rcases aS h with ⟨bf, h⟩ | ⟨bf, h⟩
   ·refine aZ (congrArg I.bool bf) ?_
    simp only [bf, al.down]
    refine a_ (dN _ (.inl ?_))
    refine bK (fun eG c3 cD dt dQ => ?_)
    obtain ⟨ag, oa, h⟩ := aL h
    obtain ⟨au, eJ, h⟩ := aL h
    refine iV oa (NP ag _ eJ) _ ?_
    refine wr _ ?_
    exact c3 _ (d_ _ (.inr ⟨_, br rfl, fm (IntKind.i64.wrap (ba + 1)) (IntKind.i64.wrap (aX + (IntKind.i64.wrap (au - 1)))) h⟩))
   ·refine a6 (congrArg I.bool bf) ?_
    simp only [bf, al.down]
    refine dL (bU 0 _ (bp 0 _ (bz _ (gE _ (.inl ?_)))))
    refine ws _ ?_
    exact aJ (an _ (.inl (aK [.int .i64 ba] rfl (by cases aI h; rfl) (by decide) aO)))
 obtain ⟨n, h⟩ := dx h
 exact dG (.inr ⟨_, br rfl, fz n U 1 h⟩)
theorem asf (a0 : bg) (U : Int) (r : Int) (h : vj a0 U = some r) : aQ aG 218 [.ref (bB a0), .int .i64 U] (.int .i64 r) [] := by
 refine aQ.b7 (fx := [0, 1]) b8 [.tmp 4] [(0, .ref (bB a0)), (1, .int .i64 U)] Tryz.func218 rfl rfl aaH (Nat.le_of_ble_eq_true rfl) rfl rfl (fun b1 an b2 => ?_)
 refine ws _ ?_
 refine ws _ ?_
 refine aM (fun jV gE dP a2 => ?_)
 refine ws _ ?_
 refine bK (fun gM d_ dV bO bp => ?_)
 have iY : ∀ (n : Nat) (ll : Int) (kp : Int), rb a0 U n ll kp = some r → du aG Mx gM (aa [(0, .ref (bB a0)), (1, .int .i64 U), (5, .int .i64 ll), (6, .int .i64 kp)]) := by
  intro eK
  induction eK with
  | zero => intro ll kp h; cases (show none = some r from h)
  | succ eK iZ =>
   intro ll kp h
   replace h : Bo (rb a0 U eK) a0 U ll kp = some r := h
   refine dH (fun e_ dN dX bU => ?_)
   refine aM (fun g3 dM eM cZ => ?_)
   refine ws _ ?_
   rcases aS h with ⟨dt, h⟩ | ⟨dt, h⟩
   ·refine aZ (congrArg I.bool dt) ?_
    simp only [dt, al.down]
    refine a_ (dM _ (.inl ?_))
    have vQ : ∀ (vh : Int) (vi : Int), x2 (rb a0 U eK) a0 U vh vi = some r → dh aG Mw e_ (aa [(0, .ref (bB a0)), (1, .int .i64 U), (5, .int .i64 vh), (6, .int .i64 vi)]) := by
     intro vh vi h
     refine wr _ ?_
     exact dN _ (.inr ⟨_, br rfl, iZ vh (IntKind.i64.wrap (vi + 1)) h⟩)
    refine aM (fun e8 cq cP de => ?_)
    refine bK (fun ji gg h6 cT iv => ?_)
    obtain ⟨ag, er, h⟩ := aL h
    rcases aS h with ⟨cu, h⟩ | ⟨cu, h⟩
    ·obtain ⟨au, cV, h⟩ := aL h
     refine cU (bX [(0, .ref (bB a0)), (1, .int .i64 U), (5, .int .i64 ll), (6, .int .i64 kp), (34, .bool (decide (U < au)))] (fun P aj => ?_) ?_)
     ·simp only [aT.down, simprocAttr, pz.down, er, cu]
      refine hy (ase a0.Body kp _ cV) rfl rfl rfl rfl (.inl (by rfl)) ?_
      simp only [aT.down, simprocAttr, pz.down, er, cu]
      (try simp only [bn.down, simprocAttr, hU.down, er, cu] at aj ⊢); exact aj
     rcases aS h with ⟨im, h⟩ | ⟨im, h⟩
     ·refine aZ (congrArg I.bool im) ?_
      simp only [im, al.down]
      refine wr _ ?_
      exact gg _ (cq _ (.inr ⟨_, br rfl, vQ (IntKind.i64.wrap (ll + 1)) kp h⟩))
     ·refine a6 (congrArg I.bool im) ?_
      simp only [im, al.down]
      exact a_ (gg _ (cq _ (.inr ⟨_, br rfl, vQ ll kp h⟩)))
    ·refine g1 (And.intro er cu) _ ?_
     refine a6 rfl ?_
     exact a_ (gg _ (cq _ (.inr ⟨_, br rfl, vQ ll kp h⟩)))
   ·refine a6 (congrArg I.bool dt) ?_
    simp only [dt, al.down]
    refine dL (cZ 0 _ (bU 0 _ (bO _ (gE _ (.inl ?_)))))
    refine ws _ ?_
    exact aJ (an _ (.inl (aK [.int .i64 ll] rfl (by cases aI h; rfl) (by decide) aO)))
 obtain ⟨n, h⟩ := dx h
 exact dG (.inr ⟨_, br rfl, iY n a0.dj 0 h⟩)
theorem asg (a0 : bW) (U : Int) (r : Bool) (h : Bp a0 U = some r) : aQ aG 175 [.ref (b0 a0), .int .i64 U] (.bool r) [] := by
 refine aQ.b7 (fx := [0, 1]) b8 [.tmp 4] [(0, .ref (b0 a0)), (1, .int .i64 U)] Tryz.func175 rfl rfl aaX (Nat.le_of_ble_eq_true rfl) rfl rfl (fun b1 an b2 => ?_)
 refine ws _ ?_
 refine aM (fun ew ca bw au => ?_)
 refine ws _ ?_
 refine bK (fun ed dW cj bz bj => ?_)
 refine ws _ ?_
 rcases aS h with ⟨cM, h⟩ | ⟨cM, h⟩
 ·refine aZ (congrArg I.bool cM) ?_
  simp only [cM, al.down]
  obtain ⟨ag, iB, h⟩ := aL h
  refine dZ (oK a0.Value 0 63 _ iB) _ ?_
  exact aJ (cj _ (bw _ (an _ (.inl (aK [.bool ag] rfl (by cases aI h; rfl) (by decide) aO)))))
 ·refine a6 (congrArg I.bool cM) ?_
  simp only [cM, al.down]
  refine ws _ ?_
  rcases aS h with ⟨b5, h⟩ | ⟨b5, h⟩
  ·refine aZ (congrArg I.bool b5) ?_
   simp only [b5, al.down]
   obtain ⟨au, eJ, h⟩ := aL h
   refine dZ (oK a0.Value 0 (IntKind.i64.wrap (U - 1)) _ eJ) _ ?_
   exact aJ (cj _ (bw _ (an _ (.inl (aK [.bool au] rfl (by cases aI h; rfl) (by decide) aO)))))
  ·refine a6 (congrArg I.bool b5) ?_
   simp only [b5, al.down]
   refine ws _ ?_
   rcases aS h with ⟨ei, h⟩ | ⟨ei, h⟩
   ·refine aZ (congrArg I.bool ei) ?_
    simp only [ei, al.down]
    obtain ⟨a2, cV, h⟩ := aL h
    refine dZ (oK a0.Value 0 8 _ cV) _ ?_
    exact aJ (cj _ (bw _ (an _ (.inl (aK [.bool a2] rfl (by cases aI h; rfl) (by decide) aO)))))
   ·refine a6 (congrArg I.bool ei) ?_
    simp only [ei, al.down]
    refine ws _ ?_
    rcases aS h with ⟨eg, h⟩ | ⟨eg, h⟩
    ·refine aZ (congrArg I.bool eg) ?_
     simp only [eg, al.down]
     refine ws _ ?_
     exact aJ (cj _ (bw _ (an _ (.inl (aK [.bool (a0.Value == 0)] rfl (by cases aI h; rfl) (by decide) aO)))))
    ·refine a6 (congrArg I.bool eg) ?_
     simp only [eg, al.down]
     refine a_ (dW _ (ca _ (.inl ?_)))
     refine ws _ ?_
     exact aJ (an _ (.inl (aK [.bool false] rfl (by cases aI h; rfl) (by decide) aO)))
theorem ash (a0 : bW) (r : Int) (h : Gb a0 = some r) : aQ aG 176 [.ref (b0 a0)] (.int .i64 r) [] := by
 refine aQ.b7 (fx := [0]) b8 [.tmp 2] [(0, .ref (b0 a0))] Tryz.func176 rfl rfl aa7 (Nat.le_of_ble_eq_true rfl) rfl rfl (fun b1 an b2 => ?_)
 refine ws _ ?_
 refine aM (fun ew ca bw au => ?_)
 refine ws _ ?_
 refine bK (fun ed dW cj bz bj => ?_)
 refine ws _ ?_
 rcases aS h with ⟨cM, h⟩ | ⟨cM, h⟩
 ·refine aZ (congrArg I.bool cM) ?_
  simp only [cM, al.down]
  refine ws _ ?_
  exact aJ (cj _ (bw _ (an _ (.inl (aK [.int .i64 2] rfl (by cases aI h; rfl) (by decide) aO)))))
 ·refine a6 (congrArg I.bool cM) ?_
  simp only [cM, al.down]
  refine ws _ ?_
  rcases aS h with ⟨dt, h⟩ | ⟨dt, h⟩
  ·refine aZ (congrArg I.bool dt) ?_
   simp only [dt, al.down]
   refine ws _ ?_
   exact aJ (cj _ (bw _ (an _ (.inl (aK [.int .i64 1] rfl (by cases aI h; rfl) (by decide) aO)))))
  ·refine a6 (congrArg I.bool dt) ?_
   simp only [dt, al.down]
   refine a_ (dW _ (ca _ (.inl ?_)))
   refine ws _ ?_
   exact aJ (an _ (.inl (aK [.int .i64 0] rfl (by cases aI h; rfl) (by decide) aO)))
theorem asi (a0 : List bW) (U : Int) (bq : Int) (r : Bool) (h : Br a0 U bq = some r) : aQ aG 140 [.slice (a0.map b0), .int .i64 U, .int .i64 bq] (.bool r) [] := by
 refine aQ.b7 (fx := [0, 1, 2]) b8 [.tmp 6] [(0, .slice (a0.map b0)), (1, .int .i64 U), (2, .int .i64 bq)] Tryz.func140 rfl rfl abl (Nat.le_of_ble_eq_true rfl) rfl rfl (fun b1 an b2 => ?_)
 refine ws _ ?_
 refine aM (fun ew ca bw au => ?_)
 refine ws _ ?_
 rcases aS h with ⟨bz, h⟩ | ⟨bz, h⟩
 ·refine aZ (congrArg I.bool bz) ?_
  simp only [bz, al.down]
  refine ws _ ?_
  exact aJ (bw _ (an _ (.inl (aK [.bool false] rfl (by cases aI h; rfl) (by decide) aO))))
 ·refine a6 (congrArg I.bool bz) ?_
  simp only [bz, al.down]
  refine a_ (ca _ (.inl ?_))
  refine ws _ ?_
  refine aM (fun g3 dM eM cZ => ?_)
  refine ws _ ?_
  refine bK (fun eG c3 cD dt dQ => ?_)
  have ku : ∀ (n : Nat) (g8 : Int) (m7 : Int), sI a0 U n g8 m7 = some r → du aG My eG (aa [(0, .slice (a0.map b0)), (1, .int .i64 U), (7, .int .i64 g8), (8, .int .i64 m7)]) := by
   intro gF
   induction gF with
   | zero => intro g8 m7 h; cases (show none = some r from h)
   | succ gF kv =>
    intro g8 m7 h
    replace h : Bq (sI a0 U gF) a0 U g8 m7 = some r := h
    refine dH (fun e8 cq cP de => ?_)
    refine aM (fun iW fu il eB => ?_)
    refine ws _ ?_
    rcases aS h with ⟨c0, h⟩ | ⟨c0, h⟩
    ·refine aZ (congrArg I.bool c0) ?_
     simp only [c0, al.down]
     refine a_ (fu _ (.inl ?_))
     refine aM (fun iX fI eS hA => ?_)
     refine bK (fun mI hW hB cu jv => ?_)
     refine aM (fun oJ ka jw l7 => ?_)
     rcases aS h with ⟨eg, h⟩ | ⟨eg, h⟩
     ·refine g1 eg _ ?_
      refine aZ rfl ?_
      refine ws _ ?_
      exact aJ (jw _ (hB _ (eS _ (cP _ (cD _ (eM _ (an _ (.inl (aK [.bool false] rfl (by cases aI h; rfl) (by decide) aO)))))))))
     ·obtain ⟨ag, iq, h⟩ := aL h
      obtain ⟨au, nX, h⟩ := aL h
      refine cU (bX [(0, .slice (a0.map b0)), (1, .int .i64 U), (7, .int .i64 g8), (8, .int .i64 m7), (28, .bool (!au))] (fun P aj => ?_) ?_)
      ·simp only [aT.down, simprocAttr, nk.down, eg, iq]
       refine hy (asg ag U _ nX) rfl rfl rfl rfl (.inl (by rfl)) ?_
       simp only [aT.down, simprocAttr, nk.down, eg, iq]
       (try simp only [bn.down, simprocAttr, b0, eg, iq] at aj ⊢); exact aj
      rcases aS h with ⟨jj, h⟩ | ⟨jj, h⟩
      ·refine aZ (congrArg I.bool jj) ?_
       simp only [(db jj), al.down]
       refine ws _ ?_
       exact aJ (jw _ (hB _ (eS _ (cP _ (cD _ (eM _ (an _ (.inl (aK [.bool false] rfl (by cases aI h; rfl) (by decide) aO)))))))))
      ·refine a6 (congrArg I.bool jj) ?_
       simp only [(bC jj), al.down]
       refine a_ (ka _ (.inl ?_))
       obtain ⟨a2, kS, h⟩ := aL h
       refine GO iq (ash ag _ kS) _ ?_
       refine hW _ (fI _ (.inl ?_))
       refine wr _ ?_
       exact cq _ (.inr ⟨_, br rfl, kv (IntKind.i64.wrap (g8 + (IntKind.i64.wrap (a2 - 1)))) (IntKind.i64.wrap (m7 + 1)) h⟩)
    ·refine a6 (congrArg I.bool c0) ?_
     simp only [c0, al.down]
     refine dL (eB 0 _ (de 0 _ (dt _ (dM _ (.inl ?_)))))
     refine ws _ ?_
     exact aJ (an _ (.inl (aK [.bool (g8 == 0)] rfl (by cases aI h; rfl) (by decide) aO)))
  obtain ⟨n, h⟩ := dx h
  exact dG (.inr ⟨_, br rfl, ku n 1 0 h⟩)
theorem asj (a0 : List bg) (U : bg) (bq : Int) (r : Int) (h : qb a0 U bq = some r) : aQ aG 199 [.slice (a0.map bB), .ref (bB U), .int .i64 bq] (.int .i64 r) [] := by
 refine aQ.b7 (fx := [0, 1, 2]) b8 [.tmp 6] [(0, .slice (a0.map bB)), (1, .ref (bB U)), (2, .int .i64 bq)] Tryz.func199 rfl rfl ab0 (Nat.le_of_ble_eq_true rfl) rfl rfl (fun b1 an b2 => ?_)
 refine ws _ ?_
 obtain ⟨ag, a8, h⟩ := aL h
 refine g1 a8 _ ?_
 refine aM (fun ed dW cj bj => ?_)
 obtain ⟨au, cv, h⟩ := aL h
 refine cU (bX [(0, .slice (a0.map bB)), (1, .ref (bB U)), (2, .int .i64 bq), (7, .bd (cd ag)), (19, .bool (!au))] (fun P aj => ?_) ?_)
 ·refine e6 (asd ag _ cv) rfl rfl (by simp only [aT.down, simprocAttr, hU.down, fY, fZ, f_, di, @cb _ eC eC (fun _ => GG _)] <;> rfl) rfl (.inr (by rfl)) ?_
  simp only [aT.down, simprocAttr, hU.down]
  (try simp only [bn.down, simprocAttr, hU.down] at aj ⊢); exact aj
 rcases aS h with ⟨iM, h⟩ | ⟨iM, h⟩
 ·refine aZ (congrArg I.bool iM) ?_
  simp only [(db iM), al.down]
  refine ws _ ?_
  exact aJ (cj _ (an _ (.inl (aK [.int .i64 2] rfl (by cases aI h; rfl) (by decide) aO))))
 ·refine a6 (congrArg I.bool iM) ?_
  simp only [(bC iM), al.down]
  refine a_ (dW _ (.inl ?_))
  refine aM (fun eG c3 cD dQ => ?_)
  have NQ : ∀ (x6 : Bool), x5 a0 U bq ag x6 = some r → dh aG Mz eG (aa [(0, .slice (a0.map bB)), (1, .ref (bB U)), (2, .int .i64 bq), (7, .bd (cd ag)), (28, .bool x6)]) := by
   intro x6 h
   rcases aS h with ⟨b5, h⟩ | ⟨b5, h⟩
   ·refine aZ (congrArg I.bool b5) ?_
    simp only [b5, al.down]
    refine ws _ ?_
    exact aJ (cD _ (an _ (.inl (aK [.int .i64 3] rfl (by cases aI h; rfl) (by decide) aO))))
   ·refine a6 (congrArg I.bool b5) ?_
    simp only [b5, al.down]
    refine a_ (c3 _ (.inl ?_))
    refine aM (fun ji gg h6 iv => ?_)
    have y0 : ∀ (x4 : Bool), rf a0 U bq ag x4 = some r → dh aG MA ji (aa [(0, .slice (a0.map bB)), (1, .ref (bB U)), (2, .int .i64 bq), (7, .bd (cd ag)), (51, .bool x4)]) := by
     intro x4 h
     rcases aS h with ⟨c0, h⟩ | ⟨c0, h⟩
     ·refine aZ (congrArg I.bool c0) ?_
      simp only [c0, al.down]
      refine ws _ ?_
      exact aJ (h6 _ (an _ (.inl (aK [.int .i64 4] rfl (by cases aI h; rfl) (by decide) aO))))
     ·refine a6 (congrArg I.bool c0) ?_
      simp only [c0, al.down]
      refine a_ (gg _ (.inl ?_))
      refine ws _ ?_
      have Dg : sJ U bq ag = some r → dh aG MD b1 (aa [(1, .ref (bB U)), (2, .int .i64 bq), (7, .bd (cd ag)), (8, .int .i64 (ag.cA.length : Int))]) := by
       intro h
       refine aM (fun nZ jx i0 nr => ?_)
       have G0 : ∀ (x3 : Bool), vk U bq ag x3 = some r → dh aG MB nZ (aa [(1, .ref (bB U)), (2, .int .i64 bq), (7, .bd (cd ag)), (8, .int .i64 (ag.cA.length : Int)), (102, .bool x3)]) := by
        intro x3 h
        rcases aS h with ⟨eg, h⟩ | ⟨eg, h⟩
        ·refine aZ (congrArg I.bool eg) ?_
         simp only [eg, al.down]
         refine ws _ ?_
         exact aJ (i0 _ (an _ (.inl (aK [.int .i64 6] rfl (by cases aI h; rfl) (by decide) aO))))
        ·refine a6 (congrArg I.bool eg) ?_
         simp only [eg, al.down]
         refine a_ (jx _ (.inl ?_))
         obtain ⟨a2, nX, h⟩ := aL h
         refine dZ (asf U bq _ nX) _ ?_
         refine aM (fun vM nq mJ vN => ?_)
         refine cU (bX [(7, .bd (cd ag)), (8, .int .i64 (ag.cA.length : Int)), (9, .int .i64 a2), (112, .bool ((ag.Kind == 4) && (decide (6 ≤ a2))))] (fun P aj => ?_) ?_)
         ·rcases Bool.eq_false_or_eq_true (ag.Kind == 4) with y1 | y1
          ·simp only [aT.down, simprocAttr, nW.down, y1]
           (try simp only [bn.down, simprocAttr, mH.down, y1] at aj ⊢); exact aj
          ·simp only [aT.down, simprocAttr, nW.down, y1]
           (try simp only [bn.down, simprocAttr, mH.down, y1] at aj ⊢); exact aj
         rcases aS h with ⟨hN, h⟩ | ⟨hN, h⟩
         ·refine aZ (congrArg I.bool hN) ?_
          simp only [hN, al.down]
          refine ws _ ?_
          exact aJ (mJ _ (an _ (.inl (aK [.int .i64 7] rfl (by cases aI h; rfl) (by decide) aO))))
         ·refine a6 (congrArg I.bool hN) ?_
          simp only [hN, al.down]
          refine a_ (nq _ (.inl ?_))
          refine aM (fun NR vR Dh G1 => ?_)
          refine ws _ ?_
          refine bK (fun G2 n29 Di i1 NS => ?_)
          have asl : ∀ (n : Nat) (nQ : Int) (nR : Int), re ag n nQ nR = some r → du aG MC G2 (aa [(7, .bd (cd ag)), (8, .int .i64 (ag.cA.length : Int)), (9, .int .i64 nQ), (10, .int .i64 nR)]) := by
           intro G3
           induction G3 with
           | zero => intro nQ nR h; cases (show none = some r from h)
           | succ G3 asm =>
            intro nQ nR h
            replace h : Bs (re ag G3) ag nQ nR = some r := h
            refine dH (fun NT n30 NU NV => ?_)
            refine aM (fun Dj n31 vS y2 => ?_)
            refine ws _ ?_
            rcases aS h with ⟨fT, h⟩ | ⟨fT, h⟩
            ·refine aZ (congrArg I.bool fT) ?_
             simp only [fT, al.down]
             refine a_ (n31 _ (.inl ?_))
             refine aM (fun ayI n34 asn ayJ => ?_)
             refine bK (fun G4 n35 G5 l8 NW => ?_)
             obtain ⟨bj, aso, h⟩ := aL h
             obtain ⟨bp, asp, h⟩ := aL h
             refine iV aso (asi bj nQ 15 _ asp) _ ?_
             rcases aS h with ⟨kT, h⟩ | ⟨kT, h⟩
             ·refine aZ (congrArg I.bool kT) ?_
              simp only [(db kT), al.down]
              refine ws _ ?_
              exact aJ (G5 _ (asn _ (NU _ (Di _ (Dh _ (an _ (.inl (aK [.int .i64 8] rfl (by cases aI h; rfl) (by decide) aO))))))))
             ·refine a6 (congrArg I.bool kT) ?_
              simp only [(bC kT), al.down]
              refine a_ (n35 _ (n34 _ (.inl ?_)))
              refine wr _ ?_
              exact n30 _ (.inr ⟨_, br rfl, asm nQ (IntKind.i64.wrap (nR + 1)) h⟩)
            ·refine a6 (congrArg I.bool fT) ?_
             simp only [fT, al.down]
             refine dL (y2 1 _ (NV 1 _ (i1 _ (vR _ (.inl ?_)))))
             refine ws _ ?_
             exact aJ (an _ (.inl (aK [.int .i64 0] rfl (by cases aI h; rfl) (by decide) aO)))
          obtain ⟨n, h⟩ := dx h
          exact dG (.inr ⟨_, br rfl, asl n a2 0 h⟩)
       rcases aS h with ⟨rv, h⟩ | ⟨rv, h⟩
       ·rcases aS h with ⟨oL, h⟩ | ⟨oL, h⟩
        ·refine kP (bX (K := eN _) [(1, .ref (bB U)), (2, .int .i64 bq), (7, .bd (cd ag)), (8, .int .i64 (ag.cA.length : Int)), (102, .bool true)] (fun P aj => ?_) ?_)
         ·simp only [aT.down, simprocAttr, pz.down, rv, oL]
          (try simp only [bn.down, simprocAttr, hU.down, rv, oL] at aj ⊢); exact aj
         exact .inr ⟨_, br rfl, G0 true h⟩
        ·obtain ⟨bU, tl, h⟩ := aL h
         refine kP (bX (K := eN _) [(1, .ref (bB U)), (2, .int .i64 bq), (7, .bd (cd ag)), (8, .int .i64 (ag.cA.length : Int)), (102, .bool (bU.Kind != 1))] (fun P aj => ?_) ?_)
         ·simp only [aT.down, simprocAttr, pz.down, rv, oL, tl]
          (try simp only [bn.down, simprocAttr, hU.down, rv, oL, tl] at aj ⊢); exact aj
         exact .inr ⟨_, br rfl, G0 (bU.Kind != 1) h⟩
       ·refine kP (bX (K := eN _) [(1, .ref (bB U)), (2, .int .i64 bq), (7, .bd (cd ag)), (8, .int .i64 (ag.cA.length : Int)), (102, .bool false)] (fun P aj => ?_) ?_)
        ·simp only [aT.down, simprocAttr, pz.down, rv]
         (try simp only [bn.down, simprocAttr, hU.down, rv] at aj ⊢); exact aj
        exact .inr ⟨_, br rfl, G0 false h⟩
      refine aM (fun oJ ka jw l7 => ?_)
      refine ws _ ?_
      refine bK (fun asq vT y3 tm asr => ?_)
      refine ws _ ?_
      rcases aS h with ⟨y4, h⟩ | ⟨y4, h⟩
      ·refine aZ (congrArg I.bool y4) ?_
       simp only [y4, al.down]
       refine cU (bX [(1, .ref (bB U)), (2, .int .i64 bq), (7, .bd (cd ag)), (8, .int .i64 (ag.cA.length : Int)), (69, .bool ((decide (2 < (ag.cA.length : Int))) || ((decide (0 < (ag.cA.length : Int))) && (ag.Name == ([116, 97, 117] : List UInt8)))))] (fun P aj => ?_) ?_)
       ·(rcases Bool.eq_false_or_eq_true (decide (2 < (ag.cA.length : Int))) with yR | yR) <;> (rcases Bool.eq_false_or_eq_true (decide (0 < (ag.cA.length : Int))) with yP | yP) <;>
         (simp only [aT.down, simprocAttr, yT.down, yR, yP]
          (try simp only [bn.down, simprocAttr, hU.down, yR, yP] at aj ⊢); exact aj)
       rcases aS h with ⟨y5, h⟩ | ⟨y5, h⟩
       ·refine aZ (congrArg I.bool y5) ?_
        simp only [y5, al.down]
        refine ws _ ?_
        exact aJ (y3 _ (jw _ (an _ (.inl (aK [.int .i64 5] rfl (by cases aI h; rfl) (by decide) aO)))))
       ·refine a6 (congrArg I.bool y5) ?_
        simp only [y5, al.down]
        exact a_ (vT _ (ka _ (.inr ⟨_, br rfl, Dg h⟩)))
      ·refine a6 (congrArg I.bool y4) ?_
       simp only [y4, al.down]
       refine ws _ ?_
       rcases aS h with ⟨oM, h⟩ | ⟨oM, h⟩
       ·refine aZ (congrArg I.bool oM) ?_
        simp only [oM, al.down]
        refine ws _ ?_
        rcases aS h with ⟨vU, h⟩ | ⟨vU, h⟩
        ·refine aZ (congrArg I.bool vU) ?_
         simp only [vU, al.down]
         refine ws _ ?_
         exact aJ (y3 _ (jw _ (an _ (.inl (aK [.int .i64 5] rfl (by cases aI h; rfl) (by decide) aO)))))
        ·refine a6 (congrArg I.bool vU) ?_
         simp only [vU, al.down]
         exact a_ (vT _ (ka _ (.inr ⟨_, br rfl, Dg h⟩)))
       ·refine a6 (congrArg I.bool oM) ?_
        simp only [oM, al.down]
        refine ws _ ?_
        rcases aS h with ⟨y6, h⟩ | ⟨y6, h⟩
        ·refine aZ (congrArg I.bool y6) ?_
         simp only [y6, al.down]
         obtain ⟨cZ, G6, h⟩ := aL h
         refine g1 G6 _ ?_
         rcases aS h with ⟨y7, h⟩ | ⟨y7, h⟩
         ·refine aZ (congrArg I.bool y7) ?_
          simp only [y7, al.down]
          refine ws _ ?_
          exact aJ (y3 _ (jw _ (an _ (.inl (aK [.int .i64 5] rfl (by cases aI h; rfl) (by decide) aO)))))
         ·refine a6 (congrArg I.bool y7) ?_
          simp only [y7, al.down]
          exact a_ (vT _ (ka _ (.inr ⟨_, br rfl, Dg h⟩)))
        ·refine a6 (congrArg I.bool y6) ?_
         simp only [y6, al.down]
         exact a_ (vT _ (ka _ (.inr ⟨_, br rfl, Dg h⟩)))
    rcases aS h with ⟨lH, h⟩ | ⟨lH, h⟩
    ·obtain ⟨e7, G7, h⟩ := aL h
     rcases aS h with ⟨oN, h⟩ | ⟨oN, h⟩
     ·refine kP (bX (K := eN _) [(0, .slice (a0.map bB)), (1, .ref (bB U)), (2, .int .i64 bq), (7, .bd (cd ag)), (51, .bool true)] (fun P aj => ?_) ?_)
      ·simp only [aT.down, simprocAttr, iG.down, lH, (db oN)]
       refine hy (oK ag.Number 1 7 _ G7) rfl rfl rfl rfl (.inl (by rfl)) ?_
       simp only [aT.down, simprocAttr, iG.down, lH, (db oN)]
       (try simp only [bn.down, simprocAttr, hU.down, lH, (db oN)] at aj ⊢); exact aj
      exact .inr ⟨_, br rfl, y0 true h⟩
     ·rcases aS h with ⟨mK, h⟩ | ⟨mK, h⟩
      ·obtain ⟨dQ, ass, h⟩ := aL h
       refine kP (bX (K := eN _) [(0, .slice (a0.map bB)), (1, .ref (bB U)), (2, .int .i64 bq), (7, .bd (cd ag)), (51, .bool (!dQ))] (fun P aj => ?_) ?_)
       ·simp only [aT.down, simprocAttr, iG.down, lH, (bC oN), mK]
        refine hy (oK ag.Number 1 7 _ G7) rfl rfl rfl rfl (.inl (by rfl)) ?_
        simp only [aT.down, simprocAttr, iG.down, lH, (bC oN), mK]
        refine hy (oK ag.Number 0 (IntKind.i64.wrap ((a0.length : Int) - 1)) _ ass) rfl rfl rfl rfl (.inl (by rfl)) ?_
        simp only [aT.down, simprocAttr, iG.down, lH, (bC oN), mK]
        (try simp only [bn.down, simprocAttr, hU.down, lH, (bC oN), mK] at aj ⊢); exact aj
       exact .inr ⟨_, br rfl, y0 (!dQ) h⟩
      ·refine kP (bX (K := eN _) [(0, .slice (a0.map bB)), (1, .ref (bB U)), (2, .int .i64 bq), (7, .bd (cd ag)), (51, .bool false)] (fun P aj => ?_) ?_)
       ·simp only [aT.down, simprocAttr, iG.down, lH, (bC oN), mK]
        refine hy (oK ag.Number 1 7 _ G7) rfl rfl rfl rfl (.inl (by rfl)) ?_
        simp only [aT.down, simprocAttr, iG.down, lH, (bC oN), mK]
        (try simp only [bn.down, simprocAttr, hU.down, lH, (bC oN), mK] at aj ⊢); exact aj
       exact .inr ⟨_, br rfl, y0 false h⟩
    ·rcases aS h with ⟨vV, h⟩ | ⟨vV, h⟩
     ·obtain ⟨de, ast, h⟩ := aL h
      refine kP (bX (K := eN _) [(0, .slice (a0.map bB)), (1, .ref (bB U)), (2, .int .i64 bq), (7, .bd (cd ag)), (51, .bool (!de))] (fun P aj => ?_) ?_)
      ·simp only [aT.down, simprocAttr, iG.down, lH, vV]
       refine hy (oK ag.Number 0 (IntKind.i64.wrap ((a0.length : Int) - 1)) _ ast) rfl rfl rfl rfl (.inl (by rfl)) ?_
       simp only [aT.down, simprocAttr, iG.down, lH, vV]
       (try simp only [bn.down, simprocAttr, hU.down, lH, vV] at aj ⊢); exact aj
      exact .inr ⟨_, br rfl, y0 (!de) h⟩
     ·refine kP (bX (K := eN _) [(0, .slice (a0.map bB)), (1, .ref (bB U)), (2, .int .i64 bq), (7, .bd (cd ag)), (51, .bool false)] (fun P aj => ?_) ?_)
      ·simp only [aT.down, simprocAttr, iG.down, lH, vV]
       (try simp only [bn.down, simprocAttr, hU.down, lH, vV] at aj ⊢); exact aj
      exact .inr ⟨_, br rfl, y0 false h⟩
  rcases aS h with ⟨vW, h⟩ | ⟨vW, h⟩
  ·obtain ⟨eB, asu, h⟩ := aL h
   refine kP (bX (K := eN _) [(0, .slice (a0.map bB)), (1, .ref (bB U)), (2, .int .i64 bq), (7, .bd (cd ag)), (28, .bool (!eB))] (fun P aj => ?_) ?_)
   ·simp only [aT.down, simprocAttr, yT.down, vW]
    refine hy (yW ag.Name _ asu) rfl rfl rfl rfl (.inl (by rfl)) ?_
    simp only [aT.down, simprocAttr, yT.down, vW]
    (try simp only [bn.down, simprocAttr, hU.down, vW] at aj ⊢); exact aj
   exact .inr ⟨_, br rfl, NQ (!eB) h⟩
  ·refine kP (bX (K := eN _) [(0, .slice (a0.map bB)), (1, .ref (bB U)), (2, .int .i64 bq), (7, .bd (cd ag)), (28, .bool false)] (fun P aj => ?_) ?_)
   ·simp only [aT.down, simprocAttr, yT.down, vW]
    (try simp only [bn.down, simprocAttr, hU.down, vW] at aj ⊢); exact aj
   exact .inr ⟨_, br rfl, NQ false h⟩
theorem asv (a0 : List bg) (U : bg) (r : Int × Int) (h : rh a0 U = some r) : aQ aG 162 [.slice (a0.map bB), .ref (bB U)] (.tuple [.int .i64 r.1, .int .i64 r.2]) [] := by
 refine aQ.b7 (fx := [0, 1]) b8 [.tmp 4, .tmp 5] [(0, .slice (a0.map bB)), (1, .ref (bB U))] Tryz.func162 rfl rfl ace (Nat.le_of_ble_eq_true rfl) rfl rfl (fun b1 an b2 => ?_)
 refine ws _ ?_
 refine aM (fun ew ca bw au => ?_)
 obtain ⟨ag, c6, h⟩ := aL h
 refine dZ (asc U.Body _ c6) _ ?_
 rcases aS h with ⟨bO, h⟩ | ⟨bO, h⟩
 ·refine aZ (congrArg I.bool bO) ?_
  simp only [(db bO), al.down]
  refine ws _ ?_
  exact aJ (bw _ (an _ (.inl (aK [.int .i64 0, .int .i64 1] rfl (by cases aI h; rfl) (by decide) aO))))
 ·refine a6 (congrArg I.bool bO) ?_
  simp only [(bC bO), al.down]
  refine a_ (ca _ (.inl ?_))
  refine aM (fun g3 dM eM cZ => ?_)
  refine ws _ ?_
  refine bK (fun eG c3 cD dt dQ => ?_)
  have hM : ∀ (n : Nat) (l0 : Int), pv a0 U n l0 = some r → du aG ME eG (aa [(0, .slice (a0.map bB)), (1, .ref (bB U)), (6, .int .i64 l0)]) := by
   intro dR
   induction dR with
   | zero => intro l0 h; cases (show none = some r from h)
   | succ dR hp =>
    intro l0 h
    replace h : vl (pv a0 U dR) a0 U l0 = some r := h
    refine dH (fun e8 cq cP de => ?_)
    refine aM (fun iW fu il eB => ?_)
    refine ws _ ?_
    rcases aS h with ⟨c0, h⟩ | ⟨c0, h⟩
    ·refine aZ (congrArg I.bool c0) ?_
     simp only [c0, al.down]
     refine a_ (fu _ (.inl ?_))
     refine aM (fun iX fI eS hA => ?_)
     refine bK (fun mI hW hB cu jv => ?_)
     obtain ⟨au, eT, h⟩ := aL h
     refine dZ (asj a0 U l0 _ eT) _ ?_
     refine ws _ ?_
     rcases aS h with ⟨en, h⟩ | ⟨en, h⟩
     ·refine aZ (congrArg I.bool en) ?_
      simp only [en, al.down]
      refine ws _ ?_
      exact aJ (hB _ (eS _ (cP _ (cD _ (eM _ (an _ (.inl (aK [.int .i64 l0, .int .i64 au] rfl (by cases aI h; rfl) (by decide) aO))))))))
     ·refine a6 (congrArg I.bool en) ?_
      simp only [en, al.down]
      refine a_ (hW _ (fI _ (.inl ?_)))
      refine wr _ ?_
      exact cq _ (.inr ⟨_, br rfl, hp (IntKind.i64.wrap (l0 + 1)) h⟩)
    ·refine a6 (congrArg I.bool c0) ?_
     simp only [c0, al.down]
     refine dL (eB 0 _ (de 0 _ (dt _ (dM _ (.inl ?_)))))
     refine ws _ ?_
     exact aJ (an _ (.inl (aK [.int .i64 0, .int .i64 0] rfl (by cases aI h; rfl) (by decide) aO)))
  obtain ⟨n, h⟩ := dx h
  exact dG (.inr ⟨_, br rfl, hM n 0 h⟩)
theorem asw (a0 : List bg) (r : Bool) (h : Bw a0 = some r) : aQ aG 122 [.slice (a0.map bB)] (.bool r) [] := by
 refine aQ.b7 (fx := [0]) b8 [.tmp 2] [(0, .slice (a0.map bB))] Tryz.func122 rfl rfl acI (Nat.le_of_ble_eq_true rfl) rfl rfl (fun b1 an b2 => ?_)
 refine ws _ ?_
 refine aM (fun ew ca bw au => ?_)
 refine cU (bX [(0, .slice (a0.map bB)), (15, .bool (((a0.length : Int) == 0) || (decide (4 < (a0.length : Int)))))] (fun P aj => ?_) ?_)
 ·rcases Bool.eq_false_or_eq_true ((a0.length : Int) == 0) with hc | hc
  ·simp only [aT.down, simprocAttr, iG.down, hc]
   (try simp only [bn.down, simprocAttr, hU.down, hc] at aj ⊢); exact aj
  ·simp only [aT.down, simprocAttr, iG.down, hc]
   (try simp only [bn.down, simprocAttr, hU.down, hc] at aj ⊢); exact aj
 rcases aS h with ⟨bO, h⟩ | ⟨bO, h⟩
 ·refine aZ (congrArg I.bool bO) ?_
  simp only [bO, al.down]
  refine ws _ ?_
  exact aJ (bw _ (an _ (.inl (aK [.bool false] rfl (by cases aI h; rfl) (by decide) aO))))
 ·refine a6 (congrArg I.bool bO) ?_
  simp only [bO, al.down]
  refine a_ (ca _ (.inl ?_))
  refine aM (fun g3 dM eM cZ => ?_)
  refine ws _ ?_
  refine bK (fun eG c3 cD dt dQ => ?_)
  have hM : ∀ (n : Nat) (cS : Int), nT a0 n cS = some r → du aG MG eG (aa [(0, .slice (a0.map bB)), (3, .int .i64 cS)]) := by
   intro dR
   induction dR with
   | zero => intro cS h; cases (show none = some r from h)
   | succ dR hp =>
    intro cS h
    replace h : Bv (nT a0 dR) a0 cS = some r := h
    refine dH (fun e8 cq cP de => ?_)
    refine aM (fun iW fu il eB => ?_)
    refine ws _ ?_
    rcases aS h with ⟨c0, h⟩ | ⟨c0, h⟩
    ·refine aZ (congrArg I.bool c0) ?_
     simp only [c0, al.down]
     refine a_ (fu _ (.inl ?_))
     refine aM (fun iX fI eS hA => ?_)
     refine bK (fun mI hW hB cu jv => ?_)
     refine aM (fun oJ ka jw l7 => ?_)
     obtain ⟨ag, fS, h⟩ := aL h
     obtain ⟨au, hq, h⟩ := aL h
     rcases aS h with ⟨c7, h⟩ | ⟨c7, h⟩
     ·refine iV (And.intro fS (db c7)) (yW ag.Name _ hq) _ ?_
      refine aZ rfl ?_
      refine ws _ ?_
      exact aJ (jw _ (hB _ (eS _ (cP _ (cD _ (eM _ (an _ (.inl (aK [.bool false] rfl (by cases aI h; rfl) (by decide) aO)))))))))
     ·obtain ⟨a2, hh, h⟩ := aL h
      refine cU (bX [(0, .slice (a0.map bB)), (3, .int .i64 cS), (37, .bool (!a2))] (fun P aj => ?_) ?_)
      ·simp only [aT.down, simprocAttr, iG.down, fS, (bC c7)]
       refine e6 (yW ag.Name _ hq) rfl rfl rfl rfl (.inl (by rfl)) ?_
       simp only [aT.down, simprocAttr, iG.down, fS, (bC c7)]
       refine hy (oK ag.dj 0 3 _ hh) rfl rfl rfl rfl (.inl (by rfl)) ?_
       simp only [aT.down, simprocAttr, iG.down, fS, (bC c7)]
       (try simp only [bn.down, simprocAttr, hU.down, fS, (bC c7)] at aj ⊢); exact aj
      rcases aS h with ⟨eP, h⟩ | ⟨eP, h⟩
      ·refine aZ (congrArg I.bool eP) ?_
       simp only [(db eP), al.down]
       refine ws _ ?_
       exact aJ (jw _ (hB _ (eS _ (cP _ (cD _ (eM _ (an _ (.inl (aK [.bool false] rfl (by cases aI h; rfl) (by decide) aO)))))))))
      ·refine a6 (congrArg I.bool eP) ?_
       simp only [(bC eP), al.down]
       refine a_ (ka _ (.inl ?_))
       refine ws _ ?_
       refine bK (fun asx ayK asy ff ayL => ?_)
       have asz : ∀ (n : Nat) (l1 : Int) (m8 : Int), sK (nT a0 dR) a0 n l1 m8 = some r → du aG MF asx (aa [(0, .slice (a0.map bB)), (3, .int .i64 l1), (4, .int .i64 m8)]) := by
        intro G8
        induction G8 with
        | zero => intro l1 m8 h; cases (show none = some r from h)
        | succ G8 asA =>
         intro l1 m8 h
         replace h : Bt (nT a0 dR) (sK (nT a0 dR) a0 G8) a0 l1 m8 = some r := h
         refine dH (fun NR vR Dh G1 => ?_)
         refine aM (fun NL yV GV GW => ?_)
         refine ws _ ?_
         rcases aS h with ⟨gl, h⟩ | ⟨gl, h⟩
         ·refine aZ (congrArg I.bool gl) ?_
          simp only [gl, al.down]
          refine a_ (yV _ (.inl ?_))
          refine aM (fun Dj n31 vS y2 => ?_)
          refine bK (fun ayM n32 asB n0 ayN => ?_)
          obtain ⟨bj, oO, h⟩ := aL h
          obtain ⟨bp, tn, h⟩ := aL h
          refine hf rfl (hg [(0, .slice (a0.map bB)), (3, .int .i64 l1), (4, .int .i64 m8), (53, .bool (bj.Name == bp.Name))] (fun P aj => ?_) ?_)
          ·simp only [dD.down, simprocAttr, iG.down, oO, tn]
           refine ⟨gX (by kernel_rfl), ?_⟩
           (try simp only [bn.down, simprocAttr, hU.down, oO, tn] at aj ⊢); exact aj
          rcases aS h with ⟨oP, h⟩ | ⟨oP, h⟩
          ·refine aZ (congrArg I.bool oP) ?_
           simp only [oP, al.down]
           refine ws _ ?_
           exact aJ (asB _ (vS _ (Dh _ (asy _ (hB _ (eS _ (cP _ (cD _ (eM _ (an _ (.inl (aK [.bool false] rfl (by cases aI h; rfl) (by decide) aO))))))))))))
          ·refine a6 (congrArg I.bool oP) ?_
           simp only [oP, al.down]
           refine a_ (n32 _ (n31 _ (.inl ?_)))
           refine wr _ ?_
           exact vR _ (.inr ⟨_, br rfl, asA l1 (IntKind.i64.wrap (m8 + 1)) h⟩)
         ·refine a6 (congrArg I.bool gl) ?_
          simp only [gl, al.down]
          refine dL (GW 2 _ (G1 2 _ (ff _ (hW _ (fI _ (.inl ?_))))))
          refine wr _ ?_
          exact cq _ (.inr ⟨_, br rfl, hp (IntKind.i64.wrap (l1 + 1)) h⟩)
       obtain ⟨n, h⟩ := dx h
       exact dG (.inr ⟨_, br rfl, asz n cS 0 h⟩)
    ·refine a6 (congrArg I.bool c0) ?_
     simp only [c0, al.down]
     refine dL (eB 0 _ (de 0 _ (dt _ (dM _ (.inl ?_)))))
     refine aM (fun NX n40 G9 G_ => ?_)
     refine ws _ ?_
     refine bK (fun asC n42 asD ns ayO => ?_)
     have asE : ∀ (n : Nat) (nS : Int), ri a0 n nS = some r → du aG MH asC (aa [(0, .slice (a0.map bB)), (5, .int .i64 nS)]) := by
      intro Ha
      induction Ha with
      | zero => intro nS h; cases (show none = some r from h)
      | succ Ha asF =>
       intro nS h
       replace h : Bu (ri a0 Ha) a0 nS = some r := h
       refine dH (fun asG n43 Hb NY => ?_)
       refine aM (fun asH n44 NZ N0 => ?_)
       refine ws _ ?_
       rcases aS h with ⟨y8, h⟩ | ⟨y8, h⟩
       ·refine aZ (congrArg I.bool y8) ?_
        simp only [y8, al.down]
        refine a_ (n44 _ (.inl ?_))
        refine aM (fun asI Hc Hd asJ => ?_)
        refine bK (fun asq vT y3 tm asr => ?_)
        obtain ⟨bU, asK, h⟩ := aL h
        obtain ⟨cZ, asL, h⟩ := aL h
        refine iV asK (asv a0 bU _ asL) _ ?_
        refine ws _ ?_
        rcases aS h with ⟨tp, h⟩ | ⟨tp, h⟩
        ·refine aZ (congrArg I.bool tp) ?_
         simp only [tp, al.down]
         refine ws _ ?_
         exact aJ (y3 _ (Hd _ (Hb _ (asD _ (G9 _ (an _ (.inl (aK [.bool false] rfl (by cases aI h; rfl) (by decide) aO))))))))
        ·refine a6 (congrArg I.bool tp) ?_
         simp only [tp, al.down]
         refine a_ (vT _ (Hc _ (.inl ?_)))
         refine wr _ ?_
         exact n43 _ (.inr ⟨_, br rfl, asF (IntKind.i64.wrap (nS + 1)) h⟩)
       ·refine a6 (congrArg I.bool y8) ?_
        simp only [y8, al.down]
        refine dL (N0 4 _ (NY 4 _ (ns _ (n40 _ (.inl ?_)))))
        refine ws _ ?_
        exact aJ (an _ (.inl (aK [.bool true] rfl (by cases aI h; rfl) (by decide) aO)))
     obtain ⟨n, h⟩ := dx h
     exact dG (.inr ⟨_, br rfl, asE n 0 h⟩)
  obtain ⟨n, h⟩ := dx h
  exact dG (.inr ⟨_, br rfl, hM n 0 h⟩)
theorem asM (a0 : List Int) (r : Bool) (h : Bz a0 = some r) : aQ aG 138 [.slice (a0.map aU)] (.bool r) [] := by
 refine aQ.b7 (fx := [0]) b8 [.tmp 2] [(0, .slice (a0.map aU))] Tryz.func138 rfl rfl acS (Nat.le_of_ble_eq_true rfl) rfl rfl (fun b1 an b2 => ?_)
 refine ws _ ?_
 refine aM (fun ew ca bw au => ?_)
 refine ws _ ?_
 refine bK (fun ed dW cj bz bj => ?_)
 have fz : ∀ (n : Nat) (iU : Int), sL a0 n iU = some r → du aG MI ed (aa [(0, .slice (a0.map aU)), (3, .int .i64 iU)]) := by
  intro cC
  induction cC with
  | zero => intro iU h; cases (show none = some r from h)
  | succ cC fm =>
   intro iU h
   replace h : Bx (sL a0 cC) a0 iU = some r := h
   refine dH (fun gM d_ dV bp => ?_)
   refine aM (fun e_ dN dX bU => ?_)
   refine ws _ ?_
   rcases aS h with ⟨bf, h⟩ | ⟨bf, h⟩
   ·refine aZ (congrArg I.bool bf) ?_
    simp only [bf, al.down]
    refine a_ (dN _ (.inl ?_))
    refine aM (fun eG c3 cD dQ => ?_)
    refine bK (fun e8 cq cP b5 de => ?_)
    obtain ⟨ag, eJ, h⟩ := aL h
    obtain ⟨au, eu, h⟩ := aL h
    refine iV eJ (oK ag 0 63 _ eu) _ ?_
    rcases aS h with ⟨ei, h⟩ | ⟨ei, h⟩
    ·refine aZ (congrArg I.bool ei) ?_
     simp only [(db ei), al.down]
     refine ws _ ?_
     exact aJ (cP _ (cD _ (dV _ (cj _ (bw _ (an _ (.inl (aK [.bool false] rfl (by cases aI h; rfl) (by decide) aO))))))))
    ·refine a6 (congrArg I.bool ei) ?_
     simp only [(bC ei), al.down]
     refine a_ (cq _ (c3 _ (.inl ?_)))
     refine wr _ ?_
     exact d_ _ (.inr ⟨_, br rfl, fm (IntKind.i64.wrap (iU + 1)) h⟩)
   ·refine a6 (congrArg I.bool bf) ?_
    simp only [bf, al.down]
    refine dL (bU 0 _ (bp 0 _ (bz _ (ca _ (.inl ?_)))))
    refine ws _ ?_
    exact aJ (an _ (.inl (aK [.bool true] rfl (by cases aI h; rfl) (by decide) aO)))
 obtain ⟨n, h⟩ := dx h
 exact dG (.inr ⟨_, br rfl, fz n 0 h⟩)
theorem asN (a0 : dv) (r : Bool) (h : BB a0 = some r) : aQ aG 123 [.ref (ep a0)] (.bool r) [] := by
 refine aQ.b7 (fx := [0]) b8 [.tmp 2] [(0, .ref (ep a0))] Tryz.func123 rfl rfl ac9 (Nat.le_of_ble_eq_true rfl) rfl rfl (fun b1 an b2 => ?_)
 refine ws _ ?_
 refine aM (fun ew ca bw au => ?_)
 refine cU (bX [(0, .ref (ep a0)), (18, .bool (((a0.cn.length : Int) == 0) || (decide (3 < (a0.cn.length : Int)))))] (fun P aj => ?_) ?_)
 ·rcases Bool.eq_false_or_eq_true ((a0.cn.length : Int) == 0) with hc | hc
  ·simp only [aT.down, simprocAttr, kR.down, hc]
   (try simp only [bn.down, simprocAttr, hV.down, hc] at aj ⊢); exact aj
  ·simp only [aT.down, simprocAttr, kR.down, hc]
   (try simp only [bn.down, simprocAttr, hV.down, hc] at aj ⊢); exact aj
 rcases aS h with ⟨bO, h⟩ | ⟨bO, h⟩
 ·refine aZ (congrArg I.bool bO) ?_
  simp only [bO, al.down]
  refine ws _ ?_
  exact aJ (bw _ (an _ (.inl (aK [.bool false] rfl (by cases aI h; rfl) (by decide) aO))))
 ·refine a6 (congrArg I.bool bO) ?_
  simp only [bO, al.down]
  refine a_ (ca _ (.inl ?_))
  refine aM (fun g3 dM eM cZ => ?_)
  refine ws _ ?_
  refine bK (fun eG c3 cD dt dQ => ?_)
  have hM : ∀ (n : Nat) (cS : Int), sM a0 n cS = some r → du aG MJ eG (aa [(0, .ref (ep a0)), (3, .int .i64 cS)]) := by
   intro dR
   induction dR with
   | zero => intro cS h; cases (show none = some r from h)
   | succ dR hp =>
    intro cS h
    replace h : BA (sM a0 dR) a0 cS = some r := h
    refine dH (fun e8 cq cP de => ?_)
    refine aM (fun iW fu il eB => ?_)
    refine ws _ ?_
    rcases aS h with ⟨c0, h⟩ | ⟨c0, h⟩
    ·refine aZ (congrArg I.bool c0) ?_
     simp only [c0, al.down]
     refine a_ (fu _ (.inl ?_))
     refine aM (fun iX fI eS hA => ?_)
     refine bK (fun mI hW hB cu jv => ?_)
     obtain ⟨ag, eT, h⟩ := aL h
     refine g1 eT _ ?_
     refine aM (fun Dk qo pB Dl => ?_)
     obtain ⟨au, iq, h⟩ := aL h
     refine hf rfl (hg [(0, .ref (ep a0)), (3, .int .i64 cS), (4, .bd (ez ag)), (44, .bool (!au))] (fun P aj => ?_) ?_)
     ·simp only [dD.down, simprocAttr, kR.down]
      refine iS (oK ag.fe 0 (IntKind.i64.wrap ((a0.b3.length : Int) - 1)) _ iq) rfl rfl rfl rfl (.inl (by rfl)) ?_
      simp only [dD.down, simprocAttr, kR.down]
      refine ⟨gX (by kernel_rfl), ?_⟩
      (try simp only [bn.down, simprocAttr, hV.down] at aj ⊢); exact aj
     rcases aS h with ⟨jy, h⟩ | ⟨jy, h⟩
     ·refine aZ (congrArg I.bool jy) ?_
      simp only [(db jy), al.down]
      refine ws _ ?_
      exact aJ (pB _ (hB _ (eS _ (cP _ (cD _ (eM _ (an _ (.inl (aK [.bool false] rfl (by cases aI h; rfl) (by decide) aO)))))))))
     ·refine a6 (congrArg I.bool jy) ?_
      simp only [(bC jy), al.down]
      refine a_ (qo _ (.inl ?_))
      obtain ⟨a2, jG, h⟩ := aL h
      rcases aS h with ⟨hN, h⟩ | ⟨hN, h⟩
      ·refine hf rfl (hg [(0, .ref (ep a0)), (3, .int .i64 cS), (63, .bool true)] (fun P aj => ?_) ?_)
       ·simp only [dD.down, simprocAttr, kR.down, jG, hN]
        refine ⟨gX (by kernel_rfl), ?_⟩
        (try simp only [bn.down, simprocAttr, hV.down, jG, hN] at aj ⊢); exact aj
       refine aZ rfl ?_
       refine ws _ ?_
       exact aJ (hB _ (eS _ (cP _ (cD _ (eM _ (an _ (.inl (aK [.bool false] rfl (by cases aI h; rfl) (by decide) aO))))))))
      ·obtain ⟨bj, nY, h⟩ := aL h
       refine hf rfl (hg [(0, .ref (ep a0)), (3, .int .i64 cS), (63, .bool (!bj))] (fun P aj => ?_) ?_)
       ·simp only [dD.down, simprocAttr, kR.down, jG, hN]
        refine mv (asM ag.fq _ nY) rfl rfl rfl rfl (.inl (by rfl)) ?_
        simp only [dD.down, simprocAttr, kR.down, jG, hN]
        refine ⟨gX (by kernel_rfl), ?_⟩
        (try simp only [bn.down, simprocAttr, hV.down, jG, hN] at aj ⊢); exact aj
       rcases aS h with ⟨oQ, h⟩ | ⟨oQ, h⟩
       ·refine aZ (congrArg I.bool oQ) ?_
        simp only [(db oQ), al.down]
        refine ws _ ?_
        exact aJ (hB _ (eS _ (cP _ (cD _ (eM _ (an _ (.inl (aK [.bool false] rfl (by cases aI h; rfl) (by decide) aO))))))))
       ·refine a6 (congrArg I.bool oQ) ?_
        simp only [(bC oQ), al.down]
        refine a_ (hW _ (fI _ (.inl ?_)))
        refine wr _ ?_
        exact cq _ (.inr ⟨_, br rfl, hp (IntKind.i64.wrap (cS + 1)) h⟩)
    ·refine a6 (congrArg I.bool c0) ?_
     simp only [c0, al.down]
     refine dL (eB 0 _ (de 0 _ (dt _ (dM _ (.inl ?_)))))
     refine ws _ ?_
     exact aJ (an _ (.inl (aK [.bool true] rfl (by cases aI h; rfl) (by decide) aO)))
  obtain ⟨n, h⟩ := dx h
  exact dG (.inr ⟨_, br rfl, hM n 0 h⟩)
theorem pC (a0 : List UInt8) (r : Bool) (h : sN a0 = some r) : aQ aG 141 [.str a0] (.bool r) [] := by
 refine aQ.b7 (fx := [0]) b8 [.tmp 2] [(0, .str a0)] Tryz.func141 rfl rfl adb (Nat.le_of_ble_eq_true rfl) rfl rfl (fun b1 an b2 => ?_)
 refine ws _ ?_
 obtain ⟨ag, a8, h⟩ := aL h
 refine cU (bX [(2, .bool (ag && (!(a0 == ([116, 97, 117] : List UInt8)))))] (fun P aj => ?_) ?_)
 ·rcases Bool.eq_false_or_eq_true (ag) with hc | hc
  ·simp only [aT.down, simprocAttr, hc]
   refine e6 (yW a0 _ a8) rfl rfl rfl rfl (.inl (by rfl)) ?_
   simp only [aT.down, simprocAttr, hc]
   (try simp only [bn.down, simprocAttr, hc] at aj ⊢); exact aj
  ·simp only [aT.down, simprocAttr, hc]
   refine e6 (yW a0 _ a8) rfl rfl rfl rfl (.inl (by rfl)) ?_
   simp only [aT.down, simprocAttr, hc]
   (try simp only [bn.down, simprocAttr, hc] at aj ⊢); exact aj
 exact aJ (an _ (.inl (aK [.bool (ag && (!(a0 == ([116, 97, 117] : List UInt8))))] rfl (by cases aI h; rfl) (by decide) aO)))
theorem asO (a0 : List b4) (r : Bool) (h : BD a0 = some r) : aQ aG 124 [.slice (a0.map bt)] (.bool r) [] := by
 refine aQ.b7 (fx := [0]) b8 [.tmp 2] [(0, .slice (a0.map bt))] Tryz.func124 rfl rfl adB (Nat.le_of_ble_eq_true rfl) rfl rfl (fun b1 an b2 => ?_)
 refine ws _ ?_
 refine aM (fun ew ca bw au => ?_)
 refine ws _ ?_
 rcases aS h with ⟨bz, h⟩ | ⟨bz, h⟩
 ·refine aZ (congrArg I.bool bz) ?_
  simp only [bz, al.down]
  refine ws _ ?_
  exact aJ (bw _ (an _ (.inl (aK [.bool false] rfl (by cases aI h; rfl) (by decide) aO))))
 ·refine a6 (congrArg I.bool bz) ?_
  simp only [bz, al.down]
  refine a_ (ca _ (.inl ?_))
  refine aM (fun e_ dN dX bU => ?_)
  refine ws _ ?_
  refine bK (fun hC g9 gv bf e7 => ?_)
  have hM : ∀ (n : Nat) (cS : Int), lA a0 n cS = some r → du aG MK hC (aa [(0, .slice (a0.map bt)), (3, .int .i64 cS)]) := by
   intro dR
   induction dR with
   | zero => intro cS h; cases (show none = some r from h)
   | succ dR hp =>
    intro cS h
    replace h : BC (lA a0 dR) a0 cS = some r := h
    refine dH (fun eG c3 cD dQ => ?_)
    refine aM (fun e8 cq cP de => ?_)
    refine ws _ ?_
    rcases aS h with ⟨cT, h⟩ | ⟨cT, h⟩
    ·refine aZ (congrArg I.bool cT) ?_
     simp only [cT, al.down]
     refine a_ (cq _ (.inl ?_))
     refine aM (fun lG gL gw ju => ?_)
     refine bK (fun iX fI eS ei hA => ?_)
     obtain ⟨ag, cV, h⟩ := aL h
     refine g1 cV _ ?_
     refine aM (fun nZ jx i0 nr => ?_)
     obtain ⟨au, hq, h⟩ := aL h
     rcases aS h with ⟨c7, h⟩ | ⟨c7, h⟩
     ·refine iV (db c7) (pC ag.Left _ hq) _ ?_
      refine aZ rfl ?_
      refine ws _ ?_
      exact aJ (i0 _ (eS _ (gw _ (cD _ (gv _ (dX _ (an _ (.inl (aK [.bool false] rfl (by cases aI h; rfl) (by decide) aO)))))))))
     ·obtain ⟨a2, hh, h⟩ := aL h
      rcases aS h with ⟨eP, h⟩ | ⟨eP, h⟩
      ·refine cU (bX [(0, .slice (a0.map bt)), (3, .int .i64 cS), (4, .bd (bt ag)), (41, .bool true)] (fun P aj => ?_) ?_)
       ·simp only [aT.down, simprocAttr, nm.down, (bC c7), (db eP)]
        refine e6 (pC ag.Left _ hq) rfl rfl rfl rfl (.inl (by rfl)) ?_
        simp only [aT.down, simprocAttr, nm.down, (bC c7), (db eP)]
        refine hy (pC ag.ch _ hh) rfl rfl rfl rfl (.inl (by rfl)) ?_
        simp only [aT.down, simprocAttr, nm.down, (bC c7), (db eP)]
        (try simp only [bn.down, simprocAttr, bt, (bC c7), (db eP)] at aj ⊢); exact aj
       refine aZ rfl ?_
       refine ws _ ?_
       exact aJ (i0 _ (eS _ (gw _ (cD _ (gv _ (dX _ (an _ (.inl (aK [.bool false] rfl (by cases aI h; rfl) (by decide) aO)))))))))
      ·obtain ⟨bj, kS, h⟩ := aL h
       refine cU (bX [(0, .slice (a0.map bt)), (3, .int .i64 cS), (4, .bd (bt ag)), (41, .bool ((!bj) || (!(Op.bytesLess ag.Left ag.ch || ag.Left == ag.ch))))] (fun P aj => ?_) ?_)
       ·rcases Bool.eq_false_or_eq_true (bj) with oR | oR
        ·simp only [aT.down, simprocAttr, nm.down, (bC c7), (bC eP), oR]
         refine e6 (pC ag.Left _ hq) rfl rfl rfl rfl (.inl (by rfl)) ?_
         simp only [aT.down, simprocAttr, nm.down, (bC c7), (bC eP), oR]
         refine hy (pC ag.ch _ hh) rfl rfl rfl rfl (.inl (by rfl)) ?_
         simp only [aT.down, simprocAttr, nm.down, (bC c7), (bC eP), oR]
         refine hy (pC ag.Result _ kS) rfl rfl rfl rfl (.inl (by rfl)) ?_
         simp only [aT.down, simprocAttr, nm.down, (bC c7), (bC eP), oR]
         (try simp only [bn.down, simprocAttr, bt, (bC c7), (bC eP), oR] at aj ⊢); exact aj
        ·simp only [aT.down, simprocAttr, nm.down, (bC c7), (bC eP), oR]
         refine e6 (pC ag.Left _ hq) rfl rfl rfl rfl (.inl (by rfl)) ?_
         simp only [aT.down, simprocAttr, nm.down, (bC c7), (bC eP), oR]
         refine hy (pC ag.ch _ hh) rfl rfl rfl rfl (.inl (by rfl)) ?_
         simp only [aT.down, simprocAttr, nm.down, (bC c7), (bC eP), oR]
         refine hy (pC ag.Result _ kS) rfl rfl rfl rfl (.inl (by rfl)) ?_
         simp only [aT.down, simprocAttr, nm.down, (bC c7), (bC eP), oR]
         (try simp only [bn.down, simprocAttr, bt, (bC c7), (bC eP), oR] at aj ⊢); exact aj
       rcases aS h with ⟨h7, h⟩ | ⟨h7, h⟩
       ·refine aZ (congrArg I.bool h7) ?_
        simp only [h7, al.down]
        refine ws _ ?_
        exact aJ (i0 _ (eS _ (gw _ (cD _ (gv _ (dX _ (an _ (.inl (aK [.bool false] rfl (by cases aI h; rfl) (by decide) aO)))))))))
       ·refine a6 (congrArg I.bool h7) ?_
        simp only [h7, al.down]
        refine a_ (jx _ (.inl ?_))
        refine aM (fun G2 n29 Di NS => ?_)
        rcases aS h with ⟨jz, h⟩ | ⟨jz, h⟩
        ·obtain ⟨bp, pD, h⟩ := aL h
         refine hf rfl (hg [(0, .slice (a0.map bt)), (3, .int .i64 cS), (4, .bd (bt ag)), (76, .bool ((!(Op.bytesLess bp.Left ag.Left || bp.Left == ag.Left)) || ((bp.Left == ag.Left) && (!(Op.bytesLess bp.ch ag.ch)))))] (fun P aj => ?_) ?_)
         ·(rcases Bool.eq_false_or_eq_true (Op.bytesLess bp.Left ag.Left) with yO | yO) <;> (rcases Bool.eq_false_or_eq_true (bp.Left == ag.Left) with yQ | yQ) <;>
           (simp only [dD.down, simprocAttr, g2.down, jz, pD, yO, yQ]
            refine ⟨gX (by kernel_rfl), ?_⟩
            (try simp only [bn.down, simprocAttr, bt, jz, pD, yO, yQ] at aj ⊢); exact aj)
         rcases aS h with ⟨l8, h⟩ | ⟨l8, h⟩
         ·refine aZ (congrArg I.bool l8) ?_
          simp only [l8, al.down]
          refine ws _ ?_
          exact aJ (Di _ (eS _ (gw _ (cD _ (gv _ (dX _ (an _ (.inl (aK [.bool false] rfl (by cases aI h; rfl) (by decide) aO)))))))))
         ·refine a6 (congrArg I.bool l8) ?_
          simp only [l8, al.down]
          refine a_ (n29 _ (.inl ?_))
          refine ws _ ?_
          refine bK (fun asP n38 asQ pE ayP => ?_)
          have He : ∀ (n : Nat) (jF : Int) (jT : Int), oD (lA a0 dR) a0 ag n jF jT = some r → du aG GK asP (aa [(0, .slice (a0.map bt)), (3, .int .i64 jF), (4, .bd (bt ag)), (5, .int .i64 jT)]) := by
           intro tq
           induction tq with
           | zero => intro jF jT h; cases (show none = some r from h)
           | succ tq Hf =>
            intro jF jT h
            replace h : x7 (lA a0 dR) (oD (lA a0 dR) a0 ag tq) a0 ag jF jT = some r := h
            refine dH (fun ayQ n39 asR asS => ?_)
            refine aM (fun NX n40 G9 G_ => ?_)
            refine ws _ ?_
            rcases aS h with ⟨ns, h⟩ | ⟨ns, h⟩
            ·refine aZ (congrArg I.bool ns) ?_
             simp only [ns, al.down]
             refine a_ (n40 _ (.inl ?_))
             refine aM (fun asG n43 Hb NY => ?_)
             refine bK (fun asH n44 NZ rv N0 => ?_)
             obtain ⟨bU, tl, h⟩ := aL h
             refine hf rfl (hg [(0, .slice (a0.map bt)), (3, .int .i64 jF), (4, .bd (bt ag)), (5, .int .i64 jT), (100, .bool ((bU.Left == ag.Result) || (bU.ch == ag.Result)))] (fun P aj => ?_) ?_)
             ·rcases Bool.eq_false_or_eq_true (bU.Left == ag.Result) with td | td
              ·simp only [dD.down, simprocAttr, g2.down, tl, td]
               refine ⟨gX (by kernel_rfl), ?_⟩
               (try simp only [bn.down, simprocAttr, bt, tl, td] at aj ⊢); exact aj
              ·simp only [dD.down, simprocAttr, g2.down, tl, td]
               refine ⟨gX (by kernel_rfl), ?_⟩
               (try simp only [bn.down, simprocAttr, bt, tl, td] at aj ⊢); exact aj
             rcases aS h with ⟨tm, h⟩ | ⟨tm, h⟩
             ·refine aZ (congrArg I.bool tm) ?_
              simp only [tm, al.down]
              refine ws _ ?_
              exact aJ (NZ _ (Hb _ (asR _ (asQ _ (eS _ (gw _ (cD _ (gv _ (dX _ (an _ (.inl (aK [.bool false] rfl (by cases aI h; rfl) (by decide) aO))))))))))))
             ·refine a6 (congrArg I.bool tm) ?_
              simp only [tm, al.down]
              refine a_ (n44 _ (n43 _ (.inl ?_)))
              refine wr _ ?_
              exact n39 _ (.inr ⟨_, br rfl, Hf jF (IntKind.i64.wrap (jT + 1)) h⟩)
            ·refine a6 (congrArg I.bool ns) ?_
             simp only [ns, al.down]
             refine dL (G_ 2 _ (asS 2 _ (pE _ (fI _ (gL _ (.inl ?_))))))
             refine wr _ ?_
             exact c3 _ (.inr ⟨_, br rfl, hp (IntKind.i64.wrap (jF + 1)) h⟩)
          obtain ⟨n, h⟩ := dx h
          exact dG (.inr ⟨_, br rfl, He n cS 0 h⟩)
        ·refine hf rfl (hg [(0, .slice (a0.map bt)), (3, .int .i64 cS), (4, .bd (bt ag)), (76, .bool false)] (fun P aj => ?_) ?_)
         ·simp only [dD.down, simprocAttr, g2.down, jz]
          refine ⟨gX (by kernel_rfl), ?_⟩
          (try simp only [bn.down, simprocAttr, bt, jz] at aj ⊢); exact aj
         refine a6 rfl ?_
         refine a_ (n29 _ (.inl ?_))
         refine ws _ ?_
         refine bK (fun asT n53 asU tp ayR => ?_)
         have He : ∀ (n : Nat) (jF : Int) (jT : Int), oD (lA a0 dR) a0 ag n jF jT = some r → du aG GK asT (aa [(0, .slice (a0.map bt)), (3, .int .i64 jF), (4, .bd (bt ag)), (5, .int .i64 jT)]) := by
          intro tq
          induction tq with
          | zero => intro jF jT h; cases (show none = some r from h)
          | succ tq Hf =>
           intro jF jT h
           replace h : x7 (lA a0 dR) (oD (lA a0 dR) a0 ag tq) a0 ag jF jT = some r := h
           refine dH (fun ayS n54 asV asW => ?_)
           refine aM (fun ayT asX ayU asY => ?_)
           refine ws _ ?_
           rcases aS h with ⟨oM, h⟩ | ⟨oM, h⟩
           ·refine aZ (congrArg I.bool oM) ?_
            simp only [oM, al.down]
            refine a_ (asX _ (.inl ?_))
            refine aM (fun ayV asZ as0 ayW => ?_)
            refine bK (fun ayX n59 as1 vU ayY => ?_)
            obtain ⟨cZ, Dm, h⟩ := aL h
            refine hf rfl (hg [(0, .slice (a0.map bt)), (3, .int .i64 jF), (4, .bd (bt ag)), (5, .int .i64 jT), (100, .bool ((cZ.Left == ag.Result) || (cZ.ch == ag.Result)))] (fun P aj => ?_) ?_)
            ·rcases Bool.eq_false_or_eq_true (cZ.Left == ag.Result) with y9 | y9
             ·simp only [dD.down, simprocAttr, g2.down, Dm, y9]
              refine ⟨gX (by kernel_rfl), ?_⟩
              (try simp only [bn.down, simprocAttr, bt, Dm, y9] at aj ⊢); exact aj
             ·simp only [dD.down, simprocAttr, g2.down, Dm, y9]
              refine ⟨gX (by kernel_rfl), ?_⟩
              (try simp only [bn.down, simprocAttr, bt, Dm, y9] at aj ⊢); exact aj
            rcases aS h with ⟨y_, h⟩ | ⟨y_, h⟩
            ·refine aZ (congrArg I.bool y_) ?_
             simp only [y_, al.down]
             refine ws _ ?_
             exact aJ (as1 _ (as0 _ (asV _ (asU _ (eS _ (gw _ (cD _ (gv _ (dX _ (an _ (.inl (aK [.bool false] rfl (by cases aI h; rfl) (by decide) aO))))))))))))
            ·refine a6 (congrArg I.bool y_) ?_
             simp only [y_, al.down]
             refine a_ (n59 _ (asZ _ (.inl ?_)))
             refine wr _ ?_
             exact n54 _ (.inr ⟨_, br rfl, Hf jF (IntKind.i64.wrap (jT + 1)) h⟩)
           ·refine a6 (congrArg I.bool oM) ?_
            simp only [oM, al.down]
            refine dL (asY 2 _ (asW 2 _ (tp _ (fI _ (gL _ (.inl ?_))))))
            refine wr _ ?_
            exact c3 _ (.inr ⟨_, br rfl, hp (IntKind.i64.wrap (jF + 1)) h⟩)
         obtain ⟨n, h⟩ := dx h
         exact dG (.inr ⟨_, br rfl, He n cS 0 h⟩)
    ·refine a6 (congrArg I.bool cT) ?_
     simp only [cT, al.down]
     refine dL (de 0 _ (dQ 0 _ (bf _ (dN _ (.inl ?_)))))
     refine ws _ ?_
     exact aJ (an _ (.inl (aK [.bool true] rfl (by cases aI h; rfl) (by decide) aO)))
  obtain ⟨n, h⟩ := dx h
  exact dG (.inr ⟨_, br rfl, hM n 0 h⟩)
theorem as2 (a0 : List (List UInt8)) (r : Bool) (h : BF a0 = some r) : aQ aG 163 [.slice (a0.map bF)] (.bool r) [] := by
 refine aQ.b7 (fx := [0]) b8 [.tmp 2] [(0, .slice (a0.map bF))] Tryz.func163 rfl rfl adL (Nat.le_of_ble_eq_true rfl) rfl rfl (fun b1 an b2 => ?_)
 refine ws _ ?_
 refine aM (fun ew ca bw au => ?_)
 refine ws _ ?_
 refine bK (fun ed dW cj bz bj => ?_)
 have fz : ∀ (n : Nat) (iU : Int), sO a0 n iU = some r → du aG ML ed (aa [(0, .slice (a0.map bF)), (3, .int .i64 iU)]) := by
  intro cC
  induction cC with
  | zero => intro iU h; cases (show none = some r from h)
  | succ cC fm =>
   intro iU h
   replace h : BE (sO a0 cC) a0 iU = some r := h
   refine dH (fun gM d_ dV bp => ?_)
   refine aM (fun e_ dN dX bU => ?_)
   refine ws _ ?_
   rcases aS h with ⟨bf, h⟩ | ⟨bf, h⟩
   ·refine aZ (congrArg I.bool bf) ?_
    simp only [bf, al.down]
    refine a_ (dN _ (.inl ?_))
    refine aM (fun eG c3 cD dQ => ?_)
    refine bK (fun e8 cq cP b5 de => ?_)
    obtain ⟨ag, eJ, h⟩ := aL h
    obtain ⟨au, eu, h⟩ := aL h
    refine iV eJ (pC ag _ eu) _ ?_
    rcases aS h with ⟨ei, h⟩ | ⟨ei, h⟩
    ·refine aZ (congrArg I.bool ei) ?_
     simp only [(db ei), al.down]
     refine ws _ ?_
     exact aJ (cP _ (cD _ (dV _ (cj _ (bw _ (an _ (.inl (aK [.bool false] rfl (by cases aI h; rfl) (by decide) aO))))))))
    ·refine a6 (congrArg I.bool ei) ?_
     simp only [(bC ei), al.down]
     refine a_ (cq _ (c3 _ (.inl ?_)))
     refine wr _ ?_
     exact d_ _ (.inr ⟨_, br rfl, fm (IntKind.i64.wrap (iU + 1)) h⟩)
   ·refine a6 (congrArg I.bool bf) ?_
    simp only [bf, al.down]
    refine dL (bU 0 _ (bp 0 _ (bz _ (ca _ (.inl ?_)))))
    refine ws _ ?_
    exact aJ (an _ (.inl (aK [.bool true] rfl (by cases aI h; rfl) (by decide) aO)))
 obtain ⟨n, h⟩ := dx h
 exact dG (.inr ⟨_, br rfl, fz n 0 h⟩)
theorem N1 (a0 : List (List UInt8)) (r : Bool) (h : x9 a0 = some r) : aQ aG 125 [.slice (a0.map bF)] (.bool r) [] := by
 refine aQ.b7 (fx := [0]) b8 [.tmp 2] [(0, .slice (a0.map bF))] Tryz.func125 rfl rfl adY (Nat.le_of_ble_eq_true rfl) rfl rfl (fun b1 an b2 => ?_)
 refine ws _ ?_
 refine aM (fun ew ca bw au => ?_)
 rcases aS h with ⟨bz, h⟩ | ⟨bz, h⟩
 ·refine g1 bz _ ?_
  refine aZ rfl ?_
  refine ws _ ?_
  exact aJ (bw _ (an _ (.inl (aK [.bool false] rfl (by cases aI h; rfl) (by decide) aO))))
 ·obtain ⟨ag, cv, h⟩ := aL h
  refine cU (bX [(0, .slice (a0.map bF)), (11, .bool (!ag))] (fun P aj => ?_) ?_)
  ·simp only [aT.down, simprocAttr, eU, lk, bF, bz]
   refine hy (as2 a0 _ cv) rfl rfl rfl rfl (.inl (by rfl)) ?_
   simp only [aT.down, simprocAttr, eU, lk, bF, bz]
   (try simp only [bn.down, simprocAttr, bF, bz] at aj ⊢); exact aj
  rcases aS h with ⟨iM, h⟩ | ⟨iM, h⟩
  ·refine aZ (congrArg I.bool iM) ?_
   simp only [(db iM), al.down]
   refine ws _ ?_
   exact aJ (bw _ (an _ (.inl (aK [.bool false] rfl (by cases aI h; rfl) (by decide) aO))))
  ·refine a6 (congrArg I.bool iM) ?_
   simp only [(bC iM), al.down]
   refine a_ (ca _ (.inl ?_))
   refine aM (fun eG c3 cD dQ => ?_)
   refine ws _ ?_
   refine bK (fun iW fu il ho eB => ?_)
   have hM : ∀ (n : Nat) (cS : Int), m9 a0 n cS = some r → du aG MM iW (aa [(0, .slice (a0.map bF)), (3, .int .i64 cS)]) := by
    intro dR
    induction dR with
    | zero => intro cS h; cases (show none = some r from h)
    | succ dR hp =>
     intro cS h
     replace h : x8 (m9 a0 dR) a0 cS = some r := h
     refine dH (fun ji gg h6 iv => ?_)
     refine aM (fun lG gL gw ju => ?_)
     refine ws _ ?_
     rcases aS h with ⟨cu, h⟩ | ⟨cu, h⟩
     ·refine aZ (congrArg I.bool cu) ?_
      simp only [cu, al.down]
      refine a_ (gL _ (.inl ?_))
      refine aM (fun oJ ka jw l7 => ?_)
      refine bK (fun nZ jx i0 im nr => ?_)
      obtain ⟨au, hq, h⟩ := aL h
      obtain ⟨a2, iq, h⟩ := aL h
      refine hf rfl (hg [(0, .slice (a0.map bF)), (3, .int .i64 cS), (27, .bool (!(Op.bytesLess au a2)))] (fun P aj => ?_) ?_)
      ·simp only [dD.down, simprocAttr, eU, lk, bF, hq, iq]
       refine ⟨gX (by kernel_rfl), ?_⟩
       (try simp only [bn.down, simprocAttr, bF, hq, iq] at aj ⊢); exact aj
      rcases aS h with ⟨jy, h⟩ | ⟨jy, h⟩
      ·refine aZ (congrArg I.bool jy) ?_
       simp only [jy, al.down]
       refine ws _ ?_
       exact aJ (i0 _ (jw _ (h6 _ (il _ (cD _ (an _ (.inl (aK [.bool false] rfl (by cases aI h; rfl) (by decide) aO))))))))
      ·refine a6 (congrArg I.bool jy) ?_
       simp only [jy, al.down]
       refine a_ (jx _ (ka _ (.inl ?_)))
       refine wr _ ?_
       exact gg _ (.inr ⟨_, br rfl, hp (IntKind.i64.wrap (cS + 1)) h⟩)
     ·refine a6 (congrArg I.bool cu) ?_
      simp only [cu, al.down]
      refine dL (ju 0 _ (iv 0 _ (ho _ (c3 _ (.inl ?_)))))
      refine ws _ ?_
      exact aJ (an _ (.inl (aK [.bool true] rfl (by cases aI h; rfl) (by decide) aO)))
   obtain ⟨n, h⟩ := dx h
   exact dG (.inr ⟨_, br rfl, hM n 1 h⟩)
theorem as3 (a0 : dv) (r : Int) (h : BG a0 = some r) : aQ aG 75 [.ref (ep a0)] (.int .i64 r) [] := by
 refine aQ.b7 (fx := [0]) b8 [.tmp 2] [(0, .ref (ep a0))] Tryz.func75 rfl rfl aef (Nat.le_of_ble_eq_true rfl) rfl rfl (fun b1 an b2 => ?_)
 refine ws _ ?_
 refine aM (fun ew ca bw au => ?_)
 obtain ⟨ag, c6, h⟩ := aL h
 refine dZ (asw a0.b3 _ c6) _ ?_
 rcases aS h with ⟨bO, h⟩ | ⟨bO, h⟩
 ·refine aZ (congrArg I.bool bO) ?_
  simp only [(db bO), al.down]
  refine ws _ ?_
  exact aJ (bw _ (an _ (.inl (aK [.int .i64 1] rfl (by cases aI h; rfl) (by decide) aO))))
 ·refine a6 (congrArg I.bool bO) ?_
  simp only [(bC bO), al.down]
  refine a_ (ca _ (.inl ?_))
  refine aM (fun g3 dM eM cZ => ?_)
  obtain ⟨au, kG, h⟩ := aL h
  refine dZ (asN a0 _ kG) _ ?_
  rcases aS h with ⟨b5, h⟩ | ⟨b5, h⟩
  ·refine aZ (congrArg I.bool b5) ?_
   simp only [(db b5), al.down]
   refine ws _ ?_
   exact aJ (eM _ (an _ (.inl (aK [.int .i64 2] rfl (by cases aI h; rfl) (by decide) aO))))
  ·refine a6 (congrArg I.bool b5) ?_
   simp only [(bC b5), al.down]
   refine a_ (dM _ (.inl ?_))
   refine aM (fun ji gg h6 iv => ?_)
   obtain ⟨a2, er, h⟩ := aL h
   refine dZ (asO a0.g7 _ er) _ ?_
   rcases aS h with ⟨cu, h⟩ | ⟨cu, h⟩
   ·refine aZ (congrArg I.bool cu) ?_
    simp only [(db cu), al.down]
    refine ws _ ?_
    exact aJ (h6 _ (an _ (.inl (aK [.int .i64 3] rfl (by cases aI h; rfl) (by decide) aO))))
   ·refine a6 (congrArg I.bool cu) ?_
    simp only [(bC cu), al.down]
    refine a_ (gg _ (.inl ?_))
    refine aM (fun nZ jx i0 nr => ?_)
    obtain ⟨bj, hq, h⟩ := aL h
    refine dZ (N1 a0.gZ _ hq) _ ?_
    rcases aS h with ⟨c7, h⟩ | ⟨c7, h⟩
    ·refine aZ (congrArg I.bool c7) ?_
     simp only [(db c7), al.down]
     refine ws _ ?_
     exact aJ (i0 _ (an _ (.inl (aK [.int .i64 4] rfl (by cases aI h; rfl) (by decide) aO))))
    ·refine a6 (congrArg I.bool c7) ?_
     simp only [(bC c7), al.down]
     refine a_ (jx _ (.inl ?_))
     refine aM (fun vM nq mJ vN => ?_)
     obtain ⟨bp, jG, h⟩ := aL h
     refine dZ (N1 a0.g0 _ jG) _ ?_
     rcases aS h with ⟨hN, h⟩ | ⟨hN, h⟩
     ·refine aZ (congrArg I.bool hN) ?_
      simp only [(db hN), al.down]
      refine ws _ ?_
      exact aJ (mJ _ (an _ (.inl (aK [.int .i64 5] rfl (by cases aI h; rfl) (by decide) aO))))
     ·refine a6 (congrArg I.bool hN) ?_
      simp only [(bC hN), al.down]
      refine a_ (nq _ (.inl ?_))
      refine ws _ ?_
      exact aJ (an _ (.inl (aK [.int .i64 0] rfl (by cases aI h; rfl) (by decide) aO)))
theorem as4 (a0 : dv) (r : Bool) (h : BH a0 = some r) : aQ aG 37 [.ref (ep a0)] (.bool r) [] := by
 refine aQ.b7 (fx := [0]) b8 [.tmp 2] [(0, .ref (ep a0))] Tryz.func37 rfl rfl aei (Nat.le_of_ble_eq_true rfl) rfl rfl (fun b1 an b2 => ?_)
 refine ws _ ?_
 obtain ⟨ag, a8, h⟩ := aL h
 refine dZ (as3 a0 _ a8) _ ?_
 exact aJ (an _ (.inl (aK [.bool (ag == 0)] rfl (by cases aI h; rfl) (by decide) aO)))
theorem Hg (a0 : List Int) (U : Int) (r : (List Int)) (h : vn a0 U = some r) : aQ aG 117 [.slice (a0.map aU), .int .i64 U] (.ar 1 (r.map aU)) [] := by
 refine aQ.b7 (fx := [0, 1]) b8 [.tmp 4] [(0, .slice (a0.map aU)), (1, .int .i64 U)] Tryz.func117 rfl rfl aez (Nat.le_of_ble_eq_true rfl) rfl rfl (fun b1 an b2 => ?_)
 refine ws _ ?_
 refine g1 (show ∀ s, dJ aG s 43 0 [] = some (.ar 1 [], s) from fun s => by kernel_rfl) _ ?_
 refine ws _ ?_
 refine aM (fun ed dW cj bj => ?_)
 refine ws _ ?_
 refine bK (fun e_ dN dX cM bU => ?_)
 have as5 : ∀ (n : Nat) (jg : List Int) (pw : Bool) (kq : Int), qe a0 U n jg pw kq = some r → du aG MO e_ (aa [(0, .slice (a0.map aU)), (1, .int .i64 U), (5, .ar 1 (jg.map aU)), (6, .bool pw), (7, .int .i64 kq)]) := by
  intro p1
  induction p1 with
  | zero => intro jg pw kq h; cases (show none = some r from h)
  | succ p1 as6 =>
   intro jg pw kq h
   replace h : BJ (qe a0 U p1) a0 U jg pw kq = some r := h
   refine dH (fun g3 dM eM cZ => ?_)
   refine aM (fun hC g9 gv e7 => ?_)
   refine ws _ ?_
   rcases aS h with ⟨b5, h⟩ | ⟨b5, h⟩
   ·refine aZ (congrArg I.bool b5) ?_
    simp only [b5, al.down]
    refine a_ (g9 _ (.inl ?_))
    refine aM (fun iW fu il eB => ?_)
    refine bK (fun ji gg h6 cT iv => ?_)
    have Dn : ∀ (qc : List Int) (rj : Bool) (qd : Int), sP (qe a0 U p1) a0 U qc rj qd = some r → dh aG MN ji (aa [(0, .slice (a0.map aU)), (1, .int .i64 U), (5, .ar 1 (qc.map aU)), (6, .bool rj), (7, .int .i64 qd)]) := by
     intro qc rj qd h
     obtain ⟨ag, e1, h⟩ := aL h
     obtain ⟨NM, cV, h⟩ := aL h
     (try simp only [List.length_append, List.length_cons, List.length_nil, List.length_map, List.length_replicate, Nat.zero_add, Nat.add_zero, Nat.reduceAdd] at cV)
     refine iR (bX [(0, .slice (a0.map aU)), (1, .int .i64 U), (5, .ar 1 ((qc ++ [ag]).map aU)), (6, .bool rj), (7, .int .i64 qd)] (fun P aj => ?_) ?_)
     ·simp only [aT.down, simprocAttr, ey, jf, aU, e1, (show ∀ s, dJ aG s 43 1 [(0, .int .i64 ag)] = some (.ar 1 [.int .i64 ag], s) from fun s => by kernel_rfl), @mw aG 43 43 2 rfl rfl, mx, my, mz, all_cons, all_nil, cV, @kO _ aU 1 (fun _ => rfl)]
      (try simp only [bn.down, simprocAttr, aU, e1, (show ∀ s, dJ aG s 43 1 [(0, .int .i64 ag)] = some (.ar 1 [.int .i64 ag], s) from fun s => by kernel_rfl), @mw aG 43 43 2 rfl rfl, mx, my, mz, all_cons, all_nil, cV, @kO _ aU 1 (fun _ => rfl)] at aj ⊢); exact aj
     refine gg _ (fu _ (.inl ?_))
     refine wr [(0, .slice (a0.map aU)), (1, .int .i64 U), (5, .ar 1 ((qc ++ [ag]).map aU)), (6, .bool rj), (7, .int .i64 (IntKind.i64.wrap (qd + 1)))] ?_
     exact dM _ (.inr ⟨_, br rfl, as6 (qc ++ [ag]) rj (IntKind.i64.wrap (qd + 1)) h⟩)
    refine aM (fun lG gL gw ju => ?_)
    rcases aS h with ⟨en, h⟩ | ⟨en, h⟩
    ·obtain ⟨au, iq, h⟩ := aL h
     refine g1 (And.intro (db en) iq) _ ?_
     rcases aS h with ⟨jy, h⟩ | ⟨jy, h⟩
     ·refine aZ (congrArg I.bool jy) ?_
      simp only [jy, al.down]
      refine ws _ ?_
      refine g1 iq _ ?_
      rcases aS h with ⟨gG, h⟩ | ⟨gG, h⟩
      ·refine aZ (congrArg I.bool gG) ?_
       simp only [gG, al.down]
       obtain ⟨ayZ, ry, h⟩ := aL h
       (try simp only [List.length_append, List.length_cons, List.length_nil, List.length_map, List.length_replicate, Nat.zero_add, Nat.add_zero, Nat.reduceAdd] at ry)
       refine iR (bX [(0, .slice (a0.map aU)), (1, .int .i64 U), (5, .ar 1 ((jg ++ [U]).map aU)), (6, .bool true), (7, .int .i64 kq)] (fun P aj => ?_) ?_)
       ·simp only [aT.down, simprocAttr, ey, jf, aU, (show ∀ s, dJ aG s 43 1 [(0, .int .i64 U)] = some (.ar 1 [.int .i64 U], s) from fun s => by kernel_rfl), @mw aG 43 43 2 rfl rfl, mx, my, mz, all_cons, all_nil, ry, @kO _ aU 1 (fun _ => rfl)]
        (try simp only [bn.down, simprocAttr, aU, (show ∀ s, dJ aG s 43 1 [(0, .int .i64 U)] = some (.ar 1 [.int .i64 U], s) from fun s => by kernel_rfl), @mw aG 43 43 2 rfl rfl, mx, my, mz, all_cons, all_nil, ry, @kO _ aU 1 (fun _ => rfl)] at aj ⊢); exact aj
       exact gL _ (.inr ⟨_, br rfl, Dn (jg ++ [U]) true kq h⟩)
      ·refine a6 (congrArg I.bool gG) ?_
       simp only [gG, al.down]
       exact a_ (gL _ (.inr ⟨_, br rfl, Dn jg true kq h⟩))
     ·refine a6 (congrArg I.bool jy) ?_
      simp only [jy, al.down]
      exact a_ (gL _ (.inr ⟨_, br rfl, Dn jg false kq h⟩))
    ·refine g1 (bC en) _ ?_
     refine a6 rfl ?_
     exact a_ (gL _ (.inr ⟨_, br rfl, Dn jg true kq h⟩))
   ·refine a6 (congrArg I.bool b5) ?_
    simp only [b5, al.down]
    refine dL (e7 0 _ (cZ 0 _ (cM _ (dW _ (.inl ?_)))))
    have N2 : ∀ (vm : List Int), BI vm = some r → dh aG MP b1 (aa [(5, .ar 1 (vm.map aU))]) := by
     intro vm h
     refine ws _ ?_
     exact aJ (an _ (.inl (aK [.ar 1 (vm.map aU)] rfl (by cases aI h; rfl) (by decide) aO)))
    refine aM (fun NR vR Dh G1 => ?_)
    refine ws _ ?_
    rcases aS h with ⟨gl, h⟩ | ⟨gl, h⟩
    ·refine aZ (congrArg I.bool gl) ?_
     simp only [(db gl), al.down]
     obtain ⟨u32, pD, h⟩ := aL h
     (try simp only [List.length_append, List.length_cons, List.length_nil, List.length_map, List.length_replicate, Nat.zero_add, Nat.add_zero, Nat.reduceAdd] at pD)
     refine iR (bX [(5, .ar 1 ((jg ++ [U]).map aU))] (fun P aj => ?_) ?_)
     ·simp only [aT.down, simprocAttr, ey, jf, aU, (show ∀ s, dJ aG s 43 1 [(0, .int .i64 U)] = some (.ar 1 [.int .i64 U], s) from fun s => by kernel_rfl), @mw aG 43 43 2 rfl rfl, mx, my, mz, all_cons, all_nil, pD, @kO _ aU 1 (fun _ => rfl)]
      (try simp only [bn.down, simprocAttr, aU, (show ∀ s, dJ aG s 43 1 [(0, .int .i64 U)] = some (.ar 1 [.int .i64 U], s) from fun s => by kernel_rfl), @mw aG 43 43 2 rfl rfl, mx, my, mz, all_cons, all_nil, pD, @kO _ aU 1 (fun _ => rfl)] at aj ⊢); exact aj
     exact vR _ (.inr ⟨_, br rfl, N2 (jg ++ [U]) h⟩)
    ·refine a6 (congrArg I.bool gl) ?_
     simp only [(bC gl), al.down]
     exact a_ (vR _ (.inr ⟨_, br rfl, N2 jg h⟩))
 obtain ⟨n, h⟩ := dx h
 exact dG (.inr ⟨_, br rfl, as5 n [] false 0 h⟩)
theorem as7 (a0 : List Int) (r : (List Int)) (h : BK a0 = some r) : aQ aG 91 [.slice (a0.map aU)] (.ar 1 (r.map aU)) [] := by
 refine aQ.b7 (fx := [0]) b8 [.tmp 2] [(0, .slice (a0.map aU))] Tryz.func91 rfl rfl aeC (Nat.le_of_ble_eq_true rfl) rfl rfl (fun b1 an b2 => ?_)
 refine ws _ ?_
 obtain ⟨Aa, a8, h⟩ := aL h
 (try simp only [List.length_append, List.length_cons, List.length_nil, List.length_map, List.length_replicate, Nat.zero_add, Nat.add_zero, Nat.reduceAdd] at a8)
 refine cU (bX [(2, .ar 1 (a0.map aU))] (fun P aj => ?_) ?_)
 ·simp only [aT.down, simprocAttr, ey, jf, aU, (show ∀ s, dJ aG s 43 0 [] = some (.ar 1 [], s) from fun s => by kernel_rfl), @mw aG 43 43 2 rfl rfl, mx, my, mz, all_cons, all_nil, a8, @kO _ aU 1 (fun _ => rfl)]
  (try simp only [bn.down, simprocAttr, aU, (show ∀ s, dJ aG s 43 0 [] = some (.ar 1 [], s) from fun s => by kernel_rfl), @mw aG 43 43 2 rfl rfl, mx, my, mz, all_cons, all_nil, a8, @kO _ aU 1 (fun _ => rfl)] at aj ⊢); exact aj
 exact aJ (an _ (.inl (aK [.ar 1 (a0.map aU)] rfl (by cases aI h; rfl) (by decide) aO)))
theorem as8 (a0 : List bE) (r : (List Int)) (h : BN a0 = some r) : aQ aG 118 [.slice (a0.map cd)] (.ar 1 (r.map aU)) [] := by
 refine aQ.b7 (fx := [0]) b8 [.tmp 2] [(0, .slice (a0.map cd))] Tryz.func118 rfl rfl aeM (Nat.le_of_ble_eq_true rfl) rfl rfl (fun b1 an b2 => ?_)
 refine ws _ ?_
 refine g1 (show ∀ s, dJ aG s 43 0 [] = some (.ar 1 [], s) from fun s => by kernel_rfl) _ ?_
 refine aM (fun jV gE dP a2 => ?_)
 refine ws _ ?_
 refine bK (fun gM d_ dV bO bp => ?_)
 have iY : ∀ (n : Nat) (bA : List Int) (bx : Int), rk a0 n bA bx = some r → du aG MR gM (aa [(0, .slice (a0.map cd)), (3, .ar 1 (bA.map aU)), (4, .int .i64 bx)]) := by
  intro eK
  induction eK with
  | zero => intro bA bx h; cases (show none = some r from h)
  | succ eK iZ =>
   intro bA bx h
   replace h : BM (rk a0 eK) a0 bA bx = some r := h
   refine dH (fun e_ dN dX bU => ?_)
   refine aM (fun g3 dM eM cZ => ?_)
   refine ws _ ?_
   rcases aS h with ⟨dt, h⟩ | ⟨dt, h⟩
   ·refine aZ (congrArg I.bool dt) ?_
    simp only [dt, al.down]
    refine a_ (dM _ (.inl ?_))
    have vQ : ∀ (vo : List Int) (vp : Int), BL (rk a0 eK) a0 vo vp = some r → dh aG MQ e_ (aa [(0, .slice (a0.map cd)), (3, .ar 1 (vo.map aU)), (4, .int .i64 vp)]) := by
     intro vo vp h
     refine wr _ ?_
     exact dN _ (.inr ⟨_, br rfl, iZ vo (IntKind.i64.wrap (vp + 1)) h⟩)
    refine aM (fun e8 cq cP de => ?_)
    refine bK (fun ji gg h6 cT iv => ?_)
    obtain ⟨ag, er, h⟩ := aL h
    refine g1 er _ ?_
    rcases aS h with ⟨cu, h⟩ | ⟨cu, h⟩
    ·refine aZ (congrArg I.bool cu) ?_
     simp only [cu, al.down]
     obtain ⟨au, eT, h⟩ := aL h
     refine iR (bX [(0, .slice (a0.map cd)), (3, .ar 1 (au.map aU)), (4, .int .i64 bx)] (fun P aj => ?_) ?_)
     ·simp only [aT.down, simprocAttr, GP.down, er]
      refine e6 (Hg bA ag.Number _ eT) rfl rfl (by simp only [aT.down, simprocAttr, GP.down, er, fY, fZ, f_, di, @cb _ aU aU (fun _ => hT _)] <;> rfl) rfl (.inr (je (fun _ => py _) _)) ?_
      simp only [aT.down, simprocAttr, GP.down, er]
      (try simp only [bn.down, simprocAttr, vI.down, er] at aj ⊢); exact aj
     exact gg _ (cq _ (.inr ⟨_, br rfl, vQ au bx h⟩))
    ·refine a6 (congrArg I.bool cu) ?_
     simp only [cu, al.down]
     exact a_ (gg _ (cq _ (.inr ⟨_, br rfl, vQ bA bx h⟩)))
   ·refine a6 (congrArg I.bool dt) ?_
    simp only [dt, al.down]
    refine dL (cZ 0 _ (bU 0 _ (bO _ (gE _ (.inl ?_)))))
    refine ws _ ?_
    exact aJ (an _ (.inl (aK [.ar 1 (bA.map aU)] rfl (by cases aI h; rfl) (by decide) aO)))
 obtain ⟨n, h⟩ := dx h
 exact dG (.inr ⟨_, br rfl, iY n [] 0 h⟩)
theorem as9 (a0 : dv) (r : (List Int)) (h : ya a0 = some r) : aQ aG 70 [.ref (ep a0)] (.ar 1 (r.map aU)) [] := by
 refine aQ.b7 (fx := [0]) b8 [.tmp 2] [(0, .ref (ep a0))] Tryz.func70 rfl rfl ae9 (Nat.le_of_ble_eq_true rfl) rfl rfl (fun b1 an b2 => ?_)
 refine ws _ ?_
 refine g1 (show ∀ s, dJ aG s 43 0 [] = some (.ar 1 [], s) from fun s => by kernel_rfl) _ ?_
 refine aM (fun jV gE dP a2 => ?_)
 refine ws _ ?_
 refine bK (fun gM d_ dV bO bp => ?_)
 have iY : ∀ (n : Nat) (bA : List Int) (bx : Int), sQ a0 n bA bx = some r → du aG MS gM (aa [(0, .ref (ep a0)), (3, .ar 1 (bA.map aU)), (4, .int .i64 bx)]) := by
  intro eK
  induction eK with
  | zero => intro bA bx h; cases (show none = some r from h)
  | succ eK iZ =>
   intro bA bx h
   replace h : BQ (sQ a0 eK) a0 bA bx = some r := h
   refine dH (fun e_ dN dX bU => ?_)
   refine aM (fun g3 dM eM cZ => ?_)
   refine ws _ ?_
   rcases aS h with ⟨dt, h⟩ | ⟨dt, h⟩
   ·refine aZ (congrArg I.bool dt) ?_
    simp only [dt, al.down]
    refine a_ (dM _ (.inl ?_))
    refine aM (fun e8 cq cP de => ?_)
    refine bK (fun iW fu il ho eB => ?_)
    obtain ⟨ag, eu, h⟩ := aL h
    obtain ⟨au, er, h⟩ := aL h
    refine iR (bX [(0, .ref (ep a0)), (3, .ar 1 (au.map aU)), (4, .int .i64 bx)] (fun P aj => ?_) ?_)
    ·simp only [aT.down, simprocAttr, kR.down, eu]
     refine e6 (Hg bA ag.fe _ er) rfl rfl (by simp only [aT.down, simprocAttr, kR.down, eu, fY, fZ, f_, di, @cb _ aU aU (fun _ => hT _)] <;> rfl) rfl (.inr (je (fun _ => py _) _)) ?_
     simp only [aT.down, simprocAttr, kR.down, eu]
     (try simp only [bn.down, simprocAttr, hV.down, eu] at aj ⊢); exact aj
    refine fu _ (cq _ (.inl ?_))
    refine wr _ ?_
    exact dN _ (.inr ⟨_, br rfl, iZ au (IntKind.i64.wrap (bx + 1)) h⟩)
   ·refine a6 (congrArg I.bool dt) ?_
    simp only [dt, al.down]
    refine dL (cZ 0 _ (bU 0 _ (bO _ (gE _ (.inl ?_)))))
    refine bK (fun oJ ka jw hi l7 => ?_)
    have Hh : ∀ (n : Nat) (ng : List Int), kr a0 n ng = some r → du aG MV oJ (aa [(0, .ref (ep a0)), (3, .ar 1 (ng.map aU))]) := by
     intro lI
     induction lI with
     | zero => intro ng h; cases (show none = some r from h)
     | succ lI Hi =>
      intro ng h
      replace h : x_ (kr a0 lI) a0 ng = some r := h
      refine dH (fun nZ jx i0 nr => ?_)
      refine bK (fun Dk qo pB eg Dl => ?_)
      obtain ⟨a2, iq, h⟩ := aL h
      refine cU (bX [(0, .ref (ep a0)), (3, .ar 1 (ng.map aU)), (5, .ar 1 (a2.map aU))] (fun P aj => ?_) ?_)
      ·simp only [aT.down, simprocAttr, hV.down]
       refine e6 (as7 ng _ iq) rfl rfl (by simp only [aT.down, simprocAttr, hV.down, fY, fZ, f_, di, @cb _ aU aU (fun _ => hT _)] <;> rfl) rfl (.inr (je (fun _ => py _) _)) ?_
       simp only [aT.down, simprocAttr, hV.down]
       (try simp only [bn.down, simprocAttr, hV.down] at aj ⊢); exact aj
      refine aM (fun Hj tr ts Dp => ?_)
      refine ws _ ?_
      refine bK (fun as_ ay0 ay1 eP ay2 => ?_)
      have ata : ∀ (n : Nat) (lB : List Int) (mB : List Int) (nf : Int), oE (kr a0 lI) a0 n lB mB nf = some r → du aG MU as_ (aa [(0, .ref (ep a0)), (3, .ar 1 (lB.map aU)), (5, .ar 1 (mB.map aU)), (6, .int .i64 nf)]) := by
       intro vX
       induction vX with
       | zero => intro lB mB nf h; cases (show none = some r from h)
       | succ vX atb =>
        intro lB mB nf h
        replace h : BP (kr a0 lI) (oE (kr a0 lI) a0 vX) a0 lB mB nf = some r := h
        refine dH (fun atc Hk atd N3 => ?_)
        refine aM (fun Hl tt vY Dq => ?_)
        refine ws _ ?_
        rcases aS h with ⟨h7, h⟩ | ⟨h7, h⟩
        ·refine aZ (congrArg I.bool h7) ?_
         simp only [h7, al.down]
         refine a_ (tt _ (.inl ?_))
         refine aM (fun NL yV GV GW => ?_)
         refine bK (fun G2 n29 Di i1 NS => ?_)
         obtain ⟨bj, n1, h⟩ := aL h
         obtain ⟨bp, pD, h⟩ := aL h
         obtain ⟨bU, Hm, h⟩ := aL h
         refine hf rfl (hg [(0, .ref (ep a0)), (3, .ar 1 (lB.map aU)), (5, .ar 1 (mB.map aU)), (6, .int .i64 nf), (7, .ar 1 (bU.map aU))] (fun P aj => ?_) ?_)
         ·simp only [dD.down, simprocAttr, kR.down, n1, c8 n1, pD]
          refine iS (as8 bp.Body _ Hm) rfl rfl rfl rfl (.inl (by rfl)) ?_
          simp only [dD.down, simprocAttr, kR.down, n1, c8 n1, pD]
          refine ⟨gX (by kernel_rfl), ?_⟩
          (try simp only [bn.down, simprocAttr, hV.down, n1, c8 n1, pD] at aj ⊢); exact aj
         refine ws _ ?_
         refine bK (fun G4 n35 G5 l8 NW => ?_)
         have ate : ∀ (n : Nat) (nb : List Int) (nU : List Int) (nc : Int) (nd : Int), rl (kr a0 lI) (oE (kr a0 lI) a0 vX) a0 bU n nb nU nc nd = some r → du aG MT G4 (aa [(0, .ref (ep a0)), (3, .ar 1 (nb.map aU)), (5, .ar 1 (nU.map aU)), (6, .int .i64 nc), (7, .ar 1 (bU.map aU)), (8, .int .i64 nd)]) := by
          intro Hn
          induction Hn with
          | zero => intro nb nU nc nd h; cases (show none = some r from h)
          | succ Hn atf =>
           intro nb nU nc nd h
           replace h : BO (kr a0 lI) (oE (kr a0 lI) a0 vX) (rl (kr a0 lI) (oE (kr a0 lI) a0 vX) a0 bU Hn) a0 bU nb nU nc nd = some r := h
           refine dH (fun ay3 n36 ay4 atg => ?_)
           refine aM (fun ath n37 ati N4 => ?_)
           refine ws _ ?_
           rcases aS h with ⟨kT, h⟩ | ⟨kT, h⟩
           ·refine aZ (congrArg I.bool kT) ?_
            simp only [kT, al.down]
            refine a_ (n37 _ (.inl ?_))
            refine aM (fun NX n40 G9 G_ => ?_)
            refine bK (fun ay5 n41 ay6 ay7 ay8 => ?_)
            obtain ⟨cZ, rz, h⟩ := aL h
            obtain ⟨e7, qp, h⟩ := aL h
            refine iR (bX [(0, .ref (ep a0)), (3, .ar 1 (nb.map aU)), (5, .ar 1 (e7.map aU)), (6, .int .i64 nc), (7, .ar 1 (bU.map aU)), (8, .int .i64 nd)] (fun P aj => ?_) ?_)
            ·simp only [aT.down, simprocAttr, C7.down, rz, c8 rz]
             refine e6 (Hg nU cZ _ qp) rfl rfl (by simp only [aT.down, simprocAttr, C7.down, rz, c8 rz, fY, fZ, f_, di, @cb _ aU aU (fun _ => hT _)] <;> rfl) rfl (.inr (je (fun _ => py _) _)) ?_
             simp only [aT.down, simprocAttr, C7.down, rz, c8 rz]
             (try simp only [bn.down, simprocAttr, hV.down, rz, c8 rz] at aj ⊢); exact aj
            refine n41 _ (n40 _ (.inl ?_))
            refine wr _ ?_
            exact n36 _ (.inr ⟨_, br rfl, atf nb e7 nc (IntKind.i64.wrap (nd + 1)) h⟩)
           ·refine a6 (congrArg I.bool kT) ?_
            simp only [kT, al.down]
            refine dL (N4 6 _ (atg 6 _ (l8 _ (n29 _ (yV _ (.inl ?_))))))
            refine wr _ ?_
            exact Hk _ (.inr ⟨_, br rfl, atb nb nU (IntKind.i64.wrap (nc + 1)) h⟩)
         obtain ⟨n, h⟩ := dx h
         exact dG (.inr ⟨_, br rfl, ate n lB mB nf 0 h⟩)
        ·refine a6 (congrArg I.bool h7) ?_
         simp only [h7, al.down]
         refine dL (Dq 4 _ (N3 4 _ (eP _ (tr _ (.inl ?_)))))
         refine aM (fun asI Hc Hd asJ => ?_)
         refine ws _ ?_
         rcases aS h with ⟨za, h⟩ | ⟨za, h⟩
         ·refine aZ (congrArg I.bool za) ?_
          simp only [za, al.down]
          refine ws _ ?_
          exact aJ (Hd _ (pB _ (i0 _ (jw _ (an _ (.inl (aK [.ar 1 (lB.map aU)] rfl (by cases aI h; rfl) (by decide) aO)))))))
         ·refine a6 (congrArg I.bool za) ?_
          simp only [za, al.down]
          refine a_ (Hc _ (.inl ?_))
          refine wr _ ?_
          exact qo _ (jx _ (.inr ⟨_, br rfl, Hi mB h⟩))
      obtain ⟨n, h⟩ := dx h
      exact dG (.inr ⟨_, br rfl, ata n ng a2 0 h⟩)
    obtain ⟨n, h⟩ := dx h
    exact dG (.inr ⟨_, br rfl, Hh n bA h⟩)
 obtain ⟨n, h⟩ := dx h
 exact dG (.inr ⟨_, br rfl, iY n [] 0 h⟩)
theorem atj (a0 : dv) (r : (List Int) × Int) (h : BR a0 = some r) : aQ aG 31 [ep a0] (.tuple [.ar 1 (r.1.map aU), .int .i64 r.2]) [] := by
 refine aQ.b7 (fx := [0]) b8 [.tmp 2, .tmp 3] [(0, ep a0)] Tryz.func31 rfl rfl afe (Nat.le_of_ble_eq_true rfl) rfl rfl (fun b1 an b2 => ?_)
 refine ws _ ?_
 refine aM (fun ew ca bw au => ?_)
 obtain ⟨ag, c6, h⟩ := aL h
 refine cU (bX [(1, .bd (ep a0)), (5, .bool (!ag))] (fun P aj => ?_) ?_)
 ·refine e6 (as4 a0 _ c6) rfl rfl (by simp only [aT.down, simprocAttr, hV.down, fY, fZ, f_, di, @cb _ bB bB (fun _ => yG _), @cb _ ez ez (fun _ => yJ _), @cb _ bt bt (fun _ => mE _), @cb _ bF bF (fun _ => iw _), @cb _ bF bF (fun _ => iw _)] <;> rfl) rfl (.inr (by rfl)) ?_
  simp only [aT.down, simprocAttr, hV.down]
  (try simp only [bn.down, simprocAttr, hV.down] at aj ⊢); exact aj
 rcases aS h with ⟨bO, h⟩ | ⟨bO, h⟩
 ·refine aZ (congrArg I.bool bO) ?_
  simp only [(db bO), al.down]
  refine ws _ ?_
  exact aJ (bw _ (an _ (.inr ⟨[(2, .ar 1 []), (3, .int .i64 1)], q1 [] rfl (q3 (t := 2) (d := .bu) rfl rfl (.mo _) (by decide) (lf rfl (q2))), aK [.ar 1 [], .int .i64 1] rfl (by cases aI h; rfl) (by decide) aO⟩)))
 ·refine a6 (congrArg I.bool bO) ?_
  simp only [(bC bO), al.down]
  refine a_ (ca _ (.inl ?_))
  obtain ⟨au, iB, h⟩ := aL h
  refine cU (bX [(2, .ar 1 (au.map aU)), (3, .int .i64 0)] (fun P aj => ?_) ?_)
  ·refine e6 (as9 a0 _ iB) rfl rfl (by simp only [aT.down, simprocAttr, hV.down, fY, fZ, f_, di, @cb _ bB bB (fun _ => yG _), @cb _ ez ez (fun _ => yJ _), @cb _ bt bt (fun _ => mE _), @cb _ bF bF (fun _ => iw _), @cb _ bF bF (fun _ => iw _)] <;> rfl) rfl (.inr (je (fun _ => py _) _)) ?_
   simp only [aT.down, simprocAttr, hV.down]
   (try simp only [bn.down, simprocAttr, hV.down] at aj ⊢); exact aj
  exact aJ (an _ (.inl (aK [.ar 1 (au.map aU), .int .i64 0] rfl (by cases aI h; rfl) (by decide) aO)))
theorem jW (a0 : Int) (U : Int) (bq : Int) (r : Bool) (h : jt a0 U bq = some r) : aQ aG 95 [.int .i64 a0, .int .i64 U, .int .i64 bq] (.bool r) [] := by
 refine aQ.b7 (fx := [0, 1, 2]) b8 [.tmp 6] [(0, .int .i64 a0), (1, .int .i64 U), (2, .int .i64 bq)] Tryz.func95 rfl rfl afh (Nat.le_of_ble_eq_true rfl) rfl rfl (fun b1 an b2 => ?_)
 refine ws _ ?_
 refine cU (bX [(6, .bool ((decide (U ≤ a0)) && (decide (a0 ≤ bq))))] (fun P aj => ?_) ?_)
 ·rcases Bool.eq_false_or_eq_true (decide (U ≤ a0)) with e9 | e9
  ·simp only [aT.down, simprocAttr, e9]
   (try simp only [bn.down, simprocAttr, e9] at aj ⊢); exact aj
  ·simp only [aT.down, simprocAttr, e9]
   (try simp only [bn.down, simprocAttr, e9] at aj ⊢); exact aj
 exact aJ (an _ (.inl (aK [.bool ((decide (U ≤ a0)) && (decide (a0 ≤ bq)))] rfl (by cases aI h; rfl) (by decide) aO)))
theorem atk (a0 : bg) (r : Bool) (h : Gc a0 = some r) : aQ aG 201 [bB a0] (.bool r) [] := by
 refine aQ.b7 (fx := [0]) b8 [.tmp 2] [(0, bB a0)] Tryz.func201 rfl rfl afk (Nat.le_of_ble_eq_true rfl) rfl rfl (fun b1 an b2 => ?_)
 refine ws _ ?_
 obtain ⟨ag, a8, h⟩ := aL h
 refine dZ (jW a0.dj 0 3 _ a8) _ ?_
 exact aJ (an _ (.inl (aK [.bool (!ag)] rfl (by cases aI h; rfl) (by decide) aO)))
theorem atl (a0 : List bg) (r : Int) (h : Gd a0 = some r) : aQ aG 203 [.slice (a0.map bB), .fn 201 []] (.int .i64 r) [] := by
 refine aQ.b7 (fx := [0, 1]) b8 [.tmp 4] [(0, .slice (a0.map bB)), (1, .fn 201 [])] Tryz.func203 rfl rfl afv (Nat.le_of_ble_eq_true rfl) rfl rfl (fun b1 an b2 => ?_)
 refine ws _ ?_
 refine aM (fun ew ca bw au => ?_)
 refine ws _ ?_
 refine bK (fun ed dW cj bz bj => ?_)
 have fz : ∀ (n : Nat) (cG : Int), vr a0 n cG = some r → du aG MW ed (aa [(0, .slice (a0.map bB)), (1, .fn 201 []), (7, .int .i64 (a0.length : Int)), (8, .int .i64 cG)]) := by
  intro cC
  induction cC with
  | zero => intro cG h; cases (show none = some r from h)
  | succ cC fm =>
   intro cG h
   replace h : BS (vr a0 cC) a0 cG = some r := h
   refine dH (fun gM d_ dV bp => ?_)
   refine ws _ ?_
   refine aM (fun g3 dM eM cZ => ?_)
   rcases aS h with ⟨bf, h⟩ | ⟨bf, h⟩
   ·refine aZ (congrArg I.bool bf) ?_
    simp only [bf, al.down]
    refine a_ (dM _ (.inl ?_))
    refine aM (fun eG c3 cD dQ => ?_)
    refine bK (fun e8 cq cP b5 de => ?_)
    refine ws _ ?_
    obtain ⟨ag, eu, h⟩ := aL h
    obtain ⟨au, er, h⟩ := aL h
    refine iV eu (atk ag _ er) _ ?_
    rcases aS h with ⟨cu, h⟩ | ⟨cu, h⟩
    ·refine aZ (congrArg I.bool cu) ?_
     simp only [cu, al.down]
     refine ws _ ?_
     exact aJ (cP _ (cD _ (dV _ (cj _ (bw _ (an _ (.inl (aK [.int .i64 cG] rfl (by cases aI h; rfl) (by decide) aO))))))))
    ·refine a6 (congrArg I.bool cu) ?_
     simp only [cu, al.down]
     refine a_ (cq _ (c3 _ (.inl ?_)))
     refine wr _ ?_
     exact d_ _ (.inr ⟨_, br rfl, fm (IntKind.i64.wrap (cG + 1)) h⟩)
   ·refine a6 (congrArg I.bool bf) ?_
    simp only [bf, al.down]
    refine dL (cZ 0 _ (bp 0 _ (bz _ (ca _ (.inl ?_)))))
    refine ws _ ?_
    exact aJ (an _ (.inl (aK [.int .i64 (-1)] rfl (by cases aI h; rfl) (by decide) aO)))
 obtain ⟨n, h⟩ := dx h
 exact dG (.inr ⟨_, br rfl, fz n 0 h⟩)
theorem atm (a0 : List bg) (r : Bool) (h : Ge a0 = some r) : aQ aG 200 [.slice (a0.map bB), .fn 201 []] (.bool r) [] := by
 refine aQ.b7 (fx := [0, 1]) b8 [.tmp 4] [(0, .slice (a0.map bB)), (1, .fn 201 [])] Tryz.func200 rfl rfl afy (Nat.le_of_ble_eq_true rfl) rfl rfl (fun b1 an b2 => ?_)
 refine ws _ ?_
 obtain ⟨ag, a8, h⟩ := aL h
 refine dZ (atl a0 _ a8) _ ?_
 exact aJ (an _ (.inl (aK [.bool (decide (0 ≤ ag))] rfl (by cases aI h; rfl) (by decide) aO)))
theorem atn (a0 : List bg) (r : Bool) (h : BT a0 = some r) : aQ aG 165 [.slice (a0.map bB)] (.bool r) [] := by
 refine aQ.b7 (fx := [0]) b8 [.tmp 2] [(0, .slice (a0.map bB))] Tryz.func165 rfl rfl afB (Nat.le_of_ble_eq_true rfl) rfl rfl (fun b1 an b2 => ?_)
 refine ws _ ?_
 obtain ⟨ag, a8, h⟩ := aL h
 refine dZ (atm a0 _ a8) _ ?_
 exact aJ (an _ (.inl (aK [.bool (!ag)] rfl (by cases aI h; rfl) (by decide) aO)))
theorem ato (a0 : UInt8) (r : Bool) (h : Gf a0 = some r) : aQ aG 202 [.int .u8 (a0.toNat : Int)] (.bool r) [] := by
 refine aQ.b7 (fx := [0]) b8 [.tmp 2] [(0, .int .u8 (a0.toNat : Int))] Tryz.func202 rfl rfl afE (Nat.le_of_ble_eq_true rfl) rfl rfl (fun b1 an b2 => ?_)
 refine ws _ ?_
 refine cU (bX [(2, .bool ((decide (48 ≤ (a0.toNat : Int))) && (decide ((a0.toNat : Int) ≤ 57))))] (fun P aj => ?_) ?_)
 ·rcases Bool.eq_false_or_eq_true (decide (48 ≤ (a0.toNat : Int))) with e9 | e9
  ·simp only [aT.down, simprocAttr, e9]
   (try simp only [bn.down, simprocAttr, e9] at aj ⊢); exact aj
  ·simp only [aT.down, simprocAttr, e9]
   (try simp only [bn.down, simprocAttr, e9] at aj ⊢); exact aj
 exact aJ (an _ (.inl (aK [.bool ((decide (48 ≤ (a0.toNat : Int))) && (decide ((a0.toNat : Int) ≤ 57)))] rfl (by cases aI h; rfl) (by decide) aO)))
theorem Dr (a0 : List UInt8) (r : Bool) (h : yc a0 = some r) : aQ aG 166 [.str a0] (.bool r) [] := by
 refine aQ.b7 (fx := [0]) b8 [.tmp 2] [(0, .str a0)] Tryz.func166 rfl rfl afQ (Nat.le_of_ble_eq_true rfl) rfl rfl (fun b1 an b2 => ?_)
 refine ws _ ?_
 refine aM (fun ew ca bw au => ?_)
 refine ws _ ?_
 refine bK (fun ed dW cj bz bj => ?_)
 have fz : ∀ (n : Nat) (eF : Int), qf a0 n eF = some r → du aG MX ed (aa [(0, .str a0), (6, .int .i64 (a0.length : Int)), (7, .int .i64 eF)]) := by
  intro cC
  induction cC with
  | zero => intro eF h; cases (show none = some r from h)
  | succ cC fm =>
   intro eF h
   replace h : yb (qf a0 cC) a0 eF = some r := h
   refine dH (fun gM d_ dV bp => ?_)
   refine ws _ ?_
   refine aM (fun g3 dM eM cZ => ?_)
   rcases aS h with ⟨bf, h⟩ | ⟨bf, h⟩
   ·refine aZ (congrArg I.bool bf) ?_
    simp only [bf, al.down]
    refine a_ (dM _ (.inl ?_))
    refine aM (fun eG c3 cD dQ => ?_)
    refine bK (fun e8 cq cP b5 de => ?_)
    refine ws _ ?_
    obtain ⟨ag, eu, h⟩ := aL h
    refine cU (bX [(0, .str a0), (3, .int .i64 eF), (4, .bool ((decide (97 ≤ (ag.toNat : Int))) && (decide ((ag.toNat : Int) ≤ 122)))), (6, .int .i64 (a0.length : Int)), (7, .int .i64 eF)] (fun P aj => ?_) ?_)
    ·rcases Bool.eq_false_or_eq_true (decide (97 ≤ (ag.toNat : Int))) with pF | pF
     ·simp only [aT.down, simprocAttr, eU, eu, pF]
      (try simp only [bn.down, simprocAttr, eu, pF] at aj ⊢); exact aj
     ·simp only [aT.down, simprocAttr, eU, eu, pF]
      (try simp only [bn.down, simprocAttr, eu, pF] at aj ⊢); exact aj
    rcases aS h with ⟨hi, h⟩ | ⟨hi, h⟩
    ·rcases aS h with ⟨im, h⟩ | ⟨im, h⟩
     ·refine g1 (And.intro hi im) _ ?_
      refine aZ rfl ?_
      refine ws _ ?_
      exact aJ (cP _ (cD _ (dV _ (cj _ (bw _ (an _ (.inl (aK [.bool false] rfl (by cases aI h; rfl) (by decide) aO))))))))
     ·obtain ⟨au, hq, h⟩ := aL h
      refine cU (bX [(0, .str a0), (6, .int .i64 (a0.length : Int)), (7, .int .i64 eF), (32, .bool (!au))] (fun P aj => ?_) ?_)
      ·simp only [aT.down, simprocAttr, eU, hi, im, eu]
       refine hy (ato ag _ hq) rfl rfl rfl rfl (.inl (by rfl)) ?_
       simp only [aT.down, simprocAttr, eU, hi, im, eu]
       (try simp only [bn.down, simprocAttr, hi, im, eu] at aj ⊢); exact aj
      rcases aS h with ⟨c7, h⟩ | ⟨c7, h⟩
      ·refine aZ (congrArg I.bool c7) ?_
       simp only [(db c7), al.down]
       refine ws _ ?_
       exact aJ (cP _ (cD _ (dV _ (cj _ (bw _ (an _ (.inl (aK [.bool false] rfl (by cases aI h; rfl) (by decide) aO))))))))
      ·refine a6 (congrArg I.bool c7) ?_
       simp only [(bC c7), al.down]
       refine a_ (cq _ (c3 _ (.inl ?_)))
       refine wr _ ?_
       exact d_ _ (.inr ⟨_, br rfl, fm (IntKind.i64.wrap (eF + 1)) h⟩)
    ·refine g1 hi _ ?_
     refine a6 rfl ?_
     refine a_ (cq _ (c3 _ (.inl ?_)))
     refine wr _ ?_
     exact d_ _ (.inr ⟨_, br rfl, fm (IntKind.i64.wrap (eF + 1)) h⟩)
   ·refine a6 (congrArg I.bool bf) ?_
    simp only [bf, al.down]
    refine dL (cZ 0 _ (bp 0 _ (bz _ (ca _ (.inl ?_)))))
    refine cU (bX [(2, .bool ((decide (1 ≤ (a0.length : Int))) && (decide ((a0.length : Int) ≤ 10))))] (fun P aj => ?_) ?_)
    ·rcases Bool.eq_false_or_eq_true (decide (1 ≤ (a0.length : Int))) with te | te
     ·simp only [aT.down, simprocAttr, eU, te]
      (try simp only [bn.down, simprocAttr, te] at aj ⊢); exact aj
     ·simp only [aT.down, simprocAttr, eU, te]
      (try simp only [bn.down, simprocAttr, te] at aj ⊢); exact aj
    exact aJ (an _ (.inl (aK [.bool ((decide (1 ≤ (a0.length : Int))) && (decide ((a0.length : Int) ≤ 10)))] rfl (by cases aI h; rfl) (by decide) aO)))
 obtain ⟨n, h⟩ := dx h
 exact dG (.inr ⟨_, br rfl, fz n 0 h⟩)
theorem atp (a0 : bg) (U : List UInt8) (r : Bool) (h : Gg a0 U = some r) : aQ aG 204 [bB a0, .ref (.str U)] (.bool r) [] := by
 refine aQ.b7 (fx := [0, 1]) b8 [.tmp 3] [(0, bB a0), (1, .ref (.str U))] Tryz.func204 rfl rfl afT (Nat.le_of_ble_eq_true rfl) rfl rfl (fun b1 an b2 => ?_)
 refine ws _ ?_
 refine ws _ ?_
 exact aJ (an _ (.inl (aK [.bool (a0.Name == U)] rfl (by cases aI h; rfl) (by decide) aO)))
theorem atq (a0 : List bg) (U : List UInt8) (r : Int) (h : Gh a0 U = some r) : aQ aG 203 [.slice (a0.map bB), .fn 204 [.ref (.str U)]] (.int .i64 r) [] := by
 refine aQ.b7 (fx := [0, 1]) b8 [.tmp 4] [(0, .slice (a0.map bB)), (1, .fn 204 [.ref (.str U)])] Tryz.func203 rfl rfl af4 (Nat.le_of_ble_eq_true rfl) rfl rfl (fun b1 an b2 => ?_)
 refine ws _ ?_
 refine aM (fun ew ca bw au => ?_)
 refine ws _ ?_
 refine bK (fun ed dW cj bz bj => ?_)
 have fz : ∀ (n : Nat) (cG : Int), vt a0 U n cG = some r → du aG MY ed (aa [(0, .slice (a0.map bB)), (1, .fn 204 [.ref (.str U)]), (7, .int .i64 (a0.length : Int)), (8, .int .i64 cG)]) := by
  intro cC
  induction cC with
  | zero => intro cG h; cases (show none = some r from h)
  | succ cC fm =>
   intro cG h
   replace h : BU (vt a0 U cC) a0 U cG = some r := h
   refine dH (fun gM d_ dV bp => ?_)
   refine ws _ ?_
   refine aM (fun g3 dM eM cZ => ?_)
   rcases aS h with ⟨bf, h⟩ | ⟨bf, h⟩
   ·refine aZ (congrArg I.bool bf) ?_
    simp only [bf, al.down]
    refine a_ (dM _ (.inl ?_))
    refine aM (fun eG c3 cD dQ => ?_)
    refine bK (fun e8 cq cP b5 de => ?_)
    refine ws _ ?_
    obtain ⟨ag, eu, h⟩ := aL h
    obtain ⟨au, er, h⟩ := aL h
    refine iV eu (atp ag U _ er) _ ?_
    rcases aS h with ⟨cu, h⟩ | ⟨cu, h⟩
    ·refine aZ (congrArg I.bool cu) ?_
     simp only [cu, al.down]
     refine ws _ ?_
     exact aJ (cP _ (cD _ (dV _ (cj _ (bw _ (an _ (.inl (aK [.int .i64 cG] rfl (by cases aI h; rfl) (by decide) aO))))))))
    ·refine a6 (congrArg I.bool cu) ?_
     simp only [cu, al.down]
     refine a_ (cq _ (c3 _ (.inl ?_)))
     refine wr _ ?_
     exact d_ _ (.inr ⟨_, br rfl, fm (IntKind.i64.wrap (cG + 1)) h⟩)
   ·refine a6 (congrArg I.bool bf) ?_
    simp only [bf, al.down]
    refine dL (cZ 0 _ (bp 0 _ (bz _ (ca _ (.inl ?_)))))
    refine ws _ ?_
    exact aJ (an _ (.inl (aK [.int .i64 (-1)] rfl (by cases aI h; rfl) (by decide) aO)))
 obtain ⟨n, h⟩ := dx h
 exact dG (.inr ⟨_, br rfl, fz n 0 h⟩)
theorem atr (a0 : List bg) (U : List UInt8) (r : Int) (h : BV a0 U = some r) : aQ aG 167 [.slice (a0.map bB), .str U] (.int .i64 r) [] := by
 refine aQ.b7 (fx := [0, 1]) b8 [.tmp 4] [(0, .slice (a0.map bB)), (1, .str U)] Tryz.func167 rfl rfl af7 (Nat.le_of_ble_eq_true rfl) rfl rfl (fun b1 an b2 => ?_)
 refine ws _ ?_
 obtain ⟨ag, a8, h⟩ := aL h
 refine cU (bX [(4, .int .i64 ag)] (fun P aj => ?_) ?_)
 ·simp only [aT.down, simprocAttr, hU.down]
  refine e6 (atq a0 U _ a8) rfl rfl (by simp only [aT.down, simprocAttr, hU.down, fY, fZ, f_, di] <;> rfl) rfl (.inr (by rfl)) ?_
  simp only [aT.down, simprocAttr, hU.down]
  (try simp only [bn.down, simprocAttr, hU.down] at aj ⊢); exact aj
 exact aJ (an _ (.inl (aK [.int .i64 ag] rfl (by cases aI h; rfl) (by decide) aO)))
theorem N5 (a0 : bE) (r : Int) (h : ye a0 = some r) : aQ aG 134 [cd a0] (.int .i64 r) [] := by
 refine aQ.b7 (fx := [0]) b8 [.tmp 2] [(0, cd a0)] Tryz.func134 rfl rfl agk (Nat.le_of_ble_eq_true rfl) rfl rfl (fun b1 an b2 => ?_)
 refine ws _ ?_
 refine aM (fun ew ca bw au => ?_)
 refine ws _ ?_
 refine bK (fun ed dW cj bz bj => ?_)
 have tk : ∀ (dp : Bool), yd a0 dp = some r → dh aG MZ ed (aa [(4, .int .i64 a0.Kind), (5, .bool dp)]) := by
  intro dp h
  rcases aS h with ⟨cM, h⟩ | ⟨cM, h⟩
  ·refine aZ (congrArg I.bool cM) ?_
   simp only [cM, al.down]
   refine ws _ ?_
   exact aJ (cj _ (bw _ (an _ (.inl (aK [.int .i64 1] rfl (by cases aI h; rfl) (by decide) aO)))))
  ·refine a6 (congrArg I.bool cM) ?_
   simp only [cM, al.down]
   refine ws _ ?_
   rcases aS h with ⟨dt, h⟩ | ⟨dt, h⟩
   ·refine aZ (congrArg I.bool dt) ?_
    simp only [dt, al.down]
    refine ws _ ?_
    exact aJ (cj _ (bw _ (an _ (.inl (aK [.int .i64 2] rfl (by cases aI h; rfl) (by decide) aO)))))
   ·refine a6 (congrArg I.bool dt) ?_
    simp only [dt, al.down]
    refine a_ (dW _ (ca _ (.inl ?_)))
    refine ws _ ?_
    exact aJ (an _ (.inl (aK [.int .i64 0] rfl (by cases aI h; rfl) (by decide) aO)))
 refine aM (fun gM d_ dV bp => ?_)
 refine ws _ ?_
 rcases aS h with ⟨c0, h⟩ | ⟨c0, h⟩
 ·refine aZ (congrArg I.bool c0) ?_
  simp only [c0, al.down]
  exact a_ (d_ _ (.inr ⟨_, br rfl, tk true h⟩))
 ·refine a6 (congrArg I.bool c0) ?_
  simp only [c0, al.down]
  refine ws _ ?_
  rcases aS h with ⟨cu, h⟩ | ⟨cu, h⟩
  ·refine aZ (congrArg I.bool cu) ?_
   simp only [cu, al.down]
   exact a_ (d_ _ (.inr ⟨_, br rfl, tk true h⟩))
  ·refine a6 (congrArg I.bool cu) ?_
   simp only [cu, al.down]
   refine wr _ ?_
   exact d_ _ (.inr ⟨_, br rfl, tk (a0.Kind == 4) h⟩)
theorem ats (a0 : bg) (U : Int) (r : Int) (h : BX a0 U = some r) : aQ aG 205 [bB a0, .int .i64 U] (.int .i64 r) [] := by
 refine aQ.b7 (fx := [0]) b8 [.tmp 4] [(0, bB a0), (1, .int .i64 U)] Tryz.func205 rfl rfl agv (Nat.le_of_ble_eq_true rfl) rfl rfl (fun b1 an b2 => ?_)
 refine ws _ ?_
 refine aM (fun ew ca bw au => ?_)
 refine ws _ ?_
 refine bK (fun ed dW cj bz bj => ?_)
 have fz : ∀ (n : Nat) (ba : Int) (aX : Int), sR a0 n ba aX = some r → du aG M0 ed (aa [(1, .int .i64 ba), (2, .bd (bB a0)), (5, .int .i64 aX)]) := by
  intro cC
  induction cC with
  | zero => intro ba aX h; cases (show none = some r from h)
  | succ cC fm =>
   intro ba aX h
   replace h : BW (sR a0 cC) a0 ba aX = some r := h
   refine dH (fun gM d_ dV bp => ?_)
   refine aM (fun e_ dN dX bU => ?_)
   refine ws _ ?_
   rcases aS h with ⟨bf, h⟩ | ⟨bf, h⟩
   ·refine aZ (congrArg I.bool bf) ?_
    simp only [bf, al.down]
    refine a_ (dN _ (.inl ?_))
    refine aM (fun eG c3 cD dQ => ?_)
    refine bK (fun e8 cq cP b5 de => ?_)
    refine aM (fun iW fu il eB => ?_)
    refine ws _ ?_
    rcases aS h with ⟨c0, h⟩ | ⟨c0, h⟩
    ·refine aZ (congrArg I.bool c0) ?_
     simp only [c0, al.down]
     refine ws _ ?_
     exact aJ (il _ (cP _ (cD _ (dV _ (cj _ (bw _ (an _ (.inl (aK [.int .i64 (-1)] rfl (by cases aI h; rfl) (by decide) aO)))))))))
    ·refine a6 (congrArg I.bool c0) ?_
     simp only [c0, al.down]
     refine a_ (fu _ (.inl ?_))
     obtain ⟨ag, cV, h⟩ := aL h
     obtain ⟨au, eT, h⟩ := aL h
     refine GO cV (N5 ag _ eT) _ ?_
     refine cq _ (c3 _ (.inl ?_))
     refine wr _ ?_
     exact d_ _ (.inr ⟨_, br rfl, fm (IntKind.i64.wrap (ba + 1)) (IntKind.i64.wrap (aX + (IntKind.i64.wrap (au - 1)))) h⟩)
   ·refine a6 (congrArg I.bool bf) ?_
    simp only [bf, al.down]
    refine dL (bU 0 _ (bp 0 _ (bz _ (ca _ (.inl ?_)))))
    refine ws _ ?_
    exact aJ (an _ (.inl (aK [.int .i64 ba] rfl (by cases aI h; rfl) (by decide) aO)))
 obtain ⟨n, h⟩ := dx h
 exact dG (.inr ⟨_, br rfl, fz n U 1 h⟩)
theorem att (lC : Int → cx → (List cx) → bg → Option (Int × (List cx))) (atu : ∀ (a0 : Int) (U : cx) (bq : List cx) (a3 : bg) (r : Int × (List cx)), lC a0 U bq a3 = some r → lW aG 133 2 4 [.int .i64 a0, dE U, .bd (.ar 2 (bq.map dE)), .ref (bB a3), .ref (.hole)] (.int .i64 r.1) [.hole, .hole, .bd (.ar 2 (r.2.map dE)), .hole, .hole]) (a0 : Int) (U : cx) (bq : List cx) (a3 : bg) (r : Int × (List cx)) (h : Gi lC a0 U bq a3 = some r) : lW aG 133 2 4 [.int .i64 a0, dE U, .bd (.ar 2 (bq.map dE)), .ref (bB a3), .ref (.hole)] (.int .i64 r.1) [.hole, .hole, .bd (.ar 2 (r.2.map dE)), .hole, .hole] := by
 refine lW.b7 (fx := [0, 1, 2, 3, 4]) b8 [.tmp 7] [(0, .int .i64 a0), (1, dE U), (2, .bd (.ar 2 (bq.map dE))), (3, .ref (bB a3)), (4, .ref (.hole))] Tryz.func133 rfl rfl agJ (Nat.le_of_ble_eq_true rfl) agI rfl rfl (fun b1 an b2 => ?_)
 refine ws _ ?_
 obtain ⟨ag, a8, h⟩ := aL h
 refine cU (bX [(0, .int .i64 a0), (2, .bd (.ar 2 ((List.set bq (Int.toNat a0) U).map dE))), (3, .ref (bB a3)), (4, .ref (.hole)), (6, .bd (dE U))] (fun P aj => ?_) ?_)
 ·simp only [aT.down, simprocAttr, ey, q9, xC, q_, bB, cd, b0, dE, eC, a8, c8 a8, eZ, el]
  (try simp only [bn.down, simprocAttr, nn.down, a8, c8 a8, eZ, el] at aj ⊢); exact aj
 obtain ⟨au, da, h⟩ := aL h
 refine g1 da [(0, .int .i64 a0), (2, .bd (.ar 2 ((List.set bq (Int.toNat a0) U).map dE))), (3, .ref (bB a3)), (4, .ref (.hole)), (6, .bd (dE U)), (8, .bd (cd au))] ?_
 refine g1 (show ∀ s, fX aG s 132 [(0, .int .i64 U.scope), (1, .bool (au.Kind == 1))] = some (.agg [.int .i64 U.scope, .bool (au.Kind == 1)], s) from fun s => by kernel_rfl) [(0, .int .i64 a0), (2, .bd (.ar 2 ((List.set bq (Int.toNat a0) U).map dE))), (3, .ref (bB a3)), (4, .ref (.hole)), (8, .bd (cd au)), (9, .bd (.agg [.int .i64 U.scope, .bool (au.Kind == 1)]))] ?_
 have N6 : ∀ (ks : Int), B0 lC a0 U bq a3 au ks = some r → dh aG M3 b1 (aa [(0, .int .i64 a0), (2, .bd (.ar 2 ((List.set bq (Int.toNat a0) U).map dE))), (3, .ref (bB a3)), (4, .ref (.hole)), (8, .bd (cd au)), (9, .bd (.agg [.int .i64 ks, .bool (au.Kind == 1)]))]) := by
  intro ks h
  refine ws [(2, .bd (.ar 2 ((List.set bq (Int.toNat a0) U).map dE))), (3, .ref (bB a3)), (4, .ref (.hole)), (8, .bd (cd au)), (9, .bd (.agg [.int .i64 ks, .bool (au.Kind == 1)])), (10, .int .i64 (IntKind.i64.wrap (a0 + 1)))] ?_
  refine aM (fun eG c3 cD dQ => ?_)
  obtain ⟨a2, oa, h⟩ := aL h
  refine dZ (N5 au _ oa) [(2, .bd (.ar 2 ((List.set bq (Int.toNat a0) U).map dE))), (3, .ref (bB a3)), (4, .ref (.hole)), (9, .bd (.agg [.int .i64 ks, .bool (au.Kind == 1)])), (10, .int .i64 (IntKind.i64.wrap (a0 + 1))), (36, .int .i64 a2), (37, .int .i64 0)] ?_
  refine bK (fun ji gg h6 cT iv => ?_)
  have Hh : ∀ (n : Nat) (oF : List cx) (nh : Int) (nV : Int), rm lC a3 ks au a2 n oF nh nV = some r → du aG M1 ji (aa [(2, .bd (.ar 2 (oF.map dE))), (3, .ref (bB a3)), (4, .ref (.hole)), (9, .bd (.agg [.int .i64 ks, .bool (au.Kind == 1)])), (10, .int .i64 nh), (36, .int .i64 a2), (37, .int .i64 nV)]) := by
   intro lI
   induction lI with
   | zero => intro oF nh nV h; cases (show none = some r from h)
   | succ lI Hi =>
    intro oF nh nV h
    replace h : BZ lC (rm lC a3 ks au a2 lI) a3 ks au a2 oF nh nV = some r := h
    refine dH (fun lG gL gw ju => ?_)
    refine ws _ ?_
    refine aM (fun mI hW hB jv => ?_)
    rcases aS h with ⟨hi, h⟩ | ⟨hi, h⟩
    ·refine aZ (congrArg I.bool hi) ?_
     simp only [hi, al.down]
     refine a_ (hW _ (.inl ?_))
     refine aM (fun nZ jx i0 nr => ?_)
     refine bK (fun Dk qo pB eg Dl => ?_)
     obtain ⟨bj, iq, h⟩ := aL h
     refine TO [(2, .bd (.ar 2 (bj.2.map dE))), (3, .ref (bB a3)), (4, .ref (.hole)), (9, .bd (.agg [.int .i64 ks, .bool (au.Kind == 1)])), (10, .int .i64 bj.1), (36, .int .i64 a2), (37, .int .i64 nV)] (fun P aj => ?_) ?_
     ·simp only [aT.down, simprocAttr, GQ.down, oA]
      refine K7 [⟨.int .i64 nh, false, _, .hole⟩, ⟨.agg [.int .i64 ks, .bool (au.Kind == 1)], false, _, .hole⟩, ⟨.h 2 [], true, _, _⟩, ⟨.ref (bB a3), false, _, .hole⟩, ⟨.ref (.hole), false, _, .hole⟩] (atu nh (cx.mk ks (au.Kind == 1)) oF a3 _ iq) rfl (by simp only [aT.down, simprocAttr, GQ.down, oA, mA, lg, iT, fY, fZ, f_, di, or_true, true_or, @cb _ dE dE (fun _ => Mc _)]) rfl rfl (.inl rfl) ?_
      simp only [aT.down, simprocAttr, GQ.down, oA, lh]
      (try simp only [bn.down, simprocAttr, nn.down, oA] at aj ⊢); exact aj
     refine qo _ (jx _ (.inl ?_))
     refine wr _ ?_
     exact gL _ (.inr ⟨_, br rfl, Hi bj.2 bj.1 (IntKind.i64.wrap (nV + 1)) h⟩)
    ·refine a6 (congrArg I.bool hi) ?_
     simp only [hi, al.down]
     refine dL (jv 0 _ (ju 0 _ (cT _ (c3 _ (.inl ?_)))))
     refine ws _ ?_
     exact aJ (an _ (.inl (aK [.int .i64 nh] rfl (by cases aI h; rfl) (by decide) (po (m1 (m1 (pq (by cases aI h; rfl) rfl rfl rfl (m1 (m1 (pr))))))))))
  obtain ⟨n, h⟩ := dx h
  exact dG (.inr ⟨_, br rfl, Hh n (List.set bq (Int.toNat a0) U) (IntKind.i64.wrap (a0 + 1)) 0 h⟩)
 refine aM (fun g3 dM eM cZ => ?_)
 refine ws [(0, .int .i64 a0), (2, .bd (.ar 2 ((List.set bq (Int.toNat a0) U).map dE))), (3, .ref (bB a3)), (4, .ref (.hole)), (8, .bd (cd au)), (9, .bd (.agg [.int .i64 U.scope, .bool (au.Kind == 1)])), (28, .bool (au.Kind == 4))] ?_
 rcases aS h with ⟨gG, h⟩ | ⟨gG, h⟩
 ·refine aZ (congrArg I.bool gG) ?_
  simp only [gG, al.down]
  refine wr [(0, .int .i64 a0), (2, .bd (.ar 2 ((List.set bq (Int.toNat a0) U).map dE))), (3, .ref (bB a3)), (4, .ref (.hole)), (8, .bd (cd au)), (9, .bd (.agg [.int .i64 (IntKind.i64.wrap (U.scope + 1)), .bool (au.Kind == 1)]))] ?_
  exact dM _ (.inr ⟨_, br rfl, N6 (IntKind.i64.wrap (U.scope + 1)) h⟩)
 ·refine a6 (congrArg I.bool gG) ?_
  simp only [gG, al.down]
  exact a_ (dM _ (.inr ⟨_, br rfl, N6 U.scope h⟩))
theorem atv : ∀ (n : Nat) (a0 : Int) (U : cx) (bq : List cx) (a3 : bg) (r : Int × (List cx)), sS n a0 U bq a3 = some r → lW aG 133 2 4 [.int .i64 a0, dE U, .bd (.ar 2 (bq.map dE)), .ref (bB a3), .ref (.hole)] (.int .i64 r.1) [.hole, .hole, .bd (.ar 2 (r.2.map dE)), .hole, .hole] := by
 intro n
 induction n with
 | zero => intro a0 U bq a3 r h; cases (show none = some r from h)
 | succ n ih => intro a0 U bq a3 r h; exact att (sS n) ih a0 U bq a3 r h
theorem atw (a0 : Int) (U : cx) (bq : List cx) (a3 : bg) (r : Int × (List cx)) (h : B1 a0 U bq a3 = some r) : lW aG 133 2 4 [.int .i64 a0, dE U, .bd (.ar 2 (bq.map dE)), .ref (bB a3), .ref (.hole)] (.int .i64 r.1) [.hole, .hole, .bd (.ar 2 (r.2.map dE)), .hole, .hole] := by
 obtain ⟨n, h⟩ := dx h
 exact atv n a0 U bq a3 r h
theorem atx (a0 : bg) (r : (List cx)) (h : B2 a0 = some r) : aQ aG 80 [bB a0] (.ar 2 (r.map dE)) [] := by
 refine aQ.Uw (fx := [0]) b8 [.tmp 2] [(0, bB a0)] Tryz.func80 rfl rfl agO (Nat.le_of_ble_eq_true rfl) agN rfl rfl (fun b1 an b2 => ?_)
 refine ws _ ?_
 obtain ⟨EB, a8, h⟩ := aL h
 refine cU (bX [(1, .bd (bB a0)), (3, .bd (.ar 2 ((List.replicate (Int.toNat (a0.Body.length : Int)) (cx.mk 0 false)).map dE)))] (fun P aj => ?_) ?_)
 ·simp only [aT.down, simprocAttr, ey, q9, eU, jS, lX, gP, h3, xC, q_, gn, ga, bB, cd, b0, dE, eC, (e3 a8).1, (e3 a8).2.1, (e3 a8).2.2, eX, List.map_replicate, -Int.reduceNatCast']
  (try simp only [bn.down, simprocAttr, nn.down, (e3 a8).1, (e3 a8).2.1, (e3 a8).2.2, eX, List.map_replicate, -Int.reduceNatCast'] at aj ⊢); exact aj
 obtain ⟨ag, da, h⟩ := aL h
 refine Uu [(3, .bd (.ar 2 (ag.2.map dE)))] (fun P aj => ?_) ?_
 ·simp only [aT.down, simprocAttr, GR.down, (show ∀ s, fX aG s 132 [(0, .int .i64 a0.dj)] = some (.agg [.int .i64 a0.dj, .bool false], s) from fun s => by kernel_rfl), oA]
  refine K7 [⟨.int .i64 0, false, _, .hole⟩, ⟨.agg [.int .i64 a0.dj, .bool false], false, _, .hole⟩, ⟨.h 3 [], true, _, _⟩, ⟨.h 1 [], false, _, .hole⟩, ⟨.ref (.hole), false, _, .hole⟩] (atw 0 (cx.mk a0.dj false) (List.replicate (Int.toNat (a0.Body.length : Int)) (cx.mk 0 false)) a0 _ da) rfl (by simp only [aT.down, simprocAttr, GR.down, (show ∀ s, fX aG s 132 [(0, .int .i64 a0.dj)] = some (.agg [.int .i64 a0.dj, .bool false], s) from fun s => by kernel_rfl), oA, mA, lg, iT, fY, fZ, f_, di, or_true, true_or, @cb _ dE dE (fun _ => Mc _), @cb _ cd cd (fun _ => GH _)]) rfl rfl ((.inr (by simp only [p6, I.c4, I.hx, Bool.and_self, @je _ dE (fun _ => UQ _)]))) ?_
  simp only [aT.down, simprocAttr, GR.down, (show ∀ s, fX aG s 132 [(0, .int .i64 a0.dj)] = some (.agg [.int .i64 a0.dj, .bool false], s) from fun s => by kernel_rfl), oA, lh]
  (try simp only [bn.down, simprocAttr, nn.down, (show ∀ s, fX aG s 132 [(0, .int .i64 a0.dj)] = some (.agg [.int .i64 a0.dj, .bool false], s) from fun s => by kernel_rfl), oA] at aj ⊢); exact aj
 refine ws _ ?_
 exact aJ (an _ (.inl (aK [.ar 2 (ag.2.map dE)] rfl (by cases aI h; rfl) (by decide) aO)))
theorem aty (a0 : bE) (r : Bool) (h : Gj a0 = some r) : aQ aG 219 [cd a0] (.bool r) [] := by
 refine aQ.b7 (fx := [0]) b8 [.tmp 2] [(0, cd a0)] Tryz.func219 rfl rfl agT (Nat.le_of_ble_eq_true rfl) rfl rfl (fun b1 an b2 => ?_)
 refine ws _ ?_
 refine cU (bX [(1, .bd (cd a0)), (3, .bool ((a0.Kind == 4) || (a0.Kind == 5)))] (fun P aj => ?_) ?_)
 ·rcases Bool.eq_false_or_eq_true (a0.Kind == 4) with e9 | e9
  ·simp only [aT.down, simprocAttr, nW.down, e9]
   (try simp only [bn.down, simprocAttr, mH.down, e9] at aj ⊢); exact aj
  ·simp only [aT.down, simprocAttr, nW.down, e9]
   (try simp only [bn.down, simprocAttr, mH.down, e9] at aj ⊢); exact aj
 refine cU (bX [(1, .bd (cd a0)), (3, .bool ((a0.Kind == 4) || (a0.Kind == 5))), (4, .bool (((a0.Kind == 1) || (a0.Kind == 3)) || (a0.Kind == 5)))] (fun P aj => ?_) ?_)
 ·(rcases Bool.eq_false_or_eq_true (a0.Kind == 1) with Ho | Ho) <;> (rcases Bool.eq_false_or_eq_true (a0.Kind == 3) with yS | yS) <;>
   (simp only [aT.down, simprocAttr, nW.down, Ho, yS]
    (try simp only [bn.down, simprocAttr, mH.down, Ho, yS] at aj ⊢); exact aj)
 obtain ⟨ag, iB, h⟩ := aL h
 refine cU (bX [(2, .bool (((ag && (((a0.Kind == 4) || (a0.Kind == 5)) || (a0.Number == 0))) && ((a0.Kind == 1) || (a0.Name == ([] : List UInt8)))) && ((((a0.Kind == 1) || (a0.Kind == 3)) || (a0.Kind == 5)) || ((a0.cA.length : Int) == 0))))] (fun P aj => ?_) ?_)
 ·(rcases Bool.eq_false_or_eq_true (ag) with mG | mG) <;> (rcases Bool.eq_false_or_eq_true (a0.Kind == 4) with rA | rA) <;> (rcases Bool.eq_false_or_eq_true (a0.Kind == 5) with Ds | Ds) <;> (rcases Bool.eq_false_or_eq_true (a0.Number == 0) with vG | vG) <;> (rcases Bool.eq_false_or_eq_true (a0.Kind == 1) with vH | vH) <;> (rcases Bool.eq_false_or_eq_true (a0.Name == ([] : List UInt8)) with pF | pF) <;> (rcases Bool.eq_false_or_eq_true (a0.Kind == 3) with Dt | Dt) <;>
   (simp only [aT.down, simprocAttr, nW.down, mG, rA, Ds, vG, vH, pF, Dt]
    refine e6 (jW a0.Kind 0 5 _ iB) rfl rfl rfl rfl (.inl (by rfl)) ?_
    simp only [aT.down, simprocAttr, nW.down, mG, rA, Ds, vG, vH, pF, Dt]
    (try simp only [bn.down, simprocAttr, mH.down, mG, rA, Ds, vG, vH, pF, Dt] at aj ⊢); exact aj)
 exact aJ (an _ (.inl (aK [.bool (((ag && (((a0.Kind == 4) || (a0.Kind == 5)) || (a0.Number == 0))) && ((a0.Kind == 1) || (a0.Name == ([] : List UInt8)))) && ((((a0.Kind == 1) || (a0.Kind == 3)) || (a0.Kind == 5)) || ((a0.cA.length : Int) == 0)))] rfl (by cases aI h; rfl) (by decide) aO)))
theorem kx (a0 : List UInt8) (r : Bool) (h : qg a0 = some r) : aQ aG 149 [.str a0] (.bool r) [] := by
 refine aQ.b7 (fx := [0]) b8 [.tmp 2] [(0, .str a0)] Tryz.func149 rfl rfl agW (Nat.le_of_ble_eq_true rfl) rfl rfl (fun b1 an b2 => ?_)
 refine ws _ ?_
 obtain ⟨ag, a8, h⟩ := aL h
 refine cU (bX [(2, .bool (ag && (!(a0 == ([116, 97, 117] : List UInt8)))))] (fun P aj => ?_) ?_)
 ·rcases Bool.eq_false_or_eq_true (ag) with hc | hc
  ·simp only [aT.down, simprocAttr, hc]
   refine e6 (Dr a0 _ a8) rfl rfl rfl rfl (.inl (by rfl)) ?_
   simp only [aT.down, simprocAttr, hc]
   (try simp only [bn.down, simprocAttr, hc] at aj ⊢); exact aj
  ·simp only [aT.down, simprocAttr, hc]
   refine e6 (Dr a0 _ a8) rfl rfl rfl rfl (.inl (by rfl)) ?_
   simp only [aT.down, simprocAttr, hc]
   (try simp only [bn.down, simprocAttr, hc] at aj ⊢); exact aj
 exact aJ (an _ (.inl (aK [.bool (ag && (!(a0 == ([116, 97, 117] : List UInt8))))] rfl (by cases aI h; rfl) (by decide) aO)))
theorem zb (a0 : Int) (U : Int) (r : Bool) (h : vu a0 U = some r) : aQ aG 170 [.int .i64 a0, .int .i64 U] (.bool r) [] := by
 refine aQ.b7 (fx := [0, 1]) b8 [.tmp 4] [(0, .int .i64 a0), (1, .int .i64 U)] Tryz.func170 rfl rfl agZ (Nat.le_of_ble_eq_true rfl) rfl rfl (fun b1 an b2 => ?_)
 refine ws _ ?_
 obtain ⟨ag, a8, h⟩ := aL h
 refine dZ (jW a0 0 (IntKind.i64.wrap (U - 1)) _ a8) _ ?_
 exact aJ (an _ (.inl (aK [.bool ag] rfl (by cases aI h; rfl) (by decide) aO)))
theorem atz (a0 : bE) (U : List bg) (r : Bool) (h : Gk a0 U = some r) : aQ aG 220 [cd a0, .slice (U.map bB)] (.bool r) [] := by
 refine aQ.b7 (fx := [0, 1]) b8 [.tmp 4] [(0, cd a0), (1, .slice (U.map bB))] Tryz.func220 rfl rfl ahc (Nat.le_of_ble_eq_true rfl) rfl rfl (fun b1 an b2 => ?_)
 refine ws _ ?_
 refine ws _ ?_
 refine aM (fun jV gE dP a2 => ?_)
 refine ws _ ?_
 refine bK (fun gM d_ dV bO bp => ?_)
 refine ws _ ?_
 rcases aS h with ⟨iM, h⟩ | ⟨iM, h⟩
 ·refine aZ (congrArg I.bool iM) ?_
  simp only [iM, al.down]
  refine cU (bX [(4, .bool (((a0.cA.length : Int) == 0) || ((!(a0.Name == ([116, 97, 117] : List UInt8))) && (decide ((a0.cA.length : Int) ≤ 2)))))] (fun P aj => ?_) ?_)
  ·(rcases Bool.eq_false_or_eq_true ((a0.cA.length : Int) == 0) with mG | mG) <;> (rcases Bool.eq_false_or_eq_true (a0.Name == ([116, 97, 117] : List UInt8)) with rA | rA) <;>
    (simp only [aT.down, simprocAttr, yT.down, mG, rA]
     (try simp only [bn.down, simprocAttr, hU.down, mG, rA] at aj ⊢); exact aj)
  exact aJ (dV _ (dP _ (an _ (.inl (aK [.bool (((a0.cA.length : Int) == 0) || ((!(a0.Name == ([116, 97, 117] : List UInt8))) && (decide ((a0.cA.length : Int) ≤ 2))))] rfl (by cases aI h; rfl) (by decide) aO)))))
 ·refine a6 (congrArg I.bool iM) ?_
  simp only [iM, al.down]
  refine ws _ ?_
  rcases aS h with ⟨cT, h⟩ | ⟨cT, h⟩
  ·refine aZ (congrArg I.bool cT) ?_
   simp only [cT, al.down]
   refine ws _ ?_
   exact aJ (dV _ (dP _ (an _ (.inl (aK [.bool ((a0.cA.length : Int) == 1)] rfl (by cases aI h; rfl) (by decide) aO)))))
  ·refine a6 (congrArg I.bool cT) ?_
   simp only [cT, al.down]
   refine ws _ ?_
   rcases aS h with ⟨cu, h⟩ | ⟨cu, h⟩
   ·refine aZ (congrArg I.bool cu) ?_
    simp only [cu, al.down]
    obtain ⟨ag, eT, h⟩ := aL h
    refine g1 eT _ ?_
    exact aJ (dV _ (dP _ (an _ (.inl (aK [.bool ((a0.cA.length : Int) == ag.dj)] rfl (by cases aI h; rfl) (by decide) aO)))))
   ·refine a6 (congrArg I.bool cu) ?_
    simp only [cu, al.down]
    refine a_ (d_ _ (gE _ (.inl ?_)))
    refine ws _ ?_
    exact aJ (an _ (.inl (aK [.bool true] rfl (by cases aI h; rfl) (by decide) aO)))
theorem N7 (a0 : Int) (r : Bool) (h : yf a0 = some r) : aQ aG 180 [.int .i64 a0] (.bool r) [] := by
 refine aQ.b7 (fx := [0]) b8 [.tmp 2] [(0, .int .i64 a0)] Tryz.func180 rfl rfl ahf (Nat.le_of_ble_eq_true rfl) rfl rfl (fun b1 an b2 => ?_)
 refine ws _ ?_
 obtain ⟨ag, a8, h⟩ := aL h
 refine dZ (jW a0 0 63 _ a8) _ ?_
 exact aJ (an _ (.inl (aK [.bool ag] rfl (by cases aI h; rfl) (by decide) aO)))
theorem atA (a0 : bW) (U : Int) (r : Bool) (h : B3 a0 U = some r) : aQ aG 182 [b0 a0, .int .i64 U] (.bool r) [] := by
 refine aQ.b7 (fx := [0, 1]) b8 [.tmp 4] [(0, b0 a0), (1, .int .i64 U)] Tryz.func182 rfl rfl ahv (Nat.le_of_ble_eq_true rfl) rfl rfl (fun b1 an b2 => ?_)
 refine ws _ ?_
 refine aM (fun ew ca bw au => ?_)
 refine ws _ ?_
 refine bK (fun ed dW cj bz bj => ?_)
 refine ws _ ?_
 rcases aS h with ⟨cM, h⟩ | ⟨cM, h⟩
 ·refine aZ (congrArg I.bool cM) ?_
  simp only [cM, al.down]
  obtain ⟨ag, iB, h⟩ := aL h
  refine dZ (N7 a0.Value _ iB) _ ?_
  exact aJ (cj _ (bw _ (an _ (.inl (aK [.bool ag] rfl (by cases aI h; rfl) (by decide) aO)))))
 ·refine a6 (congrArg I.bool cM) ?_
  simp only [cM, al.down]
  refine ws _ ?_
  rcases aS h with ⟨b5, h⟩ | ⟨b5, h⟩
  ·refine aZ (congrArg I.bool b5) ?_
   simp only [b5, al.down]
   obtain ⟨au, eJ, h⟩ := aL h
   refine dZ (jW a0.Value 0 (IntKind.i64.wrap (U - 1)) _ eJ) _ ?_
   exact aJ (cj _ (bw _ (an _ (.inl (aK [.bool au] rfl (by cases aI h; rfl) (by decide) aO)))))
  ·refine a6 (congrArg I.bool b5) ?_
   simp only [b5, al.down]
   refine ws _ ?_
   rcases aS h with ⟨ei, h⟩ | ⟨ei, h⟩
   ·refine aZ (congrArg I.bool ei) ?_
    simp only [ei, al.down]
    obtain ⟨a2, cV, h⟩ := aL h
    refine dZ (jW a0.Value 0 8 _ cV) _ ?_
    exact aJ (cj _ (bw _ (an _ (.inl (aK [.bool a2] rfl (by cases aI h; rfl) (by decide) aO)))))
   ·refine a6 (congrArg I.bool ei) ?_
    simp only [ei, al.down]
    refine ws _ ?_
    rcases aS h with ⟨eg, h⟩ | ⟨eg, h⟩
    ·refine aZ (congrArg I.bool eg) ?_
     simp only [eg, al.down]
     refine ws _ ?_
     exact aJ (cj _ (bw _ (an _ (.inl (aK [.bool (a0.Value == 0)] rfl (by cases aI h; rfl) (by decide) aO)))))
    ·refine a6 (congrArg I.bool eg) ?_
     simp only [eg, al.down]
     refine a_ (dW _ (ca _ (.inl ?_)))
     refine ws _ ?_
     exact aJ (an _ (.inl (aK [.bool false] rfl (by cases aI h; rfl) (by decide) aO)))
theorem atB (a0 : bW) (r : Int) (h : Gl a0 = some r) : aQ aG 183 [b0 a0] (.int .i64 r) [] := by
 refine aQ.b7 (fx := [0]) b8 [.tmp 2] [(0, b0 a0)] Tryz.func183 rfl rfl ahF (Nat.le_of_ble_eq_true rfl) rfl rfl (fun b1 an b2 => ?_)
 refine ws _ ?_
 refine aM (fun ew ca bw au => ?_)
 refine ws _ ?_
 refine bK (fun ed dW cj bz bj => ?_)
 refine ws _ ?_
 rcases aS h with ⟨cM, h⟩ | ⟨cM, h⟩
 ·refine aZ (congrArg I.bool cM) ?_
  simp only [cM, al.down]
  refine ws _ ?_
  exact aJ (cj _ (bw _ (an _ (.inl (aK [.int .i64 2] rfl (by cases aI h; rfl) (by decide) aO)))))
 ·refine a6 (congrArg I.bool cM) ?_
  simp only [cM, al.down]
  refine ws _ ?_
  rcases aS h with ⟨dt, h⟩ | ⟨dt, h⟩
  ·refine aZ (congrArg I.bool dt) ?_
   simp only [dt, al.down]
   refine ws _ ?_
   exact aJ (cj _ (bw _ (an _ (.inl (aK [.int .i64 1] rfl (by cases aI h; rfl) (by decide) aO)))))
  ·refine a6 (congrArg I.bool dt) ?_
   simp only [dt, al.down]
   refine a_ (dW _ (ca _ (.inl ?_)))
   refine ws _ ?_
   exact aJ (an _ (.inl (aK [.int .i64 0] rfl (by cases aI h; rfl) (by decide) aO)))
theorem atC (a0 : List bW) (U : Int) (bq : Int) (r : Bool) (h : B5 a0 U bq = some r) : aQ aG 153 [.slice (a0.map b0), .int .i64 U, .int .i64 bq] (.bool r) [] := by
 refine aQ.b7 (fx := [0, 1, 2]) b8 [.tmp 6] [(0, .slice (a0.map b0)), (1, .int .i64 U), (2, .int .i64 bq)] Tryz.func153 rfl rfl ahV (Nat.le_of_ble_eq_true rfl) rfl rfl (fun b1 an b2 => ?_)
 refine ws _ ?_
 refine aM (fun ew ca bw au => ?_)
 obtain ⟨ag, c6, h⟩ := aL h
 rcases aS h with ⟨bO, h⟩ | ⟨bO, h⟩
 ·refine iV (db bO) (jW U 0 29 _ c6) _ ?_
  refine aZ rfl ?_
  refine ws _ ?_
  exact aJ (bw _ (an _ (.inl (aK [.bool false] rfl (by cases aI h; rfl) (by decide) aO))))
 ·obtain ⟨au, cr, h⟩ := aL h
  rcases aS h with ⟨bf, h⟩ | ⟨bf, h⟩
  ·refine cU (bX [(0, .slice (a0.map b0)), (1, .int .i64 U), (24, .bool true)] (fun P aj => ?_) ?_)
   ·simp only [aT.down, simprocAttr, nk.down, (bC bO), (db bf)]
    refine e6 (jW U 0 29 _ c6) rfl rfl rfl rfl (.inl (by rfl)) ?_
    simp only [aT.down, simprocAttr, nk.down, (bC bO), (db bf)]
    refine hy (jW bq 1 60 _ cr) rfl rfl rfl rfl (.inl (by rfl)) ?_
    simp only [aT.down, simprocAttr, nk.down, (bC bO), (db bf)]
    (try simp only [bn.down, simprocAttr, b0, (bC bO), (db bf)] at aj ⊢); exact aj
   refine aZ rfl ?_
   refine ws _ ?_
   exact aJ (bw _ (an _ (.inl (aK [.bool false] rfl (by cases aI h; rfl) (by decide) aO))))
  ·obtain ⟨a2, n_, h⟩ := aL h
   refine cU (bX [(0, .slice (a0.map b0)), (1, .int .i64 U), (24, .bool (!a2))] (fun P aj => ?_) ?_)
   ·simp only [aT.down, simprocAttr, nk.down, (bC bO), (bC bf)]
    refine e6 (jW U 0 29 _ c6) rfl rfl rfl rfl (.inl (by rfl)) ?_
    simp only [aT.down, simprocAttr, nk.down, (bC bO), (bC bf)]
    refine hy (jW bq 1 60 _ cr) rfl rfl rfl rfl (.inl (by rfl)) ?_
    simp only [aT.down, simprocAttr, nk.down, (bC bO), (bC bf)]
    refine hy (jW (a0.length : Int) 1 bq _ n_) rfl rfl rfl rfl (.inl (by rfl)) ?_
    simp only [aT.down, simprocAttr, nk.down, (bC bO), (bC bf)]
    (try simp only [bn.down, simprocAttr, b0, (bC bO), (bC bf)] at aj ⊢); exact aj
   rcases aS h with ⟨ho, h⟩ | ⟨ho, h⟩
   ·refine aZ (congrArg I.bool ho) ?_
    simp only [(db ho), al.down]
    refine ws _ ?_
    exact aJ (bw _ (an _ (.inl (aK [.bool false] rfl (by cases aI h; rfl) (by decide) aO))))
   ·refine a6 (congrArg I.bool ho) ?_
    simp only [(bC ho), al.down]
    refine a_ (ca _ (.inl ?_))
    refine ws _ ?_
    refine aM (fun iX fI eS hA => ?_)
    refine ws _ ?_
    refine bK (fun oJ ka jw hi l7 => ?_)
    have ku : ∀ (n : Nat) (g8 : Int) (ni : Int), sT a0 U n g8 ni = some r → du aG M6 oJ (aa [(1, .int .i64 U), (7, .int .i64 g8), (25, .slice (a0.map b0)), (26, .int .i64 (a0.length : Int)), (27, .int .i64 ni)]) := by
     intro gF
     induction gF with
     | zero => intro g8 ni h; cases (show none = some r from h)
     | succ gF kv =>
      intro g8 ni h
      replace h : B4 (sT a0 U gF) a0 U g8 ni = some r := h
      refine dH (fun nZ jx i0 nr => ?_)
      refine ws _ ?_
      refine aM (fun Dd tj yX De => ?_)
      rcases aS h with ⟨c7, h⟩ | ⟨c7, h⟩
      ·refine aZ (congrArg I.bool c7) ?_
       simp only [c7, al.down]
       refine a_ (tj _ (.inl ?_))
       refine aM (fun Hj tr ts Dp => ?_)
       refine bK (fun vM nq mJ jj vN => ?_)
       obtain ⟨bj, jG, h⟩ := aL h
       refine g1 jG _ ?_
       refine aM (fun Hl tt vY Dq => ?_)
       rcases aS h with ⟨h7, h⟩ | ⟨h7, h⟩
       ·refine g1 h7 _ ?_
        refine aZ rfl ?_
        refine ws _ ?_
        exact aJ (vY _ (mJ _ (ts _ (i0 _ (jw _ (eS _ (an _ (.inl (aK [.bool false] rfl (by cases aI h; rfl) (by decide) aO)))))))))
       ·obtain ⟨bp, Hp, h⟩ := aL h
        refine cU (bX [(1, .int .i64 U), (7, .int .i64 g8), (9, .bd (b0 bj)), (25, .slice (a0.map b0)), (26, .int .i64 (a0.length : Int)), (27, .int .i64 ni), (38, .bool (!bp))] (fun P aj => ?_) ?_)
        ·simp only [aT.down, simprocAttr, ey, ga, b0, h7]
         refine hy (atA bj U _ Hp) rfl rfl rfl rfl (.inl (by rfl)) ?_
         simp only [aT.down, simprocAttr, ey, ga, b0, h7]
         (try simp only [bn.down, simprocAttr, b0, h7] at aj ⊢); exact aj
        rcases aS h with ⟨gl, h⟩ | ⟨gl, h⟩
        ·refine aZ (congrArg I.bool gl) ?_
         simp only [(db gl), al.down]
         refine ws _ ?_
         exact aJ (vY _ (mJ _ (ts _ (i0 _ (jw _ (eS _ (an _ (.inl (aK [.bool false] rfl (by cases aI h; rfl) (by decide) aO)))))))))
        ·refine a6 (congrArg I.bool gl) ?_
         simp only [(bC gl), al.down]
         refine a_ (tt _ (.inl ?_))
         obtain ⟨bU, Hm, h⟩ := aL h
         refine arM (atB bj _ Hm) _ ?_
         refine nq _ (tr _ (.inl ?_))
         refine wr _ ?_
         exact jx _ (.inr ⟨_, br rfl, kv (IntKind.i64.wrap (g8 + (IntKind.i64.wrap (bU - 1)))) (IntKind.i64.wrap (ni + 1)) h⟩)
      ·refine a6 (congrArg I.bool c7) ?_
       simp only [c7, al.down]
       refine dL (De 0 _ (nr 0 _ (hi _ (fI _ (.inl ?_)))))
       refine ws _ ?_
       exact aJ (an _ (.inl (aK [.bool (g8 == 0)] rfl (by cases aI h; rfl) (by decide) aO)))
    obtain ⟨n, h⟩ := dx h
    exact dG (.inr ⟨_, br rfl, ku n 1 0 h⟩)
theorem atD (a0 : List bW) (U : cx) (r : Bool) (h : Gm a0 U = some r) : aQ aG 221 [.slice (a0.map b0), .ref (dE U)] (.bool r) [] := by
 refine aQ.b7 (fx := [0, 1]) b8 [.tmp 3] [(0, .slice (a0.map b0)), (1, .ref (dE U))] Tryz.func221 rfl rfl ahY (Nat.le_of_ble_eq_true rfl) rfl rfl (fun b1 an b2 => ?_)
 refine ws _ ?_
 obtain ⟨ag, a8, h⟩ := aL h
 refine dZ (atC a0 U.scope 15 _ a8) _ ?_
 exact aJ (an _ (.inl (aK [.bool (!ag)] rfl (by cases aI h; rfl) (by decide) aO)))
theorem atE (a0 : List (List bW)) (U : cx) (r : Int) (h : Gn a0 U = some r) : aQ aG 181 [.slice (a0.map eC), .fn 221 [.ref (dE U)]] (.int .i64 r) [] := by
 refine aQ.b7 (fx := [0, 1]) b8 [.tmp 4] [(0, .slice (a0.map eC)), (1, .fn 221 [.ref (dE U)])] Tryz.func181 rfl rfl ah9 (Nat.le_of_ble_eq_true rfl) rfl rfl (fun b1 an b2 => ?_)
 refine ws _ ?_
 refine aM (fun ew ca bw au => ?_)
 refine ws _ ?_
 refine bK (fun ed dW cj bz bj => ?_)
 have fz : ∀ (n : Nat) (cG : Int), vv a0 U n cG = some r → du aG M7 ed (aa [(0, .slice (a0.map eC)), (1, .fn 221 [.ref (dE U)]), (7, .int .i64 (a0.length : Int)), (8, .int .i64 cG)]) := by
  intro cC
  induction cC with
  | zero => intro cG h; cases (show none = some r from h)
  | succ cC fm =>
   intro cG h
   replace h : B6 (vv a0 U cC) a0 U cG = some r := h
   refine dH (fun gM d_ dV bp => ?_)
   refine ws _ ?_
   refine aM (fun g3 dM eM cZ => ?_)
   rcases aS h with ⟨bf, h⟩ | ⟨bf, h⟩
   ·refine aZ (congrArg I.bool bf) ?_
    simp only [bf, al.down]
    refine a_ (dM _ (.inl ?_))
    refine aM (fun eG c3 cD dQ => ?_)
    refine bK (fun e8 cq cP b5 de => ?_)
    refine ws _ ?_
    obtain ⟨ag, eu, h⟩ := aL h
    obtain ⟨au, er, h⟩ := aL h
    refine iV eu (atD ag U _ er) _ ?_
    rcases aS h with ⟨cu, h⟩ | ⟨cu, h⟩
    ·refine aZ (congrArg I.bool cu) ?_
     simp only [cu, al.down]
     refine ws _ ?_
     exact aJ (cP _ (cD _ (dV _ (cj _ (bw _ (an _ (.inl (aK [.int .i64 cG] rfl (by cases aI h; rfl) (by decide) aO))))))))
    ·refine a6 (congrArg I.bool cu) ?_
     simp only [cu, al.down]
     refine a_ (cq _ (c3 _ (.inl ?_)))
     refine wr _ ?_
     exact d_ _ (.inr ⟨_, br rfl, fm (IntKind.i64.wrap (cG + 1)) h⟩)
   ·refine a6 (congrArg I.bool bf) ?_
    simp only [bf, al.down]
    refine dL (cZ 0 _ (bp 0 _ (bz _ (ca _ (.inl ?_)))))
    refine ws _ ?_
    exact aJ (an _ (.inl (aK [.int .i64 (-1)] rfl (by cases aI h; rfl) (by decide) aO)))
 obtain ⟨n, h⟩ := dx h
 exact dG (.inr ⟨_, br rfl, fz n 0 h⟩)
theorem atF (a0 : List (List bW)) (U : cx) (r : Bool) (h : B7 a0 U = some r) : aQ aG 150 [.slice (a0.map eC), .fn 221 [.ref (dE U)]] (.bool r) [] := by
 refine aQ.b7 (fx := [0, 1]) b8 [.tmp 4] [(0, .slice (a0.map eC)), (1, .fn 221 [.ref (dE U)])] Tryz.func150 rfl rfl aib (Nat.le_of_ble_eq_true rfl) rfl rfl (fun b1 an b2 => ?_)
 refine ws _ ?_
 obtain ⟨ag, a8, h⟩ := aL h
 refine dZ (atE a0 U _ a8) _ ?_
 exact aJ (an _ (.inl (aK [.bool (decide (0 ≤ ag))] rfl (by cases aI h; rfl) (by decide) aO)))
theorem atG (a0 : bE) (U : List bg) (bq : cx) (r : Int) (h : yj a0 U bq = some r) : aQ aG 206 [cd a0, .slice (U.map bB), dE bq] (.int .i64 r) [] := by
 refine aQ.b7 (fx := [0, 1, 2]) b8 [.tmp 6] [(0, cd a0), (1, .slice (U.map bB)), (2, dE bq)] Tryz.func206 rfl rfl aiy (Nat.le_of_ble_eq_true rfl) rfl rfl (fun b1 an b2 => ?_)
 refine ws _ ?_
 refine aM (fun ew ca bw au => ?_)
 refine bK (fun jV gE dP mh a2 => ?_)
 obtain ⟨ag, da, h⟩ := aL h
 refine dZ (aty a0 _ da) _ ?_
 rcases aS h with ⟨cM, h⟩ | ⟨cM, h⟩
 ·refine aZ (congrArg I.bool cM) ?_
  simp only [(db cM), al.down]
  refine ws _ ?_
  exact aJ (dP _ (bw _ (an _ (.inl (aK [.int .i64 2] rfl (by cases aI h; rfl) (by decide) aO)))))
 ·refine a6 (congrArg I.bool cM) ?_
  simp only [(bC cM), al.down]
  have vP : ∀ (yi : Bool), yh a0 U bq yi = some r → dh aG M9 jV (aa [(1, .slice (U.map bB)), (3, .bd (cd a0)), (5, .bd (dE bq)), (11, .bool yi)]) := by
   intro yi h
   rcases aS h with ⟨bf, h⟩ | ⟨bf, h⟩
   ·refine aZ (congrArg I.bool bf) ?_
    simp only [bf, al.down]
    refine ws _ ?_
    exact aJ (dP _ (bw _ (an _ (.inl (aK [.int .i64 3] rfl (by cases aI h; rfl) (by decide) aO)))))
   ·refine a6 (congrArg I.bool bf) ?_
    simp only [bf, al.down]
    have zc : ∀ (yg : Bool), sU a0 U bq yg = some r → dh aG M8 jV (aa [(1, .slice (U.map bB)), (3, .bd (cd a0)), (5, .bd (dE bq)), (26, .bool yg)]) := by
     intro yg h
     rcases aS h with ⟨b5, h⟩ | ⟨b5, h⟩
     ·refine aZ (congrArg I.bool b5) ?_
      simp only [b5, al.down]
      refine ws _ ?_
      exact aJ (dP _ (bw _ (an _ (.inl (aK [.int .i64 4] rfl (by cases aI h; rfl) (by decide) aO)))))
     ·refine a6 (congrArg I.bool b5) ?_
      simp only [b5, al.down]
      obtain ⟨au, eu, h⟩ := aL h
      refine dZ (atz a0 U _ eu) _ ?_
      rcases aS h with ⟨ei, h⟩ | ⟨ei, h⟩
      ·refine aZ (congrArg I.bool ei) ?_
       simp only [(db ei), al.down]
       refine ws _ ?_
       exact aJ (dP _ (bw _ (an _ (.inl (aK [.int .i64 5] rfl (by cases aI h; rfl) (by decide) aO)))))
      ·refine a6 (congrArg I.bool ei) ?_
       simp only [(bC ei), al.down]
       refine cU (bX [(3, .bd (cd a0)), (5, .bd (dE bq)), (54, .bool ((a0.Kind == 5) && (!bq.behind)))] (fun P aj => ?_) ?_)
       ·rcases Bool.eq_false_or_eq_true (a0.Kind == 5) with zd | zd
        ·simp only [aT.down, simprocAttr, C8.down, zd]
         (try simp only [bn.down, simprocAttr, yU.down, zd] at aj ⊢); exact aj
        ·simp only [aT.down, simprocAttr, C8.down, zd]
         (try simp only [bn.down, simprocAttr, yU.down, zd] at aj ⊢); exact aj
       rcases aS h with ⟨eg, h⟩ | ⟨eg, h⟩
       ·refine aZ (congrArg I.bool eg) ?_
        simp only [eg, al.down]
        refine ws _ ?_
        exact aJ (dP _ (bw _ (an _ (.inl (aK [.int .i64 6] rfl (by cases aI h; rfl) (by decide) aO)))))
       ·refine a6 (congrArg I.bool eg) ?_
        simp only [eg, al.down]
        refine cU (bX [(3, .bd (cd a0)), (5, .bd (dE bq)), (63, .bool ((a0.Kind == 4) && (decide (6 ≤ bq.scope))))] (fun P aj => ?_) ?_)
        ·rcases Bool.eq_false_or_eq_true (a0.Kind == 4) with tc | tc
         ·simp only [aT.down, simprocAttr, C8.down, tc]
          (try simp only [bn.down, simprocAttr, yU.down, tc] at aj ⊢); exact aj
         ·simp only [aT.down, simprocAttr, C8.down, tc]
          (try simp only [bn.down, simprocAttr, yU.down, tc] at aj ⊢); exact aj
        rcases aS h with ⟨jj, h⟩ | ⟨jj, h⟩
        ·refine aZ (congrArg I.bool jj) ?_
         simp only [jj, al.down]
         refine ws _ ?_
         exact aJ (dP _ (bw _ (an _ (.inl (aK [.int .i64 7] rfl (by cases aI h; rfl) (by decide) aO)))))
        ·refine a6 (congrArg I.bool jj) ?_
         simp only [jj, al.down]
         obtain ⟨a2, kS, h⟩ := aL h
         refine cU (bX [(72, .bool a2)] (fun P aj => ?_) ?_)
         ·simp only [aT.down, simprocAttr, GS.down]
          refine e6 (atF a0.cA bq _ kS) rfl rfl (by simp only [aT.down, simprocAttr, GS.down, fY, fZ, f_, di] <;> rfl) rfl (.inr (by rfl)) ?_
          simp only [aT.down, simprocAttr, GS.down]
          (try simp only [bn.down, simprocAttr, yU.down] at aj ⊢); exact aj
         rcases aS h with ⟨ff, h⟩ | ⟨ff, h⟩
         ·refine aZ (congrArg I.bool ff) ?_
          simp only [ff, al.down]
          refine ws _ ?_
          exact aJ (dP _ (bw _ (an _ (.inl (aK [.int .i64 8] rfl (by cases aI h; rfl) (by decide) aO)))))
         ·refine a6 (congrArg I.bool ff) ?_
          simp only [ff, al.down]
          refine a_ (gE _ (ca _ (.inl ?_)))
          refine ws _ ?_
          exact aJ (an _ (.inl (aK [.int .i64 0] rfl (by cases aI h; rfl) (by decide) aO)))
    rcases aS h with ⟨gl, h⟩ | ⟨gl, h⟩
    ·obtain ⟨bj, n1, h⟩ := aL h
     rcases aS h with ⟨n0, h⟩ | ⟨n0, h⟩
     ·refine kP (bX (K := eN _) [(1, .slice (U.map bB)), (3, .bd (cd a0)), (5, .bd (dE bq)), (26, .bool true)] (fun P aj => ?_) ?_)
      ·simp only [aT.down, simprocAttr, pA.down, gl, (db n0)]
       refine hy (jW a0.Number 1 7 _ n1) rfl rfl rfl rfl (.inl (by rfl)) ?_
       simp only [aT.down, simprocAttr, pA.down, gl, (db n0)]
       (try simp only [bn.down, simprocAttr, nn.down, gl, (db n0)] at aj ⊢); exact aj
      exact .inr ⟨_, br rfl, zc true h⟩
     ·rcases aS h with ⟨fT, h⟩ | ⟨fT, h⟩
      ·obtain ⟨bp, oO, h⟩ := aL h
       refine kP (bX (K := eN _) [(1, .slice (U.map bB)), (3, .bd (cd a0)), (5, .bd (dE bq)), (26, .bool (!bp))] (fun P aj => ?_) ?_)
       ·simp only [aT.down, simprocAttr, pA.down, gl, (bC n0), fT]
        refine hy (jW a0.Number 1 7 _ n1) rfl rfl rfl rfl (.inl (by rfl)) ?_
        simp only [aT.down, simprocAttr, pA.down, gl, (bC n0), fT]
        refine hy (zb a0.Number (U.length : Int) _ oO) rfl rfl rfl rfl (.inl (by rfl)) ?_
        simp only [aT.down, simprocAttr, pA.down, gl, (bC n0), fT]
        (try simp only [bn.down, simprocAttr, nn.down, gl, (bC n0), fT] at aj ⊢); exact aj
       exact .inr ⟨_, br rfl, zc (!bp) h⟩
      ·refine kP (bX (K := eN _) [(1, .slice (U.map bB)), (3, .bd (cd a0)), (5, .bd (dE bq)), (26, .bool false)] (fun P aj => ?_) ?_)
       ·simp only [aT.down, simprocAttr, pA.down, gl, (bC n0), fT]
        refine hy (jW a0.Number 1 7 _ n1) rfl rfl rfl rfl (.inl (by rfl)) ?_
        simp only [aT.down, simprocAttr, pA.down, gl, (bC n0), fT]
        (try simp only [bn.down, simprocAttr, nn.down, gl, (bC n0), fT] at aj ⊢); exact aj
       exact .inr ⟨_, br rfl, zc false h⟩
    ·rcases aS h with ⟨l8, h⟩ | ⟨l8, h⟩
     ·obtain ⟨bU, atH, h⟩ := aL h
      refine kP (bX (K := eN _) [(1, .slice (U.map bB)), (3, .bd (cd a0)), (5, .bd (dE bq)), (26, .bool (!bU))] (fun P aj => ?_) ?_)
      ·simp only [aT.down, simprocAttr, pA.down, gl, l8]
       refine hy (zb a0.Number (U.length : Int) _ atH) rfl rfl rfl rfl (.inl (by rfl)) ?_
       simp only [aT.down, simprocAttr, pA.down, gl, l8]
       (try simp only [bn.down, simprocAttr, nn.down, gl, l8] at aj ⊢); exact aj
      exact .inr ⟨_, br rfl, zc (!bU) h⟩
     ·refine kP (bX (K := eN _) [(1, .slice (U.map bB)), (3, .bd (cd a0)), (5, .bd (dE bq)), (26, .bool false)] (fun P aj => ?_) ?_)
      ·simp only [aT.down, simprocAttr, pA.down, gl, l8]
       (try simp only [bn.down, simprocAttr, nn.down, gl, l8] at aj ⊢); exact aj
      exact .inr ⟨_, br rfl, zc false h⟩
  rcases aS h with ⟨pE, h⟩ | ⟨pE, h⟩
  ·rcases aS h with ⟨kT, h⟩ | ⟨kT, h⟩
   ·obtain ⟨cZ, atI, h⟩ := aL h
    refine kP (bX (K := eN _) [(1, .slice (U.map bB)), (3, .bd (cd a0)), (5, .bd (dE bq)), (11, .bool (!cZ))] (fun P aj => ?_) ?_)
    ·simp only [aT.down, simprocAttr, C9.down, pE, kT]
     refine hy (kx a0.Name _ atI) rfl rfl rfl rfl (.inl (by rfl)) ?_
     simp only [aT.down, simprocAttr, C9.down, pE, kT]
     (try simp only [bn.down, simprocAttr, nn.down, pE, kT] at aj ⊢); exact aj
    exact .inr ⟨_, br rfl, vP (!cZ) h⟩
   ·refine kP (bX (K := eN _) [(1, .slice (U.map bB)), (3, .bd (cd a0)), (5, .bd (dE bq)), (11, .bool false)] (fun P aj => ?_) ?_)
    ·simp only [aT.down, simprocAttr, C9.down, pE, kT]
     (try simp only [bn.down, simprocAttr, nn.down, pE, kT] at aj ⊢); exact aj
    exact .inr ⟨_, br rfl, vP false h⟩
  ·refine kP (bX (K := eN _) [(1, .slice (U.map bB)), (3, .bd (cd a0)), (5, .bd (dE bq)), (11, .bool false)] (fun P aj => ?_) ?_)
   ·simp only [aT.down, simprocAttr, C9.down, pE]
    (try simp only [bn.down, simprocAttr, nn.down, pE] at aj ⊢); exact aj
   exact .inr ⟨_, br rfl, vP false h⟩
theorem atJ (a0 : List bg) (U : bg) (r : Int × Int) (h : yl a0 U = some r) : aQ aG 168 [.slice (a0.map bB), bB U] (.tuple [.int .i64 r.1, .int .i64 r.2]) [] := by
 refine aQ.b7 (fx := [0, 1]) b8 [.tmp 4, .tmp 5] [(0, .slice (a0.map bB)), (1, bB U)] Tryz.func168 rfl rfl aiO (Nat.le_of_ble_eq_true rfl) rfl rfl (fun b1 an b2 => ?_)
 refine ws _ ?_
 refine aM (fun ew ca bw au => ?_)
 obtain ⟨ag, c6, h⟩ := aL h
 rcases aS h with ⟨bO, h⟩ | ⟨bO, h⟩
 ·refine hf rfl (hg [(0, .slice (a0.map bB)), (3, .bd (bB U)), (22, .bool true)] (fun P aj => ?_) ?_)
  ·simp only [dD.down, simprocAttr, pz.down, (db bO)]
   refine iS (jW (U.Body.length : Int) 1 20 _ c6) rfl rfl rfl rfl (.inl (by rfl)) ?_
   simp only [dD.down, simprocAttr, pz.down, (db bO)]
   refine ⟨gX (by kernel_rfl), ?_⟩
   (try simp only [bn.down, simprocAttr, hU.down, (db bO)] at aj ⊢); exact aj
  refine aZ rfl ?_
  refine ws _ ?_
  exact aJ (bw _ (an _ (.inl (aK [.int .i64 0, .int .i64 1] rfl (by cases aI h; rfl) (by decide) aO))))
 ·obtain ⟨au, cr, h⟩ := aL h
  refine hf rfl (hg [(0, .slice (a0.map bB)), (3, .bd (bB U)), (22, .bool (au != (U.Body.length : Int)))] (fun P aj => ?_) ?_)
  ·simp only [dD.down, simprocAttr, pz.down, (bC bO)]
   refine iS (jW (U.Body.length : Int) 1 20 _ c6) rfl rfl rfl rfl (.inl (by rfl)) ?_
   simp only [dD.down, simprocAttr, pz.down, (bC bO)]
   refine mv (ats U 0 _ cr) rfl rfl rfl rfl (.inl (by rfl)) ?_
   simp only [dD.down, simprocAttr, pz.down, (bC bO)]
   refine ⟨gX (by kernel_rfl), ?_⟩
   (try simp only [bn.down, simprocAttr, hU.down, (bC bO)] at aj ⊢); exact aj
  rcases aS h with ⟨bf, h⟩ | ⟨bf, h⟩
  ·refine aZ (congrArg I.bool bf) ?_
   simp only [bf, al.down]
   refine ws _ ?_
   exact aJ (bw _ (an _ (.inl (aK [.int .i64 0, .int .i64 1] rfl (by cases aI h; rfl) (by decide) aO))))
  ·refine a6 (congrArg I.bool bf) ?_
   simp only [bf, al.down]
   refine a_ (ca _ (.inl ?_))
   obtain ⟨a2, oa, h⟩ := aL h
   refine dZ (atx U _ oa) _ ?_
   refine aM (fun ji gg h6 iv => ?_)
   refine ws _ ?_
   refine bK (fun iX fI eS ei hA => ?_)
   have ku : ∀ (n : Nat) (ln : Int), rn a0 U a2 n ln = some r → du aG M_ iX (aa [(0, .slice (a0.map bB)), (6, .ar 2 (a2.map dE)), (26, .slice (U.Body.map cd)), (27, .int .i64 (U.Body.length : Int)), (28, .int .i64 ln)]) := by
    intro gF
    induction gF with
    | zero => intro ln h; cases (show none = some r from h)
    | succ gF kv =>
     intro ln h
     replace h : yk (rn a0 U a2 gF) a0 U a2 ln = some r := h
     refine dH (fun mI hW hB jv => ?_)
     refine ws _ ?_
     refine aM (fun nZ jx i0 nr => ?_)
     rcases aS h with ⟨eg, h⟩ | ⟨eg, h⟩
     ·refine aZ (congrArg I.bool eg) ?_
      simp only [eg, al.down]
      refine a_ (jx _ (.inl ?_))
      refine aM (fun Dd tj yX De => ?_)
      refine bK (fun NO vO Df c7 GY => ?_)
      obtain ⟨bj, hh, h⟩ := aL h
      refine g1 hh _ ?_
      obtain ⟨bp, jG, h⟩ := aL h
      obtain ⟨bU, kS, h⟩ := aL h
      refine hf rfl (hg [(0, .slice (a0.map bB)), (6, .ar 2 (a2.map dE)), (7, .int .i64 ln), (9, .int .i64 bU), (26, .slice (U.Body.map cd)), (27, .int .i64 (U.Body.length : Int)), (28, .int .i64 ln)] (fun P aj => ?_) ?_)
      ·simp only [dD.down, simprocAttr, ey, q9, eU, gP, h3, xC, q_, gn, ga, bB, cd, b0, dE, eC, jG, c8 jG]
       refine iS (atG bj a0 bp _ kS) rfl rfl rfl rfl (.inl (by rfl)) ?_
       simp only [dD.down, simprocAttr, ey, q9, eU, gP, h3, xC, q_, gn, ga, bB, cd, b0, dE, eC, jG, c8 jG]
       refine ⟨gX (by kernel_rfl), ?_⟩
       (try simp only [bn.down, simprocAttr, nn.down, jG, c8 jG] at aj ⊢); exact aj
      refine ws _ ?_
      rcases aS h with ⟨h7, h⟩ | ⟨h7, h⟩
      ·refine aZ (congrArg I.bool h7) ?_
       simp only [h7, al.down]
       refine ws _ ?_
       exact aJ (Df _ (yX _ (hB _ (eS _ (h6 _ (an _ (.inl (aK [.int .i64 ln, .int .i64 bU] rfl (by cases aI h; rfl) (by decide) aO))))))))
      ·refine a6 (congrArg I.bool h7) ?_
       simp only [h7, al.down]
       refine a_ (vO _ (tj _ (.inl ?_)))
       refine wr _ ?_
       exact hW _ (.inr ⟨_, br rfl, kv (IntKind.i64.wrap (ln + 1)) h⟩)
     ·refine a6 (congrArg I.bool eg) ?_
      simp only [eg, al.down]
      refine dL (nr 0 _ (jv 0 _ (ei _ (gg _ (.inl ?_)))))
      refine ws _ ?_
      exact aJ (an _ (.inl (aK [.int .i64 0, .int .i64 0] rfl (by cases aI h; rfl) (by decide) aO)))
   obtain ⟨n, h⟩ := dx h
   exact dG (.inr ⟨_, br rfl, ku n 0 h⟩)
theorem atK (a0 : List bg) (r : Bool) (h : B9 a0 = some r) : aQ aG 127 [.slice (a0.map bB)] (.bool r) [] := by
 refine aQ.b7 (fx := [0]) b8 [.tmp 2] [(0, .slice (a0.map bB))] Tryz.func127 rfl rfl ai6 (Nat.le_of_ble_eq_true rfl) rfl rfl (fun b1 an b2 => ?_)
 refine ws _ ?_
 refine aM (fun ew ca bw au => ?_)
 obtain ⟨ag, c6, h⟩ := aL h
 rcases aS h with ⟨bO, h⟩ | ⟨bO, h⟩
 ·refine iV (db bO) (jW (a0.length : Int) 1 4 _ c6) _ ?_
  refine aZ rfl ?_
  refine ws _ ?_
  exact aJ (bw _ (an _ (.inl (aK [.bool false] rfl (by cases aI h; rfl) (by decide) aO))))
 ·obtain ⟨au, cr, h⟩ := aL h
  refine cU (bX [(0, .slice (a0.map bB)), (15, .bool (!au))] (fun P aj => ?_) ?_)
  ·simp only [aT.down, simprocAttr, iG.down, (bC bO)]
   refine e6 (jW (a0.length : Int) 1 4 _ c6) rfl rfl rfl rfl (.inl (by rfl)) ?_
   simp only [aT.down, simprocAttr, iG.down, (bC bO)]
   refine hy (atn a0 _ cr) rfl rfl rfl rfl (.inl (by rfl)) ?_
   simp only [aT.down, simprocAttr, iG.down, (bC bO)]
   (try simp only [bn.down, simprocAttr, hU.down, (bC bO)] at aj ⊢); exact aj
  rcases aS h with ⟨bf, h⟩ | ⟨bf, h⟩
  ·refine aZ (congrArg I.bool bf) ?_
   simp only [(db bf), al.down]
   refine ws _ ?_
   exact aJ (bw _ (an _ (.inl (aK [.bool false] rfl (by cases aI h; rfl) (by decide) aO))))
  ·refine a6 (congrArg I.bool bf) ?_
   simp only [(bC bf), al.down]
   refine a_ (ca _ (.inl ?_))
   refine aM (fun e8 cq cP de => ?_)
   refine ws _ ?_
   refine bK (fun ji gg h6 cT iv => ?_)
   have hM : ∀ (n : Nat) (l3 : Int), sV a0 n l3 = some r → du aG Na ji (aa [(0, .slice (a0.map bB)), (16, .slice (a0.map bB)), (17, .int .i64 (a0.length : Int)), (18, .int .i64 l3)]) := by
    intro dR
    induction dR with
    | zero => intro l3 h; cases (show none = some r from h)
    | succ dR hp =>
     intro l3 h
     replace h : B8 (sV a0 dR) a0 l3 = some r := h
     refine dH (fun lG gL gw ju => ?_)
     refine ws _ ?_
     refine aM (fun mI hW hB jv => ?_)
     rcases aS h with ⟨hi, h⟩ | ⟨hi, h⟩
     ·refine aZ (congrArg I.bool hi) ?_
      simp only [hi, al.down]
      refine a_ (hW _ (.inl ?_))
      refine aM (fun nZ jx i0 nr => ?_)
      refine bK (fun Dk qo pB eg Dl => ?_)
      obtain ⟨a2, iq, h⟩ := aL h
      refine g1 iq _ ?_
      refine aM (fun Hj tr ts Dp => ?_)
      obtain ⟨bj, qn, h⟩ := aL h
      rcases aS h with ⟨gG, h⟩ | ⟨gG, h⟩
      ·refine hf rfl (hg [(0, .slice (a0.map bB)), (4, .bd (bB a2)), (16, .slice (a0.map bB)), (17, .int .i64 (a0.length : Int)), (18, .int .i64 l3), (35, .bool true)] (fun P aj => ?_) ?_)
       ·simp only [dD.down, simprocAttr, iG.down, (db gG)]
        refine iS (Dr a2.Name _ qn) rfl rfl rfl rfl (.inl (by rfl)) ?_
        simp only [dD.down, simprocAttr, iG.down, (db gG)]
        refine ⟨gX (by kernel_rfl), ?_⟩
        (try simp only [bn.down, simprocAttr, hU.down, (db gG)] at aj ⊢); exact aj
       refine aZ rfl ?_
       refine ws _ ?_
       exact aJ (ts _ (pB _ (i0 _ (gw _ (h6 _ (cP _ (an _ (.inl (aK [.bool false] rfl (by cases aI h; rfl) (by decide) aO)))))))))
      ·obtain ⟨bp, ry, h⟩ := aL h
       obtain ⟨bU, nY, h⟩ := aL h
       refine hf rfl (hg [(0, .slice (a0.map bB)), (4, .bd (bB a2)), (16, .slice (a0.map bB)), (17, .int .i64 (a0.length : Int)), (18, .int .i64 l3), (35, .bool (decide (0 ≤ bU)))] (fun P aj => ?_) ?_)
       ·simp only [dD.down, simprocAttr, iG.down, (bC gG), ry, @kO _ bB 3 (fun _ => rfl)]
        refine iS (Dr a2.Name _ qn) rfl rfl rfl rfl (.inl (by rfl)) ?_
        simp only [dD.down, simprocAttr, iG.down, (bC gG), ry, @kO _ bB 3 (fun _ => rfl)]
        refine mv (atr bp a2.Name _ nY) rfl rfl rfl rfl (.inl (by rfl)) ?_
        simp only [dD.down, simprocAttr, iG.down, (bC gG), ry, @kO _ bB 3 (fun _ => rfl)]
        refine ⟨gX (by kernel_rfl), ?_⟩
        (try simp only [bn.down, simprocAttr, hU.down, (bC gG), ry, @kO _ bB 3 (fun _ => rfl)] at aj ⊢); exact aj
       rcases aS h with ⟨oQ, h⟩ | ⟨oQ, h⟩
       ·refine aZ (congrArg I.bool oQ) ?_
        simp only [oQ, al.down]
        refine ws _ ?_
        exact aJ (ts _ (pB _ (i0 _ (gw _ (h6 _ (cP _ (an _ (.inl (aK [.bool false] rfl (by cases aI h; rfl) (by decide) aO)))))))))
       ·refine a6 (congrArg I.bool oQ) ?_
        simp only [oQ, al.down]
        refine a_ (tr _ (.inl ?_))
        obtain ⟨cZ, n1, h⟩ := aL h
        refine dZ (atJ a0 a2 _ n1) _ ?_
        refine ws _ ?_
        rcases aS h with ⟨fT, h⟩ | ⟨fT, h⟩
        ·refine aZ (congrArg I.bool fT) ?_
         simp only [fT, al.down]
         refine ws _ ?_
         exact aJ (pB _ (i0 _ (gw _ (h6 _ (cP _ (an _ (.inl (aK [.bool false] rfl (by cases aI h; rfl) (by decide) aO))))))))
        ·refine a6 (congrArg I.bool fT) ?_
         simp only [fT, al.down]
         refine a_ (qo _ (jx _ (.inl ?_)))
         refine wr _ ?_
         exact gL _ (.inr ⟨_, br rfl, hp (IntKind.i64.wrap (l3 + 1)) h⟩)
     ·refine a6 (congrArg I.bool hi) ?_
      simp only [hi, al.down]
      refine dL (jv 0 _ (ju 0 _ (cT _ (cq _ (.inl ?_)))))
      refine ws _ ?_
      exact aJ (an _ (.inl (aK [.bool true] rfl (by cases aI h; rfl) (by decide) aO)))
   obtain ⟨n, h⟩ := dx h
   exact dG (.inr ⟨_, br rfl, hM n 0 h⟩)
theorem atL (a0 : Int) (r : Bool) (h : Gp a0 = some r) : aQ aG 179 [.int .i64 a0] (.bool r) [] := by
 refine aQ.b7 (fx := [0]) b8 [.tmp 2] [(0, .int .i64 a0)] Tryz.func179 rfl rfl ai9 (Nat.le_of_ble_eq_true rfl) rfl rfl (fun b1 an b2 => ?_)
 refine ws _ ?_
 obtain ⟨ag, a8, h⟩ := aL h
 refine dZ (N7 a0 _ a8) _ ?_
 exact aJ (an _ (.inl (aK [.bool (!ag)] rfl (by cases aI h; rfl) (by decide) aO)))
end Go.Proofs.YtbemmmimelklkaaGreat
