/- Part of a proof that a law returns true for every input. No condition. -/
import Derived.Test.YtobljppjkklojaaSl
namespace Go.Proofs.Ytobljppjkklojaa
open Go Go.cM Go.fH
set_option maxRecDepth 100000
set_option maxHeartbeats 1400000
set_option linter.unusedSimpArgs false
set_option linter.unusedVariables false
def iC := PLift.up (And.intro @eX (And.intro @fU (And.intro @lD (And.intro @fV (And.intro @hL (And.intro @qQ (And.intro @yQ (And.intro @lE (And.intro @qR (And.intro @qS (And.intro @fG (And.intro @lF (And.intro @gN (And.intro @jD (And.intro @ni (And.intro @qT (And.intro @yR (And.intro @bf.eq_1 (And.intro @ev.eq_1 (And.intro @cA.eq_1 (And.intro @bk.eq_1 (And.intro @hA.eq_1 (And.intro @eB.eq_1 (And.intro @dT.eq_1 (And.intro @b3.eq_1 (And.intro @el.eq_1 (And.intro @g3.eq_1 (And.intro @aR.eq_1 (And.intro @ks.eq_1 (And.intro @dJ.eq_1 @eu.eq_1))))))))))))))))))))))))))))))
theorem ws {Q : Exit → ag → Prop} {l : List (Nat × j)} {ros : List cq} {k : List Nat} {b : R} (dA : List (Nat × j)) (aw : db aN b Q (I dA)) (h : ∀ P : List (Nat × j) → Prop, P dA → bQ aN (I l) ros none (fun _ s => P (hK k s)) := by
 intro P aA
 simp only [aQ.down, simprocAttr, iC.down]
 (try simp only [bI.down, simprocAttr, iC.down] at aA ⊢)
 exact aA) : db aN (.seq (.ad ros (some k)) b) Q (I l) :=
 cX (cu dA (h) aw)
theorem fc {Q : Exit → ag → Prop} {l : List (Nat × j)} {ros : List cq} {k : List Nat} {b : R} {g : FuncId} {ds : List j} {r : j} (ok : aX aN g ds r []) (dA : List (Nat × j)) (aw : db aN b Q (I dA)) (h : aX aN g ds r [] → ∀ P : List (Nat × j) → Prop, P dA → bQ aN (I l) ros none (fun _ s => P (hK k s)) := by
 intro pw P aA
 (try simp only [aQ.down, simprocAttr, iC.down])
 refine eb pw rfl rfl rfl rfl (.inl (by rfl)) ?_
 simp only [aQ.down, simprocAttr, iC.down]
 (try simp only [bI.down, simprocAttr, iC.down] at aA ⊢)
 exact aA) : db aN (.seq (.ad ros (some k)) b) Q (I l) :=
 cX (cu dA (h ok) aw)
theorem hX {F : Prop} (bg : F) {Q : Exit → ag → Prop} {l : List (Nat × j)} {ros : List cq} {k : List Nat} {b : R} (dA : List (Nat × j)) (aw : db aN b Q (I dA)) (h : F → ∀ P : List (Nat × j) → Prop, P dA → bQ aN (I l) ros none (fun _ s => P (hK k s)) := by
 intro bg P aA
 simp only [aQ.down, simprocAttr, iC.down, bg]
 (try simp only [bI.down, simprocAttr, iC.down, bg] at aA ⊢)
 exact aA) : db aN (.seq (.ad ros (some k)) b) Q (I l) :=
 cX (cu dA (h bg) aw)
theorem kY {F : Prop} (bg : F) {Q : Exit → ag → Prop} {l : List (Nat × j)} {ros : List cq} {k : List Nat} {b : R} {g : FuncId} {ds : List j} {r : j} (ok : aX aN g ds r []) (dA : List (Nat × j)) (aw : db aN b Q (I dA)) (h : aX aN g ds r [] → F → ∀ P : List (Nat × j) → Prop, P dA → bQ aN (I l) ros none (fun _ s => P (hK k s)) := by
 intro pw bg P aA
 (try simp only [aQ.down, simprocAttr, iC.down, bg])
 refine eb pw rfl rfl rfl rfl (.inl (by rfl)) ?_
 simp only [aQ.down, simprocAttr, iC.down, bg]
 (try simp only [bI.down, simprocAttr, iC.down, bg] at aA ⊢)
 exact aA) : db aN (.seq (.ad ros (some k)) b) Q (I l) :=
 cX (cu dA (h ok bg) aw)
theorem wr {Q : Exit → ag → Prop} {l : List (Nat × j)} {ros : List cq} {k : List Nat} (dA : List (Nat × j)) (aw : Q .normal (I dA)) (h : ∀ P : List (Nat × j) → Prop, P dA → bQ aN (I l) ros none (fun _ s => P (hK k s)) := by
 intro P aA
 simp only [aQ.down, simprocAttr, iC.down]
 (try simp only [bI.down, simprocAttr, iC.down] at aA ⊢)
 exact aA) : db aN (.ad ros (some k)) Q (I l) :=
 i1 (cu dA (h) aw)
theorem Xd {Q : Exit → ag → Prop} {l : List (Nat × j)} {ros : List cq} {k : List Nat} {g : FuncId} {ds : List j} {r : j} (ok : aX aN g ds r []) (dA : List (Nat × j)) (aw : Q .normal (I dA)) (h : aX aN g ds r [] → ∀ P : List (Nat × j) → Prop, P dA → bQ aN (I l) ros none (fun _ s => P (hK k s)) := by
 intro pw P aA
 (try simp only [aQ.down, simprocAttr, iC.down])
 refine eb pw rfl rfl rfl rfl (.inl (by rfl)) ?_
 simp only [aQ.down, simprocAttr, iC.down]
 (try simp only [bI.down, simprocAttr, iC.down] at aA ⊢)
 exact aA) : db aN (.ad ros (some k)) Q (I l) :=
 i1 (cu dA (h ok) aw)
theorem Ey {F : Prop} (bg : F) {Q : Exit → ag → Prop} {l : List (Nat × j)} {ros : List cq} {k : List Nat} (dA : List (Nat × j)) (aw : Q .normal (I dA)) (h : F → ∀ P : List (Nat × j) → Prop, P dA → bQ aN (I l) ros none (fun _ s => P (hK k s)) := by
 intro bg P aA
 simp only [aQ.down, simprocAttr, iC.down, bg]
 (try simp only [bI.down, simprocAttr, iC.down, bg] at aA ⊢)
 exact aA) : db aN (.ad ros (some k)) Q (I l) :=
 i1 (cu dA (h bg) aw)
theorem Xe {F : Prop} (bg : F) {Q : Exit → ag → Prop} {l : List (Nat × j)} {ros : List cq} {k : List Nat} {g : FuncId} {ds : List j} {r : j} (ok : aX aN g ds r []) (dA : List (Nat × j)) (aw : Q .normal (I dA)) (h : aX aN g ds r [] → F → ∀ P : List (Nat × j) → Prop, P dA → bQ aN (I l) ros none (fun _ s => P (hK k s)) := by
 intro pw bg P aA
 (try simp only [aQ.down, simprocAttr, iC.down, bg])
 refine eb pw rfl rfl rfl rfl (.inl (by rfl)) ?_
 simp only [aQ.down, simprocAttr, iC.down, bg]
 (try simp only [bI.down, simprocAttr, iC.down, bg] at aA ⊢)
 exact aA) : db aN (.ad ros (some k)) Q (I l) :=
 i1 (cu dA (h ok bg) aw)
def fj := PLift.up (And.intro @eX (And.intro @fU (And.intro @fV (And.intro @hL (And.intro @fG (And.intro @gN (And.intro @jD (And.intro @bf.eq_1 (And.intro @cA.eq_1 (And.intro @bk.eq_1 @b3.eq_1))))))))))
def ik := PLift.up (And.intro @eX (And.intro @fU (And.intro @fV (And.intro @hL (And.intro @lE (And.intro @qR (And.intro @fG (And.intro @gN (And.intro @jD (And.intro @bf.eq_1 (And.intro @ev.eq_1 (And.intro @cA.eq_1 (And.intro @bk.eq_1 @b3.eq_1)))))))))))))
def jH := PLift.up (And.intro @bf.eq_1 (And.intro @cA.eq_1 (And.intro @bk.eq_1 @b3.eq_1)))
def jI := PLift.up (And.intro @fU (And.intro @qS @aR.eq_1))
def jJ := PLift.up (And.intro @bf.eq_1 (And.intro @hA.eq_1 (And.intro @eB.eq_1 (And.intro @dT.eq_1 (And.intro @el.eq_1 @aR.eq_1)))))
def kt := PLift.up (And.intro @eX (And.intro @fU (And.intro @fV (And.intro @hL (And.intro @lE (And.intro @fG (And.intro @gN (And.intro @jD (And.intro @bf.eq_1 (And.intro @bk.eq_1 (And.intro @dJ.eq_1 @eu.eq_1)))))))))))
def kZ := PLift.up (And.intro @eX (And.intro @fV (And.intro @fG @bk.eq_1)))
def k1 := PLift.up (And.intro @bf.eq_1 (And.intro @bk.eq_1 (And.intro @hA.eq_1 (And.intro @eB.eq_1 (And.intro @dT.eq_1 (And.intro @el.eq_1 (And.intro @aR.eq_1 (And.intro @ks.eq_1 (And.intro @dJ.eq_1 @eu.eq_1)))))))))
def ml := PLift.up (And.intro @bf.eq_1 (And.intro @ev.eq_1 (And.intro @cA.eq_1 (And.intro @bk.eq_1 @b3.eq_1))))
def n2 := PLift.up (And.intro @bf.eq_1 (And.intro @bk.eq_1 (And.intro @dJ.eq_1 @eu.eq_1)))
def n3 := PLift.up (And.intro @eX (And.intro @fU (And.intro @fV (And.intro @hL (And.intro @lE (And.intro @qR (And.intro @fG (And.intro @gN (And.intro @jD (And.intro @bf.eq_1 (And.intro @bk.eq_1 (And.intro @dJ.eq_1 @eu.eq_1))))))))))))
def n4 := PLift.up (And.intro @eX (And.intro @fU (And.intro @lD (And.intro @hL (And.intro @qQ (And.intro @yQ (And.intro @lF (And.intro @ni (And.intro @qT (And.intro @bf.eq_1 (And.intro @bk.eq_1 (And.intro @hA.eq_1 (And.intro @eB.eq_1 (And.intro @dT.eq_1 (And.intro @el.eq_1 (And.intro @aR.eq_1 (And.intro @ks.eq_1 (And.intro @dJ.eq_1 @eu.eq_1))))))))))))))))))
def ra := PLift.up (And.intro @eX (And.intro @fU (And.intro @fV (And.intro @hL (And.intro @lE (And.intro @qR (And.intro @fG (And.intro @gN (And.intro @jD (And.intro @bf.eq_1 (And.intro @bk.eq_1 (And.intro @hA.eq_1 (And.intro @eB.eq_1 (And.intro @dT.eq_1 (And.intro @el.eq_1 (And.intro @aR.eq_1 (And.intro @ks.eq_1 (And.intro @dJ.eq_1 @eu.eq_1))))))))))))))))))
def s7 := PLift.up (And.intro @bf.eq_1 (And.intro @cA.eq_1 (And.intro @bk.eq_1 (And.intro @b3.eq_1 @aR.eq_1))))
def v7 := PLift.up (And.intro @eX (And.intro @fU (And.intro @lD (And.intro @fV (And.intro @hL (And.intro @qQ (And.intro @yQ (And.intro @lE (And.intro @qR (And.intro @fG (And.intro @lF (And.intro @gN (And.intro @jD (And.intro @ni (And.intro @qT (And.intro @bf.eq_1 (And.intro @bk.eq_1 (And.intro @hA.eq_1 (And.intro @eB.eq_1 (And.intro @dT.eq_1 (And.intro @el.eq_1 (And.intro @aR.eq_1 (And.intro @ks.eq_1 (And.intro @dJ.eq_1 @eu.eq_1))))))))))))))))))))))))
theorem Ez (a0 : List Int) (ah : Int) (r : Int) (h : sC a0 ah = some r) : aX aN 148 [.slice (a0.map bf), .int .i64 ah] (.int .i64 r) [] := by
 refine aX.cP (fx := [0]) cV [.tmp 4] [(0, .slice (a0.map bf)), (1, .int .i64 ah)] Try.func148 rfl rfl Lj (Nat.le_of_ble_eq_true rfl) rfl rfl (fun cR aI cN => ?_)
 refine ws _ ?_
 refine ws _ ?_
 refine ba (fun px jK gg a8 => ?_)
 refine ws _ ?_
 rcases bl h with ⟨cl, h⟩ | ⟨cl, h⟩
 ·refine bt (congrArg j.bool cl) ?_
  simp only [cl, aL.down]
  refine ws _ ?_
  exact a6 (gg _ (aI _ (.inl (a7 [.int .i64 (-1)] rfl (by cases a1 h; rfl) (by decide) bc))))
 ·refine bx (congrArg j.bool cl) ?_
  simp only [cl, aL.down]
  refine bF (jK _ (.inl ?_))
  refine ws _ ?_
  exact a6 (aI _ (.inl (a7 [.int .i64 (IntKind.i64.wrap (ah - (a0.length : Int)))] rfl (by cases a1 h; rfl) (by decide) bc)))
theorem EA (a0 : List fb) (ah : Int) (r : Int) (h : qU a0 ah = some r) : aX aN 31 [.slice (a0.map dT), .int .i64 ah] (.int .i64 r) [] := by
 refine aX.cP (fx := [0]) cV [.tmp 4] [(0, .slice (a0.map dT)), (1, .int .i64 ah)] Try.func31 rfl rfl Lq (Nat.le_of_ble_eq_true rfl) rfl rfl (fun cR aI cN => ?_)
 refine ws _ ?_
 refine ws _ ?_
 refine ba (fun px jK gg a8 => ?_)
 refine ws _ ?_
 rcases bl h with ⟨cl, h⟩ | ⟨cl, h⟩
 ·refine bt (congrArg j.bool cl) ?_
  simp only [cl, aL.down]
  refine ws _ ?_
  exact a6 (gg _ (aI _ (.inl (a7 [.int .i64 (-1)] rfl (by cases a1 h; rfl) (by decide) bc))))
 ·refine bx (congrArg j.bool cl) ?_
  simp only [cl, aL.down]
  refine bF (jK _ (.inl ?_))
  refine ws _ ?_
  exact a6 (aI _ (.inl (a7 [.int .i64 (IntKind.i64.wrap (ah - (a0.length : Int)))] rfl (by cases a1 h; rfl) (by decide) bc)))
theorem EB (a0 : List (List fb)) (ah : Int) (r : Int) (h : sD a0 ah = some r) : aX aN 287 [.slice (a0.map el), .int .i64 ah] (.int .i64 r) [] := by
 refine aX.cP (fx := [0]) cV [.tmp 4] [(0, .slice (a0.map el)), (1, .int .i64 ah)] Try.func287 rfl rfl LG (Nat.le_of_ble_eq_true rfl) rfl rfl (fun cR aI cN => ?_)
 refine ws _ ?_
 refine ws _ ?_
 refine ba (fun px jK gg a8 => ?_)
 refine ws _ ?_
 rcases bl h with ⟨cl, h⟩ | ⟨cl, h⟩
 ·refine bt (congrArg j.bool cl) ?_
  simp only [cl, aL.down]
  refine ws _ ?_
  exact a6 (gg _ (aI _ (.inl (a7 [.int .i64 (-1)] rfl (by cases a1 h; rfl) (by decide) bc))))
 ·refine bx (congrArg j.bool cl) ?_
  simp only [cl, aL.down]
  refine bF (jK _ (.inl ?_))
  refine ba (fun ku gv g1 c0 => ?_)
  refine ws _ ?_
  refine cE (fun g4 eF eP dF df => ?_)
  have k2 : ∀ (n : Nat) (hi : Int) (eN : Int), uQ a0 n hi eN = some r → eA aN DR g4 (I [(0, .slice (a0.map el)), (1, .int .i64 hi), (5, .int .i64 eN)]) := by
   intro gF
   induction gF with
   | zero => intro hi eN h; cases (show none = some r from h)
   | succ gF k3 =>
    intro hi eN h
    replace h : DA (uQ a0 gF) a0 hi eN = some r := h
    refine e5 (fun fX dp ed dB => ?_)
    refine ba (fun kv gP jq eO => ?_)
    refine ws _ ?_
    rcases bl h with ⟨fL, h⟩ | ⟨fL, h⟩
    ·refine bt (congrArg j.bool fL) ?_
     simp only [fL, aL.down]
     refine bF (gP _ (.inl ?_))
     refine ba (fun kx gQ fM hM => ?_)
     refine cE (fun n5 iO j8 gR j7 => ?_)
     obtain ⟨aC, il, h⟩ := aY h
     obtain ⟨aM, g5, h⟩ := aY h
     refine kY il (EA aC hi _ g5) _ ?_
     refine ws _ ?_
     rcases bl h with ⟨e6, h⟩ | ⟨e6, h⟩
     ·refine bt (congrArg j.bool e6) ?_
      simp only [e6, aL.down]
      refine ws _ ?_
      exact a6 (j8 _ (fM _ (ed _ (eP _ (g1 _ (aI _ (.inl (a7 [.int .i64 (-1)] rfl (by cases a1 h; rfl) (by decide) bc))))))))
     ·refine bx (congrArg j.bool e6) ?_
      simp only [e6, aL.down]
      refine bF (iO _ (gQ _ (.inl ?_)))
      refine wr _ ?_
      exact dp _ (.inr ⟨_, cB rfl, k3 aM (IntKind.i64.wrap (eN + 1)) h⟩)
    ·refine bx (congrArg j.bool fL) ?_
     simp only [fL, aL.down]
     refine eL (eO 0 _ (dB 0 _ (dF _ (gv _ (.inl ?_)))))
     refine ws _ ?_
     exact a6 (aI _ (.inl (a7 [.int .i64 hi] rfl (by cases a1 h; rfl) (by decide) bc)))
  obtain ⟨n, h⟩ := eY h
  exact e4 (.inr ⟨_, cB rfl, k2 n (IntKind.i64.wrap (ah - (a0.length : Int))) 0 h⟩)
theorem Xf (a0 : gD) (ah : Int) (r : Int) (h : sE a0 ah = some r) : aX aN 230 [eB a0, .int .i64 ah] (.int .i64 r) [] := by
 refine aX.cP (fx := [0]) cV [.tmp 4] [(0, eB a0), (1, .int .i64 ah)] Try.func230 rfl rfl L4 (Nat.le_of_ble_eq_true rfl) rfl rfl (fun cR aI cN => ?_)
 refine ws _ ?_
 obtain ⟨aC, bb, h⟩ := aY h
 refine fc (Ez a0.bz ah _ bb) _ ?_
 refine ba (fun fo fN c3 bU => ?_)
 refine ws _ ?_
 rcases bl h with ⟨dy, h⟩ | ⟨dy, h⟩
 ·refine bt (congrArg j.bool dy) ?_
  simp only [dy, aL.down]
  refine ws _ ?_
  exact a6 (c3 _ (aI _ (.inl (a7 [.int .i64 (-1)] rfl (by cases a1 h; rfl) (by decide) bc))))
 ·refine bx (congrArg j.bool dy) ?_
  simp only [dy, aL.down]
  refine bF (fN _ (.inl ?_))
  obtain ⟨aM, hR, h⟩ := aY h
  refine fc (EA a0.Guard aC _ hR) _ ?_
  refine ba (fun fX dp ed dB => ?_)
  refine ws _ ?_
  rcases bl h with ⟨c4, h⟩ | ⟨c4, h⟩
  ·refine bt (congrArg j.bool c4) ?_
   simp only [c4, aL.down]
   refine ws _ ?_
   exact a6 (ed _ (aI _ (.inl (a7 [.int .i64 (-1)] rfl (by cases a1 h; rfl) (by decide) bc))))
  ·refine bx (congrArg j.bool c4) ?_
   simp only [c4, aL.down]
   refine bF (dp _ (.inl ?_))
   refine ws _ ?_
   refine ba (fun n5 iO j8 j7 => ?_)
   refine ws _ ?_
   rcases bl h with ⟨ee, h⟩ | ⟨ee, h⟩
   ·refine bt (congrArg j.bool ee) ?_
    simp only [ee, aL.down]
    refine ws _ ?_
    exact a6 (j8 _ (aI _ (.inl (a7 [.int .i64 (-1)] rfl (by cases a1 h; rfl) (by decide) bc))))
   ·refine bx (congrArg j.bool ee) ?_
    simp only [ee, aL.down]
    refine bF (iO _ (.inl ?_))
    obtain ⟨a8, mM, h⟩ := aY h
    refine fc (EB a0.bK (IntKind.i64.wrap (aM - (a0.Name.length : Int))) _ mM) _ ?_
    refine ba (fun v8 nm n6 rb => ?_)
    refine ws _ ?_
    rcases bl h with ⟨iD, h⟩ | ⟨iD, h⟩
    ·refine bt (congrArg j.bool iD) ?_
     simp only [iD, aL.down]
     refine ws _ ?_
     exact a6 (n6 _ (aI _ (.inl (a7 [.int .i64 (-1)] rfl (by cases a1 h; rfl) (by decide) bc))))
    ·refine bx (congrArg j.bool iD) ?_
     simp only [iD, aL.down]
     refine bF (nm _ (.inl ?_))
     obtain ⟨bU, re, h⟩ := aY h
     refine fc (EB a0.Next a8 _ re) _ ?_
     refine ba (fun aaK Xg Xh aaL => ?_)
     refine ws _ ?_
     rcases bl h with ⟨rf, h⟩ | ⟨rf, h⟩
     ·refine bt (congrArg j.bool rf) ?_
      simp only [rf, aL.down]
      refine ws _ ?_
      exact a6 (Xh _ (aI _ (.inl (a7 [.int .i64 (-1)] rfl (by cases a1 h; rfl) (by decide) bc))))
     ·refine bx (congrArg j.bool rf) ?_
      simp only [rf, aL.down]
      refine bF (Xg _ (.inl ?_))
      refine ws _ ?_
      exact a6 (aI _ (.inl (a7 [.int .i64 bU] rfl (by cases a1 h; rfl) (by decide) bc)))
theorem Xi (a0 : List gD) (ah : Int) (r : Int) (h : uS a0 ah = some r) : aX aN 152 [.slice (a0.map eB), .int .i64 ah] (.int .i64 r) [] := by
 refine aX.cP (fx := [0]) cV [.tmp 4] [(0, .slice (a0.map eB)), (1, .int .i64 ah)] Try.func152 rfl rfl Mi (Nat.le_of_ble_eq_true rfl) rfl rfl (fun cR aI cN => ?_)
 refine ws _ ?_
 refine ws _ ?_
 refine ba (fun px jK gg a8 => ?_)
 refine ws _ ?_
 rcases bl h with ⟨cl, h⟩ | ⟨cl, h⟩
 ·refine bt (congrArg j.bool cl) ?_
  simp only [cl, aL.down]
  refine ws _ ?_
  exact a6 (gg _ (aI _ (.inl (a7 [.int .i64 (-1)] rfl (by cases a1 h; rfl) (by decide) bc))))
 ·refine bx (congrArg j.bool cl) ?_
  simp only [cl, aL.down]
  refine bF (jK _ (.inl ?_))
  refine ba (fun ku gv g1 c0 => ?_)
  refine ws _ ?_
  refine cE (fun g4 eF eP dF df => ?_)
  have k2 : ∀ (n : Nat) (hi : Int) (eN : Int), uR a0 n hi eN = some r → eA aN DS g4 (I [(0, .slice (a0.map eB)), (1, .int .i64 hi), (5, .int .i64 eN)]) := by
   intro gF
   induction gF with
   | zero => intro hi eN h; cases (show none = some r from h)
   | succ gF k3 =>
    intro hi eN h
    replace h : DB (uR a0 gF) a0 hi eN = some r := h
    refine e5 (fun fX dp ed dB => ?_)
    refine ba (fun kv gP jq eO => ?_)
    refine ws _ ?_
    rcases bl h with ⟨fL, h⟩ | ⟨fL, h⟩
    ·refine bt (congrArg j.bool fL) ?_
     simp only [fL, aL.down]
     refine bF (gP _ (.inl ?_))
     refine ba (fun kx gQ fM hM => ?_)
     refine cE (fun n5 iO j8 gR j7 => ?_)
     obtain ⟨aC, il, h⟩ := aY h
     obtain ⟨aM, g5, h⟩ := aY h
     refine kY il (Xf aC hi _ g5) _ ?_
     refine ws _ ?_
     rcases bl h with ⟨e6, h⟩ | ⟨e6, h⟩
     ·refine bt (congrArg j.bool e6) ?_
      simp only [e6, aL.down]
      refine ws _ ?_
      exact a6 (j8 _ (fM _ (ed _ (eP _ (g1 _ (aI _ (.inl (a7 [.int .i64 (-1)] rfl (by cases a1 h; rfl) (by decide) bc))))))))
     ·refine bx (congrArg j.bool e6) ?_
      simp only [e6, aL.down]
      refine bF (iO _ (gQ _ (.inl ?_)))
      refine wr _ ?_
      exact dp _ (.inr ⟨_, cB rfl, k3 aM (IntKind.i64.wrap (eN + 1)) h⟩)
    ·refine bx (congrArg j.bool fL) ?_
     simp only [fL, aL.down]
     refine eL (eO 0 _ (dB 0 _ (dF _ (gv _ (.inl ?_)))))
     refine ws _ ?_
     exact a6 (aI _ (.inl (a7 [.int .i64 hi] rfl (by cases a1 h; rfl) (by decide) bc)))
  obtain ⟨n, h⟩ := eY h
  exact e4 (.inr ⟨_, cB rfl, k2 n (IntKind.i64.wrap (ah - (a0.length : Int))) 0 h⟩)
theorem Xj (a0 : i2) (ah : Int) (r : Int) (h : uT a0 ah = some r) : aX aN 72 [hA a0, .int .i64 ah] (.int .i64 r) [] := by
 refine aX.cP (fx := [0]) cV [.tmp 4] [(0, hA a0), (1, .int .i64 ah)] Try.func72 rfl rfl Mt (Nat.le_of_ble_eq_true rfl) rfl rfl (fun cR aI cN => ?_)
 refine ws _ ?_
 obtain ⟨aC, bb, h⟩ := aY h
 refine fc (Ez a0.Start ah _ bb) _ ?_
 refine ba (fun fo fN c3 bU => ?_)
 refine ws _ ?_
 rcases bl h with ⟨dy, h⟩ | ⟨dy, h⟩
 ·refine bt (congrArg j.bool dy) ?_
  simp only [dy, aL.down]
  refine ws _ ?_
  exact a6 (c3 _ (aI _ (.inl (a7 [.int .i64 (-1)] rfl (by cases a1 h; rfl) (by decide) bc))))
 ·refine bx (congrArg j.bool dy) ?_
  simp only [dy, aL.down]
  refine bF (fN _ (.inl ?_))
  obtain ⟨aM, hR, h⟩ := aY h
  refine fc (Xi a0.cG aC _ hR) _ ?_
  refine ba (fun fX dp ed dB => ?_)
  refine ws _ ?_
  rcases bl h with ⟨c4, h⟩ | ⟨c4, h⟩
  ·refine bt (congrArg j.bool c4) ?_
   simp only [c4, aL.down]
   refine ws _ ?_
   exact a6 (ed _ (aI _ (.inl (a7 [.int .i64 (-1)] rfl (by cases a1 h; rfl) (by decide) bc))))
  ·refine bx (congrArg j.bool c4) ?_
   simp only [c4, aL.down]
   refine bF (dp _ (.inl ?_))
   refine ws _ ?_
   exact a6 (aI _ (.inl (a7 [.int .i64 aM] rfl (by cases a1 h; rfl) (by decide) bc)))
theorem EC (a0 : List Int) (r : (List Int)) (h : sF a0 = some r) : aX aN 150 [.slice (a0.map bf)] (.ay 1 (r.map bf)) [] := by
 refine aX.cP (fx := [0]) cV [.tmp 2] [(0, .slice (a0.map bf))] Try.func150 rfl rfl MC (Nat.le_of_ble_eq_true rfl) rfl rfl (fun cR aI cN => ?_)
 refine ws _ ?_
 obtain ⟨aaM, bb, h⟩ := aY h
 refine cX (cu [(0, .slice (a0.map bf)), (3, .ay 1 ((List.replicate (Int.toNat (a0.length : Int)) 0).map bf))] (fun P aA => ?_) ?_)
 ·simp only [aQ.down, simprocAttr, eX, hL, bf, (f_ bb).1, (f_ bb).2.1, (f_ bb).2.2, eH, List.map_replicate, -Int.reduceNatCast']
  (try simp only [bI.down, simprocAttr, bf, (f_ bb).1, (f_ bb).2.1, (f_ bb).2.2, eH, List.map_replicate, -Int.reduceNatCast'] at aA ⊢); exact aA
 refine ba (fun fo fN c3 bU => ?_)
 refine ws [(0, .slice (a0.map bf)), (3, .ay 1 ((List.replicate (Int.toNat (a0.length : Int)) 0).map bf)), (4, .int .i64 0)] ?_
 refine cE (fun gG eQ e_ dy cw => ?_)
 have k4 : ∀ (n : Nat) (bV : List Int) (cg : Int), uU a0 n bV cg = some r → eA aN DT gG (I [(0, .slice (a0.map bf)), (3, .ay 1 (bV.map bf)), (4, .int .i64 cg)]) := by
  intro ez
  induction ez with
  | zero => intro bV cg h; cases (show none = some r from h)
  | succ ez k5 =>
   intro bV cg h
   replace h : DC (uU a0 ez) a0 bV cg = some r := h
   refine e5 (fun ku gv g1 c0 => ?_)
   refine ba (fun im gS gL eE => ?_)
   refine ws _ ?_
   rcases bl h with ⟨dc, h⟩ | ⟨dc, h⟩
   ·refine bt (congrArg j.bool dc) ?_
    simp only [dc, aL.down]
    refine bF (gS _ (.inl ?_))
    refine ba (fun kv gP jq eO => ?_)
    refine cE (fun n7 i4 mN c4 jG => ?_)
    obtain ⟨aC, hB, h⟩ := aY h
    obtain ⟨aM, fk, h⟩ := aY h
    refine i1 (cu [(0, .slice (a0.map bf)), (3, .ay 1 ((List.set bV (Int.toNat cg) aC).map bf)), (4, .int .i64 cg)] (fun P aA => ?_) ?_)
    ·simp only [aQ.down, simprocAttr, eX, hL, bf, hB, fk, dg fk, fT, eW]
     (try simp only [bI.down, simprocAttr, bf, hB, fk, dg fk, fT, eW] at aA ⊢); exact aA
    refine i4 _ (gP _ (.inl ?_))
    refine wr [(0, .slice (a0.map bf)), (3, .ay 1 ((List.set bV (Int.toNat cg) aC).map bf)), (4, .int .i64 (IntKind.i64.wrap (cg + 1)))] ?_
    exact gv _ (.inr ⟨_, cB rfl, k5 (List.set bV (Int.toNat cg) aC) (IntKind.i64.wrap (cg + 1)) h⟩)
   ·refine bx (congrArg j.bool dc) ?_
    simp only [dc, aL.down]
    refine eL (eE 0 _ (c0 0 _ (dy _ (fN _ (.inl ?_)))))
    refine ws _ ?_
    exact a6 (aI _ (.inl (a7 [.ay 1 (bV.map bf)] rfl (by cases a1 h; rfl) (by decide) bc)))
 obtain ⟨n, h⟩ := eY h
 exact e4 (.inr ⟨_, cB rfl, k4 n (List.replicate (Int.toNat (a0.length : Int)) 0) 0 h⟩)
theorem Xk (a0 : fb) (r : a2) (h : sG a0 = some r) : aX aN 107 [dT a0] (bk r) [] := by
 refine aX.cP (fx := [0]) cV [.cell 2 131] [(0, dT a0)] Try.func107 rfl rfl MI (Nat.le_of_ble_eq_true rfl) rfl rfl (fun cR aI cN => ?_)
 refine ws _ ?_
 refine ws _ ?_
 refine ws _ ?_
 refine ws _ ?_
 refine ws _ ?_
 exact a6 (aI _ (.inl (a7 [bk (a2.mk a0.Kind a0.Value)] rfl (by cases a1 h; rfl) (by decide) bc)))
theorem ED (a0 : List fb) (r : (List a2)) (h : qV a0 = some r) : aX aN 33 [.slice (a0.map dT)] (.ay 2 (r.map bk)) [] := by
 refine aX.cP (fx := [0]) cV [.tmp 2] [(0, .slice (a0.map dT))] Try.func33 rfl rfl MR (Nat.le_of_ble_eq_true rfl) rfl rfl (fun cR aI cN => ?_)
 refine ws _ ?_
 obtain ⟨zg, bb, h⟩ := aY h
 refine cX (cu [(0, .slice (a0.map dT)), (3, .ay 2 ((List.replicate (Int.toNat (a0.length : Int)) (a2.mk 0 0)).map bk))] (fun P aA => ?_) ?_)
 ·simp only [aQ.down, simprocAttr, eX, lD, fV, fG, lF, bk, dT, (f_ bb).1, (f_ bb).2.1, (f_ bb).2.2, eH, List.map_replicate, -Int.reduceNatCast']
  (try simp only [bI.down, simprocAttr, bk, dT, (f_ bb).1, (f_ bb).2.1, (f_ bb).2.2, eH, List.map_replicate, -Int.reduceNatCast'] at aA ⊢); exact aA
 refine ba (fun fo fN c3 bU => ?_)
 refine ws [(0, .slice (a0.map dT)), (3, .ay 2 ((List.replicate (Int.toNat (a0.length : Int)) (a2.mk 0 0)).map bk)), (4, .int .i64 0)] ?_
 refine cE (fun gG eQ e_ dy cw => ?_)
 have k4 : ∀ (n : Nat) (bV : List a2) (cg : Int), uV a0 n bV cg = some r → eA aN DU gG (I [(0, .slice (a0.map dT)), (3, .ay 2 (bV.map bk)), (4, .int .i64 cg)]) := by
  intro ez
  induction ez with
  | zero => intro bV cg h; cases (show none = some r from h)
  | succ ez k5 =>
   intro bV cg h
   replace h : DD (uV a0 ez) a0 bV cg = some r := h
   refine e5 (fun ku gv g1 c0 => ?_)
   refine ba (fun im gS gL eE => ?_)
   refine ws _ ?_
   rcases bl h with ⟨dc, h⟩ | ⟨dc, h⟩
   ·refine bt (congrArg j.bool dc) ?_
    simp only [dc, aL.down]
    refine bF (gS _ (.inl ?_))
    refine ba (fun kv gP jq eO => ?_)
    refine cE (fun n7 i4 mN c4 jG => ?_)
    obtain ⟨aC, hB, h⟩ := aY h
    obtain ⟨aM, fk, h⟩ := aY h
    obtain ⟨a8, dN, h⟩ := aY h
    refine i1 (cu [(0, .slice (a0.map dT)), (3, .ay 2 ((List.set bV (Int.toNat cg) aM).map bk)), (4, .int .i64 cg)] (fun P aA => ?_) ?_)
    ·simp only [aQ.down, simprocAttr, eX, lD, fV, fG, lF, bk, dT, hB, dN, dg dN, fT, eW]
     refine eb (Xk aC _ fk) rfl rfl rfl rfl (.inl (by rfl)) ?_
     simp only [aQ.down, simprocAttr, eX, lD, fV, fG, lF, bk, dT, hB, dN, dg dN, fT, eW]
     (try simp only [bI.down, simprocAttr, bk, dT, hB, dN, dg dN, fT, eW] at aA ⊢); exact aA
    refine i4 _ (gP _ (.inl ?_))
    refine wr [(0, .slice (a0.map dT)), (3, .ay 2 ((List.set bV (Int.toNat cg) aM).map bk)), (4, .int .i64 (IntKind.i64.wrap (cg + 1)))] ?_
    exact gv _ (.inr ⟨_, cB rfl, k5 (List.set bV (Int.toNat cg) aM) (IntKind.i64.wrap (cg + 1)) h⟩)
   ·refine bx (congrArg j.bool dc) ?_
    simp only [dc, aL.down]
    refine eL (eE 0 _ (c0 0 _ (dy _ (fN _ (.inl ?_)))))
    refine ws _ ?_
    exact a6 (aI _ (.inl (a7 [.ay 2 (bV.map bk)] rfl (by cases a1 h; rfl) (by decide) bc)))
 obtain ⟨n, h⟩ := eY h
 exact e4 (.inr ⟨_, cB rfl, k4 n (List.replicate (Int.toNat (a0.length : Int)) (a2.mk 0 0)) 0 h⟩)
theorem EE (a0 : List (List fb)) (r : (List (List a2))) (h : sH a0 = some r) : aX aN 290 [.slice (a0.map el)] (.ay 1 (r.map eu)) [] := by
 refine aX.cP (fx := [0]) cV [.tmp 2] [(0, .slice (a0.map el))] Try.func290 rfl rfl M0 (Nat.le_of_ble_eq_true rfl) rfl rfl (fun cR aI cN => ?_)
 refine ws _ ?_
 obtain ⟨zg, bb, h⟩ := aY h
 refine cX (cu [(0, .slice (a0.map el)), (3, .ay 1 (List.replicate (Int.toNat (a0.length : Int)) .a_))] (fun P aA => ?_) ?_)
 ·simp only [aQ.down, simprocAttr, eX, lD, fV, fG, lF, gN, ni, dT, el, (f_ bb).1, (f_ bb).2.1, (f_ bb).2.2, eH, List.map_replicate, -Int.reduceNatCast']
  (try simp only [bI.down, simprocAttr, dT, el, (f_ bb).1, (f_ bb).2.1, (f_ bb).2.2, eH, List.map_replicate, -Int.reduceNatCast'] at aA ⊢); exact aA
 refine ba (fun fo fN c3 bU => ?_)
 refine ws [(0, .slice (a0.map el)), (3, .ay 1 (List.replicate (Int.toNat (a0.length : Int)) .a_)), (4, .int .i64 0)] ?_
 refine cE (fun gG eQ e_ dy cw => ?_)
 have k4 : ∀ (n : Nat) (bV : List (List a2)) (cg : Int), uW a0 n bV cg = some r → eA aN DV gG (I [(0, .slice (a0.map el)), (3, .ay 1 (bV.map eu)), (4, .int .i64 cg)]) := by
  intro ez
  induction ez with
  | zero => intro bV cg h; cases (show none = some r from h)
  | succ ez k5 =>
   intro bV cg h
   replace h : DE (uW a0 ez) a0 bV cg = some r := h
   refine e5 (fun ku gv g1 c0 => ?_)
   refine ba (fun im gS gL eE => ?_)
   refine ws _ ?_
   rcases bl h with ⟨dc, h⟩ | ⟨dc, h⟩
   ·refine bt (congrArg j.bool dc) ?_
    simp only [dc, aL.down]
    refine bF (gS _ (.inl ?_))
    refine ba (fun kv gP jq eO => ?_)
    refine cE (fun n7 i4 mN c4 jG => ?_)
    obtain ⟨aC, hB, h⟩ := aY h
    obtain ⟨aM, fk, h⟩ := aY h
    obtain ⟨a8, dN, h⟩ := aY h
    refine i1 (cu [(0, .slice (a0.map el)), (3, .ay 1 ((List.set bV (Int.toNat cg) aM).map eu)), (4, .int .i64 cg)] (fun P aA => ?_) ?_)
    ·simp only [aQ.down, simprocAttr, eX, lD, fV, fG, lF, gN, ni, bk, dT, el, eu, hB, dN, dg dN, fT, eW]
     refine eb (ED aC _ fk) rfl rfl rfl rfl (.inl (by rfl)) ?_
     simp only [aQ.down, simprocAttr, eX, lD, fV, fG, lF, gN, ni, bk, dT, el, eu, hB, dN, dg dN, fT, eW]
     (try simp only [bI.down, simprocAttr, bk, dT, el, eu, hB, dN, dg dN, fT, eW] at aA ⊢); exact aA
    refine i4 _ (gP _ (.inl ?_))
    refine wr [(0, .slice (a0.map el)), (3, .ay 1 ((List.set bV (Int.toNat cg) aM).map eu)), (4, .int .i64 (IntKind.i64.wrap (cg + 1)))] ?_
    exact gv _ (.inr ⟨_, cB rfl, k5 (List.set bV (Int.toNat cg) aM) (IntKind.i64.wrap (cg + 1)) h⟩)
   ·refine bx (congrArg j.bool dc) ?_
    simp only [dc, aL.down]
    refine eL (eE 0 _ (c0 0 _ (dy _ (fN _ (.inl ?_)))))
    refine ws _ ?_
    exact a6 (aI _ (.inl (a7 [.ay 1 (bV.map eu)] rfl (by cases a1 h; rfl) (by decide) bc)))
 obtain ⟨n, h⟩ := eY h
 exact e4 (.inr ⟨_, o2 [] rfl (lC (t := 0) (d := .slice (a0.map el)) rfl (o4 (t := 3) (d := .ay 1 (List.replicate (Int.toNat (a0.length : Int)) .a_)) (bj := .ay 1 ((List.replicate (Int.toNat (a0.length : Int)) []).map eu)) rfl rfl (CE (u := eu) (z := []) (.j1 _) _) (by decide) (lC (t := 4) (d := .int .i64 0) rfl (o3)))), k4 n (List.replicate (Int.toNat (a0.length : Int)) []) 0 h⟩)
theorem Xl (a0 : gD) (r : bu) (h : sI a0 = some r) : aX aN 233 [eB a0] (dJ r) [] := by
 refine aX.cP (fx := [0]) cV [.cell 2 197] [(0, eB a0)] Try.func233 rfl rfl M_ (Nat.le_of_ble_eq_true rfl) rfl rfl (fun cR aI cN => ?_)
 refine ws _ ?_
 refine ws _ ?_
 obtain ⟨aC, cn, h⟩ := aY h
 refine fc (EC a0.bz _ cn) _ ?_
 obtain ⟨aM, b6, h⟩ := aY h
 refine fc (ED a0.Guard _ b6) _ ?_
 refine ws _ ?_
 obtain ⟨a8, hR, h⟩ := aY h
 refine fc (EE a0.bK _ hR) _ ?_
 obtain ⟨bU, rN, h⟩ := aY h
 refine fc (EE a0.Next _ rN) _ ?_
 refine ws _ ?_
 exact a6 (aI _ (.inl (a7 [dJ (bu.mk aC aM a0.Name a8 bU)] rfl (by cases a1 h; rfl) (by decide) bc)))
theorem Xm (a0 : List gD) (r : (List bu)) (h : uY a0 = some r) : aX aN 159 [.slice (a0.map eB)] (.ay 5 (r.map dJ)) [] := by
 refine aX.cP (fx := [0]) cV [.tmp 2] [(0, .slice (a0.map eB))] Try.func159 rfl rfl Nj (Nat.le_of_ble_eq_true rfl) rfl rfl (fun cR aI cN => ?_)
 refine ws _ ?_
 obtain ⟨zg, bb, h⟩ := aY h
 refine cX (cu [(0, .slice (a0.map eB)), (3, .ay 5 (List.replicate (Int.toNat (a0.length : Int)) (.agg [.a_, .a_, (.str []), .a_, .a_])))] (fun P aA => ?_) ?_)
 ·simp only [aQ.down, simprocAttr, eX, fU, lD, fV, hL, qQ, lE, fG, lF, gN, jD, ni, qT, bf, eB, dT, el, (f_ bb).1, (f_ bb).2.1, (f_ bb).2.2, eH, List.map_replicate, -Int.reduceNatCast']
  (try simp only [bI.down, simprocAttr, bf, eB, dT, el, (f_ bb).1, (f_ bb).2.1, (f_ bb).2.2, eH, List.map_replicate, -Int.reduceNatCast'] at aA ⊢); exact aA
 refine ba (fun fo fN c3 bU => ?_)
 refine ws [(0, .slice (a0.map eB)), (3, .ay 5 (List.replicate (Int.toNat (a0.length : Int)) (.agg [.a_, .a_, (.str []), .a_, .a_]))), (4, .int .i64 0)] ?_
 refine cE (fun gG eQ e_ dy cw => ?_)
 have k4 : ∀ (n : Nat) (bV : List bu) (cg : Int), uX a0 n bV cg = some r → eA aN DW gG (I [(0, .slice (a0.map eB)), (3, .ay 5 (bV.map dJ)), (4, .int .i64 cg)]) := by
  intro ez
  induction ez with
  | zero => intro bV cg h; cases (show none = some r from h)
  | succ ez k5 =>
   intro bV cg h
   replace h : DF (uX a0 ez) a0 bV cg = some r := h
   refine e5 (fun ku gv g1 c0 => ?_)
   refine ba (fun im gS gL eE => ?_)
   refine ws _ ?_
   rcases bl h with ⟨dc, h⟩ | ⟨dc, h⟩
   ·refine bt (congrArg j.bool dc) ?_
    simp only [dc, aL.down]
    refine bF (gS _ (.inl ?_))
    refine ba (fun kv gP jq eO => ?_)
    refine cE (fun n7 i4 mN c4 jG => ?_)
    obtain ⟨aC, hB, h⟩ := aY h
    obtain ⟨aM, fk, h⟩ := aY h
    obtain ⟨a8, dN, h⟩ := aY h
    refine i1 (cu [(0, .slice (a0.map eB)), (3, .ay 5 ((List.set bV (Int.toNat cg) aM).map dJ)), (4, .int .i64 cg)] (fun P aA => ?_) ?_)
    ·simp only [aQ.down, simprocAttr, eX, fU, lD, fV, hL, qQ, lE, fG, lF, gN, jD, ni, qT, bf, bk, eB, dT, el, dJ, eu, hB, dN, dg dN, fT, eW]
     refine eb (Xl aC _ fk) rfl rfl rfl rfl (.inl (by rfl)) ?_
     simp only [aQ.down, simprocAttr, eX, fU, lD, fV, hL, qQ, lE, fG, lF, gN, jD, ni, qT, bf, bk, eB, dT, el, dJ, eu, hB, dN, dg dN, fT, eW]
     (try simp only [bI.down, simprocAttr, bf, bk, eB, dT, el, dJ, eu, hB, dN, dg dN, fT, eW] at aA ⊢); exact aA
    refine i4 _ (gP _ (.inl ?_))
    refine wr [(0, .slice (a0.map eB)), (3, .ay 5 ((List.set bV (Int.toNat cg) aM).map dJ)), (4, .int .i64 (IntKind.i64.wrap (cg + 1)))] ?_
    exact gv _ (.inr ⟨_, cB rfl, k5 (List.set bV (Int.toNat cg) aM) (IntKind.i64.wrap (cg + 1)) h⟩)
   ·refine bx (congrArg j.bool dc) ?_
    simp only [dc, aL.down]
    refine eL (eE 0 _ (c0 0 _ (dy _ (fN _ (.inl ?_)))))
    refine ws _ ?_
    exact a6 (aI _ (.inl (a7 [.ay 5 (bV.map dJ)] rfl (by cases a1 h; rfl) (by decide) bc)))
 obtain ⟨n, h⟩ := eY h
 exact e4 (.inr ⟨_, o2 [] rfl (lC (t := 0) (d := .slice (a0.map eB)) rfl (o4 (t := 3) (d := .ay 5 (List.replicate (Int.toNat (a0.length : Int)) (.agg [.a_, .a_, (.str []), .a_, .a_]))) (bj := .ay 5 ((List.replicate (Int.toNat (a0.length : Int)) (bu.mk [] [] ([] : List UInt8) [] [])).map dJ)) rfl rfl (CE (u := dJ) (z := (bu.mk [] [] ([] : List UInt8) [] [])) (.agg (.cons (.j1 _) (.cons (.j1 _) (.cons (.refl _) (.cons (.j1 _) (.cons (.j1 _) (.nil))))))) _) (by decide) (lC (t := 4) (d := .int .i64 0) rfl (o3)))), k4 n (List.replicate (Int.toNat (a0.length : Int)) (bu.mk [] [] ([] : List UInt8) [] [])) 0 h⟩)
theorem v_ (a0 : i2) (r : dM) (h : pb a0 = some r) : aX aN 74 [hA a0] (ks r) [] := by
 refine aX.cP (fx := [0]) cV [.cell 2 90] [(0, hA a0)] Try.func74 rfl rfl Nr (Nat.le_of_ble_eq_true rfl) rfl rfl (fun cR aI cN => ?_)
 refine ws _ ?_
 refine ws _ ?_
 refine ws _ ?_
 obtain ⟨aC, c1, h⟩ := aY h
 refine fc (EC a0.Start _ c1) _ ?_
 obtain ⟨aM, bS, h⟩ := aY h
 refine fc (Xm a0.cG _ bS) _ ?_
 refine ws _ ?_
 exact a6 (aI _ (.inl (a7 [ks (dM.mk a0.dK aC aM)] rfl (by cases a1 h; rfl) (by decide) bc)))
theorem n8 (a0 : Int) (ah : Int) (cC : Int) (r : Bool) (h : mg a0 ah cC = some r) : aX aN 130 [.int .i64 a0, .int .i64 ah, .int .i64 cC] (.bool r) [] := by
 refine aX.cP (fx := [0, 1, 2]) cV [.tmp 6] [(0, .int .i64 a0), (1, .int .i64 ah), (2, .int .i64 cC)] Try.func130 rfl rfl Nu (Nat.le_of_ble_eq_true rfl) rfl rfl (fun cR aI cN => ?_)
 refine ws _ ?_
 refine cX (cu [(6, .bool ((decide (ah ≤ a0)) && (decide (a0 ≤ cC))))] (fun P aA => ?_) ?_)
 ·rcases Bool.eq_false_or_eq_true (decide (ah ≤ a0)) with ff | ff
  ·simp only [aQ.down, simprocAttr, ff]
   (try simp only [bI.down, simprocAttr, ff] at aA ⊢); exact aA
  ·simp only [aQ.down, simprocAttr, ff]
   (try simp only [bI.down, simprocAttr, ff] at aA ⊢); exact aA
 exact a6 (aI _ (.inl (a7 [.bool ((decide (ah ≤ a0)) && (decide (a0 ≤ cC)))] rfl (by cases a1 h; rfl) (by decide) bc)))
theorem Xn (a0 : List Int) (r : Bool) (h : u0 a0 = some r) : aX aN 228 [.slice (a0.map bf)] (.bool r) [] := by
 refine aX.cP (fx := [0]) cV [.tmp 2] [(0, .slice (a0.map bf))] Try.func228 rfl rfl NF (Nat.le_of_ble_eq_true rfl) rfl rfl (fun cR aI cN => ?_)
 refine ws _ ?_
 refine ba (fun fa cI bR aM => ?_)
 refine ws _ ?_
 refine cE (fun fo fN c3 bX bU => ?_)
 have hj : ∀ (n : Nat) (lG : Int), qW a0 n lG = some r → eA aN DX fo (I [(0, .slice (a0.map bf)), (3, .int .i64 lG)]) := by
  intro dk
  induction dk with
  | zero => intro lG h; cases (show none = some r from h)
  | succ dk g6 =>
   intro lG h
   replace h : uZ (qW a0 dk) a0 lG = some r := h
   refine e5 (fun iP fY fm cF => ?_)
   refine ba (fun gG eQ e_ cw => ?_)
   refine ws _ ?_
   rcases bl h with ⟨bY, h⟩ | ⟨bY, h⟩
   ·refine bt (congrArg j.bool bY) ?_
    simp only [bY, aL.down]
    refine bF (eQ _ (.inl ?_))
    refine ba (fun g4 eF eP df => ?_)
    refine cE (fun fX dp ed dc dB => ?_)
    obtain ⟨aC, ej, h⟩ := aY h
    obtain ⟨aM, e2, h⟩ := aY h
    refine kY ej (n8 aC 0 63 _ e2) _ ?_
    rcases bl h with ⟨dq, h⟩ | ⟨dq, h⟩
    ·refine bt (congrArg j.bool dq) ?_
     simp only [(eM dq), aL.down]
     refine ws _ ?_
     exact a6 (ed _ (eP _ (fm _ (c3 _ (bR _ (aI _ (.inl (a7 [.bool false] rfl (by cases a1 h; rfl) (by decide) bc))))))))
    ·refine bx (congrArg j.bool dq) ?_
     simp only [(du dq), aL.down]
     refine bF (dp _ (eF _ (.inl ?_)))
     refine wr _ ?_
     exact fY _ (.inr ⟨_, cB rfl, g6 (IntKind.i64.wrap (lG + 1)) h⟩)
   ·refine bx (congrArg j.bool bY) ?_
    simp only [bY, aL.down]
    refine eL (cw 0 _ (cF 0 _ (bX _ (cI _ (.inl ?_)))))
    refine ws _ ?_
    exact a6 (aI _ (.inl (a7 [.bool true] rfl (by cases a1 h; rfl) (by decide) bc)))
 obtain ⟨n, h⟩ := eY h
 exact e4 (.inr ⟨_, cB rfl, hj n 0 h⟩)
theorem EF (a0 : List Int) (ah : Int) (r : Bool) (h : u1 a0 ah = some r) : aX aN 231 [.slice (a0.map bf), .int .i64 ah] (.bool r) [] := by
 refine aX.cP (fx := [0, 1]) cV [.tmp 4] [(0, .slice (a0.map bf)), (1, .int .i64 ah)] Try.func231 rfl rfl NI (Nat.le_of_ble_eq_true rfl) rfl rfl (fun cR aI cN => ?_)
 refine ws _ ?_
 rcases bl h with ⟨hS, h⟩ | ⟨hS, h⟩
 ·obtain ⟨aC, cn, h⟩ := aY h
  refine cX (cu [(4, .bool aC)] (fun P aA => ?_) ?_)
  ·simp only [aQ.down, simprocAttr, eX, hL, bf, hS]
   refine iA (Xn a0 _ cn) rfl rfl rfl rfl (.inl (by rfl)) ?_
   simp only [aQ.down, simprocAttr, eX, hL, bf, hS]
   (try simp only [bI.down, simprocAttr, bf, hS] at aA ⊢); exact aA
  exact a6 (aI _ (.inl (a7 [.bool aC] rfl (by cases a1 h; rfl) (by decide) bc)))
 ·refine hX hS _ ?_
  exact a6 (aI _ (.inl (a7 [.bool false] rfl (by cases a1 h; rfl) (by decide) bc)))
theorem Xo (a0 : List Int) (r : Int) (h : u3 a0 = some r) : aX aN 154 [.slice (a0.map bf)] (.int .i64 r) [] := by
 refine aX.cP (fx := [0]) cV [.tmp 2] [(0, .slice (a0.map bf))] Try.func154 rfl rfl N0 (Nat.le_of_ble_eq_true rfl) rfl rfl (fun cR aI cN => ?_)
 refine ws _ ?_
 refine ba (fun fa cI bR aM => ?_)
 refine ws _ ?_
 rcases bl h with ⟨bX, h⟩ | ⟨bX, h⟩
 ·refine bt (congrArg j.bool bX) ?_
  simp only [bX, aL.down]
  refine ws _ ?_
  exact a6 (bR _ (aI _ (.inl (a7 [.int .i64 0] rfl (by cases a1 h; rfl) (by decide) bc))))
 ·refine bx (congrArg j.bool bX) ?_
  simp only [bX, aL.down]
  refine bF (cI _ (.inl ?_))
  refine ws _ ?_
  refine ba (fun ku gv g1 c0 => ?_)
  refine ws _ ?_
  refine cE (fun g4 eF eP dF df => ?_)
  have k2 : ∀ (n : Nat) (kU : Int) (dX : Int), pc a0 n kU dX = some r → eA aN DY g4 (I [(0, .slice (a0.map bf)), (3, .int .i64 kU), (4, .int .i64 dX)]) := by
   intro gF
   induction gF with
   | zero => intro kU dX h; cases (show none = some r from h)
   | succ gF k3 =>
    intro kU dX h
    replace h : u2 (pc a0 gF) a0 kU dX = some r := h
    refine e5 (fun fX dp ed dB => ?_)
    refine ba (fun kv gP jq eO => ?_)
    refine ws _ ?_
    rcases bl h with ⟨fL, h⟩ | ⟨fL, h⟩
    ·refine bt (congrArg j.bool fL) ?_
     simp only [fL, aL.down]
     refine bF (gP _ (.inl ?_))
     refine ba (fun kx gQ fM hM => ?_)
     refine cE (fun n5 iO j8 gR j7 => ?_)
     refine ba (fun py lL k6 lJ => ?_)
     obtain ⟨aC, g5, h⟩ := aY h
     obtain ⟨aM, jL, h⟩ := aY h
     refine kY g5 (n8 aC 1 7 _ jL) _ ?_
     rcases bl h with ⟨e6, h⟩ | ⟨e6, h⟩
     ·refine bt (congrArg j.bool e6) ?_
      simp only [(eM e6), aL.down]
      refine ws _ ?_
      exact a6 (k6 _ (j8 _ (fM _ (ed _ (eP _ (g1 _ (aI _ (.inl (a7 [.int .i64 0] rfl (by cases a1 h; rfl) (by decide) bc)))))))))
     ·refine bx (congrArg j.bool e6) ?_
      simp only [(du e6), aL.down]
      refine bF (lL _ (.inl ?_))
      refine Ey g5 _ ?_
      refine iO _ (gQ _ (.inl ?_))
      refine wr _ ?_
      exact dp _ (.inr ⟨_, cB rfl, k3 (IntKind.i64.wrap (kU * (IntKind.i64.wrap (aC + 1)))) (IntKind.i64.wrap (dX + 1)) h⟩)
    ·refine bx (congrArg j.bool fL) ?_
     simp only [fL, aL.down]
     refine eL (eO 0 _ (dB 0 _ (dF _ (gv _ (.inl ?_)))))
     refine ba (fun Xp zh EG EH => ?_)
     refine ws _ ?_
     rcases bl h with ⟨hk, h⟩ | ⟨hk, h⟩
     ·refine bt (congrArg j.bool hk) ?_
      simp only [hk, aL.down]
      refine ws _ ?_
      exact a6 (EG _ (aI _ (.inl (a7 [.int .i64 0] rfl (by cases a1 h; rfl) (by decide) bc))))
     ·refine bx (congrArg j.bool hk) ?_
      simp only [hk, aL.down]
      refine bF (zh _ (.inl ?_))
      refine ws _ ?_
      exact a6 (aI _ (.inl (a7 [.int .i64 kU] rfl (by cases a1 h; rfl) (by decide) bc)))
  obtain ⟨n, h⟩ := eY h
  exact e4 (.inr ⟨_, cB rfl, k2 n 1 0 h⟩)
theorem Xq (a0 : a2) (ah : Int) (r : Bool) (h : u4 a0 ah = some r) : aX aN 268 [.ref (bk a0), .int .i64 ah] (.bool r) [] := by
 refine aX.cP (fx := [0, 1]) cV [.tmp 4] [(0, .ref (bk a0)), (1, .int .i64 ah)] Try.func268 rfl rfl Of (Nat.le_of_ble_eq_true rfl) rfl rfl (fun cR aI cN => ?_)
 refine ws _ ?_
 refine ba (fun fa cI bR aM => ?_)
 refine ws _ ?_
 refine cE (fun fo fN c3 bX bU => ?_)
 refine ws _ ?_
 rcases bl h with ⟨dy, h⟩ | ⟨dy, h⟩
 ·refine bt (congrArg j.bool dy) ?_
  simp only [dy, aL.down]
  obtain ⟨aC, kf, h⟩ := aY h
  refine fc (n8 a0.Value 0 63 _ kf) _ ?_
  exact a6 (c3 _ (bR _ (aI _ (.inl (a7 [.bool aC] rfl (by cases a1 h; rfl) (by decide) bc)))))
 ·refine bx (congrArg j.bool dy) ?_
  simp only [dy, aL.down]
  refine ws _ ?_
  rcases bl h with ⟨dc, h⟩ | ⟨dc, h⟩
  ·refine bt (congrArg j.bool dc) ?_
   simp only [dc, aL.down]
   obtain ⟨aM, ej, h⟩ := aY h
   refine fc (n8 a0.Value 0 (IntKind.i64.wrap (ah - 1)) _ ej) _ ?_
   exact a6 (c3 _ (bR _ (aI _ (.inl (a7 [.bool aM] rfl (by cases a1 h; rfl) (by decide) bc)))))
  ·refine bx (congrArg j.bool dc) ?_
   simp only [dc, aL.down]
   refine ws _ ?_
   rcases bl h with ⟨dq, h⟩ | ⟨dq, h⟩
   ·refine bt (congrArg j.bool dq) ?_
    simp only [dq, aL.down]
    obtain ⟨a8, dN, h⟩ := aY h
    refine fc (n8 a0.Value 0 8 _ dN) _ ?_
    exact a6 (c3 _ (bR _ (aI _ (.inl (a7 [.bool a8] rfl (by cases a1 h; rfl) (by decide) bc)))))
   ·refine bx (congrArg j.bool dq) ?_
    simp only [dq, aL.down]
    refine ws _ ?_
    rcases bl h with ⟨fp, h⟩ | ⟨fp, h⟩
    ·refine bt (congrArg j.bool fp) ?_
     simp only [fp, aL.down]
     refine ws _ ?_
     exact a6 (c3 _ (bR _ (aI _ (.inl (a7 [.bool (a0.Value == 0)] rfl (by cases a1 h; rfl) (by decide) bc)))))
    ·refine bx (congrArg j.bool fp) ?_
     simp only [fp, aL.down]
     refine bF (fN _ (cI _ (.inl ?_)))
     refine ws _ ?_
     exact a6 (aI _ (.inl (a7 [.bool false] rfl (by cases a1 h; rfl) (by decide) bc)))
theorem Xr (a0 : a2) (r : Int) (h : yT a0 = some r) : aX aN 196 [.ref (bk a0)] (.int .i64 r) [] := by
 refine aX.cP (fx := [0]) cV [.tmp 2] [(0, .ref (bk a0))] Try.func196 rfl rfl Ot (Nat.le_of_ble_eq_true rfl) rfl rfl (fun cR aI cN => ?_)
 refine ws _ ?_
 refine ba (fun fa cI bR aM => ?_)
 refine ws _ ?_
 refine cE (fun fo fN c3 bX bU => ?_)
 refine ws _ ?_
 rcases bl h with ⟨dy, h⟩ | ⟨dy, h⟩
 ·refine bt (congrArg j.bool dy) ?_
  simp only [dy, aL.down]
  refine ws _ ?_
  exact a6 (c3 _ (bR _ (aI _ (.inl (a7 [.int .i64 2] rfl (by cases a1 h; rfl) (by decide) bc)))))
 ·refine bx (congrArg j.bool dy) ?_
  simp only [dy, aL.down]
  refine ws _ ?_
  rcases bl h with ⟨dF, h⟩ | ⟨dF, h⟩
  ·refine bt (congrArg j.bool dF) ?_
   simp only [dF, aL.down]
   refine ws _ ?_
   exact a6 (c3 _ (bR _ (aI _ (.inl (a7 [.int .i64 1] rfl (by cases a1 h; rfl) (by decide) bc)))))
  ·refine bx (congrArg j.bool dF) ?_
   simp only [dF, aL.down]
   refine bF (fN _ (cI _ (.inl ?_)))
   refine ws _ ?_
   exact a6 (aI _ (.inl (a7 [.int .i64 0] rfl (by cases a1 h; rfl) (by decide) bc)))
theorem zi (a0 : List a2) (ah : Int) (cC : Int) (r : Bool) (h : sJ a0 ah cC = some r) : aX aN 195 [.slice (a0.map bk), .int .i64 ah, .int .i64 cC] (.bool r) [] := by
 refine aX.cP (fx := [0, 1, 2]) cV [.tmp 6] [(0, .slice (a0.map bk)), (1, .int .i64 ah), (2, .int .i64 cC)] Try.func195 rfl rfl OJ (Nat.le_of_ble_eq_true rfl) rfl rfl (fun cR aI cN => ?_)
 refine ws _ ?_
 refine ba (fun fa cI bR aM => ?_)
 refine ws _ ?_
 rcases bl h with ⟨bX, h⟩ | ⟨bX, h⟩
 ·refine bt (congrArg j.bool bX) ?_
  simp only [bX, aL.down]
  refine ws _ ?_
  exact a6 (bR _ (aI _ (.inl (a7 [.bool false] rfl (by cases a1 h; rfl) (by decide) bc))))
 ·refine bx (congrArg j.bool bX) ?_
  simp only [bX, aL.down]
  refine bF (cI _ (.inl ?_))
  refine ws _ ?_
  refine ba (fun ku gv g1 c0 => ?_)
  refine ws _ ?_
  refine cE (fun g4 eF eP dF df => ?_)
  have k2 : ∀ (n : Nat) (gr : Int) (kV : Int), pd a0 ah n gr kV = some r → eA aN DZ g4 (I [(0, .slice (a0.map bk)), (1, .int .i64 ah), (7, .int .i64 gr), (8, .int .i64 kV)]) := by
   intro gF
   induction gF with
   | zero => intro gr kV h; cases (show none = some r from h)
   | succ gF k3 =>
    intro gr kV h
    replace h : u5 (pd a0 ah gF) a0 ah gr kV = some r := h
    refine e5 (fun fX dp ed dB => ?_)
    refine ba (fun kv gP jq eO => ?_)
    refine ws _ ?_
    rcases bl h with ⟨fL, h⟩ | ⟨fL, h⟩
    ·refine bt (congrArg j.bool fL) ?_
     simp only [fL, aL.down]
     refine bF (gP _ (.inl ?_))
     refine ba (fun kx gQ fM hM => ?_)
     refine cE (fun n5 iO j8 gR j7 => ?_)
     refine ba (fun py lL k6 lJ => ?_)
     rcases bl h with ⟨fp, h⟩ | ⟨fp, h⟩
     ·refine hX fp _ ?_
      refine bt rfl ?_
      refine ws _ ?_
      exact a6 (k6 _ (j8 _ (fM _ (ed _ (eP _ (g1 _ (aI _ (.inl (a7 [.bool false] rfl (by cases a1 h; rfl) (by decide) bc)))))))))
     ·obtain ⟨aC, mM, h⟩ := aY h
      obtain ⟨aM, pz, h⟩ := aY h
      refine cX (cu [(0, .slice (a0.map bk)), (1, .int .i64 ah), (7, .int .i64 gr), (8, .int .i64 kV), (28, .bool (!aM))] (fun P aA => ?_) ?_)
      ·simp only [aQ.down, simprocAttr, kZ.down, fp, mM]
       refine iA (Xq aC ah _ pz) rfl rfl rfl rfl (.inl (by rfl)) ?_
       simp only [aQ.down, simprocAttr, kZ.down, fp, mM]
       (try simp only [bI.down, simprocAttr, bk, fp, mM] at aA ⊢); exact aA
      rcases bl h with ⟨lM, h⟩ | ⟨lM, h⟩
      ·refine bt (congrArg j.bool lM) ?_
       simp only [(eM lM), aL.down]
       refine ws _ ?_
       exact a6 (k6 _ (j8 _ (fM _ (ed _ (eP _ (g1 _ (aI _ (.inl (a7 [.bool false] rfl (by cases a1 h; rfl) (by decide) bc)))))))))
      ·refine bx (congrArg j.bool lM) ?_
       simp only [(du lM), aL.down]
       refine bF (lL _ (.inl ?_))
       obtain ⟨a8, hn, h⟩ := aY h
       refine Xe mM (Xr aC _ hn) _ ?_
       refine iO _ (gQ _ (.inl ?_))
       refine wr _ ?_
       exact dp _ (.inr ⟨_, cB rfl, k3 (IntKind.i64.wrap (gr + (IntKind.i64.wrap (a8 - 1)))) (IntKind.i64.wrap (kV + 1)) h⟩)
    ·refine bx (congrArg j.bool fL) ?_
     simp only [fL, aL.down]
     refine eL (eO 0 _ (dB 0 _ (dF _ (gv _ (.inl ?_)))))
     refine ws _ ?_
     exact a6 (aI _ (.inl (a7 [.bool (gr == 0)] rfl (by cases a1 h; rfl) (by decide) bc)))
  obtain ⟨n, h⟩ := eY h
  exact e4 (.inr ⟨_, cB rfl, k2 n 1 0 h⟩)
theorem rh (a0 : List (List a2)) (ah : Int) (r : Bool) (h : pe a0 ah = some r) : aX aN 289 [.slice (a0.map b3), .int .i64 ah] (.bool r) [] := by
 refine aX.cP (fx := [0, 1]) cV [.tmp 4] [(0, .slice (a0.map b3)), (1, .int .i64 ah)] Try.func289 rfl rfl OT (Nat.le_of_ble_eq_true rfl) rfl rfl (fun cR aI cN => ?_)
 refine ws _ ?_
 refine ba (fun fa cI bR aM => ?_)
 refine ws _ ?_
 refine cE (fun fo fN c3 bX bU => ?_)
 have hj : ∀ (n : Nat) (aS : Int), qX a0 ah n aS = some r → eA aN D0 fo (I [(0, .slice (a0.map b3)), (1, .int .i64 ah), (5, .int .i64 aS)]) := by
  intro dk
  induction dk with
  | zero => intro aS h; cases (show none = some r from h)
  | succ dk g6 =>
   intro aS h
   replace h : u6 (qX a0 ah dk) a0 ah aS = some r := h
   refine e5 (fun iP fY fm cF => ?_)
   refine ba (fun gG eQ e_ cw => ?_)
   refine ws _ ?_
   rcases bl h with ⟨bY, h⟩ | ⟨bY, h⟩
   ·refine bt (congrArg j.bool bY) ?_
    simp only [bY, aL.down]
    refine bF (eQ _ (.inl ?_))
    refine ba (fun g4 eF eP df => ?_)
    refine cE (fun fX dp ed dc dB => ?_)
    obtain ⟨aC, ej, h⟩ := aY h
    obtain ⟨aM, e2, h⟩ := aY h
    refine kY ej (zi aC ah 60 _ e2) _ ?_
    rcases bl h with ⟨dq, h⟩ | ⟨dq, h⟩
    ·refine bt (congrArg j.bool dq) ?_
     simp only [(eM dq), aL.down]
     refine ws _ ?_
     exact a6 (ed _ (eP _ (fm _ (c3 _ (bR _ (aI _ (.inl (a7 [.bool false] rfl (by cases a1 h; rfl) (by decide) bc))))))))
    ·refine bx (congrArg j.bool dq) ?_
     simp only [(du dq), aL.down]
     refine bF (dp _ (eF _ (.inl ?_)))
     refine wr _ ?_
     exact fY _ (.inr ⟨_, cB rfl, g6 (IntKind.i64.wrap (aS + 1)) h⟩)
   ·refine bx (congrArg j.bool bY) ?_
    simp only [bY, aL.down]
    refine eL (cw 0 _ (cF 0 _ (bX _ (cI _ (.inl ?_)))))
    refine ws _ ?_
    exact a6 (aI _ (.inl (a7 [.bool true] rfl (by cases a1 h; rfl) (by decide) bc)))
 obtain ⟨n, h⟩ := eY h
 exact e4 (.inr ⟨_, cB rfl, hj n 0 h⟩)
theorem zj (a0 : UInt8) (r : Bool) (h : sK a0 = some r) : aX aN 208 [.int .u8 (a0.toNat : Int)] (.bool r) [] := by
 refine aX.cP (fx := [0]) cV [.tmp 2] [(0, .int .u8 (a0.toNat : Int))] Try.func208 rfl rfl OW (Nat.le_of_ble_eq_true rfl) rfl rfl (fun cR aI cN => ?_)
 refine ws _ ?_
 refine cX (cu [(2, .bool ((decide (97 ≤ (a0.toNat : Int))) && (decide ((a0.toNat : Int) ≤ 122))))] (fun P aA => ?_) ?_)
 ·rcases Bool.eq_false_or_eq_true (decide (97 ≤ (a0.toNat : Int))) with ff | ff
  ·simp only [aQ.down, simprocAttr, ff]
   (try simp only [bI.down, simprocAttr, ff] at aA ⊢); exact aA
  ·simp only [aQ.down, simprocAttr, ff]
   (try simp only [bI.down, simprocAttr, ff] at aA ⊢); exact aA
 exact a6 (aI _ (.inl (a7 [.bool ((decide (97 ≤ (a0.toNat : Int))) && (decide ((a0.toNat : Int) ≤ 122)))] rfl (by cases a1 h; rfl) (by decide) bc)))
theorem Xs (a0 : UInt8) (r : Bool) (h : yU a0 = some r) : aX aN 209 [.int .u8 (a0.toNat : Int)] (.bool r) [] := by
 refine aX.cP (fx := [0]) cV [.tmp 2] [(0, .int .u8 (a0.toNat : Int))] Try.func209 rfl rfl OZ (Nat.le_of_ble_eq_true rfl) rfl rfl (fun cR aI cN => ?_)
 refine ws _ ?_
 refine cX (cu [(2, .bool ((decide (48 ≤ (a0.toNat : Int))) && (decide ((a0.toNat : Int) ≤ 57))))] (fun P aA => ?_) ?_)
 ·rcases Bool.eq_false_or_eq_true (decide (48 ≤ (a0.toNat : Int))) with ff | ff
  ·simp only [aQ.down, simprocAttr, ff]
   (try simp only [bI.down, simprocAttr, ff] at aA ⊢); exact aA
  ·simp only [aQ.down, simprocAttr, ff]
   (try simp only [bI.down, simprocAttr, ff] at aA ⊢); exact aA
 exact a6 (aI _ (.inl (a7 [.bool ((decide (48 ≤ (a0.toNat : Int))) && (decide ((a0.toNat : Int) ≤ 57)))] rfl (by cases a1 h; rfl) (by decide) bc)))
theorem EI (a0 : List UInt8) (r : Bool) (h : u9 a0 = some r) : aX aN 124 [.str a0] (.bool r) [] := by
 refine aX.cP (fx := [0]) cV [.tmp 2] [(0, .str a0)] Try.func124 rfl rfl Pb (Nat.le_of_ble_eq_true rfl) rfl rfl (fun cR aI cN => ?_)
 refine ws _ ?_
 refine ba (fun fa cI bR aM => ?_)
 rcases bl h with ⟨bX, h⟩ | ⟨bX, h⟩
 ·refine hX bX _ ?_
  refine bt rfl ?_
  refine ws _ ?_
  exact a6 (bR _ (aI _ (.inl (a7 [.bool false] rfl (by cases a1 h; rfl) (by decide) bc))))
 ·rcases bl h with ⟨dy, h⟩ | ⟨dy, h⟩
  ·refine hX (And.intro bX dy) _ ?_
   refine bt rfl ?_
   refine ws _ ?_
   exact a6 (bR _ (aI _ (.inl (a7 [.bool false] rfl (by cases a1 h; rfl) (by decide) bc))))
  ·obtain ⟨aC, kf, h⟩ := aY h
   obtain ⟨aM, hR, h⟩ := aY h
   refine cX (cu [(0, .str a0), (16, .bool (!aM))] (fun P aA => ?_) ?_)
   ·simp only [aQ.down, simprocAttr, fU, bX, dy, kf]
    refine iA (zj aC _ hR) rfl rfl rfl rfl (.inl (by rfl)) ?_
    simp only [aQ.down, simprocAttr, fU, bX, dy, kf]
    (try simp only [bI.down, simprocAttr, bX, dy, kf] at aA ⊢); exact aA
   rcases bl h with ⟨dc, h⟩ | ⟨dc, h⟩
   ·refine bt (congrArg j.bool dc) ?_
    simp only [(eM dc), aL.down]
    refine ws _ ?_
    exact a6 (bR _ (aI _ (.inl (a7 [.bool false] rfl (by cases a1 h; rfl) (by decide) bc))))
   ·refine bx (congrArg j.bool dc) ?_
    simp only [(du dc), aL.down]
    refine bF (cI _ (.inl ?_))
    refine ba (fun n7 i4 mN jG => ?_)
    refine ws _ ?_
    refine cE (fun kx gQ fM dq hM => ?_)
    have j9 : ∀ (n : Nat) (dZ : Int), qY a0 n dZ = some r → eA aN D1 kx (I [(0, .str a0), (3, .int .i64 dZ)]) := by
     intro fZ
     induction fZ with
     | zero => intro dZ h; cases (show none = some r from h)
     | succ fZ jM =>
      intro dZ h
      replace h : u7 (qY a0 fZ) a0 dZ = some r := h
      refine e5 (fun n5 iO j8 j7 => ?_)
      refine ba (fun py lL k6 lJ => ?_)
      refine ws _ ?_
      rcases bl h with ⟨fp, h⟩ | ⟨fp, h⟩
      ·refine bt (congrArg j.bool fp) ?_
       simp only [fp, aL.down]
       refine bF (lL _ (.inl ?_))
       refine ba (fun zk nn s8 wa => ?_)
       refine cE (fun EJ zl EK e6 Xt => ?_)
       obtain ⟨a8, hY, h⟩ := aY h
       obtain ⟨bU, jN, h⟩ := aY h
       rcases bl h with ⟨hC, h⟩ | ⟨hC, h⟩
       ·obtain ⟨cF, hn, h⟩ := aY h
        refine cX (cu [(0, .str a0), (3, .int .i64 dZ), (34, .bool (!cF))] (fun P aA => ?_) ?_)
        ·simp only [aQ.down, simprocAttr, fU, hY, (eM hC)]
         refine eb (zj a8 _ jN) rfl rfl rfl rfl (.inl (by rfl)) ?_
         simp only [aQ.down, simprocAttr, fU, hY, (eM hC)]
         refine iA (Xs a8 _ hn) rfl rfl rfl rfl (.inl (by rfl)) ?_
         simp only [aQ.down, simprocAttr, fU, hY, (eM hC)]
         (try simp only [bI.down, simprocAttr, hY, (eM hC)] at aA ⊢); exact aA
        rcases bl h with ⟨hk, h⟩ | ⟨hk, h⟩
        ·refine bt (congrArg j.bool hk) ?_
         simp only [(eM hk), aL.down]
         refine ws _ ?_
         exact a6 (EK _ (s8 _ (j8 _ (fM _ (mN _ (aI _ (.inl (a7 [.bool false] rfl (by cases a1 h; rfl) (by decide) bc))))))))
        ·refine bx (congrArg j.bool hk) ?_
         simp only [(du hk), aL.down]
         refine bF (zl _ (nn _ (.inl ?_)))
         refine wr _ ?_
         exact iO _ (.inr ⟨_, cB rfl, jM (IntKind.i64.wrap (dZ + 1)) h⟩)
       ·refine kY (And.intro hY (du hC)) (zj a8 _ jN) _ ?_
        refine bx rfl ?_
        refine bF (zl _ (nn _ (.inl ?_)))
        refine wr _ ?_
        exact iO _ (.inr ⟨_, cB rfl, jM (IntKind.i64.wrap (dZ + 1)) h⟩)
      ·refine bx (congrArg j.bool fp) ?_
       simp only [fp, aL.down]
       refine eL (lJ 0 _ (j7 0 _ (dq _ (i4 _ (.inl ?_)))))
       refine ws _ ?_
       exact a6 (aI _ (.inl (a7 [.bool true] rfl (by cases a1 h; rfl) (by decide) bc)))
    obtain ⟨n, h⟩ := eY h
    exact e4 (.inr ⟨_, cB rfl, j9 n 0 h⟩)
theorem EL (a0 : List UInt8) (r : Bool) (h : u_ a0 = some r) : aX aN 288 [.str a0] (.bool r) [] := by
 refine aX.cP (fx := [0]) cV [.tmp 2] [(0, .str a0)] Try.func288 rfl rfl Pe (Nat.le_of_ble_eq_true rfl) rfl rfl (fun cR aI cN => ?_)
 refine ws _ ?_
 obtain ⟨aC, bb, h⟩ := aY h
 refine cX (cu [(2, .bool (aC && (!(a0 == ([116, 97, 117] : List UInt8)))))] (fun P aA => ?_) ?_)
 ·rcases Bool.eq_false_or_eq_true (aC) with jz | jz
  ·simp only [aQ.down, simprocAttr, jz]
   refine eb (EI a0 _ bb) rfl rfl rfl rfl (.inl (by rfl)) ?_
   simp only [aQ.down, simprocAttr, jz]
   (try simp only [bI.down, simprocAttr, jz] at aA ⊢); exact aA
  ·simp only [aQ.down, simprocAttr, jz]
   refine eb (EI a0 _ bb) rfl rfl rfl rfl (.inl (by rfl)) ?_
   simp only [aQ.down, simprocAttr, jz]
   (try simp only [bI.down, simprocAttr, jz] at aA ⊢); exact aA
 exact a6 (aI _ (.inl (a7 [.bool (aC && (!(a0 == ([116, 97, 117] : List UInt8))))] rfl (by cases a1 h; rfl) (by decide) bc)))
theorem Xu (a0 : bu) (ah : Int) (r : Bool) (h : va a0 ah = some r) : aX aN 232 [.ref (cA a0), .int .i64 ah] (.bool r) [] := by
 refine aX.cP (fx := [0, 1]) cV [.tmp 4] [(0, .ref (cA a0)), (1, .int .i64 ah)] Try.func232 rfl rfl Ps (Nat.le_of_ble_eq_true rfl) rfl rfl (fun cR aI cN => ?_)
 refine ws _ ?_
 refine ba (fun fa cI bR aM => ?_)
 obtain ⟨aC, cn, h⟩ := aY h
 refine fc (Xo a0.bz _ cn) _ ?_
 rcases bl h with ⟨cl, h⟩ | ⟨cl, h⟩
 ·refine bt (congrArg j.bool cl) ?_
  simp only [cl, aL.down]
  refine ws _ ?_
  exact a6 (bR _ (aI _ (.inl (a7 [.bool false] rfl (by cases a1 h; rfl) (by decide) bc))))
 ·refine bx (congrArg j.bool cl) ?_
  simp only [cl, aL.down]
  refine bF (cI _ (.inl ?_))
  refine ws _ ?_
  refine ba (fun im gS gL eE => ?_)
  obtain ⟨aM, ld, h⟩ := aY h
  refine cX (cu [(0, .ref (cA a0)), (5, .int .i64 (IntKind.i64.wrap (ah + (a0.bz.length : Int)))), (34, .bool ((!aM) || ((a0.Next.length : Int) != ah)))] (fun P aA => ?_) ?_)
  ·rcases Bool.eq_false_or_eq_true (aM) with pA | pA
   ·simp only [aQ.down, simprocAttr, fj.down, pA]
    refine eb (zi a0.Guard (IntKind.i64.wrap (ah + (a0.bz.length : Int))) 60 _ ld) rfl rfl rfl rfl (.inl (by rfl)) ?_
    simp only [aQ.down, simprocAttr, fj.down, pA]
    (try simp only [bI.down, simprocAttr, jH.down, pA] at aA ⊢); exact aA
   ·simp only [aQ.down, simprocAttr, fj.down, pA]
    refine eb (zi a0.Guard (IntKind.i64.wrap (ah + (a0.bz.length : Int))) 60 _ ld) rfl rfl rfl rfl (.inl (by rfl)) ?_
    simp only [aQ.down, simprocAttr, fj.down, pA]
    (try simp only [bI.down, simprocAttr, jH.down, pA] at aA ⊢); exact aA
  rcases bl h with ⟨c4, h⟩ | ⟨c4, h⟩
  ·refine bt (congrArg j.bool c4) ?_
   simp only [c4, aL.down]
   refine ws _ ?_
   exact a6 (gL _ (aI _ (.inl (a7 [.bool false] rfl (by cases a1 h; rfl) (by decide) bc))))
  ·refine bx (congrArg j.bool c4) ?_
   simp only [c4, aL.down]
   refine bF (gS _ (.inl ?_))
   refine ba (fun kx gQ fM hM => ?_)
   rcases bl h with ⟨iQ, h⟩ | ⟨iQ, h⟩
   ·rcases bl h with ⟨ee, h⟩ | ⟨ee, h⟩
    ·refine hX (And.intro iQ ee) _ ?_
     refine bt rfl ?_
     refine ws _ ?_
     exact a6 (fM _ (aI _ (.inl (a7 [.bool false] rfl (by cases a1 h; rfl) (by decide) bc))))
    ·refine hX (And.intro iQ ee) _ ?_
     rcases bl h with ⟨gi, h⟩ | ⟨gi, h⟩
     ·refine bt (congrArg j.bool gi) ?_
      simp only [gi, aL.down]
      refine ws _ ?_
      exact a6 (fM _ (aI _ (.inl (a7 [.bool false] rfl (by cases a1 h; rfl) (by decide) bc))))
     ·refine bx (congrArg j.bool gi) ?_
      simp only [gi, aL.down]
      refine bF (gQ _ (.inl ?_))
      obtain ⟨a8, hY, h⟩ := aY h
      rcases bl h with ⟨iD, h⟩ | ⟨iD, h⟩
      ·obtain ⟨bU, mO, h⟩ := aY h
       refine cX (cu [(4, .bool bU)] (fun P aA => ?_) ?_)
       ·simp only [aQ.down, simprocAttr, fj.down, iD]
        refine eb (rh a0.bK (IntKind.i64.wrap (ah + (a0.bz.length : Int))) _ hY) rfl rfl rfl rfl (.inl (by rfl)) ?_
        simp only [aQ.down, simprocAttr, fj.down, iD]
        refine iA (rh a0.Next (IntKind.i64.wrap (ah + (a0.bz.length : Int))) _ mO) rfl rfl rfl rfl (.inl (by rfl)) ?_
        simp only [aQ.down, simprocAttr, fj.down, iD]
        (try simp only [bI.down, simprocAttr, jH.down, iD] at aA ⊢); exact aA
       exact a6 (aI _ (.inl (a7 [.bool bU] rfl (by cases a1 h; rfl) (by decide) bc)))
      ·refine kY iD (rh a0.bK (IntKind.i64.wrap (ah + (a0.bz.length : Int))) _ hY) _ ?_
       exact a6 (aI _ (.inl (a7 [.bool false] rfl (by cases a1 h; rfl) (by decide) bc)))
   ·obtain ⟨cF, hn, h⟩ := aY h
    rcases bl h with ⟨hk, h⟩ | ⟨hk, h⟩
    ·refine cX (cu [(0, .ref (cA a0)), (5, .int .i64 (IntKind.i64.wrap (ah + (a0.bz.length : Int)))), (70, .bool true)] (fun P aA => ?_) ?_)
     ·simp only [aQ.down, simprocAttr, fj.down, iQ, (eM hk)]
      refine iA (EL a0.Name _ hn) rfl rfl rfl rfl (.inl (by rfl)) ?_
      simp only [aQ.down, simprocAttr, fj.down, iQ, (eM hk)]
      (try simp only [bI.down, simprocAttr, jH.down, iQ, (eM hk)] at aA ⊢); exact aA
     refine bt rfl ?_
     refine ws _ ?_
     exact a6 (fM _ (aI _ (.inl (a7 [.bool false] rfl (by cases a1 h; rfl) (by decide) bc))))
    ·refine cX (cu [(0, .ref (cA a0)), (5, .int .i64 (IntKind.i64.wrap (ah + (a0.bz.length : Int)))), (70, .bool (decide (2 < (a0.bK.length : Int))))] (fun P aA => ?_) ?_)
     ·simp only [aQ.down, simprocAttr, fj.down, iQ, (du hk)]
      refine iA (EL a0.Name _ hn) rfl rfl rfl rfl (.inl (by rfl)) ?_
      simp only [aQ.down, simprocAttr, fj.down, iQ, (du hk)]
      (try simp only [bI.down, simprocAttr, jH.down, iQ, (du hk)] at aA ⊢); exact aA
     rcases bl h with ⟨ri, h⟩ | ⟨ri, h⟩
     ·refine bt (congrArg j.bool ri) ?_
      simp only [ri, aL.down]
      refine ws _ ?_
      exact a6 (fM _ (aI _ (.inl (a7 [.bool false] rfl (by cases a1 h; rfl) (by decide) bc))))
     ·refine bx (congrArg j.bool ri) ?_
      simp only [ri, aL.down]
      refine bF (gQ _ (.inl ?_))
      obtain ⟨cw, mP, h⟩ := aY h
      rcases bl h with ⟨rj, h⟩ | ⟨rj, h⟩
      ·obtain ⟨c0, pB, h⟩ := aY h
       refine cX (cu [(4, .bool c0)] (fun P aA => ?_) ?_)
       ·simp only [aQ.down, simprocAttr, fj.down, rj]
        refine eb (rh a0.bK (IntKind.i64.wrap (ah + (a0.bz.length : Int))) _ mP) rfl rfl rfl rfl (.inl (by rfl)) ?_
        simp only [aQ.down, simprocAttr, fj.down, rj]
        refine iA (rh a0.Next (IntKind.i64.wrap (ah + (a0.bz.length : Int))) _ pB) rfl rfl rfl rfl (.inl (by rfl)) ?_
        simp only [aQ.down, simprocAttr, fj.down, rj]
        (try simp only [bI.down, simprocAttr, jH.down, rj] at aA ⊢); exact aA
       exact a6 (aI _ (.inl (a7 [.bool c0] rfl (by cases a1 h; rfl) (by decide) bc)))
      ·refine kY rj (rh a0.bK (IntKind.i64.wrap (ah + (a0.bz.length : Int))) _ mP) _ ?_
       exact a6 (aI _ (.inl (a7 [.bool false] rfl (by cases a1 h; rfl) (by decide) bc)))
theorem Xv (a0 : dM) (r : Bool) (h : vc a0 = some r) : aX aN 153 [.ref (ev a0)] (.bool r) [] := by
 refine aX.cP (fx := [0]) cV [.tmp 2] [(0, .ref (ev a0))] Try.func153 rfl rfl PF (Nat.le_of_ble_eq_true rfl) rfl rfl (fun cR aI cN => ?_)
 refine ws _ ?_
 refine ba (fun fa cI bR aM => ?_)
 obtain ⟨aC, cn, h⟩ := aY h
 rcases bl h with ⟨cl, h⟩ | ⟨cl, h⟩
 ·refine lz rfl (lA [(0, .ref (ev a0)), (29, .bool true)] (fun P aA => ?_) ?_)
  ·simp only [g2.down, simprocAttr, ik.down, (eM cl)]
   refine mI (n8 a0.dK 0 21 _ cn) rfl rfl rfl rfl (.inl (by rfl)) ?_
   simp only [g2.down, simprocAttr, ik.down, (eM cl)]
   refine ⟨kT (by kernel_rfl), ?_⟩
   (try simp only [bI.down, simprocAttr, ml.down, (eM cl)] at aA ⊢); exact aA
  refine bt rfl ?_
  refine ws _ ?_
  exact a6 (bR _ (aI _ (.inl (a7 [.bool false] rfl (by cases a1 h; rfl) (by decide) bc))))
 ·obtain ⟨aM, bS, h⟩ := aY h
  refine lz rfl (lA [(0, .ref (ev a0)), (29, .bool ((!aM) || (decide (60 < (a0.cG.length : Int)))))] (fun P aA => ?_) ?_)
  ·rcases Bool.eq_false_or_eq_true (aM) with iR | iR
   ·simp only [g2.down, simprocAttr, ik.down, (du cl), iR]
    refine mI (n8 a0.dK 0 21 _ cn) rfl rfl rfl rfl (.inl (by rfl)) ?_
    simp only [g2.down, simprocAttr, ik.down, (du cl), iR]
    refine CC (EF a0.Start a0.dK _ bS) rfl rfl rfl rfl (.inl (by rfl)) ?_
    simp only [g2.down, simprocAttr, ik.down, (du cl), iR]
    refine ⟨kT (by kernel_rfl), ?_⟩
    (try simp only [bI.down, simprocAttr, ml.down, (du cl), iR] at aA ⊢); exact aA
   ·simp only [g2.down, simprocAttr, ik.down, (du cl), iR]
    refine mI (n8 a0.dK 0 21 _ cn) rfl rfl rfl rfl (.inl (by rfl)) ?_
    simp only [g2.down, simprocAttr, ik.down, (du cl), iR]
    refine CC (EF a0.Start a0.dK _ bS) rfl rfl rfl rfl (.inl (by rfl)) ?_
    simp only [g2.down, simprocAttr, ik.down, (du cl), iR]
    refine ⟨kT (by kernel_rfl), ?_⟩
    (try simp only [bI.down, simprocAttr, ml.down, (du cl), iR] at aA ⊢); exact aA
  rcases bl h with ⟨dF, h⟩ | ⟨dF, h⟩
  ·refine bt (congrArg j.bool dF) ?_
   simp only [dF, aL.down]
   refine ws _ ?_
   exact a6 (bR _ (aI _ (.inl (a7 [.bool false] rfl (by cases a1 h; rfl) (by decide) bc))))
  ·refine bx (congrArg j.bool dF) ?_
   simp only [dF, aL.down]
   refine bF (cI _ (.inl ?_))
   refine ba (fun kv gP jq eO => ?_)
   refine ws _ ?_
   refine cE (fun np jO ky fL kq => ?_)
   have j9 : ∀ (n : Nat) (dZ : Int), qZ a0 n dZ = some r → eA aN D2 np (I [(0, .ref (ev a0)), (3, .int .i64 dZ)]) := by
    intro fZ
    induction fZ with
    | zero => intro dZ h; cases (show none = some r from h)
    | succ fZ jM =>
     intro dZ h
     replace h : vb (qZ a0 fZ) a0 dZ = some r := h
     refine e5 (fun kx gQ fM hM => ?_)
     refine ba (fun n5 iO j8 j7 => ?_)
     refine ws _ ?_
     rcases bl h with ⟨ee, h⟩ | ⟨ee, h⟩
     ·refine bt (congrArg j.bool ee) ?_
      simp only [ee, aL.down]
      refine bF (iO _ (.inl ?_))
      refine ba (fun aaN Xw Xx aaO => ?_)
      refine cE (fun zk nn s8 gi wa => ?_)
      obtain ⟨a8, pz, h⟩ := aY h
      obtain ⟨bU, hY, h⟩ := aY h
      refine lz rfl (lA [(0, .ref (ev a0)), (3, .int .i64 dZ), (50, .bool (!bU))] (fun P aA => ?_) ?_)
      ·simp only [g2.down, simprocAttr, ik.down, pz]
       refine mI (Xu a8 a0.dK _ hY) rfl rfl rfl rfl (.inl (by rfl)) ?_
       simp only [g2.down, simprocAttr, ik.down, pz]
       refine ⟨kT (by kernel_rfl), ?_⟩
       (try simp only [bI.down, simprocAttr, ml.down, pz] at aA ⊢); exact aA
      rcases bl h with ⟨iD, h⟩ | ⟨iD, h⟩
      ·refine bt (congrArg j.bool iD) ?_
       simp only [(eM iD), aL.down]
       refine ws _ ?_
       exact a6 (s8 _ (Xx _ (fM _ (ky _ (jq _ (aI _ (.inl (a7 [.bool false] rfl (by cases a1 h; rfl) (by decide) bc))))))))
      ·refine bx (congrArg j.bool iD) ?_
       simp only [(du iD), aL.down]
       refine bF (nn _ (Xw _ (.inl ?_)))
       refine wr _ ?_
       exact gQ _ (.inr ⟨_, cB rfl, jM (IntKind.i64.wrap (dZ + 1)) h⟩)
     ·refine bx (congrArg j.bool ee) ?_
      simp only [ee, aL.down]
      refine eL (j7 0 _ (hM 0 _ (fL _ (gP _ (.inl ?_)))))
      refine ws _ ?_
      exact a6 (aI _ (.inl (a7 [.bool true] rfl (by cases a1 h; rfl) (by decide) bc)))
   obtain ⟨n, h⟩ := eY h
   exact e4 (.inr ⟨_, cB rfl, j9 n 0 h⟩)
theorem Xy (a0 : List (List UInt8)) (ah : List UInt8) (r : Int) (h : ve a0 ah = some r) : aX aN 258 [.slice (a0.map aR), .str ah] (.int .i64 r) [] := by
 refine aX.cP (fx := [0, 1]) cV [.tmp 4] [(0, .slice (a0.map aR)), (1, .str ah)] Try.func258 rfl rfl PQ (Nat.le_of_ble_eq_true rfl) rfl rfl (fun cR aI cN => ?_)
 refine ws _ ?_
 refine ba (fun fa cI bR aM => ?_)
 refine ws _ ?_
 refine cE (fun fo fN c3 bX bU => ?_)
 have hj : ∀ (n : Nat) (aS : Int), q0 a0 ah n aS = some r → eA aN D3 fo (I [(0, .slice (a0.map aR)), (1, .str ah), (5, .int .i64 aS)]) := by
  intro dk
  induction dk with
  | zero => intro aS h; cases (show none = some r from h)
  | succ dk g6 =>
   intro aS h
   replace h : vd (q0 a0 ah dk) a0 ah aS = some r := h
   refine e5 (fun iP fY fm cF => ?_)
   refine ba (fun gG eQ e_ cw => ?_)
   refine ws _ ?_
   rcases bl h with ⟨bY, h⟩ | ⟨bY, h⟩
   ·refine bt (congrArg j.bool bY) ?_
    simp only [bY, aL.down]
    refine bF (eQ _ (.inl ?_))
    refine ba (fun g4 eF eP df => ?_)
    refine cE (fun fX dp ed dc dB => ?_)
    obtain ⟨aC, ej, h⟩ := aY h
    refine hX ej _ ?_
    rcases bl h with ⟨fL, h⟩ | ⟨fL, h⟩
    ·refine bt (congrArg j.bool fL) ?_
     simp only [fL, aL.down]
     refine ws _ ?_
     exact a6 (ed _ (eP _ (fm _ (c3 _ (bR _ (aI _ (.inl (a7 [.int .i64 aS] rfl (by cases a1 h; rfl) (by decide) bc))))))))
    ·refine bx (congrArg j.bool fL) ?_
     simp only [fL, aL.down]
     refine bF (dp _ (eF _ (.inl ?_)))
     refine wr _ ?_
     exact fY _ (.inr ⟨_, cB rfl, g6 (IntKind.i64.wrap (aS + 1)) h⟩)
   ·refine bx (congrArg j.bool bY) ?_
    simp only [bY, aL.down]
    refine eL (cw 0 _ (cF 0 _ (bX _ (cI _ (.inl ?_)))))
    refine ws _ ?_
    exact a6 (aI _ (.inl (a7 [.int .i64 (-1)] rfl (by cases a1 h; rfl) (by decide) bc)))
 obtain ⟨n, h⟩ := eY h
 exact e4 (.inr ⟨_, cB rfl, hj n 0 h⟩)
theorem Xz (a0 : List (List UInt8)) (r : (List (List UInt8))) (h : vh a0 = some r) : aX aN 177 [.slice (a0.map aR)] (.ay 1 (r.map aR)) [] := by
 refine aX.cP (fx := [0]) cV [.tmp 2] [(0, .slice (a0.map aR))] Try.func177 rfl rfl P_ (Nat.le_of_ble_eq_true rfl) rfl rfl (fun cR aI cN => ?_)
 refine ws _ ?_
 refine hX (show ∀ s, c_ aN s 100 1 [(0, .str ([116, 97, 117] : List UInt8))] = some (.ay 1 [.str ([116, 97, 117] : List UInt8)], s) from fun s => by kernel_rfl) _ ?_
 refine ba (fun px jK gg a8 => ?_)
 refine ws _ ?_
 refine cE (fun iP fY fm cl cF => ?_)
 have k4 : ∀ (n : Nat) (bV : List (List UInt8)) (cg : Int), jo a0 n bV cg = some r → eA aN D6 iP (I [(0, .slice (a0.map aR)), (3, .ay 1 (bV.map aR)), (4, .int .i64 cg)]) := by
  intro ez
  induction ez with
  | zero => intro bV cg h; cases (show none = some r from h)
  | succ ez k5 =>
   intro bV cg h
   replace h : vg (jo a0 ez) a0 bV cg = some r := h
   refine e5 (fun gG eQ e_ cw => ?_)
   refine ba (fun ku gv g1 c0 => ?_)
   refine ws _ ?_
   rcases bl h with ⟨dF, h⟩ | ⟨dF, h⟩
   ·refine bt (congrArg j.bool dF) ?_
    simp only [dF, aL.down]
    refine bF (gv _ (.inl ?_))
    have zm : ∀ (q1 : List (List UInt8)) (q2 : Int), sL (jo a0 ez) a0 q1 q2 = some r → db aN D5 gG (I [(0, .slice (a0.map aR)), (3, .ay 1 (q1.map aR)), (4, .int .i64 q2)]) := by
     intro q1 q2 h
     refine wr _ ?_
     exact eQ _ (.inr ⟨_, cB rfl, k5 q1 (IntKind.i64.wrap (q2 + 1)) h⟩)
    refine ba (fun fX dp ed dB => ?_)
    refine cE (fun n7 i4 mN c4 jG => ?_)
    refine ba (fun np jO ky kq => ?_)
    obtain ⟨aC, fk, h⟩ := aY h
    obtain ⟨aM, dN, h⟩ := aY h
    refine cX (cu [(0, .slice (a0.map aR)), (3, .ay 1 (bV.map aR)), (4, .int .i64 cg), (20, .bool (decide (0 ≤ aM)))] (fun P aA => ?_) ?_)
    ·simp only [aQ.down, simprocAttr, jI.down, fk]
     refine eb (Xy bV aC _ dN) rfl rfl (by simp only [aQ.down, simprocAttr, jI.down, fk, gn, gp, gq, dE, @cm _ aR aR (fun _ => iB _)] <;> rfl) rfl (.inr (by rfl)) ?_
     simp only [aQ.down, simprocAttr, jI.down, fk]
     (try simp only [bI.down, simprocAttr, aR, fk] at aA ⊢); exact aA
    rcases bl h with ⟨ee, h⟩ | ⟨ee, h⟩
    ·refine bt (congrArg j.bool ee) ?_
     simp only [ee, aL.down]
     exact eL (kq 1 _ (c4 _ (dp _ (.inr ⟨_, cB rfl, zm bV cg h⟩))))
    ·refine bx (congrArg j.bool ee) ?_
     simp only [ee, aL.down]
     refine bF (jO _ (.inl ?_))
     refine ws _ ?_
     refine ba (fun zk nn s8 wa => ?_)
     refine cE (fun EJ zl EK e6 Xt => ?_)
     have XA : ∀ (n : Nat) (gh : List (List UInt8)) (ie : Int) (hU : Int), nV (jo a0 ez) a0 n gh ie hU = some r → eA aN D4 EJ (I [(0, .slice (a0.map aR)), (3, .ay 1 (gh.map aR)), (4, .int .i64 ie), (5, .int .i64 hU)]) := by
      intro zn
      induction zn with
      | zero => intro gh ie hU h; cases (show none = some r from h)
      | succ zn XB =>
       intro gh ie hU h
       replace h : vf (jo a0 ez) (nV (jo a0 ez) a0 zn) a0 gh ie hU = some r := h
       refine e5 (fun v8 nm n6 rb => ?_)
       refine ba (fun EM s9 s_ wb => ?_)
       rcases bl h with ⟨hC, h⟩ | ⟨hC, h⟩
       ·obtain ⟨a8, hn, h⟩ := aY h
        obtain ⟨bU, re, h⟩ := aY h
        refine lz rfl (lA [(0, .slice (a0.map aR)), (3, .ay 1 (gh.map aR)), (4, .int .i64 ie), (5, .int .i64 hU), (35, .bool (Op.bytesLess a8 bU))] (fun P aA => ?_) ?_)
        ·simp only [g2.down, simprocAttr, jI.down, hC, hn, dg hn, re]
         refine ⟨kT (by kernel_rfl), ?_⟩
         (try simp only [bI.down, simprocAttr, aR, hC, hn, dg hn, re] at aA ⊢); exact aA
        rcases bl h with ⟨jr, h⟩ | ⟨jr, h⟩
        ·refine bt (congrArg j.bool jr) ?_
         simp only [jr, aL.down]
         refine bF (s9 _ (.inl ?_))
         refine cE (fun XC zo XD ri XE => ?_)
         refine wr _ ?_
         exact zo _ (nm _ (.inr ⟨_, cB rfl, XB gh ie (IntKind.i64.wrap (hU + 1)) h⟩))
        ·refine bx (congrArg j.bool jr) ?_
         simp only [jr, aL.down]
         refine eL (wb 2 _ (rb 2 _ (e6 _ (nn _ (.inl ?_)))))
         obtain ⟨aaP, mP, h⟩ := aY h
         (try simp only [List.length_append, List.length_cons, List.length_nil, List.length_map, List.length_replicate, Nat.zero_add, Nat.add_zero, Nat.reduceAdd] at mP)
         refine cX (cu [(0, .slice (a0.map aR)), (3, .ay 1 ((gh ++ [([] : List UInt8)]).map aR)), (4, .int .i64 ie), (5, .int .i64 hU)] (fun P aA => ?_) ?_)
         ·simp only [aQ.down, simprocAttr, jI.down, (show ∀ s, c_ aN s 100 1 [(0, .str ([] : List UInt8))] = some (.ay 1 [.str ([] : List UInt8)], s) from fun s => by kernel_rfl), @kM aN 100 100 9 rfl rfl, kN, kO, kP, all_cons, all_nil, mP, @kL _ aR 1 (fun _ => rfl)]
          (try simp only [bI.down, simprocAttr, aR, (show ∀ s, c_ aN s 100 1 [(0, .str ([] : List UInt8))] = some (.ay 1 [.str ([] : List UInt8)], s) from fun s => by kernel_rfl), @kM aN 100 100 9 rfl rfl, kN, kO, kP, all_cons, all_nil, mP, @kL _ aR 1 (fun _ => rfl)] at aA ⊢); exact aA
         refine ba (fun aaQ n32 aaR aaS => ?_)
         refine ws [(0, .slice (a0.map aR)), (3, .ay 1 ((gh ++ [([] : List UInt8)]).map aR)), (4, .int .i64 ie), (5, .int .i64 hU), (6, .int .i64 (IntKind.i64.wrap (((gh ++ [([] : List UInt8)]).length : Int) - 1)))] ?_
         refine cE (fun XF n34 aaT XG aaU => ?_)
         have zp : ∀ (n : Nat) (gu : List (List UInt8)) (gO : Int) (gE : Int) (fW : Int), mh (jo a0 ez) a0 n gu gO gE fW = some r → eA aN zf XF (I [(0, .slice (a0.map aR)), (3, .ay 1 (gu.map aR)), (4, .int .i64 gO), (5, .int .i64 gE), (6, .int .i64 fW)]) := by
          intro pC
          induction pC with
          | zero => intro gu gO gE fW h; cases (show none = some r from h)
          | succ pC zq =>
           intro gu gO gE fW h
           replace h : sM (jo a0 ez) (mh (jo a0 ez) a0 pC) a0 gu gO gE fW = some r := h
           refine e5 (fun aaV n35 aaW XH => ?_)
           refine ba (fun aaX n36 aaY XI => ?_)
           refine ws _ ?_
           rcases bl h with ⟨ta, h⟩ | ⟨ta, h⟩
           ·refine bt (congrArg j.bool ta) ?_
            simp only [ta, aL.down]
            refine bF (n36 _ (.inl ?_))
            refine ba (fun aaZ n39 aa0 aa1 => ?_)
            refine cE (fun aa2 n40 aa3 aa4 aa5 => ?_)
            obtain ⟨cF, wc, h⟩ := aY h
            obtain ⟨cw, we, h⟩ := aY h
            refine i1 (cu [(0, .slice (a0.map aR)), (3, .ay 1 ((List.set gu (Int.toNat fW) cF).map aR)), (4, .int .i64 gO), (5, .int .i64 gE), (6, .int .i64 fW)] (fun P aA => ?_) ?_)
            ·simp only [aQ.down, simprocAttr, jI.down, wc, dg wc, we, dg we, fT, eW]
             (try simp only [bI.down, simprocAttr, aR, wc, dg wc, we, dg we, fT, eW] at aA ⊢); exact aA
            refine n40 _ (n39 _ (.inl ?_))
            refine wr [(0, .slice (a0.map aR)), (3, .ay 1 ((List.set gu (Int.toNat fW) cF).map aR)), (4, .int .i64 gO), (5, .int .i64 gE), (6, .int .i64 (IntKind.i64.wrap (fW - 1)))] ?_
            exact n35 _ (.inr ⟨_, cB rfl, zq (List.set gu (Int.toNat fW) cF) gO gE (IntKind.i64.wrap (fW - 1)) h⟩)
           ·refine bx (congrArg j.bool ta) ?_
            simp only [ta, aL.down]
            refine eL (XI 4 _ (XH 4 _ (XG _ (n32 _ (.inl ?_)))))
            obtain ⟨c0, EN, h⟩ := aY h
            obtain ⟨eE, wg, h⟩ := aY h
            refine i1 (cu [(0, .slice (a0.map aR)), (3, .ay 1 ((List.set gu (Int.toNat gE) c0).map aR)), (4, .int .i64 gO)] (fun P aA => ?_) ?_)
            ·simp only [aQ.down, simprocAttr, jI.down, EN, wg, dg wg, fT, eW]
             (try simp only [bI.down, simprocAttr, aR, EN, wg, dg wg, fT, eW] at aA ⊢); exact aA
            exact i4 _ (dp _ (.inr ⟨_, cB rfl, zm (List.set gu (Int.toNat gE) c0) gO h⟩))
         obtain ⟨n, h⟩ := eY h
         exact e4 (.inr ⟨_, cB rfl, zp n (gh ++ [([] : List UInt8)]) ie hU (IntKind.i64.wrap (((gh ++ [([] : List UInt8)]).length : Int) - 1)) h⟩)
       ·refine lz rfl (lA [(0, .slice (a0.map aR)), (3, .ay 1 (gh.map aR)), (4, .int .i64 ie), (5, .int .i64 hU), (35, .bool false)] (fun P aA => ?_) ?_)
        ·simp only [g2.down, simprocAttr, jI.down, hC]
         refine ⟨kT (by kernel_rfl), ?_⟩
         (try simp only [bI.down, simprocAttr, aR, hC] at aA ⊢); exact aA
        refine bx rfl ?_
        refine eL (wb 2 _ (rb 2 _ (e6 _ (nn _ (.inl ?_)))))
        obtain ⟨aa6, zr, h⟩ := aY h
        (try simp only [List.length_append, List.length_cons, List.length_nil, List.length_map, List.length_replicate, Nat.zero_add, Nat.add_zero, Nat.reduceAdd] at zr)
        refine cX (cu [(0, .slice (a0.map aR)), (3, .ay 1 ((gh ++ [([] : List UInt8)]).map aR)), (4, .int .i64 ie), (5, .int .i64 hU)] (fun P aA => ?_) ?_)
        ·simp only [aQ.down, simprocAttr, jI.down, (show ∀ s, c_ aN s 100 1 [(0, .str ([] : List UInt8))] = some (.ay 1 [.str ([] : List UInt8)], s) from fun s => by kernel_rfl), @kM aN 100 100 9 rfl rfl, kN, kO, kP, all_cons, all_nil, zr, @kL _ aR 1 (fun _ => rfl)]
         (try simp only [bI.down, simprocAttr, aR, (show ∀ s, c_ aN s 100 1 [(0, .str ([] : List UInt8))] = some (.ay 1 [.str ([] : List UInt8)], s) from fun s => by kernel_rfl), @kM aN 100 100 9 rfl rfl, kN, kO, kP, all_cons, all_nil, zr, @kL _ aR 1 (fun _ => rfl)] at aA ⊢); exact aA
        refine ba (fun aa7 XJ aa8 aa9 => ?_)
        refine ws [(0, .slice (a0.map aR)), (3, .ay 1 ((gh ++ [([] : List UInt8)]).map aR)), (4, .int .i64 ie), (5, .int .i64 hU), (6, .int .i64 (IntKind.i64.wrap (((gh ++ [([] : List UInt8)]).length : Int) - 1)))] ?_
        refine cE (fun XK n52 aa_ XL aba => ?_)
        have zp : ∀ (n : Nat) (gu : List (List UInt8)) (gO : Int) (gE : Int) (fW : Int), mh (jo a0 ez) a0 n gu gO gE fW = some r → eA aN zf XK (I [(0, .slice (a0.map aR)), (3, .ay 1 (gu.map aR)), (4, .int .i64 gO), (5, .int .i64 gE), (6, .int .i64 fW)]) := by
         intro pC
         induction pC with
         | zero => intro gu gO gE fW h; cases (show none = some r from h)
         | succ pC zq =>
          intro gu gO gE fW h
          replace h : sM (jo a0 ez) (mh (jo a0 ez) a0 pC) a0 gu gO gE fW = some r := h
          refine e5 (fun abb n53 abc XM => ?_)
          refine ba (fun abd n54 abe XN => ?_)
          refine ws _ ?_
          rcases bl h with ⟨tb, h⟩ | ⟨tb, h⟩
          ·refine bt (congrArg j.bool tb) ?_
           simp only [tb, aL.down]
           refine bF (n54 _ (.inl ?_))
           refine ba (fun abf XO abg abh => ?_)
           refine cE (fun abj XP abk abl abm => ?_)
           obtain ⟨df, wh, h⟩ := aY h
           obtain ⟨dB, wi, h⟩ := aY h
           refine i1 (cu [(0, .slice (a0.map aR)), (3, .ay 1 ((List.set gu (Int.toNat fW) df).map aR)), (4, .int .i64 gO), (5, .int .i64 gE), (6, .int .i64 fW)] (fun P aA => ?_) ?_)
           ·simp only [aQ.down, simprocAttr, jI.down, wh, dg wh, wi, dg wi, fT, eW]
            (try simp only [bI.down, simprocAttr, aR, wh, dg wh, wi, dg wi, fT, eW] at aA ⊢); exact aA
           refine XP _ (XO _ (.inl ?_))
           refine wr [(0, .slice (a0.map aR)), (3, .ay 1 ((List.set gu (Int.toNat fW) df).map aR)), (4, .int .i64 gO), (5, .int .i64 gE), (6, .int .i64 (IntKind.i64.wrap (fW - 1)))] ?_
           exact n53 _ (.inr ⟨_, cB rfl, zq (List.set gu (Int.toNat fW) df) gO gE (IntKind.i64.wrap (fW - 1)) h⟩)
          ·refine bx (congrArg j.bool tb) ?_
           simp only [tb, aL.down]
           refine eL (XN 4 _ (XM 4 _ (XL _ (XJ _ (.inl ?_)))))
           obtain ⟨eO, wj, h⟩ := aY h
           obtain ⟨jG, wk, h⟩ := aY h
           refine i1 (cu [(0, .slice (a0.map aR)), (3, .ay 1 ((List.set gu (Int.toNat gE) eO).map aR)), (4, .int .i64 gO)] (fun P aA => ?_) ?_)
           ·simp only [aQ.down, simprocAttr, jI.down, wj, wk, dg wk, fT, eW]
            (try simp only [bI.down, simprocAttr, aR, wj, wk, dg wk, fT, eW] at aA ⊢); exact aA
           exact i4 _ (dp _ (.inr ⟨_, cB rfl, zm (List.set gu (Int.toNat gE) eO) gO h⟩))
        obtain ⟨n, h⟩ := eY h
        exact e4 (.inr ⟨_, cB rfl, zp n (gh ++ [([] : List UInt8)]) ie hU (IntKind.i64.wrap (((gh ++ [([] : List UInt8)]).length : Int) - 1)) h⟩)
     obtain ⟨n, h⟩ := eY h
     exact e4 (.inr ⟨_, cB rfl, XA n bV cg 1 h⟩)
   ·refine bx (congrArg j.bool dF) ?_
    simp only [dF, aL.down]
    refine eL (c0 0 _ (cw 0 _ (cl _ (jK _ (.inl ?_)))))
    refine ws _ ?_
    exact a6 (aI _ (.inl (a7 [.ay 1 (bV.map aR)] rfl (by cases a1 h; rfl) (by decide) bc)))
 obtain ⟨n, h⟩ := eY h
 exact e4 (.inr ⟨_, cB rfl, k4 n [([116, 97, 117] : List UInt8)] 0 h⟩)
theorem XQ (a0 : dM) (r : (List (List UInt8)) × Int) (h : vj a0 = some r) : aX aN 83 [ev a0] (.tuple [.ay 1 (r.1.map aR), .int .i64 r.2]) [] := by
 refine aX.cP (fx := [0]) cV [.tmp 2, .tmp 3] [(0, ev a0)] Try.func83 rfl rfl Ql (Nat.le_of_ble_eq_true rfl) rfl rfl (fun cR aI cN => ?_)
 refine ws _ ?_
 refine ba (fun fa cI bR aM => ?_)
 obtain ⟨aC, cn, h⟩ := aY h
 refine cX (cu [(1, .bD (ev a0)), (7, .bool (!aC))] (fun P aA => ?_) ?_)
 ·refine eb (Xv a0 _ cn) rfl rfl (by simp only [aQ.down, simprocAttr, ml.down, gn, gp, gq, dE, @cm _ bf bf (fun _ => ij _), @cm _ cA cA (fun _ => vV _)] <;> rfl) rfl (.inr (by rfl)) ?_
  simp only [aQ.down, simprocAttr, ml.down]
  (try simp only [bI.down, simprocAttr, ml.down] at aA ⊢); exact aA
 rcases bl h with ⟨cl, h⟩ | ⟨cl, h⟩
 ·refine bt (congrArg j.bool cl) ?_
  simp only [(eM cl), aL.down]
  refine ws _ ?_
  exact a6 (bR _ (aI _ (.inr ⟨[(2, .ay 1 []), (3, .int .i64 1)], o2 [] rfl (o4 (t := 2) (d := .a_) rfl rfl (.j1 _) (by decide) (lC rfl (o3))), a7 [.ay 1 [], .int .i64 1] rfl (by cases a1 h; rfl) (by decide) bc⟩)))
 ·refine bx (congrArg j.bool cl) ?_
  simp only [(du cl), aL.down]
  refine bF (cI _ (.inl ?_))
  refine hX (show ∀ s, c_ aN s 100 0 [] = some (.ay 1 [], s) from fun s => by kernel_rfl) _ ?_
  refine ba (fun im gS gL eE => ?_)
  refine ws _ ?_
  refine cE (fun fX dp ed dc dB => ?_)
  have k2 : ∀ (n : Nat) (dX : List (List UInt8)) (eN : Int), pf a0 n dX eN = some r → eA aN D7 fX (I [(1, .bD (ev a0)), (4, .ay 1 (dX.map aR)), (5, .int .i64 eN)]) := by
   intro gF
   induction gF with
   | zero => intro dX eN h; cases (show none = some r from h)
   | succ gF k3 =>
    intro dX eN h
    replace h : vi (pf a0 gF) a0 dX eN = some r := h
    refine e5 (fun kv gP jq eO => ?_)
    refine ba (fun n7 i4 mN jG => ?_)
    refine ws _ ?_
    rcases bl h with ⟨dq, h⟩ | ⟨dq, h⟩
    ·refine bt (congrArg j.bool dq) ?_
     simp only [dq, aL.down]
     refine bF (i4 _ (.inl ?_))
     refine ba (fun n5 iO j8 j7 => ?_)
     refine cE (fun py lL k6 iQ lJ => ?_)
     obtain ⟨aM, g5, h⟩ := aY h
     obtain ⟨abn, jL, h⟩ := aY h
     (try simp only [List.length_append, List.length_cons, List.length_nil, List.length_map, List.length_replicate, Nat.zero_add, Nat.add_zero, Nat.reduceAdd] at jL)
     refine i1 (cu [(1, .bD (ev a0)), (4, .ay 1 ((dX ++ [aM.Name]).map aR)), (5, .int .i64 eN)] (fun P aA => ?_) ?_)
     ·simp only [aQ.down, simprocAttr, eX, fU, fV, hL, lE, qR, qS, fG, gN, jD, bf, ev, cA, bk, b3, aR, g5, (show ∀ s, c_ aN s 100 1 [(0, .str aM.Name)] = some (.ay 1 [.str aM.Name], s) from fun s => by kernel_rfl), @kM aN 100 100 9 rfl rfl, kN, kO, kP, all_cons, all_nil, jL, @kL _ aR 1 (fun _ => rfl)]
      (try simp only [bI.down, simprocAttr, bf, ev, cA, bk, b3, aR, g5, (show ∀ s, c_ aN s 100 1 [(0, .str aM.Name)] = some (.ay 1 [.str aM.Name], s) from fun s => by kernel_rfl), @kM aN 100 100 9 rfl rfl, kN, kO, kP, all_cons, all_nil, jL, @kL _ aR 1 (fun _ => rfl)] at aA ⊢); exact aA
     refine lL _ (iO _ (.inl ?_))
     refine wr [(1, .bD (ev a0)), (4, .ay 1 ((dX ++ [aM.Name]).map aR)), (5, .int .i64 (IntKind.i64.wrap (eN + 1)))] ?_
     exact gP _ (.inr ⟨_, cB rfl, k3 (dX ++ [aM.Name]) (IntKind.i64.wrap (eN + 1)) h⟩)
    ·refine bx (congrArg j.bool dq) ?_
     simp only [dq, aL.down]
     refine eL (jG 0 _ (eO 0 _ (dc _ (gS _ (.inr ⟨[(1, .bD (ev a0)), (4, .slice (dX.map aR)), (5, .int .i64 eN), (13, .bool false)], o2 [] rfl (lC rfl (o4 (t := 4) (d := .ay 1 (dX.map aR)) (bj := .slice (dX.map aR)) rfl rfl (C2 rfl rfl (by simp only [dE, j.share, j.shares, @cm _ aR aR (fun _ => iB _)] <;> rfl)) (by decide) (lC rfl (lC rfl (o3))))), ?_⟩)))))
     obtain ⟨a8, hY, h⟩ := aY h
     obtain ⟨bU, jN, h⟩ := aY h
     obtain ⟨abo, mO, h⟩ := aY h
     (try simp only [List.length_append, List.length_cons, List.length_nil, List.length_map, List.length_replicate, Nat.zero_add, Nat.add_zero, Nat.reduceAdd] at mO)
     refine cX (cu [(2, .ay 1 (bU.map aR)), (3, .int .i64 0)] (fun P aA => ?_) ?_)
     ·simp only [aQ.down, simprocAttr, fU, qS, bf, ev, cA, bk, b3, aR, (show ∀ s, c_ aN s 100 0 [] = some (.ay 1 [], s) from fun s => by kernel_rfl), jN, @kL _ aR 1 (fun _ => rfl), @kM aN 100 100 9 rfl rfl, kN, kO, kP, all_cons, all_nil, mO]
      refine eb (((Xz dX _ hY)).wide (C2 rfl rfl (by simp only [dE, j.share, j.shares, @cm _ aR aR (fun _ => iB _)] <;> rfl)) rfl rfl) rfl rfl rfl rfl (.inl (by rfl)) ?_
      simp only [aQ.down, simprocAttr, fU, qS, bf, ev, cA, bk, b3, aR, (show ∀ s, c_ aN s 100 0 [] = some (.ay 1 [], s) from fun s => by kernel_rfl), jN, @kL _ aR 1 (fun _ => rfl), @kM aN 100 100 9 rfl rfl, kN, kO, kP, all_cons, all_nil, mO]
      (try simp only [bI.down, simprocAttr, bf, ev, cA, bk, b3, aR, (show ∀ s, c_ aN s 100 0 [] = some (.ay 1 [], s) from fun s => by kernel_rfl), jN, @kL _ aR 1 (fun _ => rfl), @kM aN 100 100 9 rfl rfl, kN, kO, kP, all_cons, all_nil, mO] at aA ⊢); exact aA
     exact a6 (aI _ (.inl (a7 [.ay 1 (bU.map aR), .int .i64 0] rfl (by cases a1 h; rfl) (by decide) bc)))
  obtain ⟨n, h⟩ := eY h
  exact e4 (.inr ⟨_, cB rfl, k2 n [] 0 h⟩)
theorem k7 (a0 : Int) (ah : Int) (cC : Int) (r : Bool) (h : kW a0 ah cC = some r) : aX aN 138 [.int .i64 a0, .int .i64 ah, .int .i64 cC] (.bool r) [] := by
 refine aX.cP (fx := [0, 1, 2]) cV [.tmp 6] [(0, .int .i64 a0), (1, .int .i64 ah), (2, .int .i64 cC)] Try.func138 rfl rfl Qo (Nat.le_of_ble_eq_true rfl) rfl rfl (fun cR aI cN => ?_)
 refine ws _ ?_
 refine cX (cu [(6, .bool ((decide (ah ≤ a0)) && (decide (a0 ≤ cC))))] (fun P aA => ?_) ?_)
 ·rcases Bool.eq_false_or_eq_true (decide (ah ≤ a0)) with ff | ff
  ·simp only [aQ.down, simprocAttr, ff]
   (try simp only [bI.down, simprocAttr, ff] at aA ⊢); exact aA
  ·simp only [aQ.down, simprocAttr, ff]
   (try simp only [bI.down, simprocAttr, ff] at aA ⊢); exact aA
 exact a6 (aI _ (.inl (a7 [.bool ((decide (ah ≤ a0)) && (decide (a0 ≤ cC)))] rfl (by cases a1 h; rfl) (by decide) bc)))
theorem EO (a0 : Int) (r : Bool) (h : vk a0 = some r) : aX aN 286 [.int .i64 a0] (.bool r) [] := by
 refine aX.cP (fx := [0]) cV [.tmp 2] [(0, .int .i64 a0)] Try.func286 rfl rfl Qr (Nat.le_of_ble_eq_true rfl) rfl rfl (fun cR aI cN => ?_)
 refine ws _ ?_
 obtain ⟨aC, bb, h⟩ := aY h
 refine fc (k7 a0 0 63 _ bb) _ ?_
 exact a6 (aI _ (.inl (a7 [.bool aC] rfl (by cases a1 h; rfl) (by decide) bc)))
theorem XR (a0 : Int) (r : Bool) (h : yV a0 = some r) : aX aN 285 [.int .i64 a0] (.bool r) [] := by
 refine aX.cP (fx := [0]) cV [.tmp 2] [(0, .int .i64 a0)] Try.func285 rfl rfl Qu (Nat.le_of_ble_eq_true rfl) rfl rfl (fun cR aI cN => ?_)
 refine ws _ ?_
 obtain ⟨aC, bb, h⟩ := aY h
 refine fc (EO a0 _ bb) _ ?_
 exact a6 (aI _ (.inl (a7 [.bool (!aC)] rfl (by cases a1 h; rfl) (by decide) bc)))
theorem XS (a0 : List Int) (r : Int) (h : yX a0 = some r) : aX aN 304 [.slice (a0.map bf), .fn 285 []] (.int .i64 r) [] := by
 refine aX.cP (fx := [0, 1]) cV [.tmp 4] [(0, .slice (a0.map bf)), (1, .fn 285 [])] Try.func304 rfl rfl QF (Nat.le_of_ble_eq_true rfl) rfl rfl (fun cR aI cN => ?_)
 refine ws _ ?_
 refine ba (fun fa cI bR aM => ?_)
 refine ws _ ?_
 refine cE (fun fo fN c3 bX bU => ?_)
 have hj : ∀ (n : Nat) (et : Int), sN a0 n et = some r → eA aN D8 fo (I [(0, .slice (a0.map bf)), (1, .fn 285 []), (7, .int .i64 (a0.length : Int)), (8, .int .i64 et)]) := by
  intro dk
  induction dk with
  | zero => intro et h; cases (show none = some r from h)
  | succ dk g6 =>
   intro et h
   replace h : yW (sN a0 dk) a0 et = some r := h
   refine e5 (fun iP fY fm cF => ?_)
   refine ws _ ?_
   refine ba (fun ku gv g1 c0 => ?_)
   rcases bl h with ⟨bY, h⟩ | ⟨bY, h⟩
   ·refine bt (congrArg j.bool bY) ?_
    simp only [bY, aL.down]
    refine bF (gv _ (.inl ?_))
    refine ba (fun g4 eF eP df => ?_)
    refine cE (fun fX dp ed dc dB => ?_)
    refine ws _ ?_
    obtain ⟨aC, e2, h⟩ := aY h
    obtain ⟨aM, hB, h⟩ := aY h
    refine kY e2 (XR aC _ hB) _ ?_
    rcases bl h with ⟨gR, h⟩ | ⟨gR, h⟩
    ·refine bt (congrArg j.bool gR) ?_
     simp only [gR, aL.down]
     refine ws _ ?_
     exact a6 (ed _ (eP _ (fm _ (c3 _ (bR _ (aI _ (.inl (a7 [.int .i64 et] rfl (by cases a1 h; rfl) (by decide) bc))))))))
    ·refine bx (congrArg j.bool gR) ?_
     simp only [gR, aL.down]
     refine bF (dp _ (eF _ (.inl ?_)))
     refine wr _ ?_
     exact fY _ (.inr ⟨_, cB rfl, g6 (IntKind.i64.wrap (et + 1)) h⟩)
   ·refine bx (congrArg j.bool bY) ?_
    simp only [bY, aL.down]
    refine eL (c0 0 _ (cF 0 _ (bX _ (cI _ (.inl ?_)))))
    refine ws _ ?_
    exact a6 (aI _ (.inl (a7 [.int .i64 (-1)] rfl (by cases a1 h; rfl) (by decide) bc)))
 obtain ⟨n, h⟩ := eY h
 exact e4 (.inr ⟨_, cB rfl, hj n 0 h⟩)
theorem XT (a0 : List Int) (r : Bool) (h : yY a0 = some r) : aX aN 284 [.slice (a0.map bf), .fn 285 []] (.bool r) [] := by
 refine aX.cP (fx := [0, 1]) cV [.tmp 4] [(0, .slice (a0.map bf)), (1, .fn 285 [])] Try.func284 rfl rfl QI (Nat.le_of_ble_eq_true rfl) rfl rfl (fun cR aI cN => ?_)
 refine ws _ ?_
 obtain ⟨aC, bb, h⟩ := aY h
 refine fc (XS a0 _ bb) _ ?_
 exact a6 (aI _ (.inl (a7 [.bool (decide (0 ≤ aC))] rfl (by cases a1 h; rfl) (by decide) bc)))
theorem XU (a0 : List Int) (r : Bool) (h : yZ a0 = some r) : aX aN 229 [.slice (a0.map bf)] (.bool r) [] := by
 refine aX.cP (fx := [0]) cV [.tmp 2] [(0, .slice (a0.map bf))] Try.func229 rfl rfl QL (Nat.le_of_ble_eq_true rfl) rfl rfl (fun cR aI cN => ?_)
 refine ws _ ?_
 obtain ⟨aC, bb, h⟩ := aY h
 refine fc (XT a0 _ bb) _ ?_
 exact a6 (aI _ (.inl (a7 [.bool (!aC)] rfl (by cases a1 h; rfl) (by decide) bc)))
theorem EP (a0 : dM) (ah : List Int) (r : Bool) (h : vl a0 ah = some r) : aX aN 234 [ev a0, .slice (ah.map bf)] (.bool r) [] := by
 refine aX.cP (fx := [0, 1]) cV [.tmp 4] [(0, ev a0), (1, .slice (ah.map bf))] Try.func234 rfl rfl QO (Nat.le_of_ble_eq_true rfl) rfl rfl (fun cR aI cN => ?_)
 refine ws _ ?_
 rcases bl h with ⟨hS, h⟩ | ⟨hS, h⟩
 ·obtain ⟨aC, cn, h⟩ := aY h
  refine cX (cu [(4, .bool aC)] (fun P aA => ?_) ?_)
  ·simp only [aQ.down, simprocAttr, ik.down, hS]
   refine iA (XU ah _ cn) rfl rfl rfl rfl (.inl (by rfl)) ?_
   simp only [aQ.down, simprocAttr, ik.down, hS]
   (try simp only [bI.down, simprocAttr, ml.down, hS] at aA ⊢); exact aA
  exact a6 (aI _ (.inl (a7 [.bool aC] rfl (by cases a1 h; rfl) (by decide) bc)))
 ·refine hX hS _ ?_
  exact a6 (aI _ (.inl (a7 [.bool false] rfl (by cases a1 h; rfl) (by decide) bc)))
theorem ER (a0 : bu) (r : Bool) (h : vn a0 = some r) : aX aN 292 [cA a0] (.bool r) [] := by
 refine aX.cP (fx := [0]) cV [.tmp 2] [(0, cA a0)] Try.func292 rfl rfl Q1 (Nat.le_of_ble_eq_true rfl) rfl rfl (fun cR aI cN => ?_)
 refine ws _ ?_
 refine ws _ ?_
 refine ba (fun px jK gg a8 => ?_)
 refine ws _ ?_
 refine cE (fun iP fY fm cl cF => ?_)
 have k4 : ∀ (n : Nat) (bV : Int) (lH : Int), pg a0 n bV lH = some r → eA aN D9 iP (I [(1, .bD (cA a0)), (3, .int .i64 bV), (7, .slice (a0.bz.map bf)), (8, .int .i64 (a0.bz.length : Int)), (9, .int .i64 lH)]) := by
  intro ez
  induction ez with
  | zero => intro bV lH h; cases (show none = some r from h)
  | succ ez k5 =>
   intro bV lH h
   replace h : vm (pg a0 ez) a0 bV lH = some r := h
   refine e5 (fun gG eQ e_ cw => ?_)
   refine ws _ ?_
   refine ba (fun im gS gL eE => ?_)
   rcases bl h with ⟨dF, h⟩ | ⟨dF, h⟩
   ·refine bt (congrArg j.bool dF) ?_
    simp only [dF, aL.down]
    refine bF (gS _ (.inl ?_))
    refine ba (fun fX dp ed dB => ?_)
    refine cE (fun kv gP jq hN eO => ?_)
    obtain ⟨aC, e2, h⟩ := aY h
    refine hX e2 _ ?_
    refine ba (fun kx gQ fM hM => ?_)
    obtain ⟨aM, dN, h⟩ := aY h
    refine fc (k7 aC 1 7 _ dN) _ ?_
    rcases bl h with ⟨ee, h⟩ | ⟨ee, h⟩
    ·refine bt (congrArg j.bool ee) ?_
     simp only [(eM ee), aL.down]
     refine ws _ ?_
     exact a6 (fM _ (jq _ (ed _ (e_ _ (fm _ (gg _ (aI _ (.inl (a7 [.bool false] rfl (by cases a1 h; rfl) (by decide) bc)))))))))
    ·refine bx (congrArg j.bool ee) ?_
     simp only [(du ee), aL.down]
     refine bF (gQ _ (.inl ?_))
     refine wr _ ?_
     refine gP _ (dp _ (.inl ?_))
     refine wr _ ?_
     exact eQ _ (.inr ⟨_, cB rfl, k5 (IntKind.i64.wrap (bV * (IntKind.i64.wrap (aC + 1)))) (IntKind.i64.wrap (lH + 1)) h⟩)
   ·refine bx (congrArg j.bool dF) ?_
    simp only [dF, aL.down]
    refine eL (eE 0 _ (cw 0 _ (cl _ (jK _ (.inl ?_)))))
    refine cX (cu [(2, .bool ((decide ((a0.bz.length : Int) ≤ 8)) && (decide (bV ≤ 4096))))] (fun P aA => ?_) ?_)
    ·rcases Bool.eq_false_or_eq_true (decide ((a0.bz.length : Int) ≤ 8)) with tc | tc
     ·simp only [aQ.down, simprocAttr, fj.down, tc]
      (try simp only [bI.down, simprocAttr, jH.down, tc] at aA ⊢); exact aA
     ·simp only [aQ.down, simprocAttr, fj.down, tc]
      (try simp only [bI.down, simprocAttr, jH.down, tc] at aA ⊢); exact aA
    exact a6 (aI _ (.inl (a7 [.bool ((decide ((a0.bz.length : Int) ≤ 8)) && (decide (bV ≤ 4096)))] rfl (by cases a1 h; rfl) (by decide) bc)))
 obtain ⟨n, h⟩ := eY h
 exact e4 (.inr ⟨_, cB rfl, k4 n 1 0 h⟩)
theorem XV (a0 : UInt8) (r : Bool) (h : y0 a0 = some r) : aX aN 211 [.int .u8 (a0.toNat : Int)] (.bool r) [] := by
 refine aX.cP (fx := [0]) cV [.tmp 2] [(0, .int .u8 (a0.toNat : Int))] Try.func211 rfl rfl Q4 (Nat.le_of_ble_eq_true rfl) rfl rfl (fun cR aI cN => ?_)
 refine ws _ ?_
 refine cX (cu [(2, .bool ((decide (48 ≤ (a0.toNat : Int))) && (decide ((a0.toNat : Int) ≤ 57))))] (fun P aA => ?_) ?_)
 ·rcases Bool.eq_false_or_eq_true (decide (48 ≤ (a0.toNat : Int))) with ff | ff
  ·simp only [aQ.down, simprocAttr, ff]
   (try simp only [bI.down, simprocAttr, ff] at aA ⊢); exact aA
  ·simp only [aQ.down, simprocAttr, ff]
   (try simp only [bI.down, simprocAttr, ff] at aA ⊢); exact aA
 exact a6 (aI _ (.inl (a7 [.bool ((decide (48 ≤ (a0.toNat : Int))) && (decide ((a0.toNat : Int) ≤ 57)))] rfl (by cases a1 h; rfl) (by decide) bc)))
theorem ES (a0 : List UInt8) (r : Bool) (h : vo a0 = some r) : aX aN 126 [.str a0] (.bool r) [] := by
 refine aX.cP (fx := [0]) cV [.tmp 2] [(0, .str a0)] Try.func126 rfl rfl Rg (Nat.le_of_ble_eq_true rfl) rfl rfl (fun cR aI cN => ?_)
 refine ws _ ?_
 refine ba (fun fa cI bR aM => ?_)
 refine ws _ ?_
 refine cE (fun fo fN c3 bX bU => ?_)
 have hj : ∀ (n : Nat) (i3 : Int), nj a0 n i3 = some r → eA aN D_ fo (I [(0, .str a0), (6, .int .i64 (a0.length : Int)), (7, .int .i64 i3)]) := by
  intro dk
  induction dk with
  | zero => intro i3 h; cases (show none = some r from h)
  | succ dk g6 =>
   intro i3 h
   replace h : sO (nj a0 dk) a0 i3 = some r := h
   refine e5 (fun iP fY fm cF => ?_)
   refine ws _ ?_
   refine ba (fun ku gv g1 c0 => ?_)
   rcases bl h with ⟨bY, h⟩ | ⟨bY, h⟩
   ·refine bt (congrArg j.bool bY) ?_
    simp only [bY, aL.down]
    refine bF (gv _ (.inl ?_))
    refine ba (fun g4 eF eP df => ?_)
    refine cE (fun fX dp ed dc dB => ?_)
    refine ws _ ?_
    obtain ⟨aC, e2, h⟩ := aY h
    refine cX (cu [(0, .str a0), (3, .int .i64 i3), (4, .bool ((decide (97 ≤ (aC.toNat : Int))) && (decide ((aC.toNat : Int) ≤ 122)))), (6, .int .i64 (a0.length : Int)), (7, .int .i64 i3)] (fun P aA => ?_) ?_)
    ·rcases Bool.eq_false_or_eq_true (decide (97 ≤ (aC.toNat : Int))) with td | td
     ·simp only [aQ.down, simprocAttr, fU, e2, td]
      (try simp only [bI.down, simprocAttr, e2, td] at aA ⊢); exact aA
     ·simp only [aQ.down, simprocAttr, fU, e2, td]
      (try simp only [bI.down, simprocAttr, e2, td] at aA ⊢); exact aA
    rcases bl h with ⟨iQ, h⟩ | ⟨iQ, h⟩
    ·rcases bl h with ⟨ee, h⟩ | ⟨ee, h⟩
     ·refine hX (And.intro iQ ee) _ ?_
      refine bt rfl ?_
      refine ws _ ?_
      exact a6 (ed _ (eP _ (fm _ (c3 _ (bR _ (aI _ (.inl (a7 [.bool false] rfl (by cases a1 h; rfl) (by decide) bc))))))))
     ·obtain ⟨aM, jL, h⟩ := aY h
      refine cX (cu [(0, .str a0), (6, .int .i64 (a0.length : Int)), (7, .int .i64 i3), (32, .bool (!aM))] (fun P aA => ?_) ?_)
      ·simp only [aQ.down, simprocAttr, fU, iQ, ee, e2]
       refine iA (XV aC _ jL) rfl rfl rfl rfl (.inl (by rfl)) ?_
       simp only [aQ.down, simprocAttr, fU, iQ, ee, e2]
       (try simp only [bI.down, simprocAttr, iQ, ee, e2] at aA ⊢); exact aA
      rcases bl h with ⟨e6, h⟩ | ⟨e6, h⟩
      ·refine bt (congrArg j.bool e6) ?_
       simp only [(eM e6), aL.down]
       refine ws _ ?_
       exact a6 (ed _ (eP _ (fm _ (c3 _ (bR _ (aI _ (.inl (a7 [.bool false] rfl (by cases a1 h; rfl) (by decide) bc))))))))
      ·refine bx (congrArg j.bool e6) ?_
       simp only [(du e6), aL.down]
       refine bF (dp _ (eF _ (.inl ?_)))
       refine wr _ ?_
       exact fY _ (.inr ⟨_, cB rfl, g6 (IntKind.i64.wrap (i3 + 1)) h⟩)
    ·refine hX iQ _ ?_
     refine bx rfl ?_
     refine bF (dp _ (eF _ (.inl ?_)))
     refine wr _ ?_
     exact fY _ (.inr ⟨_, cB rfl, g6 (IntKind.i64.wrap (i3 + 1)) h⟩)
   ·refine bx (congrArg j.bool bY) ?_
    simp only [bY, aL.down]
    refine eL (c0 0 _ (cF 0 _ (bX _ (cI _ (.inl ?_)))))
    refine cX (cu [(2, .bool ((decide (1 ≤ (a0.length : Int))) && (decide ((a0.length : Int) ≤ 10))))] (fun P aA => ?_) ?_)
    ·rcases Bool.eq_false_or_eq_true (decide (1 ≤ (a0.length : Int))) with te | te
     ·simp only [aQ.down, simprocAttr, fU, te]
      (try simp only [bI.down, simprocAttr, te] at aA ⊢); exact aA
     ·simp only [aQ.down, simprocAttr, fU, te]
      (try simp only [bI.down, simprocAttr, te] at aA ⊢); exact aA
    exact a6 (aI _ (.inl (a7 [.bool ((decide (1 ≤ (a0.length : Int))) && (decide ((a0.length : Int) ≤ 10)))] rfl (by cases a1 h; rfl) (by decide) bc)))
 obtain ⟨n, h⟩ := eY h
 exact e4 (.inr ⟨_, cB rfl, hj n 0 h⟩)
theorem ET (a0 : List UInt8) (r : Bool) (h : sP a0 = some r) : aX aN 278 [.str a0] (.bool r) [] := by
 refine aX.cP (fx := [0]) cV [.tmp 2] [(0, .str a0)] Try.func278 rfl rfl Rj (Nat.le_of_ble_eq_true rfl) rfl rfl (fun cR aI cN => ?_)
 refine ws _ ?_
 obtain ⟨aC, bb, h⟩ := aY h
 refine cX (cu [(2, .bool (aC && (!(a0 == ([116, 97, 117] : List UInt8)))))] (fun P aA => ?_) ?_)
 ·rcases Bool.eq_false_or_eq_true (aC) with jz | jz
  ·simp only [aQ.down, simprocAttr, jz]
   refine eb (ES a0 _ bb) rfl rfl rfl rfl (.inl (by rfl)) ?_
   simp only [aQ.down, simprocAttr, jz]
   (try simp only [bI.down, simprocAttr, jz] at aA ⊢); exact aA
  ·simp only [aQ.down, simprocAttr, jz]
   refine eb (ES a0 _ bb) rfl rfl rfl rfl (.inl (by rfl)) ?_
   simp only [aQ.down, simprocAttr, jz]
   (try simp only [bI.down, simprocAttr, jz] at aA ⊢); exact aA
 exact a6 (aI _ (.inl (a7 [.bool (aC && (!(a0 == ([116, 97, 117] : List UInt8))))] rfl (by cases a1 h; rfl) (by decide) bc)))
theorem XW (ah : Int) (r : (List (List a2))) (h : vq ah = some r) : aX aN 301 [.a_, .int .i64 ah] (.ay 1 (r.map b3)) [] := by
 refine aX.cP (fx := []) cV [.tmp 4] [(0, .a_), (1, .int .i64 ah)] Try.func301 rfl rfl Rr (Nat.le_of_ble_eq_true rfl) rfl rfl (fun cR aI cN => ?_)
 refine ws _ ?_
 have XX : y1 ah = some r → db aN Eb cR (I [(0, .a_), (1, .int .i64 ah), (6, .bool false)]) := by
  intro h
  have EU : vp = some r → db aN Ea cR (I [(0, .ay 1 [])]) := by
   intro h
   refine ws _ ?_
   exact a6 (aI _ (.inl (a7 [.ay 1 []] rfl (by cases a1 h; rfl) (by decide) bc)))
  refine ba (fun px jK gg a8 => ?_)
  refine cX (cu [(0, .a_), (1, .int .i64 (IntKind.i64.wrap (ah - (IntKind.i64.wrap 0))))] (fun P aA => ?_) ?_)
  ·simp only [aQ.down, simprocAttr, eX, fV, fG, gN, uN, (fun s x h => @uM aN s 195 40 x rfl h)]
   (try simp only [bI.down, simprocAttr, uN, (fun s x h => @uM aN s 195 40 x rfl h)] at aA ⊢); exact aA
  refine ws _ ?_
  rcases bl h with ⟨kF, h⟩ | ⟨kF, h⟩
  ·refine bt (congrArg j.bool kF) ?_
   simp only [kF, aL.down]
   obtain ⟨abp, hR, h⟩ := aY h
   refine i1 (cu [(0, .ay 1 [])] (fun P aA => ?_) ?_)
   ·simp only [aQ.down, simprocAttr, eX, K8, fV, fG, gN, bk, b3, uN, (fun s x h => @uM aN s 195 40 x rfl h), C5, C4, (f_ hR).1, (f_ hR).2.1, (f_ hR).2.2, C6, hH, C3, List.map_replicate, -Int.reduceNatCast', (fun s y q => (qN aN s 195 y q).1), (fun s y q => (qN aN s 195 y q).2.1), (fun s y q => (qN aN s 195 y q).2.2), nS, C7]
    (try simp only [bI.down, simprocAttr, bk, b3, uN, (fun s x h => @uM aN s 195 40 x rfl h), C5, C4, (f_ hR).1, (f_ hR).2.1, (f_ hR).2.2, C6, hH, C3, List.map_replicate, -Int.reduceNatCast', (fun s y q => (qN aN s 195 y q).1), (fun s y q => (qN aN s 195 y q).2.1), (fun s y q => (qN aN s 195 y q).2.2), nS, C7] at aA ⊢); exact aA
   exact jK _ (.inr ⟨_, cB rfl, EU h⟩)
  ·refine bx (congrArg j.bool kF) ?_
   simp only [kF, aL.down]
   exact bF (jK _ (.inr ⟨_, o2 [] rfl (o4 (t := 0) (d := .a_) (bj := .ay 1 []) rfl rfl (.j1 _) (by decide) (o3)), EU h⟩))
 refine ba (fun fa cI bR aM => ?_)
 refine ws _ ?_
 rcases bl h with ⟨hN, h⟩ | ⟨hN, h⟩
 ·refine bt (congrArg j.bool hN) ?_
  simp only [hN, aL.down]
  cases h
 ·refine bx (congrArg j.bool hN) ?_
  simp only [hN, aL.down]
  exact bF (cI _ (.inr ⟨_, cB rfl, XX h⟩))
theorem XY (a0 : List (List (List a2))) (r : (List (List a2))) (h : vu a0 = some r) : aX aN 249 [.slice (a0.map g3)] (.ay 1 (r.map b3)) [] := by
 refine aX.cP (fx := [0]) cV [.tmp 2] [(0, .slice (a0.map g3))] Try.func249 rfl rfl RK (Nat.le_of_ble_eq_true rfl) rfl rfl (fun cR aI cN => ?_)
 refine ws _ ?_
 refine ws _ ?_
 refine ba (fun px jK gg a8 => ?_)
 refine ws _ ?_
 refine cE (fun iP fY fm cl cF => ?_)
 have k4 : ∀ (n : Nat) (bV : Int) (lI : Int), nX a0 n bV lI = some r → eA aN Ed iP (I [(0, .slice (a0.map g3)), (3, .int .i64 bV), (9, .slice (a0.map g3)), (10, .int .i64 (a0.length : Int)), (11, .int .i64 lI)]) := by
  intro ez
  induction ez with
  | zero => intro bV lI h; cases (show none = some r from h)
  | succ ez k5 =>
   intro bV lI h
   replace h : vt (nX a0 ez) a0 bV lI = some r := h
   refine e5 (fun gG eQ e_ cw => ?_)
   refine ws _ ?_
   refine ba (fun im gS gL eE => ?_)
   rcases bl h with ⟨dF, h⟩ | ⟨dF, h⟩
   ·refine bt (congrArg j.bool dF) ?_
    simp only [dF, aL.down]
    refine bF (gS _ (.inl ?_))
    have XZ : ∀ (q3 : Int) (q4 : Int), y2 (nX a0 ez) a0 q3 q4 = some r → db aN Ec gG (I [(0, .slice (a0.map g3)), (3, .int .i64 q3), (9, .slice (a0.map g3)), (10, .int .i64 (a0.length : Int)), (11, .int .i64 q4), (20, .bool false)]) := by
     intro q3 q4 h
     refine wr _ ?_
     exact eQ _ (.inr ⟨_, cB rfl, k5 q3 (IntKind.i64.wrap (q4 + 1)) h⟩)
    refine ba (fun fX dp ed dB => ?_)
    refine cE (fun n7 i4 mN c4 jG => ?_)
    obtain ⟨aC, hB, h⟩ := aY h
    refine hX hB _ ?_
    refine ws _ ?_
    refine ws _ ?_
    rcases bl h with ⟨ee, h⟩ | ⟨ee, h⟩
    ·refine bt (congrArg j.bool ee) ?_
     simp only [ee, aL.down]
     cases h
    ·refine bx (congrArg j.bool ee) ?_
     simp only [ee, aL.down]
     exact bF (i4 _ (dp _ (.inr ⟨_, cB rfl, XZ (IntKind.i64.wrap (bV + (aC.length : Int))) lI h⟩)))
   ·refine bx (congrArg j.bool dF) ?_
    simp only [dF, aL.down]
    refine eL (eE 0 _ (cw 0 _ (cl _ (jK _ (.inl ?_)))))
    obtain ⟨aM, mM, h⟩ := aY h
    refine fc (XW bV _ mM) _ ?_
    refine ba (fun v8 nm n6 rb => ?_)
    refine ws _ ?_
    refine cE (fun X0 abq abr iD abt => ?_)
    have X1 : ∀ (n : Nat) (j5 : List (List a2)) (kp : Int), nW a0 n j5 kp = some r → eA aN Ee X0 (I [(6, .ay 1 (j5.map b3)), (25, .slice (a0.map g3)), (26, .int .i64 (a0.length : Int)), (27, .int .i64 kp)]) := by
     intro zt
     induction zt with
     | zero => intro j5 kp h; cases (show none = some r from h)
     | succ zt X2 =>
      intro j5 kp h
      replace h : vr (nW a0 zt) a0 j5 kp = some r := h
      refine e5 (fun Xp zh EG EH => ?_)
      refine ws _ ?_
      refine ba (fun abu X3 abv X4 => ?_)
      rcases bl h with ⟨jr, h⟩ | ⟨jr, h⟩
      ·refine bt (congrArg j.bool jr) ?_
       simp only [jr, aL.down]
       refine bF (X3 _ (.inl ?_))
       refine ba (fun XC zo XD XE => ?_)
       refine cE (fun abw n29 abx rf aby => ?_)
       obtain ⟨a8, mP, h⟩ := aY h
       refine hX mP _ ?_
       obtain ⟨abz, pB, h⟩ := aY h
       (try simp only [List.length_append, List.length_cons, List.length_nil, List.length_map, List.length_replicate, Nat.zero_add, Nat.add_zero, Nat.reduceAdd] at pB)
       refine i1 (cu [(6, .ay 1 ((j5 ++ a8).map b3)), (25, .slice (a0.map g3)), (26, .int .i64 (a0.length : Int)), (27, .int .i64 kp)] (fun P aA => ?_) ?_)
       ·simp only [aQ.down, simprocAttr, eX, fV, fG, gN, bk, b3, g3, @kM aN 195 195 40 rfl rfl, kN, kO, kP, all_cons, all_nil, pB, @kL _ b3 1 (fun _ => rfl)]
        (try simp only [bI.down, simprocAttr, bk, b3, g3, @kM aN 195 195 40 rfl rfl, kN, kO, kP, all_cons, all_nil, pB, @kL _ b3 1 (fun _ => rfl)] at aA ⊢); exact aA
       refine n29 _ (zo _ (.inl ?_))
       refine wr [(6, .ay 1 ((j5 ++ a8).map b3)), (25, .slice (a0.map g3)), (26, .int .i64 (a0.length : Int)), (27, .int .i64 (IntKind.i64.wrap (kp + 1)))] ?_
       exact zh _ (.inr ⟨_, cB rfl, X2 (j5 ++ a8) (IntKind.i64.wrap (kp + 1)) h⟩)
      ·refine bx (congrArg j.bool jr) ?_
       simp only [jr, aL.down]
       refine eL (X4 2 _ (EH 2 _ (iD _ (nm _ (.inl ?_)))))
       refine ws _ ?_
       exact a6 (aI _ (.inl (a7 [.ay 1 (j5.map b3)] rfl (by cases a1 h; rfl) (by decide) bc)))
    obtain ⟨n, h⟩ := eY h
    exact e4 (.inr ⟨_, cB rfl, X1 n aM 0 h⟩)
 obtain ⟨n, h⟩ := eY h
 exact e4 (.inr ⟨_, cB rfl, k4 n 0 0 h⟩)
theorem zu (a0 : bu) (r : (List (List a2))) (h : q5 a0 = some r) : aX aN 293 [cA a0] (.ay 1 (r.map b3)) [] := by
 refine aX.cP (fx := [0]) cV [.tmp 2] [(0, cA a0)] Try.func293 rfl rfl RN (Nat.le_of_ble_eq_true rfl) rfl rfl (fun cR aI cN => ?_)
 refine ws _ ?_
 obtain ⟨aC, bb, h⟩ := aY h
 refine cX (cu [(2, .ay 1 (aC.map b3))] (fun P aA => ?_) ?_)
 ·simp only [aQ.down, simprocAttr, eX, fU, fV, hL, fG, gN, jD, yR, bf, cA, bk, b3, g3, (show ∀ s, c_ aN s 195 1 [(0, .slice (a0.Guard.map bk))] = some (.ay 1 [.slice (a0.Guard.map bk)], s) from fun s => by kernel_rfl), yD, yC, nc, j.shares, dE, @cm _ bk bk (fun _ => lK _), @cm _ b3 b3 (fun _ => kr _), (show ∀ s, c_ aN s 308 3 [(0, .slice [.slice (a0.Guard.map bk)]), (1, .slice (a0.bK.map b3)), (2, .slice (a0.Next.map b3))] = some (.ay 1 [.slice [.slice (a0.Guard.map bk)], .slice (a0.bK.map b3), .slice (a0.Next.map b3)], s) from fun s => by kernel_rfl), @cm _ g3 g3 (fun _ => ze _)]
  refine eb (XY [[a0.Guard], a0.bK, a0.Next] _ bb) rfl rfl rfl rfl (.inl (by rfl)) ?_
  simp only [aQ.down, simprocAttr, eX, fU, fV, hL, fG, gN, jD, yR, bf, cA, bk, b3, g3, (show ∀ s, c_ aN s 195 1 [(0, .slice (a0.Guard.map bk))] = some (.ay 1 [.slice (a0.Guard.map bk)], s) from fun s => by kernel_rfl), yD, yC, nc, j.shares, dE, @cm _ bk bk (fun _ => lK _), @cm _ b3 b3 (fun _ => kr _), (show ∀ s, c_ aN s 308 3 [(0, .slice [.slice (a0.Guard.map bk)]), (1, .slice (a0.bK.map b3)), (2, .slice (a0.Next.map b3))] = some (.ay 1 [.slice [.slice (a0.Guard.map bk)], .slice (a0.bK.map b3), .slice (a0.Next.map b3)], s) from fun s => by kernel_rfl), @cm _ g3 g3 (fun _ => ze _)]
  (try simp only [bI.down, simprocAttr, bf, cA, bk, b3, g3, (show ∀ s, c_ aN s 195 1 [(0, .slice (a0.Guard.map bk))] = some (.ay 1 [.slice (a0.Guard.map bk)], s) from fun s => by kernel_rfl), yD, yC, nc, j.shares, dE, @cm _ bk bk (fun _ => lK _), @cm _ b3 b3 (fun _ => kr _), (show ∀ s, c_ aN s 308 3 [(0, .slice [.slice (a0.Guard.map bk)]), (1, .slice (a0.bK.map b3)), (2, .slice (a0.Next.map b3))] = some (.ay 1 [.slice [.slice (a0.Guard.map bk)], .slice (a0.bK.map b3), .slice (a0.Next.map b3)], s) from fun s => by kernel_rfl), @cm _ g3 g3 (fun _ => ze _)] at aA ⊢); exact aA
 exact a6 (aI _ (.inl (a7 [.ay 1 (aC.map b3)] rfl (by cases a1 h; rfl) (by decide) bc)))
theorem X5 (a0 : a2) (ah : Int) (r : Bool) (h : vv a0 ah = some r) : aX aN 269 [bk a0, .int .i64 ah] (.bool r) [] := by
 refine aX.cP (fx := [0, 1]) cV [.tmp 4] [(0, bk a0), (1, .int .i64 ah)] Try.func269 rfl rfl R3 (Nat.le_of_ble_eq_true rfl) rfl rfl (fun cR aI cN => ?_)
 refine ws _ ?_
 refine ba (fun fa cI bR aM => ?_)
 refine ws _ ?_
 refine cE (fun fo fN c3 bX bU => ?_)
 refine ws _ ?_
 rcases bl h with ⟨dy, h⟩ | ⟨dy, h⟩
 ·refine bt (congrArg j.bool dy) ?_
  simp only [dy, aL.down]
  obtain ⟨aC, kf, h⟩ := aY h
  refine fc (EO a0.Value _ kf) _ ?_
  exact a6 (c3 _ (bR _ (aI _ (.inl (a7 [.bool aC] rfl (by cases a1 h; rfl) (by decide) bc)))))
 ·refine bx (congrArg j.bool dy) ?_
  simp only [dy, aL.down]
  refine ws _ ?_
  rcases bl h with ⟨dc, h⟩ | ⟨dc, h⟩
  ·refine bt (congrArg j.bool dc) ?_
   simp only [dc, aL.down]
   obtain ⟨aM, ej, h⟩ := aY h
   refine fc (k7 a0.Value 0 (IntKind.i64.wrap (ah - 1)) _ ej) _ ?_
   exact a6 (c3 _ (bR _ (aI _ (.inl (a7 [.bool aM] rfl (by cases a1 h; rfl) (by decide) bc)))))
  ·refine bx (congrArg j.bool dc) ?_
   simp only [dc, aL.down]
   refine ws _ ?_
   rcases bl h with ⟨dq, h⟩ | ⟨dq, h⟩
   ·refine bt (congrArg j.bool dq) ?_
    simp only [dq, aL.down]
    obtain ⟨a8, dN, h⟩ := aY h
    refine fc (k7 a0.Value 0 8 _ dN) _ ?_
    exact a6 (c3 _ (bR _ (aI _ (.inl (a7 [.bool a8] rfl (by cases a1 h; rfl) (by decide) bc)))))
   ·refine bx (congrArg j.bool dq) ?_
    simp only [dq, aL.down]
    refine ws _ ?_
    rcases bl h with ⟨fp, h⟩ | ⟨fp, h⟩
    ·refine bt (congrArg j.bool fp) ?_
     simp only [fp, aL.down]
     refine ws _ ?_
     exact a6 (c3 _ (bR _ (aI _ (.inl (a7 [.bool (a0.Value == 0)] rfl (by cases a1 h; rfl) (by decide) bc)))))
    ·refine bx (congrArg j.bool fp) ?_
     simp only [fp, aL.down]
     refine bF (fN _ (cI _ (.inl ?_)))
     refine ws _ ?_
     exact a6 (aI _ (.inl (a7 [.bool false] rfl (by cases a1 h; rfl) (by decide) bc)))
theorem X6 (a0 : a2) (r : Int) (h : y4 a0 = some r) : aX aN 270 [bk a0] (.int .i64 r) [] := by
 refine aX.cP (fx := [0]) cV [.tmp 2] [(0, bk a0)] Try.func270 rfl rfl Sc (Nat.le_of_ble_eq_true rfl) rfl rfl (fun cR aI cN => ?_)
 refine ws _ ?_
 refine ba (fun fa cI bR aM => ?_)
 refine ws _ ?_
 refine cE (fun fo fN c3 bX bU => ?_)
 refine ws _ ?_
 rcases bl h with ⟨dy, h⟩ | ⟨dy, h⟩
 ·refine bt (congrArg j.bool dy) ?_
  simp only [dy, aL.down]
  refine ws _ ?_
  exact a6 (c3 _ (bR _ (aI _ (.inl (a7 [.int .i64 2] rfl (by cases a1 h; rfl) (by decide) bc)))))
 ·refine bx (congrArg j.bool dy) ?_
  simp only [dy, aL.down]
  refine ws _ ?_
  rcases bl h with ⟨dF, h⟩ | ⟨dF, h⟩
  ·refine bt (congrArg j.bool dF) ?_
   simp only [dF, aL.down]
   refine ws _ ?_
   exact a6 (c3 _ (bR _ (aI _ (.inl (a7 [.int .i64 1] rfl (by cases a1 h; rfl) (by decide) bc)))))
  ·refine bx (congrArg j.bool dF) ?_
   simp only [dF, aL.down]
   refine bF (fN _ (cI _ (.inl ?_)))
   refine ws _ ?_
   exact a6 (aI _ (.inl (a7 [.int .i64 0] rfl (by cases a1 h; rfl) (by decide) bc)))
theorem X7 (a0 : List a2) (ah : Int) (cC : Int) (r : Bool) (h : vx a0 ah cC = some r) : aX aN 200 [.slice (a0.map bk), .int .i64 ah, .int .i64 cC] (.bool r) [] := by
 refine aX.cP (fx := [0, 1, 2]) cV [.tmp 6] [(0, .slice (a0.map bk)), (1, .int .i64 ah), (2, .int .i64 cC)] Try.func200 rfl rfl Su (Nat.le_of_ble_eq_true rfl) rfl rfl (fun cR aI cN => ?_)
 refine ws _ ?_
 refine ba (fun fa cI bR aM => ?_)
 obtain ⟨aC, cn, h⟩ := aY h
 rcases bl h with ⟨cl, h⟩ | ⟨cl, h⟩
 ·refine kY (eM cl) (k7 ah 0 29 _ cn) _ ?_
  refine bt rfl ?_
  refine ws _ ?_
  exact a6 (bR _ (aI _ (.inl (a7 [.bool false] rfl (by cases a1 h; rfl) (by decide) bc))))
 ·obtain ⟨aM, bS, h⟩ := aY h
  rcases bl h with ⟨bY, h⟩ | ⟨bY, h⟩
  ·refine cX (cu [(0, .slice (a0.map bk)), (1, .int .i64 ah), (24, .bool true)] (fun P aA => ?_) ?_)
   ·simp only [aQ.down, simprocAttr, kZ.down, (du cl), (eM bY)]
    refine eb (k7 ah 0 29 _ cn) rfl rfl rfl rfl (.inl (by rfl)) ?_
    simp only [aQ.down, simprocAttr, kZ.down, (du cl), (eM bY)]
    refine iA (k7 cC 1 60 _ bS) rfl rfl rfl rfl (.inl (by rfl)) ?_
    simp only [aQ.down, simprocAttr, kZ.down, (du cl), (eM bY)]
    (try simp only [bI.down, simprocAttr, bk, (du cl), (eM bY)] at aA ⊢); exact aA
   refine bt rfl ?_
   refine ws _ ?_
   exact a6 (bR _ (aI _ (.inl (a7 [.bool false] rfl (by cases a1 h; rfl) (by decide) bc))))
  ·obtain ⟨a8, ld, h⟩ := aY h
   refine cX (cu [(0, .slice (a0.map bk)), (1, .int .i64 ah), (24, .bool (!a8))] (fun P aA => ?_) ?_)
   ·simp only [aQ.down, simprocAttr, kZ.down, (du cl), (du bY)]
    refine eb (k7 ah 0 29 _ cn) rfl rfl rfl rfl (.inl (by rfl)) ?_
    simp only [aQ.down, simprocAttr, kZ.down, (du cl), (du bY)]
    refine iA (k7 cC 1 60 _ bS) rfl rfl rfl rfl (.inl (by rfl)) ?_
    simp only [aQ.down, simprocAttr, kZ.down, (du cl), (du bY)]
    refine iA (k7 (a0.length : Int) 1 cC _ ld) rfl rfl rfl rfl (.inl (by rfl)) ?_
    simp only [aQ.down, simprocAttr, kZ.down, (du cl), (du bY)]
    (try simp only [bI.down, simprocAttr, bk, (du cl), (du bY)] at aA ⊢); exact aA
   rcases bl h with ⟨hN, h⟩ | ⟨hN, h⟩
   ·refine bt (congrArg j.bool hN) ?_
    simp only [(eM hN), aL.down]
    refine ws _ ?_
    exact a6 (bR _ (aI _ (.inl (a7 [.bool false] rfl (by cases a1 h; rfl) (by decide) bc))))
   ·refine bx (congrArg j.bool hN) ?_
    simp only [(du hN), aL.down]
    refine bF (cI _ (.inl ?_))
    refine ws _ ?_
    refine ba (fun kx gQ fM hM => ?_)
    refine ws _ ?_
    refine cE (fun py lL k6 iQ lJ => ?_)
    have k2 : ∀ (n : Nat) (gr : Int) (kX : Int), ph a0 ah n gr kX = some r → eA aN Ef py (I [(1, .int .i64 ah), (7, .int .i64 gr), (25, .slice (a0.map bk)), (26, .int .i64 (a0.length : Int)), (27, .int .i64 kX)]) := by
     intro gF
     induction gF with
     | zero => intro gr kX h; cases (show none = some r from h)
     | succ gF k3 =>
      intro gr kX h
      replace h : vw (ph a0 ah gF) a0 ah gr kX = some r := h
      refine e5 (fun X8 wm zv EV => ?_)
      refine ws _ ?_
      refine ba (fun zk nn s8 wa => ?_)
      rcases bl h with ⟨e6, h⟩ | ⟨e6, h⟩
      ·refine bt (congrArg j.bool e6) ?_
       simp only [e6, aL.down]
       refine bF (nn _ (.inl ?_))
       refine ba (fun v8 nm n6 rb => ?_)
       refine cE (fun EM s9 s_ lM wb => ?_)
       obtain ⟨bU, mO, h⟩ := aY h
       refine hX mO _ ?_
       refine ba (fun abA X9 EW abB => ?_)
       rcases bl h with ⟨jr, h⟩ | ⟨jr, h⟩
       ·refine hX jr _ ?_
        refine bt rfl ?_
        refine ws _ ?_
        exact a6 (EW _ (s_ _ (n6 _ (zv _ (k6 _ (fM _ (aI _ (.inl (a7 [.bool false] rfl (by cases a1 h; rfl) (by decide) bc)))))))))
       ·obtain ⟨cF, X_, h⟩ := aY h
        refine cX (cu [(1, .int .i64 ah), (7, .int .i64 gr), (9, .bD (bk bU)), (25, .slice (a0.map bk)), (26, .int .i64 (a0.length : Int)), (27, .int .i64 kX), (38, .bool (!cF))] (fun P aA => ?_) ?_)
        ·simp only [aQ.down, simprocAttr, eX, fG, bk, jr]
         refine iA (X5 bU ah _ X_) rfl rfl rfl rfl (.inl (by rfl)) ?_
         simp only [aQ.down, simprocAttr, eX, fG, bk, jr]
         (try simp only [bI.down, simprocAttr, bk, jr] at aA ⊢); exact aA
        rcases bl h with ⟨tf, h⟩ | ⟨tf, h⟩
        ·refine bt (congrArg j.bool tf) ?_
         simp only [(eM tf), aL.down]
         refine ws _ ?_
         exact a6 (EW _ (s_ _ (n6 _ (zv _ (k6 _ (fM _ (aI _ (.inl (a7 [.bool false] rfl (by cases a1 h; rfl) (by decide) bc)))))))))
        ·refine bx (congrArg j.bool tf) ?_
         simp only [(du tf), aL.down]
         refine bF (X9 _ (.inl ?_))
         obtain ⟨cw, pB, h⟩ := aY h
         refine Xd (X6 bU _ pB) _ ?_
         refine s9 _ (nm _ (.inl ?_))
         refine wr _ ?_
         exact wm _ (.inr ⟨_, cB rfl, k3 (IntKind.i64.wrap (gr + (IntKind.i64.wrap (cw - 1)))) (IntKind.i64.wrap (kX + 1)) h⟩)
      ·refine bx (congrArg j.bool e6) ?_
       simp only [e6, aL.down]
       refine eL (wa 0 _ (EV 0 _ (iQ _ (gQ _ (.inl ?_)))))
       refine ws _ ?_
       exact a6 (aI _ (.inl (a7 [.bool (gr == 0)] rfl (by cases a1 h; rfl) (by decide) bc)))
    obtain ⟨n, h⟩ := eY h
    exact e4 (.inr ⟨_, cB rfl, k2 n 1 0 h⟩)
theorem Ya (a0 : List a2) (ah : Int) (cC : bu) (r : Bool) (h : vy a0 ah cC = some r) : aX aN 294 [.slice (a0.map bk), .ref (.int .i64 ah), .ref (cA cC)] (.bool r) [] := by
 refine aX.cP (fx := [0, 1, 2]) cV [.tmp 4] [(0, .slice (a0.map bk)), (1, .ref (.int .i64 ah)), (2, .ref (cA cC))] Try.func294 rfl rfl Sy (Nat.le_of_ble_eq_true rfl) rfl rfl (fun cR aI cN => ?_)
 refine ws _ ?_
 obtain ⟨aC, bb, h⟩ := aY h
 refine fc (X7 a0 (IntKind.i64.wrap (ah + (cC.bz.length : Int))) 60 _ bb) _ ?_
 exact a6 (aI _ (.inl (a7 [.bool (!aC)] rfl (by cases a1 h; rfl) (by decide) bc)))
theorem Yb (a0 : List (List a2)) (hV : Int) (hW : bu) (r : Int) (h : y6 a0 hV hW = some r) : aX aN 320 [.slice (a0.map b3), .fn 294 [.ref (.int .i64 hV), .ref (cA hW)]] (.int .i64 r) [] := by
 refine aX.cP (fx := [0, 1]) cV [.tmp 4] [(0, .slice (a0.map b3)), (1, .fn 294 [.ref (.int .i64 hV), .ref (cA hW)])] Try.func320 rfl rfl SJ (Nat.le_of_ble_eq_true rfl) rfl rfl (fun cR aI cN => ?_)
 refine ws _ ?_
 refine ba (fun fa cI bR aM => ?_)
 refine ws _ ?_
 refine cE (fun fo fN c3 bX bU => ?_)
 have hj : ∀ (n : Nat) (et : Int), sQ a0 hV hW n et = some r → eA aN Eg fo (I [(0, .slice (a0.map b3)), (1, .fn 294 [.ref (.int .i64 hV), .ref (cA hW)]), (7, .int .i64 (a0.length : Int)), (8, .int .i64 et)]) := by
  intro dk
  induction dk with
  | zero => intro et h; cases (show none = some r from h)
  | succ dk g6 =>
   intro et h
   replace h : y5 (sQ a0 hV hW dk) a0 hV hW et = some r := h
   refine e5 (fun iP fY fm cF => ?_)
   refine ws _ ?_
   refine ba (fun ku gv g1 c0 => ?_)
   rcases bl h with ⟨bY, h⟩ | ⟨bY, h⟩
   ·refine bt (congrArg j.bool bY) ?_
    simp only [bY, aL.down]
    refine bF (gv _ (.inl ?_))
    refine ba (fun g4 eF eP df => ?_)
    refine cE (fun fX dp ed dc dB => ?_)
    refine ws _ ?_
    obtain ⟨aC, e2, h⟩ := aY h
    obtain ⟨aM, hB, h⟩ := aY h
    refine kY e2 (Ya aC hV hW _ hB) _ ?_
    rcases bl h with ⟨gR, h⟩ | ⟨gR, h⟩
    ·refine bt (congrArg j.bool gR) ?_
     simp only [gR, aL.down]
     refine ws _ ?_
     exact a6 (ed _ (eP _ (fm _ (c3 _ (bR _ (aI _ (.inl (a7 [.int .i64 et] rfl (by cases a1 h; rfl) (by decide) bc))))))))
    ·refine bx (congrArg j.bool gR) ?_
     simp only [gR, aL.down]
     refine bF (dp _ (eF _ (.inl ?_)))
     refine wr _ ?_
     exact fY _ (.inr ⟨_, cB rfl, g6 (IntKind.i64.wrap (et + 1)) h⟩)
   ·refine bx (congrArg j.bool bY) ?_
    simp only [bY, aL.down]
    refine eL (c0 0 _ (cF 0 _ (bX _ (cI _ (.inl ?_)))))
    refine ws _ ?_
    exact a6 (aI _ (.inl (a7 [.int .i64 (-1)] rfl (by cases a1 h; rfl) (by decide) bc)))
 obtain ⟨n, h⟩ := eY h
 exact e4 (.inr ⟨_, cB rfl, hj n 0 h⟩)
theorem zw (a0 : List (List a2)) (hV : Int) (hW : bu) (r : Bool) (h : pj a0 hV hW = some r) : aX aN 280 [.slice (a0.map b3), .fn 294 [.ref (.int .i64 hV), .ref (cA hW)]] (.bool r) [] := by
 refine aX.cP (fx := [0, 1]) cV [.tmp 4] [(0, .slice (a0.map b3)), (1, .fn 294 [.ref (.int .i64 hV), .ref (cA hW)])] Try.func280 rfl rfl SM (Nat.le_of_ble_eq_true rfl) rfl rfl (fun cR aI cN => ?_)
 refine ws _ ?_
 obtain ⟨aC, bb, h⟩ := aY h
 refine fc (Yb a0 hV hW _ bb) _ ?_
 exact a6 (aI _ (.inl (a7 [.bool (decide (0 ≤ aC))] rfl (by cases a1 h; rfl) (by decide) bc)))
theorem Yc (a0 : bu) (ah : Int) (r : Bool) (h : vz a0 ah = some r) : aX aN 237 [cA a0, .int .i64 ah] (.bool r) [] := by
 refine aX.cP (fx := [0, 1]) cV [.tmp 4] [(0, cA a0), (1, .int .i64 ah)] Try.func237 rfl rfl SX (Nat.le_of_ble_eq_true rfl) rfl rfl (fun cR aI cN => ?_)
 refine ws _ ?_
 refine ba (fun fa cI bR aM => ?_)
 obtain ⟨aC, cn, h⟩ := aY h
 refine cX (cu [(2, .bD (cA a0)), (3, .bD (.int .i64 ah)), (15, .bool ((!aC) || ((a0.Next.length : Int) != ah)))] (fun P aA => ?_) ?_)
 ·rcases Bool.eq_false_or_eq_true (aC) with pD | pD
  ·simp only [aQ.down, simprocAttr, fj.down, pD]
   refine eb (ER a0 _ cn) rfl rfl rfl rfl (.inl (by rfl)) ?_
   simp only [aQ.down, simprocAttr, fj.down, pD]
   (try simp only [bI.down, simprocAttr, jH.down, pD] at aA ⊢); exact aA
  ·simp only [aQ.down, simprocAttr, fj.down, pD]
   refine eb (ER a0 _ cn) rfl rfl rfl rfl (.inl (by rfl)) ?_
   simp only [aQ.down, simprocAttr, fj.down, pD]
   (try simp only [bI.down, simprocAttr, jH.down, pD] at aA ⊢); exact aA
 rcases bl h with ⟨dy, h⟩ | ⟨dy, h⟩
 ·refine bt (congrArg j.bool dy) ?_
  simp only [dy, aL.down]
  refine ws _ ?_
  exact a6 (bR _ (aI _ (.inl (a7 [.bool false] rfl (by cases a1 h; rfl) (by decide) bc))))
 ·refine bx (congrArg j.bool dy) ?_
  simp only [dy, aL.down]
  refine bF (cI _ (.inl ?_))
  refine ba (fun im gS gL eE => ?_)
  refine ws _ ?_
  rcases bl h with ⟨hN, h⟩ | ⟨hN, h⟩
  ·rcases bl h with ⟨c4, h⟩ | ⟨c4, h⟩
   ·refine hX (And.intro hN c4) _ ?_
    refine bt rfl ?_
    refine ws _ ?_
    exact a6 (gL _ (aI _ (.inl (a7 [.bool false] rfl (by cases a1 h; rfl) (by decide) bc))))
   ·rcases bl h with ⟨dq, h⟩ | ⟨dq, h⟩
    ·refine hX (And.intro hN (And.intro c4 dq)) _ ?_
     refine bt rfl ?_
     refine ws _ ?_
     exact a6 (gL _ (aI _ (.inl (a7 [.bool false] rfl (by cases a1 h; rfl) (by decide) bc))))
    ·obtain ⟨aM, dN, h⟩ := aY h
     refine cX (cu [(2, .bD (cA a0)), (3, .bD (.int .i64 ah)), (40, .bool (!aM))] (fun P aA => ?_) ?_)
     ·simp only [aQ.down, simprocAttr, fj.down, hN, c4, dq]
      refine iA (ET a0.Name _ dN) rfl rfl rfl rfl (.inl (by rfl)) ?_
      simp only [aQ.down, simprocAttr, fj.down, hN, c4, dq]
      (try simp only [bI.down, simprocAttr, jH.down, hN, c4, dq] at aA ⊢); exact aA
     rcases bl h with ⟨ee, h⟩ | ⟨ee, h⟩
     ·refine bt (congrArg j.bool ee) ?_
      simp only [(eM ee), aL.down]
      refine ws _ ?_
      exact a6 (gL _ (aI _ (.inl (a7 [.bool false] rfl (by cases a1 h; rfl) (by decide) bc))))
     ·refine bx (congrArg j.bool ee) ?_
      simp only [(du ee), aL.down]
      refine bF (gS _ (.inl ?_))
      obtain ⟨a8, mM, h⟩ := aY h
      obtain ⟨bU, pz, h⟩ := aY h
      refine cX (cu [(4, .bool (!bU))] (fun P aA => ?_) ?_)
      ·simp only [aQ.down, simprocAttr, fj.down]
       refine eb (zu a0 _ mM) rfl rfl rfl rfl (.inl (by rfl)) ?_
       simp only [aQ.down, simprocAttr, fj.down]
       refine eb (zw a8 ah a0 _ pz) rfl rfl (by simp only [aQ.down, simprocAttr, fj.down, gn, gp, gq, dE, @cm _ b3 b3 (fun _ => kr _), @cm _ bf bf (fun _ => ij _), @cm _ bk bk (fun _ => lK _), @cm _ b3 b3 (fun _ => kr _), @cm _ b3 b3 (fun _ => kr _)] <;> rfl) rfl (.inr (by rfl)) ?_
       simp only [aQ.down, simprocAttr, fj.down]
       (try simp only [bI.down, simprocAttr, jH.down] at aA ⊢); exact aA
      exact a6 (aI _ (.inl (a7 [.bool (!bU)] rfl (by cases a1 h; rfl) (by decide) bc)))
  ·rcases bl h with ⟨lM, h⟩ | ⟨lM, h⟩
   ·obtain ⟨cF, jN, h⟩ := aY h
    refine cX (cu [(2, .bD (cA a0)), (3, .bD (.int .i64 ah)), (40, .bool (!cF))] (fun P aA => ?_) ?_)
    ·simp only [aQ.down, simprocAttr, fj.down, hN, lM]
     refine iA (ET a0.Name _ jN) rfl rfl rfl rfl (.inl (by rfl)) ?_
     simp only [aQ.down, simprocAttr, fj.down, hN, lM]
     (try simp only [bI.down, simprocAttr, jH.down, hN, lM] at aA ⊢); exact aA
    rcases bl h with ⟨hC, h⟩ | ⟨hC, h⟩
    ·refine bt (congrArg j.bool hC) ?_
     simp only [(eM hC), aL.down]
     refine ws _ ?_
     exact a6 (gL _ (aI _ (.inl (a7 [.bool false] rfl (by cases a1 h; rfl) (by decide) bc))))
    ·refine bx (congrArg j.bool hC) ?_
     simp only [(du hC), aL.down]
     refine bF (gS _ (.inl ?_))
     obtain ⟨cw, zx, h⟩ := aY h
     obtain ⟨c0, Yd, h⟩ := aY h
     refine cX (cu [(4, .bool (!c0))] (fun P aA => ?_) ?_)
     ·simp only [aQ.down, simprocAttr, fj.down]
      refine eb (zu a0 _ zx) rfl rfl rfl rfl (.inl (by rfl)) ?_
      simp only [aQ.down, simprocAttr, fj.down]
      refine eb (zw cw ah a0 _ Yd) rfl rfl (by simp only [aQ.down, simprocAttr, fj.down, gn, gp, gq, dE, @cm _ b3 b3 (fun _ => kr _), @cm _ bf bf (fun _ => ij _), @cm _ bk bk (fun _ => lK _), @cm _ b3 b3 (fun _ => kr _), @cm _ b3 b3 (fun _ => kr _)] <;> rfl) rfl (.inr (by rfl)) ?_
      simp only [aQ.down, simprocAttr, fj.down]
      (try simp only [bI.down, simprocAttr, jH.down] at aA ⊢); exact aA
     exact a6 (aI _ (.inl (a7 [.bool (!c0)] rfl (by cases a1 h; rfl) (by decide) bc)))
   ·refine hX (And.intro hN lM) _ ?_
    refine bx rfl ?_
    refine bF (gS _ (.inl ?_))
    obtain ⟨eE, zy, h⟩ := aY h
    obtain ⟨df, mP, h⟩ := aY h
    refine cX (cu [(4, .bool (!df))] (fun P aA => ?_) ?_)
    ·simp only [aQ.down, simprocAttr, fj.down]
     refine eb (zu a0 _ zy) rfl rfl rfl rfl (.inl (by rfl)) ?_
     simp only [aQ.down, simprocAttr, fj.down]
     refine eb (zw eE ah a0 _ mP) rfl rfl (by simp only [aQ.down, simprocAttr, fj.down, gn, gp, gq, dE, @cm _ b3 b3 (fun _ => kr _), @cm _ bf bf (fun _ => ij _), @cm _ bk bk (fun _ => lK _), @cm _ b3 b3 (fun _ => kr _), @cm _ b3 b3 (fun _ => kr _)] <;> rfl) rfl (.inr (by rfl)) ?_
     simp only [aQ.down, simprocAttr, fj.down]
     (try simp only [bI.down, simprocAttr, jH.down] at aA ⊢); exact aA
    exact a6 (aI _ (.inl (a7 [.bool (!df)] rfl (by cases a1 h; rfl) (by decide) bc)))
theorem Ye (a0 : bu) (ah : dM) (r : Bool) (h : vA a0 ah = some r) : aX aN 236 [cA a0, .ref (ev ah)] (.bool r) [] := by
 refine aX.cP (fx := [0, 1]) cV [.tmp 3] [(0, cA a0), (1, .ref (ev ah))] Try.func236 rfl rfl S0 (Nat.le_of_ble_eq_true rfl) rfl rfl (fun cR aI cN => ?_)
 refine ws _ ?_
 obtain ⟨aC, bb, h⟩ := aY h
 refine fc (Yc a0 ah.dK _ bb) _ ?_
 exact a6 (aI _ (.inl (a7 [.bool (!aC)] rfl (by cases a1 h; rfl) (by decide) bc)))
theorem Yf (a0 : List bu) (ah : dM) (r : Int) (h : y8 a0 ah = some r) : aX aN 291 [.slice (a0.map cA), .fn 236 [.ref (ev ah)]] (.int .i64 r) [] := by
 refine aX.cP (fx := [0, 1]) cV [.tmp 4] [(0, .slice (a0.map cA)), (1, .fn 236 [.ref (ev ah)])] Try.func291 rfl rfl Ta (Nat.le_of_ble_eq_true rfl) rfl rfl (fun cR aI cN => ?_)
 refine ws _ ?_
 refine ba (fun fa cI bR aM => ?_)
 refine ws _ ?_
 refine cE (fun fo fN c3 bX bU => ?_)
 have hj : ∀ (n : Nat) (et : Int), sR a0 ah n et = some r → eA aN Eh fo (I [(0, .slice (a0.map cA)), (1, .fn 236 [.ref (ev ah)]), (7, .int .i64 (a0.length : Int)), (8, .int .i64 et)]) := by
  intro dk
  induction dk with
  | zero => intro et h; cases (show none = some r from h)
  | succ dk g6 =>
   intro et h
   replace h : y7 (sR a0 ah dk) a0 ah et = some r := h
   refine e5 (fun iP fY fm cF => ?_)
   refine ws _ ?_
   refine ba (fun ku gv g1 c0 => ?_)
   rcases bl h with ⟨bY, h⟩ | ⟨bY, h⟩
   ·refine bt (congrArg j.bool bY) ?_
    simp only [bY, aL.down]
    refine bF (gv _ (.inl ?_))
    refine ba (fun g4 eF eP df => ?_)
    refine cE (fun fX dp ed dc dB => ?_)
    refine ws _ ?_
    obtain ⟨aC, e2, h⟩ := aY h
    obtain ⟨aM, hB, h⟩ := aY h
    refine kY e2 (Ye aC ah _ hB) _ ?_
    rcases bl h with ⟨gR, h⟩ | ⟨gR, h⟩
    ·refine bt (congrArg j.bool gR) ?_
     simp only [gR, aL.down]
     refine ws _ ?_
     exact a6 (ed _ (eP _ (fm _ (c3 _ (bR _ (aI _ (.inl (a7 [.int .i64 et] rfl (by cases a1 h; rfl) (by decide) bc))))))))
    ·refine bx (congrArg j.bool gR) ?_
     simp only [gR, aL.down]
     refine bF (dp _ (eF _ (.inl ?_)))
     refine wr _ ?_
     exact fY _ (.inr ⟨_, cB rfl, g6 (IntKind.i64.wrap (et + 1)) h⟩)
   ·refine bx (congrArg j.bool bY) ?_
    simp only [bY, aL.down]
    refine eL (c0 0 _ (cF 0 _ (bX _ (cI _ (.inl ?_)))))
    refine ws _ ?_
    exact a6 (aI _ (.inl (a7 [.int .i64 (-1)] rfl (by cases a1 h; rfl) (by decide) bc)))
 obtain ⟨n, h⟩ := eY h
 exact e4 (.inr ⟨_, cB rfl, hj n 0 h⟩)
theorem Yg (a0 : List bu) (ah : dM) (r : Bool) (h : y9 a0 ah = some r) : aX aN 235 [.slice (a0.map cA), .fn 236 [.ref (ev ah)]] (.bool r) [] := by
 refine aX.cP (fx := [0, 1]) cV [.tmp 4] [(0, .slice (a0.map cA)), (1, .fn 236 [.ref (ev ah)])] Try.func235 rfl rfl Td (Nat.le_of_ble_eq_true rfl) rfl rfl (fun cR aI cN => ?_)
 refine ws _ ?_
 obtain ⟨aC, bb, h⟩ := aY h
 refine fc (Yf a0 ah _ bb) _ ?_
 exact a6 (aI _ (.inl (a7 [.bool (decide (0 ≤ aC))] rfl (by cases a1 h; rfl) (by decide) bc)))
theorem Yh (a0 : dM) (r : Bool) (h : vB a0 = some r) : aX aN 160 [ev a0] (.bool r) [] := by
 refine aX.cP (fx := [0]) cV [.tmp 2] [(0, ev a0)] Try.func160 rfl rfl Tj (Nat.le_of_ble_eq_true rfl) rfl rfl (fun cR aI cN => ?_)
 refine ws _ ?_
 refine ba (fun fa cI bR aM => ?_)
 obtain ⟨aC, cn, h⟩ := aY h
 rcases bl h with ⟨cl, h⟩ | ⟨cl, h⟩
 ·refine kY (eM cl) (k7 a0.dK 0 21 _ cn) _ ?_
  refine bt rfl ?_
  refine ws _ ?_
  exact a6 (bR _ (aI _ (.inl (a7 [.bool false] rfl (by cases a1 h; rfl) (by decide) bc))))
 ·obtain ⟨aM, bS, h⟩ := aY h
  refine cX (cu [(1, .bD (ev a0)), (19, .bool ((!aM) || (decide (60 < (a0.cG.length : Int)))))] (fun P aA => ?_) ?_)
  ·rcases Bool.eq_false_or_eq_true (aM) with iR | iR
   ·simp only [aQ.down, simprocAttr, ik.down, (du cl), iR]
    refine eb (k7 a0.dK 0 21 _ cn) rfl rfl rfl rfl (.inl (by rfl)) ?_
    simp only [aQ.down, simprocAttr, ik.down, (du cl), iR]
    refine iA (EP a0 a0.Start _ bS) rfl rfl rfl rfl (.inl (by rfl)) ?_
    simp only [aQ.down, simprocAttr, ik.down, (du cl), iR]
    (try simp only [bI.down, simprocAttr, ml.down, (du cl), iR] at aA ⊢); exact aA
   ·simp only [aQ.down, simprocAttr, ik.down, (du cl), iR]
    refine eb (k7 a0.dK 0 21 _ cn) rfl rfl rfl rfl (.inl (by rfl)) ?_
    simp only [aQ.down, simprocAttr, ik.down, (du cl), iR]
    refine iA (EP a0 a0.Start _ bS) rfl rfl rfl rfl (.inl (by rfl)) ?_
    simp only [aQ.down, simprocAttr, ik.down, (du cl), iR]
    (try simp only [bI.down, simprocAttr, ml.down, (du cl), iR] at aA ⊢); exact aA
  rcases bl h with ⟨dF, h⟩ | ⟨dF, h⟩
  ·refine bt (congrArg j.bool dF) ?_
   simp only [dF, aL.down]
   refine ws _ ?_
   exact a6 (bR _ (aI _ (.inl (a7 [.bool false] rfl (by cases a1 h; rfl) (by decide) bc))))
  ·refine bx (congrArg j.bool dF) ?_
   simp only [dF, aL.down]
   refine bF (cI _ (.inl ?_))
   obtain ⟨a8, ej, h⟩ := aY h
   refine cX (cu [(2, .bool (!a8))] (fun P aA => ?_) ?_)
   ·simp only [aQ.down, simprocAttr, ik.down]
    refine eb (Yg a0.cG a0 _ ej) rfl rfl (by simp only [aQ.down, simprocAttr, ik.down, gn, gp, gq, dE, @cm _ bf bf (fun _ => ij _), @cm _ cA cA (fun _ => vV _)] <;> rfl) rfl (.inr (by rfl)) ?_
    simp only [aQ.down, simprocAttr, ik.down]
    (try simp only [bI.down, simprocAttr, ml.down] at aA ⊢); exact aA
   exact a6 (aI _ (.inl (a7 [.bool (!a8)] rfl (by cases a1 h; rfl) (by decide) bc)))
theorem Yi (a0 r : List (List UInt8)) (h : sS a0 = some r) : aX aN 178 [.ay 1 (a0.map aR)] (.tuple []) [.ay 1 (r.map aR)] := Xb a0 r h
theorem Yj (a0 r : List (List UInt8)) (h : vC a0 = some r) : aX aN 179 [.ay 1 (a0.map aR)] (.ay 1 (r.map aR)) [.hole] := Xc a0 r h
theorem EX (a0 : dM) (r : (List (List UInt8)) × Int) (h : sT a0 = some r) : aX aN 84 [ev a0] (.tuple [.ay 1 (r.1.map aR), .int .i64 r.2]) [] := by
 refine aX.cP (fx := [0]) cV [.tmp 2, .tmp 3] [(0, ev a0)] Try.func84 rfl rfl Ty (Nat.le_of_ble_eq_true rfl) rfl rfl (fun cR aI cN => ?_)
 refine ws _ ?_
 refine ba (fun fa cI bR aM => ?_)
 obtain ⟨aC, cn, h⟩ := aY h
 refine fc (Yh a0 _ cn) _ ?_
 rcases bl h with ⟨cl, h⟩ | ⟨cl, h⟩
 ·refine bt (congrArg j.bool cl) ?_
  simp only [(eM cl), aL.down]
  refine ws _ ?_
  exact a6 (bR _ (aI _ (.inr ⟨[(2, .ay 1 []), (3, .int .i64 1)], o2 [] rfl (o4 (t := 2) (d := .a_) rfl rfl (.j1 _) (by decide) (lC rfl (o3))), a7 [.ay 1 [], .int .i64 1] rfl (by cases a1 h; rfl) (by decide) bc⟩)))
 ·refine bx (congrArg j.bool cl) ?_
  simp only [(du cl), aL.down]
  refine bF (cI _ (.inl ?_))
  refine ws _ ?_
  refine ba (fun im gS gL eE => ?_)
  refine ws _ ?_
  refine cE (fun fX dp ed dc dB => ?_)
  have k2 : ∀ (n : Nat) (dX : List (List UInt8)) (j6 : Int), nY a0 n dX j6 = some r → eA aN Ej fX (I [(4, .ay 1 (dX.map aR)), (11, .slice (a0.cG.map cA)), (12, .int .i64 (a0.cG.length : Int)), (13, .int .i64 j6)]) := by
   intro gF
   induction gF with
   | zero => intro dX j6 h; cases (show none = some r from h)
   | succ gF k3 =>
    intro dX j6 h
    replace h : vE (nY a0 gF) a0 dX j6 = some r := h
    refine e5 (fun kv gP jq eO => ?_)
    refine ws _ ?_
    refine ba (fun np jO ky kq => ?_)
    rcases bl h with ⟨dq, h⟩ | ⟨dq, h⟩
    ·refine bt (congrArg j.bool dq) ?_
     simp only [dq, aL.down]
     refine bF (jO _ (.inl ?_))
     have EY : ∀ (q6 : List (List UInt8)) (q7 : Int), vD (nY a0 gF) a0 q6 q7 = some r → db aN Ei kv (I [(4, .ay 1 (q6.map aR)), (11, .slice (a0.cG.map cA)), (12, .int .i64 (a0.cG.length : Int)), (13, .int .i64 q7)]) := by
      intro q6 q7 h
      refine wr _ ?_
      exact gP _ (.inr ⟨_, cB rfl, k3 q6 (IntKind.i64.wrap (q7 + 1)) h⟩)
     refine ba (fun n5 iO j8 j7 => ?_)
     refine cE (fun X8 wm zv ee EV => ?_)
     obtain ⟨aM, jL, h⟩ := aY h
     refine hX jL _ ?_
     refine ws _ ?_
     rcases bl h with ⟨tg, h⟩ | ⟨tg, h⟩
     ·refine bt (congrArg j.bool tg) ?_
      simp only [tg, aL.down]
      obtain ⟨abC, jN, h⟩ := aY h
      (try simp only [List.length_append, List.length_cons, List.length_nil, List.length_map, List.length_replicate, Nat.zero_add, Nat.add_zero, Nat.reduceAdd] at jN)
      refine i1 (cu [(4, .ay 1 ((dX ++ [aM.Name]).map aR)), (11, .slice (a0.cG.map cA)), (12, .int .i64 (a0.cG.length : Int)), (13, .int .i64 j6)] (fun P aA => ?_) ?_)
      ·simp only [aQ.down, simprocAttr, eX, fU, fV, hL, qS, fG, gN, jD, bf, cA, bk, b3, aR, (show ∀ s, c_ aN s 100 1 [(0, .str aM.Name)] = some (.ay 1 [.str aM.Name], s) from fun s => by kernel_rfl), @kM aN 100 100 9 rfl rfl, kN, kO, kP, all_cons, all_nil, jN, @kL _ aR 1 (fun _ => rfl)]
       (try simp only [bI.down, simprocAttr, s7.down, (show ∀ s, c_ aN s 100 1 [(0, .str aM.Name)] = some (.ay 1 [.str aM.Name], s) from fun s => by kernel_rfl), @kM aN 100 100 9 rfl rfl, kN, kO, kP, all_cons, all_nil, jN, @kL _ aR 1 (fun _ => rfl)] at aA ⊢); exact aA
      exact wm _ (iO _ (.inr ⟨_, cB rfl, EY (dX ++ [aM.Name]) j6 h⟩))
     ·refine bx (congrArg j.bool tg) ?_
      simp only [tg, aL.down]
      exact bF (wm _ (iO _ (.inr ⟨_, cB rfl, EY dX j6 h⟩)))
    ·refine bx (congrArg j.bool dq) ?_
     simp only [dq, aL.down]
     refine eL (kq 0 _ (eO 0 _ (dc _ (gS _ (.inl ?_)))))
     obtain ⟨a8, hn, h⟩ := aY h
     refine cX (cu [(4, .ay 1 (a8.map aR))] (fun P aA => ?_) ?_)
     ·simp only [aQ.down, simprocAttr, s7.down]
      refine mK [⟨.h 4 [], true, _, _⟩] (Yi dX _ hn) rfl rfl rfl (by simp only [aQ.down, simprocAttr, s7.down, o8, l_, kQ, gn, gp, gq, dE, or_true, true_or, @cm _ aR aR (fun _ => iB _)]) rfl rfl (.inl rfl) ?_
      simp only [aQ.down, simprocAttr, s7.down, ma]
      (try simp only [bI.down, simprocAttr, s7.down] at aA ⊢); exact aA
     obtain ⟨bU, zx, h⟩ := aY h
     refine cX (cu [(2, .ay 1 (bU.map aR)), (3, .int .i64 0)] (fun P aA => ?_) ?_)
     ·simp only [aQ.down, simprocAttr, aR]
      refine mK [⟨.h 4 [], true, _, .hole⟩] (Yj a8 _ zx) rfl rfl rfl (by simp only [aQ.down, simprocAttr, aR, o8, l_, kQ, gn, gp, gq, dE, or_true, true_or, @cm _ aR aR (fun _ => iB _)]) rfl rfl (.inl rfl) ?_
      simp only [aQ.down, simprocAttr, aR, ma]
      (try simp only [bI.down, simprocAttr, aR] at aA ⊢); exact aA
     exact a6 (aI _ (.inl (a7 [.ay 1 (bU.map aR), .int .i64 0] rfl (by cases a1 h; rfl) (by decide) bc)))
  obtain ⟨n, h⟩ := eY h
  exact e4 (.inr ⟨_, o2 [] rfl (o4 (t := 4) (d := .a_) (bj := .ay 1 []) rfl rfl (.j1 _) (by decide) (lC (t := 11) (d := .slice (a0.cG.map cA)) rfl (lC (t := 12) (d := .int .i64 (a0.cG.length : Int)) rfl (lC (t := 13) (d := .int .i64 0) rfl (o3))))), k2 n [] 0 h⟩)
theorem rk (a0 : List (List UInt8)) (ah : List (List UInt8)) (r : Bool) (h : q8 a0 ah = some r) : aX aN 85 [.slice (a0.map aR), .slice (ah.map aR)] (.bool r) [] := by
 refine aX.cP (fx := [0, 1]) cV [.tmp 4] [(0, .slice (a0.map aR)), (1, .slice (ah.map aR))] Try.func85 rfl rfl TL (Nat.le_of_ble_eq_true rfl) rfl rfl (fun cR aI cN => ?_)
 refine ws _ ?_
 refine ba (fun fa cI bR aM => ?_)
 refine ws _ ?_
 rcases bl h with ⟨bX, h⟩ | ⟨bX, h⟩
 ·refine bt (congrArg j.bool bX) ?_
  simp only [bX, aL.down]
  refine ws _ ?_
  exact a6 (bR _ (aI _ (.inl (a7 [.bool false] rfl (by cases a1 h; rfl) (by decide) bc))))
 ·refine bx (congrArg j.bool bX) ?_
  simp only [bX, aL.down]
  refine bF (cI _ (.inl ?_))
  refine ba (fun gG eQ e_ cw => ?_)
  refine ws _ ?_
  refine cE (fun im gS gL bY eE => ?_)
  have j9 : ∀ (n : Nat) (cQ : Int), vF a0 ah n cQ = some r → eA aN Ek im (I [(0, .slice (a0.map aR)), (1, .slice (ah.map aR)), (5, .int .i64 cQ)]) := by
   intro fZ
   induction fZ with
   | zero => intro cQ h; cases (show none = some r from h)
   | succ fZ jM =>
    intro cQ h
    replace h : DG (vF a0 ah fZ) a0 ah cQ = some r := h
    refine e5 (fun g4 eF eP df => ?_)
    refine ba (fun fX dp ed dB => ?_)
    refine ws _ ?_
    rcases bl h with ⟨c4, h⟩ | ⟨c4, h⟩
    ·refine bt (congrArg j.bool c4) ?_
     simp only [c4, aL.down]
     refine bF (dp _ (.inl ?_))
     refine ba (fun np jO ky kq => ?_)
     refine cE (fun kx gQ fM dq hM => ?_)
     obtain ⟨aC, dN, h⟩ := aY h
     obtain ⟨aM, il, h⟩ := aY h
     refine lz rfl (lA [(0, .slice (a0.map aR)), (1, .slice (ah.map aR)), (5, .int .i64 cQ), (25, .bool (!(aC == aM)))] (fun P aA => ?_) ?_)
     ·simp only [g2.down, simprocAttr, jI.down, dN, il]
      refine ⟨kT (by kernel_rfl), ?_⟩
      (try simp only [bI.down, simprocAttr, aR, dN, il] at aA ⊢); exact aA
     rcases bl h with ⟨fp, h⟩ | ⟨fp, h⟩
     ·refine bt (congrArg j.bool fp) ?_
      simp only [fp, aL.down]
      refine ws _ ?_
      exact a6 (fM _ (ky _ (eP _ (gL _ (e_ _ (aI _ (.inl (a7 [.bool false] rfl (by cases a1 h; rfl) (by decide) bc))))))))
     ·refine bx (congrArg j.bool fp) ?_
      simp only [fp, aL.down]
      refine bF (gQ _ (jO _ (.inl ?_)))
      refine wr _ ?_
      exact eF _ (.inr ⟨_, cB rfl, jM (IntKind.i64.wrap (cQ + 1)) h⟩)
    ·refine bx (congrArg j.bool c4) ?_
     simp only [c4, aL.down]
     refine eL (dB 0 _ (df 0 _ (bY _ (eQ _ (.inl ?_)))))
     refine ws _ ?_
     exact a6 (aI _ (.inl (a7 [.bool true] rfl (by cases a1 h; rfl) (by decide) bc)))
  obtain ⟨n, h⟩ := eY h
  exact e4 (.inr ⟨_, cB rfl, j9 n 0 h⟩)
theorem EZ (a0 : List Int) (ah : List Int) (r : Bool) (h : sU a0 ah = some r) : aX aN 59 [.slice (a0.map bf), .slice (ah.map bf)] (.bool r) [] := by
 refine aX.cP (fx := [0, 1]) cV [.tmp 4] [(0, .slice (a0.map bf)), (1, .slice (ah.map bf))] Try.func59 rfl rfl mi (Nat.le_of_ble_eq_true rfl) rfl rfl (fun cR aI cN => ?_)
 refine ws _ ?_
 refine ba (fun fa cI bR aM => ?_)
 refine ws _ ?_
 rcases bl h with ⟨bX, h⟩ | ⟨bX, h⟩
 ·refine bt (congrArg j.bool bX) ?_
  simp only [bX, aL.down]
  refine ws _ ?_
  exact a6 (bR _ (aI _ (.inl (a7 [.bool false] rfl (by cases a1 h; rfl) (by decide) bc))))
 ·refine bx (congrArg j.bool bX) ?_
  simp only [bX, aL.down]
  refine bF (cI _ (.inl ?_))
  refine ba (fun gG eQ e_ cw => ?_)
  refine ws _ ?_
  refine cE (fun im gS gL bY eE => ?_)
  have j9 : ∀ (n : Nat) (cQ : Int), vG a0 ah n cQ = some r → eA aN El im (I [(0, .slice (a0.map bf)), (1, .slice (ah.map bf)), (5, .int .i64 cQ)]) := by
   intro fZ
   induction fZ with
   | zero => intro cQ h; cases (show none = some r from h)
   | succ fZ jM =>
    intro cQ h
    replace h : DH (vG a0 ah fZ) a0 ah cQ = some r := h
    refine e5 (fun g4 eF eP df => ?_)
    refine ba (fun fX dp ed dB => ?_)
    refine ws _ ?_
    rcases bl h with ⟨c4, h⟩ | ⟨c4, h⟩
    ·refine bt (congrArg j.bool c4) ?_
     simp only [c4, aL.down]
     refine bF (dp _ (.inl ?_))
     refine ba (fun np jO ky kq => ?_)
     refine cE (fun kx gQ fM dq hM => ?_)
     obtain ⟨aC, dN, h⟩ := aY h
     obtain ⟨aM, il, h⟩ := aY h
     refine lz rfl (lA [(0, .slice (a0.map bf)), (1, .slice (ah.map bf)), (5, .int .i64 cQ), (25, .bool (aC != aM))] (fun P aA => ?_) ?_)
     ·simp only [g2.down, simprocAttr, eX, hL, bf, dN, il]
      refine ⟨kT (by kernel_rfl), ?_⟩
      (try simp only [bI.down, simprocAttr, bf, dN, il] at aA ⊢); exact aA
     rcases bl h with ⟨fp, h⟩ | ⟨fp, h⟩
     ·refine bt (congrArg j.bool fp) ?_
      simp only [fp, aL.down]
      refine ws _ ?_
      exact a6 (fM _ (ky _ (eP _ (gL _ (e_ _ (aI _ (.inl (a7 [.bool false] rfl (by cases a1 h; rfl) (by decide) bc))))))))
     ·refine bx (congrArg j.bool fp) ?_
      simp only [fp, aL.down]
      refine bF (gQ _ (jO _ (.inl ?_)))
      refine wr _ ?_
      exact eF _ (.inr ⟨_, cB rfl, jM (IntKind.i64.wrap (cQ + 1)) h⟩)
    ·refine bx (congrArg j.bool c4) ?_
     simp only [c4, aL.down]
     refine eL (dB 0 _ (df 0 _ (bY _ (eQ _ (.inl ?_)))))
     refine ws _ ?_
     exact a6 (aI _ (.inl (a7 [.bool true] rfl (by cases a1 h; rfl) (by decide) bc)))
  obtain ⟨n, h⟩ := eY h
  exact e4 (.inr ⟨_, cB rfl, j9 n 0 h⟩)
theorem Yk (a0 : a2) (ah : a2) (r : Bool) (h : sV a0 ah = some r) : aX aN 111 [bk a0, bk ah] (.bool r) [] := by
 refine aX.cP (fx := [0, 1]) cV [.tmp 4] [(0, bk a0), (1, bk ah)] Try.func111 rfl rfl T6 (Nat.le_of_ble_eq_true rfl) rfl rfl (fun cR aI cN => ?_)
 refine ws _ ?_
 refine ba (fun fa cI bR aM => ?_)
 refine ws _ ?_
 rcases bl h with ⟨bX, h⟩ | ⟨bX, h⟩
 ·refine bt (congrArg j.bool bX) ?_
  simp only [bX, aL.down]
  refine ws _ ?_
  exact a6 (bR _ (aI _ (.inl (a7 [.bool false] rfl (by cases a1 h; rfl) (by decide) bc))))
 ·refine bx (congrArg j.bool bX) ?_
  simp only [bX, aL.down]
  refine bF (cI _ (.inl ?_))
  refine ba (fun gG eQ e_ cw => ?_)
  refine ws _ ?_
  rcases bl h with ⟨bY, h⟩ | ⟨bY, h⟩
  ·refine bt (congrArg j.bool bY) ?_
   simp only [bY, aL.down]
   refine ws _ ?_
   exact a6 (e_ _ (aI _ (.inl (a7 [.bool false] rfl (by cases a1 h; rfl) (by decide) bc))))
  ·refine bx (congrArg j.bool bY) ?_
   simp only [bY, aL.down]
   refine bF (eQ _ (.inl ?_))
   refine ws _ ?_
   exact a6 (aI _ (.inl (a7 [.bool true] rfl (by cases a1 h; rfl) (by decide) bc)))
theorem E0 (a0 : List a2) (ah : List a2) (r : Bool) (h : q9 a0 ah = some r) : aX aN 35 [.slice (a0.map bk), .slice (ah.map bk)] (.bool r) [] := by
 refine aX.cP (fx := [0, 1]) cV [.tmp 4] [(0, .slice (a0.map bk)), (1, .slice (ah.map bk))] Try.func35 rfl rfl Ui (Nat.le_of_ble_eq_true rfl) rfl rfl (fun cR aI cN => ?_)
 refine ws _ ?_
 refine ba (fun fa cI bR aM => ?_)
 refine ws _ ?_
 rcases bl h with ⟨bX, h⟩ | ⟨bX, h⟩
 ·refine bt (congrArg j.bool bX) ?_
  simp only [bX, aL.down]
  refine ws _ ?_
  exact a6 (bR _ (aI _ (.inl (a7 [.bool false] rfl (by cases a1 h; rfl) (by decide) bc))))
 ·refine bx (congrArg j.bool bX) ?_
  simp only [bX, aL.down]
  refine bF (cI _ (.inl ?_))
  refine ba (fun gG eQ e_ cw => ?_)
  refine ws _ ?_
  refine cE (fun im gS gL bY eE => ?_)
  have j9 : ∀ (n : Nat) (cQ : Int), vH a0 ah n cQ = some r → eA aN Em im (I [(0, .slice (a0.map bk)), (1, .slice (ah.map bk)), (5, .int .i64 cQ)]) := by
   intro fZ
   induction fZ with
   | zero => intro cQ h; cases (show none = some r from h)
   | succ fZ jM =>
    intro cQ h
    replace h : DI (vH a0 ah fZ) a0 ah cQ = some r := h
    refine e5 (fun g4 eF eP df => ?_)
    refine ba (fun fX dp ed dB => ?_)
    refine ws _ ?_
    rcases bl h with ⟨c4, h⟩ | ⟨c4, h⟩
    ·refine bt (congrArg j.bool c4) ?_
     simp only [c4, aL.down]
     refine bF (dp _ (.inl ?_))
     refine ba (fun np jO ky kq => ?_)
     refine cE (fun kx gQ fM dq hM => ?_)
     obtain ⟨aC, dN, h⟩ := aY h
     obtain ⟨aM, il, h⟩ := aY h
     obtain ⟨a8, g5, h⟩ := aY h
     refine lz rfl (lA [(0, .slice (a0.map bk)), (1, .slice (ah.map bk)), (5, .int .i64 cQ), (26, .bool (!a8))] (fun P aA => ?_) ?_)
     ·simp only [g2.down, simprocAttr, kZ.down, dN, il]
      refine mI (Yk aC aM _ g5) rfl rfl rfl rfl (.inl (by rfl)) ?_
      simp only [g2.down, simprocAttr, kZ.down, dN, il]
      refine ⟨kT (by kernel_rfl), ?_⟩
      (try simp only [bI.down, simprocAttr, bk, dN, il] at aA ⊢); exact aA
     rcases bl h with ⟨gi, h⟩ | ⟨gi, h⟩
     ·refine bt (congrArg j.bool gi) ?_
      simp only [(eM gi), aL.down]
      refine ws _ ?_
      exact a6 (fM _ (ky _ (eP _ (gL _ (e_ _ (aI _ (.inl (a7 [.bool false] rfl (by cases a1 h; rfl) (by decide) bc))))))))
     ·refine bx (congrArg j.bool gi) ?_
      simp only [(du gi), aL.down]
      refine bF (gQ _ (jO _ (.inl ?_)))
      refine wr _ ?_
      exact eF _ (.inr ⟨_, cB rfl, jM (IntKind.i64.wrap (cQ + 1)) h⟩)
    ·refine bx (congrArg j.bool c4) ?_
     simp only [c4, aL.down]
     refine eL (dB 0 _ (df 0 _ (bY _ (eQ _ (.inl ?_)))))
     refine ws _ ?_
     exact a6 (aI _ (.inl (a7 [.bool true] rfl (by cases a1 h; rfl) (by decide) bc)))
  obtain ⟨n, h⟩ := eY h
  exact e4 (.inr ⟨_, cB rfl, j9 n 0 h⟩)
theorem E1 (a0 : List (List a2)) (ah : List (List a2)) (r : Bool) (h : sW a0 ah = some r) : aX aN 295 [.slice (a0.map b3), .slice (ah.map b3)] (.bool r) [] := by
 refine aX.cP (fx := [0, 1]) cV [.tmp 4] [(0, .slice (a0.map b3)), (1, .slice (ah.map b3))] Try.func295 rfl rfl Uv (Nat.le_of_ble_eq_true rfl) rfl rfl (fun cR aI cN => ?_)
 refine ws _ ?_
 refine ba (fun fa cI bR aM => ?_)
 refine ws _ ?_
 rcases bl h with ⟨bX, h⟩ | ⟨bX, h⟩
 ·refine bt (congrArg j.bool bX) ?_
  simp only [bX, aL.down]
  refine ws _ ?_
  exact a6 (bR _ (aI _ (.inl (a7 [.bool false] rfl (by cases a1 h; rfl) (by decide) bc))))
 ·refine bx (congrArg j.bool bX) ?_
  simp only [bX, aL.down]
  refine bF (cI _ (.inl ?_))
  refine ba (fun gG eQ e_ cw => ?_)
  refine ws _ ?_
  refine cE (fun im gS gL bY eE => ?_)
  have j9 : ∀ (n : Nat) (cQ : Int), vI a0 ah n cQ = some r → eA aN En im (I [(0, .slice (a0.map b3)), (1, .slice (ah.map b3)), (5, .int .i64 cQ)]) := by
   intro fZ
   induction fZ with
   | zero => intro cQ h; cases (show none = some r from h)
   | succ fZ jM =>
    intro cQ h
    replace h : DJ (vI a0 ah fZ) a0 ah cQ = some r := h
    refine e5 (fun g4 eF eP df => ?_)
    refine ba (fun fX dp ed dB => ?_)
    refine ws _ ?_
    rcases bl h with ⟨c4, h⟩ | ⟨c4, h⟩
    ·refine bt (congrArg j.bool c4) ?_
     simp only [c4, aL.down]
     refine bF (dp _ (.inl ?_))
     refine ba (fun np jO ky kq => ?_)
     refine cE (fun kx gQ fM dq hM => ?_)
     obtain ⟨aC, dN, h⟩ := aY h
     obtain ⟨aM, il, h⟩ := aY h
     obtain ⟨a8, g5, h⟩ := aY h
     refine lz rfl (lA [(0, .slice (a0.map b3)), (1, .slice (ah.map b3)), (5, .int .i64 cQ), (26, .bool (!a8))] (fun P aA => ?_) ?_)
     ·simp only [g2.down, simprocAttr, eX, fV, fG, gN, bk, b3, dN, il]
      refine mI (E0 aC aM _ g5) rfl rfl rfl rfl (.inl (by rfl)) ?_
      simp only [g2.down, simprocAttr, eX, fV, fG, gN, bk, b3, dN, il]
      refine ⟨kT (by kernel_rfl), ?_⟩
      (try simp only [bI.down, simprocAttr, bk, b3, dN, il] at aA ⊢); exact aA
     rcases bl h with ⟨gi, h⟩ | ⟨gi, h⟩
     ·refine bt (congrArg j.bool gi) ?_
      simp only [(eM gi), aL.down]
      refine ws _ ?_
      exact a6 (fM _ (ky _ (eP _ (gL _ (e_ _ (aI _ (.inl (a7 [.bool false] rfl (by cases a1 h; rfl) (by decide) bc))))))))
     ·refine bx (congrArg j.bool gi) ?_
      simp only [(du gi), aL.down]
      refine bF (gQ _ (jO _ (.inl ?_)))
      refine wr _ ?_
      exact eF _ (.inr ⟨_, cB rfl, jM (IntKind.i64.wrap (cQ + 1)) h⟩)
    ·refine bx (congrArg j.bool c4) ?_
     simp only [c4, aL.down]
     refine eL (dB 0 _ (df 0 _ (bY _ (eQ _ (.inl ?_)))))
     refine ws _ ?_
     exact a6 (aI _ (.inl (a7 [.bool true] rfl (by cases a1 h; rfl) (by decide) bc)))
  obtain ⟨n, h⟩ := eY h
  exact e4 (.inr ⟨_, cB rfl, j9 n 0 h⟩)
theorem Yl (a0 : bu) (ah : bu) (r : Bool) (h : sX a0 ah = some r) : aX aN 239 [cA a0, cA ah] (.bool r) [] := by
 refine aX.cP (fx := [0, 1]) cV [.tmp 4] [(0, cA a0), (1, cA ah)] Try.func239 rfl rfl UN (Nat.le_of_ble_eq_true rfl) rfl rfl (fun cR aI cN => ?_)
 refine ws _ ?_
 refine ba (fun fa cI bR aM => ?_)
 obtain ⟨aC, cn, h⟩ := aY h
 refine fc (EZ a0.bz ah.bz _ cn) _ ?_
 rcases bl h with ⟨cl, h⟩ | ⟨cl, h⟩
 ·refine bt (congrArg j.bool cl) ?_
  simp only [(eM cl), aL.down]
  refine ws _ ?_
  exact a6 (bR _ (aI _ (.inl (a7 [.bool false] rfl (by cases a1 h; rfl) (by decide) bc))))
 ·refine bx (congrArg j.bool cl) ?_
  simp only [(du cl), aL.down]
  refine bF (cI _ (.inl ?_))
  refine ba (fun ku gv g1 c0 => ?_)
  obtain ⟨aM, hR, h⟩ := aY h
  refine fc (E0 a0.Guard ah.Guard _ hR) _ ?_
  rcases bl h with ⟨dc, h⟩ | ⟨dc, h⟩
  ·refine bt (congrArg j.bool dc) ?_
   simp only [(eM dc), aL.down]
   refine ws _ ?_
   exact a6 (g1 _ (aI _ (.inl (a7 [.bool false] rfl (by cases a1 h; rfl) (by decide) bc))))
  ·refine bx (congrArg j.bool dc) ?_
   simp only [(du dc), aL.down]
   refine bF (gv _ (.inl ?_))
   refine ba (fun n7 i4 mN jG => ?_)
   refine ws _ ?_
   rcases bl h with ⟨dq, h⟩ | ⟨dq, h⟩
   ·refine bt (congrArg j.bool dq) ?_
    simp only [dq, aL.down]
    refine ws _ ?_
    exact a6 (mN _ (aI _ (.inl (a7 [.bool false] rfl (by cases a1 h; rfl) (by decide) bc))))
   ·refine bx (congrArg j.bool dq) ?_
    simp only [dq, aL.down]
    refine bF (i4 _ (.inl ?_))
    refine ba (fun py lL k6 lJ => ?_)
    obtain ⟨a8, g5, h⟩ := aY h
    refine fc (E1 a0.bK ah.bK _ g5) _ ?_
    rcases bl h with ⟨gi, h⟩ | ⟨gi, h⟩
    ·refine bt (congrArg j.bool gi) ?_
     simp only [(eM gi), aL.down]
     refine ws _ ?_
     exact a6 (k6 _ (aI _ (.inl (a7 [.bool false] rfl (by cases a1 h; rfl) (by decide) bc))))
    ·refine bx (congrArg j.bool gi) ?_
     simp only [(du gi), aL.down]
     refine bF (lL _ (.inl ?_))
     refine ba (fun v8 nm n6 rb => ?_)
     obtain ⟨bU, jN, h⟩ := aY h
     refine fc (E1 a0.Next ah.Next _ jN) _ ?_
     rcases bl h with ⟨hC, h⟩ | ⟨hC, h⟩
     ·refine bt (congrArg j.bool hC) ?_
      simp only [(eM hC), aL.down]
      refine ws _ ?_
      exact a6 (n6 _ (aI _ (.inl (a7 [.bool false] rfl (by cases a1 h; rfl) (by decide) bc))))
     ·refine bx (congrArg j.bool hC) ?_
      simp only [(du hC), aL.down]
      refine bF (nm _ (.inl ?_))
      refine ws _ ?_
      exact a6 (aI _ (.inl (a7 [.bool true] rfl (by cases a1 h; rfl) (by decide) bc)))
theorem Ym (a0 : List bu) (ah : List bu) (r : Bool) (h : vK a0 ah = some r) : aX aN 169 [.slice (a0.map cA), .slice (ah.map cA)] (.bool r) [] := by
 refine aX.cP (fx := [0, 1]) cV [.tmp 4] [(0, .slice (a0.map cA)), (1, .slice (ah.map cA))] Try.func169 rfl rfl U1 (Nat.le_of_ble_eq_true rfl) rfl rfl (fun cR aI cN => ?_)
 refine ws _ ?_
 refine ba (fun fa cI bR aM => ?_)
 refine ws _ ?_
 rcases bl h with ⟨bX, h⟩ | ⟨bX, h⟩
 ·refine bt (congrArg j.bool bX) ?_
  simp only [bX, aL.down]
  refine ws _ ?_
  exact a6 (bR _ (aI _ (.inl (a7 [.bool false] rfl (by cases a1 h; rfl) (by decide) bc))))
 ·refine bx (congrArg j.bool bX) ?_
  simp only [bX, aL.down]
  refine bF (cI _ (.inl ?_))
  refine ba (fun gG eQ e_ cw => ?_)
  refine ws _ ?_
  refine cE (fun im gS gL bY eE => ?_)
  have j9 : ∀ (n : Nat) (cQ : Int), vJ a0 ah n cQ = some r → eA aN Eo im (I [(0, .slice (a0.map cA)), (1, .slice (ah.map cA)), (5, .int .i64 cQ)]) := by
   intro fZ
   induction fZ with
   | zero => intro cQ h; cases (show none = some r from h)
   | succ fZ jM =>
    intro cQ h
    replace h : DK (vJ a0 ah fZ) a0 ah cQ = some r := h
    refine e5 (fun g4 eF eP df => ?_)
    refine ba (fun fX dp ed dB => ?_)
    refine ws _ ?_
    rcases bl h with ⟨c4, h⟩ | ⟨c4, h⟩
    ·refine bt (congrArg j.bool c4) ?_
     simp only [c4, aL.down]
     refine bF (dp _ (.inl ?_))
     refine ba (fun np jO ky kq => ?_)
     refine cE (fun kx gQ fM dq hM => ?_)
     obtain ⟨aC, dN, h⟩ := aY h
     obtain ⟨aM, il, h⟩ := aY h
     obtain ⟨a8, g5, h⟩ := aY h
     refine lz rfl (lA [(0, .slice (a0.map cA)), (1, .slice (ah.map cA)), (5, .int .i64 cQ), (26, .bool (!a8))] (fun P aA => ?_) ?_)
     ·simp only [g2.down, simprocAttr, eX, fU, fV, hL, lE, fG, gN, jD, bf, cA, bk, b3, dN, il]
      refine mI (Yl aC aM _ g5) rfl rfl rfl rfl (.inl (by rfl)) ?_
      simp only [g2.down, simprocAttr, eX, fU, fV, hL, lE, fG, gN, jD, bf, cA, bk, b3, dN, il]
      refine ⟨kT (by kernel_rfl), ?_⟩
      (try simp only [bI.down, simprocAttr, jH.down, dN, il] at aA ⊢); exact aA
     rcases bl h with ⟨gi, h⟩ | ⟨gi, h⟩
     ·refine bt (congrArg j.bool gi) ?_
      simp only [(eM gi), aL.down]
      refine ws _ ?_
      exact a6 (fM _ (ky _ (eP _ (gL _ (e_ _ (aI _ (.inl (a7 [.bool false] rfl (by cases a1 h; rfl) (by decide) bc))))))))
     ·refine bx (congrArg j.bool gi) ?_
      simp only [(du gi), aL.down]
      refine bF (gQ _ (jO _ (.inl ?_)))
      refine wr _ ?_
      exact eF _ (.inr ⟨_, cB rfl, jM (IntKind.i64.wrap (cQ + 1)) h⟩)
    ·refine bx (congrArg j.bool c4) ?_
     simp only [c4, aL.down]
     refine eL (dB 0 _ (df 0 _ (bY _ (eQ _ (.inl ?_)))))
     refine ws _ ?_
     exact a6 (aI _ (.inl (a7 [.bool true] rfl (by cases a1 h; rfl) (by decide) bc)))
  obtain ⟨n, h⟩ := eY h
  exact e4 (.inr ⟨_, cB rfl, j9 n 0 h⟩)
theorem Yn (a0 : dM) (ah : dM) (r : Bool) (h : vL a0 ah = some r) : aX aN 76 [ev a0, ev ah] (.bool r) [] := by
 refine aX.cP (fx := [0, 1]) cV [.tmp 4] [(0, ev a0), (1, ev ah)] Try.func76 rfl rfl Vc (Nat.le_of_ble_eq_true rfl) rfl rfl (fun cR aI cN => ?_)
 refine ws _ ?_
 refine ba (fun fa cI bR aM => ?_)
 refine ws _ ?_
 rcases bl h with ⟨bX, h⟩ | ⟨bX, h⟩
 ·refine bt (congrArg j.bool bX) ?_
  simp only [bX, aL.down]
  refine ws _ ?_
  exact a6 (bR _ (aI _ (.inl (a7 [.bool false] rfl (by cases a1 h; rfl) (by decide) bc))))
 ·refine bx (congrArg j.bool bX) ?_
  simp only [bX, aL.down]
  refine bF (cI _ (.inl ?_))
  refine ba (fun gG eQ e_ cw => ?_)
  obtain ⟨aC, kf, h⟩ := aY h
  refine fc (EZ a0.Start ah.Start _ kf) _ ?_
  rcases bl h with ⟨dF, h⟩ | ⟨dF, h⟩
  ·refine bt (congrArg j.bool dF) ?_
   simp only [(eM dF), aL.down]
   refine ws _ ?_
   exact a6 (e_ _ (aI _ (.inl (a7 [.bool false] rfl (by cases a1 h; rfl) (by decide) bc))))
  ·refine bx (congrArg j.bool dF) ?_
   simp only [(du dF), aL.down]
   refine bF (eQ _ (.inl ?_))
   refine ba (fun kv gP jq eO => ?_)
   obtain ⟨aM, e2, h⟩ := aY h
   refine fc (Ym a0.cG ah.cG _ e2) _ ?_
   rcases bl h with ⟨dq, h⟩ | ⟨dq, h⟩
   ·refine bt (congrArg j.bool dq) ?_
    simp only [(eM dq), aL.down]
    refine ws _ ?_
    exact a6 (jq _ (aI _ (.inl (a7 [.bool false] rfl (by cases a1 h; rfl) (by decide) bc))))
   ·refine bx (congrArg j.bool dq) ?_
    simp only [(du dq), aL.down]
    refine bF (gP _ (.inl ?_))
    refine ws _ ?_
    exact a6 (aI _ (.inl (a7 [.bool true] rfl (by cases a1 h; rfl) (by decide) bc)))
theorem E2 (a0 : List Int) (ah : Int) (r : Int × (List Int)) (h : sY a0 ah = some r) : aX aN 61 [.ay 1 (a0.map bf), .int .i64 ah] (.int .i64 r.1) [.ay 1 (r.2.map bf), .hole] := by
 refine aX.cP (fx := [0]) cV [.tmp 4] [(0, .ay 1 (a0.map bf)), (1, .int .i64 ah)] Try.func61 rfl rfl Vl (Nat.le_of_ble_eq_true rfl) rfl rfl (fun cR aI cN => ?_)
 refine ws _ ?_
 refine ba (fun fa cI bR aM => ?_)
 refine ws _ ?_
 refine cE (fun fo fN c3 bX bU => ?_)
 have hj : ∀ (n : Nat) (ck : List Int) (bO : Int) (aS : Int), pk n ck bO aS = some r → eA aN Ep fo (I [(0, .ay 1 (ck.map bf)), (1, .int .i64 bO), (5, .int .i64 aS)]) := by
  intro dk
  induction dk with
  | zero => intro ck bO aS h; cases (show none = some r from h)
  | succ dk g6 =>
   intro ck bO aS h
   replace h : vM (pk dk) ck bO aS = some r := h
   refine e5 (fun iP fY fm cF => ?_)
   refine ba (fun gG eQ e_ cw => ?_)
   refine ws _ ?_
   rcases bl h with ⟨bY, h⟩ | ⟨bY, h⟩
   ·refine bt (congrArg j.bool bY) ?_
    simp only [bY, aL.down]
    refine bF (eQ _ (.inl ?_))
    refine ba (fun g4 eF eP df => ?_)
    refine cE (fun fX dp ed dc dB => ?_)
    obtain ⟨aC, ej, h⟩ := aY h
    refine cX (cu [(0, .ay 1 ((List.set ck (Int.toNat aS) bO).map bf)), (1, .int .i64 bO), (5, .int .i64 aS)] (fun P aA => ?_) ?_)
    ·simp only [aQ.down, simprocAttr, eX, hL, bf, ej, dg ej, fT, eW]
     (try simp only [bI.down, simprocAttr, bf, ej, dg ej, fT, eW] at aA ⊢); exact aA
    refine wr [(0, .ay 1 ((List.set ck (Int.toNat aS) bO).map bf)), (1, .int .i64 (IntKind.i64.wrap (bO + 1))), (5, .int .i64 aS)] ?_
    refine dp _ (eF _ (.inl ?_))
    refine wr [(0, .ay 1 ((List.set ck (Int.toNat aS) bO).map bf)), (1, .int .i64 (IntKind.i64.wrap (bO + 1))), (5, .int .i64 (IntKind.i64.wrap (aS + 1)))] ?_
    exact fY _ (.inr ⟨_, cB rfl, g6 (List.set ck (Int.toNat aS) bO) (IntKind.i64.wrap (bO + 1)) (IntKind.i64.wrap (aS + 1)) h⟩)
   ·refine bx (congrArg j.bool bY) ?_
    simp only [bY, aL.down]
    refine eL (cw 0 _ (cF 0 _ (bX _ (cI _ (.inl ?_)))))
    refine ws _ ?_
    exact a6 (aI _ (.inl (a7 [.int .i64 bO] rfl (by cases a1 h; rfl) (by decide) (qI (qK (by cases a1 h; rfl) rfl rfl rfl (qJ (qL)))))))
 obtain ⟨n, h⟩ := eY h
 exact e4 (.inr ⟨_, cB rfl, hj n a0 ah 0 h⟩)
theorem E3 (a0 : List a2) (ah : Int) (r : Int × (List a2)) (h : sZ a0 ah = some r) : aX aN 60 [.ay 2 (a0.map bk), .int .i64 ah] (.int .i64 r.1) [.ay 2 (r.2.map bk), .hole] := by
 refine aX.cP (fx := [0]) cV [.tmp 4] [(0, .ay 2 (a0.map bk)), (1, .int .i64 ah)] Try.func60 rfl rfl Vw (Nat.le_of_ble_eq_true rfl) rfl rfl (fun cR aI cN => ?_)
 refine ws _ ?_
 refine ba (fun fa cI bR aM => ?_)
 refine ws _ ?_
 refine cE (fun fo fN c3 bX bU => ?_)
 have hj : ∀ (n : Nat) (ck : List a2) (bO : Int) (aS : Int), pn n ck bO aS = some r → eA aN Er fo (I [(0, .ay 2 (ck.map bk)), (1, .int .i64 bO), (5, .int .i64 aS)]) := by
  intro dk
  induction dk with
  | zero => intro ck bO aS h; cases (show none = some r from h)
  | succ dk g6 =>
   intro ck bO aS h
   replace h : vN (pn dk) ck bO aS = some r := h
   refine e5 (fun iP fY fm cF => ?_)
   refine ba (fun gG eQ e_ cw => ?_)
   refine ws _ ?_
   rcases bl h with ⟨bY, h⟩ | ⟨bY, h⟩
   ·refine bt (congrArg j.bool bY) ?_
    simp only [bY, aL.down]
    refine bF (eQ _ (.inl ?_))
    refine ba (fun g4 eF eP df => ?_)
    refine cE (fun fX dp ed dc dB => ?_)
    obtain ⟨aC, ej, h⟩ := aY h
    refine cX (cu [(0, .ay 2 ((List.set ck (Int.toNat aS) (a2.mk bO aC.Value)).map bk)), (1, .int .i64 bO), (5, .int .i64 aS)] (fun P aA => ?_) ?_)
    ·simp only [aQ.down, simprocAttr, kZ.down, ej, dg ej, fT, eW]
     (try simp only [bI.down, simprocAttr, bk, ej, dg ej, fT, eW] at aA ⊢); exact aA
    refine ws [(0, .ay 2 ((List.set ck (Int.toNat aS) (a2.mk bO aC.Value)).map bk)), (1, .int .i64 (IntKind.i64.wrap (bO + 1))), (5, .int .i64 aS)] ?_
    obtain ⟨aM, fk, h⟩ := aY h
    refine cX (cu [(0, .ay 2 ((List.set (List.set ck (Int.toNat aS) (a2.mk bO aC.Value)) (Int.toNat aS) (a2.mk aM.Kind (IntKind.i64.wrap (bO + 1)))).map bk)), (1, .int .i64 (IntKind.i64.wrap (bO + 1))), (5, .int .i64 aS)] (fun P aA => ?_) ?_)
    ·simp only [aQ.down, simprocAttr, kZ.down, fk, dg fk, fT, eW]
     (try simp only [bI.down, simprocAttr, bk, fk, dg fk, fT, eW] at aA ⊢); exact aA
    refine wr [(0, .ay 2 ((List.set (List.set ck (Int.toNat aS) (a2.mk bO aC.Value)) (Int.toNat aS) (a2.mk aM.Kind (IntKind.i64.wrap (bO + 1)))).map bk)), (1, .int .i64 (IntKind.i64.wrap ((IntKind.i64.wrap (bO + 1)) + 1))), (5, .int .i64 aS)] ?_
    refine dp _ (eF _ (.inl ?_))
    refine wr [(0, .ay 2 ((List.set (List.set ck (Int.toNat aS) (a2.mk bO aC.Value)) (Int.toNat aS) (a2.mk aM.Kind (IntKind.i64.wrap (bO + 1)))).map bk)), (1, .int .i64 (IntKind.i64.wrap ((IntKind.i64.wrap (bO + 1)) + 1))), (5, .int .i64 (IntKind.i64.wrap (aS + 1)))] ?_
    exact fY _ (.inr ⟨_, cB rfl, g6 (List.set (List.set ck (Int.toNat aS) (a2.mk bO aC.Value)) (Int.toNat aS) (a2.mk aM.Kind (IntKind.i64.wrap (bO + 1)))) (IntKind.i64.wrap ((IntKind.i64.wrap (bO + 1)) + 1)) (IntKind.i64.wrap (aS + 1)) h⟩)
   ·refine bx (congrArg j.bool bY) ?_
    simp only [bY, aL.down]
    refine eL (cw 0 _ (cF 0 _ (bX _ (cI _ (.inl ?_)))))
    refine ws _ ?_
    exact a6 (aI _ (.inl (a7 [.int .i64 bO] rfl (by cases a1 h; rfl) (by decide) (qI (qK (by cases a1 h; rfl) rfl rfl rfl (qJ (qL)))))))
 obtain ⟨n, h⟩ := eY h
 exact e4 (.inr ⟨_, cB rfl, hj n a0 ah 0 h⟩)
theorem zz (a0 : Int) (r : (List UInt8)) (h : q_ a0 = some r) : aX aN 114 [.int .i64 a0] (.str r) [] := by
 refine aX.cP (fx := []) cV [.tmp 2] [(0, .int .i64 a0)] Try.func114 rfl rfl VH (Nat.le_of_ble_eq_true rfl) rfl rfl (fun cR aI cN => ?_)
 refine ws _ ?_
 refine ba (fun fa cI bR aM => ?_)
 refine ws _ ?_
 rcases bl h with ⟨bX, h⟩ | ⟨bX, h⟩
 ·refine bt (congrArg j.bool bX) ?_
  simp only [bX, aL.down]
  refine ws _ ?_
  exact a6 (bR _ (aI _ (.inl (a7 [.str ([109, 48] : List UInt8)] rfl (by cases a1 h; rfl) (by decide) bc))))
 ·refine bx (congrArg j.bool bX) ?_
  simp only [bX, aL.down]
  refine bF (cI _ (.inl ?_))
  refine ws _ ?_
  refine ba (fun ku gv g1 c0 => ?_)
  refine cE (fun im gS gL bY eE => ?_)
  have j9 : ∀ (n : Nat) (ig : Int) (dZ : List UInt8), nZ n ig dZ = some r → eA aN Es im (I [(0, .int .i64 ig), (3, .str dZ)]) := by
   intro fZ
   induction fZ with
   | zero => intro ig dZ h; cases (show none = some r from h)
   | succ fZ jM =>
    intro ig dZ h
    replace h : s0 (nZ fZ) ig dZ = some r := h
    refine e5 (fun g4 eF eP df => ?_)
    refine ba (fun fX dp ed dB => ?_)
    refine ws _ ?_
    rcases bl h with ⟨c4, h⟩ | ⟨c4, h⟩
    ·refine bt (congrArg j.bool c4) ?_
     simp only [c4, aL.down]
     refine bF (dp _ (.inl ?_))
     refine cE (fun np jO ky fL kq => ?_)
     obtain ⟨u16, fk, h⟩ := aY h
     (try simp only [List.length_append, List.length_cons, List.length_nil, List.length_map, List.length_replicate, Nat.zero_add, Nat.add_zero, Nat.reduceAdd] at fk)
     refine cX (cu [(0, .int .i64 ig), (3, .str ([(mU (IntKind.i64.wrap (48 + (Int.tmod ig 10))))] ++ dZ))] (fun P aA => ?_) ?_)
     ·simp only [aQ.down, simprocAttr, K9, K_, iK, @CL .i64 10 (by decide), @CF aN 3 5 .u8 rfl rfl, (show ∀ s, c_ aN s 107 1 [(0, .int .u8 (IntKind.u8.wrap (IntKind.i64.wrap (48 + (Int.tmod ig 10)))))] = some (.ay 1 [.int .u8 (IntKind.u8.wrap (IntKind.i64.wrap (48 + (Int.tmod ig 10))))], s) from fun s => by kernel_rfl), (@CH aN 107 9 5 rfl rfl rfl).2.2, CK, CI, fk, uH, uI]
      (try simp only [bI.down, simprocAttr, iK, @CL .i64 10 (by decide), @CF aN 3 5 .u8 rfl rfl, (show ∀ s, c_ aN s 107 1 [(0, .int .u8 (IntKind.u8.wrap (IntKind.i64.wrap (48 + (Int.tmod ig 10)))))] = some (.ay 1 [.int .u8 (IntKind.u8.wrap (IntKind.i64.wrap (48 + (Int.tmod ig 10))))], s) from fun s => by kernel_rfl), (@CH aN 107 9 5 rfl rfl rfl).2.2, CK, CI, fk, uH, uI] at aA ⊢); exact aA
     refine Ey (@J7 .i64 10 (by decide)) [(0, .int .i64 (IntKind.i64.wrap (Int.tdiv ig 10))), (3, .str ([(mU (IntKind.i64.wrap (48 + (Int.tmod ig 10))))] ++ dZ))] ?_
     exact jO _ (eF _ (.inr ⟨_, cB rfl, jM (IntKind.i64.wrap (Int.tdiv ig 10)) ([(mU (IntKind.i64.wrap (48 + (Int.tmod ig 10))))] ++ dZ) h⟩))
    ·refine bx (congrArg j.bool c4) ?_
     simp only [c4, aL.down]
     refine eL (dB 0 _ (df 0 _ (bY _ (gv _ (.inl ?_)))))
     obtain ⟨zg, g5, h⟩ := aY h
     (try simp only [List.length_append, List.length_cons, List.length_nil, List.length_map, List.length_replicate, Nat.zero_add, Nat.add_zero, Nat.reduceAdd] at g5)
     refine cX (cu [(2, .str (([109] : List UInt8) ++ dZ))] (fun P aA => ?_) ?_)
     ·simp only [aQ.down, simprocAttr, g5, uH, uI]
      (try simp only [bI.down, simprocAttr, g5, uH, uI] at aA ⊢); exact aA
     exact a6 (aI _ (.inl (a7 [.str (([109] : List UInt8) ++ dZ)] rfl (by cases a1 h; rfl) (by decide) bc)))
  obtain ⟨n, h⟩ := eY h
  exact e4 (.inr ⟨_, cB rfl, j9 n a0 ([] : List UInt8) h⟩)
theorem E4 (a0 : List (List a2)) (ah : Int) (r : Int × (List (List a2))) (h : s3 a0 ah = some r) : aX aN 240 [.ay 1 (a0.map eu), .int .i64 ah] (.int .i64 r.1) [.ay 1 (r.2.map eu), .hole] := by
 refine aX.cP (fx := [0]) cV [.tmp 4] [(0, .ay 1 (a0.map eu)), (1, .int .i64 ah)] Try.func240 rfl rfl VP (Nat.le_of_ble_eq_true rfl) rfl rfl (fun cR aI cN => ?_)
 refine ws _ ?_
 refine ba (fun fa cI bR aM => ?_)
 refine ws _ ?_
 refine cE (fun fo fN c3 bX bU => ?_)
 have hj : ∀ (n : Nat) (ck : List (List a2)) (bO : Int) (aS : Int), po n ck bO aS = some r → eA aN Et fo (I [(0, .ay 1 (ck.map eu)), (1, .int .i64 bO), (5, .int .i64 aS)]) := by
  intro dk
  induction dk with
  | zero => intro ck bO aS h; cases (show none = some r from h)
  | succ dk g6 =>
   intro ck bO aS h
   replace h : vO (po dk) ck bO aS = some r := h
   refine e5 (fun iP fY fm cF => ?_)
   refine ba (fun gG eQ e_ cw => ?_)
   refine ws _ ?_
   rcases bl h with ⟨bY, h⟩ | ⟨bY, h⟩
   ·refine bt (congrArg j.bool bY) ?_
    simp only [bY, aL.down]
    refine bF (eQ _ (.inl ?_))
    refine ba (fun g4 eF eP df => ?_)
    refine cE (fun fX dp ed dc dB => ?_)
    obtain ⟨aC, ej, h⟩ := aY h
    obtain ⟨aM, e2, h⟩ := aY h
    refine i1 (cu [(0, .ay 1 ((List.set ck (Int.toNat aS) aM.2).map eu)), (1, .int .i64 aM.1), (5, .int .i64 aS)] (fun P aA => ?_) ?_)
    ·simp only [aQ.down, simprocAttr, eX, fV, fG, gN, bk, eu, ej, dg ej]
     refine mK [⟨.h 0 [Int.toNat aS], true, _, _⟩, ⟨.int .i64 bO, false, _, .hole⟩] (E3 aC bO _ e2) rfl rfl rfl (by simp only [aQ.down, simprocAttr, eX, fV, fG, gN, bk, eu, ej, dg ej, l_, kQ, gn, gp, gq, dE, or_true, true_or, @cm _ bk bk (fun _ => lK _)]) rfl rfl (.inl rfl) ?_
     simp only [aQ.down, simprocAttr, eX, fV, fG, gN, bk, eu, ej, dg ej, ma, (sv (dg ej)), sw]
     (try simp only [bI.down, simprocAttr, bk, eu, ej, dg ej] at aA ⊢); exact aA
    refine dp _ (eF _ (.inl ?_))
    refine wr [(0, .ay 1 ((List.set ck (Int.toNat aS) aM.2).map eu)), (1, .int .i64 aM.1), (5, .int .i64 (IntKind.i64.wrap (aS + 1)))] ?_
    exact fY _ (.inr ⟨_, cB rfl, g6 (List.set ck (Int.toNat aS) aM.2) aM.1 (IntKind.i64.wrap (aS + 1)) h⟩)
   ·refine bx (congrArg j.bool bY) ?_
    simp only [bY, aL.down]
    refine eL (cw 0 _ (cF 0 _ (bX _ (cI _ (.inl ?_)))))
    refine ws _ ?_
    exact a6 (aI _ (.inl (a7 [.int .i64 bO] rfl (by cases a1 h; rfl) (by decide) (qI (qK (by cases a1 h; rfl) rfl rfl rfl (qJ (qL)))))))
 obtain ⟨n, h⟩ := eY h
 exact e4 (.inr ⟨_, cB rfl, hj n a0 ah 0 h⟩)
theorem Yo (a0 : List bu) (ah : Int) (r : Int × (List bu)) (h : vQ a0 ah = some r) : aX aN 170 [.ay 5 (a0.map dJ), .int .i64 ah] (.int .i64 r.1) [.ay 5 (r.2.map dJ), .hole] := by
 refine aX.cP (fx := [0]) cV [.tmp 4] [(0, .ay 5 (a0.map dJ)), (1, .int .i64 ah)] Try.func170 rfl rfl V2 (Nat.le_of_ble_eq_true rfl) rfl rfl (fun cR aI cN => ?_)
 refine ws _ ?_
 refine ba (fun fa cI bR aM => ?_)
 refine ws _ ?_
 refine cE (fun fo fN c3 bX bU => ?_)
 have hj : ∀ (n : Nat) (ck : List bu) (bO : Int) (aS : Int), pq n ck bO aS = some r → eA aN Eu fo (I [(0, .ay 5 (ck.map dJ)), (1, .int .i64 bO), (5, .int .i64 aS)]) := by
  intro dk
  induction dk with
  | zero => intro ck bO aS h; cases (show none = some r from h)
  | succ dk g6 =>
   intro ck bO aS h
   replace h : vP (pq dk) ck bO aS = some r := h
   refine e5 (fun iP fY fm cF => ?_)
   refine ba (fun gG eQ e_ cw => ?_)
   refine ws _ ?_
   rcases bl h with ⟨bY, h⟩ | ⟨bY, h⟩
   ·refine bt (congrArg j.bool bY) ?_
    simp only [bY, aL.down]
    refine bF (eQ _ (.inl ?_))
    refine ba (fun g4 eF eP df => ?_)
    refine cE (fun fX dp ed dc dB => ?_)
    obtain ⟨aC, ej, h⟩ := aY h
    obtain ⟨aM, e2, h⟩ := aY h
    refine cX (cu [(0, .ay 5 ((List.set ck (Int.toNat aS) (bu.mk aM.2 aC.Guard aC.Name aC.bK aC.Next)).map dJ)), (1, .int .i64 aM.1), (5, .int .i64 aS)] (fun P aA => ?_) ?_)
    ·simp only [aQ.down, simprocAttr, kt.down, ej, dg ej]
     refine mK [⟨.h 0 [Int.toNat aS, 0], true, _, _⟩, ⟨.int .i64 bO, false, _, .hole⟩] (E2 aC.bz bO _ e2) rfl rfl rfl (by simp only [aQ.down, simprocAttr, kt.down, ej, dg ej, l_, kQ, gn, gp, gq, dE, or_true, true_or, @cm _ bf bf (fun _ => ij _)]) rfl rfl (.inl rfl) ?_
     simp only [aQ.down, simprocAttr, kt.down, ej, dg ej, ma, (sv (dg ej)), sw]
     (try simp only [bI.down, simprocAttr, n2.down, ej, dg ej] at aA ⊢); exact aA
    obtain ⟨a8, fk, h⟩ := aY h
    obtain ⟨bU, dN, h⟩ := aY h
    refine cX (cu [(0, .ay 5 ((List.set (List.set ck (Int.toNat aS) (bu.mk aM.2 aC.Guard aC.Name aC.bK aC.Next)) (Int.toNat aS) (bu.mk a8.bz bU.2 a8.Name a8.bK a8.Next)).map dJ)), (1, .int .i64 bU.1), (5, .int .i64 aS)] (fun P aA => ?_) ?_)
    ·simp only [aQ.down, simprocAttr, kt.down, fk, dg fk]
     refine mK [⟨.h 0 [Int.toNat aS, 1], true, _, _⟩, ⟨.int .i64 aM.1, false, _, .hole⟩] (E3 a8.Guard aM.1 _ dN) rfl rfl rfl (by simp only [aQ.down, simprocAttr, kt.down, fk, dg fk, l_, kQ, gn, gp, gq, dE, or_true, true_or, @cm _ bk bk (fun _ => lK _)]) rfl rfl (.inl rfl) ?_
     simp only [aQ.down, simprocAttr, kt.down, fk, dg fk, ma, (sv (dg fk)), sw]
     (try simp only [bI.down, simprocAttr, n2.down, fk, dg fk] at aA ⊢); exact aA
    obtain ⟨cF, g5, h⟩ := aY h
    obtain ⟨cw, jL, h⟩ := aY h
    refine cX (cu [(0, .ay 5 ((List.set (List.set (List.set ck (Int.toNat aS) (bu.mk aM.2 aC.Guard aC.Name aC.bK aC.Next)) (Int.toNat aS) (bu.mk a8.bz bU.2 a8.Name a8.bK a8.Next)) (Int.toNat aS) (bu.mk cw.bz cw.Guard cF cw.bK cw.Next)).map dJ)), (1, .int .i64 bU.1), (5, .int .i64 aS)] (fun P aA => ?_) ?_)
    ·simp only [aQ.down, simprocAttr, kt.down, jL, dg jL, fT, eW]
     refine eb (zz bU.1 _ g5) rfl rfl rfl rfl (.inl (by rfl)) ?_
     simp only [aQ.down, simprocAttr, kt.down, jL, dg jL, fT, eW]
     (try simp only [bI.down, simprocAttr, n2.down, jL, dg jL, fT, eW] at aA ⊢); exact aA
    refine ws [(0, .ay 5 ((List.set (List.set (List.set ck (Int.toNat aS) (bu.mk aM.2 aC.Guard aC.Name aC.bK aC.Next)) (Int.toNat aS) (bu.mk a8.bz bU.2 a8.Name a8.bK a8.Next)) (Int.toNat aS) (bu.mk cw.bz cw.Guard cF cw.bK cw.Next)).map dJ)), (1, .int .i64 (IntKind.i64.wrap (bU.1 + 1))), (5, .int .i64 aS)] ?_
    obtain ⟨c0, hY, h⟩ := aY h
    obtain ⟨eE, jN, h⟩ := aY h
    refine cX (cu [(0, .ay 5 ((List.set (List.set (List.set (List.set ck (Int.toNat aS) (bu.mk aM.2 aC.Guard aC.Name aC.bK aC.Next)) (Int.toNat aS) (bu.mk a8.bz bU.2 a8.Name a8.bK a8.Next)) (Int.toNat aS) (bu.mk cw.bz cw.Guard cF cw.bK cw.Next)) (Int.toNat aS) (bu.mk c0.bz c0.Guard c0.Name eE.2 c0.Next)).map dJ)), (1, .int .i64 eE.1), (5, .int .i64 aS)] (fun P aA => ?_) ?_)
    ·simp only [aQ.down, simprocAttr, kt.down, hY, dg hY]
     refine mK [⟨.h 0 [Int.toNat aS, 3], true, _, _⟩, ⟨.int .i64 (IntKind.i64.wrap (bU.1 + 1)), false, _, .hole⟩] (E4 c0.bK (IntKind.i64.wrap (bU.1 + 1)) _ jN) rfl rfl rfl (by simp only [aQ.down, simprocAttr, kt.down, hY, dg hY, l_, kQ, gn, gp, gq, dE, or_true, true_or, @cm _ eu b3 (fun _ => vW _)]) rfl rfl (.inl rfl) ?_
     simp only [aQ.down, simprocAttr, kt.down, hY, dg hY, ma, (sv (dg hY)), sw]
     (try simp only [bI.down, simprocAttr, n2.down, hY, dg hY] at aA ⊢); exact aA
    obtain ⟨df, hn, h⟩ := aY h
    obtain ⟨dB, re, h⟩ := aY h
    refine i1 (cu [(0, .ay 5 ((List.set (List.set (List.set (List.set (List.set ck (Int.toNat aS) (bu.mk aM.2 aC.Guard aC.Name aC.bK aC.Next)) (Int.toNat aS) (bu.mk a8.bz bU.2 a8.Name a8.bK a8.Next)) (Int.toNat aS) (bu.mk cw.bz cw.Guard cF cw.bK cw.Next)) (Int.toNat aS) (bu.mk c0.bz c0.Guard c0.Name eE.2 c0.Next)) (Int.toNat aS) (bu.mk df.bz df.Guard df.Name df.bK dB.2)).map dJ)), (1, .int .i64 dB.1), (5, .int .i64 aS)] (fun P aA => ?_) ?_)
    ·simp only [aQ.down, simprocAttr, kt.down, hn, dg hn]
     refine mK [⟨.h 0 [Int.toNat aS, 4], true, _, _⟩, ⟨.int .i64 eE.1, false, _, .hole⟩] (E4 df.Next eE.1 _ re) rfl rfl rfl (by simp only [aQ.down, simprocAttr, kt.down, hn, dg hn, l_, kQ, gn, gp, gq, dE, or_true, true_or, @cm _ eu b3 (fun _ => vW _)]) rfl rfl (.inl rfl) ?_
     simp only [aQ.down, simprocAttr, kt.down, hn, dg hn, ma, (sv (dg hn)), sw]
     (try simp only [bI.down, simprocAttr, n2.down, hn, dg hn] at aA ⊢); exact aA
    refine dp _ (eF _ (.inl ?_))
    refine wr [(0, .ay 5 ((List.set (List.set (List.set (List.set (List.set ck (Int.toNat aS) (bu.mk aM.2 aC.Guard aC.Name aC.bK aC.Next)) (Int.toNat aS) (bu.mk a8.bz bU.2 a8.Name a8.bK a8.Next)) (Int.toNat aS) (bu.mk cw.bz cw.Guard cF cw.bK cw.Next)) (Int.toNat aS) (bu.mk c0.bz c0.Guard c0.Name eE.2 c0.Next)) (Int.toNat aS) (bu.mk df.bz df.Guard df.Name df.bK dB.2)).map dJ)), (1, .int .i64 dB.1), (5, .int .i64 (IntKind.i64.wrap (aS + 1)))] ?_
    exact fY _ (.inr ⟨_, cB rfl, g6 (List.set (List.set (List.set (List.set (List.set ck (Int.toNat aS) (bu.mk aM.2 aC.Guard aC.Name aC.bK aC.Next)) (Int.toNat aS) (bu.mk a8.bz bU.2 a8.Name a8.bK a8.Next)) (Int.toNat aS) (bu.mk cw.bz cw.Guard cF cw.bK cw.Next)) (Int.toNat aS) (bu.mk c0.bz c0.Guard c0.Name eE.2 c0.Next)) (Int.toNat aS) (bu.mk df.bz df.Guard df.Name df.bK dB.2)) dB.1 (IntKind.i64.wrap (aS + 1)) h⟩)
   ·refine bx (congrArg j.bool bY) ?_
    simp only [bY, aL.down]
    refine eL (cw 0 _ (cF 0 _ (bX _ (cI _ (.inl ?_)))))
    refine ws _ ?_
    exact a6 (aI _ (.inl (a7 [.int .i64 bO] rfl (by cases a1 h; rfl) (by decide) (qI (qK (by cases a1 h; rfl) rfl rfl rfl (qJ (qL)))))))
 obtain ⟨n, h⟩ := eY h
 exact e4 (.inr ⟨_, cB rfl, hj n a0 ah 0 h⟩)
theorem Yp (n0 : Int) (pr : List Int) (n1 : List bu) (ah : Int) (r : Int × Int × (List Int) × (List bu)) (h : vR n0 pr n1 ah = some r) : aX aN 77 [.agg [.int .i64 n0, .ay 1 (pr.map bf), .ay 5 (n1.map dJ)], .int .i64 ah] (.int .i64 r.1) [.agg [.int .i64 r.2.1, .ay 1 (r.2.2.1.map bf), .ay 5 (r.2.2.2.map dJ)], .hole] := by
 refine aX.cP (fx := [0]) cV [.tmp 4] [(0, .agg [.int .i64 n0, .ay 1 (pr.map bf), .ay 5 (n1.map dJ)]), (1, .int .i64 ah)] Try.func77 rfl rfl V7 (Nat.le_of_ble_eq_true rfl) rfl rfl (fun cR aI cN => ?_)
 refine cX (cu [(0, .agg [.int .i64 n0, .ay 1 (pr.map bf), .ay 5 (n1.map dJ)]), (1, .int .i64 ah), (2, .J 0 0)] (fun P aA => ?_) ?_)
 ·simp only [aQ.down, simprocAttr, n3.down, mb, me, j.dz, mc]
  (try simp only [bI.down, simprocAttr, n2.down, mb, me, j.dz, mc] at aA ⊢); exact aA
 obtain ⟨aC, bb, h⟩ := aY h
 refine cX (cu [(0, .agg [.int .i64 n0, .ay 1 (aC.2.map bf), .ay 5 (n1.map dJ)]), (1, .int .i64 aC.1), (2, .J 0 0)] (fun P aA => ?_) ?_)
 ·simp only [aQ.down, simprocAttr, n3.down, mb, me, j.dz, mc]
  refine Km [⟨.h 0 [1], true, _, _⟩, ⟨.int .i64 ah, false, _, .hole⟩] (E2 pr ah _ bb) rfl rfl rfl (by simp only [aQ.down, simprocAttr, n3.down, mb, me, j.dz, mc, o8, l_, kQ, gn, gp, gq, dE, or_true, true_or, @cm _ bf bf (fun _ => ij _)]) rfl rfl (.inl rfl) (by simp only [aQ.down, simprocAttr, n3.down, mb, me, j.dz, mc, C1, kQ, yo, Bool.and_self, Bool.not_false, Bool.and_true]) ?_
  simp only [aQ.down, simprocAttr, n3.down, mb, me, j.dz, mc, ma, C1, kQ, eq_self, Bool.and_self]
  (try simp only [bI.down, simprocAttr, n2.down, mb, me, j.dz, mc] at aA ⊢); exact aA
 obtain ⟨aM, c1, h⟩ := aY h
 refine cX (cu [(0, .agg [.int .i64 n0, .ay 1 (aC.2.map bf), .ay 5 (aM.2.map dJ)]), (1, .int .i64 aM.1)] (fun P aA => ?_) ?_)
 ·simp only [aQ.down, simprocAttr, n3.down, mb, me, j.dz, mc]
  refine mK [⟨.h 0 [2], true, _, _⟩, ⟨.int .i64 aC.1, false, _, .hole⟩] (Yo n1 aC.1 _ c1) rfl rfl rfl (by simp only [aQ.down, simprocAttr, n3.down, mb, me, j.dz, mc, o8, l_, kQ, gn, gp, gq, dE, or_true, true_or, @cm _ dJ cA (fun _ => nk _)]) rfl rfl (.inl rfl) ?_
  simp only [aQ.down, simprocAttr, n3.down, mb, me, j.dz, mc, ma]
  (try simp only [bI.down, simprocAttr, n2.down, mb, me, j.dz, mc] at aA ⊢); exact aA
 refine ws _ ?_
 exact a6 (aI _ (.inl (a7 [.int .i64 aM.1] rfl (by cases a1 h; rfl) (by decide) (qI (qK (by cases a1 h; rfl) rfl rfl rfl (qJ (qL)))))))
theorem Yq (a0 : List (List UInt8)) (ah : Int) (r : Int × (List (List UInt8))) (h : vT a0 ah = some r) : aX aN 86 [.ay 1 (a0.map aR), .int .i64 ah] (.int .i64 r.1) [.ay 1 (r.2.map aR), .hole] := by
 refine aX.cP (fx := [0]) cV [.tmp 4] [(0, .ay 1 (a0.map aR)), (1, .int .i64 ah)] Try.func86 rfl rfl Wf (Nat.le_of_ble_eq_true rfl) rfl rfl (fun cR aI cN => ?_)
 refine ws _ ?_
 refine ba (fun fa cI bR aM => ?_)
 refine ws _ ?_
 refine cE (fun fo fN c3 bX bU => ?_)
 have hj : ∀ (n : Nat) (ck : List (List UInt8)) (bO : Int) (aS : Int), pt n ck bO aS = some r → eA aN Ev fo (I [(0, .ay 1 (ck.map aR)), (1, .int .i64 bO), (5, .int .i64 aS)]) := by
  intro dk
  induction dk with
  | zero => intro ck bO aS h; cases (show none = some r from h)
  | succ dk g6 =>
   intro ck bO aS h
   replace h : vS (pt dk) ck bO aS = some r := h
   refine e5 (fun iP fY fm cF => ?_)
   refine ba (fun gG eQ e_ cw => ?_)
   refine ws _ ?_
   rcases bl h with ⟨bY, h⟩ | ⟨bY, h⟩
   ·refine bt (congrArg j.bool bY) ?_
    simp only [bY, aL.down]
    refine bF (eQ _ (.inl ?_))
    refine ba (fun g4 eF eP df => ?_)
    refine cE (fun fX dp ed dc dB => ?_)
    obtain ⟨aC, ej, h⟩ := aY h
    obtain ⟨aM, e2, h⟩ := aY h
    refine cX (cu [(0, .ay 1 ((List.set ck (Int.toNat aS) aC).map aR)), (1, .int .i64 bO), (5, .int .i64 aS)] (fun P aA => ?_) ?_)
    ·simp only [aQ.down, simprocAttr, jI.down, e2, dg e2, fT, eW]
     refine eb (zz bO _ ej) rfl rfl rfl rfl (.inl (by rfl)) ?_
     simp only [aQ.down, simprocAttr, jI.down, e2, dg e2, fT, eW]
     (try simp only [bI.down, simprocAttr, aR, e2, dg e2, fT, eW] at aA ⊢); exact aA
    refine wr [(0, .ay 1 ((List.set ck (Int.toNat aS) aC).map aR)), (1, .int .i64 (IntKind.i64.wrap (bO + 1))), (5, .int .i64 aS)] ?_
    refine dp _ (eF _ (.inl ?_))
    refine wr [(0, .ay 1 ((List.set ck (Int.toNat aS) aC).map aR)), (1, .int .i64 (IntKind.i64.wrap (bO + 1))), (5, .int .i64 (IntKind.i64.wrap (aS + 1)))] ?_
    exact fY _ (.inr ⟨_, cB rfl, g6 (List.set ck (Int.toNat aS) aC) (IntKind.i64.wrap (bO + 1)) (IntKind.i64.wrap (aS + 1)) h⟩)
   ·refine bx (congrArg j.bool bY) ?_
    simp only [bY, aL.down]
    refine eL (cw 0 _ (cF 0 _ (bX _ (cI _ (.inl ?_)))))
    refine ws _ ?_
    exact a6 (aI _ (.inl (a7 [.int .i64 bO] rfl (by cases a1 h; rfl) (by decide) (qI (qK (by cases a1 h; rfl) rfl rfl rfl (qJ (qL)))))))
 obtain ⟨n, h⟩ := eY h
 exact e4 (.inr ⟨_, cB rfl, hj n a0 ah 0 h⟩)
theorem E5 (a0 : List (List UInt8)) (ah : Int) (r : Int) (h : s4 a0 ah = some r) : aX aN 87 [.slice (a0.map aR), .int .i64 ah] (.int .i64 r) [] := by
 refine aX.cP (fx := [0]) cV [.tmp 4] [(0, .slice (a0.map aR)), (1, .int .i64 ah)] Try.func87 rfl rfl Wq (Nat.le_of_ble_eq_true rfl) rfl rfl (fun cR aI cN => ?_)
 refine ws _ ?_
 refine ba (fun fa cI bR aM => ?_)
 refine ws _ ?_
 refine cE (fun fo fN c3 bX bU => ?_)
 have hj : ∀ (n : Nat) (bO : Int) (aS : Int), pv a0 n bO aS = some r → eA aN Ew fo (I [(0, .slice (a0.map aR)), (1, .int .i64 bO), (5, .int .i64 aS)]) := by
  intro dk
  induction dk with
  | zero => intro bO aS h; cases (show none = some r from h)
  | succ dk g6 =>
   intro bO aS h
   replace h : vU (pv a0 dk) a0 bO aS = some r := h
   refine e5 (fun iP fY fm cF => ?_)
   refine ba (fun gG eQ e_ cw => ?_)
   refine ws _ ?_
   rcases bl h with ⟨bY, h⟩ | ⟨bY, h⟩
   ·refine bt (congrArg j.bool bY) ?_
    simp only [bY, aL.down]
    refine bF (eQ _ (.inl ?_))
    refine ba (fun g4 eF eP df => ?_)
    refine cE (fun fX dp ed dc dB => ?_)
    refine ba (fun kv gP jq eO => ?_)
    obtain ⟨aC, e2, h⟩ := aY h
    obtain ⟨aM, hB, h⟩ := aY h
    refine lz rfl (lA [(0, .slice (a0.map aR)), (1, .int .i64 bO), (5, .int .i64 aS), (18, .bool (!(aC == aM)))] (fun P aA => ?_) ?_)
    ·simp only [g2.down, simprocAttr, jI.down, e2]
     refine mI (zz bO _ hB) rfl rfl rfl rfl (.inl (by rfl)) ?_
     simp only [g2.down, simprocAttr, jI.down, e2]
     refine ⟨kT (by kernel_rfl), ?_⟩
     (try simp only [bI.down, simprocAttr, aR, e2] at aA ⊢); exact aA
    rcases bl h with ⟨gR, h⟩ | ⟨gR, h⟩
    ·refine bt (congrArg j.bool gR) ?_
     simp only [gR, aL.down]
     refine ws _ ?_
     exact a6 (jq _ (ed _ (eP _ (fm _ (c3 _ (bR _ (aI _ (.inl (a7 [.int .i64 (-1)] rfl (by cases a1 h; rfl) (by decide) bc)))))))))
    ·refine bx (congrArg j.bool gR) ?_
     simp only [gR, aL.down]
     refine bF (gP _ (.inl ?_))
     refine wr _ ?_
     refine dp _ (eF _ (.inl ?_))
     refine wr _ ?_
     exact fY _ (.inr ⟨_, cB rfl, g6 (IntKind.i64.wrap (bO + 1)) (IntKind.i64.wrap (aS + 1)) h⟩)
   ·refine bx (congrArg j.bool bY) ?_
    simp only [bY, aL.down]
    refine eL (cw 0 _ (cF 0 _ (bX _ (cI _ (.inl ?_)))))
    refine ws _ ?_
    exact a6 (aI _ (.inl (a7 [.int .i64 bO] rfl (by cases a1 h; rfl) (by decide) bc)))
 obtain ⟨n, h⟩ := eY h
 exact e4 (.inr ⟨_, cB rfl, hj n ah 0 h⟩)
theorem Yr (a0 : i2) (r : Bool) (h : y_ a0 = some r) : aX aN 19 [hA a0] (.bool r) [] := by
 refine aX.cP (fx := [0]) cV [.tmp 2] [(0, hA a0)] Try.func19 rfl rfl mj (Nat.le_of_ble_eq_true rfl) rfl rfl (fun cR aI cN => ?_)
 refine ws _ ?_
 refine ws _ ?_
 obtain ⟨aC, cn, h⟩ := aY h
 refine fc (Xj a0 1048576 _ cn) _ ?_
 refine ba (fun iP fY fm cF => ?_)
 refine ws _ ?_
 rcases bl h with ⟨kF, h⟩ | ⟨kF, h⟩
 ·refine bt (congrArg j.bool kF) ?_
  simp only [kF, aL.down]
  refine ws _ ?_
  exact a6 (fm _ (aI _ (.inl (a7 [.bool true] rfl (by cases a1 h; rfl) (by decide) bc))))
 ·refine bx (congrArg j.bool kF) ?_
  simp only [kF, aL.down]
  refine bF (fY _ (.inl ?_))
  obtain ⟨aM, ld, h⟩ := aY h
  obtain ⟨a8, rN, h⟩ := aY h
  refine cX (cu [(1, .bD (hA a0)), (4, .ay 1 (a8.1.map aR)), (5, .int .i64 a8.2)] (fun P aA => ?_) ?_)
  ·simp only [aQ.down, simprocAttr, n4.down]
   refine eb (v_ a0 _ ld) rfl rfl rfl rfl (.inl (by rfl)) ?_
   simp only [aQ.down, simprocAttr, n4.down]
   refine eb (XQ aM _ rN) rfl rfl (by simp only [aQ.down, simprocAttr, n4.down, gn, gp, gq, dE, @cm _ bf bf (fun _ => ij _), @cm _ dJ cA (fun _ => nk _)] <;> rfl) rfl (.inr (by simp only [j.cY, j.h7, @lB _ aR (fun _ => zc _), Bool.and_self])) ?_
   simp only [aQ.down, simprocAttr, n4.down]
   (try simp only [bI.down, simprocAttr, k1.down] at aA ⊢); exact aA
  obtain ⟨bU, e2, h⟩ := aY h
  refine fc (v_ a0 _ e2) _ ?_
  obtain ⟨cF, fk, h⟩ := aY h
  refine cX (cu [(1, .bD (hA a0)), (4, .ay 1 (a8.1.map aR)), (5, .int .i64 a8.2), (6, .bD (ks bU)), (7, .ay 1 (cF.1.map aR)), (8, .int .i64 cF.2)] (fun P aA => ?_) ?_)
  ·simp only [aQ.down, simprocAttr, ra.down]
   refine eb (EX bU _ fk) rfl rfl (by simp only [aQ.down, simprocAttr, ra.down, gn, gp, gq, dE, @cm _ bf bf (fun _ => ij _), @cm _ dJ cA (fun _ => nk _)] <;> rfl) rfl (.inr (by simp only [j.cY, j.h7, @lB _ aR (fun _ => zc _), Bool.and_self])) ?_
   simp only [aQ.down, simprocAttr, ra.down]
   (try simp only [bI.down, simprocAttr, k1.down] at aA ⊢); exact aA
  refine ba (fun py lL k6 lJ => ?_)
  obtain ⟨cw, g5, h⟩ := aY h
  refine cX (cu [(1, .bD (hA a0)), (4, .ay 1 (a8.1.map aR)), (5, .int .i64 a8.2), (6, .bD (ks bU)), (7, .ay 1 (cF.1.map aR)), (8, .int .i64 cF.2), (40, .bool ((!cw) || (cF.2 != a8.2)))] (fun P aA => ?_) ?_)
  ·rcases Bool.eq_false_or_eq_true (cw) with mj | mj
   ·simp only [aQ.down, simprocAttr, k1.down, mj]
    refine eb (rk cF.1 a8.1 _ g5) rfl rfl (by simp only [aQ.down, simprocAttr, k1.down, mj, gn, gp, gq, dE, @cm _ aR aR (fun _ => iB _), @cm _ aR aR (fun _ => iB _)] <;> rfl) rfl (.inr (by rfl)) ?_
    simp only [aQ.down, simprocAttr, k1.down, mj]
    (try simp only [bI.down, simprocAttr, k1.down, mj] at aA ⊢); exact aA
   ·simp only [aQ.down, simprocAttr, k1.down, mj]
    refine eb (rk cF.1 a8.1 _ g5) rfl rfl (by simp only [aQ.down, simprocAttr, k1.down, mj, gn, gp, gq, dE, @cm _ aR aR (fun _ => iB _), @cm _ aR aR (fun _ => iB _)] <;> rfl) rfl (.inr (by rfl)) ?_
    simp only [aQ.down, simprocAttr, k1.down, mj]
    (try simp only [bI.down, simprocAttr, k1.down, mj] at aA ⊢); exact aA
  rcases bl h with ⟨e6, h⟩ | ⟨e6, h⟩
  ·refine bt (congrArg j.bool e6) ?_
   simp only [e6, aL.down]
   refine ws _ ?_
   exact a6 (k6 _ (aI _ (.inl (a7 [.bool false] rfl (by cases a1 h; rfl) (by decide) bc))))
  ·refine bx (congrArg j.bool e6) ?_
   simp only [e6, aL.down]
   refine bF (lL _ (.inl ?_))
   refine ba (fun EM s9 s_ wb => ?_)
   obtain ⟨c0, mO, h⟩ := aY h
   obtain ⟨eE, hn, h⟩ := aY h
   refine lz rfl (lA [(1, .bD (hA a0)), (4, .ay 1 (a8.1.map aR)), (5, .int .i64 a8.2), (6, .bD (ks bU)), (7, .ay 1 (cF.1.map aR)), (8, .int .i64 cF.2), (45, .bool (!eE))] (fun P aA => ?_) ?_)
   ·simp only [g2.down, simprocAttr, v7.down]
    refine mI (v_ a0 _ mO) rfl rfl rfl rfl (.inl (by rfl)) ?_
    simp only [g2.down, simprocAttr, v7.down]
    refine mI (Yn bU c0 _ hn) rfl rfl (by simp only [g2.down, simprocAttr, v7.down, gn, gp, gq, dE, @cm _ bf bf (fun _ => ij _), @cm _ dJ cA (fun _ => nk _), @cm _ bf bf (fun _ => ij _), @cm _ dJ cA (fun _ => nk _)] <;> rfl) rfl (.inr (by rfl)) ?_
    simp only [g2.down, simprocAttr, v7.down]
    refine ⟨kT (by kernel_rfl), ?_⟩
    (try simp only [bI.down, simprocAttr, k1.down] at aA ⊢); exact aA
   rcases bl h with ⟨hk, h⟩ | ⟨hk, h⟩
   ·refine bt (congrArg j.bool hk) ?_
    simp only [(eM hk), aL.down]
    refine ws _ ?_
    exact a6 (s_ _ (aI _ (.inl (a7 [.bool false] rfl (by cases a1 h; rfl) (by decide) bc))))
   ·refine bx (congrArg j.bool hk) ?_
    simp only [(du hk), aL.down]
    refine bF (s9 _ (.inl ?_))
    refine ws _ ?_
    obtain ⟨df, zy, h⟩ := aY h
    refine cX (cu [(1, .bD (hA a0)), (4, .ay 1 (a8.1.map aR)), (5, .int .i64 a8.2), (7, .ay 1 (cF.1.map aR)), (8, .int .i64 cF.2), (9, .int .i64 df.1)] (fun P aA => ?_) ?_)
    ·simp only [aQ.down, simprocAttr, ra.down]
     refine mK [⟨.h 6 [0], true, _, _⟩, ⟨.int .i64 1, false, _, .hole⟩] (Yp bU.dK bU.Start bU.cG 1 _ zy) rfl rfl rfl (by simp only [aQ.down, simprocAttr, ra.down, o8, l_, kQ, gn, gp, gq, dE, or_true, true_or, @cm _ bf bf (fun _ => ij _), @cm _ dJ cA (fun _ => nk _)]) rfl rfl (.inl rfl) ?_
     simp only [aQ.down, simprocAttr, ra.down, ma]
     (try simp only [bI.down, simprocAttr, k1.down] at aA ⊢); exact aA
    refine ba (fun abD n31 E6 abE => ?_)
    rcases bl h with ⟨mQ, h⟩ | ⟨mQ, h⟩
    ·refine hX mQ _ ?_
     refine bt rfl ?_
     refine ws _ ?_
     exact a6 (E6 _ (aI _ (.inl (a7 [.bool false] rfl (by cases a1 h; rfl) (by decide) bc))))
    ·obtain ⟨dB, E7, h⟩ := aY h
     refine cX (cu [(1, .bD (hA a0)), (4, .ay 1 (a8.1.map aR)), (5, .int .i64 a8.2), (7, .ay 1 (cF.1.map aR)), (61, .bool ((!dB) || (cF.2 != a8.2)))] (fun P aA => ?_) ?_)
     ·rcases Bool.eq_false_or_eq_true (dB) with nq | nq
      ·simp only [aQ.down, simprocAttr, jJ.down, mQ, nq]
       refine iA (rk cF.1 a8.1 _ E7) rfl rfl (by simp only [aQ.down, simprocAttr, jJ.down, mQ, nq, gn, gp, gq, dE, @cm _ aR aR (fun _ => iB _), @cm _ aR aR (fun _ => iB _)] <;> rfl) rfl (.inr (by rfl)) ?_
       simp only [aQ.down, simprocAttr, jJ.down, mQ, nq]
       (try simp only [bI.down, simprocAttr, jJ.down, mQ, nq] at aA ⊢); exact aA
      ·simp only [aQ.down, simprocAttr, jJ.down, mQ, nq]
       refine iA (rk cF.1 a8.1 _ E7) rfl rfl (by simp only [aQ.down, simprocAttr, jJ.down, mQ, nq, gn, gp, gq, dE, @cm _ aR aR (fun _ => iB _), @cm _ aR aR (fun _ => iB _)] <;> rfl) rfl (.inr (by rfl)) ?_
       simp only [aQ.down, simprocAttr, jJ.down, mQ, nq]
       (try simp only [bI.down, simprocAttr, jJ.down, mQ, nq] at aA ⊢); exact aA
     rcases bl h with ⟨th, h⟩ | ⟨th, h⟩
     ·refine bt (congrArg j.bool th) ?_
      simp only [th, aL.down]
      refine ws _ ?_
      exact a6 (E6 _ (aI _ (.inl (a7 [.bool false] rfl (by cases a1 h; rfl) (by decide) bc))))
     ·refine bx (congrArg j.bool th) ?_
      simp only [th, aL.down]
      refine bF (n31 _ (.inl ?_))
      refine ws _ ?_
      obtain ⟨eO, Ys, h⟩ := aY h
      refine cX (cu [(1, .bD (hA a0)), (4, .ay 1 (a8.1.map aR)), (5, .int .i64 a8.2), (7, .ay 1 (eO.2.map aR)), (10, .int .i64 eO.1)] (fun P aA => ?_) ?_)
      ·simp only [aQ.down, simprocAttr, jJ.down]
       refine mK [⟨.h 7 [], true, _, _⟩, ⟨.int .i64 1, false, _, .hole⟩] (Yq cF.1 1 _ Ys) rfl rfl rfl (by simp only [aQ.down, simprocAttr, jJ.down, o8, l_, kQ, gn, gp, gq, dE, or_true, true_or, @cm _ aR aR (fun _ => iB _)]) rfl rfl (.inl rfl) ?_
       simp only [aQ.down, simprocAttr, jJ.down, ma]
       (try simp only [bI.down, simprocAttr, jJ.down] at aA ⊢); exact aA
      refine ws _ ?_
      obtain ⟨jG, Yt, h⟩ := aY h
      refine cX (cu [(1, .bD (hA a0)), (4, .ay 1 (a8.1.map aR)), (5, .int .i64 a8.2), (7, .ay 1 (eO.2.map aR)), (10, .int .i64 eO.1), (11, .int .i64 jG)] (fun P aA => ?_) ?_)
      ·simp only [aQ.down, simprocAttr, jJ.down]
       refine eb (E5 eO.2 1 _ Yt) rfl rfl (by simp only [aQ.down, simprocAttr, jJ.down, gn, gp, gq, dE, @cm _ aR aR (fun _ => iB _)] <;> rfl) rfl (.inr (by rfl)) ?_
       simp only [aQ.down, simprocAttr, jJ.down]
       (try simp only [bI.down, simprocAttr, jJ.down] at aA ⊢); exact aA
      refine ba (fun abF n45 Yu abG => ?_)
      refine ws _ ?_
      rcases bl h with ⟨ti, h⟩ | ⟨ti, h⟩
      ·refine bt (congrArg j.bool ti) ?_
       simp only [ti, aL.down]
       refine ws _ ?_
       exact a6 (Yu _ (aI _ (.inl (a7 [.bool false] rfl (by cases a1 h; rfl) (by decide) bc))))
      ·refine bx (congrArg j.bool ti) ?_
       simp only [ti, aL.down]
       refine bF (n45 _ (.inl ?_))
       refine ba (fun abH n49 Yv abI => ?_)
       refine ws _ ?_
       rcases bl h with ⟨tj, h⟩ | ⟨tj, h⟩
       ·refine bt (congrArg j.bool tj) ?_
        simp only [tj, aL.down]
        refine ws _ ?_
        exact a6 (Yv _ (aI _ (.inl (a7 [.bool false] rfl (by cases a1 h; rfl) (by decide) bc))))
       ·refine bx (congrArg j.bool tj) ?_
        simp only [tj, aL.down]
        refine bF (n49 _ (.inl ?_))
        obtain ⟨kq, Yw, h⟩ := aY h
        obtain ⟨hM, Yx, h⟩ := aY h
        refine cX (cu [(4, .ay 1 (a8.1.map aR)), (5, .int .i64 a8.2), (7, .ay 1 (eO.2.map aR)), (10, .int .i64 eO.1), (12, .ay 1 (hM.1.map aR)), (13, .int .i64 hM.2)] (fun P aA => ?_) ?_)
        ·simp only [aQ.down, simprocAttr, n4.down]
         refine eb (v_ a0 _ Yw) rfl rfl rfl rfl (.inl (by rfl)) ?_
         simp only [aQ.down, simprocAttr, n4.down]
         refine eb (EX kq _ Yx) rfl rfl (by simp only [aQ.down, simprocAttr, n4.down, gn, gp, gq, dE, @cm _ bf bf (fun _ => ij _), @cm _ dJ cA (fun _ => nk _)] <;> rfl) rfl (.inr (by simp only [j.cY, j.h7, @lB _ aR (fun _ => zc _), Bool.and_self])) ?_
         simp only [aQ.down, simprocAttr, n4.down]
         (try simp only [bI.down, simprocAttr, k1.down] at aA ⊢); exact aA
        refine ba (fun abJ Yy Yz abK => ?_)
        obtain ⟨j7, E8, h⟩ := aY h
        refine cX (cu [(7, .ay 1 (eO.2.map aR)), (10, .int .i64 eO.1), (87, .bool ((!j7) || (hM.2 != a8.2)))] (fun P aA => ?_) ?_)
        ·rcases Bool.eq_false_or_eq_true (j7) with mi | mi
         ·simp only [aQ.down, simprocAttr, aR, mi]
          refine eb (rk hM.1 a8.1 _ E8) rfl rfl (by simp only [aQ.down, simprocAttr, aR, mi, gn, gp, gq, dE, @cm _ aR aR (fun _ => iB _), @cm _ aR aR (fun _ => iB _)] <;> rfl) rfl (.inr (by rfl)) ?_
          simp only [aQ.down, simprocAttr, aR, mi]
          (try simp only [bI.down, simprocAttr, aR, mi] at aA ⊢); exact aA
         ·simp only [aQ.down, simprocAttr, aR, mi]
          refine eb (rk hM.1 a8.1 _ E8) rfl rfl (by simp only [aQ.down, simprocAttr, aR, mi, gn, gp, gq, dE, @cm _ aR aR (fun _ => iB _), @cm _ aR aR (fun _ => iB _)] <;> rfl) rfl (.inr (by rfl)) ?_
          simp only [aQ.down, simprocAttr, aR, mi]
          (try simp only [bI.down, simprocAttr, aR, mi] at aA ⊢); exact aA
        rcases bl h with ⟨tk, h⟩ | ⟨tk, h⟩
        ·refine bt (congrArg j.bool tk) ?_
         simp only [tk, aL.down]
         refine ws _ ?_
         exact a6 (Yz _ (aI _ (.inl (a7 [.bool false] rfl (by cases a1 h; rfl) (by decide) bc))))
        ·refine bx (congrArg j.bool tk) ?_
         simp only [tk, aL.down]
         refine bF (Yy _ (.inl ?_))
         refine ws _ ?_
         obtain ⟨lJ, wj, h⟩ := aY h
         refine cX (cu [(10, .int .i64 eO.1), (11, .int .i64 lJ)] (fun P aA => ?_) ?_)
         ·simp only [aQ.down, simprocAttr, aR]
          refine eb (E5 eO.2 1 _ wj) rfl rfl (by simp only [aQ.down, simprocAttr, aR, gn, gp, gq, dE, @cm _ aR aR (fun _ => iB _)] <;> rfl) rfl (.inr (by rfl)) ?_
          simp only [aQ.down, simprocAttr, aR]
          (try simp only [bI.down, simprocAttr, aR] at aA ⊢); exact aA
         refine ba (fun abL n65 YA abM => ?_)
         refine ws _ ?_
         rcases bl h with ⟨tl, h⟩ | ⟨tl, h⟩
         ·refine bt (congrArg j.bool tl) ?_
          simp only [tl, aL.down]
          refine ws _ ?_
          exact a6 (YA _ (aI _ (.inl (a7 [.bool false] rfl (by cases a1 h; rfl) (by decide) bc))))
         ·refine bx (congrArg j.bool tl) ?_
          simp only [tl, aL.down]
          refine bF (n65 _ (.inl ?_))
          refine ba (fun abN n69 YB abO => ?_)
          refine ws _ ?_
          rcases bl h with ⟨tm, h⟩ | ⟨tm, h⟩
          ·refine bt (congrArg j.bool tm) ?_
           simp only [tm, aL.down]
           refine ws _ ?_
           exact a6 (YB _ (aI _ (.inl (a7 [.bool false] rfl (by cases a1 h; rfl) (by decide) bc))))
          ·refine bx (congrArg j.bool tm) ?_
           simp only [tm, aL.down]
           refine bF (n69 _ (.inl ?_))
           refine ws _ ?_
           exact a6 (aI _ (.inl (a7 [.bool true] rfl (by cases a1 h; rfl) (by decide) bc)))
end Go.Proofs.Ytobljppjkklojaa
