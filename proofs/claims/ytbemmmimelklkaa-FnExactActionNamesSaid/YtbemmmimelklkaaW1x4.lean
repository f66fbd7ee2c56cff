/- Part of a proof that a law returns true for every input. No condition. -/
import Derived.Test.YtbemmmimelklkaaSl
namespace Go.Proofs.Ytbemmmimelklkaa
open Go Go.cB Go.eJ
set_option maxRecDepth 100000
set_option linter.unusedSimpArgs false
set_option linter.unusedVariables false
def iT := PLift.up (And.intro @eZ (And.intro @oV (And.intro @fw (And.intro @w8 (And.intro @oW (And.intro @w9 (And.intro @qd (And.intro @w_ (And.intro @j6 (And.intro @mO (And.intro @fU (And.intro @hi (And.intro @nq (And.intro @qe (And.intro @fy (And.intro @tV (And.intro @oX (And.intro @fh (And.intro @lk (And.intro @ll (And.intro @bk.eq_1 (And.intro @bR.eq_1 (And.intro @bK.eq_1 (And.intro @c0.eq_1 (And.intro @e7.eq_1 (And.intro @eN.eq_1 (And.intro @ev.eq_1 (And.intro @dw.eq_1 (And.intro @eM.eq_1 (And.intro @bf.eq_1 (And.intro @e8.eq_1 (And.intro @ew.eq_1 @eF.eq_1))))))))))))))))))))))))))))))))
theorem ws {Q : Exit → aj → Prop} {l : List (Nat × I)} {ros : List cg} {k : List Nat} {b : J} (dn : List (Nat × I)) (ay : cG aN b Q (R dn)) (h : ∀ P : List (Nat × I) → Prop, P dn → cb aN (R l) ros none (fun _ s => P (hz k s)) := by
 intro P aq
 simp only [aQ.down, simprocAttr, iT.down]
 (try simp only [bw.down, simprocAttr, iT.down] at aq ⊢)
 exact aq) : cG aN (.seq (.ae ros (some k)) b) Q (R l) :=
 c5 (b3 dn (h) ay)
theorem ga {Q : Exit → aj → Prop} {l : List (Nat × I)} {ros : List cg} {k : List Nat} {b : J} {g : FuncId} {ds : List I} {r : I} (ok : aU aN g ds r []) (dn : List (Nat × I)) (ay : cG aN b Q (R dn)) (h : aU aN g ds r [] → ∀ P : List (Nat × I) → Prop, P dn → cb aN (R l) ros none (fun _ s => P (hz k s)) := by
 intro qG P aq
 (try simp only [aQ.down, simprocAttr, iT.down])
 refine fv qG rfl rfl rfl rfl (.inl (by rfl)) ?_
 simp only [aQ.down, simprocAttr, iT.down]
 (try simp only [bw.down, simprocAttr, iT.down] at aq ⊢)
 exact aq) : cG aN (.seq (.ae ros (some k)) b) Q (R l) :=
 c5 (b3 dn (h ok) ay)
theorem hZ {F : Prop} (bo : F) {Q : Exit → aj → Prop} {l : List (Nat × I)} {ros : List cg} {k : List Nat} {b : J} (dn : List (Nat × I)) (ay : cG aN b Q (R dn)) (h : F → ∀ P : List (Nat × I) → Prop, P dn → cb aN (R l) ros none (fun _ s => P (hz k s)) := by
 intro bo P aq
 simp only [aQ.down, simprocAttr, iT.down, bo]
 (try simp only [bw.down, simprocAttr, iT.down, bo] at aq ⊢)
 exact aq) : cG aN (.seq (.ae ros (some k)) b) Q (R l) :=
 c5 (b3 dn (h bo) ay)
theorem j_ {F : Prop} (bo : F) {Q : Exit → aj → Prop} {l : List (Nat × I)} {ros : List cg} {k : List Nat} {b : J} {g : FuncId} {ds : List I} {r : I} (ok : aU aN g ds r []) (dn : List (Nat × I)) (ay : cG aN b Q (R dn)) (h : aU aN g ds r [] → F → ∀ P : List (Nat × I) → Prop, P dn → cb aN (R l) ros none (fun _ s => P (hz k s)) := by
 intro qG bo P aq
 (try simp only [aQ.down, simprocAttr, iT.down, bo])
 refine fv qG rfl rfl rfl rfl (.inl (by rfl)) ?_
 simp only [aQ.down, simprocAttr, iT.down, bo]
 (try simp only [bw.down, simprocAttr, iT.down, bo] at aq ⊢)
 exact aq) : cG aN (.seq (.ae ros (some k)) b) Q (R l) :=
 c5 (b3 dn (h ok bo) ay)
theorem wr {Q : Exit → aj → Prop} {l : List (Nat × I)} {ros : List cg} {k : List Nat} (dn : List (Nat × I)) (ay : Q .normal (R dn)) (h : ∀ P : List (Nat × I) → Prop, P dn → cb aN (R l) ros none (fun _ s => P (hz k s)) := by
 intro P aq
 simp only [aQ.down, simprocAttr, iT.down]
 (try simp only [bw.down, simprocAttr, iT.down] at aq ⊢)
 exact aq) : cG aN (.ae ros (some k)) Q (R l) :=
 jM (b3 dn (h) ay)
theorem acI {Q : Exit → aj → Prop} {l : List (Nat × I)} {ros : List cg} {k : List Nat} {g : FuncId} {ds : List I} {r : I} (ok : aU aN g ds r []) (dn : List (Nat × I)) (ay : Q .normal (R dn)) (h : aU aN g ds r [] → ∀ P : List (Nat × I) → Prop, P dn → cb aN (R l) ros none (fun _ s => P (hz k s)) := by
 intro qG P aq
 (try simp only [aQ.down, simprocAttr, iT.down])
 refine fv qG rfl rfl rfl rfl (.inl (by rfl)) ?_
 simp only [aQ.down, simprocAttr, iT.down]
 (try simp only [bw.down, simprocAttr, iT.down] at aq ⊢)
 exact aq) : cG aN (.ae ros (some k)) Q (R l) :=
 jM (b3 dn (h ok) ay)
theorem acJ {F : Prop} (bo : F) {Q : Exit → aj → Prop} {l : List (Nat × I)} {ros : List cg} {k : List Nat} (dn : List (Nat × I)) (ay : Q .normal (R dn)) (h : F → ∀ P : List (Nat × I) → Prop, P dn → cb aN (R l) ros none (fun _ s => P (hz k s)) := by
 intro bo P aq
 simp only [aQ.down, simprocAttr, iT.down, bo]
 (try simp only [bw.down, simprocAttr, iT.down, bo] at aq ⊢)
 exact aq) : cG aN (.ae ros (some k)) Q (R l) :=
 jM (b3 dn (h bo) ay)
theorem BZ {F : Prop} (bo : F) {Q : Exit → aj → Prop} {l : List (Nat × I)} {ros : List cg} {k : List Nat} {g : FuncId} {ds : List I} {r : I} (ok : aU aN g ds r []) (dn : List (Nat × I)) (ay : Q .normal (R dn)) (h : aU aN g ds r [] → F → ∀ P : List (Nat × I) → Prop, P dn → cb aN (R l) ros none (fun _ s => P (hz k s)) := by
 intro qG bo P aq
 (try simp only [aQ.down, simprocAttr, iT.down, bo])
 refine fv qG rfl rfl rfl rfl (.inl (by rfl)) ?_
 simp only [aQ.down, simprocAttr, iT.down, bo]
 (try simp only [bw.down, simprocAttr, iT.down, bo] at aq ⊢)
 exact aq) : cG aN (.ae ros (some k)) Q (R l) :=
 jM (b3 dn (h ok bo) ay)
def gl := PLift.up (And.intro @bk.eq_1 (And.intro @bR.eq_1 (And.intro @bK.eq_1 @dw.eq_1)))
def gm := PLift.up (And.intro @eZ (And.intro @fw (And.intro @oW (And.intro @j6 (And.intro @mO (And.intro @fU (And.intro @hi (And.intro @fy (And.intro @fh (And.intro @bk.eq_1 (And.intro @bR.eq_1 (And.intro @bK.eq_1 @dw.eq_1))))))))))))
def hj := PLift.up (And.intro @bK.eq_1 (And.intro @e7.eq_1 (And.intro @eN.eq_1 (And.intro @ev.eq_1 (And.intro @eM.eq_1 (And.intro @bf.eq_1 (And.intro @e8.eq_1 (And.intro @ew.eq_1 @eF.eq_1))))))))
def ka := PLift.up (And.intro @fw (And.intro @w9 @bf.eq_1))
def kb := PLift.up (And.intro @e7.eq_1 (And.intro @eN.eq_1 (And.intro @ev.eq_1 (And.intro @eM.eq_1 @bf.eq_1))))
def kV := PLift.up (And.intro @bR.eq_1 (And.intro @bK.eq_1 @dw.eq_1))
def lv := PLift.up (And.intro @eZ (And.intro @fy (And.intro @fh @bK.eq_1)))
def lx := PLift.up (And.intro @bk.eq_1 (And.intro @bR.eq_1 (And.intro @bK.eq_1 (And.intro @c0.eq_1 @dw.eq_1))))
def l9 := PLift.up (And.intro @eZ (And.intro @fw (And.intro @fU (And.intro @hi (And.intro @fy (And.intro @fh (And.intro @bR.eq_1 (And.intro @bK.eq_1 @dw.eq_1))))))))
def ns := PLift.up (And.intro @eZ (And.intro @fw (And.intro @j6 (And.intro @mO (And.intro @fU (And.intro @hi (And.intro @fy (And.intro @fh (And.intro @bk.eq_1 (And.intro @bR.eq_1 (And.intro @bK.eq_1 @dw.eq_1)))))))))))
def nt := PLift.up (And.intro @eZ (And.intro @fw (And.intro @oW (And.intro @j6 (And.intro @mO (And.intro @fU (And.intro @hi (And.intro @fy (And.intro @fh (And.intro @bk.eq_1 (And.intro @bR.eq_1 (And.intro @bK.eq_1 (And.intro @c0.eq_1 @dw.eq_1)))))))))))))
def qH := PLift.up (And.intro @bR.eq_1 (And.intro @bK.eq_1 (And.intro @dw.eq_1 @bf.eq_1)))
def qI := PLift.up (And.intro @eZ (And.intro @fw (And.intro @j6 (And.intro @fU (And.intro @hi (And.intro @fy (And.intro @fh (And.intro @bK.eq_1 (And.intro @ew.eq_1 @eF.eq_1)))))))))
def sv := PLift.up (And.intro @eZ (And.intro @fw (And.intro @oW (And.intro @j6 (And.intro @mO (And.intro @fU (And.intro @hi (And.intro @fy (And.intro @fh (And.intro @bK.eq_1 (And.intro @e8.eq_1 (And.intro @ew.eq_1 @eF.eq_1))))))))))))
def uW := PLift.up (And.intro @eZ (And.intro @fw (And.intro @fU (And.intro @hi (And.intro @fy (And.intro @fh (And.intro @bk.eq_1 (And.intro @bR.eq_1 (And.intro @bK.eq_1 @dw.eq_1)))))))))
def uX := PLift.up (And.intro @bR.eq_1 (And.intro @bK.eq_1 (And.intro @c0.eq_1 @dw.eq_1)))
def yq := PLift.up (And.intro @eZ (And.intro @fw (And.intro @j6 (And.intro @fU (And.intro @hi (And.intro @fy (And.intro @fh (And.intro @bR.eq_1 (And.intro @bK.eq_1 @dw.eq_1)))))))))
def yr := PLift.up (And.intro @eZ (And.intro @oV (And.intro @fw (And.intro @fU (And.intro @hi (And.intro @fy (And.intro @oX (And.intro @fh (And.intro @bR.eq_1 (And.intro @bK.eq_1 (And.intro @c0.eq_1 @dw.eq_1)))))))))))
def ys := PLift.up (And.intro @eZ (And.intro @fw (And.intro @fU (And.intro @hi (And.intro @fy (And.intro @fh (And.intro @bk.eq_1 (And.intro @bR.eq_1 (And.intro @bK.eq_1 (And.intro @c0.eq_1 @dw.eq_1))))))))))
def yt := PLift.up (And.intro @bK.eq_1 (And.intro @ew.eq_1 @eF.eq_1))
def yu := PLift.up (And.intro @bk.eq_1 (And.intro @bR.eq_1 (And.intro @bK.eq_1 (And.intro @e7.eq_1 (And.intro @eN.eq_1 (And.intro @ev.eq_1 (And.intro @dw.eq_1 (And.intro @eM.eq_1 @bf.eq_1))))))))
def B0 := PLift.up (And.intro @eZ (And.intro @oV (And.intro @oX (And.intro @GF (And.intro @bk.eq_1 (And.intro @bR.eq_1 (And.intro @bK.eq_1 (And.intro @c0.eq_1 @dw.eq_1))))))))
def B1 := PLift.up (And.intro @eZ (And.intro @oV (And.intro @fw (And.intro @j6 (And.intro @mO (And.intro @fU (And.intro @hi (And.intro @fy (And.intro @oX (And.intro @fh (And.intro @GF (And.intro @bk.eq_1 (And.intro @bR.eq_1 (And.intro @bK.eq_1 (And.intro @c0.eq_1 @dw.eq_1)))))))))))))))
def B2 := PLift.up (And.intro @eZ (And.intro @fw (And.intro @fU (And.intro @hi (And.intro @fy (And.intro @fh (And.intro @bR.eq_1 (And.intro @bK.eq_1 (And.intro @c0.eq_1 @dw.eq_1)))))))))
theorem acK (a0 : List fM) (ad : Int) (r : Int) (h : tX a0 ad = some r) : aU aN 98 [.slice (a0.map ev), .int .i64 ad] (.int .i64 r) [] := by
 refine aU.cQ (fx := [0]) cR [.tmp 4] [(0, .slice (a0.map ev)), (1, .int .i64 ad)] Try.func98 rfl rfl OO (Nat.le_of_ble_eq_true rfl) rfl rfl (fun cO aI cM => ?_)
 refine ws _ ?_
 refine ws _ ?_
 refine a7 (fun ly h0 dJ aX => ?_)
 refine ws _ ?_
 rcases a8 h with ⟨cp, h⟩ | ⟨cp, h⟩
 ·refine bg (congrArg I.bool cp) ?_
  simp only [cp, Bool.not_true, Bool.not_false]
  refine ws _ ?_
  exact a1 (dJ _ (aI _ (.inl (a2 [.int .i64 (-1)] rfl (by cases aS h; rfl) (by decide) ba))))
 ·refine bm (congrArg I.bool cp) ?_
  simp only [cp, Bool.not_true, Bool.not_false]
  refine bt (h0 _ (.inl ?_))
  refine ws _ ?_
  exact a1 (aI _ (.inl (a2 [.int .i64 (IntKind.i64.wrap (ad - (a0.length : Int)))] rfl (by cases aS h; rfl) (by decide) ba)))
theorem acL (a0 : List (List fM)) (ad : Int) (r : Int) (h : xb a0 ad = some r) : aU aN 68 [.slice (a0.map eM), .int .i64 ad] (.int .i64 r) [] := by
 refine aU.cQ (fx := [0]) cR [.tmp 4] [(0, .slice (a0.map eM)), (1, .int .i64 ad)] Try.func68 rfl rfl O3 (Nat.le_of_ble_eq_true rfl) rfl rfl (fun cO aI cM => ?_)
 refine ws _ ?_
 refine ws _ ?_
 refine a7 (fun ly h0 dJ aX => ?_)
 refine ws _ ?_
 rcases a8 h with ⟨cp, h⟩ | ⟨cp, h⟩
 ·refine bg (congrArg I.bool cp) ?_
  simp only [cp, Bool.not_true, Bool.not_false]
  refine ws _ ?_
  exact a1 (dJ _ (aI _ (.inl (a2 [.int .i64 (-1)] rfl (by cases aS h; rfl) (by decide) ba))))
 ·refine bm (congrArg I.bool cp) ?_
  simp only [cp, Bool.not_true, Bool.not_false]
  refine bt (h0 _ (.inl ?_))
  refine a7 (fun jq fA fO d_ => ?_)
  refine ws _ ?_
  refine cc (fun fG dD dF eh dP => ?_)
  have lz : ∀ (n : Nat) (fz : Int) (eK : Int), xa a0 n fz eK = some r → dY aN GZ fG (R [(0, .slice (a0.map eM)), (1, .int .i64 fz), (5, .int .i64 eK)]) := by
   intro g7
   induction g7 with
   | zero => intro fz eK h; cases (show none = some r from h)
   | succ g7 lA =>
    intro fz eK h
    replace h : GG (xa a0 g7) a0 fz eK = some r := h
    refine eE (fun gH dk dO dK => ?_)
    refine a7 (fun kW hk kc en => ?_)
    refine ws _ ?_
    rcases a8 h with ⟨c6, h⟩ | ⟨c6, h⟩
    ·refine bg (congrArg I.bool c6) ?_
     simp only [c6, Bool.not_true, Bool.not_false]
     refine bt (hk _ (.inl ?_))
     refine a7 (fun kd g8 gb hY => ?_)
     refine cc (fun mT hO h1 dL iA => ?_)
     obtain ⟨ar, gI, h⟩ := aW h
     obtain ⟨aC, gX, h⟩ := aW h
     refine j_ gI (acK ar fz _ gX) _ ?_
     refine ws _ ?_
     rcases a8 h with ⟨eo, h⟩ | ⟨eo, h⟩
     ·refine bg (congrArg I.bool eo) ?_
      simp only [eo, Bool.not_true, Bool.not_false]
      refine ws _ ?_
      exact a1 (h1 _ (gb _ (dO _ (dF _ (fO _ (aI _ (.inl (a2 [.int .i64 (-1)] rfl (by cases aS h; rfl) (by decide) ba))))))))
     ·refine bm (congrArg I.bool eo) ?_
      simp only [eo, Bool.not_true, Bool.not_false]
      refine bt (hO _ (g8 _ (.inl ?_)))
      refine wr _ ?_
      exact dk _ (.inr ⟨_, bJ rfl, lA aC (IntKind.i64.wrap (eK + 1)) h⟩)
    ·refine bm (congrArg I.bool c6) ?_
     simp only [c6, Bool.not_true, Bool.not_false]
     refine ek (en 0 _ (dK 0 _ (eh _ (fA _ (.inl ?_)))))
     refine ws _ ?_
     exact a1 (aI _ (.inl (a2 [.int .i64 fz] rfl (by cases aS h; rfl) (by decide) ba)))
  obtain ⟨n, h⟩ := ep h
  exact eD (.inr ⟨_, bJ rfl, lz n (IntKind.i64.wrap (ad - (a0.length : Int))) 0 h⟩)
theorem acM (a0 : gV) (ad : Int) (r : Int) (h : tY a0 ad = some r) : aU aN 45 [eN a0, .int .i64 ad] (.int .i64 r) [] := by
 refine aU.cQ (fx := [0]) cR [.tmp 4] [(0, eN a0), (1, .int .i64 ad)] Try.func45 rfl rfl Pd (Nat.le_of_ble_eq_true rfl) rfl rfl (fun cO aI cM => ?_)
 refine ws _ ?_
 refine ws _ ?_
 refine a7 (fun ly h0 dJ aX => ?_)
 refine ws _ ?_
 rcases a8 h with ⟨cp, h⟩ | ⟨cp, h⟩
 ·refine bg (congrArg I.bool cp) ?_
  simp only [cp, Bool.not_true, Bool.not_false]
  refine ws _ ?_
  exact a1 (dJ _ (aI _ (.inl (a2 [.int .i64 (-1)] rfl (by cases aS h; rfl) (by decide) ba))))
 ·refine bm (congrArg I.bool cp) ?_
  simp only [cp, Bool.not_true, Bool.not_false]
  refine bt (h0 _ (.inl ?_))
  obtain ⟨ar, jg, h⟩ := aW h
  refine ga (acL a0.b4 (IntKind.i64.wrap (ad - (a0.Name.length : Int))) _ jg) _ ?_
  refine a7 (fun fG dD dF dP => ?_)
  refine ws _ ?_
  rcases a8 h with ⟨hC, h⟩ | ⟨hC, h⟩
  ·refine bg (congrArg I.bool hC) ?_
   simp only [hC, Bool.not_true, Bool.not_false]
   refine ws _ ?_
   exact a1 (dF _ (aI _ (.inl (a2 [.int .i64 (-1)] rfl (by cases aS h; rfl) (by decide) ba))))
  ·refine bm (congrArg I.bool hC) ?_
   simp only [hC, Bool.not_true, Bool.not_false]
   refine bt (dD _ (.inl ?_))
   refine ws _ ?_
   exact a1 (aI _ (.inl (a2 [.int .i64 ar] rfl (by cases aS h; rfl) (by decide) ba)))
theorem acN (a0 : List gV) (ad : Int) (r : Int) (h : xd a0 ad = some r) : aU aN 31 [.slice (a0.map eN), .int .i64 ad] (.int .i64 r) [] := by
 refine aU.cQ (fx := [0]) cR [.tmp 4] [(0, .slice (a0.map eN)), (1, .int .i64 ad)] Try.func31 rfl rfl Pt (Nat.le_of_ble_eq_true rfl) rfl rfl (fun cO aI cM => ?_)
 refine ws _ ?_
 refine ws _ ?_
 refine a7 (fun ly h0 dJ aX => ?_)
 refine ws _ ?_
 rcases a8 h with ⟨cp, h⟩ | ⟨cp, h⟩
 ·refine bg (congrArg I.bool cp) ?_
  simp only [cp, Bool.not_true, Bool.not_false]
  refine ws _ ?_
  exact a1 (dJ _ (aI _ (.inl (a2 [.int .i64 (-1)] rfl (by cases aS h; rfl) (by decide) ba))))
 ·refine bm (congrArg I.bool cp) ?_
  simp only [cp, Bool.not_true, Bool.not_false]
  refine bt (h0 _ (.inl ?_))
  refine a7 (fun jq fA fO d_ => ?_)
  refine ws _ ?_
  refine cc (fun fG dD dF eh dP => ?_)
  have lz : ∀ (n : Nat) (fz : Int) (eK : Int), xc a0 n fz eK = some r → dY aN G0 fG (R [(0, .slice (a0.map eN)), (1, .int .i64 fz), (5, .int .i64 eK)]) := by
   intro g7
   induction g7 with
   | zero => intro fz eK h; cases (show none = some r from h)
   | succ g7 lA =>
    intro fz eK h
    replace h : GH (xc a0 g7) a0 fz eK = some r := h
    refine eE (fun gH dk dO dK => ?_)
    refine a7 (fun kW hk kc en => ?_)
    refine ws _ ?_
    rcases a8 h with ⟨c6, h⟩ | ⟨c6, h⟩
    ·refine bg (congrArg I.bool c6) ?_
     simp only [c6, Bool.not_true, Bool.not_false]
     refine bt (hk _ (.inl ?_))
     refine a7 (fun kd g8 gb hY => ?_)
     refine cc (fun mT hO h1 dL iA => ?_)
     obtain ⟨ar, gI, h⟩ := aW h
     obtain ⟨aC, gX, h⟩ := aW h
     refine j_ gI (acM ar fz _ gX) _ ?_
     refine ws _ ?_
     rcases a8 h with ⟨eo, h⟩ | ⟨eo, h⟩
     ·refine bg (congrArg I.bool eo) ?_
      simp only [eo, Bool.not_true, Bool.not_false]
      refine ws _ ?_
      exact a1 (h1 _ (gb _ (dO _ (dF _ (fO _ (aI _ (.inl (a2 [.int .i64 (-1)] rfl (by cases aS h; rfl) (by decide) ba))))))))
     ·refine bm (congrArg I.bool eo) ?_
      simp only [eo, Bool.not_true, Bool.not_false]
      refine bt (hO _ (g8 _ (.inl ?_)))
      refine wr _ ?_
      exact dk _ (.inr ⟨_, bJ rfl, lA aC (IntKind.i64.wrap (eK + 1)) h⟩)
    ·refine bm (congrArg I.bool c6) ?_
     simp only [c6, Bool.not_true, Bool.not_false]
     refine ek (en 0 _ (dK 0 _ (eh _ (fA _ (.inl ?_)))))
     refine ws _ ?_
     exact a1 (aI _ (.inl (a2 [.int .i64 fz] rfl (by cases aS h; rfl) (by decide) ba)))
  obtain ⟨n, h⟩ := ep h
  exact eD (.inr ⟨_, bJ rfl, lz n (IntKind.i64.wrap (ad - (a0.length : Int))) 0 h⟩)
theorem acO (a0 : gF) (ad : Int) (r : Int) (h : tZ a0 ad = some r) : aU aN 19 [e7 a0, .int .i64 ad] (.int .i64 r) [] := by
 refine aU.cQ (fx := [0]) cR [.tmp 4] [(0, e7 a0), (1, .int .i64 ad)] Try.func19 rfl rfl mR (Nat.le_of_ble_eq_true rfl) rfl rfl (fun cO aI cM => ?_)
 refine ws _ ?_
 refine ws _ ?_
 refine a7 (fun ly h0 dJ aX => ?_)
 refine ws _ ?_
 rcases a8 h with ⟨cp, h⟩ | ⟨cp, h⟩
 ·refine bg (congrArg I.bool cp) ?_
  simp only [cp, Bool.not_true, Bool.not_false]
  refine ws _ ?_
  exact a1 (dJ _ (aI _ (.inl (a2 [.int .i64 (-1)] rfl (by cases aS h; rfl) (by decide) ba))))
 ·refine bm (congrArg I.bool cp) ?_
  simp only [cp, Bool.not_true, Bool.not_false]
  refine bt (h0 _ (.inl ?_))
  obtain ⟨ar, jg, h⟩ := aW h
  refine ga (acN a0.Body (IntKind.i64.wrap (ad - (a0.Name.length : Int))) _ jg) _ ?_
  refine a7 (fun fG dD dF dP => ?_)
  refine ws _ ?_
  rcases a8 h with ⟨hC, h⟩ | ⟨hC, h⟩
  ·refine bg (congrArg I.bool hC) ?_
   simp only [hC, Bool.not_true, Bool.not_false]
   refine ws _ ?_
   exact a1 (dF _ (aI _ (.inl (a2 [.int .i64 (-1)] rfl (by cases aS h; rfl) (by decide) ba))))
  ·refine bm (congrArg I.bool hC) ?_
   simp only [hC, Bool.not_true, Bool.not_false]
   refine bt (dD _ (.inl ?_))
   refine ws _ ?_
   exact a1 (aI _ (.inl (a2 [.int .i64 ar] rfl (by cases aS h; rfl) (by decide) ba)))
theorem acP (a0 : List gF) (ad : Int) (r : Int) (h : t_ a0 ad = some r) : aU aN 5 [.slice (a0.map e7), .int .i64 ad] (.int .i64 r) [] := by
 refine aU.cQ (fx := [0]) cR [.tmp 4] [(0, .slice (a0.map e7)), (1, .int .i64 ad)] Try.func5 rfl rfl uT (Nat.le_of_ble_eq_true rfl) rfl rfl (fun cO aI cM => ?_)
 refine ws _ ?_
 refine ws _ ?_
 refine a7 (fun ly h0 dJ aX => ?_)
 refine ws _ ?_
 rcases a8 h with ⟨cp, h⟩ | ⟨cp, h⟩
 ·refine bg (congrArg I.bool cp) ?_
  simp only [cp, Bool.not_true, Bool.not_false]
  refine ws _ ?_
  exact a1 (dJ _ (aI _ (.inl (a2 [.int .i64 (-1)] rfl (by cases aS h; rfl) (by decide) ba))))
 ·refine bm (congrArg I.bool cp) ?_
  simp only [cp, Bool.not_true, Bool.not_false]
  refine bt (h0 _ (.inl ?_))
  refine a7 (fun jq fA fO d_ => ?_)
  refine ws _ ?_
  refine cc (fun fG dD dF eh dP => ?_)
  have lz : ∀ (n : Nat) (fz : Int) (eK : Int), xe a0 n fz eK = some r → dY aN G1 fG (R [(0, .slice (a0.map e7)), (1, .int .i64 fz), (5, .int .i64 eK)]) := by
   intro g7
   induction g7 with
   | zero => intro fz eK h; cases (show none = some r from h)
   | succ g7 lA =>
    intro fz eK h
    replace h : GI (xe a0 g7) a0 fz eK = some r := h
    refine eE (fun gH dk dO dK => ?_)
    refine a7 (fun kW hk kc en => ?_)
    refine ws _ ?_
    rcases a8 h with ⟨c6, h⟩ | ⟨c6, h⟩
    ·refine bg (congrArg I.bool c6) ?_
     simp only [c6, Bool.not_true, Bool.not_false]
     refine bt (hk _ (.inl ?_))
     refine a7 (fun kd g8 gb hY => ?_)
     refine cc (fun mT hO h1 dL iA => ?_)
     obtain ⟨ar, gI, h⟩ := aW h
     obtain ⟨aC, gX, h⟩ := aW h
     refine j_ gI (acO ar fz _ gX) _ ?_
     refine ws _ ?_
     rcases a8 h with ⟨eo, h⟩ | ⟨eo, h⟩
     ·refine bg (congrArg I.bool eo) ?_
      simp only [eo, Bool.not_true, Bool.not_false]
      refine ws _ ?_
      exact a1 (h1 _ (gb _ (dO _ (dF _ (fO _ (aI _ (.inl (a2 [.int .i64 (-1)] rfl (by cases aS h; rfl) (by decide) ba))))))))
     ·refine bm (congrArg I.bool eo) ?_
      simp only [eo, Bool.not_true, Bool.not_false]
      refine bt (hO _ (g8 _ (.inl ?_)))
      refine wr _ ?_
      exact dk _ (.inr ⟨_, bJ rfl, lA aC (IntKind.i64.wrap (eK + 1)) h⟩)
    ·refine bm (congrArg I.bool c6) ?_
     simp only [c6, Bool.not_true, Bool.not_false]
     refine ek (en 0 _ (dK 0 _ (eh _ (fA _ (.inl ?_)))))
     refine ws _ ?_
     exact a1 (aI _ (.inl (a2 [.int .i64 fz] rfl (by cases aS h; rfl) (by decide) ba)))
  obtain ⟨n, h⟩ := ep h
  exact eD (.inr ⟨_, bJ rfl, lz n (IntKind.i64.wrap (ad - (a0.length : Int))) 0 h⟩)
theorem acQ (a0 : fM) (r : bz) (h : ua a0 = some r) : aU aN 121 [ev a0] (bK r) [] := by
 refine aU.cQ (fx := [0]) cR [.cell 2 123] [(0, ev a0)] Try.func121 rfl rfl PX (Nat.le_of_ble_eq_true rfl) rfl rfl (fun cO aI cM => ?_)
 refine ws _ ?_
 refine ws _ ?_
 refine ws _ ?_
 refine ws _ ?_
 refine ws _ ?_
 exact a1 (aI _ (.inl (a2 [bK (bz.mk a0.Kind a0.Value)] rfl (by cases aS h; rfl) (by decide) ba)))
theorem acR (a0 : List fM) (r : (List bz)) (h : ub a0 = some r) : aU aN 103 [.slice (a0.map ev)] (.aE 2 (r.map bK)) [] := by
 refine aU.cQ (fx := [0]) cR [.tmp 2] [(0, .slice (a0.map ev))] Try.func103 rfl rfl P6 (Nat.le_of_ble_eq_true rfl) rfl rfl (fun cO aI cM => ?_)
 refine ws _ ?_
 obtain ⟨yv, a_, h⟩ := aW h
 refine c5 (b3 [(0, .slice (a0.map ev)), (3, .aE 2 ((List.replicate (Int.toNat (a0.length : Int)) (bz.mk 0 0)).map bK))] (fun P aq => ?_) ?_)
 ·simp only [aQ.down, simprocAttr, eZ, fy, fh, lk, ll, bK, ev, (gB a_).1, (gB a_).2.1, (gB a_).2.2, eG, List.map_replicate, -Int.reduceNatCast']
  (try simp only [bw.down, simprocAttr, bK, ev, (gB a_).1, (gB a_).2.1, (gB a_).2.2, eG, List.map_replicate, -Int.reduceNatCast'] at aq ⊢); exact aq
 refine a7 (fun e9 fB cz bM => ?_)
 refine ws [(0, .slice (a0.map ev)), (3, .aE 2 ((List.replicate (Int.toNat (a0.length : Int)) (bz.mk 0 0)).map bK)), (4, .int .i64 0)] ?_
 refine cc (fun gY e_ ft cI cN => ?_)
 have mU : ∀ (n : Nat) (cK : List bz) (cq : Int), xf a0 n cK cq = some r → dY aN G2 gY (R [(0, .slice (a0.map ev)), (3, .aE 2 (cK.map bK)), (4, .int .i64 cq)]) := by
  intro fl
  induction fl with
  | zero => intro cK cq h; cases (show none = some r from h)
  | succ fl mV =>
   intro cK cq h
   replace h : GJ (xf a0 fl) a0 cK cq = some r := h
   refine eE (fun jq fA fO d_ => ?_)
   refine a7 (fun ke kz jl ig => ?_)
   refine ws _ ?_
   rcases a8 h with ⟨cL, h⟩ | ⟨cL, h⟩
   ·refine bg (congrArg I.bool cL) ?_
    simp only [cL, Bool.not_true, Bool.not_false]
    refine bt (kz _ (.inl ?_))
    refine a7 (fun kW hk kc en => ?_)
    refine cc (fun jr g9 i9 dr ij => ?_)
    obtain ⟨ar, gZ, h⟩ := aW h
    obtain ⟨aC, gd, h⟩ := aW h
    obtain ⟨aX, dm, h⟩ := aW h
    refine jM (b3 [(0, .slice (a0.map ev)), (3, .aE 2 ((List.set cK (Int.toNat cq) aC).map bK)), (4, .int .i64 cq)] (fun P aq => ?_) ?_)
    ·simp only [aQ.down, simprocAttr, eZ, fy, fh, lk, ll, bK, ev, gZ, dm, df dm, e6, dT]
     refine fv (acQ ar _ gd) rfl rfl rfl rfl (.inl (by rfl)) ?_
     simp only [aQ.down, simprocAttr, eZ, fy, fh, lk, ll, bK, ev, gZ, dm, df dm, e6, dT]
     (try simp only [bw.down, simprocAttr, bK, ev, gZ, dm, df dm, e6, dT] at aq ⊢); exact aq
    refine g9 _ (hk _ (.inl ?_))
    refine wr [(0, .slice (a0.map ev)), (3, .aE 2 ((List.set cK (Int.toNat cq) aC).map bK)), (4, .int .i64 (IntKind.i64.wrap (cq + 1)))] ?_
    exact fA _ (.inr ⟨_, bJ rfl, mV (List.set cK (Int.toNat cq) aC) (IntKind.i64.wrap (cq + 1)) h⟩)
   ·refine bm (congrArg I.bool cL) ?_
    simp only [cL, Bool.not_true, Bool.not_false]
    refine ek (ig 0 _ (d_ 0 _ (cI _ (fB _ (.inl ?_)))))
    refine ws _ ?_
    exact a1 (aI _ (.inl (a2 [.aE 2 (cK.map bK)] rfl (by cases aS h; rfl) (by decide) ba)))
 obtain ⟨n, h⟩ := ep h
 exact eD (.inr ⟨_, bJ rfl, mU n (List.replicate (Int.toNat (a0.length : Int)) (bz.mk 0 0)) 0 h⟩)
theorem acS (a0 : List (List fM)) (r : (List (List bz))) (h : xh a0 = some r) : aU aN 73 [.slice (a0.map eM)] (.aE 1 (r.map eF)) [] := by
 refine aU.cQ (fx := [0]) cR [.tmp 2] [(0, .slice (a0.map eM))] Try.func73 rfl rfl Qe (Nat.le_of_ble_eq_true rfl) rfl rfl (fun cO aI cM => ?_)
 refine ws _ ?_
 obtain ⟨yv, a_, h⟩ := aW h
 refine c5 (b3 [(0, .slice (a0.map eM)), (3, .aE 1 (List.replicate (Int.toNat (a0.length : Int)) .bA))] (fun P aq => ?_) ?_)
 ·simp only [aQ.down, simprocAttr, eZ, fU, nq, fy, fh, lk, ll, ev, eM, (gB a_).1, (gB a_).2.1, (gB a_).2.2, eG, List.map_replicate, -Int.reduceNatCast']
  (try simp only [bw.down, simprocAttr, ev, eM, (gB a_).1, (gB a_).2.1, (gB a_).2.2, eG, List.map_replicate, -Int.reduceNatCast'] at aq ⊢); exact aq
 refine a7 (fun e9 fB cz bM => ?_)
 refine ws [(0, .slice (a0.map eM)), (3, .aE 1 (List.replicate (Int.toNat (a0.length : Int)) .bA)), (4, .int .i64 0)] ?_
 refine cc (fun gY e_ ft cI cN => ?_)
 have mU : ∀ (n : Nat) (cK : List (List bz)) (cq : Int), xg a0 n cK cq = some r → dY aN G3 gY (R [(0, .slice (a0.map eM)), (3, .aE 1 (cK.map eF)), (4, .int .i64 cq)]) := by
  intro fl
  induction fl with
  | zero => intro cK cq h; cases (show none = some r from h)
  | succ fl mV =>
   intro cK cq h
   replace h : GK (xg a0 fl) a0 cK cq = some r := h
   refine eE (fun jq fA fO d_ => ?_)
   refine a7 (fun ke kz jl ig => ?_)
   refine ws _ ?_
   rcases a8 h with ⟨cL, h⟩ | ⟨cL, h⟩
   ·refine bg (congrArg I.bool cL) ?_
    simp only [cL, Bool.not_true, Bool.not_false]
    refine bt (kz _ (.inl ?_))
    refine a7 (fun kW hk kc en => ?_)
    refine cc (fun jr g9 i9 dr ij => ?_)
    obtain ⟨ar, gZ, h⟩ := aW h
    obtain ⟨aC, gd, h⟩ := aW h
    obtain ⟨aX, dm, h⟩ := aW h
    refine jM (b3 [(0, .slice (a0.map eM)), (3, .aE 1 ((List.set cK (Int.toNat cq) aC).map eF)), (4, .int .i64 cq)] (fun P aq => ?_) ?_)
    ·simp only [aQ.down, simprocAttr, eZ, fU, nq, fy, fh, lk, ll, bK, ev, eM, eF, gZ, dm, df dm, e6, dT]
     refine fv (acR ar _ gd) rfl rfl rfl rfl (.inl (by rfl)) ?_
     simp only [aQ.down, simprocAttr, eZ, fU, nq, fy, fh, lk, ll, bK, ev, eM, eF, gZ, dm, df dm, e6, dT]
     (try simp only [bw.down, simprocAttr, bK, ev, eM, eF, gZ, dm, df dm, e6, dT] at aq ⊢); exact aq
    refine g9 _ (hk _ (.inl ?_))
    refine wr [(0, .slice (a0.map eM)), (3, .aE 1 ((List.set cK (Int.toNat cq) aC).map eF)), (4, .int .i64 (IntKind.i64.wrap (cq + 1)))] ?_
    exact fA _ (.inr ⟨_, bJ rfl, mV (List.set cK (Int.toNat cq) aC) (IntKind.i64.wrap (cq + 1)) h⟩)
   ·refine bm (congrArg I.bool cL) ?_
    simp only [cL, Bool.not_true, Bool.not_false]
    refine ek (ig 0 _ (d_ 0 _ (cI _ (fB _ (.inl ?_)))))
    refine ws _ ?_
    exact a1 (aI _ (.inl (a2 [.aE 1 (cK.map eF)] rfl (by cases aS h; rfl) (by decide) ba)))
 obtain ⟨n, h⟩ := ep h
 exact eD (.inr ⟨_, p3 [] rfl (kt (t := 0) (d := .slice (a0.map eM)) rfl (p5 (t := 3) (d := .aE 1 (List.replicate (Int.toNat (a0.length : Int)) .bA)) (br := .aE 1 ((List.replicate (Int.toNat (a0.length : Int)) []).map eF)) rfl rfl (A4 (u := eF) (z := []) (.mI _) _) (by decide) (kt (t := 4) (d := .int .i64 0) rfl (p4)))), mU n (List.replicate (Int.toNat (a0.length : Int)) []) 0 h⟩)
theorem acT (a0 : gV) (r : bn) (h : uc a0 = some r) : aU aN 48 [eN a0] (ew r) [] := by
 refine aU.cQ (fx := [0]) cR [.cell 2 55] [(0, eN a0)] Try.func48 rfl rfl Qm (Nat.le_of_ble_eq_true rfl) rfl rfl (fun cO aI cM => ?_)
 refine ws _ ?_
 refine ws _ ?_
 refine ws _ ?_
 refine ws _ ?_
 refine ws _ ?_
 obtain ⟨ar, b2, h⟩ := aW h
 refine ga (acS a0.b4 _ b2) _ ?_
 refine ws _ ?_
 exact a1 (aI _ (.inl (a2 [ew (bn.mk a0.Kind a0.Number a0.Name ar)] rfl (by cases aS h; rfl) (by decide) ba)))
theorem acU (a0 : List gV) (r : (List bn)) (h : xj a0 = some r) : aU aN 35 [.slice (a0.map eN)] (.aE 4 (r.map ew)) [] := by
 refine aU.cQ (fx := [0]) cR [.tmp 2] [(0, .slice (a0.map eN))] Try.func35 rfl rfl Qv (Nat.le_of_ble_eq_true rfl) rfl rfl (fun cO aI cM => ?_)
 refine ws _ ?_
 obtain ⟨yv, a_, h⟩ := aW h
 refine c5 (b3 [(0, .slice (a0.map eN)), (3, .aE 4 (List.replicate (Int.toNat (a0.length : Int)) (.agg [(.int .i64 0), (.int .i64 0), (.str []), .bA])))] (fun P aq => ?_) ?_)
 ·simp only [aQ.down, simprocAttr, eZ, fw, qd, j6, fU, hi, nq, qe, fy, fh, lk, ll, eN, ev, eM, (gB a_).1, (gB a_).2.1, (gB a_).2.2, eG, List.map_replicate, -Int.reduceNatCast']
  (try simp only [bw.down, simprocAttr, eN, ev, eM, (gB a_).1, (gB a_).2.1, (gB a_).2.2, eG, List.map_replicate, -Int.reduceNatCast'] at aq ⊢); exact aq
 refine a7 (fun e9 fB cz bM => ?_)
 refine ws [(0, .slice (a0.map eN)), (3, .aE 4 (List.replicate (Int.toNat (a0.length : Int)) (.agg [(.int .i64 0), (.int .i64 0), (.str []), .bA]))), (4, .int .i64 0)] ?_
 refine cc (fun gY e_ ft cI cN => ?_)
 have mU : ∀ (n : Nat) (cK : List bn) (cq : Int), xi a0 n cK cq = some r → dY aN G4 gY (R [(0, .slice (a0.map eN)), (3, .aE 4 (cK.map ew)), (4, .int .i64 cq)]) := by
  intro fl
  induction fl with
  | zero => intro cK cq h; cases (show none = some r from h)
  | succ fl mV =>
   intro cK cq h
   replace h : GL (xi a0 fl) a0 cK cq = some r := h
   refine eE (fun jq fA fO d_ => ?_)
   refine a7 (fun ke kz jl ig => ?_)
   refine ws _ ?_
   rcases a8 h with ⟨cL, h⟩ | ⟨cL, h⟩
   ·refine bg (congrArg I.bool cL) ?_
    simp only [cL, Bool.not_true, Bool.not_false]
    refine bt (kz _ (.inl ?_))
    refine a7 (fun kW hk kc en => ?_)
    refine cc (fun jr g9 i9 dr ij => ?_)
    obtain ⟨ar, gZ, h⟩ := aW h
    obtain ⟨aC, gd, h⟩ := aW h
    obtain ⟨aX, dm, h⟩ := aW h
    refine jM (b3 [(0, .slice (a0.map eN)), (3, .aE 4 ((List.set cK (Int.toNat cq) aC).map ew)), (4, .int .i64 cq)] (fun P aq => ?_) ?_)
    ·simp only [aQ.down, simprocAttr, eZ, fw, qd, j6, fU, hi, nq, qe, fy, fh, lk, ll, bK, eN, ev, eM, ew, eF, gZ, dm, df dm, e6, dT]
     refine fv (acT ar _ gd) rfl rfl rfl rfl (.inl (by rfl)) ?_
     simp only [aQ.down, simprocAttr, eZ, fw, qd, j6, fU, hi, nq, qe, fy, fh, lk, ll, bK, eN, ev, eM, ew, eF, gZ, dm, df dm, e6, dT]
     (try simp only [bw.down, simprocAttr, bK, eN, ev, eM, ew, eF, gZ, dm, df dm, e6, dT] at aq ⊢); exact aq
    refine g9 _ (hk _ (.inl ?_))
    refine wr [(0, .slice (a0.map eN)), (3, .aE 4 ((List.set cK (Int.toNat cq) aC).map ew)), (4, .int .i64 (IntKind.i64.wrap (cq + 1)))] ?_
    exact fA _ (.inr ⟨_, bJ rfl, mV (List.set cK (Int.toNat cq) aC) (IntKind.i64.wrap (cq + 1)) h⟩)
   ·refine bm (congrArg I.bool cL) ?_
    simp only [cL, Bool.not_true, Bool.not_false]
    refine ek (ig 0 _ (d_ 0 _ (cI _ (fB _ (.inl ?_)))))
    refine ws _ ?_
    exact a1 (aI _ (.inl (a2 [.aE 4 (cK.map ew)] rfl (by cases aS h; rfl) (by decide) ba)))
 obtain ⟨n, h⟩ := ep h
 exact eD (.inr ⟨_, p3 [] rfl (kt (t := 0) (d := .slice (a0.map eN)) rfl (p5 (t := 3) (d := .aE 4 (List.replicate (Int.toNat (a0.length : Int)) (.agg [(.int .i64 0), (.int .i64 0), (.str []), .bA]))) (br := .aE 4 ((List.replicate (Int.toNat (a0.length : Int)) (bn.mk 0 0 ([] : List UInt8) [])).map ew)) rfl rfl (A4 (u := ew) (z := (bn.mk 0 0 ([] : List UInt8) [])) (.agg (.cons (.refl _) (.cons (.refl _) (.cons (.refl _) (.cons (.mI _) (.nil)))))) _) (by decide) (kt (t := 4) (d := .int .i64 0) rfl (p4)))), mU n (List.replicate (Int.toNat (a0.length : Int)) (bn.mk 0 0 ([] : List UInt8) [])) 0 h⟩)
theorem acV (a0 : gF) (r : aV) (h : ud a0 = some r) : aU aN 22 [e7 a0] (e8 r) [] := by
 refine aU.cQ (fx := [0]) cR [.cell 2 47] [(0, e7 a0)] Try.func22 rfl rfl QC (Nat.le_of_ble_eq_true rfl) rfl rfl (fun cO aI cM => ?_)
 refine ws _ ?_
 refine ws _ ?_
 refine ws _ ?_
 refine ws _ ?_
 obtain ⟨ar, b8, h⟩ := aW h
 refine ga (acU a0.Body _ b8) _ ?_
 refine ws _ ?_
 exact a1 (aI _ (.inl (a2 [e8 (aV.mk a0.Name a0.cS ar)] rfl (by cases aS h; rfl) (by decide) ba)))
theorem yw (a0 : List gF) (r : (List aV)) (h : oY a0 = some r) : aU aN 7 [.slice (a0.map e7)] (.aE 3 (r.map e8)) [] := by
 refine aU.cQ (fx := [0]) cR [.tmp 2] [(0, .slice (a0.map e7))] Try.func7 rfl rfl QK (Nat.le_of_ble_eq_true rfl) rfl rfl (fun cO aI cM => ?_)
 refine ws _ ?_
 obtain ⟨yv, a_, h⟩ := aW h
 refine c5 (b3 [(0, .slice (a0.map e7)), (3, .aE 3 (List.replicate (Int.toNat (a0.length : Int)) (.agg [(.str []), (.int .i64 0), .bA])))] (fun P aq => ?_) ?_)
 ·simp only [aQ.down, simprocAttr, eZ, fw, w8, oW, qd, w_, j6, mO, fU, hi, nq, qe, fy, fh, lk, ll, e7, eN, ev, eM, (gB a_).1, (gB a_).2.1, (gB a_).2.2, eG, List.map_replicate, -Int.reduceNatCast']
  (try simp only [bw.down, simprocAttr, e7, eN, ev, eM, (gB a_).1, (gB a_).2.1, (gB a_).2.2, eG, List.map_replicate, -Int.reduceNatCast'] at aq ⊢); exact aq
 refine a7 (fun e9 fB cz bM => ?_)
 refine ws [(0, .slice (a0.map e7)), (3, .aE 3 (List.replicate (Int.toNat (a0.length : Int)) (.agg [(.str []), (.int .i64 0), .bA]))), (4, .int .i64 0)] ?_
 refine cc (fun gY e_ ft cI cN => ?_)
 have mU : ∀ (n : Nat) (cK : List aV) (cq : Int), xk a0 n cK cq = some r → dY aN G5 gY (R [(0, .slice (a0.map e7)), (3, .aE 3 (cK.map e8)), (4, .int .i64 cq)]) := by
  intro fl
  induction fl with
  | zero => intro cK cq h; cases (show none = some r from h)
  | succ fl mV =>
   intro cK cq h
   replace h : GM (xk a0 fl) a0 cK cq = some r := h
   refine eE (fun jq fA fO d_ => ?_)
   refine a7 (fun ke kz jl ig => ?_)
   refine ws _ ?_
   rcases a8 h with ⟨cL, h⟩ | ⟨cL, h⟩
   ·refine bg (congrArg I.bool cL) ?_
    simp only [cL, Bool.not_true, Bool.not_false]
    refine bt (kz _ (.inl ?_))
    refine a7 (fun kW hk kc en => ?_)
    refine cc (fun jr g9 i9 dr ij => ?_)
    obtain ⟨ar, gZ, h⟩ := aW h
    obtain ⟨aC, gd, h⟩ := aW h
    obtain ⟨aX, dm, h⟩ := aW h
    refine jM (b3 [(0, .slice (a0.map e7)), (3, .aE 3 ((List.set cK (Int.toNat cq) aC).map e8)), (4, .int .i64 cq)] (fun P aq => ?_) ?_)
    ·simp only [aQ.down, simprocAttr, eZ, fw, w8, oW, qd, w_, j6, mO, fU, hi, nq, qe, fy, fh, lk, ll, bK, e7, eN, ev, eM, e8, ew, eF, gZ, dm, df dm, e6, dT]
     refine fv (acV ar _ gd) rfl rfl rfl rfl (.inl (by rfl)) ?_
     simp only [aQ.down, simprocAttr, eZ, fw, w8, oW, qd, w_, j6, mO, fU, hi, nq, qe, fy, fh, lk, ll, bK, e7, eN, ev, eM, e8, ew, eF, gZ, dm, df dm, e6, dT]
     (try simp only [bw.down, simprocAttr, bK, e7, eN, ev, eM, e8, ew, eF, gZ, dm, df dm, e6, dT] at aq ⊢); exact aq
    refine g9 _ (hk _ (.inl ?_))
    refine wr [(0, .slice (a0.map e7)), (3, .aE 3 ((List.set cK (Int.toNat cq) aC).map e8)), (4, .int .i64 (IntKind.i64.wrap (cq + 1)))] ?_
    exact fA _ (.inr ⟨_, bJ rfl, mV (List.set cK (Int.toNat cq) aC) (IntKind.i64.wrap (cq + 1)) h⟩)
   ·refine bm (congrArg I.bool cL) ?_
    simp only [cL, Bool.not_true, Bool.not_false]
    refine ek (ig 0 _ (d_ 0 _ (cI _ (fB _ (.inl ?_)))))
    refine ws _ ?_
    exact a1 (aI _ (.inl (a2 [.aE 3 (cK.map e8)] rfl (by cases aS h; rfl) (by decide) ba)))
 obtain ⟨n, h⟩ := ep h
 exact eD (.inr ⟨_, p3 [] rfl (kt (t := 0) (d := .slice (a0.map e7)) rfl (p5 (t := 3) (d := .aE 3 (List.replicate (Int.toNat (a0.length : Int)) (.agg [(.str []), (.int .i64 0), .bA]))) (br := .aE 3 ((List.replicate (Int.toNat (a0.length : Int)) (aV.mk ([] : List UInt8) 0 [])).map e8)) rfl rfl (A4 (u := e8) (z := (aV.mk ([] : List UInt8) 0 [])) (.agg (.cons (.refl _) (.cons (.refl _) (.cons (.mI _) (.nil))))) _) (by decide) (kt (t := 4) (d := .int .i64 0) rfl (p4)))), mU n (List.replicate (Int.toNat (a0.length : Int)) (aV.mk ([] : List UInt8) 0 [])) 0 h⟩)
theorem B3 (a0 : UInt8) (r : Bool) (h : ue a0 = some r) : aU aN 69 [.int .u8 (a0.toNat : Int)] (.bool r) [] := by
 refine aU.cQ (fx := [0]) cR [.tmp 2] [(0, .int .u8 (a0.toNat : Int))] Try.func69 rfl rfl QN (Nat.le_of_ble_eq_true rfl) rfl rfl (fun cO aI cM => ?_)
 refine ws _ ?_
 refine c5 (b3 [(2, .bool ((decide (97 ≤ (a0.toNat : Int))) && (decide ((a0.toNat : Int) ≤ 122))))] (fun P aq => ?_) ?_)
 ·rcases Bool.eq_false_or_eq_true (decide (97 ≤ (a0.toNat : Int))) with eR | eR
  ·simp only [aQ.down, simprocAttr, eR]
   (try simp only [bw.down, simprocAttr, eR] at aq ⊢); exact aq
  ·simp only [aQ.down, simprocAttr, eR]
   (try simp only [bw.down, simprocAttr, eR] at aq ⊢); exact aq
 exact a1 (aI _ (.inl (a2 [.bool ((decide (97 ≤ (a0.toNat : Int))) && (decide ((a0.toNat : Int) ≤ 122)))] rfl (by cases aS h; rfl) (by decide) ba)))
theorem acW (a0 : UInt8) (r : Bool) (h : Bx a0 = some r) : aU aN 70 [.int .u8 (a0.toNat : Int)] (.bool r) [] := by
 refine aU.cQ (fx := [0]) cR [.tmp 2] [(0, .int .u8 (a0.toNat : Int))] Try.func70 rfl rfl QQ (Nat.le_of_ble_eq_true rfl) rfl rfl (fun cO aI cM => ?_)
 refine ws _ ?_
 refine c5 (b3 [(2, .bool ((decide (48 ≤ (a0.toNat : Int))) && (decide ((a0.toNat : Int) ≤ 57))))] (fun P aq => ?_) ?_)
 ·rcases Bool.eq_false_or_eq_true (decide (48 ≤ (a0.toNat : Int))) with eR | eR
  ·simp only [aQ.down, simprocAttr, eR]
   (try simp only [bw.down, simprocAttr, eR] at aq ⊢); exact aq
  ·simp only [aQ.down, simprocAttr, eR]
   (try simp only [bw.down, simprocAttr, eR] at aq ⊢); exact aq
 exact a1 (aI _ (.inl (a2 [.bool ((decide (48 ≤ (a0.toNat : Int))) && (decide ((a0.toNat : Int) ≤ 57)))] rfl (by cases aS h; rfl) (by decide) ba)))
set_option maxHeartbeats 600000 in
theorem B4 (a0 : List UInt8) (r : Bool) (h : uf a0 = some r) : aU aN 46 [.str a0] (.bool r) [] := by
 refine aU.cQ (fx := [0]) cR [.tmp 2] [(0, .str a0)] Try.func46 rfl rfl Q3 (Nat.le_of_ble_eq_true rfl) rfl rfl (fun cO aI cM => ?_)
 refine ws _ ?_
 refine a7 (fun e5 cA bF aC => ?_)
 rcases a8 h with ⟨bY, h⟩ | ⟨bY, h⟩
 ·refine hZ bY _ ?_
  refine bg rfl ?_
  refine ws _ ?_
  exact a1 (bF _ (aI _ (.inl (a2 [.bool false] rfl (by cases aS h; rfl) (by decide) ba))))
 ·rcases a8 h with ⟨cI, h⟩ | ⟨cI, h⟩
  ·refine hZ (And.intro bY cI) _ ?_
   refine bg rfl ?_
   refine ws _ ?_
   exact a1 (bF _ (aI _ (.inl (a2 [.bool false] rfl (by cases aS h; rfl) (by decide) ba))))
  ·obtain ⟨ar, jg, h⟩ := aW h
   obtain ⟨aC, k_, h⟩ := aW h
   refine c5 (b3 [(0, .str a0), (16, .bool (!aC))] (fun P aq => ?_) ?_)
   ·simp only [aQ.down, simprocAttr, fw, bY, cI, jg]
    refine g5 (B3 ar _ k_) rfl rfl rfl rfl (.inl (by rfl)) ?_
    simp only [aQ.down, simprocAttr, fw, bY, cI, jg]
    (try simp only [bw.down, simprocAttr, bY, cI, jg] at aq ⊢); exact aq
   rcases a8 h with ⟨cL, h⟩ | ⟨cL, h⟩
   ·refine bg (congrArg I.bool cL) ?_
    simp only [(dZ cL), Bool.not_true, Bool.not_false]
    refine ws _ ?_
    exact a1 (bF _ (aI _ (.inl (a2 [.bool false] rfl (by cases aS h; rfl) (by decide) ba))))
   ·refine bm (congrArg I.bool cL) ?_
    simp only [(cX cL), Bool.not_true, Bool.not_false]
    refine bt (cA _ (.inl ?_))
    refine a7 (fun jr g9 i9 ij => ?_)
    refine ws _ ?_
    refine cc (fun kd g8 gb dU hY => ?_)
    have i_ : ∀ (n : Nat) (el : Int), r_ a0 n el = some r → dY aN G6 kd (R [(0, .str a0), (3, .int .i64 el)]) := by
     intro e0
     induction e0 with
     | zero => intro el h; cases (show none = some r from h)
     | succ e0 iU =>
      intro el h
      replace h : xl (r_ a0 e0) a0 el = some r := h
      refine eE (fun mT hO h1 iA => ?_)
      refine a7 (fun qJ kA jR l7 => ?_)
      refine ws _ ?_
      rcases a8 h with ⟨dG, h⟩ | ⟨dG, h⟩
      ·refine bg (congrArg I.bool dG) ?_
       simp only [dG, Bool.not_true, Bool.not_false]
       refine bt (kA _ (.inl ?_))
       refine a7 (fun uY kB qK sw => ?_)
       refine cc (fun B5 uZ yx eo HW => ?_)
       obtain ⟨aX, iB, h⟩ := aW h
       obtain ⟨bM, n4, h⟩ := aW h
       rcases a8 h with ⟨gf, h⟩ | ⟨gf, h⟩
       ·obtain ⟨bP, kX, h⟩ := aW h
        refine c5 (b3 [(0, .str a0), (3, .int .i64 el), (34, .bool (!bP))] (fun P aq => ?_) ?_)
        ·simp only [aQ.down, simprocAttr, fw, iB, (dZ gf)]
         refine fv (B3 aX _ n4) rfl rfl rfl rfl (.inl (by rfl)) ?_
         simp only [aQ.down, simprocAttr, fw, iB, (dZ gf)]
         refine g5 (acW aX _ kX) rfl rfl rfl rfl (.inl (by rfl)) ?_
         simp only [aQ.down, simprocAttr, fw, iB, (dZ gf)]
         (try simp only [bw.down, simprocAttr, iB, (dZ gf)] at aq ⊢); exact aq
        rcases a8 h with ⟨hD, h⟩ | ⟨hD, h⟩
        ·refine bg (congrArg I.bool hD) ?_
         simp only [(dZ hD), Bool.not_true, Bool.not_false]
         refine ws _ ?_
         exact a1 (yx _ (qK _ (h1 _ (gb _ (i9 _ (aI _ (.inl (a2 [.bool false] rfl (by cases aS h; rfl) (by decide) ba))))))))
        ·refine bm (congrArg I.bool hD) ?_
         simp only [(cX hD), Bool.not_true, Bool.not_false]
         refine bt (uZ _ (kB _ (.inl ?_)))
         refine wr _ ?_
         exact hO _ (.inr ⟨_, bJ rfl, iU (IntKind.i64.wrap (el + 1)) h⟩)
       ·refine j_ (And.intro iB (cX gf)) (B3 aX _ n4) _ ?_
        refine bm rfl ?_
        refine bt (uZ _ (kB _ (.inl ?_)))
        refine wr _ ?_
        exact hO _ (.inr ⟨_, bJ rfl, iU (IntKind.i64.wrap (el + 1)) h⟩)
      ·refine bm (congrArg I.bool dG) ?_
       simp only [dG, Bool.not_true, Bool.not_false]
       refine ek (l7 0 _ (iA 0 _ (dU _ (g9 _ (.inl ?_)))))
       refine ws _ ?_
       exact a1 (aI _ (.inl (a2 [.bool true] rfl (by cases aS h; rfl) (by decide) ba)))
    obtain ⟨n, h⟩ := ep h
    exact eD (.inr ⟨_, bJ rfl, i_ n 0 h⟩)
theorem l_ (a0 : Int) (ad : Int) (aT : Int) (r : Bool) (h : kT a0 ad aT = some r) : aU aN 33 [.int .i64 a0, .int .i64 ad, .int .i64 aT] (.bool r) [] := by
 refine aU.cQ (fx := [0, 1, 2]) cR [.tmp 6] [(0, .int .i64 a0), (1, .int .i64 ad), (2, .int .i64 aT)] Try.func33 rfl rfl Q6 (Nat.le_of_ble_eq_true rfl) rfl rfl (fun cO aI cM => ?_)
 refine ws _ ?_
 refine c5 (b3 [(6, .bool ((decide (ad ≤ a0)) && (decide (a0 ≤ aT))))] (fun P aq => ?_) ?_)
 ·rcases Bool.eq_false_or_eq_true (decide (ad ≤ a0)) with eR | eR
  ·simp only [aQ.down, simprocAttr, eR]
   (try simp only [bw.down, simprocAttr, eR] at aq ⊢); exact aq
  ·simp only [aQ.down, simprocAttr, eR]
   (try simp only [bw.down, simprocAttr, eR] at aq ⊢); exact aq
 exact a1 (aI _ (.inl (a2 [.bool ((decide (ad ≤ a0)) && (decide (a0 ≤ aT)))] rfl (by cases aS h; rfl) (by decide) ba)))
theorem HX (a0 : bn) (r : Int) (h : uh a0 = some r) : aU aN 99 [.ref (bR a0)] (.int .i64 r) [] := by
 refine aU.cQ (fx := [0]) cR [.tmp 2] [(0, .ref (bR a0))] Try.func99 rfl rfl Rj (Nat.le_of_ble_eq_true rfl) rfl rfl (fun cO aI cM => ?_)
 refine ws _ ?_
 refine a7 (fun e5 cA bF aC => ?_)
 refine ws _ ?_
 refine cc (fun e9 fB cz bY bM => ?_)
 have qL : ∀ (fP : Bool), ug a0 fP = some r → cG aN G7 e9 (R [(6, .int .i64 a0.Kind), (7, .bool fP)]) := by
  intro fP h
  rcases a8 h with ⟨cI, h⟩ | ⟨cI, h⟩
  ·refine bg (congrArg I.bool cI) ?_
   simp only [cI, Bool.not_true, Bool.not_false]
   refine ws _ ?_
   exact a1 (cz _ (bF _ (aI _ (.inl (a2 [.int .i64 1] rfl (by cases aS h; rfl) (by decide) ba)))))
  ·refine bm (congrArg I.bool cI) ?_
   simp only [cI, Bool.not_true, Bool.not_false]
   refine ws _ ?_
   rcases a8 h with ⟨eh, h⟩ | ⟨eh, h⟩
   ·refine bg (congrArg I.bool eh) ?_
    simp only [eh, Bool.not_true, Bool.not_false]
    refine ws _ ?_
    exact a1 (cz _ (bF _ (aI _ (.inl (a2 [.int .i64 2] rfl (by cases aS h; rfl) (by decide) ba)))))
   ·refine bm (congrArg I.bool eh) ?_
    simp only [eh, Bool.not_true, Bool.not_false]
    refine bt (fB _ (cA _ (.inl ?_)))
    refine ws _ ?_
    exact a1 (aI _ (.inl (a2 [.int .i64 0] rfl (by cases aS h; rfl) (by decide) ba)))
 refine a7 (fun iC eS e4 bP => ?_)
 refine ws _ ?_
 rcases a8 h with ⟨c6, h⟩ | ⟨c6, h⟩
 ·refine bg (congrArg I.bool c6) ?_
  simp only [c6, Bool.not_true, Bool.not_false]
  exact bt (eS _ (.inr ⟨_, bJ rfl, qL true h⟩))
 ·refine bm (congrArg I.bool c6) ?_
  simp only [c6, Bool.not_true, Bool.not_false]
  refine ws _ ?_
  rcases a8 h with ⟨dL, h⟩ | ⟨dL, h⟩
  ·refine bg (congrArg I.bool dL) ?_
   simp only [dL, Bool.not_true, Bool.not_false]
   exact bt (eS _ (.inr ⟨_, bJ rfl, qL true h⟩))
  ·refine bm (congrArg I.bool dL) ?_
   simp only [dL, Bool.not_true, Bool.not_false]
   refine wr _ ?_
   exact eS _ (.inr ⟨_, bJ rfl, qL (a0.Kind == 4) h⟩)
theorem acX (a0 : List bn) (r : Bool) (h : xn a0 = some r) : aU aN 71 [.slice (a0.map bR)] (.bool r) [] := by
 refine aU.cQ (fx := [0]) cR [.tmp 2] [(0, .slice (a0.map bR))] Try.func71 rfl rfl Ry (Nat.le_of_ble_eq_true rfl) rfl rfl (fun cO aI cM => ?_)
 refine ws _ ?_
 refine a7 (fun e5 cA bF aC => ?_)
 refine c5 (b3 [(0, .slice (a0.map bR)), (12, .bool (((a0.length : Int) == 0) || (decide (20 < (a0.length : Int)))))] (fun P aq => ?_) ?_)
 ·rcases Bool.eq_false_or_eq_true ((a0.length : Int) == 0) with h9 | h9
  ·simp only [aQ.down, simprocAttr, yq.down, h9]
   (try simp only [bw.down, simprocAttr, kV.down, h9] at aq ⊢); exact aq
  ·simp only [aQ.down, simprocAttr, yq.down, h9]
   (try simp only [bw.down, simprocAttr, kV.down, h9] at aq ⊢); exact aq
 rcases a8 h with ⟨cp, h⟩ | ⟨cp, h⟩
 ·refine bg (congrArg I.bool cp) ?_
  simp only [cp, Bool.not_true, Bool.not_false]
  refine ws _ ?_
  exact a1 (bF _ (aI _ (.inl (a2 [.bool false] rfl (by cases aS h; rfl) (by decide) ba))))
 ·refine bm (congrArg I.bool cp) ?_
  simp only [cp, Bool.not_true, Bool.not_false]
  refine bt (cA _ (.inl ?_))
  refine ws _ ?_
  refine a7 (fun ke kz jl ig => ?_)
  refine ws _ ?_
  refine cc (fun gH dk dO cL dK => ?_)
  have lz : ∀ (n : Nat) (lo : Int) (l0 : Int), qg a0 n lo l0 = some r → dY aN G8 gH (R [(0, .slice (a0.map bR)), (3, .int .i64 lo), (4, .int .i64 l0)]) := by
   intro g7
   induction g7 with
   | zero => intro lo l0 h; cases (show none = some r from h)
   | succ g7 lA =>
    intro lo l0 h
    replace h : xm (qg a0 g7) a0 lo l0 = some r := h
    refine eE (fun kW hk kc en => ?_)
    refine a7 (fun jr g9 i9 ij => ?_)
    refine ws _ ?_
    rcases a8 h with ⟨dU, h⟩ | ⟨dU, h⟩
    ·refine bg (congrArg I.bool dU) ?_
     simp only [dU, Bool.not_true, Bool.not_false]
     refine bt (g9 _ (.inl ?_))
     refine a7 (fun mT hO h1 iA => ?_)
     refine cc (fun qJ kA jR gg l7 => ?_)
     refine a7 (fun o7 jS kY n5 => ?_)
     refine ws _ ?_
     rcases a8 h with ⟨fH, h⟩ | ⟨fH, h⟩
     ·refine bg (congrArg I.bool fH) ?_
      simp only [fH, Bool.not_true, Bool.not_false]
      refine ws _ ?_
      exact a1 (kY _ (jR _ (h1 _ (kc _ (dO _ (jl _ (aI _ (.inl (a2 [.bool false] rfl (by cases aS h; rfl) (by decide) ba)))))))))
     ·refine bm (congrArg I.bool fH) ?_
      simp only [fH, Bool.not_true, Bool.not_false]
      refine bt (jS _ (.inl ?_))
      obtain ⟨ar, iB, h⟩ := aW h
      obtain ⟨aC, n4, h⟩ := aW h
      refine BZ iB (HX ar _ n4) _ ?_
      refine kA _ (hO _ (.inl ?_))
      refine wr _ ?_
      exact hk _ (.inr ⟨_, bJ rfl, lA (IntKind.i64.wrap (lo + (IntKind.i64.wrap (aC - 1)))) (IntKind.i64.wrap (l0 + 1)) h⟩)
    ·refine bm (congrArg I.bool dU) ?_
     simp only [dU, Bool.not_true, Bool.not_false]
     refine ek (ij 0 _ (en 0 _ (cL _ (kz _ (.inl ?_)))))
     refine ws _ ?_
     exact a1 (aI _ (.inl (a2 [.bool (lo == 0)] rfl (by cases aS h; rfl) (by decide) ba)))
  obtain ⟨n, h⟩ := ep h
  exact eD (.inr ⟨_, bJ rfl, lz n 1 0 h⟩)
set_option maxHeartbeats 600000 in
theorem acY (a0 : bn) (r : Bool) (h : Bz a0 = some r) : aU aN 100 [.ref (bR a0)] (.bool r) [] := by
 refine aU.cQ (fx := [0]) cR [.tmp 2] [(0, .ref (bR a0))] Try.func100 rfl rfl RS (Nat.le_of_ble_eq_true rfl) rfl rfl (fun cO aI cM => ?_)
 refine ws _ ?_
 refine a7 (fun e5 cA bF aC => ?_)
 refine ws _ ?_
 refine cc (fun e9 fB cz bY bM => ?_)
 have sx : ∀ (ui : Bool), xo a0 ui = some r → cG aN G9 e9 (R [(0, .ref (bR a0)), (6, .int .i64 a0.Kind), (7, .bool ui)]) := by
  intro ui h
  rcases a8 h with ⟨cI, h⟩ | ⟨cI, h⟩
  ·refine bg (congrArg I.bool cI) ?_
   simp only [cI, Bool.not_true, Bool.not_false]
   refine c5 (b3 [(2, .bool (((a0.Number == 0) && (a0.Name == ([] : List UInt8))) && ((a0.b4.length : Int) == 0)))] (fun P aq => ?_) ?_)
   ·(rcases Bool.eq_false_or_eq_true (a0.Number == 0) with B6 | B6) <;> (rcases Bool.eq_false_or_eq_true (a0.Name == ([] : List UInt8)) with ma | ma) <;>
     (simp only [aQ.down, simprocAttr, l9.down, B6, ma]
      (try simp only [bw.down, simprocAttr, kV.down, B6, ma] at aq ⊢); exact aq)
   exact a1 (cz _ (bF _ (aI _ (.inl (a2 [.bool (((a0.Number == 0) && (a0.Name == ([] : List UInt8))) && ((a0.b4.length : Int) == 0))] rfl (by cases aS h; rfl) (by decide) ba)))))
  ·refine bm (congrArg I.bool cI) ?_
   simp only [cI, Bool.not_true, Bool.not_false]
   refine ws _ ?_
   rcases a8 h with ⟨hC, h⟩ | ⟨hC, h⟩
   ·refine bg (congrArg I.bool hC) ?_
    simp only [hC, Bool.not_true, Bool.not_false]
    refine ws _ ?_
    exact a1 (cz _ (bF _ (aI _ (.inl (a2 [.bool (a0.Number == 0)] rfl (by cases aS h; rfl) (by decide) ba)))))
   ·refine bm (congrArg I.bool hC) ?_
    simp only [hC, Bool.not_true, Bool.not_false]
    refine ws _ ?_
    rcases a8 h with ⟨dU, h⟩ | ⟨dU, h⟩
    ·refine bg (congrArg I.bool dU) ?_
     simp only [dU, Bool.not_true, Bool.not_false]
     refine c5 (b3 [(2, .bool ((a0.Number == 0) && (a0.Name == ([] : List UInt8))))] (fun P aq => ?_) ?_)
     ·rcases Bool.eq_false_or_eq_true (a0.Number == 0) with qD | qD
      ·simp only [aQ.down, simprocAttr, l9.down, qD]
       (try simp only [bw.down, simprocAttr, kV.down, qD] at aq ⊢); exact aq
      ·simp only [aQ.down, simprocAttr, l9.down, qD]
       (try simp only [bw.down, simprocAttr, kV.down, qD] at aq ⊢); exact aq
     exact a1 (cz _ (bF _ (aI _ (.inl (a2 [.bool ((a0.Number == 0) && (a0.Name == ([] : List UInt8)))] rfl (by cases aS h; rfl) (by decide) ba)))))
    ·refine bm (congrArg I.bool dU) ?_
     simp only [dU, Bool.not_true, Bool.not_false]
     refine ws _ ?_
     rcases a8 h with ⟨dG, h⟩ | ⟨dG, h⟩
     ·refine bg (congrArg I.bool dG) ?_
      simp only [dG, Bool.not_true, Bool.not_false]
      refine c5 (b3 [(2, .bool ((a0.Name == ([] : List UInt8)) && ((a0.b4.length : Int) == 0)))] (fun P aq => ?_) ?_)
      ·rcases Bool.eq_false_or_eq_true (a0.Name == ([] : List UInt8)) with qB | qB
       ·simp only [aQ.down, simprocAttr, l9.down, qB]
        (try simp only [bw.down, simprocAttr, kV.down, qB] at aq ⊢); exact aq
       ·simp only [aQ.down, simprocAttr, l9.down, qB]
        (try simp only [bw.down, simprocAttr, kV.down, qB] at aq ⊢); exact aq
      exact a1 (cz _ (bF _ (aI _ (.inl (a2 [.bool ((a0.Name == ([] : List UInt8)) && ((a0.b4.length : Int) == 0))] rfl (by cases aS h; rfl) (by decide) ba)))))
     ·refine bm (congrArg I.bool dG) ?_
      simp only [dG, Bool.not_true, Bool.not_false]
      refine ws _ ?_
      rcases a8 h with ⟨hP, h⟩ | ⟨hP, h⟩
      ·refine bg (congrArg I.bool hP) ?_
       simp only [hP, Bool.not_true, Bool.not_false]
       refine ws _ ?_
       exact a1 (cz _ (bF _ (aI _ (.inl (a2 [.bool (a0.Name == ([] : List UInt8))] rfl (by cases aS h; rfl) (by decide) ba)))))
      ·refine bm (congrArg I.bool hP) ?_
       simp only [hP, Bool.not_true, Bool.not_false]
       refine bt (fB _ (cA _ (.inl ?_)))
       refine ws _ ?_
       exact a1 (aI _ (.inl (a2 [.bool false] rfl (by cases aS h; rfl) (by decide) ba)))
 refine a7 (fun iC eS e4 bP => ?_)
 refine ws _ ?_
 rcases a8 h with ⟨hD, h⟩ | ⟨hD, h⟩
 ·refine bg (congrArg I.bool hD) ?_
  simp only [hD, Bool.not_true, Bool.not_false]
  exact bt (eS _ (.inr ⟨_, bJ rfl, sx true h⟩))
 ·refine bm (congrArg I.bool hD) ?_
  simp only [hD, Bool.not_true, Bool.not_false]
  refine wr _ ?_
  exact eS _ (.inr ⟨_, bJ rfl, sx (a0.Kind == 2) h⟩)
theorem acZ (a0 : List bn) (ad : Int) (r : Int) (h : xq a0 ad = some r) : aU aN 118 [.slice (a0.map bR), .int .i64 ad] (.int .i64 r) [] := by
 refine aU.cQ (fx := [0]) cR [.tmp 4] [(0, .slice (a0.map bR)), (1, .int .i64 ad)] Try.func118 rfl rfl R0 (Nat.le_of_ble_eq_true rfl) rfl rfl (fun cO aI cM => ?_)
 refine ws _ ?_
 refine ws _ ?_
 refine a7 (fun ly h0 dJ aX => ?_)
 refine cc (fun e9 fB cz bY bM => ?_)
 have hE : ∀ (n : Nat) (bj : Int) (aR : Int), qh a0 n bj aR = some r → dY aN G_ e9 (R [(0, .slice (a0.map bR)), (1, .int .i64 bj), (5, .int .i64 aR)]) := by
  intro dj
  induction dj with
  | zero => intro bj aR h; cases (show none = some r from h)
  | succ dj hn =>
   intro bj aR h
   replace h : xp (qh a0 dj) a0 bj aR = some r := h
   refine eE (fun iC eS e4 bP => ?_)
   refine a7 (fun gY e_ ft cN => ?_)
   refine ws _ ?_
   rcases a8 h with ⟨bD, h⟩ | ⟨bD, h⟩
   ·refine bg (congrArg I.bool bD) ?_
    simp only [bD, Bool.not_true, Bool.not_false]
    refine bt (e_ _ (.inl ?_))
    refine cc (fun fG dD dF eh dP => ?_)
    obtain ⟨ar, mr, h⟩ := aW h
    obtain ⟨aC, eA, h⟩ := aW h
    refine j_ mr (HX ar _ eA) _ ?_
    refine wr _ ?_
    exact dD _ (eS _ (.inr ⟨_, bJ rfl, hn (IntKind.i64.wrap (bj + 1)) (IntKind.i64.wrap (aR + (IntKind.i64.wrap (aC - 1)))) h⟩))
   ·refine bm (congrArg I.bool bD) ?_
    simp only [bD, Bool.not_true, Bool.not_false]
    refine ek (cN 0 _ (bP 0 _ (bY _ (h0 _ (.inl ?_)))))
    refine ws _ ?_
    exact a1 (aI _ (.inl (a2 [.int .i64 bj] rfl (by cases aS h; rfl) (by decide) ba)))
 obtain ⟨n, h⟩ := ep h
 exact eD (.inr ⟨_, bJ rfl, hE n ad 1 h⟩)
theorem ac0 (a0 : aV) (ad : Int) (r : Int) (h : sc a0 ad = some r) : aU aN 101 [.ref (bk a0), .int .i64 ad] (.int .i64 r) [] := by
 refine aU.cQ (fx := [0, 1]) cR [.tmp 4] [(0, .ref (bk a0)), (1, .int .i64 ad)] Try.func101 rfl rfl R_ (Nat.le_of_ble_eq_true rfl) rfl rfl (fun cO aI cM => ?_)
 refine ws _ ?_
 refine ws _ ?_
 refine a7 (fun ly h0 dJ aX => ?_)
 refine ws _ ?_
 refine cc (fun iC eS e4 cp bP => ?_)
 have mU : ∀ (n : Nat) (jO : Int) (i5 : Int), oZ a0 ad n jO i5 = some r → dY aN Hb iC (R [(0, .ref (bk a0)), (1, .int .i64 ad), (5, .int .i64 jO), (6, .int .i64 i5)]) := by
  intro fl
  induction fl with
  | zero => intro jO i5 h; cases (show none = some r from h)
  | succ fl mV =>
   intro jO i5 h
   replace h : xr (oZ a0 ad fl) a0 ad jO i5 = some r := h
   refine eE (fun gY e_ ft cN => ?_)
   refine a7 (fun jq fA fO d_ => ?_)
   refine ws _ ?_
   rcases a8 h with ⟨eh, h⟩ | ⟨eh, h⟩
   ·refine bg (congrArg I.bool eh) ?_
    simp only [eh, Bool.not_true, Bool.not_false]
    refine bt (fA _ (.inl ?_))
    have B7 : ∀ (sa : Int) (sb : Int), uj (oZ a0 ad fl) a0 ad sa sb = some r → cG aN Ha gY (R [(0, .ref (bk a0)), (1, .int .i64 ad), (5, .int .i64 sa), (6, .int .i64 sb)]) := by
     intro sa sb h
     refine wr _ ?_
     exact e_ _ (.inr ⟨_, bJ rfl, mV sa (IntKind.i64.wrap (sb + 1)) h⟩)
    refine a7 (fun gH dk dO dK => ?_)
    refine cc (fun jr g9 i9 dr ij => ?_)
    obtain ⟨ar, gZ, h⟩ := aW h
    rcases a8 h with ⟨dL, h⟩ | ⟨dL, h⟩
    ·obtain ⟨aC, dm, h⟩ := aW h
     refine c5 (b3 [(0, .ref (bk a0)), (1, .int .i64 ad), (5, .int .i64 jO), (6, .int .i64 i5), (34, .bool (decide (ad < aC)))] (fun P aq => ?_) ?_)
     ·simp only [aQ.down, simprocAttr, ns.down, gZ, dL]
      refine g5 (acZ a0.Body i5 _ dm) rfl rfl rfl rfl (.inl (by rfl)) ?_
      simp only [aQ.down, simprocAttr, ns.down, gZ, dL]
      (try simp only [bw.down, simprocAttr, gl.down, gZ, dL] at aq ⊢); exact aq
     rcases a8 h with ⟨h2, h⟩ | ⟨h2, h⟩
     ·refine bg (congrArg I.bool h2) ?_
      simp only [h2, Bool.not_true, Bool.not_false]
      refine wr _ ?_
      exact g9 _ (dk _ (.inr ⟨_, bJ rfl, B7 (IntKind.i64.wrap (jO + 1)) i5 h⟩))
     ·refine bm (congrArg I.bool h2) ?_
      simp only [h2, Bool.not_true, Bool.not_false]
      exact bt (g9 _ (dk _ (.inr ⟨_, bJ rfl, B7 jO i5 h⟩)))
    ·refine hZ (And.intro gZ dL) _ ?_
     refine bm rfl ?_
     exact bt (g9 _ (dk _ (.inr ⟨_, bJ rfl, B7 jO i5 h⟩)))
   ·refine bm (congrArg I.bool eh) ?_
    simp only [eh, Bool.not_true, Bool.not_false]
    refine ek (d_ 0 _ (cN 0 _ (cp _ (h0 _ (.inl ?_)))))
    refine ws _ ?_
    exact a1 (aI _ (.inl (a2 [.int .i64 jO] rfl (by cases aS h; rfl) (by decide) ba)))
 obtain ⟨n, h⟩ := ep h
 exact eD (.inr ⟨_, bJ rfl, mU n a0.cS 0 h⟩)
theorem ac1 (a0 : bz) (ad : Int) (r : Bool) (h : xt a0 ad = some r) : aU aN 119 [.ref (bK a0), .int .i64 ad] (.bool r) [] := by
 refine aU.cQ (fx := [0, 1]) cR [.tmp 4] [(0, .ref (bK a0)), (1, .int .i64 ad)] Try.func119 rfl rfl Sr (Nat.le_of_ble_eq_true rfl) rfl rfl (fun cO aI cM => ?_)
 refine ws _ ?_
 refine a7 (fun e5 cA bF aC => ?_)
 refine ws _ ?_
 refine cc (fun e9 fB cz bY bM => ?_)
 refine ws _ ?_
 rcases a8 h with ⟨cI, h⟩ | ⟨cI, h⟩
 ·refine bg (congrArg I.bool cI) ?_
  simp only [cI, Bool.not_true, Bool.not_false]
  obtain ⟨ar, jg, h⟩ := aW h
  refine ga (l_ a0.Value 0 63 _ jg) _ ?_
  exact a1 (cz _ (bF _ (aI _ (.inl (a2 [.bool ar] rfl (by cases aS h; rfl) (by decide) ba)))))
 ·refine bm (congrArg I.bool cI) ?_
  simp only [cI, Bool.not_true, Bool.not_false]
  refine ws _ ?_
  rcases a8 h with ⟨cL, h⟩ | ⟨cL, h⟩
  ·refine bg (congrArg I.bool cL) ?_
   simp only [cL, Bool.not_true, Bool.not_false]
   obtain ⟨aC, eA, h⟩ := aW h
   refine ga (l_ a0.Value 0 (IntKind.i64.wrap (ad - 1)) _ eA) _ ?_
   exact a1 (cz _ (bF _ (aI _ (.inl (a2 [.bool aC] rfl (by cases aS h; rfl) (by decide) ba)))))
  ·refine bm (congrArg I.bool cL) ?_
   simp only [cL, Bool.not_true, Bool.not_false]
   refine ws _ ?_
   rcases a8 h with ⟨dU, h⟩ | ⟨dU, h⟩
   ·refine bg (congrArg I.bool dU) ?_
    simp only [dU, Bool.not_true, Bool.not_false]
    obtain ⟨aX, dm, h⟩ := aW h
    refine ga (l_ a0.Value 0 8 _ dm) _ ?_
    exact a1 (cz _ (bF _ (aI _ (.inl (a2 [.bool aX] rfl (by cases aS h; rfl) (by decide) ba)))))
   ·refine bm (congrArg I.bool dU) ?_
    simp only [dU, Bool.not_true, Bool.not_false]
    refine ws _ ?_
    rcases a8 h with ⟨dG, h⟩ | ⟨dG, h⟩
    ·refine bg (congrArg I.bool dG) ?_
     simp only [dG, Bool.not_true, Bool.not_false]
     refine ws _ ?_
     exact a1 (cz _ (bF _ (aI _ (.inl (a2 [.bool (a0.Value == 0)] rfl (by cases aS h; rfl) (by decide) ba)))))
    ·refine bm (congrArg I.bool dG) ?_
     simp only [dG, Bool.not_true, Bool.not_false]
     refine bt (fB _ (cA _ (.inl ?_)))
     refine ws _ ?_
     exact a1 (aI _ (.inl (a2 [.bool false] rfl (by cases aS h; rfl) (by decide) ba)))
theorem ac2 (a0 : bz) (r : Int) (h : BA a0 = some r) : aU aN 120 [.ref (bK a0)] (.int .i64 r) [] := by
 refine aU.cQ (fx := [0]) cR [.tmp 2] [(0, .ref (bK a0))] Try.func120 rfl rfl SC (Nat.le_of_ble_eq_true rfl) rfl rfl (fun cO aI cM => ?_)
 refine ws _ ?_
 refine a7 (fun e5 cA bF aC => ?_)
 refine ws _ ?_
 refine cc (fun e9 fB cz bY bM => ?_)
 refine ws _ ?_
 rcases a8 h with ⟨cI, h⟩ | ⟨cI, h⟩
 ·refine bg (congrArg I.bool cI) ?_
  simp only [cI, Bool.not_true, Bool.not_false]
  refine ws _ ?_
  exact a1 (cz _ (bF _ (aI _ (.inl (a2 [.int .i64 2] rfl (by cases aS h; rfl) (by decide) ba)))))
 ·refine bm (congrArg I.bool cI) ?_
  simp only [cI, Bool.not_true, Bool.not_false]
  refine ws _ ?_
  rcases a8 h with ⟨eh, h⟩ | ⟨eh, h⟩
  ·refine bg (congrArg I.bool eh) ?_
   simp only [eh, Bool.not_true, Bool.not_false]
   refine ws _ ?_
   exact a1 (cz _ (bF _ (aI _ (.inl (a2 [.int .i64 1] rfl (by cases aS h; rfl) (by decide) ba)))))
  ·refine bm (congrArg I.bool eh) ?_
   simp only [eh, Bool.not_true, Bool.not_false]
   refine bt (fB _ (cA _ (.inl ?_)))
   refine ws _ ?_
   exact a1 (aI _ (.inl (a2 [.int .i64 0] rfl (by cases aS h; rfl) (by decide) ba)))
set_option maxHeartbeats 600000 in
theorem ac3 (a0 : List bz) (ad : Int) (aT : Int) (r : Bool) (h : xv a0 ad aT = some r) : aU aN 102 [.slice (a0.map bK), .int .i64 ad, .int .i64 aT] (.bool r) [] := by
 refine aU.cQ (fx := [0, 1, 2]) cR [.tmp 6] [(0, .slice (a0.map bK)), (1, .int .i64 ad), (2, .int .i64 aT)] Try.func102 rfl rfl SR (Nat.le_of_ble_eq_true rfl) rfl rfl (fun cO aI cM => ?_)
 refine ws _ ?_
 refine a7 (fun e5 cA bF aC => ?_)
 refine ws _ ?_
 rcases a8 h with ⟨bY, h⟩ | ⟨bY, h⟩
 ·refine bg (congrArg I.bool bY) ?_
  simp only [bY, Bool.not_true, Bool.not_false]
  refine ws _ ?_
  exact a1 (bF _ (aI _ (.inl (a2 [.bool false] rfl (by cases aS h; rfl) (by decide) ba))))
 ·refine bm (congrArg I.bool bY) ?_
  simp only [bY, Bool.not_true, Bool.not_false]
  refine bt (cA _ (.inl ?_))
  refine ws _ ?_
  refine a7 (fun jq fA fO d_ => ?_)
  refine ws _ ?_
  refine cc (fun fG dD dF eh dP => ?_)
  have lz : ∀ (n : Nat) (fP : Int) (lp : Int), qi a0 ad n fP lp = some r → dY aN Hc fG (R [(0, .slice (a0.map bK)), (1, .int .i64 ad), (7, .int .i64 fP), (8, .int .i64 lp)]) := by
   intro g7
   induction g7 with
   | zero => intro fP lp h; cases (show none = some r from h)
   | succ g7 lA =>
    intro fP lp h
    replace h : xu (qi a0 ad g7) a0 ad fP lp = some r := h
    refine eE (fun gH dk dO dK => ?_)
    refine a7 (fun kW hk kc en => ?_)
    refine ws _ ?_
    rcases a8 h with ⟨c6, h⟩ | ⟨c6, h⟩
    ·refine bg (congrArg I.bool c6) ?_
     simp only [c6, Bool.not_true, Bool.not_false]
     refine bt (hk _ (.inl ?_))
     refine a7 (fun kd g8 gb hY => ?_)
     refine cc (fun mT hO h1 dL iA => ?_)
     refine a7 (fun qJ kA jR l7 => ?_)
     rcases a8 h with ⟨dG, h⟩ | ⟨dG, h⟩
     ·refine hZ dG _ ?_
      refine bg rfl ?_
      refine ws _ ?_
      exact a1 (jR _ (h1 _ (gb _ (dO _ (dF _ (fO _ (aI _ (.inl (a2 [.bool false] rfl (by cases aS h; rfl) (by decide) ba)))))))))
     ·obtain ⟨ar, nu, h⟩ := aW h
      obtain ⟨aC, n6, h⟩ := aW h
      refine c5 (b3 [(0, .slice (a0.map bK)), (1, .int .i64 ad), (7, .int .i64 fP), (8, .int .i64 lp), (28, .bool (!aC))] (fun P aq => ?_) ?_)
      ·simp only [aQ.down, simprocAttr, lv.down, dG, nu]
       refine g5 (ac1 ar ad _ n6) rfl rfl rfl rfl (.inl (by rfl)) ?_
       simp only [aQ.down, simprocAttr, lv.down, dG, nu]
       (try simp only [bw.down, simprocAttr, bK, dG, nu] at aq ⊢); exact aq
      rcases a8 h with ⟨hP, h⟩ | ⟨hP, h⟩
      ·refine bg (congrArg I.bool hP) ?_
       simp only [(dZ hP), Bool.not_true, Bool.not_false]
       refine ws _ ?_
       exact a1 (jR _ (h1 _ (gb _ (dO _ (dF _ (fO _ (aI _ (.inl (a2 [.bool false] rfl (by cases aS h; rfl) (by decide) ba)))))))))
      ·refine bm (congrArg I.bool hP) ?_
       simp only [(cX hP), Bool.not_true, Bool.not_false]
       refine bt (kA _ (.inl ?_))
       obtain ⟨aX, kX, h⟩ := aW h
       refine BZ nu (ac2 ar _ kX) _ ?_
       refine hO _ (g8 _ (.inl ?_))
       refine wr _ ?_
       exact dk _ (.inr ⟨_, bJ rfl, lA (IntKind.i64.wrap (fP + (IntKind.i64.wrap (aX - 1)))) (IntKind.i64.wrap (lp + 1)) h⟩)
    ·refine bm (congrArg I.bool c6) ?_
     simp only [c6, Bool.not_true, Bool.not_false]
     refine ek (en 0 _ (dK 0 _ (eh _ (fA _ (.inl ?_)))))
     refine ws _ ?_
     exact a1 (aI _ (.inl (a2 [.bool (fP == 0)] rfl (by cases aS h; rfl) (by decide) ba)))
  obtain ⟨n, h⟩ := ep h
  exact eD (.inr ⟨_, bJ rfl, lz n 1 0 h⟩)
set_option maxHeartbeats 1200000 in
theorem ac4 (a0 : List aV) (ad : aV) (aT : Int) (r : Int) (h : uq a0 ad aT = some r) : aU aN 72 [.slice (a0.map bk), .ref (bk ad), .int .i64 aT] (.int .i64 r) [] := by
 refine aU.cQ (fx := [0, 1, 2]) cR [.tmp 6] [(0, .slice (a0.map bk)), (1, .ref (bk ad)), (2, .int .i64 aT)] Try.func72 rfl rfl Tv (Nat.le_of_ble_eq_true rfl) rfl rfl (fun cO aI cM => ?_)
 refine ws _ ?_
 obtain ⟨ar, a_, h⟩ := aW h
 refine hZ a_ _ ?_
 refine a7 (fun e9 fB cz bM => ?_)
 obtain ⟨aC, b8, h⟩ := aW h
 refine c5 (b3 [(0, .slice (a0.map bk)), (1, .ref (bk ad)), (2, .int .i64 aT), (7, .bd (bR ar)), (19, .bool (!aC))] (fun P aq => ?_) ?_)
 ·refine fv (acY ar _ b8) rfl rfl (by simp only [aQ.down, simprocAttr, gl.down, hL, hM, hN, eg, @eY _ dw dw (fun _ => BS _)] <;> rfl) rfl (.inr (by rfl)) ?_
  simp only [aQ.down, simprocAttr, gl.down]
  (try simp only [bw.down, simprocAttr, gl.down] at aq ⊢); exact aq
 rcases a8 h with ⟨i0, h⟩ | ⟨i0, h⟩
 ·refine bg (congrArg I.bool i0) ?_
  simp only [(dZ i0), Bool.not_true, Bool.not_false]
  refine ws _ ?_
  exact a1 (cz _ (aI _ (.inl (a2 [.int .i64 2] rfl (by cases aS h; rfl) (by decide) ba))))
 ·refine bm (congrArg I.bool i0) ?_
  simp only [(cX i0), Bool.not_true, Bool.not_false]
  refine bt (fB _ (.inl ?_))
  refine a7 (fun fG dD dF dP => ?_)
  have HY : ∀ (uo : Bool), xx a0 ad aT ar uo = some r → cG aN Hd fG (R [(0, .slice (a0.map bk)), (1, .ref (bk ad)), (2, .int .i64 aT), (7, .bd (bR ar)), (28, .bool uo)]) := by
   intro uo h
   rcases a8 h with ⟨cL, h⟩ | ⟨cL, h⟩
   ·refine bg (congrArg I.bool cL) ?_
    simp only [cL, Bool.not_true, Bool.not_false]
    refine ws _ ?_
    exact a1 (dF _ (aI _ (.inl (a2 [.int .i64 3] rfl (by cases aS h; rfl) (by decide) ba))))
   ·refine bm (congrArg I.bool cL) ?_
    simp only [cL, Bool.not_true, Bool.not_false]
    refine bt (dD _ (.inl ?_))
    refine a7 (fun jr g9 i9 ij => ?_)
    have u0 : ∀ (um : Bool), qk a0 ad aT ar um = some r → cG aN He jr (R [(0, .slice (a0.map bk)), (1, .ref (bk ad)), (2, .int .i64 aT), (7, .bd (bR ar)), (51, .bool um)]) := by
     intro um h
     rcases a8 h with ⟨c6, h⟩ | ⟨c6, h⟩
     ·refine bg (congrArg I.bool c6) ?_
      simp only [c6, Bool.not_true, Bool.not_false]
      refine ws _ ?_
      exact a1 (i9 _ (aI _ (.inl (a2 [.int .i64 4] rfl (by cases aS h; rfl) (by decide) ba))))
     ·refine bm (congrArg I.bool c6) ?_
      simp only [c6, Bool.not_true, Bool.not_false]
      refine bt (g9 _ (.inl ?_))
      refine ws _ ?_
      have yy : qj ad aT ar = some r → cG aN Hh cO (R [(1, .ref (bk ad)), (2, .int .i64 aT), (7, .bd (bR ar)), (8, .int .i64 (ar.b4.length : Int))]) := by
       intro h
       refine a7 (fun o7 jS kY n5 => ?_)
       have B8 : ∀ (uk : Bool), sd ad aT ar uk = some r → cG aN Hf o7 (R [(1, .ref (bk ad)), (2, .int .i64 aT), (7, .bd (bR ar)), (8, .int .i64 (ar.b4.length : Int)), (102, .bool uk)]) := by
        intro uk h
        rcases a8 h with ⟨dG, h⟩ | ⟨dG, h⟩
        ·refine bg (congrArg I.bool dG) ?_
         simp only [dG, Bool.not_true, Bool.not_false]
         refine ws _ ?_
         exact a1 (kY _ (aI _ (.inl (a2 [.int .i64 6] rfl (by cases aS h; rfl) (by decide) ba))))
        ·refine bm (congrArg I.bool dG) ?_
         simp only [dG, Bool.not_true, Bool.not_false]
         refine bt (jS _ (.inl ?_))
         obtain ⟨aX, n6, h⟩ := aW h
         refine ga (ac0 ad aT _ n6) _ ?_
         refine a7 (fun B9 qM qN u1 => ?_)
         refine c5 (b3 [(7, .bd (bR ar)), (8, .int .i64 (ar.b4.length : Int)), (9, .int .i64 aX), (112, .bool ((ar.Kind == 4) && (decide (6 ≤ aX))))] (fun P aq => ?_) ?_)
         ·rcases Bool.eq_false_or_eq_true (ar.Kind == 4) with u2 | u2
          ·simp only [aQ.down, simprocAttr, l9.down, u2]
           (try simp only [bw.down, simprocAttr, kV.down, u2] at aq ⊢); exact aq
          ·simp only [aQ.down, simprocAttr, l9.down, u2]
           (try simp only [bw.down, simprocAttr, kV.down, u2] at aq ⊢); exact aq
         rcases a8 h with ⟨u3, h⟩ | ⟨u3, h⟩
         ·refine bg (congrArg I.bool u3) ?_
          simp only [u3, Bool.not_true, Bool.not_false]
          refine ws _ ?_
          exact a1 (qN _ (aI _ (.inl (a2 [.int .i64 7] rfl (by cases aS h; rfl) (by decide) ba))))
         ·refine bm (congrArg I.bool u3) ?_
          simp only [u3, Bool.not_true, Bool.not_false]
          refine bt (qM _ (.inl ?_))
          refine a7 (fun ac5 B_ Ca HZ => ?_)
          refine ws _ ?_
          refine cc (fun ac6 n29 ac7 ac8 ahQ => ?_)
          have ac9 : ∀ (n : Nat) (l1 : Int) (l3 : Int), o0 ar n l1 l3 = some r → dY aN Hg ac6 (R [(7, .bd (bR ar)), (8, .int .i64 (ar.b4.length : Int)), (9, .int .i64 l1), (10, .int .i64 l3)]) := by
           intro Cb
           induction Cb with
           | zero => intro l1 l3 h; cases (show none = some r from h)
           | succ Cb ac_ =>
            intro l1 l3 h
            replace h : xw (o0 ar Cb) ar l1 l3 = some r := h
            refine eE (fun ahR n30 ada adb => ?_)
            refine a7 (fun H0 n31 u4 Cc => ?_)
            refine ws _ ?_
            rcases a8 h with ⟨gy, h⟩ | ⟨gy, h⟩
            ·refine bg (congrArg I.bool gy) ?_
             simp only [gy, Bool.not_true, Bool.not_false]
             refine bt (n31 _ (.inl ?_))
             refine a7 (fun H2 n34 H3 ade => ?_)
             refine cc (fun adf n35 H4 qO H5 => ?_)
             obtain ⟨bM, adg, h⟩ := aW h
             obtain ⟨bP, adh, h⟩ := aW h
             refine j_ adg (ac3 bM l1 15 _ adh) _ ?_
             rcases a8 h with ⟨mb, h⟩ | ⟨mb, h⟩
             ·refine bg (congrArg I.bool mb) ?_
              simp only [(dZ mb), Bool.not_true, Bool.not_false]
              refine ws _ ?_
              exact a1 (H4 _ (H3 _ (ada _ (ac7 _ (Ca _ (aI _ (.inl (a2 [.int .i64 8] rfl (by cases aS h; rfl) (by decide) ba))))))))
             ·refine bm (congrArg I.bool mb) ?_
              simp only [(cX mb), Bool.not_true, Bool.not_false]
              refine bt (n35 _ (n34 _ (.inl ?_)))
              refine wr _ ?_
              exact n30 _ (.inr ⟨_, bJ rfl, ac_ l1 (IntKind.i64.wrap (l3 + 1)) h⟩)
            ·refine bm (congrArg I.bool gy) ?_
             simp only [gy, Bool.not_true, Bool.not_false]
             refine ek (Cc 1 _ (adb 1 _ (ac8 _ (B_ _ (.inl ?_)))))
             refine ws _ ?_
             exact a1 (aI _ (.inl (a2 [.int .i64 0] rfl (by cases aS h; rfl) (by decide) ba)))
          obtain ⟨n, h⟩ := ep h
          exact eD (.inr ⟨_, bJ rfl, ac9 n aX 0 h⟩)
       rcases a8 h with ⟨qP, h⟩ | ⟨qP, h⟩
       ·rcases a8 h with ⟨u5, h⟩ | ⟨u5, h⟩
        ·refine jn (b3 (K := dv _) [(1, .ref (bk ad)), (2, .int .i64 aT), (7, .bd (bR ar)), (8, .int .i64 (ar.b4.length : Int)), (102, .bool true)] (fun P aq => ?_) ?_)
         ·simp only [aQ.down, simprocAttr, ns.down, qP, u5]
          (try simp only [bw.down, simprocAttr, gl.down, qP, u5] at aq ⊢); exact aq
         exact .inr ⟨_, bJ rfl, B8 true h⟩
        ·obtain ⟨cN, u6, h⟩ := aW h
         refine jn (b3 (K := dv _) [(1, .ref (bk ad)), (2, .int .i64 aT), (7, .bd (bR ar)), (8, .int .i64 (ar.b4.length : Int)), (102, .bool (cN.Kind != 1))] (fun P aq => ?_) ?_)
         ·simp only [aQ.down, simprocAttr, ns.down, qP, u5, u6]
          (try simp only [bw.down, simprocAttr, gl.down, qP, u5, u6] at aq ⊢); exact aq
         exact .inr ⟨_, bJ rfl, B8 (cN.Kind != 1) h⟩
       ·refine jn (b3 (K := dv _) [(1, .ref (bk ad)), (2, .int .i64 aT), (7, .bd (bR ar)), (8, .int .i64 (ar.b4.length : Int)), (102, .bool false)] (fun P aq => ?_) ?_)
        ·simp only [aQ.down, simprocAttr, ns.down, qP]
         (try simp only [bw.down, simprocAttr, gl.down, qP] at aq ⊢); exact aq
        exact .inr ⟨_, bJ rfl, B8 false h⟩
      refine a7 (fun qJ kA jR l7 => ?_)
      refine ws _ ?_
      refine cc (fun adi sy u7 adj adk => ?_)
      refine ws _ ?_
      rcases a8 h with ⟨u9, h⟩ | ⟨u9, h⟩
      ·refine bg (congrArg I.bool u9) ?_
       simp only [u9, Bool.not_true, Bool.not_false]
       refine c5 (b3 [(1, .ref (bk ad)), (2, .int .i64 aT), (7, .bd (bR ar)), (8, .int .i64 (ar.b4.length : Int)), (69, .bool ((decide (2 < (ar.b4.length : Int))) || ((decide (0 < (ar.b4.length : Int))) && (ar.Name == ([116, 97, 117] : List UInt8)))))] (fun P aq => ?_) ?_)
       ·(rcases Bool.eq_false_or_eq_true (decide (2 < (ar.b4.length : Int))) with uU | uU) <;> (rcases Bool.eq_false_or_eq_true (decide (0 < (ar.b4.length : Int))) with uV | uV) <;>
         (simp only [aQ.down, simprocAttr, uW.down, uU, uV]
          (try simp only [bw.down, simprocAttr, gl.down, uU, uV] at aq ⊢); exact aq)
       rcases a8 h with ⟨u_, h⟩ | ⟨u_, h⟩
       ·refine bg (congrArg I.bool u_) ?_
        simp only [u_, Bool.not_true, Bool.not_false]
        refine ws _ ?_
        exact a1 (u7 _ (jR _ (aI _ (.inl (a2 [.int .i64 5] rfl (by cases aS h; rfl) (by decide) ba)))))
       ·refine bm (congrArg I.bool u_) ?_
        simp only [u_, Bool.not_true, Bool.not_false]
        exact bt (sy _ (kA _ (.inr ⟨_, bJ rfl, yy h⟩)))
      ·refine bm (congrArg I.bool u9) ?_
       simp only [u9, Bool.not_true, Bool.not_false]
       refine ws _ ?_
       rcases a8 h with ⟨va, h⟩ | ⟨va, h⟩
       ·refine bg (congrArg I.bool va) ?_
        simp only [va, Bool.not_true, Bool.not_false]
        refine ws _ ?_
        rcases a8 h with ⟨vb, h⟩ | ⟨vb, h⟩
        ·refine bg (congrArg I.bool vb) ?_
         simp only [vb, Bool.not_true, Bool.not_false]
         refine ws _ ?_
         exact a1 (u7 _ (jR _ (aI _ (.inl (a2 [.int .i64 5] rfl (by cases aS h; rfl) (by decide) ba)))))
        ·refine bm (congrArg I.bool vb) ?_
         simp only [vb, Bool.not_true, Bool.not_false]
         exact bt (sy _ (kA _ (.inr ⟨_, bJ rfl, yy h⟩)))
       ·refine bm (congrArg I.bool va) ?_
        simp only [va, Bool.not_true, Bool.not_false]
        refine ws _ ?_
        rcases a8 h with ⟨vc, h⟩ | ⟨vc, h⟩
        ·refine bg (congrArg I.bool vc) ?_
         simp only [vc, Bool.not_true, Bool.not_false]
         obtain ⟨d_, sA, h⟩ := aW h
         refine hZ sA _ ?_
         rcases a8 h with ⟨vd, h⟩ | ⟨vd, h⟩
         ·refine bg (congrArg I.bool vd) ?_
          simp only [vd, Bool.not_true, Bool.not_false]
          refine ws _ ?_
          exact a1 (u7 _ (jR _ (aI _ (.inl (a2 [.int .i64 5] rfl (by cases aS h; rfl) (by decide) ba)))))
         ·refine bm (congrArg I.bool vd) ?_
          simp only [vd, Bool.not_true, Bool.not_false]
          exact bt (sy _ (kA _ (.inr ⟨_, bJ rfl, yy h⟩)))
        ·refine bm (congrArg I.bool vc) ?_
         simp only [vc, Bool.not_true, Bool.not_false]
         exact bt (sy _ (kA _ (.inr ⟨_, bJ rfl, yy h⟩)))
    rcases a8 h with ⟨kf, h⟩ | ⟨kf, h⟩
    ·obtain ⟨ig, Cd, h⟩ := aW h
     rcases a8 h with ⟨mW, h⟩ | ⟨mW, h⟩
     ·refine jn (b3 (K := dv _) [(0, .slice (a0.map bk)), (1, .ref (bk ad)), (2, .int .i64 aT), (7, .bd (bR ar)), (51, .bool true)] (fun P aq => ?_) ?_)
      ·simp only [aQ.down, simprocAttr, gm.down, kf, (dZ mW)]
       refine g5 (l_ ar.Number 1 7 _ Cd) rfl rfl rfl rfl (.inl (by rfl)) ?_
       simp only [aQ.down, simprocAttr, gm.down, kf, (dZ mW)]
       (try simp only [bw.down, simprocAttr, gl.down, kf, (dZ mW)] at aq ⊢); exact aq
      exact .inr ⟨_, bJ rfl, u0 true h⟩
     ·rcases a8 h with ⟨kZ, h⟩ | ⟨kZ, h⟩
      ·obtain ⟨dP, adl, h⟩ := aW h
       refine jn (b3 (K := dv _) [(0, .slice (a0.map bk)), (1, .ref (bk ad)), (2, .int .i64 aT), (7, .bd (bR ar)), (51, .bool (!dP))] (fun P aq => ?_) ?_)
       ·simp only [aQ.down, simprocAttr, gm.down, kf, (cX mW), kZ]
        refine g5 (l_ ar.Number 1 7 _ Cd) rfl rfl rfl rfl (.inl (by rfl)) ?_
        simp only [aQ.down, simprocAttr, gm.down, kf, (cX mW), kZ]
        refine g5 (l_ ar.Number 0 (IntKind.i64.wrap ((a0.length : Int) - 1)) _ adl) rfl rfl rfl rfl (.inl (by rfl)) ?_
        simp only [aQ.down, simprocAttr, gm.down, kf, (cX mW), kZ]
        (try simp only [bw.down, simprocAttr, gl.down, kf, (cX mW), kZ] at aq ⊢); exact aq
       exact .inr ⟨_, bJ rfl, u0 (!dP) h⟩
      ·refine jn (b3 (K := dv _) [(0, .slice (a0.map bk)), (1, .ref (bk ad)), (2, .int .i64 aT), (7, .bd (bR ar)), (51, .bool false)] (fun P aq => ?_) ?_)
       ·simp only [aQ.down, simprocAttr, gm.down, kf, (cX mW), kZ]
        refine g5 (l_ ar.Number 1 7 _ Cd) rfl rfl rfl rfl (.inl (by rfl)) ?_
        simp only [aQ.down, simprocAttr, gm.down, kf, (cX mW), kZ]
        (try simp only [bw.down, simprocAttr, gl.down, kf, (cX mW), kZ] at aq ⊢); exact aq
       exact .inr ⟨_, bJ rfl, u0 false h⟩
    ·rcases a8 h with ⟨sB, h⟩ | ⟨sB, h⟩
     ·obtain ⟨dK, adm, h⟩ := aW h
      refine jn (b3 (K := dv _) [(0, .slice (a0.map bk)), (1, .ref (bk ad)), (2, .int .i64 aT), (7, .bd (bR ar)), (51, .bool (!dK))] (fun P aq => ?_) ?_)
      ·simp only [aQ.down, simprocAttr, gm.down, kf, sB]
       refine g5 (l_ ar.Number 0 (IntKind.i64.wrap ((a0.length : Int) - 1)) _ adm) rfl rfl rfl rfl (.inl (by rfl)) ?_
       simp only [aQ.down, simprocAttr, gm.down, kf, sB]
       (try simp only [bw.down, simprocAttr, gl.down, kf, sB] at aq ⊢); exact aq
      exact .inr ⟨_, bJ rfl, u0 (!dK) h⟩
     ·refine jn (b3 (K := dv _) [(0, .slice (a0.map bk)), (1, .ref (bk ad)), (2, .int .i64 aT), (7, .bd (bR ar)), (51, .bool false)] (fun P aq => ?_) ?_)
      ·simp only [aQ.down, simprocAttr, gm.down, kf, sB]
       (try simp only [bw.down, simprocAttr, gl.down, kf, sB] at aq ⊢); exact aq
      exact .inr ⟨_, bJ rfl, u0 false h⟩
  rcases a8 h with ⟨sC, h⟩ | ⟨sC, h⟩
  ·obtain ⟨en, adn, h⟩ := aW h
   refine jn (b3 (K := dv _) [(0, .slice (a0.map bk)), (1, .ref (bk ad)), (2, .int .i64 aT), (7, .bd (bR ar)), (28, .bool (!en))] (fun P aq => ?_) ?_)
   ·simp only [aQ.down, simprocAttr, uW.down, sC]
    refine g5 (B4 ar.Name _ adn) rfl rfl rfl rfl (.inl (by rfl)) ?_
    simp only [aQ.down, simprocAttr, uW.down, sC]
    (try simp only [bw.down, simprocAttr, gl.down, sC] at aq ⊢); exact aq
   exact .inr ⟨_, bJ rfl, HY (!en) h⟩
  ·refine jn (b3 (K := dv _) [(0, .slice (a0.map bk)), (1, .ref (bk ad)), (2, .int .i64 aT), (7, .bd (bR ar)), (28, .bool false)] (fun P aq => ?_) ?_)
   ·simp only [aQ.down, simprocAttr, uW.down, sC]
    (try simp only [bw.down, simprocAttr, gl.down, sC] at aq ⊢); exact aq
   exact .inr ⟨_, bJ rfl, HY false h⟩
theorem ado (a0 : List aV) (ad : aV) (r : Int × Int) (h : ql a0 ad = some r) : aU aN 47 [.slice (a0.map bk), .ref (bk ad)] (.tuple [.int .i64 r.1, .int .i64 r.2]) [] := by
 refine aU.cQ (fx := [0, 1]) cR [.tmp 4, .tmp 5] [(0, .slice (a0.map bk)), (1, .ref (bk ad))] Try.func47 rfl rfl TJ (Nat.le_of_ble_eq_true rfl) rfl rfl (fun cO aI cM => ?_)
 refine ws _ ?_
 refine a7 (fun e5 cA bF aC => ?_)
 obtain ⟨ar, cD, h⟩ := aW h
 refine ga (acX ad.Body _ cD) _ ?_
 rcases a8 h with ⟨cp, h⟩ | ⟨cp, h⟩
 ·refine bg (congrArg I.bool cp) ?_
  simp only [(dZ cp), Bool.not_true, Bool.not_false]
  refine ws _ ?_
  exact a1 (bF _ (aI _ (.inl (a2 [.int .i64 0, .int .i64 1] rfl (by cases aS h; rfl) (by decide) ba))))
 ·refine bm (congrArg I.bool cp) ?_
  simp only [(cX cp), Bool.not_true, Bool.not_false]
  refine bt (cA _ (.inl ?_))
  refine a7 (fun jq fA fO d_ => ?_)
  refine ws _ ?_
  refine cc (fun fG dD dF eh dP => ?_)
  have i_ : ∀ (n : Nat) (kv : Int), o1 a0 ad n kv = some r → dY aN Hi fG (R [(0, .slice (a0.map bk)), (1, .ref (bk ad)), (6, .int .i64 kv)]) := by
   intro e0
   induction e0 with
   | zero => intro kv h; cases (show none = some r from h)
   | succ e0 iU =>
    intro kv h
    replace h : ur (o1 a0 ad e0) a0 ad kv = some r := h
    refine eE (fun gH dk dO dK => ?_)
    refine a7 (fun kW hk kc en => ?_)
    refine ws _ ?_
    rcases a8 h with ⟨c6, h⟩ | ⟨c6, h⟩
    ·refine bg (congrArg I.bool c6) ?_
     simp only [c6, Bool.not_true, Bool.not_false]
     refine bt (hk _ (.inl ?_))
     refine a7 (fun kd g8 gb hY => ?_)
     refine cc (fun mT hO h1 dL iA => ?_)
     obtain ⟨aC, gI, h⟩ := aW h
     refine ga (ac4 a0 ad kv _ gI) _ ?_
     refine ws _ ?_
     rcases a8 h with ⟨fH, h⟩ | ⟨fH, h⟩
     ·refine bg (congrArg I.bool fH) ?_
      simp only [fH, Bool.not_true, Bool.not_false]
      refine ws _ ?_
      exact a1 (h1 _ (gb _ (dO _ (dF _ (fO _ (aI _ (.inl (a2 [.int .i64 kv, .int .i64 aC] rfl (by cases aS h; rfl) (by decide) ba))))))))
     ·refine bm (congrArg I.bool fH) ?_
      simp only [fH, Bool.not_true, Bool.not_false]
      refine bt (hO _ (g8 _ (.inl ?_)))
      refine wr _ ?_
      exact dk _ (.inr ⟨_, bJ rfl, iU (IntKind.i64.wrap (kv + 1)) h⟩)
    ·refine bm (congrArg I.bool c6) ?_
     simp only [c6, Bool.not_true, Bool.not_false]
     refine ek (en 0 _ (dK 0 _ (eh _ (fA _ (.inl ?_)))))
     refine ws _ ?_
     exact a1 (aI _ (.inl (a2 [.int .i64 0, .int .i64 0] rfl (by cases aS h; rfl) (by decide) ba)))
  obtain ⟨n, h⟩ := ep h
  exact eD (.inr ⟨_, bJ rfl, i_ n 0 h⟩)
set_option maxHeartbeats 1200000 in
theorem adp (a0 : List aV) (r : Bool) (h : xB a0 = some r) : aU aN 32 [.slice (a0.map bk)] (.bool r) [] := by
 refine aU.cQ (fx := [0]) cR [.tmp 2] [(0, .slice (a0.map bk))] Try.func32 rfl rfl Ua (Nat.le_of_ble_eq_true rfl) rfl rfl (fun cO aI cM => ?_)
 refine ws _ ?_
 refine a7 (fun e5 cA bF aC => ?_)
 refine c5 (b3 [(0, .slice (a0.map bk)), (15, .bool (((a0.length : Int) == 0) || (decide (4 < (a0.length : Int)))))] (fun P aq => ?_) ?_)
 ·rcases Bool.eq_false_or_eq_true ((a0.length : Int) == 0) with h9 | h9
  ·simp only [aQ.down, simprocAttr, gm.down, h9]
   (try simp only [bw.down, simprocAttr, gl.down, h9] at aq ⊢); exact aq
  ·simp only [aQ.down, simprocAttr, gm.down, h9]
   (try simp only [bw.down, simprocAttr, gl.down, h9] at aq ⊢); exact aq
 rcases a8 h with ⟨cp, h⟩ | ⟨cp, h⟩
 ·refine bg (congrArg I.bool cp) ?_
  simp only [cp, Bool.not_true, Bool.not_false]
  refine ws _ ?_
  exact a1 (bF _ (aI _ (.inl (a2 [.bool false] rfl (by cases aS h; rfl) (by decide) ba))))
 ·refine bm (congrArg I.bool cp) ?_
  simp only [cp, Bool.not_true, Bool.not_false]
  refine bt (cA _ (.inl ?_))
  refine a7 (fun jq fA fO d_ => ?_)
  refine ws _ ?_
  refine cc (fun fG dD dF eh dP => ?_)
  have i_ : ∀ (n : Nat) (el : Int), l5 a0 n el = some r → dY aN Hk fG (R [(0, .slice (a0.map bk)), (3, .int .i64 el)]) := by
   intro e0
   induction e0 with
   | zero => intro el h; cases (show none = some r from h)
   | succ e0 iU =>
    intro el h
    replace h : xA (l5 a0 e0) a0 el = some r := h
    refine eE (fun gH dk dO dK => ?_)
    refine a7 (fun kW hk kc en => ?_)
    refine ws _ ?_
    rcases a8 h with ⟨c6, h⟩ | ⟨c6, h⟩
    ·refine bg (congrArg I.bool c6) ?_
     simp only [c6, Bool.not_true, Bool.not_false]
     refine bt (hk _ (.inl ?_))
     refine a7 (fun kd g8 gb hY => ?_)
     refine cc (fun mT hO h1 dL iA => ?_)
     refine a7 (fun qJ kA jR l7 => ?_)
     obtain ⟨ar, gX, h⟩ := aW h
     obtain ⟨aC, iD, h⟩ := aW h
     rcases a8 h with ⟨eo, h⟩ | ⟨eo, h⟩
     ·refine j_ (And.intro gX (dZ eo)) (B4 ar.Name _ iD) _ ?_
      refine bg rfl ?_
      refine ws _ ?_
      exact a1 (jR _ (h1 _ (gb _ (dO _ (dF _ (fO _ (aI _ (.inl (a2 [.bool false] rfl (by cases aS h; rfl) (by decide) ba)))))))))
     ·obtain ⟨aX, iB, h⟩ := aW h
      refine c5 (b3 [(0, .slice (a0.map bk)), (3, .int .i64 el), (37, .bool (!aX))] (fun P aq => ?_) ?_)
      ·simp only [aQ.down, simprocAttr, gm.down, gX, (cX eo)]
       refine fv (B4 ar.Name _ iD) rfl rfl rfl rfl (.inl (by rfl)) ?_
       simp only [aQ.down, simprocAttr, gm.down, gX, (cX eo)]
       refine g5 (l_ ar.cS 0 3 _ iB) rfl rfl rfl rfl (.inl (by rfl)) ?_
       simp only [aQ.down, simprocAttr, gm.down, gX, (cX eo)]
       (try simp only [bw.down, simprocAttr, gl.down, gX, (cX eo)] at aq ⊢); exact aq
      rcases a8 h with ⟨ve, h⟩ | ⟨ve, h⟩
      ·refine bg (congrArg I.bool ve) ?_
       simp only [(dZ ve), Bool.not_true, Bool.not_false]
       refine ws _ ?_
       exact a1 (jR _ (h1 _ (gb _ (dO _ (dF _ (fO _ (aI _ (.inl (a2 [.bool false] rfl (by cases aS h; rfl) (by decide) ba)))))))))
      ·refine bm (congrArg I.bool ve) ?_
       simp only [(cX ve), Bool.not_true, Bool.not_false]
       refine bt (kA _ (.inl ?_))
       refine ws _ ?_
       refine cc (fun adq ahS adr hD ahT => ?_)
       have ads : ∀ (n : Nat) (kx : Int) (lq : Int), qm (l5 a0 e0) a0 n kx lq = some r → dY aN Hj adq (R [(0, .slice (a0.map bk)), (3, .int .i64 kx), (4, .int .i64 lq)]) := by
        intro Ce
        induction Ce with
        | zero => intro kx lq h; cases (show none = some r from h)
        | succ Ce adt =>
         intro kx lq h
         replace h : xy (l5 a0 e0) (qm (l5 a0 e0) a0 Ce) a0 kx lq = some r := h
         refine eE (fun ac5 B_ Ca HZ => ?_)
         refine a7 (fun adu Cf adv H6 => ?_)
         refine ws _ ?_
         rcases a8 h with ⟨g0, h⟩ | ⟨g0, h⟩
         ·refine bg (congrArg I.bool g0) ?_
          simp only [g0, Bool.not_true, Bool.not_false]
          refine bt (Cf _ (.inl ?_))
          refine a7 (fun H0 n31 u4 Cc => ?_)
          refine cc (fun adw n32 H7 mc adx => ?_)
          obtain ⟨bM, yz, h⟩ := aW h
          obtain ⟨bP, vf, h⟩ := aW h
          refine kQ rfl (kR [(0, .slice (a0.map bk)), (3, .int .i64 kx), (4, .int .i64 lq), (53, .bool (bM.Name == bP.Name))] (fun P aq => ?_) ?_)
          ·simp only [hh.down, simprocAttr, gm.down, yz, vf]
           refine ⟨kS (by kernel_rfl), ?_⟩
           (try simp only [bw.down, simprocAttr, gl.down, yz, vf] at aq ⊢); exact aq
          rcases a8 h with ⟨vg, h⟩ | ⟨vg, h⟩
          ·refine bg (congrArg I.bool vg) ?_
           simp only [vg, Bool.not_true, Bool.not_false]
           refine ws _ ?_
           exact a1 (H7 _ (u4 _ (Ca _ (adr _ (h1 _ (gb _ (dO _ (dF _ (fO _ (aI _ (.inl (a2 [.bool false] rfl (by cases aS h; rfl) (by decide) ba))))))))))))
          ·refine bm (congrArg I.bool vg) ?_
           simp only [vg, Bool.not_true, Bool.not_false]
           refine bt (n32 _ (n31 _ (.inl ?_)))
           refine wr _ ?_
           exact B_ _ (.inr ⟨_, bJ rfl, adt kx (IntKind.i64.wrap (lq + 1)) h⟩)
         ·refine bm (congrArg I.bool g0) ?_
          simp only [g0, Bool.not_true, Bool.not_false]
          refine ek (H6 2 _ (HZ 2 _ (hD _ (hO _ (g8 _ (.inl ?_))))))
          refine wr _ ?_
          exact dk _ (.inr ⟨_, bJ rfl, iU (IntKind.i64.wrap (kx + 1)) h⟩)
       obtain ⟨n, h⟩ := ep h
       exact eD (.inr ⟨_, bJ rfl, ads n el 0 h⟩)
    ·refine bm (congrArg I.bool c6) ?_
     simp only [c6, Bool.not_true, Bool.not_false]
     refine ek (en 0 _ (dK 0 _ (eh _ (fA _ (.inl ?_)))))
     refine a7 (fun ady n40 H8 adz => ?_)
     refine ws _ ?_
     refine cc (fun adA n42 adB adC ahU => ?_)
     have adD : ∀ (n : Nat) (l4 : Int), o2 a0 n l4 = some r → dY aN Hl adA (R [(0, .slice (a0.map bk)), (5, .int .i64 l4)]) := by
      intro Cg
      induction Cg with
      | zero => intro l4 h; cases (show none = some r from h)
      | succ Cg adE =>
       intro l4 h
       replace h : xz (o2 a0 Cg) a0 l4 = some r := h
       refine eE (fun ahV n43 adF adG => ?_)
       refine a7 (fun ahW n44 ahX adH => ?_)
       refine ws _ ?_
       rcases a8 h with ⟨vh, h⟩ | ⟨vh, h⟩
       ·refine bg (congrArg I.bool vh) ?_
        simp only [vh, Bool.not_true, Bool.not_false]
        refine bt (n44 _ (.inl ?_))
        refine a7 (fun ahY adI adJ ahZ => ?_)
        refine cc (fun adi sy u7 adj adk => ?_)
        obtain ⟨cN, adK, h⟩ := aW h
        obtain ⟨d_, adL, h⟩ := aW h
        refine j_ adK (ado a0 cN _ adL) _ ?_
        refine ws _ ?_
        rcases a8 h with ⟨vi, h⟩ | ⟨vi, h⟩
        ·refine bg (congrArg I.bool vi) ?_
         simp only [vi, Bool.not_true, Bool.not_false]
         refine ws _ ?_
         exact a1 (u7 _ (adJ _ (adF _ (adB _ (H8 _ (aI _ (.inl (a2 [.bool false] rfl (by cases aS h; rfl) (by decide) ba))))))))
        ·refine bm (congrArg I.bool vi) ?_
         simp only [vi, Bool.not_true, Bool.not_false]
         refine bt (sy _ (adI _ (.inl ?_)))
         refine wr _ ?_
         exact n43 _ (.inr ⟨_, bJ rfl, adE (IntKind.i64.wrap (l4 + 1)) h⟩)
       ·refine bm (congrArg I.bool vh) ?_
        simp only [vh, Bool.not_true, Bool.not_false]
        refine ek (adH 4 _ (adG 4 _ (adC _ (n40 _ (.inl ?_)))))
        refine ws _ ?_
        exact a1 (aI _ (.inl (a2 [.bool true] rfl (by cases aS h; rfl) (by decide) ba)))
     obtain ⟨n, h⟩ := ep h
     exact eD (.inr ⟨_, bJ rfl, adD n 0 h⟩)
  obtain ⟨n, h⟩ := ep h
  exact eD (.inr ⟨_, bJ rfl, i_ n 0 h⟩)
theorem adM (a0 : List aV) (ad : Int) (aT : Int) (r : Int) (h : xC a0 ad aT = some r) : aU aN 20 [.slice (a0.map bk), .int .i64 ad, .int .i64 aT] (.int .i64 r) [] := by
 refine aU.cQ (fx := [0, 1, 2]) cR [.tmp 6] [(0, .slice (a0.map bk)), (1, .int .i64 ad), (2, .int .i64 aT)] Try.func20 rfl rfl qB (Nat.le_of_ble_eq_true rfl) rfl rfl (fun cO aI cM => ?_)
 refine ws _ ?_
 refine a7 (fun e5 cA bF aC => ?_)
 obtain ⟨ar, cD, h⟩ := aW h
 refine ga (adp a0 _ cD) _ ?_
 rcases a8 h with ⟨cp, h⟩ | ⟨cp, h⟩
 ·refine bg (congrArg I.bool cp) ?_
  simp only [(dZ cp), Bool.not_true, Bool.not_false]
  refine ws _ ?_
  exact a1 (bF _ (aI _ (.inl (a2 [.int .i64 1] rfl (by cases aS h; rfl) (by decide) ba))))
 ·refine bm (congrArg I.bool cp) ?_
  simp only [(cX cp), Bool.not_true, Bool.not_false]
  refine bt (cA _ (.inl ?_))
  refine a7 (fun jq fA fO d_ => ?_)
  obtain ⟨aC, k_, h⟩ := aW h
  rcases a8 h with ⟨cL, h⟩ | ⟨cL, h⟩
  ·refine j_ (dZ cL) (l_ ad 0 (IntKind.i64.wrap ((a0.length : Int) - 1)) _ k_) _ ?_
   refine bg rfl ?_
   refine ws _ ?_
   exact a1 (fO _ (aI _ (.inl (a2 [.int .i64 2] rfl (by cases aS h; rfl) (by decide) ba))))
  ·obtain ⟨aX, eA, h⟩ := aW h
   obtain ⟨bM, eW, h⟩ := aW h
   refine c5 (b3 [(27, .bool (!bM))] (fun P aq => ?_) ?_)
   ·simp only [aQ.down, simprocAttr, gm.down, (cX cL), eA]
    refine fv (l_ ad 0 (IntKind.i64.wrap ((a0.length : Int) - 1)) _ k_) rfl rfl rfl rfl (.inl (by rfl)) ?_
    simp only [aQ.down, simprocAttr, gm.down, (cX cL), eA]
    refine g5 (l_ aT 0 (IntKind.i64.wrap ((aX.Body.length : Int) - 1)) _ eW) rfl rfl rfl rfl (.inl (by rfl)) ?_
    simp only [aQ.down, simprocAttr, gm.down, (cX cL), eA]
    (try simp only [bw.down, simprocAttr, gl.down, (cX cL), eA] at aq ⊢); exact aq
   rcases a8 h with ⟨dU, h⟩ | ⟨dU, h⟩
   ·refine bg (congrArg I.bool dU) ?_
    simp only [(dZ dU), Bool.not_true, Bool.not_false]
    refine ws _ ?_
    exact a1 (fO _ (aI _ (.inl (a2 [.int .i64 2] rfl (by cases aS h; rfl) (by decide) ba))))
   ·refine bm (congrArg I.bool dU) ?_
    simp only [(cX dU), Bool.not_true, Bool.not_false]
    refine bt (fA _ (.inl ?_))
    refine ws _ ?_
    exact a1 (aI _ (.inl (a2 [.int .i64 0] rfl (by cases aS h; rfl) (by decide) ba)))
theorem adN (a0 : List (List UInt8)) (ad : List UInt8) (r : Int) (h : xE a0 ad = some r) : aU aN 42 [.slice (a0.map bf), .str ad] (.int .i64 r) [] := by
 refine aU.cQ (fx := [0, 1]) cR [.tmp 4] [(0, .slice (a0.map bf)), (1, .str ad)] Try.func42 rfl rfl Us (Nat.le_of_ble_eq_true rfl) rfl rfl (fun cO aI cM => ?_)
 refine ws _ ?_
 refine a7 (fun e5 cA bF aC => ?_)
 refine ws _ ?_
 refine cc (fun e9 fB cz bY bM => ?_)
 have hE : ∀ (n : Nat) (aR : Int), se a0 ad n aR = some r → dY aN Hm e9 (R [(0, .slice (a0.map bf)), (1, .str ad), (5, .int .i64 aR)]) := by
  intro dj
  induction dj with
  | zero => intro aR h; cases (show none = some r from h)
  | succ dj hn =>
   intro aR h
   replace h : xD (se a0 ad dj) a0 ad aR = some r := h
   refine eE (fun iC eS e4 bP => ?_)
   refine a7 (fun gY e_ ft cN => ?_)
   refine ws _ ?_
   rcases a8 h with ⟨bD, h⟩ | ⟨bD, h⟩
   ·refine bg (congrArg I.bool bD) ?_
    simp only [bD, Bool.not_true, Bool.not_false]
    refine bt (e_ _ (.inl ?_))
    refine a7 (fun fG dD dF dP => ?_)
    refine cc (fun gH dk dO cL dK => ?_)
    obtain ⟨ar, eA, h⟩ := aW h
    refine hZ eA _ ?_
    rcases a8 h with ⟨c6, h⟩ | ⟨c6, h⟩
    ·refine bg (congrArg I.bool c6) ?_
     simp only [c6, Bool.not_true, Bool.not_false]
     refine ws _ ?_
     exact a1 (dO _ (dF _ (e4 _ (cz _ (bF _ (aI _ (.inl (a2 [.int .i64 aR] rfl (by cases aS h; rfl) (by decide) ba))))))))
    ·refine bm (congrArg I.bool c6) ?_
     simp only [c6, Bool.not_true, Bool.not_false]
     refine bt (dk _ (dD _ (.inl ?_)))
     refine wr _ ?_
     exact eS _ (.inr ⟨_, bJ rfl, hn (IntKind.i64.wrap (aR + 1)) h⟩)
   ·refine bm (congrArg I.bool bD) ?_
    simp only [bD, Bool.not_true, Bool.not_false]
    refine ek (cN 0 _ (bP 0 _ (bY _ (cA _ (.inl ?_)))))
    refine ws _ ?_
    exact a1 (aI _ (.inl (a2 [.int .i64 (-1)] rfl (by cases aS h; rfl) (by decide) ba)))
 obtain ⟨n, h⟩ := ep h
 exact eD (.inr ⟨_, bJ rfl, hE n 0 h⟩)
set_option maxHeartbeats 1400000 in
theorem adO (a0 : List (List UInt8)) (r : (List (List UInt8))) (h : xH a0 = some r) : aU aN 28 [.slice (a0.map bf)] (.aE 1 (r.map bf)) [] := by
 refine aU.cQ (fx := [0]) cR [.tmp 2] [(0, .slice (a0.map bf))] Try.func28 rfl rfl UM (Nat.le_of_ble_eq_true rfl) rfl rfl (fun cO aI cM => ?_)
 refine ws _ ?_
 refine hZ (show ∀ s, dN aN s 34 1 [(0, .str ([116, 97, 117] : List UInt8))] = some (.aE 1 [.str ([116, 97, 117] : List UInt8)], s) from fun s => by kernel_rfl) _ ?_
 refine a7 (fun ly h0 dJ aX => ?_)
 refine ws _ ?_
 refine cc (fun iC eS e4 cp bP => ?_)
 have mU : ∀ (n : Nat) (cK : List (List UInt8)) (cq : Int), jP a0 n cK cq = some r → dY aN Hp iC (R [(0, .slice (a0.map bf)), (3, .aE 1 (cK.map bf)), (4, .int .i64 cq)]) := by
  intro fl
  induction fl with
  | zero => intro cK cq h; cases (show none = some r from h)
  | succ fl mV =>
   intro cK cq h
   replace h : xG (jP a0 fl) a0 cK cq = some r := h
   refine eE (fun gY e_ ft cN => ?_)
   refine a7 (fun jq fA fO d_ => ?_)
   refine ws _ ?_
   rcases a8 h with ⟨eh, h⟩ | ⟨eh, h⟩
   ·refine bg (congrArg I.bool eh) ?_
    simp only [eh, Bool.not_true, Bool.not_false]
    refine bt (fA _ (.inl ?_))
    have Ch : ∀ (sf : List (List UInt8)) (sg : Int), uu (jP a0 fl) a0 sf sg = some r → cG aN Ho gY (R [(0, .slice (a0.map bf)), (3, .aE 1 (sf.map bf)), (4, .int .i64 sg)]) := by
     intro sf sg h
     refine wr _ ?_
     exact e_ _ (.inr ⟨_, bJ rfl, mV sf (IntKind.i64.wrap (sg + 1)) h⟩)
    refine a7 (fun gH dk dO dK => ?_)
    refine cc (fun jr g9 i9 dr ij => ?_)
    refine a7 (fun mX iE js i7 => ?_)
    obtain ⟨ar, gd, h⟩ := aW h
    obtain ⟨aC, dm, h⟩ := aW h
    refine c5 (b3 [(0, .slice (a0.map bf)), (3, .aE 1 (cK.map bf)), (4, .int .i64 cq), (20, .bool (decide (0 ≤ aC)))] (fun P aq => ?_) ?_)
    ·simp only [aQ.down, simprocAttr, ka.down, gd]
     refine fv (adN cK ar _ dm) rfl rfl (by simp only [aQ.down, simprocAttr, ka.down, gd, hL, hM, hN, eg, @eY _ bf bf (fun _ => kU _)] <;> rfl) rfl (.inr (by rfl)) ?_
     simp only [aQ.down, simprocAttr, ka.down, gd]
     (try simp only [bw.down, simprocAttr, bf, gd] at aq ⊢); exact aq
    rcases a8 h with ⟨h2, h⟩ | ⟨h2, h⟩
    ·refine bg (congrArg I.bool h2) ?_
     simp only [h2, Bool.not_true, Bool.not_false]
     exact ek (i7 1 _ (dr _ (dk _ (.inr ⟨_, bJ rfl, Ch cK cq h⟩))))
    ·refine bm (congrArg I.bool h2) ?_
     simp only [h2, Bool.not_true, Bool.not_false]
     refine bt (iE _ (.inl ?_))
     refine ws _ ?_
     refine a7 (fun uY kB qK sw => ?_)
     refine cc (fun B5 uZ yx eo HW => ?_)
     have adP : ∀ (n : Nat) (gG : List (List UInt8)) (iy : Int) (ik : Int), o3 (jP a0 fl) a0 n gG iy ik = some r → dY aN Hn B5 (R [(0, .slice (a0.map bf)), (3, .aE 1 (gG.map bf)), (4, .int .i64 iy), (5, .int .i64 ik)]) := by
      intro Ci
      induction Ci with
      | zero => intro gG iy ik h; cases (show none = some r from h)
      | succ Ci adQ =>
       intro gG iy ik h
       replace h : xF (jP a0 fl) (o3 (jP a0 fl) a0 Ci) a0 gG iy ik = some r := h
       refine eE (fun H9 vj sD yA => ?_)
       refine a7 (fun B9 qM qN u1 => ?_)
       rcases a8 h with ⟨gf, h⟩ | ⟨gf, h⟩
       ·obtain ⟨aX, kX, h⟩ := aW h
        obtain ⟨bM, lB, h⟩ := aW h
        refine kQ rfl (kR [(0, .slice (a0.map bf)), (3, .aE 1 (gG.map bf)), (4, .int .i64 iy), (5, .int .i64 ik), (35, .bool (Op.bytesLess aX bM))] (fun P aq => ?_) ?_)
        ·simp only [hh.down, simprocAttr, ka.down, gf, kX, df kX, lB]
         refine ⟨kS (by kernel_rfl), ?_⟩
         (try simp only [bw.down, simprocAttr, bf, gf, kX, df kX, lB] at aq ⊢); exact aq
        rcases a8 h with ⟨jT, h⟩ | ⟨jT, h⟩
        ·refine bg (congrArg I.bool jT) ?_
         simp only [jT, Bool.not_true, Bool.not_false]
         refine bt (qM _ (.inl ?_))
         refine cc (fun adu Cf adv sE H6 => ?_)
         refine wr _ ?_
         exact Cf _ (vj _ (.inr ⟨_, bJ rfl, adQ gG iy (IntKind.i64.wrap (ik + 1)) h⟩))
        ·refine bm (congrArg I.bool jT) ?_
         simp only [jT, Bool.not_true, Bool.not_false]
         refine ek (u1 2 _ (yA 2 _ (eo _ (kB _ (.inl ?_)))))
         obtain ⟨ah0, n7, h⟩ := aW h
         (try simp only [List.length_append, List.length_cons, List.length_nil, List.length_map, List.length_replicate, Nat.zero_add, Nat.add_zero, Nat.reduceAdd] at n7)
         refine c5 (b3 [(0, .slice (a0.map bf)), (3, .aE 1 ((gG ++ [([] : List UInt8)]).map bf)), (4, .int .i64 iy), (5, .int .i64 ik)] (fun P aq => ?_) ?_)
         ·simp only [aQ.down, simprocAttr, ka.down, (show ∀ s, dN aN s 34 1 [(0, .str ([] : List UInt8))] = some (.aE 1 [.str ([] : List UInt8)], s) from fun s => by kernel_rfl), @oM aN 34 34 9 rfl rfl, oN, oO, oP, all_cons, all_nil, n7, @lh _ bf 1 (fun _ => rfl)]
          (try simp only [bw.down, simprocAttr, bf, (show ∀ s, dN aN s 34 1 [(0, .str ([] : List UInt8))] = some (.aE 1 [.str ([] : List UInt8)], s) from fun s => by kernel_rfl), @oM aN 34 34 9 rfl rfl, oN, oO, oP, all_cons, all_nil, n7, @lh _ bf 1 (fun _ => rfl)] at aq ⊢); exact aq
         refine a7 (fun adw n32 H7 adx => ?_)
         refine ws [(0, .slice (a0.map bf)), (3, .aE 1 ((gG ++ [([] : List UInt8)]).map bf)), (4, .int .i64 iy), (5, .int .i64 ik), (6, .int .i64 (IntKind.i64.wrap (((gG ++ [([] : List UInt8)]).length : Int) - 1)))] ?_
         refine cc (fun H2 n34 H3 adR ade => ?_)
         have Cj : ∀ (n : Nat) (gO : List (List UInt8)) (g6 : Int) (gW : Int) (gx : Int), mP (jP a0 fl) a0 n gO g6 gW gx = some r → dY aN BW H2 (R [(0, .slice (a0.map bf)), (3, .aE 1 (gO.map bf)), (4, .int .i64 g6), (5, .int .i64 gW), (6, .int .i64 gx)]) := by
          intro qQ
          induction qQ with
          | zero => intro gO g6 gW gx h; cases (show none = some r from h)
          | succ qQ Ck =>
           intro gO g6 gW gx h
           replace h : uv (jP a0 fl) (mP (jP a0 fl) a0 qQ) a0 gO g6 gW gx = some r := h
           refine eE (fun adf n35 H4 H5 => ?_)
           refine a7 (fun ah1 n36 ah2 adS => ?_)
           refine ws _ ?_
           rcases a8 h with ⟨k1, h⟩ | ⟨k1, h⟩
           ·refine bg (congrArg I.bool k1) ?_
            simp only [k1, Bool.not_true, Bool.not_false]
            refine bt (n36 _ (.inl ?_))
            refine a7 (fun ah3 n39 ah4 ah5 => ?_)
            refine cc (fun ady n40 H8 ah6 adz => ?_)
            obtain ⟨bP, yB, h⟩ := aW h
            obtain ⟨cN, yC, h⟩ := aW h
            refine jM (b3 [(0, .slice (a0.map bf)), (3, .aE 1 ((List.set gO (Int.toNat gx) bP).map bf)), (4, .int .i64 g6), (5, .int .i64 gW), (6, .int .i64 gx)] (fun P aq => ?_) ?_)
            ·simp only [aQ.down, simprocAttr, ka.down, yB, df yB, yC, df yC, e6, dT]
             (try simp only [bw.down, simprocAttr, bf, yB, df yB, yC, df yC, e6, dT] at aq ⊢); exact aq
            refine n40 _ (n39 _ (.inl ?_))
            refine wr [(0, .slice (a0.map bf)), (3, .aE 1 ((List.set gO (Int.toNat gx) bP).map bf)), (4, .int .i64 g6), (5, .int .i64 gW), (6, .int .i64 (IntKind.i64.wrap (gx - 1)))] ?_
            exact n35 _ (.inr ⟨_, bJ rfl, Ck (List.set gO (Int.toNat gx) bP) g6 gW (IntKind.i64.wrap (gx - 1)) h⟩)
           ·refine bm (congrArg I.bool k1) ?_
            simp only [k1, Bool.not_true, Bool.not_false]
            refine ek (adS 4 _ (H5 4 _ (adR _ (n32 _ (.inl ?_)))))
            obtain ⟨d_, u6, h⟩ := aW h
            obtain ⟨ig, yD, h⟩ := aW h
            refine jM (b3 [(0, .slice (a0.map bf)), (3, .aE 1 ((List.set gO (Int.toNat gW) d_).map bf)), (4, .int .i64 g6)] (fun P aq => ?_) ?_)
            ·simp only [aQ.down, simprocAttr, ka.down, u6, yD, df yD, e6, dT]
             (try simp only [bw.down, simprocAttr, bf, u6, yD, df yD, e6, dT] at aq ⊢); exact aq
            exact g9 _ (dk _ (.inr ⟨_, bJ rfl, Ch (List.set gO (Int.toNat gW) d_) g6 h⟩))
         obtain ⟨n, h⟩ := ep h
         exact eD (.inr ⟨_, bJ rfl, Cj n (gG ++ [([] : List UInt8)]) iy ik (IntKind.i64.wrap (((gG ++ [([] : List UInt8)]).length : Int) - 1)) h⟩)
       ·refine kQ rfl (kR [(0, .slice (a0.map bf)), (3, .aE 1 (gG.map bf)), (4, .int .i64 iy), (5, .int .i64 ik), (35, .bool false)] (fun P aq => ?_) ?_)
        ·simp only [hh.down, simprocAttr, ka.down, gf]
         refine ⟨kS (by kernel_rfl), ?_⟩
         (try simp only [bw.down, simprocAttr, bf, gf] at aq ⊢); exact aq
        refine bm rfl ?_
        refine ek (u1 2 _ (yA 2 _ (eo _ (kB _ (.inl ?_)))))
        obtain ⟨ah7, Cl, h⟩ := aW h
        (try simp only [List.length_append, List.length_cons, List.length_nil, List.length_map, List.length_replicate, Nat.zero_add, Nat.add_zero, Nat.reduceAdd] at Cl)
        refine c5 (b3 [(0, .slice (a0.map bf)), (3, .aE 1 ((gG ++ [([] : List UInt8)]).map bf)), (4, .int .i64 iy), (5, .int .i64 ik)] (fun P aq => ?_) ?_)
        ·simp only [aQ.down, simprocAttr, ka.down, (show ∀ s, dN aN s 34 1 [(0, .str ([] : List UInt8))] = some (.aE 1 [.str ([] : List UInt8)], s) from fun s => by kernel_rfl), @oM aN 34 34 9 rfl rfl, oN, oO, oP, all_cons, all_nil, Cl, @lh _ bf 1 (fun _ => rfl)]
         (try simp only [bw.down, simprocAttr, bf, (show ∀ s, dN aN s 34 1 [(0, .str ([] : List UInt8))] = some (.aE 1 [.str ([] : List UInt8)], s) from fun s => by kernel_rfl), @oM aN 34 34 9 rfl rfl, oN, oO, oP, all_cons, all_nil, Cl, @lh _ bf 1 (fun _ => rfl)] at aq ⊢); exact aq
        refine a7 (fun ah8 adT ah9 ah_ => ?_)
        refine ws [(0, .slice (a0.map bf)), (3, .aE 1 ((gG ++ [([] : List UInt8)]).map bf)), (4, .int .i64 iy), (5, .int .i64 ik), (6, .int .i64 (IntKind.i64.wrap (((gG ++ [([] : List UInt8)]).length : Int) - 1)))] ?_
        refine cc (fun adU n52 aia adV aib => ?_)
        have Cj : ∀ (n : Nat) (gO : List (List UInt8)) (g6 : Int) (gW : Int) (gx : Int), mP (jP a0 fl) a0 n gO g6 gW gx = some r → dY aN BW adU (R [(0, .slice (a0.map bf)), (3, .aE 1 (gO.map bf)), (4, .int .i64 g6), (5, .int .i64 gW), (6, .int .i64 gx)]) := by
         intro qQ
         induction qQ with
         | zero => intro gO g6 gW gx h; cases (show none = some r from h)
         | succ qQ Ck =>
          intro gO g6 gW gx h
          replace h : uv (jP a0 fl) (mP (jP a0 fl) a0 qQ) a0 gO g6 gW gx = some r := h
          refine eE (fun aic n53 aid adW => ?_)
          refine a7 (fun aie n54 aif adX => ?_)
          refine ws _ ?_
          rcases a8 h with ⟨vk, h⟩ | ⟨vk, h⟩
          ·refine bg (congrArg I.bool vk) ?_
           simp only [vk, Bool.not_true, Bool.not_false]
           refine bt (n54 _ (.inl ?_))
           refine a7 (fun aih adY aii aij => ?_)
           refine cc (fun aik adZ ail aim ain => ?_)
           obtain ⟨dP, yE, h⟩ := aW h
           obtain ⟨dK, yF, h⟩ := aW h
           refine jM (b3 [(0, .slice (a0.map bf)), (3, .aE 1 ((List.set gO (Int.toNat gx) dP).map bf)), (4, .int .i64 g6), (5, .int .i64 gW), (6, .int .i64 gx)] (fun P aq => ?_) ?_)
           ·simp only [aQ.down, simprocAttr, ka.down, yE, df yE, yF, df yF, e6, dT]
            (try simp only [bw.down, simprocAttr, bf, yE, df yE, yF, df yF, e6, dT] at aq ⊢); exact aq
           refine adZ _ (adY _ (.inl ?_))
           refine wr [(0, .slice (a0.map bf)), (3, .aE 1 ((List.set gO (Int.toNat gx) dP).map bf)), (4, .int .i64 g6), (5, .int .i64 gW), (6, .int .i64 (IntKind.i64.wrap (gx - 1)))] ?_
           exact n53 _ (.inr ⟨_, bJ rfl, Ck (List.set gO (Int.toNat gx) dP) g6 gW (IntKind.i64.wrap (gx - 1)) h⟩)
          ·refine bm (congrArg I.bool vk) ?_
           simp only [vk, Bool.not_true, Bool.not_false]
           refine ek (adX 4 _ (adW 4 _ (adV _ (adT _ (.inl ?_)))))
           obtain ⟨en, sA, h⟩ := aW h
           obtain ⟨ij, yG, h⟩ := aW h
           refine jM (b3 [(0, .slice (a0.map bf)), (3, .aE 1 ((List.set gO (Int.toNat gW) en).map bf)), (4, .int .i64 g6)] (fun P aq => ?_) ?_)
           ·simp only [aQ.down, simprocAttr, ka.down, sA, yG, df yG, e6, dT]
            (try simp only [bw.down, simprocAttr, bf, sA, yG, df yG, e6, dT] at aq ⊢); exact aq
           exact g9 _ (dk _ (.inr ⟨_, bJ rfl, Ch (List.set gO (Int.toNat gW) en) g6 h⟩))
        obtain ⟨n, h⟩ := ep h
        exact eD (.inr ⟨_, bJ rfl, Cj n (gG ++ [([] : List UInt8)]) iy ik (IntKind.i64.wrap (((gG ++ [([] : List UInt8)]).length : Int) - 1)) h⟩)
     obtain ⟨n, h⟩ := ep h
     exact eD (.inr ⟨_, bJ rfl, adP n cK cq 1 h⟩)
   ·refine bm (congrArg I.bool eh) ?_
    simp only [eh, Bool.not_true, Bool.not_false]
    refine ek (d_ 0 _ (cN 0 _ (cp _ (h0 _ (.inl ?_)))))
    refine ws _ ?_
    exact a1 (aI _ (.inl (a2 [.aE 1 (cK.map bf)] rfl (by cases aS h; rfl) (by decide) ba)))
 obtain ⟨n, h⟩ := ep h
 exact eD (.inr ⟨_, bJ rfl, mU n [([116, 97, 117] : List UInt8)] 0 h⟩)
set_option maxHeartbeats 600000 in
theorem ad0 (a0 : List aV) (ad : Int) (r : (List (List UInt8)) × Int) (h : xK a0 ad = some r) : aU aN 14 [.slice (a0.map bk), .int .i64 ad] (.tuple [.slice (r.1.map bf), .int .i64 r.2]) [] := by
 refine aU.cQ (fx := [0, 1]) cR [.tmp 4, .tmp 5] [(0, .slice (a0.map bk)), (1, .int .i64 ad)] Try.func14 rfl rfl l8 (Nat.le_of_ble_eq_true rfl) rfl rfl (fun cO aI cM => ?_)
 refine ws _ ?_
 obtain ⟨ar, a_, h⟩ := aW h
 refine ga (adM a0 ad 0 _ a_) _ ?_
 refine a7 (fun e9 fB cz bM => ?_)
 refine ws _ ?_
 rcases a8 h with ⟨cI, h⟩ | ⟨cI, h⟩
 ·refine bg (congrArg I.bool cI) ?_
  simp only [cI, Bool.not_true, Bool.not_false]
  refine ws _ ?_
  exact a1 (cz _ (aI _ (.inr ⟨[(4, .slice []), (5, .int .i64 ar)], p3 [] rfl (p5 (t := 4) (d := .bA) rfl rfl (.pT) (by decide) (kt rfl (p4))), a2 [.slice [], .int .i64 ar] rfl (by cases aS h; rfl) (by decide) ba⟩)))
 ·refine bm (congrArg I.bool cI) ?_
  simp only [cI, Bool.not_true, Bool.not_false]
  refine bt (fB _ (.inl ?_))
  refine hZ (show ∀ s, dN aN s 34 0 [] = some (.aE 1 [], s) from fun s => by kernel_rfl) _ ?_
  refine a7 (fun fG dD dF dP => ?_)
  refine ws _ ?_
  refine cc (fun kW hk kc hC en => ?_)
  have Cm : ∀ (n : Nat) (fF : List (List UInt8)) (j7 : Int), n1 a0 ad n fF j7 = some r → dY aN Hr kW (R [(0, .slice (a0.map bk)), (1, .int .i64 ad), (7, .aE 1 (fF.map bf)), (8, .int .i64 j7)]) := by
   intro n8
   induction n8 with
   | zero => intro fF j7 h; cases (show none = some r from h)
   | succ n8 Cn =>
    intro fF j7 h
    replace h : xJ (n1 a0 ad n8) a0 ad fF j7 = some r := h
    refine eE (fun jr g9 i9 ij => ?_)
    refine a7 (fun mX iE js i7 => ?_)
    obtain ⟨aC, gd, h⟩ := aW h
    refine hZ gd _ ?_
    rcases a8 h with ⟨gg, h⟩ | ⟨gg, h⟩
    ·refine bg (congrArg I.bool gg) ?_
     simp only [gg, Bool.not_true, Bool.not_false]
     refine bt (iE _ (.inl ?_))
     have H_ : ∀ (si : List (List UInt8)) (sj : Int), xI (n1 a0 ad n8) a0 ad si sj = some r → cG aN Hq jr (R [(0, .slice (a0.map bk)), (1, .int .i64 ad), (7, .aE 1 (si.map bf)), (8, .int .i64 sj)]) := by
      intro si sj h
      refine wr _ ?_
      exact g9 _ (.inr ⟨_, bJ rfl, Cn si (IntKind.i64.wrap (sj + 1)) h⟩)
     refine a7 (fun o7 jS kY n5 => ?_)
     refine cc (fun uY kB qK fH sw => ?_)
     obtain ⟨aX, n6, h⟩ := aW h
     refine hZ (And.intro gd n6) _ ?_
     rcases a8 h with ⟨hP, h⟩ | ⟨hP, h⟩
     ·refine bg (congrArg I.bool hP) ?_
      simp only [hP, Bool.not_true, Bool.not_false]
      obtain ⟨aio, k2, h⟩ := aW h
      (try simp only [List.length_append, List.length_cons, List.length_nil, List.length_map, List.length_replicate, Nat.zero_add, Nat.add_zero, Nat.reduceAdd] at k2)
      refine jM (b3 [(0, .slice (a0.map bk)), (1, .int .i64 ad), (7, .aE 1 ((fF ++ [aX.Name]).map bf)), (8, .int .i64 j7)] (fun P aq => ?_) ?_)
      ·simp only [aQ.down, simprocAttr, eZ, fw, oW, w9, j6, mO, fU, hi, fy, fh, bk, bR, bK, dw, bf, gd, n6, (show ∀ s, dN aN s 34 1 [(0, .str aX.Name)] = some (.aE 1 [.str aX.Name], s) from fun s => by kernel_rfl), @oM aN 34 34 9 rfl rfl, oN, oO, oP, all_cons, all_nil, k2, @lh _ bf 1 (fun _ => rfl)]
       (try simp only [bw.down, simprocAttr, bk, bR, bK, dw, bf, gd, n6, (show ∀ s, dN aN s 34 1 [(0, .str aX.Name)] = some (.aE 1 [.str aX.Name], s) from fun s => by kernel_rfl), @oM aN 34 34 9 rfl rfl, oN, oO, oP, all_cons, all_nil, k2, @lh _ bf 1 (fun _ => rfl)] at aq ⊢); exact aq
      exact kB _ (jS _ (.inr ⟨_, bJ rfl, H_ (fF ++ [aX.Name]) j7 h⟩))
     ·refine bm (congrArg I.bool hP) ?_
      simp only [hP, Bool.not_true, Bool.not_false]
      exact bt (kB _ (jS _ (.inr ⟨_, bJ rfl, H_ fF j7 h⟩)))
    ·refine bm (congrArg I.bool gg) ?_
     simp only [gg, Bool.not_true, Bool.not_false]
     refine ek (i7 0 _ (ij 0 _ (hC _ (dD _ (.inr ⟨[(0, .slice (a0.map bk)), (1, .int .i64 ad), (7, .slice (fF.map bf)), (8, .int .i64 j7), (23, .bool false)], p3 [] rfl (kt rfl (kt rfl (p5 (t := 7) (d := .aE 1 (fF.map bf)) (br := .slice (fF.map bf)) rfl rfl (Bb rfl rfl (by simp only [eg, I.share, I.shares, @eY _ bf bf (fun _ => kU _)] <;> rfl)) (by decide) (kt rfl (kt rfl (p4)))))), ?_⟩)))))
     obtain ⟨bM, lB, h⟩ := aW h
     obtain ⟨bP, Co, h⟩ := aW h
     refine j_ (And.intro Co (@lh _ bf 1 (fun _ => rfl))) (((adO fF _ lB)).wide (Bb rfl rfl (by simp only [eg, I.share, I.shares, @eY _ bf bf (fun _ => kU _)] <;> rfl)) rfl rfl) _ ?_
     exact a1 (aI _ (.inl (a2 [.slice (bP.map bf), .int .i64 0] rfl (by cases aS h; rfl) (by decide) ba)))
  obtain ⟨n, h⟩ := ep h
  exact eD (.inr ⟨_, bJ rfl, Cm n [] 0 h⟩)
theorem ja (a0 : Int) (ad : Int) (aT : Int) (r : Bool) (h : iS a0 ad aT = some r) : aU aN 49 [.int .i64 a0, .int .i64 ad, .int .i64 aT] (.bool r) [] := by
 refine aU.cQ (fx := [0, 1, 2]) cR [.tmp 6] [(0, .int .i64 a0), (1, .int .i64 ad), (2, .int .i64 aT)] Try.func49 rfl rfl U3 (Nat.le_of_ble_eq_true rfl) rfl rfl (fun cO aI cM => ?_)
 refine ws _ ?_
 refine c5 (b3 [(6, .bool ((decide (ad ≤ a0)) && (decide (a0 ≤ aT))))] (fun P aq => ?_) ?_)
 ·rcases Bool.eq_false_or_eq_true (decide (ad ≤ a0)) with eR | eR
  ·simp only [aQ.down, simprocAttr, eR]
   (try simp only [bw.down, simprocAttr, eR] at aq ⊢); exact aq
  ·simp only [aQ.down, simprocAttr, eR]
   (try simp only [bw.down, simprocAttr, eR] at aq ⊢); exact aq
 exact a1 (aI _ (.inl (a2 [.bool ((decide (ad ≤ a0)) && (decide (a0 ≤ aT)))] rfl (by cases aS h; rfl) (by decide) ba)))
theorem ad1 (a0 : aV) (r : Bool) (h : BB a0 = some r) : aU aN 75 [bk a0] (.bool r) [] := by
 refine aU.cQ (fx := [0]) cR [.tmp 2] [(0, bk a0)] Try.func75 rfl rfl U6 (Nat.le_of_ble_eq_true rfl) rfl rfl (fun cO aI cM => ?_)
 refine ws _ ?_
 obtain ⟨ar, a_, h⟩ := aW h
 refine ga (ja a0.cS 0 3 _ a_) _ ?_
 exact a1 (aI _ (.inl (a2 [.bool (!ar)] rfl (by cases aS h; rfl) (by decide) ba)))
theorem ad2 (a0 : List aV) (r : Int) (h : BC a0 = some r) : aU aN 77 [.slice (a0.map bk), .fn 75 []] (.int .i64 r) [] := by
 refine aU.cQ (fx := [0, 1]) cR [.tmp 4] [(0, .slice (a0.map bk)), (1, .fn 75 [])] Try.func77 rfl rfl Vg (Nat.le_of_ble_eq_true rfl) rfl rfl (fun cO aI cM => ?_)
 refine ws _ ?_
 refine a7 (fun e5 cA bF aC => ?_)
 refine ws _ ?_
 refine cc (fun e9 fB cz bY bM => ?_)
 have hE : ∀ (n : Nat) (eL : Int), sk a0 n eL = some r → dY aN Hs e9 (R [(0, .slice (a0.map bk)), (1, .fn 75 []), (7, .int .i64 (a0.length : Int)), (8, .int .i64 eL)]) := by
  intro dj
  induction dj with
  | zero => intro eL h; cases (show none = some r from h)
  | succ dj hn =>
   intro eL h
   replace h : xL (sk a0 dj) a0 eL = some r := h
   refine eE (fun iC eS e4 bP => ?_)
   refine ws _ ?_
   refine a7 (fun jq fA fO d_ => ?_)
   rcases a8 h with ⟨bD, h⟩ | ⟨bD, h⟩
   ·refine bg (congrArg I.bool bD) ?_
    simp only [bD, Bool.not_true, Bool.not_false]
    refine bt (fA _ (.inl ?_))
    refine a7 (fun fG dD dF dP => ?_)
    refine cc (fun gH dk dO cL dK => ?_)
    refine ws _ ?_
    obtain ⟨ar, eW, h⟩ := aW h
    obtain ⟨aC, gZ, h⟩ := aW h
    refine j_ eW (ad1 ar _ gZ) _ ?_
    rcases a8 h with ⟨dL, h⟩ | ⟨dL, h⟩
    ·refine bg (congrArg I.bool dL) ?_
     simp only [dL, Bool.not_true, Bool.not_false]
     refine ws _ ?_
     exact a1 (dO _ (dF _ (e4 _ (cz _ (bF _ (aI _ (.inl (a2 [.int .i64 eL] rfl (by cases aS h; rfl) (by decide) ba))))))))
    ·refine bm (congrArg I.bool dL) ?_
     simp only [dL, Bool.not_true, Bool.not_false]
     refine bt (dk _ (dD _ (.inl ?_)))
     refine wr _ ?_
     exact eS _ (.inr ⟨_, bJ rfl, hn (IntKind.i64.wrap (eL + 1)) h⟩)
   ·refine bm (congrArg I.bool bD) ?_
    simp only [bD, Bool.not_true, Bool.not_false]
    refine ek (d_ 0 _ (bP 0 _ (bY _ (cA _ (.inl ?_)))))
    refine ws _ ?_
    exact a1 (aI _ (.inl (a2 [.int .i64 (-1)] rfl (by cases aS h; rfl) (by decide) ba)))
 obtain ⟨n, h⟩ := ep h
 exact eD (.inr ⟨_, bJ rfl, hE n 0 h⟩)
theorem ad3 (a0 : List aV) (r : Bool) (h : BD a0 = some r) : aU aN 74 [.slice (a0.map bk), .fn 75 []] (.bool r) [] := by
 refine aU.cQ (fx := [0, 1]) cR [.tmp 4] [(0, .slice (a0.map bk)), (1, .fn 75 [])] Try.func74 rfl rfl Vj (Nat.le_of_ble_eq_true rfl) rfl rfl (fun cO aI cM => ?_)
 refine ws _ ?_
 obtain ⟨ar, a_, h⟩ := aW h
 refine ga (ad2 a0 _ a_) _ ?_
 exact a1 (aI _ (.inl (a2 [.bool (decide (0 ≤ ar))] rfl (by cases aS h; rfl) (by decide) ba)))
theorem ad4 (a0 : List aV) (r : Bool) (h : xM a0 = some r) : aU aN 50 [.slice (a0.map bk)] (.bool r) [] := by
 refine aU.cQ (fx := [0]) cR [.tmp 2] [(0, .slice (a0.map bk))] Try.func50 rfl rfl Vm (Nat.le_of_ble_eq_true rfl) rfl rfl (fun cO aI cM => ?_)
 refine ws _ ?_
 obtain ⟨ar, a_, h⟩ := aW h
 refine ga (ad3 a0 _ a_) _ ?_
 exact a1 (aI _ (.inl (a2 [.bool (!ar)] rfl (by cases aS h; rfl) (by decide) ba)))
theorem ad5 (a0 : UInt8) (r : Bool) (h : BE a0 = some r) : aU aN 76 [.int .u8 (a0.toNat : Int)] (.bool r) [] := by
 refine aU.cQ (fx := [0]) cR [.tmp 2] [(0, .int .u8 (a0.toNat : Int))] Try.func76 rfl rfl Vp (Nat.le_of_ble_eq_true rfl) rfl rfl (fun cO aI cM => ?_)
 refine ws _ ?_
 refine c5 (b3 [(2, .bool ((decide (48 ≤ (a0.toNat : Int))) && (decide ((a0.toNat : Int) ≤ 57))))] (fun P aq => ?_) ?_)
 ·rcases Bool.eq_false_or_eq_true (decide (48 ≤ (a0.toNat : Int))) with eR | eR
  ·simp only [aQ.down, simprocAttr, eR]
   (try simp only [bw.down, simprocAttr, eR] at aq ⊢); exact aq
  ·simp only [aQ.down, simprocAttr, eR]
   (try simp only [bw.down, simprocAttr, eR] at aq ⊢); exact aq
 exact a1 (aI _ (.inl (a2 [.bool ((decide (48 ≤ (a0.toNat : Int))) && (decide ((a0.toNat : Int) ≤ 57)))] rfl (by cases aS h; rfl) (by decide) ba)))
set_option maxHeartbeats 600000 in
theorem yH (a0 : List UInt8) (r : Bool) (h : ux a0 = some r) : aU aN 51 [.str a0] (.bool r) [] := by
 refine aU.cQ (fx := [0]) cR [.tmp 2] [(0, .str a0)] Try.func51 rfl rfl VB (Nat.le_of_ble_eq_true rfl) rfl rfl (fun cO aI cM => ?_)
 refine ws _ ?_
 refine a7 (fun e5 cA bF aC => ?_)
 refine ws _ ?_
 refine cc (fun e9 fB cz bY bM => ?_)
 have hE : ∀ (n : Nat) (jo : Int), n2 a0 n jo = some r → dY aN Ht e9 (R [(0, .str a0), (6, .int .i64 (a0.length : Int)), (7, .int .i64 jo)]) := by
  intro dj
  induction dj with
  | zero => intro jo h; cases (show none = some r from h)
  | succ dj hn =>
   intro jo h
   replace h : uw (n2 a0 dj) a0 jo = some r := h
   refine eE (fun iC eS e4 bP => ?_)
   refine ws _ ?_
   refine a7 (fun jq fA fO d_ => ?_)
   rcases a8 h with ⟨bD, h⟩ | ⟨bD, h⟩
   ·refine bg (congrArg I.bool bD) ?_
    simp only [bD, Bool.not_true, Bool.not_false]
    refine bt (fA _ (.inl ?_))
    refine a7 (fun fG dD dF dP => ?_)
    refine cc (fun gH dk dO cL dK => ?_)
    refine ws _ ?_
    obtain ⟨ar, eW, h⟩ := aW h
    refine c5 (b3 [(0, .str a0), (3, .int .i64 jo), (4, .bool ((decide (97 ≤ (ar.toNat : Int))) && (decide ((ar.toNat : Int) ≤ 122)))), (6, .int .i64 (a0.length : Int)), (7, .int .i64 jo)] (fun P aq => ?_) ?_)
    ·rcases Bool.eq_false_or_eq_true (decide (97 ≤ (ar.toNat : Int))) with l8 | l8
     ·simp only [aQ.down, simprocAttr, fw, eW, l8]
      (try simp only [bw.down, simprocAttr, eW, l8] at aq ⊢); exact aq
     ·simp only [aQ.down, simprocAttr, fw, eW, l8]
      (try simp only [bw.down, simprocAttr, eW, l8] at aq ⊢); exact aq
    rcases a8 h with ⟨gg, h⟩ | ⟨gg, h⟩
    ·rcases a8 h with ⟨h2, h⟩ | ⟨h2, h⟩
     ·refine hZ (And.intro gg h2) _ ?_
      refine bg rfl ?_
      refine ws _ ?_
      exact a1 (dO _ (dF _ (e4 _ (cz _ (bF _ (aI _ (.inl (a2 [.bool false] rfl (by cases aS h; rfl) (by decide) ba))))))))
     ·obtain ⟨aC, iD, h⟩ := aW h
      refine c5 (b3 [(0, .str a0), (6, .int .i64 (a0.length : Int)), (7, .int .i64 jo), (32, .bool (!aC))] (fun P aq => ?_) ?_)
      ·simp only [aQ.down, simprocAttr, fw, gg, h2, eW]
       refine g5 (ad5 ar _ iD) rfl rfl rfl rfl (.inl (by rfl)) ?_
       simp only [aQ.down, simprocAttr, fw, gg, h2, eW]
       (try simp only [bw.down, simprocAttr, gg, h2, eW] at aq ⊢); exact aq
      rcases a8 h with ⟨eo, h⟩ | ⟨eo, h⟩
      ·refine bg (congrArg I.bool eo) ?_
       simp only [(dZ eo), Bool.not_true, Bool.not_false]
       refine ws _ ?_
       exact a1 (dO _ (dF _ (e4 _ (cz _ (bF _ (aI _ (.inl (a2 [.bool false] rfl (by cases aS h; rfl) (by decide) ba))))))))
      ·refine bm (congrArg I.bool eo) ?_
       simp only [(cX eo), Bool.not_true, Bool.not_false]
       refine bt (dk _ (dD _ (.inl ?_)))
       refine wr _ ?_
       exact eS _ (.inr ⟨_, bJ rfl, hn (IntKind.i64.wrap (jo + 1)) h⟩)
    ·refine hZ gg _ ?_
     refine bm rfl ?_
     refine bt (dk _ (dD _ (.inl ?_)))
     refine wr _ ?_
     exact eS _ (.inr ⟨_, bJ rfl, hn (IntKind.i64.wrap (jo + 1)) h⟩)
   ·refine bm (congrArg I.bool bD) ?_
    simp only [bD, Bool.not_true, Bool.not_false]
    refine ek (d_ 0 _ (bP 0 _ (bY _ (cA _ (.inl ?_)))))
    refine c5 (b3 [(2, .bool ((decide (1 ≤ (a0.length : Int))) && (decide ((a0.length : Int) ≤ 10))))] (fun P aq => ?_) ?_)
    ·rcases Bool.eq_false_or_eq_true (decide (1 ≤ (a0.length : Int))) with qE | qE
     ·simp only [aQ.down, simprocAttr, fw, qE]
      (try simp only [bw.down, simprocAttr, qE] at aq ⊢); exact aq
     ·simp only [aQ.down, simprocAttr, fw, qE]
      (try simp only [bw.down, simprocAttr, qE] at aq ⊢); exact aq
    exact a1 (aI _ (.inl (a2 [.bool ((decide (1 ≤ (a0.length : Int))) && (decide ((a0.length : Int) ≤ 10)))] rfl (by cases aS h; rfl) (by decide) ba)))
 obtain ⟨n, h⟩ := ep h
 exact eD (.inr ⟨_, bJ rfl, hE n 0 h⟩)
theorem ad6 (a0 : aV) (ad : List UInt8) (r : Bool) (h : BF a0 ad = some r) : aU aN 78 [bk a0, .ref (.str ad)] (.bool r) [] := by
 refine aU.cQ (fx := [0, 1]) cR [.tmp 3] [(0, bk a0), (1, .ref (.str ad))] Try.func78 rfl rfl VE (Nat.le_of_ble_eq_true rfl) rfl rfl (fun cO aI cM => ?_)
 refine ws _ ?_
 refine ws _ ?_
 exact a1 (aI _ (.inl (a2 [.bool (a0.Name == ad)] rfl (by cases aS h; rfl) (by decide) ba)))
theorem ad7 (a0 : List aV) (ad : List UInt8) (r : Int) (h : BG a0 ad = some r) : aU aN 77 [.slice (a0.map bk), .fn 78 [.ref (.str ad)]] (.int .i64 r) [] := by
 refine aU.cQ (fx := [0, 1]) cR [.tmp 4] [(0, .slice (a0.map bk)), (1, .fn 78 [.ref (.str ad)])] Try.func77 rfl rfl VP (Nat.le_of_ble_eq_true rfl) rfl rfl (fun cO aI cM => ?_)
 refine ws _ ?_
 refine a7 (fun e5 cA bF aC => ?_)
 refine ws _ ?_
 refine cc (fun e9 fB cz bY bM => ?_)
 have hE : ∀ (n : Nat) (eL : Int), sl a0 ad n eL = some r → dY aN Hu e9 (R [(0, .slice (a0.map bk)), (1, .fn 78 [.ref (.str ad)]), (7, .int .i64 (a0.length : Int)), (8, .int .i64 eL)]) := by
  intro dj
  induction dj with
  | zero => intro eL h; cases (show none = some r from h)
  | succ dj hn =>
   intro eL h
   replace h : xN (sl a0 ad dj) a0 ad eL = some r := h
   refine eE (fun iC eS e4 bP => ?_)
   refine ws _ ?_
   refine a7 (fun jq fA fO d_ => ?_)
   rcases a8 h with ⟨bD, h⟩ | ⟨bD, h⟩
   ·refine bg (congrArg I.bool bD) ?_
    simp only [bD, Bool.not_true, Bool.not_false]
    refine bt (fA _ (.inl ?_))
    refine a7 (fun fG dD dF dP => ?_)
    refine cc (fun gH dk dO cL dK => ?_)
    refine ws _ ?_
    obtain ⟨ar, eW, h⟩ := aW h
    obtain ⟨aC, gZ, h⟩ := aW h
    refine j_ eW (ad6 ar ad _ gZ) _ ?_
    rcases a8 h with ⟨dL, h⟩ | ⟨dL, h⟩
    ·refine bg (congrArg I.bool dL) ?_
     simp only [dL, Bool.not_true, Bool.not_false]
     refine ws _ ?_
     exact a1 (dO _ (dF _ (e4 _ (cz _ (bF _ (aI _ (.inl (a2 [.int .i64 eL] rfl (by cases aS h; rfl) (by decide) ba))))))))
    ·refine bm (congrArg I.bool dL) ?_
     simp only [dL, Bool.not_true, Bool.not_false]
     refine bt (dk _ (dD _ (.inl ?_)))
     refine wr _ ?_
     exact eS _ (.inr ⟨_, bJ rfl, hn (IntKind.i64.wrap (eL + 1)) h⟩)
   ·refine bm (congrArg I.bool bD) ?_
    simp only [bD, Bool.not_true, Bool.not_false]
    refine ek (d_ 0 _ (bP 0 _ (bY _ (cA _ (.inl ?_)))))
    refine ws _ ?_
    exact a1 (aI _ (.inl (a2 [.int .i64 (-1)] rfl (by cases aS h; rfl) (by decide) ba)))
 obtain ⟨n, h⟩ := ep h
 exact eD (.inr ⟨_, bJ rfl, hE n 0 h⟩)
theorem ad8 (a0 : List aV) (ad : List UInt8) (r : Int) (h : xO a0 ad = some r) : aU aN 52 [.slice (a0.map bk), .str ad] (.int .i64 r) [] := by
 refine aU.cQ (fx := [0, 1]) cR [.tmp 4] [(0, .slice (a0.map bk)), (1, .str ad)] Try.func52 rfl rfl uU (Nat.le_of_ble_eq_true rfl) rfl rfl (fun cO aI cM => ?_)
 refine ws _ ?_
 obtain ⟨ar, a_, h⟩ := aW h
 refine c5 (b3 [(4, .int .i64 ar)] (fun P aq => ?_) ?_)
 ·simp only [aQ.down, simprocAttr, gl.down]
  refine fv (ad7 a0 ad _ a_) rfl rfl (by simp only [aQ.down, simprocAttr, gl.down, hL, hM, hN, eg] <;> rfl) rfl (.inr (by rfl)) ?_
  simp only [aQ.down, simprocAttr, gl.down]
  (try simp only [bw.down, simprocAttr, gl.down] at aq ⊢); exact aq
 exact a1 (aI _ (.inl (a2 [.int .i64 ar] rfl (by cases aS h; rfl) (by decide) ba)))
theorem Ia (a0 : bn) (r : Int) (h : uz a0 = some r) : aU aN 104 [bR a0] (.int .i64 r) [] := by
 refine aU.cQ (fx := [0]) cR [.tmp 2] [(0, bR a0)] Try.func104 rfl rfl V4 (Nat.le_of_ble_eq_true rfl) rfl rfl (fun cO aI cM => ?_)
 refine ws _ ?_
 refine a7 (fun e5 cA bF aC => ?_)
 refine ws _ ?_
 refine cc (fun e9 fB cz bY bM => ?_)
 have qL : ∀ (eK : Bool), uy a0 eK = some r → cG aN Hv e9 (R [(4, .int .i64 a0.Kind), (5, .bool eK)]) := by
  intro eK h
  rcases a8 h with ⟨cI, h⟩ | ⟨cI, h⟩
  ·refine bg (congrArg I.bool cI) ?_
   simp only [cI, Bool.not_true, Bool.not_false]
   refine ws _ ?_
   exact a1 (cz _ (bF _ (aI _ (.inl (a2 [.int .i64 1] rfl (by cases aS h; rfl) (by decide) ba)))))
  ·refine bm (congrArg I.bool cI) ?_
   simp only [cI, Bool.not_true, Bool.not_false]
   refine ws _ ?_
   rcases a8 h with ⟨eh, h⟩ | ⟨eh, h⟩
   ·refine bg (congrArg I.bool eh) ?_
    simp only [eh, Bool.not_true, Bool.not_false]
    refine ws _ ?_
    exact a1 (cz _ (bF _ (aI _ (.inl (a2 [.int .i64 2] rfl (by cases aS h; rfl) (by decide) ba)))))
   ·refine bm (congrArg I.bool eh) ?_
    simp only [eh, Bool.not_true, Bool.not_false]
    refine bt (fB _ (cA _ (.inl ?_)))
    refine ws _ ?_
    exact a1 (aI _ (.inl (a2 [.int .i64 0] rfl (by cases aS h; rfl) (by decide) ba)))
 refine a7 (fun iC eS e4 bP => ?_)
 refine ws _ ?_
 rcases a8 h with ⟨c6, h⟩ | ⟨c6, h⟩
 ·refine bg (congrArg I.bool c6) ?_
  simp only [c6, Bool.not_true, Bool.not_false]
  exact bt (eS _ (.inr ⟨_, bJ rfl, qL true h⟩))
 ·refine bm (congrArg I.bool c6) ?_
  simp only [c6, Bool.not_true, Bool.not_false]
  refine ws _ ?_
  rcases a8 h with ⟨dL, h⟩ | ⟨dL, h⟩
  ·refine bg (congrArg I.bool dL) ?_
   simp only [dL, Bool.not_true, Bool.not_false]
   exact bt (eS _ (.inr ⟨_, bJ rfl, qL true h⟩))
  ·refine bm (congrArg I.bool dL) ?_
   simp only [dL, Bool.not_true, Bool.not_false]
   refine wr _ ?_
   exact eS _ (.inr ⟨_, bJ rfl, qL (a0.Kind == 4) h⟩)
theorem ad9 (a0 : aV) (ad : Int) (r : Int) (h : xQ a0 ad = some r) : aU aN 79 [bk a0, .int .i64 ad] (.int .i64 r) [] := by
 refine aU.cQ (fx := [0]) cR [.tmp 4] [(0, bk a0), (1, .int .i64 ad)] Try.func79 rfl rfl We (Nat.le_of_ble_eq_true rfl) rfl rfl (fun cO aI cM => ?_)
 refine ws _ ?_
 refine a7 (fun e5 cA bF aC => ?_)
 refine ws _ ?_
 refine cc (fun e9 fB cz bY bM => ?_)
 have hE : ∀ (n : Nat) (bj : Int) (aR : Int), qn a0 n bj aR = some r → dY aN Hw e9 (R [(1, .int .i64 bj), (2, .bd (bk a0)), (5, .int .i64 aR)]) := by
  intro dj
  induction dj with
  | zero => intro bj aR h; cases (show none = some r from h)
  | succ dj hn =>
   intro bj aR h
   replace h : xP (qn a0 dj) a0 bj aR = some r := h
   refine eE (fun iC eS e4 bP => ?_)
   refine a7 (fun gY e_ ft cN => ?_)
   refine ws _ ?_
   rcases a8 h with ⟨bD, h⟩ | ⟨bD, h⟩
   ·refine bg (congrArg I.bool bD) ?_
    simp only [bD, Bool.not_true, Bool.not_false]
    refine bt (e_ _ (.inl ?_))
    refine a7 (fun fG dD dF dP => ?_)
    refine cc (fun gH dk dO cL dK => ?_)
    refine a7 (fun kW hk kc en => ?_)
    refine ws _ ?_
    rcases a8 h with ⟨c6, h⟩ | ⟨c6, h⟩
    ·refine bg (congrArg I.bool c6) ?_
     simp only [c6, Bool.not_true, Bool.not_false]
     refine ws _ ?_
     exact a1 (kc _ (dO _ (dF _ (e4 _ (cz _ (bF _ (aI _ (.inl (a2 [.int .i64 (-1)] rfl (by cases aS h; rfl) (by decide) ba)))))))))
    ·refine bm (congrArg I.bool c6) ?_
     simp only [c6, Bool.not_true, Bool.not_false]
     refine bt (hk _ (.inl ?_))
     obtain ⟨ar, dm, h⟩ := aW h
     obtain ⟨aC, gI, h⟩ := aW h
     refine BZ dm (Ia ar _ gI) _ ?_
     refine dk _ (dD _ (.inl ?_))
     refine wr _ ?_
     exact eS _ (.inr ⟨_, bJ rfl, hn (IntKind.i64.wrap (bj + 1)) (IntKind.i64.wrap (aR + (IntKind.i64.wrap (aC - 1)))) h⟩)
   ·refine bm (congrArg I.bool bD) ?_
    simp only [bD, Bool.not_true, Bool.not_false]
    refine ek (cN 0 _ (bP 0 _ (bY _ (cA _ (.inl ?_)))))
    refine ws _ ?_
    exact a1 (aI _ (.inl (a2 [.int .i64 bj] rfl (by cases aS h; rfl) (by decide) ba)))
 obtain ⟨n, h⟩ := ep h
 exact eD (.inr ⟨_, bJ rfl, hE n ad 1 h⟩)
theorem ad_ (j8 : Int → b0 → (List b0) → aV → Option (Int × (List b0))) (aea : ∀ (a0 : Int) (ad : b0) (aT : List b0) (a3 : aV) (r : Int × (List b0)), j8 a0 ad aT a3 = some r → ku aN 105 2 4 [.int .i64 a0, c0 ad, .bd (.aE 2 (aT.map c0)), .ref (bk a3), .ref (.hole)] (.int .i64 r.1) [.hole, .hole, .bd (.aE 2 (r.2.map c0)), .hole, .hole]) (a0 : Int) (ad : b0) (aT : List b0) (a3 : aV) (r : Int × (List b0)) (h : BH j8 a0 ad aT a3 = some r) : ku aN 105 2 4 [.int .i64 a0, c0 ad, .bd (.aE 2 (aT.map c0)), .ref (bk a3), .ref (.hole)] (.int .i64 r.1) [.hole, .hole, .bd (.aE 2 (r.2.map c0)), .hole, .hole] := by
 refine ku.cQ (fx := [0, 1, 2, 3, 4]) cR [.tmp 7] [(0, .int .i64 a0), (1, c0 ad), (2, .bd (.aE 2 (aT.map c0))), (3, .ref (bk a3)), (4, .ref (.hole))] Try.func105 rfl rfl Ws (Nat.le_of_ble_eq_true rfl) Wr rfl rfl (fun cO aI cM => ?_)
 refine ws _ ?_
 obtain ⟨ar, a_, h⟩ := aW h
 refine c5 (b3 [(0, .int .i64 a0), (2, .bd (.aE 2 ((List.set aT (Int.toNat a0) ad).map c0))), (3, .ref (bk a3)), (4, .ref (.hole)), (6, .bd (c0 ad))] (fun P aq => ?_) ?_)
 ·simp only [aQ.down, simprocAttr, eZ, oV, tV, oX, bk, bR, bK, c0, dw, a_, df a_, e6, dT]
  (try simp only [bw.down, simprocAttr, lx.down, a_, df a_, e6, dT] at aq ⊢); exact aq
 obtain ⟨aC, c4, h⟩ := aW h
 refine hZ c4 [(0, .int .i64 a0), (2, .bd (.aE 2 ((List.set aT (Int.toNat a0) ad).map c0))), (3, .ref (bk a3)), (4, .ref (.hole)), (6, .bd (c0 ad)), (8, .bd (bR aC))] ?_
 refine hZ (show ∀ s, eQ aN s 114 [(0, .int .i64 ad.scope), (1, .bool (aC.Kind == 1))] = some (.agg [.int .i64 ad.scope, .bool (aC.Kind == 1)], s) from fun s => by kernel_rfl) [(0, .int .i64 a0), (2, .bd (.aE 2 ((List.set aT (Int.toNat a0) ad).map c0))), (3, .ref (bk a3)), (4, .ref (.hole)), (8, .bd (bR aC)), (9, .bd (.agg [.int .i64 ad.scope, .bool (aC.Kind == 1)]))] ?_
 have Ib : ∀ (i6 : Int), xS j8 a0 ad aT a3 aC i6 = some r → cG aN Hy cO (R [(0, .int .i64 a0), (2, .bd (.aE 2 ((List.set aT (Int.toNat a0) ad).map c0))), (3, .ref (bk a3)), (4, .ref (.hole)), (8, .bd (bR aC)), (9, .bd (.agg [.int .i64 i6, .bool (aC.Kind == 1)]))]) := by
  intro i6 h
  refine ws [(2, .bd (.aE 2 ((List.set aT (Int.toNat a0) ad).map c0))), (3, .ref (bk a3)), (4, .ref (.hole)), (8, .bd (bR aC)), (9, .bd (.agg [.int .i64 i6, .bool (aC.Kind == 1)])), (10, .int .i64 (IntKind.i64.wrap (a0 + 1)))] ?_
  refine a7 (fun fG dD dF dP => ?_)
  obtain ⟨aX, mr, h⟩ := aW h
  refine ga (Ia aC _ mr) [(2, .bd (.aE 2 ((List.set aT (Int.toNat a0) ad).map c0))), (3, .ref (bk a3)), (4, .ref (.hole)), (9, .bd (.agg [.int .i64 i6, .bool (aC.Kind == 1)])), (10, .int .i64 (IntKind.i64.wrap (a0 + 1))), (36, .int .i64 aX), (37, .int .i64 0)] ?_
  refine cc (fun jr g9 i9 dr ij => ?_)
  have aeb : ∀ (n : Nat) (mQ : List b0) (lr : Int) (l6 : Int), o4 j8 a3 i6 aC aX n mQ lr l6 = some r → dY aN Hx jr (R [(2, .bd (.aE 2 (mQ.map c0))), (3, .ref (bk a3)), (4, .ref (.hole)), (9, .bd (.agg [.int .i64 i6, .bool (aC.Kind == 1)])), (10, .int .i64 lr), (36, .int .i64 aX), (37, .int .i64 l6)]) := by
   intro Cp
   induction Cp with
   | zero => intro mQ lr l6 h; cases (show none = some r from h)
   | succ Cp aec =>
    intro mQ lr l6 h
    replace h : xR j8 (o4 j8 a3 i6 aC aX Cp) a3 i6 aC aX mQ lr l6 = some r := h
    refine eE (fun mX iE js i7 => ?_)
    refine ws _ ?_
    refine a7 (fun mT hO h1 iA => ?_)
    rcases a8 h with ⟨gg, h⟩ | ⟨gg, h⟩
    ·refine bg (congrArg I.bool gg) ?_
     simp only [gg, Bool.not_true, Bool.not_false]
     refine bt (hO _ (.inl ?_))
     refine a7 (fun o7 jS kY n5 => ?_)
     refine cc (fun aed Cq yI dG aee => ?_)
     obtain ⟨bM, nu, h⟩ := aW h
     refine NB [(2, .bd (.aE 2 (bM.2.map c0))), (3, .ref (bk a3)), (4, .ref (.hole)), (9, .bd (.agg [.int .i64 i6, .bool (aC.Kind == 1)])), (10, .int .i64 bM.1), (36, .int .i64 aX), (37, .int .i64 l6)] (fun P aq => ?_) ?_
     ·simp only [aQ.down, simprocAttr, B0.down, mM]
      refine F7 [⟨.int .i64 lr, false, _, .hole⟩, ⟨.agg [.int .i64 i6, .bool (aC.Kind == 1)], false, _, .hole⟩, ⟨.h 2 [], true, _, _⟩, ⟨.ref (bk a3), false, _, .hole⟩, ⟨.ref (.hole), false, _, .hole⟩] (aea lr (b0.mk i6 (aC.Kind == 1)) mQ a3 _ nu) rfl (by simp only [aQ.down, simprocAttr, B0.down, mM, p9, nU, nV, hL, hM, hN, eg, or_true, true_or, @eY _ c0 c0 (fun _ => GY _)]) rfl rfl (.inl rfl) ?_
      simp only [aQ.down, simprocAttr, B0.down, mM, nW]
      (try simp only [bw.down, simprocAttr, lx.down, mM] at aq ⊢); exact aq
     refine Cq _ (jS _ (.inl ?_))
     refine wr _ ?_
     exact iE _ (.inr ⟨_, bJ rfl, aec bM.2 bM.1 (IntKind.i64.wrap (l6 + 1)) h⟩)
    ·refine bm (congrArg I.bool gg) ?_
     simp only [gg, Bool.not_true, Bool.not_false]
     refine ek (iA 0 _ (i7 0 _ (dr _ (dD _ (.inl ?_)))))
     refine ws _ ?_
     exact a1 (aI _ (.inl (a2 [.int .i64 lr] rfl (by cases aS h; rfl) (by decide) (r1 (nX (nX (r2 (by cases aS h; rfl) rfl rfl rfl (nX (nX (r3))))))))))
  obtain ⟨n, h⟩ := ep h
  exact eD (.inr ⟨_, bJ rfl, aeb n (List.set aT (Int.toNat a0) ad) (IntKind.i64.wrap (a0 + 1)) 0 h⟩)
 refine a7 (fun jq fA fO d_ => ?_)
 refine ws [(0, .int .i64 a0), (2, .bd (.aE 2 ((List.set aT (Int.toNat a0) ad).map c0))), (3, .ref (bk a3)), (4, .ref (.hole)), (8, .bd (bR aC)), (9, .bd (.agg [.int .i64 ad.scope, .bool (aC.Kind == 1)])), (28, .bool (aC.Kind == 4))] ?_
 rcases a8 h with ⟨gf, h⟩ | ⟨gf, h⟩
 ·refine bg (congrArg I.bool gf) ?_
  simp only [gf, Bool.not_true, Bool.not_false]
  refine wr [(0, .int .i64 a0), (2, .bd (.aE 2 ((List.set aT (Int.toNat a0) ad).map c0))), (3, .ref (bk a3)), (4, .ref (.hole)), (8, .bd (bR aC)), (9, .bd (.agg [.int .i64 (IntKind.i64.wrap (ad.scope + 1)), .bool (aC.Kind == 1)]))] ?_
  exact fA _ (.inr ⟨_, bJ rfl, Ib (IntKind.i64.wrap (ad.scope + 1)) h⟩)
 ·refine bm (congrArg I.bool gf) ?_
  simp only [gf, Bool.not_true, Bool.not_false]
  exact bt (fA _ (.inr ⟨_, bJ rfl, Ib ad.scope h⟩))
theorem aef : ∀ (n : Nat) (a0 : Int) (ad : b0) (aT : List b0) (a3 : aV) (r : Int × (List b0)), qo n a0 ad aT a3 = some r → ku aN 105 2 4 [.int .i64 a0, c0 ad, .bd (.aE 2 (aT.map c0)), .ref (bk a3), .ref (.hole)] (.int .i64 r.1) [.hole, .hole, .bd (.aE 2 (r.2.map c0)), .hole, .hole] := by
 intro n
 induction n with
 | zero => intro a0 ad aT a3 r h; cases (show none = some r from h)
 | succ n ih => intro a0 ad aT a3 r h; exact ad_ (qo n) ih a0 ad aT a3 r h
theorem aeg (a0 : Int) (ad : b0) (aT : List b0) (a3 : aV) (r : Int × (List b0)) (h : xT a0 ad aT a3 = some r) : ku aN 105 2 4 [.int .i64 a0, c0 ad, .bd (.aE 2 (aT.map c0)), .ref (bk a3), .ref (.hole)] (.int .i64 r.1) [.hole, .hole, .bd (.aE 2 (r.2.map c0)), .hole, .hole] := by
 obtain ⟨n, h⟩ := ep h
 exact aef n a0 ad aT a3 r h
theorem aeh (a0 : aV) (r : (List b0)) (h : xU a0 = some r) : aU aN 80 [bk a0] (.aE 2 (r.map c0)) [] := by
 refine aU.Ol (fx := [0]) cR [.tmp 2] [(0, bk a0)] Try.func80 rfl rfl Wx (Nat.le_of_ble_eq_true rfl) Ww rfl rfl (fun cO aI cM => ?_)
 refine ws _ ?_
 obtain ⟨zS, a_, h⟩ := aW h
 refine c5 (b3 [(1, .bd (bk a0)), (3, .bd (.aE 2 ((List.replicate (Int.toNat (a0.Body.length : Int)) (b0.mk 0 false)).map c0)))] (fun P aq => ?_) ?_)
 ·simp only [aQ.down, simprocAttr, eZ, oV, fw, j6, mO, fU, hi, fy, tV, oX, fh, bk, bR, bK, c0, dw, (gB a_).1, (gB a_).2.1, (gB a_).2.2, eG, List.map_replicate, -Int.reduceNatCast']
  (try simp only [bw.down, simprocAttr, lx.down, (gB a_).1, (gB a_).2.1, (gB a_).2.2, eG, List.map_replicate, -Int.reduceNatCast'] at aq ⊢); exact aq
 obtain ⟨ar, c4, h⟩ := aW h
 refine Oi [(3, .bd (.aE 2 (ar.2.map c0)))] (fun P aq => ?_) ?_
 ·simp only [aQ.down, simprocAttr, B1.down, (show ∀ s, eQ aN s 114 [(0, .int .i64 a0.cS)] = some (.agg [.int .i64 a0.cS, .bool false], s) from fun s => by kernel_rfl), mM]
  refine F7 [⟨.int .i64 0, false, _, .hole⟩, ⟨.agg [.int .i64 a0.cS, .bool false], false, _, .hole⟩, ⟨.h 3 [], true, _, _⟩, ⟨.h 1 [], false, _, .hole⟩, ⟨.ref (.hole), false, _, .hole⟩] (aeg 0 (b0.mk a0.cS false) (List.replicate (Int.toNat (a0.Body.length : Int)) (b0.mk 0 false)) a0 _ c4) rfl (by simp only [aQ.down, simprocAttr, B1.down, (show ∀ s, eQ aN s 114 [(0, .int .i64 a0.cS)] = some (.agg [.int .i64 a0.cS, .bool false], s) from fun s => by kernel_rfl), mM, p9, nU, nV, hL, hM, hN, eg, or_true, true_or, @eY _ c0 c0 (fun _ => GY _), @eY _ bR bR (fun _ => BT _)]) rfl rfl ((.inr (by simp only [p_, I.c8, I.h_, Bool.and_self, @oK _ c0 (fun _ => OH _)]))) ?_
  simp only [aQ.down, simprocAttr, B1.down, (show ∀ s, eQ aN s 114 [(0, .int .i64 a0.cS)] = some (.agg [.int .i64 a0.cS, .bool false], s) from fun s => by kernel_rfl), mM, nW]
  (try simp only [bw.down, simprocAttr, lx.down, (show ∀ s, eQ aN s 114 [(0, .int .i64 a0.cS)] = some (.agg [.int .i64 a0.cS, .bool false], s) from fun s => by kernel_rfl), mM] at aq ⊢); exact aq
 refine ws _ ?_
 exact a1 (aI _ (.inl (a2 [.aE 2 (ar.2.map c0)] rfl (by cases aS h; rfl) (by decide) ba)))
set_option maxHeartbeats 4600000 in
theorem aei (a0 : bn) (r : Bool) (h : BI a0 = some r) : aU aN 106 [bR a0] (.bool r) [] := by
 refine aU.cQ (fx := [0]) cR [.tmp 2] [(0, bR a0)] Try.func106 rfl rfl WC (Nat.le_of_ble_eq_true rfl) rfl rfl (fun cO aI cM => ?_)
 refine ws _ ?_
 refine c5 (b3 [(1, .bd (bR a0)), (3, .bool ((a0.Kind == 4) || (a0.Kind == 5)))] (fun P aq => ?_) ?_)
 ·rcases Bool.eq_false_or_eq_true (a0.Kind == 4) with eR | eR
  ·simp only [aQ.down, simprocAttr, l9.down, eR]
   (try simp only [bw.down, simprocAttr, kV.down, eR] at aq ⊢); exact aq
  ·simp only [aQ.down, simprocAttr, l9.down, eR]
   (try simp only [bw.down, simprocAttr, kV.down, eR] at aq ⊢); exact aq
 refine c5 (b3 [(1, .bd (bR a0)), (3, .bool ((a0.Kind == 4) || (a0.Kind == 5))), (4, .bool (((a0.Kind == 1) || (a0.Kind == 3)) || (a0.Kind == 5)))] (fun P aq => ?_) ?_)
 ·(rcases Bool.eq_false_or_eq_true (a0.Kind == 1) with uT | uT) <;> (rcases Bool.eq_false_or_eq_true (a0.Kind == 3) with Cr | Cr) <;>
   (simp only [aQ.down, simprocAttr, l9.down, uT, Cr]
    (try simp only [bw.down, simprocAttr, kV.down, uT, Cr] at aq ⊢); exact aq)
 obtain ⟨ar, jg, h⟩ := aW h
 refine c5 (b3 [(2, .bool (((ar && (((a0.Kind == 4) || (a0.Kind == 5)) || (a0.Number == 0))) && ((a0.Kind == 1) || (a0.Name == ([] : List UInt8)))) && ((((a0.Kind == 1) || (a0.Kind == 3)) || (a0.Kind == 5)) || ((a0.b4.length : Int) == 0))))] (fun P aq => ?_) ?_)
 ·(rcases Bool.eq_false_or_eq_true (ar) with ma | ma) <;> (rcases Bool.eq_false_or_eq_true (a0.Kind == 4) with nr | nr) <;> (rcases Bool.eq_false_or_eq_true (a0.Kind == 5) with su | su) <;> (rcases Bool.eq_false_or_eq_true (a0.Number == 0) with yJ | yJ) <;> (rcases Bool.eq_false_or_eq_true (a0.Kind == 1) with yK | yK) <;> (rcases Bool.eq_false_or_eq_true (a0.Name == ([] : List UInt8)) with l8 | l8) <;> (rcases Bool.eq_false_or_eq_true (a0.Kind == 3) with ss | ss) <;>
   (simp only [aQ.down, simprocAttr, l9.down, ma, nr, su, yJ, yK, l8, ss]
    refine fv (ja a0.Kind 0 5 _ jg) rfl rfl rfl rfl (.inl (by rfl)) ?_
    simp only [aQ.down, simprocAttr, l9.down, ma, nr, su, yJ, yK, l8, ss]
    (try simp only [bw.down, simprocAttr, kV.down, ma, nr, su, yJ, yK, l8, ss] at aq ⊢); exact aq)
 exact a1 (aI _ (.inl (a2 [.bool (((ar && (((a0.Kind == 4) || (a0.Kind == 5)) || (a0.Number == 0))) && ((a0.Kind == 1) || (a0.Name == ([] : List UInt8)))) && ((((a0.Kind == 1) || (a0.Kind == 3)) || (a0.Kind == 5)) || ((a0.b4.length : Int) == 0)))] rfl (by cases aS h; rfl) (by decide) ba)))
theorem aej (a0 : List UInt8) (r : Bool) (h : xV a0 = some r) : aU aN 107 [.str a0] (.bool r) [] := by
 refine aU.cQ (fx := [0]) cR [.tmp 2] [(0, .str a0)] Try.func107 rfl rfl WG (Nat.le_of_ble_eq_true rfl) rfl rfl (fun cO aI cM => ?_)
 refine ws _ ?_
 obtain ⟨ar, a_, h⟩ := aW h
 refine c5 (b3 [(2, .bool (ar && (!(a0 == ([116, 97, 117] : List UInt8)))))] (fun P aq => ?_) ?_)
 ·rcases Bool.eq_false_or_eq_true (ar) with h9 | h9
  ·simp only [aQ.down, simprocAttr, h9]
   refine fv (yH a0 _ a_) rfl rfl rfl rfl (.inl (by rfl)) ?_
   simp only [aQ.down, simprocAttr, h9]
   (try simp only [bw.down, simprocAttr, h9] at aq ⊢); exact aq
  ·simp only [aQ.down, simprocAttr, h9]
   refine fv (yH a0 _ a_) rfl rfl rfl rfl (.inl (by rfl)) ?_
   simp only [aQ.down, simprocAttr, h9]
   (try simp only [bw.down, simprocAttr, h9] at aq ⊢); exact aq
 exact a1 (aI _ (.inl (a2 [.bool (ar && (!(a0 == ([116, 97, 117] : List UInt8))))] rfl (by cases aS h; rfl) (by decide) ba)))
theorem vl (a0 : Int) (ad : Int) (r : Bool) (h : qp a0 ad = some r) : aU aN 37 [.int .i64 a0, .int .i64 ad] (.bool r) [] := by
 refine aU.cQ (fx := [0, 1]) cR [.tmp 4] [(0, .int .i64 a0), (1, .int .i64 ad)] Try.func37 rfl rfl WJ (Nat.le_of_ble_eq_true rfl) rfl rfl (fun cO aI cM => ?_)
 refine ws _ ?_
 obtain ⟨ar, a_, h⟩ := aW h
 refine ga (ja a0 0 (IntKind.i64.wrap (ad - 1)) _ a_) _ ?_
 exact a1 (aI _ (.inl (a2 [.bool ar] rfl (by cases aS h; rfl) (by decide) ba)))
theorem aek (a0 : bn) (ad : List aV) (r : Bool) (h : BJ a0 ad = some r) : aU aN 108 [bR a0, .slice (ad.map bk)] (.bool r) [] := by
 refine aU.cQ (fx := [0, 1]) cR [.tmp 4] [(0, bR a0), (1, .slice (ad.map bk))] Try.func108 rfl rfl WY (Nat.le_of_ble_eq_true rfl) rfl rfl (fun cO aI cM => ?_)
 refine ws _ ?_
 refine ws _ ?_
 refine a7 (fun ly h0 dJ aX => ?_)
 refine ws _ ?_
 refine cc (fun iC eS e4 cp bP => ?_)
 refine ws _ ?_
 rcases a8 h with ⟨i0, h⟩ | ⟨i0, h⟩
 ·refine bg (congrArg I.bool i0) ?_
  simp only [i0, Bool.not_true, Bool.not_false]
  refine c5 (b3 [(4, .bool (((a0.b4.length : Int) == 0) || ((!(a0.Name == ([116, 97, 117] : List UInt8))) && (decide ((a0.b4.length : Int) ≤ 2)))))] (fun P aq => ?_) ?_)
  ·(rcases Bool.eq_false_or_eq_true ((a0.b4.length : Int) == 0) with ma | ma) <;> (rcases Bool.eq_false_or_eq_true (a0.Name == ([116, 97, 117] : List UInt8)) with nr | nr) <;>
    (simp only [aQ.down, simprocAttr, uW.down, ma, nr]
     (try simp only [bw.down, simprocAttr, gl.down, ma, nr] at aq ⊢); exact aq)
  exact a1 (e4 _ (dJ _ (aI _ (.inl (a2 [.bool (((a0.b4.length : Int) == 0) || ((!(a0.Name == ([116, 97, 117] : List UInt8))) && (decide ((a0.b4.length : Int) ≤ 2))))] rfl (by cases aS h; rfl) (by decide) ba)))))
 ·refine bm (congrArg I.bool i0) ?_
  simp only [i0, Bool.not_true, Bool.not_false]
  refine ws _ ?_
  rcases a8 h with ⟨dr, h⟩ | ⟨dr, h⟩
  ·refine bg (congrArg I.bool dr) ?_
   simp only [dr, Bool.not_true, Bool.not_false]
   refine ws _ ?_
   exact a1 (e4 _ (dJ _ (aI _ (.inl (a2 [.bool ((a0.b4.length : Int) == 1)] rfl (by cases aS h; rfl) (by decide) ba)))))
  ·refine bm (congrArg I.bool dr) ?_
   simp only [dr, Bool.not_true, Bool.not_false]
   refine ws _ ?_
   rcases a8 h with ⟨dL, h⟩ | ⟨dL, h⟩
   ·refine bg (congrArg I.bool dL) ?_
    simp only [dL, Bool.not_true, Bool.not_false]
    obtain ⟨ar, gI, h⟩ := aW h
    refine hZ gI _ ?_
    exact a1 (e4 _ (dJ _ (aI _ (.inl (a2 [.bool ((a0.b4.length : Int) == ar.cS)] rfl (by cases aS h; rfl) (by decide) ba)))))
   ·refine bm (congrArg I.bool dL) ?_
    simp only [dL, Bool.not_true, Bool.not_false]
    refine bt (eS _ (h0 _ (.inl ?_)))
    refine ws _ ?_
    exact a1 (aI _ (.inl (a2 [.bool true] rfl (by cases aS h; rfl) (by decide) ba)))
theorem ael (a0 : Int) (r : Bool) (h : BK a0 = some r) : aU aN 127 [.int .i64 a0] (.bool r) [] := by
 refine aU.cQ (fx := [0]) cR [.tmp 2] [(0, .int .i64 a0)] Try.func127 rfl rfl W1 (Nat.le_of_ble_eq_true rfl) rfl rfl (fun cO aI cM => ?_)
 refine ws _ ?_
 obtain ⟨ar, a_, h⟩ := aW h
 refine ga (ja a0 0 63 _ a_) _ ?_
 exact a1 (aI _ (.inl (a2 [.bool ar] rfl (by cases aS h; rfl) (by decide) ba)))
theorem aem (a0 : bz) (ad : Int) (r : Bool) (h : xW a0 ad = some r) : aU aN 123 [bK a0, .int .i64 ad] (.bool r) [] := by
 refine aU.cQ (fx := [0, 1]) cR [.tmp 4] [(0, bK a0), (1, .int .i64 ad)] Try.func123 rfl rfl Xg (Nat.le_of_ble_eq_true rfl) rfl rfl (fun cO aI cM => ?_)
 refine ws _ ?_
 refine a7 (fun e5 cA bF aC => ?_)
 refine ws _ ?_
 refine cc (fun e9 fB cz bY bM => ?_)
 refine ws _ ?_
 rcases a8 h with ⟨cI, h⟩ | ⟨cI, h⟩
 ·refine bg (congrArg I.bool cI) ?_
  simp only [cI, Bool.not_true, Bool.not_false]
  obtain ⟨ar, jg, h⟩ := aW h
  refine ga (ael a0.Value _ jg) _ ?_
  exact a1 (cz _ (bF _ (aI _ (.inl (a2 [.bool ar] rfl (by cases aS h; rfl) (by decide) ba)))))
 ·refine bm (congrArg I.bool cI) ?_
  simp only [cI, Bool.not_true, Bool.not_false]
  refine ws _ ?_
  rcases a8 h with ⟨cL, h⟩ | ⟨cL, h⟩
  ·refine bg (congrArg I.bool cL) ?_
   simp only [cL, Bool.not_true, Bool.not_false]
   obtain ⟨aC, eA, h⟩ := aW h
   refine ga (ja a0.Value 0 (IntKind.i64.wrap (ad - 1)) _ eA) _ ?_
   exact a1 (cz _ (bF _ (aI _ (.inl (a2 [.bool aC] rfl (by cases aS h; rfl) (by decide) ba)))))
  ·refine bm (congrArg I.bool cL) ?_
   simp only [cL, Bool.not_true, Bool.not_false]
   refine ws _ ?_
   rcases a8 h with ⟨dU, h⟩ | ⟨dU, h⟩
   ·refine bg (congrArg I.bool dU) ?_
    simp only [dU, Bool.not_true, Bool.not_false]
    obtain ⟨aX, dm, h⟩ := aW h
    refine ga (ja a0.Value 0 8 _ dm) _ ?_
    exact a1 (cz _ (bF _ (aI _ (.inl (a2 [.bool aX] rfl (by cases aS h; rfl) (by decide) ba)))))
   ·refine bm (congrArg I.bool dU) ?_
    simp only [dU, Bool.not_true, Bool.not_false]
    refine ws _ ?_
    rcases a8 h with ⟨dG, h⟩ | ⟨dG, h⟩
    ·refine bg (congrArg I.bool dG) ?_
     simp only [dG, Bool.not_true, Bool.not_false]
     refine ws _ ?_
     exact a1 (cz _ (bF _ (aI _ (.inl (a2 [.bool (a0.Value == 0)] rfl (by cases aS h; rfl) (by decide) ba)))))
    ·refine bm (congrArg I.bool dG) ?_
     simp only [dG, Bool.not_true, Bool.not_false]
     refine bt (fB _ (cA _ (.inl ?_)))
     refine ws _ ?_
     exact a1 (aI _ (.inl (a2 [.bool false] rfl (by cases aS h; rfl) (by decide) ba)))
theorem aen (a0 : bz) (r : Int) (h : BL a0 = some r) : aU aN 124 [bK a0] (.int .i64 r) [] := by
 refine aU.cQ (fx := [0]) cR [.tmp 2] [(0, bK a0)] Try.func124 rfl rfl Xq (Nat.le_of_ble_eq_true rfl) rfl rfl (fun cO aI cM => ?_)
 refine ws _ ?_
 refine a7 (fun e5 cA bF aC => ?_)
 refine ws _ ?_
 refine cc (fun e9 fB cz bY bM => ?_)
 refine ws _ ?_
 rcases a8 h with ⟨cI, h⟩ | ⟨cI, h⟩
 ·refine bg (congrArg I.bool cI) ?_
  simp only [cI, Bool.not_true, Bool.not_false]
  refine ws _ ?_
  exact a1 (cz _ (bF _ (aI _ (.inl (a2 [.int .i64 2] rfl (by cases aS h; rfl) (by decide) ba)))))
 ·refine bm (congrArg I.bool cI) ?_
  simp only [cI, Bool.not_true, Bool.not_false]
  refine ws _ ?_
  rcases a8 h with ⟨eh, h⟩ | ⟨eh, h⟩
  ·refine bg (congrArg I.bool eh) ?_
   simp only [eh, Bool.not_true, Bool.not_false]
   refine ws _ ?_
   exact a1 (cz _ (bF _ (aI _ (.inl (a2 [.int .i64 1] rfl (by cases aS h; rfl) (by decide) ba)))))
  ·refine bm (congrArg I.bool eh) ?_
   simp only [eh, Bool.not_true, Bool.not_false]
   refine bt (fB _ (cA _ (.inl ?_)))
   refine ws _ ?_
   exact a1 (aI _ (.inl (a2 [.int .i64 0] rfl (by cases aS h; rfl) (by decide) ba)))
set_option maxHeartbeats 600000 in
theorem aeo (a0 : List bz) (ad : Int) (aT : Int) (r : Bool) (h : xY a0 ad aT = some r) : aU aN 111 [.slice (a0.map bK), .int .i64 ad, .int .i64 aT] (.bool r) [] := by
 refine aU.cQ (fx := [0, 1, 2]) cR [.tmp 6] [(0, .slice (a0.map bK)), (1, .int .i64 ad), (2, .int .i64 aT)] Try.func111 rfl rfl XG (Nat.le_of_ble_eq_true rfl) rfl rfl (fun cO aI cM => ?_)
 refine ws _ ?_
 refine a7 (fun e5 cA bF aC => ?_)
 obtain ⟨ar, cD, h⟩ := aW h
 rcases a8 h with ⟨cp, h⟩ | ⟨cp, h⟩
 ·refine j_ (dZ cp) (ja ad 0 29 _ cD) _ ?_
  refine bg rfl ?_
  refine ws _ ?_
  exact a1 (bF _ (aI _ (.inl (a2 [.bool false] rfl (by cases aS h; rfl) (by decide) ba))))
 ·obtain ⟨aC, b2, h⟩ := aW h
  rcases a8 h with ⟨bD, h⟩ | ⟨bD, h⟩
  ·refine c5 (b3 [(0, .slice (a0.map bK)), (1, .int .i64 ad), (24, .bool true)] (fun P aq => ?_) ?_)
   ·simp only [aQ.down, simprocAttr, lv.down, (cX cp), (dZ bD)]
    refine fv (ja ad 0 29 _ cD) rfl rfl rfl rfl (.inl (by rfl)) ?_
    simp only [aQ.down, simprocAttr, lv.down, (cX cp), (dZ bD)]
    refine g5 (ja aT 1 60 _ b2) rfl rfl rfl rfl (.inl (by rfl)) ?_
    simp only [aQ.down, simprocAttr, lv.down, (cX cp), (dZ bD)]
    (try simp only [bw.down, simprocAttr, bK, (cX cp), (dZ bD)] at aq ⊢); exact aq
   refine bg rfl ?_
   refine ws _ ?_
   exact a1 (bF _ (aI _ (.inl (a2 [.bool false] rfl (by cases aS h; rfl) (by decide) ba))))
  ·obtain ⟨aX, nI, h⟩ := aW h
   refine c5 (b3 [(0, .slice (a0.map bK)), (1, .int .i64 ad), (24, .bool (!aX))] (fun P aq => ?_) ?_)
   ·simp only [aQ.down, simprocAttr, lv.down, (cX cp), (cX bD)]
    refine fv (ja ad 0 29 _ cD) rfl rfl rfl rfl (.inl (by rfl)) ?_
    simp only [aQ.down, simprocAttr, lv.down, (cX cp), (cX bD)]
    refine g5 (ja aT 1 60 _ b2) rfl rfl rfl rfl (.inl (by rfl)) ?_
    simp only [aQ.down, simprocAttr, lv.down, (cX cp), (cX bD)]
    refine g5 (ja (a0.length : Int) 1 aT _ nI) rfl rfl rfl rfl (.inl (by rfl)) ?_
    simp only [aQ.down, simprocAttr, lv.down, (cX cp), (cX bD)]
    (try simp only [bw.down, simprocAttr, bK, (cX cp), (cX bD)] at aq ⊢); exact aq
   rcases a8 h with ⟨hC, h⟩ | ⟨hC, h⟩
   ·refine bg (congrArg I.bool hC) ?_
    simp only [(dZ hC), Bool.not_true, Bool.not_false]
    refine ws _ ?_
    exact a1 (bF _ (aI _ (.inl (a2 [.bool false] rfl (by cases aS h; rfl) (by decide) ba))))
   ·refine bm (congrArg I.bool hC) ?_
    simp only [(cX hC), Bool.not_true, Bool.not_false]
    refine bt (cA _ (.inl ?_))
    refine ws _ ?_
    refine a7 (fun kd g8 gb hY => ?_)
    refine ws _ ?_
    refine cc (fun qJ kA jR gg l7 => ?_)
    have lz : ∀ (n : Nat) (fP : Int) (lu : Int), qq a0 ad n fP lu = some r → dY aN HB qJ (R [(1, .int .i64 ad), (7, .int .i64 fP), (25, .slice (a0.map bK)), (26, .int .i64 (a0.length : Int)), (27, .int .i64 lu)]) := by
     intro g7
     induction g7 with
     | zero => intro fP lu h; cases (show none = some r from h)
     | succ g7 lA =>
      intro fP lu h
      replace h : xX (qq a0 ad g7) a0 ad fP lu = some r := h
      refine eE (fun o7 jS kY n5 => ?_)
      refine ws _ ?_
      refine a7 (fun uY kB qK sw => ?_)
      rcases a8 h with ⟨eo, h⟩ | ⟨eo, h⟩
      ·refine bg (congrArg I.bool eo) ?_
       simp only [eo, Bool.not_true, Bool.not_false]
       refine bt (kB _ (.inl ?_))
       refine a7 (fun H9 vj sD yA => ?_)
       refine cc (fun B9 qM qN hP u1 => ?_)
       obtain ⟨bM, k2, h⟩ := aW h
       refine hZ k2 _ ?_
       refine a7 (fun aip aep Ic aiq => ?_)
       rcases a8 h with ⟨jT, h⟩ | ⟨jT, h⟩
       ·refine hZ jT _ ?_
        refine bg rfl ?_
        refine ws _ ?_
        exact a1 (Ic _ (qN _ (sD _ (kY _ (jR _ (gb _ (aI _ (.inl (a2 [.bool false] rfl (by cases aS h; rfl) (by decide) ba)))))))))
       ·obtain ⟨bP, aeq, h⟩ := aW h
        refine c5 (b3 [(1, .int .i64 ad), (7, .int .i64 fP), (9, .bd (bK bM)), (25, .slice (a0.map bK)), (26, .int .i64 (a0.length : Int)), (27, .int .i64 lu), (38, .bool (!bP))] (fun P aq => ?_) ?_)
        ·simp only [aQ.down, simprocAttr, eZ, fh, bK, jT]
         refine g5 (aem bM ad _ aeq) rfl rfl rfl rfl (.inl (by rfl)) ?_
         simp only [aQ.down, simprocAttr, eZ, fh, bK, jT]
         (try simp only [bw.down, simprocAttr, bK, jT] at aq ⊢); exact aq
        rcases a8 h with ⟨g0, h⟩ | ⟨g0, h⟩
        ·refine bg (congrArg I.bool g0) ?_
         simp only [(dZ g0), Bool.not_true, Bool.not_false]
         refine ws _ ?_
         exact a1 (Ic _ (qN _ (sD _ (kY _ (jR _ (gb _ (aI _ (.inl (a2 [.bool false] rfl (by cases aS h; rfl) (by decide) ba)))))))))
        ·refine bm (congrArg I.bool g0) ?_
         simp only [(cX g0), Bool.not_true, Bool.not_false]
         refine bt (aep _ (.inl ?_))
         obtain ⟨cN, aer, h⟩ := aW h
         refine acI (aen bM _ aer) _ ?_
         refine qM _ (vj _ (.inl ?_))
         refine wr _ ?_
         exact jS _ (.inr ⟨_, bJ rfl, lA (IntKind.i64.wrap (fP + (IntKind.i64.wrap (cN - 1)))) (IntKind.i64.wrap (lu + 1)) h⟩)
      ·refine bm (congrArg I.bool eo) ?_
       simp only [eo, Bool.not_true, Bool.not_false]
       refine ek (sw 0 _ (n5 0 _ (gg _ (g8 _ (.inl ?_)))))
       refine ws _ ?_
       exact a1 (aI _ (.inl (a2 [.bool (fP == 0)] rfl (by cases aS h; rfl) (by decide) ba)))
    obtain ⟨n, h⟩ := ep h
    exact eD (.inr ⟨_, bJ rfl, lz n 1 0 h⟩)
theorem aes (a0 : List bz) (ad : b0) (r : Bool) (h : BM a0 ad = some r) : aU aN 110 [.slice (a0.map bK), .ref (c0 ad)] (.bool r) [] := by
 refine aU.cQ (fx := [0, 1]) cR [.tmp 3] [(0, .slice (a0.map bK)), (1, .ref (c0 ad))] Try.func110 rfl rfl XJ (Nat.le_of_ble_eq_true rfl) rfl rfl (fun cO aI cM => ?_)
 refine ws _ ?_
 obtain ⟨ar, a_, h⟩ := aW h
 refine ga (aeo a0 ad.scope 15 _ a_) _ ?_
 exact a1 (aI _ (.inl (a2 [.bool (!ar)] rfl (by cases aS h; rfl) (by decide) ba)))
theorem aet (a0 : List (List bz)) (ad : b0) (r : Int) (h : BN a0 ad = some r) : aU aN 122 [.slice (a0.map dw), .fn 110 [.ref (c0 ad)]] (.int .i64 r) [] := by
 refine aU.cQ (fx := [0, 1]) cR [.tmp 4] [(0, .slice (a0.map dw)), (1, .fn 110 [.ref (c0 ad)])] Try.func122 rfl rfl XU (Nat.le_of_ble_eq_true rfl) rfl rfl (fun cO aI cM => ?_)
 refine ws _ ?_
 refine a7 (fun e5 cA bF aC => ?_)
 refine ws _ ?_
 refine cc (fun e9 fB cz bY bM => ?_)
 have hE : ∀ (n : Nat) (eL : Int), sm a0 ad n eL = some r → dY aN HC e9 (R [(0, .slice (a0.map dw)), (1, .fn 110 [.ref (c0 ad)]), (7, .int .i64 (a0.length : Int)), (8, .int .i64 eL)]) := by
  intro dj
  induction dj with
  | zero => intro eL h; cases (show none = some r from h)
  | succ dj hn =>
   intro eL h
   replace h : xZ (sm a0 ad dj) a0 ad eL = some r := h
   refine eE (fun iC eS e4 bP => ?_)
   refine ws _ ?_
   refine a7 (fun jq fA fO d_ => ?_)
   rcases a8 h with ⟨bD, h⟩ | ⟨bD, h⟩
   ·refine bg (congrArg I.bool bD) ?_
    simp only [bD, Bool.not_true, Bool.not_false]
    refine bt (fA _ (.inl ?_))
    refine a7 (fun fG dD dF dP => ?_)
    refine cc (fun gH dk dO cL dK => ?_)
    refine ws _ ?_
    obtain ⟨ar, eW, h⟩ := aW h
    obtain ⟨aC, gZ, h⟩ := aW h
    refine j_ eW (aes ar ad _ gZ) _ ?_
    rcases a8 h with ⟨dL, h⟩ | ⟨dL, h⟩
    ·refine bg (congrArg I.bool dL) ?_
     simp only [dL, Bool.not_true, Bool.not_false]
     refine ws _ ?_
     exact a1 (dO _ (dF _ (e4 _ (cz _ (bF _ (aI _ (.inl (a2 [.int .i64 eL] rfl (by cases aS h; rfl) (by decide) ba))))))))
    ·refine bm (congrArg I.bool dL) ?_
     simp only [dL, Bool.not_true, Bool.not_false]
     refine bt (dk _ (dD _ (.inl ?_)))
     refine wr _ ?_
     exact eS _ (.inr ⟨_, bJ rfl, hn (IntKind.i64.wrap (eL + 1)) h⟩)
   ·refine bm (congrArg I.bool bD) ?_
    simp only [bD, Bool.not_true, Bool.not_false]
    refine ek (d_ 0 _ (bP 0 _ (bY _ (cA _ (.inl ?_)))))
    refine ws _ ?_
    exact a1 (aI _ (.inl (a2 [.int .i64 (-1)] rfl (by cases aS h; rfl) (by decide) ba)))
 obtain ⟨n, h⟩ := ep h
 exact eD (.inr ⟨_, bJ rfl, hE n 0 h⟩)
theorem aeu (a0 : List (List bz)) (ad : b0) (r : Bool) (h : x0 a0 ad = some r) : aU aN 109 [.slice (a0.map dw), .fn 110 [.ref (c0 ad)]] (.bool r) [] := by
 refine aU.cQ (fx := [0, 1]) cR [.tmp 4] [(0, .slice (a0.map dw)), (1, .fn 110 [.ref (c0 ad)])] Try.func109 rfl rfl XX (Nat.le_of_ble_eq_true rfl) rfl rfl (fun cO aI cM => ?_)
 refine ws _ ?_
 obtain ⟨ar, a_, h⟩ := aW h
 refine ga (aet a0 ad _ a_) _ ?_
 exact a1 (aI _ (.inl (a2 [.bool (decide (0 ≤ ar))] rfl (by cases aS h; rfl) (by decide) ba)))
set_option maxHeartbeats 800000 in
theorem aev (a0 : bn) (ad : List aV) (aT : b0) (r : Int) (h : uD a0 ad aT = some r) : aU aN 81 [bR a0, .slice (ad.map bk), c0 aT] (.int .i64 r) [] := by
 refine aU.cQ (fx := [0, 1, 2]) cR [.tmp 6] [(0, bR a0), (1, .slice (ad.map bk)), (2, c0 aT)] Try.func81 rfl rfl Yi (Nat.le_of_ble_eq_true rfl) rfl rfl (fun cO aI cM => ?_)
 refine ws _ ?_
 refine a7 (fun e5 cA bF aC => ?_)
 refine cc (fun ly h0 dJ lb aX => ?_)
 obtain ⟨ar, c4, h⟩ := aW h
 refine ga (aei a0 _ c4) _ ?_
 rcases a8 h with ⟨cI, h⟩ | ⟨cI, h⟩
 ·refine bg (congrArg I.bool cI) ?_
  simp only [(dZ cI), Bool.not_true, Bool.not_false]
  refine ws _ ?_
  exact a1 (dJ _ (bF _ (aI _ (.inl (a2 [.int .i64 2] rfl (by cases aS h; rfl) (by decide) ba)))))
 ·refine bm (congrArg I.bool cI) ?_
  simp only [(cX cI), Bool.not_true, Bool.not_false]
  have sx : ∀ (uC : Bool), uB a0 ad aT uC = some r → cG aN HE ly (R [(1, .slice (ad.map bk)), (3, .bd (bR a0)), (5, .bd (c0 aT)), (11, .bool uC)]) := by
   intro uC h
   rcases a8 h with ⟨bD, h⟩ | ⟨bD, h⟩
   ·refine bg (congrArg I.bool bD) ?_
    simp only [bD, Bool.not_true, Bool.not_false]
    refine ws _ ?_
    exact a1 (dJ _ (bF _ (aI _ (.inl (a2 [.int .i64 3] rfl (by cases aS h; rfl) (by decide) ba)))))
   ·refine bm (congrArg I.bool bD) ?_
    simp only [bD, Bool.not_true, Bool.not_false]
    have vm : ∀ (uA : Bool), qs a0 ad aT uA = some r → cG aN HD ly (R [(1, .slice (ad.map bk)), (3, .bd (bR a0)), (5, .bd (c0 aT)), (26, .bool uA)]) := by
     intro uA h
     rcases a8 h with ⟨cL, h⟩ | ⟨cL, h⟩
     ·refine bg (congrArg I.bool cL) ?_
      simp only [cL, Bool.not_true, Bool.not_false]
      refine ws _ ?_
      exact a1 (dJ _ (bF _ (aI _ (.inl (a2 [.int .i64 4] rfl (by cases aS h; rfl) (by decide) ba)))))
     ·refine bm (congrArg I.bool cL) ?_
      simp only [cL, Bool.not_true, Bool.not_false]
      obtain ⟨aC, eW, h⟩ := aW h
      refine ga (aek a0 ad _ eW) _ ?_
      rcases a8 h with ⟨dU, h⟩ | ⟨dU, h⟩
      ·refine bg (congrArg I.bool dU) ?_
       simp only [(dZ dU), Bool.not_true, Bool.not_false]
       refine ws _ ?_
       exact a1 (dJ _ (bF _ (aI _ (.inl (a2 [.int .i64 5] rfl (by cases aS h; rfl) (by decide) ba)))))
      ·refine bm (congrArg I.bool dU) ?_
       simp only [(cX dU), Bool.not_true, Bool.not_false]
       refine c5 (b3 [(3, .bd (bR a0)), (5, .bd (c0 aT)), (54, .bool ((a0.Kind == 5) && (!aT.behind)))] (fun P aq => ?_) ?_)
       ·rcases Bool.eq_false_or_eq_true (a0.Kind == 5) with qF | qF
        ·simp only [aQ.down, simprocAttr, yr.down, qF]
         (try simp only [bw.down, simprocAttr, uX.down, qF] at aq ⊢); exact aq
        ·simp only [aQ.down, simprocAttr, yr.down, qF]
         (try simp only [bw.down, simprocAttr, uX.down, qF] at aq ⊢); exact aq
       rcases a8 h with ⟨dG, h⟩ | ⟨dG, h⟩
       ·refine bg (congrArg I.bool dG) ?_
        simp only [dG, Bool.not_true, Bool.not_false]
        refine ws _ ?_
        exact a1 (dJ _ (bF _ (aI _ (.inl (a2 [.int .i64 6] rfl (by cases aS h; rfl) (by decide) ba)))))
       ·refine bm (congrArg I.bool dG) ?_
        simp only [dG, Bool.not_true, Bool.not_false]
        refine c5 (b3 [(3, .bd (bR a0)), (5, .bd (c0 aT)), (63, .bool ((a0.Kind == 4) && (decide (6 ≤ aT.scope))))] (fun P aq => ?_) ?_)
        ·rcases Bool.eq_false_or_eq_true (a0.Kind == 4) with vn | vn
         ·simp only [aQ.down, simprocAttr, yr.down, vn]
          (try simp only [bw.down, simprocAttr, uX.down, vn] at aq ⊢); exact aq
         ·simp only [aQ.down, simprocAttr, yr.down, vn]
          (try simp only [bw.down, simprocAttr, uX.down, vn] at aq ⊢); exact aq
        rcases a8 h with ⟨hP, h⟩ | ⟨hP, h⟩
        ·refine bg (congrArg I.bool hP) ?_
         simp only [hP, Bool.not_true, Bool.not_false]
         refine ws _ ?_
         exact a1 (dJ _ (bF _ (aI _ (.inl (a2 [.int .i64 7] rfl (by cases aS h; rfl) (by decide) ba)))))
        ·refine bm (congrArg I.bool hP) ?_
         simp only [hP, Bool.not_true, Bool.not_false]
         obtain ⟨aX, kX, h⟩ := aW h
         refine c5 (b3 [(72, .bool aX)] (fun P aq => ?_) ?_)
         ·simp only [aQ.down, simprocAttr, B2.down]
          refine fv (aeu a0.b4 aT _ kX) rfl rfl (by simp only [aQ.down, simprocAttr, B2.down, hL, hM, hN, eg] <;> rfl) rfl (.inr (by rfl)) ?_
          simp only [aQ.down, simprocAttr, B2.down]
          (try simp only [bw.down, simprocAttr, uX.down] at aq ⊢); exact aq
         rcases a8 h with ⟨hD, h⟩ | ⟨hD, h⟩
         ·refine bg (congrArg I.bool hD) ?_
          simp only [hD, Bool.not_true, Bool.not_false]
          refine ws _ ?_
          exact a1 (dJ _ (bF _ (aI _ (.inl (a2 [.int .i64 8] rfl (by cases aS h; rfl) (by decide) ba)))))
         ·refine bm (congrArg I.bool hD) ?_
          simp only [hD, Bool.not_true, Bool.not_false]
          refine bt (h0 _ (cA _ (.inl ?_)))
          refine ws _ ?_
          exact a1 (aI _ (.inl (a2 [.int .i64 0] rfl (by cases aS h; rfl) (by decide) ba)))
    rcases a8 h with ⟨g0, h⟩ | ⟨g0, h⟩
    ·obtain ⟨bM, n7, h⟩ := aW h
     rcases a8 h with ⟨mc, h⟩ | ⟨mc, h⟩
     ·refine jn (b3 (K := dv _) [(1, .slice (ad.map bk)), (3, .bd (bR a0)), (5, .bd (c0 aT)), (26, .bool true)] (fun P aq => ?_) ?_)
      ·simp only [aQ.down, simprocAttr, nt.down, g0, (dZ mc)]
       refine g5 (ja a0.Number 1 7 _ n7) rfl rfl rfl rfl (.inl (by rfl)) ?_
       simp only [aQ.down, simprocAttr, nt.down, g0, (dZ mc)]
       (try simp only [bw.down, simprocAttr, lx.down, g0, (dZ mc)] at aq ⊢); exact aq
      exact .inr ⟨_, bJ rfl, vm true h⟩
     ·rcases a8 h with ⟨gy, h⟩ | ⟨gy, h⟩
      ·obtain ⟨bP, yz, h⟩ := aW h
       refine jn (b3 (K := dv _) [(1, .slice (ad.map bk)), (3, .bd (bR a0)), (5, .bd (c0 aT)), (26, .bool (!bP))] (fun P aq => ?_) ?_)
       ·simp only [aQ.down, simprocAttr, nt.down, g0, (cX mc), gy]
        refine g5 (ja a0.Number 1 7 _ n7) rfl rfl rfl rfl (.inl (by rfl)) ?_
        simp only [aQ.down, simprocAttr, nt.down, g0, (cX mc), gy]
        refine g5 (vl a0.Number (ad.length : Int) _ yz) rfl rfl rfl rfl (.inl (by rfl)) ?_
        simp only [aQ.down, simprocAttr, nt.down, g0, (cX mc), gy]
        (try simp only [bw.down, simprocAttr, lx.down, g0, (cX mc), gy] at aq ⊢); exact aq
       exact .inr ⟨_, bJ rfl, vm (!bP) h⟩
      ·refine jn (b3 (K := dv _) [(1, .slice (ad.map bk)), (3, .bd (bR a0)), (5, .bd (c0 aT)), (26, .bool false)] (fun P aq => ?_) ?_)
       ·simp only [aQ.down, simprocAttr, nt.down, g0, (cX mc), gy]
        refine g5 (ja a0.Number 1 7 _ n7) rfl rfl rfl rfl (.inl (by rfl)) ?_
        simp only [aQ.down, simprocAttr, nt.down, g0, (cX mc), gy]
        (try simp only [bw.down, simprocAttr, lx.down, g0, (cX mc), gy] at aq ⊢); exact aq
       exact .inr ⟨_, bJ rfl, vm false h⟩
    ·rcases a8 h with ⟨qO, h⟩ | ⟨qO, h⟩
     ·obtain ⟨cN, aew, h⟩ := aW h
      refine jn (b3 (K := dv _) [(1, .slice (ad.map bk)), (3, .bd (bR a0)), (5, .bd (c0 aT)), (26, .bool (!cN))] (fun P aq => ?_) ?_)
      ·simp only [aQ.down, simprocAttr, nt.down, g0, qO]
       refine g5 (vl a0.Number (ad.length : Int) _ aew) rfl rfl rfl rfl (.inl (by rfl)) ?_
       simp only [aQ.down, simprocAttr, nt.down, g0, qO]
       (try simp only [bw.down, simprocAttr, lx.down, g0, qO] at aq ⊢); exact aq
      exact .inr ⟨_, bJ rfl, vm (!cN) h⟩
     ·refine jn (b3 (K := dv _) [(1, .slice (ad.map bk)), (3, .bd (bR a0)), (5, .bd (c0 aT)), (26, .bool false)] (fun P aq => ?_) ?_)
      ·simp only [aQ.down, simprocAttr, nt.down, g0, qO]
       (try simp only [bw.down, simprocAttr, lx.down, g0, qO] at aq ⊢); exact aq
      exact .inr ⟨_, bJ rfl, vm false h⟩
  rcases a8 h with ⟨k1, h⟩ | ⟨k1, h⟩
  ·rcases a8 h with ⟨mb, h⟩ | ⟨mb, h⟩
   ·obtain ⟨d_, aex, h⟩ := aW h
    refine jn (b3 (K := dv _) [(1, .slice (ad.map bk)), (3, .bd (bR a0)), (5, .bd (c0 aT)), (11, .bool (!d_))] (fun P aq => ?_) ?_)
    ·simp only [aQ.down, simprocAttr, ys.down, k1, mb]
     refine g5 (aej a0.Name _ aex) rfl rfl rfl rfl (.inl (by rfl)) ?_
     simp only [aQ.down, simprocAttr, ys.down, k1, mb]
     (try simp only [bw.down, simprocAttr, lx.down, k1, mb] at aq ⊢); exact aq
    exact .inr ⟨_, bJ rfl, sx (!d_) h⟩
   ·refine jn (b3 (K := dv _) [(1, .slice (ad.map bk)), (3, .bd (bR a0)), (5, .bd (c0 aT)), (11, .bool false)] (fun P aq => ?_) ?_)
    ·simp only [aQ.down, simprocAttr, ys.down, k1, mb]
     (try simp only [bw.down, simprocAttr, lx.down, k1, mb] at aq ⊢); exact aq
    exact .inr ⟨_, bJ rfl, sx false h⟩
  ·refine jn (b3 (K := dv _) [(1, .slice (ad.map bk)), (3, .bd (bR a0)), (5, .bd (c0 aT)), (11, .bool false)] (fun P aq => ?_) ?_)
   ·simp only [aQ.down, simprocAttr, ys.down, k1]
    (try simp only [bw.down, simprocAttr, lx.down, k1] at aq ⊢); exact aq
   exact .inr ⟨_, bJ rfl, sx false h⟩
set_option maxHeartbeats 1400000 in
theorem aey (a0 : List aV) (ad : aV) (r : Int × Int) (h : uF a0 ad = some r) : aU aN 53 [.slice (a0.map bk), bk ad] (.tuple [.int .i64 r.1, .int .i64 r.2]) [] := by
 refine aU.cQ (fx := [0, 1]) cR [.tmp 4, .tmp 5] [(0, .slice (a0.map bk)), (1, bk ad)] Try.func53 rfl rfl uV (Nat.le_of_ble_eq_true rfl) rfl rfl (fun cO aI cM => ?_)
 refine ws _ ?_
 refine a7 (fun e5 cA bF aC => ?_)
 obtain ⟨ar, cD, h⟩ := aW h
 rcases a8 h with ⟨cp, h⟩ | ⟨cp, h⟩
 ·refine kQ rfl (kR [(0, .slice (a0.map bk)), (3, .bd (bk ad)), (22, .bool true)] (fun P aq => ?_) ?_)
  ·simp only [hh.down, simprocAttr, ns.down, (dZ cp)]
   refine nn (ja (ad.Body.length : Int) 1 20 _ cD) rfl rfl rfl rfl (.inl (by rfl)) ?_
   simp only [hh.down, simprocAttr, ns.down, (dZ cp)]
   refine ⟨kS (by kernel_rfl), ?_⟩
   (try simp only [bw.down, simprocAttr, gl.down, (dZ cp)] at aq ⊢); exact aq
  refine bg rfl ?_
  refine ws _ ?_
  exact a1 (bF _ (aI _ (.inl (a2 [.int .i64 0, .int .i64 1] rfl (by cases aS h; rfl) (by decide) ba))))
 ·obtain ⟨aC, b2, h⟩ := aW h
  refine kQ rfl (kR [(0, .slice (a0.map bk)), (3, .bd (bk ad)), (22, .bool (aC != (ad.Body.length : Int)))] (fun P aq => ?_) ?_)
  ·simp only [hh.down, simprocAttr, ns.down, (cX cp)]
   refine nn (ja (ad.Body.length : Int) 1 20 _ cD) rfl rfl rfl rfl (.inl (by rfl)) ?_
   simp only [hh.down, simprocAttr, ns.down, (cX cp)]
   refine Ft (ad9 ad 0 _ b2) rfl rfl rfl rfl (.inl (by rfl)) ?_
   simp only [hh.down, simprocAttr, ns.down, (cX cp)]
   refine ⟨kS (by kernel_rfl), ?_⟩
   (try simp only [bw.down, simprocAttr, gl.down, (cX cp)] at aq ⊢); exact aq
  rcases a8 h with ⟨bD, h⟩ | ⟨bD, h⟩
  ·refine bg (congrArg I.bool bD) ?_
   simp only [bD, Bool.not_true, Bool.not_false]
   refine ws _ ?_
   exact a1 (bF _ (aI _ (.inl (a2 [.int .i64 0, .int .i64 1] rfl (by cases aS h; rfl) (by decide) ba))))
  ·refine bm (congrArg I.bool bD) ?_
   simp only [bD, Bool.not_true, Bool.not_false]
   refine bt (cA _ (.inl ?_))
   obtain ⟨aX, mr, h⟩ := aW h
   refine ga (aeh ad _ mr) _ ?_
   refine a7 (fun jr g9 i9 ij => ?_)
   refine ws _ ?_
   refine cc (fun kd g8 gb dU hY => ?_)
   have lz : ∀ (n : Nat) (jQ : Int), o5 a0 ad aX n jQ = some r → dY aN HF kd (R [(0, .slice (a0.map bk)), (6, .aE 2 (aX.map c0)), (26, .slice (ad.Body.map bR)), (27, .int .i64 (ad.Body.length : Int)), (28, .int .i64 jQ)]) := by
    intro g7
    induction g7 with
    | zero => intro jQ h; cases (show none = some r from h)
    | succ g7 lA =>
     intro jQ h
     replace h : uE (o5 a0 ad aX g7) a0 ad aX jQ = some r := h
     refine eE (fun mT hO h1 iA => ?_)
     refine ws _ ?_
     refine a7 (fun o7 jS kY n5 => ?_)
     rcases a8 h with ⟨dG, h⟩ | ⟨dG, h⟩
     ·refine bg (congrArg I.bool dG) ?_
      simp only [dG, Bool.not_true, Bool.not_false]
      refine bt (jS _ (.inl ?_))
      refine a7 (fun uY kB qK sw => ?_)
      refine cc (fun B5 uZ yx eo HW => ?_)
      obtain ⟨bM, iB, h⟩ := aW h
      refine hZ iB _ ?_
      obtain ⟨bP, k2, h⟩ := aW h
      obtain ⟨cN, kX, h⟩ := aW h
      refine kQ rfl (kR [(0, .slice (a0.map bk)), (6, .aE 2 (aX.map c0)), (7, .int .i64 jQ), (9, .int .i64 cN), (26, .slice (ad.Body.map bR)), (27, .int .i64 (ad.Body.length : Int)), (28, .int .i64 jQ)] (fun P aq => ?_) ?_)
      ·simp only [hh.down, simprocAttr, eZ, oV, fw, fU, hi, fy, tV, oX, fh, bk, bR, bK, c0, dw, k2, df k2]
       refine nn (aev bM a0 bP _ kX) rfl rfl rfl rfl (.inl (by rfl)) ?_
       simp only [hh.down, simprocAttr, eZ, oV, fw, fU, hi, fy, tV, oX, fh, bk, bR, bK, c0, dw, k2, df k2]
       refine ⟨kS (by kernel_rfl), ?_⟩
       (try simp only [bw.down, simprocAttr, lx.down, k2, df k2] at aq ⊢); exact aq
      refine ws _ ?_
      rcases a8 h with ⟨jT, h⟩ | ⟨jT, h⟩
      ·refine bg (congrArg I.bool jT) ?_
       simp only [jT, Bool.not_true, Bool.not_false]
       refine ws _ ?_
       exact a1 (yx _ (qK _ (h1 _ (gb _ (i9 _ (aI _ (.inl (a2 [.int .i64 jQ, .int .i64 cN] rfl (by cases aS h; rfl) (by decide) ba))))))))
      ·refine bm (congrArg I.bool jT) ?_
       simp only [jT, Bool.not_true, Bool.not_false]
       refine bt (uZ _ (kB _ (.inl ?_)))
       refine wr _ ?_
       exact hO _ (.inr ⟨_, bJ rfl, lA (IntKind.i64.wrap (jQ + 1)) h⟩)
     ·refine bm (congrArg I.bool dG) ?_
      simp only [dG, Bool.not_true, Bool.not_false]
      refine ek (n5 0 _ (iA 0 _ (dU _ (g9 _ (.inl ?_)))))
      refine ws _ ?_
      exact a1 (aI _ (.inl (a2 [.int .i64 0, .int .i64 0] rfl (by cases aS h; rfl) (by decide) ba)))
   obtain ⟨n, h⟩ := ep h
   exact eD (.inr ⟨_, bJ rfl, lz n 0 h⟩)
set_option maxHeartbeats 1200000 in
theorem aez (a0 : List aV) (r : Bool) (h : x2 a0 = some r) : aU aN 36 [.slice (a0.map bk)] (.bool r) [] := by
 refine aU.cQ (fx := [0]) cR [.tmp 2] [(0, .slice (a0.map bk))] Try.func36 rfl rfl mS (Nat.le_of_ble_eq_true rfl) rfl rfl (fun cO aI cM => ?_)
 refine ws _ ?_
 refine a7 (fun e5 cA bF aC => ?_)
 obtain ⟨ar, cD, h⟩ := aW h
 rcases a8 h with ⟨cp, h⟩ | ⟨cp, h⟩
 ·refine j_ (dZ cp) (ja (a0.length : Int) 1 4 _ cD) _ ?_
  refine bg rfl ?_
  refine ws _ ?_
  exact a1 (bF _ (aI _ (.inl (a2 [.bool false] rfl (by cases aS h; rfl) (by decide) ba))))
 ·obtain ⟨aC, b2, h⟩ := aW h
  refine c5 (b3 [(0, .slice (a0.map bk)), (15, .bool (!aC))] (fun P aq => ?_) ?_)
  ·simp only [aQ.down, simprocAttr, gm.down, (cX cp)]
   refine fv (ja (a0.length : Int) 1 4 _ cD) rfl rfl rfl rfl (.inl (by rfl)) ?_
   simp only [aQ.down, simprocAttr, gm.down, (cX cp)]
   refine g5 (ad4 a0 _ b2) rfl rfl rfl rfl (.inl (by rfl)) ?_
   simp only [aQ.down, simprocAttr, gm.down, (cX cp)]
   (try simp only [bw.down, simprocAttr, gl.down, (cX cp)] at aq ⊢); exact aq
  rcases a8 h with ⟨bD, h⟩ | ⟨bD, h⟩
  ·refine bg (congrArg I.bool bD) ?_
   simp only [(dZ bD), Bool.not_true, Bool.not_false]
   refine ws _ ?_
   exact a1 (bF _ (aI _ (.inl (a2 [.bool false] rfl (by cases aS h; rfl) (by decide) ba))))
  ·refine bm (congrArg I.bool bD) ?_
   simp only [(cX bD), Bool.not_true, Bool.not_false]
   refine bt (cA _ (.inl ?_))
   refine a7 (fun gH dk dO dK => ?_)
   refine ws _ ?_
   refine cc (fun jr g9 i9 dr ij => ?_)
   have i_ : ∀ (n : Nat) (ky : Int), qt a0 n ky = some r → dY aN HG jr (R [(0, .slice (a0.map bk)), (16, .slice (a0.map bk)), (17, .int .i64 (a0.length : Int)), (18, .int .i64 ky)]) := by
    intro e0
    induction e0 with
    | zero => intro ky h; cases (show none = some r from h)
    | succ e0 iU =>
     intro ky h
     replace h : x1 (qt a0 e0) a0 ky = some r := h
     refine eE (fun mX iE js i7 => ?_)
     refine ws _ ?_
     refine a7 (fun mT hO h1 iA => ?_)
     rcases a8 h with ⟨gg, h⟩ | ⟨gg, h⟩
     ·refine bg (congrArg I.bool gg) ?_
      simp only [gg, Bool.not_true, Bool.not_false]
      refine bt (hO _ (.inl ?_))
      refine a7 (fun o7 jS kY n5 => ?_)
      refine cc (fun aed Cq yI dG aee => ?_)
      obtain ⟨aX, nu, h⟩ := aW h
      refine hZ nu _ ?_
      refine a7 (fun H9 vj sD yA => ?_)
      obtain ⟨bM, n4, h⟩ := aW h
      rcases a8 h with ⟨gf, h⟩ | ⟨gf, h⟩
      ·refine kQ rfl (kR [(0, .slice (a0.map bk)), (4, .bd (bk aX)), (16, .slice (a0.map bk)), (17, .int .i64 (a0.length : Int)), (18, .int .i64 ky), (35, .bool true)] (fun P aq => ?_) ?_)
       ·simp only [hh.down, simprocAttr, gm.down, (dZ gf)]
        refine nn (yH aX.Name _ n4) rfl rfl rfl rfl (.inl (by rfl)) ?_
        simp only [hh.down, simprocAttr, gm.down, (dZ gf)]
        refine ⟨kS (by kernel_rfl), ?_⟩
        (try simp only [bw.down, simprocAttr, gl.down, (dZ gf)] at aq ⊢); exact aq
       refine bg rfl ?_
       refine ws _ ?_
       exact a1 (sD _ (yI _ (kY _ (js _ (i9 _ (dO _ (aI _ (.inl (a2 [.bool false] rfl (by cases aS h; rfl) (by decide) ba)))))))))
      ·obtain ⟨bP, lB, h⟩ := aW h
       obtain ⟨cN, Co, h⟩ := aW h
       refine kQ rfl (kR [(0, .slice (a0.map bk)), (4, .bd (bk aX)), (16, .slice (a0.map bk)), (17, .int .i64 (a0.length : Int)), (18, .int .i64 ky), (35, .bool (decide (0 ≤ cN)))] (fun P aq => ?_) ?_)
       ·simp only [hh.down, simprocAttr, gm.down, (cX gf), lB, @lh _ bk 3 (fun _ => rfl)]
        refine nn (yH aX.Name _ n4) rfl rfl rfl rfl (.inl (by rfl)) ?_
        simp only [hh.down, simprocAttr, gm.down, (cX gf), lB, @lh _ bk 3 (fun _ => rfl)]
        refine Ft (ad8 bP aX.Name _ Co) rfl rfl rfl rfl (.inl (by rfl)) ?_
        simp only [hh.down, simprocAttr, gm.down, (cX gf), lB, @lh _ bk 3 (fun _ => rfl)]
        refine ⟨kS (by kernel_rfl), ?_⟩
        (try simp only [bw.down, simprocAttr, gl.down, (cX gf), lB, @lh _ bk 3 (fun _ => rfl)] at aq ⊢); exact aq
       rcases a8 h with ⟨sE, h⟩ | ⟨sE, h⟩
       ·refine bg (congrArg I.bool sE) ?_
        simp only [sE, Bool.not_true, Bool.not_false]
        refine ws _ ?_
        exact a1 (sD _ (yI _ (kY _ (js _ (i9 _ (dO _ (aI _ (.inl (a2 [.bool false] rfl (by cases aS h; rfl) (by decide) ba)))))))))
       ·refine bm (congrArg I.bool sE) ?_
        simp only [sE, Bool.not_true, Bool.not_false]
        refine bt (vj _ (.inl ?_))
        obtain ⟨d_, n7, h⟩ := aW h
        refine ga (aey a0 aX _ n7) _ ?_
        refine ws _ ?_
        rcases a8 h with ⟨gy, h⟩ | ⟨gy, h⟩
        ·refine bg (congrArg I.bool gy) ?_
         simp only [gy, Bool.not_true, Bool.not_false]
         refine ws _ ?_
         exact a1 (yI _ (kY _ (js _ (i9 _ (dO _ (aI _ (.inl (a2 [.bool false] rfl (by cases aS h; rfl) (by decide) ba))))))))
        ·refine bm (congrArg I.bool gy) ?_
         simp only [gy, Bool.not_true, Bool.not_false]
         refine bt (Cq _ (jS _ (.inl ?_)))
         refine wr _ ?_
         exact iE _ (.inr ⟨_, bJ rfl, iU (IntKind.i64.wrap (ky + 1)) h⟩)
     ·refine bm (congrArg I.bool gg) ?_
      simp only [gg, Bool.not_true, Bool.not_false]
      refine ek (iA 0 _ (i7 0 _ (dr _ (dk _ (.inl ?_)))))
      refine ws _ ?_
      exact a1 (aI _ (.inl (a2 [.bool true] rfl (by cases aS h; rfl) (by decide) ba)))
   obtain ⟨n, h⟩ := ep h
   exact eD (.inr ⟨_, bJ rfl, i_ n 0 h⟩)
theorem aeA (a0 : List aV) (ad : Int) (aT : Int) (r : Int) (h : x3 a0 ad aT = some r) : aU aN 23 [.slice (a0.map bk), .int .i64 ad, .int .i64 aT] (.int .i64 r) [] := by
 refine aU.cQ (fx := [0, 1, 2]) cR [.tmp 6] [(0, .slice (a0.map bk)), (1, .int .i64 ad), (2, .int .i64 aT)] Try.func23 rfl rfl qC (Nat.le_of_ble_eq_true rfl) rfl rfl (fun cO aI cM => ?_)
 refine ws _ ?_
 refine a7 (fun e5 cA bF aC => ?_)
 refine cc (fun ly h0 dJ lb aX => ?_)
 obtain ⟨ar, c4, h⟩ := aW h
 refine ga (aez a0 _ c4) _ ?_
 rcases a8 h with ⟨cI, h⟩ | ⟨cI, h⟩
 ·refine bg (congrArg I.bool cI) ?_
  simp only [(dZ cI), Bool.not_true, Bool.not_false]
  refine ws _ ?_
  exact a1 (dJ _ (bF _ (aI _ (.inl (a2 [.int .i64 1] rfl (by cases aS h; rfl) (by decide) ba)))))
 ·refine bm (congrArg I.bool cI) ?_
  simp only [(cX cI), Bool.not_true, Bool.not_false]
  obtain ⟨aC, k_, h⟩ := aW h
  rcases a8 h with ⟨cL, h⟩ | ⟨cL, h⟩
  ·refine j_ (dZ cL) (vl ad (a0.length : Int) _ k_) _ ?_
   refine bg rfl ?_
   refine ws _ ?_
   exact a1 (dJ _ (bF _ (aI _ (.inl (a2 [.int .i64 2] rfl (by cases aS h; rfl) (by decide) ba)))))
  ·obtain ⟨aX, eA, h⟩ := aW h
   obtain ⟨bM, eW, h⟩ := aW h
   refine c5 (b3 [(11, .bool (!bM))] (fun P aq => ?_) ?_)
   ·simp only [aQ.down, simprocAttr, gm.down, (cX cL), eA]
    refine fv (vl ad (a0.length : Int) _ k_) rfl rfl rfl rfl (.inl (by rfl)) ?_
    simp only [aQ.down, simprocAttr, gm.down, (cX cL), eA]
    refine g5 (vl aT (aX.Body.length : Int) _ eW) rfl rfl rfl rfl (.inl (by rfl)) ?_
    simp only [aQ.down, simprocAttr, gm.down, (cX cL), eA]
    (try simp only [bw.down, simprocAttr, gl.down, (cX cL), eA] at aq ⊢); exact aq
   rcases a8 h with ⟨dU, h⟩ | ⟨dU, h⟩
   ·refine bg (congrArg I.bool dU) ?_
    simp only [(dZ dU), Bool.not_true, Bool.not_false]
    refine ws _ ?_
    exact a1 (dJ _ (bF _ (aI _ (.inl (a2 [.int .i64 2] rfl (by cases aS h; rfl) (by decide) ba)))))
   ·refine bm (congrArg I.bool dU) ?_
    simp only [(cX dU), Bool.not_true, Bool.not_false]
    refine bt (h0 _ (cA _ (.inl ?_)))
    refine ws _ ?_
    exact a1 (aI _ (.inl (a2 [.int .i64 0] rfl (by cases aS h; rfl) (by decide) ba)))
theorem aeB (a0 r : List (List UInt8)) (h : uG a0 = some r) : aU aN 29 [.aE 1 (a0.map bf)] (.tuple []) [.aE 1 (r.map bf)] := acG a0 r h
theorem aeC (a0 r : List (List UInt8)) (h : x4 a0 = some r) : aU aN 30 [.aE 1 (a0.map bf)] (.aE 1 (r.map bf)) [.hole] := acH a0 r h
set_option maxHeartbeats 600000 in
theorem Ie (a0 : List aV) (ad : Int) (r : (List (List UInt8)) × Int) (h : uH a0 ad = some r) : aU aN 15 [.slice (a0.map bk), .int .i64 ad] (.tuple [.aE 1 (r.1.map bf), .int .i64 r.2]) [] := by
 refine aU.cQ (fx := [0, 1]) cR [.tmp 4, .tmp 5] [(0, .slice (a0.map bk)), (1, .int .i64 ad)] Try.func15 rfl rfl ss (Nat.le_of_ble_eq_true rfl) rfl rfl (fun cO aI cM => ?_)
 refine ws _ ?_
 refine a7 (fun e5 cA bF aC => ?_)
 obtain ⟨ar, cD, h⟩ := aW h
 refine ga (aeA a0 ad 0 _ cD) _ ?_
 refine ws _ ?_
 rcases a8 h with ⟨cI, h⟩ | ⟨cI, h⟩
 ·refine bg (congrArg I.bool cI) ?_
  simp only [cI, Bool.not_true, Bool.not_false]
  refine ws _ ?_
  exact a1 (bF _ (aI _ (.inr ⟨[(4, .aE 1 []), (5, .int .i64 ar)], p3 [] rfl (p5 (t := 4) (d := .bA) rfl rfl (.mI _) (by decide) (kt rfl (p4))), a2 [.aE 1 [], .int .i64 ar] rfl (by cases aS h; rfl) (by decide) ba⟩)))
 ·refine bm (congrArg I.bool cI) ?_
  simp only [cI, Bool.not_true, Bool.not_false]
  refine bt (cA _ (.inl ?_))
  refine ws _ ?_
  refine a7 (fun fG dD dF dP => ?_)
  obtain ⟨aC, mr, h⟩ := aW h
  refine hZ mr _ ?_
  refine cc (fun jr g9 i9 dr ij => ?_)
  have Cm : ∀ (n : Nat) (fF : List (List UInt8)) (j9 : Int), n3 aC n fF j9 = some r → dY aN HI jr (R [(7, .aE 1 (fF.map bf)), (20, .slice (aC.Body.map bR)), (21, .int .i64 (aC.Body.length : Int)), (22, .int .i64 j9)]) := by
   intro n8
   induction n8 with
   | zero => intro fF j9 h; cases (show none = some r from h)
   | succ n8 Cn =>
    intro fF j9 h
    replace h : x6 (n3 aC n8) aC fF j9 = some r := h
    refine eE (fun mX iE js i7 => ?_)
    refine ws _ ?_
    refine a7 (fun mT hO h1 iA => ?_)
    rcases a8 h with ⟨gg, h⟩ | ⟨gg, h⟩
    ·refine bg (congrArg I.bool gg) ?_
     simp only [gg, Bool.not_true, Bool.not_false]
     refine bt (hO _ (.inl ?_))
     have Ig : ∀ (sn : List (List UInt8)) (so : Int), x5 (n3 aC n8) aC sn so = some r → cG aN HH mX (R [(7, .aE 1 (sn.map bf)), (20, .slice (aC.Body.map bR)), (21, .int .i64 (aC.Body.length : Int)), (22, .int .i64 so)]) := by
      intro sn so h
      refine wr _ ?_
      exact iE _ (.inr ⟨_, bJ rfl, Cn sn (IntKind.i64.wrap (so + 1)) h⟩)
     refine a7 (fun o7 jS kY n5 => ?_)
     refine cc (fun uY kB qK fH sw => ?_)
     obtain ⟨aX, n6, h⟩ := aW h
     refine hZ n6 _ ?_
     refine c5 (b3 [(7, .aE 1 (fF.map bf)), (9, .bd (bR aX)), (20, .slice (aC.Body.map bR)), (21, .int .i64 (aC.Body.length : Int)), (22, .int .i64 j9), (33, .bool ((aX.Kind == 1) && (!(aX.Name == ([116, 97, 117] : List UInt8)))))] (fun P aq => ?_) ?_)
     ·rcases Bool.eq_false_or_eq_true (aX.Kind == 1) with qC | qC
      ·simp only [aQ.down, simprocAttr, eZ, fw, fU, hi, fy, fh, bR, bK, dw, bf, qC]
       (try simp only [bw.down, simprocAttr, qH.down, qC] at aq ⊢); exact aq
      ·simp only [aQ.down, simprocAttr, eZ, fw, fU, hi, fy, fh, bR, bK, dw, bf, qC]
       (try simp only [bw.down, simprocAttr, qH.down, qC] at aq ⊢); exact aq
     rcases a8 h with ⟨gf, h⟩ | ⟨gf, h⟩
     ·refine bg (congrArg I.bool gf) ?_
      simp only [gf, Bool.not_true, Bool.not_false]
      obtain ⟨air, lB, h⟩ := aW h
      (try simp only [List.length_append, List.length_cons, List.length_nil, List.length_map, List.length_replicate, Nat.zero_add, Nat.add_zero, Nat.reduceAdd] at lB)
      refine jM (b3 [(7, .aE 1 ((fF ++ [aX.Name]).map bf)), (20, .slice (aC.Body.map bR)), (21, .int .i64 (aC.Body.length : Int)), (22, .int .i64 j9)] (fun P aq => ?_) ?_)
      ·simp only [aQ.down, simprocAttr, eZ, fw, w9, fU, hi, fy, fh, bR, bK, dw, bf, (show ∀ s, dN aN s 34 1 [(0, .str aX.Name)] = some (.aE 1 [.str aX.Name], s) from fun s => by kernel_rfl), @oM aN 34 34 9 rfl rfl, oN, oO, oP, all_cons, all_nil, lB, @lh _ bf 1 (fun _ => rfl)]
       (try simp only [bw.down, simprocAttr, qH.down, (show ∀ s, dN aN s 34 1 [(0, .str aX.Name)] = some (.aE 1 [.str aX.Name], s) from fun s => by kernel_rfl), @oM aN 34 34 9 rfl rfl, oN, oO, oP, all_cons, all_nil, lB, @lh _ bf 1 (fun _ => rfl)] at aq ⊢); exact aq
      exact kB _ (jS _ (.inr ⟨_, bJ rfl, Ig (fF ++ [aX.Name]) j9 h⟩))
     ·refine bm (congrArg I.bool gf) ?_
      simp only [gf, Bool.not_true, Bool.not_false]
      exact bt (kB _ (jS _ (.inr ⟨_, bJ rfl, Ig fF j9 h⟩)))
    ·refine bm (congrArg I.bool gg) ?_
     simp only [gg, Bool.not_true, Bool.not_false]
     refine ek (iA 0 _ (i7 0 _ (dr _ (dD _ (.inl ?_)))))
     obtain ⟨bM, aeD, h⟩ := aW h
     refine c5 (b3 [(7, .aE 1 (bM.map bf))] (fun P aq => ?_) ?_)
     ·simp only [aQ.down, simprocAttr, qH.down]
      refine qa [⟨.h 7 [], true, _, _⟩] (aeB fF _ aeD) rfl rfl rfl (by simp only [aQ.down, simprocAttr, qH.down, p9, nU, nV, hL, hM, hN, eg, or_true, true_or, @eY _ bf bf (fun _ => kU _)]) rfl rfl (.inl rfl) ?_
      simp only [aQ.down, simprocAttr, qH.down, nW]
      (try simp only [bw.down, simprocAttr, qH.down] at aq ⊢); exact aq
     obtain ⟨bP, Cs, h⟩ := aW h
     refine c5 (b3 [(4, .aE 1 (bP.map bf)), (5, .int .i64 0)] (fun P aq => ?_) ?_)
     ·simp only [aQ.down, simprocAttr, bf]
      refine qa [⟨.h 7 [], true, _, .hole⟩] (aeC bM _ Cs) rfl rfl rfl (by simp only [aQ.down, simprocAttr, bf, p9, nU, nV, hL, hM, hN, eg, or_true, true_or, @eY _ bf bf (fun _ => kU _)]) rfl rfl (.inl rfl) ?_
      simp only [aQ.down, simprocAttr, bf, nW]
      (try simp only [bw.down, simprocAttr, bf] at aq ⊢); exact aq
     exact a1 (aI _ (.inl (a2 [.aE 1 (bP.map bf), .int .i64 0] rfl (by cases aS h; rfl) (by decide) ba)))
  obtain ⟨n, h⟩ := ep h
  exact eD (.inr ⟨_, p3 [] rfl (p5 (t := 7) (d := .bA) (br := .aE 1 []) rfl rfl (.mI _) (by decide) (kt (t := 20) (d := .slice (aC.Body.map bR)) rfl (kt (t := 21) (d := .int .i64 (aC.Body.length : Int)) rfl (kt (t := 22) (d := .int .i64 0) rfl (p4))))), Cm n [] 0 h⟩)
set_option maxHeartbeats 800000 in
theorem sF (a0 : List (List UInt8)) (ad : List (List UInt8)) (r : Bool) (h : sq a0 ad = some r) : aU aN 16 [.slice (a0.map bf), .slice (ad.map bf)] (.bool r) [] := by
 refine aU.cQ (fx := [0, 1]) cR [.tmp 4] [(0, .slice (a0.map bf)), (1, .slice (ad.map bf))] Try.func16 rfl rfl qD (Nat.le_of_ble_eq_true rfl) rfl rfl (fun cO aI cM => ?_)
 refine ws _ ?_
 refine a7 (fun e5 cA bF aC => ?_)
 refine ws _ ?_
 rcases a8 h with ⟨bY, h⟩ | ⟨bY, h⟩
 ·refine bg (congrArg I.bool bY) ?_
  simp only [bY, Bool.not_true, Bool.not_false]
  refine ws _ ?_
  exact a1 (bF _ (aI _ (.inl (a2 [.bool false] rfl (by cases aS h; rfl) (by decide) ba))))
 ·refine bm (congrArg I.bool bY) ?_
  simp only [bY, Bool.not_true, Bool.not_false]
  refine bt (cA _ (.inl ?_))
  refine a7 (fun gY e_ ft cN => ?_)
  refine ws _ ?_
  refine cc (fun ke kz jl bD ig => ?_)
  have i_ : ∀ (n : Nat) (c3 : Int), x7 a0 ad n c3 = some r → dY aN HJ ke (R [(0, .slice (a0.map bf)), (1, .slice (ad.map bf)), (5, .int .i64 c3)]) := by
   intro e0
   induction e0 with
   | zero => intro c3 h; cases (show none = some r from h)
   | succ e0 iU =>
    intro c3 h
    replace h : GN (x7 a0 ad e0) a0 ad c3 = some r := h
    refine eE (fun fG dD dF dP => ?_)
    refine a7 (fun gH dk dO dK => ?_)
    refine ws _ ?_
    rcases a8 h with ⟨dr, h⟩ | ⟨dr, h⟩
    ·refine bg (congrArg I.bool dr) ?_
     simp only [dr, Bool.not_true, Bool.not_false]
     refine bt (dk _ (.inl ?_))
     refine a7 (fun mX iE js i7 => ?_)
     refine cc (fun kd g8 gb dU hY => ?_)
     obtain ⟨ar, dm, h⟩ := aW h
     obtain ⟨aC, gI, h⟩ := aW h
     refine kQ rfl (kR [(0, .slice (a0.map bf)), (1, .slice (ad.map bf)), (5, .int .i64 c3), (25, .bool (!(ar == aC)))] (fun P aq => ?_) ?_)
     ·simp only [hh.down, simprocAttr, ka.down, dm, gI]
      refine ⟨kS (by kernel_rfl), ?_⟩
      (try simp only [bw.down, simprocAttr, bf, dm, gI] at aq ⊢); exact aq
     rcases a8 h with ⟨dG, h⟩ | ⟨dG, h⟩
     ·refine bg (congrArg I.bool dG) ?_
      simp only [dG, Bool.not_true, Bool.not_false]
      refine ws _ ?_
      exact a1 (gb _ (js _ (dF _ (jl _ (ft _ (aI _ (.inl (a2 [.bool false] rfl (by cases aS h; rfl) (by decide) ba))))))))
     ·refine bm (congrArg I.bool dG) ?_
      simp only [dG, Bool.not_true, Bool.not_false]
      refine bt (g8 _ (iE _ (.inl ?_)))
      refine wr _ ?_
      exact dD _ (.inr ⟨_, bJ rfl, iU (IntKind.i64.wrap (c3 + 1)) h⟩)
    ·refine bm (congrArg I.bool dr) ?_
     simp only [dr, Bool.not_true, Bool.not_false]
     refine ek (dK 0 _ (dP 0 _ (bD _ (e_ _ (.inl ?_)))))
     refine ws _ ?_
     exact a1 (aI _ (.inl (a2 [.bool true] rfl (by cases aS h; rfl) (by decide) ba)))
  obtain ⟨n, h⟩ := ep h
  exact eD (.inr ⟨_, bJ rfl, i_ n 0 h⟩)
theorem aeE (a0 : bz) (ad : bz) (r : Bool) (h : uI a0 ad = some r) : aU aN 126 [bK a0, bK ad] (.bool r) [] := by
 refine aU.cQ (fx := [0, 1]) cR [.tmp 4] [(0, bK a0), (1, bK ad)] Try.func126 rfl rfl Zv (Nat.le_of_ble_eq_true rfl) rfl rfl (fun cO aI cM => ?_)
 refine ws _ ?_
 refine a7 (fun e5 cA bF aC => ?_)
 refine ws _ ?_
 rcases a8 h with ⟨bY, h⟩ | ⟨bY, h⟩
 ·refine bg (congrArg I.bool bY) ?_
  simp only [bY, Bool.not_true, Bool.not_false]
  refine ws _ ?_
  exact a1 (bF _ (aI _ (.inl (a2 [.bool false] rfl (by cases aS h; rfl) (by decide) ba))))
 ·refine bm (congrArg I.bool bY) ?_
  simp only [bY, Bool.not_true, Bool.not_false]
  refine bt (cA _ (.inl ?_))
  refine a7 (fun gY e_ ft cN => ?_)
  refine ws _ ?_
  rcases a8 h with ⟨bD, h⟩ | ⟨bD, h⟩
  ·refine bg (congrArg I.bool bD) ?_
   simp only [bD, Bool.not_true, Bool.not_false]
   refine ws _ ?_
   exact a1 (ft _ (aI _ (.inl (a2 [.bool false] rfl (by cases aS h; rfl) (by decide) ba))))
  ·refine bm (congrArg I.bool bD) ?_
   simp only [bD, Bool.not_true, Bool.not_false]
   refine bt (e_ _ (.inl ?_))
   refine ws _ ?_
   exact a1 (aI _ (.inl (a2 [.bool true] rfl (by cases aS h; rfl) (by decide) ba)))
set_option maxHeartbeats 800000 in
theorem aeF (a0 : List bz) (ad : List bz) (r : Bool) (h : uJ a0 ad = some r) : aU aN 116 [.slice (a0.map bK), .slice (ad.map bK)] (.bool r) [] := by
 refine aU.cQ (fx := [0, 1]) cR [.tmp 4] [(0, .slice (a0.map bK)), (1, .slice (ad.map bK))] Try.func116 rfl rfl ZI (Nat.le_of_ble_eq_true rfl) rfl rfl (fun cO aI cM => ?_)
 refine ws _ ?_
 refine a7 (fun e5 cA bF aC => ?_)
 refine ws _ ?_
 rcases a8 h with ⟨bY, h⟩ | ⟨bY, h⟩
 ·refine bg (congrArg I.bool bY) ?_
  simp only [bY, Bool.not_true, Bool.not_false]
  refine ws _ ?_
  exact a1 (bF _ (aI _ (.inl (a2 [.bool false] rfl (by cases aS h; rfl) (by decide) ba))))
 ·refine bm (congrArg I.bool bY) ?_
  simp only [bY, Bool.not_true, Bool.not_false]
  refine bt (cA _ (.inl ?_))
  refine a7 (fun gY e_ ft cN => ?_)
  refine ws _ ?_
  refine cc (fun ke kz jl bD ig => ?_)
  have i_ : ∀ (n : Nat) (c3 : Int), x8 a0 ad n c3 = some r → dY aN HK ke (R [(0, .slice (a0.map bK)), (1, .slice (ad.map bK)), (5, .int .i64 c3)]) := by
   intro e0
   induction e0 with
   | zero => intro c3 h; cases (show none = some r from h)
   | succ e0 iU =>
    intro c3 h
    replace h : GO (x8 a0 ad e0) a0 ad c3 = some r := h
    refine eE (fun fG dD dF dP => ?_)
    refine a7 (fun gH dk dO dK => ?_)
    refine ws _ ?_
    rcases a8 h with ⟨dr, h⟩ | ⟨dr, h⟩
    ·refine bg (congrArg I.bool dr) ?_
     simp only [dr, Bool.not_true, Bool.not_false]
     refine bt (dk _ (.inl ?_))
     refine a7 (fun mX iE js i7 => ?_)
     refine cc (fun kd g8 gb dU hY => ?_)
     obtain ⟨ar, dm, h⟩ := aW h
     obtain ⟨aC, gI, h⟩ := aW h
     obtain ⟨aX, gX, h⟩ := aW h
     refine kQ rfl (kR [(0, .slice (a0.map bK)), (1, .slice (ad.map bK)), (5, .int .i64 c3), (26, .bool (!aX))] (fun P aq => ?_) ?_)
     ·simp only [hh.down, simprocAttr, lv.down, dm, gI]
      refine nn (aeE ar aC _ gX) rfl rfl rfl rfl (.inl (by rfl)) ?_
      simp only [hh.down, simprocAttr, lv.down, dm, gI]
      refine ⟨kS (by kernel_rfl), ?_⟩
      (try simp only [bw.down, simprocAttr, bK, dm, gI] at aq ⊢); exact aq
     rcases a8 h with ⟨fH, h⟩ | ⟨fH, h⟩
     ·refine bg (congrArg I.bool fH) ?_
      simp only [(dZ fH), Bool.not_true, Bool.not_false]
      refine ws _ ?_
      exact a1 (gb _ (js _ (dF _ (jl _ (ft _ (aI _ (.inl (a2 [.bool false] rfl (by cases aS h; rfl) (by decide) ba))))))))
     ·refine bm (congrArg I.bool fH) ?_
      simp only [(cX fH), Bool.not_true, Bool.not_false]
      refine bt (g8 _ (iE _ (.inl ?_)))
      refine wr _ ?_
      exact dD _ (.inr ⟨_, bJ rfl, iU (IntKind.i64.wrap (c3 + 1)) h⟩)
    ·refine bm (congrArg I.bool dr) ?_
     simp only [dr, Bool.not_true, Bool.not_false]
     refine ek (dK 0 _ (dP 0 _ (bD _ (e_ _ (.inl ?_)))))
     refine ws _ ?_
     exact a1 (aI _ (.inl (a2 [.bool true] rfl (by cases aS h; rfl) (by decide) ba)))
  obtain ⟨n, h⟩ := ep h
  exact eD (.inr ⟨_, bJ rfl, i_ n 0 h⟩)
set_option maxHeartbeats 800000 in
theorem aeG (a0 : List (List bz)) (ad : List (List bz)) (r : Bool) (h : x_ a0 ad = some r) : aU aN 91 [.slice (a0.map dw), .slice (ad.map dw)] (.bool r) [] := by
 refine aU.cQ (fx := [0, 1]) cR [.tmp 4] [(0, .slice (a0.map dw)), (1, .slice (ad.map dw))] Try.func91 rfl rfl ZV (Nat.le_of_ble_eq_true rfl) rfl rfl (fun cO aI cM => ?_)
 refine ws _ ?_
 refine a7 (fun e5 cA bF aC => ?_)
 refine ws _ ?_
 rcases a8 h with ⟨bY, h⟩ | ⟨bY, h⟩
 ·refine bg (congrArg I.bool bY) ?_
  simp only [bY, Bool.not_true, Bool.not_false]
  refine ws _ ?_
  exact a1 (bF _ (aI _ (.inl (a2 [.bool false] rfl (by cases aS h; rfl) (by decide) ba))))
 ·refine bm (congrArg I.bool bY) ?_
  simp only [bY, Bool.not_true, Bool.not_false]
  refine bt (cA _ (.inl ?_))
  refine a7 (fun gY e_ ft cN => ?_)
  refine ws _ ?_
  refine cc (fun ke kz jl bD ig => ?_)
  have i_ : ∀ (n : Nat) (c3 : Int), x9 a0 ad n c3 = some r → dY aN HL ke (R [(0, .slice (a0.map dw)), (1, .slice (ad.map dw)), (5, .int .i64 c3)]) := by
   intro e0
   induction e0 with
   | zero => intro c3 h; cases (show none = some r from h)
   | succ e0 iU =>
    intro c3 h
    replace h : GP (x9 a0 ad e0) a0 ad c3 = some r := h
    refine eE (fun fG dD dF dP => ?_)
    refine a7 (fun gH dk dO dK => ?_)
    refine ws _ ?_
    rcases a8 h with ⟨dr, h⟩ | ⟨dr, h⟩
    ·refine bg (congrArg I.bool dr) ?_
     simp only [dr, Bool.not_true, Bool.not_false]
     refine bt (dk _ (.inl ?_))
     refine a7 (fun mX iE js i7 => ?_)
     refine cc (fun kd g8 gb dU hY => ?_)
     obtain ⟨ar, dm, h⟩ := aW h
     obtain ⟨aC, gI, h⟩ := aW h
     obtain ⟨aX, gX, h⟩ := aW h
     refine kQ rfl (kR [(0, .slice (a0.map dw)), (1, .slice (ad.map dw)), (5, .int .i64 c3), (26, .bool (!aX))] (fun P aq => ?_) ?_)
     ·simp only [hh.down, simprocAttr, eZ, fU, fy, fh, bK, dw, dm, gI]
      refine nn (aeF ar aC _ gX) rfl rfl rfl rfl (.inl (by rfl)) ?_
      simp only [hh.down, simprocAttr, eZ, fU, fy, fh, bK, dw, dm, gI]
      refine ⟨kS (by kernel_rfl), ?_⟩
      (try simp only [bw.down, simprocAttr, bK, dw, dm, gI] at aq ⊢); exact aq
     rcases a8 h with ⟨fH, h⟩ | ⟨fH, h⟩
     ·refine bg (congrArg I.bool fH) ?_
      simp only [(dZ fH), Bool.not_true, Bool.not_false]
      refine ws _ ?_
      exact a1 (gb _ (js _ (dF _ (jl _ (ft _ (aI _ (.inl (a2 [.bool false] rfl (by cases aS h; rfl) (by decide) ba))))))))
     ·refine bm (congrArg I.bool fH) ?_
      simp only [(cX fH), Bool.not_true, Bool.not_false]
      refine bt (g8 _ (iE _ (.inl ?_)))
      refine wr _ ?_
      exact dD _ (.inr ⟨_, bJ rfl, iU (IntKind.i64.wrap (c3 + 1)) h⟩)
    ·refine bm (congrArg I.bool dr) ?_
     simp only [dr, Bool.not_true, Bool.not_false]
     refine ek (dK 0 _ (dP 0 _ (bD _ (e_ _ (.inl ?_)))))
     refine ws _ ?_
     exact a1 (aI _ (.inl (a2 [.bool true] rfl (by cases aS h; rfl) (by decide) ba)))
  obtain ⟨n, h⟩ := ep h
  exact eD (.inr ⟨_, bJ rfl, i_ n 0 h⟩)
theorem aeH (a0 : bn) (ad : bn) (r : Bool) (h : uK a0 ad = some r) : aU aN 55 [bR a0, bR ad] (.bool r) [] := by
 refine aU.cQ (fx := [0, 1]) cR [.tmp 4] [(0, bR a0), (1, bR ad)] Try.func55 rfl rfl Z_ (Nat.le_of_ble_eq_true rfl) rfl rfl (fun cO aI cM => ?_)
 refine ws _ ?_
 refine a7 (fun e5 cA bF aC => ?_)
 refine ws _ ?_
 rcases a8 h with ⟨bY, h⟩ | ⟨bY, h⟩
 ·refine bg (congrArg I.bool bY) ?_
  simp only [bY, Bool.not_true, Bool.not_false]
  refine ws _ ?_
  exact a1 (bF _ (aI _ (.inl (a2 [.bool false] rfl (by cases aS h; rfl) (by decide) ba))))
 ·refine bm (congrArg I.bool bY) ?_
  simp only [bY, Bool.not_true, Bool.not_false]
  refine bt (cA _ (.inl ?_))
  refine a7 (fun gY e_ ft cN => ?_)
  refine ws _ ?_
  rcases a8 h with ⟨bD, h⟩ | ⟨bD, h⟩
  ·refine bg (congrArg I.bool bD) ?_
   simp only [bD, Bool.not_true, Bool.not_false]
   refine ws _ ?_
   exact a1 (ft _ (aI _ (.inl (a2 [.bool false] rfl (by cases aS h; rfl) (by decide) ba))))
  ·refine bm (congrArg I.bool bD) ?_
   simp only [bD, Bool.not_true, Bool.not_false]
   refine bt (e_ _ (.inl ?_))
   refine a7 (fun gH dk dO dK => ?_)
   refine ws _ ?_
   rcases a8 h with ⟨dr, h⟩ | ⟨dr, h⟩
   ·refine bg (congrArg I.bool dr) ?_
    simp only [dr, Bool.not_true, Bool.not_false]
    refine ws _ ?_
    exact a1 (dO _ (aI _ (.inl (a2 [.bool false] rfl (by cases aS h; rfl) (by decide) ba))))
   ·refine bm (congrArg I.bool dr) ?_
    simp only [dr, Bool.not_true, Bool.not_false]
    refine bt (dk _ (.inl ?_))
    refine a7 (fun kd g8 gb hY => ?_)
    obtain ⟨ar, dm, h⟩ := aW h
    refine ga (aeG a0.b4 ad.b4 _ dm) _ ?_
    rcases a8 h with ⟨h2, h⟩ | ⟨h2, h⟩
    ·refine bg (congrArg I.bool h2) ?_
     simp only [(dZ h2), Bool.not_true, Bool.not_false]
     refine ws _ ?_
     exact a1 (gb _ (aI _ (.inl (a2 [.bool false] rfl (by cases aS h; rfl) (by decide) ba))))
    ·refine bm (congrArg I.bool h2) ?_
     simp only [(cX h2), Bool.not_true, Bool.not_false]
     refine bt (g8 _ (.inl ?_))
     refine ws _ ?_
     exact a1 (aI _ (.inl (a2 [.bool true] rfl (by cases aS h; rfl) (by decide) ba)))
set_option maxHeartbeats 800000 in
theorem aeI (a0 : List bn) (ad : List bn) (r : Bool) (h : yb a0 ad = some r) : aU aN 40 [.slice (a0.map bR), .slice (ad.map bR)] (.bool r) [] := by
 refine aU.cQ (fx := [0, 1]) cR [.tmp 4] [(0, .slice (a0.map bR)), (1, .slice (ad.map bR))] Try.func40 rfl rfl aam (Nat.le_of_ble_eq_true rfl) rfl rfl (fun cO aI cM => ?_)
 refine ws _ ?_
 refine a7 (fun e5 cA bF aC => ?_)
 refine ws _ ?_
 rcases a8 h with ⟨bY, h⟩ | ⟨bY, h⟩
 ·refine bg (congrArg I.bool bY) ?_
  simp only [bY, Bool.not_true, Bool.not_false]
  refine ws _ ?_
  exact a1 (bF _ (aI _ (.inl (a2 [.bool false] rfl (by cases aS h; rfl) (by decide) ba))))
 ·refine bm (congrArg I.bool bY) ?_
  simp only [bY, Bool.not_true, Bool.not_false]
  refine bt (cA _ (.inl ?_))
  refine a7 (fun gY e_ ft cN => ?_)
  refine ws _ ?_
  refine cc (fun ke kz jl bD ig => ?_)
  have i_ : ∀ (n : Nat) (c3 : Int), ya a0 ad n c3 = some r → dY aN HM ke (R [(0, .slice (a0.map bR)), (1, .slice (ad.map bR)), (5, .int .i64 c3)]) := by
   intro e0
   induction e0 with
   | zero => intro c3 h; cases (show none = some r from h)
   | succ e0 iU =>
    intro c3 h
    replace h : GQ (ya a0 ad e0) a0 ad c3 = some r := h
    refine eE (fun fG dD dF dP => ?_)
    refine a7 (fun gH dk dO dK => ?_)
    refine ws _ ?_
    rcases a8 h with ⟨dr, h⟩ | ⟨dr, h⟩
    ·refine bg (congrArg I.bool dr) ?_
     simp only [dr, Bool.not_true, Bool.not_false]
     refine bt (dk _ (.inl ?_))
     refine a7 (fun mX iE js i7 => ?_)
     refine cc (fun kd g8 gb dU hY => ?_)
     obtain ⟨ar, dm, h⟩ := aW h
     obtain ⟨aC, gI, h⟩ := aW h
     obtain ⟨aX, gX, h⟩ := aW h
     refine kQ rfl (kR [(0, .slice (a0.map bR)), (1, .slice (ad.map bR)), (5, .int .i64 c3), (26, .bool (!aX))] (fun P aq => ?_) ?_)
     ·simp only [hh.down, simprocAttr, yq.down, dm, gI]
      refine nn (aeH ar aC _ gX) rfl rfl rfl rfl (.inl (by rfl)) ?_
      simp only [hh.down, simprocAttr, yq.down, dm, gI]
      refine ⟨kS (by kernel_rfl), ?_⟩
      (try simp only [bw.down, simprocAttr, kV.down, dm, gI] at aq ⊢); exact aq
     rcases a8 h with ⟨fH, h⟩ | ⟨fH, h⟩
     ·refine bg (congrArg I.bool fH) ?_
      simp only [(dZ fH), Bool.not_true, Bool.not_false]
      refine ws _ ?_
      exact a1 (gb _ (js _ (dF _ (jl _ (ft _ (aI _ (.inl (a2 [.bool false] rfl (by cases aS h; rfl) (by decide) ba))))))))
     ·refine bm (congrArg I.bool fH) ?_
      simp only [(cX fH), Bool.not_true, Bool.not_false]
      refine bt (g8 _ (iE _ (.inl ?_)))
      refine wr _ ?_
      exact dD _ (.inr ⟨_, bJ rfl, iU (IntKind.i64.wrap (c3 + 1)) h⟩)
    ·refine bm (congrArg I.bool dr) ?_
     simp only [dr, Bool.not_true, Bool.not_false]
     refine ek (dK 0 _ (dP 0 _ (bD _ (e_ _ (.inl ?_)))))
     refine ws _ ?_
     exact a1 (aI _ (.inl (a2 [.bool true] rfl (by cases aS h; rfl) (by decide) ba)))
  obtain ⟨n, h⟩ := ep h
  exact eD (.inr ⟨_, bJ rfl, i_ n 0 h⟩)
theorem aeJ (a0 : aV) (ad : aV) (r : Bool) (h : uL a0 ad = some r) : aU aN 25 [bk a0, bk ad] (.bool r) [] := by
 refine aU.cQ (fx := [0, 1]) cR [.tmp 4] [(0, bk a0), (1, bk ad)] Try.func25 rfl rfl qE (Nat.le_of_ble_eq_true rfl) rfl rfl (fun cO aI cM => ?_)
 refine ws _ ?_
 refine a7 (fun e5 cA bF aC => ?_)
 refine ws _ ?_
 rcases a8 h with ⟨bY, h⟩ | ⟨bY, h⟩
 ·refine bg (congrArg I.bool bY) ?_
  simp only [bY, Bool.not_true, Bool.not_false]
  refine ws _ ?_
  exact a1 (bF _ (aI _ (.inl (a2 [.bool false] rfl (by cases aS h; rfl) (by decide) ba))))
 ·refine bm (congrArg I.bool bY) ?_
  simp only [bY, Bool.not_true, Bool.not_false]
  refine bt (cA _ (.inl ?_))
  refine a7 (fun gY e_ ft cN => ?_)
  refine ws _ ?_
  rcases a8 h with ⟨bD, h⟩ | ⟨bD, h⟩
  ·refine bg (congrArg I.bool bD) ?_
   simp only [bD, Bool.not_true, Bool.not_false]
   refine ws _ ?_
   exact a1 (ft _ (aI _ (.inl (a2 [.bool false] rfl (by cases aS h; rfl) (by decide) ba))))
  ·refine bm (congrArg I.bool bD) ?_
   simp only [bD, Bool.not_true, Bool.not_false]
   refine bt (e_ _ (.inl ?_))
   refine a7 (fun gH dk dO dK => ?_)
   obtain ⟨ar, eA, h⟩ := aW h
   refine ga (aeI a0.Body ad.Body _ eA) _ ?_
   rcases a8 h with ⟨c6, h⟩ | ⟨c6, h⟩
   ·refine bg (congrArg I.bool c6) ?_
    simp only [(dZ c6), Bool.not_true, Bool.not_false]
    refine ws _ ?_
    exact a1 (dO _ (aI _ (.inl (a2 [.bool false] rfl (by cases aS h; rfl) (by decide) ba))))
   ·refine bm (congrArg I.bool c6) ?_
    simp only [(cX c6), Bool.not_true, Bool.not_false]
    refine bt (dk _ (.inl ?_))
    refine ws _ ?_
    exact a1 (aI _ (.inl (a2 [.bool true] rfl (by cases aS h; rfl) (by decide) ba)))
set_option maxHeartbeats 800000 in
theorem aeK (a0 : List aV) (ad : List aV) (r : Bool) (h : uM a0 ad = some r) : aU aN 10 [.slice (a0.map bk), .slice (ad.map bk)] (.bool r) [] := by
 refine aU.cQ (fx := [0, 1]) cR [.tmp 4] [(0, .slice (a0.map bk)), (1, .slice (ad.map bk))] Try.func10 rfl rfl nr (Nat.le_of_ble_eq_true rfl) rfl rfl (fun cO aI cM => ?_)
 refine ws _ ?_
 refine a7 (fun e5 cA bF aC => ?_)
 refine ws _ ?_
 rcases a8 h with ⟨bY, h⟩ | ⟨bY, h⟩
 ·refine bg (congrArg I.bool bY) ?_
  simp only [bY, Bool.not_true, Bool.not_false]
  refine ws _ ?_
  exact a1 (bF _ (aI _ (.inl (a2 [.bool false] rfl (by cases aS h; rfl) (by decide) ba))))
 ·refine bm (congrArg I.bool bY) ?_
  simp only [bY, Bool.not_true, Bool.not_false]
  refine bt (cA _ (.inl ?_))
  refine a7 (fun gY e_ ft cN => ?_)
  refine ws _ ?_
  refine cc (fun ke kz jl bD ig => ?_)
  have i_ : ∀ (n : Nat) (c3 : Int), yc a0 ad n c3 = some r → dY aN HN ke (R [(0, .slice (a0.map bk)), (1, .slice (ad.map bk)), (5, .int .i64 c3)]) := by
   intro e0
   induction e0 with
   | zero => intro c3 h; cases (show none = some r from h)
   | succ e0 iU =>
    intro c3 h
    replace h : GR (yc a0 ad e0) a0 ad c3 = some r := h
    refine eE (fun fG dD dF dP => ?_)
    refine a7 (fun gH dk dO dK => ?_)
    refine ws _ ?_
    rcases a8 h with ⟨dr, h⟩ | ⟨dr, h⟩
    ·refine bg (congrArg I.bool dr) ?_
     simp only [dr, Bool.not_true, Bool.not_false]
     refine bt (dk _ (.inl ?_))
     refine a7 (fun mX iE js i7 => ?_)
     refine cc (fun kd g8 gb dU hY => ?_)
     obtain ⟨ar, dm, h⟩ := aW h
     obtain ⟨aC, gI, h⟩ := aW h
     obtain ⟨aX, gX, h⟩ := aW h
     refine kQ rfl (kR [(0, .slice (a0.map bk)), (1, .slice (ad.map bk)), (5, .int .i64 c3), (26, .bool (!aX))] (fun P aq => ?_) ?_)
     ·simp only [hh.down, simprocAttr, gm.down, dm, gI]
      refine nn (aeJ ar aC _ gX) rfl rfl rfl rfl (.inl (by rfl)) ?_
      simp only [hh.down, simprocAttr, gm.down, dm, gI]
      refine ⟨kS (by kernel_rfl), ?_⟩
      (try simp only [bw.down, simprocAttr, gl.down, dm, gI] at aq ⊢); exact aq
     rcases a8 h with ⟨fH, h⟩ | ⟨fH, h⟩
     ·refine bg (congrArg I.bool fH) ?_
      simp only [(dZ fH), Bool.not_true, Bool.not_false]
      refine ws _ ?_
      exact a1 (gb _ (js _ (dF _ (jl _ (ft _ (aI _ (.inl (a2 [.bool false] rfl (by cases aS h; rfl) (by decide) ba))))))))
     ·refine bm (congrArg I.bool fH) ?_
      simp only [(cX fH), Bool.not_true, Bool.not_false]
      refine bt (g8 _ (iE _ (.inl ?_)))
      refine wr _ ?_
      exact dD _ (.inr ⟨_, bJ rfl, iU (IntKind.i64.wrap (c3 + 1)) h⟩)
    ·refine bm (congrArg I.bool dr) ?_
     simp only [dr, Bool.not_true, Bool.not_false]
     refine ek (dK 0 _ (dP 0 _ (bD _ (e_ _ (.inl ?_)))))
     refine ws _ ?_
     exact a1 (aI _ (.inl (a2 [.bool true] rfl (by cases aS h; rfl) (by decide) ba)))
  obtain ⟨n, h⟩ := ep h
  exact eD (.inr ⟨_, bJ rfl, i_ n 0 h⟩)
theorem yL (a0 : Int) (r : (List UInt8)) (h : qu a0 = some r) : aU aN 26 [.int .i64 a0] (.str r) [] := by
 refine aU.cQ (fx := []) cR [.tmp 2] [(0, .int .i64 a0)] Try.func26 rfl rfl aaU (Nat.le_of_ble_eq_true rfl) rfl rfl (fun cO aI cM => ?_)
 refine ws _ ?_
 refine a7 (fun e5 cA bF aC => ?_)
 refine ws _ ?_
 rcases a8 h with ⟨bY, h⟩ | ⟨bY, h⟩
 ·refine bg (congrArg I.bool bY) ?_
  simp only [bY, Bool.not_true, Bool.not_false]
  refine ws _ ?_
  exact a1 (bF _ (aI _ (.inl (a2 [.str ([109, 48] : List UInt8)] rfl (by cases aS h; rfl) (by decide) ba))))
 ·refine bm (congrArg I.bool bY) ?_
  simp only [bY, Bool.not_true, Bool.not_false]
  refine bt (cA _ (.inl ?_))
  refine ws _ ?_
  refine a7 (fun jq fA fO d_ => ?_)
  refine cc (fun ke kz jl bD ig => ?_)
  have i_ : ∀ (n : Nat) (iz : Int) (el : List UInt8), o6 n iz el = some r → dY aN HO ke (R [(0, .int .i64 iz), (3, .str el)]) := by
   intro e0
   induction e0 with
   | zero => intro iz el h; cases (show none = some r from h)
   | succ e0 iU =>
    intro iz el h
    replace h : uN (o6 e0) iz el = some r := h
    refine eE (fun fG dD dF dP => ?_)
    refine a7 (fun gH dk dO dK => ?_)
    refine ws _ ?_
    rcases a8 h with ⟨dr, h⟩ | ⟨dr, h⟩
    ·refine bg (congrArg I.bool dr) ?_
     simp only [dr, Bool.not_true, Bool.not_false]
     refine bt (dk _ (.inl ?_))
     refine cc (fun mX iE js c6 i7 => ?_)
     obtain ⟨u16, gd, h⟩ := aW h
     (try simp only [List.length_append, List.length_cons, List.length_nil, List.length_map, List.length_replicate, Nat.zero_add, Nat.add_zero, Nat.reduceAdd] at gd)
     refine c5 (b3 [(0, .int .i64 iz), (3, .str ([(nB (IntKind.i64.wrap (48 + (Int.tmod iz 10))))] ++ el))] (fun P aq => ?_) ?_)
     ·simp only [aQ.down, simprocAttr, Ou, Ov, iY, @FB .i64 10 (by decide), @Fv aN 3 5 .u8 rfl rfl, (show ∀ s, dN aN s 67 1 [(0, .int .u8 (IntKind.u8.wrap (IntKind.i64.wrap (48 + (Int.tmod iz 10)))))] = some (.aE 1 [.int .u8 (IntKind.u8.wrap (IntKind.i64.wrap (48 + (Int.tmod iz 10))))], s) from fun s => by kernel_rfl), (@Fx aN 67 9 5 rfl rfl rfl).2.2, FA, Fy, gd, wU, wV]
      (try simp only [bw.down, simprocAttr, iY, @FB .i64 10 (by decide), @Fv aN 3 5 .u8 rfl rfl, (show ∀ s, dN aN s 67 1 [(0, .int .u8 (IntKind.u8.wrap (IntKind.i64.wrap (48 + (Int.tmod iz 10)))))] = some (.aE 1 [.int .u8 (IntKind.u8.wrap (IntKind.i64.wrap (48 + (Int.tmod iz 10))))], s) from fun s => by kernel_rfl), (@Fx aN 67 9 5 rfl rfl rfl).2.2, FA, Fy, gd, wU, wV] at aq ⊢); exact aq
     refine acJ (@MW .i64 10 (by decide)) [(0, .int .i64 (IntKind.i64.wrap (Int.tdiv iz 10))), (3, .str ([(nB (IntKind.i64.wrap (48 + (Int.tmod iz 10))))] ++ el))] ?_
     exact iE _ (dD _ (.inr ⟨_, bJ rfl, iU (IntKind.i64.wrap (Int.tdiv iz 10)) ([(nB (IntKind.i64.wrap (48 + (Int.tmod iz 10))))] ++ el) h⟩))
    ·refine bm (congrArg I.bool dr) ?_
     simp only [dr, Bool.not_true, Bool.not_false]
     refine ek (dK 0 _ (dP 0 _ (bD _ (fA _ (.inl ?_)))))
     obtain ⟨yv, gX, h⟩ := aW h
     (try simp only [List.length_append, List.length_cons, List.length_nil, List.length_map, List.length_replicate, Nat.zero_add, Nat.add_zero, Nat.reduceAdd] at gX)
     refine c5 (b3 [(2, .str (([109] : List UInt8) ++ el))] (fun P aq => ?_) ?_)
     ·simp only [aQ.down, simprocAttr, gX, wU, wV]
      (try simp only [bw.down, simprocAttr, gX, wU, wV] at aq ⊢); exact aq
     exact a1 (aI _ (.inl (a2 [.str (([109] : List UInt8) ++ el)] rfl (by cases aS h; rfl) (by decide) ba)))
  obtain ⟨n, h⟩ := ep h
  exact eD (.inr ⟨_, bJ rfl, i_ n a0 ([] : List UInt8) h⟩)
theorem aeL (a0 : List bz) (ad : Int) (r : Int × (List bz)) (h : ye a0 ad = some r) : aU aN 56 [.aE 2 (a0.map bK), .int .i64 ad] (.int .i64 r.1) [.aE 2 (r.2.map bK), .hole] := by
 refine aU.cQ (fx := [0]) cR [.tmp 4] [(0, .aE 2 (a0.map bK)), (1, .int .i64 ad)] Try.func56 rfl rfl aa5 (Nat.le_of_ble_eq_true rfl) rfl rfl (fun cO aI cM => ?_)
 refine ws _ ?_
 refine a7 (fun e5 cA bF aC => ?_)
 refine ws _ ?_
 refine cc (fun e9 fB cz bY bM => ?_)
 have hE : ∀ (n : Nat) (ch : List bz) (bj : Int) (aR : Int), qv n ch bj aR = some r → dY aN HP e9 (R [(0, .aE 2 (ch.map bK)), (1, .int .i64 bj), (5, .int .i64 aR)]) := by
  intro dj
  induction dj with
  | zero => intro ch bj aR h; cases (show none = some r from h)
  | succ dj hn =>
   intro ch bj aR h
   replace h : yd (qv dj) ch bj aR = some r := h
   refine eE (fun iC eS e4 bP => ?_)
   refine a7 (fun gY e_ ft cN => ?_)
   refine ws _ ?_
   rcases a8 h with ⟨bD, h⟩ | ⟨bD, h⟩
   ·refine bg (congrArg I.bool bD) ?_
    simp only [bD, Bool.not_true, Bool.not_false]
    refine bt (e_ _ (.inl ?_))
    refine a7 (fun fG dD dF dP => ?_)
    refine cc (fun gH dk dO cL dK => ?_)
    obtain ⟨ar, eA, h⟩ := aW h
    refine c5 (b3 [(0, .aE 2 ((List.set ch (Int.toNat aR) (bz.mk bj ar.Value)).map bK)), (1, .int .i64 bj), (5, .int .i64 aR)] (fun P aq => ?_) ?_)
    ·simp only [aQ.down, simprocAttr, lv.down, eA, df eA, e6, dT]
     (try simp only [bw.down, simprocAttr, bK, eA, df eA, e6, dT] at aq ⊢); exact aq
    refine ws [(0, .aE 2 ((List.set ch (Int.toNat aR) (bz.mk bj ar.Value)).map bK)), (1, .int .i64 (IntKind.i64.wrap (bj + 1))), (5, .int .i64 aR)] ?_
    obtain ⟨aC, gd, h⟩ := aW h
    refine c5 (b3 [(0, .aE 2 ((List.set (List.set ch (Int.toNat aR) (bz.mk bj ar.Value)) (Int.toNat aR) (bz.mk aC.Kind (IntKind.i64.wrap (bj + 1)))).map bK)), (1, .int .i64 (IntKind.i64.wrap (bj + 1))), (5, .int .i64 aR)] (fun P aq => ?_) ?_)
    ·simp only [aQ.down, simprocAttr, lv.down, gd, df gd, e6, dT]
     (try simp only [bw.down, simprocAttr, bK, gd, df gd, e6, dT] at aq ⊢); exact aq
    refine wr [(0, .aE 2 ((List.set (List.set ch (Int.toNat aR) (bz.mk bj ar.Value)) (Int.toNat aR) (bz.mk aC.Kind (IntKind.i64.wrap (bj + 1)))).map bK)), (1, .int .i64 (IntKind.i64.wrap ((IntKind.i64.wrap (bj + 1)) + 1))), (5, .int .i64 aR)] ?_
    refine dk _ (dD _ (.inl ?_))
    refine wr [(0, .aE 2 ((List.set (List.set ch (Int.toNat aR) (bz.mk bj ar.Value)) (Int.toNat aR) (bz.mk aC.Kind (IntKind.i64.wrap (bj + 1)))).map bK)), (1, .int .i64 (IntKind.i64.wrap ((IntKind.i64.wrap (bj + 1)) + 1))), (5, .int .i64 (IntKind.i64.wrap (aR + 1)))] ?_
    exact eS _ (.inr ⟨_, bJ rfl, hn (List.set (List.set ch (Int.toNat aR) (bz.mk bj ar.Value)) (Int.toNat aR) (bz.mk aC.Kind (IntKind.i64.wrap (bj + 1)))) (IntKind.i64.wrap ((IntKind.i64.wrap (bj + 1)) + 1)) (IntKind.i64.wrap (aR + 1)) h⟩)
   ·refine bm (congrArg I.bool bD) ?_
    simp only [bD, Bool.not_true, Bool.not_false]
    refine ek (cN 0 _ (bP 0 _ (bY _ (cA _ (.inl ?_)))))
    refine ws _ ?_
    exact a1 (aI _ (.inl (a2 [.int .i64 bj] rfl (by cases aS h; rfl) (by decide) (r1 (r2 (by cases aS h; rfl) rfl rfl rfl (nX (r3)))))))
 obtain ⟨n, h⟩ := ep h
 exact eD (.inr ⟨_, bJ rfl, hE n a0 ad 0 h⟩)
theorem aeM (a0 : List (List bz)) (ad : Int) (r : Int × (List (List bz))) (h : yg a0 ad = some r) : aU aN 41 [.aE 1 (a0.map eF), .int .i64 ad] (.int .i64 r.1) [.aE 1 (r.2.map eF), .hole] := by
 refine aU.cQ (fx := [0]) cR [.tmp 4] [(0, .aE 1 (a0.map eF)), (1, .int .i64 ad)] Try.func41 rfl rfl abc (Nat.le_of_ble_eq_true rfl) rfl rfl (fun cO aI cM => ?_)
 refine ws _ ?_
 refine a7 (fun e5 cA bF aC => ?_)
 refine ws _ ?_
 refine cc (fun e9 fB cz bY bM => ?_)
 have hE : ∀ (n : Nat) (ch : List (List bz)) (bj : Int) (aR : Int), qw n ch bj aR = some r → dY aN HQ e9 (R [(0, .aE 1 (ch.map eF)), (1, .int .i64 bj), (5, .int .i64 aR)]) := by
  intro dj
  induction dj with
  | zero => intro ch bj aR h; cases (show none = some r from h)
  | succ dj hn =>
   intro ch bj aR h
   replace h : yf (qw dj) ch bj aR = some r := h
   refine eE (fun iC eS e4 bP => ?_)
   refine a7 (fun gY e_ ft cN => ?_)
   refine ws _ ?_
   rcases a8 h with ⟨bD, h⟩ | ⟨bD, h⟩
   ·refine bg (congrArg I.bool bD) ?_
    simp only [bD, Bool.not_true, Bool.not_false]
    refine bt (e_ _ (.inl ?_))
    refine a7 (fun fG dD dF dP => ?_)
    refine cc (fun gH dk dO cL dK => ?_)
    obtain ⟨ar, eA, h⟩ := aW h
    obtain ⟨aC, eW, h⟩ := aW h
    refine jM (b3 [(0, .aE 1 ((List.set ch (Int.toNat aR) aC.2).map eF)), (1, .int .i64 aC.1), (5, .int .i64 aR)] (fun P aq => ?_) ?_)
    ·simp only [aQ.down, simprocAttr, eZ, fU, fy, fh, bK, eF, eA, df eA]
     refine qa [⟨.h 0 [Int.toNat aR], true, _, _⟩, ⟨.int .i64 bj, false, _, .hole⟩] (aeL ar bj _ eW) rfl rfl rfl (by simp only [aQ.down, simprocAttr, eZ, fU, fy, fh, bK, eF, eA, df eA, nU, nV, hL, hM, hN, eg, or_true, true_or, @eY _ bK bK (fun _ => BR _)]) rfl rfl (.inl rfl) ?_
     simp only [aQ.down, simprocAttr, eZ, fU, fy, fh, bK, eF, eA, df eA, nW, (Bc (df eA)), Bd]
     (try simp only [bw.down, simprocAttr, bK, eF, eA, df eA] at aq ⊢); exact aq
    refine dk _ (dD _ (.inl ?_))
    refine wr [(0, .aE 1 ((List.set ch (Int.toNat aR) aC.2).map eF)), (1, .int .i64 aC.1), (5, .int .i64 (IntKind.i64.wrap (aR + 1)))] ?_
    exact eS _ (.inr ⟨_, bJ rfl, hn (List.set ch (Int.toNat aR) aC.2) aC.1 (IntKind.i64.wrap (aR + 1)) h⟩)
   ·refine bm (congrArg I.bool bD) ?_
    simp only [bD, Bool.not_true, Bool.not_false]
    refine ek (cN 0 _ (bP 0 _ (bY _ (cA _ (.inl ?_)))))
    refine ws _ ?_
    exact a1 (aI _ (.inl (a2 [.int .i64 bj] rfl (by cases aS h; rfl) (by decide) (r1 (r2 (by cases aS h; rfl) rfl rfl rfl (nX (r3)))))))
 obtain ⟨n, h⟩ := ep h
 exact eD (.inr ⟨_, bJ rfl, hE n a0 ad 0 h⟩)
theorem aeN (a0 : List bn) (ad : Int) (r : Int × (List bn)) (h : yi a0 ad = some r) : aU aN 27 [.aE 4 (a0.map ew), .int .i64 ad] (.int .i64 r.1) [.aE 4 (r.2.map ew), .hole] := by
 refine aU.cQ (fx := [0]) cR [.tmp 4] [(0, .aE 4 (a0.map ew)), (1, .int .i64 ad)] Try.func27 rfl rfl abq (Nat.le_of_ble_eq_true rfl) rfl rfl (fun cO aI cM => ?_)
 refine ws _ ?_
 refine a7 (fun e5 cA bF aC => ?_)
 refine ws _ ?_
 refine cc (fun e9 fB cz bY bM => ?_)
 have hE : ∀ (n : Nat) (ch : List bn) (bj : Int) (aR : Int), qx n ch bj aR = some r → dY aN HR e9 (R [(0, .aE 4 (ch.map ew)), (1, .int .i64 bj), (5, .int .i64 aR)]) := by
  intro dj
  induction dj with
  | zero => intro ch bj aR h; cases (show none = some r from h)
  | succ dj hn =>
   intro ch bj aR h
   replace h : yh (qx dj) ch bj aR = some r := h
   refine eE (fun iC eS e4 bP => ?_)
   refine a7 (fun gY e_ ft cN => ?_)
   refine ws _ ?_
   rcases a8 h with ⟨bD, h⟩ | ⟨bD, h⟩
   ·refine bg (congrArg I.bool bD) ?_
    simp only [bD, Bool.not_true, Bool.not_false]
    refine bt (e_ _ (.inl ?_))
    refine a7 (fun fG dD dF dP => ?_)
    refine cc (fun gH dk dO cL dK => ?_)
    obtain ⟨ar, eA, h⟩ := aW h
    refine c5 (b3 [(0, .aE 4 ((List.set ch (Int.toNat aR) (bn.mk bj ar.Number ar.Name ar.b4)).map ew)), (1, .int .i64 bj), (5, .int .i64 aR)] (fun P aq => ?_) ?_)
    ·simp only [aQ.down, simprocAttr, qI.down, eA, df eA, e6, dT]
     (try simp only [bw.down, simprocAttr, yt.down, eA, df eA, e6, dT] at aq ⊢); exact aq
    refine ws [(0, .aE 4 ((List.set ch (Int.toNat aR) (bn.mk bj ar.Number ar.Name ar.b4)).map ew)), (1, .int .i64 (IntKind.i64.wrap (bj + 1))), (5, .int .i64 aR)] ?_
    obtain ⟨aC, gd, h⟩ := aW h
    refine c5 (b3 [(0, .aE 4 ((List.set (List.set ch (Int.toNat aR) (bn.mk bj ar.Number ar.Name ar.b4)) (Int.toNat aR) (bn.mk aC.Kind (IntKind.i64.wrap (bj + 1)) aC.Name aC.b4)).map ew)), (1, .int .i64 (IntKind.i64.wrap (bj + 1))), (5, .int .i64 aR)] (fun P aq => ?_) ?_)
    ·simp only [aQ.down, simprocAttr, qI.down, gd, df gd, e6, dT]
     (try simp only [bw.down, simprocAttr, yt.down, gd, df gd, e6, dT] at aq ⊢); exact aq
    refine ws [(0, .aE 4 ((List.set (List.set ch (Int.toNat aR) (bn.mk bj ar.Number ar.Name ar.b4)) (Int.toNat aR) (bn.mk aC.Kind (IntKind.i64.wrap (bj + 1)) aC.Name aC.b4)).map ew)), (1, .int .i64 (IntKind.i64.wrap ((IntKind.i64.wrap (bj + 1)) + 1))), (5, .int .i64 aR)] ?_
    obtain ⟨aX, gX, h⟩ := aW h
    obtain ⟨bM, iD, h⟩ := aW h
    refine c5 (b3 [(0, .aE 4 ((List.set (List.set (List.set ch (Int.toNat aR) (bn.mk bj ar.Number ar.Name ar.b4)) (Int.toNat aR) (bn.mk aC.Kind (IntKind.i64.wrap (bj + 1)) aC.Name aC.b4)) (Int.toNat aR) (bn.mk bM.Kind bM.Number aX bM.b4)).map ew)), (1, .int .i64 (IntKind.i64.wrap ((IntKind.i64.wrap (bj + 1)) + 1))), (5, .int .i64 aR)] (fun P aq => ?_) ?_)
    ·simp only [aQ.down, simprocAttr, qI.down, iD, df iD, e6, dT]
     refine fv (yL (IntKind.i64.wrap ((IntKind.i64.wrap (bj + 1)) + 1)) _ gX) rfl rfl rfl rfl (.inl (by rfl)) ?_
     simp only [aQ.down, simprocAttr, qI.down, iD, df iD, e6, dT]
     (try simp only [bw.down, simprocAttr, yt.down, iD, df iD, e6, dT] at aq ⊢); exact aq
    refine ws [(0, .aE 4 ((List.set (List.set (List.set ch (Int.toNat aR) (bn.mk bj ar.Number ar.Name ar.b4)) (Int.toNat aR) (bn.mk aC.Kind (IntKind.i64.wrap (bj + 1)) aC.Name aC.b4)) (Int.toNat aR) (bn.mk bM.Kind bM.Number aX bM.b4)).map ew)), (1, .int .i64 (IntKind.i64.wrap ((IntKind.i64.wrap ((IntKind.i64.wrap (bj + 1)) + 1)) + 1))), (5, .int .i64 aR)] ?_
    obtain ⟨bP, iB, h⟩ := aW h
    obtain ⟨cN, n4, h⟩ := aW h
    refine jM (b3 [(0, .aE 4 ((List.set (List.set (List.set (List.set ch (Int.toNat aR) (bn.mk bj ar.Number ar.Name ar.b4)) (Int.toNat aR) (bn.mk aC.Kind (IntKind.i64.wrap (bj + 1)) aC.Name aC.b4)) (Int.toNat aR) (bn.mk bM.Kind bM.Number aX bM.b4)) (Int.toNat aR) (bn.mk bP.Kind bP.Number bP.Name cN.2)).map ew)), (1, .int .i64 cN.1), (5, .int .i64 aR)] (fun P aq => ?_) ?_)
    ·simp only [aQ.down, simprocAttr, qI.down, iB, df iB]
     refine qa [⟨.h 0 [Int.toNat aR, 3], true, _, _⟩, ⟨.int .i64 (IntKind.i64.wrap ((IntKind.i64.wrap ((IntKind.i64.wrap (bj + 1)) + 1)) + 1)), false, _, .hole⟩] (aeM bP.b4 (IntKind.i64.wrap ((IntKind.i64.wrap ((IntKind.i64.wrap (bj + 1)) + 1)) + 1)) _ n4) rfl rfl rfl (by simp only [aQ.down, simprocAttr, qI.down, iB, df iB, nU, nV, hL, hM, hN, eg, or_true, true_or, @eY _ eF dw (fun _ => BU _)]) rfl rfl (.inl rfl) ?_
     simp only [aQ.down, simprocAttr, qI.down, iB, df iB, nW, (Bc (df iB)), Bd]
     (try simp only [bw.down, simprocAttr, yt.down, iB, df iB] at aq ⊢); exact aq
    refine dk _ (dD _ (.inl ?_))
    refine wr [(0, .aE 4 ((List.set (List.set (List.set (List.set ch (Int.toNat aR) (bn.mk bj ar.Number ar.Name ar.b4)) (Int.toNat aR) (bn.mk aC.Kind (IntKind.i64.wrap (bj + 1)) aC.Name aC.b4)) (Int.toNat aR) (bn.mk bM.Kind bM.Number aX bM.b4)) (Int.toNat aR) (bn.mk bP.Kind bP.Number bP.Name cN.2)).map ew)), (1, .int .i64 cN.1), (5, .int .i64 (IntKind.i64.wrap (aR + 1)))] ?_
    exact eS _ (.inr ⟨_, bJ rfl, hn (List.set (List.set (List.set (List.set ch (Int.toNat aR) (bn.mk bj ar.Number ar.Name ar.b4)) (Int.toNat aR) (bn.mk aC.Kind (IntKind.i64.wrap (bj + 1)) aC.Name aC.b4)) (Int.toNat aR) (bn.mk bM.Kind bM.Number aX bM.b4)) (Int.toNat aR) (bn.mk bP.Kind bP.Number bP.Name cN.2)) cN.1 (IntKind.i64.wrap (aR + 1)) h⟩)
   ·refine bm (congrArg I.bool bD) ?_
    simp only [bD, Bool.not_true, Bool.not_false]
    refine ek (cN 0 _ (bP 0 _ (bY _ (cA _ (.inl ?_)))))
    refine ws _ ?_
    exact a1 (aI _ (.inl (a2 [.int .i64 bj] rfl (by cases aS h; rfl) (by decide) (r1 (r2 (by cases aS h; rfl) rfl rfl rfl (nX (r3)))))))
 obtain ⟨n, h⟩ := ep h
 exact eD (.inr ⟨_, bJ rfl, hE n a0 ad 0 h⟩)
theorem aeO (a0 : List aV) (ad : Int) (r : Int × (List aV)) (h : yk a0 ad = some r) : aU aN 11 [.aE 3 (a0.map e8), .int .i64 ad] (.int .i64 r.1) [.aE 3 (r.2.map e8), .hole] := by
 refine aU.cQ (fx := [0]) cR [.tmp 4] [(0, .aE 3 (a0.map e8)), (1, .int .i64 ad)] Try.func11 rfl rfl su (Nat.le_of_ble_eq_true rfl) rfl rfl (fun cO aI cM => ?_)
 refine ws _ ?_
 refine a7 (fun e5 cA bF aC => ?_)
 refine ws _ ?_
 refine cc (fun e9 fB cz bY bM => ?_)
 have hE : ∀ (n : Nat) (ch : List aV) (bj : Int) (aR : Int), qy n ch bj aR = some r → dY aN HS e9 (R [(0, .aE 3 (ch.map e8)), (1, .int .i64 bj), (5, .int .i64 aR)]) := by
  intro dj
  induction dj with
  | zero => intro ch bj aR h; cases (show none = some r from h)
  | succ dj hn =>
   intro ch bj aR h
   replace h : yj (qy dj) ch bj aR = some r := h
   refine eE (fun iC eS e4 bP => ?_)
   refine a7 (fun gY e_ ft cN => ?_)
   refine ws _ ?_
   rcases a8 h with ⟨bD, h⟩ | ⟨bD, h⟩
   ·refine bg (congrArg I.bool bD) ?_
    simp only [bD, Bool.not_true, Bool.not_false]
    refine bt (e_ _ (.inl ?_))
    refine a7 (fun fG dD dF dP => ?_)
    refine cc (fun gH dk dO cL dK => ?_)
    obtain ⟨ar, eA, h⟩ := aW h
    obtain ⟨aC, eW, h⟩ := aW h
    refine c5 (b3 [(0, .aE 3 ((List.set ch (Int.toNat aR) (aV.mk ar aC.cS aC.Body)).map e8)), (1, .int .i64 bj), (5, .int .i64 aR)] (fun P aq => ?_) ?_)
    ·simp only [aQ.down, simprocAttr, sv.down, eW, df eW, e6, dT]
     refine fv (yL bj _ eA) rfl rfl rfl rfl (.inl (by rfl)) ?_
     simp only [aQ.down, simprocAttr, sv.down, eW, df eW, e6, dT]
     (try simp only [bw.down, simprocAttr, bK, e8, ew, eF, eW, df eW, e6, dT] at aq ⊢); exact aq
    refine ws [(0, .aE 3 ((List.set ch (Int.toNat aR) (aV.mk ar aC.cS aC.Body)).map e8)), (1, .int .i64 (IntKind.i64.wrap (bj + 1))), (5, .int .i64 aR)] ?_
    obtain ⟨aX, dm, h⟩ := aW h
    refine c5 (b3 [(0, .aE 3 ((List.set (List.set ch (Int.toNat aR) (aV.mk ar aC.cS aC.Body)) (Int.toNat aR) (aV.mk aX.Name (IntKind.i64.wrap (bj + 1)) aX.Body)).map e8)), (1, .int .i64 (IntKind.i64.wrap (bj + 1))), (5, .int .i64 aR)] (fun P aq => ?_) ?_)
    ·simp only [aQ.down, simprocAttr, sv.down, dm, df dm, e6, dT]
     (try simp only [bw.down, simprocAttr, bK, e8, ew, eF, dm, df dm, e6, dT] at aq ⊢); exact aq
    refine ws [(0, .aE 3 ((List.set (List.set ch (Int.toNat aR) (aV.mk ar aC.cS aC.Body)) (Int.toNat aR) (aV.mk aX.Name (IntKind.i64.wrap (bj + 1)) aX.Body)).map e8)), (1, .int .i64 (IntKind.i64.wrap ((IntKind.i64.wrap (bj + 1)) + 1))), (5, .int .i64 aR)] ?_
    obtain ⟨bM, iD, h⟩ := aW h
    obtain ⟨bP, nu, h⟩ := aW h
    refine jM (b3 [(0, .aE 3 ((List.set (List.set (List.set ch (Int.toNat aR) (aV.mk ar aC.cS aC.Body)) (Int.toNat aR) (aV.mk aX.Name (IntKind.i64.wrap (bj + 1)) aX.Body)) (Int.toNat aR) (aV.mk bM.Name bM.cS bP.2)).map e8)), (1, .int .i64 bP.1), (5, .int .i64 aR)] (fun P aq => ?_) ?_)
    ·simp only [aQ.down, simprocAttr, sv.down, iD, df iD]
     refine qa [⟨.h 0 [Int.toNat aR, 2], true, _, _⟩, ⟨.int .i64 (IntKind.i64.wrap ((IntKind.i64.wrap (bj + 1)) + 1)), false, _, .hole⟩] (aeN bM.Body (IntKind.i64.wrap ((IntKind.i64.wrap (bj + 1)) + 1)) _ nu) rfl rfl rfl (by simp only [aQ.down, simprocAttr, sv.down, iD, df iD, nU, nV, hL, hM, hN, eg, or_true, true_or, @eY _ ew bR (fun _ => BV _)]) rfl rfl (.inl rfl) ?_
     simp only [aQ.down, simprocAttr, sv.down, iD, df iD, nW, (Bc (df iD)), Bd]
     (try simp only [bw.down, simprocAttr, bK, e8, ew, eF, iD, df iD] at aq ⊢); exact aq
    refine dk _ (dD _ (.inl ?_))
    refine wr [(0, .aE 3 ((List.set (List.set (List.set ch (Int.toNat aR) (aV.mk ar aC.cS aC.Body)) (Int.toNat aR) (aV.mk aX.Name (IntKind.i64.wrap (bj + 1)) aX.Body)) (Int.toNat aR) (aV.mk bM.Name bM.cS bP.2)).map e8)), (1, .int .i64 bP.1), (5, .int .i64 (IntKind.i64.wrap (aR + 1)))] ?_
    exact eS _ (.inr ⟨_, bJ rfl, hn (List.set (List.set (List.set ch (Int.toNat aR) (aV.mk ar aC.cS aC.Body)) (Int.toNat aR) (aV.mk aX.Name (IntKind.i64.wrap (bj + 1)) aX.Body)) (Int.toNat aR) (aV.mk bM.Name bM.cS bP.2)) bP.1 (IntKind.i64.wrap (aR + 1)) h⟩)
   ·refine bm (congrArg I.bool bD) ?_
    simp only [bD, Bool.not_true, Bool.not_false]
    refine ek (cN 0 _ (bP 0 _ (bY _ (cA _ (.inl ?_)))))
    refine ws _ ?_
    exact a1 (aI _ (.inl (a2 [.int .i64 bj] rfl (by cases aS h; rfl) (by decide) (r1 (r2 (by cases aS h; rfl) rfl rfl rfl (nX (r3)))))))
 obtain ⟨n, h⟩ := ep h
 exact eD (.inr ⟨_, bJ rfl, hE n a0 ad 0 h⟩)
theorem aeP (a0 : List (List UInt8)) (ad : Int) (r : Int × (List (List UInt8))) (h : ym a0 ad = some r) : aU aN 17 [.aE 1 (a0.map bf), .int .i64 ad] (.int .i64 r.1) [.aE 1 (r.2.map bf), .hole] := by
 refine aU.cQ (fx := [0]) cR [.tmp 4] [(0, .aE 1 (a0.map bf)), (1, .int .i64 ad)] Try.func17 rfl rfl qF (Nat.le_of_ble_eq_true rfl) rfl rfl (fun cO aI cM => ?_)
 refine ws _ ?_
 refine a7 (fun e5 cA bF aC => ?_)
 refine ws _ ?_
 refine cc (fun e9 fB cz bY bM => ?_)
 have hE : ∀ (n : Nat) (ch : List (List UInt8)) (bj : Int) (aR : Int), qz n ch bj aR = some r → dY aN HT e9 (R [(0, .aE 1 (ch.map bf)), (1, .int .i64 bj), (5, .int .i64 aR)]) := by
  intro dj
  induction dj with
  | zero => intro ch bj aR h; cases (show none = some r from h)
  | succ dj hn =>
   intro ch bj aR h
   replace h : yl (qz dj) ch bj aR = some r := h
   refine eE (fun iC eS e4 bP => ?_)
   refine a7 (fun gY e_ ft cN => ?_)
   refine ws _ ?_
   rcases a8 h with ⟨bD, h⟩ | ⟨bD, h⟩
   ·refine bg (congrArg I.bool bD) ?_
    simp only [bD, Bool.not_true, Bool.not_false]
    refine bt (e_ _ (.inl ?_))
    refine a7 (fun fG dD dF dP => ?_)
    refine cc (fun gH dk dO cL dK => ?_)
    obtain ⟨ar, eA, h⟩ := aW h
    obtain ⟨aC, eW, h⟩ := aW h
    refine c5 (b3 [(0, .aE 1 ((List.set ch (Int.toNat aR) ar).map bf)), (1, .int .i64 bj), (5, .int .i64 aR)] (fun P aq => ?_) ?_)
    ·simp only [aQ.down, simprocAttr, ka.down, eW, df eW, e6, dT]
     refine fv (yL bj _ eA) rfl rfl rfl rfl (.inl (by rfl)) ?_
     simp only [aQ.down, simprocAttr, ka.down, eW, df eW, e6, dT]
     (try simp only [bw.down, simprocAttr, bf, eW, df eW, e6, dT] at aq ⊢); exact aq
    refine wr [(0, .aE 1 ((List.set ch (Int.toNat aR) ar).map bf)), (1, .int .i64 (IntKind.i64.wrap (bj + 1))), (5, .int .i64 aR)] ?_
    refine dk _ (dD _ (.inl ?_))
    refine wr [(0, .aE 1 ((List.set ch (Int.toNat aR) ar).map bf)), (1, .int .i64 (IntKind.i64.wrap (bj + 1))), (5, .int .i64 (IntKind.i64.wrap (aR + 1)))] ?_
    exact eS _ (.inr ⟨_, bJ rfl, hn (List.set ch (Int.toNat aR) ar) (IntKind.i64.wrap (bj + 1)) (IntKind.i64.wrap (aR + 1)) h⟩)
   ·refine bm (congrArg I.bool bD) ?_
    simp only [bD, Bool.not_true, Bool.not_false]
    refine ek (cN 0 _ (bP 0 _ (bY _ (cA _ (.inl ?_)))))
    refine ws _ ?_
    exact a1 (aI _ (.inl (a2 [.int .i64 bj] rfl (by cases aS h; rfl) (by decide) (r1 (r2 (by cases aS h; rfl) rfl rfl rfl (nX (r3)))))))
 obtain ⟨n, h⟩ := ep h
 exact eD (.inr ⟨_, bJ rfl, hE n a0 ad 0 h⟩)
set_option maxHeartbeats 800000 in
theorem Ih (a0 : List (List UInt8)) (ad : Int) (r : Int) (h : uO a0 ad = some r) : aU aN 18 [.slice (a0.map bf), .int .i64 ad] (.int .i64 r) [] := by
 refine aU.cQ (fx := [0]) cR [.tmp 4] [(0, .slice (a0.map bf)), (1, .int .i64 ad)] Try.func18 rfl rfl abV (Nat.le_of_ble_eq_true rfl) rfl rfl (fun cO aI cM => ?_)
 refine ws _ ?_
 refine a7 (fun e5 cA bF aC => ?_)
 refine ws _ ?_
 refine cc (fun e9 fB cz bY bM => ?_)
 have hE : ∀ (n : Nat) (bj : Int) (aR : Int), qA a0 n bj aR = some r → dY aN HU e9 (R [(0, .slice (a0.map bf)), (1, .int .i64 bj), (5, .int .i64 aR)]) := by
  intro dj
  induction dj with
  | zero => intro bj aR h; cases (show none = some r from h)
  | succ dj hn =>
   intro bj aR h
   replace h : yn (qA a0 dj) a0 bj aR = some r := h
   refine eE (fun iC eS e4 bP => ?_)
   refine a7 (fun gY e_ ft cN => ?_)
   refine ws _ ?_
   rcases a8 h with ⟨bD, h⟩ | ⟨bD, h⟩
   ·refine bg (congrArg I.bool bD) ?_
    simp only [bD, Bool.not_true, Bool.not_false]
    refine bt (e_ _ (.inl ?_))
    refine a7 (fun fG dD dF dP => ?_)
    refine cc (fun gH dk dO cL dK => ?_)
    refine a7 (fun kW hk kc en => ?_)
    obtain ⟨ar, eW, h⟩ := aW h
    obtain ⟨aC, gZ, h⟩ := aW h
    refine kQ rfl (kR [(0, .slice (a0.map bf)), (1, .int .i64 bj), (5, .int .i64 aR), (18, .bool (!(ar == aC)))] (fun P aq => ?_) ?_)
    ·simp only [hh.down, simprocAttr, ka.down, eW]
     refine nn (yL bj _ gZ) rfl rfl rfl rfl (.inl (by rfl)) ?_
     simp only [hh.down, simprocAttr, ka.down, eW]
     refine ⟨kS (by kernel_rfl), ?_⟩
     (try simp only [bw.down, simprocAttr, bf, eW] at aq ⊢); exact aq
    rcases a8 h with ⟨dL, h⟩ | ⟨dL, h⟩
    ·refine bg (congrArg I.bool dL) ?_
     simp only [dL, Bool.not_true, Bool.not_false]
     refine ws _ ?_
     exact a1 (kc _ (dO _ (dF _ (e4 _ (cz _ (bF _ (aI _ (.inl (a2 [.int .i64 (-1)] rfl (by cases aS h; rfl) (by decide) ba)))))))))
    ·refine bm (congrArg I.bool dL) ?_
     simp only [dL, Bool.not_true, Bool.not_false]
     refine bt (hk _ (.inl ?_))
     refine wr _ ?_
     refine dk _ (dD _ (.inl ?_))
     refine wr _ ?_
     exact eS _ (.inr ⟨_, bJ rfl, hn (IntKind.i64.wrap (bj + 1)) (IntKind.i64.wrap (aR + 1)) h⟩)
   ·refine bm (congrArg I.bool bD) ?_
    simp only [bD, Bool.not_true, Bool.not_false]
    refine ek (cN 0 _ (bP 0 _ (bY _ (cA _ (.inl ?_)))))
    refine ws _ ?_
    exact a1 (aI _ (.inl (a2 [.int .i64 bj] rfl (by cases aS h; rfl) (by decide) ba)))
 obtain ⟨n, h⟩ := ep h
 exact eD (.inr ⟨_, bJ rfl, hE n ad 0 h⟩)
end Go.Proofs.Ytbemmmimelklkaa
