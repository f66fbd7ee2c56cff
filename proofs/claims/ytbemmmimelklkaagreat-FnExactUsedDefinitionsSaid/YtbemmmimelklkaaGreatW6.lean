/- Part of a proof that a law returns true for every input. No condition. -/
import Derived.Test.YtbemmmimelklkaaGreatW1x6
namespace Go.Proofs.YtbemmmimelklkaaGreat
open Go Go.c5 Go.eR
set_option maxRecDepth 100000
set_option maxHeartbeats 2400000
set_option linter.unusedSimpArgs false
set_option linter.unusedVariables false
theorem atM (a0 : List Int) (r : Int) (h : Gq a0 = some r) : aQ aG 209 [.slice (a0.map aU), .fn 179 []] (.int .i64 r) [] := by
 refine aQ.b7 (fx := [0, 1]) b8 [.tmp 4] [(0, .slice (a0.map aU)), (1, .fn 179 [])] Tryz.func209 rfl rfl ajj (Nat.le_of_ble_eq_true rfl) rfl rfl (fun b1 an b2 => ?_)
 refine ws _ ?_
 refine aM (fun ew ca bw au => ?_)
 refine ws _ ?_
 refine bK (fun ed dW cj bz bj => ?_)
 have fz : ∀ (n : Nat) (cG : Int), vw a0 n cG = some r → du aG Nb ed (aa [(0, .slice (a0.map aU)), (1, .fn 179 []), (7, .int .i64 (a0.length : Int)), (8, .int .i64 cG)]) := by
  intro cC
  induction cC with
  | zero => intro cG h; cases (show none = some r from h)
  | succ cC fm =>
   intro cG h
   replace h : B_ (vw a0 cC) a0 cG = some r := h
   refine dH (fun gM d_ dV bp => ?_)
   refine ws _ ?_
   refine aM (fun g3 dM eM cZ => ?_)
   rcases aS h with ⟨bf, h⟩ | ⟨bf, h⟩
   ·refine aZ (congrArg I.bool bf) ?_
    simp only [bf, al.down]
    refine a_ (dM _ (.inl ?_))
    refine aM (fun eG c3 cD dQ => ?_)
    refine bK (fun e8 cq cP b5 de => ?_)
    refine ws _ ?_
    obtain ⟨ag, eu, h⟩ := aL h
    obtain ⟨au, er, h⟩ := aL h
    refine iV eu (atL ag _ er) _ ?_
    rcases aS h with ⟨cu, h⟩ | ⟨cu, h⟩
    ·refine aZ (congrArg I.bool cu) ?_
     simp only [cu, al.down]
     refine ws _ ?_
     exact aJ (cP _ (cD _ (dV _ (cj _ (bw _ (an _ (.inl (aK [.int .i64 cG] rfl (by cases aI h; rfl) (by decide) aO))))))))
    ·refine a6 (congrArg I.bool cu) ?_
     simp only [cu, al.down]
     refine a_ (cq _ (c3 _ (.inl ?_)))
     refine wr _ ?_
     exact d_ _ (.inr ⟨_, br rfl, fm (IntKind.i64.wrap (cG + 1)) h⟩)
   ·refine a6 (congrArg I.bool bf) ?_
    simp only [bf, al.down]
    refine dL (cZ 0 _ (bp 0 _ (bz _ (ca _ (.inl ?_)))))
    refine ws _ ?_
    exact aJ (an _ (.inl (aK [.int .i64 (-1)] rfl (by cases aI h; rfl) (by decide) aO)))
 obtain ⟨n, h⟩ := dx h
 exact dG (.inr ⟨_, br rfl, fz n 0 h⟩)
theorem atN (a0 : List Int) (r : Bool) (h : Gr a0 = some r) : aQ aG 178 [.slice (a0.map aU), .fn 179 []] (.bool r) [] := by
 refine aQ.b7 (fx := [0, 1]) b8 [.tmp 4] [(0, .slice (a0.map aU)), (1, .fn 179 [])] Tryz.func178 rfl rfl ajm (Nat.le_of_ble_eq_true rfl) rfl rfl (fun b1 an b2 => ?_)
 refine ws _ ?_
 obtain ⟨ag, a8, h⟩ := aL h
 refine dZ (atM a0 _ a8) _ ?_
 exact aJ (an _ (.inl (aK [.bool (decide (0 ≤ ag))] rfl (by cases aI h; rfl) (by decide) aO)))
theorem atO (a0 : List Int) (r : Bool) (h : Ca a0 = some r) : aQ aG 146 [.slice (a0.map aU)] (.bool r) [] := by
 refine aQ.b7 (fx := [0]) b8 [.tmp 2] [(0, .slice (a0.map aU))] Tryz.func146 rfl rfl ajp (Nat.le_of_ble_eq_true rfl) rfl rfl (fun b1 an b2 => ?_)
 refine ws _ ?_
 obtain ⟨ag, a8, h⟩ := aL h
 refine dZ (atN a0 _ a8) _ ?_
 exact aJ (an _ (.inl (aK [.bool (!ag)] rfl (by cases aI h; rfl) (by decide) aO)))
theorem atP (a0 : List bg) (U : dc) (r : Bool) (h : Cb a0 U = some r) : aQ aG 130 [.slice (a0.map bB), ez U] (.bool r) [] := by
 refine aQ.b7 (fx := [0, 1]) b8 [.tmp 4] [(0, .slice (a0.map bB)), (1, ez U)] Tryz.func130 rfl rfl ajs (Nat.le_of_ble_eq_true rfl) rfl rfl (fun b1 an b2 => ?_)
 refine ws _ ?_
 obtain ⟨ag, a8, h⟩ := aL h
 rcases aS h with ⟨bz, h⟩ | ⟨bz, h⟩
 ·obtain ⟨au, da, h⟩ := aL h
  rcases aS h with ⟨cM, h⟩ | ⟨cM, h⟩
  ·obtain ⟨a2, cr, h⟩ := aL h
   refine hf rfl (hg [(4, .bool a2)] (fun P aj => ?_) ?_)
   ·simp only [dD.down, simprocAttr, tg.down, bz, da, cM]
    refine iS (zb U.fe (a0.length : Int) _ a8) rfl rfl rfl rfl (.inl (by rfl)) ?_
    simp only [dD.down, simprocAttr, tg.down, bz, da, cM]
    refine mv (atO U.fq _ cr) rfl rfl rfl rfl (.inl (by rfl)) ?_
    simp only [dD.down, simprocAttr, tg.down, bz, da, cM]
    refine ⟨gX (by kernel_rfl), ?_⟩
    (try simp only [bn.down, simprocAttr, GU.down, bz, da, cM] at aj ⊢); exact aj
   exact aJ (an _ (.inl (aK [.bool a2] rfl (by cases aI h; rfl) (by decide) aO)))
  ·refine hf rfl (hg [(4, .bool false)] (fun P aj => ?_) ?_)
   ·simp only [dD.down, simprocAttr, tg.down, bz, da, cM]
    refine iS (zb U.fe (a0.length : Int) _ a8) rfl rfl rfl rfl (.inl (by rfl)) ?_
    simp only [dD.down, simprocAttr, tg.down, bz, da, cM]
    refine ⟨gX (by kernel_rfl), ?_⟩
    (try simp only [bn.down, simprocAttr, GU.down, bz, da, cM] at aj ⊢); exact aj
   exact aJ (an _ (.inl (aK [.bool false] rfl (by cases aI h; rfl) (by decide) aO)))
 ·refine hf rfl (hg [(4, .bool false)] (fun P aj => ?_) ?_)
  ·simp only [dD.down, simprocAttr, tg.down, bz]
   refine iS (zb U.fe (a0.length : Int) _ a8) rfl rfl rfl rfl (.inl (by rfl)) ?_
   simp only [dD.down, simprocAttr, tg.down, bz]
   refine ⟨gX (by kernel_rfl), ?_⟩
   (try simp only [bn.down, simprocAttr, GU.down, bz] at aj ⊢); exact aj
  exact aJ (an _ (.inl (aK [.bool false] rfl (by cases aI h; rfl) (by decide) aO)))
theorem atQ (a0 : dc) (U : dv) (r : Bool) (h : Gs a0 U = some r) : aQ aG 129 [ez a0, .ref (ep U)] (.bool r) [] := by
 refine aQ.b7 (fx := [0, 1]) b8 [.tmp 3] [(0, ez a0), (1, .ref (ep U))] Tryz.func129 rfl rfl ajv (Nat.le_of_ble_eq_true rfl) rfl rfl (fun b1 an b2 => ?_)
 refine ws _ ?_
 obtain ⟨ag, a8, h⟩ := aL h
 refine dZ (atP U.b3 a0 _ a8) _ ?_
 exact aJ (an _ (.inl (aK [.bool (!ag)] rfl (by cases aI h; rfl) (by decide) aO)))
theorem atS (a0 : List dc) (U : dv) (r : Int) (h : Gt a0 U = some r) : aQ aG 169 [.slice (a0.map ez), .fn 129 [.ref (ep U)]] (.int .i64 r) [] := by
 refine aQ.b7 (fx := [0, 1]) b8 [.tmp 4] [(0, .slice (a0.map ez)), (1, .fn 129 [.ref (ep U)])] Tryz.func169 rfl rfl ajG (Nat.le_of_ble_eq_true rfl) rfl rfl (fun b1 an b2 => ?_)
 refine ws _ ?_
 refine aM (fun ew ca bw au => ?_)
 refine ws _ ?_
 refine bK (fun ed dW cj bz bj => ?_)
 have fz : ∀ (n : Nat) (cG : Int), vx a0 U n cG = some r → du aG Nc ed (aa [(0, .slice (a0.map ez)), (1, .fn 129 [.ref (ep U)]), (7, .int .i64 (a0.length : Int)), (8, .int .i64 cG)]) := by
  intro cC
  induction cC with
  | zero => intro cG h; cases (show none = some r from h)
  | succ cC fm =>
   intro cG h
   replace h : Cc (vx a0 U cC) a0 U cG = some r := h
   refine dH (fun gM d_ dV bp => ?_)
   refine ws _ ?_
   refine aM (fun g3 dM eM cZ => ?_)
   rcases aS h with ⟨bf, h⟩ | ⟨bf, h⟩
   ·refine aZ (congrArg I.bool bf) ?_
    simp only [bf, al.down]
    refine a_ (dM _ (.inl ?_))
    refine aM (fun eG c3 cD dQ => ?_)
    refine bK (fun e8 cq cP b5 de => ?_)
    refine ws _ ?_
    obtain ⟨ag, eu, h⟩ := aL h
    obtain ⟨au, er, h⟩ := aL h
    refine iV eu (atQ ag U _ er) _ ?_
    rcases aS h with ⟨cu, h⟩ | ⟨cu, h⟩
    ·refine aZ (congrArg I.bool cu) ?_
     simp only [cu, al.down]
     refine ws _ ?_
     exact aJ (cP _ (cD _ (dV _ (cj _ (bw _ (an _ (.inl (aK [.int .i64 cG] rfl (by cases aI h; rfl) (by decide) aO))))))))
    ·refine a6 (congrArg I.bool cu) ?_
     simp only [cu, al.down]
     refine a_ (cq _ (c3 _ (.inl ?_)))
     refine wr _ ?_
     exact d_ _ (.inr ⟨_, br rfl, fm (IntKind.i64.wrap (cG + 1)) h⟩)
   ·refine a6 (congrArg I.bool bf) ?_
    simp only [bf, al.down]
    refine dL (cZ 0 _ (bp 0 _ (bz _ (ca _ (.inl ?_)))))
    refine ws _ ?_
    exact aJ (an _ (.inl (aK [.int .i64 (-1)] rfl (by cases aI h; rfl) (by decide) aO)))
 obtain ⟨n, h⟩ := dx h
 exact dG (.inr ⟨_, br rfl, fz n 0 h⟩)
theorem atT (a0 : List dc) (U : dv) (r : Bool) (h : Cd a0 U = some r) : aQ aG 128 [.slice (a0.map ez), .fn 129 [.ref (ep U)]] (.bool r) [] := by
 refine aQ.b7 (fx := [0, 1]) b8 [.tmp 4] [(0, .slice (a0.map ez)), (1, .fn 129 [.ref (ep U)])] Tryz.func128 rfl rfl ajJ (Nat.le_of_ble_eq_true rfl) rfl rfl (fun b1 an b2 => ?_)
 refine ws _ ?_
 obtain ⟨ag, a8, h⟩ := aL h
 refine dZ (atS a0 U _ a8) _ ?_
 exact aJ (an _ (.inl (aK [.bool (decide (0 ≤ ag))] rfl (by cases aI h; rfl) (by decide) aO)))
theorem N8 (a0 : List UInt8) (r : Bool) (h : cmp_isNaN_string a0 = some r) : aQ aG 225 [.str a0] (.bool r) [] := by
 refine aQ.b7 (fx := [0]) b8 [.tmp 2] [(0, .str a0)] Tryz.func225 rfl rfl ajM (Nat.le_of_ble_eq_true rfl) rfl rfl (fun b1 an b2 => ?_)
 refine ws _ ?_
 refine ws _ ?_
 exact aJ (an _ (.inl (aK [.bool false] rfl (by cases aI h; rfl) (by decide) aO)))
theorem atU (a0 : List UInt8) (U : List UInt8) (r : Int) (h : Ce a0 U = some r) : aQ aG 222 [.str a0, .str U] (.int .i64 r) [] := by
 refine aQ.b7 (fx := [0, 1]) b8 [.tmp 4] [(0, .str a0), (1, .str U)] Tryz.func222 rfl rfl aj6 (Nat.le_of_ble_eq_true rfl) rfl rfl (fun b1 an b2 => ?_)
 refine ws _ ?_
 obtain ⟨ag, a8, h⟩ := aL h
 refine dZ (N8 a0 _ a8) _ ?_
 obtain ⟨au, da, h⟩ := aL h
 refine dZ (N8 U _ da) _ ?_
 refine aM (fun e_ dN dX bU => ?_)
 refine ws _ ?_
 rcases aS h with ⟨bf, h⟩ | ⟨bf, h⟩
 ·refine aZ (congrArg I.bool bf) ?_
  simp only [bf, al.down]
  refine aM (fun eG c3 cD dQ => ?_)
  refine ws _ ?_
  rcases aS h with ⟨ho, h⟩ | ⟨ho, h⟩
  ·refine aZ (congrArg I.bool ho) ?_
   simp only [ho, al.down]
   refine ws _ ?_
   exact aJ (cD _ (dX _ (an _ (.inl (aK [.int .i64 0] rfl (by cases aI h; rfl) (by decide) aO)))))
  ·refine a6 (congrArg I.bool ho) ?_
   simp only [ho, al.down]
   refine a_ (c3 _ (.inl ?_))
   refine ws _ ?_
   exact aJ (dX _ (an _ (.inl (aK [.int .i64 (-1)] rfl (by cases aI h; rfl) (by decide) aO))))
 ·refine a6 (congrArg I.bool bf) ?_
  simp only [bf, al.down]
  refine a_ (dN _ (.inl ?_))
  refine aM (fun iX fI eS hA => ?_)
  refine ws _ ?_
  rcases aS h with ⟨hi, h⟩ | ⟨hi, h⟩
  ·refine aZ (congrArg I.bool hi) ?_
   simp only [hi, al.down]
   refine ws _ ?_
   exact aJ (eS _ (an _ (.inl (aK [.int .i64 1] rfl (by cases aI h; rfl) (by decide) aO))))
  ·refine a6 (congrArg I.bool hi) ?_
   simp only [hi, al.down]
   refine a_ (fI _ (.inl ?_))
   refine aM (fun Dk qo pB Dl => ?_)
   refine ws _ ?_
   rcases aS h with ⟨c7, h⟩ | ⟨c7, h⟩
   ·refine aZ (congrArg I.bool c7) ?_
    simp only [c7, al.down]
    refine ws _ ?_
    exact aJ (pB _ (an _ (.inl (aK [.int .i64 (-1)] rfl (by cases aI h; rfl) (by decide) aO))))
   ·refine a6 (congrArg I.bool c7) ?_
    simp only [c7, al.down]
    refine a_ (qo _ (.inl ?_))
    refine aM (fun vM nq mJ vN => ?_)
    refine ws _ ?_
    rcases aS h with ⟨gG, h⟩ | ⟨gG, h⟩
    ·refine aZ (congrArg I.bool gG) ?_
     simp only [gG, al.down]
     refine ws _ ?_
     exact aJ (mJ _ (an _ (.inl (aK [.int .i64 1] rfl (by cases aI h; rfl) (by decide) aO))))
    ·refine a6 (congrArg I.bool gG) ?_
     simp only [gG, al.down]
     refine a_ (nq _ (.inl ?_))
     refine ws _ ?_
     exact aJ (an _ (.inl (aK [.int .i64 0] rfl (by cases aI h; rfl) (by decide) aO)))
theorem atV (a0 : List (List UInt8)) (U : List (List UInt8)) (r : Int) (h : Cf a0 U = some r) : aQ aG 207 [.slice (a0.map bF), .slice (U.map bF)] (.int .i64 r) [] := by
 refine aQ.b7 (fx := [0, 1]) b8 [.tmp 4] [(0, .slice (a0.map bF)), (1, .slice (U.map bF))] Tryz.func207 rfl rfl ako (Nat.le_of_ble_eq_true rfl) rfl rfl (fun b1 an b2 => ?_)
 refine ws _ ?_
 refine aM (fun ew ca bw au => ?_)
 refine ws _ ?_
 refine bK (fun ed dW cj bz bj => ?_)
 have fz : ∀ (n : Nat) (mC : Int), ym a0 U n mC = some r → du aG Nd ed (aa [(0, .slice (a0.map bF)), (1, .slice (U.map bF)), (9, .slice (a0.map bF)), (10, .int .i64 (a0.length : Int)), (11, .int .i64 mC)]) := by
  intro cC
  induction cC with
  | zero => intro mC h; cases (show none = some r from h)
  | succ cC fm =>
   intro mC h
   replace h : Gu (ym a0 U cC) a0 U mC = some r := h
   refine dH (fun gM d_ dV bp => ?_)
   refine ws _ ?_
   refine aM (fun g3 dM eM cZ => ?_)
   rcases aS h with ⟨bf, h⟩ | ⟨bf, h⟩
   ·refine aZ (congrArg I.bool bf) ?_
    simp only [bf, al.down]
    refine a_ (dM _ (.inl ?_))
    refine aM (fun eG c3 cD dQ => ?_)
    refine bK (fun e8 cq cP b5 de => ?_)
    obtain ⟨ag, eJ, h⟩ := aL h
    refine g1 eJ _ ?_
    refine aM (fun lG gL gw ju => ?_)
    refine ws _ ?_
    rcases aS h with ⟨cu, h⟩ | ⟨cu, h⟩
    ·refine aZ (congrArg I.bool cu) ?_
     simp only [cu, al.down]
     refine ws _ ?_
     exact aJ (gw _ (cP _ (cD _ (dV _ (cj _ (bw _ (an _ (.inl (aK [.int .i64 1] rfl (by cases aI h; rfl) (by decide) aO)))))))))
    ·refine a6 (congrArg I.bool cu) ?_
     simp only [cu, al.down]
     refine a_ (gL _ (.inl ?_))
     obtain ⟨au, fS, h⟩ := aL h
     refine g1 fS _ ?_
     obtain ⟨a2, iq, h⟩ := aL h
     refine dZ (atU ag au _ iq) _ ?_
     refine ws _ ?_
     rcases aS h with ⟨jj, h⟩ | ⟨jj, h⟩
     ·refine aZ (congrArg I.bool jj) ?_
      simp only [jj, al.down]
      refine ws _ ?_
      exact aJ (cP _ (cD _ (dV _ (cj _ (bw _ (an _ (.inl (aK [.int .i64 a2] rfl (by cases aI h; rfl) (by decide) aO))))))))
     ·refine a6 (congrArg I.bool jj) ?_
      simp only [jj, al.down]
      refine a_ (cq _ (c3 _ (.inl ?_)))
      refine wr _ ?_
      exact d_ _ (.inr ⟨_, br rfl, fm (IntKind.i64.wrap (mC + 1)) h⟩)
   ·refine a6 (congrArg I.bool bf) ?_
    simp only [bf, al.down]
    refine dL (cZ 0 _ (bp 0 _ (bz _ (ca _ (.inl ?_)))))
    refine aM (fun Hl tt vY Dq => ?_)
    refine ws _ ?_
    rcases aS h with ⟨h7, h⟩ | ⟨h7, h⟩
    ·refine aZ (congrArg I.bool h7) ?_
     simp only [h7, al.down]
     refine ws _ ?_
     exact aJ (vY _ (an _ (.inl (aK [.int .i64 (-1)] rfl (by cases aI h; rfl) (by decide) aO))))
    ·refine a6 (congrArg I.bool h7) ?_
     simp only [h7, al.down]
     refine a_ (tt _ (.inl ?_))
     refine ws _ ?_
     exact aJ (an _ (.inl (aK [.int .i64 0] rfl (by cases aI h; rfl) (by decide) aO)))
 obtain ⟨n, h⟩ := dx h
 exact dG (.inr ⟨_, br rfl, fz n 0 h⟩)
theorem atW (a0 : b4) (U : b4) (r : Int) (h : Cg a0 U = some r) : aQ aG 171 [bt a0, bt U] (.int .i64 r) [] := by
 refine aQ.b7 (fx := [0, 1]) b8 [.tmp 4] [(0, bt a0), (1, bt U)] Tryz.func171 rfl rfl akr (Nat.le_of_ble_eq_true rfl) rfl rfl (fun b1 an b2 => ?_)
 refine ws _ ?_
 obtain ⟨ag, a8, h⟩ := aL h
 refine cU (bX [(4, .int .i64 ag)] (fun P aj => ?_) ?_)
 ·simp only [aT.down, simprocAttr, eU, lk, m5, bt, bF, (show ∀ s, dJ aG s 25 2 [(0, .str a0.Left), (1, .str a0.ch)] = some (.ar 1 [.str a0.Left, .str a0.ch], s) from fun s => by kernel_rfl), (show ∀ s, dJ aG s 25 2 [(0, .str U.Left), (1, .str U.ch)] = some (.ar 1 [.str U.Left, .str U.ch], s) from fun s => by kernel_rfl)]
  refine e6 (atV [a0.Left, a0.ch] [U.Left, U.ch] _ a8) rfl rfl (by simp only [aT.down, simprocAttr, eU, lk, m5, bt, bF, (show ∀ s, dJ aG s 25 2 [(0, .str a0.Left), (1, .str a0.ch)] = some (.ar 1 [.str a0.Left, .str a0.ch], s) from fun s => by kernel_rfl), (show ∀ s, dJ aG s 25 2 [(0, .str U.Left), (1, .str U.ch)] = some (.ar 1 [.str U.Left, .str U.ch], s) from fun s => by kernel_rfl), fY, fZ, f_, di, @cb _ bF bF (fun _ => iw _), @cb _ bF bF (fun _ => iw _)] <;> rfl) rfl (.inr (by rfl)) ?_
  simp only [aT.down, simprocAttr, eU, lk, m5, bt, bF, (show ∀ s, dJ aG s 25 2 [(0, .str a0.Left), (1, .str a0.ch)] = some (.ar 1 [.str a0.Left, .str a0.ch], s) from fun s => by kernel_rfl), (show ∀ s, dJ aG s 25 2 [(0, .str U.Left), (1, .str U.ch)] = some (.ar 1 [.str U.Left, .str U.ch], s) from fun s => by kernel_rfl)]
  (try simp only [bn.down, simprocAttr, bt, bF, (show ∀ s, dJ aG s 25 2 [(0, .str a0.Left), (1, .str a0.ch)] = some (.ar 1 [.str a0.Left, .str a0.ch], s) from fun s => by kernel_rfl), (show ∀ s, dJ aG s 25 2 [(0, .str U.Left), (1, .str U.ch)] = some (.ar 1 [.str U.Left, .str U.ch], s) from fun s => by kernel_rfl)] at aj ⊢); exact aj
 exact aJ (an _ (.inl (aK [.int .i64 ag] rfl (by cases aI h; rfl) (by decide) aO)))
theorem atX (a0 : b4) (U : b4) (r : Bool) (h : Gv a0 U = some r) : aQ aG 173 [bt a0, .ref (bt U)] (.bool r) [] := by
 refine aQ.b7 (fx := [0, 1]) b8 [.tmp 3] [(0, bt a0), (1, .ref (bt U))] Tryz.func173 rfl rfl aku (Nat.le_of_ble_eq_true rfl) rfl rfl (fun b1 an b2 => ?_)
 refine ws _ ?_
 refine cU (bX [(3, .bool ((a0.Left == U.Result) || (a0.ch == U.Result)))] (fun P aj => ?_) ?_)
 ·rcases Bool.eq_false_or_eq_true (a0.Left == U.Result) with e9 | e9
  ·simp only [aT.down, simprocAttr, nm.down, e9]
   (try simp only [bn.down, simprocAttr, bt, e9] at aj ⊢); exact aj
  ·simp only [aT.down, simprocAttr, nm.down, e9]
   (try simp only [bn.down, simprocAttr, bt, e9] at aj ⊢); exact aj
 exact aJ (an _ (.inl (aK [.bool ((a0.Left == U.Result) || (a0.ch == U.Result))] rfl (by cases aI h; rfl) (by decide) aO)))
theorem atY (a0 : List b4) (U : b4) (r : Int) (h : Gw a0 U = some r) : aQ aG 208 [.slice (a0.map bt), .fn 173 [.ref (bt U)]] (.int .i64 r) [] := by
 refine aQ.b7 (fx := [0, 1]) b8 [.tmp 4] [(0, .slice (a0.map bt)), (1, .fn 173 [.ref (bt U)])] Tryz.func208 rfl rfl akF (Nat.le_of_ble_eq_true rfl) rfl rfl (fun b1 an b2 => ?_)
 refine ws _ ?_
 refine aM (fun ew ca bw au => ?_)
 refine ws _ ?_
 refine bK (fun ed dW cj bz bj => ?_)
 have fz : ∀ (n : Nat) (cG : Int), vy a0 U n cG = some r → du aG Nf ed (aa [(0, .slice (a0.map bt)), (1, .fn 173 [.ref (bt U)]), (7, .int .i64 (a0.length : Int)), (8, .int .i64 cG)]) := by
  intro cC
  induction cC with
  | zero => intro cG h; cases (show none = some r from h)
  | succ cC fm =>
   intro cG h
   replace h : Ch (vy a0 U cC) a0 U cG = some r := h
   refine dH (fun gM d_ dV bp => ?_)
   refine ws _ ?_
   refine aM (fun g3 dM eM cZ => ?_)
   rcases aS h with ⟨bf, h⟩ | ⟨bf, h⟩
   ·refine aZ (congrArg I.bool bf) ?_
    simp only [bf, al.down]
    refine a_ (dM _ (.inl ?_))
    refine aM (fun eG c3 cD dQ => ?_)
    refine bK (fun e8 cq cP b5 de => ?_)
    refine ws _ ?_
    obtain ⟨ag, eu, h⟩ := aL h
    obtain ⟨au, er, h⟩ := aL h
    refine iV eu (atX ag U _ er) _ ?_
    rcases aS h with ⟨cu, h⟩ | ⟨cu, h⟩
    ·refine aZ (congrArg I.bool cu) ?_
     simp only [cu, al.down]
     refine ws _ ?_
     exact aJ (cP _ (cD _ (dV _ (cj _ (bw _ (an _ (.inl (aK [.int .i64 cG] rfl (by cases aI h; rfl) (by decide) aO))))))))
    ·refine a6 (congrArg I.bool cu) ?_
     simp only [cu, al.down]
     refine a_ (cq _ (c3 _ (.inl ?_)))
     refine wr _ ?_
     exact d_ _ (.inr ⟨_, br rfl, fm (IntKind.i64.wrap (cG + 1)) h⟩)
   ·refine a6 (congrArg I.bool bf) ?_
    simp only [bf, al.down]
    refine dL (cZ 0 _ (bp 0 _ (bz _ (ca _ (.inl ?_)))))
    refine ws _ ?_
    exact aJ (an _ (.inl (aK [.int .i64 (-1)] rfl (by cases aI h; rfl) (by decide) aO)))
 obtain ⟨n, h⟩ := dx h
 exact dG (.inr ⟨_, br rfl, fz n 0 h⟩)
theorem N9 (a0 : List b4) (U : b4) (r : Bool) (h : yn a0 U = some r) : aQ aG 172 [.slice (a0.map bt), .fn 173 [.ref (bt U)]] (.bool r) [] := by
 refine aQ.b7 (fx := [0, 1]) b8 [.tmp 4] [(0, .slice (a0.map bt)), (1, .fn 173 [.ref (bt U)])] Tryz.func172 rfl rfl akI (Nat.le_of_ble_eq_true rfl) rfl rfl (fun b1 an b2 => ?_)
 refine ws _ ?_
 obtain ⟨ag, a8, h⟩ := aL h
 refine dZ (atY a0 U _ a8) _ ?_
 exact aJ (an _ (.inl (aK [.bool (decide (0 ≤ ag))] rfl (by cases aI h; rfl) (by decide) aO)))
theorem atZ (a0 : List b4) (r : Bool) (h : Cj a0 = some r) : aQ aG 131 [.slice (a0.map bt)] (.bool r) [] := by
 refine aQ.b7 (fx := [0]) b8 [.tmp 2] [(0, .slice (a0.map bt))] Tryz.func131 rfl rfl akW (Nat.le_of_ble_eq_true rfl) rfl rfl (fun b1 an b2 => ?_)
 refine ws _ ?_
 refine aM (fun ew ca bw au => ?_)
 refine ws _ ?_
 refine bK (fun ed dW cj bz bj => ?_)
 have fz : ∀ (n : Nat) (eF : Int), sW a0 n eF = some r → du aG Ng ed (aa [(0, .slice (a0.map bt)), (5, .slice (a0.map bt)), (6, .int .i64 (a0.length : Int)), (7, .int .i64 eF)]) := by
  intro cC
  induction cC with
  | zero => intro eF h; cases (show none = some r from h)
  | succ cC fm =>
   intro eF h
   replace h : Ci (sW a0 cC) a0 eF = some r := h
   refine dH (fun gM d_ dV bp => ?_)
   refine ws _ ?_
   refine aM (fun g3 dM eM cZ => ?_)
   rcases aS h with ⟨bf, h⟩ | ⟨bf, h⟩
   ·refine aZ (congrArg I.bool bf) ?_
    simp only [bf, al.down]
    refine a_ (dM _ (.inl ?_))
    refine aM (fun eG c3 cD dQ => ?_)
    refine bK (fun e8 cq cP b5 de => ?_)
    obtain ⟨ag, eJ, h⟩ := aL h
    refine g1 eJ _ ?_
    refine aM (fun lG gL gw ju => ?_)
    obtain ⟨bp, hh, h⟩ := aL h
    rcases aS h with ⟨eP, h⟩ | ⟨eP, h⟩
    ·refine hf rfl (hg [(0, .slice (a0.map bt)), (4, .bd (bt ag)), (5, .slice (a0.map bt)), (6, .int .i64 (a0.length : Int)), (7, .int .i64 eF), (48, .bool true)] (fun P aj => ?_) ?_)
     ·simp only [dD.down, simprocAttr, g2.down, (db eP)]
      refine iS (kx ag.Left _ hh) rfl rfl rfl rfl (.inl (by rfl)) ?_
      simp only [dD.down, simprocAttr, g2.down, (db eP)]
      refine ⟨gX (by kernel_rfl), ?_⟩
      (try simp only [bn.down, simprocAttr, bt, (db eP)] at aj ⊢); exact aj
     refine aZ rfl ?_
     refine ws _ ?_
     exact aJ (gw _ (cP _ (cD _ (dV _ (cj _ (bw _ (an _ (.inl (aK [.bool false] rfl (by cases aI h; rfl) (by decide) aO)))))))))
    ·obtain ⟨bU, kS, h⟩ := aL h
     rcases aS h with ⟨ff, h⟩ | ⟨ff, h⟩
     ·refine hf rfl (hg [(0, .slice (a0.map bt)), (4, .bd (bt ag)), (5, .slice (a0.map bt)), (6, .int .i64 (a0.length : Int)), (7, .int .i64 eF), (48, .bool true)] (fun P aj => ?_) ?_)
      ·simp only [dD.down, simprocAttr, g2.down, (bC eP), (db ff)]
       refine iS (kx ag.Left _ hh) rfl rfl rfl rfl (.inl (by rfl)) ?_
       simp only [dD.down, simprocAttr, g2.down, (bC eP), (db ff)]
       refine mv (kx ag.ch _ kS) rfl rfl rfl rfl (.inl (by rfl)) ?_
       simp only [dD.down, simprocAttr, g2.down, (bC eP), (db ff)]
       refine ⟨gX (by kernel_rfl), ?_⟩
       (try simp only [bn.down, simprocAttr, bt, (bC eP), (db ff)] at aj ⊢); exact aj
      refine aZ rfl ?_
      refine ws _ ?_
      exact aJ (gw _ (cP _ (cD _ (dV _ (cj _ (bw _ (an _ (.inl (aK [.bool false] rfl (by cases aI h; rfl) (by decide) aO)))))))))
     ·obtain ⟨cZ, rB, h⟩ := aL h
      rcases aS h with ⟨i1, h⟩ | ⟨i1, h⟩
      ·refine hf rfl (hg [(0, .slice (a0.map bt)), (4, .bd (bt ag)), (5, .slice (a0.map bt)), (6, .int .i64 (a0.length : Int)), (7, .int .i64 eF), (48, .bool true)] (fun P aj => ?_) ?_)
       ·simp only [dD.down, simprocAttr, g2.down, (bC eP), (bC ff), (db i1)]
        refine iS (kx ag.Left _ hh) rfl rfl rfl rfl (.inl (by rfl)) ?_
        simp only [dD.down, simprocAttr, g2.down, (bC eP), (bC ff), (db i1)]
        refine mv (kx ag.ch _ kS) rfl rfl rfl rfl (.inl (by rfl)) ?_
        simp only [dD.down, simprocAttr, g2.down, (bC eP), (bC ff), (db i1)]
        refine mv (kx ag.Result _ rB) rfl rfl rfl rfl (.inl (by rfl)) ?_
        simp only [dD.down, simprocAttr, g2.down, (bC eP), (bC ff), (db i1)]
        refine ⟨gX (by kernel_rfl), ?_⟩
        (try simp only [bn.down, simprocAttr, bt, (bC eP), (bC ff), (db i1)] at aj ⊢); exact aj
       refine aZ rfl ?_
       refine ws _ ?_
       exact aJ (gw _ (cP _ (cD _ (dV _ (cj _ (bw _ (an _ (.inl (aK [.bool false] rfl (by cases aI h; rfl) (by decide) aO)))))))))
      ·rcases aS h with ⟨jz, h⟩ | ⟨jz, h⟩
       ·refine hf rfl (hg [(0, .slice (a0.map bt)), (4, .bd (bt ag)), (5, .slice (a0.map bt)), (6, .int .i64 (a0.length : Int)), (7, .int .i64 eF), (48, .bool true)] (fun P aj => ?_) ?_)
        ·simp only [dD.down, simprocAttr, g2.down, (bC eP), (bC ff), (bC i1), jz]
         refine iS (kx ag.Left _ hh) rfl rfl rfl rfl (.inl (by rfl)) ?_
         simp only [dD.down, simprocAttr, g2.down, (bC eP), (bC ff), (bC i1), jz]
         refine mv (kx ag.ch _ kS) rfl rfl rfl rfl (.inl (by rfl)) ?_
         simp only [dD.down, simprocAttr, g2.down, (bC eP), (bC ff), (bC i1), jz]
         refine mv (kx ag.Result _ rB) rfl rfl rfl rfl (.inl (by rfl)) ?_
         simp only [dD.down, simprocAttr, g2.down, (bC eP), (bC ff), (bC i1), jz]
         refine ⟨gX (by kernel_rfl), ?_⟩
         (try simp only [bn.down, simprocAttr, bt, (bC eP), (bC ff), (bC i1), jz] at aj ⊢); exact aj
        refine aZ rfl ?_
        refine ws _ ?_
        exact aJ (gw _ (cP _ (cD _ (dV _ (cj _ (bw _ (an _ (.inl (aK [.bool false] rfl (by cases aI h; rfl) (by decide) aO)))))))))
       ·rcases aS h with ⟨fT, h⟩ | ⟨fT, h⟩
        ·obtain ⟨e7, oO, h⟩ := aL h
         obtain ⟨dQ, tn, h⟩ := aL h
         refine hf rfl (hg [(0, .slice (a0.map bt)), (4, .bd (bt ag)), (5, .slice (a0.map bt)), (6, .int .i64 (a0.length : Int)), (7, .int .i64 eF), (48, .bool (decide (0 ≤ dQ)))] (fun P aj => ?_) ?_)
         ·simp only [dD.down, simprocAttr, g2.down, (bC eP), (bC ff), (bC i1), jz, fT, oO]
          refine iS (kx ag.Left _ hh) rfl rfl rfl rfl (.inl (by rfl)) ?_
          simp only [dD.down, simprocAttr, g2.down, (bC eP), (bC ff), (bC i1), jz, fT, oO]
          refine mv (kx ag.ch _ kS) rfl rfl rfl rfl (.inl (by rfl)) ?_
          simp only [dD.down, simprocAttr, g2.down, (bC eP), (bC ff), (bC i1), jz, fT, oO]
          refine mv (kx ag.Result _ rB) rfl rfl rfl rfl (.inl (by rfl)) ?_
          simp only [dD.down, simprocAttr, g2.down, (bC eP), (bC ff), (bC i1), jz, fT, oO]
          refine mv (atW e7 ag _ tn) rfl rfl rfl rfl (.inl (by rfl)) ?_
          simp only [dD.down, simprocAttr, g2.down, (bC eP), (bC ff), (bC i1), jz, fT, oO]
          refine ⟨gX (by kernel_rfl), ?_⟩
          (try simp only [bn.down, simprocAttr, bt, (bC eP), (bC ff), (bC i1), jz, fT, oO] at aj ⊢); exact aj
         rcases aS h with ⟨oP, h⟩ | ⟨oP, h⟩
         ·refine aZ (congrArg I.bool oP) ?_
          simp only [oP, al.down]
          refine ws _ ?_
          exact aJ (gw _ (cP _ (cD _ (dV _ (cj _ (bw _ (an _ (.inl (aK [.bool false] rfl (by cases aI h; rfl) (by decide) aO)))))))))
         ·refine a6 (congrArg I.bool oP) ?_
          simp only [oP, al.down]
          refine a_ (gL _ (.inl ?_))
          obtain ⟨de, Du, h⟩ := aL h
          refine cU (bX [(0, .slice (a0.map bt)), (5, .slice (a0.map bt)), (6, .int .i64 (a0.length : Int)), (7, .int .i64 eF), (51, .bool de)] (fun P aj => ?_) ?_)
          ·simp only [aT.down, simprocAttr, bt]
           refine e6 (N9 a0 ag _ Du) rfl rfl (by simp only [aT.down, simprocAttr, bt, fY, fZ, f_, di] <;> rfl) rfl (.inr (by rfl)) ?_
           simp only [aT.down, simprocAttr, bt]
           (try simp only [bn.down, simprocAttr, bt] at aj ⊢); exact aj
          rcases aS h with ⟨ze, h⟩ | ⟨ze, h⟩
          ·refine aZ (congrArg I.bool ze) ?_
           simp only [ze, al.down]
           refine ws _ ?_
           exact aJ (cP _ (cD _ (dV _ (cj _ (bw _ (an _ (.inl (aK [.bool false] rfl (by cases aI h; rfl) (by decide) aO))))))))
          ·refine a6 (congrArg I.bool ze) ?_
           simp only [ze, al.down]
           refine a_ (cq _ (c3 _ (.inl ?_)))
           refine wr _ ?_
           exact d_ _ (.inr ⟨_, br rfl, fm (IntKind.i64.wrap (eF + 1)) h⟩)
        ·refine hf rfl (hg [(0, .slice (a0.map bt)), (4, .bd (bt ag)), (5, .slice (a0.map bt)), (6, .int .i64 (a0.length : Int)), (7, .int .i64 eF), (48, .bool false)] (fun P aj => ?_) ?_)
         ·simp only [dD.down, simprocAttr, g2.down, (bC eP), (bC ff), (bC i1), jz, fT]
          refine iS (kx ag.Left _ hh) rfl rfl rfl rfl (.inl (by rfl)) ?_
          simp only [dD.down, simprocAttr, g2.down, (bC eP), (bC ff), (bC i1), jz, fT]
          refine mv (kx ag.ch _ kS) rfl rfl rfl rfl (.inl (by rfl)) ?_
          simp only [dD.down, simprocAttr, g2.down, (bC eP), (bC ff), (bC i1), jz, fT]
          refine mv (kx ag.Result _ rB) rfl rfl rfl rfl (.inl (by rfl)) ?_
          simp only [dD.down, simprocAttr, g2.down, (bC eP), (bC ff), (bC i1), jz, fT]
          refine ⟨gX (by kernel_rfl), ?_⟩
          (try simp only [bn.down, simprocAttr, bt, (bC eP), (bC ff), (bC i1), jz, fT] at aj ⊢); exact aj
         refine a6 rfl ?_
         refine a_ (gL _ (.inl ?_))
         obtain ⟨eB, qp, h⟩ := aL h
         refine cU (bX [(0, .slice (a0.map bt)), (5, .slice (a0.map bt)), (6, .int .i64 (a0.length : Int)), (7, .int .i64 eF), (51, .bool eB)] (fun P aj => ?_) ?_)
         ·simp only [aT.down, simprocAttr, bt]
          refine e6 (N9 a0 ag _ qp) rfl rfl (by simp only [aT.down, simprocAttr, bt, fY, fZ, f_, di] <;> rfl) rfl (.inr (by rfl)) ?_
          simp only [aT.down, simprocAttr, bt]
          (try simp only [bn.down, simprocAttr, bt] at aj ⊢); exact aj
         rcases aS h with ⟨oL, h⟩ | ⟨oL, h⟩
         ·refine aZ (congrArg I.bool oL) ?_
          simp only [oL, al.down]
          refine ws _ ?_
          exact aJ (cP _ (cD _ (dV _ (cj _ (bw _ (an _ (.inl (aK [.bool false] rfl (by cases aI h; rfl) (by decide) aO))))))))
         ·refine a6 (congrArg I.bool oL) ?_
          simp only [oL, al.down]
          refine a_ (cq _ (c3 _ (.inl ?_)))
          refine wr _ ?_
          exact d_ _ (.inr ⟨_, br rfl, fm (IntKind.i64.wrap (eF + 1)) h⟩)
   ·refine a6 (congrArg I.bool bf) ?_
    simp only [bf, al.down]
    refine dL (cZ 0 _ (bp 0 _ (bz _ (ca _ (.inl ?_)))))
    refine ws _ ?_
    exact aJ (an _ (.inl (aK [.bool (decide ((a0.length : Int) ≤ 6))] rfl (by cases aI h; rfl) (by decide) aO)))
 obtain ⟨n, h⟩ := dx h
 exact dG (.inr ⟨_, br rfl, fz n 0 h⟩)
theorem N_ (a0 : List (List UInt8)) (r : Bool) (h : yo a0 = some r) : aQ aG 132 [.slice (a0.map bF)] (.bool r) [] := by
 refine aQ.b7 (fx := [0]) b8 [.tmp 2] [(0, .slice (a0.map bF))] Tryz.func132 rfl rfl ak7 (Nat.le_of_ble_eq_true rfl) rfl rfl (fun b1 an b2 => ?_)
 refine ws _ ?_
 refine aM (fun ew ca bw au => ?_)
 refine ws _ ?_
 refine bK (fun ed dW cj bz bj => ?_)
 have fz : ∀ (n : Nat) (eF : Int), sX a0 n eF = some r → du aG Nh ed (aa [(0, .slice (a0.map bF)), (5, .slice (a0.map bF)), (6, .int .i64 (a0.length : Int)), (7, .int .i64 eF)]) := by
  intro cC
  induction cC with
  | zero => intro eF h; cases (show none = some r from h)
  | succ cC fm =>
   intro eF h
   replace h : Ck (sX a0 cC) a0 eF = some r := h
   refine dH (fun gM d_ dV bp => ?_)
   refine ws _ ?_
   refine aM (fun g3 dM eM cZ => ?_)
   rcases aS h with ⟨bf, h⟩ | ⟨bf, h⟩
   ·refine aZ (congrArg I.bool bf) ?_
    simp only [bf, al.down]
    refine a_ (dM _ (.inl ?_))
    refine aM (fun eG c3 cD dQ => ?_)
    refine bK (fun e8 cq cP b5 de => ?_)
    obtain ⟨ag, eJ, h⟩ := aL h
    refine g1 eJ _ ?_
    obtain ⟨au, er, h⟩ := aL h
    rcases aS h with ⟨cu, h⟩ | ⟨cu, h⟩
    ·refine iV (db cu) (kx ag _ er) _ ?_
     refine aZ rfl ?_
     refine ws _ ?_
     exact aJ (cP _ (cD _ (dV _ (cj _ (bw _ (an _ (.inl (aK [.bool false] rfl (by cases aI h; rfl) (by decide) aO))))))))
    ·rcases aS h with ⟨im, h⟩ | ⟨im, h⟩
     ·obtain ⟨a2, fS, h⟩ := aL h
      refine iV (And.intro (bC cu) (And.intro im fS)) (kx ag _ er) _ ?_
      rcases aS h with ⟨en, h⟩ | ⟨en, h⟩
      ·refine aZ (congrArg I.bool en) ?_
       simp only [en, al.down]
       refine ws _ ?_
       exact aJ (cP _ (cD _ (dV _ (cj _ (bw _ (an _ (.inl (aK [.bool false] rfl (by cases aI h; rfl) (by decide) aO))))))))
      ·refine a6 (congrArg I.bool en) ?_
       simp only [en, al.down]
       refine a_ (cq _ (c3 _ (.inl ?_)))
       refine wr _ ?_
       exact d_ _ (.inr ⟨_, br rfl, fm (IntKind.i64.wrap (eF + 1)) h⟩)
     ·refine iV (And.intro (bC cu) im) (kx ag _ er) _ ?_
      refine a6 rfl ?_
      refine a_ (cq _ (c3 _ (.inl ?_)))
      refine wr _ ?_
      exact d_ _ (.inr ⟨_, br rfl, fm (IntKind.i64.wrap (eF + 1)) h⟩)
   ·refine a6 (congrArg I.bool bf) ?_
    simp only [bf, al.down]
    refine dL (cZ 0 _ (bp 0 _ (bz _ (ca _ (.inl ?_)))))
    refine ws _ ?_
    exact aJ (an _ (.inl (aK [.bool (decide ((a0.length : Int) ≤ 12))] rfl (by cases aI h; rfl) (by decide) aO)))
 obtain ⟨n, h⟩ := dx h
 exact dG (.inr ⟨_, br rfl, fz n 0 h⟩)
theorem at0 (a0 : dv) (r : Int) (h : Cl a0 = some r) : aQ aG 79 [ep a0] (.int .i64 r) [] := by
 refine aQ.b7 (fx := [0]) b8 [.tmp 2] [(0, ep a0)] Tryz.func79 rfl rfl alp (Nat.le_of_ble_eq_true rfl) rfl rfl (fun b1 an b2 => ?_)
 refine ws _ ?_
 refine aM (fun ew ca bw au => ?_)
 refine bK (fun jV gE dP mh a2 => ?_)
 obtain ⟨ag, da, h⟩ := aL h
 refine dZ (atK a0.b3 _ da) _ ?_
 rcases aS h with ⟨cM, h⟩ | ⟨cM, h⟩
 ·refine aZ (congrArg I.bool cM) ?_
  simp only [(db cM), al.down]
  refine ws _ ?_
  exact aJ (dP _ (bw _ (an _ (.inl (aK [.int .i64 1] rfl (by cases aI h; rfl) (by decide) aO)))))
 ·refine a6 (congrArg I.bool cM) ?_
  simp only [(bC cM), al.down]
  obtain ⟨au, kG, h⟩ := aL h
  rcases aS h with ⟨b5, h⟩ | ⟨b5, h⟩
  ·refine iV (db b5) (jW (a0.cn.length : Int) 1 3 _ kG) _ ?_
   refine aZ rfl ?_
   refine ws _ ?_
   exact aJ (dP _ (bw _ (an _ (.inl (aK [.int .i64 2] rfl (by cases aI h; rfl) (by decide) aO)))))
  ·obtain ⟨a2, eJ, h⟩ := aL h
   refine cU (bX [(1, .bd (ep a0)), (8, .bool a2)] (fun P aj => ?_) ?_)
   ·simp only [aT.down, simprocAttr, kR.down, (bC b5)]
    refine e6 (jW (a0.cn.length : Int) 1 3 _ kG) rfl rfl rfl rfl (.inl (by rfl)) ?_
    simp only [aT.down, simprocAttr, kR.down, (bC b5)]
    refine hy (atT a0.cn a0 _ eJ) rfl rfl (by simp only [aT.down, simprocAttr, kR.down, (bC b5), fY, fZ, f_, di, @cb _ bB bB (fun _ => yG _), @cb _ ez ez (fun _ => yJ _), @cb _ bt bt (fun _ => mE _), @cb _ bF bF (fun _ => iw _), @cb _ bF bF (fun _ => iw _)] <;> rfl) rfl (.inr (by rfl)) ?_
    simp only [aT.down, simprocAttr, kR.down, (bC b5)]
    (try simp only [bn.down, simprocAttr, hV.down, (bC b5)] at aj ⊢); exact aj
   rcases aS h with ⟨c0, h⟩ | ⟨c0, h⟩
   ·refine aZ (congrArg I.bool c0) ?_
    simp only [c0, al.down]
    refine ws _ ?_
    exact aJ (dP _ (bw _ (an _ (.inl (aK [.int .i64 2] rfl (by cases aI h; rfl) (by decide) aO)))))
   ·refine a6 (congrArg I.bool c0) ?_
    simp only [c0, al.down]
    obtain ⟨bj, cV, h⟩ := aL h
    refine dZ (atZ a0.g7 _ cV) _ ?_
    rcases aS h with ⟨im, h⟩ | ⟨im, h⟩
    ·refine aZ (congrArg I.bool im) ?_
     simp only [(db im), al.down]
     refine ws _ ?_
     exact aJ (dP _ (bw _ (an _ (.inl (aK [.int .i64 3] rfl (by cases aI h; rfl) (by decide) aO)))))
    ·refine a6 (congrArg I.bool im) ?_
     simp only [(bC im), al.down]
     obtain ⟨bp, iq, h⟩ := aL h
     refine dZ (N_ a0.gZ _ iq) _ ?_
     rcases aS h with ⟨jy, h⟩ | ⟨jy, h⟩
     ·refine aZ (congrArg I.bool jy) ?_
      simp only [(db jy), al.down]
      refine ws _ ?_
      exact aJ (dP _ (bw _ (an _ (.inl (aK [.int .i64 4] rfl (by cases aI h; rfl) (by decide) aO)))))
     ·refine a6 (congrArg I.bool jy) ?_
      simp only [(bC jy), al.down]
      obtain ⟨bU, jG, h⟩ := aL h
      refine dZ (N_ a0.g0 _ jG) _ ?_
      rcases aS h with ⟨hN, h⟩ | ⟨hN, h⟩
      ·refine aZ (congrArg I.bool hN) ?_
       simp only [(db hN), al.down]
       refine ws _ ?_
       exact aJ (dP _ (bw _ (an _ (.inl (aK [.int .i64 5] rfl (by cases aI h; rfl) (by decide) aO)))))
      ·refine a6 (congrArg I.bool hN) ?_
       simp only [(bC hN), al.down]
       refine a_ (gE _ (ca _ (.inl ?_)))
       refine ws _ ?_
       exact aJ (an _ (.inl (aK [.int .i64 0] rfl (by cases aI h; rfl) (by decide) aO)))
theorem at1 (a0 : dv) (r : Bool) (h : Cm a0 = some r) : aQ aG 43 [ep a0] (.bool r) [] := by
 refine aQ.b7 (fx := [0]) b8 [.tmp 2] [(0, ep a0)] Tryz.func43 rfl rfl als (Nat.le_of_ble_eq_true rfl) rfl rfl (fun b1 an b2 => ?_)
 refine ws _ ?_
 obtain ⟨ag, a8, h⟩ := aL h
 refine dZ (at0 a0 _ a8) _ ?_
 exact aJ (an _ (.inl (aK [.bool (ag == 0)] rfl (by cases aI h; rfl) (by decide) aO)))
theorem Oa (a0 r : List Int) (h : sY a0 = some r) : aQ aG 104 [.ar 1 (a0.map aU)] (.tuple []) [.ar 1 (r.map aU)] := arK a0 r h
theorem Ob (a0 r : List Int) (h : vz a0 = some r) : aQ aG 120 [.ar 1 (a0.map aU)] (.ar 1 (r.map aU)) [.hole] := arL a0 r h
theorem at2 (a0 : bg) (r : (List Int)) (h : Cp a0 = some r) : aQ aG 119 [bB a0] (.ar 1 (r.map aU)) [] := by
 refine aQ.b7 (fx := [0]) b8 [.tmp 2] [(0, bB a0)] Tryz.func119 rfl rfl alF (Nat.le_of_ble_eq_true rfl) rfl rfl (fun b1 an b2 => ?_)
 refine ws _ ?_
 refine ws _ ?_
 refine aM (fun jV gE dP a2 => ?_)
 refine ws _ ?_
 refine bK (fun gM d_ dV bO bp => ?_)
 have iY : ∀ (n : Nat) (bA : List Int) (l4 : Int), rp a0 n bA l4 = some r → du aG Nj gM (aa [(3, .ar 1 (bA.map aU)), (7, .slice (a0.Body.map cd)), (8, .int .i64 (a0.Body.length : Int)), (9, .int .i64 l4)]) := by
  intro eK
  induction eK with
  | zero => intro bA l4 h; cases (show none = some r from h)
  | succ eK iZ =>
   intro bA l4 h
   replace h : Co (rp a0 eK) a0 bA l4 = some r := h
   refine dH (fun e_ dN dX bU => ?_)
   refine ws _ ?_
   refine aM (fun hC g9 gv e7 => ?_)
   rcases aS h with ⟨dt, h⟩ | ⟨dt, h⟩
   ·refine aZ (congrArg I.bool dt) ?_
    simp only [dt, al.down]
    refine a_ (g9 _ (.inl ?_))
    have Oc : ∀ (vA : List Int) (vB : Int), Cn (rp a0 eK) a0 vA vB = some r → dh aG Ni e_ (aa [(3, .ar 1 (vA.map aU)), (7, .slice (a0.Body.map cd)), (8, .int .i64 (a0.Body.length : Int)), (9, .int .i64 vB)]) := by
     intro vA vB h
     refine wr _ ?_
     exact dN _ (.inr ⟨_, br rfl, iZ vA (IntKind.i64.wrap (vB + 1)) h⟩)
    refine aM (fun e8 cq cP de => ?_)
    refine bK (fun ji gg h6 cT iv => ?_)
    obtain ⟨ag, er, h⟩ := aL h
    refine g1 er _ ?_
    refine ws _ ?_
    rcases aS h with ⟨hi, h⟩ | ⟨hi, h⟩
    ·refine aZ (congrArg I.bool hi) ?_
     simp only [hi, al.down]
     obtain ⟨ti, fS, h⟩ := aL h
     (try simp only [List.length_append, List.length_cons, List.length_nil, List.length_map, List.length_replicate, Nat.zero_add, Nat.add_zero, Nat.reduceAdd] at fS)
     refine iR (bX [(3, .ar 1 ((bA ++ [ag.Number]).map aU)), (7, .slice (a0.Body.map cd)), (8, .int .i64 (a0.Body.length : Int)), (9, .int .i64 l4)] (fun P aj => ?_) ?_)
     ·simp only [aT.down, simprocAttr, ey, eU, jf, gP, h3, gn, ga, aU, cd, b0, eC, (show ∀ s, dJ aG s 43 1 [(0, .int .i64 ag.Number)] = some (.ar 1 [.int .i64 ag.Number], s) from fun s => by kernel_rfl), @mw aG 43 43 2 rfl rfl, mx, my, mz, all_cons, all_nil, fS, @kO _ aU 1 (fun _ => rfl)]
      (try simp only [bn.down, simprocAttr, vI.down, (show ∀ s, dJ aG s 43 1 [(0, .int .i64 ag.Number)] = some (.ar 1 [.int .i64 ag.Number], s) from fun s => by kernel_rfl), @mw aG 43 43 2 rfl rfl, mx, my, mz, all_cons, all_nil, fS, @kO _ aU 1 (fun _ => rfl)] at aj ⊢); exact aj
     exact gg _ (cq _ (.inr ⟨_, br rfl, Oc (bA ++ [ag.Number]) l4 h⟩))
    ·refine a6 (congrArg I.bool hi) ?_
     simp only [hi, al.down]
     exact a_ (gg _ (cq _ (.inr ⟨_, br rfl, Oc bA l4 h⟩)))
   ·refine a6 (congrArg I.bool dt) ?_
    simp only [dt, al.down]
    refine dL (e7 0 _ (bU 0 _ (bO _ (gE _ (.inl ?_)))))
    obtain ⟨au, iq, h⟩ := aL h
    refine cU (bX [(3, .ar 1 (au.map aU))] (fun P aj => ?_) ?_)
    ·simp only [aT.down, simprocAttr, vI.down]
     refine oz [⟨.h 3 [], true, _, _⟩] (Oa bA _ iq) rfl rfl rfl (by simp only [aT.down, simprocAttr, vI.down, mA, lg, iT, fY, fZ, f_, di, or_true, true_or, @cb _ aU aU (fun _ => hT _)]) rfl rfl (.inl rfl) ?_
     simp only [aT.down, simprocAttr, vI.down, lh]
     (try simp only [bn.down, simprocAttr, vI.down] at aj ⊢); exact aj
    obtain ⟨a2, hh, h⟩ := aL h
    refine cU (bX [(2, .ar 1 (a2.map aU))] (fun P aj => ?_) ?_)
    ·simp only [aT.down, simprocAttr, aU]
     refine oz [⟨.h 3 [], true, _, .hole⟩] (Ob au _ hh) rfl rfl rfl (by simp only [aT.down, simprocAttr, aU, mA, lg, iT, fY, fZ, f_, di, or_true, true_or, @cb _ aU aU (fun _ => hT _)]) rfl rfl (.inl rfl) ?_
     simp only [aT.down, simprocAttr, aU, lh]
     (try simp only [bn.down, simprocAttr, aU] at aj ⊢); exact aj
    exact aJ (an _ (.inl (aK [.ar 1 (a2.map aU)] rfl (by cases aI h; rfl) (by decide) aO)))
 obtain ⟨n, h⟩ := dx h
 exact dG (.inr ⟨_, q1 [] rfl (q3 (t := 3) (d := .bu) (bL := .ar 1 []) rfl rfl (.mo _) (by decide) (lf (t := 7) (d := .slice (a0.Body.map cd)) rfl (lf (t := 8) (d := .int .i64 (a0.Body.length : Int)) rfl (lf (t := 9) (d := .int .i64 0) rfl (q2))))), iY n [] 0 h⟩)
theorem at3 (a0 : List Int) (U : Int) (r : Int) (h : Gx a0 U = some r) : aQ aG 110 [.slice (a0.map aU), .int .i64 U] (.int .i64 r) [] := by
 refine aQ.b7 (fx := [0, 1]) b8 [.tmp 4] [(0, .slice (a0.map aU)), (1, .int .i64 U)] Tryz.func110 rfl rfl alQ (Nat.le_of_ble_eq_true rfl) rfl rfl (fun b1 an b2 => ?_)
 refine ws _ ?_
 refine aM (fun ew ca bw au => ?_)
 refine ws _ ?_
 refine bK (fun ed dW cj bz bj => ?_)
 have fz : ∀ (n : Nat) (cG : Int), vC a0 U n cG = some r → du aG Nk ed (aa [(0, .slice (a0.map aU)), (1, .int .i64 U), (7, .int .i64 (a0.length : Int)), (8, .int .i64 cG)]) := by
  intro cC
  induction cC with
  | zero => intro cG h; cases (show none = some r from h)
  | succ cC fm =>
   intro cG h
   replace h : Cq (vC a0 U cC) a0 U cG = some r := h
   refine dH (fun gM d_ dV bp => ?_)
   refine ws _ ?_
   refine aM (fun g3 dM eM cZ => ?_)
   rcases aS h with ⟨bf, h⟩ | ⟨bf, h⟩
   ·refine aZ (congrArg I.bool bf) ?_
    simp only [bf, al.down]
    refine a_ (dM _ (.inl ?_))
    refine aM (fun eG c3 cD dQ => ?_)
    refine bK (fun e8 cq cP b5 de => ?_)
    refine ws _ ?_
    obtain ⟨ag, eu, h⟩ := aL h
    refine g1 eu _ ?_
    rcases aS h with ⟨ei, h⟩ | ⟨ei, h⟩
    ·refine aZ (congrArg I.bool ei) ?_
     simp only [ei, al.down]
     refine ws _ ?_
     exact aJ (cP _ (cD _ (dV _ (cj _ (bw _ (an _ (.inl (aK [.int .i64 cG] rfl (by cases aI h; rfl) (by decide) aO))))))))
    ·refine a6 (congrArg I.bool ei) ?_
     simp only [ei, al.down]
     refine a_ (cq _ (c3 _ (.inl ?_)))
     refine wr _ ?_
     exact d_ _ (.inr ⟨_, br rfl, fm (IntKind.i64.wrap (cG + 1)) h⟩)
   ·refine a6 (congrArg I.bool bf) ?_
    simp only [bf, al.down]
    refine dL (cZ 0 _ (bp 0 _ (bz _ (ca _ (.inl ?_)))))
    refine ws _ ?_
    exact aJ (an _ (.inl (aK [.int .i64 (-1)] rfl (by cases aI h; rfl) (by decide) aO)))
 obtain ⟨n, h⟩ := dx h
 exact dG (.inr ⟨_, br rfl, fz n 0 h⟩)
theorem at4 (a0 : List Int) (U : Int) (r : Bool) (h : Cr a0 U = some r) : aQ aG 102 [.slice (a0.map aU), .int .i64 U] (.bool r) [] := by
 refine aQ.b7 (fx := [0, 1]) b8 [.tmp 4] [(0, .slice (a0.map aU)), (1, .int .i64 U)] Tryz.func102 rfl rfl alT (Nat.le_of_ble_eq_true rfl) rfl rfl (fun b1 an b2 => ?_)
 refine ws _ ?_
 obtain ⟨ag, a8, h⟩ := aL h
 refine dZ (at3 a0 U _ a8) _ ?_
 exact aJ (an _ (.inl (aK [.bool (decide (0 ≤ ag))] rfl (by cases aI h; rfl) (by decide) aO)))
theorem at5 (a0 : dv) (r : (List Int)) (h : yp a0 = some r) : aQ aG 71 [ep a0] (.ar 1 (r.map aU)) [] := by
 refine aQ.b7 (fx := [0]) b8 [.tmp 2] [(0, ep a0)] Tryz.func71 rfl rfl ame (Nat.le_of_ble_eq_true rfl) rfl rfl (fun b1 an b2 => ?_)
 refine ws _ ?_
 refine ws _ ?_
 refine aM (fun jV gE dP a2 => ?_)
 refine ws _ ?_
 refine bK (fun gM d_ dV bO bp => ?_)
 have iY : ∀ (n : Nat) (bA : List Int) (mD : Int), sZ a0 n bA mD = some r → du aG Nl gM (aa [(1, .bd (ep a0)), (3, .ar 1 (bA.map aU)), (10, .slice (a0.cn.map ez)), (11, .int .i64 (a0.cn.length : Int)), (12, .int .i64 mD)]) := by
  intro eK
  induction eK with
  | zero => intro bA mD h; cases (show none = some r from h)
  | succ eK iZ =>
   intro bA mD h
   replace h : Cw (sZ a0 eK) a0 bA mD = some r := h
   refine dH (fun e_ dN dX bU => ?_)
   refine ws _ ?_
   refine aM (fun hC g9 gv e7 => ?_)
   rcases aS h with ⟨dt, h⟩ | ⟨dt, h⟩
   ·refine aZ (congrArg I.bool dt) ?_
    simp only [dt, al.down]
    refine a_ (g9 _ (.inl ?_))
    refine aM (fun e8 cq cP de => ?_)
    refine bK (fun iW fu il ho eB => ?_)
    obtain ⟨ag, eu, h⟩ := aL h
    refine g1 eu _ ?_
    obtain ⟨u16, e1, h⟩ := aL h
    (try simp only [List.length_append, List.length_cons, List.length_nil, List.length_map, List.length_replicate, Nat.zero_add, Nat.add_zero, Nat.reduceAdd] at e1)
    refine iR (bX [(1, .bd (ep a0)), (3, .ar 1 ((bA ++ [ag.fe]).map aU)), (10, .slice (a0.cn.map ez)), (11, .int .i64 (a0.cn.length : Int)), (12, .int .i64 mD)] (fun P aj => ?_) ?_)
    ·simp only [aT.down, simprocAttr, ey, jf, m4, aU, ez, bB, bt, cd, ep, b0, eC, bF, (show ∀ s, dJ aG s 43 1 [(0, .int .i64 ag.fe)] = some (.ar 1 [.int .i64 ag.fe], s) from fun s => by kernel_rfl), @mw aG 43 43 2 rfl rfl, mx, my, mz, all_cons, all_nil, e1, @kO _ aU 1 (fun _ => rfl)]
     (try simp only [bn.down, simprocAttr, hV.down, (show ∀ s, dJ aG s 43 1 [(0, .int .i64 ag.fe)] = some (.ar 1 [.int .i64 ag.fe], s) from fun s => by kernel_rfl), @mw aG 43 43 2 rfl rfl, mx, my, mz, all_cons, all_nil, e1, @kO _ aU 1 (fun _ => rfl)] at aj ⊢); exact aj
    refine fu _ (cq _ (.inl ?_))
    refine wr [(1, .bd (ep a0)), (3, .ar 1 ((bA ++ [ag.fe]).map aU)), (10, .slice (a0.cn.map ez)), (11, .int .i64 (a0.cn.length : Int)), (12, .int .i64 (IntKind.i64.wrap (mD + 1)))] ?_
    exact dN _ (.inr ⟨_, br rfl, iZ (bA ++ [ag.fe]) (IntKind.i64.wrap (mD + 1)) h⟩)
   ·refine a6 (congrArg I.bool dt) ?_
    simp only [dt, al.down]
    refine dL (e7 0 _ (bU 0 _ (bO _ (gE _ (.inl ?_)))))
    refine aM (fun nZ jx i0 nr => ?_)
    refine ws _ ?_
    refine bK (fun Dd tj yX en De => ?_)
    have at6 : ∀ (n : Nat) (l5 : List Int) (nj : Int), l6 a0 n l5 nj = some r → du aG Np Dd (aa [(1, .bd (ep a0)), (3, .ar 1 (l5.map aU)), (6, .int .i64 nj)]) := by
     intro rC
     induction rC with
     | zero => intro l5 nj h; cases (show none = some r from h)
     | succ rC at7 =>
      intro l5 nj h
      replace h : Cv (l6 a0 rC) a0 l5 nj = some r := h
      refine dH (fun NO vO Df GY => ?_)
      refine aM (fun Hj tr ts Dp => ?_)
      refine ws _ ?_
      rcases aS h with ⟨eP, h⟩ | ⟨eP, h⟩
      ·refine aZ (congrArg I.bool eP) ?_
       simp only [eP, al.down]
       refine a_ (tr _ (.inl ?_))
       refine aM (fun atc Hk atd N3 => ?_)
       refine bK (fun Hl tt vY hN Dq => ?_)
       obtain ⟨au, nY, h⟩ := aL h
       obtain ⟨a2, rB, h⟩ := aL h
       obtain ⟨bj, Hp, h⟩ := aL h
       refine hf rfl (hg [(1, .bd (ep a0)), (3, .ar 1 (l5.map aU)), (6, .int .i64 nj), (36, .ar 1 (bj.map aU)), (37, .int .i64 (bj.length : Int)), (38, .int .i64 0)] (fun P aj => ?_) ?_)
       ·simp only [dD.down, simprocAttr, kR.down, nY, c8 nY, rB]
        refine iS (at2 a2 _ Hp) rfl rfl rfl rfl (.inl (by rfl)) ?_
        simp only [dD.down, simprocAttr, kR.down, nY, c8 nY, rB]
        refine ⟨gX (by kernel_rfl), ?_⟩
        (try simp only [bn.down, simprocAttr, hV.down, nY, c8 nY, rB] at aj ⊢); exact aj
       refine bK (fun NT n30 NU gl NV => ?_)
       have at8 : ∀ (n : Nat) (kt : List Int) (lD : Int) (lE : Int), qi (l6 a0 rC) a0 bj n kt lD lE = some r → du aG Nn NT (aa [(1, .bd (ep a0)), (3, .ar 1 (kt.map aU)), (6, .int .i64 lD), (36, .ar 1 (bj.map aU)), (37, .int .i64 (bj.length : Int)), (38, .int .i64 lE)]) := by
        intro Dv
        induction Dv with
        | zero => intro kt lD lE h; cases (show none = some r from h)
        | succ Dv at9 =>
         intro kt lD lE h
         replace h : Cu (l6 a0 rC) (qi (l6 a0 rC) a0 bj Dv) a0 bj kt lD lE = some r := h
         refine dH (fun Dj n31 vS y2 => ?_)
         refine ws _ ?_
         refine aM (fun ay9 n33 ay_ aua => ?_)
         rcases aS h with ⟨zf, h⟩ | ⟨zf, h⟩
         ·refine aZ (congrArg I.bool zf) ?_
          simp only [zf, al.down]
          refine a_ (n33 _ (.inl ?_))
          have Od : ∀ (vD : List Int) (vE : Int) (vF : Int), Cs (l6 a0 rC) (qi (l6 a0 rC) a0 bj Dv) a0 bj vD vE vF = some r → dh aG Nm Dj (aa [(1, .bd (ep a0)), (3, .ar 1 (vD.map aU)), (6, .int .i64 vE), (36, .ar 1 (bj.map aU)), (37, .int .i64 (bj.length : Int)), (38, .int .i64 vF)]) := by
           intro vD vE vF h
           refine wr _ ?_
           exact n31 _ (.inr ⟨_, br rfl, at9 vD vE (IntKind.i64.wrap (vF + 1)) h⟩)
          refine aM (fun G4 n35 G5 NW => ?_)
          refine bK (fun ath n37 ati vZ N4 => ?_)
          obtain ⟨bp, Du, h⟩ := aL h
          refine g1 (And.intro Du (c8 Du)) _ ?_
          obtain ⟨bU, Hq, h⟩ := aL h
          refine cU (bX [(1, .bd (ep a0)), (3, .ar 1 (kt.map aU)), (6, .int .i64 lD), (8, .int .i64 bp), (36, .ar 1 (bj.map aU)), (37, .int .i64 (bj.length : Int)), (38, .int .i64 lE), (45, .bool (!bU))] (fun P aj => ?_) ?_)
          ·simp only [aT.down, simprocAttr, hV.down]
           refine e6 (at4 kt bp _ Hq) rfl rfl (by simp only [aT.down, simprocAttr, hV.down, fY, fZ, f_, di, @cb _ aU aU (fun _ => hT _)] <;> rfl) rfl (.inr (by rfl)) ?_
           simp only [aT.down, simprocAttr, hV.down]
           (try simp only [bn.down, simprocAttr, hV.down] at aj ⊢); exact aj
          rcases aS h with ⟨ns, h⟩ | ⟨ns, h⟩
          ·refine aZ (congrArg I.bool ns) ?_
           simp only [(db ns), al.down]
           obtain ⟨aza, qp, h⟩ := aL h
           (try simp only [List.length_append, List.length_cons, List.length_nil, List.length_map, List.length_replicate, Nat.zero_add, Nat.add_zero, Nat.reduceAdd] at qp)
           refine iR (bX [(1, .bd (ep a0)), (3, .ar 1 ((kt ++ [bp]).map aU)), (6, .int .i64 lD), (36, .ar 1 (bj.map aU)), (37, .int .i64 (bj.length : Int)), (38, .int .i64 lE)] (fun P aj => ?_) ?_)
           ·simp only [aT.down, simprocAttr, C7.down, (show ∀ s, dJ aG s 43 1 [(0, .int .i64 bp)] = some (.ar 1 [.int .i64 bp], s) from fun s => by kernel_rfl), @mw aG 43 43 2 rfl rfl, mx, my, mz, all_cons, all_nil, qp, @kO _ aU 1 (fun _ => rfl)]
            (try simp only [bn.down, simprocAttr, hV.down, (show ∀ s, dJ aG s 43 1 [(0, .int .i64 bp)] = some (.ar 1 [.int .i64 bp], s) from fun s => by kernel_rfl), @mw aG 43 43 2 rfl rfl, mx, my, mz, all_cons, all_nil, qp, @kO _ aU 1 (fun _ => rfl)] at aj ⊢); exact aj
           exact n37 _ (n35 _ (.inr ⟨_, br rfl, Od (kt ++ [bp]) lD lE h⟩))
          ·refine a6 (congrArg I.bool ns) ?_
           simp only [(bC ns), al.down]
           exact a_ (n37 _ (n35 _ (.inr ⟨_, br rfl, Od kt lD lE h⟩)))
         ·refine a6 (congrArg I.bool zf) ?_
          simp only [zf, al.down]
          refine dL (aua 4 _ (y2 4 _ (gl _ (tt _ (Hk _ (.inl ?_))))))
          refine wr _ ?_
          exact vO _ (.inr ⟨_, br rfl, at7 kt (IntKind.i64.wrap (lD + 1)) h⟩)
       obtain ⟨n, h⟩ := dx h
       exact dG (.inr ⟨_, br rfl, at8 n l5 nj 0 h⟩)
      ·refine a6 (congrArg I.bool eP) ?_
       simp only [eP, al.down]
       refine dL (Dp 2 _ (GY 2 _ (en _ (jx _ (.inl ?_)))))
       obtain ⟨cZ, aub, h⟩ := aL h
       refine cU (bX [(3, .ar 1 (cZ.map aU))] (fun P aj => ?_) ?_)
       ·simp only [aT.down, simprocAttr, hV.down]
        refine oz [⟨.h 3 [], true, _, _⟩] (Oa l5 _ aub) rfl rfl rfl (by simp only [aT.down, simprocAttr, hV.down, mA, lg, iT, fY, fZ, f_, di, or_true, true_or, @cb _ aU aU (fun _ => hT _)]) rfl rfl (.inl rfl) ?_
        simp only [aT.down, simprocAttr, hV.down, lh]
        (try simp only [bn.down, simprocAttr, hV.down] at aj ⊢); exact aj
       obtain ⟨e7, auc, h⟩ := aL h
       refine cU (bX [(2, .ar 1 (e7.map aU))] (fun P aj => ?_) ?_)
       ·simp only [aT.down, simprocAttr, aU]
        refine oz [⟨.h 3 [], true, _, .hole⟩] (Ob cZ _ auc) rfl rfl rfl (by simp only [aT.down, simprocAttr, aU, mA, lg, iT, fY, fZ, f_, di, or_true, true_or, @cb _ aU aU (fun _ => hT _)]) rfl rfl (.inl rfl) ?_
        simp only [aT.down, simprocAttr, aU, lh]
        (try simp only [bn.down, simprocAttr, aU] at aj ⊢); exact aj
       exact aJ (an _ (.inl (aK [.ar 1 (e7.map aU)] rfl (by cases aI h; rfl) (by decide) aO)))
    obtain ⟨n, h⟩ := dx h
    exact dG (.inr ⟨_, br rfl, at6 n bA 0 h⟩)
 obtain ⟨n, h⟩ := dx h
 exact dG (.inr ⟨_, q1 [] rfl (lf (t := 1) (d := .bd (ep a0)) rfl (q3 (t := 3) (d := .bu) (bL := .ar 1 []) rfl rfl (.mo _) (by decide) (lf (t := 10) (d := .slice (a0.cn.map ez)) rfl (lf (t := 11) (d := .int .i64 (a0.cn.length : Int)) rfl (lf (t := 12) (d := .int .i64 0) rfl (q2)))))), iY n [] 0 h⟩)
theorem Oe (a0 : dv) (r : (List Int) × Int) (h : yq a0 = some r) : aQ aG 32 [ep a0] (.tuple [.ar 1 (r.1.map aU), .int .i64 r.2]) [] := by
 refine aQ.b7 (fx := [0]) b8 [.tmp 2, .tmp 3] [(0, ep a0)] Tryz.func32 rfl rfl amk (Nat.le_of_ble_eq_true rfl) rfl rfl (fun b1 an b2 => ?_)
 refine ws _ ?_
 refine aM (fun ew ca bw au => ?_)
 obtain ⟨ag, c6, h⟩ := aL h
 refine dZ (at1 a0 _ c6) _ ?_
 rcases aS h with ⟨bO, h⟩ | ⟨bO, h⟩
 ·refine aZ (congrArg I.bool bO) ?_
  simp only [(db bO), al.down]
  refine ws _ ?_
  exact aJ (bw _ (an _ (.inr ⟨[(2, .ar 1 []), (3, .int .i64 1)], q1 [] rfl (q3 (t := 2) (d := .bu) rfl rfl (.mo _) (by decide) (lf rfl (q2))), aK [.ar 1 [], .int .i64 1] rfl (by cases aI h; rfl) (by decide) aO⟩)))
 ·refine a6 (congrArg I.bool bO) ?_
  simp only [(bC bO), al.down]
  refine a_ (ca _ (.inl ?_))
  obtain ⟨au, iB, h⟩ := aL h
  refine dZ (at5 a0 _ iB) _ ?_
  exact aJ (an _ (.inl (aK [.ar 1 (au.map aU), .int .i64 0] rfl (by cases aI h; rfl) (by decide) aO)))
theorem tu (a0 : List Int) (U : List Int) (r : Bool) (h : s0 a0 U = some r) : aQ aG 21 [.slice (a0.map aU), .slice (U.map aU)] (.bool r) [] := by
 refine aQ.b7 (fx := [0, 1]) b8 [.tmp 4] [(0, .slice (a0.map aU)), (1, .slice (U.map aU))] Tryz.func21 rfl rfl tc (Nat.le_of_ble_eq_true rfl) rfl rfl (fun b1 an b2 => ?_)
 refine ws _ ?_
 refine aM (fun ew ca bw au => ?_)
 refine ws _ ?_
 rcases aS h with ⟨bz, h⟩ | ⟨bz, h⟩
 ·refine aZ (congrArg I.bool bz) ?_
  simp only [bz, al.down]
  refine ws _ ?_
  exact aJ (bw _ (an _ (.inl (aK [.bool false] rfl (by cases aI h; rfl) (by decide) aO))))
 ·refine a6 (congrArg I.bool bz) ?_
  simp only [bz, al.down]
  refine a_ (ca _ (.inl ?_))
  refine aM (fun e_ dN dX bU => ?_)
  refine ws _ ?_
  refine bK (fun hC g9 gv bf e7 => ?_)
  have hM : ∀ (n : Nat) (ck : Int), Cx a0 U n ck = some r → du aG Nq hC (aa [(0, .slice (a0.map aU)), (1, .slice (U.map aU)), (5, .int .i64 ck)]) := by
   intro dR
   induction dR with
   | zero => intro ck h; cases (show none = some r from h)
   | succ dR hp =>
    intro ck h
    replace h : LU (Cx a0 U dR) a0 U ck = some r := h
    refine dH (fun eG c3 cD dQ => ?_)
    refine aM (fun e8 cq cP de => ?_)
    refine ws _ ?_
    rcases aS h with ⟨cT, h⟩ | ⟨cT, h⟩
    ·refine aZ (congrArg I.bool cT) ?_
     simp only [cT, al.down]
     refine a_ (cq _ (.inl ?_))
     refine aM (fun lG gL gw ju => ?_)
     refine bK (fun iX fI eS ei hA => ?_)
     obtain ⟨ag, cV, h⟩ := aL h
     obtain ⟨au, eT, h⟩ := aL h
     refine hf rfl (hg [(0, .slice (a0.map aU)), (1, .slice (U.map aU)), (5, .int .i64 ck), (25, .bool (ag != au))] (fun P aj => ?_) ?_)
     ·simp only [dD.down, simprocAttr, ey, jf, aU, cV, eT]
      refine ⟨gX (by kernel_rfl), ?_⟩
      (try simp only [bn.down, simprocAttr, aU, cV, eT] at aj ⊢); exact aj
     rcases aS h with ⟨eg, h⟩ | ⟨eg, h⟩
     ·refine aZ (congrArg I.bool eg) ?_
      simp only [eg, al.down]
      refine ws _ ?_
      exact aJ (eS _ (gw _ (cD _ (gv _ (dX _ (an _ (.inl (aK [.bool false] rfl (by cases aI h; rfl) (by decide) aO))))))))
     ·refine a6 (congrArg I.bool eg) ?_
      simp only [eg, al.down]
      refine a_ (fI _ (gL _ (.inl ?_)))
      refine wr _ ?_
      exact c3 _ (.inr ⟨_, br rfl, hp (IntKind.i64.wrap (ck + 1)) h⟩)
    ·refine a6 (congrArg I.bool cT) ?_
     simp only [cT, al.down]
     refine dL (de 0 _ (dQ 0 _ (bf _ (dN _ (.inl ?_)))))
     refine ws _ ?_
     exact aJ (an _ (.inl (aK [.bool true] rfl (by cases aI h; rfl) (by decide) aO)))
  obtain ⟨n, h⟩ := dx h
  exact dG (.inr ⟨_, br rfl, hM n 0 h⟩)
theorem aud (a0 : bW) (U : bW) (r : Bool) (h : yr a0 U = some r) : aQ aG 195 [b0 a0, b0 U] (.bool r) [] := by
 refine aQ.b7 (fx := [0, 1]) b8 [.tmp 4] [(0, b0 a0), (1, b0 U)] Tryz.func195 rfl rfl amF (Nat.le_of_ble_eq_true rfl) rfl rfl (fun b1 an b2 => ?_)
 refine ws _ ?_
 refine aM (fun ew ca bw au => ?_)
 refine ws _ ?_
 rcases aS h with ⟨bz, h⟩ | ⟨bz, h⟩
 ·refine aZ (congrArg I.bool bz) ?_
  simp only [bz, al.down]
  refine ws _ ?_
  exact aJ (bw _ (an _ (.inl (aK [.bool false] rfl (by cases aI h; rfl) (by decide) aO))))
 ·refine a6 (congrArg I.bool bz) ?_
  simp only [bz, al.down]
  refine a_ (ca _ (.inl ?_))
  refine aM (fun e_ dN dX bU => ?_)
  refine ws _ ?_
  rcases aS h with ⟨bf, h⟩ | ⟨bf, h⟩
  ·refine aZ (congrArg I.bool bf) ?_
   simp only [bf, al.down]
   refine ws _ ?_
   exact aJ (dX _ (an _ (.inl (aK [.bool false] rfl (by cases aI h; rfl) (by decide) aO))))
  ·refine a6 (congrArg I.bool bf) ?_
   simp only [bf, al.down]
   refine a_ (dN _ (.inl ?_))
   refine ws _ ?_
   exact aJ (an _ (.inl (aK [.bool true] rfl (by cases aI h; rfl) (by decide) aO)))
theorem aue (a0 : List bW) (U : List bW) (r : Bool) (h : ys a0 U = some r) : aQ aG 158 [.slice (a0.map b0), .slice (U.map b0)] (.bool r) [] := by
 refine aQ.b7 (fx := [0, 1]) b8 [.tmp 4] [(0, .slice (a0.map b0)), (1, .slice (U.map b0))] Tryz.func158 rfl rfl amS (Nat.le_of_ble_eq_true rfl) rfl rfl (fun b1 an b2 => ?_)
 refine ws _ ?_
 refine aM (fun ew ca bw au => ?_)
 refine ws _ ?_
 rcases aS h with ⟨bz, h⟩ | ⟨bz, h⟩
 ·refine aZ (congrArg I.bool bz) ?_
  simp only [bz, al.down]
  refine ws _ ?_
  exact aJ (bw _ (an _ (.inl (aK [.bool false] rfl (by cases aI h; rfl) (by decide) aO))))
 ·refine a6 (congrArg I.bool bz) ?_
  simp only [bz, al.down]
  refine a_ (ca _ (.inl ?_))
  refine aM (fun e_ dN dX bU => ?_)
  refine ws _ ?_
  refine bK (fun hC g9 gv bf e7 => ?_)
  have hM : ∀ (n : Nat) (ck : Int), Cy a0 U n ck = some r → du aG Nr hC (aa [(0, .slice (a0.map b0)), (1, .slice (U.map b0)), (5, .int .i64 ck)]) := by
   intro dR
   induction dR with
   | zero => intro ck h; cases (show none = some r from h)
   | succ dR hp =>
    intro ck h
    replace h : LV (Cy a0 U dR) a0 U ck = some r := h
    refine dH (fun eG c3 cD dQ => ?_)
    refine aM (fun e8 cq cP de => ?_)
    refine ws _ ?_
    rcases aS h with ⟨cT, h⟩ | ⟨cT, h⟩
    ·refine aZ (congrArg I.bool cT) ?_
     simp only [cT, al.down]
     refine a_ (cq _ (.inl ?_))
     refine aM (fun lG gL gw ju => ?_)
     refine bK (fun iX fI eS ei hA => ?_)
     obtain ⟨ag, cV, h⟩ := aL h
     obtain ⟨au, eT, h⟩ := aL h
     obtain ⟨a2, fS, h⟩ := aL h
     refine hf rfl (hg [(0, .slice (a0.map b0)), (1, .slice (U.map b0)), (5, .int .i64 ck), (26, .bool (!a2))] (fun P aj => ?_) ?_)
     ·simp only [dD.down, simprocAttr, nk.down, cV, eT]
      refine iS (aud ag au _ fS) rfl rfl rfl rfl (.inl (by rfl)) ?_
      simp only [dD.down, simprocAttr, nk.down, cV, eT]
      refine ⟨gX (by kernel_rfl), ?_⟩
      (try simp only [bn.down, simprocAttr, b0, cV, eT] at aj ⊢); exact aj
     rcases aS h with ⟨en, h⟩ | ⟨en, h⟩
     ·refine aZ (congrArg I.bool en) ?_
      simp only [(db en), al.down]
      refine ws _ ?_
      exact aJ (eS _ (gw _ (cD _ (gv _ (dX _ (an _ (.inl (aK [.bool false] rfl (by cases aI h; rfl) (by decide) aO))))))))
     ·refine a6 (congrArg I.bool en) ?_
      simp only [(bC en), al.down]
      refine a_ (fI _ (gL _ (.inl ?_)))
      refine wr _ ?_
      exact c3 _ (.inr ⟨_, br rfl, hp (IntKind.i64.wrap (ck + 1)) h⟩)
    ·refine a6 (congrArg I.bool cT) ?_
     simp only [cT, al.down]
     refine dL (de 0 _ (dQ 0 _ (bf _ (dN _ (.inl ?_)))))
     refine ws _ ?_
     exact aJ (an _ (.inl (aK [.bool true] rfl (by cases aI h; rfl) (by decide) aO)))
  obtain ⟨n, h⟩ := dx h
  exact dG (.inr ⟨_, br rfl, hM n 0 h⟩)
theorem auf (a0 : List (List bW)) (U : List (List bW)) (r : Bool) (h : CA a0 U = some r) : aQ aG 159 [.slice (a0.map eC), .slice (U.map eC)] (.bool r) [] := by
 refine aQ.b7 (fx := [0, 1]) b8 [.tmp 4] [(0, .slice (a0.map eC)), (1, .slice (U.map eC))] Tryz.func159 rfl rfl am5 (Nat.le_of_ble_eq_true rfl) rfl rfl (fun b1 an b2 => ?_)
 refine ws _ ?_
 refine aM (fun ew ca bw au => ?_)
 refine ws _ ?_
 rcases aS h with ⟨bz, h⟩ | ⟨bz, h⟩
 ·refine aZ (congrArg I.bool bz) ?_
  simp only [bz, al.down]
  refine ws _ ?_
  exact aJ (bw _ (an _ (.inl (aK [.bool false] rfl (by cases aI h; rfl) (by decide) aO))))
 ·refine a6 (congrArg I.bool bz) ?_
  simp only [bz, al.down]
  refine a_ (ca _ (.inl ?_))
  refine aM (fun e_ dN dX bU => ?_)
  refine ws _ ?_
  refine bK (fun hC g9 gv bf e7 => ?_)
  have hM : ∀ (n : Nat) (ck : Int), Cz a0 U n ck = some r → du aG Ns hC (aa [(0, .slice (a0.map eC)), (1, .slice (U.map eC)), (5, .int .i64 ck)]) := by
   intro dR
   induction dR with
   | zero => intro ck h; cases (show none = some r from h)
   | succ dR hp =>
    intro ck h
    replace h : LW (Cz a0 U dR) a0 U ck = some r := h
    refine dH (fun eG c3 cD dQ => ?_)
    refine aM (fun e8 cq cP de => ?_)
    refine ws _ ?_
    rcases aS h with ⟨cT, h⟩ | ⟨cT, h⟩
    ·refine aZ (congrArg I.bool cT) ?_
     simp only [cT, al.down]
     refine a_ (cq _ (.inl ?_))
     refine aM (fun lG gL gw ju => ?_)
     refine bK (fun iX fI eS ei hA => ?_)
     obtain ⟨ag, cV, h⟩ := aL h
     obtain ⟨au, eT, h⟩ := aL h
     obtain ⟨a2, fS, h⟩ := aL h
     refine hf rfl (hg [(0, .slice (a0.map eC)), (1, .slice (U.map eC)), (5, .int .i64 ck), (26, .bool (!a2))] (fun P aj => ?_) ?_)
     ·simp only [dD.down, simprocAttr, ey, gP, gn, ga, b0, eC, cV, eT]
      refine iS (aue ag au _ fS) rfl rfl rfl rfl (.inl (by rfl)) ?_
      simp only [dD.down, simprocAttr, ey, gP, gn, ga, b0, eC, cV, eT]
      refine ⟨gX (by kernel_rfl), ?_⟩
      (try simp only [bn.down, simprocAttr, b0, eC, cV, eT] at aj ⊢); exact aj
     rcases aS h with ⟨en, h⟩ | ⟨en, h⟩
     ·refine aZ (congrArg I.bool en) ?_
      simp only [(db en), al.down]
      refine ws _ ?_
      exact aJ (eS _ (gw _ (cD _ (gv _ (dX _ (an _ (.inl (aK [.bool false] rfl (by cases aI h; rfl) (by decide) aO))))))))
     ·refine a6 (congrArg I.bool en) ?_
      simp only [(bC en), al.down]
      refine a_ (fI _ (gL _ (.inl ?_)))
      refine wr _ ?_
      exact c3 _ (.inr ⟨_, br rfl, hp (IntKind.i64.wrap (ck + 1)) h⟩)
    ·refine a6 (congrArg I.bool cT) ?_
     simp only [cT, al.down]
     refine dL (de 0 _ (dQ 0 _ (bf _ (dN _ (.inl ?_)))))
     refine ws _ ?_
     exact aJ (an _ (.inl (aK [.bool true] rfl (by cases aI h; rfl) (by decide) aO)))
  obtain ⟨n, h⟩ := dx h
  exact dG (.inr ⟨_, br rfl, hM n 0 h⟩)
theorem aug (a0 : bE) (U : bE) (r : Bool) (h : yt a0 U = some r) : aQ aG 174 [cd a0, cd U] (.bool r) [] := by
 refine aQ.b7 (fx := [0, 1]) b8 [.tmp 4] [(0, cd a0), (1, cd U)] Tryz.func174 rfl rfl ank (Nat.le_of_ble_eq_true rfl) rfl rfl (fun b1 an b2 => ?_)
 refine ws _ ?_
 refine aM (fun ew ca bw au => ?_)
 refine ws _ ?_
 rcases aS h with ⟨bz, h⟩ | ⟨bz, h⟩
 ·refine aZ (congrArg I.bool bz) ?_
  simp only [bz, al.down]
  refine ws _ ?_
  exact aJ (bw _ (an _ (.inl (aK [.bool false] rfl (by cases aI h; rfl) (by decide) aO))))
 ·refine a6 (congrArg I.bool bz) ?_
  simp only [bz, al.down]
  refine a_ (ca _ (.inl ?_))
  refine aM (fun e_ dN dX bU => ?_)
  refine ws _ ?_
  rcases aS h with ⟨bf, h⟩ | ⟨bf, h⟩
  ·refine aZ (congrArg I.bool bf) ?_
   simp only [bf, al.down]
   refine ws _ ?_
   exact aJ (dX _ (an _ (.inl (aK [.bool false] rfl (by cases aI h; rfl) (by decide) aO))))
  ·refine a6 (congrArg I.bool bf) ?_
   simp only [bf, al.down]
   refine a_ (dN _ (.inl ?_))
   refine aM (fun e8 cq cP de => ?_)
   refine ws _ ?_
   rcases aS h with ⟨cT, h⟩ | ⟨cT, h⟩
   ·refine aZ (congrArg I.bool cT) ?_
    simp only [cT, al.down]
    refine ws _ ?_
    exact aJ (cP _ (an _ (.inl (aK [.bool false] rfl (by cases aI h; rfl) (by decide) aO))))
   ·refine a6 (congrArg I.bool cT) ?_
    simp only [cT, al.down]
    refine a_ (cq _ (.inl ?_))
    refine aM (fun iX fI eS hA => ?_)
    obtain ⟨ag, cV, h⟩ := aL h
    refine dZ (auf a0.cA U.cA _ cV) _ ?_
    rcases aS h with ⟨im, h⟩ | ⟨im, h⟩
    ·refine aZ (congrArg I.bool im) ?_
     simp only [(db im), al.down]
     refine ws _ ?_
     exact aJ (eS _ (an _ (.inl (aK [.bool false] rfl (by cases aI h; rfl) (by decide) aO))))
    ·refine a6 (congrArg I.bool im) ?_
     simp only [(bC im), al.down]
     refine a_ (fI _ (.inl ?_))
     refine ws _ ?_
     exact aJ (an _ (.inl (aK [.bool true] rfl (by cases aI h; rfl) (by decide) aO)))
theorem auh (a0 : List bE) (U : List bE) (r : Bool) (h : CC a0 U = some r) : aQ aG 135 [.slice (a0.map cd), .slice (U.map cd)] (.bool r) [] := by
 refine aQ.b7 (fx := [0, 1]) b8 [.tmp 4] [(0, .slice (a0.map cd)), (1, .slice (U.map cd))] Tryz.func135 rfl rfl anx (Nat.le_of_ble_eq_true rfl) rfl rfl (fun b1 an b2 => ?_)
 refine ws _ ?_
 refine aM (fun ew ca bw au => ?_)
 refine ws _ ?_
 rcases aS h with ⟨bz, h⟩ | ⟨bz, h⟩
 ·refine aZ (congrArg I.bool bz) ?_
  simp only [bz, al.down]
  refine ws _ ?_
  exact aJ (bw _ (an _ (.inl (aK [.bool false] rfl (by cases aI h; rfl) (by decide) aO))))
 ·refine a6 (congrArg I.bool bz) ?_
  simp only [bz, al.down]
  refine a_ (ca _ (.inl ?_))
  refine aM (fun e_ dN dX bU => ?_)
  refine ws _ ?_
  refine bK (fun hC g9 gv bf e7 => ?_)
  have hM : ∀ (n : Nat) (ck : Int), CB a0 U n ck = some r → du aG Nt hC (aa [(0, .slice (a0.map cd)), (1, .slice (U.map cd)), (5, .int .i64 ck)]) := by
   intro dR
   induction dR with
   | zero => intro ck h; cases (show none = some r from h)
   | succ dR hp =>
    intro ck h
    replace h : LX (CB a0 U dR) a0 U ck = some r := h
    refine dH (fun eG c3 cD dQ => ?_)
    refine aM (fun e8 cq cP de => ?_)
    refine ws _ ?_
    rcases aS h with ⟨cT, h⟩ | ⟨cT, h⟩
    ·refine aZ (congrArg I.bool cT) ?_
     simp only [cT, al.down]
     refine a_ (cq _ (.inl ?_))
     refine aM (fun lG gL gw ju => ?_)
     refine bK (fun iX fI eS ei hA => ?_)
     obtain ⟨ag, cV, h⟩ := aL h
     obtain ⟨au, eT, h⟩ := aL h
     obtain ⟨a2, fS, h⟩ := aL h
     refine hf rfl (hg [(0, .slice (a0.map cd)), (1, .slice (U.map cd)), (5, .int .i64 ck), (26, .bool (!a2))] (fun P aj => ?_) ?_)
     ·simp only [dD.down, simprocAttr, C6.down, cV, eT]
      refine iS (aug ag au _ fS) rfl rfl rfl rfl (.inl (by rfl)) ?_
      simp only [dD.down, simprocAttr, C6.down, cV, eT]
      refine ⟨gX (by kernel_rfl), ?_⟩
      (try simp only [bn.down, simprocAttr, mH.down, cV, eT] at aj ⊢); exact aj
     rcases aS h with ⟨en, h⟩ | ⟨en, h⟩
     ·refine aZ (congrArg I.bool en) ?_
      simp only [(db en), al.down]
      refine ws _ ?_
      exact aJ (eS _ (gw _ (cD _ (gv _ (dX _ (an _ (.inl (aK [.bool false] rfl (by cases aI h; rfl) (by decide) aO))))))))
     ·refine a6 (congrArg I.bool en) ?_
      simp only [(bC en), al.down]
      refine a_ (fI _ (gL _ (.inl ?_)))
      refine wr _ ?_
      exact c3 _ (.inr ⟨_, br rfl, hp (IntKind.i64.wrap (ck + 1)) h⟩)
    ·refine a6 (congrArg I.bool cT) ?_
     simp only [cT, al.down]
     refine dL (de 0 _ (dQ 0 _ (bf _ (dN _ (.inl ?_)))))
     refine ws _ ?_
     exact aJ (an _ (.inl (aK [.bool true] rfl (by cases aI h; rfl) (by decide) aO)))
  obtain ⟨n, h⟩ := dx h
  exact dG (.inr ⟨_, br rfl, hM n 0 h⟩)
theorem aui (a0 : bg) (U : bg) (r : Bool) (h : yu a0 U = some r) : aQ aG 81 [bB a0, bB U] (.bool r) [] := by
 refine aQ.b7 (fx := [0, 1]) b8 [.tmp 4] [(0, bB a0), (1, bB U)] Tryz.func81 rfl rfl anK (Nat.le_of_ble_eq_true rfl) rfl rfl (fun b1 an b2 => ?_)
 refine ws _ ?_
 refine aM (fun ew ca bw au => ?_)
 refine ws _ ?_
 rcases aS h with ⟨bz, h⟩ | ⟨bz, h⟩
 ·refine aZ (congrArg I.bool bz) ?_
  simp only [bz, al.down]
  refine ws _ ?_
  exact aJ (bw _ (an _ (.inl (aK [.bool false] rfl (by cases aI h; rfl) (by decide) aO))))
 ·refine a6 (congrArg I.bool bz) ?_
  simp only [bz, al.down]
  refine a_ (ca _ (.inl ?_))
  refine aM (fun e_ dN dX bU => ?_)
  refine ws _ ?_
  rcases aS h with ⟨bf, h⟩ | ⟨bf, h⟩
  ·refine aZ (congrArg I.bool bf) ?_
   simp only [bf, al.down]
   refine ws _ ?_
   exact aJ (dX _ (an _ (.inl (aK [.bool false] rfl (by cases aI h; rfl) (by decide) aO))))
  ·refine a6 (congrArg I.bool bf) ?_
   simp only [bf, al.down]
   refine a_ (dN _ (.inl ?_))
   refine aM (fun e8 cq cP de => ?_)
   obtain ⟨ag, eJ, h⟩ := aL h
   refine dZ (auh a0.Body U.Body _ eJ) _ ?_
   rcases aS h with ⟨c0, h⟩ | ⟨c0, h⟩
   ·refine aZ (congrArg I.bool c0) ?_
    simp only [(db c0), al.down]
    refine ws _ ?_
    exact aJ (cP _ (an _ (.inl (aK [.bool false] rfl (by cases aI h; rfl) (by decide) aO))))
   ·refine a6 (congrArg I.bool c0) ?_
    simp only [(bC c0), al.down]
    refine a_ (cq _ (.inl ?_))
    refine ws _ ?_
    exact aJ (an _ (.inl (aK [.bool true] rfl (by cases aI h; rfl) (by decide) aO)))
theorem auj (a0 : List bg) (U : List bg) (r : Bool) (h : yv a0 U = some r) : aQ aG 45 [.slice (a0.map bB), .slice (U.map bB)] (.bool r) [] := by
 refine aQ.b7 (fx := [0, 1]) b8 [.tmp 4] [(0, .slice (a0.map bB)), (1, .slice (U.map bB))] Tryz.func45 rfl rfl anX (Nat.le_of_ble_eq_true rfl) rfl rfl (fun b1 an b2 => ?_)
 refine ws _ ?_
 refine aM (fun ew ca bw au => ?_)
 refine ws _ ?_
 rcases aS h with ⟨bz, h⟩ | ⟨bz, h⟩
 ·refine aZ (congrArg I.bool bz) ?_
  simp only [bz, al.down]
  refine ws _ ?_
  exact aJ (bw _ (an _ (.inl (aK [.bool false] rfl (by cases aI h; rfl) (by decide) aO))))
 ·refine a6 (congrArg I.bool bz) ?_
  simp only [bz, al.down]
  refine a_ (ca _ (.inl ?_))
  refine aM (fun e_ dN dX bU => ?_)
  refine ws _ ?_
  refine bK (fun hC g9 gv bf e7 => ?_)
  have hM : ∀ (n : Nat) (ck : Int), CD a0 U n ck = some r → du aG Nu hC (aa [(0, .slice (a0.map bB)), (1, .slice (U.map bB)), (5, .int .i64 ck)]) := by
   intro dR
   induction dR with
   | zero => intro ck h; cases (show none = some r from h)
   | succ dR hp =>
    intro ck h
    replace h : LY (CD a0 U dR) a0 U ck = some r := h
    refine dH (fun eG c3 cD dQ => ?_)
    refine aM (fun e8 cq cP de => ?_)
    refine ws _ ?_
    rcases aS h with ⟨cT, h⟩ | ⟨cT, h⟩
    ·refine aZ (congrArg I.bool cT) ?_
     simp only [cT, al.down]
     refine a_ (cq _ (.inl ?_))
     refine aM (fun lG gL gw ju => ?_)
     refine bK (fun iX fI eS ei hA => ?_)
     obtain ⟨ag, cV, h⟩ := aL h
     obtain ⟨au, eT, h⟩ := aL h
     obtain ⟨a2, fS, h⟩ := aL h
     refine hf rfl (hg [(0, .slice (a0.map bB)), (1, .slice (U.map bB)), (5, .int .i64 ck), (26, .bool (!a2))] (fun P aj => ?_) ?_)
     ·simp only [dD.down, simprocAttr, iG.down, cV, eT]
      refine iS (aui ag au _ fS) rfl rfl rfl rfl (.inl (by rfl)) ?_
      simp only [dD.down, simprocAttr, iG.down, cV, eT]
      refine ⟨gX (by kernel_rfl), ?_⟩
      (try simp only [bn.down, simprocAttr, hU.down, cV, eT] at aj ⊢); exact aj
     rcases aS h with ⟨en, h⟩ | ⟨en, h⟩
     ·refine aZ (congrArg I.bool en) ?_
      simp only [(db en), al.down]
      refine ws _ ?_
      exact aJ (eS _ (gw _ (cD _ (gv _ (dX _ (an _ (.inl (aK [.bool false] rfl (by cases aI h; rfl) (by decide) aO))))))))
     ·refine a6 (congrArg I.bool en) ?_
      simp only [(bC en), al.down]
      refine a_ (fI _ (gL _ (.inl ?_)))
      refine wr _ ?_
      exact c3 _ (.inr ⟨_, br rfl, hp (IntKind.i64.wrap (ck + 1)) h⟩)
    ·refine a6 (congrArg I.bool cT) ?_
     simp only [cT, al.down]
     refine dL (de 0 _ (dQ 0 _ (bf _ (dN _ (.inl ?_)))))
     refine ws _ ?_
     exact aJ (an _ (.inl (aK [.bool true] rfl (by cases aI h; rfl) (by decide) aO)))
  obtain ⟨n, h⟩ := dx h
  exact dG (.inr ⟨_, br rfl, hM n 0 h⟩)
theorem auk (a0 : dc) (U : dc) (r : Bool) (h : yw a0 U = some r) : aQ aG 82 [ez a0, ez U] (.bool r) [] := by
 refine aQ.b7 (fx := [0, 1]) b8 [.tmp 4] [(0, ez a0), (1, ez U)] Tryz.func82 rfl rfl an6 (Nat.le_of_ble_eq_true rfl) rfl rfl (fun b1 an b2 => ?_)
 refine ws _ ?_
 refine aM (fun ew ca bw au => ?_)
 refine ws _ ?_
 rcases aS h with ⟨bz, h⟩ | ⟨bz, h⟩
 ·refine aZ (congrArg I.bool bz) ?_
  simp only [bz, al.down]
  refine ws _ ?_
  exact aJ (bw _ (an _ (.inl (aK [.bool false] rfl (by cases aI h; rfl) (by decide) aO))))
 ·refine a6 (congrArg I.bool bz) ?_
  simp only [bz, al.down]
  refine a_ (ca _ (.inl ?_))
  refine aM (fun e_ dN dX bU => ?_)
  obtain ⟨ag, iB, h⟩ := aL h
  refine dZ (tu a0.fq U.fq _ iB) _ ?_
  rcases aS h with ⟨dt, h⟩ | ⟨dt, h⟩
  ·refine aZ (congrArg I.bool dt) ?_
   simp only [(db dt), al.down]
   refine ws _ ?_
   exact aJ (dX _ (an _ (.inl (aK [.bool false] rfl (by cases aI h; rfl) (by decide) aO))))
  ·refine a6 (congrArg I.bool dt) ?_
   simp only [(bC dt), al.down]
   refine a_ (dN _ (.inl ?_))
   refine ws _ ?_
   exact aJ (an _ (.inl (aK [.bool true] rfl (by cases aI h; rfl) (by decide) aO)))
theorem aul (a0 : List dc) (U : List dc) (r : Bool) (h : CF a0 U = some r) : aQ aG 46 [.slice (a0.map ez), .slice (U.map ez)] (.bool r) [] := by
 refine aQ.b7 (fx := [0, 1]) b8 [.tmp 4] [(0, .slice (a0.map ez)), (1, .slice (U.map ez))] Tryz.func46 rfl rfl aoi (Nat.le_of_ble_eq_true rfl) rfl rfl (fun b1 an b2 => ?_)
 refine ws _ ?_
 refine aM (fun ew ca bw au => ?_)
 refine ws _ ?_
 rcases aS h with ⟨bz, h⟩ | ⟨bz, h⟩
 ·refine aZ (congrArg I.bool bz) ?_
  simp only [bz, al.down]
  refine ws _ ?_
  exact aJ (bw _ (an _ (.inl (aK [.bool false] rfl (by cases aI h; rfl) (by decide) aO))))
 ·refine a6 (congrArg I.bool bz) ?_
  simp only [bz, al.down]
  refine a_ (ca _ (.inl ?_))
  refine aM (fun e_ dN dX bU => ?_)
  refine ws _ ?_
  refine bK (fun hC g9 gv bf e7 => ?_)
  have hM : ∀ (n : Nat) (ck : Int), CE a0 U n ck = some r → du aG Nv hC (aa [(0, .slice (a0.map ez)), (1, .slice (U.map ez)), (5, .int .i64 ck)]) := by
   intro dR
   induction dR with
   | zero => intro ck h; cases (show none = some r from h)
   | succ dR hp =>
    intro ck h
    replace h : LZ (CE a0 U dR) a0 U ck = some r := h
    refine dH (fun eG c3 cD dQ => ?_)
    refine aM (fun e8 cq cP de => ?_)
    refine ws _ ?_
    rcases aS h with ⟨cT, h⟩ | ⟨cT, h⟩
    ·refine aZ (congrArg I.bool cT) ?_
     simp only [cT, al.down]
     refine a_ (cq _ (.inl ?_))
     refine aM (fun lG gL gw ju => ?_)
     refine bK (fun iX fI eS ei hA => ?_)
     obtain ⟨ag, cV, h⟩ := aL h
     obtain ⟨au, eT, h⟩ := aL h
     obtain ⟨a2, fS, h⟩ := aL h
     refine hf rfl (hg [(0, .slice (a0.map ez)), (1, .slice (U.map ez)), (5, .int .i64 ck), (26, .bool (!a2))] (fun P aj => ?_) ?_)
     ·simp only [dD.down, simprocAttr, ey, oC, jf, m4, aU, ez, cV, eT]
      refine iS (auk ag au _ fS) rfl rfl rfl rfl (.inl (by rfl)) ?_
      simp only [dD.down, simprocAttr, ey, oC, jf, m4, aU, ez, cV, eT]
      refine ⟨gX (by kernel_rfl), ?_⟩
      (try simp only [bn.down, simprocAttr, aU, ez, cV, eT] at aj ⊢); exact aj
     rcases aS h with ⟨en, h⟩ | ⟨en, h⟩
     ·refine aZ (congrArg I.bool en) ?_
      simp only [(db en), al.down]
      refine ws _ ?_
      exact aJ (eS _ (gw _ (cD _ (gv _ (dX _ (an _ (.inl (aK [.bool false] rfl (by cases aI h; rfl) (by decide) aO))))))))
     ·refine a6 (congrArg I.bool en) ?_
      simp only [(bC en), al.down]
      refine a_ (fI _ (gL _ (.inl ?_)))
      refine wr _ ?_
      exact c3 _ (.inr ⟨_, br rfl, hp (IntKind.i64.wrap (ck + 1)) h⟩)
    ·refine a6 (congrArg I.bool cT) ?_
     simp only [cT, al.down]
     refine dL (de 0 _ (dQ 0 _ (bf _ (dN _ (.inl ?_)))))
     refine ws _ ?_
     exact aJ (an _ (.inl (aK [.bool true] rfl (by cases aI h; rfl) (by decide) aO)))
  obtain ⟨n, h⟩ := dx h
  exact dG (.inr ⟨_, br rfl, hM n 0 h⟩)
theorem aum (a0 : b4) (U : b4) (r : Bool) (h : yx a0 U = some r) : aQ aG 83 [bt a0, bt U] (.bool r) [] := by
 refine aQ.b7 (fx := [0, 1]) b8 [.tmp 4] [(0, bt a0), (1, bt U)] Tryz.func83 rfl rfl aou (Nat.le_of_ble_eq_true rfl) rfl rfl (fun b1 an b2 => ?_)
 refine ws _ ?_
 refine aM (fun ew ca bw au => ?_)
 refine ws _ ?_
 rcases aS h with ⟨bz, h⟩ | ⟨bz, h⟩
 ·refine aZ (congrArg I.bool bz) ?_
  simp only [bz, al.down]
  refine ws _ ?_
  exact aJ (bw _ (an _ (.inl (aK [.bool false] rfl (by cases aI h; rfl) (by decide) aO))))
 ·refine a6 (congrArg I.bool bz) ?_
  simp only [bz, al.down]
  refine a_ (ca _ (.inl ?_))
  refine aM (fun e_ dN dX bU => ?_)
  refine ws _ ?_
  rcases aS h with ⟨bf, h⟩ | ⟨bf, h⟩
  ·refine aZ (congrArg I.bool bf) ?_
   simp only [bf, al.down]
   refine ws _ ?_
   exact aJ (dX _ (an _ (.inl (aK [.bool false] rfl (by cases aI h; rfl) (by decide) aO))))
  ·refine a6 (congrArg I.bool bf) ?_
   simp only [bf, al.down]
   refine a_ (dN _ (.inl ?_))
   refine aM (fun e8 cq cP de => ?_)
   refine ws _ ?_
   rcases aS h with ⟨cT, h⟩ | ⟨cT, h⟩
   ·refine aZ (congrArg I.bool cT) ?_
    simp only [cT, al.down]
    refine ws _ ?_
    exact aJ (cP _ (an _ (.inl (aK [.bool false] rfl (by cases aI h; rfl) (by decide) aO))))
   ·refine a6 (congrArg I.bool cT) ?_
    simp only [cT, al.down]
    refine a_ (cq _ (.inl ?_))
    refine ws _ ?_
    exact aJ (an _ (.inl (aK [.bool true] rfl (by cases aI h; rfl) (by decide) aO)))
theorem aun (a0 : List b4) (U : List b4) (r : Bool) (h : CH a0 U = some r) : aQ aG 47 [.slice (a0.map bt), .slice (U.map bt)] (.bool r) [] := by
 refine aQ.b7 (fx := [0, 1]) b8 [.tmp 4] [(0, .slice (a0.map bt)), (1, .slice (U.map bt))] Tryz.func47 rfl rfl td (Nat.le_of_ble_eq_true rfl) rfl rfl (fun b1 an b2 => ?_)
 refine ws _ ?_
 refine aM (fun ew ca bw au => ?_)
 refine ws _ ?_
 rcases aS h with ⟨bz, h⟩ | ⟨bz, h⟩
 ·refine aZ (congrArg I.bool bz) ?_
  simp only [bz, al.down]
  refine ws _ ?_
  exact aJ (bw _ (an _ (.inl (aK [.bool false] rfl (by cases aI h; rfl) (by decide) aO))))
 ·refine a6 (congrArg I.bool bz) ?_
  simp only [bz, al.down]
  refine a_ (ca _ (.inl ?_))
  refine aM (fun e_ dN dX bU => ?_)
  refine ws _ ?_
  refine bK (fun hC g9 gv bf e7 => ?_)
  have hM : ∀ (n : Nat) (ck : Int), CG a0 U n ck = some r → du aG Nw hC (aa [(0, .slice (a0.map bt)), (1, .slice (U.map bt)), (5, .int .i64 ck)]) := by
   intro dR
   induction dR with
   | zero => intro ck h; cases (show none = some r from h)
   | succ dR hp =>
    intro ck h
    replace h : L0 (CG a0 U dR) a0 U ck = some r := h
    refine dH (fun eG c3 cD dQ => ?_)
    refine aM (fun e8 cq cP de => ?_)
    refine ws _ ?_
    rcases aS h with ⟨cT, h⟩ | ⟨cT, h⟩
    ·refine aZ (congrArg I.bool cT) ?_
     simp only [cT, al.down]
     refine a_ (cq _ (.inl ?_))
     refine aM (fun lG gL gw ju => ?_)
     refine bK (fun iX fI eS ei hA => ?_)
     obtain ⟨ag, cV, h⟩ := aL h
     obtain ⟨au, eT, h⟩ := aL h
     obtain ⟨a2, fS, h⟩ := aL h
     refine hf rfl (hg [(0, .slice (a0.map bt)), (1, .slice (U.map bt)), (5, .int .i64 ck), (26, .bool (!a2))] (fun P aj => ?_) ?_)
     ·simp only [dD.down, simprocAttr, g2.down, cV, eT]
      refine iS (aum ag au _ fS) rfl rfl rfl rfl (.inl (by rfl)) ?_
      simp only [dD.down, simprocAttr, g2.down, cV, eT]
      refine ⟨gX (by kernel_rfl), ?_⟩
      (try simp only [bn.down, simprocAttr, bt, cV, eT] at aj ⊢); exact aj
     rcases aS h with ⟨en, h⟩ | ⟨en, h⟩
     ·refine aZ (congrArg I.bool en) ?_
      simp only [(db en), al.down]
      refine ws _ ?_
      exact aJ (eS _ (gw _ (cD _ (gv _ (dX _ (an _ (.inl (aK [.bool false] rfl (by cases aI h; rfl) (by decide) aO))))))))
     ·refine a6 (congrArg I.bool en) ?_
      simp only [(bC en), al.down]
      refine a_ (fI _ (gL _ (.inl ?_)))
      refine wr _ ?_
      exact c3 _ (.inr ⟨_, br rfl, hp (IntKind.i64.wrap (ck + 1)) h⟩)
    ·refine a6 (congrArg I.bool cT) ?_
     simp only [cT, al.down]
     refine dL (de 0 _ (dQ 0 _ (bf _ (dN _ (.inl ?_)))))
     refine ws _ ?_
     exact aJ (an _ (.inl (aK [.bool true] rfl (by cases aI h; rfl) (by decide) aO)))
  obtain ⟨n, h⟩ := dx h
  exact dG (.inr ⟨_, br rfl, hM n 0 h⟩)
theorem Of (a0 : List (List UInt8)) (U : List (List UInt8)) (r : Bool) (h : yy a0 U = some r) : aQ aG 48 [.slice (a0.map bF), .slice (U.map bF)] (.bool r) [] := by
 refine aQ.b7 (fx := [0, 1]) b8 [.tmp 4] [(0, .slice (a0.map bF)), (1, .slice (U.map bF))] Tryz.func48 rfl rfl aoT (Nat.le_of_ble_eq_true rfl) rfl rfl (fun b1 an b2 => ?_)
 refine ws _ ?_
 refine aM (fun ew ca bw au => ?_)
 refine ws _ ?_
 rcases aS h with ⟨bz, h⟩ | ⟨bz, h⟩
 ·refine aZ (congrArg I.bool bz) ?_
  simp only [bz, al.down]
  refine ws _ ?_
  exact aJ (bw _ (an _ (.inl (aK [.bool false] rfl (by cases aI h; rfl) (by decide) aO))))
 ·refine a6 (congrArg I.bool bz) ?_
  simp only [bz, al.down]
  refine a_ (ca _ (.inl ?_))
  refine aM (fun e_ dN dX bU => ?_)
  refine ws _ ?_
  refine bK (fun hC g9 gv bf e7 => ?_)
  have hM : ∀ (n : Nat) (ck : Int), CI a0 U n ck = some r → du aG Nx hC (aa [(0, .slice (a0.map bF)), (1, .slice (U.map bF)), (5, .int .i64 ck)]) := by
   intro dR
   induction dR with
   | zero => intro ck h; cases (show none = some r from h)
   | succ dR hp =>
    intro ck h
    replace h : L1 (CI a0 U dR) a0 U ck = some r := h
    refine dH (fun eG c3 cD dQ => ?_)
    refine aM (fun e8 cq cP de => ?_)
    refine ws _ ?_
    rcases aS h with ⟨cT, h⟩ | ⟨cT, h⟩
    ·refine aZ (congrArg I.bool cT) ?_
     simp only [cT, al.down]
     refine a_ (cq _ (.inl ?_))
     refine aM (fun lG gL gw ju => ?_)
     refine bK (fun iX fI eS ei hA => ?_)
     obtain ⟨ag, cV, h⟩ := aL h
     obtain ⟨au, eT, h⟩ := aL h
     refine hf rfl (hg [(0, .slice (a0.map bF)), (1, .slice (U.map bF)), (5, .int .i64 ck), (25, .bool (!(ag == au)))] (fun P aj => ?_) ?_)
     ·simp only [dD.down, simprocAttr, eU, lk, bF, cV, eT]
      refine ⟨gX (by kernel_rfl), ?_⟩
      (try simp only [bn.down, simprocAttr, bF, cV, eT] at aj ⊢); exact aj
     rcases aS h with ⟨eg, h⟩ | ⟨eg, h⟩
     ·refine aZ (congrArg I.bool eg) ?_
      simp only [eg, al.down]
      refine ws _ ?_
      exact aJ (eS _ (gw _ (cD _ (gv _ (dX _ (an _ (.inl (aK [.bool false] rfl (by cases aI h; rfl) (by decide) aO))))))))
     ·refine a6 (congrArg I.bool eg) ?_
      simp only [eg, al.down]
      refine a_ (fI _ (gL _ (.inl ?_)))
      refine wr _ ?_
      exact c3 _ (.inr ⟨_, br rfl, hp (IntKind.i64.wrap (ck + 1)) h⟩)
    ·refine a6 (congrArg I.bool cT) ?_
     simp only [cT, al.down]
     refine dL (de 0 _ (dQ 0 _ (bf _ (dN _ (.inl ?_)))))
     refine ws _ ?_
     exact aJ (an _ (.inl (aK [.bool true] rfl (by cases aI h; rfl) (by decide) aO)))
  obtain ⟨n, h⟩ := dx h
  exact dG (.inr ⟨_, br rfl, hM n 0 h⟩)
theorem auo (a0 : dv) (U : dv) (r : Bool) (h : yz a0 U = some r) : aQ aG 12 [ep a0, ep U] (.bool r) [] := by
 refine aQ.b7 (fx := [0, 1]) b8 [.tmp 4] [(0, ep a0), (1, ep U)] Tryz.func12 rfl rfl vG (Nat.le_of_ble_eq_true rfl) rfl rfl (fun b1 an b2 => ?_)
 refine ws _ ?_
 refine aM (fun ew ca bw au => ?_)
 obtain ⟨ag, c6, h⟩ := aL h
 refine dZ (auj a0.b3 U.b3 _ c6) _ ?_
 rcases aS h with ⟨bO, h⟩ | ⟨bO, h⟩
 ·refine aZ (congrArg I.bool bO) ?_
  simp only [(db bO), al.down]
  refine ws _ ?_
  exact aJ (bw _ (an _ (.inl (aK [.bool false] rfl (by cases aI h; rfl) (by decide) aO))))
 ·refine a6 (congrArg I.bool bO) ?_
  simp only [(bC bO), al.down]
  refine a_ (ca _ (.inl ?_))
  refine aM (fun g3 dM eM cZ => ?_)
  obtain ⟨au, kG, h⟩ := aL h
  refine dZ (aul a0.cn U.cn _ kG) _ ?_
  rcases aS h with ⟨b5, h⟩ | ⟨b5, h⟩
  ·refine aZ (congrArg I.bool b5) ?_
   simp only [(db b5), al.down]
   refine ws _ ?_
   exact aJ (eM _ (an _ (.inl (aK [.bool false] rfl (by cases aI h; rfl) (by decide) aO))))
  ·refine a6 (congrArg I.bool b5) ?_
   simp only [(bC b5), al.down]
   refine a_ (dM _ (.inl ?_))
   refine aM (fun ji gg h6 iv => ?_)
   obtain ⟨a2, er, h⟩ := aL h
   refine dZ (aun a0.g7 U.g7 _ er) _ ?_
   rcases aS h with ⟨cu, h⟩ | ⟨cu, h⟩
   ·refine aZ (congrArg I.bool cu) ?_
    simp only [(db cu), al.down]
    refine ws _ ?_
    exact aJ (h6 _ (an _ (.inl (aK [.bool false] rfl (by cases aI h; rfl) (by decide) aO))))
   ·refine a6 (congrArg I.bool cu) ?_
    simp only [(bC cu), al.down]
    refine a_ (gg _ (.inl ?_))
    refine aM (fun nZ jx i0 nr => ?_)
    obtain ⟨bj, hq, h⟩ := aL h
    refine dZ (Of a0.gZ U.gZ _ hq) _ ?_
    rcases aS h with ⟨c7, h⟩ | ⟨c7, h⟩
    ·refine aZ (congrArg I.bool c7) ?_
     simp only [(db c7), al.down]
     refine ws _ ?_
     exact aJ (i0 _ (an _ (.inl (aK [.bool false] rfl (by cases aI h; rfl) (by decide) aO))))
    ·refine a6 (congrArg I.bool c7) ?_
     simp only [(bC c7), al.down]
     refine a_ (jx _ (.inl ?_))
     refine aM (fun vM nq mJ vN => ?_)
     obtain ⟨bp, jG, h⟩ := aL h
     refine dZ (Of a0.g0 U.g0 _ jG) _ ?_
     rcases aS h with ⟨hN, h⟩ | ⟨hN, h⟩
     ·refine aZ (congrArg I.bool hN) ?_
      simp only [(db hN), al.down]
      refine ws _ ?_
      exact aJ (mJ _ (an _ (.inl (aK [.bool false] rfl (by cases aI h; rfl) (by decide) aO))))
     ·refine a6 (congrArg I.bool hN) ?_
      simp only [(bC hN), al.down]
      refine a_ (nq _ (.inl ?_))
      refine ws _ ?_
      exact aJ (an _ (.inl (aK [.bool true] rfl (by cases aI h; rfl) (by decide) aO)))
theorem v7 (a0 : Int) (r : (List UInt8)) (h : qj a0 = some r) : aQ aG 84 [.int .i64 a0] (.str r) [] := by
 refine aQ.b7 (fx := []) b8 [.tmp 2] [(0, .int .i64 a0)] Tryz.func84 rfl rfl apk (Nat.le_of_ble_eq_true rfl) rfl rfl (fun b1 an b2 => ?_)
 refine ws _ ?_
 refine aM (fun ew ca bw au => ?_)
 refine ws _ ?_
 rcases aS h with ⟨bz, h⟩ | ⟨bz, h⟩
 ·refine aZ (congrArg I.bool bz) ?_
  simp only [bz, al.down]
  refine ws _ ?_
  exact aJ (bw _ (an _ (.inl (aK [.str ([109, 48] : List UInt8)] rfl (by cases aI h; rfl) (by decide) aO))))
 ·refine a6 (congrArg I.bool bz) ?_
  simp only [bz, al.down]
  refine a_ (ca _ (.inl ?_))
  refine ws _ ?_
  refine aM (fun g3 dM eM cZ => ?_)
  refine bK (fun hC g9 gv bf e7 => ?_)
  have hM : ∀ (n : Nat) (jU : Int) (cS : List UInt8), rq n jU cS = some r → du aG Ny hC (aa [(0, .int .i64 jU), (3, .str cS)]) := by
   intro dR
   induction dR with
   | zero => intro jU cS h; cases (show none = some r from h)
   | succ dR hp =>
    intro jU cS h
    replace h : yA (rq dR) jU cS = some r := h
    refine dH (fun eG c3 cD dQ => ?_)
    refine aM (fun e8 cq cP de => ?_)
    refine ws _ ?_
    rcases aS h with ⟨cT, h⟩ | ⟨cT, h⟩
    ·refine aZ (congrArg I.bool cT) ?_
     simp only [cT, al.down]
     refine a_ (cq _ (.inl ?_))
     refine bK (fun lG gL gw c0 ju => ?_)
     obtain ⟨u16, e1, h⟩ := aL h
     (try simp only [List.length_append, List.length_cons, List.length_nil, List.length_map, List.length_replicate, Nat.zero_add, Nat.add_zero, Nat.reduceAdd] at e1)
     refine cU (bX [(0, .int .i64 jU), (3, .str ([(pO (IntKind.i64.wrap (48 + (Int.tmod jU 10))))] ++ cS))] (fun P aj => ?_) ?_)
     ·simp only [aT.down, simprocAttr, UC, UD, kj, @KD .i64 10 (by decide), @Kx aG 3 5 .u8 rfl rfl, (show ∀ s, dJ aG s 183 1 [(0, .int .u8 (IntKind.u8.wrap (IntKind.i64.wrap (48 + (Int.tmod jU 10)))))] = some (.ar 1 [.int .u8 (IntKind.u8.wrap (IntKind.i64.wrap (48 + (Int.tmod jU 10))))], s) from fun s => by kernel_rfl), (@Kz aG 183 9 5 rfl rfl rfl).2.2, KC, KA, e1, AB, AD]
      (try simp only [bn.down, simprocAttr, kj, @KD .i64 10 (by decide), @Kx aG 3 5 .u8 rfl rfl, (show ∀ s, dJ aG s 183 1 [(0, .int .u8 (IntKind.u8.wrap (IntKind.i64.wrap (48 + (Int.tmod jU 10)))))] = some (.ar 1 [.int .u8 (IntKind.u8.wrap (IntKind.i64.wrap (48 + (Int.tmod jU 10))))], s) from fun s => by kernel_rfl), (@Kz aG 183 9 5 rfl rfl rfl).2.2, KC, KA, e1, AB, AD] at aj ⊢); exact aj
     refine arN (@Tb .i64 10 (by decide)) [(0, .int .i64 (IntKind.i64.wrap (Int.tdiv jU 10))), (3, .str ([(pO (IntKind.i64.wrap (48 + (Int.tmod jU 10))))] ++ cS))] ?_
     exact gL _ (c3 _ (.inr ⟨_, br rfl, hp (IntKind.i64.wrap (Int.tdiv jU 10)) ([(pO (IntKind.i64.wrap (48 + (Int.tmod jU 10))))] ++ cS) h⟩))
    ·refine a6 (congrArg I.bool cT) ?_
     simp only [cT, al.down]
     refine dL (de 0 _ (dQ 0 _ (bf _ (dM _ (.inl ?_)))))
     obtain ⟨ti, fS, h⟩ := aL h
     (try simp only [List.length_append, List.length_cons, List.length_nil, List.length_map, List.length_replicate, Nat.zero_add, Nat.add_zero, Nat.reduceAdd] at fS)
     refine cU (bX [(2, .str (([109] : List UInt8) ++ cS))] (fun P aj => ?_) ?_)
     ·simp only [aT.down, simprocAttr, fS, AB, AD]
      (try simp only [bn.down, simprocAttr, fS, AB, AD] at aj ⊢); exact aj
     exact aJ (an _ (.inl (aK [.str (([109] : List UInt8) ++ cS)] rfl (by cases aI h; rfl) (by decide) aO)))
  obtain ⟨n, h⟩ := dx h
  exact dG (.inr ⟨_, br rfl, hM n a0 ([] : List UInt8) h⟩)
theorem aup (a0 : List bW) (U : Int) (r : Int × (List bW)) (h : CK a0 U = some r) : aQ aG 112 [.ar 2 (a0.map b0), .int .i64 U] (.int .i64 r.1) [.ar 2 (r.2.map b0), .hole] := by
 refine aQ.b7 (fx := [0]) b8 [.tmp 4] [(0, .ar 2 (a0.map b0)), (1, .int .i64 U)] Tryz.func112 rfl rfl apw (Nat.le_of_ble_eq_true rfl) rfl rfl (fun b1 an b2 => ?_)
 refine ws _ ?_
 refine aM (fun ew ca bw au => ?_)
 refine ws _ ?_
 refine bK (fun ed dW cj bz bj => ?_)
 have fz : ∀ (n : Nat) (bN : List bW) (ba : Int) (aX : Int), s3 n bN ba aX = some r → du aG Nz ed (aa [(0, .ar 2 (bN.map b0)), (1, .int .i64 ba), (5, .int .i64 aX)]) := by
  intro cC
  induction cC with
  | zero => intro bN ba aX h; cases (show none = some r from h)
  | succ cC fm =>
   intro bN ba aX h
   replace h : CJ (s3 cC) bN ba aX = some r := h
   refine dH (fun gM d_ dV bp => ?_)
   refine aM (fun e_ dN dX bU => ?_)
   refine ws _ ?_
   rcases aS h with ⟨bf, h⟩ | ⟨bf, h⟩
   ·refine aZ (congrArg I.bool bf) ?_
    simp only [bf, al.down]
    refine a_ (dN _ (.inl ?_))
    refine aM (fun eG c3 cD dQ => ?_)
    refine bK (fun e8 cq cP b5 de => ?_)
    obtain ⟨ag, eJ, h⟩ := aL h
    refine cU (bX [(0, .ar 2 ((List.set bN (Int.toNat aX) (bW.mk ba ag.Value)).map b0)), (1, .int .i64 ba), (5, .int .i64 aX)] (fun P aj => ?_) ?_)
    ·simp only [aT.down, simprocAttr, nk.down, eJ, c8 eJ, eZ, el]
     (try simp only [bn.down, simprocAttr, b0, eJ, c8 eJ, eZ, el] at aj ⊢); exact aj
    refine ws [(0, .ar 2 ((List.set bN (Int.toNat aX) (bW.mk ba ag.Value)).map b0)), (1, .int .i64 (IntKind.i64.wrap (ba + 1))), (5, .int .i64 aX)] ?_
    obtain ⟨au, e1, h⟩ := aL h
    refine cU (bX [(0, .ar 2 ((List.set (List.set bN (Int.toNat aX) (bW.mk ba ag.Value)) (Int.toNat aX) (bW.mk au.Kind (IntKind.i64.wrap (ba + 1)))).map b0)), (1, .int .i64 (IntKind.i64.wrap (ba + 1))), (5, .int .i64 aX)] (fun P aj => ?_) ?_)
    ·simp only [aT.down, simprocAttr, nk.down, e1, c8 e1, eZ, el]
     (try simp only [bn.down, simprocAttr, b0, e1, c8 e1, eZ, el] at aj ⊢); exact aj
    refine wr [(0, .ar 2 ((List.set (List.set bN (Int.toNat aX) (bW.mk ba ag.Value)) (Int.toNat aX) (bW.mk au.Kind (IntKind.i64.wrap (ba + 1)))).map b0)), (1, .int .i64 (IntKind.i64.wrap ((IntKind.i64.wrap (ba + 1)) + 1))), (5, .int .i64 aX)] ?_
    refine cq _ (c3 _ (.inl ?_))
    refine wr [(0, .ar 2 ((List.set (List.set bN (Int.toNat aX) (bW.mk ba ag.Value)) (Int.toNat aX) (bW.mk au.Kind (IntKind.i64.wrap (ba + 1)))).map b0)), (1, .int .i64 (IntKind.i64.wrap ((IntKind.i64.wrap (ba + 1)) + 1))), (5, .int .i64 (IntKind.i64.wrap (aX + 1)))] ?_
    exact d_ _ (.inr ⟨_, br rfl, fm (List.set (List.set bN (Int.toNat aX) (bW.mk ba ag.Value)) (Int.toNat aX) (bW.mk au.Kind (IntKind.i64.wrap (ba + 1)))) (IntKind.i64.wrap ((IntKind.i64.wrap (ba + 1)) + 1)) (IntKind.i64.wrap (aX + 1)) h⟩)
   ·refine a6 (congrArg I.bool bf) ?_
    simp only [bf, al.down]
    refine dL (bU 0 _ (bp 0 _ (bz _ (ca _ (.inl ?_)))))
    refine ws _ ?_
    exact aJ (an _ (.inl (aK [.int .i64 ba] rfl (by cases aI h; rfl) (by decide) (po (pq (by cases aI h; rfl) rfl rfl rfl (m1 (pr)))))))
 obtain ⟨n, h⟩ := dx h
 exact dG (.inr ⟨_, br rfl, fz n a0 U 0 h⟩)
theorem auq (a0 : List (List bW)) (U : Int) (r : Int × (List (List bW))) (h : CM a0 U = some r) : aQ aG 113 [.ar 1 (a0.map fl), .int .i64 U] (.int .i64 r.1) [.ar 1 (r.2.map fl), .hole] := by
 refine aQ.b7 (fx := [0]) b8 [.tmp 4] [(0, .ar 1 (a0.map fl)), (1, .int .i64 U)] Tryz.func113 rfl rfl apE (Nat.le_of_ble_eq_true rfl) rfl rfl (fun b1 an b2 => ?_)
 refine ws _ ?_
 refine aM (fun ew ca bw au => ?_)
 refine ws _ ?_
 refine bK (fun ed dW cj bz bj => ?_)
 have fz : ∀ (n : Nat) (bN : List (List bW)) (ba : Int) (aX : Int), s4 n bN ba aX = some r → du aG NA ed (aa [(0, .ar 1 (bN.map fl)), (1, .int .i64 ba), (5, .int .i64 aX)]) := by
  intro cC
  induction cC with
  | zero => intro bN ba aX h; cases (show none = some r from h)
  | succ cC fm =>
   intro bN ba aX h
   replace h : CL (s4 cC) bN ba aX = some r := h
   refine dH (fun gM d_ dV bp => ?_)
   refine aM (fun e_ dN dX bU => ?_)
   refine ws _ ?_
   rcases aS h with ⟨bf, h⟩ | ⟨bf, h⟩
   ·refine aZ (congrArg I.bool bf) ?_
    simp only [bf, al.down]
    refine a_ (dN _ (.inl ?_))
    refine aM (fun eG c3 cD dQ => ?_)
    refine bK (fun e8 cq cP b5 de => ?_)
    obtain ⟨ag, eJ, h⟩ := aL h
    obtain ⟨au, eu, h⟩ := aL h
    refine iR (bX [(0, .ar 1 ((List.set bN (Int.toNat aX) au.2).map fl)), (1, .int .i64 au.1), (5, .int .i64 aX)] (fun P aj => ?_) ?_)
    ·simp only [aT.down, simprocAttr, ey, gP, gn, ga, b0, fl, eJ, c8 eJ]
     refine oz [⟨.h 0 [Int.toNat aX], true, _, _⟩, ⟨.int .i64 ba, false, _, .hole⟩] (aup ag ba _ eu) rfl rfl rfl (by simp only [aT.down, simprocAttr, ey, gP, gn, ga, b0, fl, eJ, c8 eJ, lg, iT, fY, fZ, f_, di, or_true, true_or, @cb _ b0 b0 (fun _ => GF _)]) rfl rfl (.inl rfl) ?_
     simp only [aT.down, simprocAttr, ey, gP, gn, ga, b0, fl, eJ, c8 eJ, lh, (AJ (c8 eJ)), AK]
     (try simp only [bn.down, simprocAttr, b0, fl, eJ, c8 eJ] at aj ⊢); exact aj
    refine cq _ (c3 _ (.inl ?_))
    refine wr [(0, .ar 1 ((List.set bN (Int.toNat aX) au.2).map fl)), (1, .int .i64 au.1), (5, .int .i64 (IntKind.i64.wrap (aX + 1)))] ?_
    exact d_ _ (.inr ⟨_, br rfl, fm (List.set bN (Int.toNat aX) au.2) au.1 (IntKind.i64.wrap (aX + 1)) h⟩)
   ·refine a6 (congrArg I.bool bf) ?_
    simp only [bf, al.down]
    refine dL (bU 0 _ (bp 0 _ (bz _ (ca _ (.inl ?_)))))
    refine ws _ ?_
    exact aJ (an _ (.inl (aK [.int .i64 ba] rfl (by cases aI h; rfl) (by decide) (po (pq (by cases aI h; rfl) rfl rfl rfl (m1 (pr)))))))
 obtain ⟨n, h⟩ := dx h
 exact dG (.inr ⟨_, br rfl, fz n a0 U 0 h⟩)
theorem aur (a0 : List bE) (U : Int) (r : Int × (List bE)) (h : CO a0 U = some r) : aQ aG 85 [.ar 4 (a0.map fh), .int .i64 U] (.int .i64 r.1) [.ar 4 (r.2.map fh), .hole] := by
 refine aQ.b7 (fx := [0]) b8 [.tmp 4] [(0, .ar 4 (a0.map fh)), (1, .int .i64 U)] Tryz.func85 rfl rfl apS (Nat.le_of_ble_eq_true rfl) rfl rfl (fun b1 an b2 => ?_)
 refine ws _ ?_
 refine aM (fun ew ca bw au => ?_)
 refine ws _ ?_
 refine bK (fun ed dW cj bz bj => ?_)
 have fz : ∀ (n : Nat) (bN : List bE) (ba : Int) (aX : Int), s5 n bN ba aX = some r → du aG NB ed (aa [(0, .ar 4 (bN.map fh)), (1, .int .i64 ba), (5, .int .i64 aX)]) := by
  intro cC
  induction cC with
  | zero => intro bN ba aX h; cases (show none = some r from h)
  | succ cC fm =>
   intro bN ba aX h
   replace h : CN (s5 cC) bN ba aX = some r := h
   refine dH (fun gM d_ dV bp => ?_)
   refine aM (fun e_ dN dX bU => ?_)
   refine ws _ ?_
   rcases aS h with ⟨bf, h⟩ | ⟨bf, h⟩
   ·refine aZ (congrArg I.bool bf) ?_
    simp only [bf, al.down]
    refine a_ (dN _ (.inl ?_))
    refine aM (fun eG c3 cD dQ => ?_)
    refine bK (fun e8 cq cP b5 de => ?_)
    obtain ⟨ag, eJ, h⟩ := aL h
    refine cU (bX [(0, .ar 4 ((List.set bN (Int.toNat aX) (bE.mk ba ag.Number ag.Name ag.cA)).map fh)), (1, .int .i64 ba), (5, .int .i64 aX)] (fun P aj => ?_) ?_)
    ·simp only [aT.down, simprocAttr, th.down, eJ, c8 eJ, eZ, el]
     (try simp only [bn.down, simprocAttr, C_.down, eJ, c8 eJ, eZ, el] at aj ⊢); exact aj
    refine ws [(0, .ar 4 ((List.set bN (Int.toNat aX) (bE.mk ba ag.Number ag.Name ag.cA)).map fh)), (1, .int .i64 (IntKind.i64.wrap (ba + 1))), (5, .int .i64 aX)] ?_
    obtain ⟨au, e1, h⟩ := aL h
    refine cU (bX [(0, .ar 4 ((List.set (List.set bN (Int.toNat aX) (bE.mk ba ag.Number ag.Name ag.cA)) (Int.toNat aX) (bE.mk au.Kind (IntKind.i64.wrap (ba + 1)) au.Name au.cA)).map fh)), (1, .int .i64 (IntKind.i64.wrap (ba + 1))), (5, .int .i64 aX)] (fun P aj => ?_) ?_)
    ·simp only [aT.down, simprocAttr, th.down, e1, c8 e1, eZ, el]
     (try simp only [bn.down, simprocAttr, C_.down, e1, c8 e1, eZ, el] at aj ⊢); exact aj
    refine ws [(0, .ar 4 ((List.set (List.set bN (Int.toNat aX) (bE.mk ba ag.Number ag.Name ag.cA)) (Int.toNat aX) (bE.mk au.Kind (IntKind.i64.wrap (ba + 1)) au.Name au.cA)).map fh)), (1, .int .i64 (IntKind.i64.wrap ((IntKind.i64.wrap (ba + 1)) + 1))), (5, .int .i64 aX)] ?_
    obtain ⟨a2, fS, h⟩ := aL h
    obtain ⟨bj, hq, h⟩ := aL h
    refine cU (bX [(0, .ar 4 ((List.set (List.set (List.set bN (Int.toNat aX) (bE.mk ba ag.Number ag.Name ag.cA)) (Int.toNat aX) (bE.mk au.Kind (IntKind.i64.wrap (ba + 1)) au.Name au.cA)) (Int.toNat aX) (bE.mk bj.Kind bj.Number a2 bj.cA)).map fh)), (1, .int .i64 (IntKind.i64.wrap ((IntKind.i64.wrap (ba + 1)) + 1))), (5, .int .i64 aX)] (fun P aj => ?_) ?_)
    ·simp only [aT.down, simprocAttr, th.down, hq, c8 hq, eZ, el]
     refine e6 (v7 (IntKind.i64.wrap ((IntKind.i64.wrap (ba + 1)) + 1)) _ fS) rfl rfl rfl rfl (.inl (by rfl)) ?_
     simp only [aT.down, simprocAttr, th.down, hq, c8 hq, eZ, el]
     (try simp only [bn.down, simprocAttr, C_.down, hq, c8 hq, eZ, el] at aj ⊢); exact aj
    refine ws [(0, .ar 4 ((List.set (List.set (List.set bN (Int.toNat aX) (bE.mk ba ag.Number ag.Name ag.cA)) (Int.toNat aX) (bE.mk au.Kind (IntKind.i64.wrap (ba + 1)) au.Name au.cA)) (Int.toNat aX) (bE.mk bj.Kind bj.Number a2 bj.cA)).map fh)), (1, .int .i64 (IntKind.i64.wrap ((IntKind.i64.wrap ((IntKind.i64.wrap (ba + 1)) + 1)) + 1))), (5, .int .i64 aX)] ?_
    obtain ⟨bp, hh, h⟩ := aL h
    obtain ⟨bU, qn, h⟩ := aL h
    refine iR (bX [(0, .ar 4 ((List.set (List.set (List.set (List.set bN (Int.toNat aX) (bE.mk ba ag.Number ag.Name ag.cA)) (Int.toNat aX) (bE.mk au.Kind (IntKind.i64.wrap (ba + 1)) au.Name au.cA)) (Int.toNat aX) (bE.mk bj.Kind bj.Number a2 bj.cA)) (Int.toNat aX) (bE.mk bp.Kind bp.Number bp.Name bU.2)).map fh)), (1, .int .i64 bU.1), (5, .int .i64 aX)] (fun P aj => ?_) ?_)
    ·simp only [aT.down, simprocAttr, th.down, hh, c8 hh]
     refine oz [⟨.h 0 [Int.toNat aX, 3], true, _, _⟩, ⟨.int .i64 (IntKind.i64.wrap ((IntKind.i64.wrap ((IntKind.i64.wrap (ba + 1)) + 1)) + 1)), false, _, .hole⟩] (auq bp.cA (IntKind.i64.wrap ((IntKind.i64.wrap ((IntKind.i64.wrap (ba + 1)) + 1)) + 1)) _ qn) rfl rfl rfl (by simp only [aT.down, simprocAttr, th.down, hh, c8 hh, lg, iT, fY, fZ, f_, di, or_true, true_or, @cb _ fl eC (fun _ => GI _)]) rfl rfl (.inl rfl) ?_
     simp only [aT.down, simprocAttr, th.down, hh, c8 hh, lh, (AJ (c8 hh)), AK]
     (try simp only [bn.down, simprocAttr, C_.down, hh, c8 hh] at aj ⊢); exact aj
    refine cq _ (c3 _ (.inl ?_))
    refine wr [(0, .ar 4 ((List.set (List.set (List.set (List.set bN (Int.toNat aX) (bE.mk ba ag.Number ag.Name ag.cA)) (Int.toNat aX) (bE.mk au.Kind (IntKind.i64.wrap (ba + 1)) au.Name au.cA)) (Int.toNat aX) (bE.mk bj.Kind bj.Number a2 bj.cA)) (Int.toNat aX) (bE.mk bp.Kind bp.Number bp.Name bU.2)).map fh)), (1, .int .i64 bU.1), (5, .int .i64 (IntKind.i64.wrap (aX + 1)))] ?_
    exact d_ _ (.inr ⟨_, br rfl, fm (List.set (List.set (List.set (List.set bN (Int.toNat aX) (bE.mk ba ag.Number ag.Name ag.cA)) (Int.toNat aX) (bE.mk au.Kind (IntKind.i64.wrap (ba + 1)) au.Name au.cA)) (Int.toNat aX) (bE.mk bj.Kind bj.Number a2 bj.cA)) (Int.toNat aX) (bE.mk bp.Kind bp.Number bp.Name bU.2)) bU.1 (IntKind.i64.wrap (aX + 1)) h⟩)
   ·refine a6 (congrArg I.bool bf) ?_
    simp only [bf, al.down]
    refine dL (bU 0 _ (bp 0 _ (bz _ (ca _ (.inl ?_)))))
    refine ws _ ?_
    exact aJ (an _ (.inl (aK [.int .i64 ba] rfl (by cases aI h; rfl) (by decide) (po (pq (by cases aI h; rfl) rfl rfl rfl (m1 (pr)))))))
 obtain ⟨n, h⟩ := dx h
 exact dG (.inr ⟨_, br rfl, fz n a0 U 0 h⟩)
theorem aus (a0 : List bg) (U : Int) (r : Int × (List bg)) (h : CQ a0 U = some r) : aQ aG 49 [.ar 3 (a0.map eO), .int .i64 U] (.int .i64 r.1) [.ar 3 (r.2.map eO), .hole] := by
 refine aQ.b7 (fx := [0]) b8 [.tmp 4] [(0, .ar 3 (a0.map eO)), (1, .int .i64 U)] Tryz.func49 rfl rfl ap4 (Nat.le_of_ble_eq_true rfl) rfl rfl (fun b1 an b2 => ?_)
 refine ws _ ?_
 refine aM (fun ew ca bw au => ?_)
 refine ws _ ?_
 refine bK (fun ed dW cj bz bj => ?_)
 have fz : ∀ (n : Nat) (bN : List bg) (ba : Int) (aX : Int), s6 n bN ba aX = some r → du aG NC ed (aa [(0, .ar 3 (bN.map eO)), (1, .int .i64 ba), (5, .int .i64 aX)]) := by
  intro cC
  induction cC with
  | zero => intro bN ba aX h; cases (show none = some r from h)
  | succ cC fm =>
   intro bN ba aX h
   replace h : CP (s6 cC) bN ba aX = some r := h
   refine dH (fun gM d_ dV bp => ?_)
   refine aM (fun e_ dN dX bU => ?_)
   refine ws _ ?_
   rcases aS h with ⟨bf, h⟩ | ⟨bf, h⟩
   ·refine aZ (congrArg I.bool bf) ?_
    simp only [bf, al.down]
    refine a_ (dN _ (.inl ?_))
    refine aM (fun eG c3 cD dQ => ?_)
    refine bK (fun e8 cq cP b5 de => ?_)
    obtain ⟨ag, eJ, h⟩ := aL h
    obtain ⟨au, eu, h⟩ := aL h
    refine cU (bX [(0, .ar 3 ((List.set bN (Int.toNat aX) (bg.mk ag au.dj au.Body)).map eO)), (1, .int .i64 ba), (5, .int .i64 aX)] (fun P aj => ?_) ?_)
    ·simp only [aT.down, simprocAttr, vJ.down, eu, c8 eu, eZ, el]
     refine e6 (v7 ba _ eJ) rfl rfl rfl rfl (.inl (by rfl)) ?_
     simp only [aT.down, simprocAttr, vJ.down, eu, c8 eu, eZ, el]
     (try simp only [bn.down, simprocAttr, b0, eO, fh, fl, eu, c8 eu, eZ, el] at aj ⊢); exact aj
    refine ws [(0, .ar 3 ((List.set bN (Int.toNat aX) (bg.mk ag au.dj au.Body)).map eO)), (1, .int .i64 (IntKind.i64.wrap (ba + 1))), (5, .int .i64 aX)] ?_
    obtain ⟨a2, cV, h⟩ := aL h
    refine cU (bX [(0, .ar 3 ((List.set (List.set bN (Int.toNat aX) (bg.mk ag au.dj au.Body)) (Int.toNat aX) (bg.mk a2.Name (IntKind.i64.wrap (ba + 1)) a2.Body)).map eO)), (1, .int .i64 (IntKind.i64.wrap (ba + 1))), (5, .int .i64 aX)] (fun P aj => ?_) ?_)
    ·simp only [aT.down, simprocAttr, vJ.down, cV, c8 cV, eZ, el]
     (try simp only [bn.down, simprocAttr, b0, eO, fh, fl, cV, c8 cV, eZ, el] at aj ⊢); exact aj
    refine ws [(0, .ar 3 ((List.set (List.set bN (Int.toNat aX) (bg.mk ag au.dj au.Body)) (Int.toNat aX) (bg.mk a2.Name (IntKind.i64.wrap (ba + 1)) a2.Body)).map eO)), (1, .int .i64 (IntKind.i64.wrap ((IntKind.i64.wrap (ba + 1)) + 1))), (5, .int .i64 aX)] ?_
    obtain ⟨bj, hq, h⟩ := aL h
    obtain ⟨bp, iq, h⟩ := aL h
    refine iR (bX [(0, .ar 3 ((List.set (List.set (List.set bN (Int.toNat aX) (bg.mk ag au.dj au.Body)) (Int.toNat aX) (bg.mk a2.Name (IntKind.i64.wrap (ba + 1)) a2.Body)) (Int.toNat aX) (bg.mk bj.Name bj.dj bp.2)).map eO)), (1, .int .i64 bp.1), (5, .int .i64 aX)] (fun P aj => ?_) ?_)
    ·simp only [aT.down, simprocAttr, vJ.down, hq, c8 hq]
     refine oz [⟨.h 0 [Int.toNat aX, 2], true, _, _⟩, ⟨.int .i64 (IntKind.i64.wrap ((IntKind.i64.wrap (ba + 1)) + 1)), false, _, .hole⟩] (aur bj.Body (IntKind.i64.wrap ((IntKind.i64.wrap (ba + 1)) + 1)) _ iq) rfl rfl rfl (by simp only [aT.down, simprocAttr, vJ.down, hq, c8 hq, lg, iT, fY, fZ, f_, di, or_true, true_or, @cb _ fh cd (fun _ => GJ _)]) rfl rfl (.inl rfl) ?_
     simp only [aT.down, simprocAttr, vJ.down, hq, c8 hq, lh, (AJ (c8 hq)), AK]
     (try simp only [bn.down, simprocAttr, b0, eO, fh, fl, hq, c8 hq] at aj ⊢); exact aj
    refine cq _ (c3 _ (.inl ?_))
    refine wr [(0, .ar 3 ((List.set (List.set (List.set bN (Int.toNat aX) (bg.mk ag au.dj au.Body)) (Int.toNat aX) (bg.mk a2.Name (IntKind.i64.wrap (ba + 1)) a2.Body)) (Int.toNat aX) (bg.mk bj.Name bj.dj bp.2)).map eO)), (1, .int .i64 bp.1), (5, .int .i64 (IntKind.i64.wrap (aX + 1)))] ?_
    exact d_ _ (.inr ⟨_, br rfl, fm (List.set (List.set (List.set bN (Int.toNat aX) (bg.mk ag au.dj au.Body)) (Int.toNat aX) (bg.mk a2.Name (IntKind.i64.wrap (ba + 1)) a2.Body)) (Int.toNat aX) (bg.mk bj.Name bj.dj bp.2)) bp.1 (IntKind.i64.wrap (aX + 1)) h⟩)
   ·refine a6 (congrArg I.bool bf) ?_
    simp only [bf, al.down]
    refine dL (bU 0 _ (bp 0 _ (bz _ (ca _ (.inl ?_)))))
    refine ws _ ?_
    exact aJ (an _ (.inl (aK [.int .i64 ba] rfl (by cases aI h; rfl) (by decide) (po (pq (by cases aI h; rfl) rfl rfl rfl (m1 (pr)))))))
 obtain ⟨n, h⟩ := dx h
 exact dG (.inr ⟨_, br rfl, fz n a0 U 0 h⟩)
theorem Og (a0 : List Int) (U : Int) (r : Int × (List Int)) (h : yB a0 U = some r) : aQ aG 23 [.ar 1 (a0.map aU), .int .i64 U] (.int .i64 r.1) [.ar 1 (r.2.map aU), .hole] := by
 refine aQ.b7 (fx := [0]) b8 [.tmp 4] [(0, .ar 1 (a0.map aU)), (1, .int .i64 U)] Tryz.func23 rfl rfl aqc (Nat.le_of_ble_eq_true rfl) rfl rfl (fun b1 an b2 => ?_)
 refine ws _ ?_
 refine aM (fun ew ca bw au => ?_)
 refine ws _ ?_
 refine bK (fun ed dW cj bz bj => ?_)
 have fz : ∀ (n : Nat) (bN : List Int) (ba : Int) (aX : Int), s7 n bN ba aX = some r → du aG ND ed (aa [(0, .ar 1 (bN.map aU)), (1, .int .i64 ba), (5, .int .i64 aX)]) := by
  intro cC
  induction cC with
  | zero => intro bN ba aX h; cases (show none = some r from h)
  | succ cC fm =>
   intro bN ba aX h
   replace h : CR (s7 cC) bN ba aX = some r := h
   refine dH (fun gM d_ dV bp => ?_)
   refine aM (fun e_ dN dX bU => ?_)
   refine ws _ ?_
   rcases aS h with ⟨bf, h⟩ | ⟨bf, h⟩
   ·refine aZ (congrArg I.bool bf) ?_
    simp only [bf, al.down]
    refine a_ (dN _ (.inl ?_))
    refine aM (fun eG c3 cD dQ => ?_)
    refine bK (fun e8 cq cP b5 de => ?_)
    obtain ⟨ag, eJ, h⟩ := aL h
    refine cU (bX [(0, .ar 1 ((List.set bN (Int.toNat aX) ba).map aU)), (1, .int .i64 ba), (5, .int .i64 aX)] (fun P aj => ?_) ?_)
    ·simp only [aT.down, simprocAttr, ey, jf, aU, eJ, c8 eJ, eZ, el]
     (try simp only [bn.down, simprocAttr, aU, eJ, c8 eJ, eZ, el] at aj ⊢); exact aj
    refine wr [(0, .ar 1 ((List.set bN (Int.toNat aX) ba).map aU)), (1, .int .i64 (IntKind.i64.wrap (ba + 1))), (5, .int .i64 aX)] ?_
    refine cq _ (c3 _ (.inl ?_))
    refine wr [(0, .ar 1 ((List.set bN (Int.toNat aX) ba).map aU)), (1, .int .i64 (IntKind.i64.wrap (ba + 1))), (5, .int .i64 (IntKind.i64.wrap (aX + 1)))] ?_
    exact d_ _ (.inr ⟨_, br rfl, fm (List.set bN (Int.toNat aX) ba) (IntKind.i64.wrap (ba + 1)) (IntKind.i64.wrap (aX + 1)) h⟩)
   ·refine a6 (congrArg I.bool bf) ?_
    simp only [bf, al.down]
    refine dL (bU 0 _ (bp 0 _ (bz _ (ca _ (.inl ?_)))))
    refine ws _ ?_
    exact aJ (an _ (.inl (aK [.int .i64 ba] rfl (by cases aI h; rfl) (by decide) (po (pq (by cases aI h; rfl) rfl rfl rfl (m1 (pr)))))))
 obtain ⟨n, h⟩ := dx h
 exact dG (.inr ⟨_, br rfl, fz n a0 U 0 h⟩)
theorem aut (a0 : List dc) (U : Int) (r : Int × (List dc)) (h : CT a0 U = some r) : aQ aG 50 [.ar 2 (a0.map e0), .int .i64 U] (.int .i64 r.1) [.ar 2 (r.2.map e0), .hole] := by
 refine aQ.b7 (fx := [0]) b8 [.tmp 4] [(0, .ar 2 (a0.map e0)), (1, .int .i64 U)] Tryz.func50 rfl rfl aqm (Nat.le_of_ble_eq_true rfl) rfl rfl (fun b1 an b2 => ?_)
 refine ws _ ?_
 refine aM (fun ew ca bw au => ?_)
 refine ws _ ?_
 refine bK (fun ed dW cj bz bj => ?_)
 have fz : ∀ (n : Nat) (bN : List dc) (ba : Int) (aX : Int), s8 n bN ba aX = some r → du aG NF ed (aa [(0, .ar 2 (bN.map e0)), (1, .int .i64 ba), (5, .int .i64 aX)]) := by
  intro cC
  induction cC with
  | zero => intro bN ba aX h; cases (show none = some r from h)
  | succ cC fm =>
   intro bN ba aX h
   replace h : CS (s8 cC) bN ba aX = some r := h
   refine dH (fun gM d_ dV bp => ?_)
   refine aM (fun e_ dN dX bU => ?_)
   refine ws _ ?_
   rcases aS h with ⟨bf, h⟩ | ⟨bf, h⟩
   ·refine aZ (congrArg I.bool bf) ?_
    simp only [bf, al.down]
    refine a_ (dN _ (.inl ?_))
    refine aM (fun eG c3 cD dQ => ?_)
    refine bK (fun e8 cq cP b5 de => ?_)
    obtain ⟨ag, eJ, h⟩ := aL h
    refine cU (bX [(0, .ar 2 ((List.set bN (Int.toNat aX) (dc.mk ba ag.fq)).map e0)), (1, .int .i64 ba), (5, .int .i64 aX)] (fun P aj => ?_) ?_)
    ·simp only [aT.down, simprocAttr, Da.down, eJ, c8 eJ, eZ, el]
     (try simp only [bn.down, simprocAttr, aU, e0, eJ, c8 eJ, eZ, el] at aj ⊢); exact aj
    refine ws [(0, .ar 2 ((List.set bN (Int.toNat aX) (dc.mk ba ag.fq)).map e0)), (1, .int .i64 (IntKind.i64.wrap (ba + 1))), (5, .int .i64 aX)] ?_
    obtain ⟨au, e1, h⟩ := aL h
    obtain ⟨a2, cV, h⟩ := aL h
    refine iR (bX [(0, .ar 2 ((List.set (List.set bN (Int.toNat aX) (dc.mk ba ag.fq)) (Int.toNat aX) (dc.mk au.fe a2.2)).map e0)), (1, .int .i64 a2.1), (5, .int .i64 aX)] (fun P aj => ?_) ?_)
    ·simp only [aT.down, simprocAttr, Da.down, e1, c8 e1]
     refine oz [⟨.h 0 [Int.toNat aX, 1], true, _, _⟩, ⟨.int .i64 (IntKind.i64.wrap (ba + 1)), false, _, .hole⟩] (Og au.fq (IntKind.i64.wrap (ba + 1)) _ cV) rfl rfl rfl (by simp only [aT.down, simprocAttr, Da.down, e1, c8 e1, lg, iT, fY, fZ, f_, di, or_true, true_or, @cb _ aU aU (fun _ => hT _)]) rfl rfl (.inl rfl) ?_
     simp only [aT.down, simprocAttr, Da.down, e1, c8 e1, lh, (AJ (c8 e1)), AK]
     (try simp only [bn.down, simprocAttr, aU, e0, e1, c8 e1] at aj ⊢); exact aj
    refine cq _ (c3 _ (.inl ?_))
    refine wr [(0, .ar 2 ((List.set (List.set bN (Int.toNat aX) (dc.mk ba ag.fq)) (Int.toNat aX) (dc.mk au.fe a2.2)).map e0)), (1, .int .i64 a2.1), (5, .int .i64 (IntKind.i64.wrap (aX + 1)))] ?_
    exact d_ _ (.inr ⟨_, br rfl, fm (List.set (List.set bN (Int.toNat aX) (dc.mk ba ag.fq)) (Int.toNat aX) (dc.mk au.fe a2.2)) a2.1 (IntKind.i64.wrap (aX + 1)) h⟩)
   ·refine a6 (congrArg I.bool bf) ?_
    simp only [bf, al.down]
    refine dL (bU 0 _ (bp 0 _ (bz _ (ca _ (.inl ?_)))))
    refine ws _ ?_
    exact aJ (an _ (.inl (aK [.int .i64 ba] rfl (by cases aI h; rfl) (by decide) (po (pq (by cases aI h; rfl) rfl rfl rfl (m1 (pr)))))))
 obtain ⟨n, h⟩ := dx h
 exact dG (.inr ⟨_, br rfl, fz n a0 U 0 h⟩)
theorem auu (a0 : List b4) (U : Int) (r : Int × (List b4)) (h : CV a0 U = some r) : aQ aG 51 [.ar 3 (a0.map bt), .int .i64 U] (.int .i64 r.1) [.ar 3 (r.2.map bt), .hole] := by
 refine aQ.b7 (fx := [0]) b8 [.tmp 4] [(0, .ar 3 (a0.map bt)), (1, .int .i64 U)] Tryz.func51 rfl rfl aqz (Nat.le_of_ble_eq_true rfl) rfl rfl (fun b1 an b2 => ?_)
 refine ws _ ?_
 refine aM (fun ew ca bw au => ?_)
 refine ws _ ?_
 refine bK (fun ed dW cj bz bj => ?_)
 have fz : ∀ (n : Nat) (bN : List b4) (ba : Int) (aX : Int), s9 n bN ba aX = some r → du aG NG ed (aa [(0, .ar 3 (bN.map bt)), (1, .int .i64 ba), (5, .int .i64 aX)]) := by
  intro cC
  induction cC with
  | zero => intro bN ba aX h; cases (show none = some r from h)
  | succ cC fm =>
   intro bN ba aX h
   replace h : CU (s9 cC) bN ba aX = some r := h
   refine dH (fun gM d_ dV bp => ?_)
   refine aM (fun e_ dN dX bU => ?_)
   refine ws _ ?_
   rcases aS h with ⟨bf, h⟩ | ⟨bf, h⟩
   ·refine aZ (congrArg I.bool bf) ?_
    simp only [bf, al.down]
    refine a_ (dN _ (.inl ?_))
    refine aM (fun eG c3 cD dQ => ?_)
    refine bK (fun e8 cq cP b5 de => ?_)
    obtain ⟨ag, eJ, h⟩ := aL h
    obtain ⟨au, eu, h⟩ := aL h
    refine cU (bX [(0, .ar 3 ((List.set bN (Int.toNat aX) (b4.mk ag au.ch au.Result)).map bt)), (1, .int .i64 ba), (5, .int .i64 aX)] (fun P aj => ?_) ?_)
    ·simp only [aT.down, simprocAttr, g2.down, eu, c8 eu, eZ, el]
     refine e6 (v7 ba _ eJ) rfl rfl rfl rfl (.inl (by rfl)) ?_
     simp only [aT.down, simprocAttr, g2.down, eu, c8 eu, eZ, el]
     (try simp only [bn.down, simprocAttr, bt, eu, c8 eu, eZ, el] at aj ⊢); exact aj
    refine ws [(0, .ar 3 ((List.set bN (Int.toNat aX) (b4.mk ag au.ch au.Result)).map bt)), (1, .int .i64 (IntKind.i64.wrap (ba + 1))), (5, .int .i64 aX)] ?_
    obtain ⟨a2, cV, h⟩ := aL h
    obtain ⟨bj, eT, h⟩ := aL h
    refine cU (bX [(0, .ar 3 ((List.set (List.set bN (Int.toNat aX) (b4.mk ag au.ch au.Result)) (Int.toNat aX) (b4.mk bj.Left a2 bj.Result)).map bt)), (1, .int .i64 (IntKind.i64.wrap (ba + 1))), (5, .int .i64 aX)] (fun P aj => ?_) ?_)
    ·simp only [aT.down, simprocAttr, g2.down, eT, c8 eT, eZ, el]
     refine e6 (v7 (IntKind.i64.wrap (ba + 1)) _ cV) rfl rfl rfl rfl (.inl (by rfl)) ?_
     simp only [aT.down, simprocAttr, g2.down, eT, c8 eT, eZ, el]
     (try simp only [bn.down, simprocAttr, bt, eT, c8 eT, eZ, el] at aj ⊢); exact aj
    refine ws [(0, .ar 3 ((List.set (List.set bN (Int.toNat aX) (b4.mk ag au.ch au.Result)) (Int.toNat aX) (b4.mk bj.Left a2 bj.Result)).map bt)), (1, .int .i64 (IntKind.i64.wrap ((IntKind.i64.wrap (ba + 1)) + 1))), (5, .int .i64 aX)] ?_
    obtain ⟨bp, iq, h⟩ := aL h
    obtain ⟨bU, nX, h⟩ := aL h
    refine cU (bX [(0, .ar 3 ((List.set (List.set (List.set bN (Int.toNat aX) (b4.mk ag au.ch au.Result)) (Int.toNat aX) (b4.mk bj.Left a2 bj.Result)) (Int.toNat aX) (b4.mk bU.Left bU.ch bp)).map bt)), (1, .int .i64 (IntKind.i64.wrap ((IntKind.i64.wrap (ba + 1)) + 1))), (5, .int .i64 aX)] (fun P aj => ?_) ?_)
    ·simp only [aT.down, simprocAttr, g2.down, nX, c8 nX, eZ, el]
     refine e6 (v7 (IntKind.i64.wrap ((IntKind.i64.wrap (ba + 1)) + 1)) _ iq) rfl rfl rfl rfl (.inl (by rfl)) ?_
     simp only [aT.down, simprocAttr, g2.down, nX, c8 nX, eZ, el]
     (try simp only [bn.down, simprocAttr, bt, nX, c8 nX, eZ, el] at aj ⊢); exact aj
    refine wr [(0, .ar 3 ((List.set (List.set (List.set bN (Int.toNat aX) (b4.mk ag au.ch au.Result)) (Int.toNat aX) (b4.mk bj.Left a2 bj.Result)) (Int.toNat aX) (b4.mk bU.Left bU.ch bp)).map bt)), (1, .int .i64 (IntKind.i64.wrap ((IntKind.i64.wrap ((IntKind.i64.wrap (ba + 1)) + 1)) + 1))), (5, .int .i64 aX)] ?_
    refine cq _ (c3 _ (.inl ?_))
    refine wr [(0, .ar 3 ((List.set (List.set (List.set bN (Int.toNat aX) (b4.mk ag au.ch au.Result)) (Int.toNat aX) (b4.mk bj.Left a2 bj.Result)) (Int.toNat aX) (b4.mk bU.Left bU.ch bp)).map bt)), (1, .int .i64 (IntKind.i64.wrap ((IntKind.i64.wrap ((IntKind.i64.wrap (ba + 1)) + 1)) + 1))), (5, .int .i64 (IntKind.i64.wrap (aX + 1)))] ?_
    exact d_ _ (.inr ⟨_, br rfl, fm (List.set (List.set (List.set bN (Int.toNat aX) (b4.mk ag au.ch au.Result)) (Int.toNat aX) (b4.mk bj.Left a2 bj.Result)) (Int.toNat aX) (b4.mk bU.Left bU.ch bp)) (IntKind.i64.wrap ((IntKind.i64.wrap ((IntKind.i64.wrap (ba + 1)) + 1)) + 1)) (IntKind.i64.wrap (aX + 1)) h⟩)
   ·refine a6 (congrArg I.bool bf) ?_
    simp only [bf, al.down]
    refine dL (bU 0 _ (bp 0 _ (bz _ (ca _ (.inl ?_)))))
    refine ws _ ?_
    exact aJ (an _ (.inl (aK [.int .i64 ba] rfl (by cases aI h; rfl) (by decide) (po (pq (by cases aI h; rfl) rfl rfl rfl (m1 (pr)))))))
 obtain ⟨n, h⟩ := dx h
 exact dG (.inr ⟨_, br rfl, fz n a0 U 0 h⟩)
theorem Oh (a0 : List (List UInt8)) (U : Int) (r : Int × (List (List UInt8))) (h : yC a0 U = some r) : aQ aG 52 [.ar 1 (a0.map bF), .int .i64 U] (.int .i64 r.1) [.ar 1 (r.2.map bF), .hole] := by
 refine aQ.b7 (fx := [0]) b8 [.tmp 4] [(0, .ar 1 (a0.map bF)), (1, .int .i64 U)] Tryz.func52 rfl rfl yR (Nat.le_of_ble_eq_true rfl) rfl rfl (fun b1 an b2 => ?_)
 refine ws _ ?_
 refine aM (fun ew ca bw au => ?_)
 refine ws _ ?_
 refine bK (fun ed dW cj bz bj => ?_)
 have fz : ∀ (n : Nat) (bN : List (List UInt8)) (ba : Int) (aX : Int), s_ n bN ba aX = some r → du aG NH ed (aa [(0, .ar 1 (bN.map bF)), (1, .int .i64 ba), (5, .int .i64 aX)]) := by
  intro cC
  induction cC with
  | zero => intro bN ba aX h; cases (show none = some r from h)
  | succ cC fm =>
   intro bN ba aX h
   replace h : CW (s_ cC) bN ba aX = some r := h
   refine dH (fun gM d_ dV bp => ?_)
   refine aM (fun e_ dN dX bU => ?_)
   refine ws _ ?_
   rcases aS h with ⟨bf, h⟩ | ⟨bf, h⟩
   ·refine aZ (congrArg I.bool bf) ?_
    simp only [bf, al.down]
    refine a_ (dN _ (.inl ?_))
    refine aM (fun eG c3 cD dQ => ?_)
    refine bK (fun e8 cq cP b5 de => ?_)
    obtain ⟨ag, eJ, h⟩ := aL h
    obtain ⟨au, eu, h⟩ := aL h
    refine cU (bX [(0, .ar 1 ((List.set bN (Int.toNat aX) ag).map bF)), (1, .int .i64 ba), (5, .int .i64 aX)] (fun P aj => ?_) ?_)
    ·simp only [aT.down, simprocAttr, eU, lk, bF, eu, c8 eu, eZ, el]
     refine e6 (v7 ba _ eJ) rfl rfl rfl rfl (.inl (by rfl)) ?_
     simp only [aT.down, simprocAttr, eU, lk, bF, eu, c8 eu, eZ, el]
     (try simp only [bn.down, simprocAttr, bF, eu, c8 eu, eZ, el] at aj ⊢); exact aj
    refine wr [(0, .ar 1 ((List.set bN (Int.toNat aX) ag).map bF)), (1, .int .i64 (IntKind.i64.wrap (ba + 1))), (5, .int .i64 aX)] ?_
    refine cq _ (c3 _ (.inl ?_))
    refine wr [(0, .ar 1 ((List.set bN (Int.toNat aX) ag).map bF)), (1, .int .i64 (IntKind.i64.wrap (ba + 1))), (5, .int .i64 (IntKind.i64.wrap (aX + 1)))] ?_
    exact d_ _ (.inr ⟨_, br rfl, fm (List.set bN (Int.toNat aX) ag) (IntKind.i64.wrap (ba + 1)) (IntKind.i64.wrap (aX + 1)) h⟩)
   ·refine a6 (congrArg I.bool bf) ?_
    simp only [bf, al.down]
    refine dL (bU 0 _ (bp 0 _ (bz _ (ca _ (.inl ?_)))))
    refine ws _ ?_
    exact aJ (an _ (.inl (aK [.int .i64 ba] rfl (by cases aI h; rfl) (by decide) (po (pq (by cases aI h; rfl) rfl rfl rfl (m1 (pr)))))))
 obtain ⟨n, h⟩ := dx h
 exact dG (.inr ⟨_, br rfl, fz n a0 U 0 h⟩)
theorem auv (ta : List bg) (rr : List dc) (qk : List b4) (px : List (List UInt8)) (oG : List (List UInt8)) (U : Int) (r : Int × (List bg) × (List dc) × (List b4) × (List (List UInt8)) × (List (List UInt8))) (h : CX ta rr qk px oG U = some r) : aQ aG 13 [.agg [.ar 3 (ta.map eO), .ar 2 (rr.map e0), .ar 3 (qk.map bt), .ar 1 (px.map bF), .ar 1 (oG.map bF)], .int .i64 U] (.int .i64 r.1) [.agg [.ar 3 (r.2.1.map eO), .ar 2 (r.2.2.1.map e0), .ar 3 (r.2.2.2.1.map bt), .ar 1 (r.2.2.2.2.1.map bF), .ar 1 (r.2.2.2.2.2.map bF)], .hole] := by
 refine aQ.b7 (fx := [0]) b8 [.tmp 4] [(0, .agg [.ar 3 (ta.map eO), .ar 2 (rr.map e0), .ar 3 (qk.map bt), .ar 1 (px.map bF), .ar 1 (oG.map bF)]), (1, .int .i64 U)] Tryz.func13 rfl rfl vH (Nat.le_of_ble_eq_true rfl) rfl rfl (fun b1 an b2 => ?_)
 refine cU (bX [(0, .agg [.ar 3 (ta.map eO), .ar 2 (rr.map e0), .ar 3 (qk.map bt), .ar 1 (px.map bF), .ar 1 (oG.map bF)]), (1, .int .i64 U), (2, .ad 0 0)] (fun P aj => ?_) ?_)
 ·simp only [aT.down, simprocAttr, j_.down, iD, iF, I.dO, iE]
  (try simp only [bn.down, simprocAttr, vK.down, iD, iF, I.dO, iE] at aj ⊢); exact aj
 obtain ⟨ag, a8, h⟩ := aL h
 refine cU (bX [(0, .agg [.ar 3 (ag.2.map eO), .ar 2 (rr.map e0), .ar 3 (qk.map bt), .ar 1 (px.map bF), .ar 1 (oG.map bF)]), (1, .int .i64 ag.1), (2, .ad 0 0)] (fun P aj => ?_) ?_)
 ·simp only [aT.down, simprocAttr, j_.down, iD, iF, I.dO, iE]
  refine AH [⟨.h 0 [0], true, _, _⟩, ⟨.int .i64 U, false, _, .hole⟩] (aus ta U _ a8) rfl rfl rfl (by simp only [aT.down, simprocAttr, j_.down, iD, iF, I.dO, iE, mA, lg, iT, fY, fZ, f_, di, or_true, true_or, @cb _ eO bB (fun _ => ql _)]) rfl rfl (.inl rfl) (by simp only [aT.down, simprocAttr, j_.down, iD, iF, I.dO, iE, q5, iT, uY, Bool.and_self, Bool.not_false, Bool.and_true]) ?_
  simp only [aT.down, simprocAttr, j_.down, iD, iF, I.dO, iE, lh, q5, iT, eq_self, Bool.and_self]
  (try simp only [bn.down, simprocAttr, vK.down, iD, iF, I.dO, iE] at aj ⊢); exact aj
 obtain ⟨au, da, h⟩ := aL h
 refine cU (bX [(0, .agg [.ar 3 (ag.2.map eO), .ar 2 (au.2.map e0), .ar 3 (qk.map bt), .ar 1 (px.map bF), .ar 1 (oG.map bF)]), (1, .int .i64 au.1), (2, .ad 0 0)] (fun P aj => ?_) ?_)
 ·simp only [aT.down, simprocAttr, j_.down, iD, iF, I.dO, iE]
  refine AH [⟨.h 0 [1], true, _, _⟩, ⟨.int .i64 ag.1, false, _, .hole⟩] (aut rr ag.1 _ da) rfl rfl rfl (by simp only [aT.down, simprocAttr, j_.down, iD, iF, I.dO, iE, mA, lg, iT, fY, fZ, f_, di, or_true, true_or, @cb _ e0 ez (fun _ => qm _)]) rfl rfl (.inl rfl) (by simp only [aT.down, simprocAttr, j_.down, iD, iF, I.dO, iE, q5, iT, uY, Bool.and_self, Bool.not_false, Bool.and_true]) ?_
  simp only [aT.down, simprocAttr, j_.down, iD, iF, I.dO, iE, lh, q5, iT, eq_self, Bool.and_self]
  (try simp only [bn.down, simprocAttr, vK.down, iD, iF, I.dO, iE] at aj ⊢); exact aj
 obtain ⟨a2, cr, h⟩ := aL h
 refine cU (bX [(0, .agg [.ar 3 (ag.2.map eO), .ar 2 (au.2.map e0), .ar 3 (a2.2.map bt), .ar 1 (px.map bF), .ar 1 (oG.map bF)]), (1, .int .i64 a2.1), (2, .ad 0 0)] (fun P aj => ?_) ?_)
 ·simp only [aT.down, simprocAttr, j_.down, iD, iF, I.dO, iE]
  refine AH [⟨.h 0 [2], true, _, _⟩, ⟨.int .i64 au.1, false, _, .hole⟩] (auu qk au.1 _ cr) rfl rfl rfl (by simp only [aT.down, simprocAttr, j_.down, iD, iF, I.dO, iE, mA, lg, iT, fY, fZ, f_, di, or_true, true_or, @cb _ bt bt (fun _ => mE _)]) rfl rfl (.inl rfl) (by simp only [aT.down, simprocAttr, j_.down, iD, iF, I.dO, iE, q5, iT, uY, Bool.and_self, Bool.not_false, Bool.and_true]) ?_
  simp only [aT.down, simprocAttr, j_.down, iD, iF, I.dO, iE, lh, q5, iT, eq_self, Bool.and_self]
  (try simp only [bn.down, simprocAttr, vK.down, iD, iF, I.dO, iE] at aj ⊢); exact aj
 obtain ⟨bj, kG, h⟩ := aL h
 refine cU (bX [(0, .agg [.ar 3 (ag.2.map eO), .ar 2 (au.2.map e0), .ar 3 (a2.2.map bt), .ar 1 (bj.2.map bF), .ar 1 (oG.map bF)]), (1, .int .i64 bj.1), (2, .ad 0 0)] (fun P aj => ?_) ?_)
 ·simp only [aT.down, simprocAttr, j_.down, iD, iF, I.dO, iE]
  refine AH [⟨.h 0 [3], true, _, _⟩, ⟨.int .i64 a2.1, false, _, .hole⟩] (Oh px a2.1 _ kG) rfl rfl rfl (by simp only [aT.down, simprocAttr, j_.down, iD, iF, I.dO, iE, mA, lg, iT, fY, fZ, f_, di, or_true, true_or, @cb _ bF bF (fun _ => iw _)]) rfl rfl (.inl rfl) (by simp only [aT.down, simprocAttr, j_.down, iD, iF, I.dO, iE, q5, iT, uY, Bool.and_self, Bool.not_false, Bool.and_true]) ?_
  simp only [aT.down, simprocAttr, j_.down, iD, iF, I.dO, iE, lh, q5, iT, eq_self, Bool.and_self]
  (try simp only [bn.down, simprocAttr, vK.down, iD, iF, I.dO, iE] at aj ⊢); exact aj
 obtain ⟨bp, oa, h⟩ := aL h
 refine cU (bX [(0, .agg [.ar 3 (ag.2.map eO), .ar 2 (au.2.map e0), .ar 3 (a2.2.map bt), .ar 1 (bj.2.map bF), .ar 1 (bp.2.map bF)]), (1, .int .i64 bp.1)] (fun P aj => ?_) ?_)
 ·simp only [aT.down, simprocAttr, j_.down, iD, iF, I.dO, iE]
  refine oz [⟨.h 0 [4], true, _, _⟩, ⟨.int .i64 bj.1, false, _, .hole⟩] (Oh oG bj.1 _ oa) rfl rfl rfl (by simp only [aT.down, simprocAttr, j_.down, iD, iF, I.dO, iE, mA, lg, iT, fY, fZ, f_, di, or_true, true_or, @cb _ bF bF (fun _ => iw _)]) rfl rfl (.inl rfl) ?_
  simp only [aT.down, simprocAttr, j_.down, iD, iF, I.dO, iE, lh]
  (try simp only [bn.down, simprocAttr, vK.down, iD, iF, I.dO, iE] at aj ⊢); exact aj
 refine ws _ ?_
 exact aJ (an _ (.inl (aK [.int .i64 bp.1] rfl (by cases aI h; rfl) (by decide) (po (pq (by cases aI h; rfl) rfl rfl rfl (m1 (pr)))))))
theorem Oi (a0 : List Int) (U : Int) (r : Int) (h : yD a0 U = some r) : aQ aG 25 [.slice (a0.map aU), .int .i64 U] (.int .i64 r) [] := by
 refine aQ.b7 (fx := [0]) b8 [.tmp 4] [(0, .slice (a0.map aU)), (1, .int .i64 U)] Tryz.func25 rfl rfl te (Nat.le_of_ble_eq_true rfl) rfl rfl (fun b1 an b2 => ?_)
 refine ws _ ?_
 refine aM (fun ew ca bw au => ?_)
 refine ws _ ?_
 refine bK (fun ed dW cj bz bj => ?_)
 have fz : ∀ (n : Nat) (ba : Int) (aX : Int), tb a0 n ba aX = some r → du aG NI ed (aa [(0, .slice (a0.map aU)), (1, .int .i64 ba), (5, .int .i64 aX)]) := by
  intro cC
  induction cC with
  | zero => intro ba aX h; cases (show none = some r from h)
  | succ cC fm =>
   intro ba aX h
   replace h : CY (tb a0 cC) a0 ba aX = some r := h
   refine dH (fun gM d_ dV bp => ?_)
   refine aM (fun e_ dN dX bU => ?_)
   refine ws _ ?_
   rcases aS h with ⟨bf, h⟩ | ⟨bf, h⟩
   ·refine aZ (congrArg I.bool bf) ?_
    simp only [bf, al.down]
    refine a_ (dN _ (.inl ?_))
    refine aM (fun eG c3 cD dQ => ?_)
    refine bK (fun e8 cq cP b5 de => ?_)
    refine aM (fun iW fu il eB => ?_)
    obtain ⟨ag, eu, h⟩ := aL h
    refine g1 eu _ ?_
    rcases aS h with ⟨ei, h⟩ | ⟨ei, h⟩
    ·refine aZ (congrArg I.bool ei) ?_
     simp only [ei, al.down]
     refine ws _ ?_
     exact aJ (il _ (cP _ (cD _ (dV _ (cj _ (bw _ (an _ (.inl (aK [.int .i64 (-1)] rfl (by cases aI h; rfl) (by decide) aO)))))))))
    ·refine a6 (congrArg I.bool ei) ?_
     simp only [ei, al.down]
     refine a_ (fu _ (.inl ?_))
     refine wr _ ?_
     refine cq _ (c3 _ (.inl ?_))
     refine wr _ ?_
     exact d_ _ (.inr ⟨_, br rfl, fm (IntKind.i64.wrap (ba + 1)) (IntKind.i64.wrap (aX + 1)) h⟩)
   ·refine a6 (congrArg I.bool bf) ?_
    simp only [bf, al.down]
    refine dL (bU 0 _ (bp 0 _ (bz _ (ca _ (.inl ?_)))))
    refine ws _ ?_
    exact aJ (an _ (.inl (aK [.int .i64 ba] rfl (by cases aI h; rfl) (by decide) aO)))
 obtain ⟨n, h⟩ := dx h
 exact dG (.inr ⟨_, br rfl, fz n U 0 h⟩)
theorem auw (a0 : kn) (r : Bool) (h : Gy a0 = some r) : aQ aG 6 [jh a0] (.bool r) [] := by
 refine aQ.b7 (fx := [0]) b8 [.tmp 2] [(0, jh a0)] Tryz.func6 rfl rfl yS (Nat.le_of_ble_eq_true rfl) rfl rfl (fun b1 an b2 => ?_)
 refine ws _ ?_
 refine ws _ ?_
 obtain ⟨ag, c6, h⟩ := aL h
 refine dZ (arZ a0 1048576 _ c6) _ ?_
 refine aM (fun gM d_ dV bp => ?_)
 refine ws _ ?_
 rcases aS h with ⟨iM, h⟩ | ⟨iM, h⟩
 ·refine aZ (congrArg I.bool iM) ?_
  simp only [iM, al.down]
  refine ws _ ?_
  exact aJ (dV _ (an _ (.inl (aK [.bool true] rfl (by cases aI h; rfl) (by decide) aO))))
 ·refine a6 (congrArg I.bool iM) ?_
  simp only [iM, al.down]
  refine a_ (d_ _ (.inl ?_))
  obtain ⟨au, n_, h⟩ := aL h
  obtain ⟨a2, oa, h⟩ := aL h
  refine cU (bX [(1, .bd (jh a0)), (4, .ar 1 (a2.1.map aU)), (5, .int .i64 a2.2)] (fun P aj => ?_) ?_)
  ·simp only [aT.down, simprocAttr, ru.down]
   refine e6 (Dc a0 _ n_) rfl rfl rfl rfl (.inl (by rfl)) ?_
   simp only [aT.down, simprocAttr, ru.down]
   refine e6 (atj au _ oa) rfl rfl (by simp only [aT.down, simprocAttr, ru.down, fY, fZ, f_, di, @cb _ eO bB (fun _ => ql _), @cb _ e0 ez (fun _ => qm _), @cb _ bt bt (fun _ => mE _), @cb _ bF bF (fun _ => iw _), @cb _ bF bF (fun _ => iw _)] <;> rfl) rfl (.inr (by simp only [I.c4, I.hx, @je _ aU (fun _ => py _), Bool.and_self])) ?_
   simp only [aT.down, simprocAttr, ru.down]
   (try simp only [bn.down, simprocAttr, np.down] at aj ⊢); exact aj
  obtain ⟨bj, eu, h⟩ := aL h
  refine dZ (Dc a0 _ eu) _ ?_
  obtain ⟨bp, e1, h⟩ := aL h
  refine cU (bX [(1, .bd (jh a0)), (4, .ar 1 (a2.1.map aU)), (5, .int .i64 a2.2), (6, .bd (mF bj)), (7, .ar 1 (bp.1.map aU)), (8, .int .i64 bp.2)] (fun P aj => ?_) ?_)
  ·simp only [aT.down, simprocAttr, vL.down]
   refine e6 (Oe bj _ e1) rfl rfl (by simp only [aT.down, simprocAttr, vL.down, fY, fZ, f_, di, @cb _ eO bB (fun _ => ql _), @cb _ e0 ez (fun _ => qm _), @cb _ bt bt (fun _ => mE _), @cb _ bF bF (fun _ => iw _), @cb _ bF bF (fun _ => iw _)] <;> rfl) rfl (.inr (by simp only [I.c4, I.hx, @je _ aU (fun _ => py _), Bool.and_self])) ?_
   simp only [aT.down, simprocAttr, vL.down]
   (try simp only [bn.down, simprocAttr, np.down] at aj ⊢); exact aj
  refine aM (fun oJ ka jw l7 => ?_)
  obtain ⟨bU, fS, h⟩ := aL h
  refine cU (bX [(1, .bd (jh a0)), (4, .ar 1 (a2.1.map aU)), (5, .int .i64 a2.2), (6, .bd (mF bj)), (7, .ar 1 (bp.1.map aU)), (8, .int .i64 bp.2), (40, .bool ((!bU) || (bp.2 != a2.2)))] (fun P aj => ?_) ?_)
  ·rcases Bool.eq_false_or_eq_true (bU) with qq | qq
   ·simp only [aT.down, simprocAttr, np.down, qq]
    refine e6 (tu bp.1 a2.1 _ fS) rfl rfl (by simp only [aT.down, simprocAttr, np.down, qq, fY, fZ, f_, di, @cb _ aU aU (fun _ => hT _), @cb _ aU aU (fun _ => hT _)] <;> rfl) rfl (.inr (by rfl)) ?_
    simp only [aT.down, simprocAttr, np.down, qq]
    (try simp only [bn.down, simprocAttr, np.down, qq] at aj ⊢); exact aj
   ·simp only [aT.down, simprocAttr, np.down, qq]
    refine e6 (tu bp.1 a2.1 _ fS) rfl rfl (by simp only [aT.down, simprocAttr, np.down, qq, fY, fZ, f_, di, @cb _ aU aU (fun _ => hT _), @cb _ aU aU (fun _ => hT _)] <;> rfl) rfl (.inr (by rfl)) ?_
    simp only [aT.down, simprocAttr, np.down, qq]
    (try simp only [bn.down, simprocAttr, np.down, qq] at aj ⊢); exact aj
  rcases aS h with ⟨c7, h⟩ | ⟨c7, h⟩
  ·refine aZ (congrArg I.bool c7) ?_
   simp only [c7, al.down]
   refine ws _ ?_
   exact aJ (jw _ (an _ (.inl (aK [.bool false] rfl (by cases aI h; rfl) (by decide) aO))))
  ·refine a6 (congrArg I.bool c7) ?_
   simp only [c7, al.down]
   refine a_ (ka _ (.inl ?_))
   refine aM (fun vM nq mJ vN => ?_)
   obtain ⟨cZ, jG, h⟩ := aL h
   obtain ⟨e7, kS, h⟩ := aL h
   refine hf rfl (hg [(1, .bd (jh a0)), (4, .ar 1 (a2.1.map aU)), (5, .int .i64 a2.2), (6, .bd (mF bj)), (7, .ar 1 (bp.1.map aU)), (8, .int .i64 bp.2), (45, .bool (!e7))] (fun P aj => ?_) ?_)
   ·simp only [dD.down, simprocAttr, Db.down]
    refine iS (Dc a0 _ jG) rfl rfl rfl rfl (.inl (by rfl)) ?_
    simp only [dD.down, simprocAttr, Db.down]
    refine iS (auo bj cZ _ kS) rfl rfl (by simp only [dD.down, simprocAttr, Db.down, fY, fZ, f_, di, @cb _ eO bB (fun _ => ql _), @cb _ e0 ez (fun _ => qm _), @cb _ bt bt (fun _ => mE _), @cb _ bF bF (fun _ => iw _), @cb _ bF bF (fun _ => iw _), @cb _ eO bB (fun _ => ql _), @cb _ e0 ez (fun _ => qm _), @cb _ bt bt (fun _ => mE _), @cb _ bF bF (fun _ => iw _), @cb _ bF bF (fun _ => iw _)] <;> rfl) rfl (.inr (by rfl)) ?_
    simp only [dD.down, simprocAttr, Db.down]
    refine ⟨gX (by kernel_rfl), ?_⟩
    (try simp only [bn.down, simprocAttr, np.down] at aj ⊢); exact aj
   rcases aS h with ⟨ff, h⟩ | ⟨ff, h⟩
   ·refine aZ (congrArg I.bool ff) ?_
    simp only [(db ff), al.down]
    refine ws _ ?_
    exact aJ (mJ _ (an _ (.inl (aK [.bool false] rfl (by cases aI h; rfl) (by decide) aO))))
   ·refine a6 (congrArg I.bool ff) ?_
    simp only [(bC ff), al.down]
    refine a_ (nq _ (.inl ?_))
    refine ws _ ?_
    obtain ⟨dQ, auy, h⟩ := aL h
    refine cU (bX [(1, .bd (jh a0)), (4, .ar 1 (a2.1.map aU)), (5, .int .i64 a2.2), (7, .ar 1 (bp.1.map aU)), (8, .int .i64 bp.2), (9, .int .i64 dQ.1)] (fun P aj => ?_) ?_)
    ·simp only [aT.down, simprocAttr, vL.down]
     refine oz [⟨.h 6 [0], true, _, _⟩, ⟨.int .i64 1, false, _, .hole⟩] (auv bj.b3 bj.cn bj.g7 bj.gZ bj.g0 1 _ auy) rfl rfl rfl (by simp only [aT.down, simprocAttr, vL.down, mA, lg, iT, fY, fZ, f_, di, or_true, true_or, @cb _ eO bB (fun _ => ql _), @cb _ e0 ez (fun _ => qm _), @cb _ bt bt (fun _ => mE _), @cb _ bF bF (fun _ => iw _), @cb _ bF bF (fun _ => iw _)]) rfl rfl (.inl rfl) ?_
     simp only [aT.down, simprocAttr, vL.down, lh]
     (try simp only [bn.down, simprocAttr, np.down] at aj ⊢); exact aj
    refine aM (fun Dj n31 vS y2 => ?_)
    rcases aS h with ⟨fT, h⟩ | ⟨fT, h⟩
    ·refine g1 fT _ ?_
     refine aZ rfl ?_
     refine ws _ ?_
     exact aJ (vS _ (an _ (.inl (aK [.bool false] rfl (by cases aI h; rfl) (by decide) aO))))
    ·obtain ⟨de, tn, h⟩ := aL h
     refine cU (bX [(1, .bd (jh a0)), (4, .ar 1 (a2.1.map aU)), (5, .int .i64 a2.2), (7, .ar 1 (bp.1.map aU)), (61, .bool ((!de) || (bp.2 != a2.2)))] (fun P aj => ?_) ?_)
     ·rcases Bool.eq_false_or_eq_true (de) with oH | oH
      ·simp only [aT.down, simprocAttr, lF.down, fT, oH]
       refine hy (tu bp.1 a2.1 _ tn) rfl rfl (by simp only [aT.down, simprocAttr, lF.down, fT, oH, fY, fZ, f_, di, @cb _ aU aU (fun _ => hT _), @cb _ aU aU (fun _ => hT _)] <;> rfl) rfl (.inr (by rfl)) ?_
       simp only [aT.down, simprocAttr, lF.down, fT, oH]
       (try simp only [bn.down, simprocAttr, lF.down, fT, oH] at aj ⊢); exact aj
      ·simp only [aT.down, simprocAttr, lF.down, fT, oH]
       refine hy (tu bp.1 a2.1 _ tn) rfl rfl (by simp only [aT.down, simprocAttr, lF.down, fT, oH, fY, fZ, f_, di, @cb _ aU aU (fun _ => hT _), @cb _ aU aU (fun _ => hT _)] <;> rfl) rfl (.inr (by rfl)) ?_
       simp only [aT.down, simprocAttr, lF.down, fT, oH]
       (try simp only [bn.down, simprocAttr, lF.down, fT, oH] at aj ⊢); exact aj
     rcases aS h with ⟨vZ, h⟩ | ⟨vZ, h⟩
     ·refine aZ (congrArg I.bool vZ) ?_
      simp only [vZ, al.down]
      refine ws _ ?_
      exact aJ (vS _ (an _ (.inl (aK [.bool false] rfl (by cases aI h; rfl) (by decide) aO))))
     ·refine a6 (congrArg I.bool vZ) ?_
      simp only [vZ, al.down]
      refine a_ (n31 _ (.inl ?_))
      refine ws _ ?_
      obtain ⟨eB, Hq, h⟩ := aL h
      refine cU (bX [(1, .bd (jh a0)), (4, .ar 1 (a2.1.map aU)), (5, .int .i64 a2.2), (7, .ar 1 (eB.2.map aU)), (10, .int .i64 eB.1)] (fun P aj => ?_) ?_)
      ·simp only [aT.down, simprocAttr, lF.down]
       refine oz [⟨.h 7 [], true, _, _⟩, ⟨.int .i64 1, false, _, .hole⟩] (Og bp.1 1 _ Hq) rfl rfl rfl (by simp only [aT.down, simprocAttr, lF.down, mA, lg, iT, fY, fZ, f_, di, or_true, true_or, @cb _ aU aU (fun _ => hT _)]) rfl rfl (.inl rfl) ?_
       simp only [aT.down, simprocAttr, lF.down, lh]
       (try simp only [bn.down, simprocAttr, lF.down] at aj ⊢); exact aj
      refine ws _ ?_
      obtain ⟨iv, qp, h⟩ := aL h
      refine cU (bX [(1, .bd (jh a0)), (4, .ar 1 (a2.1.map aU)), (5, .int .i64 a2.2), (7, .ar 1 (eB.2.map aU)), (10, .int .i64 eB.1), (11, .int .i64 iv)] (fun P aj => ?_) ?_)
      ·simp only [aT.down, simprocAttr, lF.down]
       refine e6 (Oi eB.2 1 _ qp) rfl rfl (by simp only [aT.down, simprocAttr, lF.down, fY, fZ, f_, di, @cb _ aU aU (fun _ => hT _)] <;> rfl) rfl (.inr (by rfl)) ?_
       simp only [aT.down, simprocAttr, lF.down]
       (try simp only [bn.down, simprocAttr, lF.down] at aj ⊢); exact aj
      refine aM (fun azb n45 auz azc => ?_)
      refine ws _ ?_
      rcases aS h with ⟨zg, h⟩ | ⟨zg, h⟩
      ·refine aZ (congrArg I.bool zg) ?_
       simp only [zg, al.down]
       refine ws _ ?_
       exact aJ (auz _ (an _ (.inl (aK [.bool false] rfl (by cases aI h; rfl) (by decide) aO))))
      ·refine a6 (congrArg I.bool zg) ?_
       simp only [zg, al.down]
       refine a_ (n45 _ (.inl ?_))
       refine aM (fun azd n49 auA aze => ?_)
       refine ws _ ?_
       rcases aS h with ⟨zh, h⟩ | ⟨zh, h⟩
       ·refine aZ (congrArg I.bool zh) ?_
        simp only [zh, al.down]
        refine ws _ ?_
        exact aJ (auA _ (an _ (.inl (aK [.bool false] rfl (by cases aI h; rfl) (by decide) aO))))
       ·refine a6 (congrArg I.bool zh) ?_
        simp only [zh, al.down]
        refine a_ (n49 _ (.inl ?_))
        obtain ⟨ju, auB, h⟩ := aL h
        obtain ⟨hA, auC, h⟩ := aL h
        refine cU (bX [(4, .ar 1 (a2.1.map aU)), (5, .int .i64 a2.2), (7, .ar 1 (eB.2.map aU)), (10, .int .i64 eB.1), (12, .ar 1 (hA.1.map aU)), (13, .int .i64 hA.2)] (fun P aj => ?_) ?_)
        ·simp only [aT.down, simprocAttr, ru.down]
         refine e6 (Dc a0 _ auB) rfl rfl rfl rfl (.inl (by rfl)) ?_
         simp only [aT.down, simprocAttr, ru.down]
         refine e6 (Oe ju _ auC) rfl rfl (by simp only [aT.down, simprocAttr, ru.down, fY, fZ, f_, di, @cb _ eO bB (fun _ => ql _), @cb _ e0 ez (fun _ => qm _), @cb _ bt bt (fun _ => mE _), @cb _ bF bF (fun _ => iw _), @cb _ bF bF (fun _ => iw _)] <;> rfl) rfl (.inr (by simp only [I.c4, I.hx, @je _ aU (fun _ => py _), Bool.and_self])) ?_
         simp only [aT.down, simprocAttr, ru.down]
         (try simp only [bn.down, simprocAttr, np.down] at aj ⊢); exact aj
        refine aM (fun azf auD auE azg => ?_)
        obtain ⟨jv, Oj, h⟩ := aL h
        refine cU (bX [(7, .ar 1 (eB.2.map aU)), (10, .int .i64 eB.1), (87, .bool ((!jv) || (hA.2 != a2.2)))] (fun P aj => ?_) ?_)
        ·rcases Bool.eq_false_or_eq_true (jv) with oI | oI
         ·simp only [aT.down, simprocAttr, aU, oI]
          refine e6 (tu hA.1 a2.1 _ Oj) rfl rfl (by simp only [aT.down, simprocAttr, aU, oI, fY, fZ, f_, di, @cb _ aU aU (fun _ => hT _), @cb _ aU aU (fun _ => hT _)] <;> rfl) rfl (.inr (by rfl)) ?_
          simp only [aT.down, simprocAttr, aU, oI]
          (try simp only [bn.down, simprocAttr, aU, oI] at aj ⊢); exact aj
         ·simp only [aT.down, simprocAttr, aU, oI]
          refine e6 (tu hA.1 a2.1 _ Oj) rfl rfl (by simp only [aT.down, simprocAttr, aU, oI, fY, fZ, f_, di, @cb _ aU aU (fun _ => hT _), @cb _ aU aU (fun _ => hT _)] <;> rfl) rfl (.inr (by rfl)) ?_
          simp only [aT.down, simprocAttr, aU, oI]
          (try simp only [bn.down, simprocAttr, aU, oI] at aj ⊢); exact aj
        rcases aS h with ⟨zi, h⟩ | ⟨zi, h⟩
        ·refine aZ (congrArg I.bool zi) ?_
         simp only [zi, al.down]
         refine ws _ ?_
         exact aJ (auE _ (an _ (.inl (aK [.bool false] rfl (by cases aI h; rfl) (by decide) aO))))
        ·refine a6 (congrArg I.bool zi) ?_
         simp only [zi, al.down]
         refine a_ (auD _ (.inl ?_))
         refine ws _ ?_
         obtain ⟨l7, G6, h⟩ := aL h
         refine cU (bX [(10, .int .i64 eB.1), (11, .int .i64 l7)] (fun P aj => ?_) ?_)
         ·simp only [aT.down, simprocAttr, aU]
          refine e6 (Oi eB.2 1 _ G6) rfl rfl (by simp only [aT.down, simprocAttr, aU, fY, fZ, f_, di, @cb _ aU aU (fun _ => hT _)] <;> rfl) rfl (.inr (by rfl)) ?_
          simp only [aT.down, simprocAttr, aU]
          (try simp only [bn.down, simprocAttr, aU] at aj ⊢); exact aj
         refine aM (fun azh n65 auF azi => ?_)
         refine ws _ ?_
         rcases aS h with ⟨zj, h⟩ | ⟨zj, h⟩
         ·refine aZ (congrArg I.bool zj) ?_
          simp only [zj, al.down]
          refine ws _ ?_
          exact aJ (auF _ (an _ (.inl (aK [.bool false] rfl (by cases aI h; rfl) (by decide) aO))))
         ·refine a6 (congrArg I.bool zj) ?_
          simp only [zj, al.down]
          refine a_ (n65 _ (.inl ?_))
          refine aM (fun azj n69 auG azk => ?_)
          refine ws _ ?_
          rcases aS h with ⟨mK, h⟩ | ⟨mK, h⟩
          ·refine aZ (congrArg I.bool mK) ?_
           simp only [mK, al.down]
           refine ws _ ?_
           exact aJ (auG _ (an _ (.inl (aK [.bool false] rfl (by cases aI h; rfl) (by decide) aO))))
          ·refine a6 (congrArg I.bool mK) ?_
           simp only [mK, al.down]
           refine a_ (n69 _ (.inl ?_))
           refine ws _ ?_
           exact aJ (an _ (.inl (aK [.bool true] rfl (by cases aI h; rfl) (by decide) aO)))
end Go.Proofs.YtbemmmimelklkaaGreat
