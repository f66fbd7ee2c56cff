/- Part of a proof that a law returns true for every input. No condition. -/
import Derived.Test.YtbemmmimelklkaaGreatW1x3
namespace Go.Proofs.YtbemmmimelklkaaGreat
open Go Go.dg Go.fJ
set_option maxRecDepth 100000
set_option linter.unusedSimpArgs false
set_option linter.unusedVariables false
theorem arp (J : List UInt8) (ab : List UInt8) (r : Int) (h : Bd J ab = some r) : aT aI 222 [.str J, .str ab] (.int .i64 r) [] := by
 refine aT.bZ (fx := [0, 1]) b0 [.tmp 4] [(0, .str J), (1, .str ab)] Tryz.func222 rfl rfl ahy (Nat.le_of_ble_eq_true rfl) rfl rfl (fun bY ao bW => ?_)
 refine ws _ ?_
 obtain ⟨af, a3, h⟩ := aO h
 refine dO (Mm J _ a3) _ ?_
 obtain ⟨an, c6, h⟩ := aO h
 refine dO (Mm ab _ c6) _ ?_
 refine aN (fun fh dB dK b7 => ?_)
 refine ws _ ?_
 rcases aQ h with ⟨a6, h⟩ | ⟨a6, h⟩
 ·refine aW (congrArg I.bool a6) ?_
  simp only [a6, Bool.not_true, Bool.not_false]
  refine aN (fun et cH cd dv => ?_)
  refine ws _ ?_
  rcases aQ h with ⟨fN, h⟩ | ⟨fN, h⟩
  ·refine aW (congrArg I.bool fN) ?_
   simp only [fN, Bool.not_true, Bool.not_false]
   refine ws _ ?_
   exact aK (cd _ (dK _ (ao _ (.inl (aL [.int .i64 0] rfl (by cases aH h; rfl) (by decide) aM)))))
  ·refine aZ (congrArg I.bool fN) ?_
   simp only [fN, Bool.not_true, Bool.not_false]
   refine a5 (cH _ (.inl ?_))
   refine ws _ ?_
   exact aK (dK _ (ao _ (.inl (aL [.int .i64 (-1)] rfl (by cases aH h; rfl) (by decide) aM))))
 ·refine aZ (congrArg I.bool a6) ?_
  simp only [a6, Bool.not_true, Bool.not_false]
  refine a5 (dB _ (.inl ?_))
  refine aN (fun iG fv eH hn => ?_)
  refine ws _ ?_
  rcases aQ h with ⟨h4, h⟩ | ⟨h4, h⟩
  ·refine aW (congrArg I.bool h4) ?_
   simp only [h4, Bool.not_true, Bool.not_false]
   refine ws _ ?_
   exact aK (eH _ (ao _ (.inl (aL [.int .i64 1] rfl (by cases aH h; rfl) (by decide) aM))))
  ·refine aZ (congrArg I.bool h4) ?_
   simp only [h4, Bool.not_true, Bool.not_false]
   refine a5 (fv _ (.inl ?_))
   refine aN (fun yj pT pU yk => ?_)
   refine ws _ ?_
   rcases aQ h with ⟨cR, h⟩ | ⟨cR, h⟩
   ·refine aW (congrArg I.bool cR) ?_
    simp only [cR, Bool.not_true, Bool.not_false]
    refine ws _ ?_
    exact aK (pU _ (ao _ (.inl (aL [.int .i64 (-1)] rfl (by cases aH h; rfl) (by decide) aM))))
   ·refine aZ (congrArg I.bool cR) ?_
    simp only [cR, Bool.not_true, Bool.not_false]
    refine a5 (pT _ (.inl ?_))
    refine aN (fun sM k8 lQ sN => ?_)
    refine ws _ ?_
    rcases aQ h with ⟨ha, h⟩ | ⟨ha, h⟩
    ·refine aW (congrArg I.bool ha) ?_
     simp only [ha, Bool.not_true, Bool.not_false]
     refine ws _ ?_
     exact aK (lQ _ (ao _ (.inl (aL [.int .i64 1] rfl (by cases aH h; rfl) (by decide) aM))))
    ·refine aZ (congrArg I.bool ha) ?_
     simp only [ha, Bool.not_true, Bool.not_false]
     refine a5 (k8 _ (.inl ?_))
     refine ws _ ?_
     exact aK (ao _ (.inl (aL [.int .i64 0] rfl (by cases aH h; rfl) (by decide) aM)))
set_option maxHeartbeats 600000 in
theorem arq (J : List (List UInt8)) (ab : List (List UInt8)) (r : Int) (h : Be J ab = some r) : aT aI 207 [.slice (J.map bu), .slice (ab.map bu)] (.int .i64 r) [] := by
 refine aT.bZ (fx := [0, 1]) b0 [.tmp 4] [(0, .slice (J.map bu)), (1, .slice (ab.map bu))] Tryz.func207 rfl rfl ahR (Nat.le_of_ble_eq_true rfl) rfl rfl (fun bY ao bW => ?_)
 refine ws _ ?_
 refine aN (fun eo bX bn an => ?_)
 refine ws _ ?_
 refine bH (fun dR eJ b9 bk bp => ?_)
 have fl : ∀ (n : Nat) (mg : Int), xA J ab n mg = some r → dA aI Lx dR (aa [(0, .slice (J.map bu)), (1, .slice (ab.map bu)), (9, .slice (J.map bu)), (10, .int .i64 (J.length : Int)), (11, .int .i64 mg)]) := by
  intro ch
  induction ch with
  | zero => intro mg h; cases (show none = some r from h)
  | succ ch e7 =>
   intro mg h
   replace h : Ff (xA J ab ch) J ab mg = some r := h
   refine dN (fun g3 dS dD bs => ?_)
   refine ws _ ?_
   refine aN (fun ho dY eV dk => ?_)
   rcases aQ h with ⟨a6, h⟩ | ⟨a6, h⟩
   ·refine aW (congrArg I.bool a6) ?_
    simp only [a6, Bool.not_true, Bool.not_false]
    refine a5 (dY _ (.inl ?_))
    refine aN (fun et cH cd dv => ?_)
    refine bH (fun e4 cj cJ b2 c5 => ?_)
    obtain ⟨af, dJ, h⟩ := aO h
    refine g_ dJ _ ?_
    refine aN (fun lr g0 gj jg => ?_)
    refine ws _ ?_
    rcases aQ h with ⟨ck, h⟩ | ⟨ck, h⟩
    ·refine aW (congrArg I.bool ck) ?_
     simp only [ck, Bool.not_true, Bool.not_false]
     refine ws _ ?_
     exact aK (gj _ (cJ _ (cd _ (dD _ (b9 _ (bn _ (ao _ (.inl (aL [.int .i64 1] rfl (by cases aH h; rfl) (by decide) aM)))))))))
    ·refine aZ (congrArg I.bool ck) ?_
     simp only [ck, Bool.not_true, Bool.not_false]
     refine a5 (g0 _ (.inl ?_))
     obtain ⟨an, ga, h⟩ := aO h
     refine g_ ga _ ?_
     obtain ⟨a0, jN, h⟩ := aO h
     refine dO (arp af an _ jN) _ ?_
     refine ws _ ?_
     rcases aQ h with ⟨i9, h⟩ | ⟨i9, h⟩
     ·refine aW (congrArg I.bool i9) ?_
      simp only [i9, Bool.not_true, Bool.not_false]
      refine ws _ ?_
      exact aK (cJ _ (cd _ (dD _ (b9 _ (bn _ (ao _ (.inl (aL [.int .i64 a0] rfl (by cases aH h; rfl) (by decide) aM))))))))
     ·refine aZ (congrArg I.bool i9) ?_
      simp only [i9, Bool.not_true, Bool.not_false]
      refine a5 (cj _ (cH _ (.inl ?_)))
      refine wr _ ?_
      exact dS _ (.inr ⟨_, bq rfl, e7 (IntKind.i64.wrap (mg + 1)) h⟩)
   ·refine aZ (congrArg I.bool a6) ?_
    simp only [a6, Bool.not_true, Bool.not_false]
    refine dL (dk 0 _ (bs 0 _ (bk _ (bX _ (.inl ?_)))))
    refine aN (fun aq4 F4 Ci aq5 => ?_)
    refine ws _ ?_
    rcases aQ h with ⟨hC, h⟩ | ⟨hC, h⟩
    ·refine aW (congrArg I.bool hC) ?_
     simp only [hC, Bool.not_true, Bool.not_false]
     refine ws _ ?_
     exact aK (Ci _ (ao _ (.inl (aL [.int .i64 (-1)] rfl (by cases aH h; rfl) (by decide) aM))))
    ·refine aZ (congrArg I.bool hC) ?_
     simp only [hC, Bool.not_true, Bool.not_false]
     refine a5 (F4 _ (.inl ?_))
     refine ws _ ?_
     exact aK (ao _ (.inl (aL [.int .i64 0] rfl (by cases aH h; rfl) (by decide) aM)))
 obtain ⟨n, h⟩ := dH h
 exact dM (.inr ⟨_, bq rfl, fl n 0 h⟩)
theorem ars (J : bR) (ab : bR) (r : Int) (h : Bf J ab = some r) : aT aI 171 [bm J, bm ab] (.int .i64 r) [] := by
 refine aT.bZ (fx := [0, 1]) b0 [.tmp 4] [(0, bm J), (1, bm ab)] Tryz.func171 rfl rfl ahU (Nat.le_of_ble_eq_true rfl) rfl rfl (fun bY ao bW => ?_)
 refine ws _ ?_
 obtain ⟨af, a3, h⟩ := aO h
 refine cY (b1 [(4, .int .i64 af)] (fun P ak => ?_) ?_)
 ·simp only [aX.down, simprocAttr, eW, kK, mL, bm, bu, (show ∀ s, eh aI s 25 2 [(0, .str J.Left), (1, .str J.b_)] = some (.aw 1 [.str J.Left, .str J.b_], s) from fun s => by kernel_rfl), (show ∀ s, eh aI s 25 2 [(0, .str ab.Left), (1, .str ab.b_)] = some (.aw 1 [.str ab.Left, .str ab.b_], s) from fun s => by kernel_rfl)]
  refine fs (arq [J.Left, J.b_] [ab.Left, ab.b_] _ a3) rfl rfl (by simp only [aX.down, simprocAttr, eW, kK, mL, bm, bu, (show ∀ s, eh aI s 25 2 [(0, .str J.Left), (1, .str J.b_)] = some (.aw 1 [.str J.Left, .str J.b_], s) from fun s => by kernel_rfl), (show ∀ s, eh aI s 25 2 [(0, .str ab.Left), (1, .str ab.b_)] = some (.aw 1 [.str ab.Left, .str ab.b_], s) from fun s => by kernel_rfl), hi, hj, hk, du, @cp _ bu bu (fun _ => ji _), @cp _ bu bu (fun _ => ji _)] <;> rfl) rfl (.inr (by rfl)) ?_
  simp only [aX.down, simprocAttr, eW, kK, mL, bm, bu, (show ∀ s, eh aI s 25 2 [(0, .str J.Left), (1, .str J.b_)] = some (.aw 1 [.str J.Left, .str J.b_], s) from fun s => by kernel_rfl), (show ∀ s, eh aI s 25 2 [(0, .str ab.Left), (1, .str ab.b_)] = some (.aw 1 [.str ab.Left, .str ab.b_], s) from fun s => by kernel_rfl)]
  (try simp only [bo.down, simprocAttr, bm, bu, (show ∀ s, eh aI s 25 2 [(0, .str J.Left), (1, .str J.b_)] = some (.aw 1 [.str J.Left, .str J.b_], s) from fun s => by kernel_rfl), (show ∀ s, eh aI s 25 2 [(0, .str ab.Left), (1, .str ab.b_)] = some (.aw 1 [.str ab.Left, .str ab.b_], s) from fun s => by kernel_rfl)] at ak ⊢); exact ak
 exact aK (ao _ (.inl (aL [.int .i64 af] rfl (by cases aH h; rfl) (by decide) aM)))
theorem art (J : bR) (ab : bR) (r : Bool) (h : Fg J ab = some r) : aT aI 173 [bm J, .ref (bm ab)] (.bool r) [] := by
 refine aT.bZ (fx := [0, 1]) b0 [.tmp 3] [(0, bm J), (1, .ref (bm ab))] Tryz.func173 rfl rfl ahX (Nat.le_of_ble_eq_true rfl) rfl rfl (fun bY ao bW => ?_)
 refine ws _ ?_
 refine cY (b1 [(3, .bool ((J.Left == ab.Result) || (J.b_ == ab.Result)))] (fun P ak => ?_) ?_)
 ·rcases Bool.eq_false_or_eq_true (J.Left == ab.Result) with eY | eY
  ·simp only [aX.down, simprocAttr, mW.down, eY]
   (try simp only [bo.down, simprocAttr, bm, eY] at ak ⊢); exact ak
  ·simp only [aX.down, simprocAttr, mW.down, eY]
   (try simp only [bo.down, simprocAttr, bm, eY] at ak ⊢); exact ak
 exact aK (ao _ (.inl (aL [.bool ((J.Left == ab.Result) || (J.b_ == ab.Result))] rfl (by cases aH h; rfl) (by decide) aM)))
theorem aru (J : List bR) (ab : bR) (r : Int) (h : Fh J ab = some r) : aT aI 208 [.slice (J.map bm), .fn 173 [.ref (bm ab)]] (.int .i64 r) [] := by
 refine aT.bZ (fx := [0, 1]) b0 [.tmp 4] [(0, .slice (J.map bm)), (1, .fn 173 [.ref (bm ab)])] Tryz.func208 rfl rfl ah8 (Nat.le_of_ble_eq_true rfl) rfl rfl (fun bY ao bW => ?_)
 refine ws _ ?_
 refine aN (fun eo bX bn an => ?_)
 refine ws _ ?_
 refine bH (fun dR eJ b9 bk bp => ?_)
 have fl : ∀ (n : Nat) (c3 : Int), uS J ab n c3 = some r → dA aI Ly dR (aa [(0, .slice (J.map bm)), (1, .fn 173 [.ref (bm ab)]), (7, .int .i64 (J.length : Int)), (8, .int .i64 c3)]) := by
  intro ch
  induction ch with
  | zero => intro c3 h; cases (show none = some r from h)
  | succ ch e7 =>
   intro c3 h
   replace h : Bg (uS J ab ch) J ab c3 = some r := h
   refine dN (fun g3 dS dD bs => ?_)
   refine ws _ ?_
   refine aN (fun ho dY eV dk => ?_)
   rcases aQ h with ⟨a6, h⟩ | ⟨a6, h⟩
   ·refine aW (congrArg I.bool a6) ?_
    simp only [a6, Bool.not_true, Bool.not_false]
    refine a5 (dY _ (.inl ?_))
    refine aN (fun et cH cd dv => ?_)
    refine bH (fun e4 cj cJ b2 c5 => ?_)
    refine ws _ ?_
    obtain ⟨af, ez, h⟩ := aO h
    obtain ⟨an, e5, h⟩ := aO h
    refine iE ez (art af ab _ e5) _ ?_
    rcases aQ h with ⟨ck, h⟩ | ⟨ck, h⟩
    ·refine aW (congrArg I.bool ck) ?_
     simp only [ck, Bool.not_true, Bool.not_false]
     refine ws _ ?_
     exact aK (cJ _ (cd _ (dD _ (b9 _ (bn _ (ao _ (.inl (aL [.int .i64 c3] rfl (by cases aH h; rfl) (by decide) aM))))))))
    ·refine aZ (congrArg I.bool ck) ?_
     simp only [ck, Bool.not_true, Bool.not_false]
     refine a5 (cj _ (cH _ (.inl ?_)))
     refine wr _ ?_
     exact dS _ (.inr ⟨_, bq rfl, e7 (IntKind.i64.wrap (c3 + 1)) h⟩)
   ·refine aZ (congrArg I.bool a6) ?_
    simp only [a6, Bool.not_true, Bool.not_false]
    refine dL (dk 0 _ (bs 0 _ (bk _ (bX _ (.inl ?_)))))
    refine ws _ ?_
    exact aK (ao _ (.inl (aL [.int .i64 (-1)] rfl (by cases aH h; rfl) (by decide) aM)))
 obtain ⟨n, h⟩ := dH h
 exact dM (.inr ⟨_, bq rfl, fl n 0 h⟩)
theorem Mn (J : List bR) (ab : bR) (r : Bool) (h : xB J ab = some r) : aT aI 172 [.slice (J.map bm), .fn 173 [.ref (bm ab)]] (.bool r) [] := by
 refine aT.bZ (fx := [0, 1]) b0 [.tmp 4] [(0, .slice (J.map bm)), (1, .fn 173 [.ref (bm ab)])] Tryz.func172 rfl rfl aia (Nat.le_of_ble_eq_true rfl) rfl rfl (fun bY ao bW => ?_)
 refine ws _ ?_
 obtain ⟨af, a3, h⟩ := aO h
 refine dO (aru J ab _ a3) _ ?_
 exact aK (ao _ (.inl (aL [.bool (decide (0 ≤ af))] rfl (by cases aH h; rfl) (by decide) aM)))
set_option maxHeartbeats 2400000 in
theorem arv (J : List bR) (r : Bool) (h : Bi J = some r) : aT aI 131 [.slice (J.map bm)] (.bool r) [] := by
 refine aT.bZ (fx := [0]) b0 [.tmp 2] [(0, .slice (J.map bm))] Tryz.func131 rfl rfl aip (Nat.le_of_ble_eq_true rfl) rfl rfl (fun bY ao bW => ?_)
 refine ws _ ?_
 refine aN (fun eo bX bn an => ?_)
 refine ws _ ?_
 refine bH (fun dR eJ b9 bk bp => ?_)
 have fl : ∀ (n : Nat) (eG : Int), sn J n eG = some r → dA aI Lz dR (aa [(0, .slice (J.map bm)), (5, .slice (J.map bm)), (6, .int .i64 (J.length : Int)), (7, .int .i64 eG)]) := by
  intro ch
  induction ch with
  | zero => intro eG h; cases (show none = some r from h)
  | succ ch e7 =>
   intro eG h
   replace h : Bh (sn J ch) J eG = some r := h
   refine dN (fun g3 dS dD bs => ?_)
   refine ws _ ?_
   refine aN (fun ho dY eV dk => ?_)
   rcases aQ h with ⟨a6, h⟩ | ⟨a6, h⟩
   ·refine aW (congrArg I.bool a6) ?_
    simp only [a6, Bool.not_true, Bool.not_false]
    refine a5 (dY _ (.inl ?_))
    refine aN (fun et cH cd dv => ?_)
    refine bH (fun e4 cj cJ b2 c5 => ?_)
    obtain ⟨af, dJ, h⟩ := aO h
    refine g_ dJ _ ?_
    refine aN (fun lr g0 gj jg => ?_)
    obtain ⟨bs, hB, h⟩ := aO h
    rcases aQ h with ⟨e8, h⟩ | ⟨e8, h⟩
    ·refine hg rfl (hh [(0, .slice (J.map bm)), (4, .a8 (bm af)), (5, .slice (J.map bm)), (6, .int .i64 (J.length : Int)), (7, .int .i64 eG), (48, .bool true)] (fun P ak => ?_) ?_)
     ·simp only [dF.down, simprocAttr, gT.down, (c8 e8)]
      refine i3 (kt af.Left _ hB) rfl rfl rfl rfl (.inl (by rfl)) ?_
      simp only [dF.down, simprocAttr, gT.down, (c8 e8)]
      refine ⟨gV (by kernel_rfl), ?_⟩
      (try simp only [bo.down, simprocAttr, bm, (c8 e8)] at ak ⊢); exact ak
     refine aW rfl ?_
     refine ws _ ?_
     exact aK (gj _ (cJ _ (cd _ (dD _ (b9 _ (bn _ (ao _ (.inl (aL [.bool false] rfl (by cases aH h; rfl) (by decide) aM)))))))))
    ·obtain ⟨b7, jM, h⟩ := aO h
     rcases aQ h with ⟨e6, h⟩ | ⟨e6, h⟩
     ·refine hg rfl (hh [(0, .slice (J.map bm)), (4, .a8 (bm af)), (5, .slice (J.map bm)), (6, .int .i64 (J.length : Int)), (7, .int .i64 eG), (48, .bool true)] (fun P ak => ?_) ?_)
      ·simp only [dF.down, simprocAttr, gT.down, (br e8), (c8 e6)]
       refine i3 (kt af.Left _ hB) rfl rfl rfl rfl (.inl (by rfl)) ?_
       simp only [dF.down, simprocAttr, gT.down, (br e8), (c8 e6)]
       refine mb (kt af.b_ _ jM) rfl rfl rfl rfl (.inl (by rfl)) ?_
       simp only [dF.down, simprocAttr, gT.down, (br e8), (c8 e6)]
       refine ⟨gV (by kernel_rfl), ?_⟩
       (try simp only [bo.down, simprocAttr, bm, (br e8), (c8 e6)] at ak ⊢); exact ak
      refine aW rfl ?_
      refine ws _ ?_
      exact aK (gj _ (cJ _ (cd _ (dD _ (b9 _ (bn _ (ao _ (.inl (aL [.bool false] rfl (by cases aH h; rfl) (by decide) aM)))))))))
     ·obtain ⟨dk, vd, h⟩ := aO h
      rcases aQ h with ⟨hW, h⟩ | ⟨hW, h⟩
      ·refine hg rfl (hh [(0, .slice (J.map bm)), (4, .a8 (bm af)), (5, .slice (J.map bm)), (6, .int .i64 (J.length : Int)), (7, .int .i64 eG), (48, .bool true)] (fun P ak => ?_) ?_)
       ·simp only [dF.down, simprocAttr, gT.down, (br e8), (br e6), (c8 hW)]
        refine i3 (kt af.Left _ hB) rfl rfl rfl rfl (.inl (by rfl)) ?_
        simp only [dF.down, simprocAttr, gT.down, (br e8), (br e6), (c8 hW)]
        refine mb (kt af.b_ _ jM) rfl rfl rfl rfl (.inl (by rfl)) ?_
        simp only [dF.down, simprocAttr, gT.down, (br e8), (br e6), (c8 hW)]
        refine mb (kt af.Result _ vd) rfl rfl rfl rfl (.inl (by rfl)) ?_
        simp only [dF.down, simprocAttr, gT.down, (br e8), (br e6), (c8 hW)]
        refine ⟨gV (by kernel_rfl), ?_⟩
        (try simp only [bo.down, simprocAttr, bm, (br e8), (br e6), (c8 hW)] at ak ⊢); exact ak
       refine aW rfl ?_
       refine ws _ ?_
       exact aK (gj _ (cJ _ (cd _ (dD _ (b9 _ (bn _ (ao _ (.inl (aL [.bool false] rfl (by cases aH h; rfl) (by decide) aM)))))))))
      ·rcases aQ h with ⟨jk, h⟩ | ⟨jk, h⟩
       ·refine hg rfl (hh [(0, .slice (J.map bm)), (4, .a8 (bm af)), (5, .slice (J.map bm)), (6, .int .i64 (J.length : Int)), (7, .int .i64 eG), (48, .bool true)] (fun P ak => ?_) ?_)
        ·simp only [dF.down, simprocAttr, gT.down, (br e8), (br e6), (br hW), jk]
         refine i3 (kt af.Left _ hB) rfl rfl rfl rfl (.inl (by rfl)) ?_
         simp only [dF.down, simprocAttr, gT.down, (br e8), (br e6), (br hW), jk]
         refine mb (kt af.b_ _ jM) rfl rfl rfl rfl (.inl (by rfl)) ?_
         simp only [dF.down, simprocAttr, gT.down, (br e8), (br e6), (br hW), jk]
         refine mb (kt af.Result _ vd) rfl rfl rfl rfl (.inl (by rfl)) ?_
         simp only [dF.down, simprocAttr, gT.down, (br e8), (br e6), (br hW), jk]
         refine ⟨gV (by kernel_rfl), ?_⟩
         (try simp only [bo.down, simprocAttr, bm, (br e8), (br e6), (br hW), jk] at ak ⊢); exact ak
        refine aW rfl ?_
        refine ws _ ?_
        exact aK (gj _ (cJ _ (cd _ (dD _ (b9 _ (bn _ (ao _ (.inl (aL [.bool false] rfl (by cases aH h; rfl) (by decide) aM)))))))))
       ·rcases aQ h with ⟨fT, h⟩ | ⟨fT, h⟩
        ·obtain ⟨gi, lR, h⟩ := aO h
         obtain ⟨dv, sS, h⟩ := aO h
         refine hg rfl (hh [(0, .slice (J.map bm)), (4, .a8 (bm af)), (5, .slice (J.map bm)), (6, .int .i64 (J.length : Int)), (7, .int .i64 eG), (48, .bool (decide (0 ≤ dv)))] (fun P ak => ?_) ?_)
         ·simp only [dF.down, simprocAttr, gT.down, (br e8), (br e6), (br hW), jk, fT, lR]
          refine i3 (kt af.Left _ hB) rfl rfl rfl rfl (.inl (by rfl)) ?_
          simp only [dF.down, simprocAttr, gT.down, (br e8), (br e6), (br hW), jk, fT, lR]
          refine mb (kt af.b_ _ jM) rfl rfl rfl rfl (.inl (by rfl)) ?_
          simp only [dF.down, simprocAttr, gT.down, (br e8), (br e6), (br hW), jk, fT, lR]
          refine mb (kt af.Result _ vd) rfl rfl rfl rfl (.inl (by rfl)) ?_
          simp only [dF.down, simprocAttr, gT.down, (br e8), (br e6), (br hW), jk, fT, lR]
          refine mb (ars gi af _ sS) rfl rfl rfl rfl (.inl (by rfl)) ?_
          simp only [dF.down, simprocAttr, gT.down, (br e8), (br e6), (br hW), jk, fT, lR]
          refine ⟨gV (by kernel_rfl), ?_⟩
          (try simp only [bo.down, simprocAttr, bm, (br e8), (br e6), (br hW), jk, fT, lR] at ak ⊢); exact ak
         rcases aQ h with ⟨oq, h⟩ | ⟨oq, h⟩
         ·refine aW (congrArg I.bool oq) ?_
          simp only [oq, Bool.not_true, Bool.not_false]
          refine ws _ ?_
          exact aK (gj _ (cJ _ (cd _ (dD _ (b9 _ (bn _ (ao _ (.inl (aL [.bool false] rfl (by cases aH h; rfl) (by decide) aM)))))))))
         ·refine aZ (congrArg I.bool oq) ?_
          simp only [oq, Bool.not_true, Bool.not_false]
          refine a5 (g0 _ (.inl ?_))
          obtain ⟨c5, arw, h⟩ := aO h
          refine cY (b1 [(0, .slice (J.map bm)), (5, .slice (J.map bm)), (6, .int .i64 (J.length : Int)), (7, .int .i64 eG), (51, .bool c5)] (fun P ak => ?_) ?_)
          ·simp only [aX.down, simprocAttr, bm]
           refine fs (Mn J af _ arw) rfl rfl (by simp only [aX.down, simprocAttr, bm, hi, hj, hk, du] <;> rfl) rfl (.inr (by rfl)) ?_
           simp only [aX.down, simprocAttr, bm]
           (try simp only [bo.down, simprocAttr, bm] at ak ⊢); exact ak
          rcases aQ h with ⟨yr, h⟩ | ⟨yr, h⟩
          ·refine aW (congrArg I.bool yr) ?_
           simp only [yr, Bool.not_true, Bool.not_false]
           refine ws _ ?_
           exact aK (cJ _ (cd _ (dD _ (b9 _ (bn _ (ao _ (.inl (aL [.bool false] rfl (by cases aH h; rfl) (by decide) aM))))))))
          ·refine aZ (congrArg I.bool yr) ?_
           simp only [yr, Bool.not_true, Bool.not_false]
           refine a5 (cj _ (cH _ (.inl ?_)))
           refine wr _ ?_
           exact dS _ (.inr ⟨_, bq rfl, e7 (IntKind.i64.wrap (eG + 1)) h⟩)
        ·refine hg rfl (hh [(0, .slice (J.map bm)), (4, .a8 (bm af)), (5, .slice (J.map bm)), (6, .int .i64 (J.length : Int)), (7, .int .i64 eG), (48, .bool false)] (fun P ak => ?_) ?_)
         ·simp only [dF.down, simprocAttr, gT.down, (br e8), (br e6), (br hW), jk, fT]
          refine i3 (kt af.Left _ hB) rfl rfl rfl rfl (.inl (by rfl)) ?_
          simp only [dF.down, simprocAttr, gT.down, (br e8), (br e6), (br hW), jk, fT]
          refine mb (kt af.b_ _ jM) rfl rfl rfl rfl (.inl (by rfl)) ?_
          simp only [dF.down, simprocAttr, gT.down, (br e8), (br e6), (br hW), jk, fT]
          refine mb (kt af.Result _ vd) rfl rfl rfl rfl (.inl (by rfl)) ?_
          simp only [dF.down, simprocAttr, gT.down, (br e8), (br e6), (br hW), jk, fT]
          refine ⟨gV (by kernel_rfl), ?_⟩
          (try simp only [bo.down, simprocAttr, bm, (br e8), (br e6), (br hW), jk, fT] at ak ⊢); exact ak
         refine aZ rfl ?_
         refine a5 (g0 _ (.inl ?_))
         obtain ⟨eF, F5, h⟩ := aO h
         refine cY (b1 [(0, .slice (J.map bm)), (5, .slice (J.map bm)), (6, .int .i64 (J.length : Int)), (7, .int .i64 eG), (51, .bool eF)] (fun P ak => ?_) ?_)
         ·simp only [aX.down, simprocAttr, bm]
          refine fs (Mn J af _ F5) rfl rfl (by simp only [aX.down, simprocAttr, bm, hi, hj, hk, du] <;> rfl) rfl (.inr (by rfl)) ?_
          simp only [aX.down, simprocAttr, bm]
          (try simp only [bo.down, simprocAttr, bm] at ak ⊢); exact ak
         rcases aQ h with ⟨oj, h⟩ | ⟨oj, h⟩
         ·refine aW (congrArg I.bool oj) ?_
          simp only [oj, Bool.not_true, Bool.not_false]
          refine ws _ ?_
          exact aK (cJ _ (cd _ (dD _ (b9 _ (bn _ (ao _ (.inl (aL [.bool false] rfl (by cases aH h; rfl) (by decide) aM))))))))
         ·refine aZ (congrArg I.bool oj) ?_
          simp only [oj, Bool.not_true, Bool.not_false]
          refine a5 (cj _ (cH _ (.inl ?_)))
          refine wr _ ?_
          exact dS _ (.inr ⟨_, bq rfl, e7 (IntKind.i64.wrap (eG + 1)) h⟩)
   ·refine aZ (congrArg I.bool a6) ?_
    simp only [a6, Bool.not_true, Bool.not_false]
    refine dL (dk 0 _ (bs 0 _ (bk _ (bX _ (.inl ?_)))))
    refine ws _ ?_
    exact aK (ao _ (.inl (aL [.bool (decide ((J.length : Int) ≤ 6))] rfl (by cases aH h; rfl) (by decide) aM)))
 obtain ⟨n, h⟩ := dH h
 exact dM (.inr ⟨_, bq rfl, fl n 0 h⟩)
theorem Mo (J : List (List UInt8)) (r : Bool) (h : xC J = some r) : aT aI 132 [.slice (J.map bu)] (.bool r) [] := by
 refine aT.bZ (fx := [0]) b0 [.tmp 2] [(0, .slice (J.map bu))] Tryz.func132 rfl rfl aiA (Nat.le_of_ble_eq_true rfl) rfl rfl (fun bY ao bW => ?_)
 refine ws _ ?_
 refine aN (fun eo bX bn an => ?_)
 refine ws _ ?_
 refine bH (fun dR eJ b9 bk bp => ?_)
 have fl : ∀ (n : Nat) (eG : Int), so J n eG = some r → dA aI LA dR (aa [(0, .slice (J.map bu)), (5, .slice (J.map bu)), (6, .int .i64 (J.length : Int)), (7, .int .i64 eG)]) := by
  intro ch
  induction ch with
  | zero => intro eG h; cases (show none = some r from h)
  | succ ch e7 =>
   intro eG h
   replace h : Bj (so J ch) J eG = some r := h
   refine dN (fun g3 dS dD bs => ?_)
   refine ws _ ?_
   refine aN (fun ho dY eV dk => ?_)
   rcases aQ h with ⟨a6, h⟩ | ⟨a6, h⟩
   ·refine aW (congrArg I.bool a6) ?_
    simp only [a6, Bool.not_true, Bool.not_false]
    refine a5 (dY _ (.inl ?_))
    refine aN (fun et cH cd dv => ?_)
    refine bH (fun e4 cj cJ b2 c5 => ?_)
    obtain ⟨af, dJ, h⟩ := aO h
    refine g_ dJ _ ?_
    obtain ⟨an, e5, h⟩ := aO h
    rcases aQ h with ⟨ck, h⟩ | ⟨ck, h⟩
    ·refine iE (c8 ck) (kt af _ e5) _ ?_
     refine aW rfl ?_
     refine ws _ ?_
     exact aK (cJ _ (cd _ (dD _ (b9 _ (bn _ (ao _ (.inl (aL [.bool false] rfl (by cases aH h; rfl) (by decide) aM))))))))
    ·rcases aQ h with ⟨hU, h⟩ | ⟨hU, h⟩
     ·obtain ⟨a0, ga, h⟩ := aO h
      refine iE (And.intro (br ck) (And.intro hU ga)) (kt af _ e5) _ ?_
      rcases aQ h with ⟨ej, h⟩ | ⟨ej, h⟩
      ·refine aW (congrArg I.bool ej) ?_
       simp only [ej, Bool.not_true, Bool.not_false]
       refine ws _ ?_
       exact aK (cJ _ (cd _ (dD _ (b9 _ (bn _ (ao _ (.inl (aL [.bool false] rfl (by cases aH h; rfl) (by decide) aM))))))))
      ·refine aZ (congrArg I.bool ej) ?_
       simp only [ej, Bool.not_true, Bool.not_false]
       refine a5 (cj _ (cH _ (.inl ?_)))
       refine wr _ ?_
       exact dS _ (.inr ⟨_, bq rfl, e7 (IntKind.i64.wrap (eG + 1)) h⟩)
     ·refine iE (And.intro (br ck) hU) (kt af _ e5) _ ?_
      refine aZ rfl ?_
      refine a5 (cj _ (cH _ (.inl ?_)))
      refine wr _ ?_
      exact dS _ (.inr ⟨_, bq rfl, e7 (IntKind.i64.wrap (eG + 1)) h⟩)
   ·refine aZ (congrArg I.bool a6) ?_
    simp only [a6, Bool.not_true, Bool.not_false]
    refine dL (dk 0 _ (bs 0 _ (bk _ (bX _ (.inl ?_)))))
    refine ws _ ?_
    exact aK (ao _ (.inl (aL [.bool (decide ((J.length : Int) ≤ 12))] rfl (by cases aH h; rfl) (by decide) aM)))
 obtain ⟨n, h⟩ := dH h
 exact dM (.inr ⟨_, bq rfl, fl n 0 h⟩)
set_option maxHeartbeats 600000 in
theorem arx (J : dU) (r : Int) (h : Bk J = some r) : aT aI 79 [eO J] (.int .i64 r) [] := by
 refine aT.bZ (fx := [0]) b0 [.tmp 2] [(0, eO J)] Tryz.func79 rfl rfl aiS (Nat.le_of_ble_eq_true rfl) rfl rfl (fun bY ao bW => ?_)
 refine ws _ ?_
 refine aN (fun eo bX bn an => ?_)
 refine bH (fun kq gZ dX l1 a0 => ?_)
 obtain ⟨af, c6, h⟩ := aO h
 refine dO (ard J.bQ _ c6) _ ?_
 rcases aQ h with ⟨cK, h⟩ | ⟨cK, h⟩
 ·refine aW (congrArg I.bool cK) ?_
  simp only [(c8 cK), Bool.not_true, Bool.not_false]
  refine ws _ ?_
  exact aK (dX _ (bn _ (ao _ (.inl (aL [.int .i64 1] rfl (by cases aH h; rfl) (by decide) aM)))))
 ·refine aZ (congrArg I.bool cK) ?_
  simp only [(br cK), Bool.not_true, Bool.not_false]
  obtain ⟨an, kz, h⟩ := aO h
  rcases aQ h with ⟨b2, h⟩ | ⟨b2, h⟩
  ·refine iE (c8 b2) (jO (J.cX.length : Int) 1 3 _ kz) _ ?_
   refine aW rfl ?_
   refine ws _ ?_
   exact aK (dX _ (bn _ (ao _ (.inl (aL [.int .i64 2] rfl (by cases aH h; rfl) (by decide) aM)))))
  ·obtain ⟨a0, dJ, h⟩ := aO h
   refine cY (b1 [(1, .a8 (eO J)), (8, .bool a0)] (fun P ak => ?_) ?_)
   ·simp only [aX.down, simprocAttr, og.down, (br b2)]
    refine fs (jO (J.cX.length : Int) 1 3 _ kz) rfl rfl rfl rfl (.inl (by rfl)) ?_
    simp only [aX.down, simprocAttr, og.down, (br b2)]
    refine ht (aro J.cX J _ dJ) rfl rfl (by simp only [aX.down, simprocAttr, og.down, (br b2), hi, hj, hk, du, @cp _ bf bf (fun _ => BW _), @cp _ eN eN (fun _ => B0 _), @cp _ bm bm (fun _ => nz _), @cp _ bu bu (fun _ => ji _), @cp _ bu bu (fun _ => ji _)] <;> rfl) rfl (.inr (by rfl)) ?_
    simp only [aX.down, simprocAttr, og.down, (br b2)]
    (try simp only [bo.down, simprocAttr, pR.down, (br b2)] at ak ⊢); exact ak
   rcases aQ h with ⟨cU, h⟩ | ⟨cU, h⟩
   ·refine aW (congrArg I.bool cU) ?_
    simp only [cU, Bool.not_true, Bool.not_false]
    refine ws _ ?_
    exact aK (dX _ (bn _ (ao _ (.inl (aL [.int .i64 2] rfl (by cases aH h; rfl) (by decide) aM)))))
   ·refine aZ (congrArg I.bool cU) ?_
    simp only [cU, Bool.not_true, Bool.not_false]
    obtain ⟨bp, cN, h⟩ := aO h
    refine dO (arv J.gX _ cN) _ ?_
    rcases aQ h with ⟨hU, h⟩ | ⟨hU, h⟩
    ·refine aW (congrArg I.bool hU) ?_
     simp only [(c8 hU), Bool.not_true, Bool.not_false]
     refine ws _ ?_
     exact aK (dX _ (bn _ (ao _ (.inl (aL [.int .i64 3] rfl (by cases aH h; rfl) (by decide) aM)))))
    ·refine aZ (congrArg I.bool hU) ?_
     simp only [(br hU), Bool.not_true, Bool.not_false]
     obtain ⟨bs, jN, h⟩ := aO h
     refine dO (Mo J.gQ _ jN) _ ?_
     rcases aQ h with ⟨jj, h⟩ | ⟨jj, h⟩
     ·refine aW (congrArg I.bool jj) ?_
      simp only [(c8 jj), Bool.not_true, Bool.not_false]
      refine ws _ ?_
      exact aK (dX _ (bn _ (ao _ (.inl (aL [.int .i64 4] rfl (by cases aH h; rfl) (by decide) aM)))))
     ·refine aZ (congrArg I.bool jj) ?_
      simp only [(br jj), Bool.not_true, Bool.not_false]
      obtain ⟨b7, jw, h⟩ := aO h
      refine dO (Mo J.gR _ jw) _ ?_
      rcases aQ h with ⟨hV, h⟩ | ⟨hV, h⟩
      ·refine aW (congrArg I.bool hV) ?_
       simp only [(c8 hV), Bool.not_true, Bool.not_false]
       refine ws _ ?_
       exact aK (dX _ (bn _ (ao _ (.inl (aL [.int .i64 5] rfl (by cases aH h; rfl) (by decide) aM)))))
      ·refine aZ (congrArg I.bool hV) ?_
       simp only [(br hV), Bool.not_true, Bool.not_false]
       refine a5 (gZ _ (bX _ (.inl ?_)))
       refine ws _ ?_
       exact aK (ao _ (.inl (aL [.int .i64 0] rfl (by cases aH h; rfl) (by decide) aM)))
theorem ary (J : dU) (r : Bool) (h : Bl J = some r) : aT aI 43 [eO J] (.bool r) [] := by
 refine aT.bZ (fx := [0]) b0 [.tmp 2] [(0, eO J)] Tryz.func43 rfl rfl aiV (Nat.le_of_ble_eq_true rfl) rfl rfl (fun bY ao bW => ?_)
 refine ws _ ?_
 obtain ⟨af, a3, h⟩ := aO h
 refine dO (arx J _ a3) _ ?_
 exact aK (ao _ (.inl (aL [.bool (af == 0)] rfl (by cases aH h; rfl) (by decide) aM)))
set_option maxHeartbeats 600000 in
theorem arz (J : dU) (r : (List (List Int))) (h : Bn J = some r) : aT aI 44 [eO J] (.aw 1 (r.map dp)) [] := by
 refine aT.bZ (fx := [0]) b0 [.tmp 2] [(0, eO J)] Tryz.func44 rfl rfl aja (Nat.le_of_ble_eq_true rfl) rfl rfl (fun bY ao bW => ?_)
 refine ws _ ?_
 refine ws _ ?_
 refine aN (fun kq gZ dX a0 => ?_)
 refine ws _ ?_
 refine bH (fun g3 dS dD bJ bs => ?_)
 have jK : ∀ (n : Nat) (bC : List (List Int)) (mh : Int), ny J n bC mh = some r → dA aI LD g3 (aa [(3, .aw 1 (bC.map dp)), (9, .slice (J.bQ.map bf)), (10, .int .i64 (J.bQ.length : Int)), (11, .int .i64 mh)]) := by
  intro eM
  induction eM with
  | zero => intro bC mh h; cases (show none = some r from h)
  | succ eM jL =>
   intro bC mh h
   replace h : Bm (ny J eM) J bC mh = some r := h
   refine dN (fun fh dB dK b7 => ?_)
   refine ws _ ?_
   refine aN (fun hz hA gp gi => ?_)
   rcases aQ h with ⟨dZ, h⟩ | ⟨dZ, h⟩
   ·refine aW (congrArg I.bool dZ) ?_
    simp only [dZ, Bool.not_true, Bool.not_false]
    refine a5 (hA _ (.inl ?_))
    refine aN (fun e4 cj cJ c5 => ?_)
    refine bH (fun i6 fF im fN eF => ?_)
    obtain ⟨af, ez, h⟩ := aO h
    refine g_ ez _ ?_
    obtain ⟨an, e0, h⟩ := aO h
    refine dO (Mi af _ e0) _ ?_
    refine bH (fun oh j8 ju h4 lP => ?_)
    have arA : ∀ (n : Nat) (jt : List (List Int)) (hx : Int) (j5 : Int) (gS : Int), o7 (ny J eM) J af an n jt hx j5 gS = some r → dA aI LC oh (aa [(3, .aw 1 (jt.map dp)), (4, .int .i64 hx), (5, .a8 (bf af)), (9, .slice (J.bQ.map bf)), (10, .int .i64 (J.bQ.length : Int)), (11, .int .i64 j5), (17, .aw 2 (an.map db)), (18, .int .i64 (an.length : Int)), (19, .int .i64 gS)]) := by
     intro Cj
     induction Cj with
     | zero => intro jt hx j5 gS h; cases (show none = some r from h)
     | succ Cj arB =>
      intro jt hx j5 gS h
      replace h : xD (ny J eM) (o7 (ny J eM) J af an Cj) J af an jt hx j5 gS = some r := h
      refine dN (fun mn jv i7 mo => ?_)
      refine ws _ ?_
      refine aN (fun Cc pc u7 sO => ?_)
      rcases aQ h with ⟨cR, h⟩ | ⟨cR, h⟩
      ·refine aW (congrArg I.bool cR) ?_
       simp only [cR, Bool.not_true, Bool.not_false]
       refine a5 (pc _ (.inl ?_))
       have qX : ∀ (mR : List (List Int)) (mS : Int) (uU : Int) (uV : Int), sq (ny J eM) (o7 (ny J eM) J af an Cj) J af an mR mS uU uV = some r → dj aI LB mn (aa [(3, .aw 1 (mR.map dp)), (4, .int .i64 mS), (5, .a8 (bf af)), (9, .slice (J.bQ.map bf)), (10, .int .i64 (J.bQ.length : Int)), (11, .int .i64 uU), (17, .aw 2 (an.map db)), (18, .int .i64 (an.length : Int)), (19, .int .i64 uV)]) := by
        intro mR mS uU uV h
        refine wr _ ?_
        exact jv _ (.inr ⟨_, bq rfl, arB mR mS uU (IntKind.i64.wrap (uV + 1)) h⟩)
       refine aN (fun Mk qY ve Ml => ?_)
       refine bH (fun awp Ck awq e8 awr => ?_)
       obtain ⟨a0, jM, h⟩ := aO h
       refine g_ (And.intro jM (c_ jM)) _ ?_
       rcases aQ h with ⟨hC, h⟩ | ⟨hC, h⟩
       ·refine g_ hC _ ?_
        refine aW rfl ?_
        obtain ⟨aws, yo, h⟩ := aO h
        (try simp only [List.length_append, List.length_cons, List.length_nil, List.length_map, List.length_replicate, Nat.zero_add, Nat.add_zero, Nat.reduceAdd] at yo)
        refine j3 (b1 [(3, .aw 1 ((jt ++ [[hx, gS]]).map dp)), (4, .int .i64 hx), (5, .a8 (bf af)), (9, .slice (J.bQ.map bf)), (10, .int .i64 (J.bQ.length : Int)), (11, .int .i64 j5), (17, .aw 2 (an.map db)), (18, .int .i64 (an.length : Int)), (19, .int .i64 gS)] (fun P ak => ?_) ?_)
        ·simp only [aX.down, simprocAttr, er, o4, ik, b3, bf, b4, bP, db, ef, dp, (show ∀ s, eh aI s 43 2 [(0, .int .i64 hx), (1, .int .i64 gS)] = some (.aw 1 [.int .i64 hx, .int .i64 gS], s) from fun s => by kernel_rfl), @qz aI 29 43 1 1 [.bg] rfl rfl rfl (by kernel_rfl), pH, qA, pI, qB, ep, qy, List.nil_append, List.cons_append, @qv aI 29 29 43 rfl rfl, qw, qx, all_cons, all_nil, yo, @nn _ dp 1 (fun _ => rfl)]
         (try simp only [bo.down, simprocAttr, b3, bf, b4, bP, db, ef, dp, (show ∀ s, eh aI s 43 2 [(0, .int .i64 hx), (1, .int .i64 gS)] = some (.aw 1 [.int .i64 hx, .int .i64 gS], s) from fun s => by kernel_rfl), @qz aI 29 43 1 1 [.bg] rfl rfl rfl (by kernel_rfl), pH, qA, pI, qB, ep, qy, List.nil_append, List.cons_append, @qv aI 29 29 43 rfl rfl, qw, qx, all_cons, all_nil, yo, @nn _ dp 1 (fun _ => rfl)] at ak ⊢); exact ak
        exact Ck _ (qY _ (.inr ⟨_, bq rfl, qX (jt ++ [[hx, gS]]) hx j5 gS h⟩))
       ·rcases aQ h with ⟨gF, h⟩ | ⟨gF, h⟩
        ·obtain ⟨bp, ov, h⟩ := aO h
         refine g_ (And.intro hC (And.intro gF ov)) _ ?_
         rcases aQ h with ⟨kM, h⟩ | ⟨kM, h⟩
         ·refine aW (congrArg I.bool kM) ?_
          simp only [kM, Bool.not_true, Bool.not_false]
          obtain ⟨awt, lR, h⟩ := aO h
          (try simp only [List.length_append, List.length_cons, List.length_nil, List.length_map, List.length_replicate, Nat.zero_add, Nat.add_zero, Nat.reduceAdd] at lR)
          refine j3 (b1 [(3, .aw 1 ((jt ++ [[hx, gS]]).map dp)), (4, .int .i64 hx), (5, .a8 (bf af)), (9, .slice (J.bQ.map bf)), (10, .int .i64 (J.bQ.length : Int)), (11, .int .i64 j5), (17, .aw 2 (an.map db)), (18, .int .i64 (an.length : Int)), (19, .int .i64 gS)] (fun P ak => ?_) ?_)
          ·simp only [aX.down, simprocAttr, er, o4, ik, b3, bf, b4, bP, db, ef, dp, (show ∀ s, eh aI s 43 2 [(0, .int .i64 hx), (1, .int .i64 gS)] = some (.aw 1 [.int .i64 hx, .int .i64 gS], s) from fun s => by kernel_rfl), @qz aI 29 43 1 1 [.bg] rfl rfl rfl (by kernel_rfl), pH, qA, pI, qB, ep, qy, List.nil_append, List.cons_append, @qv aI 29 29 43 rfl rfl, qw, qx, all_cons, all_nil, lR, @nn _ dp 1 (fun _ => rfl)]
           (try simp only [bo.down, simprocAttr, b3, bf, b4, bP, db, ef, dp, (show ∀ s, eh aI s 43 2 [(0, .int .i64 hx), (1, .int .i64 gS)] = some (.aw 1 [.int .i64 hx, .int .i64 gS], s) from fun s => by kernel_rfl), @qz aI 29 43 1 1 [.bg] rfl rfl rfl (by kernel_rfl), pH, qA, pI, qB, ep, qy, List.nil_append, List.cons_append, @qv aI 29 29 43 rfl rfl, qw, qx, all_cons, all_nil, lR, @nn _ dp 1 (fun _ => rfl)] at ak ⊢); exact ak
          exact Ck _ (qY _ (.inr ⟨_, bq rfl, qX (jt ++ [[hx, gS]]) hx j5 gS h⟩))
         ·refine aZ (congrArg I.bool kM) ?_
          simp only [kM, Bool.not_true, Bool.not_false]
          exact a5 (Ck _ (qY _ (.inr ⟨_, bq rfl, qX jt hx j5 gS h⟩)))
        ·refine g_ (And.intro hC gF) _ ?_
         refine aZ rfl ?_
         exact a5 (Ck _ (qY _ (.inr ⟨_, bq rfl, qX jt hx j5 gS h⟩)))
      ·refine aZ (congrArg I.bool cR) ?_
       simp only [cR, Bool.not_true, Bool.not_false]
       refine dL (sO 2 _ (mo 2 _ (h4 _ (fF _ (cj _ (.inl ?_))))))
       refine wr _ ?_
       exact dB _ (.inr ⟨_, bq rfl, jL jt (IntKind.i64.wrap (j5 + 1)) h⟩)
    obtain ⟨n, h⟩ := dH h
    exact dM (.inr ⟨_, bq rfl, arA n bC mh mh 0 h⟩)
   ·refine aZ (congrArg I.bool dZ) ?_
    simp only [dZ, Bool.not_true, Bool.not_false]
    refine dL (gi 0 _ (b7 0 _ (bJ _ (gZ _ (.inl ?_)))))
    refine ws _ ?_
    exact aK (ao _ (.inl (aL [.aw 1 (bC.map dp)] rfl (by cases aH h; rfl) (by decide) aM)))
 obtain ⟨n, h⟩ := dH h
 exact dM (.inr ⟨_, n3 [] rfl (n5 (t := 3) (d := .bg) (bE := .aw 1 []) rfl rfl (.lG _) (by decide) (lk (t := 9) (d := .slice (J.bQ.map bf)) rfl (lk (t := 10) (d := .int .i64 (J.bQ.length : Int)) rfl (lk (t := 11) (d := .int .i64 0) rfl (n4))))), jK n [] 0 h⟩)
theorem Mp (J : dU) (r : (List (List Int)) × Int) (h : xE J = some r) : aT aI 10 [eO J] (.tuple [.aw 1 (r.1.map dp), .int .i64 r.2]) [] := by
 refine aT.bZ (fx := [0]) b0 [.tmp 2, .tmp 3] [(0, eO J)] Tryz.func10 rfl rfl o_ (Nat.le_of_ble_eq_true rfl) rfl rfl (fun bY ao bW => ?_)
 refine ws _ ?_
 refine aN (fun eo bX bn an => ?_)
 obtain ⟨af, c1, h⟩ := aO h
 refine dO (ary J _ c1) _ ?_
 rcases aQ h with ⟨bJ, h⟩ | ⟨bJ, h⟩
 ·refine aW (congrArg I.bool bJ) ?_
  simp only [(c8 bJ), Bool.not_true, Bool.not_false]
  refine ws _ ?_
  exact aK (bn _ (ao _ (.inr ⟨[(2, .aw 1 []), (3, .int .i64 1)], n3 [] rfl (n5 (t := 2) (d := .bg) rfl rfl (.lG _) (by decide) (lk rfl (n4))), aL [.aw 1 [], .int .i64 1] rfl (by cases aH h; rfl) (by decide) aM⟩)))
 ·refine aZ (congrArg I.bool bJ) ?_
  simp only [(br bJ), Bool.not_true, Bool.not_false]
  refine a5 (bX _ (.inl ?_))
  obtain ⟨an, iy, h⟩ := aO h
  refine dO (arz J _ iy) _ ?_
  refine aN (fun et cH cd dv => ?_)
  refine ws _ ?_
  rcases aQ h with ⟨fN, h⟩ | ⟨fN, h⟩
  ·refine aW (congrArg I.bool fN) ?_
   simp only [fN, Bool.not_true, Bool.not_false]
   refine ws _ ?_
   exact aK (cd _ (ao _ (.inr ⟨[(2, .aw 1 []), (3, .int .i64 5)], n3 [] rfl (n5 (t := 2) (d := .bg) rfl rfl (.lG _) (by decide) (lk rfl (n4))), aL [.aw 1 [], .int .i64 5] rfl (by cases aH h; rfl) (by decide) aM⟩)))
  ·refine aZ (congrArg I.bool fN) ?_
   simp only [fN, Bool.not_true, Bool.not_false]
   refine a5 (cH _ (.inl ?_))
   refine ws _ ?_
   exact aK (ao _ (.inl (aL [.aw 1 (an.map dp), .int .i64 0] rfl (by cases aH h; rfl) (by decide) aM)))
set_option maxHeartbeats 800000 in
theorem Mq (J : List Int) (ab : List Int) (r : Bool) (h : uW J ab = some r) : aT aI 21 [.slice (J.map b3), .slice (ab.map b3)] (.bool r) [] := by
 refine aT.bZ (fx := [0, 1]) b0 [.tmp 4] [(0, .slice (J.map b3)), (1, .slice (ab.map b3))] Tryz.func21 rfl rfl sG (Nat.le_of_ble_eq_true rfl) rfl rfl (fun bY ao bW => ?_)
 refine ws _ ?_
 refine aN (fun eo bX bn an => ?_)
 refine ws _ ?_
 rcases aQ h with ⟨bk, h⟩ | ⟨bk, h⟩
 ·refine aW (congrArg I.bool bk) ?_
  simp only [bk, Bool.not_true, Bool.not_false]
  refine ws _ ?_
  exact aK (bn _ (ao _ (.inl (aL [.bool false] rfl (by cases aH h; rfl) (by decide) aM))))
 ·refine aZ (congrArg I.bool bk) ?_
  simp only [bk, Bool.not_true, Bool.not_false]
  refine a5 (bX _ (.inl ?_))
  refine aN (fun fh dB dK b7 => ?_)
  refine ws _ ?_
  refine bH (fun hz hA gp a6 gi => ?_)
  have hp : ∀ (n : Nat) (bS : Int), Bo J ab n bS = some r → dA aI LF hz (aa [(0, .slice (J.map b3)), (1, .slice (ab.map b3)), (5, .int .i64 bS)]) := by
   intro dx
   induction dx with
   | zero => intro bS h; cases (show none = some r from h)
   | succ dx g2 =>
    intro bS h
    replace h : Kh (Bo J ab dx) J ab bS = some r := h
    refine dN (fun et cH cd dv => ?_)
    refine aN (fun e4 cj cJ c5 => ?_)
    refine ws _ ?_
    rcases aQ h with ⟨cG, h⟩ | ⟨cG, h⟩
    ·refine aW (congrArg I.bool cG) ?_
     simp only [cG, Bool.not_true, Bool.not_false]
     refine a5 (cj _ (.inl ?_))
     refine aN (fun lr g0 gj jg => ?_)
     refine bH (fun iG fv eH eB hn => ?_)
     obtain ⟨af, cN, h⟩ := aO h
     obtain ⟨an, eI, h⟩ := aO h
     refine hg rfl (hh [(0, .slice (J.map b3)), (1, .slice (ab.map b3)), (5, .int .i64 bS), (25, .bool (af != an))] (fun P ak => ?_) ?_)
     ·simp only [dF.down, simprocAttr, er, ik, b3, cN, eI]
      refine ⟨gV (by kernel_rfl), ?_⟩
      (try simp only [bo.down, simprocAttr, b3, cN, eI] at ak ⊢); exact ak
     rcases aQ h with ⟨ea, h⟩ | ⟨ea, h⟩
     ·refine aW (congrArg I.bool ea) ?_
      simp only [ea, Bool.not_true, Bool.not_false]
      refine ws _ ?_
      exact aK (eH _ (gj _ (cd _ (gp _ (dK _ (ao _ (.inl (aL [.bool false] rfl (by cases aH h; rfl) (by decide) aM))))))))
     ·refine aZ (congrArg I.bool ea) ?_
      simp only [ea, Bool.not_true, Bool.not_false]
      refine a5 (fv _ (g0 _ (.inl ?_)))
      refine wr _ ?_
      exact cH _ (.inr ⟨_, bq rfl, g2 (IntKind.i64.wrap (bS + 1)) h⟩)
    ·refine aZ (congrArg I.bool cG) ?_
     simp only [cG, Bool.not_true, Bool.not_false]
     refine dL (c5 0 _ (dv 0 _ (a6 _ (dB _ (.inl ?_)))))
     refine ws _ ?_
     exact aK (ao _ (.inl (aL [.bool true] rfl (by cases aH h; rfl) (by decide) aM)))
  obtain ⟨n, h⟩ := dH h
  exact dM (.inr ⟨_, bq rfl, hp n 0 h⟩)
set_option maxHeartbeats 800000 in
theorem vf (J : List (List Int)) (ab : List (List Int)) (r : Bool) (h : uX J ab = some r) : aT aI 11 [.slice (J.map eu), .slice (ab.map eu)] (.bool r) [] := by
 refine aT.bZ (fx := [0, 1]) b0 [.tmp 4] [(0, .slice (J.map eu)), (1, .slice (ab.map eu))] Tryz.func11 rfl rfl uZ (Nat.le_of_ble_eq_true rfl) rfl rfl (fun bY ao bW => ?_)
 refine ws _ ?_
 refine aN (fun eo bX bn an => ?_)
 refine ws _ ?_
 rcases aQ h with ⟨bk, h⟩ | ⟨bk, h⟩
 ·refine aW (congrArg I.bool bk) ?_
  simp only [bk, Bool.not_true, Bool.not_false]
  refine ws _ ?_
  exact aK (bn _ (ao _ (.inl (aL [.bool false] rfl (by cases aH h; rfl) (by decide) aM))))
 ·refine aZ (congrArg I.bool bk) ?_
  simp only [bk, Bool.not_true, Bool.not_false]
  refine a5 (bX _ (.inl ?_))
  refine aN (fun fh dB dK b7 => ?_)
  refine ws _ ?_
  refine bH (fun hz hA gp a6 gi => ?_)
  have hp : ∀ (n : Nat) (bS : Int), Bp J ab n bS = some r → dA aI LG hz (aa [(0, .slice (J.map eu)), (1, .slice (ab.map eu)), (5, .int .i64 bS)]) := by
   intro dx
   induction dx with
   | zero => intro bS h; cases (show none = some r from h)
   | succ dx g2 =>
    intro bS h
    replace h : Ki (Bp J ab dx) J ab bS = some r := h
    refine dN (fun et cH cd dv => ?_)
    refine aN (fun e4 cj cJ c5 => ?_)
    refine ws _ ?_
    rcases aQ h with ⟨cG, h⟩ | ⟨cG, h⟩
    ·refine aW (congrArg I.bool cG) ?_
     simp only [cG, Bool.not_true, Bool.not_false]
     refine a5 (cj _ (.inl ?_))
     refine aN (fun lr g0 gj jg => ?_)
     refine bH (fun iG fv eH eB hn => ?_)
     obtain ⟨af, cN, h⟩ := aO h
     obtain ⟨an, eI, h⟩ := aO h
     obtain ⟨a0, ga, h⟩ := aO h
     refine hg rfl (hh [(0, .slice (J.map eu)), (1, .slice (ab.map eu)), (5, .int .i64 bS), (26, .bool (!a0))] (fun P ak => ?_) ?_)
     ·simp only [dF.down, simprocAttr, er, o4, ik, b3, eu, cN, eI]
      refine i3 (Mq af an _ ga) rfl rfl rfl rfl (.inl (by rfl)) ?_
      simp only [dF.down, simprocAttr, er, o4, ik, b3, eu, cN, eI]
      refine ⟨gV (by kernel_rfl), ?_⟩
      (try simp only [bo.down, simprocAttr, b3, eu, cN, eI] at ak ⊢); exact ak
     rcases aQ h with ⟨ej, h⟩ | ⟨ej, h⟩
     ·refine aW (congrArg I.bool ej) ?_
      simp only [(c8 ej), Bool.not_true, Bool.not_false]
      refine ws _ ?_
      exact aK (eH _ (gj _ (cd _ (gp _ (dK _ (ao _ (.inl (aL [.bool false] rfl (by cases aH h; rfl) (by decide) aM))))))))
     ·refine aZ (congrArg I.bool ej) ?_
      simp only [(br ej), Bool.not_true, Bool.not_false]
      refine a5 (fv _ (g0 _ (.inl ?_)))
      refine wr _ ?_
      exact cH _ (.inr ⟨_, bq rfl, g2 (IntKind.i64.wrap (bS + 1)) h⟩)
    ·refine aZ (congrArg I.bool cG) ?_
     simp only [cG, Bool.not_true, Bool.not_false]
     refine dL (c5 0 _ (dv 0 _ (a6 _ (dB _ (.inl ?_)))))
     refine ws _ ?_
     exact aK (ao _ (.inl (aL [.bool true] rfl (by cases aH h; rfl) (by decide) aM)))
  obtain ⟨n, h⟩ := dH h
  exact dM (.inr ⟨_, bq rfl, hp n 0 h⟩)
theorem arC (J : bO) (ab : bO) (r : Bool) (h : xF J ab = some r) : aT aI 195 [bP J, bP ab] (.bool r) [] := by
 refine aT.bZ (fx := [0, 1]) b0 [.tmp 4] [(0, bP J), (1, bP ab)] Tryz.func195 rfl rfl ajQ (Nat.le_of_ble_eq_true rfl) rfl rfl (fun bY ao bW => ?_)
 refine ws _ ?_
 refine aN (fun eo bX bn an => ?_)
 refine ws _ ?_
 rcases aQ h with ⟨bk, h⟩ | ⟨bk, h⟩
 ·refine aW (congrArg I.bool bk) ?_
  simp only [bk, Bool.not_true, Bool.not_false]
  refine ws _ ?_
  exact aK (bn _ (ao _ (.inl (aL [.bool false] rfl (by cases aH h; rfl) (by decide) aM))))
 ·refine aZ (congrArg I.bool bk) ?_
  simp only [bk, Bool.not_true, Bool.not_false]
  refine a5 (bX _ (.inl ?_))
  refine aN (fun fh dB dK b7 => ?_)
  refine ws _ ?_
  rcases aQ h with ⟨a6, h⟩ | ⟨a6, h⟩
  ·refine aW (congrArg I.bool a6) ?_
   simp only [a6, Bool.not_true, Bool.not_false]
   refine ws _ ?_
   exact aK (dK _ (ao _ (.inl (aL [.bool false] rfl (by cases aH h; rfl) (by decide) aM))))
  ·refine aZ (congrArg I.bool a6) ?_
   simp only [a6, Bool.not_true, Bool.not_false]
   refine a5 (dB _ (.inl ?_))
   refine ws _ ?_
   exact aK (ao _ (.inl (aL [.bool true] rfl (by cases aH h; rfl) (by decide) aM)))
set_option maxHeartbeats 800000 in
theorem arD (J : List bO) (ab : List bO) (r : Bool) (h : xG J ab = some r) : aT aI 158 [.slice (J.map bP), .slice (ab.map bP)] (.bool r) [] := by
 refine aT.bZ (fx := [0, 1]) b0 [.tmp 4] [(0, .slice (J.map bP)), (1, .slice (ab.map bP))] Tryz.func158 rfl rfl aj3 (Nat.le_of_ble_eq_true rfl) rfl rfl (fun bY ao bW => ?_)
 refine ws _ ?_
 refine aN (fun eo bX bn an => ?_)
 refine ws _ ?_
 rcases aQ h with ⟨bk, h⟩ | ⟨bk, h⟩
 ·refine aW (congrArg I.bool bk) ?_
  simp only [bk, Bool.not_true, Bool.not_false]
  refine ws _ ?_
  exact aK (bn _ (ao _ (.inl (aL [.bool false] rfl (by cases aH h; rfl) (by decide) aM))))
 ·refine aZ (congrArg I.bool bk) ?_
  simp only [bk, Bool.not_true, Bool.not_false]
  refine a5 (bX _ (.inl ?_))
  refine aN (fun fh dB dK b7 => ?_)
  refine ws _ ?_
  refine bH (fun hz hA gp a6 gi => ?_)
  have hp : ∀ (n : Nat) (bS : Int), Bq J ab n bS = some r → dA aI LH hz (aa [(0, .slice (J.map bP)), (1, .slice (ab.map bP)), (5, .int .i64 bS)]) := by
   intro dx
   induction dx with
   | zero => intro bS h; cases (show none = some r from h)
   | succ dx g2 =>
    intro bS h
    replace h : Kj (Bq J ab dx) J ab bS = some r := h
    refine dN (fun et cH cd dv => ?_)
    refine aN (fun e4 cj cJ c5 => ?_)
    refine ws _ ?_
    rcases aQ h with ⟨cG, h⟩ | ⟨cG, h⟩
    ·refine aW (congrArg I.bool cG) ?_
     simp only [cG, Bool.not_true, Bool.not_false]
     refine a5 (cj _ (.inl ?_))
     refine aN (fun lr g0 gj jg => ?_)
     refine bH (fun iG fv eH eB hn => ?_)
     obtain ⟨af, cN, h⟩ := aO h
     obtain ⟨an, eI, h⟩ := aO h
     obtain ⟨a0, ga, h⟩ := aO h
     refine hg rfl (hh [(0, .slice (J.map bP)), (1, .slice (ab.map bP)), (5, .int .i64 bS), (26, .bool (!a0))] (fun P ak => ?_) ?_)
     ·simp only [dF.down, simprocAttr, mV.down, cN, eI]
      refine i3 (arC af an _ ga) rfl rfl rfl rfl (.inl (by rfl)) ?_
      simp only [dF.down, simprocAttr, mV.down, cN, eI]
      refine ⟨gV (by kernel_rfl), ?_⟩
      (try simp only [bo.down, simprocAttr, bP, cN, eI] at ak ⊢); exact ak
     rcases aQ h with ⟨ej, h⟩ | ⟨ej, h⟩
     ·refine aW (congrArg I.bool ej) ?_
      simp only [(c8 ej), Bool.not_true, Bool.not_false]
      refine ws _ ?_
      exact aK (eH _ (gj _ (cd _ (gp _ (dK _ (ao _ (.inl (aL [.bool false] rfl (by cases aH h; rfl) (by decide) aM))))))))
     ·refine aZ (congrArg I.bool ej) ?_
      simp only [(br ej), Bool.not_true, Bool.not_false]
      refine a5 (fv _ (g0 _ (.inl ?_)))
      refine wr _ ?_
      exact cH _ (.inr ⟨_, bq rfl, g2 (IntKind.i64.wrap (bS + 1)) h⟩)
    ·refine aZ (congrArg I.bool cG) ?_
     simp only [cG, Bool.not_true, Bool.not_false]
     refine dL (c5 0 _ (dv 0 _ (a6 _ (dB _ (.inl ?_)))))
     refine ws _ ?_
     exact aK (ao _ (.inl (aL [.bool true] rfl (by cases aH h; rfl) (by decide) aM)))
  obtain ⟨n, h⟩ := dH h
  exact dM (.inr ⟨_, bq rfl, hp n 0 h⟩)
set_option maxHeartbeats 800000 in
theorem arE (J : List (List bO)) (ab : List (List bO)) (r : Bool) (h : Bs J ab = some r) : aT aI 159 [.slice (J.map ef), .slice (ab.map ef)] (.bool r) [] := by
 refine aT.bZ (fx := [0, 1]) b0 [.tmp 4] [(0, .slice (J.map ef)), (1, .slice (ab.map ef))] Tryz.func159 rfl rfl akf (Nat.le_of_ble_eq_true rfl) rfl rfl (fun bY ao bW => ?_)
 refine ws _ ?_
 refine aN (fun eo bX bn an => ?_)
 refine ws _ ?_
 rcases aQ h with ⟨bk, h⟩ | ⟨bk, h⟩
 ·refine aW (congrArg I.bool bk) ?_
  simp only [bk, Bool.not_true, Bool.not_false]
  refine ws _ ?_
  exact aK (bn _ (ao _ (.inl (aL [.bool false] rfl (by cases aH h; rfl) (by decide) aM))))
 ·refine aZ (congrArg I.bool bk) ?_
  simp only [bk, Bool.not_true, Bool.not_false]
  refine a5 (bX _ (.inl ?_))
  refine aN (fun fh dB dK b7 => ?_)
  refine ws _ ?_
  refine bH (fun hz hA gp a6 gi => ?_)
  have hp : ∀ (n : Nat) (bS : Int), Br J ab n bS = some r → dA aI LI hz (aa [(0, .slice (J.map ef)), (1, .slice (ab.map ef)), (5, .int .i64 bS)]) := by
   intro dx
   induction dx with
   | zero => intro bS h; cases (show none = some r from h)
   | succ dx g2 =>
    intro bS h
    replace h : Kk (Br J ab dx) J ab bS = some r := h
    refine dN (fun et cH cd dv => ?_)
    refine aN (fun e4 cj cJ c5 => ?_)
    refine ws _ ?_
    rcases aQ h with ⟨cG, h⟩ | ⟨cG, h⟩
    ·refine aW (congrArg I.bool cG) ?_
     simp only [cG, Bool.not_true, Bool.not_false]
     refine a5 (cj _ (.inl ?_))
     refine aN (fun lr g0 gj jg => ?_)
     refine bH (fun iG fv eH eB hn => ?_)
     obtain ⟨af, cN, h⟩ := aO h
     obtain ⟨an, eI, h⟩ := aO h
     obtain ⟨a0, ga, h⟩ := aO h
     refine hg rfl (hh [(0, .slice (J.map ef)), (1, .slice (ab.map ef)), (5, .int .i64 bS), (26, .bool (!a0))] (fun P ak => ?_) ?_)
     ·simp only [dF.down, simprocAttr, er, gW, gw, gh, bP, ef, cN, eI]
      refine i3 (arD af an _ ga) rfl rfl rfl rfl (.inl (by rfl)) ?_
      simp only [dF.down, simprocAttr, er, gW, gw, gh, bP, ef, cN, eI]
      refine ⟨gV (by kernel_rfl), ?_⟩
      (try simp only [bo.down, simprocAttr, bP, ef, cN, eI] at ak ⊢); exact ak
     rcases aQ h with ⟨ej, h⟩ | ⟨ej, h⟩
     ·refine aW (congrArg I.bool ej) ?_
      simp only [(c8 ej), Bool.not_true, Bool.not_false]
      refine ws _ ?_
      exact aK (eH _ (gj _ (cd _ (gp _ (dK _ (ao _ (.inl (aL [.bool false] rfl (by cases aH h; rfl) (by decide) aM))))))))
     ·refine aZ (congrArg I.bool ej) ?_
      simp only [(br ej), Bool.not_true, Bool.not_false]
      refine a5 (fv _ (g0 _ (.inl ?_)))
      refine wr _ ?_
      exact cH _ (.inr ⟨_, bq rfl, g2 (IntKind.i64.wrap (bS + 1)) h⟩)
    ·refine aZ (congrArg I.bool cG) ?_
     simp only [cG, Bool.not_true, Bool.not_false]
     refine dL (c5 0 _ (dv 0 _ (a6 _ (dB _ (.inl ?_)))))
     refine ws _ ?_
     exact aK (ao _ (.inl (aL [.bool true] rfl (by cases aH h; rfl) (by decide) aM)))
  obtain ⟨n, h⟩ := dH h
  exact dM (.inr ⟨_, bq rfl, hp n 0 h⟩)
theorem arF (J : bx) (ab : bx) (r : Bool) (h : xH J ab = some r) : aT aI 174 [b4 J, b4 ab] (.bool r) [] := by
 refine aT.bZ (fx := [0, 1]) b0 [.tmp 4] [(0, b4 J), (1, b4 ab)] Tryz.func174 rfl rfl aku (Nat.le_of_ble_eq_true rfl) rfl rfl (fun bY ao bW => ?_)
 refine ws _ ?_
 refine aN (fun eo bX bn an => ?_)
 refine ws _ ?_
 rcases aQ h with ⟨bk, h⟩ | ⟨bk, h⟩
 ·refine aW (congrArg I.bool bk) ?_
  simp only [bk, Bool.not_true, Bool.not_false]
  refine ws _ ?_
  exact aK (bn _ (ao _ (.inl (aL [.bool false] rfl (by cases aH h; rfl) (by decide) aM))))
 ·refine aZ (congrArg I.bool bk) ?_
  simp only [bk, Bool.not_true, Bool.not_false]
  refine a5 (bX _ (.inl ?_))
  refine aN (fun fh dB dK b7 => ?_)
  refine ws _ ?_
  rcases aQ h with ⟨a6, h⟩ | ⟨a6, h⟩
  ·refine aW (congrArg I.bool a6) ?_
   simp only [a6, Bool.not_true, Bool.not_false]
   refine ws _ ?_
   exact aK (dK _ (ao _ (.inl (aL [.bool false] rfl (by cases aH h; rfl) (by decide) aM))))
  ·refine aZ (congrArg I.bool a6) ?_
   simp only [a6, Bool.not_true, Bool.not_false]
   refine a5 (dB _ (.inl ?_))
   refine aN (fun e4 cj cJ c5 => ?_)
   refine ws _ ?_
   rcases aQ h with ⟨cG, h⟩ | ⟨cG, h⟩
   ·refine aW (congrArg I.bool cG) ?_
    simp only [cG, Bool.not_true, Bool.not_false]
    refine ws _ ?_
    exact aK (cJ _ (ao _ (.inl (aL [.bool false] rfl (by cases aH h; rfl) (by decide) aM))))
   ·refine aZ (congrArg I.bool cG) ?_
    simp only [cG, Bool.not_true, Bool.not_false]
    refine a5 (cj _ (.inl ?_))
    refine aN (fun iG fv eH hn => ?_)
    obtain ⟨af, cN, h⟩ := aO h
    refine dO (arE J.cr ab.cr _ cN) _ ?_
    rcases aQ h with ⟨hU, h⟩ | ⟨hU, h⟩
    ·refine aW (congrArg I.bool hU) ?_
     simp only [(c8 hU), Bool.not_true, Bool.not_false]
     refine ws _ ?_
     exact aK (eH _ (ao _ (.inl (aL [.bool false] rfl (by cases aH h; rfl) (by decide) aM))))
    ·refine aZ (congrArg I.bool hU) ?_
     simp only [(br hU), Bool.not_true, Bool.not_false]
     refine a5 (fv _ (.inl ?_))
     refine ws _ ?_
     exact aK (ao _ (.inl (aL [.bool true] rfl (by cases aH h; rfl) (by decide) aM)))
set_option maxHeartbeats 800000 in
theorem arG (J : List bx) (ab : List bx) (r : Bool) (h : Bu J ab = some r) : aT aI 135 [.slice (J.map b4), .slice (ab.map b4)] (.bool r) [] := by
 refine aT.bZ (fx := [0, 1]) b0 [.tmp 4] [(0, .slice (J.map b4)), (1, .slice (ab.map b4))] Tryz.func135 rfl rfl akH (Nat.le_of_ble_eq_true rfl) rfl rfl (fun bY ao bW => ?_)
 refine ws _ ?_
 refine aN (fun eo bX bn an => ?_)
 refine ws _ ?_
 rcases aQ h with ⟨bk, h⟩ | ⟨bk, h⟩
 ·refine aW (congrArg I.bool bk) ?_
  simp only [bk, Bool.not_true, Bool.not_false]
  refine ws _ ?_
  exact aK (bn _ (ao _ (.inl (aL [.bool false] rfl (by cases aH h; rfl) (by decide) aM))))
 ·refine aZ (congrArg I.bool bk) ?_
  simp only [bk, Bool.not_true, Bool.not_false]
  refine a5 (bX _ (.inl ?_))
  refine aN (fun fh dB dK b7 => ?_)
  refine ws _ ?_
  refine bH (fun hz hA gp a6 gi => ?_)
  have hp : ∀ (n : Nat) (bS : Int), Bt J ab n bS = some r → dA aI LJ hz (aa [(0, .slice (J.map b4)), (1, .slice (ab.map b4)), (5, .int .i64 bS)]) := by
   intro dx
   induction dx with
   | zero => intro bS h; cases (show none = some r from h)
   | succ dx g2 =>
    intro bS h
    replace h : Kl (Bt J ab dx) J ab bS = some r := h
    refine dN (fun et cH cd dv => ?_)
    refine aN (fun e4 cj cJ c5 => ?_)
    refine ws _ ?_
    rcases aQ h with ⟨cG, h⟩ | ⟨cG, h⟩
    ·refine aW (congrArg I.bool cG) ?_
     simp only [cG, Bool.not_true, Bool.not_false]
     refine a5 (cj _ (.inl ?_))
     refine aN (fun lr g0 gj jg => ?_)
     refine bH (fun iG fv eH eB hn => ?_)
     obtain ⟨af, cN, h⟩ := aO h
     obtain ⟨an, eI, h⟩ := aO h
     obtain ⟨a0, ga, h⟩ := aO h
     refine hg rfl (hh [(0, .slice (J.map b4)), (1, .slice (ab.map b4)), (5, .int .i64 bS), (26, .bool (!a0))] (fun P ak => ?_) ?_)
     ·simp only [dF.down, simprocAttr, B5.down, cN, eI]
      refine i3 (arF af an _ ga) rfl rfl rfl rfl (.inl (by rfl)) ?_
      simp only [dF.down, simprocAttr, B5.down, cN, eI]
      refine ⟨gV (by kernel_rfl), ?_⟩
      (try simp only [bo.down, simprocAttr, ml.down, cN, eI] at ak ⊢); exact ak
     rcases aQ h with ⟨ej, h⟩ | ⟨ej, h⟩
     ·refine aW (congrArg I.bool ej) ?_
      simp only [(c8 ej), Bool.not_true, Bool.not_false]
      refine ws _ ?_
      exact aK (eH _ (gj _ (cd _ (gp _ (dK _ (ao _ (.inl (aL [.bool false] rfl (by cases aH h; rfl) (by decide) aM))))))))
     ·refine aZ (congrArg I.bool ej) ?_
      simp only [(br ej), Bool.not_true, Bool.not_false]
      refine a5 (fv _ (g0 _ (.inl ?_)))
      refine wr _ ?_
      exact cH _ (.inr ⟨_, bq rfl, g2 (IntKind.i64.wrap (bS + 1)) h⟩)
    ·refine aZ (congrArg I.bool cG) ?_
     simp only [cG, Bool.not_true, Bool.not_false]
     refine dL (c5 0 _ (dv 0 _ (a6 _ (dB _ (.inl ?_)))))
     refine ws _ ?_
     exact aK (ao _ (.inl (aL [.bool true] rfl (by cases aH h; rfl) (by decide) aM)))
  obtain ⟨n, h⟩ := dH h
  exact dM (.inr ⟨_, bq rfl, hp n 0 h⟩)
theorem arH (J : a9) (ab : a9) (r : Bool) (h : xI J ab = some r) : aT aI 81 [bf J, bf ab] (.bool r) [] := by
 refine aT.bZ (fx := [0, 1]) b0 [.tmp 4] [(0, bf J), (1, bf ab)] Tryz.func81 rfl rfl akT (Nat.le_of_ble_eq_true rfl) rfl rfl (fun bY ao bW => ?_)
 refine ws _ ?_
 refine aN (fun eo bX bn an => ?_)
 refine ws _ ?_
 rcases aQ h with ⟨bk, h⟩ | ⟨bk, h⟩
 ·refine aW (congrArg I.bool bk) ?_
  simp only [bk, Bool.not_true, Bool.not_false]
  refine ws _ ?_
  exact aK (bn _ (ao _ (.inl (aL [.bool false] rfl (by cases aH h; rfl) (by decide) aM))))
 ·refine aZ (congrArg I.bool bk) ?_
  simp only [bk, Bool.not_true, Bool.not_false]
  refine a5 (bX _ (.inl ?_))
  refine aN (fun fh dB dK b7 => ?_)
  refine ws _ ?_
  rcases aQ h with ⟨a6, h⟩ | ⟨a6, h⟩
  ·refine aW (congrArg I.bool a6) ?_
   simp only [a6, Bool.not_true, Bool.not_false]
   refine ws _ ?_
   exact aK (dK _ (ao _ (.inl (aL [.bool false] rfl (by cases aH h; rfl) (by decide) aM))))
  ·refine aZ (congrArg I.bool a6) ?_
   simp only [a6, Bool.not_true, Bool.not_false]
   refine a5 (dB _ (.inl ?_))
   refine aN (fun e4 cj cJ c5 => ?_)
   obtain ⟨af, dJ, h⟩ := aO h
   refine dO (arG J.Body ab.Body _ dJ) _ ?_
   rcases aQ h with ⟨cU, h⟩ | ⟨cU, h⟩
   ·refine aW (congrArg I.bool cU) ?_
    simp only [(c8 cU), Bool.not_true, Bool.not_false]
    refine ws _ ?_
    exact aK (cJ _ (ao _ (.inl (aL [.bool false] rfl (by cases aH h; rfl) (by decide) aM))))
   ·refine aZ (congrArg I.bool cU) ?_
    simp only [(br cU), Bool.not_true, Bool.not_false]
    refine a5 (cj _ (.inl ?_))
    refine ws _ ?_
    exact aK (ao _ (.inl (aL [.bool true] rfl (by cases aH h; rfl) (by decide) aM)))
set_option maxHeartbeats 800000 in
theorem arI (J : List a9) (ab : List a9) (r : Bool) (h : xJ J ab = some r) : aT aI 45 [.slice (J.map bf), .slice (ab.map bf)] (.bool r) [] := by
 refine aT.bZ (fx := [0, 1]) b0 [.tmp 4] [(0, .slice (J.map bf)), (1, .slice (ab.map bf))] Tryz.func45 rfl rfl ak6 (Nat.le_of_ble_eq_true rfl) rfl rfl (fun bY ao bW => ?_)
 refine ws _ ?_
 refine aN (fun eo bX bn an => ?_)
 refine ws _ ?_
 rcases aQ h with ⟨bk, h⟩ | ⟨bk, h⟩
 ·refine aW (congrArg I.bool bk) ?_
  simp only [bk, Bool.not_true, Bool.not_false]
  refine ws _ ?_
  exact aK (bn _ (ao _ (.inl (aL [.bool false] rfl (by cases aH h; rfl) (by decide) aM))))
 ·refine aZ (congrArg I.bool bk) ?_
  simp only [bk, Bool.not_true, Bool.not_false]
  refine a5 (bX _ (.inl ?_))
  refine aN (fun fh dB dK b7 => ?_)
  refine ws _ ?_
  refine bH (fun hz hA gp a6 gi => ?_)
  have hp : ∀ (n : Nat) (bS : Int), Bv J ab n bS = some r → dA aI LK hz (aa [(0, .slice (J.map bf)), (1, .slice (ab.map bf)), (5, .int .i64 bS)]) := by
   intro dx
   induction dx with
   | zero => intro bS h; cases (show none = some r from h)
   | succ dx g2 =>
    intro bS h
    replace h : Km (Bv J ab dx) J ab bS = some r := h
    refine dN (fun et cH cd dv => ?_)
    refine aN (fun e4 cj cJ c5 => ?_)
    refine ws _ ?_
    rcases aQ h with ⟨cG, h⟩ | ⟨cG, h⟩
    ·refine aW (congrArg I.bool cG) ?_
     simp only [cG, Bool.not_true, Bool.not_false]
     refine a5 (cj _ (.inl ?_))
     refine aN (fun lr g0 gj jg => ?_)
     refine bH (fun iG fv eH eB hn => ?_)
     obtain ⟨af, cN, h⟩ := aO h
     obtain ⟨an, eI, h⟩ := aO h
     obtain ⟨a0, ga, h⟩ := aO h
     refine hg rfl (hh [(0, .slice (J.map bf)), (1, .slice (ab.map bf)), (5, .int .i64 bS), (26, .bool (!a0))] (fun P ak => ?_) ?_)
     ·simp only [dF.down, simprocAttr, iF.down, cN, eI]
      refine i3 (arH af an _ ga) rfl rfl rfl rfl (.inl (by rfl)) ?_
      simp only [dF.down, simprocAttr, iF.down, cN, eI]
      refine ⟨gV (by kernel_rfl), ?_⟩
      (try simp only [bo.down, simprocAttr, hS.down, cN, eI] at ak ⊢); exact ak
     rcases aQ h with ⟨ej, h⟩ | ⟨ej, h⟩
     ·refine aW (congrArg I.bool ej) ?_
      simp only [(c8 ej), Bool.not_true, Bool.not_false]
      refine ws _ ?_
      exact aK (eH _ (gj _ (cd _ (gp _ (dK _ (ao _ (.inl (aL [.bool false] rfl (by cases aH h; rfl) (by decide) aM))))))))
     ·refine aZ (congrArg I.bool ej) ?_
      simp only [(br ej), Bool.not_true, Bool.not_false]
      refine a5 (fv _ (g0 _ (.inl ?_)))
      refine wr _ ?_
      exact cH _ (.inr ⟨_, bq rfl, g2 (IntKind.i64.wrap (bS + 1)) h⟩)
    ·refine aZ (congrArg I.bool cG) ?_
     simp only [cG, Bool.not_true, Bool.not_false]
     refine dL (c5 0 _ (dv 0 _ (a6 _ (dB _ (.inl ?_)))))
     refine ws _ ?_
     exact aK (ao _ (.inl (aL [.bool true] rfl (by cases aH h; rfl) (by decide) aM)))
  obtain ⟨n, h⟩ := dH h
  exact dM (.inr ⟨_, bq rfl, hp n 0 h⟩)
theorem arJ (J : c2) (ab : c2) (r : Bool) (h : xK J ab = some r) : aT aI 82 [eN J, eN ab] (.bool r) [] := by
 refine aT.bZ (fx := [0, 1]) b0 [.tmp 4] [(0, eN J), (1, eN ab)] Tryz.func82 rfl rfl ale (Nat.le_of_ble_eq_true rfl) rfl rfl (fun bY ao bW => ?_)
 refine ws _ ?_
 refine aN (fun eo bX bn an => ?_)
 refine ws _ ?_
 rcases aQ h with ⟨bk, h⟩ | ⟨bk, h⟩
 ·refine aW (congrArg I.bool bk) ?_
  simp only [bk, Bool.not_true, Bool.not_false]
  refine ws _ ?_
  exact aK (bn _ (ao _ (.inl (aL [.bool false] rfl (by cases aH h; rfl) (by decide) aM))))
 ·refine aZ (congrArg I.bool bk) ?_
  simp only [bk, Bool.not_true, Bool.not_false]
  refine a5 (bX _ (.inl ?_))
  refine aN (fun fh dB dK b7 => ?_)
  obtain ⟨af, iy, h⟩ := aO h
  refine dO (Mq J.fk ab.fk _ iy) _ ?_
  rcases aQ h with ⟨dZ, h⟩ | ⟨dZ, h⟩
  ·refine aW (congrArg I.bool dZ) ?_
   simp only [(c8 dZ), Bool.not_true, Bool.not_false]
   refine ws _ ?_
   exact aK (dK _ (ao _ (.inl (aL [.bool false] rfl (by cases aH h; rfl) (by decide) aM))))
  ·refine aZ (congrArg I.bool dZ) ?_
   simp only [(br dZ), Bool.not_true, Bool.not_false]
   refine a5 (dB _ (.inl ?_))
   refine ws _ ?_
   exact aK (ao _ (.inl (aL [.bool true] rfl (by cases aH h; rfl) (by decide) aM)))
set_option maxHeartbeats 800000 in
theorem arK (J : List c2) (ab : List c2) (r : Bool) (h : Bx J ab = some r) : aT aI 46 [.slice (J.map eN), .slice (ab.map eN)] (.bool r) [] := by
 refine aT.bZ (fx := [0, 1]) b0 [.tmp 4] [(0, .slice (J.map eN)), (1, .slice (ab.map eN))] Tryz.func46 rfl rfl als (Nat.le_of_ble_eq_true rfl) rfl rfl (fun bY ao bW => ?_)
 refine ws _ ?_
 refine aN (fun eo bX bn an => ?_)
 refine ws _ ?_
 rcases aQ h with ⟨bk, h⟩ | ⟨bk, h⟩
 ·refine aW (congrArg I.bool bk) ?_
  simp only [bk, Bool.not_true, Bool.not_false]
  refine ws _ ?_
  exact aK (bn _ (ao _ (.inl (aL [.bool false] rfl (by cases aH h; rfl) (by decide) aM))))
 ·refine aZ (congrArg I.bool bk) ?_
  simp only [bk, Bool.not_true, Bool.not_false]
  refine a5 (bX _ (.inl ?_))
  refine aN (fun fh dB dK b7 => ?_)
  refine ws _ ?_
  refine bH (fun hz hA gp a6 gi => ?_)
  have hp : ∀ (n : Nat) (bS : Int), Bw J ab n bS = some r → dA aI LL hz (aa [(0, .slice (J.map eN)), (1, .slice (ab.map eN)), (5, .int .i64 bS)]) := by
   intro dx
   induction dx with
   | zero => intro bS h; cases (show none = some r from h)
   | succ dx g2 =>
    intro bS h
    replace h : Kn (Bw J ab dx) J ab bS = some r := h
    refine dN (fun et cH cd dv => ?_)
    refine aN (fun e4 cj cJ c5 => ?_)
    refine ws _ ?_
    rcases aQ h with ⟨cG, h⟩ | ⟨cG, h⟩
    ·refine aW (congrArg I.bool cG) ?_
     simp only [cG, Bool.not_true, Bool.not_false]
     refine a5 (cj _ (.inl ?_))
     refine aN (fun lr g0 gj jg => ?_)
     refine bH (fun iG fv eH eB hn => ?_)
     obtain ⟨af, cN, h⟩ := aO h
     obtain ⟨an, eI, h⟩ := aO h
     obtain ⟨a0, ga, h⟩ := aO h
     refine hg rfl (hh [(0, .slice (J.map eN)), (1, .slice (ab.map eN)), (5, .int .i64 bS), (26, .bool (!a0))] (fun P ak => ?_) ?_)
     ·simp only [dF.down, simprocAttr, er, n_, ik, nq, b3, eN, cN, eI]
      refine i3 (arJ af an _ ga) rfl rfl rfl rfl (.inl (by rfl)) ?_
      simp only [dF.down, simprocAttr, er, n_, ik, nq, b3, eN, cN, eI]
      refine ⟨gV (by kernel_rfl), ?_⟩
      (try simp only [bo.down, simprocAttr, b3, eN, cN, eI] at ak ⊢); exact ak
     rcases aQ h with ⟨ej, h⟩ | ⟨ej, h⟩
     ·refine aW (congrArg I.bool ej) ?_
      simp only [(c8 ej), Bool.not_true, Bool.not_false]
      refine ws _ ?_
      exact aK (eH _ (gj _ (cd _ (gp _ (dK _ (ao _ (.inl (aL [.bool false] rfl (by cases aH h; rfl) (by decide) aM))))))))
     ·refine aZ (congrArg I.bool ej) ?_
      simp only [(br ej), Bool.not_true, Bool.not_false]
      refine a5 (fv _ (g0 _ (.inl ?_)))
      refine wr _ ?_
      exact cH _ (.inr ⟨_, bq rfl, g2 (IntKind.i64.wrap (bS + 1)) h⟩)
    ·refine aZ (congrArg I.bool cG) ?_
     simp only [cG, Bool.not_true, Bool.not_false]
     refine dL (c5 0 _ (dv 0 _ (a6 _ (dB _ (.inl ?_)))))
     refine ws _ ?_
     exact aK (ao _ (.inl (aL [.bool true] rfl (by cases aH h; rfl) (by decide) aM)))
  obtain ⟨n, h⟩ := dH h
  exact dM (.inr ⟨_, bq rfl, hp n 0 h⟩)
theorem arL (J : bR) (ab : bR) (r : Bool) (h : xL J ab = some r) : aT aI 83 [bm J, bm ab] (.bool r) [] := by
 refine aT.bZ (fx := [0, 1]) b0 [.tmp 4] [(0, bm J), (1, bm ab)] Tryz.func83 rfl rfl alF (Nat.le_of_ble_eq_true rfl) rfl rfl (fun bY ao bW => ?_)
 refine ws _ ?_
 refine aN (fun eo bX bn an => ?_)
 refine ws _ ?_
 rcases aQ h with ⟨bk, h⟩ | ⟨bk, h⟩
 ·refine aW (congrArg I.bool bk) ?_
  simp only [bk, Bool.not_true, Bool.not_false]
  refine ws _ ?_
  exact aK (bn _ (ao _ (.inl (aL [.bool false] rfl (by cases aH h; rfl) (by decide) aM))))
 ·refine aZ (congrArg I.bool bk) ?_
  simp only [bk, Bool.not_true, Bool.not_false]
  refine a5 (bX _ (.inl ?_))
  refine aN (fun fh dB dK b7 => ?_)
  refine ws _ ?_
  rcases aQ h with ⟨a6, h⟩ | ⟨a6, h⟩
  ·refine aW (congrArg I.bool a6) ?_
   simp only [a6, Bool.not_true, Bool.not_false]
   refine ws _ ?_
   exact aK (dK _ (ao _ (.inl (aL [.bool false] rfl (by cases aH h; rfl) (by decide) aM))))
  ·refine aZ (congrArg I.bool a6) ?_
   simp only [a6, Bool.not_true, Bool.not_false]
   refine a5 (dB _ (.inl ?_))
   refine aN (fun e4 cj cJ c5 => ?_)
   refine ws _ ?_
   rcases aQ h with ⟨cG, h⟩ | ⟨cG, h⟩
   ·refine aW (congrArg I.bool cG) ?_
    simp only [cG, Bool.not_true, Bool.not_false]
    refine ws _ ?_
    exact aK (cJ _ (ao _ (.inl (aL [.bool false] rfl (by cases aH h; rfl) (by decide) aM))))
   ·refine aZ (congrArg I.bool cG) ?_
    simp only [cG, Bool.not_true, Bool.not_false]
    refine a5 (cj _ (.inl ?_))
    refine ws _ ?_
    exact aK (ao _ (.inl (aL [.bool true] rfl (by cases aH h; rfl) (by decide) aM)))
set_option maxHeartbeats 800000 in
theorem arM (J : List bR) (ab : List bR) (r : Bool) (h : BA J ab = some r) : aT aI 47 [.slice (J.map bm), .slice (ab.map bm)] (.bool r) [] := by
 refine aT.bZ (fx := [0, 1]) b0 [.tmp 4] [(0, .slice (J.map bm)), (1, .slice (ab.map bm))] Tryz.func47 rfl rfl sH (Nat.le_of_ble_eq_true rfl) rfl rfl (fun bY ao bW => ?_)
 refine ws _ ?_
 refine aN (fun eo bX bn an => ?_)
 refine ws _ ?_
 rcases aQ h with ⟨bk, h⟩ | ⟨bk, h⟩
 ·refine aW (congrArg I.bool bk) ?_
  simp only [bk, Bool.not_true, Bool.not_false]
  refine ws _ ?_
  exact aK (bn _ (ao _ (.inl (aL [.bool false] rfl (by cases aH h; rfl) (by decide) aM))))
 ·refine aZ (congrArg I.bool bk) ?_
  simp only [bk, Bool.not_true, Bool.not_false]
  refine a5 (bX _ (.inl ?_))
  refine aN (fun fh dB dK b7 => ?_)
  refine ws _ ?_
  refine bH (fun hz hA gp a6 gi => ?_)
  have hp : ∀ (n : Nat) (bS : Int), Bz J ab n bS = some r → dA aI LM hz (aa [(0, .slice (J.map bm)), (1, .slice (ab.map bm)), (5, .int .i64 bS)]) := by
   intro dx
   induction dx with
   | zero => intro bS h; cases (show none = some r from h)
   | succ dx g2 =>
    intro bS h
    replace h : Ko (Bz J ab dx) J ab bS = some r := h
    refine dN (fun et cH cd dv => ?_)
    refine aN (fun e4 cj cJ c5 => ?_)
    refine ws _ ?_
    rcases aQ h with ⟨cG, h⟩ | ⟨cG, h⟩
    ·refine aW (congrArg I.bool cG) ?_
     simp only [cG, Bool.not_true, Bool.not_false]
     refine a5 (cj _ (.inl ?_))
     refine aN (fun lr g0 gj jg => ?_)
     refine bH (fun iG fv eH eB hn => ?_)
     obtain ⟨af, cN, h⟩ := aO h
     obtain ⟨an, eI, h⟩ := aO h
     obtain ⟨a0, ga, h⟩ := aO h
     refine hg rfl (hh [(0, .slice (J.map bm)), (1, .slice (ab.map bm)), (5, .int .i64 bS), (26, .bool (!a0))] (fun P ak => ?_) ?_)
     ·simp only [dF.down, simprocAttr, gT.down, cN, eI]
      refine i3 (arL af an _ ga) rfl rfl rfl rfl (.inl (by rfl)) ?_
      simp only [dF.down, simprocAttr, gT.down, cN, eI]
      refine ⟨gV (by kernel_rfl), ?_⟩
      (try simp only [bo.down, simprocAttr, bm, cN, eI] at ak ⊢); exact ak
     rcases aQ h with ⟨ej, h⟩ | ⟨ej, h⟩
     ·refine aW (congrArg I.bool ej) ?_
      simp only [(c8 ej), Bool.not_true, Bool.not_false]
      refine ws _ ?_
      exact aK (eH _ (gj _ (cd _ (gp _ (dK _ (ao _ (.inl (aL [.bool false] rfl (by cases aH h; rfl) (by decide) aM))))))))
     ·refine aZ (congrArg I.bool ej) ?_
      simp only [(br ej), Bool.not_true, Bool.not_false]
      refine a5 (fv _ (g0 _ (.inl ?_)))
      refine wr _ ?_
      exact cH _ (.inr ⟨_, bq rfl, g2 (IntKind.i64.wrap (bS + 1)) h⟩)
    ·refine aZ (congrArg I.bool cG) ?_
     simp only [cG, Bool.not_true, Bool.not_false]
     refine dL (c5 0 _ (dv 0 _ (a6 _ (dB _ (.inl ?_)))))
     refine ws _ ?_
     exact aK (ao _ (.inl (aL [.bool true] rfl (by cases aH h; rfl) (by decide) aM)))
  obtain ⟨n, h⟩ := dH h
  exact dM (.inr ⟨_, bq rfl, hp n 0 h⟩)
set_option maxHeartbeats 800000 in
theorem Mr (J : List (List UInt8)) (ab : List (List UInt8)) (r : Bool) (h : xM J ab = some r) : aT aI 48 [.slice (J.map bu), .slice (ab.map bu)] (.bool r) [] := by
 refine aT.bZ (fx := [0, 1]) b0 [.tmp 4] [(0, .slice (J.map bu)), (1, .slice (ab.map bu))] Tryz.func48 rfl rfl al4 (Nat.le_of_ble_eq_true rfl) rfl rfl (fun bY ao bW => ?_)
 refine ws _ ?_
 refine aN (fun eo bX bn an => ?_)
 refine ws _ ?_
 rcases aQ h with ⟨bk, h⟩ | ⟨bk, h⟩
 ·refine aW (congrArg I.bool bk) ?_
  simp only [bk, Bool.not_true, Bool.not_false]
  refine ws _ ?_
  exact aK (bn _ (ao _ (.inl (aL [.bool false] rfl (by cases aH h; rfl) (by decide) aM))))
 ·refine aZ (congrArg I.bool bk) ?_
  simp only [bk, Bool.not_true, Bool.not_false]
  refine a5 (bX _ (.inl ?_))
  refine aN (fun fh dB dK b7 => ?_)
  refine ws _ ?_
  refine bH (fun hz hA gp a6 gi => ?_)
  have hp : ∀ (n : Nat) (bS : Int), BB J ab n bS = some r → dA aI LN hz (aa [(0, .slice (J.map bu)), (1, .slice (ab.map bu)), (5, .int .i64 bS)]) := by
   intro dx
   induction dx with
   | zero => intro bS h; cases (show none = some r from h)
   | succ dx g2 =>
    intro bS h
    replace h : Kp (BB J ab dx) J ab bS = some r := h
    refine dN (fun et cH cd dv => ?_)
    refine aN (fun e4 cj cJ c5 => ?_)
    refine ws _ ?_
    rcases aQ h with ⟨cG, h⟩ | ⟨cG, h⟩
    ·refine aW (congrArg I.bool cG) ?_
     simp only [cG, Bool.not_true, Bool.not_false]
     refine a5 (cj _ (.inl ?_))
     refine aN (fun lr g0 gj jg => ?_)
     refine bH (fun iG fv eH eB hn => ?_)
     obtain ⟨af, cN, h⟩ := aO h
     obtain ⟨an, eI, h⟩ := aO h
     refine hg rfl (hh [(0, .slice (J.map bu)), (1, .slice (ab.map bu)), (5, .int .i64 bS), (25, .bool (!(af == an)))] (fun P ak => ?_) ?_)
     ·simp only [dF.down, simprocAttr, eW, kK, bu, cN, eI]
      refine ⟨gV (by kernel_rfl), ?_⟩
      (try simp only [bo.down, simprocAttr, bu, cN, eI] at ak ⊢); exact ak
     rcases aQ h with ⟨ea, h⟩ | ⟨ea, h⟩
     ·refine aW (congrArg I.bool ea) ?_
      simp only [ea, Bool.not_true, Bool.not_false]
      refine ws _ ?_
      exact aK (eH _ (gj _ (cd _ (gp _ (dK _ (ao _ (.inl (aL [.bool false] rfl (by cases aH h; rfl) (by decide) aM))))))))
     ·refine aZ (congrArg I.bool ea) ?_
      simp only [ea, Bool.not_true, Bool.not_false]
      refine a5 (fv _ (g0 _ (.inl ?_)))
      refine wr _ ?_
      exact cH _ (.inr ⟨_, bq rfl, g2 (IntKind.i64.wrap (bS + 1)) h⟩)
    ·refine aZ (congrArg I.bool cG) ?_
     simp only [cG, Bool.not_true, Bool.not_false]
     refine dL (c5 0 _ (dv 0 _ (a6 _ (dB _ (.inl ?_)))))
     refine ws _ ?_
     exact aK (ao _ (.inl (aL [.bool true] rfl (by cases aH h; rfl) (by decide) aM)))
  obtain ⟨n, h⟩ := dH h
  exact dM (.inr ⟨_, bq rfl, hp n 0 h⟩)
theorem arN (J : dU) (ab : dU) (r : Bool) (h : xN J ab = some r) : aT aI 12 [eO J, eO ab] (.bool r) [] := by
 refine aT.bZ (fx := [0, 1]) b0 [.tmp 4] [(0, eO J), (1, eO ab)] Tryz.func12 rfl rfl u0 (Nat.le_of_ble_eq_true rfl) rfl rfl (fun bY ao bW => ?_)
 refine ws _ ?_
 refine aN (fun eo bX bn an => ?_)
 obtain ⟨af, c1, h⟩ := aO h
 refine dO (arI J.bQ ab.bQ _ c1) _ ?_
 rcases aQ h with ⟨bJ, h⟩ | ⟨bJ, h⟩
 ·refine aW (congrArg I.bool bJ) ?_
  simp only [(c8 bJ), Bool.not_true, Bool.not_false]
  refine ws _ ?_
  exact aK (bn _ (ao _ (.inl (aL [.bool false] rfl (by cases aH h; rfl) (by decide) aM))))
 ·refine aZ (congrArg I.bool bJ) ?_
  simp only [(br bJ), Bool.not_true, Bool.not_false]
  refine a5 (bX _ (.inl ?_))
  refine aN (fun ho dY eV dk => ?_)
  obtain ⟨an, kz, h⟩ := aO h
  refine dO (arK J.cX ab.cX _ kz) _ ?_
  rcases aQ h with ⟨b2, h⟩ | ⟨b2, h⟩
  ·refine aW (congrArg I.bool b2) ?_
   simp only [(c8 b2), Bool.not_true, Bool.not_false]
   refine ws _ ?_
   exact aK (eV _ (ao _ (.inl (aL [.bool false] rfl (by cases aH h; rfl) (by decide) aM))))
  ·refine aZ (congrArg I.bool b2) ?_
   simp only [(br b2), Bool.not_true, Bool.not_false]
   refine a5 (dY _ (.inl ?_))
   refine aN (fun j9 g1 iH i5 => ?_)
   obtain ⟨a0, e5, h⟩ := aO h
   refine dO (arM J.gX ab.gX _ e5) _ ?_
   rcases aQ h with ⟨ck, h⟩ | ⟨ck, h⟩
   ·refine aW (congrArg I.bool ck) ?_
    simp only [(c8 ck), Bool.not_true, Bool.not_false]
    refine ws _ ?_
    exact aK (iH _ (ao _ (.inl (aL [.bool false] rfl (by cases aH h; rfl) (by decide) aM))))
   ·refine aZ (congrArg I.bool ck) ?_
    simp only [(br ck), Bool.not_true, Bool.not_false]
    refine a5 (g1 _ (.inl ?_))
    refine aN (fun mn jv i7 mo => ?_)
    obtain ⟨bp, hq, h⟩ := aO h
    refine dO (Mr J.gQ ab.gQ _ hq) _ ?_
    rcases aQ h with ⟨cR, h⟩ | ⟨cR, h⟩
    ·refine aW (congrArg I.bool cR) ?_
     simp only [(c8 cR), Bool.not_true, Bool.not_false]
     refine ws _ ?_
     exact aK (i7 _ (ao _ (.inl (aL [.bool false] rfl (by cases aH h; rfl) (by decide) aM))))
    ·refine aZ (congrArg I.bool cR) ?_
     simp only [(br cR), Bool.not_true, Bool.not_false]
     refine a5 (jv _ (.inl ?_))
     refine aN (fun sM k8 lQ sN => ?_)
     obtain ⟨bs, jw, h⟩ := aO h
     refine dO (Mr J.gR ab.gR _ jw) _ ?_
     rcases aQ h with ⟨hV, h⟩ | ⟨hV, h⟩
     ·refine aW (congrArg I.bool hV) ?_
      simp only [(c8 hV), Bool.not_true, Bool.not_false]
      refine ws _ ?_
      exact aK (lQ _ (ao _ (.inl (aL [.bool false] rfl (by cases aH h; rfl) (by decide) aM))))
     ·refine aZ (congrArg I.bool hV) ?_
      simp only [(br hV), Bool.not_true, Bool.not_false]
      refine a5 (k8 _ (.inl ?_))
      refine ws _ ?_
      exact aK (ao _ (.inl (aL [.bool true] rfl (by cases aH h; rfl) (by decide) aM)))
theorem vg (J : Int) (r : (List UInt8)) (h : pP J = some r) : aT aI 84 [.int .i64 J] (.str r) [] := by
 refine aT.bZ (fx := []) b0 [.tmp 2] [(0, .int .i64 J)] Tryz.func84 rfl rfl amv (Nat.le_of_ble_eq_true rfl) rfl rfl (fun bY ao bW => ?_)
 refine ws _ ?_
 refine aN (fun eo bX bn an => ?_)
 refine ws _ ?_
 rcases aQ h with ⟨bk, h⟩ | ⟨bk, h⟩
 ·refine aW (congrArg I.bool bk) ?_
  simp only [bk, Bool.not_true, Bool.not_false]
  refine ws _ ?_
  exact aK (bn _ (ao _ (.inl (aL [.str ([109, 48] : List UInt8)] rfl (by cases aH h; rfl) (by decide) aM))))
 ·refine aZ (congrArg I.bool bk) ?_
  simp only [bk, Bool.not_true, Bool.not_false]
  refine a5 (bX _ (.inl ?_))
  refine ws _ ?_
  refine aN (fun ho dY eV dk => ?_)
  refine bH (fun hz hA gp a6 gi => ?_)
  have hp : ∀ (n : Nat) (jJ : Int) (cM : List UInt8), qR n jJ cM = some r → dA aI LO hz (aa [(0, .int .i64 jJ), (3, .str cM)]) := by
   intro dx
   induction dx with
   | zero => intro jJ cM h; cases (show none = some r from h)
   | succ dx g2 =>
    intro jJ cM h
    replace h : xO (qR dx) jJ cM = some r := h
    refine dN (fun et cH cd dv => ?_)
    refine aN (fun e4 cj cJ c5 => ?_)
    refine ws _ ?_
    rcases aQ h with ⟨cG, h⟩ | ⟨cG, h⟩
    ·refine aW (congrArg I.bool cG) ?_
     simp only [cG, Bool.not_true, Bool.not_false]
     refine a5 (cj _ (.inl ?_))
     refine bH (fun lr g0 gj cU jg => ?_)
     obtain ⟨u16, e0, h⟩ := aO h
     (try simp only [List.length_append, List.length_cons, List.length_nil, List.length_map, List.length_replicate, Nat.zero_add, Nat.add_zero, Nat.reduceAdd] at e0)
     refine cY (b1 [(0, .int .i64 jJ), (3, .str ([(pq (IntKind.i64.wrap (48 + (Int.tmod jJ 10))))] ++ cM))] (fun P ak => ?_) ?_)
     ·simp only [aX.down, simprocAttr, SB, SC, kh, @Jb .i64 10 (by decide), @I6 aI 3 5 .u8 rfl rfl, (show ∀ s, eh aI s 183 1 [(0, .int .u8 (IntKind.u8.wrap (IntKind.i64.wrap (48 + (Int.tmod jJ 10)))))] = some (.aw 1 [.int .u8 (IntKind.u8.wrap (IntKind.i64.wrap (48 + (Int.tmod jJ 10))))], s) from fun s => by kernel_rfl), (@I8 aI 183 9 5 rfl rfl rfl).2.2, Ja, I9, e0, zI, zJ]
      (try simp only [bo.down, simprocAttr, kh, @Jb .i64 10 (by decide), @I6 aI 3 5 .u8 rfl rfl, (show ∀ s, eh aI s 183 1 [(0, .int .u8 (IntKind.u8.wrap (IntKind.i64.wrap (48 + (Int.tmod jJ 10)))))] = some (.aw 1 [.int .u8 (IntKind.u8.wrap (IntKind.i64.wrap (48 + (Int.tmod jJ 10))))], s) from fun s => by kernel_rfl), (@I8 aI 183 9 5 rfl rfl rfl).2.2, Ja, I9, e0, zI, zJ] at ak ⊢); exact ak
     refine ao8 (@Q_ .i64 10 (by decide)) [(0, .int .i64 (IntKind.i64.wrap (Int.tdiv jJ 10))), (3, .str ([(pq (IntKind.i64.wrap (48 + (Int.tmod jJ 10))))] ++ cM))] ?_
     exact g0 _ (cH _ (.inr ⟨_, bq rfl, g2 (IntKind.i64.wrap (Int.tdiv jJ 10)) ([(pq (IntKind.i64.wrap (48 + (Int.tmod jJ 10))))] ++ cM) h⟩))
    ·refine aZ (congrArg I.bool cG) ?_
     simp only [cG, Bool.not_true, Bool.not_false]
     refine dL (c5 0 _ (dv 0 _ (a6 _ (dY _ (.inl ?_)))))
     obtain ⟨u6, ga, h⟩ := aO h
     (try simp only [List.length_append, List.length_cons, List.length_nil, List.length_map, List.length_replicate, Nat.zero_add, Nat.add_zero, Nat.reduceAdd] at ga)
     refine cY (b1 [(2, .str (([109] : List UInt8) ++ cM))] (fun P ak => ?_) ?_)
     ·simp only [aX.down, simprocAttr, ga, zI, zJ]
      (try simp only [bo.down, simprocAttr, ga, zI, zJ] at ak ⊢); exact ak
     exact aK (ao _ (.inl (aL [.str (([109] : List UInt8) ++ cM)] rfl (by cases aH h; rfl) (by decide) aM)))
  obtain ⟨n, h⟩ := dH h
  exact dM (.inr ⟨_, bq rfl, hp n J ([] : List UInt8) h⟩)
theorem arO (J : List bO) (ab : Int) (r : Int × (List bO)) (h : BD J ab = some r) : aT aI 112 [.aw 2 (J.map bP), .int .i64 ab] (.int .i64 r.1) [.aw 2 (r.2.map bP), .hole] := by
 refine aT.bZ (fx := [0]) b0 [.tmp 4] [(0, .aw 2 (J.map bP)), (1, .int .i64 ab)] Tryz.func112 rfl rfl amG (Nat.le_of_ble_eq_true rfl) rfl rfl (fun bY ao bW => ?_)
 refine ws _ ?_
 refine aN (fun eo bX bn an => ?_)
 refine ws _ ?_
 refine bH (fun dR eJ b9 bk bp => ?_)
 have fl : ∀ (n : Nat) (bz : List bO) (aY : Int) (aJ : Int), sr n bz aY aJ = some r → dA aI LP dR (aa [(0, .aw 2 (bz.map bP)), (1, .int .i64 aY), (5, .int .i64 aJ)]) := by
  intro ch
  induction ch with
  | zero => intro bz aY aJ h; cases (show none = some r from h)
  | succ ch e7 =>
   intro bz aY aJ h
   replace h : BC (sr ch) bz aY aJ = some r := h
   refine dN (fun g3 dS dD bs => ?_)
   refine aN (fun fh dB dK b7 => ?_)
   refine ws _ ?_
   rcases aQ h with ⟨a6, h⟩ | ⟨a6, h⟩
   ·refine aW (congrArg I.bool a6) ?_
    simp only [a6, Bool.not_true, Bool.not_false]
    refine a5 (dB _ (.inl ?_))
    refine aN (fun et cH cd dv => ?_)
    refine bH (fun e4 cj cJ b2 c5 => ?_)
    obtain ⟨af, dJ, h⟩ := aO h
    refine cY (b1 [(0, .aw 2 ((List.set bz (Int.toNat aJ) (bO.mk aY af.Value)).map bP)), (1, .int .i64 aY), (5, .int .i64 aJ)] (fun P ak => ?_) ?_)
    ·simp only [aX.down, simprocAttr, mV.down, dJ, c_ dJ, ep, ei]
     (try simp only [bo.down, simprocAttr, bP, dJ, c_ dJ, ep, ei] at ak ⊢); exact ak
    refine ws [(0, .aw 2 ((List.set bz (Int.toNat aJ) (bO.mk aY af.Value)).map bP)), (1, .int .i64 (IntKind.i64.wrap (aY + 1))), (5, .int .i64 aJ)] ?_
    obtain ⟨an, e0, h⟩ := aO h
    refine cY (b1 [(0, .aw 2 ((List.set (List.set bz (Int.toNat aJ) (bO.mk aY af.Value)) (Int.toNat aJ) (bO.mk an.Kind (IntKind.i64.wrap (aY + 1)))).map bP)), (1, .int .i64 (IntKind.i64.wrap (aY + 1))), (5, .int .i64 aJ)] (fun P ak => ?_) ?_)
    ·simp only [aX.down, simprocAttr, mV.down, e0, c_ e0, ep, ei]
     (try simp only [bo.down, simprocAttr, bP, e0, c_ e0, ep, ei] at ak ⊢); exact ak
    refine wr [(0, .aw 2 ((List.set (List.set bz (Int.toNat aJ) (bO.mk aY af.Value)) (Int.toNat aJ) (bO.mk an.Kind (IntKind.i64.wrap (aY + 1)))).map bP)), (1, .int .i64 (IntKind.i64.wrap ((IntKind.i64.wrap (aY + 1)) + 1))), (5, .int .i64 aJ)] ?_
    refine cj _ (cH _ (.inl ?_))
    refine wr [(0, .aw 2 ((List.set (List.set bz (Int.toNat aJ) (bO.mk aY af.Value)) (Int.toNat aJ) (bO.mk an.Kind (IntKind.i64.wrap (aY + 1)))).map bP)), (1, .int .i64 (IntKind.i64.wrap ((IntKind.i64.wrap (aY + 1)) + 1))), (5, .int .i64 (IntKind.i64.wrap (aJ + 1)))] ?_
    exact dS _ (.inr ⟨_, bq rfl, e7 (List.set (List.set bz (Int.toNat aJ) (bO.mk aY af.Value)) (Int.toNat aJ) (bO.mk an.Kind (IntKind.i64.wrap (aY + 1)))) (IntKind.i64.wrap ((IntKind.i64.wrap (aY + 1)) + 1)) (IntKind.i64.wrap (aJ + 1)) h⟩)
   ·refine aZ (congrArg I.bool a6) ?_
    simp only [a6, Bool.not_true, Bool.not_false]
    refine dL (b7 0 _ (bs 0 _ (bk _ (bX _ (.inl ?_)))))
    refine ws _ ?_
    exact aK (ao _ (.inl (aL [.int .i64 aY] rfl (by cases aH h; rfl) (by decide) (n6 (n7 (by cases aH h; rfl) rfl rfl rfl (mf (n8)))))))
 obtain ⟨n, h⟩ := dH h
 exact dM (.inr ⟨_, bq rfl, fl n J ab 0 h⟩)
theorem arP (J : List (List bO)) (ab : Int) (r : Int × (List (List bO))) (h : BF J ab = some r) : aT aI 113 [.aw 1 (J.map fg), .int .i64 ab] (.int .i64 r.1) [.aw 1 (r.2.map fg), .hole] := by
 refine aT.bZ (fx := [0]) b0 [.tmp 4] [(0, .aw 1 (J.map fg)), (1, .int .i64 ab)] Tryz.func113 rfl rfl amO (Nat.le_of_ble_eq_true rfl) rfl rfl (fun bY ao bW => ?_)
 refine ws _ ?_
 refine aN (fun eo bX bn an => ?_)
 refine ws _ ?_
 refine bH (fun dR eJ b9 bk bp => ?_)
 have fl : ∀ (n : Nat) (bz : List (List bO)) (aY : Int) (aJ : Int), ss n bz aY aJ = some r → dA aI LQ dR (aa [(0, .aw 1 (bz.map fg)), (1, .int .i64 aY), (5, .int .i64 aJ)]) := by
  intro ch
  induction ch with
  | zero => intro bz aY aJ h; cases (show none = some r from h)
  | succ ch e7 =>
   intro bz aY aJ h
   replace h : BE (ss ch) bz aY aJ = some r := h
   refine dN (fun g3 dS dD bs => ?_)
   refine aN (fun fh dB dK b7 => ?_)
   refine ws _ ?_
   rcases aQ h with ⟨a6, h⟩ | ⟨a6, h⟩
   ·refine aW (congrArg I.bool a6) ?_
    simp only [a6, Bool.not_true, Bool.not_false]
    refine a5 (dB _ (.inl ?_))
    refine aN (fun et cH cd dv => ?_)
    refine bH (fun e4 cj cJ b2 c5 => ?_)
    obtain ⟨af, dJ, h⟩ := aO h
    obtain ⟨an, ez, h⟩ := aO h
    refine j3 (b1 [(0, .aw 1 ((List.set bz (Int.toNat aJ) an.2).map fg)), (1, .int .i64 an.1), (5, .int .i64 aJ)] (fun P ak => ?_) ?_)
    ·simp only [aX.down, simprocAttr, er, gW, gw, gh, bP, fg, dJ, c_ dJ]
     refine qE [⟨.h 0 [Int.toNat aJ], true, _, _⟩, ⟨.int .i64 aY, false, _, .hole⟩] (arO af aY _ ez) rfl rfl rfl (by simp only [aX.down, simprocAttr, er, gW, gw, gh, bP, fg, dJ, c_ dJ, mc, jr, hi, hj, hk, du, or_true, true_or, @cp _ bP bP (fun _ => Fp _)]) rfl rfl (.inl rfl) ?_
     simp only [aX.down, simprocAttr, er, gW, gw, gh, bP, fg, dJ, c_ dJ, me, (wE (c_ dJ)), wF]
     (try simp only [bo.down, simprocAttr, bP, fg, dJ, c_ dJ] at ak ⊢); exact ak
    refine cj _ (cH _ (.inl ?_))
    refine wr [(0, .aw 1 ((List.set bz (Int.toNat aJ) an.2).map fg)), (1, .int .i64 an.1), (5, .int .i64 (IntKind.i64.wrap (aJ + 1)))] ?_
    exact dS _ (.inr ⟨_, bq rfl, e7 (List.set bz (Int.toNat aJ) an.2) an.1 (IntKind.i64.wrap (aJ + 1)) h⟩)
   ·refine aZ (congrArg I.bool a6) ?_
    simp only [a6, Bool.not_true, Bool.not_false]
    refine dL (b7 0 _ (bs 0 _ (bk _ (bX _ (.inl ?_)))))
    refine ws _ ?_
    exact aK (ao _ (.inl (aL [.int .i64 aY] rfl (by cases aH h; rfl) (by decide) (n6 (n7 (by cases aH h; rfl) rfl rfl rfl (mf (n8)))))))
 obtain ⟨n, h⟩ := dH h
 exact dM (.inr ⟨_, bq rfl, fl n J ab 0 h⟩)
theorem arQ (J : List bx) (ab : Int) (r : Int × (List bx)) (h : BH J ab = some r) : aT aI 85 [.aw 4 (J.map e_), .int .i64 ab] (.int .i64 r.1) [.aw 4 (r.2.map e_), .hole] := by
 refine aT.bZ (fx := [0]) b0 [.tmp 4] [(0, .aw 4 (J.map e_)), (1, .int .i64 ab)] Tryz.func85 rfl rfl am2 (Nat.le_of_ble_eq_true rfl) rfl rfl (fun bY ao bW => ?_)
 refine ws _ ?_
 refine aN (fun eo bX bn an => ?_)
 refine ws _ ?_
 refine bH (fun dR eJ b9 bk bp => ?_)
 have fl : ∀ (n : Nat) (bz : List bx) (aY : Int) (aJ : Int), su n bz aY aJ = some r → dA aI LR dR (aa [(0, .aw 4 (bz.map e_)), (1, .int .i64 aY), (5, .int .i64 aJ)]) := by
  intro ch
  induction ch with
  | zero => intro bz aY aJ h; cases (show none = some r from h)
  | succ ch e7 =>
   intro bz aY aJ h
   replace h : BG (su ch) bz aY aJ = some r := h
   refine dN (fun g3 dS dD bs => ?_)
   refine aN (fun fh dB dK b7 => ?_)
   refine ws _ ?_
   rcases aQ h with ⟨a6, h⟩ | ⟨a6, h⟩
   ·refine aW (congrArg I.bool a6) ?_
    simp only [a6, Bool.not_true, Bool.not_false]
    refine a5 (dB _ (.inl ?_))
    refine aN (fun et cH cd dv => ?_)
    refine bH (fun e4 cj cJ b2 c5 => ?_)
    obtain ⟨af, dJ, h⟩ := aO h
    refine cY (b1 [(0, .aw 4 ((List.set bz (Int.toNat aJ) (bx.mk aY af.Number af.Name af.cr)).map e_)), (1, .int .i64 aY), (5, .int .i64 aJ)] (fun P ak => ?_) ?_)
    ·simp only [aX.down, simprocAttr, sL.down, dJ, c_ dJ, ep, ei]
     (try simp only [bo.down, simprocAttr, B8.down, dJ, c_ dJ, ep, ei] at ak ⊢); exact ak
    refine ws [(0, .aw 4 ((List.set bz (Int.toNat aJ) (bx.mk aY af.Number af.Name af.cr)).map e_)), (1, .int .i64 (IntKind.i64.wrap (aY + 1))), (5, .int .i64 aJ)] ?_
    obtain ⟨an, e0, h⟩ := aO h
    refine cY (b1 [(0, .aw 4 ((List.set (List.set bz (Int.toNat aJ) (bx.mk aY af.Number af.Name af.cr)) (Int.toNat aJ) (bx.mk an.Kind (IntKind.i64.wrap (aY + 1)) an.Name an.cr)).map e_)), (1, .int .i64 (IntKind.i64.wrap (aY + 1))), (5, .int .i64 aJ)] (fun P ak => ?_) ?_)
    ·simp only [aX.down, simprocAttr, sL.down, e0, c_ e0, ep, ei]
     (try simp only [bo.down, simprocAttr, B8.down, e0, c_ e0, ep, ei] at ak ⊢); exact ak
    refine ws [(0, .aw 4 ((List.set (List.set bz (Int.toNat aJ) (bx.mk aY af.Number af.Name af.cr)) (Int.toNat aJ) (bx.mk an.Kind (IntKind.i64.wrap (aY + 1)) an.Name an.cr)).map e_)), (1, .int .i64 (IntKind.i64.wrap ((IntKind.i64.wrap (aY + 1)) + 1))), (5, .int .i64 aJ)] ?_
    obtain ⟨a0, ga, h⟩ := aO h
    obtain ⟨bp, hq, h⟩ := aO h
    refine cY (b1 [(0, .aw 4 ((List.set (List.set (List.set bz (Int.toNat aJ) (bx.mk aY af.Number af.Name af.cr)) (Int.toNat aJ) (bx.mk an.Kind (IntKind.i64.wrap (aY + 1)) an.Name an.cr)) (Int.toNat aJ) (bx.mk bp.Kind bp.Number a0 bp.cr)).map e_)), (1, .int .i64 (IntKind.i64.wrap ((IntKind.i64.wrap (aY + 1)) + 1))), (5, .int .i64 aJ)] (fun P ak => ?_) ?_)
    ·simp only [aX.down, simprocAttr, sL.down, hq, c_ hq, ep, ei]
     refine fs (vg (IntKind.i64.wrap ((IntKind.i64.wrap (aY + 1)) + 1)) _ ga) rfl rfl rfl rfl (.inl (by rfl)) ?_
     simp only [aX.down, simprocAttr, sL.down, hq, c_ hq, ep, ei]
     (try simp only [bo.down, simprocAttr, B8.down, hq, c_ hq, ep, ei] at ak ⊢); exact ak
    refine ws [(0, .aw 4 ((List.set (List.set (List.set bz (Int.toNat aJ) (bx.mk aY af.Number af.Name af.cr)) (Int.toNat aJ) (bx.mk an.Kind (IntKind.i64.wrap (aY + 1)) an.Name an.cr)) (Int.toNat aJ) (bx.mk bp.Kind bp.Number a0 bp.cr)).map e_)), (1, .int .i64 (IntKind.i64.wrap ((IntKind.i64.wrap ((IntKind.i64.wrap (aY + 1)) + 1)) + 1))), (5, .int .i64 aJ)] ?_
    obtain ⟨bs, hB, h⟩ := aO h
    obtain ⟨b7, pS, h⟩ := aO h
    refine j3 (b1 [(0, .aw 4 ((List.set (List.set (List.set (List.set bz (Int.toNat aJ) (bx.mk aY af.Number af.Name af.cr)) (Int.toNat aJ) (bx.mk an.Kind (IntKind.i64.wrap (aY + 1)) an.Name an.cr)) (Int.toNat aJ) (bx.mk bp.Kind bp.Number a0 bp.cr)) (Int.toNat aJ) (bx.mk bs.Kind bs.Number bs.Name b7.2)).map e_)), (1, .int .i64 b7.1), (5, .int .i64 aJ)] (fun P ak => ?_) ?_)
    ·simp only [aX.down, simprocAttr, sL.down, hB, c_ hB]
     refine qE [⟨.h 0 [Int.toNat aJ, 3], true, _, _⟩, ⟨.int .i64 (IntKind.i64.wrap ((IntKind.i64.wrap ((IntKind.i64.wrap (aY + 1)) + 1)) + 1)), false, _, .hole⟩] (arP bs.cr (IntKind.i64.wrap ((IntKind.i64.wrap ((IntKind.i64.wrap (aY + 1)) + 1)) + 1)) _ pS) rfl rfl rfl (by simp only [aX.down, simprocAttr, sL.down, hB, c_ hB, mc, jr, hi, hj, hk, du, or_true, true_or, @cp _ fg ef (fun _ => Ft _)]) rfl rfl (.inl rfl) ?_
     simp only [aX.down, simprocAttr, sL.down, hB, c_ hB, me, (wE (c_ hB)), wF]
     (try simp only [bo.down, simprocAttr, B8.down, hB, c_ hB] at ak ⊢); exact ak
    refine cj _ (cH _ (.inl ?_))
    refine wr [(0, .aw 4 ((List.set (List.set (List.set (List.set bz (Int.toNat aJ) (bx.mk aY af.Number af.Name af.cr)) (Int.toNat aJ) (bx.mk an.Kind (IntKind.i64.wrap (aY + 1)) an.Name an.cr)) (Int.toNat aJ) (bx.mk bp.Kind bp.Number a0 bp.cr)) (Int.toNat aJ) (bx.mk bs.Kind bs.Number bs.Name b7.2)).map e_)), (1, .int .i64 b7.1), (5, .int .i64 (IntKind.i64.wrap (aJ + 1)))] ?_
    exact dS _ (.inr ⟨_, bq rfl, e7 (List.set (List.set (List.set (List.set bz (Int.toNat aJ) (bx.mk aY af.Number af.Name af.cr)) (Int.toNat aJ) (bx.mk an.Kind (IntKind.i64.wrap (aY + 1)) an.Name an.cr)) (Int.toNat aJ) (bx.mk bp.Kind bp.Number a0 bp.cr)) (Int.toNat aJ) (bx.mk bs.Kind bs.Number bs.Name b7.2)) b7.1 (IntKind.i64.wrap (aJ + 1)) h⟩)
   ·refine aZ (congrArg I.bool a6) ?_
    simp only [a6, Bool.not_true, Bool.not_false]
    refine dL (b7 0 _ (bs 0 _ (bk _ (bX _ (.inl ?_)))))
    refine ws _ ?_
    exact aK (ao _ (.inl (aL [.int .i64 aY] rfl (by cases aH h; rfl) (by decide) (n6 (n7 (by cases aH h; rfl) rfl rfl rfl (mf (n8)))))))
 obtain ⟨n, h⟩ := dH h
 exact dM (.inr ⟨_, bq rfl, fl n J ab 0 h⟩)
theorem arR (J : List a9) (ab : Int) (r : Int × (List a9)) (h : BJ J ab = some r) : aT aI 49 [.aw 3 (J.map eR), .int .i64 ab] (.int .i64 r.1) [.aw 3 (r.2.map eR), .hole] := by
 refine aT.bZ (fx := [0]) b0 [.tmp 4] [(0, .aw 3 (J.map eR)), (1, .int .i64 ab)] Tryz.func49 rfl rfl ane (Nat.le_of_ble_eq_true rfl) rfl rfl (fun bY ao bW => ?_)
 refine ws _ ?_
 refine aN (fun eo bX bn an => ?_)
 refine ws _ ?_
 refine bH (fun dR eJ b9 bk bp => ?_)
 have fl : ∀ (n : Nat) (bz : List a9) (aY : Int) (aJ : Int), sv n bz aY aJ = some r → dA aI LS dR (aa [(0, .aw 3 (bz.map eR)), (1, .int .i64 aY), (5, .int .i64 aJ)]) := by
  intro ch
  induction ch with
  | zero => intro bz aY aJ h; cases (show none = some r from h)
  | succ ch e7 =>
   intro bz aY aJ h
   replace h : BI (sv ch) bz aY aJ = some r := h
   refine dN (fun g3 dS dD bs => ?_)
   refine aN (fun fh dB dK b7 => ?_)
   refine ws _ ?_
   rcases aQ h with ⟨a6, h⟩ | ⟨a6, h⟩
   ·refine aW (congrArg I.bool a6) ?_
    simp only [a6, Bool.not_true, Bool.not_false]
    refine a5 (dB _ (.inl ?_))
    refine aN (fun et cH cd dv => ?_)
    refine bH (fun e4 cj cJ b2 c5 => ?_)
    obtain ⟨af, dJ, h⟩ := aO h
    obtain ⟨an, ez, h⟩ := aO h
    refine cY (b1 [(0, .aw 3 ((List.set bz (Int.toNat aJ) (a9.mk af an.cZ an.Body)).map eR)), (1, .int .i64 aY), (5, .int .i64 aJ)] (fun P ak => ?_) ?_)
    ·simp only [aX.down, simprocAttr, u3.down, ez, c_ ez, ep, ei]
     refine fs (vg aY _ dJ) rfl rfl rfl rfl (.inl (by rfl)) ?_
     simp only [aX.down, simprocAttr, u3.down, ez, c_ ez, ep, ei]
     (try simp only [bo.down, simprocAttr, bP, eR, e_, fg, ez, c_ ez, ep, ei] at ak ⊢); exact ak
    refine ws [(0, .aw 3 ((List.set bz (Int.toNat aJ) (a9.mk af an.cZ an.Body)).map eR)), (1, .int .i64 (IntKind.i64.wrap (aY + 1))), (5, .int .i64 aJ)] ?_
    obtain ⟨a0, cN, h⟩ := aO h
    refine cY (b1 [(0, .aw 3 ((List.set (List.set bz (Int.toNat aJ) (a9.mk af an.cZ an.Body)) (Int.toNat aJ) (a9.mk a0.Name (IntKind.i64.wrap (aY + 1)) a0.Body)).map eR)), (1, .int .i64 (IntKind.i64.wrap (aY + 1))), (5, .int .i64 aJ)] (fun P ak => ?_) ?_)
    ·simp only [aX.down, simprocAttr, u3.down, cN, c_ cN, ep, ei]
     (try simp only [bo.down, simprocAttr, bP, eR, e_, fg, cN, c_ cN, ep, ei] at ak ⊢); exact ak
    refine ws [(0, .aw 3 ((List.set (List.set bz (Int.toNat aJ) (a9.mk af an.cZ an.Body)) (Int.toNat aJ) (a9.mk a0.Name (IntKind.i64.wrap (aY + 1)) a0.Body)).map eR)), (1, .int .i64 (IntKind.i64.wrap ((IntKind.i64.wrap (aY + 1)) + 1))), (5, .int .i64 aJ)] ?_
    obtain ⟨bp, hq, h⟩ := aO h
    obtain ⟨bs, jN, h⟩ := aO h
    refine j3 (b1 [(0, .aw 3 ((List.set (List.set (List.set bz (Int.toNat aJ) (a9.mk af an.cZ an.Body)) (Int.toNat aJ) (a9.mk a0.Name (IntKind.i64.wrap (aY + 1)) a0.Body)) (Int.toNat aJ) (a9.mk bp.Name bp.cZ bs.2)).map eR)), (1, .int .i64 bs.1), (5, .int .i64 aJ)] (fun P ak => ?_) ?_)
    ·simp only [aX.down, simprocAttr, u3.down, hq, c_ hq]
     refine qE [⟨.h 0 [Int.toNat aJ, 2], true, _, _⟩, ⟨.int .i64 (IntKind.i64.wrap ((IntKind.i64.wrap (aY + 1)) + 1)), false, _, .hole⟩] (arQ bp.Body (IntKind.i64.wrap ((IntKind.i64.wrap (aY + 1)) + 1)) _ jN) rfl rfl rfl (by simp only [aX.down, simprocAttr, u3.down, hq, c_ hq, mc, jr, hi, hj, hk, du, or_true, true_or, @cp _ e_ b4 (fun _ => Fu _)]) rfl rfl (.inl rfl) ?_
     simp only [aX.down, simprocAttr, u3.down, hq, c_ hq, me, (wE (c_ hq)), wF]
     (try simp only [bo.down, simprocAttr, bP, eR, e_, fg, hq, c_ hq] at ak ⊢); exact ak
    refine cj _ (cH _ (.inl ?_))
    refine wr [(0, .aw 3 ((List.set (List.set (List.set bz (Int.toNat aJ) (a9.mk af an.cZ an.Body)) (Int.toNat aJ) (a9.mk a0.Name (IntKind.i64.wrap (aY + 1)) a0.Body)) (Int.toNat aJ) (a9.mk bp.Name bp.cZ bs.2)).map eR)), (1, .int .i64 bs.1), (5, .int .i64 (IntKind.i64.wrap (aJ + 1)))] ?_
    exact dS _ (.inr ⟨_, bq rfl, e7 (List.set (List.set (List.set bz (Int.toNat aJ) (a9.mk af an.cZ an.Body)) (Int.toNat aJ) (a9.mk a0.Name (IntKind.i64.wrap (aY + 1)) a0.Body)) (Int.toNat aJ) (a9.mk bp.Name bp.cZ bs.2)) bs.1 (IntKind.i64.wrap (aJ + 1)) h⟩)
   ·refine aZ (congrArg I.bool a6) ?_
    simp only [a6, Bool.not_true, Bool.not_false]
    refine dL (b7 0 _ (bs 0 _ (bk _ (bX _ (.inl ?_)))))
    refine ws _ ?_
    exact aK (ao _ (.inl (aL [.int .i64 aY] rfl (by cases aH h; rfl) (by decide) (n6 (n7 (by cases aH h; rfl) rfl rfl rfl (mf (n8)))))))
 obtain ⟨n, h⟩ := dH h
 exact dM (.inr ⟨_, bq rfl, fl n J ab 0 h⟩)
theorem Ms (J : List Int) (ab : Int) (r : Int × (List Int)) (h : xP J ab = some r) : aT aI 23 [.aw 1 (J.map b3), .int .i64 ab] (.int .i64 r.1) [.aw 1 (r.2.map b3), .hole] := by
 refine aT.bZ (fx := [0]) b0 [.tmp 4] [(0, .aw 1 (J.map b3)), (1, .int .i64 ab)] Tryz.func23 rfl rfl ann (Nat.le_of_ble_eq_true rfl) rfl rfl (fun bY ao bW => ?_)
 refine ws _ ?_
 refine aN (fun eo bX bn an => ?_)
 refine ws _ ?_
 refine bH (fun dR eJ b9 bk bp => ?_)
 have fl : ∀ (n : Nat) (bz : List Int) (aY : Int) (aJ : Int), sw n bz aY aJ = some r → dA aI LU dR (aa [(0, .aw 1 (bz.map b3)), (1, .int .i64 aY), (5, .int .i64 aJ)]) := by
  intro ch
  induction ch with
  | zero => intro bz aY aJ h; cases (show none = some r from h)
  | succ ch e7 =>
   intro bz aY aJ h
   replace h : BK (sw ch) bz aY aJ = some r := h
   refine dN (fun g3 dS dD bs => ?_)
   refine aN (fun fh dB dK b7 => ?_)
   refine ws _ ?_
   rcases aQ h with ⟨a6, h⟩ | ⟨a6, h⟩
   ·refine aW (congrArg I.bool a6) ?_
    simp only [a6, Bool.not_true, Bool.not_false]
    refine a5 (dB _ (.inl ?_))
    refine aN (fun et cH cd dv => ?_)
    refine bH (fun e4 cj cJ b2 c5 => ?_)
    obtain ⟨af, dJ, h⟩ := aO h
    refine cY (b1 [(0, .aw 1 ((List.set bz (Int.toNat aJ) aY).map b3)), (1, .int .i64 aY), (5, .int .i64 aJ)] (fun P ak => ?_) ?_)
    ·simp only [aX.down, simprocAttr, er, ik, b3, dJ, c_ dJ, ep, ei]
     (try simp only [bo.down, simprocAttr, b3, dJ, c_ dJ, ep, ei] at ak ⊢); exact ak
    refine wr [(0, .aw 1 ((List.set bz (Int.toNat aJ) aY).map b3)), (1, .int .i64 (IntKind.i64.wrap (aY + 1))), (5, .int .i64 aJ)] ?_
    refine cj _ (cH _ (.inl ?_))
    refine wr [(0, .aw 1 ((List.set bz (Int.toNat aJ) aY).map b3)), (1, .int .i64 (IntKind.i64.wrap (aY + 1))), (5, .int .i64 (IntKind.i64.wrap (aJ + 1)))] ?_
    exact dS _ (.inr ⟨_, bq rfl, e7 (List.set bz (Int.toNat aJ) aY) (IntKind.i64.wrap (aY + 1)) (IntKind.i64.wrap (aJ + 1)) h⟩)
   ·refine aZ (congrArg I.bool a6) ?_
    simp only [a6, Bool.not_true, Bool.not_false]
    refine dL (b7 0 _ (bs 0 _ (bk _ (bX _ (.inl ?_)))))
    refine ws _ ?_
    exact aK (ao _ (.inl (aL [.int .i64 aY] rfl (by cases aH h; rfl) (by decide) (n6 (n7 (by cases aH h; rfl) rfl rfl rfl (mf (n8)))))))
 obtain ⟨n, h⟩ := dH h
 exact dM (.inr ⟨_, bq rfl, fl n J ab 0 h⟩)
theorem arS (J : List c2) (ab : Int) (r : Int × (List c2)) (h : BM J ab = some r) : aT aI 50 [.aw 2 (J.map eZ), .int .i64 ab] (.int .i64 r.1) [.aw 2 (r.2.map eZ), .hole] := by
 refine aT.bZ (fx := [0]) b0 [.tmp 4] [(0, .aw 2 (J.map eZ)), (1, .int .i64 ab)] Tryz.func50 rfl rfl anx (Nat.le_of_ble_eq_true rfl) rfl rfl (fun bY ao bW => ?_)
 refine ws _ ?_
 refine aN (fun eo bX bn an => ?_)
 refine ws _ ?_
 refine bH (fun dR eJ b9 bk bp => ?_)
 have fl : ∀ (n : Nat) (bz : List c2) (aY : Int) (aJ : Int), sx n bz aY aJ = some r → dA aI LV dR (aa [(0, .aw 2 (bz.map eZ)), (1, .int .i64 aY), (5, .int .i64 aJ)]) := by
  intro ch
  induction ch with
  | zero => intro bz aY aJ h; cases (show none = some r from h)
  | succ ch e7 =>
   intro bz aY aJ h
   replace h : BL (sx ch) bz aY aJ = some r := h
   refine dN (fun g3 dS dD bs => ?_)
   refine aN (fun fh dB dK b7 => ?_)
   refine ws _ ?_
   rcases aQ h with ⟨a6, h⟩ | ⟨a6, h⟩
   ·refine aW (congrArg I.bool a6) ?_
    simp only [a6, Bool.not_true, Bool.not_false]
    refine a5 (dB _ (.inl ?_))
    refine aN (fun et cH cd dv => ?_)
    refine bH (fun e4 cj cJ b2 c5 => ?_)
    obtain ⟨af, dJ, h⟩ := aO h
    refine cY (b1 [(0, .aw 2 ((List.set bz (Int.toNat aJ) (c2.mk aY af.fk)).map eZ)), (1, .int .i64 aY), (5, .int .i64 aJ)] (fun P ak => ?_) ?_)
    ·simp only [aX.down, simprocAttr, B9.down, dJ, c_ dJ, ep, ei]
     (try simp only [bo.down, simprocAttr, b3, eZ, dJ, c_ dJ, ep, ei] at ak ⊢); exact ak
    refine ws [(0, .aw 2 ((List.set bz (Int.toNat aJ) (c2.mk aY af.fk)).map eZ)), (1, .int .i64 (IntKind.i64.wrap (aY + 1))), (5, .int .i64 aJ)] ?_
    obtain ⟨an, e0, h⟩ := aO h
    obtain ⟨a0, cN, h⟩ := aO h
    refine j3 (b1 [(0, .aw 2 ((List.set (List.set bz (Int.toNat aJ) (c2.mk aY af.fk)) (Int.toNat aJ) (c2.mk an.gP a0.2)).map eZ)), (1, .int .i64 a0.1), (5, .int .i64 aJ)] (fun P ak => ?_) ?_)
    ·simp only [aX.down, simprocAttr, B9.down, e0, c_ e0]
     refine qE [⟨.h 0 [Int.toNat aJ, 1], true, _, _⟩, ⟨.int .i64 (IntKind.i64.wrap (aY + 1)), false, _, .hole⟩] (Ms an.fk (IntKind.i64.wrap (aY + 1)) _ cN) rfl rfl rfl (by simp only [aX.down, simprocAttr, B9.down, e0, c_ e0, mc, jr, hi, hj, hk, du, or_true, true_or, @cp _ b3 b3 (fun _ => sF _)]) rfl rfl (.inl rfl) ?_
     simp only [aX.down, simprocAttr, B9.down, e0, c_ e0, me, (wE (c_ e0)), wF]
     (try simp only [bo.down, simprocAttr, b3, eZ, e0, c_ e0] at ak ⊢); exact ak
    refine cj _ (cH _ (.inl ?_))
    refine wr [(0, .aw 2 ((List.set (List.set bz (Int.toNat aJ) (c2.mk aY af.fk)) (Int.toNat aJ) (c2.mk an.gP a0.2)).map eZ)), (1, .int .i64 a0.1), (5, .int .i64 (IntKind.i64.wrap (aJ + 1)))] ?_
    exact dS _ (.inr ⟨_, bq rfl, e7 (List.set (List.set bz (Int.toNat aJ) (c2.mk aY af.fk)) (Int.toNat aJ) (c2.mk an.gP a0.2)) a0.1 (IntKind.i64.wrap (aJ + 1)) h⟩)
   ·refine aZ (congrArg I.bool a6) ?_
    simp only [a6, Bool.not_true, Bool.not_false]
    refine dL (b7 0 _ (bs 0 _ (bk _ (bX _ (.inl ?_)))))
    refine ws _ ?_
    exact aK (ao _ (.inl (aL [.int .i64 aY] rfl (by cases aH h; rfl) (by decide) (n6 (n7 (by cases aH h; rfl) rfl rfl rfl (mf (n8)))))))
 obtain ⟨n, h⟩ := dH h
 exact dM (.inr ⟨_, bq rfl, fl n J ab 0 h⟩)
theorem arT (J : List bR) (ab : Int) (r : Int × (List bR)) (h : BO J ab = some r) : aT aI 51 [.aw 3 (J.map bm), .int .i64 ab] (.int .i64 r.1) [.aw 3 (r.2.map bm), .hole] := by
 refine aT.bZ (fx := [0]) b0 [.tmp 4] [(0, .aw 3 (J.map bm)), (1, .int .i64 ab)] Tryz.func51 rfl rfl anL (Nat.le_of_ble_eq_true rfl) rfl rfl (fun bY ao bW => ?_)
 refine ws _ ?_
 refine aN (fun eo bX bn an => ?_)
 refine ws _ ?_
 refine bH (fun dR eJ b9 bk bp => ?_)
 have fl : ∀ (n : Nat) (bz : List bR) (aY : Int) (aJ : Int), sy n bz aY aJ = some r → dA aI LW dR (aa [(0, .aw 3 (bz.map bm)), (1, .int .i64 aY), (5, .int .i64 aJ)]) := by
  intro ch
  induction ch with
  | zero => intro bz aY aJ h; cases (show none = some r from h)
  | succ ch e7 =>
   intro bz aY aJ h
   replace h : BN (sy ch) bz aY aJ = some r := h
   refine dN (fun g3 dS dD bs => ?_)
   refine aN (fun fh dB dK b7 => ?_)
   refine ws _ ?_
   rcases aQ h with ⟨a6, h⟩ | ⟨a6, h⟩
   ·refine aW (congrArg I.bool a6) ?_
    simp only [a6, Bool.not_true, Bool.not_false]
    refine a5 (dB _ (.inl ?_))
    refine aN (fun et cH cd dv => ?_)
    refine bH (fun e4 cj cJ b2 c5 => ?_)
    obtain ⟨af, dJ, h⟩ := aO h
    obtain ⟨an, ez, h⟩ := aO h
    refine cY (b1 [(0, .aw 3 ((List.set bz (Int.toNat aJ) (bR.mk af an.b_ an.Result)).map bm)), (1, .int .i64 aY), (5, .int .i64 aJ)] (fun P ak => ?_) ?_)
    ·simp only [aX.down, simprocAttr, gT.down, ez, c_ ez, ep, ei]
     refine fs (vg aY _ dJ) rfl rfl rfl rfl (.inl (by rfl)) ?_
     simp only [aX.down, simprocAttr, gT.down, ez, c_ ez, ep, ei]
     (try simp only [bo.down, simprocAttr, bm, ez, c_ ez, ep, ei] at ak ⊢); exact ak
    refine ws [(0, .aw 3 ((List.set bz (Int.toNat aJ) (bR.mk af an.b_ an.Result)).map bm)), (1, .int .i64 (IntKind.i64.wrap (aY + 1))), (5, .int .i64 aJ)] ?_
    obtain ⟨a0, cN, h⟩ := aO h
    obtain ⟨bp, eI, h⟩ := aO h
    refine cY (b1 [(0, .aw 3 ((List.set (List.set bz (Int.toNat aJ) (bR.mk af an.b_ an.Result)) (Int.toNat aJ) (bR.mk bp.Left a0 bp.Result)).map bm)), (1, .int .i64 (IntKind.i64.wrap (aY + 1))), (5, .int .i64 aJ)] (fun P ak => ?_) ?_)
    ·simp only [aX.down, simprocAttr, gT.down, eI, c_ eI, ep, ei]
     refine fs (vg (IntKind.i64.wrap (aY + 1)) _ cN) rfl rfl rfl rfl (.inl (by rfl)) ?_
     simp only [aX.down, simprocAttr, gT.down, eI, c_ eI, ep, ei]
     (try simp only [bo.down, simprocAttr, bm, eI, c_ eI, ep, ei] at ak ⊢); exact ak
    refine ws [(0, .aw 3 ((List.set (List.set bz (Int.toNat aJ) (bR.mk af an.b_ an.Result)) (Int.toNat aJ) (bR.mk bp.Left a0 bp.Result)).map bm)), (1, .int .i64 (IntKind.i64.wrap ((IntKind.i64.wrap (aY + 1)) + 1))), (5, .int .i64 aJ)] ?_
    obtain ⟨bs, jN, h⟩ := aO h
    obtain ⟨b7, nD, h⟩ := aO h
    refine cY (b1 [(0, .aw 3 ((List.set (List.set (List.set bz (Int.toNat aJ) (bR.mk af an.b_ an.Result)) (Int.toNat aJ) (bR.mk bp.Left a0 bp.Result)) (Int.toNat aJ) (bR.mk b7.Left b7.b_ bs)).map bm)), (1, .int .i64 (IntKind.i64.wrap ((IntKind.i64.wrap (aY + 1)) + 1))), (5, .int .i64 aJ)] (fun P ak => ?_) ?_)
    ·simp only [aX.down, simprocAttr, gT.down, nD, c_ nD, ep, ei]
     refine fs (vg (IntKind.i64.wrap ((IntKind.i64.wrap (aY + 1)) + 1)) _ jN) rfl rfl rfl rfl (.inl (by rfl)) ?_
     simp only [aX.down, simprocAttr, gT.down, nD, c_ nD, ep, ei]
     (try simp only [bo.down, simprocAttr, bm, nD, c_ nD, ep, ei] at ak ⊢); exact ak
    refine wr [(0, .aw 3 ((List.set (List.set (List.set bz (Int.toNat aJ) (bR.mk af an.b_ an.Result)) (Int.toNat aJ) (bR.mk bp.Left a0 bp.Result)) (Int.toNat aJ) (bR.mk b7.Left b7.b_ bs)).map bm)), (1, .int .i64 (IntKind.i64.wrap ((IntKind.i64.wrap ((IntKind.i64.wrap (aY + 1)) + 1)) + 1))), (5, .int .i64 aJ)] ?_
    refine cj _ (cH _ (.inl ?_))
    refine wr [(0, .aw 3 ((List.set (List.set (List.set bz (Int.toNat aJ) (bR.mk af an.b_ an.Result)) (Int.toNat aJ) (bR.mk bp.Left a0 bp.Result)) (Int.toNat aJ) (bR.mk b7.Left b7.b_ bs)).map bm)), (1, .int .i64 (IntKind.i64.wrap ((IntKind.i64.wrap ((IntKind.i64.wrap (aY + 1)) + 1)) + 1))), (5, .int .i64 (IntKind.i64.wrap (aJ + 1)))] ?_
    exact dS _ (.inr ⟨_, bq rfl, e7 (List.set (List.set (List.set bz (Int.toNat aJ) (bR.mk af an.b_ an.Result)) (Int.toNat aJ) (bR.mk bp.Left a0 bp.Result)) (Int.toNat aJ) (bR.mk b7.Left b7.b_ bs)) (IntKind.i64.wrap ((IntKind.i64.wrap ((IntKind.i64.wrap (aY + 1)) + 1)) + 1)) (IntKind.i64.wrap (aJ + 1)) h⟩)
   ·refine aZ (congrArg I.bool a6) ?_
    simp only [a6, Bool.not_true, Bool.not_false]
    refine dL (b7 0 _ (bs 0 _ (bk _ (bX _ (.inl ?_)))))
    refine ws _ ?_
    exact aK (ao _ (.inl (aL [.int .i64 aY] rfl (by cases aH h; rfl) (by decide) (n6 (n7 (by cases aH h; rfl) rfl rfl rfl (mf (n8)))))))
 obtain ⟨n, h⟩ := dH h
 exact dM (.inr ⟨_, bq rfl, fl n J ab 0 h⟩)
theorem Mt (J : List (List UInt8)) (ab : Int) (r : Int × (List (List UInt8))) (h : xQ J ab = some r) : aT aI 52 [.aw 1 (J.map bu), .int .i64 ab] (.int .i64 r.1) [.aw 1 (r.2.map bu), .hole] := by
 refine aT.bZ (fx := [0]) b0 [.tmp 4] [(0, .aw 1 (J.map bu)), (1, .int .i64 ab)] Tryz.func52 rfl rfl x3 (Nat.le_of_ble_eq_true rfl) rfl rfl (fun bY ao bW => ?_)
 refine ws _ ?_
 refine aN (fun eo bX bn an => ?_)
 refine ws _ ?_
 refine bH (fun dR eJ b9 bk bp => ?_)
 have fl : ∀ (n : Nat) (bz : List (List UInt8)) (aY : Int) (aJ : Int), sA n bz aY aJ = some r → dA aI LX dR (aa [(0, .aw 1 (bz.map bu)), (1, .int .i64 aY), (5, .int .i64 aJ)]) := by
  intro ch
  induction ch with
  | zero => intro bz aY aJ h; cases (show none = some r from h)
  | succ ch e7 =>
   intro bz aY aJ h
   replace h : BP (sA ch) bz aY aJ = some r := h
   refine dN (fun g3 dS dD bs => ?_)
   refine aN (fun fh dB dK b7 => ?_)
   refine ws _ ?_
   rcases aQ h with ⟨a6, h⟩ | ⟨a6, h⟩
   ·refine aW (congrArg I.bool a6) ?_
    simp only [a6, Bool.not_true, Bool.not_false]
    refine a5 (dB _ (.inl ?_))
    refine aN (fun et cH cd dv => ?_)
    refine bH (fun e4 cj cJ b2 c5 => ?_)
    obtain ⟨af, dJ, h⟩ := aO h
    obtain ⟨an, ez, h⟩ := aO h
    refine cY (b1 [(0, .aw 1 ((List.set bz (Int.toNat aJ) af).map bu)), (1, .int .i64 aY), (5, .int .i64 aJ)] (fun P ak => ?_) ?_)
    ·simp only [aX.down, simprocAttr, eW, kK, bu, ez, c_ ez, ep, ei]
     refine fs (vg aY _ dJ) rfl rfl rfl rfl (.inl (by rfl)) ?_
     simp only [aX.down, simprocAttr, eW, kK, bu, ez, c_ ez, ep, ei]
     (try simp only [bo.down, simprocAttr, bu, ez, c_ ez, ep, ei] at ak ⊢); exact ak
    refine wr [(0, .aw 1 ((List.set bz (Int.toNat aJ) af).map bu)), (1, .int .i64 (IntKind.i64.wrap (aY + 1))), (5, .int .i64 aJ)] ?_
    refine cj _ (cH _ (.inl ?_))
    refine wr [(0, .aw 1 ((List.set bz (Int.toNat aJ) af).map bu)), (1, .int .i64 (IntKind.i64.wrap (aY + 1))), (5, .int .i64 (IntKind.i64.wrap (aJ + 1)))] ?_
    exact dS _ (.inr ⟨_, bq rfl, e7 (List.set bz (Int.toNat aJ) af) (IntKind.i64.wrap (aY + 1)) (IntKind.i64.wrap (aJ + 1)) h⟩)
   ·refine aZ (congrArg I.bool a6) ?_
    simp only [a6, Bool.not_true, Bool.not_false]
    refine dL (b7 0 _ (bs 0 _ (bk _ (bX _ (.inl ?_)))))
    refine ws _ ?_
    exact aK (ao _ (.inl (aL [.int .i64 aY] rfl (by cases aH h; rfl) (by decide) (n6 (n7 (by cases aH h; rfl) rfl rfl rfl (mf (n8)))))))
 obtain ⟨n, h⟩ := dH h
 exact dM (.inr ⟨_, bq rfl, fl n J ab 0 h⟩)
theorem arU (sB : List a9) (qS : List c2) (pQ : List bR) (o8 : List (List UInt8)) (oc : List (List UInt8)) (ab : Int) (r : Int × (List a9) × (List c2) × (List bR) × (List (List UInt8)) × (List (List UInt8))) (h : BQ sB qS pQ o8 oc ab = some r) : aT aI 13 [.agg [.aw 3 (sB.map eR), .aw 2 (qS.map eZ), .aw 3 (pQ.map bm), .aw 1 (o8.map bu), .aw 1 (oc.map bu)], .int .i64 ab] (.int .i64 r.1) [.agg [.aw 3 (r.2.1.map eR), .aw 2 (r.2.2.1.map eZ), .aw 3 (r.2.2.2.1.map bm), .aw 1 (r.2.2.2.2.1.map bu), .aw 1 (r.2.2.2.2.2.map bu)], .hole] := by
 refine aT.bZ (fx := [0]) b0 [.tmp 4] [(0, .agg [.aw 3 (sB.map eR), .aw 2 (qS.map eZ), .aw 3 (pQ.map bm), .aw 1 (o8.map bu), .aw 1 (oc.map bu)]), (1, .int .i64 ab)] Tryz.func13 rfl rfl u1 (Nat.le_of_ble_eq_true rfl) rfl rfl (fun bY ao bW => ?_)
 refine cY (b1 [(0, .agg [.aw 3 (sB.map eR), .aw 2 (qS.map eZ), .aw 3 (pQ.map bm), .aw 1 (o8.map bu), .aw 1 (oc.map bu)]), (1, .int .i64 ab), (2, .ae 0 0)] (fun P ak => ?_) ?_)
 ·simp only [aX.down, simprocAttr, j7.down, iA, iC, I.dI, iB]
  (try simp only [bo.down, simprocAttr, u4.down, iA, iC, I.dI, iB] at ak ⊢); exact ak
 obtain ⟨af, a3, h⟩ := aO h
 refine cY (b1 [(0, .agg [.aw 3 (af.2.map eR), .aw 2 (qS.map eZ), .aw 3 (pQ.map bm), .aw 1 (o8.map bu), .aw 1 (oc.map bu)]), (1, .int .i64 af.1), (2, .ae 0 0)] (fun P ak => ?_) ?_)
 ·simp only [aX.down, simprocAttr, j7.down, iA, iC, I.dI, iB]
  refine zN [⟨.h 0 [0], true, _, _⟩, ⟨.int .i64 ab, false, _, .hole⟩] (arR sB ab _ a3) rfl rfl rfl (by simp only [aX.down, simprocAttr, j7.down, iA, iC, I.dI, iB, o1, mc, jr, hi, hj, hk, du, or_true, true_or, @cp _ eR bf (fun _ => qT _)]) rfl rfl (.inl rfl) (by simp only [aX.down, simprocAttr, j7.down, iA, iC, I.dI, iB, qD, jr, uu, Bool.and_self, Bool.not_false, Bool.and_true]) ?_
  simp only [aX.down, simprocAttr, j7.down, iA, iC, I.dI, iB, me, qD, jr, eq_self, Bool.and_self]
  (try simp only [bo.down, simprocAttr, u4.down, iA, iC, I.dI, iB] at ak ⊢); exact ak
 obtain ⟨an, c6, h⟩ := aO h
 refine cY (b1 [(0, .agg [.aw 3 (af.2.map eR), .aw 2 (an.2.map eZ), .aw 3 (pQ.map bm), .aw 1 (o8.map bu), .aw 1 (oc.map bu)]), (1, .int .i64 an.1), (2, .ae 0 0)] (fun P ak => ?_) ?_)
 ·simp only [aX.down, simprocAttr, j7.down, iA, iC, I.dI, iB]
  refine zN [⟨.h 0 [1], true, _, _⟩, ⟨.int .i64 af.1, false, _, .hole⟩] (arS qS af.1 _ c6) rfl rfl rfl (by simp only [aX.down, simprocAttr, j7.down, iA, iC, I.dI, iB, o1, mc, jr, hi, hj, hk, du, or_true, true_or, @cp _ eZ eN (fun _ => qU _)]) rfl rfl (.inl rfl) (by simp only [aX.down, simprocAttr, j7.down, iA, iC, I.dI, iB, qD, jr, uu, Bool.and_self, Bool.not_false, Bool.and_true]) ?_
  simp only [aX.down, simprocAttr, j7.down, iA, iC, I.dI, iB, me, qD, jr, eq_self, Bool.and_self]
  (try simp only [bo.down, simprocAttr, u4.down, iA, iC, I.dI, iB] at ak ⊢); exact ak
 obtain ⟨a0, cf, h⟩ := aO h
 refine cY (b1 [(0, .agg [.aw 3 (af.2.map eR), .aw 2 (an.2.map eZ), .aw 3 (a0.2.map bm), .aw 1 (o8.map bu), .aw 1 (oc.map bu)]), (1, .int .i64 a0.1), (2, .ae 0 0)] (fun P ak => ?_) ?_)
 ·simp only [aX.down, simprocAttr, j7.down, iA, iC, I.dI, iB]
  refine zN [⟨.h 0 [2], true, _, _⟩, ⟨.int .i64 an.1, false, _, .hole⟩] (arT pQ an.1 _ cf) rfl rfl rfl (by simp only [aX.down, simprocAttr, j7.down, iA, iC, I.dI, iB, o1, mc, jr, hi, hj, hk, du, or_true, true_or, @cp _ bm bm (fun _ => nz _)]) rfl rfl (.inl rfl) (by simp only [aX.down, simprocAttr, j7.down, iA, iC, I.dI, iB, qD, jr, uu, Bool.and_self, Bool.not_false, Bool.and_true]) ?_
  simp only [aX.down, simprocAttr, j7.down, iA, iC, I.dI, iB, me, qD, jr, eq_self, Bool.and_self]
  (try simp only [bo.down, simprocAttr, u4.down, iA, iC, I.dI, iB] at ak ⊢); exact ak
 obtain ⟨bp, kz, h⟩ := aO h
 refine cY (b1 [(0, .agg [.aw 3 (af.2.map eR), .aw 2 (an.2.map eZ), .aw 3 (a0.2.map bm), .aw 1 (bp.2.map bu), .aw 1 (oc.map bu)]), (1, .int .i64 bp.1), (2, .ae 0 0)] (fun P ak => ?_) ?_)
 ·simp only [aX.down, simprocAttr, j7.down, iA, iC, I.dI, iB]
  refine zN [⟨.h 0 [3], true, _, _⟩, ⟨.int .i64 a0.1, false, _, .hole⟩] (Mt o8 a0.1 _ kz) rfl rfl rfl (by simp only [aX.down, simprocAttr, j7.down, iA, iC, I.dI, iB, o1, mc, jr, hi, hj, hk, du, or_true, true_or, @cp _ bu bu (fun _ => ji _)]) rfl rfl (.inl rfl) (by simp only [aX.down, simprocAttr, j7.down, iA, iC, I.dI, iB, qD, jr, uu, Bool.and_self, Bool.not_false, Bool.and_true]) ?_
  simp only [aX.down, simprocAttr, j7.down, iA, iC, I.dI, iB, me, qD, jr, eq_self, Bool.and_self]
  (try simp only [bo.down, simprocAttr, u4.down, iA, iC, I.dI, iB] at ak ⊢); exact ak
 obtain ⟨bs, nN, h⟩ := aO h
 refine cY (b1 [(0, .agg [.aw 3 (af.2.map eR), .aw 2 (an.2.map eZ), .aw 3 (a0.2.map bm), .aw 1 (bp.2.map bu), .aw 1 (bs.2.map bu)]), (1, .int .i64 bs.1)] (fun P ak => ?_) ?_)
 ·simp only [aX.down, simprocAttr, j7.down, iA, iC, I.dI, iB]
  refine qE [⟨.h 0 [4], true, _, _⟩, ⟨.int .i64 bp.1, false, _, .hole⟩] (Mt oc bp.1 _ nN) rfl rfl rfl (by simp only [aX.down, simprocAttr, j7.down, iA, iC, I.dI, iB, o1, mc, jr, hi, hj, hk, du, or_true, true_or, @cp _ bu bu (fun _ => ji _)]) rfl rfl (.inl rfl) ?_
  simp only [aX.down, simprocAttr, j7.down, iA, iC, I.dI, iB, me]
  (try simp only [bo.down, simprocAttr, u4.down, iA, iC, I.dI, iB] at ak ⊢); exact ak
 refine ws _ ?_
 exact aK (ao _ (.inl (aL [.int .i64 bs.1] rfl (by cases aH h; rfl) (by decide) (n6 (n7 (by cases aH h; rfl) rfl rfl rfl (mf (n8)))))))
theorem arV (J : List (List Int)) (ab : Int) (r : Int × (List (List Int))) (h : BS J ab = some r) : aT aI 14 [.aw 1 (J.map dp), .int .i64 ab] (.int .i64 r.1) [.aw 1 (r.2.map dp), .hole] := by
 refine aT.bZ (fx := [0]) b0 [.tmp 4] [(0, .aw 1 (J.map dp)), (1, .int .i64 ab)] Tryz.func14 rfl rfl nA (Nat.le_of_ble_eq_true rfl) rfl rfl (fun bY ao bW => ?_)
 refine ws _ ?_
 refine aN (fun eo bX bn an => ?_)
 refine ws _ ?_
 refine bH (fun dR eJ b9 bk bp => ?_)
 have fl : ∀ (n : Nat) (bz : List (List Int)) (aY : Int) (aJ : Int), sC n bz aY aJ = some r → dA aI LY dR (aa [(0, .aw 1 (bz.map dp)), (1, .int .i64 aY), (5, .int .i64 aJ)]) := by
  intro ch
  induction ch with
  | zero => intro bz aY aJ h; cases (show none = some r from h)
  | succ ch e7 =>
   intro bz aY aJ h
   replace h : BR (sC ch) bz aY aJ = some r := h
   refine dN (fun g3 dS dD bs => ?_)
   refine aN (fun fh dB dK b7 => ?_)
   refine ws _ ?_
   rcases aQ h with ⟨a6, h⟩ | ⟨a6, h⟩
   ·refine aW (congrArg I.bool a6) ?_
    simp only [a6, Bool.not_true, Bool.not_false]
    refine a5 (dB _ (.inl ?_))
    refine aN (fun et cH cd dv => ?_)
    refine bH (fun e4 cj cJ b2 c5 => ?_)
    obtain ⟨af, dJ, h⟩ := aO h
    obtain ⟨an, ez, h⟩ := aO h
    refine j3 (b1 [(0, .aw 1 ((List.set bz (Int.toNat aJ) an.2).map dp)), (1, .int .i64 an.1), (5, .int .i64 aJ)] (fun P ak => ?_) ?_)
    ·simp only [aX.down, simprocAttr, er, o4, ik, b3, dp, dJ, c_ dJ]
     refine qE [⟨.h 0 [Int.toNat aJ], true, _, _⟩, ⟨.int .i64 aY, false, _, .hole⟩] (Ms af aY _ ez) rfl rfl rfl (by simp only [aX.down, simprocAttr, er, o4, ik, b3, dp, dJ, c_ dJ, mc, jr, hi, hj, hk, du, or_true, true_or, @cp _ b3 b3 (fun _ => sF _)]) rfl rfl (.inl rfl) ?_
     simp only [aX.down, simprocAttr, er, o4, ik, b3, dp, dJ, c_ dJ, me, (wE (c_ dJ)), wF]
     (try simp only [bo.down, simprocAttr, b3, dp, dJ, c_ dJ] at ak ⊢); exact ak
    refine cj _ (cH _ (.inl ?_))
    refine wr [(0, .aw 1 ((List.set bz (Int.toNat aJ) an.2).map dp)), (1, .int .i64 an.1), (5, .int .i64 (IntKind.i64.wrap (aJ + 1)))] ?_
    exact dS _ (.inr ⟨_, bq rfl, e7 (List.set bz (Int.toNat aJ) an.2) an.1 (IntKind.i64.wrap (aJ + 1)) h⟩)
   ·refine aZ (congrArg I.bool a6) ?_
    simp only [a6, Bool.not_true, Bool.not_false]
    refine dL (b7 0 _ (bs 0 _ (bk _ (bX _ (.inl ?_)))))
    refine ws _ ?_
    exact aK (ao _ (.inl (aL [.int .i64 aY] rfl (by cases aH h; rfl) (by decide) (n6 (n7 (by cases aH h; rfl) rfl rfl rfl (mf (n8)))))))
 obtain ⟨n, h⟩ := dH h
 exact dM (.inr ⟨_, bq rfl, fl n J ab 0 h⟩)
theorem arW (J : List Int) (ab : Int) (r : Int) (h : BU J ab = some r) : aT aI 25 [.slice (J.map b3), .int .i64 ab] (.int .i64 r) [] := by
 refine aT.bZ (fx := [0]) b0 [.tmp 4] [(0, .slice (J.map b3)), (1, .int .i64 ab)] Tryz.func25 rfl rfl sI (Nat.le_of_ble_eq_true rfl) rfl rfl (fun bY ao bW => ?_)
 refine ws _ ?_
 refine aN (fun eo bX bn an => ?_)
 refine ws _ ?_
 refine bH (fun dR eJ b9 bk bp => ?_)
 have fl : ∀ (n : Nat) (aY : Int) (aJ : Int), sD J n aY aJ = some r → dA aI LZ dR (aa [(0, .slice (J.map b3)), (1, .int .i64 aY), (5, .int .i64 aJ)]) := by
  intro ch
  induction ch with
  | zero => intro aY aJ h; cases (show none = some r from h)
  | succ ch e7 =>
   intro aY aJ h
   replace h : BT (sD J ch) J aY aJ = some r := h
   refine dN (fun g3 dS dD bs => ?_)
   refine aN (fun fh dB dK b7 => ?_)
   refine ws _ ?_
   rcases aQ h with ⟨a6, h⟩ | ⟨a6, h⟩
   ·refine aW (congrArg I.bool a6) ?_
    simp only [a6, Bool.not_true, Bool.not_false]
    refine a5 (dB _ (.inl ?_))
    refine aN (fun et cH cd dv => ?_)
    refine bH (fun e4 cj cJ b2 c5 => ?_)
    refine aN (fun i6 fF im eF => ?_)
    obtain ⟨af, ez, h⟩ := aO h
    refine g_ ez _ ?_
    rcases aQ h with ⟨eB, h⟩ | ⟨eB, h⟩
    ·refine aW (congrArg I.bool eB) ?_
     simp only [eB, Bool.not_true, Bool.not_false]
     refine ws _ ?_
     exact aK (im _ (cJ _ (cd _ (dD _ (b9 _ (bn _ (ao _ (.inl (aL [.int .i64 (-1)] rfl (by cases aH h; rfl) (by decide) aM)))))))))
    ·refine aZ (congrArg I.bool eB) ?_
     simp only [eB, Bool.not_true, Bool.not_false]
     refine a5 (fF _ (.inl ?_))
     refine wr _ ?_
     refine cj _ (cH _ (.inl ?_))
     refine wr _ ?_
     exact dS _ (.inr ⟨_, bq rfl, e7 (IntKind.i64.wrap (aY + 1)) (IntKind.i64.wrap (aJ + 1)) h⟩)
   ·refine aZ (congrArg I.bool a6) ?_
    simp only [a6, Bool.not_true, Bool.not_false]
    refine dL (b7 0 _ (bs 0 _ (bk _ (bX _ (.inl ?_)))))
    refine ws _ ?_
    exact aK (ao _ (.inl (aL [.int .i64 aY] rfl (by cases aH h; rfl) (by decide) aM)))
 obtain ⟨n, h⟩ := dH h
 exact dM (.inr ⟨_, bq rfl, fl n ab 0 h⟩)
theorem Mu (J : List (List Int)) (ab : Int) (r : Int) (h : xR J ab = some r) : aT aI 15 [.slice (J.map eu), .int .i64 ab] (.int .i64 r) [] := by
 refine aT.bZ (fx := [0]) b0 [.tmp 4] [(0, .slice (J.map eu)), (1, .int .i64 ab)] Tryz.func15 rfl rfl u2 (Nat.le_of_ble_eq_true rfl) rfl rfl (fun bY ao bW => ?_)
 refine ws _ ?_
 refine aN (fun eo bX bn an => ?_)
 refine ws _ ?_
 refine bH (fun dR eJ b9 bk bp => ?_)
 have fl : ∀ (n : Nat) (aY : Int) (aJ : Int), sE J n aY aJ = some r → dA aI L0 dR (aa [(0, .slice (J.map eu)), (1, .int .i64 aY), (5, .int .i64 aJ)]) := by
  intro ch
  induction ch with
  | zero => intro aY aJ h; cases (show none = some r from h)
  | succ ch e7 =>
   intro aY aJ h
   replace h : BV (sE J ch) J aY aJ = some r := h
   refine dN (fun g3 dS dD bs => ?_)
   refine aN (fun fh dB dK b7 => ?_)
   refine ws _ ?_
   rcases aQ h with ⟨a6, h⟩ | ⟨a6, h⟩
   ·refine aW (congrArg I.bool a6) ?_
    simp only [a6, Bool.not_true, Bool.not_false]
    refine a5 (dB _ (.inl ?_))
    refine aN (fun et cH cd dv => ?_)
    refine bH (fun e4 cj cJ b2 c5 => ?_)
    obtain ⟨af, dJ, h⟩ := aO h
    obtain ⟨an, ez, h⟩ := aO h
    refine iE dJ (arW af aY _ ez) _ ?_
    refine ws _ ?_
    rcases aQ h with ⟨ck, h⟩ | ⟨ck, h⟩
    ·refine aW (congrArg I.bool ck) ?_
     simp only [ck, Bool.not_true, Bool.not_false]
     refine ws _ ?_
     exact aK (cJ _ (cd _ (dD _ (b9 _ (bn _ (ao _ (.inl (aL [.int .i64 (-1)] rfl (by cases aH h; rfl) (by decide) aM))))))))
    ·refine aZ (congrArg I.bool ck) ?_
     simp only [ck, Bool.not_true, Bool.not_false]
     refine a5 (cj _ (cH _ (.inl ?_)))
     refine wr _ ?_
     exact dS _ (.inr ⟨_, bq rfl, e7 an (IntKind.i64.wrap (aJ + 1)) h⟩)
   ·refine aZ (congrArg I.bool a6) ?_
    simp only [a6, Bool.not_true, Bool.not_false]
    refine dL (b7 0 _ (bs 0 _ (bk _ (bX _ (.inl ?_)))))
    refine ws _ ?_
    exact aK (ao _ (.inl (aL [.int .i64 aY] rfl (by cases aH h; rfl) (by decide) aM)))
 obtain ⟨n, h⟩ := dH h
 exact dM (.inr ⟨_, bq rfl, fl n ab 0 h⟩)
set_option maxHeartbeats 1400000 in
theorem arX (J : km) (r : Bool) (h : Fi J = some r) : aT aI 3 [iD J] (.bool r) [] := by
 refine aT.bZ (fx := [0]) b0 [.tmp 2] [(0, iD J)] Tryz.func3 rfl rfl eY (Nat.le_of_ble_eq_true rfl) rfl rfl (fun bY ao bW => ?_)
 refine ws _ ?_
 refine ws _ ?_
 obtain ⟨af, c1, h⟩ := aO h
 refine dO (apj J 1048576 _ c1) _ ?_
 refine aN (fun g3 dS dD bs => ?_)
 refine ws _ ?_
 rcases aQ h with ⟨iO, h⟩ | ⟨iO, h⟩
 ·refine aW (congrArg I.bool iO) ?_
  simp only [iO, Bool.not_true, Bool.not_false]
  refine ws _ ?_
  exact aK (dD _ (ao _ (.inl (aL [.bool true] rfl (by cases aH h; rfl) (by decide) aM))))
 ·refine aZ (congrArg I.bool iO) ?_
  simp only [iO, Bool.not_true, Bool.not_false]
  refine a5 (dS _ (.inl ?_))
  obtain ⟨an, nM, h⟩ := aO h
  obtain ⟨a0, nN, h⟩ := aO h
  refine cY (b1 [(1, .a8 (iD J)), (4, .aw 1 (a0.1.map eu)), (5, .int .i64 a0.2)] (fun P ak => ?_) ?_)
  ·simp only [aX.down, simprocAttr, FC.down]
   refine fs (((Cb J _ nM)).wide (Ex rfl rfl (by simp only [du, I.share, I.shares, SQ] <;> rfl)) rfl rfl) rfl rfl rfl rfl (.inl (by rfl)) ?_
   simp only [aX.down, simprocAttr, FC.down]
   refine fs (aqJ an _ nN) rfl rfl rfl rfl (.inl (by rfl)) ?_
   simp only [aX.down, simprocAttr, FC.down]
   (try simp only [bo.down, simprocAttr, b3, eN, bf, bm, b4, eO, bP, fM, fL, fE, fu, iD, ff, eu, ef, ft, bu] at ak ⊢); exact ak
  obtain ⟨bp, ez, h⟩ := aO h
  refine dO (Cb J _ ez) _ ?_
  obtain ⟨bs, e0, h⟩ := aO h
  refine cY (b1 [(1, .a8 (iD J)), (4, .aw 1 (a0.1.map eu)), (5, .int .i64 a0.2), (6, .a8 (mi bp)), (7, .aw 1 (bs.1.map dp)), (8, .int .i64 bs.2)] (fun P ak => ?_) ?_)
  ·simp only [aX.down, simprocAttr, u5.down]
   refine fs (Mp bp _ e0) rfl rfl (by simp only [aX.down, simprocAttr, u5.down, hi, hj, hk, du, @cp _ eR bf (fun _ => qT _), @cp _ eZ eN (fun _ => qU _), @cp _ bm bm (fun _ => nz _), @cp _ bu bu (fun _ => ji _), @cp _ bu bu (fun _ => ji _)] <;> rfl) rfl (.inr (by simp only [I.cW, I.hJ, @kI _ dp (fun _ => KB _), Bool.and_self])) ?_
   simp only [aX.down, simprocAttr, u5.down]
   (try simp only [bo.down, simprocAttr, nC.down] at ak ⊢); exact ak
  refine aN (fun oh j8 ju lP => ?_)
  obtain ⟨b7, ga, h⟩ := aO h
  refine cY (b1 [(1, .a8 (iD J)), (4, .aw 1 (a0.1.map eu)), (5, .int .i64 a0.2), (6, .a8 (mi bp)), (7, .aw 1 (bs.1.map dp)), (8, .int .i64 bs.2), (40, .bool ((!b7) || (bs.2 != a0.2)))] (fun P ak => ?_) ?_)
  ·rcases Bool.eq_false_or_eq_true (b7) with pV | pV
   ·simp only [aX.down, simprocAttr, nC.down, pV]
    refine fs (vf bs.1 a0.1 _ ga) rfl rfl (by simp only [aX.down, simprocAttr, nC.down, pV, hi, hj, hk, du, @cp _ dp eu (fun _ => o9 _), @cp _ eu eu (fun _ => uY _)] <;> rfl) rfl (.inr (by rfl)) ?_
    simp only [aX.down, simprocAttr, nC.down, pV]
    (try simp only [bo.down, simprocAttr, nC.down, pV] at ak ⊢); exact ak
   ·simp only [aX.down, simprocAttr, nC.down, pV]
    refine fs (vf bs.1 a0.1 _ ga) rfl rfl (by simp only [aX.down, simprocAttr, nC.down, pV, hi, hj, hk, du, @cp _ dp eu (fun _ => o9 _), @cp _ eu eu (fun _ => uY _)] <;> rfl) rfl (.inr (by rfl)) ?_
    simp only [aX.down, simprocAttr, nC.down, pV]
    (try simp only [bo.down, simprocAttr, nC.down, pV] at ak ⊢); exact ak
  rcases aQ h with ⟨cR, h⟩ | ⟨cR, h⟩
  ·refine aW (congrArg I.bool cR) ?_
   simp only [cR, Bool.not_true, Bool.not_false]
   refine ws _ ?_
   exact aK (ju _ (ao _ (.inl (aL [.bool false] rfl (by cases aH h; rfl) (by decide) aM))))
  ·refine aZ (congrArg I.bool cR) ?_
   simp only [cR, Bool.not_true, Bool.not_false]
   refine a5 (j8 _ (.inl ?_))
   refine aN (fun sM k8 lQ sN => ?_)
   obtain ⟨dk, jw, h⟩ := aO h
   obtain ⟨gi, jM, h⟩ := aO h
   refine hg rfl (hh [(1, .a8 (iD J)), (4, .aw 1 (a0.1.map eu)), (5, .int .i64 a0.2), (6, .a8 (mi bp)), (7, .aw 1 (bs.1.map dp)), (8, .int .i64 bs.2), (45, .bool (!gi))] (fun P ak => ?_) ?_)
   ·simp only [dF.down, simprocAttr, B_.down]
    refine i3 (Cb J _ jw) rfl rfl rfl rfl (.inl (by rfl)) ?_
    simp only [dF.down, simprocAttr, B_.down]
    refine i3 (arN bp dk _ jM) rfl rfl (by simp only [dF.down, simprocAttr, B_.down, hi, hj, hk, du, @cp _ eR bf (fun _ => qT _), @cp _ eZ eN (fun _ => qU _), @cp _ bm bm (fun _ => nz _), @cp _ bu bu (fun _ => ji _), @cp _ bu bu (fun _ => ji _), @cp _ eR bf (fun _ => qT _), @cp _ eZ eN (fun _ => qU _), @cp _ bm bm (fun _ => nz _), @cp _ bu bu (fun _ => ji _), @cp _ bu bu (fun _ => ji _)] <;> rfl) rfl (.inr (by rfl)) ?_
    simp only [dF.down, simprocAttr, B_.down]
    refine ⟨gV (by kernel_rfl), ?_⟩
    (try simp only [bo.down, simprocAttr, nC.down] at ak ⊢); exact ak
   rcases aQ h with ⟨e6, h⟩ | ⟨e6, h⟩
   ·refine aW (congrArg I.bool e6) ?_
    simp only [(c8 e6), Bool.not_true, Bool.not_false]
    refine ws _ ?_
    exact aK (lQ _ (ao _ (.inl (aL [.bool false] rfl (by cases aH h; rfl) (by decide) aM))))
   ·refine aZ (congrArg I.bool e6) ?_
    simp only [(br e6), Bool.not_true, Bool.not_false]
    refine a5 (k8 _ (.inl ?_))
    refine ws _ ?_
    obtain ⟨dv, arY, h⟩ := aO h
    refine cY (b1 [(1, .a8 (iD J)), (4, .aw 1 (a0.1.map eu)), (5, .int .i64 a0.2), (7, .aw 1 (bs.1.map dp)), (8, .int .i64 bs.2), (9, .int .i64 dv.1)] (fun P ak => ?_) ?_)
    ·simp only [aX.down, simprocAttr, u5.down]
     refine qE [⟨.h 6 [0], true, _, _⟩, ⟨.int .i64 1, false, _, .hole⟩] (arU bp.bQ bp.cX bp.gX bp.gQ bp.gR 1 _ arY) rfl rfl rfl (by simp only [aX.down, simprocAttr, u5.down, o1, mc, jr, hi, hj, hk, du, or_true, true_or, @cp _ eR bf (fun _ => qT _), @cp _ eZ eN (fun _ => qU _), @cp _ bm bm (fun _ => nz _), @cp _ bu bu (fun _ => ji _), @cp _ bu bu (fun _ => ji _)]) rfl rfl (.inl rfl) ?_
     simp only [aX.down, simprocAttr, u5.down, me]
     (try simp only [bo.down, simprocAttr, nC.down] at ak ⊢); exact ak
    refine aN (fun L9 yb yc FN => ?_)
    rcases aQ h with ⟨fT, h⟩ | ⟨fT, h⟩
    ·refine g_ fT _ ?_
     refine aW rfl ?_
     refine ws _ ?_
     exact aK (yc _ (ao _ (.inl (aL [.bool false] rfl (by cases aH h; rfl) (by decide) aM))))
    ·obtain ⟨c5, sS, h⟩ := aO h
     refine cY (b1 [(1, .a8 (iD J)), (4, .aw 1 (a0.1.map eu)), (5, .int .i64 a0.2), (7, .aw 1 (bs.1.map dp)), (61, .bool ((!c5) || (bs.2 != a0.2)))] (fun P ak => ?_) ?_)
     ·rcases Bool.eq_false_or_eq_true (c5) with od | od
      ·simp only [aX.down, simprocAttr, lq.down, fT, od]
       refine ht (vf bs.1 a0.1 _ sS) rfl rfl (by simp only [aX.down, simprocAttr, lq.down, fT, od, hi, hj, hk, du, @cp _ dp eu (fun _ => o9 _), @cp _ eu eu (fun _ => uY _)] <;> rfl) rfl (.inr (by rfl)) ?_
       simp only [aX.down, simprocAttr, lq.down, fT, od]
       (try simp only [bo.down, simprocAttr, lq.down, fT, od] at ak ⊢); exact ak
      ·simp only [aX.down, simprocAttr, lq.down, fT, od]
       refine ht (vf bs.1 a0.1 _ sS) rfl rfl (by simp only [aX.down, simprocAttr, lq.down, fT, od, hi, hj, hk, du, @cp _ dp eu (fun _ => o9 _), @cp _ eu eu (fun _ => uY _)] <;> rfl) rfl (.inr (by rfl)) ?_
       simp only [aX.down, simprocAttr, lq.down, fT, od]
       (try simp only [bo.down, simprocAttr, lq.down, fT, od] at ak ⊢); exact ak
     rcases aQ h with ⟨ys, h⟩ | ⟨ys, h⟩
     ·refine aW (congrArg I.bool ys) ?_
      simp only [ys, Bool.not_true, Bool.not_false]
      refine ws _ ?_
      exact aK (yc _ (ao _ (.inl (aL [.bool false] rfl (by cases aH h; rfl) (by decide) aM))))
     ·refine aZ (congrArg I.bool ys) ?_
      simp only [ys, Bool.not_true, Bool.not_false]
      refine a5 (yb _ (.inl ?_))
      refine ws _ ?_
      obtain ⟨eF, arZ, h⟩ := aO h
      refine cY (b1 [(1, .a8 (iD J)), (4, .aw 1 (a0.1.map eu)), (5, .int .i64 a0.2), (7, .aw 1 (eF.2.map dp)), (10, .int .i64 eF.1)] (fun P ak => ?_) ?_)
      ·simp only [aX.down, simprocAttr, lq.down]
       refine qE [⟨.h 7 [], true, _, _⟩, ⟨.int .i64 1, false, _, .hole⟩] (arV bs.1 1 _ arZ) rfl rfl rfl (by simp only [aX.down, simprocAttr, lq.down, o1, mc, jr, hi, hj, hk, du, or_true, true_or, @cp _ dp eu (fun _ => o9 _)]) rfl rfl (.inl rfl) ?_
       simp only [aX.down, simprocAttr, lq.down, me]
       (try simp only [bo.down, simprocAttr, lq.down] at ak ⊢); exact ak
      refine ws _ ?_
      obtain ⟨i5, F5, h⟩ := aO h
      refine cY (b1 [(1, .a8 (iD J)), (4, .aw 1 (a0.1.map eu)), (5, .int .i64 a0.2), (7, .aw 1 (eF.2.map dp)), (10, .int .i64 eF.1), (11, .int .i64 i5)] (fun P ak => ?_) ?_)
      ·simp only [aX.down, simprocAttr, lq.down]
       refine fs (Mu eF.2 1 _ F5) rfl rfl (by simp only [aX.down, simprocAttr, lq.down, hi, hj, hk, du, @cp _ dp eu (fun _ => o9 _)] <;> rfl) rfl (.inr (by rfl)) ?_
       simp only [aX.down, simprocAttr, lq.down]
       (try simp only [bo.down, simprocAttr, lq.down] at ak ⊢); exact ak
      refine aN (fun awu ar0 ar1 awv => ?_)
      refine ws _ ?_
      rcases aQ h with ⟨yt, h⟩ | ⟨yt, h⟩
      ·refine aW (congrArg I.bool yt) ?_
       simp only [yt, Bool.not_true, Bool.not_false]
       refine ws _ ?_
       exact aK (ar1 _ (ao _ (.inl (aL [.bool false] rfl (by cases aH h; rfl) (by decide) aM))))
      ·refine aZ (congrArg I.bool yt) ?_
       simp only [yt, Bool.not_true, Bool.not_false]
       refine a5 (ar0 _ (.inl ?_))
       refine aN (fun aww ar2 ar3 awx => ?_)
       refine ws _ ?_
       rcases aQ h with ⟨yu, h⟩ | ⟨yu, h⟩
       ·refine aW (congrArg I.bool yu) ?_
        simp only [yu, Bool.not_true, Bool.not_false]
        refine ws _ ?_
        exact aK (ar3 _ (ao _ (.inl (aL [.bool false] rfl (by cases aH h; rfl) (by decide) aM))))
       ·refine aZ (congrArg I.bool yu) ?_
        simp only [yu, Bool.not_true, Bool.not_false]
        refine a5 (ar2 _ (.inl ?_))
        obtain ⟨jg, ar4, h⟩ := aO h
        obtain ⟨hn, ar5, h⟩ := aO h
        refine cY (b1 [(4, .aw 1 (a0.1.map eu)), (5, .int .i64 a0.2), (7, .aw 1 (eF.2.map dp)), (10, .int .i64 eF.1), (12, .aw 1 (hn.1.map dp)), (13, .int .i64 hn.2)] (fun P ak => ?_) ?_)
        ·simp only [aX.down, simprocAttr, Ca.down]
         refine fs (Cb J _ ar4) rfl rfl rfl rfl (.inl (by rfl)) ?_
         simp only [aX.down, simprocAttr, Ca.down]
         refine fs (Mp jg _ ar5) rfl rfl (by simp only [aX.down, simprocAttr, Ca.down, hi, hj, hk, du, @cp _ eR bf (fun _ => qT _), @cp _ eZ eN (fun _ => qU _), @cp _ bm bm (fun _ => nz _), @cp _ bu bu (fun _ => ji _), @cp _ bu bu (fun _ => ji _)] <;> rfl) rfl (.inr (by simp only [I.cW, I.hJ, @kI _ dp (fun _ => KB _), Bool.and_self])) ?_
         simp only [aX.down, simprocAttr, Ca.down]
         (try simp only [bo.down, simprocAttr, nC.down] at ak ⊢); exact ak
        refine aN (fun awy ar6 ar7 awz => ?_)
        obtain ⟨jh, Mv, h⟩ := aO h
        refine cY (b1 [(7, .aw 1 (eF.2.map dp)), (10, .int .i64 eF.1), (87, .bool ((!jh) || (hn.2 != a0.2)))] (fun P ak => ?_) ?_)
        ·rcases Bool.eq_false_or_eq_true (jh) with oe | oe
         ·simp only [aX.down, simprocAttr, qV.down, oe]
          refine fs (vf hn.1 a0.1 _ Mv) rfl rfl (by simp only [aX.down, simprocAttr, qV.down, oe, hi, hj, hk, du, @cp _ dp eu (fun _ => o9 _), @cp _ eu eu (fun _ => uY _)] <;> rfl) rfl (.inr (by rfl)) ?_
          simp only [aX.down, simprocAttr, qV.down, oe]
          (try simp only [bo.down, simprocAttr, qV.down, oe] at ak ⊢); exact ak
         ·simp only [aX.down, simprocAttr, qV.down, oe]
          refine fs (vf hn.1 a0.1 _ Mv) rfl rfl (by simp only [aX.down, simprocAttr, qV.down, oe, hi, hj, hk, du, @cp _ dp eu (fun _ => o9 _), @cp _ eu eu (fun _ => uY _)] <;> rfl) rfl (.inr (by rfl)) ?_
          simp only [aX.down, simprocAttr, qV.down, oe]
          (try simp only [bo.down, simprocAttr, qV.down, oe] at ak ⊢); exact ak
        rcases aQ h with ⟨yv, h⟩ | ⟨yv, h⟩
        ·refine aW (congrArg I.bool yv) ?_
         simp only [yv, Bool.not_true, Bool.not_false]
         refine ws _ ?_
         exact aK (ar7 _ (ao _ (.inl (aL [.bool false] rfl (by cases aH h; rfl) (by decide) aM))))
        ·refine aZ (congrArg I.bool yv) ?_
         simp only [yv, Bool.not_true, Bool.not_false]
         refine a5 (ar6 _ (.inl ?_))
         refine ws _ ?_
         obtain ⟨lP, FO, h⟩ := aO h
         refine cY (b1 [(10, .int .i64 eF.1), (11, .int .i64 lP)] (fun P ak => ?_) ?_)
         ·simp only [aX.down, simprocAttr, b3, dp]
          refine fs (Mu eF.2 1 _ FO) rfl rfl (by simp only [aX.down, simprocAttr, b3, dp, hi, hj, hk, du, @cp _ dp eu (fun _ => o9 _)] <;> rfl) rfl (.inr (by rfl)) ?_
          simp only [aX.down, simprocAttr, b3, dp]
          (try simp only [bo.down, simprocAttr, b3, dp] at ak ⊢); exact ak
         refine aN (fun awA ar8 ar9 awB => ?_)
         refine ws _ ?_
         rcases aQ h with ⟨yw, h⟩ | ⟨yw, h⟩
         ·refine aW (congrArg I.bool yw) ?_
          simp only [yw, Bool.not_true, Bool.not_false]
          refine ws _ ?_
          exact aK (ar9 _ (ao _ (.inl (aL [.bool false] rfl (by cases aH h; rfl) (by decide) aM))))
         ·refine aZ (congrArg I.bool yw) ?_
          simp only [yw, Bool.not_true, Bool.not_false]
          refine a5 (ar8 _ (.inl ?_))
          refine aN (fun awC ar_ asa awD => ?_)
          refine ws _ ?_
          rcases aQ h with ⟨mq, h⟩ | ⟨mq, h⟩
          ·refine aW (congrArg I.bool mq) ?_
           simp only [mq, Bool.not_true, Bool.not_false]
           refine ws _ ?_
           exact aK (asa _ (ao _ (.inl (aL [.bool false] rfl (by cases aH h; rfl) (by decide) aM))))
          ·refine aZ (congrArg I.bool mq) ?_
           simp only [mq, Bool.not_true, Bool.not_false]
           refine a5 (ar_ _ (.inl ?_))
           refine ws _ ?_
           exact aK (ao _ (.inl (aL [.bool true] rfl (by cases aH h; rfl) (by decide) aM)))
end Go.Proofs.YtbemmmimelklkaaGreat
