/- Part of a proof that a law returns true for every input. No condition. -/
import Derived.Test.YtbemmmimelklkaaGreatW1x5
namespace Go.Proofs.YtbemmmimelklkaaGreat
open Go Go.dk Go.f_
set_option maxRecDepth 100000
set_option linter.unusedSimpArgs false
set_option linter.unusedVariables false
set_option maxHeartbeats 600000 in
theorem ark (J : List (List UInt8)) (ab : List (List UInt8)) (r : Int) (h : AN J ab = some r) : aR aJ 207 [.slice (J.map bu), .slice (ab.map bu)] (.int .i64 r) [] := by
 refine aR.bY (fx := [0, 1]) bZ [.tmp 4] [(0, .slice (J.map bu)), (1, .slice (ab.map bu))] Tryz.func207 rfl rfl ahm (Nat.le_of_ble_eq_true rfl) rfl rfl (fun bV an bS => ?_)
 refine ws _ ?_
 refine aN (fun ek bR bj ao => ?_)
 refine ws _ ?_
 refine bK (fun dQ eL b9 ba bl => ?_)
 have fo : ∀ (n : Nat) (l7 : Int), w5 J ab n l7 = some r → dG aJ Lb dQ (aa [(0, .slice (J.map bu)), (1, .slice (ab.map bu)), (9, .slice (J.map bu)), (10, .int .i64 (J.length : Int)), (11, .int .i64 l7)]) := by
  intro ch
  induction ch with
  | zero => intro l7 h; cases (show none = some r from h)
  | succ ch fa =>
   intro l7 h
   replace h : EN (w5 J ab ch) J ab l7 = some r := h
   refine dW (fun g6 dR dJ br => ?_)
   refine ws _ ?_
   refine aN (fun hp dZ eW dm => ?_)
   rcases aT h with ⟨a6, h⟩ | ⟨a6, h⟩
   ·refine aX (congrArg I.bool a6) ?_
    simp only [a6, Bool.not_true, Bool.not_false]
    refine a5 (dZ _ (.inl ?_))
    refine aN (fun ey cQ cg dB => ?_)
    refine bK (fun e1 cd cA b2 c4 => ?_)
    obtain ⟨ag, eh, h⟩ := aO h
    refine hR eh _ ?_
    refine aN (fun lj g3 gi jd => ?_)
    refine ws _ ?_
    rcases aT h with ⟨cB, h⟩ | ⟨cB, h⟩
    ·refine aX (congrArg I.bool cB) ?_
     simp only [cB, Bool.not_true, Bool.not_false]
     refine ws _ ?_
     exact aK (gi _ (cA _ (cg _ (dJ _ (b9 _ (bj _ (an _ (.inl (aL [.int .i64 1] rfl (by cases aH h; rfl) (by decide) aM)))))))))
    ·refine a0 (congrArg I.bool cB) ?_
     simp only [cB, Bool.not_true, Bool.not_false]
     refine a5 (g3 _ (.inl ?_))
     obtain ⟨ao, e9, h⟩ := aO h
     refine hR e9 _ ?_
     obtain ⟨aZ, jK, h⟩ := aO h
     refine dK (arj ag ao _ jK) _ ?_
     refine ws _ ?_
     rcases aT h with ⟨i3, h⟩ | ⟨i3, h⟩
     ·refine aX (congrArg I.bool i3) ?_
      simp only [i3, Bool.not_true, Bool.not_false]
      refine ws _ ?_
      exact aK (cA _ (cg _ (dJ _ (b9 _ (bj _ (an _ (.inl (aL [.int .i64 aZ] rfl (by cases aH h; rfl) (by decide) aM))))))))
     ·refine a0 (congrArg I.bool i3) ?_
      simp only [i3, Bool.not_true, Bool.not_false]
      refine a5 (cd _ (cQ _ (.inl ?_)))
      refine wr _ ?_
      exact dR _ (.inr ⟨_, bx rfl, fa (IntKind.i64.wrap (l7 + 1)) h⟩)
   ·refine a0 (congrArg I.bool a6) ?_
    simp only [a6, Bool.not_true, Bool.not_false]
    refine dU (dm 0 _ (br 0 _ (ba _ (bR _ (.inl ?_)))))
    refine aN (fun aqY FH BU aqZ => ?_)
    refine ws _ ?_
    rcases aT h with ⟨jg, h⟩ | ⟨jg, h⟩
    ·refine aX (congrArg I.bool jg) ?_
     simp only [jg, Bool.not_true, Bool.not_false]
     refine ws _ ?_
     exact aK (BU _ (an _ (.inl (aL [.int .i64 (-1)] rfl (by cases aH h; rfl) (by decide) aM))))
    ·refine a0 (congrArg I.bool jg) ?_
     simp only [jg, Bool.not_true, Bool.not_false]
     refine a5 (FH _ (.inl ?_))
     refine ws _ ?_
     exact aK (an _ (.inl (aL [.int .i64 0] rfl (by cases aH h; rfl) (by decide) aM)))
 obtain ⟨n, h⟩ := dM h
 exact dV (.inr ⟨_, bx rfl, fo n 0 h⟩)
theorem arl (J : bT) (ab : bT) (r : Int) (h : AO J ab = some r) : aR aJ 171 [bo J, bo ab] (.int .i64 r) [] := by
 refine aR.bY (fx := [0, 1]) bZ [.tmp 4] [(0, bo J), (1, bo ab)] Tryz.func171 rfl rfl ahp (Nat.le_of_ble_eq_true rfl) rfl rfl (fun bV an bS => ?_)
 refine ws _ ?_
 obtain ⟨ag, a2, h⟩ := aO h
 refine cT (b1 [(4, .int .i64 ag)] (fun P ak => ?_) ?_)
 ·simp only [aY.down, simprocAttr, eX, kE, mB, bo, bu, (show ∀ s, eD aJ s 25 2 [(0, .str J.Left), (1, .str J.b6)] = some (.aw 1 [.str J.Left, .str J.b6], s) from fun s => by kernel_rfl), (show ∀ s, eD aJ s 25 2 [(0, .str ab.Left), (1, .str ab.b6)] = some (.aw 1 [.str ab.Left, .str ab.b6], s) from fun s => by kernel_rfl)]
  refine ft (ark [J.Left, J.b6] [ab.Left, ab.b6] _ a2) rfl rfl (by simp only [aY.down, simprocAttr, eX, kE, mB, bo, bu, (show ∀ s, eD aJ s 25 2 [(0, .str J.Left), (1, .str J.b6)] = some (.aw 1 [.str J.Left, .str J.b6], s) from fun s => by kernel_rfl), (show ∀ s, eD aJ s 25 2 [(0, .str ab.Left), (1, .str ab.b6)] = some (.aw 1 [.str ab.Left, .str ab.b6], s) from fun s => by kernel_rfl), hj, hk, hn, dn, @cj _ bu bu (fun _ => jf _), @cj _ bu bu (fun _ => jf _)] <;> rfl) rfl (.inr (by rfl)) ?_
  simp only [aY.down, simprocAttr, eX, kE, mB, bo, bu, (show ∀ s, eD aJ s 25 2 [(0, .str J.Left), (1, .str J.b6)] = some (.aw 1 [.str J.Left, .str J.b6], s) from fun s => by kernel_rfl), (show ∀ s, eD aJ s 25 2 [(0, .str ab.Left), (1, .str ab.b6)] = some (.aw 1 [.str ab.Left, .str ab.b6], s) from fun s => by kernel_rfl)]
  (try simp only [bn.down, simprocAttr, bo, bu, (show ∀ s, eD aJ s 25 2 [(0, .str J.Left), (1, .str J.b6)] = some (.aw 1 [.str J.Left, .str J.b6], s) from fun s => by kernel_rfl), (show ∀ s, eD aJ s 25 2 [(0, .str ab.Left), (1, .str ab.b6)] = some (.aw 1 [.str ab.Left, .str ab.b6], s) from fun s => by kernel_rfl)] at ak ⊢); exact ak
 exact aK (an _ (.inl (aL [.int .i64 ag] rfl (by cases aH h; rfl) (by decide) aM)))
theorem arn (J : bT) (ab : bT) (r : Bool) (h : EO J ab = some r) : aR aJ 173 [bo J, .ref (bo ab)] (.bool r) [] := by
 refine aR.bY (fx := [0, 1]) bZ [.tmp 3] [(0, bo J), (1, .ref (bo ab))] Tryz.func173 rfl rfl ahs (Nat.le_of_ble_eq_true rfl) rfl rfl (fun bV an bS => ?_)
 refine ws _ ?_
 refine cT (b1 [(3, .bool ((J.Left == ab.Result) || (J.b6 == ab.Result)))] (fun P ak => ?_) ?_)
 ·rcases Bool.eq_false_or_eq_true (J.Left == ab.Result) with e6 | e6
  ·simp only [aY.down, simprocAttr, mL.down, e6]
   (try simp only [bn.down, simprocAttr, bo, e6] at ak ⊢); exact ak
  ·simp only [aY.down, simprocAttr, mL.down, e6]
   (try simp only [bn.down, simprocAttr, bo, e6] at ak ⊢); exact ak
 exact aK (an _ (.inl (aL [.bool ((J.Left == ab.Result) || (J.b6 == ab.Result))] rfl (by cases aH h; rfl) (by decide) aM)))
theorem aro (J : List bT) (ab : bT) (r : Int) (h : EP J ab = some r) : aR aJ 208 [.slice (J.map bo), .fn 173 [.ref (bo ab)]] (.int .i64 r) [] := by
 refine aR.bY (fx := [0, 1]) bZ [.tmp 4] [(0, .slice (J.map bo)), (1, .fn 173 [.ref (bo ab)])] Tryz.func208 rfl rfl ahD (Nat.le_of_ble_eq_true rfl) rfl rfl (fun bV an bS => ?_)
 refine ws _ ?_
 refine aN (fun ek bR bj ao => ?_)
 refine ws _ ?_
 refine bK (fun dQ eL b9 ba bl => ?_)
 have fo : ∀ (n : Nat) (c5 : Int), uz J ab n c5 = some r → dG aJ Lc dQ (aa [(0, .slice (J.map bo)), (1, .fn 173 [.ref (bo ab)]), (7, .int .i64 (J.length : Int)), (8, .int .i64 c5)]) := by
  intro ch
  induction ch with
  | zero => intro c5 h; cases (show none = some r from h)
  | succ ch fa =>
   intro c5 h
   replace h : AP (uz J ab ch) J ab c5 = some r := h
   refine dW (fun g6 dR dJ br => ?_)
   refine ws _ ?_
   refine aN (fun hp dZ eW dm => ?_)
   rcases aT h with ⟨a6, h⟩ | ⟨a6, h⟩
   ·refine aX (congrArg I.bool a6) ?_
    simp only [a6, Bool.not_true, Bool.not_false]
    refine a5 (dZ _ (.inl ?_))
    refine aN (fun ey cQ cg dB => ?_)
    refine bK (fun e1 cd cA b2 c4 => ?_)
    refine ws _ ?_
    obtain ⟨ag, eC, h⟩ := aO h
    obtain ⟨ao, e5, h⟩ := aO h
    refine iB eC (arn ag ab _ e5) _ ?_
    rcases aT h with ⟨cB, h⟩ | ⟨cB, h⟩
    ·refine aX (congrArg I.bool cB) ?_
     simp only [cB, Bool.not_true, Bool.not_false]
     refine ws _ ?_
     exact aK (cA _ (cg _ (dJ _ (b9 _ (bj _ (an _ (.inl (aL [.int .i64 c5] rfl (by cases aH h; rfl) (by decide) aM))))))))
    ·refine a0 (congrArg I.bool cB) ?_
     simp only [cB, Bool.not_true, Bool.not_false]
     refine a5 (cd _ (cQ _ (.inl ?_)))
     refine wr _ ?_
     exact dR _ (.inr ⟨_, bx rfl, fa (IntKind.i64.wrap (c5 + 1)) h⟩)
   ·refine a0 (congrArg I.bool a6) ?_
    simp only [a6, Bool.not_true, Bool.not_false]
    refine dU (dm 0 _ (br 0 _ (ba _ (bR _ (.inl ?_)))))
    refine ws _ ?_
    exact aK (an _ (.inl (aL [.int .i64 (-1)] rfl (by cases aH h; rfl) (by decide) aM)))
 obtain ⟨n, h⟩ := dM h
 exact dV (.inr ⟨_, bx rfl, fo n 0 h⟩)
theorem LY (J : List bT) (ab : bT) (r : Bool) (h : w6 J ab = some r) : aR aJ 172 [.slice (J.map bo), .fn 173 [.ref (bo ab)]] (.bool r) [] := by
 refine aR.bY (fx := [0, 1]) bZ [.tmp 4] [(0, .slice (J.map bo)), (1, .fn 173 [.ref (bo ab)])] Tryz.func172 rfl rfl ahG (Nat.le_of_ble_eq_true rfl) rfl rfl (fun bV an bS => ?_)
 refine ws _ ?_
 obtain ⟨ag, a2, h⟩ := aO h
 refine dK (aro J ab _ a2) _ ?_
 exact aK (an _ (.inl (aL [.bool (decide (0 ≤ ag))] rfl (by cases aH h; rfl) (by decide) aM)))
set_option maxHeartbeats 2400000 in
theorem arp (J : List bT) (r : Bool) (h : AR J = some r) : aR aJ 131 [.slice (J.map bo)] (.bool r) [] := by
 refine aR.bY (fx := [0]) bZ [.tmp 2] [(0, .slice (J.map bo))] Tryz.func131 rfl rfl ahU (Nat.le_of_ble_eq_true rfl) rfl rfl (fun bV an bS => ?_)
 refine ws _ ?_
 refine aN (fun ek bR bj ao => ?_)
 refine ws _ ?_
 refine bK (fun dQ eL b9 ba bl => ?_)
 have fo : ∀ (n : Nat) (eI : Int), r7 J n eI = some r → dG aJ Ld dQ (aa [(0, .slice (J.map bo)), (5, .slice (J.map bo)), (6, .int .i64 (J.length : Int)), (7, .int .i64 eI)]) := by
  intro ch
  induction ch with
  | zero => intro eI h; cases (show none = some r from h)
  | succ ch fa =>
   intro eI h
   replace h : AQ (r7 J ch) J eI = some r := h
   refine dW (fun g6 dR dJ br => ?_)
   refine ws _ ?_
   refine aN (fun hp dZ eW dm => ?_)
   rcases aT h with ⟨a6, h⟩ | ⟨a6, h⟩
   ·refine aX (congrArg I.bool a6) ?_
    simp only [a6, Bool.not_true, Bool.not_false]
    refine a5 (dZ _ (.inl ?_))
    refine aN (fun ey cQ cg dB => ?_)
    refine bK (fun e1 cd cA b2 c4 => ?_)
    obtain ⟨ag, eh, h⟩ := aO h
    refine hR eh _ ?_
    refine aN (fun lj g3 gi jd => ?_)
    obtain ⟨br, hC, h⟩ := aO h
    rcases aT h with ⟨fe, h⟩ | ⟨fe, h⟩
    ·refine hi rfl (gY [(0, .slice (J.map bo)), (4, .a8 (bo ag)), (5, .slice (J.map bo)), (6, .int .i64 (J.length : Int)), (7, .int .i64 eI), (48, .bool true)] (fun P ak => ?_) ?_)
     ·simp only [dp.down, simprocAttr, gV.down, (c8 fe)]
      refine iw (ko ag.Left _ hC) rfl rfl rfl rfl (.inl (by rfl)) ?_
      simp only [dp.down, simprocAttr, gV.down, (c8 fe)]
      refine ⟨gJ (by kernel_rfl), ?_⟩
      (try simp only [bn.down, simprocAttr, bo, (c8 fe)] at ak ⊢); exact ak
     refine aX rfl ?_
     refine ws _ ?_
     exact aK (gi _ (cA _ (cg _ (dJ _ (b9 _ (bj _ (an _ (.inl (aL [.bool false] rfl (by cases aH h; rfl) (by decide) aM)))))))))
    ·obtain ⟨b4, kF, h⟩ := aO h
     rcases aT h with ⟨e_, h⟩ | ⟨e_, h⟩
     ·refine hi rfl (gY [(0, .slice (J.map bo)), (4, .a8 (bo ag)), (5, .slice (J.map bo)), (6, .int .i64 (J.length : Int)), (7, .int .i64 eI), (48, .bool true)] (fun P ak => ?_) ?_)
      ·simp only [dp.down, simprocAttr, gV.down, (bq fe), (c8 e_)]
       refine iw (ko ag.Left _ hC) rfl rfl rfl rfl (.inl (by rfl)) ?_
       simp only [dp.down, simprocAttr, gV.down, (bq fe), (c8 e_)]
       refine l1 (ko ag.b6 _ kF) rfl rfl rfl rfl (.inl (by rfl)) ?_
       simp only [dp.down, simprocAttr, gV.down, (bq fe), (c8 e_)]
       refine ⟨gJ (by kernel_rfl), ?_⟩
       (try simp only [bn.down, simprocAttr, bo, (bq fe), (c8 e_)] at ak ⊢); exact ak
      refine aX rfl ?_
      refine ws _ ?_
      exact aK (gi _ (cA _ (cg _ (dJ _ (b9 _ (bj _ (an _ (.inl (aL [.bool false] rfl (by cases aH h; rfl) (by decide) aM)))))))))
     ·obtain ⟨dm, BW, h⟩ := aO h
      rcases aT h with ⟨i4, h⟩ | ⟨i4, h⟩
      ·refine hi rfl (gY [(0, .slice (J.map bo)), (4, .a8 (bo ag)), (5, .slice (J.map bo)), (6, .int .i64 (J.length : Int)), (7, .int .i64 eI), (48, .bool true)] (fun P ak => ?_) ?_)
       ·simp only [dp.down, simprocAttr, gV.down, (bq fe), (bq e_), (c8 i4)]
        refine iw (ko ag.Left _ hC) rfl rfl rfl rfl (.inl (by rfl)) ?_
        simp only [dp.down, simprocAttr, gV.down, (bq fe), (bq e_), (c8 i4)]
        refine l1 (ko ag.b6 _ kF) rfl rfl rfl rfl (.inl (by rfl)) ?_
        simp only [dp.down, simprocAttr, gV.down, (bq fe), (bq e_), (c8 i4)]
        refine l1 (ko ag.Result _ BW) rfl rfl rfl rfl (.inl (by rfl)) ?_
        simp only [dp.down, simprocAttr, gV.down, (bq fe), (bq e_), (c8 i4)]
        refine ⟨gJ (by kernel_rfl), ?_⟩
        (try simp only [bn.down, simprocAttr, bo, (bq fe), (bq e_), (c8 i4)] at ak ⊢); exact ak
       refine aX rfl ?_
       refine ws _ ?_
       exact aK (gi _ (cA _ (cg _ (dJ _ (b9 _ (bj _ (an _ (.inl (aL [.bool false] rfl (by cases aH h; rfl) (by decide) aM)))))))))
      ·rcases aT h with ⟨jh, h⟩ | ⟨jh, h⟩
       ·refine hi rfl (gY [(0, .slice (J.map bo)), (4, .a8 (bo ag)), (5, .slice (J.map bo)), (6, .int .i64 (J.length : Int)), (7, .int .i64 eI), (48, .bool true)] (fun P ak => ?_) ?_)
        ·simp only [dp.down, simprocAttr, gV.down, (bq fe), (bq e_), (bq i4), jh]
         refine iw (ko ag.Left _ hC) rfl rfl rfl rfl (.inl (by rfl)) ?_
         simp only [dp.down, simprocAttr, gV.down, (bq fe), (bq e_), (bq i4), jh]
         refine l1 (ko ag.b6 _ kF) rfl rfl rfl rfl (.inl (by rfl)) ?_
         simp only [dp.down, simprocAttr, gV.down, (bq fe), (bq e_), (bq i4), jh]
         refine l1 (ko ag.Result _ BW) rfl rfl rfl rfl (.inl (by rfl)) ?_
         simp only [dp.down, simprocAttr, gV.down, (bq fe), (bq e_), (bq i4), jh]
         refine ⟨gJ (by kernel_rfl), ?_⟩
         (try simp only [bn.down, simprocAttr, bo, (bq fe), (bq e_), (bq i4), jh] at ak ⊢); exact ak
        refine aX rfl ?_
        refine ws _ ?_
        exact aK (gi _ (cA _ (cg _ (dJ _ (b9 _ (bj _ (an _ (.inl (aL [.bool false] rfl (by cases aH h; rfl) (by decide) aM)))))))))
       ·rcases aT h with ⟨fX, h⟩ | ⟨fX, h⟩
        ·obtain ⟨gh, oa, h⟩ := aO h
         obtain ⟨dB, sx, h⟩ := aO h
         refine hi rfl (gY [(0, .slice (J.map bo)), (4, .a8 (bo ag)), (5, .slice (J.map bo)), (6, .int .i64 (J.length : Int)), (7, .int .i64 eI), (48, .bool (decide (0 ≤ dB)))] (fun P ak => ?_) ?_)
         ·simp only [dp.down, simprocAttr, gV.down, (bq fe), (bq e_), (bq i4), jh, fX, oa]
          refine iw (ko ag.Left _ hC) rfl rfl rfl rfl (.inl (by rfl)) ?_
          simp only [dp.down, simprocAttr, gV.down, (bq fe), (bq e_), (bq i4), jh, fX, oa]
          refine l1 (ko ag.b6 _ kF) rfl rfl rfl rfl (.inl (by rfl)) ?_
          simp only [dp.down, simprocAttr, gV.down, (bq fe), (bq e_), (bq i4), jh, fX, oa]
          refine l1 (ko ag.Result _ BW) rfl rfl rfl rfl (.inl (by rfl)) ?_
          simp only [dp.down, simprocAttr, gV.down, (bq fe), (bq e_), (bq i4), jh, fX, oa]
          refine l1 (arl gh ag _ sx) rfl rfl rfl rfl (.inl (by rfl)) ?_
          simp only [dp.down, simprocAttr, gV.down, (bq fe), (bq e_), (bq i4), jh, fX, oa]
          refine ⟨gJ (by kernel_rfl), ?_⟩
          (try simp only [bn.down, simprocAttr, bo, (bq fe), (bq e_), (bq i4), jh, fX, oa] at ak ⊢); exact ak
         rcases aT h with ⟨ob, h⟩ | ⟨ob, h⟩
         ·refine aX (congrArg I.bool ob) ?_
          simp only [ob, Bool.not_true, Bool.not_false]
          refine ws _ ?_
          exact aK (gi _ (cA _ (cg _ (dJ _ (b9 _ (bj _ (an _ (.inl (aL [.bool false] rfl (by cases aH h; rfl) (by decide) aM)))))))))
         ·refine a0 (congrArg I.bool ob) ?_
          simp only [ob, Bool.not_true, Bool.not_false]
          refine a5 (g3 _ (.inl ?_))
          obtain ⟨c4, arq, h⟩ := aO h
          refine cT (b1 [(0, .slice (J.map bo)), (5, .slice (J.map bo)), (6, .int .i64 (J.length : Int)), (7, .int .i64 eI), (51, .bool c4)] (fun P ak => ?_) ?_)
          ·simp only [aY.down, simprocAttr, bo]
           refine ft (LY J ag _ arq) rfl rfl (by simp only [aY.down, simprocAttr, bo, hj, hk, hn, dn] <;> rfl) rfl (.inr (by rfl)) ?_
           simp only [aY.down, simprocAttr, bo]
           (try simp only [bn.down, simprocAttr, bo] at ak ⊢); exact ak
          rcases aT h with ⟨xZ, h⟩ | ⟨xZ, h⟩
          ·refine aX (congrArg I.bool xZ) ?_
           simp only [xZ, Bool.not_true, Bool.not_false]
           refine ws _ ?_
           exact aK (cA _ (cg _ (dJ _ (b9 _ (bj _ (an _ (.inl (aL [.bool false] rfl (by cases aH h; rfl) (by decide) aM))))))))
          ·refine a0 (congrArg I.bool xZ) ?_
           simp only [xZ, Bool.not_true, Bool.not_false]
           refine a5 (cd _ (cQ _ (.inl ?_)))
           refine wr _ ?_
           exact dR _ (.inr ⟨_, bx rfl, fa (IntKind.i64.wrap (eI + 1)) h⟩)
        ·refine hi rfl (gY [(0, .slice (J.map bo)), (4, .a8 (bo ag)), (5, .slice (J.map bo)), (6, .int .i64 (J.length : Int)), (7, .int .i64 eI), (48, .bool false)] (fun P ak => ?_) ?_)
         ·simp only [dp.down, simprocAttr, gV.down, (bq fe), (bq e_), (bq i4), jh, fX]
          refine iw (ko ag.Left _ hC) rfl rfl rfl rfl (.inl (by rfl)) ?_
          simp only [dp.down, simprocAttr, gV.down, (bq fe), (bq e_), (bq i4), jh, fX]
          refine l1 (ko ag.b6 _ kF) rfl rfl rfl rfl (.inl (by rfl)) ?_
          simp only [dp.down, simprocAttr, gV.down, (bq fe), (bq e_), (bq i4), jh, fX]
          refine l1 (ko ag.Result _ BW) rfl rfl rfl rfl (.inl (by rfl)) ?_
          simp only [dp.down, simprocAttr, gV.down, (bq fe), (bq e_), (bq i4), jh, fX]
          refine ⟨gJ (by kernel_rfl), ?_⟩
          (try simp only [bn.down, simprocAttr, bo, (bq fe), (bq e_), (bq i4), jh, fX] at ak ⊢); exact ak
         refine a0 rfl ?_
         refine a5 (g3 _ (.inl ?_))
         obtain ⟨eF, FI, h⟩ := aO h
         refine cT (b1 [(0, .slice (J.map bo)), (5, .slice (J.map bo)), (6, .int .i64 (J.length : Int)), (7, .int .i64 eI), (51, .bool eF)] (fun P ak => ?_) ?_)
         ·simp only [aY.down, simprocAttr, bo]
          refine ft (LY J ag _ FI) rfl rfl (by simp only [aY.down, simprocAttr, bo, hj, hk, hn, dn] <;> rfl) rfl (.inr (by rfl)) ?_
          simp only [aY.down, simprocAttr, bo]
          (try simp only [bn.down, simprocAttr, bo] at ak ⊢); exact ak
         rcases aT h with ⟨n8, h⟩ | ⟨n8, h⟩
         ·refine aX (congrArg I.bool n8) ?_
          simp only [n8, Bool.not_true, Bool.not_false]
          refine ws _ ?_
          exact aK (cA _ (cg _ (dJ _ (b9 _ (bj _ (an _ (.inl (aL [.bool false] rfl (by cases aH h; rfl) (by decide) aM))))))))
         ·refine a0 (congrArg I.bool n8) ?_
          simp only [n8, Bool.not_true, Bool.not_false]
          refine a5 (cd _ (cQ _ (.inl ?_)))
          refine wr _ ?_
          exact dR _ (.inr ⟨_, bx rfl, fa (IntKind.i64.wrap (eI + 1)) h⟩)
   ·refine a0 (congrArg I.bool a6) ?_
    simp only [a6, Bool.not_true, Bool.not_false]
    refine dU (dm 0 _ (br 0 _ (ba _ (bR _ (.inl ?_)))))
    refine ws _ ?_
    exact aK (an _ (.inl (aL [.bool (decide ((J.length : Int) ≤ 6))] rfl (by cases aH h; rfl) (by decide) aM)))
 obtain ⟨n, h⟩ := dM h
 exact dV (.inr ⟨_, bx rfl, fo n 0 h⟩)
theorem LZ (J : List (List UInt8)) (r : Bool) (h : w7 J = some r) : aR aJ 132 [.slice (J.map bu)] (.bool r) [] := by
 refine aR.bY (fx := [0]) bZ [.tmp 2] [(0, .slice (J.map bu))] Tryz.func132 rfl rfl ah5 (Nat.le_of_ble_eq_true rfl) rfl rfl (fun bV an bS => ?_)
 refine ws _ ?_
 refine aN (fun ek bR bj ao => ?_)
 refine ws _ ?_
 refine bK (fun dQ eL b9 ba bl => ?_)
 have fo : ∀ (n : Nat) (eI : Int), r8 J n eI = some r → dG aJ Le dQ (aa [(0, .slice (J.map bu)), (5, .slice (J.map bu)), (6, .int .i64 (J.length : Int)), (7, .int .i64 eI)]) := by
  intro ch
  induction ch with
  | zero => intro eI h; cases (show none = some r from h)
  | succ ch fa =>
   intro eI h
   replace h : AS (r8 J ch) J eI = some r := h
   refine dW (fun g6 dR dJ br => ?_)
   refine ws _ ?_
   refine aN (fun hp dZ eW dm => ?_)
   rcases aT h with ⟨a6, h⟩ | ⟨a6, h⟩
   ·refine aX (congrArg I.bool a6) ?_
    simp only [a6, Bool.not_true, Bool.not_false]
    refine a5 (dZ _ (.inl ?_))
    refine aN (fun ey cQ cg dB => ?_)
    refine bK (fun e1 cd cA b2 c4 => ?_)
    obtain ⟨ag, eh, h⟩ := aO h
    refine hR eh _ ?_
    obtain ⟨ao, e5, h⟩ := aO h
    rcases aT h with ⟨cB, h⟩ | ⟨cB, h⟩
    ·refine iB (c8 cB) (ko ag _ e5) _ ?_
     refine aX rfl ?_
     refine ws _ ?_
     exact aK (cA _ (cg _ (dJ _ (b9 _ (bj _ (an _ (.inl (aL [.bool false] rfl (by cases aH h; rfl) (by decide) aM))))))))
    ·rcases aT h with ⟨ib, h⟩ | ⟨ib, h⟩
     ·obtain ⟨aZ, e9, h⟩ := aO h
      refine iB (And.intro (bq cB) (And.intro ib e9)) (ko ag _ e5) _ ?_
      rcases aT h with ⟨dL, h⟩ | ⟨dL, h⟩
      ·refine aX (congrArg I.bool dL) ?_
       simp only [dL, Bool.not_true, Bool.not_false]
       refine ws _ ?_
       exact aK (cA _ (cg _ (dJ _ (b9 _ (bj _ (an _ (.inl (aL [.bool false] rfl (by cases aH h; rfl) (by decide) aM))))))))
      ·refine a0 (congrArg I.bool dL) ?_
       simp only [dL, Bool.not_true, Bool.not_false]
       refine a5 (cd _ (cQ _ (.inl ?_)))
       refine wr _ ?_
       exact dR _ (.inr ⟨_, bx rfl, fa (IntKind.i64.wrap (eI + 1)) h⟩)
     ·refine iB (And.intro (bq cB) ib) (ko ag _ e5) _ ?_
      refine a0 rfl ?_
      refine a5 (cd _ (cQ _ (.inl ?_)))
      refine wr _ ?_
      exact dR _ (.inr ⟨_, bx rfl, fa (IntKind.i64.wrap (eI + 1)) h⟩)
   ·refine a0 (congrArg I.bool a6) ?_
    simp only [a6, Bool.not_true, Bool.not_false]
    refine dU (dm 0 _ (br 0 _ (ba _ (bR _ (.inl ?_)))))
    refine ws _ ?_
    exact aK (an _ (.inl (aL [.bool (decide ((J.length : Int) ≤ 12))] rfl (by cases aH h; rfl) (by decide) aM)))
 obtain ⟨n, h⟩ := dM h
 exact dV (.inr ⟨_, bx rfl, fo n 0 h⟩)
set_option maxHeartbeats 600000 in
theorem ars (J : ev) (r : Int) (h : AU J = some r) : aR aJ 79 [e0 J] (.int .i64 r) [] := by
 refine aR.bY (fx := [0]) bZ [.tmp 2] [(0, e0 J)] Tryz.func79 rfl rfl ain (Nat.le_of_ble_eq_true rfl) rfl rfl (fun bV an bS => ?_)
 refine ws _ ?_
 refine aN (fun ek bR bj ao => ?_)
 refine bK (fun kk gK dO lz aZ => ?_)
 obtain ⟨ag, c9, h⟩ := aO h
 refine dK (aq9 J.e8 _ c9) _ ?_
 rcases aT h with ⟨cL, h⟩ | ⟨cL, h⟩
 ·refine aX (congrArg I.bool cL) ?_
  simp only [(c8 cL), Bool.not_true, Bool.not_false]
  refine ws _ ?_
  exact aK (dO _ (bj _ (an _ (.inl (aL [.int .i64 1] rfl (by cases aH h; rfl) (by decide) aM)))))
 ·refine a0 (congrArg I.bool cL) ?_
  simp only [(bq cL), Bool.not_true, Bool.not_false]
  obtain ⟨ao, ku, h⟩ := aO h
  rcases aT h with ⟨b2, h⟩ | ⟨b2, h⟩
  ·refine iB (c8 b2) (jL (J.b_.length : Int) 1 3 _ ku) _ ?_
   refine aX rfl ?_
   refine ws _ ?_
   exact aK (dO _ (bj _ (an _ (.inl (aL [.int .i64 2] rfl (by cases aH h; rfl) (by decide) aM)))))
  ·obtain ⟨aZ, eh, h⟩ := aO h
   refine cT (b1 [(1, .a8 (e0 J)), (8, .bool aZ)] (fun P ak => ?_) ?_)
   ·simp only [aY.down, simprocAttr, n4.down, (bq b2)]
    refine ft (jL (J.b_.length : Int) 1 3 _ ku) rfl rfl rfl rfl (.inl (by rfl)) ?_
    simp only [aY.down, simprocAttr, n4.down, (bq b2)]
    refine hy (ari J.b_ J _ eh) rfl rfl (by simp only [aY.down, simprocAttr, n4.down, (bq b2), hj, hk, hn, dn, @cj _ bp bp (fun _ => Bv _), @cj _ ep ep (fun _ => Bz _), @cj _ bo bo (fun _ => nq _), @cj _ bu bu (fun _ => jf _), @cj _ bu bu (fun _ => jf _)] <;> rfl) rfl (.inr (by rfl)) ?_
    simp only [aY.down, simprocAttr, n4.down, (bq b2)]
    (try simp only [bn.down, simprocAttr, pD.down, (bq b2)] at ak ⊢); exact ak
   rcases aT h with ⟨cH, h⟩ | ⟨cH, h⟩
   ·refine aX (congrArg I.bool cH) ?_
    simp only [cH, Bool.not_true, Bool.not_false]
    refine ws _ ?_
    exact aK (dO _ (bj _ (an _ (.inl (aL [.int .i64 2] rfl (by cases aH h; rfl) (by decide) aM)))))
   ·refine a0 (congrArg I.bool cH) ?_
    simp only [cH, Bool.not_true, Bool.not_false]
    obtain ⟨bl, cr, h⟩ := aO h
    refine dK (arp J.g1 _ cr) _ ?_
    rcases aT h with ⟨ib, h⟩ | ⟨ib, h⟩
    ·refine aX (congrArg I.bool ib) ?_
     simp only [(c8 ib), Bool.not_true, Bool.not_false]
     refine ws _ ?_
     exact aK (dO _ (bj _ (an _ (.inl (aL [.int .i64 3] rfl (by cases aH h; rfl) (by decide) aM)))))
    ·refine a0 (congrArg I.bool ib) ?_
     simp only [(bq ib), Bool.not_true, Bool.not_false]
     obtain ⟨br, jK, h⟩ := aO h
     refine dK (LZ J.gT _ jK) _ ?_
     rcases aT h with ⟨k1, h⟩ | ⟨k1, h⟩
     ·refine aX (congrArg I.bool k1) ?_
      simp only [(c8 k1), Bool.not_true, Bool.not_false]
      refine ws _ ?_
      exact aK (dO _ (bj _ (an _ (.inl (aL [.int .i64 4] rfl (by cases aH h; rfl) (by decide) aM)))))
     ·refine a0 (congrArg I.bool k1) ?_
      simp only [(bq k1), Bool.not_true, Bool.not_false]
      obtain ⟨b4, jr, h⟩ := aO h
      refine dK (LZ J.gU _ jr) _ ?_
      rcases aT h with ⟨gW, h⟩ | ⟨gW, h⟩
      ·refine aX (congrArg I.bool gW) ?_
       simp only [(c8 gW), Bool.not_true, Bool.not_false]
       refine ws _ ?_
       exact aK (dO _ (bj _ (an _ (.inl (aL [.int .i64 5] rfl (by cases aH h; rfl) (by decide) aM)))))
      ·refine a0 (congrArg I.bool gW) ?_
       simp only [(bq gW), Bool.not_true, Bool.not_false]
       refine a5 (gK _ (bR _ (.inl ?_)))
       refine ws _ ?_
       exact aK (an _ (.inl (aL [.int .i64 0] rfl (by cases aH h; rfl) (by decide) aM)))
theorem art (J : ev) (r : Bool) (h : AV J = some r) : aR aJ 43 [e0 J] (.bool r) [] := by
 refine aR.bY (fx := [0]) bZ [.tmp 2] [(0, e0 J)] Tryz.func43 rfl rfl aiq (Nat.le_of_ble_eq_true rfl) rfl rfl (fun bV an bS => ?_)
 refine ws _ ?_
 obtain ⟨ag, a2, h⟩ := aO h
 refine dK (ars J _ a2) _ ?_
 exact aK (an _ (.inl (aL [.bool (ag == 0)] rfl (by cases aH h; rfl) (by decide) aM)))
theorem aru (J : List Int) (r : (List Int)) (h : AW J = some r) : aR aJ 116 [.slice (J.map bA)] (.aw 1 (r.map bA)) [] := by
 refine aR.bY (fx := [0]) bZ [.tmp 2] [(0, .slice (J.map bA))] Tryz.func116 rfl rfl aiw (Nat.le_of_ble_eq_true rfl) rfl rfl (fun bV an bS => ?_)
 refine ws _ ?_
 refine aN (fun ek bR bj ao => ?_)
 rcases aT h with ⟨ba, h⟩ | ⟨ba, h⟩
 ·refine cT (b1 [(0, .slice (J.map bA)), (4, .e7)] (fun P ak => ?_) ?_)
  ·simp only [aY.down, simprocAttr, eb, hQ, bA, zk, (I6 ba), zl]
   (try simp only [bn.down, simprocAttr, bA, zk, (I6 ba), zl] at ak ⊢); exact ak
  obtain ⟨b3, h⟩ := M4 h
  refine QH rfl ?_ ?_
  ·replace h := b3
   refine ws _ ?_
   exact aK (bj _ (an _ (.inr ⟨[(2, .aw 1 [])], oN [] rfl (oP (t := 2) (d := .bc) rfl rfl (.lY _) (by decide) (oO)), aL [.aw 1 []] rfl (by cases aH h; rfl) (by decide) aM⟩)))
  ·refine a5 (bR _ (.inl ?_))
   obtain ⟨u8, hN, h⟩ := aO h
   (try simp only [List.length_append, List.length_cons, List.length_nil, List.length_map, List.length_replicate, Nat.zero_add, Nat.add_zero, Nat.reduceAdd] at hN)
   refine cT (b1 [(2, .aw 1 (J.map bA))] (fun P ak => ?_) ?_)
   ·simp only [aY.down, simprocAttr, eb, hQ, bA, (show ∀ s, eD aJ s 43 0 [] = some (.aw 1 [], s) from fun s => by kernel_rfl), @nc aJ 43 43 2 rfl rfl, nd, nf, ng, all_cons, all_nil, hN, @k_ _ bA 1 (fun _ => rfl)]
    (try simp only [bn.down, simprocAttr, bA, (show ∀ s, eD aJ s 43 0 [] = some (.aw 1 [], s) from fun s => by kernel_rfl), @nc aJ 43 43 2 rfl rfl, nd, nf, ng, all_cons, all_nil, hN, @k_ _ bA 1 (fun _ => rfl)] at ak ⊢); exact ak
   exact aK (an _ (.inl (aL [.aw 1 (J.map bA)] rfl (by cases aH h; rfl) (by decide) aM)))
 ·refine cT (b1 [(0, .slice (J.map bA)), (4, .bool false)] (fun P ak => ?_) ?_)
  ·simp only [aY.down, simprocAttr, eb, hQ, bA, zk, (I7 ba), zl]
   (try simp only [bn.down, simprocAttr, bA, zk, (I7 ba), zl] at ak ⊢); exact ak
  refine a0 rfl ?_
  refine a5 (bR _ (.inl ?_))
  obtain ⟨awk, lr, h⟩ := aO h
  (try simp only [List.length_append, List.length_cons, List.length_nil, List.length_map, List.length_replicate, Nat.zero_add, Nat.add_zero, Nat.reduceAdd] at lr)
  refine cT (b1 [(2, .aw 1 (J.map bA))] (fun P ak => ?_) ?_)
  ·simp only [aY.down, simprocAttr, eb, hQ, bA, (show ∀ s, eD aJ s 43 0 [] = some (.aw 1 [], s) from fun s => by kernel_rfl), @nc aJ 43 43 2 rfl rfl, nd, nf, ng, all_cons, all_nil, lr, @k_ _ bA 1 (fun _ => rfl)]
   (try simp only [bn.down, simprocAttr, bA, (show ∀ s, eD aJ s 43 0 [] = some (.aw 1 [], s) from fun s => by kernel_rfl), @nc aJ 43 43 2 rfl rfl, nd, nf, ng, all_cons, all_nil, lr, @k_ _ bA 1 (fun _ => rfl)] at ak ⊢); exact ak
  exact aK (an _ (.inl (aL [.aw 1 (J.map bA)] rfl (by cases aH h; rfl) (by decide) aM)))
set_option maxHeartbeats 800000 in
theorem arv (J : ev) (r : (List cU)) (h : AY J = some r) : aR aJ 68 [e0 J] (.aw 3 (r.map dH)) [] := by
 refine aR.bY (fx := [0]) bZ [.tmp 2] [(0, e0 J)] Tryz.func68 rfl rfl aiG (Nat.le_of_ble_eq_true rfl) rfl rfl (fun bV an bS => ?_)
 refine ws _ ?_
 refine ws _ ?_
 refine aN (fun kk gK dO aZ => ?_)
 refine ws _ ?_
 refine bK (fun g6 dR dJ bI br => ?_)
 have jH : ∀ (n : Nat) (bC : List cU) (l8 : Int), r9 J n bC l8 = some r → dG aJ Lf g6 (aa [(3, .aw 3 (bC.map dH)), (7, .slice (J.b_.map ep)), (8, .int .i64 (J.b_.length : Int)), (9, .int .i64 l8)]) := by
  intro fm
  induction fm with
  | zero => intro bC l8 h; cases (show none = some r from h)
  | succ fm jI =>
   intro bC l8 h
   replace h : AX (r9 J fm) J bC l8 = some r := h
   refine dW (fun fc dv dF b4 => ?_)
   refine ws _ ?_
   refine aN (fun hA hB gn gh => ?_)
   rcases aT h with ⟨d_, h⟩ | ⟨d_, h⟩
   ·refine aX (congrArg I.bool d_) ?_
    simp only [d_, Bool.not_true, Bool.not_false]
    refine a5 (hB _ (.inl ?_))
    refine aN (fun e1 cd cA c4 => ?_)
    refine bK (fun iP fw h1 hq eF => ?_)
    obtain ⟨ag, eC, h⟩ := aO h
    refine hR eC _ ?_
    obtain ⟨ao, eR, h⟩ := aO h
    obtain ⟨Fb, cr, h⟩ := aO h
    (try simp only [List.length_append, List.length_cons, List.length_nil, List.length_map, List.length_replicate, Nat.zero_add, Nat.add_zero, Nat.reduceAdd] at cr)
    refine Iv rfl (gY [(3, .aw 3 ((bC ++ [(cU.mk ag.eo 0 ao)]).map dH)), (7, .slice (J.b_.map ep)), (8, .int .i64 (J.b_.length : Int)), (9, .int .i64 l8)] (fun P ak => ?_) ?_)
    ·simp only [dp.down, simprocAttr, eb, hQ, qn, qo, la, bA, ep, dH, @tY aJ 104 [(2, 0), (2, 1), (43, 2)] [(.int .i64 0), (.int .i64 0), .bc] rfl rfl (by kernel_rfl), rG, tZ, rH, t_, el, ng, List.nil_append, List.cons_append, @tX aJ 59 104 1 3 [(.agg [(.int .i64 0), (.int .i64 0), .bc])] rfl rfl rfl (by kernel_rfl), rF, @nc aJ 59 59 104 rfl rfl, nd, nf, all_cons, all_nil, cr, @k_ _ dH 3 (fun _ => rfl)]
     refine iw (aru ag.c3 _ eR) rfl rfl rfl rfl (.inl (by rfl)) ?_
     simp only [dp.down, simprocAttr, eb, hQ, qn, qo, la, bA, ep, dH, @tY aJ 104 [(2, 0), (2, 1), (43, 2)] [(.int .i64 0), (.int .i64 0), .bc] rfl rfl (by kernel_rfl), rG, tZ, rH, t_, el, ng, List.nil_append, List.cons_append, @tX aJ 59 104 1 3 [(.agg [(.int .i64 0), (.int .i64 0), .bc])] rfl rfl rfl (by kernel_rfl), rF, @nc aJ 59 59 104 rfl rfl, nd, nf, all_cons, all_nil, cr, @k_ _ dH 3 (fun _ => rfl)]
     refine ⟨gJ (by kernel_rfl), ?_⟩
     (try simp only [bn.down, simprocAttr, bA, ep, dH, @tY aJ 104 [(2, 0), (2, 1), (43, 2)] [(.int .i64 0), (.int .i64 0), .bc] rfl rfl (by kernel_rfl), rG, tZ, rH, t_, el, ng, List.nil_append, List.cons_append, @tX aJ 59 104 1 3 [(.agg [(.int .i64 0), (.int .i64 0), .bc])] rfl rfl rfl (by kernel_rfl), rF, @nc aJ 59 59 104 rfl rfl, nd, nf, all_cons, all_nil, cr, @k_ _ dH 3 (fun _ => rfl)] at ak ⊢); exact ak
    refine fw _ (cd _ (.inl ?_))
    refine wr [(3, .aw 3 ((bC ++ [(cU.mk ag.eo 0 ao)]).map dH)), (7, .slice (J.b_.map ep)), (8, .int .i64 (J.b_.length : Int)), (9, .int .i64 (IntKind.i64.wrap (l8 + 1)))] ?_
    exact dv _ (.inr ⟨_, bx rfl, jI (bC ++ [(cU.mk ag.eo 0 ao)]) (IntKind.i64.wrap (l8 + 1)) h⟩)
   ·refine a0 (congrArg I.bool d_) ?_
    simp only [d_, Bool.not_true, Bool.not_false]
    refine dU (gh 0 _ (b4 0 _ (bI _ (gK _ (.inl ?_)))))
    refine ws _ ?_
    exact aK (an _ (.inl (aL [.aw 3 (bC.map dH)] rfl (by cases aH h; rfl) (by decide) aM)))
 obtain ⟨n, h⟩ := dM h
 exact dV (.inr ⟨_, oN [] rfl (oP (t := 3) (d := .bc) (bF := .aw 3 []) rfl rfl (.lY _) (by decide) (l3 (t := 7) (d := .slice (J.b_.map ep)) rfl (l3 (t := 8) (d := .int .i64 (J.b_.length : Int)) rfl (l3 (t := 9) (d := .int .i64 0) rfl (oO))))), jH n [] 0 h⟩)
theorem L0 (J : ev) (r : (List cU) × Int) (h : w8 J = some r) : aR aJ 27 [e0 J] (.tuple [.aw 3 (r.1.map dH), .int .i64 r.2]) [] := by
 refine aR.bY (fx := [0]) bZ [.tmp 2, .tmp 3] [(0, e0 J)] Tryz.func27 rfl rfl aiM (Nat.le_of_ble_eq_true rfl) rfl rfl (fun bV an bS => ?_)
 refine ws _ ?_
 refine aN (fun ek bR bj ao => ?_)
 obtain ⟨ag, c1, h⟩ := aO h
 refine dK (art J _ c1) _ ?_
 rcases aT h with ⟨bI, h⟩ | ⟨bI, h⟩
 ·refine aX (congrArg I.bool bI) ?_
  simp only [(c8 bI), Bool.not_true, Bool.not_false]
  refine ws _ ?_
  exact aK (bj _ (an _ (.inr ⟨[(2, .aw 3 []), (3, .int .i64 1)], oN [] rfl (oP (t := 2) (d := .bc) rfl rfl (.lY _) (by decide) (l3 rfl (oO))), aL [.aw 3 [], .int .i64 1] rfl (by cases aH h; rfl) (by decide) aM⟩)))
 ·refine a0 (congrArg I.bool bI) ?_
  simp only [(bq bI), Bool.not_true, Bool.not_false]
  refine a5 (bR _ (.inl ?_))
  obtain ⟨ao, hN, h⟩ := aO h
  refine dK (arv J _ hN) _ ?_
  exact aK (an _ (.inl (aL [.aw 3 (ao.map dH), .int .i64 0] rfl (by cases aH h; rfl) (by decide) aM)))
set_option maxHeartbeats 800000 in
theorem L1 (J : List Int) (ab : List Int) (r : Bool) (h : w9 J ab = some r) : aR aJ 21 [.slice (J.map bA), .slice (ab.map bA)] (.bool r) [] := by
 refine aR.bY (fx := [0, 1]) bZ [.tmp 4] [(0, .slice (J.map bA)), (1, .slice (ab.map bA))] Tryz.func21 rfl rfl sm (Nat.le_of_ble_eq_true rfl) rfl rfl (fun bV an bS => ?_)
 refine ws _ ?_
 refine aN (fun ek bR bj ao => ?_)
 refine ws _ ?_
 rcases aT h with ⟨ba, h⟩ | ⟨ba, h⟩
 ·refine aX (congrArg I.bool ba) ?_
  simp only [ba, Bool.not_true, Bool.not_false]
  refine ws _ ?_
  exact aK (bj _ (an _ (.inl (aL [.bool false] rfl (by cases aH h; rfl) (by decide) aM))))
 ·refine a0 (congrArg I.bool ba) ?_
  simp only [ba, Bool.not_true, Bool.not_false]
  refine a5 (bR _ (.inl ?_))
  refine aN (fun fc dv dF b4 => ?_)
  refine ws _ ?_
  refine bK (fun hA hB gn a6 gh => ?_)
  have hs : ∀ (n : Nat) (bU : Int), AZ J ab n bU = some r → dG aJ Lg hA (aa [(0, .slice (J.map bA)), (1, .slice (ab.map bA)), (5, .int .i64 bU)]) := by
   intro dy
   induction dy with
   | zero => intro bU h; cases (show none = some r from h)
   | succ dy g5 =>
    intro bU h
    replace h : JZ (AZ J ab dy) J ab bU = some r := h
    refine dW (fun ey cQ cg dB => ?_)
    refine aN (fun e1 cd cA c4 => ?_)
    refine ws _ ?_
    rcases aT h with ⟨cI, h⟩ | ⟨cI, h⟩
    ·refine aX (congrArg I.bool cI) ?_
     simp only [cI, Bool.not_true, Bool.not_false]
     refine a5 (cd _ (.inl ?_))
     refine aN (fun lj g3 gi jd => ?_)
     refine bK (fun iD fy eJ ef ho => ?_)
     obtain ⟨ag, cr, h⟩ := aO h
     obtain ⟨ao, eK, h⟩ := aO h
     refine hi rfl (gY [(0, .slice (J.map bA)), (1, .slice (ab.map bA)), (5, .int .i64 bU), (25, .bool (ag != ao))] (fun P ak => ?_) ?_)
     ·simp only [dp.down, simprocAttr, eb, hQ, bA, cr, eK]
      refine ⟨gJ (by kernel_rfl), ?_⟩
      (try simp only [bn.down, simprocAttr, bA, cr, eK] at ak ⊢); exact ak
     rcases aT h with ⟨ee, h⟩ | ⟨ee, h⟩
     ·refine aX (congrArg I.bool ee) ?_
      simp only [ee, Bool.not_true, Bool.not_false]
      refine ws _ ?_
      exact aK (eJ _ (gi _ (cg _ (gn _ (dF _ (an _ (.inl (aL [.bool false] rfl (by cases aH h; rfl) (by decide) aM))))))))
     ·refine a0 (congrArg I.bool ee) ?_
      simp only [ee, Bool.not_true, Bool.not_false]
      refine a5 (fy _ (g3 _ (.inl ?_)))
      refine wr _ ?_
      exact cQ _ (.inr ⟨_, bx rfl, g5 (IntKind.i64.wrap (bU + 1)) h⟩)
    ·refine a0 (congrArg I.bool cI) ?_
     simp only [cI, Bool.not_true, Bool.not_false]
     refine dU (c4 0 _ (dB 0 _ (a6 _ (dv _ (.inl ?_)))))
     refine ws _ ?_
     exact aK (an _ (.inl (aL [.bool true] rfl (by cases aH h; rfl) (by decide) aM)))
  obtain ⟨n, h⟩ := dM h
  exact dV (.inr ⟨_, bx rfl, hs n 0 h⟩)
theorem arw (J : cU) (ab : cU) (r : Bool) (h : w_ J ab = some r) : aR aJ 69 [ed J, ed ab] (.bool r) [] := by
 refine aR.bY (fx := [0, 1]) bZ [.tmp 4] [(0, ed J), (1, ed ab)] Tryz.func69 rfl rfl ai_ (Nat.le_of_ble_eq_true rfl) rfl rfl (fun bV an bS => ?_)
 refine ws _ ?_
 refine aN (fun ek bR bj ao => ?_)
 refine ws _ ?_
 rcases aT h with ⟨ba, h⟩ | ⟨ba, h⟩
 ·refine aX (congrArg I.bool ba) ?_
  simp only [ba, Bool.not_true, Bool.not_false]
  refine ws _ ?_
  exact aK (bj _ (an _ (.inl (aL [.bool false] rfl (by cases aH h; rfl) (by decide) aM))))
 ·refine a0 (congrArg I.bool ba) ?_
  simp only [ba, Bool.not_true, Bool.not_false]
  refine a5 (bR _ (.inl ?_))
  refine aN (fun fc dv dF b4 => ?_)
  refine ws _ ?_
  rcases aT h with ⟨a6, h⟩ | ⟨a6, h⟩
  ·refine aX (congrArg I.bool a6) ?_
   simp only [a6, Bool.not_true, Bool.not_false]
   refine ws _ ?_
   exact aK (dF _ (an _ (.inl (aL [.bool false] rfl (by cases aH h; rfl) (by decide) aM))))
  ·refine a0 (congrArg I.bool a6) ?_
   simp only [a6, Bool.not_true, Bool.not_false]
   refine a5 (dv _ (.inl ?_))
   refine aN (fun e1 cd cA c4 => ?_)
   obtain ⟨ag, eh, h⟩ := aO h
   refine dK (L1 J.c3 ab.c3 _ eh) _ ?_
   rcases aT h with ⟨cH, h⟩ | ⟨cH, h⟩
   ·refine aX (congrArg I.bool cH) ?_
    simp only [(c8 cH), Bool.not_true, Bool.not_false]
    refine ws _ ?_
    exact aK (cA _ (an _ (.inl (aL [.bool false] rfl (by cases aH h; rfl) (by decide) aM))))
   ·refine a0 (congrArg I.bool cH) ?_
    simp only [(bq cH), Bool.not_true, Bool.not_false]
    refine a5 (cd _ (.inl ?_))
    refine ws _ ?_
    exact aK (an _ (.inl (aL [.bool true] rfl (by cases aH h; rfl) (by decide) aM)))
set_option maxHeartbeats 800000 in
theorem uQ (J : List cU) (ab : List cU) (r : Bool) (h : uA J ab = some r) : aR aJ 28 [.slice (J.map ed), .slice (ab.map ed)] (.bool r) [] := by
 refine aR.bY (fx := [0, 1]) bZ [.tmp 4] [(0, .slice (J.map ed)), (1, .slice (ab.map ed))] Tryz.func28 rfl rfl ajm (Nat.le_of_ble_eq_true rfl) rfl rfl (fun bV an bS => ?_)
 refine ws _ ?_
 refine aN (fun ek bR bj ao => ?_)
 refine ws _ ?_
 rcases aT h with ⟨ba, h⟩ | ⟨ba, h⟩
 ·refine aX (congrArg I.bool ba) ?_
  simp only [ba, Bool.not_true, Bool.not_false]
  refine ws _ ?_
  exact aK (bj _ (an _ (.inl (aL [.bool false] rfl (by cases aH h; rfl) (by decide) aM))))
 ·refine a0 (congrArg I.bool ba) ?_
  simp only [ba, Bool.not_true, Bool.not_false]
  refine a5 (bR _ (.inl ?_))
  refine aN (fun fc dv dF b4 => ?_)
  refine ws _ ?_
  refine bK (fun hA hB gn a6 gh => ?_)
  have hs : ∀ (n : Nat) (bU : Int), A0 J ab n bU = some r → dG aJ Lh hA (aa [(0, .slice (J.map ed)), (1, .slice (ab.map ed)), (5, .int .i64 bU)]) := by
   intro dy
   induction dy with
   | zero => intro bU h; cases (show none = some r from h)
   | succ dy g5 =>
    intro bU h
    replace h : J0 (A0 J ab dy) J ab bU = some r := h
    refine dW (fun ey cQ cg dB => ?_)
    refine aN (fun e1 cd cA c4 => ?_)
    refine ws _ ?_
    rcases aT h with ⟨cI, h⟩ | ⟨cI, h⟩
    ·refine aX (congrArg I.bool cI) ?_
     simp only [cI, Bool.not_true, Bool.not_false]
     refine a5 (cd _ (.inl ?_))
     refine aN (fun lj g3 gi jd => ?_)
     refine bK (fun iD fy eJ ef ho => ?_)
     obtain ⟨ag, cr, h⟩ := aO h
     obtain ⟨ao, eK, h⟩ := aO h
     obtain ⟨aZ, e9, h⟩ := aO h
     refine hi rfl (gY [(0, .slice (J.map ed)), (1, .slice (ab.map ed)), (5, .int .i64 bU), (26, .bool (!aZ))] (fun P ak => ?_) ?_)
     ·simp only [dp.down, simprocAttr, eb, hQ, qn, qo, bA, ed, cr, eK]
      refine iw (arw ag ao _ e9) rfl rfl rfl rfl (.inl (by rfl)) ?_
      simp only [dp.down, simprocAttr, eb, hQ, qn, qo, bA, ed, cr, eK]
      refine ⟨gJ (by kernel_rfl), ?_⟩
      (try simp only [bn.down, simprocAttr, bA, ed, cr, eK] at ak ⊢); exact ak
     rcases aT h with ⟨dL, h⟩ | ⟨dL, h⟩
     ·refine aX (congrArg I.bool dL) ?_
      simp only [(c8 dL), Bool.not_true, Bool.not_false]
      refine ws _ ?_
      exact aK (eJ _ (gi _ (cg _ (gn _ (dF _ (an _ (.inl (aL [.bool false] rfl (by cases aH h; rfl) (by decide) aM))))))))
     ·refine a0 (congrArg I.bool dL) ?_
      simp only [(bq dL), Bool.not_true, Bool.not_false]
      refine a5 (fy _ (g3 _ (.inl ?_)))
      refine wr _ ?_
      exact cQ _ (.inr ⟨_, bx rfl, g5 (IntKind.i64.wrap (bU + 1)) h⟩)
    ·refine a0 (congrArg I.bool cI) ?_
     simp only [cI, Bool.not_true, Bool.not_false]
     refine dU (c4 0 _ (dB 0 _ (a6 _ (dv _ (.inl ?_)))))
     refine ws _ ?_
     exact aK (an _ (.inl (aL [.bool true] rfl (by cases aH h; rfl) (by decide) aM)))
  obtain ⟨n, h⟩ := dM h
  exact dV (.inr ⟨_, bx rfl, hs n 0 h⟩)
theorem arx (J : bP) (ab : bP) (r : Bool) (h : xa J ab = some r) : aR aJ 195 [bQ J, bQ ab] (.bool r) [] := by
 refine aR.bY (fx := [0, 1]) bZ [.tmp 4] [(0, bQ J), (1, bQ ab)] Tryz.func195 rfl rfl ajv (Nat.le_of_ble_eq_true rfl) rfl rfl (fun bV an bS => ?_)
 refine ws _ ?_
 refine aN (fun ek bR bj ao => ?_)
 refine ws _ ?_
 rcases aT h with ⟨ba, h⟩ | ⟨ba, h⟩
 ·refine aX (congrArg I.bool ba) ?_
  simp only [ba, Bool.not_true, Bool.not_false]
  refine ws _ ?_
  exact aK (bj _ (an _ (.inl (aL [.bool false] rfl (by cases aH h; rfl) (by decide) aM))))
 ·refine a0 (congrArg I.bool ba) ?_
  simp only [ba, Bool.not_true, Bool.not_false]
  refine a5 (bR _ (.inl ?_))
  refine aN (fun fc dv dF b4 => ?_)
  refine ws _ ?_
  rcases aT h with ⟨a6, h⟩ | ⟨a6, h⟩
  ·refine aX (congrArg I.bool a6) ?_
   simp only [a6, Bool.not_true, Bool.not_false]
   refine ws _ ?_
   exact aK (dF _ (an _ (.inl (aL [.bool false] rfl (by cases aH h; rfl) (by decide) aM))))
  ·refine a0 (congrArg I.bool a6) ?_
   simp only [a6, Bool.not_true, Bool.not_false]
   refine a5 (dv _ (.inl ?_))
   refine ws _ ?_
   exact aK (an _ (.inl (aL [.bool true] rfl (by cases aH h; rfl) (by decide) aM)))
set_option maxHeartbeats 800000 in
theorem ary (J : List bP) (ab : List bP) (r : Bool) (h : xb J ab = some r) : aR aJ 158 [.slice (J.map bQ), .slice (ab.map bQ)] (.bool r) [] := by
 refine aR.bY (fx := [0, 1]) bZ [.tmp 4] [(0, .slice (J.map bQ)), (1, .slice (ab.map bQ))] Tryz.func158 rfl rfl ajI (Nat.le_of_ble_eq_true rfl) rfl rfl (fun bV an bS => ?_)
 refine ws _ ?_
 refine aN (fun ek bR bj ao => ?_)
 refine ws _ ?_
 rcases aT h with ⟨ba, h⟩ | ⟨ba, h⟩
 ·refine aX (congrArg I.bool ba) ?_
  simp only [ba, Bool.not_true, Bool.not_false]
  refine ws _ ?_
  exact aK (bj _ (an _ (.inl (aL [.bool false] rfl (by cases aH h; rfl) (by decide) aM))))
 ·refine a0 (congrArg I.bool ba) ?_
  simp only [ba, Bool.not_true, Bool.not_false]
  refine a5 (bR _ (.inl ?_))
  refine aN (fun fc dv dF b4 => ?_)
  refine ws _ ?_
  refine bK (fun hA hB gn a6 gh => ?_)
  have hs : ∀ (n : Nat) (bU : Int), A1 J ab n bU = some r → dG aJ Li hA (aa [(0, .slice (J.map bQ)), (1, .slice (ab.map bQ)), (5, .int .i64 bU)]) := by
   intro dy
   induction dy with
   | zero => intro bU h; cases (show none = some r from h)
   | succ dy g5 =>
    intro bU h
    replace h : J1 (A1 J ab dy) J ab bU = some r := h
    refine dW (fun ey cQ cg dB => ?_)
    refine aN (fun e1 cd cA c4 => ?_)
    refine ws _ ?_
    rcases aT h with ⟨cI, h⟩ | ⟨cI, h⟩
    ·refine aX (congrArg I.bool cI) ?_
     simp only [cI, Bool.not_true, Bool.not_false]
     refine a5 (cd _ (.inl ?_))
     refine aN (fun lj g3 gi jd => ?_)
     refine bK (fun iD fy eJ ef ho => ?_)
     obtain ⟨ag, cr, h⟩ := aO h
     obtain ⟨ao, eK, h⟩ := aO h
     obtain ⟨aZ, e9, h⟩ := aO h
     refine hi rfl (gY [(0, .slice (J.map bQ)), (1, .slice (ab.map bQ)), (5, .int .i64 bU), (26, .bool (!aZ))] (fun P ak => ?_) ?_)
     ·simp only [dp.down, simprocAttr, mK.down, cr, eK]
      refine iw (arx ag ao _ e9) rfl rfl rfl rfl (.inl (by rfl)) ?_
      simp only [dp.down, simprocAttr, mK.down, cr, eK]
      refine ⟨gJ (by kernel_rfl), ?_⟩
      (try simp only [bn.down, simprocAttr, bQ, cr, eK] at ak ⊢); exact ak
     rcases aT h with ⟨dL, h⟩ | ⟨dL, h⟩
     ·refine aX (congrArg I.bool dL) ?_
      simp only [(c8 dL), Bool.not_true, Bool.not_false]
      refine ws _ ?_
      exact aK (eJ _ (gi _ (cg _ (gn _ (dF _ (an _ (.inl (aL [.bool false] rfl (by cases aH h; rfl) (by decide) aM))))))))
     ·refine a0 (congrArg I.bool dL) ?_
      simp only [(bq dL), Bool.not_true, Bool.not_false]
      refine a5 (fy _ (g3 _ (.inl ?_)))
      refine wr _ ?_
      exact cQ _ (.inr ⟨_, bx rfl, g5 (IntKind.i64.wrap (bU + 1)) h⟩)
    ·refine a0 (congrArg I.bool cI) ?_
     simp only [cI, Bool.not_true, Bool.not_false]
     refine dU (c4 0 _ (dB 0 _ (a6 _ (dv _ (.inl ?_)))))
     refine ws _ ?_
     exact aK (an _ (.inl (aL [.bool true] rfl (by cases aH h; rfl) (by decide) aM)))
  obtain ⟨n, h⟩ := dM h
  exact dV (.inr ⟨_, bx rfl, hs n 0 h⟩)
set_option maxHeartbeats 800000 in
theorem arz (J : List (List bP)) (ab : List (List bP)) (r : Bool) (h : A3 J ab = some r) : aR aJ 159 [.slice (J.map eG), .slice (ab.map eG)] (.bool r) [] := by
 refine aR.bY (fx := [0, 1]) bZ [.tmp 4] [(0, .slice (J.map eG)), (1, .slice (ab.map eG))] Tryz.func159 rfl rfl ajV (Nat.le_of_ble_eq_true rfl) rfl rfl (fun bV an bS => ?_)
 refine ws _ ?_
 refine aN (fun ek bR bj ao => ?_)
 refine ws _ ?_
 rcases aT h with ⟨ba, h⟩ | ⟨ba, h⟩
 ·refine aX (congrArg I.bool ba) ?_
  simp only [ba, Bool.not_true, Bool.not_false]
  refine ws _ ?_
  exact aK (bj _ (an _ (.inl (aL [.bool false] rfl (by cases aH h; rfl) (by decide) aM))))
 ·refine a0 (congrArg I.bool ba) ?_
  simp only [ba, Bool.not_true, Bool.not_false]
  refine a5 (bR _ (.inl ?_))
  refine aN (fun fc dv dF b4 => ?_)
  refine ws _ ?_
  refine bK (fun hA hB gn a6 gh => ?_)
  have hs : ∀ (n : Nat) (bU : Int), A2 J ab n bU = some r → dG aJ Lj hA (aa [(0, .slice (J.map eG)), (1, .slice (ab.map eG)), (5, .int .i64 bU)]) := by
   intro dy
   induction dy with
   | zero => intro bU h; cases (show none = some r from h)
   | succ dy g5 =>
    intro bU h
    replace h : J2 (A2 J ab dy) J ab bU = some r := h
    refine dW (fun ey cQ cg dB => ?_)
    refine aN (fun e1 cd cA c4 => ?_)
    refine ws _ ?_
    rcases aT h with ⟨cI, h⟩ | ⟨cI, h⟩
    ·refine aX (congrArg I.bool cI) ?_
     simp only [cI, Bool.not_true, Bool.not_false]
     refine a5 (cd _ (.inl ?_))
     refine aN (fun lj g3 gi jd => ?_)
     refine bK (fun iD fy eJ ef ho => ?_)
     obtain ⟨ag, cr, h⟩ := aO h
     obtain ⟨ao, eK, h⟩ := aO h
     obtain ⟨aZ, e9, h⟩ := aO h
     refine hi rfl (gY [(0, .slice (J.map eG)), (1, .slice (ab.map eG)), (5, .int .i64 bU), (26, .bool (!aZ))] (fun P ak => ?_) ?_)
     ·simp only [dp.down, simprocAttr, eb, g0, gw, gg, bQ, eG, cr, eK]
      refine iw (ary ag ao _ e9) rfl rfl rfl rfl (.inl (by rfl)) ?_
      simp only [dp.down, simprocAttr, eb, g0, gw, gg, bQ, eG, cr, eK]
      refine ⟨gJ (by kernel_rfl), ?_⟩
      (try simp only [bn.down, simprocAttr, bQ, eG, cr, eK] at ak ⊢); exact ak
     rcases aT h with ⟨dL, h⟩ | ⟨dL, h⟩
     ·refine aX (congrArg I.bool dL) ?_
      simp only [(c8 dL), Bool.not_true, Bool.not_false]
      refine ws _ ?_
      exact aK (eJ _ (gi _ (cg _ (gn _ (dF _ (an _ (.inl (aL [.bool false] rfl (by cases aH h; rfl) (by decide) aM))))))))
     ·refine a0 (congrArg I.bool dL) ?_
      simp only [(bq dL), Bool.not_true, Bool.not_false]
      refine a5 (fy _ (g3 _ (.inl ?_)))
      refine wr _ ?_
      exact cQ _ (.inr ⟨_, bx rfl, g5 (IntKind.i64.wrap (bU + 1)) h⟩)
    ·refine a0 (congrArg I.bool cI) ?_
     simp only [cI, Bool.not_true, Bool.not_false]
     refine dU (c4 0 _ (dB 0 _ (a6 _ (dv _ (.inl ?_)))))
     refine ws _ ?_
     exact aK (an _ (.inl (aL [.bool true] rfl (by cases aH h; rfl) (by decide) aM)))
  obtain ⟨n, h⟩ := dM h
  exact dV (.inr ⟨_, bx rfl, hs n 0 h⟩)
theorem arA (J : bz) (ab : bz) (r : Bool) (h : xc J ab = some r) : aR aJ 174 [cb J, cb ab] (.bool r) [] := by
 refine aR.bY (fx := [0, 1]) bZ [.tmp 4] [(0, cb J), (1, cb ab)] Tryz.func174 rfl rfl aj_ (Nat.le_of_ble_eq_true rfl) rfl rfl (fun bV an bS => ?_)
 refine ws _ ?_
 refine aN (fun ek bR bj ao => ?_)
 refine ws _ ?_
 rcases aT h with ⟨ba, h⟩ | ⟨ba, h⟩
 ·refine aX (congrArg I.bool ba) ?_
  simp only [ba, Bool.not_true, Bool.not_false]
  refine ws _ ?_
  exact aK (bj _ (an _ (.inl (aL [.bool false] rfl (by cases aH h; rfl) (by decide) aM))))
 ·refine a0 (congrArg I.bool ba) ?_
  simp only [ba, Bool.not_true, Bool.not_false]
  refine a5 (bR _ (.inl ?_))
  refine aN (fun fc dv dF b4 => ?_)
  refine ws _ ?_
  rcases aT h with ⟨a6, h⟩ | ⟨a6, h⟩
  ·refine aX (congrArg I.bool a6) ?_
   simp only [a6, Bool.not_true, Bool.not_false]
   refine ws _ ?_
   exact aK (dF _ (an _ (.inl (aL [.bool false] rfl (by cases aH h; rfl) (by decide) aM))))
  ·refine a0 (congrArg I.bool a6) ?_
   simp only [a6, Bool.not_true, Bool.not_false]
   refine a5 (dv _ (.inl ?_))
   refine aN (fun e1 cd cA c4 => ?_)
   refine ws _ ?_
   rcases aT h with ⟨cI, h⟩ | ⟨cI, h⟩
   ·refine aX (congrArg I.bool cI) ?_
    simp only [cI, Bool.not_true, Bool.not_false]
    refine ws _ ?_
    exact aK (cA _ (an _ (.inl (aL [.bool false] rfl (by cases aH h; rfl) (by decide) aM))))
   ·refine a0 (congrArg I.bool cI) ?_
    simp only [cI, Bool.not_true, Bool.not_false]
    refine a5 (cd _ (.inl ?_))
    refine aN (fun iD fy eJ ho => ?_)
    obtain ⟨ag, cr, h⟩ := aO h
    refine dK (arz J.cq ab.cq _ cr) _ ?_
    rcases aT h with ⟨ib, h⟩ | ⟨ib, h⟩
    ·refine aX (congrArg I.bool ib) ?_
     simp only [(c8 ib), Bool.not_true, Bool.not_false]
     refine ws _ ?_
     exact aK (eJ _ (an _ (.inl (aL [.bool false] rfl (by cases aH h; rfl) (by decide) aM))))
    ·refine a0 (congrArg I.bool ib) ?_
     simp only [(bq ib), Bool.not_true, Bool.not_false]
     refine a5 (fy _ (.inl ?_))
     refine ws _ ?_
     exact aK (an _ (.inl (aL [.bool true] rfl (by cases aH h; rfl) (by decide) aM)))
set_option maxHeartbeats 800000 in
theorem arB (J : List bz) (ab : List bz) (r : Bool) (h : A5 J ab = some r) : aR aJ 135 [.slice (J.map cb), .slice (ab.map cb)] (.bool r) [] := by
 refine aR.bY (fx := [0, 1]) bZ [.tmp 4] [(0, .slice (J.map cb)), (1, .slice (ab.map cb))] Tryz.func135 rfl rfl akm (Nat.le_of_ble_eq_true rfl) rfl rfl (fun bV an bS => ?_)
 refine ws _ ?_
 refine aN (fun ek bR bj ao => ?_)
 refine ws _ ?_
 rcases aT h with ⟨ba, h⟩ | ⟨ba, h⟩
 ·refine aX (congrArg I.bool ba) ?_
  simp only [ba, Bool.not_true, Bool.not_false]
  refine ws _ ?_
  exact aK (bj _ (an _ (.inl (aL [.bool false] rfl (by cases aH h; rfl) (by decide) aM))))
 ·refine a0 (congrArg I.bool ba) ?_
  simp only [ba, Bool.not_true, Bool.not_false]
  refine a5 (bR _ (.inl ?_))
  refine aN (fun fc dv dF b4 => ?_)
  refine ws _ ?_
  refine bK (fun hA hB gn a6 gh => ?_)
  have hs : ∀ (n : Nat) (bU : Int), A4 J ab n bU = some r → dG aJ Lk hA (aa [(0, .slice (J.map cb)), (1, .slice (ab.map cb)), (5, .int .i64 bU)]) := by
   intro dy
   induction dy with
   | zero => intro bU h; cases (show none = some r from h)
   | succ dy g5 =>
    intro bU h
    replace h : J3 (A4 J ab dy) J ab bU = some r := h
    refine dW (fun ey cQ cg dB => ?_)
    refine aN (fun e1 cd cA c4 => ?_)
    refine ws _ ?_
    rcases aT h with ⟨cI, h⟩ | ⟨cI, h⟩
    ·refine aX (congrArg I.bool cI) ?_
     simp only [cI, Bool.not_true, Bool.not_false]
     refine a5 (cd _ (.inl ?_))
     refine aN (fun lj g3 gi jd => ?_)
     refine bK (fun iD fy eJ ef ho => ?_)
     obtain ⟨ag, cr, h⟩ := aO h
     obtain ⟨ao, eK, h⟩ := aO h
     obtain ⟨aZ, e9, h⟩ := aO h
     refine hi rfl (gY [(0, .slice (J.map cb)), (1, .slice (ab.map cb)), (5, .int .i64 bU), (26, .bool (!aZ))] (fun P ak => ?_) ?_)
     ·simp only [dp.down, simprocAttr, BF.down, cr, eK]
      refine iw (arA ag ao _ e9) rfl rfl rfl rfl (.inl (by rfl)) ?_
      simp only [dp.down, simprocAttr, BF.down, cr, eK]
      refine ⟨gJ (by kernel_rfl), ?_⟩
      (try simp only [bn.down, simprocAttr, mb.down, cr, eK] at ak ⊢); exact ak
     rcases aT h with ⟨dL, h⟩ | ⟨dL, h⟩
     ·refine aX (congrArg I.bool dL) ?_
      simp only [(c8 dL), Bool.not_true, Bool.not_false]
      refine ws _ ?_
      exact aK (eJ _ (gi _ (cg _ (gn _ (dF _ (an _ (.inl (aL [.bool false] rfl (by cases aH h; rfl) (by decide) aM))))))))
     ·refine a0 (congrArg I.bool dL) ?_
      simp only [(bq dL), Bool.not_true, Bool.not_false]
      refine a5 (fy _ (g3 _ (.inl ?_)))
      refine wr _ ?_
      exact cQ _ (.inr ⟨_, bx rfl, g5 (IntKind.i64.wrap (bU + 1)) h⟩)
    ·refine a0 (congrArg I.bool cI) ?_
     simp only [cI, Bool.not_true, Bool.not_false]
     refine dU (c4 0 _ (dB 0 _ (a6 _ (dv _ (.inl ?_)))))
     refine ws _ ?_
     exact aK (an _ (.inl (aL [.bool true] rfl (by cases aH h; rfl) (by decide) aM)))
  obtain ⟨n, h⟩ := dM h
  exact dV (.inr ⟨_, bx rfl, hs n 0 h⟩)
theorem arC (J : bb) (ab : bb) (r : Bool) (h : xd J ab = some r) : aR aJ 81 [bp J, bp ab] (.bool r) [] := by
 refine aR.bY (fx := [0, 1]) bZ [.tmp 4] [(0, bp J), (1, bp ab)] Tryz.func81 rfl rfl aky (Nat.le_of_ble_eq_true rfl) rfl rfl (fun bV an bS => ?_)
 refine ws _ ?_
 refine aN (fun ek bR bj ao => ?_)
 refine ws _ ?_
 rcases aT h with ⟨ba, h⟩ | ⟨ba, h⟩
 ·refine aX (congrArg I.bool ba) ?_
  simp only [ba, Bool.not_true, Bool.not_false]
  refine ws _ ?_
  exact aK (bj _ (an _ (.inl (aL [.bool false] rfl (by cases aH h; rfl) (by decide) aM))))
 ·refine a0 (congrArg I.bool ba) ?_
  simp only [ba, Bool.not_true, Bool.not_false]
  refine a5 (bR _ (.inl ?_))
  refine aN (fun fc dv dF b4 => ?_)
  refine ws _ ?_
  rcases aT h with ⟨a6, h⟩ | ⟨a6, h⟩
  ·refine aX (congrArg I.bool a6) ?_
   simp only [a6, Bool.not_true, Bool.not_false]
   refine ws _ ?_
   exact aK (dF _ (an _ (.inl (aL [.bool false] rfl (by cases aH h; rfl) (by decide) aM))))
  ·refine a0 (congrArg I.bool a6) ?_
   simp only [a6, Bool.not_true, Bool.not_false]
   refine a5 (dv _ (.inl ?_))
   refine aN (fun e1 cd cA c4 => ?_)
   obtain ⟨ag, eh, h⟩ := aO h
   refine dK (arB J.Body ab.Body _ eh) _ ?_
   rcases aT h with ⟨cH, h⟩ | ⟨cH, h⟩
   ·refine aX (congrArg I.bool cH) ?_
    simp only [(c8 cH), Bool.not_true, Bool.not_false]
    refine ws _ ?_
    exact aK (cA _ (an _ (.inl (aL [.bool false] rfl (by cases aH h; rfl) (by decide) aM))))
   ·refine a0 (congrArg I.bool cH) ?_
    simp only [(bq cH), Bool.not_true, Bool.not_false]
    refine a5 (cd _ (.inl ?_))
    refine ws _ ?_
    exact aK (an _ (.inl (aL [.bool true] rfl (by cases aH h; rfl) (by decide) aM)))
set_option maxHeartbeats 800000 in
theorem arD (J : List bb) (ab : List bb) (r : Bool) (h : xe J ab = some r) : aR aJ 45 [.slice (J.map bp), .slice (ab.map bp)] (.bool r) [] := by
 refine aR.bY (fx := [0, 1]) bZ [.tmp 4] [(0, .slice (J.map bp)), (1, .slice (ab.map bp))] Tryz.func45 rfl rfl akL (Nat.le_of_ble_eq_true rfl) rfl rfl (fun bV an bS => ?_)
 refine ws _ ?_
 refine aN (fun ek bR bj ao => ?_)
 refine ws _ ?_
 rcases aT h with ⟨ba, h⟩ | ⟨ba, h⟩
 ·refine aX (congrArg I.bool ba) ?_
  simp only [ba, Bool.not_true, Bool.not_false]
  refine ws _ ?_
  exact aK (bj _ (an _ (.inl (aL [.bool false] rfl (by cases aH h; rfl) (by decide) aM))))
 ·refine a0 (congrArg I.bool ba) ?_
  simp only [ba, Bool.not_true, Bool.not_false]
  refine a5 (bR _ (.inl ?_))
  refine aN (fun fc dv dF b4 => ?_)
  refine ws _ ?_
  refine bK (fun hA hB gn a6 gh => ?_)
  have hs : ∀ (n : Nat) (bU : Int), A6 J ab n bU = some r → dG aJ Ll hA (aa [(0, .slice (J.map bp)), (1, .slice (ab.map bp)), (5, .int .i64 bU)]) := by
   intro dy
   induction dy with
   | zero => intro bU h; cases (show none = some r from h)
   | succ dy g5 =>
    intro bU h
    replace h : J4 (A6 J ab dy) J ab bU = some r := h
    refine dW (fun ey cQ cg dB => ?_)
    refine aN (fun e1 cd cA c4 => ?_)
    refine ws _ ?_
    rcases aT h with ⟨cI, h⟩ | ⟨cI, h⟩
    ·refine aX (congrArg I.bool cI) ?_
     simp only [cI, Bool.not_true, Bool.not_false]
     refine a5 (cd _ (.inl ?_))
     refine aN (fun lj g3 gi jd => ?_)
     refine bK (fun iD fy eJ ef ho => ?_)
     obtain ⟨ag, cr, h⟩ := aO h
     obtain ⟨ao, eK, h⟩ := aO h
     obtain ⟨aZ, e9, h⟩ := aO h
     refine hi rfl (gY [(0, .slice (J.map bp)), (1, .slice (ab.map bp)), (5, .int .i64 bU), (26, .bool (!aZ))] (fun P ak => ?_) ?_)
     ·simp only [dp.down, simprocAttr, iC.down, cr, eK]
      refine iw (arC ag ao _ e9) rfl rfl rfl rfl (.inl (by rfl)) ?_
      simp only [dp.down, simprocAttr, iC.down, cr, eK]
      refine ⟨gJ (by kernel_rfl), ?_⟩
      (try simp only [bn.down, simprocAttr, hS.down, cr, eK] at ak ⊢); exact ak
     rcases aT h with ⟨dL, h⟩ | ⟨dL, h⟩
     ·refine aX (congrArg I.bool dL) ?_
      simp only [(c8 dL), Bool.not_true, Bool.not_false]
      refine ws _ ?_
      exact aK (eJ _ (gi _ (cg _ (gn _ (dF _ (an _ (.inl (aL [.bool false] rfl (by cases aH h; rfl) (by decide) aM))))))))
     ·refine a0 (congrArg I.bool dL) ?_
      simp only [(bq dL), Bool.not_true, Bool.not_false]
      refine a5 (fy _ (g3 _ (.inl ?_)))
      refine wr _ ?_
      exact cQ _ (.inr ⟨_, bx rfl, g5 (IntKind.i64.wrap (bU + 1)) h⟩)
    ·refine a0 (congrArg I.bool cI) ?_
     simp only [cI, Bool.not_true, Bool.not_false]
     refine dU (c4 0 _ (dB 0 _ (a6 _ (dv _ (.inl ?_)))))
     refine ws _ ?_
     exact aK (an _ (.inl (aL [.bool true] rfl (by cases aH h; rfl) (by decide) aM)))
  obtain ⟨n, h⟩ := dM h
  exact dV (.inr ⟨_, bx rfl, hs n 0 h⟩)
theorem arE (J : cX) (ab : cX) (r : Bool) (h : xf J ab = some r) : aR aJ 82 [ep J, ep ab] (.bool r) [] := by
 refine aR.bY (fx := [0, 1]) bZ [.tmp 4] [(0, ep J), (1, ep ab)] Tryz.func82 rfl rfl akU (Nat.le_of_ble_eq_true rfl) rfl rfl (fun bV an bS => ?_)
 refine ws _ ?_
 refine aN (fun ek bR bj ao => ?_)
 refine ws _ ?_
 rcases aT h with ⟨ba, h⟩ | ⟨ba, h⟩
 ·refine aX (congrArg I.bool ba) ?_
  simp only [ba, Bool.not_true, Bool.not_false]
  refine ws _ ?_
  exact aK (bj _ (an _ (.inl (aL [.bool false] rfl (by cases aH h; rfl) (by decide) aM))))
 ·refine a0 (congrArg I.bool ba) ?_
  simp only [ba, Bool.not_true, Bool.not_false]
  refine a5 (bR _ (.inl ?_))
  refine aN (fun fc dv dF b4 => ?_)
  obtain ⟨ag, hN, h⟩ := aO h
  refine dK (L1 J.c3 ab.c3 _ hN) _ ?_
  rcases aT h with ⟨d_, h⟩ | ⟨d_, h⟩
  ·refine aX (congrArg I.bool d_) ?_
   simp only [(c8 d_), Bool.not_true, Bool.not_false]
   refine ws _ ?_
   exact aK (dF _ (an _ (.inl (aL [.bool false] rfl (by cases aH h; rfl) (by decide) aM))))
  ·refine a0 (congrArg I.bool d_) ?_
   simp only [(bq d_), Bool.not_true, Bool.not_false]
   refine a5 (dv _ (.inl ?_))
   refine ws _ ?_
   exact aK (an _ (.inl (aL [.bool true] rfl (by cases aH h; rfl) (by decide) aM)))
set_option maxHeartbeats 800000 in
theorem arF (J : List cX) (ab : List cX) (r : Bool) (h : A8 J ab = some r) : aR aJ 46 [.slice (J.map ep), .slice (ab.map ep)] (.bool r) [] := by
 refine aR.bY (fx := [0, 1]) bZ [.tmp 4] [(0, .slice (J.map ep)), (1, .slice (ab.map ep))] Tryz.func46 rfl rfl ak7 (Nat.le_of_ble_eq_true rfl) rfl rfl (fun bV an bS => ?_)
 refine ws _ ?_
 refine aN (fun ek bR bj ao => ?_)
 refine ws _ ?_
 rcases aT h with ⟨ba, h⟩ | ⟨ba, h⟩
 ·refine aX (congrArg I.bool ba) ?_
  simp only [ba, Bool.not_true, Bool.not_false]
  refine ws _ ?_
  exact aK (bj _ (an _ (.inl (aL [.bool false] rfl (by cases aH h; rfl) (by decide) aM))))
 ·refine a0 (congrArg I.bool ba) ?_
  simp only [ba, Bool.not_true, Bool.not_false]
  refine a5 (bR _ (.inl ?_))
  refine aN (fun fc dv dF b4 => ?_)
  refine ws _ ?_
  refine bK (fun hA hB gn a6 gh => ?_)
  have hs : ∀ (n : Nat) (bU : Int), A7 J ab n bU = some r → dG aJ Lm hA (aa [(0, .slice (J.map ep)), (1, .slice (ab.map ep)), (5, .int .i64 bU)]) := by
   intro dy
   induction dy with
   | zero => intro bU h; cases (show none = some r from h)
   | succ dy g5 =>
    intro bU h
    replace h : J5 (A7 J ab dy) J ab bU = some r := h
    refine dW (fun ey cQ cg dB => ?_)
    refine aN (fun e1 cd cA c4 => ?_)
    refine ws _ ?_
    rcases aT h with ⟨cI, h⟩ | ⟨cI, h⟩
    ·refine aX (congrArg I.bool cI) ?_
     simp only [cI, Bool.not_true, Bool.not_false]
     refine a5 (cd _ (.inl ?_))
     refine aN (fun lj g3 gi jd => ?_)
     refine bK (fun iD fy eJ ef ho => ?_)
     obtain ⟨ag, cr, h⟩ := aO h
     obtain ⟨ao, eK, h⟩ := aO h
     obtain ⟨aZ, e9, h⟩ := aO h
     refine hi rfl (gY [(0, .slice (J.map ep)), (1, .slice (ab.map ep)), (5, .int .i64 bU), (26, .bool (!aZ))] (fun P ak => ?_) ?_)
     ·simp only [dp.down, simprocAttr, eb, nY, hQ, la, bA, ep, cr, eK]
      refine iw (arE ag ao _ e9) rfl rfl rfl rfl (.inl (by rfl)) ?_
      simp only [dp.down, simprocAttr, eb, nY, hQ, la, bA, ep, cr, eK]
      refine ⟨gJ (by kernel_rfl), ?_⟩
      (try simp only [bn.down, simprocAttr, bA, ep, cr, eK] at ak ⊢); exact ak
     rcases aT h with ⟨dL, h⟩ | ⟨dL, h⟩
     ·refine aX (congrArg I.bool dL) ?_
      simp only [(c8 dL), Bool.not_true, Bool.not_false]
      refine ws _ ?_
      exact aK (eJ _ (gi _ (cg _ (gn _ (dF _ (an _ (.inl (aL [.bool false] rfl (by cases aH h; rfl) (by decide) aM))))))))
     ·refine a0 (congrArg I.bool dL) ?_
      simp only [(bq dL), Bool.not_true, Bool.not_false]
      refine a5 (fy _ (g3 _ (.inl ?_)))
      refine wr _ ?_
      exact cQ _ (.inr ⟨_, bx rfl, g5 (IntKind.i64.wrap (bU + 1)) h⟩)
    ·refine a0 (congrArg I.bool cI) ?_
     simp only [cI, Bool.not_true, Bool.not_false]
     refine dU (c4 0 _ (dB 0 _ (a6 _ (dv _ (.inl ?_)))))
     refine ws _ ?_
     exact aK (an _ (.inl (aL [.bool true] rfl (by cases aH h; rfl) (by decide) aM)))
  obtain ⟨n, h⟩ := dM h
  exact dV (.inr ⟨_, bx rfl, hs n 0 h⟩)
theorem arG (J : bT) (ab : bT) (r : Bool) (h : xg J ab = some r) : aR aJ 83 [bo J, bo ab] (.bool r) [] := by
 refine aR.bY (fx := [0, 1]) bZ [.tmp 4] [(0, bo J), (1, bo ab)] Tryz.func83 rfl rfl ali (Nat.le_of_ble_eq_true rfl) rfl rfl (fun bV an bS => ?_)
 refine ws _ ?_
 refine aN (fun ek bR bj ao => ?_)
 refine ws _ ?_
 rcases aT h with ⟨ba, h⟩ | ⟨ba, h⟩
 ·refine aX (congrArg I.bool ba) ?_
  simp only [ba, Bool.not_true, Bool.not_false]
  refine ws _ ?_
  exact aK (bj _ (an _ (.inl (aL [.bool false] rfl (by cases aH h; rfl) (by decide) aM))))
 ·refine a0 (congrArg I.bool ba) ?_
  simp only [ba, Bool.not_true, Bool.not_false]
  refine a5 (bR _ (.inl ?_))
  refine aN (fun fc dv dF b4 => ?_)
  refine ws _ ?_
  rcases aT h with ⟨a6, h⟩ | ⟨a6, h⟩
  ·refine aX (congrArg I.bool a6) ?_
   simp only [a6, Bool.not_true, Bool.not_false]
   refine ws _ ?_
   exact aK (dF _ (an _ (.inl (aL [.bool false] rfl (by cases aH h; rfl) (by decide) aM))))
  ·refine a0 (congrArg I.bool a6) ?_
   simp only [a6, Bool.not_true, Bool.not_false]
   refine a5 (dv _ (.inl ?_))
   refine aN (fun e1 cd cA c4 => ?_)
   refine ws _ ?_
   rcases aT h with ⟨cI, h⟩ | ⟨cI, h⟩
   ·refine aX (congrArg I.bool cI) ?_
    simp only [cI, Bool.not_true, Bool.not_false]
    refine ws _ ?_
    exact aK (cA _ (an _ (.inl (aL [.bool false] rfl (by cases aH h; rfl) (by decide) aM))))
   ·refine a0 (congrArg I.bool cI) ?_
    simp only [cI, Bool.not_true, Bool.not_false]
    refine a5 (cd _ (.inl ?_))
    refine ws _ ?_
    exact aK (an _ (.inl (aL [.bool true] rfl (by cases aH h; rfl) (by decide) aM)))
set_option maxHeartbeats 800000 in
theorem arH (J : List bT) (ab : List bT) (r : Bool) (h : A_ J ab = some r) : aR aJ 47 [.slice (J.map bo), .slice (ab.map bo)] (.bool r) [] := by
 refine aR.bY (fx := [0, 1]) bZ [.tmp 4] [(0, .slice (J.map bo)), (1, .slice (ab.map bo))] Tryz.func47 rfl rfl sn (Nat.le_of_ble_eq_true rfl) rfl rfl (fun bV an bS => ?_)
 refine ws _ ?_
 refine aN (fun ek bR bj ao => ?_)
 refine ws _ ?_
 rcases aT h with ⟨ba, h⟩ | ⟨ba, h⟩
 ·refine aX (congrArg I.bool ba) ?_
  simp only [ba, Bool.not_true, Bool.not_false]
  refine ws _ ?_
  exact aK (bj _ (an _ (.inl (aL [.bool false] rfl (by cases aH h; rfl) (by decide) aM))))
 ·refine a0 (congrArg I.bool ba) ?_
  simp only [ba, Bool.not_true, Bool.not_false]
  refine a5 (bR _ (.inl ?_))
  refine aN (fun fc dv dF b4 => ?_)
  refine ws _ ?_
  refine bK (fun hA hB gn a6 gh => ?_)
  have hs : ∀ (n : Nat) (bU : Int), A9 J ab n bU = some r → dG aJ Ln hA (aa [(0, .slice (J.map bo)), (1, .slice (ab.map bo)), (5, .int .i64 bU)]) := by
   intro dy
   induction dy with
   | zero => intro bU h; cases (show none = some r from h)
   | succ dy g5 =>
    intro bU h
    replace h : J6 (A9 J ab dy) J ab bU = some r := h
    refine dW (fun ey cQ cg dB => ?_)
    refine aN (fun e1 cd cA c4 => ?_)
    refine ws _ ?_
    rcases aT h with ⟨cI, h⟩ | ⟨cI, h⟩
    ·refine aX (congrArg I.bool cI) ?_
     simp only [cI, Bool.not_true, Bool.not_false]
     refine a5 (cd _ (.inl ?_))
     refine aN (fun lj g3 gi jd => ?_)
     refine bK (fun iD fy eJ ef ho => ?_)
     obtain ⟨ag, cr, h⟩ := aO h
     obtain ⟨ao, eK, h⟩ := aO h
     obtain ⟨aZ, e9, h⟩ := aO h
     refine hi rfl (gY [(0, .slice (J.map bo)), (1, .slice (ab.map bo)), (5, .int .i64 bU), (26, .bool (!aZ))] (fun P ak => ?_) ?_)
     ·simp only [dp.down, simprocAttr, gV.down, cr, eK]
      refine iw (arG ag ao _ e9) rfl rfl rfl rfl (.inl (by rfl)) ?_
      simp only [dp.down, simprocAttr, gV.down, cr, eK]
      refine ⟨gJ (by kernel_rfl), ?_⟩
      (try simp only [bn.down, simprocAttr, bo, cr, eK] at ak ⊢); exact ak
     rcases aT h with ⟨dL, h⟩ | ⟨dL, h⟩
     ·refine aX (congrArg I.bool dL) ?_
      simp only [(c8 dL), Bool.not_true, Bool.not_false]
      refine ws _ ?_
      exact aK (eJ _ (gi _ (cg _ (gn _ (dF _ (an _ (.inl (aL [.bool false] rfl (by cases aH h; rfl) (by decide) aM))))))))
     ·refine a0 (congrArg I.bool dL) ?_
      simp only [(bq dL), Bool.not_true, Bool.not_false]
      refine a5 (fy _ (g3 _ (.inl ?_)))
      refine wr _ ?_
      exact cQ _ (.inr ⟨_, bx rfl, g5 (IntKind.i64.wrap (bU + 1)) h⟩)
    ·refine a0 (congrArg I.bool cI) ?_
     simp only [cI, Bool.not_true, Bool.not_false]
     refine dU (c4 0 _ (dB 0 _ (a6 _ (dv _ (.inl ?_)))))
     refine ws _ ?_
     exact aK (an _ (.inl (aL [.bool true] rfl (by cases aH h; rfl) (by decide) aM)))
  obtain ⟨n, h⟩ := dM h
  exact dV (.inr ⟨_, bx rfl, hs n 0 h⟩)
set_option maxHeartbeats 800000 in
theorem L2 (J : List (List UInt8)) (ab : List (List UInt8)) (r : Bool) (h : xh J ab = some r) : aR aJ 48 [.slice (J.map bu), .slice (ab.map bu)] (.bool r) [] := by
 refine aR.bY (fx := [0, 1]) bZ [.tmp 4] [(0, .slice (J.map bu)), (1, .slice (ab.map bu))] Tryz.func48 rfl rfl alJ (Nat.le_of_ble_eq_true rfl) rfl rfl (fun bV an bS => ?_)
 refine ws _ ?_
 refine aN (fun ek bR bj ao => ?_)
 refine ws _ ?_
 rcases aT h with ⟨ba, h⟩ | ⟨ba, h⟩
 ·refine aX (congrArg I.bool ba) ?_
  simp only [ba, Bool.not_true, Bool.not_false]
  refine ws _ ?_
  exact aK (bj _ (an _ (.inl (aL [.bool false] rfl (by cases aH h; rfl) (by decide) aM))))
 ·refine a0 (congrArg I.bool ba) ?_
  simp only [ba, Bool.not_true, Bool.not_false]
  refine a5 (bR _ (.inl ?_))
  refine aN (fun fc dv dF b4 => ?_)
  refine ws _ ?_
  refine bK (fun hA hB gn a6 gh => ?_)
  have hs : ∀ (n : Nat) (bU : Int), Ba J ab n bU = some r → dG aJ Lo hA (aa [(0, .slice (J.map bu)), (1, .slice (ab.map bu)), (5, .int .i64 bU)]) := by
   intro dy
   induction dy with
   | zero => intro bU h; cases (show none = some r from h)
   | succ dy g5 =>
    intro bU h
    replace h : J7 (Ba J ab dy) J ab bU = some r := h
    refine dW (fun ey cQ cg dB => ?_)
    refine aN (fun e1 cd cA c4 => ?_)
    refine ws _ ?_
    rcases aT h with ⟨cI, h⟩ | ⟨cI, h⟩
    ·refine aX (congrArg I.bool cI) ?_
     simp only [cI, Bool.not_true, Bool.not_false]
     refine a5 (cd _ (.inl ?_))
     refine aN (fun lj g3 gi jd => ?_)
     refine bK (fun iD fy eJ ef ho => ?_)
     obtain ⟨ag, cr, h⟩ := aO h
     obtain ⟨ao, eK, h⟩ := aO h
     refine hi rfl (gY [(0, .slice (J.map bu)), (1, .slice (ab.map bu)), (5, .int .i64 bU), (25, .bool (!(ag == ao)))] (fun P ak => ?_) ?_)
     ·simp only [dp.down, simprocAttr, eX, kE, bu, cr, eK]
      refine ⟨gJ (by kernel_rfl), ?_⟩
      (try simp only [bn.down, simprocAttr, bu, cr, eK] at ak ⊢); exact ak
     rcases aT h with ⟨ee, h⟩ | ⟨ee, h⟩
     ·refine aX (congrArg I.bool ee) ?_
      simp only [ee, Bool.not_true, Bool.not_false]
      refine ws _ ?_
      exact aK (eJ _ (gi _ (cg _ (gn _ (dF _ (an _ (.inl (aL [.bool false] rfl (by cases aH h; rfl) (by decide) aM))))))))
     ·refine a0 (congrArg I.bool ee) ?_
      simp only [ee, Bool.not_true, Bool.not_false]
      refine a5 (fy _ (g3 _ (.inl ?_)))
      refine wr _ ?_
      exact cQ _ (.inr ⟨_, bx rfl, g5 (IntKind.i64.wrap (bU + 1)) h⟩)
    ·refine a0 (congrArg I.bool cI) ?_
     simp only [cI, Bool.not_true, Bool.not_false]
     refine dU (c4 0 _ (dB 0 _ (a6 _ (dv _ (.inl ?_)))))
     refine ws _ ?_
     exact aK (an _ (.inl (aL [.bool true] rfl (by cases aH h; rfl) (by decide) aM)))
  obtain ⟨n, h⟩ := dM h
  exact dV (.inr ⟨_, bx rfl, hs n 0 h⟩)
theorem arI (J : ev) (ab : ev) (r : Bool) (h : xi J ab = some r) : aR aJ 12 [e0 J, e0 ab] (.bool r) [] := by
 refine aR.bY (fx := [0, 1]) bZ [.tmp 4] [(0, e0 J), (1, e0 ab)] Tryz.func12 rfl rfl uC (Nat.le_of_ble_eq_true rfl) rfl rfl (fun bV an bS => ?_)
 refine ws _ ?_
 refine aN (fun ek bR bj ao => ?_)
 obtain ⟨ag, c1, h⟩ := aO h
 refine dK (arD J.e8 ab.e8 _ c1) _ ?_
 rcases aT h with ⟨bI, h⟩ | ⟨bI, h⟩
 ·refine aX (congrArg I.bool bI) ?_
  simp only [(c8 bI), Bool.not_true, Bool.not_false]
  refine ws _ ?_
  exact aK (bj _ (an _ (.inl (aL [.bool false] rfl (by cases aH h; rfl) (by decide) aM))))
 ·refine a0 (congrArg I.bool bI) ?_
  simp only [(bq bI), Bool.not_true, Bool.not_false]
  refine a5 (bR _ (.inl ?_))
  refine aN (fun hp dZ eW dm => ?_)
  obtain ⟨ao, ku, h⟩ := aO h
  refine dK (arF J.b_ ab.b_ _ ku) _ ?_
  rcases aT h with ⟨b2, h⟩ | ⟨b2, h⟩
  ·refine aX (congrArg I.bool b2) ?_
   simp only [(c8 b2), Bool.not_true, Bool.not_false]
   refine ws _ ?_
   exact aK (eW _ (an _ (.inl (aL [.bool false] rfl (by cases aH h; rfl) (by decide) aM))))
  ·refine a0 (congrArg I.bool b2) ?_
   simp only [(bq b2), Bool.not_true, Bool.not_false]
   refine a5 (dZ _ (.inl ?_))
   refine aN (fun j3 g4 iE i1 => ?_)
   obtain ⟨aZ, e5, h⟩ := aO h
   refine dK (arH J.g1 ab.g1 _ e5) _ ?_
   rcases aT h with ⟨cB, h⟩ | ⟨cB, h⟩
   ·refine aX (congrArg I.bool cB) ?_
    simp only [(c8 cB), Bool.not_true, Bool.not_false]
    refine ws _ ?_
    exact aK (iE _ (an _ (.inl (aL [.bool false] rfl (by cases aH h; rfl) (by decide) aM))))
   ·refine a0 (congrArg I.bool cB) ?_
    simp only [(bq cB), Bool.not_true, Bool.not_false]
    refine a5 (g4 _ (.inl ?_))
    refine aN (fun n7 jJ i2 nu => ?_)
    obtain ⟨bl, g7, h⟩ := aO h
    refine dK (L2 J.gT ab.gT _ g7) _ ?_
    rcases aT h with ⟨cZ, h⟩ | ⟨cZ, h⟩
    ·refine aX (congrArg I.bool cZ) ?_
     simp only [(c8 cZ), Bool.not_true, Bool.not_false]
     refine ws _ ?_
     exact aK (i2 _ (an _ (.inl (aL [.bool false] rfl (by cases aH h; rfl) (by decide) aM))))
    ·refine a0 (congrArg I.bool cZ) ?_
     simp only [(bq cZ), Bool.not_true, Bool.not_false]
     refine a5 (jJ _ (.inl ?_))
     refine aN (fun uH mN me uI => ?_)
     obtain ⟨br, jr, h⟩ := aO h
     refine dK (L2 J.gU ab.gU _ jr) _ ?_
     rcases aT h with ⟨gW, h⟩ | ⟨gW, h⟩
     ·refine aX (congrArg I.bool gW) ?_
      simp only [(c8 gW), Bool.not_true, Bool.not_false]
      refine ws _ ?_
      exact aK (me _ (an _ (.inl (aL [.bool false] rfl (by cases aH h; rfl) (by decide) aM))))
     ·refine a0 (congrArg I.bool gW) ?_
      simp only [(bq gW), Bool.not_true, Bool.not_false]
      refine a5 (mN _ (.inl ?_))
      refine ws _ ?_
      exact aK (an _ (.inl (aL [.bool true] rfl (by cases aH h; rfl) (by decide) aM)))
theorem uR (J : Int) (r : (List UInt8)) (h : pA J = some r) : aR aJ 84 [.int .i64 J] (.str r) [] := by
 refine aR.bY (fx := []) bZ [.tmp 2] [(0, .int .i64 J)] Tryz.func84 rfl rfl ama (Nat.le_of_ble_eq_true rfl) rfl rfl (fun bV an bS => ?_)
 refine ws _ ?_
 refine aN (fun ek bR bj ao => ?_)
 refine ws _ ?_
 rcases aT h with ⟨ba, h⟩ | ⟨ba, h⟩
 ·refine aX (congrArg I.bool ba) ?_
  simp only [ba, Bool.not_true, Bool.not_false]
  refine ws _ ?_
  exact aK (bj _ (an _ (.inl (aL [.str ([109, 48] : List UInt8)] rfl (by cases aH h; rfl) (by decide) aM))))
 ·refine a0 (congrArg I.bool ba) ?_
  simp only [ba, Bool.not_true, Bool.not_false]
  refine a5 (bR _ (.inl ?_))
  refine ws _ ?_
  refine aN (fun hp dZ eW dm => ?_)
  refine bK (fun hA hB gn a6 gh => ?_)
  have hs : ∀ (n : Nat) (jF : Int) (cN : List UInt8), qy n jF cN = some r → dG aJ Lp hA (aa [(0, .int .i64 jF), (3, .str cN)]) := by
   intro dy
   induction dy with
   | zero => intro jF cN h; cases (show none = some r from h)
   | succ dy g5 =>
    intro jF cN h
    replace h : xj (qy dy) jF cN = some r := h
    refine dW (fun ey cQ cg dB => ?_)
    refine aN (fun e1 cd cA c4 => ?_)
    refine ws _ ?_
    rcases aT h with ⟨cI, h⟩ | ⟨cI, h⟩
    ·refine aX (congrArg I.bool cI) ?_
     simp only [cI, Bool.not_true, Bool.not_false]
     refine a5 (cd _ (.inl ?_))
     refine bK (fun lj g3 gi cH jd => ?_)
     obtain ⟨u16, eR, h⟩ := aO h
     (try simp only [List.length_append, List.length_cons, List.length_nil, List.length_map, List.length_replicate, Nat.zero_add, Nat.add_zero, Nat.reduceAdd] at eR)
     refine cT (b1 [(0, .int .i64 jF), (3, .str ([(o_ (IntKind.i64.wrap (48 + (Int.tmod jF 10))))] ++ cN))] (fun P ak => ?_) ?_)
     ·simp only [aY.down, simprocAttr, Sa, Sb, ka, @IM .i64 10 (by decide), @IG aJ 3 5 .u8 rfl rfl, (show ∀ s, eD aJ s 183 1 [(0, .int .u8 (IntKind.u8.wrap (IntKind.i64.wrap (48 + (Int.tmod jF 10)))))] = some (.aw 1 [.int .u8 (IntKind.u8.wrap (IntKind.i64.wrap (48 + (Int.tmod jF 10))))], s) from fun s => by kernel_rfl), (@II aJ 183 9 5 rfl rfl rfl).2.2, IL, IJ, eR, ze, zf]
      (try simp only [bn.down, simprocAttr, ka, @IM .i64 10 (by decide), @IG aJ 3 5 .u8 rfl rfl, (show ∀ s, eD aJ s 183 1 [(0, .int .u8 (IntKind.u8.wrap (IntKind.i64.wrap (48 + (Int.tmod jF 10)))))] = some (.aw 1 [.int .u8 (IntKind.u8.wrap (IntKind.i64.wrap (48 + (Int.tmod jF 10))))], s) from fun s => by kernel_rfl), (@II aJ 183 9 5 rfl rfl rfl).2.2, IL, IJ, eR, ze, zf] at ak ⊢); exact ak
     refine ao1 (@QK .i64 10 (by decide)) [(0, .int .i64 (IntKind.i64.wrap (Int.tdiv jF 10))), (3, .str ([(o_ (IntKind.i64.wrap (48 + (Int.tmod jF 10))))] ++ cN))] ?_
     exact g3 _ (cQ _ (.inr ⟨_, bx rfl, g5 (IntKind.i64.wrap (Int.tdiv jF 10)) ([(o_ (IntKind.i64.wrap (48 + (Int.tmod jF 10))))] ++ cN) h⟩))
    ·refine a0 (congrArg I.bool cI) ?_
     simp only [cI, Bool.not_true, Bool.not_false]
     refine dU (c4 0 _ (dB 0 _ (a6 _ (dZ _ (.inl ?_)))))
     obtain ⟨uJ, e9, h⟩ := aO h
     (try simp only [List.length_append, List.length_cons, List.length_nil, List.length_map, List.length_replicate, Nat.zero_add, Nat.add_zero, Nat.reduceAdd] at e9)
     refine cT (b1 [(2, .str (([109] : List UInt8) ++ cN))] (fun P ak => ?_) ?_)
     ·simp only [aY.down, simprocAttr, e9, ze, zf]
      (try simp only [bn.down, simprocAttr, e9, ze, zf] at ak ⊢); exact ak
     exact aK (an _ (.inl (aL [.str (([109] : List UInt8) ++ cN)] rfl (by cases aH h; rfl) (by decide) aM)))
  obtain ⟨n, h⟩ := dM h
  exact dV (.inr ⟨_, bx rfl, hs n J ([] : List UInt8) h⟩)
theorem arJ (J : List bP) (ab : Int) (r : Int × (List bP)) (h : Bc J ab = some r) : aR aJ 112 [.aw 2 (J.map bQ), .int .i64 ab] (.int .i64 r.1) [.aw 2 (r.2.map bQ), .hole] := by
 refine aR.bY (fx := [0]) bZ [.tmp 4] [(0, .aw 2 (J.map bQ)), (1, .int .i64 ab)] Tryz.func112 rfl rfl aml (Nat.le_of_ble_eq_true rfl) rfl rfl (fun bV an bS => ?_)
 refine ws _ ?_
 refine aN (fun ek bR bj ao => ?_)
 refine ws _ ?_
 refine bK (fun dQ eL b9 ba bl => ?_)
 have fo : ∀ (n : Nat) (bs : List bP) (aV : Int) (aG : Int), r_ n bs aV aG = some r → dG aJ Lq dQ (aa [(0, .aw 2 (bs.map bQ)), (1, .int .i64 aV), (5, .int .i64 aG)]) := by
  intro ch
  induction ch with
  | zero => intro bs aV aG h; cases (show none = some r from h)
  | succ ch fa =>
   intro bs aV aG h
   replace h : Bb (r_ ch) bs aV aG = some r := h
   refine dW (fun g6 dR dJ br => ?_)
   refine aN (fun fc dv dF b4 => ?_)
   refine ws _ ?_
   rcases aT h with ⟨a6, h⟩ | ⟨a6, h⟩
   ·refine aX (congrArg I.bool a6) ?_
    simp only [a6, Bool.not_true, Bool.not_false]
    refine a5 (dv _ (.inl ?_))
    refine aN (fun ey cQ cg dB => ?_)
    refine bK (fun e1 cd cA b2 c4 => ?_)
    obtain ⟨ag, eh, h⟩ := aO h
    refine cT (b1 [(0, .aw 2 ((List.set bs (Int.toNat aG) (bP.mk aV ag.Value)).map bQ)), (1, .int .i64 aV), (5, .int .i64 aG)] (fun P ak => ?_) ?_)
    ·simp only [aY.down, simprocAttr, mK.down, eh, c6 eh, el, dT]
     (try simp only [bn.down, simprocAttr, bQ, eh, c6 eh, el, dT] at ak ⊢); exact ak
    refine ws [(0, .aw 2 ((List.set bs (Int.toNat aG) (bP.mk aV ag.Value)).map bQ)), (1, .int .i64 (IntKind.i64.wrap (aV + 1))), (5, .int .i64 aG)] ?_
    obtain ⟨ao, eR, h⟩ := aO h
    refine cT (b1 [(0, .aw 2 ((List.set (List.set bs (Int.toNat aG) (bP.mk aV ag.Value)) (Int.toNat aG) (bP.mk ao.Kind (IntKind.i64.wrap (aV + 1)))).map bQ)), (1, .int .i64 (IntKind.i64.wrap (aV + 1))), (5, .int .i64 aG)] (fun P ak => ?_) ?_)
    ·simp only [aY.down, simprocAttr, mK.down, eR, c6 eR, el, dT]
     (try simp only [bn.down, simprocAttr, bQ, eR, c6 eR, el, dT] at ak ⊢); exact ak
    refine wr [(0, .aw 2 ((List.set (List.set bs (Int.toNat aG) (bP.mk aV ag.Value)) (Int.toNat aG) (bP.mk ao.Kind (IntKind.i64.wrap (aV + 1)))).map bQ)), (1, .int .i64 (IntKind.i64.wrap ((IntKind.i64.wrap (aV + 1)) + 1))), (5, .int .i64 aG)] ?_
    refine cd _ (cQ _ (.inl ?_))
    refine wr [(0, .aw 2 ((List.set (List.set bs (Int.toNat aG) (bP.mk aV ag.Value)) (Int.toNat aG) (bP.mk ao.Kind (IntKind.i64.wrap (aV + 1)))).map bQ)), (1, .int .i64 (IntKind.i64.wrap ((IntKind.i64.wrap (aV + 1)) + 1))), (5, .int .i64 (IntKind.i64.wrap (aG + 1)))] ?_
    exact dR _ (.inr ⟨_, bx rfl, fa (List.set (List.set bs (Int.toNat aG) (bP.mk aV ag.Value)) (Int.toNat aG) (bP.mk ao.Kind (IntKind.i64.wrap (aV + 1)))) (IntKind.i64.wrap ((IntKind.i64.wrap (aV + 1)) + 1)) (IntKind.i64.wrap (aG + 1)) h⟩)
   ·refine a0 (congrArg I.bool a6) ?_
    simp only [a6, Bool.not_true, Bool.not_false]
    refine dU (b4 0 _ (br 0 _ (ba _ (bR _ (.inl ?_)))))
    refine ws _ ?_
    exact aK (an _ (.inl (aL [.int .i64 aV] rfl (by cases aH h; rfl) (by decide) (nU (nV (by cases aH h; rfl) rfl rfl rfl (l6 (nW)))))))
 obtain ⟨n, h⟩ := dM h
 exact dV (.inr ⟨_, bx rfl, fo n J ab 0 h⟩)
theorem arK (J : List (List bP)) (ab : Int) (r : Int × (List (List bP))) (h : Be J ab = some r) : aR aJ 113 [.aw 1 (J.map fk), .int .i64 ab] (.int .i64 r.1) [.aw 1 (r.2.map fk), .hole] := by
 refine aR.bY (fx := [0]) bZ [.tmp 4] [(0, .aw 1 (J.map fk)), (1, .int .i64 ab)] Tryz.func113 rfl rfl amt (Nat.le_of_ble_eq_true rfl) rfl rfl (fun bV an bS => ?_)
 refine ws _ ?_
 refine aN (fun ek bR bj ao => ?_)
 refine ws _ ?_
 refine bK (fun dQ eL b9 ba bl => ?_)
 have fo : ∀ (n : Nat) (bs : List (List bP)) (aV : Int) (aG : Int), sa n bs aV aG = some r → dG aJ Lr dQ (aa [(0, .aw 1 (bs.map fk)), (1, .int .i64 aV), (5, .int .i64 aG)]) := by
  intro ch
  induction ch with
  | zero => intro bs aV aG h; cases (show none = some r from h)
  | succ ch fa =>
   intro bs aV aG h
   replace h : Bd (sa ch) bs aV aG = some r := h
   refine dW (fun g6 dR dJ br => ?_)
   refine aN (fun fc dv dF b4 => ?_)
   refine ws _ ?_
   rcases aT h with ⟨a6, h⟩ | ⟨a6, h⟩
   ·refine aX (congrArg I.bool a6) ?_
    simp only [a6, Bool.not_true, Bool.not_false]
    refine a5 (dv _ (.inl ?_))
    refine aN (fun ey cQ cg dB => ?_)
    refine bK (fun e1 cd cA b2 c4 => ?_)
    obtain ⟨ag, eh, h⟩ := aO h
    obtain ⟨ao, eC, h⟩ := aO h
    refine kW (b1 [(0, .aw 1 ((List.set bs (Int.toNat aG) ao.2).map fk)), (1, .int .i64 ao.1), (5, .int .i64 aG)] (fun P ak => ?_) ?_)
    ·simp only [aY.down, simprocAttr, eb, g0, gw, gg, bQ, fk, eh, c6 eh]
     refine qi [⟨.h 0 [Int.toNat aG], true, _, _⟩, ⟨.int .i64 aV, false, _, .hole⟩] (arJ ag aV _ eC) rfl rfl rfl (by simp only [aY.down, simprocAttr, eb, g0, gw, gg, bQ, fk, eh, c6 eh, l4, jo, hj, hk, hn, dn, or_true, true_or, @cj _ bQ bQ (fun _ => EY _)]) rfl rfl (.inl rfl) ?_
     simp only [aY.down, simprocAttr, eb, g0, gw, gg, bQ, fk, eh, c6 eh, l5, (v3 (c6 eh)), v5]
     (try simp only [bn.down, simprocAttr, bQ, fk, eh, c6 eh] at ak ⊢); exact ak
    refine cd _ (cQ _ (.inl ?_))
    refine wr [(0, .aw 1 ((List.set bs (Int.toNat aG) ao.2).map fk)), (1, .int .i64 ao.1), (5, .int .i64 (IntKind.i64.wrap (aG + 1)))] ?_
    exact dR _ (.inr ⟨_, bx rfl, fa (List.set bs (Int.toNat aG) ao.2) ao.1 (IntKind.i64.wrap (aG + 1)) h⟩)
   ·refine a0 (congrArg I.bool a6) ?_
    simp only [a6, Bool.not_true, Bool.not_false]
    refine dU (b4 0 _ (br 0 _ (ba _ (bR _ (.inl ?_)))))
    refine ws _ ?_
    exact aK (an _ (.inl (aL [.int .i64 aV] rfl (by cases aH h; rfl) (by decide) (nU (nV (by cases aH h; rfl) rfl rfl rfl (l6 (nW)))))))
 obtain ⟨n, h⟩ := dM h
 exact dV (.inr ⟨_, bx rfl, fo n J ab 0 h⟩)
theorem arL (J : List bz) (ab : Int) (r : Int × (List bz)) (h : Bg J ab = some r) : aR aJ 85 [.aw 4 (J.map fb), .int .i64 ab] (.int .i64 r.1) [.aw 4 (r.2.map fb), .hole] := by
 refine aR.bY (fx := [0]) bZ [.tmp 4] [(0, .aw 4 (J.map fb)), (1, .int .i64 ab)] Tryz.func85 rfl rfl amH (Nat.le_of_ble_eq_true rfl) rfl rfl (fun bV an bS => ?_)
 refine ws _ ?_
 refine aN (fun ek bR bj ao => ?_)
 refine ws _ ?_
 refine bK (fun dQ eL b9 ba bl => ?_)
 have fo : ∀ (n : Nat) (bs : List bz) (aV : Int) (aG : Int), sb n bs aV aG = some r → dG aJ Ls dQ (aa [(0, .aw 4 (bs.map fb)), (1, .int .i64 aV), (5, .int .i64 aG)]) := by
  intro ch
  induction ch with
  | zero => intro bs aV aG h; cases (show none = some r from h)
  | succ ch fa =>
   intro bs aV aG h
   replace h : Bf (sb ch) bs aV aG = some r := h
   refine dW (fun g6 dR dJ br => ?_)
   refine aN (fun fc dv dF b4 => ?_)
   refine ws _ ?_
   rcases aT h with ⟨a6, h⟩ | ⟨a6, h⟩
   ·refine aX (congrArg I.bool a6) ?_
    simp only [a6, Bool.not_true, Bool.not_false]
    refine a5 (dv _ (.inl ?_))
    refine aN (fun ey cQ cg dB => ?_)
    refine bK (fun e1 cd cA b2 c4 => ?_)
    obtain ⟨ag, eh, h⟩ := aO h
    refine cT (b1 [(0, .aw 4 ((List.set bs (Int.toNat aG) (bz.mk aV ag.Number ag.Name ag.cq)).map fb)), (1, .int .i64 aV), (5, .int .i64 aG)] (fun P ak => ?_) ?_)
    ·simp only [aY.down, simprocAttr, ss.down, eh, c6 eh, el, dT]
     (try simp only [bn.down, simprocAttr, BI.down, eh, c6 eh, el, dT] at ak ⊢); exact ak
    refine ws [(0, .aw 4 ((List.set bs (Int.toNat aG) (bz.mk aV ag.Number ag.Name ag.cq)).map fb)), (1, .int .i64 (IntKind.i64.wrap (aV + 1))), (5, .int .i64 aG)] ?_
    obtain ⟨ao, eR, h⟩ := aO h
    refine cT (b1 [(0, .aw 4 ((List.set (List.set bs (Int.toNat aG) (bz.mk aV ag.Number ag.Name ag.cq)) (Int.toNat aG) (bz.mk ao.Kind (IntKind.i64.wrap (aV + 1)) ao.Name ao.cq)).map fb)), (1, .int .i64 (IntKind.i64.wrap (aV + 1))), (5, .int .i64 aG)] (fun P ak => ?_) ?_)
    ·simp only [aY.down, simprocAttr, ss.down, eR, c6 eR, el, dT]
     (try simp only [bn.down, simprocAttr, BI.down, eR, c6 eR, el, dT] at ak ⊢); exact ak
    refine ws [(0, .aw 4 ((List.set (List.set bs (Int.toNat aG) (bz.mk aV ag.Number ag.Name ag.cq)) (Int.toNat aG) (bz.mk ao.Kind (IntKind.i64.wrap (aV + 1)) ao.Name ao.cq)).map fb)), (1, .int .i64 (IntKind.i64.wrap ((IntKind.i64.wrap (aV + 1)) + 1))), (5, .int .i64 aG)] ?_
    obtain ⟨aZ, e9, h⟩ := aO h
    obtain ⟨bl, g7, h⟩ := aO h
    refine cT (b1 [(0, .aw 4 ((List.set (List.set (List.set bs (Int.toNat aG) (bz.mk aV ag.Number ag.Name ag.cq)) (Int.toNat aG) (bz.mk ao.Kind (IntKind.i64.wrap (aV + 1)) ao.Name ao.cq)) (Int.toNat aG) (bz.mk bl.Kind bl.Number aZ bl.cq)).map fb)), (1, .int .i64 (IntKind.i64.wrap ((IntKind.i64.wrap (aV + 1)) + 1))), (5, .int .i64 aG)] (fun P ak => ?_) ?_)
    ·simp only [aY.down, simprocAttr, ss.down, g7, c6 g7, el, dT]
     refine ft (uR (IntKind.i64.wrap ((IntKind.i64.wrap (aV + 1)) + 1)) _ e9) rfl rfl rfl rfl (.inl (by rfl)) ?_
     simp only [aY.down, simprocAttr, ss.down, g7, c6 g7, el, dT]
     (try simp only [bn.down, simprocAttr, BI.down, g7, c6 g7, el, dT] at ak ⊢); exact ak
    refine ws [(0, .aw 4 ((List.set (List.set (List.set bs (Int.toNat aG) (bz.mk aV ag.Number ag.Name ag.cq)) (Int.toNat aG) (bz.mk ao.Kind (IntKind.i64.wrap (aV + 1)) ao.Name ao.cq)) (Int.toNat aG) (bz.mk bl.Kind bl.Number aZ bl.cq)).map fb)), (1, .int .i64 (IntKind.i64.wrap ((IntKind.i64.wrap ((IntKind.i64.wrap (aV + 1)) + 1)) + 1))), (5, .int .i64 aG)] ?_
    obtain ⟨br, hC, h⟩ := aO h
    obtain ⟨b4, n5, h⟩ := aO h
    refine kW (b1 [(0, .aw 4 ((List.set (List.set (List.set (List.set bs (Int.toNat aG) (bz.mk aV ag.Number ag.Name ag.cq)) (Int.toNat aG) (bz.mk ao.Kind (IntKind.i64.wrap (aV + 1)) ao.Name ao.cq)) (Int.toNat aG) (bz.mk bl.Kind bl.Number aZ bl.cq)) (Int.toNat aG) (bz.mk br.Kind br.Number br.Name b4.2)).map fb)), (1, .int .i64 b4.1), (5, .int .i64 aG)] (fun P ak => ?_) ?_)
    ·simp only [aY.down, simprocAttr, ss.down, hC, c6 hC]
     refine qi [⟨.h 0 [Int.toNat aG, 3], true, _, _⟩, ⟨.int .i64 (IntKind.i64.wrap ((IntKind.i64.wrap ((IntKind.i64.wrap (aV + 1)) + 1)) + 1)), false, _, .hole⟩] (arK br.cq (IntKind.i64.wrap ((IntKind.i64.wrap ((IntKind.i64.wrap (aV + 1)) + 1)) + 1)) _ n5) rfl rfl rfl (by simp only [aY.down, simprocAttr, ss.down, hC, c6 hC, l4, jo, hj, hk, hn, dn, or_true, true_or, @cj _ fk eG (fun _ => E1 _)]) rfl rfl (.inl rfl) ?_
     simp only [aY.down, simprocAttr, ss.down, hC, c6 hC, l5, (v3 (c6 hC)), v5]
     (try simp only [bn.down, simprocAttr, BI.down, hC, c6 hC] at ak ⊢); exact ak
    refine cd _ (cQ _ (.inl ?_))
    refine wr [(0, .aw 4 ((List.set (List.set (List.set (List.set bs (Int.toNat aG) (bz.mk aV ag.Number ag.Name ag.cq)) (Int.toNat aG) (bz.mk ao.Kind (IntKind.i64.wrap (aV + 1)) ao.Name ao.cq)) (Int.toNat aG) (bz.mk bl.Kind bl.Number aZ bl.cq)) (Int.toNat aG) (bz.mk br.Kind br.Number br.Name b4.2)).map fb)), (1, .int .i64 b4.1), (5, .int .i64 (IntKind.i64.wrap (aG + 1)))] ?_
    exact dR _ (.inr ⟨_, bx rfl, fa (List.set (List.set (List.set (List.set bs (Int.toNat aG) (bz.mk aV ag.Number ag.Name ag.cq)) (Int.toNat aG) (bz.mk ao.Kind (IntKind.i64.wrap (aV + 1)) ao.Name ao.cq)) (Int.toNat aG) (bz.mk bl.Kind bl.Number aZ bl.cq)) (Int.toNat aG) (bz.mk br.Kind br.Number br.Name b4.2)) b4.1 (IntKind.i64.wrap (aG + 1)) h⟩)
   ·refine a0 (congrArg I.bool a6) ?_
    simp only [a6, Bool.not_true, Bool.not_false]
    refine dU (b4 0 _ (br 0 _ (ba _ (bR _ (.inl ?_)))))
    refine ws _ ?_
    exact aK (an _ (.inl (aL [.int .i64 aV] rfl (by cases aH h; rfl) (by decide) (nU (nV (by cases aH h; rfl) rfl rfl rfl (l6 (nW)))))))
 obtain ⟨n, h⟩ := dM h
 exact dV (.inr ⟨_, bx rfl, fo n J ab 0 h⟩)
theorem arM (J : List bb) (ab : Int) (r : Int × (List bb)) (h : Bi J ab = some r) : aR aJ 49 [.aw 3 (J.map eQ), .int .i64 ab] (.int .i64 r.1) [.aw 3 (r.2.map eQ), .hole] := by
 refine aR.bY (fx := [0]) bZ [.tmp 4] [(0, .aw 3 (J.map eQ)), (1, .int .i64 ab)] Tryz.func49 rfl rfl amT (Nat.le_of_ble_eq_true rfl) rfl rfl (fun bV an bS => ?_)
 refine ws _ ?_
 refine aN (fun ek bR bj ao => ?_)
 refine ws _ ?_
 refine bK (fun dQ eL b9 ba bl => ?_)
 have fo : ∀ (n : Nat) (bs : List bb) (aV : Int) (aG : Int), sc n bs aV aG = some r → dG aJ Lt dQ (aa [(0, .aw 3 (bs.map eQ)), (1, .int .i64 aV), (5, .int .i64 aG)]) := by
  intro ch
  induction ch with
  | zero => intro bs aV aG h; cases (show none = some r from h)
  | succ ch fa =>
   intro bs aV aG h
   replace h : Bh (sc ch) bs aV aG = some r := h
   refine dW (fun g6 dR dJ br => ?_)
   refine aN (fun fc dv dF b4 => ?_)
   refine ws _ ?_
   rcases aT h with ⟨a6, h⟩ | ⟨a6, h⟩
   ·refine aX (congrArg I.bool a6) ?_
    simp only [a6, Bool.not_true, Bool.not_false]
    refine a5 (dv _ (.inl ?_))
    refine aN (fun ey cQ cg dB => ?_)
    refine bK (fun e1 cd cA b2 c4 => ?_)
    obtain ⟨ag, eh, h⟩ := aO h
    obtain ⟨ao, eC, h⟩ := aO h
    refine cT (b1 [(0, .aw 3 ((List.set bs (Int.toNat aG) (bb.mk ag ao.dc ao.Body)).map eQ)), (1, .int .i64 aV), (5, .int .i64 aG)] (fun P ak => ?_) ?_)
    ·simp only [aY.down, simprocAttr, uE.down, eC, c6 eC, el, dT]
     refine ft (uR aV _ eh) rfl rfl rfl rfl (.inl (by rfl)) ?_
     simp only [aY.down, simprocAttr, uE.down, eC, c6 eC, el, dT]
     (try simp only [bn.down, simprocAttr, bQ, eQ, fb, fk, eC, c6 eC, el, dT] at ak ⊢); exact ak
    refine ws [(0, .aw 3 ((List.set bs (Int.toNat aG) (bb.mk ag ao.dc ao.Body)).map eQ)), (1, .int .i64 (IntKind.i64.wrap (aV + 1))), (5, .int .i64 aG)] ?_
    obtain ⟨aZ, cr, h⟩ := aO h
    refine cT (b1 [(0, .aw 3 ((List.set (List.set bs (Int.toNat aG) (bb.mk ag ao.dc ao.Body)) (Int.toNat aG) (bb.mk aZ.Name (IntKind.i64.wrap (aV + 1)) aZ.Body)).map eQ)), (1, .int .i64 (IntKind.i64.wrap (aV + 1))), (5, .int .i64 aG)] (fun P ak => ?_) ?_)
    ·simp only [aY.down, simprocAttr, uE.down, cr, c6 cr, el, dT]
     (try simp only [bn.down, simprocAttr, bQ, eQ, fb, fk, cr, c6 cr, el, dT] at ak ⊢); exact ak
    refine ws [(0, .aw 3 ((List.set (List.set bs (Int.toNat aG) (bb.mk ag ao.dc ao.Body)) (Int.toNat aG) (bb.mk aZ.Name (IntKind.i64.wrap (aV + 1)) aZ.Body)).map eQ)), (1, .int .i64 (IntKind.i64.wrap ((IntKind.i64.wrap (aV + 1)) + 1))), (5, .int .i64 aG)] ?_
    obtain ⟨bl, g7, h⟩ := aO h
    obtain ⟨br, jK, h⟩ := aO h
    refine kW (b1 [(0, .aw 3 ((List.set (List.set (List.set bs (Int.toNat aG) (bb.mk ag ao.dc ao.Body)) (Int.toNat aG) (bb.mk aZ.Name (IntKind.i64.wrap (aV + 1)) aZ.Body)) (Int.toNat aG) (bb.mk bl.Name bl.dc br.2)).map eQ)), (1, .int .i64 br.1), (5, .int .i64 aG)] (fun P ak => ?_) ?_)
    ·simp only [aY.down, simprocAttr, uE.down, g7, c6 g7]
     refine qi [⟨.h 0 [Int.toNat aG, 2], true, _, _⟩, ⟨.int .i64 (IntKind.i64.wrap ((IntKind.i64.wrap (aV + 1)) + 1)), false, _, .hole⟩] (arL bl.Body (IntKind.i64.wrap ((IntKind.i64.wrap (aV + 1)) + 1)) _ jK) rfl rfl rfl (by simp only [aY.down, simprocAttr, uE.down, g7, c6 g7, l4, jo, hj, hk, hn, dn, or_true, true_or, @cj _ fb cb (fun _ => E2 _)]) rfl rfl (.inl rfl) ?_
     simp only [aY.down, simprocAttr, uE.down, g7, c6 g7, l5, (v3 (c6 g7)), v5]
     (try simp only [bn.down, simprocAttr, bQ, eQ, fb, fk, g7, c6 g7] at ak ⊢); exact ak
    refine cd _ (cQ _ (.inl ?_))
    refine wr [(0, .aw 3 ((List.set (List.set (List.set bs (Int.toNat aG) (bb.mk ag ao.dc ao.Body)) (Int.toNat aG) (bb.mk aZ.Name (IntKind.i64.wrap (aV + 1)) aZ.Body)) (Int.toNat aG) (bb.mk bl.Name bl.dc br.2)).map eQ)), (1, .int .i64 br.1), (5, .int .i64 (IntKind.i64.wrap (aG + 1)))] ?_
    exact dR _ (.inr ⟨_, bx rfl, fa (List.set (List.set (List.set bs (Int.toNat aG) (bb.mk ag ao.dc ao.Body)) (Int.toNat aG) (bb.mk aZ.Name (IntKind.i64.wrap (aV + 1)) aZ.Body)) (Int.toNat aG) (bb.mk bl.Name bl.dc br.2)) br.1 (IntKind.i64.wrap (aG + 1)) h⟩)
   ·refine a0 (congrArg I.bool a6) ?_
    simp only [a6, Bool.not_true, Bool.not_false]
    refine dU (b4 0 _ (br 0 _ (ba _ (bR _ (.inl ?_)))))
    refine ws _ ?_
    exact aK (an _ (.inl (aL [.int .i64 aV] rfl (by cases aH h; rfl) (by decide) (nU (nV (by cases aH h; rfl) rfl rfl rfl (l6 (nW)))))))
 obtain ⟨n, h⟩ := dM h
 exact dV (.inr ⟨_, bx rfl, fo n J ab 0 h⟩)
theorem L3 (J : List Int) (ab : Int) (r : Int × (List Int)) (h : xk J ab = some r) : aR aJ 23 [.aw 1 (J.map bA), .int .i64 ab] (.int .i64 r.1) [.aw 1 (r.2.map bA), .hole] := by
 refine aR.bY (fx := [0]) bZ [.tmp 4] [(0, .aw 1 (J.map bA)), (1, .int .i64 ab)] Tryz.func23 rfl rfl am2 (Nat.le_of_ble_eq_true rfl) rfl rfl (fun bV an bS => ?_)
 refine ws _ ?_
 refine aN (fun ek bR bj ao => ?_)
 refine ws _ ?_
 refine bK (fun dQ eL b9 ba bl => ?_)
 have fo : ∀ (n : Nat) (bs : List Int) (aV : Int) (aG : Int), sd n bs aV aG = some r → dG aJ Lu dQ (aa [(0, .aw 1 (bs.map bA)), (1, .int .i64 aV), (5, .int .i64 aG)]) := by
  intro ch
  induction ch with
  | zero => intro bs aV aG h; cases (show none = some r from h)
  | succ ch fa =>
   intro bs aV aG h
   replace h : Bj (sd ch) bs aV aG = some r := h
   refine dW (fun g6 dR dJ br => ?_)
   refine aN (fun fc dv dF b4 => ?_)
   refine ws _ ?_
   rcases aT h with ⟨a6, h⟩ | ⟨a6, h⟩
   ·refine aX (congrArg I.bool a6) ?_
    simp only [a6, Bool.not_true, Bool.not_false]
    refine a5 (dv _ (.inl ?_))
    refine aN (fun ey cQ cg dB => ?_)
    refine bK (fun e1 cd cA b2 c4 => ?_)
    obtain ⟨ag, eh, h⟩ := aO h
    refine cT (b1 [(0, .aw 1 ((List.set bs (Int.toNat aG) aV).map bA)), (1, .int .i64 aV), (5, .int .i64 aG)] (fun P ak => ?_) ?_)
    ·simp only [aY.down, simprocAttr, eb, hQ, bA, eh, c6 eh, el, dT]
     (try simp only [bn.down, simprocAttr, bA, eh, c6 eh, el, dT] at ak ⊢); exact ak
    refine wr [(0, .aw 1 ((List.set bs (Int.toNat aG) aV).map bA)), (1, .int .i64 (IntKind.i64.wrap (aV + 1))), (5, .int .i64 aG)] ?_
    refine cd _ (cQ _ (.inl ?_))
    refine wr [(0, .aw 1 ((List.set bs (Int.toNat aG) aV).map bA)), (1, .int .i64 (IntKind.i64.wrap (aV + 1))), (5, .int .i64 (IntKind.i64.wrap (aG + 1)))] ?_
    exact dR _ (.inr ⟨_, bx rfl, fa (List.set bs (Int.toNat aG) aV) (IntKind.i64.wrap (aV + 1)) (IntKind.i64.wrap (aG + 1)) h⟩)
   ·refine a0 (congrArg I.bool a6) ?_
    simp only [a6, Bool.not_true, Bool.not_false]
    refine dU (b4 0 _ (br 0 _ (ba _ (bR _ (.inl ?_)))))
    refine ws _ ?_
    exact aK (an _ (.inl (aL [.int .i64 aV] rfl (by cases aH h; rfl) (by decide) (nU (nV (by cases aH h; rfl) rfl rfl rfl (l6 (nW)))))))
 obtain ⟨n, h⟩ := dM h
 exact dV (.inr ⟨_, bx rfl, fo n J ab 0 h⟩)
theorem arN (J : List cX) (ab : Int) (r : Int × (List cX)) (h : Bl J ab = some r) : aR aJ 50 [.aw 2 (J.map eZ), .int .i64 ab] (.int .i64 r.1) [.aw 2 (r.2.map eZ), .hole] := by
 refine aR.bY (fx := [0]) bZ [.tmp 4] [(0, .aw 2 (J.map eZ)), (1, .int .i64 ab)] Tryz.func50 rfl rfl anb (Nat.le_of_ble_eq_true rfl) rfl rfl (fun bV an bS => ?_)
 refine ws _ ?_
 refine aN (fun ek bR bj ao => ?_)
 refine ws _ ?_
 refine bK (fun dQ eL b9 ba bl => ?_)
 have fo : ∀ (n : Nat) (bs : List cX) (aV : Int) (aG : Int), se n bs aV aG = some r → dG aJ Lv dQ (aa [(0, .aw 2 (bs.map eZ)), (1, .int .i64 aV), (5, .int .i64 aG)]) := by
  intro ch
  induction ch with
  | zero => intro bs aV aG h; cases (show none = some r from h)
  | succ ch fa =>
   intro bs aV aG h
   replace h : Bk (se ch) bs aV aG = some r := h
   refine dW (fun g6 dR dJ br => ?_)
   refine aN (fun fc dv dF b4 => ?_)
   refine ws _ ?_
   rcases aT h with ⟨a6, h⟩ | ⟨a6, h⟩
   ·refine aX (congrArg I.bool a6) ?_
    simp only [a6, Bool.not_true, Bool.not_false]
    refine a5 (dv _ (.inl ?_))
    refine aN (fun ey cQ cg dB => ?_)
    refine bK (fun e1 cd cA b2 c4 => ?_)
    obtain ⟨ag, eh, h⟩ := aO h
    refine cT (b1 [(0, .aw 2 ((List.set bs (Int.toNat aG) (cX.mk aV ag.c3)).map eZ)), (1, .int .i64 aV), (5, .int .i64 aG)] (fun P ak => ?_) ?_)
    ·simp only [aY.down, simprocAttr, BJ.down, eh, c6 eh, el, dT]
     (try simp only [bn.down, simprocAttr, bA, eZ, eh, c6 eh, el, dT] at ak ⊢); exact ak
    refine ws [(0, .aw 2 ((List.set bs (Int.toNat aG) (cX.mk aV ag.c3)).map eZ)), (1, .int .i64 (IntKind.i64.wrap (aV + 1))), (5, .int .i64 aG)] ?_
    obtain ⟨ao, eR, h⟩ := aO h
    obtain ⟨aZ, cr, h⟩ := aO h
    refine kW (b1 [(0, .aw 2 ((List.set (List.set bs (Int.toNat aG) (cX.mk aV ag.c3)) (Int.toNat aG) (cX.mk ao.eo aZ.2)).map eZ)), (1, .int .i64 aZ.1), (5, .int .i64 aG)] (fun P ak => ?_) ?_)
    ·simp only [aY.down, simprocAttr, BJ.down, eR, c6 eR]
     refine qi [⟨.h 0 [Int.toNat aG, 1], true, _, _⟩, ⟨.int .i64 (IntKind.i64.wrap (aV + 1)), false, _, .hole⟩] (L3 ao.c3 (IntKind.i64.wrap (aV + 1)) _ cr) rfl rfl rfl (by simp only [aY.down, simprocAttr, BJ.down, eR, c6 eR, l4, jo, hj, hk, hn, dn, or_true, true_or, @cj _ bA bA (fun _ => pC _)]) rfl rfl (.inl rfl) ?_
     simp only [aY.down, simprocAttr, BJ.down, eR, c6 eR, l5, (v3 (c6 eR)), v5]
     (try simp only [bn.down, simprocAttr, bA, eZ, eR, c6 eR] at ak ⊢); exact ak
    refine cd _ (cQ _ (.inl ?_))
    refine wr [(0, .aw 2 ((List.set (List.set bs (Int.toNat aG) (cX.mk aV ag.c3)) (Int.toNat aG) (cX.mk ao.eo aZ.2)).map eZ)), (1, .int .i64 aZ.1), (5, .int .i64 (IntKind.i64.wrap (aG + 1)))] ?_
    exact dR _ (.inr ⟨_, bx rfl, fa (List.set (List.set bs (Int.toNat aG) (cX.mk aV ag.c3)) (Int.toNat aG) (cX.mk ao.eo aZ.2)) aZ.1 (IntKind.i64.wrap (aG + 1)) h⟩)
   ·refine a0 (congrArg I.bool a6) ?_
    simp only [a6, Bool.not_true, Bool.not_false]
    refine dU (b4 0 _ (br 0 _ (ba _ (bR _ (.inl ?_)))))
    refine ws _ ?_
    exact aK (an _ (.inl (aL [.int .i64 aV] rfl (by cases aH h; rfl) (by decide) (nU (nV (by cases aH h; rfl) rfl rfl rfl (l6 (nW)))))))
 obtain ⟨n, h⟩ := dM h
 exact dV (.inr ⟨_, bx rfl, fo n J ab 0 h⟩)
theorem arO (J : List bT) (ab : Int) (r : Int × (List bT)) (h : Bn J ab = some r) : aR aJ 51 [.aw 3 (J.map bo), .int .i64 ab] (.int .i64 r.1) [.aw 3 (r.2.map bo), .hole] := by
 refine aR.bY (fx := [0]) bZ [.tmp 4] [(0, .aw 3 (J.map bo)), (1, .int .i64 ab)] Tryz.func51 rfl rfl anp (Nat.le_of_ble_eq_true rfl) rfl rfl (fun bV an bS => ?_)
 refine ws _ ?_
 refine aN (fun ek bR bj ao => ?_)
 refine ws _ ?_
 refine bK (fun dQ eL b9 ba bl => ?_)
 have fo : ∀ (n : Nat) (bs : List bT) (aV : Int) (aG : Int), sf n bs aV aG = some r → dG aJ Lw dQ (aa [(0, .aw 3 (bs.map bo)), (1, .int .i64 aV), (5, .int .i64 aG)]) := by
  intro ch
  induction ch with
  | zero => intro bs aV aG h; cases (show none = some r from h)
  | succ ch fa =>
   intro bs aV aG h
   replace h : Bm (sf ch) bs aV aG = some r := h
   refine dW (fun g6 dR dJ br => ?_)
   refine aN (fun fc dv dF b4 => ?_)
   refine ws _ ?_
   rcases aT h with ⟨a6, h⟩ | ⟨a6, h⟩
   ·refine aX (congrArg I.bool a6) ?_
    simp only [a6, Bool.not_true, Bool.not_false]
    refine a5 (dv _ (.inl ?_))
    refine aN (fun ey cQ cg dB => ?_)
    refine bK (fun e1 cd cA b2 c4 => ?_)
    obtain ⟨ag, eh, h⟩ := aO h
    obtain ⟨ao, eC, h⟩ := aO h
    refine cT (b1 [(0, .aw 3 ((List.set bs (Int.toNat aG) (bT.mk ag ao.b6 ao.Result)).map bo)), (1, .int .i64 aV), (5, .int .i64 aG)] (fun P ak => ?_) ?_)
    ·simp only [aY.down, simprocAttr, gV.down, eC, c6 eC, el, dT]
     refine ft (uR aV _ eh) rfl rfl rfl rfl (.inl (by rfl)) ?_
     simp only [aY.down, simprocAttr, gV.down, eC, c6 eC, el, dT]
     (try simp only [bn.down, simprocAttr, bo, eC, c6 eC, el, dT] at ak ⊢); exact ak
    refine ws [(0, .aw 3 ((List.set bs (Int.toNat aG) (bT.mk ag ao.b6 ao.Result)).map bo)), (1, .int .i64 (IntKind.i64.wrap (aV + 1))), (5, .int .i64 aG)] ?_
    obtain ⟨aZ, cr, h⟩ := aO h
    obtain ⟨bl, eK, h⟩ := aO h
    refine cT (b1 [(0, .aw 3 ((List.set (List.set bs (Int.toNat aG) (bT.mk ag ao.b6 ao.Result)) (Int.toNat aG) (bT.mk bl.Left aZ bl.Result)).map bo)), (1, .int .i64 (IntKind.i64.wrap (aV + 1))), (5, .int .i64 aG)] (fun P ak => ?_) ?_)
    ·simp only [aY.down, simprocAttr, gV.down, eK, c6 eK, el, dT]
     refine ft (uR (IntKind.i64.wrap (aV + 1)) _ cr) rfl rfl rfl rfl (.inl (by rfl)) ?_
     simp only [aY.down, simprocAttr, gV.down, eK, c6 eK, el, dT]
     (try simp only [bn.down, simprocAttr, bo, eK, c6 eK, el, dT] at ak ⊢); exact ak
    refine ws [(0, .aw 3 ((List.set (List.set bs (Int.toNat aG) (bT.mk ag ao.b6 ao.Result)) (Int.toNat aG) (bT.mk bl.Left aZ bl.Result)).map bo)), (1, .int .i64 (IntKind.i64.wrap ((IntKind.i64.wrap (aV + 1)) + 1))), (5, .int .i64 aG)] ?_
    obtain ⟨br, jK, h⟩ := aO h
    obtain ⟨b4, nt, h⟩ := aO h
    refine cT (b1 [(0, .aw 3 ((List.set (List.set (List.set bs (Int.toNat aG) (bT.mk ag ao.b6 ao.Result)) (Int.toNat aG) (bT.mk bl.Left aZ bl.Result)) (Int.toNat aG) (bT.mk b4.Left b4.b6 br)).map bo)), (1, .int .i64 (IntKind.i64.wrap ((IntKind.i64.wrap (aV + 1)) + 1))), (5, .int .i64 aG)] (fun P ak => ?_) ?_)
    ·simp only [aY.down, simprocAttr, gV.down, nt, c6 nt, el, dT]
     refine ft (uR (IntKind.i64.wrap ((IntKind.i64.wrap (aV + 1)) + 1)) _ jK) rfl rfl rfl rfl (.inl (by rfl)) ?_
     simp only [aY.down, simprocAttr, gV.down, nt, c6 nt, el, dT]
     (try simp only [bn.down, simprocAttr, bo, nt, c6 nt, el, dT] at ak ⊢); exact ak
    refine wr [(0, .aw 3 ((List.set (List.set (List.set bs (Int.toNat aG) (bT.mk ag ao.b6 ao.Result)) (Int.toNat aG) (bT.mk bl.Left aZ bl.Result)) (Int.toNat aG) (bT.mk b4.Left b4.b6 br)).map bo)), (1, .int .i64 (IntKind.i64.wrap ((IntKind.i64.wrap ((IntKind.i64.wrap (aV + 1)) + 1)) + 1))), (5, .int .i64 aG)] ?_
    refine cd _ (cQ _ (.inl ?_))
    refine wr [(0, .aw 3 ((List.set (List.set (List.set bs (Int.toNat aG) (bT.mk ag ao.b6 ao.Result)) (Int.toNat aG) (bT.mk bl.Left aZ bl.Result)) (Int.toNat aG) (bT.mk b4.Left b4.b6 br)).map bo)), (1, .int .i64 (IntKind.i64.wrap ((IntKind.i64.wrap ((IntKind.i64.wrap (aV + 1)) + 1)) + 1))), (5, .int .i64 (IntKind.i64.wrap (aG + 1)))] ?_
    exact dR _ (.inr ⟨_, bx rfl, fa (List.set (List.set (List.set bs (Int.toNat aG) (bT.mk ag ao.b6 ao.Result)) (Int.toNat aG) (bT.mk bl.Left aZ bl.Result)) (Int.toNat aG) (bT.mk b4.Left b4.b6 br)) (IntKind.i64.wrap ((IntKind.i64.wrap ((IntKind.i64.wrap (aV + 1)) + 1)) + 1)) (IntKind.i64.wrap (aG + 1)) h⟩)
   ·refine a0 (congrArg I.bool a6) ?_
    simp only [a6, Bool.not_true, Bool.not_false]
    refine dU (b4 0 _ (br 0 _ (ba _ (bR _ (.inl ?_)))))
    refine ws _ ?_
    exact aK (an _ (.inl (aL [.int .i64 aV] rfl (by cases aH h; rfl) (by decide) (nU (nV (by cases aH h; rfl) rfl rfl rfl (l6 (nW)))))))
 obtain ⟨n, h⟩ := dM h
 exact dV (.inr ⟨_, bx rfl, fo n J ab 0 h⟩)
theorem L4 (J : List (List UInt8)) (ab : Int) (r : Int × (List (List UInt8))) (h : xl J ab = some r) : aR aJ 52 [.aw 1 (J.map bu), .int .i64 ab] (.int .i64 r.1) [.aw 1 (r.2.map bu), .hole] := by
 refine aR.bY (fx := [0]) bZ [.tmp 4] [(0, .aw 1 (J.map bu)), (1, .int .i64 ab)] Tryz.func52 rfl rfl xz (Nat.le_of_ble_eq_true rfl) rfl rfl (fun bV an bS => ?_)
 refine ws _ ?_
 refine aN (fun ek bR bj ao => ?_)
 refine ws _ ?_
 refine bK (fun dQ eL b9 ba bl => ?_)
 have fo : ∀ (n : Nat) (bs : List (List UInt8)) (aV : Int) (aG : Int), sg n bs aV aG = some r → dG aJ Lx dQ (aa [(0, .aw 1 (bs.map bu)), (1, .int .i64 aV), (5, .int .i64 aG)]) := by
  intro ch
  induction ch with
  | zero => intro bs aV aG h; cases (show none = some r from h)
  | succ ch fa =>
   intro bs aV aG h
   replace h : Bo (sg ch) bs aV aG = some r := h
   refine dW (fun g6 dR dJ br => ?_)
   refine aN (fun fc dv dF b4 => ?_)
   refine ws _ ?_
   rcases aT h with ⟨a6, h⟩ | ⟨a6, h⟩
   ·refine aX (congrArg I.bool a6) ?_
    simp only [a6, Bool.not_true, Bool.not_false]
    refine a5 (dv _ (.inl ?_))
    refine aN (fun ey cQ cg dB => ?_)
    refine bK (fun e1 cd cA b2 c4 => ?_)
    obtain ⟨ag, eh, h⟩ := aO h
    obtain ⟨ao, eC, h⟩ := aO h
    refine cT (b1 [(0, .aw 1 ((List.set bs (Int.toNat aG) ag).map bu)), (1, .int .i64 aV), (5, .int .i64 aG)] (fun P ak => ?_) ?_)
    ·simp only [aY.down, simprocAttr, eX, kE, bu, eC, c6 eC, el, dT]
     refine ft (uR aV _ eh) rfl rfl rfl rfl (.inl (by rfl)) ?_
     simp only [aY.down, simprocAttr, eX, kE, bu, eC, c6 eC, el, dT]
     (try simp only [bn.down, simprocAttr, bu, eC, c6 eC, el, dT] at ak ⊢); exact ak
    refine wr [(0, .aw 1 ((List.set bs (Int.toNat aG) ag).map bu)), (1, .int .i64 (IntKind.i64.wrap (aV + 1))), (5, .int .i64 aG)] ?_
    refine cd _ (cQ _ (.inl ?_))
    refine wr [(0, .aw 1 ((List.set bs (Int.toNat aG) ag).map bu)), (1, .int .i64 (IntKind.i64.wrap (aV + 1))), (5, .int .i64 (IntKind.i64.wrap (aG + 1)))] ?_
    exact dR _ (.inr ⟨_, bx rfl, fa (List.set bs (Int.toNat aG) ag) (IntKind.i64.wrap (aV + 1)) (IntKind.i64.wrap (aG + 1)) h⟩)
   ·refine a0 (congrArg I.bool a6) ?_
    simp only [a6, Bool.not_true, Bool.not_false]
    refine dU (b4 0 _ (br 0 _ (ba _ (bR _ (.inl ?_)))))
    refine ws _ ?_
    exact aK (an _ (.inl (aL [.int .i64 aV] rfl (by cases aH h; rfl) (by decide) (nU (nV (by cases aH h; rfl) rfl rfl rfl (l6 (nW)))))))
 obtain ⟨n, h⟩ := dM h
 exact dV (.inr ⟨_, bx rfl, fo n J ab 0 h⟩)
theorem arP (si : List bb) (qz : List cX) (pB : List bT) (oW : List (List UInt8)) (n1 : List (List UInt8)) (ab : Int) (r : Int × (List bb) × (List cX) × (List bT) × (List (List UInt8)) × (List (List UInt8))) (h : Bp si qz pB oW n1 ab = some r) : aR aJ 13 [.agg [.aw 3 (si.map eQ), .aw 2 (qz.map eZ), .aw 3 (pB.map bo), .aw 1 (oW.map bu), .aw 1 (n1.map bu)], .int .i64 ab] (.int .i64 r.1) [.agg [.aw 3 (r.2.1.map eQ), .aw 2 (r.2.2.1.map eZ), .aw 3 (r.2.2.2.1.map bo), .aw 1 (r.2.2.2.2.1.map bu), .aw 1 (r.2.2.2.2.2.map bu)], .hole] := by
 refine aR.bY (fx := [0]) bZ [.tmp 4] [(0, .agg [.aw 3 (si.map eQ), .aw 2 (qz.map eZ), .aw 3 (pB.map bo), .aw 1 (oW.map bu), .aw 1 (n1.map bu)]), (1, .int .i64 ab)] Tryz.func13 rfl rfl uD (Nat.le_of_ble_eq_true rfl) rfl rfl (fun bV an bS => ?_)
 refine cT (b1 [(0, .agg [.aw 3 (si.map eQ), .aw 2 (qz.map eZ), .aw 3 (pB.map bo), .aw 1 (oW.map bu), .aw 1 (n1.map bu)]), (1, .int .i64 ab), (2, .ae 0 0)] (fun P ak => ?_) ?_)
 ·simp only [aY.down, simprocAttr, j2.down, ix, iz, I.dI, iy]
  (try simp only [bn.down, simprocAttr, uF.down, ix, iz, I.dI, iy] at ak ⊢); exact ak
 obtain ⟨ag, a2, h⟩ := aO h
 refine cT (b1 [(0, .agg [.aw 3 (ag.2.map eQ), .aw 2 (qz.map eZ), .aw 3 (pB.map bo), .aw 1 (oW.map bu), .aw 1 (n1.map bu)]), (1, .int .i64 ag.1), (2, .ae 0 0)] (fun P ak => ?_) ?_)
 ·simp only [aY.down, simprocAttr, j2.down, ix, iz, I.dI, iy]
  refine zj [⟨.h 0 [0], true, _, _⟩, ⟨.int .i64 ab, false, _, .hole⟩] (arM si ab _ a2) rfl rfl rfl (by simp only [aY.down, simprocAttr, j2.down, ix, iz, I.dI, iy, oR, l4, jo, hj, hk, hn, dn, or_true, true_or, @cj _ eQ bp (fun _ => qA _)]) rfl rfl (.inl rfl) (by simp only [aY.down, simprocAttr, j2.down, ix, iz, I.dI, iy, qh, jo, tU, Bool.and_self, Bool.not_false, Bool.and_true]) ?_
  simp only [aY.down, simprocAttr, j2.down, ix, iz, I.dI, iy, l5, qh, jo, eq_self, Bool.and_self]
  (try simp only [bn.down, simprocAttr, uF.down, ix, iz, I.dI, iy] at ak ⊢); exact ak
 obtain ⟨ao, c9, h⟩ := aO h
 refine cT (b1 [(0, .agg [.aw 3 (ag.2.map eQ), .aw 2 (ao.2.map eZ), .aw 3 (pB.map bo), .aw 1 (oW.map bu), .aw 1 (n1.map bu)]), (1, .int .i64 ao.1), (2, .ae 0 0)] (fun P ak => ?_) ?_)
 ·simp only [aY.down, simprocAttr, j2.down, ix, iz, I.dI, iy]
  refine zj [⟨.h 0 [1], true, _, _⟩, ⟨.int .i64 ag.1, false, _, .hole⟩] (arN qz ag.1 _ c9) rfl rfl rfl (by simp only [aY.down, simprocAttr, j2.down, ix, iz, I.dI, iy, oR, l4, jo, hj, hk, hn, dn, or_true, true_or, @cj _ eZ ep (fun _ => qB _)]) rfl rfl (.inl rfl) (by simp only [aY.down, simprocAttr, j2.down, ix, iz, I.dI, iy, qh, jo, tU, Bool.and_self, Bool.not_false, Bool.and_true]) ?_
  simp only [aY.down, simprocAttr, j2.down, ix, iz, I.dI, iy, l5, qh, jo, eq_self, Bool.and_self]
  (try simp only [bn.down, simprocAttr, uF.down, ix, iz, I.dI, iy] at ak ⊢); exact ak
 obtain ⟨aZ, cf, h⟩ := aO h
 refine cT (b1 [(0, .agg [.aw 3 (ag.2.map eQ), .aw 2 (ao.2.map eZ), .aw 3 (aZ.2.map bo), .aw 1 (oW.map bu), .aw 1 (n1.map bu)]), (1, .int .i64 aZ.1), (2, .ae 0 0)] (fun P ak => ?_) ?_)
 ·simp only [aY.down, simprocAttr, j2.down, ix, iz, I.dI, iy]
  refine zj [⟨.h 0 [2], true, _, _⟩, ⟨.int .i64 ao.1, false, _, .hole⟩] (arO pB ao.1 _ cf) rfl rfl rfl (by simp only [aY.down, simprocAttr, j2.down, ix, iz, I.dI, iy, oR, l4, jo, hj, hk, hn, dn, or_true, true_or, @cj _ bo bo (fun _ => nq _)]) rfl rfl (.inl rfl) (by simp only [aY.down, simprocAttr, j2.down, ix, iz, I.dI, iy, qh, jo, tU, Bool.and_self, Bool.not_false, Bool.and_true]) ?_
  simp only [aY.down, simprocAttr, j2.down, ix, iz, I.dI, iy, l5, qh, jo, eq_self, Bool.and_self]
  (try simp only [bn.down, simprocAttr, uF.down, ix, iz, I.dI, iy] at ak ⊢); exact ak
 obtain ⟨bl, ku, h⟩ := aO h
 refine cT (b1 [(0, .agg [.aw 3 (ag.2.map eQ), .aw 2 (ao.2.map eZ), .aw 3 (aZ.2.map bo), .aw 1 (bl.2.map bu), .aw 1 (n1.map bu)]), (1, .int .i64 bl.1), (2, .ae 0 0)] (fun P ak => ?_) ?_)
 ·simp only [aY.down, simprocAttr, j2.down, ix, iz, I.dI, iy]
  refine zj [⟨.h 0 [3], true, _, _⟩, ⟨.int .i64 aZ.1, false, _, .hole⟩] (L4 oW aZ.1 _ ku) rfl rfl rfl (by simp only [aY.down, simprocAttr, j2.down, ix, iz, I.dI, iy, oR, l4, jo, hj, hk, hn, dn, or_true, true_or, @cj _ bu bu (fun _ => jf _)]) rfl rfl (.inl rfl) (by simp only [aY.down, simprocAttr, j2.down, ix, iz, I.dI, iy, qh, jo, tU, Bool.and_self, Bool.not_false, Bool.and_true]) ?_
  simp only [aY.down, simprocAttr, j2.down, ix, iz, I.dI, iy, l5, qh, jo, eq_self, Bool.and_self]
  (try simp only [bn.down, simprocAttr, uF.down, ix, iz, I.dI, iy] at ak ⊢); exact ak
 obtain ⟨br, nE, h⟩ := aO h
 refine cT (b1 [(0, .agg [.aw 3 (ag.2.map eQ), .aw 2 (ao.2.map eZ), .aw 3 (aZ.2.map bo), .aw 1 (bl.2.map bu), .aw 1 (br.2.map bu)]), (1, .int .i64 br.1)] (fun P ak => ?_) ?_)
 ·simp only [aY.down, simprocAttr, j2.down, ix, iz, I.dI, iy]
  refine qi [⟨.h 0 [4], true, _, _⟩, ⟨.int .i64 bl.1, false, _, .hole⟩] (L4 n1 bl.1 _ nE) rfl rfl rfl (by simp only [aY.down, simprocAttr, j2.down, ix, iz, I.dI, iy, oR, l4, jo, hj, hk, hn, dn, or_true, true_or, @cj _ bu bu (fun _ => jf _)]) rfl rfl (.inl rfl) ?_
  simp only [aY.down, simprocAttr, j2.down, ix, iz, I.dI, iy, l5]
  (try simp only [bn.down, simprocAttr, uF.down, ix, iz, I.dI, iy] at ak ⊢); exact ak
 refine ws _ ?_
 exact aK (an _ (.inl (aL [.int .i64 br.1] rfl (by cases aH h; rfl) (by decide) (nU (nV (by cases aH h; rfl) rfl rfl rfl (l6 (nW)))))))
theorem arQ (J : List cU) (ab : Int) (r : Int × (List cU)) (h : Br J ab = some r) : aR aJ 29 [.aw 3 (J.map dH), .int .i64 ab] (.int .i64 r.1) [.aw 3 (r.2.map dH), .hole] := by
 refine aR.bY (fx := [0]) bZ [.tmp 4] [(0, .aw 3 (J.map dH)), (1, .int .i64 ab)] Tryz.func29 rfl rfl anR (Nat.le_of_ble_eq_true rfl) rfl rfl (fun bV an bS => ?_)
 refine ws _ ?_
 refine aN (fun ek bR bj ao => ?_)
 refine ws _ ?_
 refine bK (fun dQ eL b9 ba bl => ?_)
 have fo : ∀ (n : Nat) (bs : List cU) (aV : Int) (aG : Int), sj n bs aV aG = some r → dG aJ Ly dQ (aa [(0, .aw 3 (bs.map dH)), (1, .int .i64 aV), (5, .int .i64 aG)]) := by
  intro ch
  induction ch with
  | zero => intro bs aV aG h; cases (show none = some r from h)
  | succ ch fa =>
   intro bs aV aG h
   replace h : Bq (sj ch) bs aV aG = some r := h
   refine dW (fun g6 dR dJ br => ?_)
   refine aN (fun fc dv dF b4 => ?_)
   refine ws _ ?_
   rcases aT h with ⟨a6, h⟩ | ⟨a6, h⟩
   ·refine aX (congrArg I.bool a6) ?_
    simp only [a6, Bool.not_true, Bool.not_false]
    refine a5 (dv _ (.inl ?_))
    refine aN (fun ey cQ cg dB => ?_)
    refine bK (fun e1 cd cA b2 c4 => ?_)
    obtain ⟨ag, eh, h⟩ := aO h
    refine cT (b1 [(0, .aw 3 ((List.set bs (Int.toNat aG) (cU.mk aV ag.Part ag.c3)).map dH)), (1, .int .i64 aV), (5, .int .i64 aG)] (fun P ak => ?_) ?_)
    ·simp only [aY.down, simprocAttr, xD.down, eh, c6 eh, el, dT]
     (try simp only [bn.down, simprocAttr, bA, dH, eh, c6 eh, el, dT] at ak ⊢); exact ak
    refine ws [(0, .aw 3 ((List.set bs (Int.toNat aG) (cU.mk aV ag.Part ag.c3)).map dH)), (1, .int .i64 (IntKind.i64.wrap (aV + 1))), (5, .int .i64 aG)] ?_
    obtain ⟨ao, eR, h⟩ := aO h
    refine cT (b1 [(0, .aw 3 ((List.set (List.set bs (Int.toNat aG) (cU.mk aV ag.Part ag.c3)) (Int.toNat aG) (cU.mk ao.eo (IntKind.i64.wrap (aV + 1)) ao.c3)).map dH)), (1, .int .i64 (IntKind.i64.wrap (aV + 1))), (5, .int .i64 aG)] (fun P ak => ?_) ?_)
    ·simp only [aY.down, simprocAttr, xD.down, eR, c6 eR, el, dT]
     (try simp only [bn.down, simprocAttr, bA, dH, eR, c6 eR, el, dT] at ak ⊢); exact ak
    refine ws [(0, .aw 3 ((List.set (List.set bs (Int.toNat aG) (cU.mk aV ag.Part ag.c3)) (Int.toNat aG) (cU.mk ao.eo (IntKind.i64.wrap (aV + 1)) ao.c3)).map dH)), (1, .int .i64 (IntKind.i64.wrap ((IntKind.i64.wrap (aV + 1)) + 1))), (5, .int .i64 aG)] ?_
    obtain ⟨aZ, e9, h⟩ := aO h
    obtain ⟨bl, g7, h⟩ := aO h
    refine kW (b1 [(0, .aw 3 ((List.set (List.set (List.set bs (Int.toNat aG) (cU.mk aV ag.Part ag.c3)) (Int.toNat aG) (cU.mk ao.eo (IntKind.i64.wrap (aV + 1)) ao.c3)) (Int.toNat aG) (cU.mk aZ.eo aZ.Part bl.2)).map dH)), (1, .int .i64 bl.1), (5, .int .i64 aG)] (fun P ak => ?_) ?_)
    ·simp only [aY.down, simprocAttr, xD.down, e9, c6 e9]
     refine qi [⟨.h 0 [Int.toNat aG, 2], true, _, _⟩, ⟨.int .i64 (IntKind.i64.wrap ((IntKind.i64.wrap (aV + 1)) + 1)), false, _, .hole⟩] (L3 aZ.c3 (IntKind.i64.wrap ((IntKind.i64.wrap (aV + 1)) + 1)) _ g7) rfl rfl rfl (by simp only [aY.down, simprocAttr, xD.down, e9, c6 e9, l4, jo, hj, hk, hn, dn, or_true, true_or, @cj _ bA bA (fun _ => pC _)]) rfl rfl (.inl rfl) ?_
     simp only [aY.down, simprocAttr, xD.down, e9, c6 e9, l5, (v3 (c6 e9)), v5]
     (try simp only [bn.down, simprocAttr, bA, dH, e9, c6 e9] at ak ⊢); exact ak
    refine cd _ (cQ _ (.inl ?_))
    refine wr [(0, .aw 3 ((List.set (List.set (List.set bs (Int.toNat aG) (cU.mk aV ag.Part ag.c3)) (Int.toNat aG) (cU.mk ao.eo (IntKind.i64.wrap (aV + 1)) ao.c3)) (Int.toNat aG) (cU.mk aZ.eo aZ.Part bl.2)).map dH)), (1, .int .i64 bl.1), (5, .int .i64 (IntKind.i64.wrap (aG + 1)))] ?_
    exact dR _ (.inr ⟨_, bx rfl, fa (List.set (List.set (List.set bs (Int.toNat aG) (cU.mk aV ag.Part ag.c3)) (Int.toNat aG) (cU.mk ao.eo (IntKind.i64.wrap (aV + 1)) ao.c3)) (Int.toNat aG) (cU.mk aZ.eo aZ.Part bl.2)) bl.1 (IntKind.i64.wrap (aG + 1)) h⟩)
   ·refine a0 (congrArg I.bool a6) ?_
    simp only [a6, Bool.not_true, Bool.not_false]
    refine dU (b4 0 _ (br 0 _ (ba _ (bR _ (.inl ?_)))))
    refine ws _ ?_
    exact aK (an _ (.inl (aL [.int .i64 aV] rfl (by cases aH h; rfl) (by decide) (nU (nV (by cases aH h; rfl) rfl rfl rfl (l6 (nW)))))))
 obtain ⟨n, h⟩ := dM h
 exact dV (.inr ⟨_, bx rfl, fo n J ab 0 h⟩)
theorem arR (J : List Int) (ab : Int) (r : Int) (h : Bt J ab = some r) : aR aJ 25 [.slice (J.map bA), .int .i64 ab] (.int .i64 r) [] := by
 refine aR.bY (fx := [0]) bZ [.tmp 4] [(0, .slice (J.map bA)), (1, .int .i64 ab)] Tryz.func25 rfl rfl so (Nat.le_of_ble_eq_true rfl) rfl rfl (fun bV an bS => ?_)
 refine ws _ ?_
 refine aN (fun ek bR bj ao => ?_)
 refine ws _ ?_
 refine bK (fun dQ eL b9 ba bl => ?_)
 have fo : ∀ (n : Nat) (aV : Int) (aG : Int), sk J n aV aG = some r → dG aJ Lz dQ (aa [(0, .slice (J.map bA)), (1, .int .i64 aV), (5, .int .i64 aG)]) := by
  intro ch
  induction ch with
  | zero => intro aV aG h; cases (show none = some r from h)
  | succ ch fa =>
   intro aV aG h
   replace h : Bs (sk J ch) J aV aG = some r := h
   refine dW (fun g6 dR dJ br => ?_)
   refine aN (fun fc dv dF b4 => ?_)
   refine ws _ ?_
   rcases aT h with ⟨a6, h⟩ | ⟨a6, h⟩
   ·refine aX (congrArg I.bool a6) ?_
    simp only [a6, Bool.not_true, Bool.not_false]
    refine a5 (dv _ (.inl ?_))
    refine aN (fun ey cQ cg dB => ?_)
    refine bK (fun e1 cd cA b2 c4 => ?_)
    refine aN (fun iP fw h1 eF => ?_)
    obtain ⟨ag, eC, h⟩ := aO h
    refine hR eC _ ?_
    rcases aT h with ⟨ef, h⟩ | ⟨ef, h⟩
    ·refine aX (congrArg I.bool ef) ?_
     simp only [ef, Bool.not_true, Bool.not_false]
     refine ws _ ?_
     exact aK (h1 _ (cA _ (cg _ (dJ _ (b9 _ (bj _ (an _ (.inl (aL [.int .i64 (-1)] rfl (by cases aH h; rfl) (by decide) aM)))))))))
    ·refine a0 (congrArg I.bool ef) ?_
     simp only [ef, Bool.not_true, Bool.not_false]
     refine a5 (fw _ (.inl ?_))
     refine wr _ ?_
     refine cd _ (cQ _ (.inl ?_))
     refine wr _ ?_
     exact dR _ (.inr ⟨_, bx rfl, fa (IntKind.i64.wrap (aV + 1)) (IntKind.i64.wrap (aG + 1)) h⟩)
   ·refine a0 (congrArg I.bool a6) ?_
    simp only [a6, Bool.not_true, Bool.not_false]
    refine dU (b4 0 _ (br 0 _ (ba _ (bR _ (.inl ?_)))))
    refine ws _ ?_
    exact aK (an _ (.inl (aL [.int .i64 aV] rfl (by cases aH h; rfl) (by decide) aM)))
 obtain ⟨n, h⟩ := dM h
 exact dV (.inr ⟨_, bx rfl, fo n ab 0 h⟩)
set_option maxHeartbeats 600000 in
theorem L5 (J : List cU) (ab : Int) (r : Int) (h : xm J ab = some r) : aR aJ 30 [.slice (J.map ed), .int .i64 ab] (.int .i64 r) [] := by
 refine aR.bY (fx := [0]) bZ [.tmp 4] [(0, .slice (J.map ed)), (1, .int .i64 ab)] Tryz.func30 rfl rfl aoj (Nat.le_of_ble_eq_true rfl) rfl rfl (fun bV an bS => ?_)
 refine ws _ ?_
 refine aN (fun ek bR bj ao => ?_)
 refine ws _ ?_
 refine bK (fun dQ eL b9 ba bl => ?_)
 have fo : ∀ (n : Nat) (aV : Int) (aG : Int), sl J n aV aG = some r → dG aJ LA dQ (aa [(0, .slice (J.map ed)), (1, .int .i64 aV), (5, .int .i64 aG)]) := by
  intro ch
  induction ch with
  | zero => intro aV aG h; cases (show none = some r from h)
  | succ ch fa =>
   intro aV aG h
   replace h : Bu (sl J ch) J aV aG = some r := h
   refine dW (fun g6 dR dJ br => ?_)
   refine aN (fun fc dv dF b4 => ?_)
   refine ws _ ?_
   rcases aT h with ⟨a6, h⟩ | ⟨a6, h⟩
   ·refine aX (congrArg I.bool a6) ?_
    simp only [a6, Bool.not_true, Bool.not_false]
    refine a5 (dv _ (.inl ?_))
    refine aN (fun ey cQ cg dB => ?_)
    refine bK (fun e1 cd cA b2 c4 => ?_)
    refine aN (fun iP fw h1 eF => ?_)
    obtain ⟨ag, eC, h⟩ := aO h
    refine hR eC _ ?_
    rcases aT h with ⟨ef, h⟩ | ⟨ef, h⟩
    ·refine aX (congrArg I.bool ef) ?_
     simp only [ef, Bool.not_true, Bool.not_false]
     refine ws _ ?_
     exact aK (h1 _ (cA _ (cg _ (dJ _ (b9 _ (bj _ (an _ (.inl (aL [.int .i64 (-1)] rfl (by cases aH h; rfl) (by decide) aM)))))))))
    ·refine a0 (congrArg I.bool ef) ?_
     simp only [ef, Bool.not_true, Bool.not_false]
     refine a5 (fw _ (.inl ?_))
     refine ws _ ?_
     refine aN (fun n7 jJ i2 nu => ?_)
     refine hR eC _ ?_
     rcases aT h with ⟨dL, h⟩ | ⟨dL, h⟩
     ·refine aX (congrArg I.bool dL) ?_
      simp only [dL, Bool.not_true, Bool.not_false]
      refine ws _ ?_
      exact aK (i2 _ (cA _ (cg _ (dJ _ (b9 _ (bj _ (an _ (.inl (aL [.int .i64 (-1)] rfl (by cases aH h; rfl) (by decide) aM)))))))))
     ·refine a0 (congrArg I.bool dL) ?_
      simp only [dL, Bool.not_true, Bool.not_false]
      refine a5 (jJ _ (.inl ?_))
      refine ws _ ?_
      obtain ⟨ao, n5, h⟩ := aO h
      refine iB eC (arR ag.c3 (IntKind.i64.wrap ((IntKind.i64.wrap (aV + 1)) + 1)) _ n5) _ ?_
      refine ws _ ?_
      rcases aT h with ⟨gW, h⟩ | ⟨gW, h⟩
      ·refine aX (congrArg I.bool gW) ?_
       simp only [gW, Bool.not_true, Bool.not_false]
       refine ws _ ?_
       exact aK (cA _ (cg _ (dJ _ (b9 _ (bj _ (an _ (.inl (aL [.int .i64 (-1)] rfl (by cases aH h; rfl) (by decide) aM))))))))
      ·refine a0 (congrArg I.bool gW) ?_
       simp only [gW, Bool.not_true, Bool.not_false]
       refine a5 (cd _ (cQ _ (.inl ?_)))
       refine wr _ ?_
       exact dR _ (.inr ⟨_, bx rfl, fa ao (IntKind.i64.wrap (aG + 1)) h⟩)
   ·refine a0 (congrArg I.bool a6) ?_
    simp only [a6, Bool.not_true, Bool.not_false]
    refine dU (b4 0 _ (br 0 _ (ba _ (bR _ (.inl ?_)))))
    refine ws _ ?_
    exact aK (an _ (.inl (aL [.int .i64 aV] rfl (by cases aH h; rfl) (by decide) aM)))
 obtain ⟨n, h⟩ := dM h
 exact dV (.inr ⟨_, bx rfl, fo n ab 0 h⟩)
set_option maxHeartbeats 1400000 in
theorem arS (J : kg) (r : Bool) (h : ER J = some r) : aR aJ 5 [iA J] (.bool r) [] := by
 refine aR.bY (fx := [0]) bZ [.tmp 2] [(0, iA J)] Tryz.func5 rfl rfl xA (Nat.le_of_ble_eq_true rfl) rfl rfl (fun bV an bS => ?_)
 refine ws _ ?_
 refine ws _ ?_
 obtain ⟨ag, c1, h⟩ := aO h
 refine dK (apc J 1048576 _ c1) _ ?_
 refine aN (fun g6 dR dJ br => ?_)
 refine ws _ ?_
 rcases aT h with ⟨iL, h⟩ | ⟨iL, h⟩
 ·refine aX (congrArg I.bool iL) ?_
  simp only [iL, Bool.not_true, Bool.not_false]
  refine ws _ ?_
  exact aK (dJ _ (an _ (.inl (aL [.bool true] rfl (by cases aH h; rfl) (by decide) aM))))
 ·refine a0 (congrArg I.bool iL) ?_
  simp only [iL, Bool.not_true, Bool.not_false]
  refine a5 (dR _ (.inl ?_))
  obtain ⟨ao, lr, h⟩ := aO h
  obtain ⟨aZ, nE, h⟩ := aO h
  refine cT (b1 [(1, .a8 (iA J)), (4, .aw 3 (aZ.1.map ed)), (5, .int .i64 aZ.2)] (fun P ak => ?_) ?_)
  ·simp only [aY.down, simprocAttr, E_.down]
   refine ft (((BM J _ lr)).wide (D7 rfl rfl (by simp only [dn, I.share, I.shares, Sq] <;> rfl)) rfl rfl) rfl rfl rfl rfl (.inl (by rfl)) ?_
   simp only [aY.down, simprocAttr, E_.down]
   refine ft (aqA ao _ nE) rfl rfl rfl rfl (.inl (by rfl)) ?_
   simp only [aY.down, simprocAttr, E_.down]
   (try simp only [bn.down, simprocAttr, bA, ep, bp, bo, cb, ed, e0, bQ, fP, fO, fG, fv, iA, fj, eG, fu, bu] at ak ⊢); exact ak
  obtain ⟨bl, eC, h⟩ := aO h
  refine dK (BM J _ eC) _ ?_
  obtain ⟨br, eR, h⟩ := aO h
  refine cT (b1 [(1, .a8 (iA J)), (4, .aw 3 (aZ.1.map ed)), (5, .int .i64 aZ.2), (6, .a8 (l_ bl)), (7, .aw 3 (br.1.map dH)), (8, .int .i64 br.2)] (fun P ak => ?_) ?_)
  ·simp only [aY.down, simprocAttr, uG.down]
   refine ft (L0 bl _ eR) rfl rfl (by simp only [aY.down, simprocAttr, uG.down, hj, hk, hn, dn, @cj _ eQ bp (fun _ => qA _), @cj _ eZ ep (fun _ => qB _), @cj _ bo bo (fun _ => nq _), @cj _ bu bu (fun _ => jf _), @cj _ bu bu (fun _ => jf _)] <;> rfl) rfl (.inr (by simp only [I.cW, I.hx, @kd _ dH (fun _ => Ki _), Bool.and_self])) ?_
   simp only [aY.down, simprocAttr, uG.down]
   (try simp only [bn.down, simprocAttr, ns.down] at ak ⊢); exact ak
  refine aN (fun pE kn jG l9 => ?_)
  obtain ⟨b4, e9, h⟩ := aO h
  refine cT (b1 [(1, .a8 (iA J)), (4, .aw 3 (aZ.1.map ed)), (5, .int .i64 aZ.2), (6, .a8 (l_ bl)), (7, .aw 3 (br.1.map dH)), (8, .int .i64 br.2), (40, .bool ((!b4) || (br.2 != aZ.2)))] (fun P ak => ?_) ?_)
  ·rcases Bool.eq_false_or_eq_true (b4) with pF | pF
   ·simp only [aY.down, simprocAttr, ns.down, pF]
    refine ft (uQ br.1 aZ.1 _ e9) rfl rfl (by simp only [aY.down, simprocAttr, ns.down, pF, hj, hk, hn, dn, @cj _ dH ed (fun _ => oX _), @cj _ ed ed (fun _ => uB _)] <;> rfl) rfl (.inr (by rfl)) ?_
    simp only [aY.down, simprocAttr, ns.down, pF]
    (try simp only [bn.down, simprocAttr, ns.down, pF] at ak ⊢); exact ak
   ·simp only [aY.down, simprocAttr, ns.down, pF]
    refine ft (uQ br.1 aZ.1 _ e9) rfl rfl (by simp only [aY.down, simprocAttr, ns.down, pF, hj, hk, hn, dn, @cj _ dH ed (fun _ => oX _), @cj _ ed ed (fun _ => uB _)] <;> rfl) rfl (.inr (by rfl)) ?_
    simp only [aY.down, simprocAttr, ns.down, pF]
    (try simp only [bn.down, simprocAttr, ns.down, pF] at ak ⊢); exact ak
  rcases aT h with ⟨cZ, h⟩ | ⟨cZ, h⟩
  ·refine aX (congrArg I.bool cZ) ?_
   simp only [cZ, Bool.not_true, Bool.not_false]
   refine ws _ ?_
   exact aK (jG _ (an _ (.inl (aL [.bool false] rfl (by cases aH h; rfl) (by decide) aM))))
  ·refine a0 (congrArg I.bool cZ) ?_
   simp only [cZ, Bool.not_true, Bool.not_false]
   refine a5 (kn _ (.inl ?_))
   refine aN (fun uH mN me uI => ?_)
   obtain ⟨dm, jr, h⟩ := aO h
   obtain ⟨gh, kF, h⟩ := aO h
   refine hi rfl (gY [(1, .a8 (iA J)), (4, .aw 3 (aZ.1.map ed)), (5, .int .i64 aZ.2), (6, .a8 (l_ bl)), (7, .aw 3 (br.1.map dH)), (8, .int .i64 br.2), (45, .bool (!gh))] (fun P ak => ?_) ?_)
   ·simp only [dp.down, simprocAttr, BK.down]
    refine iw (BM J _ jr) rfl rfl rfl rfl (.inl (by rfl)) ?_
    simp only [dp.down, simprocAttr, BK.down]
    refine iw (arI bl dm _ kF) rfl rfl (by simp only [dp.down, simprocAttr, BK.down, hj, hk, hn, dn, @cj _ eQ bp (fun _ => qA _), @cj _ eZ ep (fun _ => qB _), @cj _ bo bo (fun _ => nq _), @cj _ bu bu (fun _ => jf _), @cj _ bu bu (fun _ => jf _), @cj _ eQ bp (fun _ => qA _), @cj _ eZ ep (fun _ => qB _), @cj _ bo bo (fun _ => nq _), @cj _ bu bu (fun _ => jf _), @cj _ bu bu (fun _ => jf _)] <;> rfl) rfl (.inr (by rfl)) ?_
    simp only [dp.down, simprocAttr, BK.down]
    refine ⟨gJ (by kernel_rfl), ?_⟩
    (try simp only [bn.down, simprocAttr, ns.down] at ak ⊢); exact ak
   rcases aT h with ⟨e_, h⟩ | ⟨e_, h⟩
   ·refine aX (congrArg I.bool e_) ?_
    simp only [(c8 e_), Bool.not_true, Bool.not_false]
    refine ws _ ?_
    exact aK (me _ (an _ (.inl (aL [.bool false] rfl (by cases aH h; rfl) (by decide) aM))))
   ·refine a0 (congrArg I.bool e_) ?_
    simp only [(bq e_), Bool.not_true, Bool.not_false]
    refine a5 (mN _ (.inl ?_))
    refine ws _ ?_
    obtain ⟨dB, arT, h⟩ := aO h
    refine cT (b1 [(1, .a8 (iA J)), (4, .aw 3 (aZ.1.map ed)), (5, .int .i64 aZ.2), (7, .aw 3 (br.1.map dH)), (8, .int .i64 br.2), (9, .int .i64 dB.1)] (fun P ak => ?_) ?_)
    ·simp only [aY.down, simprocAttr, uG.down]
     refine qi [⟨.h 6 [0], true, _, _⟩, ⟨.int .i64 1, false, _, .hole⟩] (arP bl.e8 bl.b_ bl.g1 bl.gT bl.gU 1 _ arT) rfl rfl rfl (by simp only [aY.down, simprocAttr, uG.down, oR, l4, jo, hj, hk, hn, dn, or_true, true_or, @cj _ eQ bp (fun _ => qA _), @cj _ eZ ep (fun _ => qB _), @cj _ bo bo (fun _ => nq _), @cj _ bu bu (fun _ => jf _), @cj _ bu bu (fun _ => jf _)]) rfl rfl (.inl rfl) ?_
     simp only [aY.down, simprocAttr, uG.down, l5]
     (try simp only [bn.down, simprocAttr, ns.down] at ak ⊢); exact ak
    refine aN (fun LL xK xL Fq => ?_)
    rcases aT h with ⟨fX, h⟩ | ⟨fX, h⟩
    ·refine hR fX _ ?_
     refine aX rfl ?_
     refine ws _ ?_
     exact aK (xL _ (an _ (.inl (aL [.bool false] rfl (by cases aH h; rfl) (by decide) aM))))
    ·obtain ⟨c4, sx, h⟩ := aO h
     refine cT (b1 [(1, .a8 (iA J)), (4, .aw 3 (aZ.1.map ed)), (5, .int .i64 aZ.2), (7, .aw 3 (br.1.map dH)), (61, .bool ((!c4) || (br.2 != aZ.2)))] (fun P ak => ?_) ?_)
     ·rcases Bool.eq_false_or_eq_true (c4) with n2 | n2
      ·simp only [aY.down, simprocAttr, lh.down, fX, n2]
       refine hy (uQ br.1 aZ.1 _ sx) rfl rfl (by simp only [aY.down, simprocAttr, lh.down, fX, n2, hj, hk, hn, dn, @cj _ dH ed (fun _ => oX _), @cj _ ed ed (fun _ => uB _)] <;> rfl) rfl (.inr (by rfl)) ?_
       simp only [aY.down, simprocAttr, lh.down, fX, n2]
       (try simp only [bn.down, simprocAttr, lh.down, fX, n2] at ak ⊢); exact ak
      ·simp only [aY.down, simprocAttr, lh.down, fX, n2]
       refine hy (uQ br.1 aZ.1 _ sx) rfl rfl (by simp only [aY.down, simprocAttr, lh.down, fX, n2, hj, hk, hn, dn, @cj _ dH ed (fun _ => oX _), @cj _ ed ed (fun _ => uB _)] <;> rfl) rfl (.inr (by rfl)) ?_
       simp only [aY.down, simprocAttr, lh.down, fX, n2]
       (try simp only [bn.down, simprocAttr, lh.down, fX, n2] at ak ⊢); exact ak
     rcases aT h with ⟨x0, h⟩ | ⟨x0, h⟩
     ·refine aX (congrArg I.bool x0) ?_
      simp only [x0, Bool.not_true, Bool.not_false]
      refine ws _ ?_
      exact aK (xL _ (an _ (.inl (aL [.bool false] rfl (by cases aH h; rfl) (by decide) aM))))
     ·refine a0 (congrArg I.bool x0) ?_
      simp only [x0, Bool.not_true, Bool.not_false]
      refine a5 (xK _ (.inl ?_))
      refine ws _ ?_
      obtain ⟨eF, arU, h⟩ := aO h
      refine cT (b1 [(1, .a8 (iA J)), (4, .aw 3 (aZ.1.map ed)), (5, .int .i64 aZ.2), (7, .aw 3 (eF.2.map dH)), (10, .int .i64 eF.1)] (fun P ak => ?_) ?_)
      ·simp only [aY.down, simprocAttr, lh.down]
       refine qi [⟨.h 7 [], true, _, _⟩, ⟨.int .i64 1, false, _, .hole⟩] (arQ br.1 1 _ arU) rfl rfl rfl (by simp only [aY.down, simprocAttr, lh.down, oR, l4, jo, hj, hk, hn, dn, or_true, true_or, @cj _ dH ed (fun _ => oX _)]) rfl rfl (.inl rfl) ?_
       simp only [aY.down, simprocAttr, lh.down, l5]
       (try simp only [bn.down, simprocAttr, lh.down] at ak ⊢); exact ak
      refine ws _ ?_
      obtain ⟨i1, FI, h⟩ := aO h
      refine cT (b1 [(1, .a8 (iA J)), (4, .aw 3 (aZ.1.map ed)), (5, .int .i64 aZ.2), (7, .aw 3 (eF.2.map dH)), (10, .int .i64 eF.1), (11, .int .i64 i1)] (fun P ak => ?_) ?_)
      ·simp only [aY.down, simprocAttr, lh.down]
       refine ft (L5 eF.2 1 _ FI) rfl rfl (by simp only [aY.down, simprocAttr, lh.down, hj, hk, hn, dn, @cj _ dH ed (fun _ => oX _)] <;> rfl) rfl (.inr (by rfl)) ?_
       simp only [aY.down, simprocAttr, lh.down]
       (try simp only [bn.down, simprocAttr, lh.down] at ak ⊢); exact ak
      refine aN (fun awl arV arW awm => ?_)
      refine ws _ ?_
      rcases aT h with ⟨x1, h⟩ | ⟨x1, h⟩
      ·refine aX (congrArg I.bool x1) ?_
       simp only [x1, Bool.not_true, Bool.not_false]
       refine ws _ ?_
       exact aK (arW _ (an _ (.inl (aL [.bool false] rfl (by cases aH h; rfl) (by decide) aM))))
      ·refine a0 (congrArg I.bool x1) ?_
       simp only [x1, Bool.not_true, Bool.not_false]
       refine a5 (arV _ (.inl ?_))
       refine aN (fun awn arX arY awo => ?_)
       refine ws _ ?_
       rcases aT h with ⟨x2, h⟩ | ⟨x2, h⟩
       ·refine aX (congrArg I.bool x2) ?_
        simp only [x2, Bool.not_true, Bool.not_false]
        refine ws _ ?_
        exact aK (arY _ (an _ (.inl (aL [.bool false] rfl (by cases aH h; rfl) (by decide) aM))))
       ·refine a0 (congrArg I.bool x2) ?_
        simp only [x2, Bool.not_true, Bool.not_false]
        refine a5 (arX _ (.inl ?_))
        obtain ⟨jd, arZ, h⟩ := aO h
        obtain ⟨ho, ar0, h⟩ := aO h
        refine cT (b1 [(4, .aw 3 (aZ.1.map ed)), (5, .int .i64 aZ.2), (7, .aw 3 (eF.2.map dH)), (10, .int .i64 eF.1), (12, .aw 3 (ho.1.map dH)), (13, .int .i64 ho.2)] (fun P ak => ?_) ?_)
        ·simp only [aY.down, simprocAttr, BL.down]
         refine ft (BM J _ arZ) rfl rfl rfl rfl (.inl (by rfl)) ?_
         simp only [aY.down, simprocAttr, BL.down]
         refine ft (L0 jd _ ar0) rfl rfl (by simp only [aY.down, simprocAttr, BL.down, hj, hk, hn, dn, @cj _ eQ bp (fun _ => qA _), @cj _ eZ ep (fun _ => qB _), @cj _ bo bo (fun _ => nq _), @cj _ bu bu (fun _ => jf _), @cj _ bu bu (fun _ => jf _)] <;> rfl) rfl (.inr (by simp only [I.cW, I.hx, @kd _ dH (fun _ => Ki _), Bool.and_self])) ?_
         simp only [aY.down, simprocAttr, BL.down]
         (try simp only [bn.down, simprocAttr, ns.down] at ak ⊢); exact ak
        refine aN (fun awp ar1 ar2 awq => ?_)
        obtain ⟨je, L6, h⟩ := aO h
        refine cT (b1 [(7, .aw 3 (eF.2.map dH)), (10, .int .i64 eF.1), (87, .bool ((!je) || (ho.2 != aZ.2)))] (fun P ak => ?_) ?_)
        ·rcases Bool.eq_false_or_eq_true (je) with n3 | n3
         ·simp only [aY.down, simprocAttr, qC.down, n3]
          refine ft (uQ ho.1 aZ.1 _ L6) rfl rfl (by simp only [aY.down, simprocAttr, qC.down, n3, hj, hk, hn, dn, @cj _ dH ed (fun _ => oX _), @cj _ ed ed (fun _ => uB _)] <;> rfl) rfl (.inr (by rfl)) ?_
          simp only [aY.down, simprocAttr, qC.down, n3]
          (try simp only [bn.down, simprocAttr, qC.down, n3] at ak ⊢); exact ak
         ·simp only [aY.down, simprocAttr, qC.down, n3]
          refine ft (uQ ho.1 aZ.1 _ L6) rfl rfl (by simp only [aY.down, simprocAttr, qC.down, n3, hj, hk, hn, dn, @cj _ dH ed (fun _ => oX _), @cj _ ed ed (fun _ => uB _)] <;> rfl) rfl (.inr (by rfl)) ?_
          simp only [aY.down, simprocAttr, qC.down, n3]
          (try simp only [bn.down, simprocAttr, qC.down, n3] at ak ⊢); exact ak
        rcases aT h with ⟨x3, h⟩ | ⟨x3, h⟩
        ·refine aX (congrArg I.bool x3) ?_
         simp only [x3, Bool.not_true, Bool.not_false]
         refine ws _ ?_
         exact aK (ar2 _ (an _ (.inl (aL [.bool false] rfl (by cases aH h; rfl) (by decide) aM))))
        ·refine a0 (congrArg I.bool x3) ?_
         simp only [x3, Bool.not_true, Bool.not_false]
         refine a5 (ar1 _ (.inl ?_))
         refine ws _ ?_
         obtain ⟨l9, Fs, h⟩ := aO h
         refine cT (b1 [(10, .int .i64 eF.1), (11, .int .i64 l9)] (fun P ak => ?_) ?_)
         ·simp only [aY.down, simprocAttr, bA, dH]
          refine ft (L5 eF.2 1 _ Fs) rfl rfl (by simp only [aY.down, simprocAttr, bA, dH, hj, hk, hn, dn, @cj _ dH ed (fun _ => oX _)] <;> rfl) rfl (.inr (by rfl)) ?_
          simp only [aY.down, simprocAttr, bA, dH]
          (try simp only [bn.down, simprocAttr, bA, dH] at ak ⊢); exact ak
         refine aN (fun awr ar3 ar4 aws => ?_)
         refine ws _ ?_
         rcases aT h with ⟨x4, h⟩ | ⟨x4, h⟩
         ·refine aX (congrArg I.bool x4) ?_
          simp only [x4, Bool.not_true, Bool.not_false]
          refine ws _ ?_
          exact aK (ar4 _ (an _ (.inl (aL [.bool false] rfl (by cases aH h; rfl) (by decide) aM))))
         ·refine a0 (congrArg I.bool x4) ?_
          simp only [x4, Bool.not_true, Bool.not_false]
          refine a5 (ar3 _ (.inl ?_))
          refine aN (fun awt ar5 ar6 awu => ?_)
          refine ws _ ?_
          rcases aT h with ⟨mf, h⟩ | ⟨mf, h⟩
          ·refine aX (congrArg I.bool mf) ?_
           simp only [mf, Bool.not_true, Bool.not_false]
           refine ws _ ?_
           exact aK (ar6 _ (an _ (.inl (aL [.bool false] rfl (by cases aH h; rfl) (by decide) aM))))
          ·refine a0 (congrArg I.bool mf) ?_
           simp only [mf, Bool.not_true, Bool.not_false]
           refine a5 (ar5 _ (.inl ?_))
           refine ws _ ?_
           exact aK (an _ (.inl (aL [.bool true] rfl (by cases aH h; rfl) (by decide) aM)))
end Go.Proofs.YtbemmmimelklkaaGreat
