/- Part of a proof that a law returns true for every input. No condition. -/
import Derived.Test.YtocllehpepigpaaGreatW1x5
namespace Go.Proofs.YtocllehpepigpaaGreat
open Go Go.dg Go.e1
set_option maxRecDepth 100000
set_option maxHeartbeats 2400000
set_option linter.unusedSimpArgs false
set_option linter.unusedVariables false
theorem axq (a0 : List cc) (r : Bool) (h : CA a0 = some r) : bm aD 160 [.slice (a0.map bx)] (.bool r) [] := by
 refine bX [0] [.tmp 2] Tryz.func160 amM (fun bT an bS => ?_)
 refine ws _ ?_
 refine aL an (fun ef bU bj al => ?_)
 refine ws _ ?_
 refine bL bj (fun eb eI ch bt bs => ?_)
 have fA : ∀ (n : Nat) (e2 : Int), tn a0 n e2 = some r → dE aD Ob eb (aa [(0, .slice (a0.map bx)), (5, .slice (a0.map bx)), (6, .int .i64 (a0.length : Int)), (7, .int .i64 e2)]) := by
  intro cB
  induction cB with
  | zero => intro e2 h; cases (show none = some r from h)
  | succ cB ft =>
   intro e2 h
   replace h : Cz (tn a0 cB) a0 e2 = some r := h
   refine dX ch (fun hr ep dc bH => ?_)
   refine ws _ ?_
   refine aL dc (fun hD ea er cP => ?_)
   refine aV h (fun bw h => ?_) (fun bw h => ?_)
   ·simp only [bw, ak.down]
    refine aY (ea _ (.inl ?_))
    refine aL dc (fun ev cQ cj di => ?_)
    refine bL cj (fun eU cq cw cR cr => ?_)
    obtain ⟨ag, ey, h⟩ := aF h
    refine h2 ey _ ?_
    refine aL cw (fun ly hb gR jt => ?_)
    obtain ⟨bH, hP, h⟩ := aF h
    rcases fm h with ⟨fJ, h⟩ | ⟨fJ, h⟩
    ·refine gx rfl (gm [(0, .slice (a0.map bx)), (4, .bb (bx ag)), (5, .slice (a0.map bx)), (6, .int .i64 (a0.length : Int)), (7, .int .i64 e2), (48, .bool true)] (fun P ai => ?_) ?_)
     ·simp only [c7.down, simprocAttr, hC.down, (cV fJ)]
      refine h0 (k8 ag.Left _ hP) rfl rfl rfl rfl (.inl (by rfl)) ?_
      simp only [c7.down, simprocAttr, hC.down, (cV fJ)]
      refine ⟨fY (by kernel_rfl), ?_⟩
      (try simp only [bh.down, simprocAttr, bx, (cV fJ)] at ai ⊢); exact ai
     refine iZ rfl ?_
     refine ws _ ?_
     exact aE (gR _ (.inl (aG [.bool false])))
    ·obtain ⟨bE, lA, h⟩ := aF h
     rcases fm h with ⟨g1, h⟩ | ⟨g1, h⟩
     ·refine gx rfl (gm [(0, .slice (a0.map bx)), (4, .bb (bx ag)), (5, .slice (a0.map bx)), (6, .int .i64 (a0.length : Int)), (7, .int .i64 e2), (48, .bool true)] (fun P ai => ?_) ?_)
      ·simp only [c7.down, simprocAttr, hC.down, (bn fJ), (cV g1)]
       refine h0 (k8 ag.Left _ hP) rfl rfl rfl rfl (.inl (by rfl)) ?_
       simp only [c7.down, simprocAttr, hC.down, (bn fJ), (cV g1)]
       refine k4 (k8 ag.cp _ lA) rfl rfl rfl rfl (.inl (by rfl)) ?_
       simp only [c7.down, simprocAttr, hC.down, (bn fJ), (cV g1)]
       refine ⟨fY (by kernel_rfl), ?_⟩
       (try simp only [bh.down, simprocAttr, bx, (bn fJ), (cV g1)] at ai ⊢); exact ai
      refine iZ rfl ?_
      refine ws _ ?_
      exact aE (gR _ (.inl (aG [.bool false])))
     ·obtain ⟨cP, DT, h⟩ := aF h
      rcases fm h with ⟨jI, h⟩ | ⟨jI, h⟩
      ·refine gx rfl (gm [(0, .slice (a0.map bx)), (4, .bb (bx ag)), (5, .slice (a0.map bx)), (6, .int .i64 (a0.length : Int)), (7, .int .i64 e2), (48, .bool true)] (fun P ai => ?_) ?_)
       ·simp only [c7.down, simprocAttr, hC.down, (bn fJ), (bn g1), (cV jI)]
        refine h0 (k8 ag.Left _ hP) rfl rfl rfl rfl (.inl (by rfl)) ?_
        simp only [c7.down, simprocAttr, hC.down, (bn fJ), (bn g1), (cV jI)]
        refine k4 (k8 ag.cp _ lA) rfl rfl rfl rfl (.inl (by rfl)) ?_
        simp only [c7.down, simprocAttr, hC.down, (bn fJ), (bn g1), (cV jI)]
        refine k4 (k8 ag.Result _ DT) rfl rfl rfl rfl (.inl (by rfl)) ?_
        simp only [c7.down, simprocAttr, hC.down, (bn fJ), (bn g1), (cV jI)]
        refine ⟨fY (by kernel_rfl), ?_⟩
        (try simp only [bh.down, simprocAttr, bx, (bn fJ), (bn g1), (cV jI)] at ai ⊢); exact ai
       refine iZ rfl ?_
       refine ws _ ?_
       exact aE (gR _ (.inl (aG [.bool false])))
      ·rcases fm h with ⟨jV, h⟩ | ⟨jV, h⟩
       ·refine gx rfl (gm [(0, .slice (a0.map bx)), (4, .bb (bx ag)), (5, .slice (a0.map bx)), (6, .int .i64 (a0.length : Int)), (7, .int .i64 e2), (48, .bool true)] (fun P ai => ?_) ?_)
        ·simp only [c7.down, simprocAttr, hC.down, (bn fJ), (bn g1), (bn jI), jV]
         refine h0 (k8 ag.Left _ hP) rfl rfl rfl rfl (.inl (by rfl)) ?_
         simp only [c7.down, simprocAttr, hC.down, (bn fJ), (bn g1), (bn jI), jV]
         refine k4 (k8 ag.cp _ lA) rfl rfl rfl rfl (.inl (by rfl)) ?_
         simp only [c7.down, simprocAttr, hC.down, (bn fJ), (bn g1), (bn jI), jV]
         refine k4 (k8 ag.Result _ DT) rfl rfl rfl rfl (.inl (by rfl)) ?_
         simp only [c7.down, simprocAttr, hC.down, (bn fJ), (bn g1), (bn jI), jV]
         refine ⟨fY (by kernel_rfl), ?_⟩
         (try simp only [bh.down, simprocAttr, bx, (bn fJ), (bn g1), (bn jI), jV] at ai ⊢); exact ai
        refine iZ rfl ?_
        refine ws _ ?_
        exact aE (gR _ (.inl (aG [.bool false])))
       ·rcases fm h with ⟨iI, h⟩ | ⟨iI, h⟩
        ·obtain ⟨e9, nc, h⟩ := aF h
         obtain ⟨di, DK, h⟩ := aF h
         refine gx rfl (gm [(0, .slice (a0.map bx)), (4, .bb (bx ag)), (5, .slice (a0.map bx)), (6, .int .i64 (a0.length : Int)), (7, .int .i64 e2), (48, .bool (decide (0 ≤ di)))] (fun P ai => ?_) ?_)
         ·simp only [c7.down, simprocAttr, hC.down, (bn fJ), (bn g1), (bn jI), jV, iI, nc]
          refine h0 (k8 ag.Left _ hP) rfl rfl rfl rfl (.inl (by rfl)) ?_
          simp only [c7.down, simprocAttr, hC.down, (bn fJ), (bn g1), (bn jI), jV, iI, nc]
          refine k4 (k8 ag.cp _ lA) rfl rfl rfl rfl (.inl (by rfl)) ?_
          simp only [c7.down, simprocAttr, hC.down, (bn fJ), (bn g1), (bn jI), jV, iI, nc]
          refine k4 (k8 ag.Result _ DT) rfl rfl rfl rfl (.inl (by rfl)) ?_
          simp only [c7.down, simprocAttr, hC.down, (bn fJ), (bn g1), (bn jI), jV, iI, nc]
          refine k4 (axn e9 ag _ DK) rfl rfl rfl rfl (.inl (by rfl)) ?_
          simp only [c7.down, simprocAttr, hC.down, (bn fJ), (bn g1), (bn jI), jV, iI, nc]
          refine ⟨fY (by kernel_rfl), ?_⟩
          (try simp only [bh.down, simprocAttr, bx, (bn fJ), (bn g1), (bn jI), jV, iI, nc] at ai ⊢); exact ai
         refine aV h (fun ph h => ?_) (fun ph h => ?_)
         ·simp only [ph, ak.down]
          refine ws _ ?_
          exact aE (gR _ (.inl (aG [.bool false])))
         ·simp only [ph, ak.down]
          refine aY (hb _ (.inl ?_))
          obtain ⟨cr, axr, h⟩ := aF h
          refine cN (bY [(0, .slice (a0.map bx)), (5, .slice (a0.map bx)), (6, .int .i64 (a0.length : Int)), (7, .int .i64 e2), (51, .bool cr)] (fun P ai => ?_) ?_)
          ·simp only [aN.down, simprocAttr, bx]
           refine eC (O9 a0 ag _ axr) rfl rfl (by simp only [aN.down, simprocAttr, bx, fV, fW, fX, dj] <;> rfl) rfl (.inr (by rfl)) ?_
           simp only [aN.down, simprocAttr, bx]
           (try simp only [bh.down, simprocAttr, bx] at ai ⊢); exact ai
          refine aV h (fun HR h => ?_) (fun HR h => ?_)
          ·simp only [HR, ak.down]
           refine ws _ ?_
           exact aE (cw _ (.inl (aG [.bool false])))
          ·simp only [HR, ak.down]
           refine aY (cq _ (cQ _ (.inl ?_)))
           refine wr _ ?_
           exact ep _ (.inr ⟨_, bu rfl, ft (IntKind.i64.wrap (e2 + 1)) h⟩)
        ·refine gx rfl (gm [(0, .slice (a0.map bx)), (4, .bb (bx ag)), (5, .slice (a0.map bx)), (6, .int .i64 (a0.length : Int)), (7, .int .i64 e2), (48, .bool false)] (fun P ai => ?_) ?_)
         ·simp only [c7.down, simprocAttr, hC.down, (bn fJ), (bn g1), (bn jI), jV, iI]
          refine h0 (k8 ag.Left _ hP) rfl rfl rfl rfl (.inl (by rfl)) ?_
          simp only [c7.down, simprocAttr, hC.down, (bn fJ), (bn g1), (bn jI), jV, iI]
          refine k4 (k8 ag.cp _ lA) rfl rfl rfl rfl (.inl (by rfl)) ?_
          simp only [c7.down, simprocAttr, hC.down, (bn fJ), (bn g1), (bn jI), jV, iI]
          refine k4 (k8 ag.Result _ DT) rfl rfl rfl rfl (.inl (by rfl)) ?_
          simp only [c7.down, simprocAttr, hC.down, (bn fJ), (bn g1), (bn jI), jV, iI]
          refine ⟨fY (by kernel_rfl), ?_⟩
          (try simp only [bh.down, simprocAttr, bx, (bn fJ), (bn g1), (bn jI), jV, iI] at ai ⊢); exact ai
         refine rF rfl ?_
         refine aY (hb _ (.inl ?_))
         obtain ⟨fe, axs, h⟩ := aF h
         refine cN (bY [(0, .slice (a0.map bx)), (5, .slice (a0.map bx)), (6, .int .i64 (a0.length : Int)), (7, .int .i64 e2), (51, .bool fe)] (fun P ai => ?_) ?_)
         ·simp only [aN.down, simprocAttr, bx]
          refine eC (O9 a0 ag _ axs) rfl rfl (by simp only [aN.down, simprocAttr, bx, fV, fW, fX, dj] <;> rfl) rfl (.inr (by rfl)) ?_
          simp only [aN.down, simprocAttr, bx]
          (try simp only [bh.down, simprocAttr, bx] at ai ⊢); exact ai
         refine aV h (fun qQ h => ?_) (fun qQ h => ?_)
         ·simp only [qQ, ak.down]
          refine ws _ ?_
          exact aE (cw _ (.inl (aG [.bool false])))
         ·simp only [qQ, ak.down]
          refine aY (cq _ (cQ _ (.inl ?_)))
          refine wr _ ?_
          exact ep _ (.inr ⟨_, bu rfl, ft (IntKind.i64.wrap (e2 + 1)) h⟩)
   ·simp only [bw, ak.down]
    refine dV (cP 0 _ (bH 0 _ (bt _ (bU _ (.inl ?_)))))
    refine ws _ ?_
    exact aE (an _ (.inl (aG [.bool (decide ((a0.length : Int) ≤ 6))])))
 obtain ⟨n, h⟩ := dQ h
 exact dW (.inr ⟨_, bu rfl, fA n 0 h⟩)
theorem O_ (a0 : List (List UInt8)) (r : Bool) (h : y0 a0 = some r) : bm aD 161 [.slice (a0.map bG)] (.bool r) [] := by
 refine bX [0] [.tmp 2] Tryz.func161 amX (fun bT an bS => ?_)
 refine ws _ ?_
 refine aL an (fun ef bU bj al => ?_)
 refine ws _ ?_
 refine bL bj (fun eb eI ch bt bs => ?_)
 have fA : ∀ (n : Nat) (e2 : Int), tp a0 n e2 = some r → dE aD Oc eb (aa [(0, .slice (a0.map bG)), (5, .slice (a0.map bG)), (6, .int .i64 (a0.length : Int)), (7, .int .i64 e2)]) := by
  intro cB
  induction cB with
  | zero => intro e2 h; cases (show none = some r from h)
  | succ cB ft =>
   intro e2 h
   replace h : CB (tp a0 cB) a0 e2 = some r := h
   refine dX ch (fun hr ep dc bH => ?_)
   refine ws _ ?_
   refine aL dc (fun hD ea er cP => ?_)
   refine aV h (fun bw h => ?_) (fun bw h => ?_)
   ·simp only [bw, ak.down]
    refine aY (ea _ (.inl ?_))
    refine aL dc (fun ev cQ cj di => ?_)
    refine bL cj (fun eU cq cw cR cr => ?_)
    obtain ⟨ag, ey, h⟩ := aF h
    refine h2 ey _ ?_
    obtain ⟨al, ei, h⟩ := aF h
    rcases fm h with ⟨dx, h⟩ | ⟨dx, h⟩
    ·refine h3 (cV dx) (k8 ag _ ei) _ ?_
     refine iZ rfl ?_
     refine ws _ ?_
     exact aE (cw _ (.inl (aG [.bool false])))
    ·rcases fm h with ⟨hJ, h⟩ | ⟨hJ, h⟩
     ·obtain ⟨aS, e6, h⟩ := aF h
      refine h3 (And.intro (bn dx) (And.intro hJ e6)) (k8 ag _ ei) _ ?_
      refine aV h (fun eV h => ?_) (fun eV h => ?_)
      ·simp only [eV, ak.down]
       refine ws _ ?_
       exact aE (cw _ (.inl (aG [.bool false])))
      ·simp only [eV, ak.down]
       refine aY (cq _ (cQ _ (.inl ?_)))
       refine wr _ ?_
       exact ep _ (.inr ⟨_, bu rfl, ft (IntKind.i64.wrap (e2 + 1)) h⟩)
     ·refine h3 (And.intro (bn dx) hJ) (k8 ag _ ei) _ ?_
      refine rF rfl ?_
      refine aY (cq _ (cQ _ (.inl ?_)))
      refine wr _ ?_
      exact ep _ (.inr ⟨_, bu rfl, ft (IntKind.i64.wrap (e2 + 1)) h⟩)
   ·simp only [bw, ak.down]
    refine dV (cP 0 _ (bH 0 _ (bt _ (bU _ (.inl ?_)))))
    refine ws _ ?_
    exact aE (an _ (.inl (aG [.bool (decide ((a0.length : Int) ≤ 12))])))
 obtain ⟨n, h⟩ := dQ h
 exact dW (.inr ⟨_, bu rfl, fA n 0 h⟩)
theorem axt (a0 : eo) (r : Int) (h : CC a0 = some r) : bm aD 105 [hp a0] (.int .i64 r) [] := by
 refine bX [0] [.tmp 2] Tryz.func105 anf (fun bT an bS => ?_)
 refine ws _ ?_
 refine aL an (fun ef bU bj al => ?_)
 refine bL bj (fun j7 gD dD lh aS => ?_)
 obtain ⟨ag, cZ, h⟩ := aF h
 refine dC (axd a0.eH _ cZ) _ ?_
 refine aV h (fun dd h => ?_) (fun dd h => ?_)
 ·simp only [(cV dd), ak.down]
  refine ws _ ?_
  exact aE (dD _ (.inl (aG [.int .i64 1])))
 ·simp only [(bn dd), ak.down]
  obtain ⟨al, kv, h⟩ := aF h
  rcases fm h with ⟨cR, h⟩ | ⟨cR, h⟩
  ·refine h3 (cV cR) (kq (a0.c_.length : Int) 1 3 _ kv) _ ?_
   refine iZ rfl ?_
   refine ws _ ?_
   exact aE (dD _ (.inl (aG [.int .i64 2])))
  ·obtain ⟨aS, ey, h⟩ := aF h
   refine cN (bY [(1, .bb (hp a0)), (8, .bool aS)] (fun P ai => ?_) ?_)
   ·simp only [aN.down, simprocAttr, pc.down, (bn cR)]
    refine eC (kq (a0.c_.length : Int) 1 3 _ kv) rfl rfl rfl rfl (.inl (by rfl)) ?_
    simp only [aN.down, simprocAttr, pc.down, (bn cR)]
    refine hN (axk a0.c_ a0 _ ey) rfl rfl (by simp only [aN.down, simprocAttr, pc.down, (bn cR), fV, fW, fX, dj, @bR _ bC bC (fun _ => tH _), @bR _ fp fp (fun _ => tI _), @bR _ bx bx (fun _ => l9 _), @bR _ bG bG (fun _ => ie _), @bR _ bG bG (fun _ => ie _)] <;> rfl) rfl (.inr (by rfl)) ?_
    simp only [aN.down, simprocAttr, pc.down, (bn cR)]
    (try simp only [bh.down, simprocAttr, wq.down, (bn cR)] at ai ⊢); exact ai
   refine aV h (fun dY h => ?_) (fun dY h => ?_)
   ·simp only [dY, ak.down]
    refine ws _ ?_
    exact aE (dD _ (.inl (aG [.int .i64 2])))
   ·simp only [dY, ak.down]
    obtain ⟨bs, cg, h⟩ := aF h
    refine dC (axq a0.hH _ cg) _ ?_
    refine aV h (fun hJ h => ?_) (fun hJ h => ?_)
    ·simp only [(cV hJ), ak.down]
     refine ws _ ?_
     exact aE (dD _ (.inl (aG [.int .i64 3])))
    ·simp only [(bn hJ), ak.down]
     obtain ⟨bH, iW, h⟩ := aF h
     refine dC (O_ a0.hA _ iW) _ ?_
     refine aV h (fun mG h => ?_) (fun mG h => ?_)
     ·simp only [(cV mG), ak.down]
      refine ws _ ?_
      exact aE (dD _ (.inl (aG [.int .i64 4])))
     ·simp only [(bn mG), ak.down]
      obtain ⟨bE, kJ, h⟩ := aF h
      refine dC (O_ a0.hB _ kJ) _ ?_
      refine aV h (fun jh h => ?_) (fun jh h => ?_)
      ·simp only [(cV jh), ak.down]
       refine ws _ ?_
       exact aE (dD _ (.inl (aG [.int .i64 5])))
      ·simp only [(bn jh), ak.down]
       refine aY (gD _ (bU _ (.inl ?_)))
       refine ws _ ?_
       exact aE (an _ (.inl (aG [.int .i64 0])))
theorem HS (a0 : eo) (r : Bool) (h : CD a0 = some r) : bm aD 63 [hp a0] (.bool r) [] := by
 refine bX [0] [.tmp 2] Tryz.func63 ani (fun bT an bS => ?_)
 refine ws _ ?_
 obtain ⟨ag, aW, h⟩ := aF h
 refine dC (axt a0 _ aW) _ ?_
 exact aE (an _ (.inl (aG [.bool (ag == 0)])))
theorem axu (a0 : List bk) (U : bM) (r : Bool) (h : y1 a0 U = some r) : bm aD 88 [.slice (a0.map bC), dF U] (.bool r) [] := by
 refine bX [0, 1] [.tmp 4] Tryz.func88 anp (fun bT an bS => ?_)
 refine ws _ ?_
 refine aL an (fun ef bU bj al => ?_)
 obtain ⟨ag, cS, h⟩ := aF h
 rcases fm h with ⟨b2, h⟩ | ⟨b2, h⟩
 ·refine gx rfl (gm [(0, .slice (a0.map bC)), (3, .bb (dF U)), (24, .bool true)] (fun P ai => ?_) ?_)
  ·simp only [c7.down, simprocAttr, zz.down, (cV b2)]
   refine h0 (rZ U.dG (a0.length : Int) _ cS) rfl rfl rfl rfl (.inl (by rfl)) ?_
   simp only [c7.down, simprocAttr, zz.down, (cV b2)]
   refine ⟨fY (by kernel_rfl), ?_⟩
   (try simp only [bh.down, simprocAttr, tP.down, (cV b2)] at ai ⊢); exact ai
  refine iZ rfl ?_
  refine ws _ ?_
  exact aE (bj _ (.inl (aG [.bool false])))
 ·obtain ⟨al, bV, h⟩ := aF h
  obtain ⟨aS, hv, h⟩ := aF h
  refine gx rfl (gm [(0, .slice (a0.map bC)), (3, .bb (dF U)), (24, .bool (!aS))] (fun P ai => ?_) ?_)
  ·simp only [c7.down, simprocAttr, zz.down, (bn b2), bV]
   refine h0 (rZ U.dG (a0.length : Int) _ cS) rfl rfl rfl rfl (.inl (by rfl)) ?_
   simp only [c7.down, simprocAttr, zz.down, (bn b2), bV]
   refine k4 (rZ U.Part (al.Body.length : Int) _ hv) rfl rfl rfl rfl (.inl (by rfl)) ?_
   simp only [c7.down, simprocAttr, zz.down, (bn b2), bV]
   refine ⟨fY (by kernel_rfl), ?_⟩
   (try simp only [bh.down, simprocAttr, tP.down, (bn b2), bV] at ai ⊢); exact ai
  refine aV h (fun eT h => ?_) (fun eT h => ?_)
  ·simp only [(cV eT), ak.down]
   refine ws _ ?_
   exact aE (bj _ (.inl (aG [.bool false])))
  ·simp only [(bn eT), ak.down]
   refine aY (bU _ (.inl ?_))
   refine h2 bV _ ?_
   obtain ⟨bs, ee, h⟩ := aF h
   rcases fm h with ⟨eD, h⟩ | ⟨eD, h⟩
   ·obtain ⟨bH, eX, h⟩ := aF h
    obtain ⟨bE, cg, h⟩ := aF h
    rcases fm h with ⟨hJ, h⟩ | ⟨hJ, h⟩
    ·obtain ⟨cP, e6, h⟩ := aF h
     refine gx rfl (gm [(4, .bool cP)] (fun P ai => ?_) ?_)
     ·simp only [c7.down, simprocAttr, zA.down, ee, eD, cg, c3 cg, hJ]
      refine k4 (HM al _ eX) rfl rfl rfl rfl (.inl (by rfl)) ?_
      simp only [c7.down, simprocAttr, zA.down, ee, eD, cg, c3 cg, hJ]
      refine k4 (O7 U.cF _ e6) rfl rfl rfl rfl (.inl (by rfl)) ?_
      simp only [c7.down, simprocAttr, zA.down, ee, eD, cg, c3 cg, hJ]
      refine ⟨fY (by kernel_rfl), ?_⟩
      (try simp only [bh.down, simprocAttr, a1, bC, cG, dF, cf, d_, eS, ee, eD, cg, c3 cg, hJ] at ai ⊢); exact ai
     exact aE (an _ (.inl (aG [.bool cP])))
    ·refine gx rfl (gm [(4, .bool false)] (fun P ai => ?_) ?_)
     ·simp only [c7.down, simprocAttr, zA.down, ee, eD, cg, c3 cg, hJ]
      refine k4 (HM al _ eX) rfl rfl rfl rfl (.inl (by rfl)) ?_
      simp only [c7.down, simprocAttr, zA.down, ee, eD, cg, c3 cg, hJ]
      refine ⟨fY (by kernel_rfl), ?_⟩
      (try simp only [bh.down, simprocAttr, a1, bC, cG, dF, cf, d_, eS, ee, eD, cg, c3 cg, hJ] at ai ⊢); exact ai
     exact aE (an _ (.inl (aG [.bool false])))
   ·refine gx rfl (gm [(4, .bool false)] (fun P ai => ?_) ?_)
    ·simp only [c7.down, simprocAttr, eG, oe, e0, iQ, m2, jr, kE, gy, gY, h1, pZ, s4, gd, a1, bC, cG, dF, cf, eS, ee, eD]
     refine ⟨fY (by kernel_rfl), ?_⟩
     (try simp only [bh.down, simprocAttr, tP.down, ee, eD] at ai ⊢); exact ai
    exact aE (an _ (.inl (aG [.bool false])))
theorem axv (a0 : bM) (U : eo) (r : Bool) (h : GZ a0 U = some r) : bm aD 87 [dF a0, .ref (hp U)] (.bool r) [] := by
 refine bX [0, 1] [.tmp 3] Tryz.func87 ans (fun bT an bS => ?_)
 refine ws _ ?_
 obtain ⟨ag, aW, h⟩ := aF h
 refine dC (axu U.eH a0 _ aW) _ ?_
 exact aE (an _ (.inl (aG [.bool (!ag)])))
theorem axw (a0 : List bM) (U : eo) (r : Int) (h : G0 a0 U = some r) : bm aD 140 [.slice (a0.map dF), .fn 87 [.ref (hp U)]] (.int .i64 r) [] := by
 refine bX [0, 1] [.tmp 4] Tryz.func140 anE (fun bT an bS => ?_)
 refine ws _ ?_
 refine aL an (fun ef bU bj al => ?_)
 refine ws _ ?_
 refine bL bj (fun eb eI ch bt bs => ?_)
 have fA : ∀ (n : Nat) (cX : Int), wc a0 U n cX = some r → dE aD Od eb (aa [(0, .slice (a0.map dF)), (1, .fn 87 [.ref (hp U)]), (7, .int .i64 (a0.length : Int)), (8, .int .i64 cX)]) := by
  intro cB
  induction cB with
  | zero => intro cX h; cases (show none = some r from h)
  | succ cB ft =>
   intro cX h
   replace h : CE (wc a0 U cB) a0 U cX = some r := h
   refine dX ch (fun hr ep dc bH => ?_)
   refine ws _ ?_
   refine aL dc (fun hD ea er cP => ?_)
   refine aV h (fun bw h => ?_) (fun bw h => ?_)
   ·simp only [bw, ak.down]
    refine aY (ea _ (.inl ?_))
    refine aL dc (fun ev cQ cj di => ?_)
    refine bL cj (fun eU cq cw cR cr => ?_)
    refine ws _ ?_
    obtain ⟨ag, ee, h⟩ := aF h
    obtain ⟨al, ei, h⟩ := aF h
    refine h3 ee (axv ag U _ ei) _ ?_
    refine aV h (fun dx h => ?_) (fun dx h => ?_)
    ·simp only [dx, ak.down]
     refine ws _ ?_
     exact aE (cw _ (.inl (aG [.int .i64 cX])))
    ·simp only [dx, ak.down]
     refine aY (cq _ (cQ _ (.inl ?_)))
     refine wr _ ?_
     exact ep _ (.inr ⟨_, bu rfl, ft (IntKind.i64.wrap (cX + 1)) h⟩)
   ·simp only [bw, ak.down]
    refine dV (cP 0 _ (bH 0 _ (bt _ (bU _ (.inl ?_)))))
    refine ws _ ?_
    exact aE (an _ (.inl (aG [.int .i64 (-1)])))
 obtain ⟨n, h⟩ := dQ h
 exact dW (.inr ⟨_, bu rfl, fA n 0 h⟩)
theorem axx (a0 : List bM) (U : eo) (r : Bool) (h : CF a0 U = some r) : bm aD 86 [.slice (a0.map dF), .fn 87 [.ref (hp U)]] (.bool r) [] := by
 refine bX [0, 1] [.tmp 4] Tryz.func86 anH (fun bT an bS => ?_)
 refine ws _ ?_
 obtain ⟨ag, aW, h⟩ := aF h
 refine dC (axw a0 U _ aW) _ ?_
 exact aE (an _ (.inl (aG [.bool (decide (0 ≤ ag))])))
theorem axy (a0 : eo) (U : List bM) (r : Bool) (h : G1 a0 U = some r) : bm aD 49 [hp a0, .slice (U.map dF)] (.bool r) [] := by
 refine bX [0, 1] [.tmp 4] Tryz.func49 anK (fun bT an bS => ?_)
 refine ws _ ?_
 obtain ⟨al, cS, h⟩ := aF h
 rcases fm h with ⟨b2, h⟩ | ⟨b2, h⟩
 ·rcases fm h with ⟨dd, h⟩ | ⟨dd, h⟩
  ·obtain ⟨aS, bV, h⟩ := aF h
   refine cN (bY [(4, .bool (!aS))] (fun P ai => ?_) ?_)
   ·simp only [aN.down, simprocAttr, wt.down, b2, dd]
    refine eC (HS a0 _ cS) rfl rfl rfl rfl (.inl (by rfl)) ?_
    simp only [aN.down, simprocAttr, wt.down, b2, dd]
    refine hN (axx U a0 _ bV) rfl rfl (by simp only [aN.down, simprocAttr, wt.down, b2, dd, fV, fW, fX, dj, @bR _ bC bC (fun _ => tH _), @bR _ fp fp (fun _ => tI _), @bR _ bx bx (fun _ => l9 _), @bR _ bG bG (fun _ => ie _), @bR _ bG bG (fun _ => ie _)] <;> rfl) rfl (.inr (by rfl)) ?_
    simp only [aN.down, simprocAttr, wt.down, b2, dd]
    (try simp only [bh.down, simprocAttr, p2.down, b2, dd] at ai ⊢); exact ai
   exact aE (an _ (.inl (aG [.bool (!aS)])))
  ·refine h3 (And.intro b2 dd) (HS a0 _ cS) _ ?_
   exact aE (an _ (.inl (aG [.bool false])))
 ·refine h3 b2 (HS a0 _ cS) _ ?_
  exact aE (an _ (.inl (aG [.bool false])))
theorem Pa (a0 : List Int) (r : (List Int)) (h : y2 a0 = some r) : bm aD 167 [.slice (a0.map a1)] (.ao 1 (r.map a1)) [] := by
 refine bX [0] [.tmp 2] Tryz.func167 anQ (fun bT an bS => ?_)
 refine ws _ ?_
 refine aL an (fun ef bU bj al => ?_)
 rcases fm h with ⟨bt, h⟩ | ⟨bt, h⟩
 ·refine cN (bY [(0, .slice (a0.map a1)), (4, .fu)] (fun P ai => ?_) ?_)
  ·simp only [aN.down, simprocAttr, kp.down, A4, (LF bt), A5]
   (try simp only [bh.down, simprocAttr, a1, A4, (LF bt), A5] at ai ⊢); exact ai
  obtain ⟨bN, h⟩ := QD h
  refine Ul rfl ?_ ?_
  ·replace h := bN
   refine ws _ ?_
   exact aE (bj _ (.inr ⟨[(2, .ao 1 [])], nv [] rfl (nx (t := 2) (d := .bp) rfl rfl (.kY _) (by decide) (nw)), aG [.ao 1 []]⟩))
  ·refine aY (bU _ (.inl ?_))
   obtain ⟨u8, hv, h⟩ := aF h
   (try simp only [List.length_append, List.length_cons, List.length_nil, List.length_map, List.length_replicate, Nat.zero_add, Nat.add_zero, Nat.reduceAdd] at hv)
   refine cN (bY [(2, .ao 1 (a0.map a1))] (fun P ai => ?_) ?_)
   ·simp only [aN.down, simprocAttr, kp.down, (show ∀ s, eW aD s 46 0 [] = some (.ao 1 [], s) from fun s => by kernel_rfl), @mV aD 46 46 2 rfl rfl, mW, mX, mY, all_cons, all_nil, hv, @lp _ a1 1 (fun _ => rfl)]
    (try simp only [bh.down, simprocAttr, a1, (show ∀ s, eW aD s 46 0 [] = some (.ao 1 [], s) from fun s => by kernel_rfl), @mV aD 46 46 2 rfl rfl, mW, mX, mY, all_cons, all_nil, hv, @lp _ a1 1 (fun _ => rfl)] at ai ⊢); exact ai
   exact aE (an _ (.inl (aG [.ao 1 (a0.map a1)])))
 ·refine cN (bY [(0, .slice (a0.map a1)), (4, .bool false)] (fun P ai => ?_) ?_)
  ·simp only [aN.down, simprocAttr, kp.down, A4, (LG bt), A5]
   (try simp only [bh.down, simprocAttr, a1, A4, (LG bt), A5] at ai ⊢); exact ai
  refine rF rfl ?_
  refine aY (bU _ (.inl ?_))
  obtain ⟨aCR, nm, h⟩ := aF h
  (try simp only [List.length_append, List.length_cons, List.length_nil, List.length_map, List.length_replicate, Nat.zero_add, Nat.add_zero, Nat.reduceAdd] at nm)
  refine cN (bY [(2, .ao 1 (a0.map a1))] (fun P ai => ?_) ?_)
  ·simp only [aN.down, simprocAttr, kp.down, (show ∀ s, eW aD s 46 0 [] = some (.ao 1 [], s) from fun s => by kernel_rfl), @mV aD 46 46 2 rfl rfl, mW, mX, mY, all_cons, all_nil, nm, @lp _ a1 1 (fun _ => rfl)]
   (try simp only [bh.down, simprocAttr, a1, (show ∀ s, eW aD s 46 0 [] = some (.ao 1 [], s) from fun s => by kernel_rfl), @mV aD 46 46 2 rfl rfl, mW, mX, mY, all_cons, all_nil, nm, @lp _ a1 1 (fun _ => rfl)] at ai ⊢); exact ai
  exact aE (an _ (.inl (aG [.ao 1 (a0.map a1)])))
theorem axz (a0 r : List Int) (h : y3 a0 = some r) : bm aD 174 [.ao 1 (a0.map a1)] (.tuple []) [.ao 1 (r.map a1)] := avh a0 r h
theorem axA (a0 r : List Int) (h : CG a0 = some r) : bm aD 175 [.ao 1 (a0.map a1)] (.ao 1 (r.map a1)) [.hole] := avi a0 r h
theorem Pb (a0 : List Int) (r : (List Int)) (h : CH a0 = some r) : bm aD 119 [.slice (a0.map a1)] (.ao 1 (r.map a1)) [] := by
 refine bX [0] [.tmp 2] Tryz.func119 anV (fun bT an bS => ?_)
 refine ws _ ?_
 obtain ⟨ag, aW, h⟩ := aF h
 refine dC (Pa a0 _ aW) _ ?_
 obtain ⟨al, cZ, h⟩ := aF h
 refine cN (bY [(3, .ao 1 (al.map a1))] (fun P ai => ?_) ?_)
 ·simp only [aN.down, simprocAttr, a1]
  refine od [⟨.h 3 [], true, _, _⟩] (axz ag _ cZ) rfl rfl rfl (by simp only [aN.down, simprocAttr, a1, mZ, lq, ja, fV, fW, fX, dj, or_true, true_or, @bR _ a1 a1 (fun _ => j6 _)]) rfl rfl (.inl rfl) ?_
  simp only [aN.down, simprocAttr, a1, lr]
  (try simp only [bh.down, simprocAttr, a1] at ai ⊢); exact ai
 obtain ⟨aS, bV, h⟩ := aF h
 refine cN (bY [(2, .ao 1 (aS.map a1))] (fun P ai => ?_) ?_)
 ·simp only [aN.down, simprocAttr, a1]
  refine od [⟨.h 3 [], true, _, .hole⟩] (axA al _ bV) rfl rfl rfl (by simp only [aN.down, simprocAttr, a1, mZ, lq, ja, fV, fW, fX, dj, or_true, true_or, @bR _ a1 a1 (fun _ => j6 _)]) rfl rfl (.inl rfl) ?_
  simp only [aN.down, simprocAttr, a1, lr]
  (try simp only [bh.down, simprocAttr, a1] at ai ⊢); exact ai
 exact aE (an _ (.inl (aG [.ao 1 (aS.map a1)])))
theorem Pc (a0 : Int) (r : (List Int)) (h : CJ a0 = some r) : bm aD 120 [.int .i64 a0] (.ao 1 (r.map a1)) [] := by
 refine bX [0] [.tmp 2] Tryz.func120 an5 (fun bT an bS => ?_)
 refine ws _ ?_
 refine ws _ ?_
 refine aL an (fun j7 gD dD aS => ?_)
 refine ws _ ?_
 refine bL dD (fun hr ep dc b2 bH => ?_)
 have jw : ∀ (n : Nat) (bO : List Int) (fj : Int), tq a0 n bO fj = some r → dE aD Oe hr (aa [(3, .ao 1 (bO.map a1)), (5, .int .i64 a0), (6, .int .i64 fj)]) := by
  intro fc
  induction fc with
  | zero => intro bO fj h; cases (show none = some r from h)
  | succ fc jx =>
   intro bO fj h
   replace h : CI (tq a0 fc) a0 bO fj = some r := h
   refine dX dc (fun fk dy dv bE => ?_)
   refine ws _ ?_
   refine aL dv (fun ha g0 gN e9 => ?_)
   refine aV h (fun eT h => ?_) (fun eT h => ?_)
   ·simp only [eT, ak.down]
    refine aY (g0 _ (.inl ?_))
    refine aL dv (fun eU cq cw cr => ?_)
    refine bL cw (fun ir e_ gf iT fe => ?_)
    refine ws _ ?_
    obtain ⟨aCS, ei, h⟩ := aF h
    (try simp only [List.length_append, List.length_cons, List.length_nil, List.length_map, List.length_replicate, Nat.zero_add, Nat.add_zero, Nat.reduceAdd] at ei)
    refine kk (bY [(3, .ao 1 ((bO ++ [fj]).map a1)), (5, .int .i64 a0), (6, .int .i64 fj)] (fun P ai => ?_) ?_)
    ·simp only [aN.down, simprocAttr, kp.down, (show ∀ s, eW aD s 46 1 [(0, .int .i64 fj)] = some (.ao 1 [.int .i64 fj], s) from fun s => by kernel_rfl), @mV aD 46 46 2 rfl rfl, mW, mX, mY, all_cons, all_nil, ei, @lp _ a1 1 (fun _ => rfl)]
     (try simp only [bh.down, simprocAttr, a1, (show ∀ s, eW aD s 46 1 [(0, .int .i64 fj)] = some (.ao 1 [.int .i64 fj], s) from fun s => by kernel_rfl), @mV aD 46 46 2 rfl rfl, mW, mX, mY, all_cons, all_nil, ei, @lp _ a1 1 (fun _ => rfl)] at ai ⊢); exact ai
    refine e_ _ (cq _ (.inl ?_))
    refine wr [(3, .ao 1 ((bO ++ [fj]).map a1)), (5, .int .i64 a0), (6, .int .i64 (IntKind.i64.wrap (fj + 1)))] ?_
    exact dy _ (.inr ⟨_, bu rfl, jx (bO ++ [fj]) (IntKind.i64.wrap (fj + 1)) h⟩)
   ·simp only [eT, ak.down]
    refine dV (e9 0 _ (bE 0 _ (b2 _ (gD _ (.inl ?_)))))
    refine ws _ ?_
    exact aE (an _ (.inl (aG [.ao 1 (bO.map a1)])))
 obtain ⟨n, h⟩ := dQ h
 exact dW (.inr ⟨_, nv [] rfl (nx (t := 3) (d := .bp) (bQ := .ao 1 []) rfl rfl (.kY _) (by decide) (kl (t := 5) (d := .int .i64 a0) rfl (kl (t := 6) (d := .int .i64 0) rfl (nw)))), jw n [] 0 h⟩)
theorem Pd (a0 : List Int) (U : List Int) (r : Bool) (h : CL a0 U = some r) : bm aD 118 [.slice (a0.map a1), .slice (U.map a1)] (.bool r) [] := by
 refine bX [0, 1] [.tmp 4] Tryz.func118 aoi (fun bT an bS => ?_)
 refine ws _ ?_
 refine aL an (fun ef bU bj al => ?_)
 refine ws _ ?_
 refine aV h (fun bt h => ?_) (fun bt h => ?_)
 ·simp only [bt, ak.down]
  refine ws _ ?_
  exact aE (bj _ (.inl (aG [.bool false])))
 ·simp only [bt, ak.down]
  refine aY (bU _ (.inl ?_))
  refine aL an (fun fk dy dv bE => ?_)
  refine ws _ ?_
  refine bL dv (fun ha g0 gN bw e9 => ?_)
  have hq : ∀ (n : Nat) (m6 : Int), tr a0 U n m6 = some r → dE aD Of ha (aa [(0, .slice (a0.map a1)), (1, .slice (U.map a1)), (12, .int .i64 (a0.length : Int)), (13, .int .i64 m6)]) := by
   intro dz
   induction dz with
   | zero => intro m6 h; cases (show none = some r from h)
   | succ dz hd =>
    intro m6 h
    replace h : CK (tr a0 U dz) a0 U m6 = some r := h
    refine dX gN (fun ev cQ cj di => ?_)
    refine ws _ ?_
    refine aL cj (fun ir e_ gf fe => ?_)
    refine aV h (fun dr h => ?_) (fun dr h => ?_)
    ·simp only [dr, ak.down]
     refine aY (e_ _ (.inl ?_))
     refine aL cj (fun ly hb gR jt => ?_)
     refine bL gR (fun iH fs fa eD ic => ?_)
     refine ws _ ?_
     obtain ⟨ag, dT, h⟩ := aF h
     obtain ⟨al, e6, h⟩ := aF h
     refine gx rfl (gm [(0, .slice (a0.map a1)), (1, .slice (U.map a1)), (12, .int .i64 (a0.length : Int)), (13, .int .i64 m6), (24, .bool (ag != al))] (fun P ai => ?_) ?_)
     ·simp only [c7.down, simprocAttr, kp.down, dT, e6]
      refine ⟨fY (by kernel_rfl), ?_⟩
      (try simp only [bh.down, simprocAttr, a1, dT, e6] at ai ⊢); exact ai
     refine aV h (fun eV h => ?_) (fun eV h => ?_)
     ·simp only [eV, ak.down]
      refine ws _ ?_
      exact aE (fa _ (.inl (aG [.bool false])))
     ·simp only [eV, ak.down]
      refine aY (fs _ (hb _ (.inl ?_)))
      refine wr _ ?_
      exact cQ _ (.inr ⟨_, bu rfl, hd (IntKind.i64.wrap (m6 + 1)) h⟩)
    ·simp only [dr, ak.down]
     refine dV (fe 0 _ (di 0 _ (bw _ (dy _ (.inl ?_)))))
     refine ws _ ?_
     exact aE (an _ (.inl (aG [.bool true])))
  obtain ⟨n, h⟩ := dQ h
  exact dW (.inr ⟨_, bu rfl, hq n 0 h⟩)
theorem axB (a0 : List Int) (U : Int) (r : Bool) (h : CM a0 U = some r) : bm aD 71 [.slice (a0.map a1), .int .i64 U] (.bool r) [] := by
 refine bX [0, 1] [.tmp 4] Tryz.func71 aol (fun bT an bS => ?_)
 refine ws _ ?_
 obtain ⟨ag, aW, h⟩ := aF h
 obtain ⟨al, cS, h⟩ := aF h
 obtain ⟨aS, cZ, h⟩ := aF h
 refine cN (bY [(4, .bool (aS && ((a0.length : Int) == U)))] (fun P ai => ?_) ?_)
 ·rcases Bool.eq_false_or_eq_true (aS) with lU | lU
  ·simp only [aN.down, simprocAttr, kp.down, lU]
   refine eC (Pb a0 _ aW) rfl rfl rfl rfl (.inl (by rfl)) ?_
   simp only [aN.down, simprocAttr, kp.down, lU]
   refine eC (Pc U _ cS) rfl rfl rfl rfl (.inl (by rfl)) ?_
   simp only [aN.down, simprocAttr, kp.down, lU]
   refine eC (Pd ag al _ cZ) rfl rfl (by simp only [aN.down, simprocAttr, kp.down, lU, fV, fW, fX, dj, @bR _ a1 a1 (fun _ => j6 _), @bR _ a1 a1 (fun _ => j6 _)] <;> rfl) rfl (.inr (by rfl)) ?_
   simp only [aN.down, simprocAttr, kp.down, lU]
   (try simp only [bh.down, simprocAttr, a1, lU] at ai ⊢); exact ai
  ·simp only [aN.down, simprocAttr, kp.down, lU]
   refine eC (Pb a0 _ aW) rfl rfl rfl rfl (.inl (by rfl)) ?_
   simp only [aN.down, simprocAttr, kp.down, lU]
   refine eC (Pc U _ cS) rfl rfl rfl rfl (.inl (by rfl)) ?_
   simp only [aN.down, simprocAttr, kp.down, lU]
   refine eC (Pd ag al _ cZ) rfl rfl (by simp only [aN.down, simprocAttr, kp.down, lU, fV, fW, fX, dj, @bR _ a1 a1 (fun _ => j6 _), @bR _ a1 a1 (fun _ => j6 _)] <;> rfl) rfl (.inr (by rfl)) ?_
   simp only [aN.down, simprocAttr, kp.down, lU]
   (try simp only [bh.down, simprocAttr, a1, lU] at ai ⊢); exact ai
 exact aE (an _ (.inl (aG [.bool (aS && ((a0.length : Int) == U))])))
theorem axC (a0 : bM) (r : bM) (h : CN a0 = some r) : bm aD 121 [dF a0] (cC r) [] := by
 refine bX [0] [.cell 2 82] Tryz.func121 aop (fun bT an bS => ?_)
 refine ws _ ?_
 obtain ⟨ag, aW, h⟩ := aF h
 refine dC (Pa a0.cF _ aW) _ ?_
 refine ws _ ?_
 exact aE (an _ (.inl (aG [cC (bM.mk a0.dG a0.Part ag)])))
theorem axD (a0 : List bM) (U : List Int) (r : (List bM)) (h : CP a0 U = some r) : bm aD 72 [.slice (a0.map dF), .slice (U.map a1)] (.ao 3 (r.map cC)) [] := by
 refine bX [0, 1] [.tmp 4] Tryz.func72 aoz (fun bT an bS => ?_)
 refine ws _ ?_
 refine ws _ ?_
 refine aL an (fun j7 gD dD aS => ?_)
 refine ws _ ?_
 refine bL dD (fun hr ep dc b2 bH => ?_)
 have jw : ∀ (n : Nat) (fH : List bM) (m7 : Int), CO a0 U n fH m7 = some r → dE aD Og hr (aa [(0, .slice (a0.map dF)), (5, .ao 3 (fH.map cC)), (8, .slice (U.map a1)), (9, .int .i64 (U.length : Int)), (10, .int .i64 m7)]) := by
  intro fc
  induction fc with
  | zero => intro fH m7 h; cases (show none = some r from h)
  | succ fc jx =>
   intro fH m7 h
   replace h : MP (CO a0 U fc) a0 U fH m7 = some r := h
   refine dX dc (fun fk dy dv bE => ?_)
   refine ws _ ?_
   refine aL dv (fun ha g0 gN e9 => ?_)
   refine aV h (fun eT h => ?_) (fun eT h => ?_)
   ·simp only [eT, ak.down]
    refine aY (g0 _ (.inl ?_))
    refine aL dv (fun eU cq cw cr => ?_)
    refine bL cw (fun ir e_ gf iT fe => ?_)
    obtain ⟨ag, ee, h⟩ := aF h
    refine h2 ee _ ?_
    obtain ⟨al, eX, h⟩ := aF h
    obtain ⟨aS, cg, h⟩ := aF h
    obtain ⟨qP, dT, h⟩ := aF h
    (try simp only [List.length_append, List.length_cons, List.length_nil, List.length_map, List.length_replicate, Nat.zero_add, Nat.add_zero, Nat.reduceAdd] at dT)
    refine kk (bY [(0, .slice (a0.map dF)), (5, .ao 3 ((fH ++ [aS]).map cC)), (8, .slice (U.map a1)), (9, .int .i64 (U.length : Int)), (10, .int .i64 m7)] (fun P ai => ?_) ?_)
    ·simp only [aN.down, simprocAttr, Dx.down, eX, @vA aD 31 82 1 3 [(.agg [(.int .i64 0), (.int .i64 0), .bp])] rfl rfl rfl (by kernel_rfl), sX, vB, sY, vC, en, mY, List.nil_append, List.cons_append, @mV aD 31 31 82 rfl rfl, mW, mX, all_cons, all_nil, dT, @lp _ cC 3 (fun _ => rfl)]
     refine eC (axC al _ cg) rfl rfl rfl rfl (.inl (by rfl)) ?_
     simp only [aN.down, simprocAttr, Dx.down, eX, @vA aD 31 82 1 3 [(.agg [(.int .i64 0), (.int .i64 0), .bp])] rfl rfl rfl (by kernel_rfl), sX, vB, sY, vC, en, mY, List.nil_append, List.cons_append, @mV aD 31 31 82 rfl rfl, mW, mX, all_cons, all_nil, dT, @lp _ cC 3 (fun _ => rfl)]
     (try simp only [bh.down, simprocAttr, a1, dF, cC, eX, @vA aD 31 82 1 3 [(.agg [(.int .i64 0), (.int .i64 0), .bp])] rfl rfl rfl (by kernel_rfl), sX, vB, sY, vC, en, mY, List.nil_append, List.cons_append, @mV aD 31 31 82 rfl rfl, mW, mX, all_cons, all_nil, dT, @lp _ cC 3 (fun _ => rfl)] at ai ⊢); exact ai
    refine e_ _ (cq _ (.inl ?_))
    refine wr [(0, .slice (a0.map dF)), (5, .ao 3 ((fH ++ [aS]).map cC)), (8, .slice (U.map a1)), (9, .int .i64 (U.length : Int)), (10, .int .i64 (IntKind.i64.wrap (m7 + 1)))] ?_
    exact dy _ (.inr ⟨_, bu rfl, jx (fH ++ [aS]) (IntKind.i64.wrap (m7 + 1)) h⟩)
   ·simp only [eT, ak.down]
    refine dV (e9 0 _ (bE 0 _ (b2 _ (gD _ (.inl ?_)))))
    refine ws _ ?_
    exact aE (an _ (.inl (aG [.ao 3 (fH.map cC)])))
 obtain ⟨n, h⟩ := dQ h
 exact dW (.inr ⟨_, nv [] rfl (kl (t := 0) (d := .slice (a0.map dF)) rfl (nx (t := 5) (d := .bp) (bQ := .ao 3 []) rfl rfl (.kY _) (by decide) (kl (t := 8) (d := .slice (U.map a1)) rfl (kl (t := 9) (d := .int .i64 (U.length : Int)) rfl (kl (t := 10) (d := .int .i64 0) rfl (nw)))))), jw n [] 0 h⟩)
theorem Pe (a0 : eo) (U : List bM) (a7 : List Int) (r : (List bM) × Int) (h : y4 a0 U a7 = some r) : bm aD 26 [hp a0, .slice (U.map dF), .slice (a7.map a1)] (.tuple [.ao 3 (r.1.map cC), .int .i64 r.2]) [] := by
 refine bX [0, 1, 2] [.tmp 6, .tmp 7] Tryz.func26 nJ (fun bT an bS => ?_)
 refine ws _ ?_
 refine aL an (fun ef bU bj al => ?_)
 refine bL bj (fun j7 gD dD lh aS => ?_)
 obtain ⟨ag, cZ, h⟩ := aF h
 refine dC (axy a0 U _ cZ) _ ?_
 refine aV h (fun dd h => ?_) (fun dd h => ?_)
 ·simp only [(cV dd), ak.down]
  refine ws _ ?_
  exact aE (dD _ (.inr ⟨[(6, .ao 3 []), (7, .int .i64 1)], nv [] rfl (nx (t := 6) (d := .bp) rfl rfl (.kY _) (by decide) (kl rfl (nw))), aG [.ao 3 [], .int .i64 1]⟩))
 ·simp only [(bn dd), ak.down]
  obtain ⟨al, kv, h⟩ := aF h
  refine dC (axB a7 (U.length : Int) _ kv) _ ?_
  refine aV h (fun cR h => ?_) (fun cR h => ?_)
  ·simp only [(cV cR), ak.down]
   refine ws _ ?_
   exact aE (dD _ (.inr ⟨[(6, .ao 3 []), (7, .int .i64 2)], nv [] rfl (nx (t := 6) (d := .bp) rfl rfl (.kY _) (by decide) (kl rfl (nw))), aG [.ao 3 [], .int .i64 2]⟩))
  ·simp only [(bn cR), ak.down]
   refine aY (gD _ (bU _ (.inl ?_)))
   obtain ⟨aS, ee, h⟩ := aF h
   refine dC (axD U a7 _ ee) _ ?_
   exact aE (an _ (.inl (aG [.ao 3 (aS.map cC), .int .i64 0])))
theorem HT (a0 : List Int) (U : List Int) (r : Bool) (h : we a0 U = some r) : bm aD 27 [.slice (a0.map a1), .slice (U.map a1)] (.bool r) [] := by
 refine bX [0, 1] [.tmp 4] Tryz.func27 aoU (fun bT an bS => ?_)
 refine ws _ ?_
 refine aL an (fun ef bU bj al => ?_)
 refine ws _ ?_
 refine aV h (fun bt h => ?_) (fun bt h => ?_)
 ·simp only [bt, ak.down]
  refine ws _ ?_
  exact aE (bj _ (.inl (aG [.bool false])))
 ·simp only [bt, ak.down]
  refine aY (bU _ (.inl ?_))
  refine aL an (fun fk dy dv bE => ?_)
  refine ws _ ?_
  refine bL dv (fun ha g0 gN bw e9 => ?_)
  have hq : ∀ (n : Nat) (bW : Int), CQ a0 U n bW = some r → dE aD Oh ha (aa [(0, .slice (a0.map a1)), (1, .slice (U.map a1)), (5, .int .i64 bW)]) := by
   intro dz
   induction dz with
   | zero => intro bW h; cases (show none = some r from h)
   | succ dz hd =>
    intro bW h
    replace h : MQ (CQ a0 U dz) a0 U bW = some r := h
    refine dX gN (fun ev cQ cj di => ?_)
    refine aL cj (fun eU cq cw cr => ?_)
    refine ws _ ?_
    refine aV h (fun dr h => ?_) (fun dr h => ?_)
    ·simp only [dr, ak.down]
     refine aY (cq _ (.inl ?_))
     refine aL cj (fun ly hb gR jt => ?_)
     refine bL gR (fun iH fs fa eD ic => ?_)
     obtain ⟨ag, cg, h⟩ := aF h
     obtain ⟨al, dT, h⟩ := aF h
     refine gx rfl (gm [(0, .slice (a0.map a1)), (1, .slice (U.map a1)), (5, .int .i64 bW), (25, .bool (ag != al))] (fun P ai => ?_) ?_)
     ·simp only [c7.down, simprocAttr, kp.down, cg, dT]
      refine ⟨fY (by kernel_rfl), ?_⟩
      (try simp only [bh.down, simprocAttr, a1, cg, dT] at ai ⊢); exact ai
     refine aV h (fun fz h => ?_) (fun fz h => ?_)
     ·simp only [fz, ak.down]
      refine ws _ ?_
      exact aE (fa _ (.inl (aG [.bool false])))
     ·simp only [fz, ak.down]
      refine aY (fs _ (hb _ (.inl ?_)))
      refine wr _ ?_
      exact cQ _ (.inr ⟨_, bu rfl, hd (IntKind.i64.wrap (bW + 1)) h⟩)
    ·simp only [dr, ak.down]
     refine dV (cr 0 _ (di 0 _ (bw _ (dy _ (.inl ?_)))))
     refine ws _ ?_
     exact aE (an _ (.inl (aG [.bool true])))
  obtain ⟨n, h⟩ := dQ h
  exact dW (.inr ⟨_, bu rfl, hq n 0 h⟩)
theorem axE (a0 : bM) (U : bM) (r : Bool) (h : y5 a0 U = some r) : bm aD 51 [dF a0, dF U] (.bool r) [] := by
 refine bX [0, 1] [.tmp 4] Tryz.func51 ao6 (fun bT an bS => ?_)
 refine ws _ ?_
 refine aL an (fun ef bU bj al => ?_)
 refine ws _ ?_
 refine aV h (fun bt h => ?_) (fun bt h => ?_)
 ·simp only [bt, ak.down]
  refine ws _ ?_
  exact aE (bj _ (.inl (aG [.bool false])))
 ·simp only [bt, ak.down]
  refine aY (bU _ (.inl ?_))
  refine aL an (fun fk dy dv bE => ?_)
  refine ws _ ?_
  refine aV h (fun bw h => ?_) (fun bw h => ?_)
  ·simp only [bw, ak.down]
   refine ws _ ?_
   exact aE (dv _ (.inl (aG [.bool false])))
  ·simp only [bw, ak.down]
   refine aY (dy _ (.inl ?_))
   refine aL an (fun eU cq cw cr => ?_)
   obtain ⟨ag, ey, h⟩ := aF h
   refine dC (HT a0.cF U.cF _ ey) _ ?_
   refine aV h (fun dY h => ?_) (fun dY h => ?_)
   ·simp only [(cV dY), ak.down]
    refine ws _ ?_
    exact aE (cw _ (.inl (aG [.bool false])))
   ·simp only [(bn dY), ak.down]
    refine aY (cq _ (.inl ?_))
    refine ws _ ?_
    exact aE (an _ (.inl (aG [.bool true])))
theorem ub (a0 : List bM) (U : List bM) (r : Bool) (h : ts a0 U = some r) : bm aD 14 [.slice (a0.map dF), .slice (U.map dF)] (.bool r) [] := by
 refine bX [0, 1] [.tmp 4] Tryz.func14 ou (fun bT an bS => ?_)
 refine ws _ ?_
 refine aL an (fun ef bU bj al => ?_)
 refine ws _ ?_
 refine aV h (fun bt h => ?_) (fun bt h => ?_)
 ·simp only [bt, ak.down]
  refine ws _ ?_
  exact aE (bj _ (.inl (aG [.bool false])))
 ·simp only [bt, ak.down]
  refine aY (bU _ (.inl ?_))
  refine aL an (fun fk dy dv bE => ?_)
  refine ws _ ?_
  refine bL dv (fun ha g0 gN bw e9 => ?_)
  have hq : ∀ (n : Nat) (bW : Int), CR a0 U n bW = some r → dE aD Oi ha (aa [(0, .slice (a0.map dF)), (1, .slice (U.map dF)), (5, .int .i64 bW)]) := by
   intro dz
   induction dz with
   | zero => intro bW h; cases (show none = some r from h)
   | succ dz hd =>
    intro bW h
    replace h : MR (CR a0 U dz) a0 U bW = some r := h
    refine dX gN (fun ev cQ cj di => ?_)
    refine aL cj (fun eU cq cw cr => ?_)
    refine ws _ ?_
    refine aV h (fun dr h => ?_) (fun dr h => ?_)
    ·simp only [dr, ak.down]
     refine aY (cq _ (.inl ?_))
     refine aL cj (fun ly hb gR jt => ?_)
     refine bL gR (fun iH fs fa eD ic => ?_)
     obtain ⟨ag, cg, h⟩ := aF h
     obtain ⟨al, dT, h⟩ := aF h
     obtain ⟨aS, e6, h⟩ := aF h
     refine gx rfl (gm [(0, .slice (a0.map dF)), (1, .slice (U.map dF)), (5, .int .i64 bW), (26, .bool (!aS))] (fun P ai => ?_) ?_)
     ·simp only [c7.down, simprocAttr, eG, qC, iQ, m2, a1, dF, cg, dT]
      refine h0 (axE ag al _ e6) rfl rfl rfl rfl (.inl (by rfl)) ?_
      simp only [c7.down, simprocAttr, eG, qC, iQ, m2, a1, dF, cg, dT]
      refine ⟨fY (by kernel_rfl), ?_⟩
      (try simp only [bh.down, simprocAttr, a1, dF, cg, dT] at ai ⊢); exact ai
     refine aV h (fun eV h => ?_) (fun eV h => ?_)
     ·simp only [(cV eV), ak.down]
      refine ws _ ?_
      exact aE (fa _ (.inl (aG [.bool false])))
     ·simp only [(bn eV), ak.down]
      refine aY (fs _ (hb _ (.inl ?_)))
      refine wr _ ?_
      exact cQ _ (.inr ⟨_, bu rfl, hd (IntKind.i64.wrap (bW + 1)) h⟩)
    ·simp only [dr, ak.down]
     refine dV (cr 0 _ (di 0 _ (bw _ (dy _ (.inl ?_)))))
     refine ws _ ?_
     exact aE (an _ (.inl (aG [.bool true])))
  obtain ⟨n, h⟩ := dQ h
  exact dW (.inr ⟨_, bu rfl, hq n 0 h⟩)
theorem axF (a0 : b6) (U : b6) (r : Bool) (h : y6 a0 U = some r) : bm aD 227 [cf a0, cf U] (.bool r) [] := by
 refine bX [0, 1] [.tmp 4] Tryz.func227 apr (fun bT an bS => ?_)
 refine ws _ ?_
 refine aL an (fun ef bU bj al => ?_)
 refine ws _ ?_
 refine aV h (fun bt h => ?_) (fun bt h => ?_)
 ·simp only [bt, ak.down]
  refine ws _ ?_
  exact aE (bj _ (.inl (aG [.bool false])))
 ·simp only [bt, ak.down]
  refine aY (bU _ (.inl ?_))
  refine aL an (fun fk dy dv bE => ?_)
  refine ws _ ?_
  refine aV h (fun bw h => ?_) (fun bw h => ?_)
  ·simp only [bw, ak.down]
   refine ws _ ?_
   exact aE (dv _ (.inl (aG [.bool false])))
  ·simp only [bw, ak.down]
   refine aY (dy _ (.inl ?_))
   refine ws _ ?_
   exact aE (an _ (.inl (aG [.bool true])))
theorem axG (a0 : List b6) (U : List b6) (r : Bool) (h : y7 a0 U = some r) : bm aD 172 [.slice (a0.map cf), .slice (U.map cf)] (.bool r) [] := by
 refine bX [0, 1] [.tmp 4] Tryz.func172 apE (fun bT an bS => ?_)
 refine ws _ ?_
 refine aL an (fun ef bU bj al => ?_)
 refine ws _ ?_
 refine aV h (fun bt h => ?_) (fun bt h => ?_)
 ·simp only [bt, ak.down]
  refine ws _ ?_
  exact aE (bj _ (.inl (aG [.bool false])))
 ·simp only [bt, ak.down]
  refine aY (bU _ (.inl ?_))
  refine aL an (fun fk dy dv bE => ?_)
  refine ws _ ?_
  refine bL dv (fun ha g0 gN bw e9 => ?_)
  have hq : ∀ (n : Nat) (bW : Int), CS a0 U n bW = some r → dE aD Oj ha (aa [(0, .slice (a0.map cf)), (1, .slice (U.map cf)), (5, .int .i64 bW)]) := by
   intro dz
   induction dz with
   | zero => intro bW h; cases (show none = some r from h)
   | succ dz hd =>
    intro bW h
    replace h : MS (CS a0 U dz) a0 U bW = some r := h
    refine dX gN (fun ev cQ cj di => ?_)
    refine aL cj (fun eU cq cw cr => ?_)
    refine ws _ ?_
    refine aV h (fun dr h => ?_) (fun dr h => ?_)
    ·simp only [dr, ak.down]
     refine aY (cq _ (.inl ?_))
     refine aL cj (fun ly hb gR jt => ?_)
     refine bL gR (fun iH fs fa eD ic => ?_)
     obtain ⟨ag, cg, h⟩ := aF h
     obtain ⟨al, dT, h⟩ := aF h
     obtain ⟨aS, e6, h⟩ := aF h
     refine gx rfl (gm [(0, .slice (a0.map cf)), (1, .slice (U.map cf)), (5, .int .i64 bW), (26, .bool (!aS))] (fun P ai => ?_) ?_)
     ·simp only [c7.down, simprocAttr, nK.down, cg, dT]
      refine h0 (axF ag al _ e6) rfl rfl rfl rfl (.inl (by rfl)) ?_
      simp only [c7.down, simprocAttr, nK.down, cg, dT]
      refine ⟨fY (by kernel_rfl), ?_⟩
      (try simp only [bh.down, simprocAttr, cf, cg, dT] at ai ⊢); exact ai
     refine aV h (fun eV h => ?_) (fun eV h => ?_)
     ·simp only [(cV eV), ak.down]
      refine ws _ ?_
      exact aE (fa _ (.inl (aG [.bool false])))
     ·simp only [(bn eV), ak.down]
      refine aY (fs _ (hb _ (.inl ?_)))
      refine wr _ ?_
      exact cQ _ (.inr ⟨_, bu rfl, hd (IntKind.i64.wrap (bW + 1)) h⟩)
    ·simp only [dr, ak.down]
     refine dV (cr 0 _ (di 0 _ (bw _ (dy _ (.inl ?_)))))
     refine ws _ ?_
     exact aE (an _ (.inl (aG [.bool true])))
  obtain ⟨n, h⟩ := dQ h
  exact dW (.inr ⟨_, bu rfl, hq n 0 h⟩)
theorem axH (a0 : List (List b6)) (U : List (List b6)) (r : Bool) (h : CU a0 U = some r) : bm aD 173 [.slice (a0.map eS), .slice (U.map eS)] (.bool r) [] := by
 refine bX [0, 1] [.tmp 4] Tryz.func173 apR (fun bT an bS => ?_)
 refine ws _ ?_
 refine aL an (fun ef bU bj al => ?_)
 refine ws _ ?_
 refine aV h (fun bt h => ?_) (fun bt h => ?_)
 ·simp only [bt, ak.down]
  refine ws _ ?_
  exact aE (bj _ (.inl (aG [.bool false])))
 ·simp only [bt, ak.down]
  refine aY (bU _ (.inl ?_))
  refine aL an (fun fk dy dv bE => ?_)
  refine ws _ ?_
  refine bL dv (fun ha g0 gN bw e9 => ?_)
  have hq : ∀ (n : Nat) (bW : Int), CT a0 U n bW = some r → dE aD Ol ha (aa [(0, .slice (a0.map eS)), (1, .slice (U.map eS)), (5, .int .i64 bW)]) := by
   intro dz
   induction dz with
   | zero => intro bW h; cases (show none = some r from h)
   | succ dz hd =>
    intro bW h
    replace h : MT (CT a0 U dz) a0 U bW = some r := h
    refine dX gN (fun ev cQ cj di => ?_)
    refine aL cj (fun eU cq cw cr => ?_)
    refine ws _ ?_
    refine aV h (fun dr h => ?_) (fun dr h => ?_)
    ·simp only [dr, ak.down]
     refine aY (cq _ (.inl ?_))
     refine aL cj (fun ly hb gR jt => ?_)
     refine bL gR (fun iH fs fa eD ic => ?_)
     obtain ⟨ag, cg, h⟩ := aF h
     obtain ⟨al, dT, h⟩ := aF h
     obtain ⟨aS, e6, h⟩ := aF h
     refine gx rfl (gm [(0, .slice (a0.map eS)), (1, .slice (U.map eS)), (5, .int .i64 bW), (26, .bool (!aS))] (fun P ai => ?_) ?_)
     ·simp only [c7.down, simprocAttr, eG, gy, gY, gd, cf, eS, cg, dT]
      refine h0 (axG ag al _ e6) rfl rfl rfl rfl (.inl (by rfl)) ?_
      simp only [c7.down, simprocAttr, eG, gy, gY, gd, cf, eS, cg, dT]
      refine ⟨fY (by kernel_rfl), ?_⟩
      (try simp only [bh.down, simprocAttr, cf, eS, cg, dT] at ai ⊢); exact ai
     refine aV h (fun eV h => ?_) (fun eV h => ?_)
     ·simp only [(cV eV), ak.down]
      refine ws _ ?_
      exact aE (fa _ (.inl (aG [.bool false])))
     ·simp only [(bn eV), ak.down]
      refine aY (fs _ (hb _ (.inl ?_)))
      refine wr _ ?_
      exact cQ _ (.inr ⟨_, bu rfl, hd (IntKind.i64.wrap (bW + 1)) h⟩)
    ·simp only [dr, ak.down]
     refine dV (cr 0 _ (di 0 _ (bw _ (dy _ (.inl ?_)))))
     refine ws _ ?_
     exact aE (an _ (.inl (aG [.bool true])))
  obtain ⟨n, h⟩ := dQ h
  exact dW (.inr ⟨_, bu rfl, hq n 0 h⟩)
theorem axI (a0 : bJ) (U : bJ) (r : Bool) (h : y8 a0 U = some r) : bm aD 203 [cG a0, cG U] (.bool r) [] := by
 refine bX [0, 1] [.tmp 4] Tryz.func203 ap6 (fun bT an bS => ?_)
 refine ws _ ?_
 refine aL an (fun ef bU bj al => ?_)
 refine ws _ ?_
 refine aV h (fun bt h => ?_) (fun bt h => ?_)
 ·simp only [bt, ak.down]
  refine ws _ ?_
  exact aE (bj _ (.inl (aG [.bool false])))
 ·simp only [bt, ak.down]
  refine aY (bU _ (.inl ?_))
  refine aL an (fun fk dy dv bE => ?_)
  refine ws _ ?_
  refine aV h (fun bw h => ?_) (fun bw h => ?_)
  ·simp only [bw, ak.down]
   refine ws _ ?_
   exact aE (dv _ (.inl (aG [.bool false])))
  ·simp only [bw, ak.down]
   refine aY (dy _ (.inl ?_))
   refine aL an (fun eU cq cw cr => ?_)
   refine ws _ ?_
   refine aV h (fun dr h => ?_) (fun dr h => ?_)
   ·simp only [dr, ak.down]
    refine ws _ ?_
    exact aE (cw _ (.inl (aG [.bool false])))
   ·simp only [dr, ak.down]
    refine aY (cq _ (.inl ?_))
    refine aL an (fun iH fs fa ic => ?_)
    obtain ⟨ag, cg, h⟩ := aF h
    refine dC (axH a0.cO U.cO _ cg) _ ?_
    refine aV h (fun hJ h => ?_) (fun hJ h => ?_)
    ·simp only [(cV hJ), ak.down]
     refine ws _ ?_
     exact aE (fa _ (.inl (aG [.bool false])))
    ·simp only [(bn hJ), ak.down]
     refine aY (fs _ (.inl ?_))
     refine ws _ ?_
     exact aE (an _ (.inl (aG [.bool true])))
theorem axJ (a0 : List bJ) (U : List bJ) (r : Bool) (h : CW a0 U = some r) : bm aD 148 [.slice (a0.map cG), .slice (U.map cG)] (.bool r) [] := by
 refine bX [0, 1] [.tmp 4] Tryz.func148 aqi (fun bT an bS => ?_)
 refine ws _ ?_
 refine aL an (fun ef bU bj al => ?_)
 refine ws _ ?_
 refine aV h (fun bt h => ?_) (fun bt h => ?_)
 ·simp only [bt, ak.down]
  refine ws _ ?_
  exact aE (bj _ (.inl (aG [.bool false])))
 ·simp only [bt, ak.down]
  refine aY (bU _ (.inl ?_))
  refine aL an (fun fk dy dv bE => ?_)
  refine ws _ ?_
  refine bL dv (fun ha g0 gN bw e9 => ?_)
  have hq : ∀ (n : Nat) (bW : Int), CV a0 U n bW = some r → dE aD Om ha (aa [(0, .slice (a0.map cG)), (1, .slice (U.map cG)), (5, .int .i64 bW)]) := by
   intro dz
   induction dz with
   | zero => intro bW h; cases (show none = some r from h)
   | succ dz hd =>
    intro bW h
    replace h : MU (CV a0 U dz) a0 U bW = some r := h
    refine dX gN (fun ev cQ cj di => ?_)
    refine aL cj (fun eU cq cw cr => ?_)
    refine ws _ ?_
    refine aV h (fun dr h => ?_) (fun dr h => ?_)
    ·simp only [dr, ak.down]
     refine aY (cq _ (.inl ?_))
     refine aL cj (fun ly hb gR jt => ?_)
     refine bL gR (fun iH fs fa eD ic => ?_)
     obtain ⟨ag, cg, h⟩ := aF h
     obtain ⟨al, dT, h⟩ := aF h
     obtain ⟨aS, e6, h⟩ := aF h
     refine gx rfl (gm [(0, .slice (a0.map cG)), (1, .slice (U.map cG)), (5, .int .i64 bW), (26, .bool (!aS))] (fun P ai => ?_) ?_)
     ·simp only [c7.down, simprocAttr, Dv.down, cg, dT]
      refine h0 (axI ag al _ e6) rfl rfl rfl rfl (.inl (by rfl)) ?_
      simp only [c7.down, simprocAttr, Dv.down, cg, dT]
      refine ⟨fY (by kernel_rfl), ?_⟩
      (try simp only [bh.down, simprocAttr, m9.down, cg, dT] at ai ⊢); exact ai
     refine aV h (fun eV h => ?_) (fun eV h => ?_)
     ·simp only [(cV eV), ak.down]
      refine ws _ ?_
      exact aE (fa _ (.inl (aG [.bool false])))
     ·simp only [(bn eV), ak.down]
      refine aY (fs _ (hb _ (.inl ?_)))
      refine wr _ ?_
      exact cQ _ (.inr ⟨_, bu rfl, hd (IntKind.i64.wrap (bW + 1)) h⟩)
    ·simp only [dr, ak.down]
     refine dV (cr 0 _ (di 0 _ (bw _ (dy _ (.inl ?_)))))
     refine ws _ ?_
     exact aE (an _ (.inl (aG [.bool true])))
  obtain ⟨n, h⟩ := dQ h
  exact dW (.inr ⟨_, bu rfl, hq n 0 h⟩)
theorem axK (a0 : bk) (U : bk) (r : Bool) (h : y9 a0 U = some r) : bm aD 92 [bC a0, bC U] (.bool r) [] := by
 refine bX [0, 1] [.tmp 4] Tryz.func92 aqu (fun bT an bS => ?_)
 refine ws _ ?_
 refine aL an (fun ef bU bj al => ?_)
 refine ws _ ?_
 refine aV h (fun bt h => ?_) (fun bt h => ?_)
 ·simp only [bt, ak.down]
  refine ws _ ?_
  exact aE (bj _ (.inl (aG [.bool false])))
 ·simp only [bt, ak.down]
  refine aY (bU _ (.inl ?_))
  refine aL an (fun fk dy dv bE => ?_)
  refine ws _ ?_
  refine aV h (fun bw h => ?_) (fun bw h => ?_)
  ·simp only [bw, ak.down]
   refine ws _ ?_
   exact aE (dv _ (.inl (aG [.bool false])))
  ·simp only [bw, ak.down]
   refine aY (dy _ (.inl ?_))
   refine aL an (fun eU cq cw cr => ?_)
   obtain ⟨ag, ey, h⟩ := aF h
   refine dC (axJ a0.Body U.Body _ ey) _ ?_
   refine aV h (fun dY h => ?_) (fun dY h => ?_)
   ·simp only [(cV dY), ak.down]
    refine ws _ ?_
    exact aE (cw _ (.inl (aG [.bool false])))
   ·simp only [(bn dY), ak.down]
    refine aY (cq _ (.inl ?_))
    refine ws _ ?_
    exact aE (an _ (.inl (aG [.bool true])))
theorem axL (a0 : List bk) (U : List bk) (r : Bool) (h : y_ a0 U = some r) : bm aD 52 [.slice (a0.map bC), .slice (U.map bC)] (.bool r) [] := by
 refine bX [0, 1] [.tmp 4] Tryz.func52 zu (fun bT an bS => ?_)
 refine ws _ ?_
 refine aL an (fun ef bU bj al => ?_)
 refine ws _ ?_
 refine aV h (fun bt h => ?_) (fun bt h => ?_)
 ·simp only [bt, ak.down]
  refine ws _ ?_
  exact aE (bj _ (.inl (aG [.bool false])))
 ·simp only [bt, ak.down]
  refine aY (bU _ (.inl ?_))
  refine aL an (fun fk dy dv bE => ?_)
  refine ws _ ?_
  refine bL dv (fun ha g0 gN bw e9 => ?_)
  have hq : ∀ (n : Nat) (bW : Int), CX a0 U n bW = some r → dE aD On ha (aa [(0, .slice (a0.map bC)), (1, .slice (U.map bC)), (5, .int .i64 bW)]) := by
   intro dz
   induction dz with
   | zero => intro bW h; cases (show none = some r from h)
   | succ dz hd =>
    intro bW h
    replace h : MV (CX a0 U dz) a0 U bW = some r := h
    refine dX gN (fun ev cQ cj di => ?_)
    refine aL cj (fun eU cq cw cr => ?_)
    refine ws _ ?_
    refine aV h (fun dr h => ?_) (fun dr h => ?_)
    ·simp only [dr, ak.down]
     refine aY (cq _ (.inl ?_))
     refine aL cj (fun ly hb gR jt => ?_)
     refine bL gR (fun iH fs fa eD ic => ?_)
     obtain ⟨ag, cg, h⟩ := aF h
     obtain ⟨al, dT, h⟩ := aF h
     obtain ⟨aS, e6, h⟩ := aF h
     refine gx rfl (gm [(0, .slice (a0.map bC)), (1, .slice (U.map bC)), (5, .int .i64 bW), (26, .bool (!aS))] (fun P ai => ?_) ?_)
     ·simp only [c7.down, simprocAttr, jf.down, cg, dT]
      refine h0 (axK ag al _ e6) rfl rfl rfl rfl (.inl (by rfl)) ?_
      simp only [c7.down, simprocAttr, jf.down, cg, dT]
      refine ⟨fY (by kernel_rfl), ?_⟩
      (try simp only [bh.down, simprocAttr, iq.down, cg, dT] at ai ⊢); exact ai
     refine aV h (fun eV h => ?_) (fun eV h => ?_)
     ·simp only [(cV eV), ak.down]
      refine ws _ ?_
      exact aE (fa _ (.inl (aG [.bool false])))
     ·simp only [(bn eV), ak.down]
      refine aY (fs _ (hb _ (.inl ?_)))
      refine wr _ ?_
      exact cQ _ (.inr ⟨_, bu rfl, hd (IntKind.i64.wrap (bW + 1)) h⟩)
    ·simp only [dr, ak.down]
     refine dV (cr 0 _ (di 0 _ (bw _ (dy _ (.inl ?_)))))
     refine ws _ ?_
     exact aE (an _ (.inl (aG [.bool true])))
  obtain ⟨n, h⟩ := dQ h
  exact dW (.inr ⟨_, bu rfl, hq n 0 h⟩)
theorem axM (a0 : dq) (U : dq) (r : Bool) (h : za a0 U = some r) : bm aD 93 [fp a0, fp U] (.bool r) [] := by
 refine bX [0, 1] [.tmp 4] Tryz.func93 pb (fun bT an bS => ?_)
 refine ws _ ?_
 refine aL an (fun ef bU bj al => ?_)
 refine ws _ ?_
 refine aV h (fun bt h => ?_) (fun bt h => ?_)
 ·simp only [bt, ak.down]
  refine ws _ ?_
  exact aE (bj _ (.inl (aG [.bool false])))
 ·simp only [bt, ak.down]
  refine aY (bU _ (.inl ?_))
  refine aL an (fun fk dy dv bE => ?_)
  obtain ⟨ag, hv, h⟩ := aF h
  refine dC (HT a0.cF U.cF _ hv) _ ?_
  refine aV h (fun eT h => ?_) (fun eT h => ?_)
  ·simp only [(cV eT), ak.down]
   refine ws _ ?_
   exact aE (dv _ (.inl (aG [.bool false])))
  ·simp only [(bn eT), ak.down]
   refine aY (dy _ (.inl ?_))
   refine ws _ ?_
   exact aE (an _ (.inl (aG [.bool true])))
theorem axN (a0 : List dq) (U : List dq) (r : Bool) (h : CZ a0 U = some r) : bm aD 53 [.slice (a0.map fp), .slice (U.map fp)] (.bool r) [] := by
 refine bX [0, 1] [.tmp 4] Tryz.func53 zv (fun bT an bS => ?_)
 refine ws _ ?_
 refine aL an (fun ef bU bj al => ?_)
 refine ws _ ?_
 refine aV h (fun bt h => ?_) (fun bt h => ?_)
 ·simp only [bt, ak.down]
  refine ws _ ?_
  exact aE (bj _ (.inl (aG [.bool false])))
 ·simp only [bt, ak.down]
  refine aY (bU _ (.inl ?_))
  refine aL an (fun fk dy dv bE => ?_)
  refine ws _ ?_
  refine bL dv (fun ha g0 gN bw e9 => ?_)
  have hq : ∀ (n : Nat) (bW : Int), CY a0 U n bW = some r → dE aD Oo ha (aa [(0, .slice (a0.map fp)), (1, .slice (U.map fp)), (5, .int .i64 bW)]) := by
   intro dz
   induction dz with
   | zero => intro bW h; cases (show none = some r from h)
   | succ dz hd =>
    intro bW h
    replace h : MW (CY a0 U dz) a0 U bW = some r := h
    refine dX gN (fun ev cQ cj di => ?_)
    refine aL cj (fun eU cq cw cr => ?_)
    refine ws _ ?_
    refine aV h (fun dr h => ?_) (fun dr h => ?_)
    ·simp only [dr, ak.down]
     refine aY (cq _ (.inl ?_))
     refine aL cj (fun ly hb gR jt => ?_)
     refine bL gR (fun iH fs fa eD ic => ?_)
     obtain ⟨ag, cg, h⟩ := aF h
     obtain ⟨al, dT, h⟩ := aF h
     obtain ⟨aS, e6, h⟩ := aF h
     refine gx rfl (gm [(0, .slice (a0.map fp)), (1, .slice (U.map fp)), (5, .int .i64 bW), (26, .bool (!aS))] (fun P ai => ?_) ?_)
     ·simp only [c7.down, simprocAttr, eG, og, iQ, nB, a1, fp, cg, dT]
      refine h0 (axM ag al _ e6) rfl rfl rfl rfl (.inl (by rfl)) ?_
      simp only [c7.down, simprocAttr, eG, og, iQ, nB, a1, fp, cg, dT]
      refine ⟨fY (by kernel_rfl), ?_⟩
      (try simp only [bh.down, simprocAttr, a1, fp, cg, dT] at ai ⊢); exact ai
     refine aV h (fun eV h => ?_) (fun eV h => ?_)
     ·simp only [(cV eV), ak.down]
      refine ws _ ?_
      exact aE (fa _ (.inl (aG [.bool false])))
     ·simp only [(bn eV), ak.down]
      refine aY (fs _ (hb _ (.inl ?_)))
      refine wr _ ?_
      exact cQ _ (.inr ⟨_, bu rfl, hd (IntKind.i64.wrap (bW + 1)) h⟩)
    ·simp only [dr, ak.down]
     refine dV (cr 0 _ (di 0 _ (bw _ (dy _ (.inl ?_)))))
     refine ws _ ?_
     exact aE (an _ (.inl (aG [.bool true])))
  obtain ⟨n, h⟩ := dQ h
  exact dW (.inr ⟨_, bu rfl, hq n 0 h⟩)
theorem axO (a0 : cc) (U : cc) (r : Bool) (h : zb a0 U = some r) : bm aD 94 [bx a0, bx U] (.bool r) [] := by
 refine bX [0, 1] [.tmp 4] Tryz.func94 arb (fun bT an bS => ?_)
 refine ws _ ?_
 refine aL an (fun ef bU bj al => ?_)
 refine ws _ ?_
 refine aV h (fun bt h => ?_) (fun bt h => ?_)
 ·simp only [bt, ak.down]
  refine ws _ ?_
  exact aE (bj _ (.inl (aG [.bool false])))
 ·simp only [bt, ak.down]
  refine aY (bU _ (.inl ?_))
  refine aL an (fun fk dy dv bE => ?_)
  refine ws _ ?_
  refine aV h (fun bw h => ?_) (fun bw h => ?_)
  ·simp only [bw, ak.down]
   refine ws _ ?_
   exact aE (dv _ (.inl (aG [.bool false])))
  ·simp only [bw, ak.down]
   refine aY (dy _ (.inl ?_))
   refine aL an (fun eU cq cw cr => ?_)
   refine ws _ ?_
   refine aV h (fun dr h => ?_) (fun dr h => ?_)
   ·simp only [dr, ak.down]
    refine ws _ ?_
    exact aE (cw _ (.inl (aG [.bool false])))
   ·simp only [dr, ak.down]
    refine aY (cq _ (.inl ?_))
    refine ws _ ?_
    exact aE (an _ (.inl (aG [.bool true])))
theorem axP (a0 : List cc) (U : List cc) (r : Bool) (h : C1 a0 U = some r) : bm aD 54 [.slice (a0.map bx), .slice (U.map bx)] (.bool r) [] := by
 refine bX [0, 1] [.tmp 4] Tryz.func54 ars (fun bT an bS => ?_)
 refine ws _ ?_
 refine aL an (fun ef bU bj al => ?_)
 refine ws _ ?_
 refine aV h (fun bt h => ?_) (fun bt h => ?_)
 ·simp only [bt, ak.down]
  refine ws _ ?_
  exact aE (bj _ (.inl (aG [.bool false])))
 ·simp only [bt, ak.down]
  refine aY (bU _ (.inl ?_))
  refine aL an (fun fk dy dv bE => ?_)
  refine ws _ ?_
  refine bL dv (fun ha g0 gN bw e9 => ?_)
  have hq : ∀ (n : Nat) (bW : Int), C0 a0 U n bW = some r → dE aD Oq ha (aa [(0, .slice (a0.map bx)), (1, .slice (U.map bx)), (5, .int .i64 bW)]) := by
   intro dz
   induction dz with
   | zero => intro bW h; cases (show none = some r from h)
   | succ dz hd =>
    intro bW h
    replace h : MX (C0 a0 U dz) a0 U bW = some r := h
    refine dX gN (fun ev cQ cj di => ?_)
    refine aL cj (fun eU cq cw cr => ?_)
    refine ws _ ?_
    refine aV h (fun dr h => ?_) (fun dr h => ?_)
    ·simp only [dr, ak.down]
     refine aY (cq _ (.inl ?_))
     refine aL cj (fun ly hb gR jt => ?_)
     refine bL gR (fun iH fs fa eD ic => ?_)
     obtain ⟨ag, cg, h⟩ := aF h
     obtain ⟨al, dT, h⟩ := aF h
     obtain ⟨aS, e6, h⟩ := aF h
     refine gx rfl (gm [(0, .slice (a0.map bx)), (1, .slice (U.map bx)), (5, .int .i64 bW), (26, .bool (!aS))] (fun P ai => ?_) ?_)
     ·simp only [c7.down, simprocAttr, hC.down, cg, dT]
      refine h0 (axO ag al _ e6) rfl rfl rfl rfl (.inl (by rfl)) ?_
      simp only [c7.down, simprocAttr, hC.down, cg, dT]
      refine ⟨fY (by kernel_rfl), ?_⟩
      (try simp only [bh.down, simprocAttr, bx, cg, dT] at ai ⊢); exact ai
     refine aV h (fun eV h => ?_) (fun eV h => ?_)
     ·simp only [(cV eV), ak.down]
      refine ws _ ?_
      exact aE (fa _ (.inl (aG [.bool false])))
     ·simp only [(bn eV), ak.down]
      refine aY (fs _ (hb _ (.inl ?_)))
      refine wr _ ?_
      exact cQ _ (.inr ⟨_, bu rfl, hd (IntKind.i64.wrap (bW + 1)) h⟩)
    ·simp only [dr, ak.down]
     refine dV (cr 0 _ (di 0 _ (bw _ (dy _ (.inl ?_)))))
     refine ws _ ?_
     exact aE (an _ (.inl (aG [.bool true])))
  obtain ⟨n, h⟩ := dQ h
  exact dW (.inr ⟨_, bu rfl, hq n 0 h⟩)
theorem Pf (a0 : List (List UInt8)) (U : List (List UInt8)) (r : Bool) (h : zc a0 U = some r) : bm aD 55 [.slice (a0.map bG), .slice (U.map bG)] (.bool r) [] := by
 refine bX [0, 1] [.tmp 4] Tryz.func55 arF (fun bT an bS => ?_)
 refine ws _ ?_
 refine aL an (fun ef bU bj al => ?_)
 refine ws _ ?_
 refine aV h (fun bt h => ?_) (fun bt h => ?_)
 ·simp only [bt, ak.down]
  refine ws _ ?_
  exact aE (bj _ (.inl (aG [.bool false])))
 ·simp only [bt, ak.down]
  refine aY (bU _ (.inl ?_))
  refine aL an (fun fk dy dv bE => ?_)
  refine ws _ ?_
  refine bL dv (fun ha g0 gN bw e9 => ?_)
  have hq : ∀ (n : Nat) (bW : Int), C2 a0 U n bW = some r → dE aD Ot ha (aa [(0, .slice (a0.map bG)), (1, .slice (U.map bG)), (5, .int .i64 bW)]) := by
   intro dz
   induction dz with
   | zero => intro bW h; cases (show none = some r from h)
   | succ dz hd =>
    intro bW h
    replace h : MY (C2 a0 U dz) a0 U bW = some r := h
    refine dX gN (fun ev cQ cj di => ?_)
    refine aL cj (fun eU cq cw cr => ?_)
    refine ws _ ?_
    refine aV h (fun dr h => ?_) (fun dr h => ?_)
    ·simp only [dr, ak.down]
     refine aY (cq _ (.inl ?_))
     refine aL cj (fun ly hb gR jt => ?_)
     refine bL gR (fun iH fs fa eD ic => ?_)
     obtain ⟨ag, cg, h⟩ := aF h
     obtain ⟨al, dT, h⟩ := aF h
     refine gx rfl (gm [(0, .slice (a0.map bG)), (1, .slice (U.map bG)), (5, .int .i64 bW), (25, .bool (!(ag == al)))] (fun P ai => ?_) ?_)
     ·simp only [c7.down, simprocAttr, e0, lx, bG, cg, dT]
      refine ⟨fY (by kernel_rfl), ?_⟩
      (try simp only [bh.down, simprocAttr, bG, cg, dT] at ai ⊢); exact ai
     refine aV h (fun fz h => ?_) (fun fz h => ?_)
     ·simp only [fz, ak.down]
      refine ws _ ?_
      exact aE (fa _ (.inl (aG [.bool false])))
     ·simp only [fz, ak.down]
      refine aY (fs _ (hb _ (.inl ?_)))
      refine wr _ ?_
      exact cQ _ (.inr ⟨_, bu rfl, hd (IntKind.i64.wrap (bW + 1)) h⟩)
    ·simp only [dr, ak.down]
     refine dV (cr 0 _ (di 0 _ (bw _ (dy _ (.inl ?_)))))
     refine ws _ ?_
     exact aE (an _ (.inl (aG [.bool true])))
  obtain ⟨n, h⟩ := dQ h
  exact dW (.inr ⟨_, bu rfl, hq n 0 h⟩)
theorem axQ (a0 : eo) (U : eo) (r : Bool) (h : zd a0 U = some r) : bm aD 15 [hp a0, hp U] (.bool r) [] := by
 refine bX [0, 1] [.tmp 4] Tryz.func15 wo (fun bT an bS => ?_)
 refine ws _ ?_
 refine aL an (fun ef bU bj al => ?_)
 obtain ⟨ag, cS, h⟩ := aF h
 refine dC (axL a0.eH U.eH _ cS) _ ?_
 refine aV h (fun b2 h => ?_) (fun b2 h => ?_)
 ·simp only [(cV b2), ak.down]
  refine ws _ ?_
  exact aE (bj _ (.inl (aG [.bool false])))
 ·simp only [(bn b2), ak.down]
  refine aY (bU _ (.inl ?_))
  refine aL an (fun hD ea er cP => ?_)
  obtain ⟨al, kv, h⟩ := aF h
  refine dC (axN a0.c_ U.c_ _ kv) _ ?_
  refine aV h (fun cR h => ?_) (fun cR h => ?_)
  ·simp only [(cV cR), ak.down]
   refine ws _ ?_
   exact aE (er _ (.inl (aG [.bool false])))
  ·simp only [(bn cR), ak.down]
   refine aY (ea _ (.inl ?_))
   refine aL an (fun j8 hc iV je => ?_)
   obtain ⟨aS, ei, h⟩ := aF h
   refine dC (axP a0.hH U.hH _ ei) _ ?_
   refine aV h (fun dx h => ?_) (fun dx h => ?_)
   ·simp only [(cV dx), ak.down]
    refine ws _ ?_
    exact aE (iV _ (.inl (aG [.bool false])))
   ·simp only [(bn dx), ak.down]
    refine aY (hc _ (.inl ?_))
    refine aL an (fun ox jU jg lR => ?_)
    obtain ⟨bs, g2, h⟩ := aF h
    refine dC (Pf a0.hA U.hA _ g2) _ ?_
    refine aV h (fun ew h => ?_) (fun ew h => ?_)
    ·simp only [(cV ew), ak.down]
     refine ws _ ?_
     exact aE (jg _ (.inl (aG [.bool false])))
    ·simp only [(bn ew), ak.down]
     refine aY (jU _ (.inl ?_))
     refine aL an (fun zC pd pe j5 => ?_)
     obtain ⟨bH, kJ, h⟩ := aF h
     refine dC (Pf a0.hB U.hB _ kJ) _ ?_
     refine aV h (fun jh h => ?_) (fun jh h => ?_)
     ·simp only [(cV jh), ak.down]
      refine ws _ ?_
      exact aE (pe _ (.inl (aG [.bool false])))
     ·simp only [(bn jh), ak.down]
      refine aY (pd _ (.inl ?_))
      refine ws _ ?_
      exact aE (an _ (.inl (aG [.bool true])))
theorem wE (a0 : Int) (r : (List UInt8)) (h : qI a0 = some r) : bm aD 95 [.int .i64 a0] (.str r) [] := by
 refine bX [] [.tmp 2] Tryz.func95 ar7 (fun bT an bS => ?_)
 refine ws _ ?_
 refine aL an (fun ef bU bj al => ?_)
 refine ws _ ?_
 refine aV h (fun bt h => ?_) (fun bt h => ?_)
 ·simp only [bt, ak.down]
  refine ws _ ?_
  exact aE (bj _ (.inl (aG [.str ([109, 48] : List UInt8)])))
 ·simp only [bt, ak.down]
  refine aY (bU _ (.inl ?_))
  refine ws _ ?_
  refine aL an (fun hD ea er cP => ?_)
  refine bL er (fun ha g0 gN bw e9 => ?_)
  have hq : ∀ (n : Nat) (kn : Int) (c9 : List UInt8), rU n kn c9 = some r → dE aD Ou ha (aa [(0, .int .i64 kn), (3, .str c9)]) := by
   intro dz
   induction dz with
   | zero => intro kn c9 h; cases (show none = some r from h)
   | succ dz hd =>
    intro kn c9 h
    replace h : ze (rU dz) kn c9 = some r := h
    refine dX gN (fun ev cQ cj di => ?_)
    refine aL cj (fun eU cq cw cr => ?_)
    refine ws _ ?_
    refine aV h (fun dr h => ?_) (fun dr h => ?_)
    ·simp only [dr, ak.down]
     refine aY (cq _ (.inl ?_))
     refine bL cj (fun ly hb gR dY jt => ?_)
     obtain ⟨u16, eX, h⟩ := aF h
     (try simp only [List.length_append, List.length_cons, List.length_nil, List.length_map, List.length_replicate, Nat.zero_add, Nat.add_zero, Nat.reduceAdd] at eX)
     refine cN (bY [(0, .int .i64 kn), (3, .str ([(qe (IntKind.i64.wrap (48 + (Int.tmod kn 10))))] ++ c9))] (fun P ai => ?_) ?_)
     ·simp only [aN.down, simprocAttr, VQ, VR, kX, @Lo .i64 10 (by decide), @Li aD 3 5 .u8 rfl rfl, (show ∀ s, eW aD s 193 1 [(0, .int .u8 (IntKind.u8.wrap (IntKind.i64.wrap (48 + (Int.tmod kn 10)))))] = some (.ao 1 [.int .u8 (IntKind.u8.wrap (IntKind.i64.wrap (48 + (Int.tmod kn 10))))], s) from fun s => by kernel_rfl), (@Lk aD 193 9 5 rfl rfl rfl).2.2, Ln, Ll, eX, AX, AY]
      (try simp only [bh.down, simprocAttr, kX, @Lo .i64 10 (by decide), @Li aD 3 5 .u8 rfl rfl, (show ∀ s, eW aD s 193 1 [(0, .int .u8 (IntKind.u8.wrap (IntKind.i64.wrap (48 + (Int.tmod kn 10)))))] = some (.ao 1 [.int .u8 (IntKind.u8.wrap (IntKind.i64.wrap (48 + (Int.tmod kn 10))))], s) from fun s => by kernel_rfl), (@Lk aD 193 9 5 rfl rfl rfl).2.2, Ln, Ll, eX, AX, AY] at ai ⊢); exact ai
     refine avk (@Uq .i64 10 (by decide)) [(0, .int .i64 (IntKind.i64.wrap (Int.tdiv kn 10))), (3, .str ([(qe (IntKind.i64.wrap (48 + (Int.tmod kn 10))))] ++ c9))] ?_
     exact hb _ (cQ _ (.inr ⟨_, bu rfl, hd (IntKind.i64.wrap (Int.tdiv kn 10)) ([(qe (IntKind.i64.wrap (48 + (Int.tmod kn 10))))] ++ c9) h⟩))
    ·simp only [dr, ak.down]
     refine dV (cr 0 _ (di 0 _ (bw _ (ea _ (.inl ?_)))))
     obtain ⟨qP, e6, h⟩ := aF h
     (try simp only [List.length_append, List.length_cons, List.length_nil, List.length_map, List.length_replicate, Nat.zero_add, Nat.add_zero, Nat.reduceAdd] at e6)
     refine cN (bY [(2, .str (([109] : List UInt8) ++ c9))] (fun P ai => ?_) ?_)
     ·simp only [aN.down, simprocAttr, e6, AX, AY]
      (try simp only [bh.down, simprocAttr, e6, AX, AY] at ai ⊢); exact ai
     exact aE (an _ (.inl (aG [.str (([109] : List UInt8) ++ c9)])))
  obtain ⟨n, h⟩ := dQ h
  exact dW (.inr ⟨_, bu rfl, hq n a0 ([] : List UInt8) h⟩)
theorem axR (a0 : List b6) (U : Int) (r : Int × (List b6)) (h : C4 a0 U = some r) : bm aD 113 [.ao 2 (a0.map cf), .int .i64 U] (.int .i64 r.1) [.ao 2 (r.2.map cf), .hole] := by
 refine bX [0] [.tmp 4] Tryz.func113 ash (fun bT an bS => ?_)
 refine ws _ ?_
 refine aL an (fun ef bU bj al => ?_)
 refine ws _ ?_
 refine bL bj (fun eb eI ch bt bs => ?_)
 have fA : ∀ (n : Nat) (bB : List b6) (aT : Int) (aJ : Int), tt n bB aT aJ = some r → dE aD Ov eb (aa [(0, .ao 2 (bB.map cf)), (1, .int .i64 aT), (5, .int .i64 aJ)]) := by
  intro cB
  induction cB with
  | zero => intro bB aT aJ h; cases (show none = some r from h)
  | succ cB ft =>
   intro bB aT aJ h
   replace h : C3 (tt cB) bB aT aJ = some r := h
   refine dX ch (fun hr ep dc bH => ?_)
   refine aL dc (fun fk dy dv bE => ?_)
   refine ws _ ?_
   refine aV h (fun bw h => ?_) (fun bw h => ?_)
   ·simp only [bw, ak.down]
    refine aY (dy _ (.inl ?_))
    refine aL dc (fun ev cQ cj di => ?_)
    refine bL cj (fun eU cq cw cR cr => ?_)
    obtain ⟨ag, ey, h⟩ := aF h
    refine cN (bY [(0, .ao 2 ((List.set bB (Int.toNat aJ) (b6.mk aT ag.Value)).map cf)), (1, .int .i64 aT), (5, .int .i64 aJ)] (fun P ai => ?_) ?_)
    ·simp only [aN.down, simprocAttr, nK.down, ey, c3 ey, en, dZ]
     (try simp only [bh.down, simprocAttr, cf, ey, c3 ey, en, dZ] at ai ⊢); exact ai
    refine ws [(0, .ao 2 ((List.set bB (Int.toNat aJ) (b6.mk aT ag.Value)).map cf)), (1, .int .i64 (IntKind.i64.wrap (aT + 1))), (5, .int .i64 aJ)] ?_
    obtain ⟨al, eX, h⟩ := aF h
    refine cN (bY [(0, .ao 2 ((List.set (List.set bB (Int.toNat aJ) (b6.mk aT ag.Value)) (Int.toNat aJ) (b6.mk al.Kind (IntKind.i64.wrap (aT + 1)))).map cf)), (1, .int .i64 (IntKind.i64.wrap (aT + 1))), (5, .int .i64 aJ)] (fun P ai => ?_) ?_)
    ·simp only [aN.down, simprocAttr, nK.down, eX, c3 eX, en, dZ]
     (try simp only [bh.down, simprocAttr, cf, eX, c3 eX, en, dZ] at ai ⊢); exact ai
    refine wr [(0, .ao 2 ((List.set (List.set bB (Int.toNat aJ) (b6.mk aT ag.Value)) (Int.toNat aJ) (b6.mk al.Kind (IntKind.i64.wrap (aT + 1)))).map cf)), (1, .int .i64 (IntKind.i64.wrap ((IntKind.i64.wrap (aT + 1)) + 1))), (5, .int .i64 aJ)] ?_
    refine cq _ (cQ _ (.inl ?_))
    refine wr [(0, .ao 2 ((List.set (List.set bB (Int.toNat aJ) (b6.mk aT ag.Value)) (Int.toNat aJ) (b6.mk al.Kind (IntKind.i64.wrap (aT + 1)))).map cf)), (1, .int .i64 (IntKind.i64.wrap ((IntKind.i64.wrap (aT + 1)) + 1))), (5, .int .i64 (IntKind.i64.wrap (aJ + 1)))] ?_
    exact ep _ (.inr ⟨_, bu rfl, ft (List.set (List.set bB (Int.toNat aJ) (b6.mk aT ag.Value)) (Int.toNat aJ) (b6.mk al.Kind (IntKind.i64.wrap (aT + 1)))) (IntKind.i64.wrap ((IntKind.i64.wrap (aT + 1)) + 1)) (IntKind.i64.wrap (aJ + 1)) h⟩)
   ·simp only [bw, ak.down]
    refine dV (bE 0 _ (bH 0 _ (bt _ (bU _ (.inl ?_)))))
    refine ws _ ?_
    exact aE (an _ (.inl (oc [.int .i64 aT] rfl (by cases jK h; rfl) (by decide) (o4 (o5 (by cases jK h; rfl) rfl rfl rfl (m0 (o6)))))))
 obtain ⟨n, h⟩ := dQ h
 exact dW (.inr ⟨_, bu rfl, fA n a0 U 0 h⟩)
theorem axS (a0 : List (List b6)) (U : Int) (r : Int × (List (List b6))) (h : C6 a0 U = some r) : bm aD 114 [.ao 1 (a0.map fI), .int .i64 U] (.int .i64 r.1) [.ao 1 (r.2.map fI), .hole] := by
 refine bX [0] [.tmp 4] Tryz.func114 asq (fun bT an bS => ?_)
 refine ws _ ?_
 refine aL an (fun ef bU bj al => ?_)
 refine ws _ ?_
 refine bL bj (fun eb eI ch bt bs => ?_)
 have fA : ∀ (n : Nat) (bB : List (List b6)) (aT : Int) (aJ : Int), tu n bB aT aJ = some r → dE aD Ow eb (aa [(0, .ao 1 (bB.map fI)), (1, .int .i64 aT), (5, .int .i64 aJ)]) := by
  intro cB
  induction cB with
  | zero => intro bB aT aJ h; cases (show none = some r from h)
  | succ cB ft =>
   intro bB aT aJ h
   replace h : C5 (tu cB) bB aT aJ = some r := h
   refine dX ch (fun hr ep dc bH => ?_)
   refine aL dc (fun fk dy dv bE => ?_)
   refine ws _ ?_
   refine aV h (fun bw h => ?_) (fun bw h => ?_)
   ·simp only [bw, ak.down]
    refine aY (dy _ (.inl ?_))
    refine aL dc (fun ev cQ cj di => ?_)
    refine bL cj (fun eU cq cw cR cr => ?_)
    obtain ⟨ag, ey, h⟩ := aF h
    obtain ⟨al, ee, h⟩ := aF h
    refine kk (bY [(0, .ao 1 ((List.set bB (Int.toNat aJ) al.2).map fI)), (1, .int .i64 al.1), (5, .int .i64 aJ)] (fun P ai => ?_) ?_)
    ·simp only [aN.down, simprocAttr, eG, gy, gY, gd, cf, fI, ey, c3 ey]
     refine od [⟨.h 0 [Int.toNat aJ], true, _, _⟩, ⟨.int .i64 aT, false, _, .hole⟩] (axR ag aT _ ee) rfl rfl rfl (by simp only [aN.down, simprocAttr, eG, gy, gY, gd, cf, fI, ey, c3 ey, lq, ja, fV, fW, fX, dj, or_true, true_or, @bR _ cf cf (fun _ => G_ _)]) rfl rfl (.inl rfl) ?_
     simp only [aN.down, simprocAttr, eG, gy, gY, gd, cf, fI, ey, c3 ey, lr, (xY (c3 ey)), xZ]
     (try simp only [bh.down, simprocAttr, cf, fI, ey, c3 ey] at ai ⊢); exact ai
    refine cq _ (cQ _ (.inl ?_))
    refine wr [(0, .ao 1 ((List.set bB (Int.toNat aJ) al.2).map fI)), (1, .int .i64 al.1), (5, .int .i64 (IntKind.i64.wrap (aJ + 1)))] ?_
    exact ep _ (.inr ⟨_, bu rfl, ft (List.set bB (Int.toNat aJ) al.2) al.1 (IntKind.i64.wrap (aJ + 1)) h⟩)
   ·simp only [bw, ak.down]
    refine dV (bE 0 _ (bH 0 _ (bt _ (bU _ (.inl ?_)))))
    refine ws _ ?_
    exact aE (an _ (.inl (oc [.int .i64 aT] rfl (by cases jK h; rfl) (by decide) (o4 (o5 (by cases jK h; rfl) rfl rfl rfl (m0 (o6)))))))
 obtain ⟨n, h⟩ := dQ h
 exact dW (.inr ⟨_, bu rfl, fA n a0 U 0 h⟩)
theorem axT (a0 : List bJ) (U : Int) (r : Int × (List bJ)) (h : C8 a0 U = some r) : bm aD 96 [.ao 4 (a0.map fC), .int .i64 U] (.int .i64 r.1) [.ao 4 (r.2.map fC), .hole] := by
 refine bX [0] [.tmp 4] Tryz.func96 asE (fun bT an bS => ?_)
 refine ws _ ?_
 refine aL an (fun ef bU bj al => ?_)
 refine ws _ ?_
 refine bL bj (fun eb eI ch bt bs => ?_)
 have fA : ∀ (n : Nat) (bB : List bJ) (aT : Int) (aJ : Int), tv n bB aT aJ = some r → dE aD Ox eb (aa [(0, .ao 4 (bB.map fC)), (1, .int .i64 aT), (5, .int .i64 aJ)]) := by
  intro cB
  induction cB with
  | zero => intro bB aT aJ h; cases (show none = some r from h)
  | succ cB ft =>
   intro bB aT aJ h
   replace h : C7 (tv cB) bB aT aJ = some r := h
   refine dX ch (fun hr ep dc bH => ?_)
   refine aL dc (fun fk dy dv bE => ?_)
   refine ws _ ?_
   refine aV h (fun bw h => ?_) (fun bw h => ?_)
   ·simp only [bw, ak.down]
    refine aY (dy _ (.inl ?_))
    refine aL dc (fun ev cQ cj di => ?_)
    refine bL cj (fun eU cq cw cR cr => ?_)
    obtain ⟨ag, ey, h⟩ := aF h
    refine cN (bY [(0, .ao 4 ((List.set bB (Int.toNat aJ) (bJ.mk aT ag.Number ag.Name ag.cO)).map fC)), (1, .int .i64 aT), (5, .int .i64 aJ)] (fun P ai => ?_) ?_)
    ·simp only [aN.down, simprocAttr, tS.down, ey, c3 ey, en, dZ]
     (try simp only [bh.down, simprocAttr, DA.down, ey, c3 ey, en, dZ] at ai ⊢); exact ai
    refine ws [(0, .ao 4 ((List.set bB (Int.toNat aJ) (bJ.mk aT ag.Number ag.Name ag.cO)).map fC)), (1, .int .i64 (IntKind.i64.wrap (aT + 1))), (5, .int .i64 aJ)] ?_
    obtain ⟨al, eX, h⟩ := aF h
    refine cN (bY [(0, .ao 4 ((List.set (List.set bB (Int.toNat aJ) (bJ.mk aT ag.Number ag.Name ag.cO)) (Int.toNat aJ) (bJ.mk al.Kind (IntKind.i64.wrap (aT + 1)) al.Name al.cO)).map fC)), (1, .int .i64 (IntKind.i64.wrap (aT + 1))), (5, .int .i64 aJ)] (fun P ai => ?_) ?_)
    ·simp only [aN.down, simprocAttr, tS.down, eX, c3 eX, en, dZ]
     (try simp only [bh.down, simprocAttr, DA.down, eX, c3 eX, en, dZ] at ai ⊢); exact ai
    refine ws [(0, .ao 4 ((List.set (List.set bB (Int.toNat aJ) (bJ.mk aT ag.Number ag.Name ag.cO)) (Int.toNat aJ) (bJ.mk al.Kind (IntKind.i64.wrap (aT + 1)) al.Name al.cO)).map fC)), (1, .int .i64 (IntKind.i64.wrap ((IntKind.i64.wrap (aT + 1)) + 1))), (5, .int .i64 aJ)] ?_
    obtain ⟨aS, e6, h⟩ := aF h
    obtain ⟨bs, g2, h⟩ := aF h
    refine cN (bY [(0, .ao 4 ((List.set (List.set (List.set bB (Int.toNat aJ) (bJ.mk aT ag.Number ag.Name ag.cO)) (Int.toNat aJ) (bJ.mk al.Kind (IntKind.i64.wrap (aT + 1)) al.Name al.cO)) (Int.toNat aJ) (bJ.mk bs.Kind bs.Number aS bs.cO)).map fC)), (1, .int .i64 (IntKind.i64.wrap ((IntKind.i64.wrap (aT + 1)) + 1))), (5, .int .i64 aJ)] (fun P ai => ?_) ?_)
    ·simp only [aN.down, simprocAttr, tS.down, g2, c3 g2, en, dZ]
     refine eC (wE (IntKind.i64.wrap ((IntKind.i64.wrap (aT + 1)) + 1)) _ e6) rfl rfl rfl rfl (.inl (by rfl)) ?_
     simp only [aN.down, simprocAttr, tS.down, g2, c3 g2, en, dZ]
     (try simp only [bh.down, simprocAttr, DA.down, g2, c3 g2, en, dZ] at ai ⊢); exact ai
    refine ws [(0, .ao 4 ((List.set (List.set (List.set bB (Int.toNat aJ) (bJ.mk aT ag.Number ag.Name ag.cO)) (Int.toNat aJ) (bJ.mk al.Kind (IntKind.i64.wrap (aT + 1)) al.Name al.cO)) (Int.toNat aJ) (bJ.mk bs.Kind bs.Number aS bs.cO)).map fC)), (1, .int .i64 (IntKind.i64.wrap ((IntKind.i64.wrap ((IntKind.i64.wrap (aT + 1)) + 1)) + 1))), (5, .int .i64 aJ)] ?_
    obtain ⟨bH, hP, h⟩ := aF h
    obtain ⟨bE, kI, h⟩ := aF h
    refine kk (bY [(0, .ao 4 ((List.set (List.set (List.set (List.set bB (Int.toNat aJ) (bJ.mk aT ag.Number ag.Name ag.cO)) (Int.toNat aJ) (bJ.mk al.Kind (IntKind.i64.wrap (aT + 1)) al.Name al.cO)) (Int.toNat aJ) (bJ.mk bs.Kind bs.Number aS bs.cO)) (Int.toNat aJ) (bJ.mk bH.Kind bH.Number bH.Name bE.2)).map fC)), (1, .int .i64 bE.1), (5, .int .i64 aJ)] (fun P ai => ?_) ?_)
    ·simp only [aN.down, simprocAttr, tS.down, hP, c3 hP]
     refine od [⟨.h 0 [Int.toNat aJ, 3], true, _, _⟩, ⟨.int .i64 (IntKind.i64.wrap ((IntKind.i64.wrap ((IntKind.i64.wrap (aT + 1)) + 1)) + 1)), false, _, .hole⟩] (axS bH.cO (IntKind.i64.wrap ((IntKind.i64.wrap ((IntKind.i64.wrap (aT + 1)) + 1)) + 1)) _ kI) rfl rfl rfl (by simp only [aN.down, simprocAttr, tS.down, hP, c3 hP, lq, ja, fV, fW, fX, dj, or_true, true_or, @bR _ fI eS (fun _ => Hb _)]) rfl rfl (.inl rfl) ?_
     simp only [aN.down, simprocAttr, tS.down, hP, c3 hP, lr, (xY (c3 hP)), xZ]
     (try simp only [bh.down, simprocAttr, DA.down, hP, c3 hP] at ai ⊢); exact ai
    refine cq _ (cQ _ (.inl ?_))
    refine wr [(0, .ao 4 ((List.set (List.set (List.set (List.set bB (Int.toNat aJ) (bJ.mk aT ag.Number ag.Name ag.cO)) (Int.toNat aJ) (bJ.mk al.Kind (IntKind.i64.wrap (aT + 1)) al.Name al.cO)) (Int.toNat aJ) (bJ.mk bs.Kind bs.Number aS bs.cO)) (Int.toNat aJ) (bJ.mk bH.Kind bH.Number bH.Name bE.2)).map fC)), (1, .int .i64 bE.1), (5, .int .i64 (IntKind.i64.wrap (aJ + 1)))] ?_
    exact ep _ (.inr ⟨_, bu rfl, ft (List.set (List.set (List.set (List.set bB (Int.toNat aJ) (bJ.mk aT ag.Number ag.Name ag.cO)) (Int.toNat aJ) (bJ.mk al.Kind (IntKind.i64.wrap (aT + 1)) al.Name al.cO)) (Int.toNat aJ) (bJ.mk bs.Kind bs.Number aS bs.cO)) (Int.toNat aJ) (bJ.mk bH.Kind bH.Number bH.Name bE.2)) bE.1 (IntKind.i64.wrap (aJ + 1)) h⟩)
   ·simp only [bw, ak.down]
    refine dV (bE 0 _ (bH 0 _ (bt _ (bU _ (.inl ?_)))))
    refine ws _ ?_
    exact aE (an _ (.inl (oc [.int .i64 aT] rfl (by cases jK h; rfl) (by decide) (o4 (o5 (by cases jK h; rfl) rfl rfl rfl (m0 (o6)))))))
 obtain ⟨n, h⟩ := dQ h
 exact dW (.inr ⟨_, bu rfl, fA n a0 U 0 h⟩)
theorem axU (a0 : List bk) (U : Int) (r : Int × (List bk)) (h : C_ a0 U = some r) : bm aD 56 [.ao 3 (a0.map ff), .int .i64 U] (.int .i64 r.1) [.ao 3 (r.2.map ff), .hole] := by
 refine bX [0] [.tmp 4] Tryz.func56 asQ (fun bT an bS => ?_)
 refine ws _ ?_
 refine aL an (fun ef bU bj al => ?_)
 refine ws _ ?_
 refine bL bj (fun eb eI ch bt bs => ?_)
 have fA : ∀ (n : Nat) (bB : List bk) (aT : Int) (aJ : Int), tw n bB aT aJ = some r → dE aD Oy eb (aa [(0, .ao 3 (bB.map ff)), (1, .int .i64 aT), (5, .int .i64 aJ)]) := by
  intro cB
  induction cB with
  | zero => intro bB aT aJ h; cases (show none = some r from h)
  | succ cB ft =>
   intro bB aT aJ h
   replace h : C9 (tw cB) bB aT aJ = some r := h
   refine dX ch (fun hr ep dc bH => ?_)
   refine aL dc (fun fk dy dv bE => ?_)
   refine ws _ ?_
   refine aV h (fun bw h => ?_) (fun bw h => ?_)
   ·simp only [bw, ak.down]
    refine aY (dy _ (.inl ?_))
    refine aL dc (fun ev cQ cj di => ?_)
    refine bL cj (fun eU cq cw cR cr => ?_)
    obtain ⟨ag, ey, h⟩ := aF h
    obtain ⟨al, ee, h⟩ := aF h
    refine cN (bY [(0, .ao 3 ((List.set bB (Int.toNat aJ) (bk.mk ag al.dw al.Body)).map ff)), (1, .int .i64 aT), (5, .int .i64 aJ)] (fun P ai => ?_) ?_)
    ·simp only [aN.down, simprocAttr, wu.down, ee, c3 ee, en, dZ]
     refine eC (wE aT _ ey) rfl rfl rfl rfl (.inl (by rfl)) ?_
     simp only [aN.down, simprocAttr, wu.down, ee, c3 ee, en, dZ]
     (try simp only [bh.down, simprocAttr, cf, ff, fC, fI, ee, c3 ee, en, dZ] at ai ⊢); exact ai
    refine ws [(0, .ao 3 ((List.set bB (Int.toNat aJ) (bk.mk ag al.dw al.Body)).map ff)), (1, .int .i64 (IntKind.i64.wrap (aT + 1))), (5, .int .i64 aJ)] ?_
    obtain ⟨aS, cg, h⟩ := aF h
    refine cN (bY [(0, .ao 3 ((List.set (List.set bB (Int.toNat aJ) (bk.mk ag al.dw al.Body)) (Int.toNat aJ) (bk.mk aS.Name (IntKind.i64.wrap (aT + 1)) aS.Body)).map ff)), (1, .int .i64 (IntKind.i64.wrap (aT + 1))), (5, .int .i64 aJ)] (fun P ai => ?_) ?_)
    ·simp only [aN.down, simprocAttr, wu.down, cg, c3 cg, en, dZ]
     (try simp only [bh.down, simprocAttr, cf, ff, fC, fI, cg, c3 cg, en, dZ] at ai ⊢); exact ai
    refine ws [(0, .ao 3 ((List.set (List.set bB (Int.toNat aJ) (bk.mk ag al.dw al.Body)) (Int.toNat aJ) (bk.mk aS.Name (IntKind.i64.wrap (aT + 1)) aS.Body)).map ff)), (1, .int .i64 (IntKind.i64.wrap ((IntKind.i64.wrap (aT + 1)) + 1))), (5, .int .i64 aJ)] ?_
    obtain ⟨bs, g2, h⟩ := aF h
    obtain ⟨bH, iW, h⟩ := aF h
    refine kk (bY [(0, .ao 3 ((List.set (List.set (List.set bB (Int.toNat aJ) (bk.mk ag al.dw al.Body)) (Int.toNat aJ) (bk.mk aS.Name (IntKind.i64.wrap (aT + 1)) aS.Body)) (Int.toNat aJ) (bk.mk bs.Name bs.dw bH.2)).map ff)), (1, .int .i64 bH.1), (5, .int .i64 aJ)] (fun P ai => ?_) ?_)
    ·simp only [aN.down, simprocAttr, wu.down, g2, c3 g2]
     refine od [⟨.h 0 [Int.toNat aJ, 2], true, _, _⟩, ⟨.int .i64 (IntKind.i64.wrap ((IntKind.i64.wrap (aT + 1)) + 1)), false, _, .hole⟩] (axT bs.Body (IntKind.i64.wrap ((IntKind.i64.wrap (aT + 1)) + 1)) _ iW) rfl rfl rfl (by simp only [aN.down, simprocAttr, wu.down, g2, c3 g2, lq, ja, fV, fW, fX, dj, or_true, true_or, @bR _ fC cG (fun _ => Hc _)]) rfl rfl (.inl rfl) ?_
     simp only [aN.down, simprocAttr, wu.down, g2, c3 g2, lr, (xY (c3 g2)), xZ]
     (try simp only [bh.down, simprocAttr, cf, ff, fC, fI, g2, c3 g2] at ai ⊢); exact ai
    refine cq _ (cQ _ (.inl ?_))
    refine wr [(0, .ao 3 ((List.set (List.set (List.set bB (Int.toNat aJ) (bk.mk ag al.dw al.Body)) (Int.toNat aJ) (bk.mk aS.Name (IntKind.i64.wrap (aT + 1)) aS.Body)) (Int.toNat aJ) (bk.mk bs.Name bs.dw bH.2)).map ff)), (1, .int .i64 bH.1), (5, .int .i64 (IntKind.i64.wrap (aJ + 1)))] ?_
    exact ep _ (.inr ⟨_, bu rfl, ft (List.set (List.set (List.set bB (Int.toNat aJ) (bk.mk ag al.dw al.Body)) (Int.toNat aJ) (bk.mk aS.Name (IntKind.i64.wrap (aT + 1)) aS.Body)) (Int.toNat aJ) (bk.mk bs.Name bs.dw bH.2)) bH.1 (IntKind.i64.wrap (aJ + 1)) h⟩)
   ·simp only [bw, ak.down]
    refine dV (bE 0 _ (bH 0 _ (bt _ (bU _ (.inl ?_)))))
    refine ws _ ?_
    exact aE (an _ (.inl (oc [.int .i64 aT] rfl (by cases jK h; rfl) (by decide) (o4 (o5 (by cases jK h; rfl) rfl rfl rfl (m0 (o6)))))))
 obtain ⟨n, h⟩ := dQ h
 exact dW (.inr ⟨_, bu rfl, fA n a0 U 0 h⟩)
theorem HU (a0 : List Int) (U : Int) (r : Int × (List Int)) (h : wg a0 U = some r) : bm aD 28 [.ao 1 (a0.map a1), .int .i64 U] (.int .i64 r.1) [.ao 1 (r.2.map a1), .hole] := by
 refine bX [0] [.tmp 4] Tryz.func28 asZ (fun bT an bS => ?_)
 refine ws _ ?_
 refine aL an (fun ef bU bj al => ?_)
 refine ws _ ?_
 refine bL bj (fun eb eI ch bt bs => ?_)
 have fA : ∀ (n : Nat) (bB : List Int) (aT : Int) (aJ : Int), tx n bB aT aJ = some r → dE aD Oz eb (aa [(0, .ao 1 (bB.map a1)), (1, .int .i64 aT), (5, .int .i64 aJ)]) := by
  intro cB
  induction cB with
  | zero => intro bB aT aJ h; cases (show none = some r from h)
  | succ cB ft =>
   intro bB aT aJ h
   replace h : Da (tx cB) bB aT aJ = some r := h
   refine dX ch (fun hr ep dc bH => ?_)
   refine aL dc (fun fk dy dv bE => ?_)
   refine ws _ ?_
   refine aV h (fun bw h => ?_) (fun bw h => ?_)
   ·simp only [bw, ak.down]
    refine aY (dy _ (.inl ?_))
    refine aL dc (fun ev cQ cj di => ?_)
    refine bL cj (fun eU cq cw cR cr => ?_)
    obtain ⟨ag, ey, h⟩ := aF h
    refine cN (bY [(0, .ao 1 ((List.set bB (Int.toNat aJ) aT).map a1)), (1, .int .i64 aT), (5, .int .i64 aJ)] (fun P ai => ?_) ?_)
    ·simp only [aN.down, simprocAttr, kp.down, ey, c3 ey, en, dZ]
     (try simp only [bh.down, simprocAttr, a1, ey, c3 ey, en, dZ] at ai ⊢); exact ai
    refine wr [(0, .ao 1 ((List.set bB (Int.toNat aJ) aT).map a1)), (1, .int .i64 (IntKind.i64.wrap (aT + 1))), (5, .int .i64 aJ)] ?_
    refine cq _ (cQ _ (.inl ?_))
    refine wr [(0, .ao 1 ((List.set bB (Int.toNat aJ) aT).map a1)), (1, .int .i64 (IntKind.i64.wrap (aT + 1))), (5, .int .i64 (IntKind.i64.wrap (aJ + 1)))] ?_
    exact ep _ (.inr ⟨_, bu rfl, ft (List.set bB (Int.toNat aJ) aT) (IntKind.i64.wrap (aT + 1)) (IntKind.i64.wrap (aJ + 1)) h⟩)
   ·simp only [bw, ak.down]
    refine dV (bE 0 _ (bH 0 _ (bt _ (bU _ (.inl ?_)))))
    refine ws _ ?_
    exact aE (an _ (.inl (oc [.int .i64 aT] rfl (by cases jK h; rfl) (by decide) (o4 (o5 (by cases jK h; rfl) rfl rfl rfl (m0 (o6)))))))
 obtain ⟨n, h⟩ := dQ h
 exact dW (.inr ⟨_, bu rfl, fA n a0 U 0 h⟩)
theorem axV (a0 : List dq) (U : Int) (r : Int × (List dq)) (h : Dc a0 U = some r) : bm aD 57 [.ao 2 (a0.map fq), .int .i64 U] (.int .i64 r.1) [.ao 2 (r.2.map fq), .hole] := by
 refine bX [0] [.tmp 4] Tryz.func57 as9 (fun bT an bS => ?_)
 refine ws _ ?_
 refine aL an (fun ef bU bj al => ?_)
 refine ws _ ?_
 refine bL bj (fun eb eI ch bt bs => ?_)
 have fA : ∀ (n : Nat) (bB : List dq) (aT : Int) (aJ : Int), tz n bB aT aJ = some r → dE aD OA eb (aa [(0, .ao 2 (bB.map fq)), (1, .int .i64 aT), (5, .int .i64 aJ)]) := by
  intro cB
  induction cB with
  | zero => intro bB aT aJ h; cases (show none = some r from h)
  | succ cB ft =>
   intro bB aT aJ h
   replace h : Db (tz cB) bB aT aJ = some r := h
   refine dX ch (fun hr ep dc bH => ?_)
   refine aL dc (fun fk dy dv bE => ?_)
   refine ws _ ?_
   refine aV h (fun bw h => ?_) (fun bw h => ?_)
   ·simp only [bw, ak.down]
    refine aY (dy _ (.inl ?_))
    refine aL dc (fun ev cQ cj di => ?_)
    refine bL cj (fun eU cq cw cR cr => ?_)
    obtain ⟨ag, ey, h⟩ := aF h
    refine cN (bY [(0, .ao 2 ((List.set bB (Int.toNat aJ) (dq.mk aT ag.cF)).map fq)), (1, .int .i64 aT), (5, .int .i64 aJ)] (fun P ai => ?_) ?_)
    ·simp only [aN.down, simprocAttr, DB.down, ey, c3 ey, en, dZ]
     (try simp only [bh.down, simprocAttr, a1, fq, ey, c3 ey, en, dZ] at ai ⊢); exact ai
    refine ws [(0, .ao 2 ((List.set bB (Int.toNat aJ) (dq.mk aT ag.cF)).map fq)), (1, .int .i64 (IntKind.i64.wrap (aT + 1))), (5, .int .i64 aJ)] ?_
    obtain ⟨al, eX, h⟩ := aF h
    obtain ⟨aS, cg, h⟩ := aF h
    refine kk (bY [(0, .ao 2 ((List.set (List.set bB (Int.toNat aJ) (dq.mk aT ag.cF)) (Int.toNat aJ) (dq.mk al.dG aS.2)).map fq)), (1, .int .i64 aS.1), (5, .int .i64 aJ)] (fun P ai => ?_) ?_)
    ·simp only [aN.down, simprocAttr, DB.down, eX, c3 eX]
     refine od [⟨.h 0 [Int.toNat aJ, 1], true, _, _⟩, ⟨.int .i64 (IntKind.i64.wrap (aT + 1)), false, _, .hole⟩] (HU al.cF (IntKind.i64.wrap (aT + 1)) _ cg) rfl rfl rfl (by simp only [aN.down, simprocAttr, DB.down, eX, c3 eX, lq, ja, fV, fW, fX, dj, or_true, true_or, @bR _ a1 a1 (fun _ => j6 _)]) rfl rfl (.inl rfl) ?_
     simp only [aN.down, simprocAttr, DB.down, eX, c3 eX, lr, (xY (c3 eX)), xZ]
     (try simp only [bh.down, simprocAttr, a1, fq, eX, c3 eX] at ai ⊢); exact ai
    refine cq _ (cQ _ (.inl ?_))
    refine wr [(0, .ao 2 ((List.set (List.set bB (Int.toNat aJ) (dq.mk aT ag.cF)) (Int.toNat aJ) (dq.mk al.dG aS.2)).map fq)), (1, .int .i64 aS.1), (5, .int .i64 (IntKind.i64.wrap (aJ + 1)))] ?_
    exact ep _ (.inr ⟨_, bu rfl, ft (List.set (List.set bB (Int.toNat aJ) (dq.mk aT ag.cF)) (Int.toNat aJ) (dq.mk al.dG aS.2)) aS.1 (IntKind.i64.wrap (aJ + 1)) h⟩)
   ·simp only [bw, ak.down]
    refine dV (bE 0 _ (bH 0 _ (bt _ (bU _ (.inl ?_)))))
    refine ws _ ?_
    exact aE (an _ (.inl (oc [.int .i64 aT] rfl (by cases jK h; rfl) (by decide) (o4 (o5 (by cases jK h; rfl) rfl rfl rfl (m0 (o6)))))))
 obtain ⟨n, h⟩ := dQ h
 exact dW (.inr ⟨_, bu rfl, fA n a0 U 0 h⟩)
theorem axW (a0 : List cc) (U : Int) (r : Int × (List cc)) (h : De a0 U = some r) : bm aD 58 [.ao 3 (a0.map bx), .int .i64 U] (.int .i64 r.1) [.ao 3 (r.2.map bx), .hole] := by
 refine bX [0] [.tmp 4] Tryz.func58 atl (fun bT an bS => ?_)
 refine ws _ ?_
 refine aL an (fun ef bU bj al => ?_)
 refine ws _ ?_
 refine bL bj (fun eb eI ch bt bs => ?_)
 have fA : ∀ (n : Nat) (bB : List cc) (aT : Int) (aJ : Int), tA n bB aT aJ = some r → dE aD OB eb (aa [(0, .ao 3 (bB.map bx)), (1, .int .i64 aT), (5, .int .i64 aJ)]) := by
  intro cB
  induction cB with
  | zero => intro bB aT aJ h; cases (show none = some r from h)
  | succ cB ft =>
   intro bB aT aJ h
   replace h : Dd (tA cB) bB aT aJ = some r := h
   refine dX ch (fun hr ep dc bH => ?_)
   refine aL dc (fun fk dy dv bE => ?_)
   refine ws _ ?_
   refine aV h (fun bw h => ?_) (fun bw h => ?_)
   ·simp only [bw, ak.down]
    refine aY (dy _ (.inl ?_))
    refine aL dc (fun ev cQ cj di => ?_)
    refine bL cj (fun eU cq cw cR cr => ?_)
    obtain ⟨ag, ey, h⟩ := aF h
    obtain ⟨al, ee, h⟩ := aF h
    refine cN (bY [(0, .ao 3 ((List.set bB (Int.toNat aJ) (cc.mk ag al.cp al.Result)).map bx)), (1, .int .i64 aT), (5, .int .i64 aJ)] (fun P ai => ?_) ?_)
    ·simp only [aN.down, simprocAttr, hC.down, ee, c3 ee, en, dZ]
     refine eC (wE aT _ ey) rfl rfl rfl rfl (.inl (by rfl)) ?_
     simp only [aN.down, simprocAttr, hC.down, ee, c3 ee, en, dZ]
     (try simp only [bh.down, simprocAttr, bx, ee, c3 ee, en, dZ] at ai ⊢); exact ai
    refine ws [(0, .ao 3 ((List.set bB (Int.toNat aJ) (cc.mk ag al.cp al.Result)).map bx)), (1, .int .i64 (IntKind.i64.wrap (aT + 1))), (5, .int .i64 aJ)] ?_
    obtain ⟨aS, cg, h⟩ := aF h
    obtain ⟨bs, dT, h⟩ := aF h
    refine cN (bY [(0, .ao 3 ((List.set (List.set bB (Int.toNat aJ) (cc.mk ag al.cp al.Result)) (Int.toNat aJ) (cc.mk bs.Left aS bs.Result)).map bx)), (1, .int .i64 (IntKind.i64.wrap (aT + 1))), (5, .int .i64 aJ)] (fun P ai => ?_) ?_)
    ·simp only [aN.down, simprocAttr, hC.down, dT, c3 dT, en, dZ]
     refine eC (wE (IntKind.i64.wrap (aT + 1)) _ cg) rfl rfl rfl rfl (.inl (by rfl)) ?_
     simp only [aN.down, simprocAttr, hC.down, dT, c3 dT, en, dZ]
     (try simp only [bh.down, simprocAttr, bx, dT, c3 dT, en, dZ] at ai ⊢); exact ai
    refine ws [(0, .ao 3 ((List.set (List.set bB (Int.toNat aJ) (cc.mk ag al.cp al.Result)) (Int.toNat aJ) (cc.mk bs.Left aS bs.Result)).map bx)), (1, .int .i64 (IntKind.i64.wrap ((IntKind.i64.wrap (aT + 1)) + 1))), (5, .int .i64 aJ)] ?_
    obtain ⟨bH, iW, h⟩ := aF h
    obtain ⟨bE, na, h⟩ := aF h
    refine cN (bY [(0, .ao 3 ((List.set (List.set (List.set bB (Int.toNat aJ) (cc.mk ag al.cp al.Result)) (Int.toNat aJ) (cc.mk bs.Left aS bs.Result)) (Int.toNat aJ) (cc.mk bE.Left bE.cp bH)).map bx)), (1, .int .i64 (IntKind.i64.wrap ((IntKind.i64.wrap (aT + 1)) + 1))), (5, .int .i64 aJ)] (fun P ai => ?_) ?_)
    ·simp only [aN.down, simprocAttr, hC.down, na, c3 na, en, dZ]
     refine eC (wE (IntKind.i64.wrap ((IntKind.i64.wrap (aT + 1)) + 1)) _ iW) rfl rfl rfl rfl (.inl (by rfl)) ?_
     simp only [aN.down, simprocAttr, hC.down, na, c3 na, en, dZ]
     (try simp only [bh.down, simprocAttr, bx, na, c3 na, en, dZ] at ai ⊢); exact ai
    refine wr [(0, .ao 3 ((List.set (List.set (List.set bB (Int.toNat aJ) (cc.mk ag al.cp al.Result)) (Int.toNat aJ) (cc.mk bs.Left aS bs.Result)) (Int.toNat aJ) (cc.mk bE.Left bE.cp bH)).map bx)), (1, .int .i64 (IntKind.i64.wrap ((IntKind.i64.wrap ((IntKind.i64.wrap (aT + 1)) + 1)) + 1))), (5, .int .i64 aJ)] ?_
    refine cq _ (cQ _ (.inl ?_))
    refine wr [(0, .ao 3 ((List.set (List.set (List.set bB (Int.toNat aJ) (cc.mk ag al.cp al.Result)) (Int.toNat aJ) (cc.mk bs.Left aS bs.Result)) (Int.toNat aJ) (cc.mk bE.Left bE.cp bH)).map bx)), (1, .int .i64 (IntKind.i64.wrap ((IntKind.i64.wrap ((IntKind.i64.wrap (aT + 1)) + 1)) + 1))), (5, .int .i64 (IntKind.i64.wrap (aJ + 1)))] ?_
    exact ep _ (.inr ⟨_, bu rfl, ft (List.set (List.set (List.set bB (Int.toNat aJ) (cc.mk ag al.cp al.Result)) (Int.toNat aJ) (cc.mk bs.Left aS bs.Result)) (Int.toNat aJ) (cc.mk bE.Left bE.cp bH)) (IntKind.i64.wrap ((IntKind.i64.wrap ((IntKind.i64.wrap (aT + 1)) + 1)) + 1)) (IntKind.i64.wrap (aJ + 1)) h⟩)
   ·simp only [bw, ak.down]
    refine dV (bE 0 _ (bH 0 _ (bt _ (bU _ (.inl ?_)))))
    refine ws _ ?_
    exact aE (an _ (.inl (oc [.int .i64 aT] rfl (by cases jK h; rfl) (by decide) (o4 (o5 (by cases jK h; rfl) rfl rfl rfl (m0 (o6)))))))
 obtain ⟨n, h⟩ := dQ h
 exact dW (.inr ⟨_, bu rfl, fA n a0 U 0 h⟩)
theorem Pg (a0 : List (List UInt8)) (U : Int) (r : Int × (List (List UInt8))) (h : zf a0 U = some r) : bm aD 59 [.ao 1 (a0.map bG), .int .i64 U] (.int .i64 r.1) [.ao 1 (r.2.map bG), .hole] := by
 refine bX [0] [.tmp 4] Tryz.func59 atu (fun bT an bS => ?_)
 refine ws _ ?_
 refine aL an (fun ef bU bj al => ?_)
 refine ws _ ?_
 refine bL bj (fun eb eI ch bt bs => ?_)
 have fA : ∀ (n : Nat) (bB : List (List UInt8)) (aT : Int) (aJ : Int), tB n bB aT aJ = some r → dE aD OC eb (aa [(0, .ao 1 (bB.map bG)), (1, .int .i64 aT), (5, .int .i64 aJ)]) := by
  intro cB
  induction cB with
  | zero => intro bB aT aJ h; cases (show none = some r from h)
  | succ cB ft =>
   intro bB aT aJ h
   replace h : Df (tB cB) bB aT aJ = some r := h
   refine dX ch (fun hr ep dc bH => ?_)
   refine aL dc (fun fk dy dv bE => ?_)
   refine ws _ ?_
   refine aV h (fun bw h => ?_) (fun bw h => ?_)
   ·simp only [bw, ak.down]
    refine aY (dy _ (.inl ?_))
    refine aL dc (fun ev cQ cj di => ?_)
    refine bL cj (fun eU cq cw cR cr => ?_)
    obtain ⟨ag, ey, h⟩ := aF h
    obtain ⟨al, ee, h⟩ := aF h
    refine cN (bY [(0, .ao 1 ((List.set bB (Int.toNat aJ) ag).map bG)), (1, .int .i64 aT), (5, .int .i64 aJ)] (fun P ai => ?_) ?_)
    ·simp only [aN.down, simprocAttr, e0, lx, bG, ee, c3 ee, en, dZ]
     refine eC (wE aT _ ey) rfl rfl rfl rfl (.inl (by rfl)) ?_
     simp only [aN.down, simprocAttr, e0, lx, bG, ee, c3 ee, en, dZ]
     (try simp only [bh.down, simprocAttr, bG, ee, c3 ee, en, dZ] at ai ⊢); exact ai
    refine wr [(0, .ao 1 ((List.set bB (Int.toNat aJ) ag).map bG)), (1, .int .i64 (IntKind.i64.wrap (aT + 1))), (5, .int .i64 aJ)] ?_
    refine cq _ (cQ _ (.inl ?_))
    refine wr [(0, .ao 1 ((List.set bB (Int.toNat aJ) ag).map bG)), (1, .int .i64 (IntKind.i64.wrap (aT + 1))), (5, .int .i64 (IntKind.i64.wrap (aJ + 1)))] ?_
    exact ep _ (.inr ⟨_, bu rfl, ft (List.set bB (Int.toNat aJ) ag) (IntKind.i64.wrap (aT + 1)) (IntKind.i64.wrap (aJ + 1)) h⟩)
   ·simp only [bw, ak.down]
    refine dV (bE 0 _ (bH 0 _ (bt _ (bU _ (.inl ?_)))))
    refine ws _ ?_
    exact aE (an _ (.inl (oc [.int .i64 aT] rfl (by cases jK h; rfl) (by decide) (o4 (o5 (by cases jK h; rfl) rfl rfl rfl (m0 (o6)))))))
 obtain ⟨n, h⟩ := dQ h
 exact dW (.inr ⟨_, bu rfl, fA n a0 U 0 h⟩)
theorem axX (wh : List bk) (tC : List dq) (rV : List cc) (qJ : List (List UInt8)) (p0 : List (List UInt8)) (U : Int) (r : Int × (List bk) × (List dq) × (List cc) × (List (List UInt8)) × (List (List UInt8))) (h : Dg wh tC rV qJ p0 U = some r) : bm aD 16 [.agg [.ao 3 (wh.map ff), .ao 2 (tC.map fq), .ao 3 (rV.map bx), .ao 1 (qJ.map bG), .ao 1 (p0.map bG)], .int .i64 U] (.int .i64 r.1) [.agg [.ao 3 (r.2.1.map ff), .ao 2 (r.2.2.1.map fq), .ao 3 (r.2.2.2.1.map bx), .ao 1 (r.2.2.2.2.1.map bG), .ao 1 (r.2.2.2.2.2.map bG)], .hole] := by
 refine bX [0] [.tmp 4] Tryz.func16 tM (fun bT an bS => ?_)
 refine cN (bY [(0, .agg [.ao 3 (wh.map ff), .ao 2 (tC.map fq), .ao 3 (rV.map bx), .ao 1 (qJ.map bG), .ao 1 (p0.map bG)]), (1, .int .i64 U), (2, .ad 0 0)] (fun P ai => ?_) ?_)
 ·simp only [aN.down, simprocAttr, kH.down, jb, jd, I.ed, jc]
  (try simp only [bh.down, simprocAttr, wv.down, jb, jd, I.ed, jc] at ai ⊢); exact ai
 obtain ⟨ag, aW, h⟩ := aF h
 refine cN (bY [(0, .agg [.ao 3 (ag.2.map ff), .ao 2 (tC.map fq), .ao 3 (rV.map bx), .ao 1 (qJ.map bG), .ao 1 (p0.map bG)]), (1, .int .i64 ag.1), (2, .ad 0 0)] (fun P ai => ?_) ?_)
 ·simp only [aN.down, simprocAttr, kH.down, jb, jd, I.ed, jc]
  refine A3 [⟨.h 0 [0], true, _, _⟩, ⟨.int .i64 U, false, _, .hole⟩] (axU wh U _ aW) rfl rfl rfl (by simp only [aN.down, simprocAttr, kH.down, jb, jd, I.ed, jc, mZ, lq, ja, fV, fW, fX, dj, or_true, true_or, @bR _ ff bC (fun _ => qM _)]) rfl rfl (.inl rfl) (by simp only [aN.down, simprocAttr, kH.down, jb, jd, I.ed, jc, rH, ja, vx, Bool.and_self, Bool.not_false, Bool.and_true]) ?_
  simp only [aN.down, simprocAttr, kH.down, jb, jd, I.ed, jc, lr, rH, ja, eq_self, Bool.and_self]
  (try simp only [bh.down, simprocAttr, wv.down, jb, jd, I.ed, jc] at ai ⊢); exact ai
 obtain ⟨al, cZ, h⟩ := aF h
 refine cN (bY [(0, .agg [.ao 3 (ag.2.map ff), .ao 2 (al.2.map fq), .ao 3 (rV.map bx), .ao 1 (qJ.map bG), .ao 1 (p0.map bG)]), (1, .int .i64 al.1), (2, .ad 0 0)] (fun P ai => ?_) ?_)
 ·simp only [aN.down, simprocAttr, kH.down, jb, jd, I.ed, jc]
  refine A3 [⟨.h 0 [1], true, _, _⟩, ⟨.int .i64 ag.1, false, _, .hole⟩] (axV tC ag.1 _ cZ) rfl rfl rfl (by simp only [aN.down, simprocAttr, kH.down, jb, jd, I.ed, jc, mZ, lq, ja, fV, fW, fX, dj, or_true, true_or, @bR _ fq fp (fun _ => qN _)]) rfl rfl (.inl rfl) (by simp only [aN.down, simprocAttr, kH.down, jb, jd, I.ed, jc, rH, ja, vx, Bool.and_self, Bool.not_false, Bool.and_true]) ?_
  simp only [aN.down, simprocAttr, kH.down, jb, jd, I.ed, jc, lr, rH, ja, eq_self, Bool.and_self]
  (try simp only [bh.down, simprocAttr, wv.down, jb, jd, I.ed, jc] at ai ⊢); exact ai
 obtain ⟨aS, bV, h⟩ := aF h
 refine cN (bY [(0, .agg [.ao 3 (ag.2.map ff), .ao 2 (al.2.map fq), .ao 3 (aS.2.map bx), .ao 1 (qJ.map bG), .ao 1 (p0.map bG)]), (1, .int .i64 aS.1), (2, .ad 0 0)] (fun P ai => ?_) ?_)
 ·simp only [aN.down, simprocAttr, kH.down, jb, jd, I.ed, jc]
  refine A3 [⟨.h 0 [2], true, _, _⟩, ⟨.int .i64 al.1, false, _, .hole⟩] (axW rV al.1 _ bV) rfl rfl rfl (by simp only [aN.down, simprocAttr, kH.down, jb, jd, I.ed, jc, mZ, lq, ja, fV, fW, fX, dj, or_true, true_or, @bR _ bx bx (fun _ => l9 _)]) rfl rfl (.inl rfl) (by simp only [aN.down, simprocAttr, kH.down, jb, jd, I.ed, jc, rH, ja, vx, Bool.and_self, Bool.not_false, Bool.and_true]) ?_
  simp only [aN.down, simprocAttr, kH.down, jb, jd, I.ed, jc, lr, rH, ja, eq_self, Bool.and_self]
  (try simp only [bh.down, simprocAttr, wv.down, jb, jd, I.ed, jc] at ai ⊢); exact ai
 obtain ⟨bs, kv, h⟩ := aF h
 refine cN (bY [(0, .agg [.ao 3 (ag.2.map ff), .ao 2 (al.2.map fq), .ao 3 (aS.2.map bx), .ao 1 (bs.2.map bG), .ao 1 (p0.map bG)]), (1, .int .i64 bs.1), (2, .ad 0 0)] (fun P ai => ?_) ?_)
 ·simp only [aN.down, simprocAttr, kH.down, jb, jd, I.ed, jc]
  refine A3 [⟨.h 0 [3], true, _, _⟩, ⟨.int .i64 aS.1, false, _, .hole⟩] (Pg qJ aS.1 _ kv) rfl rfl rfl (by simp only [aN.down, simprocAttr, kH.down, jb, jd, I.ed, jc, mZ, lq, ja, fV, fW, fX, dj, or_true, true_or, @bR _ bG bG (fun _ => ie _)]) rfl rfl (.inl rfl) (by simp only [aN.down, simprocAttr, kH.down, jb, jd, I.ed, jc, rH, ja, vx, Bool.and_self, Bool.not_false, Bool.and_true]) ?_
  simp only [aN.down, simprocAttr, kH.down, jb, jd, I.ed, jc, lr, rH, ja, eq_self, Bool.and_self]
  (try simp only [bh.down, simprocAttr, wv.down, jb, jd, I.ed, jc] at ai ⊢); exact ai
 obtain ⟨bH, nU, h⟩ := aF h
 refine cN (bY [(0, .agg [.ao 3 (ag.2.map ff), .ao 2 (al.2.map fq), .ao 3 (aS.2.map bx), .ao 1 (bs.2.map bG), .ao 1 (bH.2.map bG)]), (1, .int .i64 bH.1)] (fun P ai => ?_) ?_)
 ·simp only [aN.down, simprocAttr, kH.down, jb, jd, I.ed, jc]
  refine od [⟨.h 0 [4], true, _, _⟩, ⟨.int .i64 bs.1, false, _, .hole⟩] (Pg p0 bs.1 _ nU) rfl rfl rfl (by simp only [aN.down, simprocAttr, kH.down, jb, jd, I.ed, jc, mZ, lq, ja, fV, fW, fX, dj, or_true, true_or, @bR _ bG bG (fun _ => ie _)]) rfl rfl (.inl rfl) ?_
  simp only [aN.down, simprocAttr, kH.down, jb, jd, I.ed, jc, lr]
  (try simp only [bh.down, simprocAttr, wv.down, jb, jd, I.ed, jc] at ai ⊢); exact ai
 refine ws _ ?_
 exact aE (an _ (.inl (oc [.int .i64 bH.1] rfl (by cases jK h; rfl) (by decide) (o4 (o5 (by cases jK h; rfl) rfl rfl rfl (m0 (o6)))))))
theorem Ph (a0 : List bM) (U : Int) (r : Int × (List bM)) (h : zg a0 U = some r) : bm aD 17 [.ao 3 (a0.map cC), .int .i64 U] (.int .i64 r.1) [.ao 3 (r.2.map cC), .hole] := by
 refine bX [0] [.tmp 4] Tryz.func17 tN (fun bT an bS => ?_)
 refine ws _ ?_
 refine aL an (fun ef bU bj al => ?_)
 refine ws _ ?_
 refine bL bj (fun eb eI ch bt bs => ?_)
 have fA : ∀ (n : Nat) (bB : List bM) (aT : Int) (aJ : Int), tD n bB aT aJ = some r → dE aD OD eb (aa [(0, .ao 3 (bB.map cC)), (1, .int .i64 aT), (5, .int .i64 aJ)]) := by
  intro cB
  induction cB with
  | zero => intro bB aT aJ h; cases (show none = some r from h)
  | succ cB ft =>
   intro bB aT aJ h
   replace h : Dh (tD cB) bB aT aJ = some r := h
   refine dX ch (fun hr ep dc bH => ?_)
   refine aL dc (fun fk dy dv bE => ?_)
   refine ws _ ?_
   refine aV h (fun bw h => ?_) (fun bw h => ?_)
   ·simp only [bw, ak.down]
    refine aY (dy _ (.inl ?_))
    refine aL dc (fun ev cQ cj di => ?_)
    refine bL cj (fun eU cq cw cR cr => ?_)
    obtain ⟨ag, ey, h⟩ := aF h
    refine cN (bY [(0, .ao 3 ((List.set bB (Int.toNat aJ) (bM.mk aT ag.Part ag.cF)).map cC)), (1, .int .i64 aT), (5, .int .i64 aJ)] (fun P ai => ?_) ?_)
    ·simp only [aN.down, simprocAttr, zB.down, ey, c3 ey, en, dZ]
     (try simp only [bh.down, simprocAttr, mF.down, ey, c3 ey, en, dZ] at ai ⊢); exact ai
    refine ws [(0, .ao 3 ((List.set bB (Int.toNat aJ) (bM.mk aT ag.Part ag.cF)).map cC)), (1, .int .i64 (IntKind.i64.wrap (aT + 1))), (5, .int .i64 aJ)] ?_
    obtain ⟨al, eX, h⟩ := aF h
    refine cN (bY [(0, .ao 3 ((List.set (List.set bB (Int.toNat aJ) (bM.mk aT ag.Part ag.cF)) (Int.toNat aJ) (bM.mk al.dG (IntKind.i64.wrap (aT + 1)) al.cF)).map cC)), (1, .int .i64 (IntKind.i64.wrap (aT + 1))), (5, .int .i64 aJ)] (fun P ai => ?_) ?_)
    ·simp only [aN.down, simprocAttr, zB.down, eX, c3 eX, en, dZ]
     (try simp only [bh.down, simprocAttr, mF.down, eX, c3 eX, en, dZ] at ai ⊢); exact ai
    refine ws [(0, .ao 3 ((List.set (List.set bB (Int.toNat aJ) (bM.mk aT ag.Part ag.cF)) (Int.toNat aJ) (bM.mk al.dG (IntKind.i64.wrap (aT + 1)) al.cF)).map cC)), (1, .int .i64 (IntKind.i64.wrap ((IntKind.i64.wrap (aT + 1)) + 1))), (5, .int .i64 aJ)] ?_
    obtain ⟨aS, e6, h⟩ := aF h
    obtain ⟨bs, g2, h⟩ := aF h
    refine kk (bY [(0, .ao 3 ((List.set (List.set (List.set bB (Int.toNat aJ) (bM.mk aT ag.Part ag.cF)) (Int.toNat aJ) (bM.mk al.dG (IntKind.i64.wrap (aT + 1)) al.cF)) (Int.toNat aJ) (bM.mk aS.dG aS.Part bs.2)).map cC)), (1, .int .i64 bs.1), (5, .int .i64 aJ)] (fun P ai => ?_) ?_)
    ·simp only [aN.down, simprocAttr, zB.down, e6, c3 e6]
     refine od [⟨.h 0 [Int.toNat aJ, 2], true, _, _⟩, ⟨.int .i64 (IntKind.i64.wrap ((IntKind.i64.wrap (aT + 1)) + 1)), false, _, .hole⟩] (HU aS.cF (IntKind.i64.wrap ((IntKind.i64.wrap (aT + 1)) + 1)) _ g2) rfl rfl rfl (by simp only [aN.down, simprocAttr, zB.down, e6, c3 e6, lq, ja, fV, fW, fX, dj, or_true, true_or, @bR _ a1 a1 (fun _ => j6 _)]) rfl rfl (.inl rfl) ?_
     simp only [aN.down, simprocAttr, zB.down, e6, c3 e6, lr, (xY (c3 e6)), xZ]
     (try simp only [bh.down, simprocAttr, mF.down, e6, c3 e6] at ai ⊢); exact ai
    refine cq _ (cQ _ (.inl ?_))
    refine wr [(0, .ao 3 ((List.set (List.set (List.set bB (Int.toNat aJ) (bM.mk aT ag.Part ag.cF)) (Int.toNat aJ) (bM.mk al.dG (IntKind.i64.wrap (aT + 1)) al.cF)) (Int.toNat aJ) (bM.mk aS.dG aS.Part bs.2)).map cC)), (1, .int .i64 bs.1), (5, .int .i64 (IntKind.i64.wrap (aJ + 1)))] ?_
    exact ep _ (.inr ⟨_, bu rfl, ft (List.set (List.set (List.set bB (Int.toNat aJ) (bM.mk aT ag.Part ag.cF)) (Int.toNat aJ) (bM.mk al.dG (IntKind.i64.wrap (aT + 1)) al.cF)) (Int.toNat aJ) (bM.mk aS.dG aS.Part bs.2)) bs.1 (IntKind.i64.wrap (aJ + 1)) h⟩)
   ·simp only [bw, ak.down]
    refine dV (bE 0 _ (bH 0 _ (bt _ (bU _ (.inl ?_)))))
    refine ws _ ?_
    exact aE (an _ (.inl (oc [.int .i64 aT] rfl (by cases jK h; rfl) (by decide) (o4 (o5 (by cases jK h; rfl) rfl rfl rfl (m0 (o6)))))))
 obtain ⟨n, h⟩ := dQ h
 exact dW (.inr ⟨_, bu rfl, fA n a0 U 0 h⟩)
theorem axY (a0 : List Int) (U : Int) (r : Int) (h : Dj a0 U = some r) : bm aD 60 [.slice (a0.map a1), .int .i64 U] (.int .i64 r) [] := by
 refine bX [0] [.tmp 4] Tryz.func60 atY (fun bT an bS => ?_)
 refine ws _ ?_
 refine aL an (fun ef bU bj al => ?_)
 refine ws _ ?_
 refine bL bj (fun eb eI ch bt bs => ?_)
 have fA : ∀ (n : Nat) (aT : Int) (aJ : Int), tE a0 n aT aJ = some r → dE aD OE eb (aa [(0, .slice (a0.map a1)), (1, .int .i64 aT), (5, .int .i64 aJ)]) := by
  intro cB
  induction cB with
  | zero => intro aT aJ h; cases (show none = some r from h)
  | succ cB ft =>
   intro aT aJ h
   replace h : Di (tE a0 cB) a0 aT aJ = some r := h
   refine dX ch (fun hr ep dc bH => ?_)
   refine aL dc (fun fk dy dv bE => ?_)
   refine ws _ ?_
   refine aV h (fun bw h => ?_) (fun bw h => ?_)
   ·simp only [bw, ak.down]
    refine aY (dy _ (.inl ?_))
    refine aL dc (fun ev cQ cj di => ?_)
    refine bL cj (fun eU cq cw cR cr => ?_)
    refine aL cw (fun ir e_ gf fe => ?_)
    obtain ⟨ag, ee, h⟩ := aF h
    refine h2 ee _ ?_
    refine aV h (fun eD h => ?_) (fun eD h => ?_)
    ·simp only [eD, ak.down]
     refine ws _ ?_
     exact aE (gf _ (.inl (aG [.int .i64 (-1)])))
    ·simp only [eD, ak.down]
     refine aY (e_ _ (.inl ?_))
     refine wr _ ?_
     refine cq _ (cQ _ (.inl ?_))
     refine wr _ ?_
     exact ep _ (.inr ⟨_, bu rfl, ft (IntKind.i64.wrap (aT + 1)) (IntKind.i64.wrap (aJ + 1)) h⟩)
   ·simp only [bw, ak.down]
    refine dV (bE 0 _ (bH 0 _ (bt _ (bU _ (.inl ?_)))))
    refine ws _ ?_
    exact aE (an _ (.inl (aG [.int .i64 aT])))
 obtain ⟨n, h⟩ := dQ h
 exact dW (.inr ⟨_, bu rfl, fA n U 0 h⟩)
theorem Pj (a0 : List bM) (U : Int) (r : Int) (h : zh a0 U = some r) : bm aD 18 [.slice (a0.map dF), .int .i64 U] (.int .i64 r) [] := by
 refine bX [0] [.tmp 4] Tryz.func18 auh (fun bT an bS => ?_)
 refine ws _ ?_
 refine aL an (fun ef bU bj al => ?_)
 refine ws _ ?_
 refine bL bj (fun eb eI ch bt bs => ?_)
 have fA : ∀ (n : Nat) (aT : Int) (aJ : Int), tF a0 n aT aJ = some r → dE aD OG eb (aa [(0, .slice (a0.map dF)), (1, .int .i64 aT), (5, .int .i64 aJ)]) := by
  intro cB
  induction cB with
  | zero => intro aT aJ h; cases (show none = some r from h)
  | succ cB ft =>
   intro aT aJ h
   replace h : Dk (tF a0 cB) a0 aT aJ = some r := h
   refine dX ch (fun hr ep dc bH => ?_)
   refine aL dc (fun fk dy dv bE => ?_)
   refine ws _ ?_
   refine aV h (fun bw h => ?_) (fun bw h => ?_)
   ·simp only [bw, ak.down]
    refine aY (dy _ (.inl ?_))
    refine aL dc (fun ev cQ cj di => ?_)
    refine bL cj (fun eU cq cw cR cr => ?_)
    refine aL cw (fun ir e_ gf fe => ?_)
    obtain ⟨ag, ee, h⟩ := aF h
    refine h2 ee _ ?_
    refine aV h (fun eD h => ?_) (fun eD h => ?_)
    ·simp only [eD, ak.down]
     refine ws _ ?_
     exact aE (gf _ (.inl (aG [.int .i64 (-1)])))
    ·simp only [eD, ak.down]
     refine aY (e_ _ (.inl ?_))
     refine ws _ ?_
     refine aL cw (fun ox jU jg lR => ?_)
     refine h2 ee _ ?_
     refine aV h (fun eV h => ?_) (fun eV h => ?_)
     ·simp only [eV, ak.down]
      refine ws _ ?_
      exact aE (jg _ (.inl (aG [.int .i64 (-1)])))
     ·simp only [eV, ak.down]
      refine aY (jU _ (.inl ?_))
      refine ws _ ?_
      obtain ⟨al, kI, h⟩ := aF h
      refine h3 ee (axY ag.cF (IntKind.i64.wrap ((IntKind.i64.wrap (aT + 1)) + 1)) _ kI) _ ?_
      refine ws _ ?_
      refine aV h (fun jh h => ?_) (fun jh h => ?_)
      ·simp only [jh, ak.down]
       refine ws _ ?_
       exact aE (cw _ (.inl (aG [.int .i64 (-1)])))
      ·simp only [jh, ak.down]
       refine aY (cq _ (cQ _ (.inl ?_)))
       refine wr _ ?_
       exact ep _ (.inr ⟨_, bu rfl, ft al (IntKind.i64.wrap (aJ + 1)) h⟩)
   ·simp only [bw, ak.down]
    refine dV (bE 0 _ (bH 0 _ (bt _ (bU _ (.inl ?_)))))
    refine ws _ ?_
    exact aE (an _ (.inl (aG [.int .i64 aT])))
 obtain ⟨n, h⟩ := dQ h
 exact dW (.inr ⟨_, bu rfl, fA n U 0 h⟩)
theorem axZ (a0 : k5) (U : List iG) (a7 : List Int) (r : Bool) (h : G2 a0 U a7 = some r) : bm aD 5 [jv a0, .slice (U.map gM), .slice (a7.map a1)] (.bool r) [] := by
 refine bX [0, 1, 2] [.tmp 6] Tryz.func5 zw (fun bT an bS => ?_)
 refine ws _ ?_
 refine aL an (fun ef bU bj al => ?_)
 refine ws _ ?_
 refine aV h (fun bt h => ?_) (fun bt h => ?_)
 ·simp only [bt, ak.down]
  refine ws _ ?_
  exact aE (bj _ (.inl (aG [.bool true])))
 ·simp only [bt, ak.down]
  refine aY (bU _ (.inl ?_))
  refine ws _ ?_
  obtain ⟨ag, hv, h⟩ := aF h
  refine dC (avv a0 1048576 _ hv) _ ?_
  refine aL an (fun ev cQ cj di => ?_)
  refine ws _ ?_
  refine aV h (fun iT h => ?_) (fun iT h => ?_)
  ·simp only [iT, ak.down]
   refine ws _ ?_
   exact aE (cj _ (.inl (aG [.bool true])))
  ·simp only [iT, ak.down]
   refine aY (cQ _ (.inl ?_))
   obtain ⟨al, ei, h⟩ := aF h
   refine dC (avy U ag _ ei) _ ?_
   refine aL an (fun lS hE hj ju => ?_)
   refine ws _ ?_
   refine aV h (fun hJ h => ?_) (fun hJ h => ?_)
   ·simp only [hJ, ak.down]
    refine ws _ ?_
    exact aE (hj _ (.inl (aG [.bool true])))
   ·simp only [hJ, ak.down]
    refine aY (hE _ (.inl ?_))
    obtain ⟨aS, iW, h⟩ := aF h
    obtain ⟨bs, na, h⟩ := aF h
    obtain ⟨bH, hP, h⟩ := aF h
    obtain ⟨bE, kI, h⟩ := aF h
    refine cN (bY [(1, .slice (U.map gM)), (2, .slice (a7.map a1)), (3, .bb (jv a0)), (8, .ao 3 (bE.1.map cC)), (9, .int .i64 bE.2)] (fun P ai => ?_) ?_)
    ·simp only [aN.down, simprocAttr, ow.down]
     refine eC (DD a0 _ iW) rfl rfl rfl rfl (.inl (by rfl)) ?_
     simp only [aN.down, simprocAttr, ow.down]
     refine eC (DE U _ na) rfl rfl rfl rfl (.inl (by rfl)) ?_
     simp only [aN.down, simprocAttr, ow.down]
     refine eC (wy a7 _ hP) rfl rfl rfl rfl (.inl (by rfl)) ?_
     simp only [aN.down, simprocAttr, ow.down]
     refine eC (awK aS bs bH _ kI) rfl rfl (by simp only [aN.down, simprocAttr, ow.down, fV, fW, fX, dj, @bR _ ff bC (fun _ => qM _), @bR _ fq fp (fun _ => qN _), @bR _ bx bx (fun _ => l9 _), @bR _ bG bG (fun _ => ie _), @bR _ bG bG (fun _ => ie _), @bR _ cC dF (fun _ => ko _), @bR _ a1 a1 (fun _ => j6 _)] <;> rfl) rfl (.inr (by simp only [I.de, I.hT, @kC _ cC (fun _ => Hd _), Bool.and_self])) ?_
     simp only [aN.down, simprocAttr, ow.down]
     (try simp only [bh.down, simprocAttr, jR.down] at ai ⊢); exact ai
    obtain ⟨cP, lA, h⟩ := aF h
    refine dC (DD a0 _ lA) _ ?_
    obtain ⟨e9, tT, h⟩ := aF h
    refine dC (DE U _ tT) _ ?_
    obtain ⟨di, HP, h⟩ := aF h
    refine dC (wy a7 _ HP) _ ?_
    obtain ⟨cr, ua, h⟩ := aF h
    refine cN (bY [(1, .slice (U.map gM)), (2, .slice (a7.map a1)), (3, .bb (jv a0)), (8, .ao 3 (bE.1.map cC)), (9, .int .i64 bE.2), (10, .bb (l_ cP)), (11, .ao 3 (e9.map cC)), (12, .ao 1 (di.map a1)), (13, .ao 3 (cr.1.map cC)), (14, .int .i64 cr.2)] (fun P ai => ?_) ?_)
    ·simp only [aN.down, simprocAttr, wx.down]
     refine eC (Pe cP e9 di _ ua) rfl rfl (by simp only [aN.down, simprocAttr, wx.down, fV, fW, fX, dj, @bR _ ff bC (fun _ => qM _), @bR _ fq fp (fun _ => qN _), @bR _ bx bx (fun _ => l9 _), @bR _ bG bG (fun _ => ie _), @bR _ bG bG (fun _ => ie _), @bR _ cC dF (fun _ => ko _), @bR _ a1 a1 (fun _ => j6 _)] <;> rfl) rfl (.inr (by simp only [I.de, I.hT, @kC _ cC (fun _ => Hd _), Bool.and_self])) ?_
     simp only [aN.down, simprocAttr, wx.down]
     (try simp only [bh.down, simprocAttr, jR.down] at ai ⊢); exact ai
    refine aL an (fun awf n32 HA awg => ?_)
    obtain ⟨fe, nc, h⟩ := aF h
    refine cN (bY [(1, .slice (U.map gM)), (2, .slice (a7.map a1)), (3, .bb (jv a0)), (8, .ao 3 (bE.1.map cC)), (9, .int .i64 bE.2), (10, .bb (l_ cP)), (11, .ao 3 (e9.map cC)), (12, .ao 1 (di.map a1)), (13, .ao 3 (cr.1.map cC)), (14, .int .i64 cr.2), (64, .bool ((!fe) || (cr.2 != bE.2)))] (fun P ai => ?_) ?_)
    ·rcases Bool.eq_false_or_eq_true (fe) with qU | qU
     ·simp only [aN.down, simprocAttr, jR.down, qU]
      refine eC (ub cr.1 bE.1 _ nc) rfl rfl (by simp only [aN.down, simprocAttr, jR.down, qU, fV, fW, fX, dj, @bR _ cC dF (fun _ => ko _), @bR _ cC dF (fun _ => ko _)] <;> rfl) rfl (.inr (by rfl)) ?_
      simp only [aN.down, simprocAttr, jR.down, qU]
      (try simp only [bh.down, simprocAttr, jR.down, qU] at ai ⊢); exact ai
     ·simp only [aN.down, simprocAttr, jR.down, qU]
      refine eC (ub cr.1 bE.1 _ nc) rfl rfl (by simp only [aN.down, simprocAttr, jR.down, qU, fV, fW, fX, dj, @bR _ cC dF (fun _ => ko _), @bR _ cC dF (fun _ => ko _)] <;> rfl) rfl (.inr (by rfl)) ?_
      simp only [aN.down, simprocAttr, jR.down, qU]
      (try simp only [bh.down, simprocAttr, jR.down, qU] at ai ⊢); exact ai
    refine aV h (fun ph h => ?_) (fun ph h => ?_)
    ·simp only [ph, ak.down]
     refine ws _ ?_
     exact aE (HA _ (.inl (aG [.bool false])))
    ·simp only [ph, ak.down]
     refine aY (n32 _ (.inl ?_))
     refine aL an (fun OZ n38 HH awt => ?_)
     obtain ⟨je, HQ, h⟩ := aF h
     obtain ⟨jt, ax0, h⟩ := aF h
     refine gx rfl (gm [(1, .slice (U.map gM)), (2, .slice (a7.map a1)), (3, .bb (jv a0)), (8, .ao 3 (bE.1.map cC)), (9, .int .i64 bE.2), (10, .bb (l_ cP)), (11, .ao 3 (e9.map cC)), (12, .ao 1 (di.map a1)), (13, .ao 3 (cr.1.map cC)), (14, .int .i64 cr.2), (69, .bool (!jt))] (fun P ai => ?_) ?_)
     ·simp only [c7.down, simprocAttr, DC.down]
      refine h0 (DD a0 _ HQ) rfl rfl rfl rfl (.inl (by rfl)) ?_
      simp only [c7.down, simprocAttr, DC.down]
      refine h0 (axQ cP je _ ax0) rfl rfl (by simp only [c7.down, simprocAttr, DC.down, fV, fW, fX, dj, @bR _ ff bC (fun _ => qM _), @bR _ fq fp (fun _ => qN _), @bR _ bx bx (fun _ => l9 _), @bR _ bG bG (fun _ => ie _), @bR _ bG bG (fun _ => ie _), @bR _ ff bC (fun _ => qM _), @bR _ fq fp (fun _ => qN _), @bR _ bx bx (fun _ => l9 _), @bR _ bG bG (fun _ => ie _), @bR _ bG bG (fun _ => ie _)] <;> rfl) rfl (.inr (by rfl)) ?_
      simp only [c7.down, simprocAttr, DC.down]
      refine ⟨fY (by kernel_rfl), ?_⟩
      (try simp only [bh.down, simprocAttr, jR.down] at ai ⊢); exact ai
     refine aV h (fun qT h => ?_) (fun qT h => ?_)
     ·simp only [(cV qT), ak.down]
      refine ws _ ?_
      exact aE (HH _ (.inl (aG [.bool false])))
     ·simp only [(bn qT), ak.down]
      refine aY (n38 _ (.inl ?_))
      refine aL an (fun OW n44 DM HC => ?_)
      obtain ⟨ic, qR, h⟩ := aF h
      obtain ⟨ju, ax1, h⟩ := aF h
      refine cN (bY [(1, .slice (U.map gM)), (2, .slice (a7.map a1)), (3, .bb (jv a0)), (8, .ao 3 (bE.1.map cC)), (9, .int .i64 bE.2), (10, .bb (l_ cP)), (11, .ao 3 (e9.map cC)), (12, .ao 1 (di.map a1)), (13, .ao 3 (cr.1.map cC)), (14, .int .i64 cr.2), (74, .bool (!ju))] (fun P ai => ?_) ?_)
      ·simp only [aN.down, simprocAttr, jR.down]
       refine eC (DE U _ qR) rfl rfl rfl rfl (.inl (by rfl)) ?_
       simp only [aN.down, simprocAttr, jR.down]
       refine eC (ub e9 ic _ ax1) rfl rfl (by simp only [aN.down, simprocAttr, jR.down, fV, fW, fX, dj, @bR _ cC dF (fun _ => ko _), @bR _ cC dF (fun _ => ko _)] <;> rfl) rfl (.inr (by rfl)) ?_
       simp only [aN.down, simprocAttr, jR.down]
       (try simp only [bh.down, simprocAttr, jR.down] at ai ⊢); exact ai
      refine aV h (fun qS h => ?_) (fun qS h => ?_)
      ·simp only [(cV qS), ak.down]
       refine ws _ ?_
       exact aE (DM _ (.inl (aG [.bool false])))
      ·simp only [(bn qS), ak.down]
       refine aY (n44 _ (.inl ?_))
       refine aL an (fun aCT ax2 ax3 aCU => ?_)
       obtain ⟨nI, ax4, h⟩ := aF h
       obtain ⟨lR, ax5, h⟩ := aF h
       refine cN (bY [(1, .slice (U.map gM)), (2, .slice (a7.map a1)), (3, .bb (jv a0)), (8, .ao 3 (bE.1.map cC)), (9, .int .i64 bE.2), (10, .bb (l_ cP)), (11, .ao 3 (e9.map cC)), (12, .ao 1 (di.map a1)), (13, .ao 3 (cr.1.map cC)), (14, .int .i64 cr.2), (79, .bool (!lR))] (fun P ai => ?_) ?_)
       ·simp only [aN.down, simprocAttr, jR.down]
        refine eC (wy a7 _ ax4) rfl rfl rfl rfl (.inl (by rfl)) ?_
        simp only [aN.down, simprocAttr, jR.down]
        refine eC (HT di nI _ ax5) rfl rfl (by simp only [aN.down, simprocAttr, jR.down, fV, fW, fX, dj, @bR _ a1 a1 (fun _ => j6 _), @bR _ a1 a1 (fun _ => j6 _)] <;> rfl) rfl (.inr (by rfl)) ?_
        simp only [aN.down, simprocAttr, jR.down]
        (try simp only [bh.down, simprocAttr, jR.down] at ai ⊢); exact ai
       refine aV h (fun tV h => ?_) (fun tV h => ?_)
       ·simp only [(cV tV), ak.down]
        refine ws _ ?_
        exact aE (ax3 _ (.inl (aG [.bool false])))
       ·simp only [(bn tV), ak.down]
        refine aY (ax2 _ (.inl ?_))
        refine ws _ ?_
        obtain ⟨qK, ax6, h⟩ := aF h
        refine cN (bY [(1, .slice (U.map gM)), (2, .slice (a7.map a1)), (3, .bb (jv a0)), (8, .ao 3 (bE.1.map cC)), (9, .int .i64 bE.2), (11, .ao 3 (e9.map cC)), (12, .ao 1 (di.map a1)), (13, .ao 3 (cr.1.map cC)), (14, .int .i64 cr.2), (15, .int .i64 qK.1)] (fun P ai => ?_) ?_)
        ·simp only [aN.down, simprocAttr, wx.down]
         refine od [⟨.h 10 [0], true, _, _⟩, ⟨.int .i64 1, false, _, .hole⟩] (axX cP.eH cP.c_ cP.hH cP.hA cP.hB 1 _ ax6) rfl rfl rfl (by simp only [aN.down, simprocAttr, wx.down, mZ, lq, ja, fV, fW, fX, dj, or_true, true_or, @bR _ ff bC (fun _ => qM _), @bR _ fq fp (fun _ => qN _), @bR _ bx bx (fun _ => l9 _), @bR _ bG bG (fun _ => ie _), @bR _ bG bG (fun _ => ie _)]) rfl rfl (.inl rfl) ?_
         simp only [aN.down, simprocAttr, wx.down, lr]
         (try simp only [bh.down, simprocAttr, jR.down] at ai ⊢); exact ai
        obtain ⟨qL, ax7, h⟩ := aF h
        refine cN (bY [(1, .slice (U.map gM)), (2, .slice (a7.map a1)), (3, .bb (jv a0)), (8, .ao 3 (bE.1.map cC)), (9, .int .i64 bE.2), (12, .ao 1 (di.map a1)), (13, .ao 3 (cr.1.map cC)), (14, .int .i64 cr.2), (15, .int .i64 qL.1)] (fun P ai => ?_) ?_)
        ·simp only [aN.down, simprocAttr, jH.down]
         refine od [⟨.h 11 [], true, _, _⟩, ⟨.int .i64 qK.1, false, _, .hole⟩] (Ph e9 qK.1 _ ax7) rfl rfl rfl (by simp only [aN.down, simprocAttr, jH.down, mZ, lq, ja, fV, fW, fX, dj, or_true, true_or, @bR _ cC dF (fun _ => ko _)]) rfl rfl (.inl rfl) ?_
         simp only [aN.down, simprocAttr, jH.down, lr]
         (try simp only [bh.down, simprocAttr, jH.down] at ai ⊢); exact ai
        obtain ⟨zi, ax8, h⟩ := aF h
        refine cN (bY [(1, .slice (U.map gM)), (2, .slice (a7.map a1)), (3, .bb (jv a0)), (8, .ao 3 (bE.1.map cC)), (9, .int .i64 bE.2), (13, .ao 3 (cr.1.map cC)), (14, .int .i64 cr.2), (15, .int .i64 zi.1)] (fun P ai => ?_) ?_)
        ·simp only [aN.down, simprocAttr, jH.down]
         refine od [⟨.h 12 [], true, _, _⟩, ⟨.int .i64 qL.1, false, _, .hole⟩] (HU di qL.1 _ ax8) rfl rfl rfl (by simp only [aN.down, simprocAttr, jH.down, mZ, lq, ja, fV, fW, fX, dj, or_true, true_or, @bR _ a1 a1 (fun _ => j6 _)]) rfl rfl (.inl rfl) ?_
         simp only [aN.down, simprocAttr, jH.down, lr]
         (try simp only [bh.down, simprocAttr, jH.down] at ai ⊢); exact ai
        refine aL an (fun aCV n63 Pk aCW => ?_)
        rcases fm h with ⟨nb, h⟩ | ⟨nb, h⟩
        ·refine h2 nb _ ?_
         refine iZ rfl ?_
         refine ws _ ?_
         exact aE (Pk _ (.inl (aG [.bool false])))
        ·obtain ⟨wi, Pl, h⟩ := aF h
         refine cN (bY [(1, .slice (U.map gM)), (2, .slice (a7.map a1)), (3, .bb (jv a0)), (8, .ao 3 (bE.1.map cC)), (9, .int .i64 bE.2), (13, .ao 3 (cr.1.map cC)), (101, .bool ((!wi) || (cr.2 != bE.2)))] (fun P ai => ?_) ?_)
         ·rcases Bool.eq_false_or_eq_true (wi) with qV | qV
          ·simp only [aN.down, simprocAttr, jH.down, nb, qV]
           refine hN (ub cr.1 bE.1 _ Pl) rfl rfl (by simp only [aN.down, simprocAttr, jH.down, nb, qV, fV, fW, fX, dj, @bR _ cC dF (fun _ => ko _), @bR _ cC dF (fun _ => ko _)] <;> rfl) rfl (.inr (by rfl)) ?_
           simp only [aN.down, simprocAttr, jH.down, nb, qV]
           (try simp only [bh.down, simprocAttr, jH.down, nb, qV] at ai ⊢); exact ai
          ·simp only [aN.down, simprocAttr, jH.down, nb, qV]
           refine hN (ub cr.1 bE.1 _ Pl) rfl rfl (by simp only [aN.down, simprocAttr, jH.down, nb, qV, fV, fW, fX, dj, @bR _ cC dF (fun _ => ko _), @bR _ cC dF (fun _ => ko _)] <;> rfl) rfl (.inr (by rfl)) ?_
           simp only [aN.down, simprocAttr, jH.down, nb, qV]
           (try simp only [bh.down, simprocAttr, jH.down, nb, qV] at ai ⊢); exact ai
         refine aV h (fun HV h => ?_) (fun HV h => ?_)
         ·simp only [HV, ak.down]
          refine ws _ ?_
          exact aE (Pk _ (.inl (aG [.bool false])))
         ·simp only [HV, ak.down]
          refine aY (n63 _ (.inl ?_))
          refine ws _ ?_
          obtain ⟨j5, ax9, h⟩ := aF h
          refine cN (bY [(1, .slice (U.map gM)), (2, .slice (a7.map a1)), (3, .bb (jv a0)), (8, .ao 3 (bE.1.map cC)), (9, .int .i64 bE.2), (13, .ao 3 (j5.2.map cC)), (16, .int .i64 j5.1)] (fun P ai => ?_) ?_)
          ·simp only [aN.down, simprocAttr, jH.down]
           refine od [⟨.h 13 [], true, _, _⟩, ⟨.int .i64 1, false, _, .hole⟩] (Ph cr.1 1 _ ax9) rfl rfl rfl (by simp only [aN.down, simprocAttr, jH.down, mZ, lq, ja, fV, fW, fX, dj, or_true, true_or, @bR _ cC dF (fun _ => ko _)]) rfl rfl (.inl rfl) ?_
           simp only [aN.down, simprocAttr, jH.down, lr]
           (try simp only [bh.down, simprocAttr, jH.down] at ai ⊢); exact ai
          refine ws _ ?_
          obtain ⟨Dl, ax_, h⟩ := aF h
          refine cN (bY [(1, .slice (U.map gM)), (2, .slice (a7.map a1)), (3, .bb (jv a0)), (8, .ao 3 (bE.1.map cC)), (9, .int .i64 bE.2), (13, .ao 3 (j5.2.map cC)), (16, .int .i64 j5.1), (17, .int .i64 Dl)] (fun P ai => ?_) ?_)
          ·simp only [aN.down, simprocAttr, jH.down]
           refine eC (Pj j5.2 1 _ ax_) rfl rfl (by simp only [aN.down, simprocAttr, jH.down, fV, fW, fX, dj, @bR _ cC dF (fun _ => ko _)] <;> rfl) rfl (.inr (by rfl)) ?_
           simp only [aN.down, simprocAttr, jH.down]
           (try simp only [bh.down, simprocAttr, jH.down] at ai ⊢); exact ai
          refine aL an (fun aCX n77 aya aCY => ?_)
          refine ws _ ?_
          refine aV h (fun HW h => ?_) (fun HW h => ?_)
          ·simp only [HW, ak.down]
           refine ws _ ?_
           exact aE (aya _ (.inl (aG [.bool false])))
          ·simp only [HW, ak.down]
           refine aY (n77 _ (.inl ?_))
           refine aL an (fun aCZ n81 ayb aC0 => ?_)
           refine ws _ ?_
           refine aV h (fun HX h => ?_) (fun HX h => ?_)
           ·simp only [HX, ak.down]
            refine ws _ ?_
            exact aE (ayb _ (.inl (aG [.bool false])))
           ·simp only [HX, ak.down]
            refine aY (n81 _ (.inl ?_))
            obtain ⟨G3, ayc, h⟩ := aF h
            obtain ⟨zj, ayd, h⟩ := aF h
            obtain ⟨Dm, aye, h⟩ := aF h
            obtain ⟨pa, ayf, h⟩ := aF h
            refine cN (bY [(8, .ao 3 (bE.1.map cC)), (9, .int .i64 bE.2), (13, .ao 3 (j5.2.map cC)), (16, .int .i64 j5.1), (18, .ao 3 (pa.1.map cC)), (19, .int .i64 pa.2)] (fun P ai => ?_) ?_)
            ·simp only [aN.down, simprocAttr, ow.down]
             refine eC (DD a0 _ ayc) rfl rfl rfl rfl (.inl (by rfl)) ?_
             simp only [aN.down, simprocAttr, ow.down]
             refine eC (DE U _ ayd) rfl rfl rfl rfl (.inl (by rfl)) ?_
             simp only [aN.down, simprocAttr, ow.down]
             refine eC (wy a7 _ aye) rfl rfl rfl rfl (.inl (by rfl)) ?_
             simp only [aN.down, simprocAttr, ow.down]
             refine eC (Pe G3 zj Dm _ ayf) rfl rfl (by simp only [aN.down, simprocAttr, ow.down, fV, fW, fX, dj, @bR _ ff bC (fun _ => qM _), @bR _ fq fp (fun _ => qN _), @bR _ bx bx (fun _ => l9 _), @bR _ bG bG (fun _ => ie _), @bR _ bG bG (fun _ => ie _), @bR _ cC dF (fun _ => ko _), @bR _ a1 a1 (fun _ => j6 _)] <;> rfl) rfl (.inr (by simp only [I.de, I.hT, @kC _ cC (fun _ => Hd _), Bool.and_self])) ?_
             simp only [aN.down, simprocAttr, ow.down]
             (try simp only [bh.down, simprocAttr, jR.down] at ai ⊢); exact ai
            refine aL an (fun aC1 n90 ayg aC2 => ?_)
            obtain ⟨tG, Pm, h⟩ := aF h
            refine cN (bY [(13, .ao 3 (j5.2.map cC)), (16, .int .i64 j5.1), (131, .bool ((!tG) || (pa.2 != bE.2)))] (fun P ai => ?_) ?_)
            ·rcases Bool.eq_false_or_eq_true (tG) with pb | pb
             ·simp only [aN.down, simprocAttr, mF.down, pb]
              refine eC (ub pa.1 bE.1 _ Pm) rfl rfl (by simp only [aN.down, simprocAttr, mF.down, pb, fV, fW, fX, dj, @bR _ cC dF (fun _ => ko _), @bR _ cC dF (fun _ => ko _)] <;> rfl) rfl (.inr (by rfl)) ?_
              simp only [aN.down, simprocAttr, mF.down, pb]
              (try simp only [bh.down, simprocAttr, mF.down, pb] at ai ⊢); exact ai
             ·simp only [aN.down, simprocAttr, mF.down, pb]
              refine eC (ub pa.1 bE.1 _ Pm) rfl rfl (by simp only [aN.down, simprocAttr, mF.down, pb, fV, fW, fX, dj, @bR _ cC dF (fun _ => ko _), @bR _ cC dF (fun _ => ko _)] <;> rfl) rfl (.inr (by rfl)) ?_
              simp only [aN.down, simprocAttr, mF.down, pb]
              (try simp only [bh.down, simprocAttr, mF.down, pb] at ai ⊢); exact ai
            refine aV h (fun HY h => ?_) (fun HY h => ?_)
            ·simp only [HY, ak.down]
             refine ws _ ?_
             exact aE (ayg _ (.inl (aG [.bool false])))
            ·simp only [HY, ak.down]
             refine aY (n90 _ (.inl ?_))
             refine ws _ ?_
             obtain ⟨wj, ayh, h⟩ := aF h
             refine cN (bY [(16, .int .i64 j5.1), (17, .int .i64 wj)] (fun P ai => ?_) ?_)
             ·simp only [aN.down, simprocAttr, mF.down]
              refine eC (Pj j5.2 1 _ ayh) rfl rfl (by simp only [aN.down, simprocAttr, mF.down, fV, fW, fX, dj, @bR _ cC dF (fun _ => ko _)] <;> rfl) rfl (.inr (by rfl)) ?_
              simp only [aN.down, simprocAttr, mF.down]
              (try simp only [bh.down, simprocAttr, mF.down] at ai ⊢); exact ai
             refine aL an (fun aC3 ayi ayj aC4 => ?_)
             refine ws _ ?_
             refine aV h (fun HZ h => ?_) (fun HZ h => ?_)
             ·simp only [HZ, ak.down]
              refine ws _ ?_
              exact aE (ayj _ (.inl (aG [.bool false])))
             ·simp only [HZ, ak.down]
              refine aY (ayi _ (.inl ?_))
              refine aL an (fun aC5 ayk ayl aC6 => ?_)
              refine ws _ ?_
              refine aV h (fun H0 h => ?_) (fun H0 h => ?_)
              ·simp only [H0, ak.down]
               refine ws _ ?_
               exact aE (ayl _ (.inl (aG [.bool false])))
              ·simp only [H0, ak.down]
               refine aY (ayk _ (.inl ?_))
               refine ws _ ?_
               exact aE (an _ (.inl (aG [.bool true])))
end Go.Proofs.YtocllehpepigpaaGreat
