/- Part of a proof that a law returns true for every input. No condition. -/
import Derived.Test.YtgpmnlkgmadglaaGreatDoorW1x10
namespace Go.Proofs.YtgpmnlkgmadglaaGreatDoor
open Go Go.c0 Go.eV
set_option maxRecDepth 100000
set_option maxHeartbeats 2400000
set_option linter.unusedSimpArgs false
set_option linter.unusedVariables false
theorem atj (a0 : List c2) (r : Bool) (h : A7 a0 = some r) : bh aE 292 [.slice (a0.map bB)] (.bool r) [] := by
 refine bR [0] [.tmp 2] Tryz.func292 ali (fun bM an bO => ?_)
 refine ws _ ?_
 refine aJ an (fun et b0 bg ay => ?_)
 refine ws _ ?_
 refine bJ bg (fun eT eL ch bA bW => ?_)
 have hY : ∀ (n : Nat) (eA : Int), sw a0 n eA = some r → dE aE Mx eT (aa [(0, .slice (a0.map bB)), (5, .slice (a0.map bB)), (6, .int .i64 (a0.length : Int)), (7, .int .i64 eA)]) := by
  intro m6
  induction m6 with
  | zero => intro eA h; cases (show none = some r from h)
  | succ m6 ho =>
   intro eA h
   replace h : A6 (sw a0 m6) a0 eA = some r := h
   refine ea ch (fun iX e3 dW cf => ?_)
   refine ws _ ?_
   refine aJ dW (fun gy dn dx cH => ?_)
   refine aU h (fun bQ h => ?_) (fun bQ h => ?_)
   ·simp only [bQ, aj.down]
    refine aW (dn _ (.inl ?_))
    refine aJ dW (fun ev c_ cw dF => ?_)
    refine bJ cw (fun ff cE cx cP da => ?_)
    obtain ⟨af, iJ, h⟩ := aH h
    refine hW iJ _ ?_
    refine aJ cx (fun lx hd gF kC => ?_)
    obtain ⟨cf, hI, h⟩ := aH h
    rcases eZ h with ⟨eY, h⟩ | ⟨eY, h⟩
    ·refine fG rfl (fq [(0, .slice (a0.map bB)), (4, .a7 (bB af)), (5, .slice (a0.map bB)), (6, .int .i64 (a0.length : Int)), (7, .int .i64 eA), (48, .bool true)] (fun P ak => ?_) ?_)
     ·simp only [ct.down, simprocAttr, h_.down, (cG eY)]
      refine gS (kD af.Left _ hI) rfl rfl rfl rfl (.inl (by rfl)) ?_
      simp only [ct.down, simprocAttr, h_.down, (cG eY)]
      refine ⟨fk (by kernel_rfl), ?_⟩
      (try simp only [bn.down, simprocAttr, bB, (cG eY)] at ak ⊢); exact ak
     refine jc rfl ?_
     refine ws _ ?_
     exact aC (gF _ (.inl (aD [.bool false])))
    ·obtain ⟨cO, kn, h⟩ := aH h
     rcases eZ h with ⟨gq, h⟩ | ⟨gq, h⟩
     ·refine fG rfl (fq [(0, .slice (a0.map bB)), (4, .a7 (bB af)), (5, .slice (a0.map bB)), (6, .int .i64 (a0.length : Int)), (7, .int .i64 eA), (48, .bool true)] (fun P ak => ?_) ?_)
      ·simp only [ct.down, simprocAttr, h_.down, (bd eY), (cG gq)]
       refine gS (kD af.Left _ hI) rfl rfl rfl rfl (.inl (by rfl)) ?_
       simp only [ct.down, simprocAttr, h_.down, (bd eY), (cG gq)]
       refine kv (kD af.cp _ kn) rfl rfl rfl rfl (.inl (by rfl)) ?_
       simp only [ct.down, simprocAttr, h_.down, (bd eY), (cG gq)]
       refine ⟨fk (by kernel_rfl), ?_⟩
       (try simp only [bn.down, simprocAttr, bB, (bd eY), (cG gq)] at ak ⊢); exact ak
      refine jc rfl ?_
      refine ws _ ?_
      exact aC (gF _ (.inl (aD [.bool false])))
     ·obtain ⟨cH, B8, h⟩ := aH h
      rcases eZ h with ⟨jv, h⟩ | ⟨jv, h⟩
      ·refine fG rfl (fq [(0, .slice (a0.map bB)), (4, .a7 (bB af)), (5, .slice (a0.map bB)), (6, .int .i64 (a0.length : Int)), (7, .int .i64 eA), (48, .bool true)] (fun P ak => ?_) ?_)
       ·simp only [ct.down, simprocAttr, h_.down, (bd eY), (bd gq), (cG jv)]
        refine gS (kD af.Left _ hI) rfl rfl rfl rfl (.inl (by rfl)) ?_
        simp only [ct.down, simprocAttr, h_.down, (bd eY), (bd gq), (cG jv)]
        refine kv (kD af.cp _ kn) rfl rfl rfl rfl (.inl (by rfl)) ?_
        simp only [ct.down, simprocAttr, h_.down, (bd eY), (bd gq), (cG jv)]
        refine kv (kD af.Result _ B8) rfl rfl rfl rfl (.inl (by rfl)) ?_
        simp only [ct.down, simprocAttr, h_.down, (bd eY), (bd gq), (cG jv)]
        refine ⟨fk (by kernel_rfl), ?_⟩
        (try simp only [bn.down, simprocAttr, bB, (bd eY), (bd gq), (cG jv)] at ak ⊢); exact ak
       refine jc rfl ?_
       refine ws _ ?_
       exact aC (gF _ (.inl (aD [.bool false])))
      ·rcases eZ h with ⟨jE, h⟩ | ⟨jE, h⟩
       ·refine fG rfl (fq [(0, .slice (a0.map bB)), (4, .a7 (bB af)), (5, .slice (a0.map bB)), (6, .int .i64 (a0.length : Int)), (7, .int .i64 eA), (48, .bool true)] (fun P ak => ?_) ?_)
        ·simp only [ct.down, simprocAttr, h_.down, (bd eY), (bd gq), (bd jv), jE]
         refine gS (kD af.Left _ hI) rfl rfl rfl rfl (.inl (by rfl)) ?_
         simp only [ct.down, simprocAttr, h_.down, (bd eY), (bd gq), (bd jv), jE]
         refine kv (kD af.cp _ kn) rfl rfl rfl rfl (.inl (by rfl)) ?_
         simp only [ct.down, simprocAttr, h_.down, (bd eY), (bd gq), (bd jv), jE]
         refine kv (kD af.Result _ B8) rfl rfl rfl rfl (.inl (by rfl)) ?_
         simp only [ct.down, simprocAttr, h_.down, (bd eY), (bd gq), (bd jv), jE]
         refine ⟨fk (by kernel_rfl), ?_⟩
         (try simp only [bn.down, simprocAttr, bB, (bd eY), (bd gq), (bd jv), jE] at ak ⊢); exact ak
        refine jc rfl ?_
        refine ws _ ?_
        exact aC (gF _ (.inl (aD [.bool false])))
       ·rcases eZ h with ⟨hz, h⟩ | ⟨hz, h⟩
        ·obtain ⟨fP, oB, h⟩ := aH h
         obtain ⟨dF, BU, h⟩ := aH h
         refine fG rfl (fq [(0, .slice (a0.map bB)), (4, .a7 (bB af)), (5, .slice (a0.map bB)), (6, .int .i64 (a0.length : Int)), (7, .int .i64 eA), (48, .bool (decide (0 ≤ dF)))] (fun P ak => ?_) ?_)
         ·simp only [ct.down, simprocAttr, h_.down, (bd eY), (bd gq), (bd jv), jE, hz, oB]
          refine gS (kD af.Left _ hI) rfl rfl rfl rfl (.inl (by rfl)) ?_
          simp only [ct.down, simprocAttr, h_.down, (bd eY), (bd gq), (bd jv), jE, hz, oB]
          refine kv (kD af.cp _ kn) rfl rfl rfl rfl (.inl (by rfl)) ?_
          simp only [ct.down, simprocAttr, h_.down, (bd eY), (bd gq), (bd jv), jE, hz, oB]
          refine kv (kD af.Result _ B8) rfl rfl rfl rfl (.inl (by rfl)) ?_
          simp only [ct.down, simprocAttr, h_.down, (bd eY), (bd gq), (bd jv), jE, hz, oB]
          refine kv (atg fP af _ BU) rfl rfl rfl rfl (.inl (by rfl)) ?_
          simp only [ct.down, simprocAttr, h_.down, (bd eY), (bd gq), (bd jv), jE, hz, oB]
          refine ⟨fk (by kernel_rfl), ?_⟩
          (try simp only [bn.down, simprocAttr, bB, (bd eY), (bd gq), (bd jv), jE, hz, oB] at ak ⊢); exact ak
         refine aU h (fun sO h => ?_) (fun sO h => ?_)
         ·simp only [sO, aj.down]
          refine ws _ ?_
          exact aC (gF _ (.inl (aD [.bool false])))
         ·simp only [sO, aj.down]
          refine aW (hd _ (.inl ?_))
          obtain ⟨da, atk, h⟩ := aH h
          refine dK (cl [(0, .slice (a0.map bB)), (5, .slice (a0.map bB)), (6, .int .i64 (a0.length : Int)), (7, .int .i64 eA), (51, .bool da)] (fun P ak => ?_) ?_)
          ·simp only [aZ.down, simprocAttr, bB]
           refine fw (Nr a0 af _ atk) rfl rfl (by simp only [aZ.down, simprocAttr, bB, kg, kh, ki, ef] <;> rfl) rfl (.inr (by rfl)) ?_
           simp only [aZ.down, simprocAttr, bB]
           (try simp only [bn.down, simprocAttr, bB] at ak ⊢); exact ak
          refine aU h (fun Gn h => ?_) (fun Gn h => ?_)
          ·simp only [Gn, aj.down]
           refine ws _ ?_
           exact aC (cx _ (.inl (aD [.bool false])))
          ·simp only [Gn, aj.down]
           refine aW (cE _ (c_ _ (.inl ?_)))
           refine wr _ ?_
           exact e3 _ (.inr ⟨_, bs rfl, ho (IntKind.i64.wrap (eA + 1)) h⟩)
        ·refine fG rfl (fq [(0, .slice (a0.map bB)), (4, .a7 (bB af)), (5, .slice (a0.map bB)), (6, .int .i64 (a0.length : Int)), (7, .int .i64 eA), (48, .bool false)] (fun P ak => ?_) ?_)
         ·simp only [ct.down, simprocAttr, h_.down, (bd eY), (bd gq), (bd jv), jE, hz]
          refine gS (kD af.Left _ hI) rfl rfl rfl rfl (.inl (by rfl)) ?_
          simp only [ct.down, simprocAttr, h_.down, (bd eY), (bd gq), (bd jv), jE, hz]
          refine kv (kD af.cp _ kn) rfl rfl rfl rfl (.inl (by rfl)) ?_
          simp only [ct.down, simprocAttr, h_.down, (bd eY), (bd gq), (bd jv), jE, hz]
          refine kv (kD af.Result _ B8) rfl rfl rfl rfl (.inl (by rfl)) ?_
          simp only [ct.down, simprocAttr, h_.down, (bd eY), (bd gq), (bd jv), jE, hz]
          refine ⟨fk (by kernel_rfl), ?_⟩
          (try simp only [bn.down, simprocAttr, bB, (bd eY), (bd gq), (bd jv), jE, hz] at ak ⊢); exact ak
         refine r0 rfl ?_
         refine aW (hd _ (.inl ?_))
         obtain ⟨eS, atl, h⟩ := aH h
         refine dK (cl [(0, .slice (a0.map bB)), (5, .slice (a0.map bB)), (6, .int .i64 (a0.length : Int)), (7, .int .i64 eA), (51, .bool eS)] (fun P ak => ?_) ?_)
         ·simp only [aZ.down, simprocAttr, bB]
          refine fw (Nr a0 af _ atl) rfl rfl (by simp only [aZ.down, simprocAttr, bB, kg, kh, ki, ef] <;> rfl) rfl (.inr (by rfl)) ?_
          simp only [aZ.down, simprocAttr, bB]
          (try simp only [bn.down, simprocAttr, bB] at ak ⊢); exact ak
         refine aU h (fun p6 h => ?_) (fun p6 h => ?_)
         ·simp only [p6, aj.down]
          refine ws _ ?_
          exact aC (cx _ (.inl (aD [.bool false])))
         ·simp only [p6, aj.down]
          refine aW (cE _ (c_ _ (.inl ?_)))
          refine wr _ ?_
          exact e3 _ (.inr ⟨_, bs rfl, ho (IntKind.i64.wrap (eA + 1)) h⟩)
   ·simp only [bQ, aj.down]
    refine dY (cH 0 _ (cf 0 _ (bA _ (b0 _ (.inl ?_)))))
    refine ws _ ?_
    exact aC (an _ (.inl (aD [.bool (decide ((a0.length : Int) ≤ 6))])))
 obtain ⟨n, h⟩ := dR h
 exact dZ (.inr ⟨_, bs rfl, hY n 0 h⟩)
theorem Ns (a0 : List (List UInt8)) (r : Bool) (h : xB a0 = some r) : bh aE 293 [.slice (a0.map bw)] (.bool r) [] := by
 refine bR [0] [.tmp 2] Tryz.func293 alv (fun bM an bO => ?_)
 refine ws _ ?_
 refine aJ an (fun et b0 bg ay => ?_)
 refine ws _ ?_
 refine bJ bg (fun eT eL ch bA bW => ?_)
 have hY : ∀ (n : Nat) (eA : Int), sx a0 n eA = some r → dE aE My eT (aa [(0, .slice (a0.map bw)), (5, .slice (a0.map bw)), (6, .int .i64 (a0.length : Int)), (7, .int .i64 eA)]) := by
  intro m6
  induction m6 with
  | zero => intro eA h; cases (show none = some r from h)
  | succ m6 ho =>
   intro eA h
   replace h : A8 (sx a0 m6) a0 eA = some r := h
   refine ea ch (fun iX e3 dW cf => ?_)
   refine ws _ ?_
   refine aJ dW (fun gy dn dx cH => ?_)
   refine aU h (fun bQ h => ?_) (fun bQ h => ?_)
   ·simp only [bQ, aj.down]
    refine aW (dn _ (.inl ?_))
    refine aJ dW (fun ev c_ cw dF => ?_)
    refine bJ cw (fun ff cE cx cP da => ?_)
    obtain ⟨af, iJ, h⟩ := aH h
    refine hW iJ _ ?_
    obtain ⟨ay, dD, h⟩ := aH h
    rcases eZ h with ⟨c4, h⟩ | ⟨c4, h⟩
    ·refine hX (cG c4) (kD af _ dD) _ ?_
     refine jc rfl ?_
     refine ws _ ?_
     exact aC (cx _ (.inl (aD [.bool false])))
    ·rcases eZ h with ⟨hZ, h⟩ | ⟨hZ, h⟩
     ·obtain ⟨a6, eK, h⟩ := aH h
      refine hX (And.intro (bd c4) (And.intro hZ eK)) (kD af _ dD) _ ?_
      refine aU h (fun eW h => ?_) (fun eW h => ?_)
      ·simp only [eW, aj.down]
       refine ws _ ?_
       exact aC (cx _ (.inl (aD [.bool false])))
      ·simp only [eW, aj.down]
       refine aW (cE _ (c_ _ (.inl ?_)))
       refine wr _ ?_
       exact e3 _ (.inr ⟨_, bs rfl, ho (IntKind.i64.wrap (eA + 1)) h⟩)
     ·refine hX (And.intro (bd c4) hZ) (kD af _ dD) _ ?_
      refine r0 rfl ?_
      refine aW (cE _ (c_ _ (.inl ?_)))
      refine wr _ ?_
      exact e3 _ (.inr ⟨_, bs rfl, ho (IntKind.i64.wrap (eA + 1)) h⟩)
   ·simp only [bQ, aj.down]
    refine dY (cH 0 _ (cf 0 _ (bA _ (b0 _ (.inl ?_)))))
    refine ws _ ?_
    exact aC (an _ (.inl (aD [.bool (decide ((a0.length : Int) ≤ 12))])))
 obtain ⟨n, h⟩ := dR h
 exact dZ (.inr ⟨_, bs rfl, hY n 0 h⟩)
theorem atm (a0 : dh) (r : Int) (h : A9 a0 = some r) : bh aE 247 [e2 a0] (.int .i64 r) [] := by
 refine bR [0] [.tmp 2] Tryz.func247 alN (fun bM an bO => ?_)
 refine ws _ ?_
 refine aJ an (fun et b0 bg ay => ?_)
 refine bJ bg (fun j3 gx dm kr a6 => ?_)
 obtain ⟨af, cR, h⟩ := aH h
 refine di (as7 a0.df _ cR) _ ?_
 refine aU h (fun cL h => ?_) (fun cL h => ?_)
 ·simp only [(cG cL), aj.down]
  refine ws _ ?_
  exact aC (dm _ (.inl (aD [.int .i64 1])))
 ·simp only [(bd cL), aj.down]
  obtain ⟨ay, ln, h⟩ := aH h
  rcases eZ h with ⟨cP, h⟩ | ⟨cP, h⟩
  ·refine hX (cG cP) (jS (a0.cY.length : Int) 1 3 _ ln) _ ?_
   refine jc rfl ?_
   refine ws _ ?_
   exact aC (dm _ (.inl (aD [.int .i64 2])))
  ·obtain ⟨a6, iJ, h⟩ := aH h
   refine dK (cl [(1, .a7 (e2 a0)), (8, .bool a6)] (fun P ak => ?_) ?_)
   ·simp only [aZ.down, simprocAttr, ou.down, (bd cP)]
    refine fw (jS (a0.cY.length : Int) 1 3 _ ln) rfl rfl rfl rfl (.inl (by rfl)) ?_
    simp only [aZ.down, simprocAttr, ou.down, (bd cP)]
    refine hv (atd a0.cY a0 _ iJ) rfl rfl (by simp only [aZ.down, simprocAttr, ou.down, (bd cP), kg, kh, ki, ef, @cF _ bq bq (fun _ => uS _), @cF _ e7 e7 (fun _ => uU _), @cF _ bB bB (fun _ => nE _), @cF _ bw bw (fun _ => jf _), @cF _ bw bw (fun _ => jf _)] <;> rfl) rfl (.inr (by rfl)) ?_
    simp only [aZ.down, simprocAttr, ou.down, (bd cP)]
    (try simp only [bn.down, simprocAttr, uX.down, (bd cP)] at ak ⊢); exact ak
   refine aU h (fun dd h => ?_) (fun dd h => ?_)
   ·simp only [dd, aj.down]
    refine ws _ ?_
    exact aC (dm _ (.inl (aD [.int .i64 2])))
   ·simp only [dd, aj.down]
    obtain ⟨bW, bY, h⟩ := aH h
    refine di (atj a0.hR _ bY) _ ?_
    refine aU h (fun hZ h => ?_) (fun hZ h => ?_)
    ·simp only [(cG hZ), aj.down]
     refine ws _ ?_
     exact aC (dm _ (.inl (aD [.int .i64 3])))
    ·simp only [(bd hZ), aj.down]
     obtain ⟨cf, ic, h⟩ := aH h
     refine di (Ns a0.hF _ ic) _ ?_
     refine aU h (fun oC h => ?_) (fun oC h => ?_)
     ·simp only [(cG oC), aj.down]
      refine ws _ ?_
      exact aC (dm _ (.inl (aD [.int .i64 4])))
     ·simp only [(bd oC), aj.down]
      obtain ⟨cO, jR, h⟩ := aH h
      refine di (Ns a0.hG _ jR) _ ?_
      refine aU h (fun iY h => ?_) (fun iY h => ?_)
      ·simp only [(cG iY), aj.down]
       refine ws _ ?_
       exact aC (dm _ (.inl (aD [.int .i64 5])))
      ·simp only [(bd iY), aj.down]
       refine aW (gx _ (b0 _ (.inl ?_)))
       refine ws _ ?_
       exact aC (an _ (.inl (aD [.int .i64 0])))
theorem Gp (a0 : dh) (r : Bool) (h : A_ a0 = some r) : bh aE 174 [e2 a0] (.bool r) [] := by
 refine bR [0] [.tmp 2] Tryz.func174 alQ (fun bM an bO => ?_)
 refine ws _ ?_
 obtain ⟨af, aQ, h⟩ := aH h
 refine di (atm a0 _ aQ) _ ?_
 exact aC (an _ (.inl (aD [.bool (af == 0)])))
theorem atn (a0 : List bm) (U : c8) (r : Bool) (h : xC a0 U = some r) : bh aE 163 [.slice (a0.map bq), dU U] (.bool r) [] := by
 refine bR [0, 1] [.tmp 4] Tryz.func163 alX (fun bM an bO => ?_)
 refine ws _ ?_
 refine aJ an (fun et b0 bg ay => ?_)
 obtain ⟨af, ca, h⟩ := aH h
 rcases eZ h with ⟨bE, h⟩ | ⟨bE, h⟩
 ·refine fG rfl (fq [(0, .slice (a0.map bq)), (3, .a7 (dU U)), (24, .bool true)] (fun P ak => ?_) ?_)
  ·simp only [ct.down, simprocAttr, x0.down, (cG bE)]
   refine gS (q2 U.dT (a0.length : Int) _ ca) rfl rfl rfl rfl (.inl (by rfl)) ?_
   simp only [ct.down, simprocAttr, x0.down, (cG bE)]
   refine ⟨fk (by kernel_rfl), ?_⟩
   (try simp only [bn.down, simprocAttr, sF.down, (cG bE)] at ak ⊢); exact ak
  refine jc rfl ?_
  refine ws _ ?_
  exact aC (bg _ (.inl (aD [.bool false])))
 ·obtain ⟨ay, bS, h⟩ := aH h
  obtain ⟨a6, hi, h⟩ := aH h
  refine fG rfl (fq [(0, .slice (a0.map bq)), (3, .a7 (dU U)), (24, .bool (!a6))] (fun P ak => ?_) ?_)
  ·simp only [ct.down, simprocAttr, x0.down, (bd bE), bS]
   refine gS (q2 U.dT (a0.length : Int) _ ca) rfl rfl rfl rfl (.inl (by rfl)) ?_
   simp only [ct.down, simprocAttr, x0.down, (bd bE), bS]
   refine kv (q2 U.Part (ay.Body.length : Int) _ hi) rfl rfl rfl rfl (.inl (by rfl)) ?_
   simp only [ct.down, simprocAttr, x0.down, (bd bE), bS]
   refine ⟨fk (by kernel_rfl), ?_⟩
   (try simp only [bn.down, simprocAttr, sF.down, (bd bE), bS] at ak ⊢); exact ak
  refine aU h (fun ed h => ?_) (fun ed h => ?_)
  ·simp only [(cG ed), aj.down]
   refine ws _ ?_
   exact aC (bg _ (.inl (aD [.bool false])))
  ·simp only [(bd ed), aj.down]
   refine aW (b0 _ (.inl ?_))
   refine hW bS _ ?_
   obtain ⟨bW, fV, h⟩ := aH h
   rcases eZ h with ⟨eX, h⟩ | ⟨eX, h⟩
   ·obtain ⟨cf, gN, h⟩ := aH h
    obtain ⟨cO, bY, h⟩ := aH h
    rcases eZ h with ⟨hZ, h⟩ | ⟨hZ, h⟩
    ·obtain ⟨cH, eK, h⟩ := aH h
     refine fG rfl (fq [(4, .bool cH)] (fun P ak => ?_) ?_)
     ·simp only [ct.down, simprocAttr, x1.down, fV, eX, bY, fR bY, hZ]
      refine kv (Gj ay _ gN) rfl rfl rfl rfl (.inl (by rfl)) ?_
      simp only [ct.down, simprocAttr, x1.down, fV, eX, bY, fR bY, hZ]
      refine kv (Np U.cX _ eK) rfl rfl rfl rfl (.inl (by rfl)) ?_
      simp only [ct.down, simprocAttr, x1.down, fV, eX, bY, fR bY, hZ]
      refine ⟨fk (by kernel_rfl), ?_⟩
      (try simp only [bn.down, simprocAttr, bD, bq, cc, dU, cq, dA, en, fV, eX, bY, fR bY, hZ] at ak ⊢); exact ak
     exact aC (an _ (.inl (aD [.bool cH])))
    ·refine fG rfl (fq [(4, .bool false)] (fun P ak => ?_) ?_)
     ·simp only [ct.down, simprocAttr, x1.down, fV, eX, bY, fR bY, hZ]
      refine kv (Gj ay _ gN) rfl rfl rfl rfl (.inl (by rfl)) ?_
      simp only [ct.down, simprocAttr, x1.down, fV, eX, bY, fR bY, hZ]
      refine ⟨fk (by kernel_rfl), ?_⟩
      (try simp only [bn.down, simprocAttr, bD, bq, cc, dU, cq, dA, en, fV, eX, bY, fR bY, hZ] at ak ⊢); exact ak
     exact aC (an _ (.inl (aD [.bool false])))
   ·refine fG rfl (fq [(4, .bool false)] (fun P ak => ?_) ?_)
    ·simp only [ct.down, simprocAttr, dS, pb, ez, g_, lf, ju, kk, gp, gT, hQ, fZ, pc, r9, bD, bq, cc, dU, cq, en, fV, eX]
     refine ⟨fk (by kernel_rfl), ?_⟩
     (try simp only [bn.down, simprocAttr, sF.down, fV, eX] at ak ⊢); exact ak
    exact aC (an _ (.inl (aD [.bool false])))
theorem ato (a0 : c8) (U : dh) (r : Bool) (h : E6 a0 U = some r) : bh aE 176 [dU a0, .ref (e2 U)] (.bool r) [] := by
 refine bR [0, 1] [.tmp 3] Tryz.func176 al0 (fun bM an bO => ?_)
 refine ws _ ?_
 obtain ⟨af, aQ, h⟩ := aH h
 refine di (atn U.df a0 _ aQ) _ ?_
 exact aC (an _ (.inl (aD [.bool (!af)])))
theorem atp (a0 : List c8) (U : dh) (r : Int) (h : E7 a0 U = some r) : bh aE 248 [.slice (a0.map dU), .fn 176 [.ref (e2 U)]] (.int .i64 r) [] := by
 refine bR [0, 1] [.tmp 4] Tryz.func248 ama (fun bM an bO => ?_)
 refine ws _ ?_
 refine aJ an (fun et b0 bg ay => ?_)
 refine ws _ ?_
 refine bJ bg (fun eT eL ch bA bW => ?_)
 have hY : ∀ (n : Nat) (b9 : Int), uQ a0 U n b9 = some r → dE aE Mz eT (aa [(0, .slice (a0.map dU)), (1, .fn 176 [.ref (e2 U)]), (7, .int .i64 (a0.length : Int)), (8, .int .i64 b9)]) := by
  intro m6
  induction m6 with
  | zero => intro b9 h; cases (show none = some r from h)
  | succ m6 ho =>
   intro b9 h
   replace h : Ba (uQ a0 U m6) a0 U b9 = some r := h
   refine ea ch (fun iX e3 dW cf => ?_)
   refine ws _ ?_
   refine aJ dW (fun gy dn dx cH => ?_)
   refine aU h (fun bQ h => ?_) (fun bQ h => ?_)
   ·simp only [bQ, aj.down]
    refine aW (dn _ (.inl ?_))
    refine aJ dW (fun ev c_ cw dF => ?_)
    refine bJ cw (fun ff cE cx cP da => ?_)
    refine ws _ ?_
    obtain ⟨af, fV, h⟩ := aH h
    obtain ⟨ay, dD, h⟩ := aH h
    refine hX fV (ato af U _ dD) _ ?_
    refine aU h (fun c4 h => ?_) (fun c4 h => ?_)
    ·simp only [c4, aj.down]
     refine ws _ ?_
     exact aC (cx _ (.inl (aD [.int .i64 b9])))
    ·simp only [c4, aj.down]
     refine aW (cE _ (c_ _ (.inl ?_)))
     refine wr _ ?_
     exact e3 _ (.inr ⟨_, bs rfl, ho (IntKind.i64.wrap (b9 + 1)) h⟩)
   ·simp only [bQ, aj.down]
    refine dY (cH 0 _ (cf 0 _ (bA _ (b0 _ (.inl ?_)))))
    refine ws _ ?_
    exact aC (an _ (.inl (aD [.int .i64 (-1)])))
 obtain ⟨n, h⟩ := dR h
 exact dZ (.inr ⟨_, bs rfl, hY n 0 h⟩)
theorem atq (a0 : List c8) (U : dh) (r : Bool) (h : Bb a0 U = some r) : bh aE 175 [.slice (a0.map dU), .fn 176 [.ref (e2 U)]] (.bool r) [] := by
 refine bR [0, 1] [.tmp 4] Tryz.func175 amd (fun bM an bO => ?_)
 refine ws _ ?_
 obtain ⟨af, aQ, h⟩ := aH h
 refine di (atp a0 U _ aQ) _ ?_
 exact aC (an _ (.inl (aD [.bool (decide (0 ≤ af))])))
theorem atr (a0 : dh) (U : List c8) (r : Bool) (h : E8 a0 U = some r) : bh aE 110 [e2 a0, .slice (U.map dU)] (.bool r) [] := by
 refine bR [0, 1] [.tmp 4] Tryz.func110 amg (fun bM an bO => ?_)
 refine ws _ ?_
 obtain ⟨ay, ca, h⟩ := aH h
 rcases eZ h with ⟨bE, h⟩ | ⟨bE, h⟩
 ·rcases eZ h with ⟨cL, h⟩ | ⟨cL, h⟩
  ·obtain ⟨a6, bS, h⟩ := aH h
   refine dK (cl [(4, .bool (!a6))] (fun P ak => ?_) ?_)
   ·simp only [aZ.down, simprocAttr, p2.down, bE, cL]
    refine fw (Gp a0 _ ca) rfl rfl rfl rfl (.inl (by rfl)) ?_
    simp only [aZ.down, simprocAttr, p2.down, bE, cL]
    refine hv (atq U a0 _ bS) rfl rfl (by simp only [aZ.down, simprocAttr, p2.down, bE, cL, kg, kh, ki, ef, @cF _ bq bq (fun _ => uS _), @cF _ e7 e7 (fun _ => uU _), @cF _ bB bB (fun _ => nE _), @cF _ bw bw (fun _ => jf _), @cF _ bw bw (fun _ => jf _)] <;> rfl) rfl (.inr (by rfl)) ?_
    simp only [aZ.down, simprocAttr, p2.down, bE, cL]
    (try simp only [bn.down, simprocAttr, jO.down, bE, cL] at ak ⊢); exact ak
   exact aC (an _ (.inl (aD [.bool (!a6)])))
  ·refine hX (And.intro bE cL) (Gp a0 _ ca) _ ?_
   exact aC (an _ (.inl (aD [.bool false])))
 ·refine hX bE (Gp a0 _ ca) _ ?_
  exact aC (an _ (.inl (aD [.bool false])))
theorem ats (a0 U : Int) (r : List UInt8) (h : xD a0 U = some r) : bh aE 210 [.int .i64 a0, .int .i64 U] (.str r) [] := aqX a0 U r h
theorem Nt (a0 : Int) (r : (List UInt8)) (h : uR a0 = some r) : bh aE 144 [.int .i64 a0] (.str r) [] := by
 refine bR [0] [.tmp 2] Tryz.func144 amj (fun bM an bO => ?_)
 refine ws _ ?_
 obtain ⟨af, aQ, h⟩ := aH h
 refine di (ats a0 10 _ aQ) _ ?_
 exact aC (an _ (.inl (aD [.str af])))
theorem att (a0 : Int) (r : Bool) (h : E9 a0 = some r) : bh aE 316 [.int .i64 a0] (.bool r) [] := by
 refine bR [0] [.tmp 2] Tryz.func316 amm (fun bM an bO => ?_)
 refine ws _ ?_
 obtain ⟨af, aQ, h⟩ := aH h
 refine di (jS a0 (-1000000000000) 1000000000000 _ aQ) _ ?_
 exact aC (an _ (.inl (aD [.bool (!af)])))
theorem atu (a0 : List Int) (r : Int) (h : E_ a0 = some r) : bh aE 217 [.slice (a0.map bD), .fn 316 []] (.int .i64 r) [] := by
 refine bR [0, 1] [.tmp 4] Tryz.func217 amx (fun bM an bO => ?_)
 refine ws _ ?_
 refine aJ an (fun et b0 bg ay => ?_)
 refine ws _ ?_
 refine bJ bg (fun eT eL ch bA bW => ?_)
 have hY : ∀ (n : Nat) (b9 : Int), sy a0 n b9 = some r → dE aE MA eT (aa [(0, .slice (a0.map bD)), (1, .fn 316 []), (7, .int .i64 (a0.length : Int)), (8, .int .i64 b9)]) := by
  intro m6
  induction m6 with
  | zero => intro b9 h; cases (show none = some r from h)
  | succ m6 ho =>
   intro b9 h
   replace h : Bc (sy a0 m6) a0 b9 = some r := h
   refine ea ch (fun iX e3 dW cf => ?_)
   refine ws _ ?_
   refine aJ dW (fun gy dn dx cH => ?_)
   refine aU h (fun bQ h => ?_) (fun bQ h => ?_)
   ·simp only [bQ, aj.down]
    refine aW (dn _ (.inl ?_))
    refine aJ dW (fun ev c_ cw dF => ?_)
    refine bJ cw (fun ff cE cx cP da => ?_)
    refine ws _ ?_
    obtain ⟨af, fV, h⟩ := aH h
    obtain ⟨ay, dD, h⟩ := aH h
    refine hX fV (att af _ dD) _ ?_
    refine aU h (fun c4 h => ?_) (fun c4 h => ?_)
    ·simp only [c4, aj.down]
     refine ws _ ?_
     exact aC (cx _ (.inl (aD [.int .i64 b9])))
    ·simp only [c4, aj.down]
     refine aW (cE _ (c_ _ (.inl ?_)))
     refine wr _ ?_
     exact e3 _ (.inr ⟨_, bs rfl, ho (IntKind.i64.wrap (b9 + 1)) h⟩)
   ·simp only [bQ, aj.down]
    refine dY (cH 0 _ (cf 0 _ (bA _ (b0 _ (.inl ?_)))))
    refine ws _ ?_
    exact aC (an _ (.inl (aD [.int .i64 (-1)])))
 obtain ⟨n, h⟩ := dR h
 exact dZ (.inr ⟨_, bs rfl, hY n 0 h⟩)
theorem atv (a0 : List Int) (r : Bool) (h : Fa a0 = some r) : bh aE 149 [.slice (a0.map bD), .fn 316 []] (.bool r) [] := by
 refine bR [0, 1] [.tmp 4] Tryz.func149 amA (fun bM an bO => ?_)
 refine ws _ ?_
 obtain ⟨af, aQ, h⟩ := aH h
 refine di (atu a0 _ aQ) _ ?_
 exact aC (an _ (.inl (aD [.bool (decide (0 ≤ af))])))
theorem atw (a0 : List Int) (r : Bool) (h : Bd a0 = some r) : bh aE 294 [.slice (a0.map bD)] (.bool r) [] := by
 refine bR [0] [.tmp 2] Tryz.func294 amD (fun bM an bO => ?_)
 refine ws _ ?_
 rcases eZ h with ⟨kr, h⟩ | ⟨kr, h⟩
 ·obtain ⟨af, ca, h⟩ := aH h
  refine dK (cl [(2, .bool (!af))] (fun P ak => ?_) ?_)
  ·simp only [aZ.down, simprocAttr, dS, g_, bD, kr]
   refine hv (atv a0 _ ca) rfl rfl rfl rfl (.inl (by rfl)) ?_
   simp only [aZ.down, simprocAttr, dS, g_, bD, kr]
   (try simp only [bn.down, simprocAttr, bD, kr] at ak ⊢); exact ak
  exact aC (an _ (.inl (aD [.bool (!af)])))
 ·refine hW kr _ ?_
  exact aC (an _ (.inl (aD [.bool false])))
theorem Nu (a0 : List (List UInt8)) (U : List UInt8) (r : List UInt8) (h : strings_Join a0 U = some r) : bh aE 178 [.slice (a0.map bw), .str U] (.str r) [] := aqY a0 U r h
theorem atx (a0 : List Int) (U : List UInt8) (r : (List UInt8)) (h : Fb a0 U = some r) : bh aE 134 [.slice (a0.map bD), .str U] (.str r) [] := by
 refine bR [0, 1] [.tmp 4] Tryz.func134 amN (fun bM an bO => ?_)
 refine ws _ ?_
 obtain ⟨BZ, aQ, h⟩ := aH h
 refine dK (cl [(0, .slice (a0.map bD)), (1, .str U), (5, .aP 1 ((List.replicate (Int.toNat (a0.length : Int)) ([] : List UInt8)).map bw))] (fun P ak => ?_) ?_)
 ·simp only [aZ.down, simprocAttr, dS, ez, g_, kj, bD, bw, (dV aQ).1, (dV aQ).2.1, (dV aQ).2.2, er, List.map_replicate, -Int.reduceNatCast']
  (try simp only [bn.down, simprocAttr, bD, bw, (dV aQ).1, (dV aQ).2.1, (dV aQ).2.2, er, List.map_replicate, -Int.reduceNatCast'] at ak ⊢); exact ak
 refine aJ an (fun eT eL ch bW => ?_)
 refine ws [(1, .str U), (5, .aP 1 ((List.replicate (Int.toNat (a0.length : Int)) ([] : List UInt8)).map bw)), (11, .slice (a0.map bD)), (12, .int .i64 (a0.length : Int)), (13, .int .i64 0)] ?_
 refine bJ ch (fun fz eG dI cL cO => ?_)
 have ji : ∀ (n : Nat) (eb : List (List UInt8)) (kA : Int), sA a0 U n eb kA = some r → dE aE MB fz (aa [(1, .str U), (5, .aP 1 (eb.map bw)), (11, .slice (a0.map bD)), (12, .int .i64 (a0.length : Int)), (13, .int .i64 kA)]) := by
  intro m8
  induction m8 with
  | zero => intro eb kA h; cases (show none = some r from h)
  | succ m8 jj =>
   intro eb kA h
   replace h : Be (sA a0 U m8) a0 U eb kA = some r := h
   refine ea dI (fun gy dn dx cH => ?_)
   refine ws _ ?_
   refine aJ dx (fun ev c_ cw dF => ?_)
   refine aU h (fun cP h => ?_) (fun cP h => ?_)
   ·simp only [cP, aj.down]
    refine aW (c_ _ (.inl ?_))
    refine aJ dx (fun ia eO fI eS => ?_)
    refine bJ fI (fun jD f_ ix dj iV => ?_)
    obtain ⟨af, dD, h⟩ := aH h
    refine hW dD _ ?_
    obtain ⟨ay, bY, h⟩ := aH h
    obtain ⟨a6, dM, h⟩ := aH h
    refine kf (cl [(1, .str U), (5, .aP 1 ((List.set eb (Int.toNat kA) ay).map bw)), (11, .slice (a0.map bD)), (12, .int .i64 (a0.length : Int)), (13, .int .i64 kA)] (fun P ak => ?_) ?_)
    ·simp only [aZ.down, simprocAttr, ez, kj, bD, bw, dM, fR dM, h6, gn]
     refine fw (Nt af _ bY) rfl rfl rfl rfl (.inl (by rfl)) ?_
     simp only [aZ.down, simprocAttr, ez, kj, bD, bw, dM, fR dM, h6, gn]
     (try simp only [bn.down, simprocAttr, bD, bw, dM, fR dM, h6, gn] at ak ⊢); exact ak
    refine f_ _ (eO _ (.inl ?_))
    refine wr [(1, .str U), (5, .aP 1 ((List.set eb (Int.toNat kA) ay).map bw)), (11, .slice (a0.map bD)), (12, .int .i64 (a0.length : Int)), (13, .int .i64 (IntKind.i64.wrap (kA + 1)))] ?_
    exact dn _ (.inr ⟨_, bs rfl, jj (List.set eb (Int.toNat kA) ay) (IntKind.i64.wrap (kA + 1)) h⟩)
   ·simp only [cP, aj.down]
    refine dY (dF 0 _ (cH 0 _ (cL _ (eL _ (.inl ?_)))))
    obtain ⟨bW, ic, h⟩ := aH h
    refine dK (cl [(4, .str bW)] (fun P ak => ?_) ?_)
    ·simp only [aZ.down, simprocAttr, bD, bw]
     refine fw (Nu eb U _ ic) rfl rfl (by simp only [aZ.down, simprocAttr, bD, bw, kg, kh, ki, ef, @cF _ bw bw (fun _ => jf _)] <;> rfl) rfl (.inr (by rfl)) ?_
     simp only [aZ.down, simprocAttr, bD, bw]
     (try simp only [bn.down, simprocAttr, bD, bw] at ak ⊢); exact ak
    exact aC (an _ (.inl (aD [.str bW])))
 obtain ⟨n, h⟩ := dR h
 exact dZ (.inr ⟨_, bs rfl, ji n (List.replicate (Int.toNat (a0.length : Int)) ([] : List UInt8)) 0 h⟩)
theorem aty (a0 : List Int) (r : (List UInt8)) (h : Bf a0 = some r) : bh aE 249 [.slice (a0.map bD)] (.str r) [] := by
 refine bR [0] [.tmp 2] Tryz.func249 amW (fun bM an bO => ?_)
 refine ws _ ?_
 refine aJ an (fun et b0 bg ay => ?_)
 refine bJ bg (fun j3 gx dm kr a6 => ?_)
 obtain ⟨af, cR, h⟩ := aH h
 refine di (atw a0 _ cR) _ ?_
 refine aU h (fun cL h => ?_) (fun cL h => ?_)
 ·simp only [(cG cL), aj.down]
  refine ws _ ?_
  exact aC (dm _ (.inl (aD [.str ([] : List UInt8)])))
 ·simp only [(bd cL), aj.down]
  refine ws _ ?_
  refine aU h (fun ed h => ?_) (fun ed h => ?_)
  ·simp only [ed, aj.down]
   refine ws _ ?_
   exact aC (dm _ (.inl (aD [.str ([45] : List UInt8)])))
  ·simp only [ed, aj.down]
   refine aW (gx _ (b0 _ (.inl ?_)))
   obtain ⟨ay, iJ, h⟩ := aH h
   refine di (atx a0 ([44] : List UInt8) _ iJ) _ ?_
   exact aC (an _ (.inl (aD [.str ay])))
theorem atz (a0 : c8) (r : (List UInt8)) (h : Fe a0 = some r) : bh aE 177 [dU a0] (.str r) [] := by
 refine bR [0] [.tmp 2] Tryz.func177 amZ (fun bM an bO => ?_)
 refine ws _ ?_
 obtain ⟨af, aQ, h⟩ := aH h
 obtain ⟨vN, ca, h⟩ := aH h
 (try simp only [List.length_append, List.length_cons, List.length_nil, List.length_map, List.length_replicate, Nat.zero_add, Nat.add_zero, Nat.reduceAdd] at ca)
 obtain ⟨ay, cR, h⟩ := aH h
 obtain ⟨vN, bZ, h⟩ := aH h
 (try simp only [List.length_append, List.length_cons, List.length_nil, List.length_map, List.length_replicate, Nat.zero_add, Nat.add_zero, Nat.reduceAdd] at bZ)
 refine fG rfl (fq [(2, .str ((af ++ ([58] : List UInt8)) ++ ay))] (fun P ak => ?_) ?_)
 ·simp only [ct.down, simprocAttr, dS, g_, lf, bD, dU, ca, kN, kO, bZ]
  refine gS (Nt a0.Part _ aQ) rfl rfl rfl rfl (.inl (by rfl)) ?_
  simp only [ct.down, simprocAttr, dS, g_, lf, bD, dU, ca, kN, kO, bZ]
  refine gS (aty a0.cX _ cR) rfl rfl rfl rfl (.inl (by rfl)) ?_
  simp only [ct.down, simprocAttr, dS, g_, lf, bD, dU, ca, kN, kO, bZ]
  refine ⟨fk (by kernel_rfl), ?_⟩
  (try simp only [bn.down, simprocAttr, bD, dU, ca, kN, kO, bZ] at ak ⊢); exact ak
 exact aC (an _ (.inl (aD [.str ((af ++ ([58] : List UInt8)) ++ ay)])))
theorem atA (a0 : dh) (U : List c8) (r : (List UInt8)) (h : Bh a0 U = some r) : bh aE 111 [e2 a0, .slice (U.map dU)] (.str r) [] := by
 refine bR [0, 1] [.tmp 4] Tryz.func111 am9 (fun bM an bO => ?_)
 refine ws _ ?_
 refine ws _ ?_
 refine aJ an (fun j3 gx dm a6 => ?_)
 refine ws _ ?_
 refine bJ dm (fun iX e3 dW bE cf => ?_)
 have ji : ∀ (n : Nat) (eb : List (List UInt8)) (mn : Int), sB a0 U n eb mn = some r → dE aE MC iX (aa [(2, .a7 (e2 a0)), (5, .aP 1 (eb.map bw)), (8, .slice (U.map dU)), (9, .int .i64 (U.length : Int)), (10, .int .i64 mn)]) := by
  intro m8
  induction m8 with
  | zero => intro eb mn h; cases (show none = some r from h)
  | succ m8 jj =>
   intro eb mn h
   replace h : Bg (sB a0 U m8) a0 U eb mn = some r := h
   refine ea dW (fun fz eG dI cO => ?_)
   refine ws _ ?_
   refine aJ dI (fun hx hn hc fP => ?_)
   refine aU h (fun ed h => ?_) (fun ed h => ?_)
   ·simp only [ed, aj.down]
    refine aW (hn _ (.inl ?_))
    refine aJ dI (fun ff cE cx da => ?_)
    refine bJ cx (fun ia eO fI jC eS => ?_)
    obtain ⟨af, fV, h⟩ := aH h
    refine hW fV _ ?_
    obtain ⟨ay, gN, h⟩ := aH h
    obtain ⟨BZ, bY, h⟩ := aH h
    (try simp only [List.length_append, List.length_cons, List.length_nil, List.length_map, List.length_replicate, Nat.zero_add, Nat.add_zero, Nat.reduceAdd] at bY)
    obtain ⟨a6, dM, h⟩ := aH h
    obtain ⟨BZ, eK, h⟩ := aH h
    (try simp only [List.length_append, List.length_cons, List.length_nil, List.length_map, List.length_replicate, Nat.zero_add, Nat.add_zero, Nat.reduceAdd] at eK)
    obtain ⟨BZ, hA, h⟩ := aH h
    (try simp only [List.length_append, List.length_cons, List.length_nil, List.length_map, List.length_replicate, Nat.zero_add, Nat.add_zero, Nat.reduceAdd] at hA)
    refine Ju rfl (fq [(2, .a7 (e2 a0)), (5, .aP 1 ((eb ++ [((ay.Name ++ ([58] : List UInt8)) ++ a6)]).map bw)), (8, .slice (U.map dU)), (9, .int .i64 (U.length : Int)), (10, .int .i64 mn)] (fun P ak => ?_) ?_)
    ·simp only [ct.down, simprocAttr, dS, ez, g_, kj, mj, lf, nw, om, r7, ju, kk, gp, gT, hQ, mL, lV, fZ, bD, e7, bq, bB, cc, dU, e2, cq, en, bw, gN, bY, kN, kO, eK, (show ∀ s, eD aE s 49 1 [(0, .str ((ay.Name ++ ([58] : List UInt8)) ++ a6))] = some (.aP 1 [.str ((ay.Name ++ ([58] : List UInt8)) ++ a6)], s) from fun s => by kernel_rfl), @pM aE 49 49 9 rfl rfl, pN, pO, pP, all_cons, all_nil, hA, @r1 _ bw 1 (fun _ => rfl)]
     refine gS (atz af _ dM) rfl rfl rfl rfl (.inl (by rfl)) ?_
     simp only [ct.down, simprocAttr, dS, ez, g_, kj, mj, lf, nw, om, r7, ju, kk, gp, gT, hQ, mL, lV, fZ, bD, e7, bq, bB, cc, dU, e2, cq, en, bw, gN, bY, kN, kO, eK, (show ∀ s, eD aE s 49 1 [(0, .str ((ay.Name ++ ([58] : List UInt8)) ++ a6))] = some (.aP 1 [.str ((ay.Name ++ ([58] : List UInt8)) ++ a6)], s) from fun s => by kernel_rfl), @pM aE 49 49 9 rfl rfl, pN, pO, pP, all_cons, all_nil, hA, @r1 _ bw 1 (fun _ => rfl)]
     refine ⟨fk (by kernel_rfl), ?_⟩
     (try simp only [bn.down, simprocAttr, jO.down, gN, bY, kN, kO, eK, (show ∀ s, eD aE s 49 1 [(0, .str ((ay.Name ++ ([58] : List UInt8)) ++ a6))] = some (.aP 1 [.str ((ay.Name ++ ([58] : List UInt8)) ++ a6)], s) from fun s => by kernel_rfl), @pM aE 49 49 9 rfl rfl, pN, pO, pP, all_cons, all_nil, hA, @r1 _ bw 1 (fun _ => rfl)] at ak ⊢); exact ak
    refine eO _ (cE _ (.inl ?_))
    refine wr [(2, .a7 (e2 a0)), (5, .aP 1 ((eb ++ [((ay.Name ++ ([58] : List UInt8)) ++ a6)]).map bw)), (8, .slice (U.map dU)), (9, .int .i64 (U.length : Int)), (10, .int .i64 (IntKind.i64.wrap (mn + 1)))] ?_
    exact eG _ (.inr ⟨_, bs rfl, jj (eb ++ [((ay.Name ++ ([58] : List UInt8)) ++ a6)]) (IntKind.i64.wrap (mn + 1)) h⟩)
   ·simp only [ed, aj.down]
    refine dY (fP 0 _ (cO 0 _ (bE _ (gx _ (.inl ?_)))))
    obtain ⟨bW, hI, h⟩ := aH h
    refine dK (cl [(4, .str bW)] (fun P ak => ?_) ?_)
    ·simp only [aZ.down, simprocAttr, jO.down]
     refine fw (Nu eb ([32] : List UInt8) _ hI) rfl rfl (by simp only [aZ.down, simprocAttr, jO.down, kg, kh, ki, ef, @cF _ bw bw (fun _ => jf _)] <;> rfl) rfl (.inr (by rfl)) ?_
     simp only [aZ.down, simprocAttr, jO.down]
     (try simp only [bn.down, simprocAttr, jO.down] at ak ⊢); exact ak
    exact aC (an _ (.inl (aD [.str bW])))
 obtain ⟨n, h⟩ := dR h
 exact dZ (.inr ⟨_, ug [] rfl (mi (t := 2) (d := .a7 (e2 a0)) rfl (ui (t := 5) (d := .bp) (bz := .aP 1 []) rfl rfl (.nt _) (by decide) (mi (t := 8) (d := .slice (U.map dU)) rfl (mi (t := 9) (d := .int .i64 (U.length : Int)) rfl (mi (t := 10) (d := .int .i64 0) rfl (uh)))))), ji n [] 0 h⟩)
theorem atB (a0 : dh) (U : List c8) (r : (List UInt8)) (h : Bi a0 U = some r) : bh aE 61 [e2 a0, .slice (U.map dU)] (.str r) [] := by
 refine bR [0, 1] [.tmp 4] Tryz.func61 anf (fun bM an bO => ?_)
 refine ws _ ?_
 refine aJ an (fun et b0 bg ay => ?_)
 obtain ⟨af, ca, h⟩ := aH h
 refine di (atr a0 U _ ca) _ ?_
 refine aU h (fun bE h => ?_) (fun bE h => ?_)
 ·simp only [(cG bE), aj.down]
  refine ws _ ?_
  exact aC (bg _ (.inl (aD [.str ([] : List UInt8)])))
 ·simp only [(bd bE), aj.down]
  refine aW (b0 _ (.inl ?_))
  obtain ⟨ay, hi, h⟩ := aH h
  refine di (atA a0 U _ hi) _ ?_
  exact aC (an _ (.inl (aD [.str ay])))
theorem atC (a0 : cA) (U : cA) (r : Bool) (h : xE a0 U = some r) : bh aE 265 [cq a0, cq U] (.bool r) [] := by
 refine bR [0, 1] [.tmp 4] Tryz.func265 ano (fun bM an bO => ?_)
 refine ws _ ?_
 refine aJ an (fun et b0 bg ay => ?_)
 refine ws _ ?_
 refine aU h (fun bA h => ?_) (fun bA h => ?_)
 ·simp only [bA, aj.down]
  refine ws _ ?_
  exact aC (bg _ (.inl (aD [.bool false])))
 ·simp only [bA, aj.down]
  refine aW (b0 _ (.inl ?_))
  refine aJ an (fun fz eG dI cO => ?_)
  refine ws _ ?_
  refine aU h (fun bQ h => ?_) (fun bQ h => ?_)
  ·simp only [bQ, aj.down]
   refine ws _ ?_
   exact aC (dI _ (.inl (aD [.bool false])))
  ·simp only [bQ, aj.down]
   refine aW (eG _ (.inl ?_))
   refine ws _ ?_
   exact aC (an _ (.inl (aD [.bool true])))
theorem atD (a0 : List cA) (U : List cA) (r : Bool) (h : xF a0 U = some r) : bh aE 205 [.slice (a0.map cq), .slice (U.map cq)] (.bool r) [] := by
 refine bR [0, 1] [.tmp 4] Tryz.func205 anC (fun bM an bO => ?_)
 refine ws _ ?_
 refine aJ an (fun et b0 bg ay => ?_)
 refine ws _ ?_
 refine aU h (fun bA h => ?_) (fun bA h => ?_)
 ·simp only [bA, aj.down]
  refine ws _ ?_
  exact aC (bg _ (.inl (aD [.bool false])))
 ·simp only [bA, aj.down]
  refine aW (b0 _ (.inl ?_))
  refine aJ an (fun fz eG dI cO => ?_)
  refine ws _ ?_
  refine bJ dI (fun hx hn hc bQ fP => ?_)
  have hy : ∀ (n : Nat) (bC : Int), Bj a0 U n bC = some r → dE aE MD hx (aa [(0, .slice (a0.map cq)), (1, .slice (U.map cq)), (5, .int .i64 bC)]) := by
   intro m14
   induction m14 with
   | zero => intro bC h; cases (show none = some r from h)
   | succ m14 hf =>
    intro bC h
    replace h : K5 (Bj a0 U m14) a0 U bC = some r := h
    refine ea hc (fun ev c_ cw dF => ?_)
    refine aJ cw (fun ff cE cx da => ?_)
    refine ws _ ?_
    refine aU h (fun dj h => ?_) (fun dj h => ?_)
    ·simp only [dj, aj.down]
     refine aW (cE _ (.inl ?_))
     refine aJ cw (fun lx hd gF kC => ?_)
     refine bJ gF (fun ib eP eB eX iE => ?_)
     obtain ⟨af, bY, h⟩ := aH h
     obtain ⟨ay, dM, h⟩ := aH h
     obtain ⟨a6, eK, h⟩ := aH h
     refine fG rfl (fq [(0, .slice (a0.map cq)), (1, .slice (U.map cq)), (5, .int .i64 bC), (26, .bool (!a6))] (fun P ak => ?_) ?_)
     ·simp only [ct.down, simprocAttr, ot.down, bY, dM]
      refine gS (atC af ay _ eK) rfl rfl rfl rfl (.inl (by rfl)) ?_
      simp only [ct.down, simprocAttr, ot.down, bY, dM]
      refine ⟨fk (by kernel_rfl), ?_⟩
      (try simp only [bn.down, simprocAttr, cq, bY, dM] at ak ⊢); exact ak
     refine aU h (fun eW h => ?_) (fun eW h => ?_)
     ·simp only [(cG eW), aj.down]
      refine ws _ ?_
      exact aC (eB _ (.inl (aD [.bool false])))
     ·simp only [(bd eW), aj.down]
      refine aW (eP _ (hd _ (.inl ?_)))
      refine wr _ ?_
      exact c_ _ (.inr ⟨_, bs rfl, hf (IntKind.i64.wrap (bC + 1)) h⟩)
    ·simp only [dj, aj.down]
     refine dY (da 0 _ (dF 0 _ (bQ _ (eG _ (.inl ?_)))))
     refine ws _ ?_
     exact aC (an _ (.inl (aD [.bool true])))
  obtain ⟨n, h⟩ := dR h
  exact dZ (.inr ⟨_, bs rfl, hy n 0 h⟩)
theorem atE (a0 : List (List cA)) (U : List (List cA)) (r : Bool) (h : Bl a0 U = some r) : bh aE 206 [.slice (a0.map en), .slice (U.map en)] (.bool r) [] := by
 refine bR [0, 1] [.tmp 4] Tryz.func206 anP (fun bM an bO => ?_)
 refine ws _ ?_
 refine aJ an (fun et b0 bg ay => ?_)
 refine ws _ ?_
 refine aU h (fun bA h => ?_) (fun bA h => ?_)
 ·simp only [bA, aj.down]
  refine ws _ ?_
  exact aC (bg _ (.inl (aD [.bool false])))
 ·simp only [bA, aj.down]
  refine aW (b0 _ (.inl ?_))
  refine aJ an (fun fz eG dI cO => ?_)
  refine ws _ ?_
  refine bJ dI (fun hx hn hc bQ fP => ?_)
  have hy : ∀ (n : Nat) (bC : Int), Bk a0 U n bC = some r → dE aE ME hx (aa [(0, .slice (a0.map en)), (1, .slice (U.map en)), (5, .int .i64 bC)]) := by
   intro m14
   induction m14 with
   | zero => intro bC h; cases (show none = some r from h)
   | succ m14 hf =>
    intro bC h
    replace h : K6 (Bk a0 U m14) a0 U bC = some r := h
    refine ea hc (fun ev c_ cw dF => ?_)
    refine aJ cw (fun ff cE cx da => ?_)
    refine ws _ ?_
    refine aU h (fun dj h => ?_) (fun dj h => ?_)
    ·simp only [dj, aj.down]
     refine aW (cE _ (.inl ?_))
     refine aJ cw (fun lx hd gF kC => ?_)
     refine bJ gF (fun ib eP eB eX iE => ?_)
     obtain ⟨af, bY, h⟩ := aH h
     obtain ⟨ay, dM, h⟩ := aH h
     obtain ⟨a6, eK, h⟩ := aH h
     refine fG rfl (fq [(0, .slice (a0.map en)), (1, .slice (U.map en)), (5, .int .i64 bC), (26, .bool (!a6))] (fun P ak => ?_) ?_)
     ·simp only [ct.down, simprocAttr, dS, gp, gT, fZ, cq, en, bY, dM]
      refine gS (atD af ay _ eK) rfl rfl rfl rfl (.inl (by rfl)) ?_
      simp only [ct.down, simprocAttr, dS, gp, gT, fZ, cq, en, bY, dM]
      refine ⟨fk (by kernel_rfl), ?_⟩
      (try simp only [bn.down, simprocAttr, cq, en, bY, dM] at ak ⊢); exact ak
     refine aU h (fun eW h => ?_) (fun eW h => ?_)
     ·simp only [(cG eW), aj.down]
      refine ws _ ?_
      exact aC (eB _ (.inl (aD [.bool false])))
     ·simp only [(bd eW), aj.down]
      refine aW (eP _ (hd _ (.inl ?_)))
      refine wr _ ?_
      exact c_ _ (.inr ⟨_, bs rfl, hf (IntKind.i64.wrap (bC + 1)) h⟩)
    ·simp only [dj, aj.down]
     refine dY (da 0 _ (dF 0 _ (bQ _ (eG _ (.inl ?_)))))
     refine ws _ ?_
     exact aC (an _ (.inl (aD [.bool true])))
  obtain ⟨n, h⟩ := dR h
  exact dZ (.inr ⟨_, bs rfl, hy n 0 h⟩)
theorem atF (a0 : b7) (U : b7) (r : Bool) (h : xG a0 U = some r) : bh aE 245 [cc a0, cc U] (.bool r) [] := by
 refine bR [0, 1] [.tmp 4] Tryz.func245 an4 (fun bM an bO => ?_)
 refine ws _ ?_
 refine aJ an (fun et b0 bg ay => ?_)
 refine ws _ ?_
 refine aU h (fun bA h => ?_) (fun bA h => ?_)
 ·simp only [bA, aj.down]
  refine ws _ ?_
  exact aC (bg _ (.inl (aD [.bool false])))
 ·simp only [bA, aj.down]
  refine aW (b0 _ (.inl ?_))
  refine aJ an (fun fz eG dI cO => ?_)
  refine ws _ ?_
  refine aU h (fun bQ h => ?_) (fun bQ h => ?_)
  ·simp only [bQ, aj.down]
   refine ws _ ?_
   exact aC (dI _ (.inl (aD [.bool false])))
  ·simp only [bQ, aj.down]
   refine aW (eG _ (.inl ?_))
   refine aJ an (fun ff cE cx da => ?_)
   refine ws _ ?_
   refine aU h (fun dj h => ?_) (fun dj h => ?_)
   ·simp only [dj, aj.down]
    refine ws _ ?_
    exact aC (cx _ (.inl (aD [.bool false])))
   ·simp only [dj, aj.down]
    refine aW (cE _ (.inl ?_))
    refine aJ an (fun ib eP eB iE => ?_)
    obtain ⟨af, bY, h⟩ := aH h
    refine di (atE a0.dz U.dz _ bY) _ ?_
    refine aU h (fun hZ h => ?_) (fun hZ h => ?_)
    ·simp only [(cG hZ), aj.down]
     refine ws _ ?_
     exact aC (eB _ (.inl (aD [.bool false])))
    ·simp only [(bd hZ), aj.down]
     refine aW (eP _ (.inl ?_))
     refine ws _ ?_
     exact aC (an _ (.inl (aD [.bool true])))
theorem atG (a0 : List b7) (U : List b7) (r : Bool) (h : Bn a0 U = some r) : bh aE 165 [.slice (a0.map cc), .slice (U.map cc)] (.bool r) [] := by
 refine bR [0, 1] [.tmp 4] Tryz.func165 aog (fun bM an bO => ?_)
 refine ws _ ?_
 refine aJ an (fun et b0 bg ay => ?_)
 refine ws _ ?_
 refine aU h (fun bA h => ?_) (fun bA h => ?_)
 ·simp only [bA, aj.down]
  refine ws _ ?_
  exact aC (bg _ (.inl (aD [.bool false])))
 ·simp only [bA, aj.down]
  refine aW (b0 _ (.inl ?_))
  refine aJ an (fun fz eG dI cO => ?_)
  refine ws _ ?_
  refine bJ dI (fun hx hn hc bQ fP => ?_)
  have hy : ∀ (n : Nat) (bC : Int), Bm a0 U n bC = some r → dE aE MF hx (aa [(0, .slice (a0.map cc)), (1, .slice (U.map cc)), (5, .int .i64 bC)]) := by
   intro m14
   induction m14 with
   | zero => intro bC h; cases (show none = some r from h)
   | succ m14 hf =>
    intro bC h
    replace h : K7 (Bm a0 U m14) a0 U bC = some r := h
    refine ea hc (fun ev c_ cw dF => ?_)
    refine aJ cw (fun ff cE cx da => ?_)
    refine ws _ ?_
    refine aU h (fun dj h => ?_) (fun dj h => ?_)
    ·simp only [dj, aj.down]
     refine aW (cE _ (.inl ?_))
     refine aJ cw (fun lx hd gF kC => ?_)
     refine bJ gF (fun ib eP eB eX iE => ?_)
     obtain ⟨af, bY, h⟩ := aH h
     obtain ⟨ay, dM, h⟩ := aH h
     obtain ⟨a6, eK, h⟩ := aH h
     refine fG rfl (fq [(0, .slice (a0.map cc)), (1, .slice (U.map cc)), (5, .int .i64 bC), (26, .bool (!a6))] (fun P ak => ?_) ?_)
     ·simp only [ct.down, simprocAttr, BG.down, bY, dM]
      refine gS (atF af ay _ eK) rfl rfl rfl rfl (.inl (by rfl)) ?_
      simp only [ct.down, simprocAttr, BG.down, bY, dM]
      refine ⟨fk (by kernel_rfl), ?_⟩
      (try simp only [bn.down, simprocAttr, mq.down, bY, dM] at ak ⊢); exact ak
     refine aU h (fun eW h => ?_) (fun eW h => ?_)
     ·simp only [(cG eW), aj.down]
      refine ws _ ?_
      exact aC (eB _ (.inl (aD [.bool false])))
     ·simp only [(bd eW), aj.down]
      refine aW (eP _ (hd _ (.inl ?_)))
      refine wr _ ?_
      exact c_ _ (.inr ⟨_, bs rfl, hf (IntKind.i64.wrap (bC + 1)) h⟩)
    ·simp only [dj, aj.down]
     refine dY (da 0 _ (dF 0 _ (bQ _ (eG _ (.inl ?_)))))
     refine ws _ ?_
     exact aC (an _ (.inl (aD [.bool true])))
  obtain ⟨n, h⟩ := dR h
  exact dZ (.inr ⟨_, bs rfl, hy n 0 h⟩)
theorem atH (a0 : bm) (U : bm) (r : Bool) (h : xH a0 U = some r) : bh aE 102 [bq a0, bq U] (.bool r) [] := by
 refine bR [0, 1] [.tmp 4] Tryz.func102 aos (fun bM an bO => ?_)
 refine ws _ ?_
 refine aJ an (fun et b0 bg ay => ?_)
 refine ws _ ?_
 refine aU h (fun bA h => ?_) (fun bA h => ?_)
 ·simp only [bA, aj.down]
  refine ws _ ?_
  exact aC (bg _ (.inl (aD [.bool false])))
 ·simp only [bA, aj.down]
  refine aW (b0 _ (.inl ?_))
  refine aJ an (fun fz eG dI cO => ?_)
  refine ws _ ?_
  refine aU h (fun bQ h => ?_) (fun bQ h => ?_)
  ·simp only [bQ, aj.down]
   refine ws _ ?_
   exact aC (dI _ (.inl (aD [.bool false])))
  ·simp only [bQ, aj.down]
   refine aW (eG _ (.inl ?_))
   refine aJ an (fun ff cE cx da => ?_)
   obtain ⟨af, iJ, h⟩ := aH h
   refine di (atG a0.Body U.Body _ iJ) _ ?_
   refine aU h (fun dd h => ?_) (fun dd h => ?_)
   ·simp only [(cG dd), aj.down]
    refine ws _ ?_
    exact aC (cx _ (.inl (aD [.bool false])))
   ·simp only [(bd dd), aj.down]
    refine aW (cE _ (.inl ?_))
    refine ws _ ?_
    exact aC (an _ (.inl (aD [.bool true])))
theorem atI (a0 : List bm) (U : List bm) (r : Bool) (h : xI a0 U = some r) : bh aE 50 [.slice (a0.map bq), .slice (U.map bq)] (.bool r) [] := by
 refine bR [0, 1] [.tmp 4] Tryz.func50 aoF (fun bM an bO => ?_)
 refine ws _ ?_
 refine aJ an (fun et b0 bg ay => ?_)
 refine ws _ ?_
 refine aU h (fun bA h => ?_) (fun bA h => ?_)
 ·simp only [bA, aj.down]
  refine ws _ ?_
  exact aC (bg _ (.inl (aD [.bool false])))
 ·simp only [bA, aj.down]
  refine aW (b0 _ (.inl ?_))
  refine aJ an (fun fz eG dI cO => ?_)
  refine ws _ ?_
  refine bJ dI (fun hx hn hc bQ fP => ?_)
  have hy : ∀ (n : Nat) (bC : Int), Bo a0 U n bC = some r → dE aE MG hx (aa [(0, .slice (a0.map bq)), (1, .slice (U.map bq)), (5, .int .i64 bC)]) := by
   intro m14
   induction m14 with
   | zero => intro bC h; cases (show none = some r from h)
   | succ m14 hf =>
    intro bC h
    replace h : K8 (Bo a0 U m14) a0 U bC = some r := h
    refine ea hc (fun ev c_ cw dF => ?_)
    refine aJ cw (fun ff cE cx da => ?_)
    refine ws _ ?_
    refine aU h (fun dj h => ?_) (fun dj h => ?_)
    ·simp only [dj, aj.down]
     refine aW (cE _ (.inl ?_))
     refine aJ cw (fun lx hd gF kC => ?_)
     refine bJ gF (fun ib eP eB eX iE => ?_)
     obtain ⟨af, bY, h⟩ := aH h
     obtain ⟨ay, dM, h⟩ := aH h
     obtain ⟨a6, eK, h⟩ := aH h
     refine fG rfl (fq [(0, .slice (a0.map bq)), (1, .slice (U.map bq)), (5, .int .i64 bC), (26, .bool (!a6))] (fun P ak => ?_) ?_)
     ·simp only [ct.down, simprocAttr, iW.down, bY, dM]
      refine gS (atH af ay _ eK) rfl rfl rfl rfl (.inl (by rfl)) ?_
      simp only [ct.down, simprocAttr, iW.down, bY, dM]
      refine ⟨fk (by kernel_rfl), ?_⟩
      (try simp only [bn.down, simprocAttr, h9.down, bY, dM] at ak ⊢); exact ak
     refine aU h (fun eW h => ?_) (fun eW h => ?_)
     ·simp only [(cG eW), aj.down]
      refine ws _ ?_
      exact aC (eB _ (.inl (aD [.bool false])))
     ·simp only [(bd eW), aj.down]
      refine aW (eP _ (hd _ (.inl ?_)))
      refine wr _ ?_
      exact c_ _ (.inr ⟨_, bs rfl, hf (IntKind.i64.wrap (bC + 1)) h⟩)
    ·simp only [dj, aj.down]
     refine dY (da 0 _ (dF 0 _ (bQ _ (eG _ (.inl ?_)))))
     refine ws _ ?_
     exact aC (an _ (.inl (aD [.bool true])))
  obtain ⟨n, h⟩ := dR h
  exact dZ (.inr ⟨_, bs rfl, hy n 0 h⟩)
theorem Nv (a0 : List Int) (U : List Int) (r : Bool) (h : xJ a0 U = some r) : bh aE 18 [.slice (a0.map bD), .slice (U.map bD)] (.bool r) [] := by
 refine bR [0, 1] [.tmp 4] Tryz.func18 aoS (fun bM an bO => ?_)
 refine ws _ ?_
 refine aJ an (fun et b0 bg ay => ?_)
 refine ws _ ?_
 refine aU h (fun bA h => ?_) (fun bA h => ?_)
 ·simp only [bA, aj.down]
  refine ws _ ?_
  exact aC (bg _ (.inl (aD [.bool false])))
 ·simp only [bA, aj.down]
  refine aW (b0 _ (.inl ?_))
  refine aJ an (fun fz eG dI cO => ?_)
  refine ws _ ?_
  refine bJ dI (fun hx hn hc bQ fP => ?_)
  have hy : ∀ (n : Nat) (bC : Int), Bp a0 U n bC = some r → dE aE MH hx (aa [(0, .slice (a0.map bD)), (1, .slice (U.map bD)), (5, .int .i64 bC)]) := by
   intro m14
   induction m14 with
   | zero => intro bC h; cases (show none = some r from h)
   | succ m14 hf =>
    intro bC h
    replace h : K9 (Bp a0 U m14) a0 U bC = some r := h
    refine ea hc (fun ev c_ cw dF => ?_)
    refine aJ cw (fun ff cE cx da => ?_)
    refine ws _ ?_
    refine aU h (fun dj h => ?_) (fun dj h => ?_)
    ·simp only [dj, aj.down]
     refine aW (cE _ (.inl ?_))
     refine aJ cw (fun lx hd gF kC => ?_)
     refine bJ gF (fun ib eP eB eX iE => ?_)
     obtain ⟨af, bY, h⟩ := aH h
     obtain ⟨ay, dM, h⟩ := aH h
     refine fG rfl (fq [(0, .slice (a0.map bD)), (1, .slice (U.map bD)), (5, .int .i64 bC), (25, .bool (af != ay))] (fun P ak => ?_) ?_)
     ·simp only [ct.down, simprocAttr, dS, g_, bD, bY, dM]
      refine ⟨fk (by kernel_rfl), ?_⟩
      (try simp only [bn.down, simprocAttr, bD, bY, dM] at ak ⊢); exact ak
     refine aU h (fun e8 h => ?_) (fun e8 h => ?_)
     ·simp only [e8, aj.down]
      refine ws _ ?_
      exact aC (eB _ (.inl (aD [.bool false])))
     ·simp only [e8, aj.down]
      refine aW (eP _ (hd _ (.inl ?_)))
      refine wr _ ?_
      exact c_ _ (.inr ⟨_, bs rfl, hf (IntKind.i64.wrap (bC + 1)) h⟩)
    ·simp only [dj, aj.down]
     refine dY (da 0 _ (dF 0 _ (bQ _ (eG _ (.inl ?_)))))
     refine ws _ ?_
     exact aC (an _ (.inl (aD [.bool true])))
  obtain ⟨n, h⟩ := dR h
  exact dZ (.inr ⟨_, bs rfl, hy n 0 h⟩)
theorem atJ (a0 : eF) (U : eF) (r : Bool) (h : xK a0 U = some r) : bh aE 179 [e7 a0, e7 U] (.bool r) [] := by
 refine bR [0, 1] [.tmp 4] Tryz.func179 ao1 (fun bM an bO => ?_)
 refine ws _ ?_
 refine aJ an (fun et b0 bg ay => ?_)
 refine ws _ ?_
 refine aU h (fun bA h => ?_) (fun bA h => ?_)
 ·simp only [bA, aj.down]
  refine ws _ ?_
  exact aC (bg _ (.inl (aD [.bool false])))
 ·simp only [bA, aj.down]
  refine aW (b0 _ (.inl ?_))
  refine aJ an (fun fz eG dI cO => ?_)
  obtain ⟨af, hi, h⟩ := aH h
  refine di (Nv a0.cX U.cX _ hi) _ ?_
  refine aU h (fun ed h => ?_) (fun ed h => ?_)
  ·simp only [(cG ed), aj.down]
   refine ws _ ?_
   exact aC (dI _ (.inl (aD [.bool false])))
  ·simp only [(bd ed), aj.down]
   refine aW (eG _ (.inl ?_))
   refine ws _ ?_
   exact aC (an _ (.inl (aD [.bool true])))
theorem atK (a0 : List eF) (U : List eF) (r : Bool) (h : Br a0 U = some r) : bh aE 112 [.slice (a0.map e7), .slice (U.map e7)] (.bool r) [] := by
 refine bR [0, 1] [.tmp 4] Tryz.func112 apd (fun bM an bO => ?_)
 refine ws _ ?_
 refine aJ an (fun et b0 bg ay => ?_)
 refine ws _ ?_
 refine aU h (fun bA h => ?_) (fun bA h => ?_)
 ·simp only [bA, aj.down]
  refine ws _ ?_
  exact aC (bg _ (.inl (aD [.bool false])))
 ·simp only [bA, aj.down]
  refine aW (b0 _ (.inl ?_))
  refine aJ an (fun fz eG dI cO => ?_)
  refine ws _ ?_
  refine bJ dI (fun hx hn hc bQ fP => ?_)
  have hy : ∀ (n : Nat) (bC : Int), Bq a0 U n bC = some r → dE aE MI hx (aa [(0, .slice (a0.map e7)), (1, .slice (U.map e7)), (5, .int .i64 bC)]) := by
   intro m14
   induction m14 with
   | zero => intro bC h; cases (show none = some r from h)
   | succ m14 hf =>
    intro bC h
    replace h : K_ (Bq a0 U m14) a0 U bC = some r := h
    refine ea hc (fun ev c_ cw dF => ?_)
    refine aJ cw (fun ff cE cx da => ?_)
    refine ws _ ?_
    refine aU h (fun dj h => ?_) (fun dj h => ?_)
    ·simp only [dj, aj.down]
     refine aW (cE _ (.inl ?_))
     refine aJ cw (fun lx hd gF kC => ?_)
     refine bJ gF (fun ib eP eB eX iE => ?_)
     obtain ⟨af, bY, h⟩ := aH h
     obtain ⟨ay, dM, h⟩ := aH h
     obtain ⟨a6, eK, h⟩ := aH h
     refine fG rfl (fq [(0, .slice (a0.map e7)), (1, .slice (U.map e7)), (5, .int .i64 bC), (26, .bool (!a6))] (fun P ak => ?_) ?_)
     ·simp only [ct.down, simprocAttr, dS, g_, nw, mL, bD, e7, bY, dM]
      refine gS (atJ af ay _ eK) rfl rfl rfl rfl (.inl (by rfl)) ?_
      simp only [ct.down, simprocAttr, dS, g_, nw, mL, bD, e7, bY, dM]
      refine ⟨fk (by kernel_rfl), ?_⟩
      (try simp only [bn.down, simprocAttr, bD, e7, bY, dM] at ak ⊢); exact ak
     refine aU h (fun eW h => ?_) (fun eW h => ?_)
     ·simp only [(cG eW), aj.down]
      refine ws _ ?_
      exact aC (eB _ (.inl (aD [.bool false])))
     ·simp only [(bd eW), aj.down]
      refine aW (eP _ (hd _ (.inl ?_)))
      refine wr _ ?_
      exact c_ _ (.inr ⟨_, bs rfl, hf (IntKind.i64.wrap (bC + 1)) h⟩)
    ·simp only [dj, aj.down]
     refine dY (da 0 _ (dF 0 _ (bQ _ (eG _ (.inl ?_)))))
     refine ws _ ?_
     exact aC (an _ (.inl (aD [.bool true])))
  obtain ⟨n, h⟩ := dR h
  exact dZ (.inr ⟨_, bs rfl, hy n 0 h⟩)
theorem atL (a0 : c2) (U : c2) (r : Bool) (h : xL a0 U = some r) : bh aE 180 [bB a0, bB U] (.bool r) [] := by
 refine bR [0, 1] [.tmp 4] Tryz.func180 apq (fun bM an bO => ?_)
 refine ws _ ?_
 refine aJ an (fun et b0 bg ay => ?_)
 refine ws _ ?_
 refine aU h (fun bA h => ?_) (fun bA h => ?_)
 ·simp only [bA, aj.down]
  refine ws _ ?_
  exact aC (bg _ (.inl (aD [.bool false])))
 ·simp only [bA, aj.down]
  refine aW (b0 _ (.inl ?_))
  refine aJ an (fun fz eG dI cO => ?_)
  refine ws _ ?_
  refine aU h (fun bQ h => ?_) (fun bQ h => ?_)
  ·simp only [bQ, aj.down]
   refine ws _ ?_
   exact aC (dI _ (.inl (aD [.bool false])))
  ·simp only [bQ, aj.down]
   refine aW (eG _ (.inl ?_))
   refine aJ an (fun ff cE cx da => ?_)
   refine ws _ ?_
   refine aU h (fun dj h => ?_) (fun dj h => ?_)
   ·simp only [dj, aj.down]
    refine ws _ ?_
    exact aC (cx _ (.inl (aD [.bool false])))
   ·simp only [dj, aj.down]
    refine aW (cE _ (.inl ?_))
    refine ws _ ?_
    exact aC (an _ (.inl (aD [.bool true])))
theorem atM (a0 : List c2) (U : List c2) (r : Bool) (h : Bt a0 U = some r) : bh aE 113 [.slice (a0.map bB), .slice (U.map bB)] (.bool r) [] := by
 refine bR [0, 1] [.tmp 4] Tryz.func113 apD (fun bM an bO => ?_)
 refine ws _ ?_
 refine aJ an (fun et b0 bg ay => ?_)
 refine ws _ ?_
 refine aU h (fun bA h => ?_) (fun bA h => ?_)
 ·simp only [bA, aj.down]
  refine ws _ ?_
  exact aC (bg _ (.inl (aD [.bool false])))
 ·simp only [bA, aj.down]
  refine aW (b0 _ (.inl ?_))
  refine aJ an (fun fz eG dI cO => ?_)
  refine ws _ ?_
  refine bJ dI (fun hx hn hc bQ fP => ?_)
  have hy : ∀ (n : Nat) (bC : Int), Bs a0 U n bC = some r → dE aE MJ hx (aa [(0, .slice (a0.map bB)), (1, .slice (U.map bB)), (5, .int .i64 bC)]) := by
   intro m14
   induction m14 with
   | zero => intro bC h; cases (show none = some r from h)
   | succ m14 hf =>
    intro bC h
    replace h : La (Bs a0 U m14) a0 U bC = some r := h
    refine ea hc (fun ev c_ cw dF => ?_)
    refine aJ cw (fun ff cE cx da => ?_)
    refine ws _ ?_
    refine aU h (fun dj h => ?_) (fun dj h => ?_)
    ·simp only [dj, aj.down]
     refine aW (cE _ (.inl ?_))
     refine aJ cw (fun lx hd gF kC => ?_)
     refine bJ gF (fun ib eP eB eX iE => ?_)
     obtain ⟨af, bY, h⟩ := aH h
     obtain ⟨ay, dM, h⟩ := aH h
     obtain ⟨a6, eK, h⟩ := aH h
     refine fG rfl (fq [(0, .slice (a0.map bB)), (1, .slice (U.map bB)), (5, .int .i64 bC), (26, .bool (!a6))] (fun P ak => ?_) ?_)
     ·simp only [ct.down, simprocAttr, h_.down, bY, dM]
      refine gS (atL af ay _ eK) rfl rfl rfl rfl (.inl (by rfl)) ?_
      simp only [ct.down, simprocAttr, h_.down, bY, dM]
      refine ⟨fk (by kernel_rfl), ?_⟩
      (try simp only [bn.down, simprocAttr, bB, bY, dM] at ak ⊢); exact ak
     refine aU h (fun eW h => ?_) (fun eW h => ?_)
     ·simp only [(cG eW), aj.down]
      refine ws _ ?_
      exact aC (eB _ (.inl (aD [.bool false])))
     ·simp only [(bd eW), aj.down]
      refine aW (eP _ (hd _ (.inl ?_)))
      refine wr _ ?_
      exact c_ _ (.inr ⟨_, bs rfl, hf (IntKind.i64.wrap (bC + 1)) h⟩)
    ·simp only [dj, aj.down]
     refine dY (da 0 _ (dF 0 _ (bQ _ (eG _ (.inl ?_)))))
     refine ws _ ?_
     exact aC (an _ (.inl (aD [.bool true])))
  obtain ⟨n, h⟩ := dR h
  exact dZ (.inr ⟨_, bs rfl, hy n 0 h⟩)
theorem Nw (a0 : List (List UInt8)) (U : List (List UInt8)) (r : Bool) (h : xM a0 U = some r) : bh aE 32 [.slice (a0.map bw), .slice (U.map bw)] (.bool r) [] := by
 refine bR [0, 1] [.tmp 4] Tryz.func32 apQ (fun bM an bO => ?_)
 refine ws _ ?_
 refine aJ an (fun et b0 bg ay => ?_)
 refine ws _ ?_
 refine aU h (fun bA h => ?_) (fun bA h => ?_)
 ·simp only [bA, aj.down]
  refine ws _ ?_
  exact aC (bg _ (.inl (aD [.bool false])))
 ·simp only [bA, aj.down]
  refine aW (b0 _ (.inl ?_))
  refine aJ an (fun fz eG dI cO => ?_)
  refine ws _ ?_
  refine bJ dI (fun hx hn hc bQ fP => ?_)
  have hy : ∀ (n : Nat) (bC : Int), Bu a0 U n bC = some r → dE aE MK hx (aa [(0, .slice (a0.map bw)), (1, .slice (U.map bw)), (5, .int .i64 bC)]) := by
   intro m14
   induction m14 with
   | zero => intro bC h; cases (show none = some r from h)
   | succ m14 hf =>
    intro bC h
    replace h : Lb (Bu a0 U m14) a0 U bC = some r := h
    refine ea hc (fun ev c_ cw dF => ?_)
    refine aJ cw (fun ff cE cx da => ?_)
    refine ws _ ?_
    refine aU h (fun dj h => ?_) (fun dj h => ?_)
    ·simp only [dj, aj.down]
     refine aW (cE _ (.inl ?_))
     refine aJ cw (fun lx hd gF kC => ?_)
     refine bJ gF (fun ib eP eB eX iE => ?_)
     obtain ⟨af, bY, h⟩ := aH h
     obtain ⟨ay, dM, h⟩ := aH h
     refine fG rfl (fq [(0, .slice (a0.map bw)), (1, .slice (U.map bw)), (5, .int .i64 bC), (25, .bool (!(af == ay)))] (fun P ak => ?_) ?_)
     ·simp only [ct.down, simprocAttr, ez, kj, bw, bY, dM]
      refine ⟨fk (by kernel_rfl), ?_⟩
      (try simp only [bn.down, simprocAttr, bw, bY, dM] at ak ⊢); exact ak
     refine aU h (fun e8 h => ?_) (fun e8 h => ?_)
     ·simp only [e8, aj.down]
      refine ws _ ?_
      exact aC (eB _ (.inl (aD [.bool false])))
     ·simp only [e8, aj.down]
      refine aW (eP _ (hd _ (.inl ?_)))
      refine wr _ ?_
      exact c_ _ (.inr ⟨_, bs rfl, hf (IntKind.i64.wrap (bC + 1)) h⟩)
    ·simp only [dj, aj.down]
     refine dY (da 0 _ (dF 0 _ (bQ _ (eG _ (.inl ?_)))))
     refine ws _ ?_
     exact aC (an _ (.inl (aD [.bool true])))
  obtain ⟨n, h⟩ := dR h
  exact dZ (.inr ⟨_, bs rfl, hy n 0 h⟩)
theorem atN (a0 : dh) (U : dh) (r : Bool) (h : xN a0 U = some r) : bh aE 62 [e2 a0, e2 U] (.bool r) [] := by
 refine bR [0, 1] [.tmp 4] Tryz.func62 sD (fun bM an bO => ?_)
 refine ws _ ?_
 refine aJ an (fun et b0 bg ay => ?_)
 obtain ⟨af, ca, h⟩ := aH h
 refine di (atI a0.df U.df _ ca) _ ?_
 refine aU h (fun bE h => ?_) (fun bE h => ?_)
 ·simp only [(cG bE), aj.down]
  refine ws _ ?_
  exact aC (bg _ (.inl (aD [.bool false])))
 ·simp only [(bd bE), aj.down]
  refine aW (b0 _ (.inl ?_))
  refine aJ an (fun gy dn dx cH => ?_)
  obtain ⟨ay, ln, h⟩ := aH h
  refine di (atK a0.cY U.cY _ ln) _ ?_
  refine aU h (fun cP h => ?_) (fun cP h => ?_)
  ·simp only [(cG cP), aj.down]
   refine ws _ ?_
   exact aC (dx _ (.inl (aD [.bool false])))
  ·simp only [(bd cP), aj.down]
   refine aW (dn _ (.inl ?_))
   refine aJ an (fun jD f_ ix iV => ?_)
   obtain ⟨a6, dD, h⟩ := aH h
   refine di (atM a0.hR U.hR _ dD) _ ?_
   refine aU h (fun c4 h => ?_) (fun c4 h => ?_)
   ·simp only [(cG c4), aj.down]
    refine ws _ ?_
    exact aC (ix _ (.inl (aD [.bool false])))
   ·simp only [(bd c4), aj.down]
    refine aW (f_ _ (.inl ?_))
    refine aJ an (fun oy jP jQ nI => ?_)
    obtain ⟨bW, hA, h⟩ := aH h
    refine di (Nw a0.hF U.hF _ hA) _ ?_
    refine aU h (fun dN h => ?_) (fun dN h => ?_)
    ·simp only [(cG dN), aj.down]
     refine ws _ ?_
     exact aC (jQ _ (.inl (aD [.bool false])))
    ·simp only [(bd dN), aj.down]
     refine aW (jP _ (.inl ?_))
     refine aJ an (fun x3 ow ox x4 => ?_)
     obtain ⟨cf, jR, h⟩ := aH h
     refine di (Nw a0.hG U.hG _ jR) _ ?_
     refine aU h (fun iY h => ?_) (fun iY h => ?_)
     ·simp only [(cG iY), aj.down]
      refine ws _ ?_
      exact aC (ox _ (.inl (aD [.bool false])))
     ·simp only [(bd iY), aj.down]
      refine aW (ow _ (.inl ?_))
      refine ws _ ?_
      exact aC (an _ (.inl (aD [.bool true])))
theorem atO (a0 : c8) (U : c8) (r : Bool) (h : xO a0 U = some r) : bh aE 51 [dU a0, dU U] (.bool r) [] := by
 refine bR [0, 1] [.tmp 4] Tryz.func51 aqi (fun bM an bO => ?_)
 refine ws _ ?_
 refine aJ an (fun et b0 bg ay => ?_)
 refine ws _ ?_
 refine aU h (fun bA h => ?_) (fun bA h => ?_)
 ·simp only [bA, aj.down]
  refine ws _ ?_
  exact aC (bg _ (.inl (aD [.bool false])))
 ·simp only [bA, aj.down]
  refine aW (b0 _ (.inl ?_))
  refine aJ an (fun fz eG dI cO => ?_)
  refine ws _ ?_
  refine aU h (fun bQ h => ?_) (fun bQ h => ?_)
  ·simp only [bQ, aj.down]
   refine ws _ ?_
   exact aC (dI _ (.inl (aD [.bool false])))
  ·simp only [bQ, aj.down]
   refine aW (eG _ (.inl ?_))
   refine aJ an (fun ff cE cx da => ?_)
   obtain ⟨af, iJ, h⟩ := aH h
   refine di (Nv a0.cX U.cX _ iJ) _ ?_
   refine aU h (fun dd h => ?_) (fun dd h => ?_)
   ·simp only [(cG dd), aj.down]
    refine ws _ ?_
    exact aC (cx _ (.inl (aD [.bool false])))
   ·simp only [(bd dd), aj.down]
    refine aW (cE _ (.inl ?_))
    refine ws _ ?_
    exact aC (an _ (.inl (aD [.bool true])))
theorem atP (a0 : List c8) (U : List c8) (r : Bool) (h : Bw a0 U = some r) : bh aE 63 [.slice (a0.map dU), .slice (U.map dU)] (.bool r) [] := by
 refine bR [0, 1] [.tmp 4] Tryz.func63 aqv (fun bM an bO => ?_)
 refine ws _ ?_
 refine aJ an (fun et b0 bg ay => ?_)
 refine ws _ ?_
 refine aU h (fun bA h => ?_) (fun bA h => ?_)
 ·simp only [bA, aj.down]
  refine ws _ ?_
  exact aC (bg _ (.inl (aD [.bool false])))
 ·simp only [bA, aj.down]
  refine aW (b0 _ (.inl ?_))
  refine aJ an (fun fz eG dI cO => ?_)
  refine ws _ ?_
  refine bJ dI (fun hx hn hc bQ fP => ?_)
  have hy : ∀ (n : Nat) (bC : Int), Bv a0 U n bC = some r → dE aE ML hx (aa [(0, .slice (a0.map dU)), (1, .slice (U.map dU)), (5, .int .i64 bC)]) := by
   intro m14
   induction m14 with
   | zero => intro bC h; cases (show none = some r from h)
   | succ m14 hf =>
    intro bC h
    replace h : Lc (Bv a0 U m14) a0 U bC = some r := h
    refine ea hc (fun ev c_ cw dF => ?_)
    refine aJ cw (fun ff cE cx da => ?_)
    refine ws _ ?_
    refine aU h (fun dj h => ?_) (fun dj h => ?_)
    ·simp only [dj, aj.down]
     refine aW (cE _ (.inl ?_))
     refine aJ cw (fun lx hd gF kC => ?_)
     refine bJ gF (fun ib eP eB eX iE => ?_)
     obtain ⟨af, bY, h⟩ := aH h
     obtain ⟨ay, dM, h⟩ := aH h
     obtain ⟨a6, eK, h⟩ := aH h
     refine fG rfl (fq [(0, .slice (a0.map dU)), (1, .slice (U.map dU)), (5, .int .i64 bC), (26, .bool (!a6))] (fun P ak => ?_) ?_)
     ·simp only [ct.down, simprocAttr, dS, g_, lf, r8, bD, dU, bY, dM]
      refine gS (atO af ay _ eK) rfl rfl rfl rfl (.inl (by rfl)) ?_
      simp only [ct.down, simprocAttr, dS, g_, lf, r8, bD, dU, bY, dM]
      refine ⟨fk (by kernel_rfl), ?_⟩
      (try simp only [bn.down, simprocAttr, bD, dU, bY, dM] at ak ⊢); exact ak
     refine aU h (fun eW h => ?_) (fun eW h => ?_)
     ·simp only [(cG eW), aj.down]
      refine ws _ ?_
      exact aC (eB _ (.inl (aD [.bool false])))
     ·simp only [(bd eW), aj.down]
      refine aW (eP _ (hd _ (.inl ?_)))
      refine wr _ ?_
      exact c_ _ (.inr ⟨_, bs rfl, hf (IntKind.i64.wrap (bC + 1)) h⟩)
    ·simp only [dj, aj.down]
     refine dY (da 0 _ (dF 0 _ (bQ _ (eG _ (.inl ?_)))))
     refine ws _ ?_
     exact aC (an _ (.inl (aD [.bool true])))
  obtain ⟨n, h⟩ := dR h
  exact dZ (.inr ⟨_, bs rfl, hy n 0 h⟩)
theorem atQ (a0 : kx) (U : List iw) (r : Bool) (h : Ff a0 U = some r) : bh aE 10 [mo a0, .slice (U.map hH)] (.bool r) [] := by
 refine bR [0, 1] [.tmp 4] Tryz.func10 pe (fun bM an bO => ?_)
 refine ws _ ?_
 refine ws _ ?_
 obtain ⟨af, ca, h⟩ := aH h
 refine di (ara a0 1048576 _ ca) _ ?_
 refine aJ an (fun iX e3 dW cf => ?_)
 refine ws _ ?_
 refine aU h (fun k5 h => ?_) (fun k5 h => ?_)
 ·simp only [k5, aj.down]
  refine ws _ ?_
  exact aC (dW _ (.inl (aD [.bool true])))
 ·simp only [k5, aj.down]
  refine aW (e3 _ (.inl ?_))
  obtain ⟨ay, n0, h⟩ := aH h
  refine di (arc U af _ n0) _ ?_
  refine aJ an (fun ia eO fI eS => ?_)
  refine ws _ ?_
  refine aU h (fun dd h => ?_) (fun dd h => ?_)
  ·simp only [dd, aj.down]
   refine ws _ ?_
   exact aC (fI _ (.inl (aD [.bool true])))
  ·simp only [dd, aj.down]
   refine aW (eO _ (.inl ?_))
   obtain ⟨a6, bY, h⟩ := aH h
   obtain ⟨bW, dM, h⟩ := aH h
   obtain ⟨cf, eK, h⟩ := aH h
   refine dK (cl [(1, .slice (U.map hH)), (2, .a7 (mo a0)), (6, .str cf)] (fun P ak => ?_) ?_)
   ·simp only [aZ.down, simprocAttr, x2.down]
    refine fw (FB a0 _ bY) rfl rfl rfl rfl (.inl (by rfl)) ?_
    simp only [aZ.down, simprocAttr, x2.down]
    refine fw (FC U _ dM) rfl rfl rfl rfl (.inl (by rfl)) ?_
    simp only [aZ.down, simprocAttr, x2.down]
    refine fw (asC a6 bW _ eK) rfl rfl (by simp only [aZ.down, simprocAttr, x2.down, kg, kh, ki, ef, @cF _ hU bq (fun _ => uT _), @cF _ hV e7 (fun _ => uV _), @cF _ bB bB (fun _ => nE _), @cF _ bw bw (fun _ => jf _), @cF _ bw bw (fun _ => jf _), @cF _ iM dU (fun _ => BF _)] <;> rfl) rfl (.inr (by rfl)) ?_
    simp only [aZ.down, simprocAttr, x2.down]
    (try simp only [bn.down, simprocAttr, Fx.down] at ak ⊢); exact ak
   obtain ⟨cO, ic, h⟩ := aH h
   refine di (FB a0 _ ic) _ ?_
   obtain ⟨cH, hI, h⟩ := aH h
   refine di (FC U _ hI) _ ?_
   obtain ⟨fP, jR, h⟩ := aH h
   refine dK (cl [(1, .slice (U.map hH)), (2, .a7 (mo a0)), (6, .str cf), (7, .a7 (nF cO)), (8, .aP 3 (cH.map iM)), (9, .str fP)] (fun P ak => ?_) ?_)
   ·simp only [aZ.down, simprocAttr, Fy.down]
    refine fw (atB cO cH _ jR) rfl rfl (by simp only [aZ.down, simprocAttr, Fy.down, kg, kh, ki, ef, @cF _ hU bq (fun _ => uT _), @cF _ hV e7 (fun _ => uV _), @cF _ bB bB (fun _ => nE _), @cF _ bw bw (fun _ => jf _), @cF _ bw bw (fun _ => jf _), @cF _ iM dU (fun _ => BF _)] <;> rfl) rfl (.inr (by rfl)) ?_
    simp only [aZ.down, simprocAttr, Fy.down]
    (try simp only [bn.down, simprocAttr, Fx.down] at ak ⊢); exact ak
   refine aJ an (fun Nl yd u5 Nn => ?_)
   refine ws _ ?_
   refine aU h (fun j6 h => ?_) (fun j6 h => ?_)
   ·simp only [j6, aj.down]
    refine ws _ ?_
    exact aC (u5 _ (.inl (aD [.bool false])))
   ·simp only [j6, aj.down]
    refine aW (yd _ (.inl ?_))
    refine aJ an (fun BR sK qZ BS => ?_)
    obtain ⟨dF, sS, h⟩ := aH h
    obtain ⟨da, BW, h⟩ := aH h
    refine fG rfl (fq [(1, .slice (U.map hH)), (8, .aP 3 (cH.map iM)), (39, .bool (!da))] (fun P ak => ?_) ?_)
    ·simp only [ct.down, simprocAttr, BK.down]
     refine gS (FB a0 _ sS) rfl rfl rfl rfl (.inl (by rfl)) ?_
     simp only [ct.down, simprocAttr, BK.down]
     refine gS (atN cO dF _ BW) rfl rfl (by simp only [ct.down, simprocAttr, BK.down, kg, kh, ki, ef, @cF _ hU bq (fun _ => uT _), @cF _ hV e7 (fun _ => uV _), @cF _ bB bB (fun _ => nE _), @cF _ bw bw (fun _ => jf _), @cF _ bw bw (fun _ => jf _), @cF _ hU bq (fun _ => uT _), @cF _ hV e7 (fun _ => uV _), @cF _ bB bB (fun _ => nE _), @cF _ bw bw (fun _ => jf _), @cF _ bw bw (fun _ => jf _)] <;> rfl) rfl (.inr (by rfl)) ?_
     simp only [ct.down, simprocAttr, BK.down]
     refine ⟨fk (by kernel_rfl), ?_⟩
     (try simp only [bn.down, simprocAttr, Fx.down] at ak ⊢); exact ak
    refine aU h (fun hz h => ?_) (fun hz h => ?_)
    ·simp only [(cG hz), aj.down]
     refine ws _ ?_
     exact aC (qZ _ (.inl (aD [.bool false])))
    ·simp only [(bd hz), aj.down]
     refine aW (sK _ (.inl ?_))
     refine aJ an (fun arL FR FT arM => ?_)
     obtain ⟨eS, sL, h⟩ := aH h
     obtain ⟨iV, FU, h⟩ := aH h
     refine dK (cl [(44, .bool (!iV))] (fun P ak => ?_) ?_)
     ·simp only [aZ.down, simprocAttr, uW.down]
      refine fw (FC U _ sL) rfl rfl rfl rfl (.inl (by rfl)) ?_
      simp only [aZ.down, simprocAttr, uW.down]
      refine fw (atP cH eS _ FU) rfl rfl (by simp only [aZ.down, simprocAttr, uW.down, kg, kh, ki, ef, @cF _ iM dU (fun _ => BF _), @cF _ iM dU (fun _ => BF _)] <;> rfl) rfl (.inr (by rfl)) ?_
      simp only [aZ.down, simprocAttr, uW.down]
      (try simp only [bn.down, simprocAttr, uW.down] at ak ⊢); exact ak
     refine aU h (fun mu h => ?_) (fun mu h => ?_)
     ·simp only [(cG mu), aj.down]
      refine ws _ ?_
      exact aC (FT _ (.inl (aD [.bool false])))
     ·simp only [(bd mu), aj.down]
      refine aW (FR _ (.inl ?_))
      refine ws _ ?_
      exact aC (an _ (.inl (aD [.bool true])))
end Go.Proofs.YtgpmnlkgmadglaaGreatDoor
