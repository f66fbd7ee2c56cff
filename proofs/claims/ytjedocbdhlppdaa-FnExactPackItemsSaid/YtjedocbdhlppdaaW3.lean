/- Part of a proof that a law returns true for every input. No condition. -/
import Derived.Test.YtjedocbdhlppdaaSl
namespace Go.Proofs.Ytjedocbdhlppdaa
open Go Go.b1 Go.fg
set_option maxRecDepth 100000
set_option maxHeartbeats 1600000
set_option linter.unusedSimpArgs false
set_option linter.unusedVariables false
theorem fi (fx : List Nat) (dJ : List ResultVar) {f : FuncId} {fn : Func} {c : Code} {c2 : ao} {ins outs : List j} {r : j} (bb : a7.P.funcs[f]? = some fn) (R : cz ⟨fn.ntmps, fx⟩ c = some c2.strip)
 (tY : ∀ Q : Exit → ae → Prop, (∀ s, dA (b1.Ends a7 fx dJ r outs) s → Q .ret s) → (∀ s, dA (b1.Ends a7 fx dJ r outs) s → Q .normal s) → b9 a7 c2 Q (I (num 0 ins))) (J : fn.body = some c := by rfl) (hH : (fn.name == "runtime.NumGoroutine") = false := by rfl) (aL : ins.length ≤ fn.ntmps := by exact Nat.le_of_ble_eq_true rfl) (el : fn.results.toList = dJ := by rfl) (al : c2.plain = true := by kernel_rfl) : b3 a7 f ins r outs :=
 b3.zm FN dJ (num 0 ins) bb J hH R aL el rfl tY al
def gk := PLift.up (And.intro @eW (And.intro @rN (And.intro @qf (And.intro @rO (And.intro @k3 (And.intro @FO (And.intro @bP.eq_1 @eX.eq_1)))))))
theorem ws {Q : Exit → ae → Prop} {l : List (Nat × j)} {ros : List bf} {k : List Nat} {b : ao} (cZ : List (Nat × j)) (ai : b9 a7 b Q (I cZ)) (h : ∀ P : List (Nat × j) → Prop, P cZ → bu a7 (I l) ros none (fun _ s => P (fA k s)) := by
 intro P aW
 simp only [cm.down, simprocAttr, gk.down]
 (try simp only [cS.down, simprocAttr, gk.down] at aW ⊢)
 exact aW) : b9 a7 (.seq (.aE ros (some k)) b) Q (I l) :=
 fK (eL cZ (h) ai)
theorem lP {Q : Exit → ae → Prop} {l : List (Nat × j)} {ros : List bf} {k : List Nat} {b : ao} {g : FuncId} {ds : List j} {r : j} (ok : b3 a7 g ds r []) (cZ : List (Nat × j)) (ai : b9 a7 b Q (I cZ)) (h : b3 a7 g ds r [] → ∀ P : List (Nat × j) → Prop, P cZ → bu a7 (I l) ros none (fun _ s => P (fA k s)) := by
 intro mZ P aW
 (try simp only [cm.down, simprocAttr, gk.down])
 refine hj mZ rfl rfl rfl rfl (.inl (by rfl)) ?_
 simp only [cm.down, simprocAttr, gk.down]
 (try simp only [cS.down, simprocAttr, gk.down] at aW ⊢)
 exact aW) : b9 a7 (.seq (.aE ros (some k)) b) Q (I l) :=
 fK (eL cZ (h ok) ai)
theorem jd {F : Prop} (aK : F) {Q : Exit → ae → Prop} {l : List (Nat × j)} {ros : List bf} {k : List Nat} {b : ao} (cZ : List (Nat × j)) (ai : b9 a7 b Q (I cZ)) (h : F → ∀ P : List (Nat × j) → Prop, P cZ → bu a7 (I l) ros none (fun _ s => P (fA k s)) := by
 intro aK P aW
 simp only [cm.down, simprocAttr, gk.down, aK]
 (try simp only [cS.down, simprocAttr, gk.down, aK] at aW ⊢)
 exact aW) : b9 a7 (.seq (.aE ros (some k)) b) Q (I l) :=
 fK (eL cZ (h aK) ai)
theorem sa {F : Prop} (aK : F) {Q : Exit → ae → Prop} {l : List (Nat × j)} {ros : List bf} {k : List Nat} {b : ao} {g : FuncId} {ds : List j} {r : j} (ok : b3 a7 g ds r []) (cZ : List (Nat × j)) (ai : b9 a7 b Q (I cZ)) (h : b3 a7 g ds r [] → F → ∀ P : List (Nat × j) → Prop, P cZ → bu a7 (I l) ros none (fun _ s => P (fA k s)) := by
 intro mZ aK P aW
 (try simp only [cm.down, simprocAttr, gk.down, aK])
 refine hj mZ rfl rfl rfl rfl (.inl (by rfl)) ?_
 simp only [cm.down, simprocAttr, gk.down, aK]
 (try simp only [cS.down, simprocAttr, gk.down, aK] at aW ⊢)
 exact aW) : b9 a7 (.seq (.aE ros (some k)) b) Q (I l) :=
 fK (eL cZ (h ok aK) ai)
theorem wr {Q : Exit → ae → Prop} {l : List (Nat × j)} {ros : List bf} {k : List Nat} (cZ : List (Nat × j)) (ai : Q .normal (I cZ)) (h : ∀ P : List (Nat × j) → Prop, P cZ → bu a7 (I l) ros none (fun _ s => P (fA k s)) := by
 intro P aW
 simp only [cm.down, simprocAttr, gk.down]
 (try simp only [cS.down, simprocAttr, gk.down] at aW ⊢)
 exact aW) : b9 a7 (.aE ros (some k)) Q (I l) :=
 mM (eL cZ (h) ai)
theorem Ma {Q : Exit → ae → Prop} {l : List (Nat × j)} {ros : List bf} {k : List Nat} {g : FuncId} {ds : List j} {r : j} (ok : b3 a7 g ds r []) (cZ : List (Nat × j)) (ai : Q .normal (I cZ)) (h : b3 a7 g ds r [] → ∀ P : List (Nat × j) → Prop, P cZ → bu a7 (I l) ros none (fun _ s => P (fA k s)) := by
 intro mZ P aW
 (try simp only [cm.down, simprocAttr, gk.down])
 refine hj mZ rfl rfl rfl rfl (.inl (by rfl)) ?_
 simp only [cm.down, simprocAttr, gk.down]
 (try simp only [cS.down, simprocAttr, gk.down] at aW ⊢)
 exact aW) : b9 a7 (.aE ros (some k)) Q (I l) :=
 mM (eL cZ (h ok) ai)
theorem Mb {F : Prop} (aK : F) {Q : Exit → ae → Prop} {l : List (Nat × j)} {ros : List bf} {k : List Nat} (cZ : List (Nat × j)) (ai : Q .normal (I cZ)) (h : F → ∀ P : List (Nat × j) → Prop, P cZ → bu a7 (I l) ros none (fun _ s => P (fA k s)) := by
 intro aK P aW
 simp only [cm.down, simprocAttr, gk.down, aK]
 (try simp only [cS.down, simprocAttr, gk.down, aK] at aW ⊢)
 exact aW) : b9 a7 (.aE ros (some k)) Q (I l) :=
 mM (eL cZ (h aK) ai)
theorem Mc {F : Prop} (aK : F) {Q : Exit → ae → Prop} {l : List (Nat × j)} {ros : List bf} {k : List Nat} {g : FuncId} {ds : List j} {r : j} (ok : b3 a7 g ds r []) (cZ : List (Nat × j)) (ai : Q .normal (I cZ)) (h : b3 a7 g ds r [] → F → ∀ P : List (Nat × j) → Prop, P cZ → bu a7 (I l) ros none (fun _ s => P (fA k s)) := by
 intro mZ aK P aW
 (try simp only [cm.down, simprocAttr, gk.down, aK])
 refine hj mZ rfl rfl rfl rfl (.inl (by rfl)) ?_
 simp only [cm.down, simprocAttr, gk.down, aK]
 (try simp only [cS.down, simprocAttr, gk.down, aK] at aW ⊢)
 exact aW) : b9 a7 (.aE ros (some k)) Q (I l) :=
 mM (eL cZ (h ok aK) ai)
def ga := PLift.up (And.intro @eW (And.intro @qf (And.intro @k3 @bP.eq_1)))
def hp := PLift.up (And.intro @bP.eq_1 @eX.eq_1)
theorem J2 (a0 : dL) (bh : Int) (r : Int) (h : mT a0 bh = some r) : b3 a7 21 [eX a0, .int .i64 bh] (.int .i64 r) [] := by
 refine fi [0] [.tmp 4] Try.func21 k5 (fun fu bJ e3 => ?_)
 refine ws _ ?_
 refine ws _ ?_
 refine cA bJ (fun u6 m0 fP bG => ?_)
 refine ws _ ?_
 refine db h (fun eQ h => ?_) (fun eQ h => ?_)
 ·simp only [eQ, bN.down]
  refine ws _ ?_
  exact cv (fP _ (.inl (cw [.int .i64 (-1)])))
 ·simp only [eQ, bN.down]
  refine cW (m0 _ (.inl ?_))
  refine ws _ ?_
  refine cA bJ (fun oN m1 lQ qp => ?_)
  refine ws _ ?_
  refine db h (fun hq h => ?_) (fun hq h => ?_)
  ·simp only [hq, bN.down]
   refine ws _ ?_
   exact cv (lQ _ (.inl (cw [.int .i64 (-1)])))
  ·simp only [hq, bN.down]
   refine cW (m1 _ (.inl ?_))
   refine ws _ ?_
   exact cv (bJ _ (.inl (cw [.int .i64 (IntKind.i64.wrap ((IntKind.i64.wrap (bh - (a0.Name.length : Int))) - (a0.bp.length : Int)))])))
theorem J3 (a0 : List dL) (bh : Int) (r : Int) (h : oy a0 bh = some r) : b3 a7 10 [.slice (a0.map eX), .int .i64 bh] (.int .i64 r) [] := by
 refine fi [0] [.tmp 4] Try.func10 Gf (fun fu bJ e3 => ?_)
 refine ws _ ?_
 refine ws _ ?_
 refine cA bJ (fun u6 m0 fP bG => ?_)
 refine ws _ ?_
 refine db h (fun eQ h => ?_) (fun eQ h => ?_)
 ·simp only [eQ, bN.down]
  refine ws _ ?_
  exact cv (fP _ (.inl (cw [.int .i64 (-1)])))
 ·simp only [eQ, bN.down]
  refine cW (m0 _ (.inl ?_))
  refine cA bJ (fun qq jN jm iA => ?_)
  refine ws _ ?_
  refine eV jm (fun oO iB iC qs m2 => ?_)
  have u7 : ∀ (n : Nat) (i_ : Int) (fh : Int), lM a0 n i_ fh = some r → gv a7 zy oO (I [(0, .slice (a0.map eX)), (1, .int .i64 i_), (5, .int .i64 fh)]) := by
   intro je
   induction je with
   | zero => intro i_ fh h; cases (show none = some r from h)
   | succ je u9 =>
    intro i_ fh h
    replace h : qg (lM a0 je) a0 i_ fh = some r := h
    refine iv iC (fun k6 gI gw jO => ?_)
    refine cA gw (fun u_ m3 oP qt => ?_)
    refine ws _ ?_
    refine db h (fun lR h => ?_) (fun lR h => ?_)
    ·simp only [lR, bN.down]
     refine cW (m3 _ (.inl ?_))
     refine cA gw (fun oQ lS jP sb => ?_)
     refine eV jP (fun oR iD iE gY lT => ?_)
     obtain ⟨bL, gb, h⟩ := ch h
     obtain ⟨bZ, m4, h⟩ := ch h
     refine sa gb (J2 bL i_ _ m4) _ ?_
     refine ws _ ?_
     refine db h (fun gJ h => ?_) (fun gJ h => ?_)
     ·simp only [gJ, bN.down]
      refine ws _ ?_
      exact cv (iE _ (.inl (cw [.int .i64 (-1)])))
     ·simp only [gJ, bN.down]
      refine cW (iD _ (lS _ (.inl ?_)))
      refine wr _ ?_
      exact gI _ (.inr ⟨_, dZ rfl, u9 bZ (IntKind.i64.wrap (fh + 1)) h⟩)
    ·simp only [lR, bN.down]
     refine im (qt 0 _ (jO 0 _ (qs _ (jN _ (.inl ?_)))))
     refine ws _ ?_
     exact cv (bJ _ (.inl (cw [.int .i64 i_])))
  obtain ⟨n, h⟩ := h8 h
  exact iq (.inr ⟨_, dZ rfl, u7 n (IntKind.i64.wrap (bh - (a0.length : Int))) 0 h⟩)
theorem J4 (a0 : dL) (r : bS) (h : oz a0 = some r) : b3 a7 23 [eX a0] (bP r) [] := by
 refine fi [0] [.cell 2 37] Try.func23 Gl (fun fu bJ e3 => ?_)
 refine ws _ ?_
 refine ws _ ?_
 refine ws _ ?_
 refine ws _ ?_
 refine ws _ ?_
 exact cv (bJ _ (.inl (cw [bP (bS.mk a0.Name a0.bp)])))
theorem va (a0 : List dL) (r : (List bS)) (h : lN a0 = some r) : b3 a7 12 [.slice (a0.map eX)] (.aP 2 (r.map bP)) [] := by
 refine fi [0] [.tmp 2] Try.func12 Gv (fun fu bJ e3 => ?_)
 refine ws _ ?_
 obtain ⟨Md, a6, h⟩ := ch h
 refine fK (eL [(0, .slice (a0.map eX)), (3, .aP 2 ((List.replicate (Int.toNat (a0.length : Int)) (bS.mk ([] : List UInt8) ([] : List UInt8))).map bP))] (fun P aW => ?_) ?_)
 ·simp only [cm.down, simprocAttr, eW, rN, qf, rO, k3, bP, eX, (nc a6).1, (nc a6).2.1, (nc a6).2.2, en, List.map_replicate, -Int.reduceNatCast']
  (try simp only [cS.down, simprocAttr, hp.down, (nc a6).1, (nc a6).2.1, (nc a6).2.2, en, List.map_replicate, -Int.reduceNatCast'] at aW ⊢); exact aW
 refine cA bJ (fun oS sc fQ dT => ?_)
 refine ws [(0, .slice (a0.map eX)), (3, .aP 2 ((List.replicate (Int.toNat (a0.length : Int)) (bS.mk ([] : List UInt8) ([] : List UInt8))).map bP)), (4, .int .i64 0)] ?_
 refine eV fQ (fun oT ki ib j6 f_ => ?_)
 have vb : ∀ (n : Nat) (ez : List bS) (d_ : Int), mU a0 n ez d_ = some r → gv a7 zz oT (I [(0, .slice (a0.map eX)), (3, .aP 2 (ez.map bP)), (4, .int .i64 d_)]) := by
  intro iW
  induction iW with
  | zero => intro ez d_ h; cases (show none = some r from h)
  | succ iW vc =>
   intro ez d_ h
   replace h : rQ (mU a0 iW) a0 ez d_ = some r := h
   refine iv ib (fun qq jN jm iA => ?_)
   refine cA jm (fun oN m1 lQ qp => ?_)
   refine ws _ ?_
   refine db h (fun hq h => ?_) (fun hq h => ?_)
   ·simp only [hq, bN.down]
    refine cW (m1 _ (.inl ?_))
    refine cA jm (fun u_ m3 oP qt => ?_)
    refine eV oP (fun sd oU oV kj vd => ?_)
    obtain ⟨bL, kk, h⟩ := ch h
    obtain ⟨bZ, jQ, h⟩ := ch h
    obtain ⟨bG, gZ, h⟩ := ch h
    refine mM (eL [(0, .slice (a0.map eX)), (3, .aP 2 ((List.set ez (Int.toNat d_) bZ).map bP)), (4, .int .i64 d_)] (fun P aW => ?_) ?_)
    ·simp only [cm.down, simprocAttr, eW, rN, qf, rO, k3, bP, eX, kk, gZ, ss gZ, uA, il]
     refine hj (J4 bL _ jQ) rfl rfl rfl rfl (.inl (by rfl)) ?_
     simp only [cm.down, simprocAttr, eW, rN, qf, rO, k3, bP, eX, kk, gZ, ss gZ, uA, il]
     (try simp only [cS.down, simprocAttr, hp.down, kk, gZ, ss gZ, uA, il] at aW ⊢); exact aW
    refine oU _ (m3 _ (.inl ?_))
    refine wr [(0, .slice (a0.map eX)), (3, .aP 2 ((List.set ez (Int.toNat d_) bZ).map bP)), (4, .int .i64 (IntKind.i64.wrap (d_ + 1)))] ?_
    exact jN _ (.inr ⟨_, dZ rfl, vc (List.set ez (Int.toNat d_) bZ) (IntKind.i64.wrap (d_ + 1)) h⟩)
   ·simp only [hq, bN.down]
    refine im (qp 0 _ (iA 0 _ (j6 _ (sc _ (.inl ?_)))))
    refine ws _ ?_
    exact cv (bJ _ (.inl (cw [.aP 2 (ez.map bP)])))
 obtain ⟨n, h⟩ := h8 h
 exact iq (.inr ⟨_, dZ rfl, vb n (List.replicate (Int.toNat (a0.length : Int)) (bS.mk ([] : List UInt8) ([] : List UInt8))) 0 h⟩)
theorem ve (a0 : UInt8) (r : Bool) (h : qh a0 = some r) : b3 a7 91 [.int .u8 (a0.toNat : Int)] (.bool r) [] := by
 refine fi [0] [.tmp 2] Try.func91 Gy (fun fu bJ e3 => ?_)
 refine ws _ ?_
 refine fK (eL [(2, .bool ((decide (97 ≤ (a0.toNat : Int))) && (decide ((a0.toNat : Int) ≤ 122))))] (fun P aW => ?_) ?_)
 ·rcases Bool.eq_false_or_eq_true (decide (97 ≤ (a0.toNat : Int))) with dD | dD
  ·simp only [cm.down, simprocAttr, dD]
   (try simp only [cS.down, simprocAttr, dD] at aW ⊢); exact aW
  ·simp only [cm.down, simprocAttr, dD]
   (try simp only [cS.down, simprocAttr, dD] at aW ⊢); exact aW
 exact cv (bJ _ (.inl (cw [.bool ((decide (97 ≤ (a0.toNat : Int))) && (decide ((a0.toNat : Int) ≤ 122)))])))
theorem J5 (a0 : UInt8) (r : Bool) (h : uZ a0 = some r) : b3 a7 92 [.int .u8 (a0.toNat : Int)] (.bool r) [] := by
 refine fi [0] [.tmp 2] Try.func92 GB (fun fu bJ e3 => ?_)
 refine ws _ ?_
 refine fK (eL [(2, .bool ((decide (48 ≤ (a0.toNat : Int))) && (decide ((a0.toNat : Int) ≤ 57))))] (fun P aW => ?_) ?_)
 ·rcases Bool.eq_false_or_eq_true (decide (48 ≤ (a0.toNat : Int))) with dD | dD
  ·simp only [cm.down, simprocAttr, dD]
   (try simp only [cS.down, simprocAttr, dD] at aW ⊢); exact aW
  ·simp only [cm.down, simprocAttr, dD]
   (try simp only [cS.down, simprocAttr, dD] at aW ⊢); exact aW
 exact cv (bJ _ (.inl (cw [.bool ((decide (48 ≤ (a0.toNat : Int))) && (decide ((a0.toNat : Int) ≤ 57)))])))
theorem vf (a0 : List UInt8) (r : Bool) (h : rS a0 = some r) : b3 a7 52 [.str a0] (.bool r) [] := by
 refine fi [0] [.tmp 2] Try.func52 GP (fun fu bJ e3 => ?_)
 refine ws _ ?_
 refine cA bJ (fun i3 eU cr bZ => ?_)
 rcases jj h with ⟨dv, h⟩ | ⟨dv, h⟩
 ·refine jd dv _ ?_
  refine mN rfl ?_
  refine ws _ ?_
  exact cv (cr _ (.inl (cw [.bool false])))
 ·rcases jj h with ⟨j6, h⟩ | ⟨j6, h⟩
  ·refine jd (And.intro dv j6) _ ?_
   refine mN rfl ?_
   refine ws _ ?_
   exact cv (cr _ (.inl (cw [.bool false])))
  ·obtain ⟨bL, hQ, h⟩ := ch h
   obtain ⟨bZ, hy, h⟩ := ch h
   refine fK (eL [(0, .str a0), (16, .bool (!bZ))] (fun P aW => ?_) ?_)
   ·simp only [cm.down, simprocAttr, eW, dv, j6, hQ]
    refine uy (ve bL _ hy) rfl rfl rfl rfl (.inl (by rfl)) ?_
    simp only [cm.down, simprocAttr, eW, dv, j6, hQ]
    (try simp only [cS.down, simprocAttr, dv, j6, hQ] at aW ⊢); exact aW
   refine db h (fun hq h => ?_) (fun hq h => ?_)
   ·simp only [(fL hq), bN.down]
    refine ws _ ?_
    exact cv (cr _ (.inl (cw [.bool false])))
   ·simp only [(dR hq), bN.down]
    refine cW (eU _ (.inl ?_))
    refine cA bJ (fun sd oU oV vd => ?_)
    refine ws _ ?_
    refine eV oV (fun oQ lS jP k7 sb => ?_)
    have qu : ∀ (n : Nat) (dS : Int), oA a0 n dS = some r → gv a7 zA oQ (I [(0, .str a0), (3, .int .i64 dS)]) := by
     intro jR
     induction jR with
     | zero => intro dS h; cases (show none = some r from h)
     | succ jR m5 =>
      intro dS h
      replace h : rR (oA a0 jR) a0 dS = some r := h
      refine iv jP (fun oR iD iE lT => ?_)
      refine cA iE (fun vg m6 qv qw => ?_)
      refine ws _ ?_
      refine db h (fun e9 h => ?_) (fun e9 h => ?_)
      ·simp only [e9, bN.down]
       refine cW (m6 _ (.inl ?_))
       refine cA iE (fun J6 qx vh J7 => ?_)
       refine eV vh (fun J8 se vi gJ J9 => ?_)
       obtain ⟨bG, jS, h⟩ := ch h
       obtain ⟨dT, kl, h⟩ := ch h
       rcases jj h with ⟨h5, h⟩ | ⟨h5, h⟩
       ·obtain ⟨dU, m7, h⟩ := ch h
        refine fK (eL [(0, .str a0), (3, .int .i64 dS), (34, .bool (!dU))] (fun P aW => ?_) ?_)
        ·simp only [cm.down, simprocAttr, eW, jS, (fL h5)]
         refine hj (ve bG _ kl) rfl rfl rfl rfl (.inl (by rfl)) ?_
         simp only [cm.down, simprocAttr, eW, jS, (fL h5)]
         refine uy (J5 bG _ m7) rfl rfl rfl rfl (.inl (by rfl)) ?_
         simp only [cm.down, simprocAttr, eW, jS, (fL h5)]
         (try simp only [cS.down, simprocAttr, jS, (fL h5)] at aW ⊢); exact aW
        refine db h (fun vj h => ?_) (fun vj h => ?_)
        ·simp only [(fL vj), bN.down]
         refine ws _ ?_
         exact cv (vi _ (.inl (cw [.bool false])))
        ·simp only [(dR vj), bN.down]
         refine cW (se _ (qx _ (.inl ?_)))
         refine wr _ ?_
         exact iD _ (.inr ⟨_, dZ rfl, m5 (IntKind.i64.wrap (dS + 1)) h⟩)
       ·refine sa (And.intro jS (dR h5)) (ve bG _ kl) _ ?_
        refine p5 rfl ?_
        refine cW (se _ (qx _ (.inl ?_)))
        refine wr _ ?_
        exact iD _ (.inr ⟨_, dZ rfl, m5 (IntKind.i64.wrap (dS + 1)) h⟩)
      ·simp only [e9, bN.down]
       refine im (qw 0 _ (lT 0 _ (k7 _ (oU _ (.inl ?_)))))
       refine ws _ ?_
       exact cv (bJ _ (.inl (cw [.bool true])))
    obtain ⟨n, h⟩ := h8 h
    exact iq (.inr ⟨_, dZ rfl, qu n 0 h⟩)
theorem J_ (a0 : List UInt8) (bh : Int) (r : Int) (h : oE a0 bh = some r) : b3 a7 93 [.str a0, .int .i64 bh] (.int .i64 r) [] := by
 refine fi [0] [.tmp 4] Try.func93 G5 (fun fu bJ e3 => ?_)
 refine ws _ ?_
 refine cA bJ (fun i3 eU cr bZ => ?_)
 refine ws _ ?_
 refine eV cr (fun oS sc fQ dv dT => ?_)
 have qy : ∀ (n : Nat) (iw : Int) (ix : Int), ho a0 n iw ix = some r → gv a7 zD oS (I [(0, .str a0), (1, .int .i64 iw), (5, .int .i64 ix)]) := by
  intro e2
  induction e2 with
  | zero => intro iw ix h; cases (show none = some r from h)
  | succ e2 m8 =>
   intro iw ix h
   replace h : qk (ho a0 e2) a0 iw ix = some r := h
   refine iv fQ (fun qz km hP dU => ?_)
   refine cA hP (fun oT ki ib f_ => ?_)
   refine ws _ ?_
   refine db h (fun fS h => ?_) (fun fS h => ?_)
   ·simp only [fS, bN.down]
    refine cW (ki _ (.inl ?_))
    refine cA hP (fun oO iB iC m2 => ?_)
    refine eV iC (fun k6 gI gw hq jO => ?_)
    obtain ⟨bL, kE, h⟩ := ch h
    refine jd (And.intro kE (And.intro (@hK a7 5 2 .i64 rfl rfl) (@zh .i64 .u64 8 256 (by decide) (by decide)))) [(0, .str a0), (1, .int .i64 (bitsOf .xor .i64 iw (IntKind.i64.wrap ((bL.toNat : Int) * 256)))), (5, .int .i64 ix)] ?_
    refine ws _ ?_
    refine eV gw (fun oQ lS jP k7 sb => ?_)
    have Ka : ∀ (n : Nat) (hn : Int) (hM : Int) (h2 : Int), kh (ho a0 e2) a0 n hn hM h2 = some r → gv a7 zC oQ (I [(0, .str a0), (1, .int .i64 hn), (5, .int .i64 hM), (6, .int .i64 h2)]) := by
     intro sf
     induction sf with
     | zero => intro hn hM h2 h; cases (show none = some r from h)
     | succ sf Kb =>
      intro hn hM h2 h
      replace h : qj (ho a0 e2) (kh (ho a0 e2) a0 sf) a0 hn hM h2 = some r := h
      refine iv jP (fun oR iD iE lT => ?_)
      refine cA iE (fun vg m6 qv qw => ?_)
      refine ws _ ?_
      refine db h (fun e9 h => ?_) (fun e9 h => ?_)
      ·simp only [e9, bN.down]
       refine cW (m6 _ (.inl ?_))
       have zR : ∀ (oB : Int) (oC : Int) (oD : Int), qi (ho a0 e2) (kh (ho a0 e2) a0 sf) a0 oB oC oD = some r → b9 a7 zB oR (I [(0, .str a0), (1, .int .i64 oB), (5, .int .i64 oC), (6, .int .i64 oD)]) := by
        intro oB oC oD h
        refine wr _ ?_
        exact iD _ (.inr ⟨_, dZ rfl, Kb oB oC (IntKind.i64.wrap (oD + 1)) h⟩)
       refine cA iE (fun J6 qx vh J7 => ?_)
       refine eV vh (fun zS vk zT h6 Kc => ?_)
       refine jd (@zh .i64 .u64 1 2 (by decide) (by decide)) [(0, .str a0), (1, .int .i64 (IntKind.i64.wrap (hn * 2))), (5, .int .i64 hM), (6, .int .i64 h2)] ?_
       refine ws _ ?_
       refine db h (fun h5 h => ?_) (fun h5 h => ?_)
       ·simp only [h5, bN.down]
        refine wr _ ?_
        exact vk _ (qx _ (.inr ⟨_, dZ rfl, zR (bitsOf .xor .i64 (bitsOf .and .i64 (IntKind.i64.wrap (hn * 2)) 65535) 4129) hM h2 h⟩))
       ·simp only [h5, bN.down]
        exact cW (vk _ (qx _ (.inr ⟨_, dZ rfl, zR (IntKind.i64.wrap (hn * 2)) hM h2 h⟩)))
      ·simp only [e9, bN.down]
       refine im (qw 2 _ (lT 2 _ (k7 _ (gI _ (iB _ (.inl ?_))))))
       refine wr _ ?_
       exact km _ (.inr ⟨_, dZ rfl, m8 hn (IntKind.i64.wrap (hM + 1)) h⟩)
    obtain ⟨n, h⟩ := h8 h
    exact iq (.inr ⟨_, dZ rfl, Ka n (bitsOf .xor .i64 iw (IntKind.i64.wrap ((bL.toNat : Int) * 256))) ix 0 h⟩)
   ·simp only [fS, bN.down]
    refine im (f_ 0 _ (dU 0 _ (dv _ (eU _ (.inl ?_)))))
    refine ws _ ?_
    exact cv (bJ _ (.inl (cw [.int .i64 iw])))
 obtain ⟨n, h⟩ := h8 h
 exact iq (.inr ⟨_, dZ rfl, qy n bh 0 h⟩)
theorem zU (a0 : Int) (bh : Int) (a2 : Int) (r : Bool) (h : rU a0 bh a2 = some r) : b3 a7 94 [.int .i64 a0, .int .i64 bh, .int .i64 a2] (.bool r) [] := by
 refine fi [0, 1, 2] [.tmp 6] Try.func94 G8 (fun fu bJ e3 => ?_)
 refine ws _ ?_
 refine fK (eL [(6, .bool ((decide (bh ≤ a0)) && (decide (a0 ≤ a2))))] (fun P aW => ?_) ?_)
 ·rcases Bool.eq_false_or_eq_true (decide (bh ≤ a0)) with dD | dD
  ·simp only [cm.down, simprocAttr, dD]
   (try simp only [cS.down, simprocAttr, dD] at aW ⊢); exact aW
  ·simp only [cm.down, simprocAttr, dD]
   (try simp only [cS.down, simprocAttr, dD] at aW ⊢); exact aW
 exact cv (bJ _ (.inl (cw [.bool ((decide (bh ≤ a0)) && (decide (a0 ≤ a2)))])))
theorem zV (a0 : List UInt8) (r : Int × Int) (h : oF a0 = some r) : b3 a7 53 [.str a0] (.tuple [.int .i64 r.1, .int .i64 r.2]) [] := by
 refine fi [0] [.tmp 2, .tmp 3] Try.func53 Hl (fun fu bJ e3 => ?_)
 refine ws _ ?_
 refine ws _ ?_
 refine cA bJ (fun u6 m0 fP bG => ?_)
 refine ws _ ?_
 refine db h (fun eQ h => ?_) (fun eQ h => ?_)
 ·simp only [eQ, bN.down]
  refine ws _ ?_
  exact cv (fP _ (.inl (cw [.int .i64 0, .int .i64 11])))
 ·simp only [eQ, bN.down]
  refine cW (m0 _ (.inl ?_))
  refine cA bJ (fun qq jN jm iA => ?_)
  obtain ⟨bL, hy, h⟩ := ch h
  obtain ⟨bZ, kC, h⟩ := ch h
  obtain ⟨bG, kD, h⟩ := ch h
  obtain ⟨dT, kE, h⟩ := ch h
  refine jI rfl (jJ [(0, .str a0), (4, .int .i64 (a0.length : Int)), (27, .bool (bZ != (IntKind.i64.wrap ((IntKind.i64.wrap ((bG.toNat : Int) * 256)) + (dT.toNat : Int)))))] (fun P aW => ?_) ?_)
  ·simp only [fC.down, simprocAttr, eW, hy, kD, @hK a7 5 2 .i64 rfl rfl, kE]
   refine kV (J_ bL 65535 _ kC) rfl rfl rfl rfl (.inl (by rfl)) ?_
   simp only [fC.down, simprocAttr, eW, hy, kD, @hK a7 5 2 .i64 rfl rfl, kE]
   refine ⟨jK (by kernel_rfl), ?_⟩
   (try simp only [cS.down, simprocAttr, hy, kD, @hK a7 5 2 .i64 rfl rfl, kE] at aW ⊢); exact aW
  refine db h (fun lR h => ?_) (fun lR h => ?_)
  ·simp only [lR, bN.down]
   refine ws _ ?_
   exact cv (jm _ (.inl (cw [.int .i64 0, .int .i64 10])))
  ·simp only [lR, bN.down]
   refine cW (jN _ (.inl ?_))
   obtain ⟨dU, gZ, h⟩ := ch h
   refine jd (And.intro gZ (@hK a7 5 2 .i64 rfl rfl)) _ ?_
   refine cA bJ (fun Kd vl vm Ke => ?_)
   obtain ⟨f_, oW, h⟩ := ch h
   refine fK (eL [(5, .int .i64 (dU.toNat : Int)), (37, .bool ((!f_) || (decide (6000 < (a0.length : Int)))))] (fun P aW => ?_) ?_)
   ·rcases Bool.eq_false_or_eq_true (f_) with m9 | m9
    ·simp only [cm.down, simprocAttr, m9]
     refine hj (zU (dU.toNat : Int) 1 3 _ oW) rfl rfl rfl rfl (.inl (by rfl)) ?_
     simp only [cm.down, simprocAttr, m9]
     (try simp only [cS.down, simprocAttr, m9] at aW ⊢); exact aW
    ·simp only [cm.down, simprocAttr, m9]
     refine hj (zU (dU.toNat : Int) 1 3 _ oW) rfl rfl rfl rfl (.inl (by rfl)) ?_
     simp only [cm.down, simprocAttr, m9]
     (try simp only [cS.down, simprocAttr, m9] at aW ⊢); exact aW
   refine db h (fun h6 h => ?_) (fun h6 h => ?_)
   ·simp only [h6, bN.down]
    refine ws _ ?_
    exact cv (vm _ (.inl (cw [.int .i64 0, .int .i64 9])))
   ·simp only [h6, bN.down]
    refine cW (vl _ (.inl ?_))
    refine ws _ ?_
    exact cv (bJ _ (.inl (cw [.int .i64 (dU.toNat : Int), .int .i64 0])))
theorem Kf (a0 : List bS) (r : Bool) (h : rW a0 = some r) : b3 a7 39 [.slice (a0.map bP)] (.bool r) [] := by
 refine fi [0] [.tmp 2] Try.func39 HC (fun fu bJ e3 => ?_)
 refine ws _ ?_
 refine cA bJ (fun i3 eU cr bZ => ?_)
 refine ws _ ?_
 refine db h (fun dv h => ?_) (fun dv h => ?_)
 ·simp only [dv, bN.down]
  refine ws _ ?_
  exact cv (cr _ (.inl (cw [.bool false])))
 ·simp only [dv, bN.down]
  refine cW (eU _ (.inl ?_))
  refine cA bJ (fun oT ki ib f_ => ?_)
  refine ws _ ?_
  refine eV ib (fun oN m1 lQ fS qp => ?_)
  have qu : ∀ (n : Nat) (dS : Int), oG a0 n dS = some r → gv a7 zE oN (I [(0, .slice (a0.map bP)), (3, .int .i64 dS)]) := by
   intro jR
   induction jR with
   | zero => intro dS h; cases (show none = some r from h)
   | succ jR m5 =>
    intro dS h
    replace h : rV (oG a0 jR) a0 dS = some r := h
    refine iv lQ (fun oO iB iC m2 => ?_)
    refine cA iC (fun k6 gI gw jO => ?_)
    refine ws _ ?_
    refine db h (fun kj h => ?_) (fun kj h => ?_)
    ·simp only [kj, bN.down]
     refine cW (gI _ (.inl ?_))
     refine cA iC (fun sg kn ko oX => ?_)
     refine eV ko (fun oQ lS jP k7 sb => ?_)
     refine cA jP (fun oR iD iE lT => ?_)
     obtain ⟨bL, gb, h⟩ := ch h
     obtain ⟨bZ, m4, h⟩ := ch h
     rcases jj h with ⟨h7, h⟩ | ⟨h7, h⟩
     ·refine jI rfl (jJ [(0, .slice (a0.map bP)), (3, .int .i64 dS), (39, .bool true)] (fun P aW => ?_) ?_)
      ·simp only [fC.down, simprocAttr, ga.down, gb, (fL h7)]
       refine kV (vf bL.Name _ m4) rfl rfl rfl rfl (.inl (by rfl)) ?_
       simp only [fC.down, simprocAttr, ga.down, gb, (fL h7)]
       refine ⟨jK (by kernel_rfl), ?_⟩
       (try simp only [cS.down, simprocAttr, bP, gb, (fL h7)] at aW ⊢); exact aW
      refine mN rfl ?_
      refine ws _ ?_
      exact cv (iE _ (.inl (cw [.bool false])))
     ·rcases jj h with ⟨h6, h⟩ | ⟨h6, h⟩
      ·obtain ⟨bG, jS, h⟩ := ch h
       refine jI rfl (jJ [(0, .slice (a0.map bP)), (3, .int .i64 dS), (39, .bool (!(Op.bytesLess bG.Name bL.Name)))] (fun P aW => ?_) ?_)
       ·simp only [fC.down, simprocAttr, ga.down, gb, (dR h7), h6, jS]
        refine kV (vf bL.Name _ m4) rfl rfl rfl rfl (.inl (by rfl)) ?_
        simp only [fC.down, simprocAttr, ga.down, gb, (dR h7), h6, jS]
        refine ⟨jK (by kernel_rfl), ?_⟩
        (try simp only [cS.down, simprocAttr, bP, gb, (dR h7), h6, jS] at aW ⊢); exact aW
       refine db h (fun vn h => ?_) (fun vn h => ?_)
       ·simp only [vn, bN.down]
        refine ws _ ?_
        exact cv (iE _ (.inl (cw [.bool false])))
       ·simp only [vn, bN.down]
        refine cW (iD _ (.inl ?_))
        obtain ⟨dT, na, h⟩ := ch h
        refine sa gb (zV bL.bp _ na) _ ?_
        refine ws _ ?_
        refine db h (fun si h => ?_) (fun si h => ?_)
        ·simp only [si, bN.down]
         refine ws _ ?_
         exact cv (jP _ (.inl (cw [.bool false])))
        ·simp only [si, bN.down]
         refine cW (lS _ (kn _ (.inl ?_)))
         refine wr _ ?_
         exact iB _ (.inr ⟨_, dZ rfl, m5 (IntKind.i64.wrap (dS + 1)) h⟩)
      ·refine jI rfl (jJ [(0, .slice (a0.map bP)), (3, .int .i64 dS), (39, .bool false)] (fun P aW => ?_) ?_)
       ·simp only [fC.down, simprocAttr, ga.down, gb, (dR h7), h6]
        refine kV (vf bL.Name _ m4) rfl rfl rfl rfl (.inl (by rfl)) ?_
        simp only [fC.down, simprocAttr, ga.down, gb, (dR h7), h6]
        refine ⟨jK (by kernel_rfl), ?_⟩
        (try simp only [cS.down, simprocAttr, bP, gb, (dR h7), h6] at aW ⊢); exact aW
       refine p5 rfl ?_
       refine cW (iD _ (.inl ?_))
       obtain ⟨dU, Kg, h⟩ := ch h
       refine sa gb (zV bL.bp _ Kg) _ ?_
       refine ws _ ?_
       refine db h (fun vo h => ?_) (fun vo h => ?_)
       ·simp only [vo, bN.down]
        refine ws _ ?_
        exact cv (jP _ (.inl (cw [.bool false])))
       ·simp only [vo, bN.down]
        refine cW (lS _ (kn _ (.inl ?_)))
        refine wr _ ?_
        exact iB _ (.inr ⟨_, dZ rfl, m5 (IntKind.i64.wrap (dS + 1)) h⟩)
    ·simp only [kj, bN.down]
     refine im (jO 0 _ (m2 0 _ (fS _ (ki _ (.inl ?_)))))
     refine ws _ ?_
     exact cv (bJ _ (.inl (cw [.bool true])))
  obtain ⟨n, h⟩ := h8 h
  exact iq (.inr ⟨_, dZ rfl, qu n 0 h⟩)
theorem Kh (a0 : bS) (r : (List UInt8)) (h : rX a0 = some r) : b3 a7 84 [.ref (bP a0)] (.str r) [] := by
 refine fi [0] [.tmp 2] Try.func84 HG (fun fu bJ e3 => ?_)
 refine ws _ ?_
 refine ws _ ?_
 obtain ⟨nx, bQ, h⟩ := ch h
 (try simp only [List.length_append, List.length_cons, List.length_nil, List.length_map, List.length_replicate, Nat.zero_add, Nat.add_zero, Nat.reduceAdd] at bQ)
 obtain ⟨nx, bT, h⟩ := ch h
 (try simp only [List.length_append, List.length_cons, List.length_nil, List.length_map, List.length_replicate, Nat.zero_add, Nat.add_zero, Nat.reduceAdd] at bT)
 obtain ⟨nx, bc, h⟩ := ch h
 (try simp only [List.length_append, List.length_cons, List.length_nil, List.length_map, List.length_replicate, Nat.zero_add, Nat.add_zero, Nat.reduceAdd] at bc)
 obtain ⟨nx, a8, h⟩ := ch h
 (try simp only [List.length_append, List.length_cons, List.length_nil, List.length_map, List.length_replicate, Nat.zero_add, Nat.add_zero, Nat.reduceAdd] at a8)
 refine jI rfl (jJ [(2, .str ((((([35] : List UInt8) ++ [(cX (a0.Name.length : Int))]) ++ a0.Name) ++ [(cX (IntKind.i64.wrap (Int.tdiv (a0.bp.length : Int) 256))), (cX (Int.tmod (a0.bp.length : Int) 256))]) ++ a0.bp))] (fun P aW => ?_) ?_)
 ·simp only [fC.down, simprocAttr, rM, eW, k3, rP, fH, bP, @hK a7 3 5 .u8 rfl rfl, (show ∀ s, cR a7 s 62 1 [(0, .int .u8 (IntKind.u8.wrap (a0.Name.length : Int)))] = some (.aP 1 [.int .u8 (IntKind.u8.wrap (a0.Name.length : Int))], s) from fun s => by kernel_rfl), (@oi a7 62 9 5 rfl rfl rfl).2.2, om, oj, bQ, kW, kX, bT, @oo .i64 256 (by decide), @oq .i64 256 (by decide), (show ∀ s, cR a7 s 62 2 [(0, .int .u8 (IntKind.u8.wrap (IntKind.i64.wrap (Int.tdiv (a0.bp.length : Int) 256)))), (1, .int .u8 (IntKind.u8.wrap (Int.tmod (a0.bp.length : Int) 256)))] = some (.aP 1 [.int .u8 (IntKind.u8.wrap (IntKind.i64.wrap (Int.tdiv (a0.bp.length : Int) 256))), .int .u8 (IntKind.u8.wrap (Int.tmod (a0.bp.length : Int) 256))], s) from fun s => by kernel_rfl), bc, a8]
  refine ⟨jK (by kernel_rfl), ?_⟩
  (try simp only [cS.down, simprocAttr, fH, bP, @hK a7 3 5 .u8 rfl rfl, (show ∀ s, cR a7 s 62 1 [(0, .int .u8 (IntKind.u8.wrap (a0.Name.length : Int)))] = some (.aP 1 [.int .u8 (IntKind.u8.wrap (a0.Name.length : Int))], s) from fun s => by kernel_rfl), (@oi a7 62 9 5 rfl rfl rfl).2.2, om, oj, bQ, kW, kX, bT, @oo .i64 256 (by decide), @oq .i64 256 (by decide), (show ∀ s, cR a7 s 62 2 [(0, .int .u8 (IntKind.u8.wrap (IntKind.i64.wrap (Int.tdiv (a0.bp.length : Int) 256)))), (1, .int .u8 (IntKind.u8.wrap (Int.tmod (a0.bp.length : Int) 256)))] = some (.aP 1 [.int .u8 (IntKind.u8.wrap (IntKind.i64.wrap (Int.tdiv (a0.bp.length : Int) 256))), .int .u8 (IntKind.u8.wrap (Int.tmod (a0.bp.length : Int) 256))], s) from fun s => by kernel_rfl), bc, a8] at aW ⊢); exact aW
 exact cv (bJ _ (.inl (cw [.str ((((([35] : List UInt8) ++ [(cX (a0.Name.length : Int))]) ++ a0.Name) ++ [(cX (IntKind.i64.wrap (Int.tdiv (a0.bp.length : Int) 256))), (cX (Int.tmod (a0.bp.length : Int) 256))]) ++ a0.bp)])))
theorem Ki (a0 : List bS) (r : (List UInt8)) (h : rZ a0 = some r) : b3 a7 40 [.slice (a0.map bP)] (.str r) [] := by
 refine fi [0] [.tmp 2] Try.func40 HP (fun fu bJ e3 => ?_)
 refine ws _ ?_
 refine ws _ ?_
 refine cA bJ (fun u6 m0 fP bG => ?_)
 refine ws _ ?_
 refine eV fP (fun qz km hP eQ dU => ?_)
 have vb : ∀ (n : Nat) (ez : List UInt8) (d_ : Int), rY a0 n ez d_ = some r → gv a7 zF qz (I [(0, .slice (a0.map bP)), (3, .str ez), (4, .int .i64 d_)]) := by
  intro iW
  induction iW with
  | zero => intro ez d_ h; cases (show none = some r from h)
  | succ iW vc =>
   intro ez d_ h
   replace h : zw (rY a0 iW) a0 ez d_ = some r := h
   refine iv hP (fun oT ki ib f_ => ?_)
   refine cA ib (fun qq jN jm iA => ?_)
   refine ws _ ?_
   refine db h (fun qs h => ?_) (fun qs h => ?_)
   ·simp only [qs, bN.down]
    refine cW (jN _ (.inl ?_))
    refine cA ib (fun k6 gI gw jO => ?_)
    refine eV gw (fun u_ m3 oP Me qt => ?_)
    obtain ⟨bL, hS, h⟩ := ch h
    obtain ⟨bZ, kk, h⟩ := ch h
    obtain ⟨u16, jQ, h⟩ := ch h
    (try simp only [List.length_append, List.length_cons, List.length_nil, List.length_map, List.length_replicate, Nat.zero_add, Nat.add_zero, Nat.reduceAdd] at jQ)
    refine mM (eL [(0, .slice (a0.map bP)), (3, .str (ez ++ bZ)), (4, .int .i64 d_)] (fun P aW => ?_) ?_)
    ·simp only [cm.down, simprocAttr, ga.down, hS, jQ, kW, kX]
     refine hj (Kh bL _ kk) rfl rfl rfl rfl (.inl (by rfl)) ?_
     simp only [cm.down, simprocAttr, ga.down, hS, jQ, kW, kX]
     (try simp only [cS.down, simprocAttr, bP, hS, jQ, kW, kX] at aW ⊢); exact aW
    refine m3 _ (gI _ (.inl ?_))
    refine wr [(0, .slice (a0.map bP)), (3, .str (ez ++ bZ)), (4, .int .i64 (IntKind.i64.wrap (d_ + 1)))] ?_
    exact ki _ (.inr ⟨_, dZ rfl, vc (ez ++ bZ) (IntKind.i64.wrap (d_ + 1)) h⟩)
   ·simp only [qs, bN.down]
    refine im (iA 0 _ (f_ 0 _ (eQ _ (m0 _ (.inl ?_)))))
    refine ws _ ?_
    exact cv (bJ _ (.inl (cw [.str ez])))
 obtain ⟨n, h⟩ := h8 h
 exact iq (.inr ⟨_, dZ rfl, vb n ([80, 65] : List UInt8) 0 h⟩)
theorem Kj (a0 : List bS) (r : (List UInt8)) (h : r0 a0 = some r) : b3 a7 11 [.slice (a0.map bP)] (.str r) [] := by
 refine fi [0] [.tmp 2] Try.func11 HV (fun fu bJ e3 => ?_)
 refine ws _ ?_
 refine cA bJ (fun i3 eU cr bZ => ?_)
 obtain ⟨bL, bQ, h⟩ := ch h
 refine lP (Kf a0 _ bQ) _ ?_
 refine db h (fun eQ h => ?_) (fun eQ h => ?_)
 ·simp only [(fL eQ), bN.down]
  refine ws _ ?_
  exact cv (cr _ (.inl (cw [.str ([] : List UInt8)])))
 ·simp only [(dR eQ), bN.down]
  refine cW (eU _ (.inl ?_))
  obtain ⟨bZ, hQ, h⟩ := ch h
  refine lP (Ki a0 _ hQ) _ ?_
  exact cv (bJ _ (.inl (cw [.str bZ])))
theorem Kk (a0 : UInt8) (r : Bool) (h : u0 a0 = some r) : b3 a7 95 [.int .u8 (a0.toNat : Int)] (.bool r) [] := by
 refine fi [0] [.tmp 2] Try.func95 HY (fun fu bJ e3 => ?_)
 refine ws _ ?_
 refine fK (eL [(2, .bool ((decide (48 ≤ (a0.toNat : Int))) && (decide ((a0.toNat : Int) ≤ 57))))] (fun P aW => ?_) ?_)
 ·rcases Bool.eq_false_or_eq_true (decide (48 ≤ (a0.toNat : Int))) with dD | dD
  ·simp only [cm.down, simprocAttr, dD]
   (try simp only [cS.down, simprocAttr, dD] at aW ⊢); exact aW
  ·simp only [cm.down, simprocAttr, dD]
   (try simp only [cS.down, simprocAttr, dD] at aW ⊢); exact aW
 exact cv (bJ _ (.inl (cw [.bool ((decide (48 ≤ (a0.toNat : Int))) && (decide ((a0.toNat : Int) ≤ 57)))])))
theorem sj (a0 : List UInt8) (r : Bool) (h : r1 a0 = some r) : b3 a7 54 [.str a0] (.bool r) [] := by
 refine fi [0] [.tmp 2] Try.func54 Ia (fun fu bJ e3 => ?_)
 refine ws _ ?_
 refine cA bJ (fun i3 eU cr bZ => ?_)
 refine ws _ ?_
 refine eV cr (fun oS sc fQ dv dT => ?_)
 have qy : ∀ (n : Nat) (dy : Int), k4 a0 n dy = some r → gv a7 zG oS (I [(0, .str a0), (6, .int .i64 (a0.length : Int)), (7, .int .i64 dy)]) := by
  intro e2
  induction e2 with
  | zero => intro dy h; cases (show none = some r from h)
  | succ e2 m8 =>
   intro dy h
   replace h : ql (k4 a0 e2) a0 dy = some r := h
   refine iv fQ (fun qz km hP dU => ?_)
   refine ws _ ?_
   refine cA hP (fun qq jN jm iA => ?_)
   refine db h (fun fS h => ?_) (fun fS h => ?_)
   ·simp only [fS, bN.down]
    refine cW (jN _ (.inl ?_))
    refine cA hP (fun oO iB iC m2 => ?_)
    refine eV iC (fun k6 gI gw hq jO => ?_)
    refine ws _ ?_
    obtain ⟨bL, hS, h⟩ := ch h
    refine fK (eL [(0, .str a0), (3, .int .i64 dy), (4, .bool ((decide (97 ≤ (bL.toNat : Int))) && (decide ((bL.toNat : Int) ≤ 122)))), (6, .int .i64 (a0.length : Int)), (7, .int .i64 dy)] (fun P aW => ?_) ?_)
    ·rcases Bool.eq_false_or_eq_true (decide (97 ≤ (bL.toNat : Int))) with mY | mY
     ·simp only [cm.down, simprocAttr, eW, hS, mY]
      (try simp only [cS.down, simprocAttr, hS, mY] at aW ⊢); exact aW
     ·simp only [cm.down, simprocAttr, eW, hS, mY]
      (try simp only [cS.down, simprocAttr, hS, mY] at aW ⊢); exact aW
    rcases jj h with ⟨jT, h⟩ | ⟨jT, h⟩
    ·rcases jj h with ⟨k8, h⟩ | ⟨k8, h⟩
     ·refine jd (And.intro jT k8) _ ?_
      refine mN rfl ?_
      refine ws _ ?_
      exact cv (gw _ (.inl (cw [.bool false])))
     ·obtain ⟨bZ, oW, h⟩ := ch h
      refine fK (eL [(0, .str a0), (6, .int .i64 (a0.length : Int)), (7, .int .i64 dy), (32, .bool (!bZ))] (fun P aW => ?_) ?_)
      ·simp only [cm.down, simprocAttr, eW, jT, k8, hS]
       refine uy (Kk bL _ oW) rfl rfl rfl rfl (.inl (by rfl)) ?_
       simp only [cm.down, simprocAttr, eW, jT, k8, hS]
       (try simp only [cS.down, simprocAttr, jT, k8, hS] at aW ⊢); exact aW
      refine db h (fun gJ h => ?_) (fun gJ h => ?_)
      ·simp only [(fL gJ), bN.down]
       refine ws _ ?_
       exact cv (gw _ (.inl (cw [.bool false])))
      ·simp only [(dR gJ), bN.down]
       refine cW (gI _ (iB _ (.inl ?_)))
       refine wr _ ?_
       exact km _ (.inr ⟨_, dZ rfl, m8 (IntKind.i64.wrap (dy + 1)) h⟩)
    ·refine jd jT _ ?_
     refine p5 rfl ?_
     refine cW (gI _ (iB _ (.inl ?_)))
     refine wr _ ?_
     exact km _ (.inr ⟨_, dZ rfl, m8 (IntKind.i64.wrap (dy + 1)) h⟩)
   ·simp only [fS, bN.down]
    refine im (iA 0 _ (dU 0 _ (dv _ (eU _ (.inl ?_)))))
    refine fK (eL [(2, .bool ((decide (1 ≤ (a0.length : Int))) && (decide ((a0.length : Int) ≤ 10))))] (fun P aW => ?_) ?_)
    ·rcases Bool.eq_false_or_eq_true (decide (1 ≤ (a0.length : Int))) with qA | qA
     ·simp only [cm.down, simprocAttr, eW, qA]
      (try simp only [cS.down, simprocAttr, qA] at aW ⊢); exact aW
     ·simp only [cm.down, simprocAttr, eW, qA]
      (try simp only [cS.down, simprocAttr, qA] at aW ⊢); exact aW
    exact cv (bJ _ (.inl (cw [.bool ((decide (1 ≤ (a0.length : Int))) && (decide ((a0.length : Int) ≤ 10)))])))
 obtain ⟨n, h⟩ := h8 h
 exact iq (.inr ⟨_, dZ rfl, qy n 0 h⟩)
theorem vp (a0 : Int) (bh : Int) (a2 : Int) (r : Bool) (h : qm a0 bh a2 = some r) : b3 a7 97 [.int .i64 a0, .int .i64 bh, .int .i64 a2] (.bool r) [] := by
 refine fi [0, 1, 2] [.tmp 6] Try.func97 Ie (fun fu bJ e3 => ?_)
 refine ws _ ?_
 refine fK (eL [(6, .bool ((decide (bh ≤ a0)) && (decide (a0 ≤ a2))))] (fun P aW => ?_) ?_)
 ·rcases Bool.eq_false_or_eq_true (decide (bh ≤ a0)) with dD | dD
  ·simp only [cm.down, simprocAttr, dD]
   (try simp only [cS.down, simprocAttr, dD] at aW ⊢); exact aW
  ·simp only [cm.down, simprocAttr, dD]
   (try simp only [cS.down, simprocAttr, dD] at aW ⊢); exact aW
 exact cv (bJ _ (.inl (cw [.bool ((decide (bh ≤ a0)) && (decide (a0 ≤ a2)))])))
theorem Kl (a0 : List UInt8) (bh : Int) (r : Int) (h : qn a0 bh = some r) : b3 a7 96 [.str a0, .int .i64 bh] (.int .i64 r) [] := by
 refine fi [0, 1] [.tmp 4] Try.func96 IA (fun fu bJ e3 => ?_)
 refine ws _ ?_
 refine cA bJ (fun i3 eU cr bZ => ?_)
 obtain ⟨bL, bQ, h⟩ := ch h
 refine lP (vp bh 0 65535 _ bQ) _ ?_
 refine db h (fun eQ h => ?_) (fun eQ h => ?_)
 ·simp only [(fL eQ), bN.down]
  refine ws _ ?_
  exact cv (cr _ (.inl (cw [.int .i64 0])))
 ·simp only [(dR eQ), bN.down]
  refine cW (eU _ (.inl ?_))
  refine ws _ ?_
  refine cA bJ (fun oN m1 lQ qp => ?_)
  refine ws _ ?_
  refine eV lQ (fun k6 gI gw hq jO => ?_)
  have u7 : ∀ (n : Nat) (fh : Int) (ja : Int), jb a0 n fh ja = some r → gv a7 zJ k6 (I [(0, .str a0), (5, .int .i64 fh), (12, .int .i64 (a0.length : Int)), (13, .int .i64 ja)]) := by
   intro je
   induction je with
   | zero => intro fh ja h; cases (show none = some r from h)
   | succ je u9 =>
    intro fh ja h
    replace h : u2 (jb a0 je) a0 fh ja = some r := h
    refine iv gw (fun u_ m3 oP qt => ?_)
    refine ws _ ?_
    refine cA oP (fun sg kn ko oX => ?_)
    refine db h (fun k7 h => ?_) (fun k7 h => ?_)
    ·simp only [k7, bN.down]
     refine cW (kn _ (.inl ?_))
     refine cA oP (fun oR iD iE lT => ?_)
     refine eV iE (fun vg m6 qv jT qw => ?_)
     refine ws _ ?_
     obtain ⟨bZ, oW, h⟩ := ch h
     refine jd (And.intro oW (@hK a7 5 2 .i64 rfl rfl)) _ ?_
     refine ws _ ?_
     refine eV qv (fun zS vk zT h6 Kc => ?_)
     have Km : ∀ (n : Nat) (hN : Int) (h3 : Int) (iy : Int), mW (jb a0 je) a0 n hN h3 iy = some r → gv a7 zI zS (I [(0, .str a0), (5, .int .i64 hN), (12, .int .i64 (a0.length : Int)), (13, .int .i64 h3), (23, .int .i64 iy)]) := by
      intro m32
      induction m32 with
      | zero => intro hN h3 iy h; cases (show none = some r from h)
      | succ m32 Kn =>
       intro hN h3 iy h
       replace h : u1 (jb a0 je) (mW (jb a0 je) a0 m32) a0 hN h3 iy = some r := h
       refine iv zT (fun Ko Kp zW Kq => ?_)
       refine ws _ ?_
       refine cA zW (fun Mf Kr Mg Ks => ?_)
       refine db h (fun vq h => ?_) (fun vq h => ?_)
       ·simp only [vq, bN.down]
        refine cW (Kr _ (.inl ?_))
        have zX : ∀ (oH : Int) (oI : Int) (oJ : Int), r2 (jb a0 je) (mW (jb a0 je) a0 m32) a0 oH oI oJ = some r → b9 a7 zH Ko (I [(0, .str a0), (5, .int .i64 oH), (12, .int .i64 (a0.length : Int)), (13, .int .i64 oI), (23, .int .i64 oJ)]) := by
         intro oH oI oJ h
         refine wr _ ?_
         exact Kp _ (.inr ⟨_, dZ rfl, Kn oH oI (IntKind.i64.wrap (oJ + 1)) h⟩)
        refine cA zW (fun Mh zY Kt Mi => ?_)
        refine eV Kt (fun Mj zZ Mk si Ml => ?_)
        refine ws _ ?_
        refine ws _ ?_
        refine db h (fun vr h => ?_) (fun vr h => ?_)
        ·simp only [vr, bN.down]
         refine wr _ ?_
         exact zZ _ (zY _ (.inr ⟨_, dZ rfl, zX (bitsOf .xor .i64 (bitsOf .and .i64 (IntKind.i64.wrap (hN * 2)) 65535) 4129) h3 iy h⟩))
        ·simp only [vr, bN.down]
         exact cW (zZ _ (zY _ (.inr ⟨_, dZ rfl, zX (IntKind.i64.wrap (hN * 2)) h3 iy h⟩)))
       ·simp only [vq, bN.down]
        refine im (Ks 2 _ (Kq 2 _ (h6 _ (m6 _ (iD _ (.inl ?_))))))
        refine wr _ ?_
        exact m3 _ (.inr ⟨_, dZ rfl, u9 hN (IntKind.i64.wrap (h3 + 1)) h⟩)
     obtain ⟨n, h⟩ := h8 h
     exact iq (.inr ⟨_, dZ rfl, Km n (bitsOf .xor .i64 fh (IntKind.i64.wrap ((bZ.toNat : Int) * 256))) ja 0 h⟩)
    ·simp only [k7, bN.down]
     refine im (oX 0 _ (qt 0 _ (hq _ (m1 _ (.inl ?_)))))
     refine ws _ ?_
     exact cv (bJ _ (.inl (cw [.int .i64 fh])))
  obtain ⟨n, h⟩ := h8 h
  exact iq (.inr ⟨_, dZ rfl, u7 n bh 0 h⟩)
theorem Ku (a0 : List UInt8) (r : Int × Int) (h : r4 a0 = some r) : b3 a7 55 [.str a0] (.tuple [.int .i64 r.1, .int .i64 r.2]) [] := by
 refine fi [0] [.tmp 2, .tmp 3] Try.func55 IU (fun fu bJ e3 => ?_)
 refine ws _ ?_
 refine cA bJ (fun i3 eU cr bZ => ?_)
 refine ws _ ?_
 refine db h (fun dv h => ?_) (fun dv h => ?_)
 ·simp only [dv, bN.down]
  refine ws _ ?_
  exact cv (cr _ (.inl (cw [.int .i64 0, .int .i64 11])))
 ·simp only [dv, bN.down]
  refine cW (eU _ (.inl ?_))
  obtain ⟨bL, a8, h⟩ := ch h
  refine jd a8 _ ?_
  obtain ⟨bZ, hy, h⟩ := ch h
  refine lP (Kl bL 65535 _ hy) _ ?_
  obtain ⟨bG, kD, h⟩ := ch h
  refine jd (And.intro kD (@hK a7 5 2 .i64 rfl rfl)) _ ?_
  refine cA bJ (fun sd oU oV vd => ?_)
  refine eV oV (fun sg kn ko lR oX => ?_)
  obtain ⟨dT, jQ, h⟩ := ch h
  obtain ⟨dU, gZ, h⟩ := ch h
  refine jI rfl (jJ [(0, .str a0), (6, .int .i64 (bG.toNat : Int)), (20, .bool ((IntKind.i64.wrap ((IntKind.i64.wrap ((dT.toNat : Int) * 256)) + (dU.toNat : Int))) != bZ))] (fun P aW => ?_) ?_)
  ·simp only [fC.down, simprocAttr, eW, jQ, @hK a7 5 2 .i64 rfl rfl, gZ]
   refine ⟨jK (by kernel_rfl), ?_⟩
   (try simp only [cS.down, simprocAttr, jQ, @hK a7 5 2 .i64 rfl rfl, gZ] at aW ⊢); exact aW
  refine db h (fun k8 h => ?_) (fun k8 h => ?_)
  ·simp only [k8, bN.down]
   refine ws _ ?_
   exact cv (ko _ (.inl (cw [.int .i64 0, .int .i64 10])))
  ·simp only [k8, bN.down]
   obtain ⟨f_, sk, h⟩ := ch h
   refine fK (eL [(6, .int .i64 (bG.toNat : Int)), (37, .bool ((!f_) || (decide (6000 < (a0.length : Int)))))] (fun P aW => ?_) ?_)
   ·rcases Bool.eq_false_or_eq_true (f_) with k5 | k5
    ·simp only [cm.down, simprocAttr, eW, k5]
     refine hj (vp (bG.toNat : Int) 1 3 _ sk) rfl rfl rfl rfl (.inl (by rfl)) ?_
     simp only [cm.down, simprocAttr, eW, k5]
     (try simp only [cS.down, simprocAttr, k5] at aW ⊢); exact aW
    ·simp only [cm.down, simprocAttr, eW, k5]
     refine hj (vp (bG.toNat : Int) 1 3 _ sk) rfl rfl rfl rfl (.inl (by rfl)) ?_
     simp only [cm.down, simprocAttr, eW, k5]
     (try simp only [cS.down, simprocAttr, k5] at aW ⊢); exact aW
   refine db h (fun nb h => ?_) (fun nb h => ?_)
   ·simp only [nb, bN.down]
    refine ws _ ?_
    exact cv (ko _ (.inl (cw [.int .i64 0, .int .i64 9])))
   ·simp only [nb, bN.down]
    refine cW (kn _ (oU _ (.inl ?_)))
    refine ws _ ?_
    exact cv (bJ _ (.inl (cw [.int .i64 (bG.toNat : Int), .int .i64 0])))
theorem vt (a0 : List UInt8) (r : Bool) (h : u3 a0 = some r) : b3 a7 85 [.str a0] (.bool r) [] := by
 refine fi [0] [.tmp 2] Try.func85 IY (fun fu bJ e3 => ?_)
 refine ws _ ?_
 obtain ⟨bL, a6, h⟩ := ch h
 refine lP (Ku a0 _ a6) _ ?_
 refine ws _ ?_
 exact cv (bJ _ (.inl (cw [.bool (bL.2 == 0)])))
theorem Kv (a0 : List bS) (r : Bool) (h : r6 a0 = some r) : b3 a7 41 [.slice (a0.map bP)] (.bool r) [] := by
 refine fi [0] [.tmp 2] Try.func41 I9 (fun fu bJ e3 => ?_)
 refine ws _ ?_
 refine cA bJ (fun i3 eU cr bZ => ?_)
 refine ws _ ?_
 refine eV cr (fun oS sc fQ dv dT => ?_)
 have qy : ∀ (n : Nat) (dy : Int), oK a0 n dy = some r → gv a7 zK oS (I [(0, .slice (a0.map bP)), (5, .slice (a0.map bP)), (6, .int .i64 (a0.length : Int)), (7, .int .i64 dy)]) := by
  intro e2
  induction e2 with
  | zero => intro dy h; cases (show none = some r from h)
  | succ e2 m8 =>
   intro dy h
   replace h : r5 (oK a0 e2) a0 dy = some r := h
   refine iv fQ (fun qz km hP dU => ?_)
   refine ws _ ?_
   refine cA hP (fun qq jN jm iA => ?_)
   refine db h (fun fS h => ?_) (fun fS h => ?_)
   ·simp only [fS, bN.down]
    refine cW (jN _ (.inl ?_))
    refine cA hP (fun oO iB iC m2 => ?_)
    refine eV iC (fun k6 gI gw hq jO => ?_)
    obtain ⟨bL, kE, h⟩ := ch h
    refine jd kE _ ?_
    obtain ⟨bZ, kk, h⟩ := ch h
    rcases jj h with ⟨gY, h⟩ | ⟨gY, h⟩
    ·refine jI rfl (jJ [(0, .slice (a0.map bP)), (5, .slice (a0.map bP)), (6, .int .i64 (a0.length : Int)), (7, .int .i64 dy), (36, .bool true)] (fun P aW => ?_) ?_)
     ·simp only [fC.down, simprocAttr, ga.down, (fL gY)]
      refine kV (sj bL.Name _ kk) rfl rfl rfl rfl (.inl (by rfl)) ?_
      simp only [fC.down, simprocAttr, ga.down, (fL gY)]
      refine ⟨jK (by kernel_rfl), ?_⟩
      (try simp only [cS.down, simprocAttr, bP, (fL gY)] at aW ⊢); exact aW
     refine mN rfl ?_
     refine ws _ ?_
     exact cv (gw _ (.inl (cw [.bool false])))
    ·obtain ⟨bG, gb, h⟩ := ch h
     rcases jj h with ⟨e9, h⟩ | ⟨e9, h⟩
     ·refine jI rfl (jJ [(0, .slice (a0.map bP)), (5, .slice (a0.map bP)), (6, .int .i64 (a0.length : Int)), (7, .int .i64 dy), (36, .bool true)] (fun P aW => ?_) ?_)
      ·simp only [fC.down, simprocAttr, ga.down, (dR gY), (fL e9)]
       refine kV (sj bL.Name _ kk) rfl rfl rfl rfl (.inl (by rfl)) ?_
       simp only [fC.down, simprocAttr, ga.down, (dR gY), (fL e9)]
       refine uz (vt bL.bp _ gb) rfl rfl rfl rfl (.inl (by rfl)) ?_
       simp only [fC.down, simprocAttr, ga.down, (dR gY), (fL e9)]
       refine ⟨jK (by kernel_rfl), ?_⟩
       (try simp only [cS.down, simprocAttr, bP, (dR gY), (fL e9)] at aW ⊢); exact aW
      refine mN rfl ?_
      refine ws _ ?_
      exact cv (gw _ (.inl (cw [.bool false])))
     ·rcases jj h with ⟨gJ, h⟩ | ⟨gJ, h⟩
      ·obtain ⟨dT, sl, h⟩ := ch h
       refine jI rfl (jJ [(0, .slice (a0.map bP)), (5, .slice (a0.map bP)), (6, .int .i64 (a0.length : Int)), (7, .int .i64 dy), (36, .bool (Op.bytesLess bL.Name dT.Name || bL.Name == dT.Name))] (fun P aW => ?_) ?_)
       ·simp only [fC.down, simprocAttr, ga.down, (dR gY), (dR e9), gJ, sl]
        refine kV (sj bL.Name _ kk) rfl rfl rfl rfl (.inl (by rfl)) ?_
        simp only [fC.down, simprocAttr, ga.down, (dR gY), (dR e9), gJ, sl]
        refine uz (vt bL.bp _ gb) rfl rfl rfl rfl (.inl (by rfl)) ?_
        simp only [fC.down, simprocAttr, ga.down, (dR gY), (dR e9), gJ, sl]
        refine ⟨jK (by kernel_rfl), ?_⟩
        (try simp only [cS.down, simprocAttr, bP, (dR gY), (dR e9), gJ, sl] at aW ⊢); exact aW
       refine db h (fun nb h => ?_) (fun nb h => ?_)
       ·simp only [nb, bN.down]
        refine ws _ ?_
        exact cv (gw _ (.inl (cw [.bool false])))
       ·simp only [nb, bN.down]
        refine cW (gI _ (iB _ (.inl ?_)))
        refine wr _ ?_
        exact km _ (.inr ⟨_, dZ rfl, m8 (IntKind.i64.wrap (dy + 1)) h⟩)
      ·refine jI rfl (jJ [(0, .slice (a0.map bP)), (5, .slice (a0.map bP)), (6, .int .i64 (a0.length : Int)), (7, .int .i64 dy), (36, .bool false)] (fun P aW => ?_) ?_)
       ·simp only [fC.down, simprocAttr, ga.down, (dR gY), (dR e9), gJ]
        refine kV (sj bL.Name _ kk) rfl rfl rfl rfl (.inl (by rfl)) ?_
        simp only [fC.down, simprocAttr, ga.down, (dR gY), (dR e9), gJ]
        refine uz (vt bL.bp _ gb) rfl rfl rfl rfl (.inl (by rfl)) ?_
        simp only [fC.down, simprocAttr, ga.down, (dR gY), (dR e9), gJ]
        refine ⟨jK (by kernel_rfl), ?_⟩
        (try simp only [cS.down, simprocAttr, bP, (dR gY), (dR e9), gJ] at aW ⊢); exact aW
       refine p5 rfl ?_
       refine cW (gI _ (iB _ (.inl ?_)))
       refine wr _ ?_
       exact km _ (.inr ⟨_, dZ rfl, m8 (IntKind.i64.wrap (dy + 1)) h⟩)
   ·simp only [fS, bN.down]
    refine im (iA 0 _ (dU 0 _ (dv _ (eU _ (.inl ?_)))))
    refine ws _ ?_
    exact cv (bJ _ (.inl (cw [.bool (decide ((a0.length : Int) ≤ 16))])))
 obtain ⟨n, h⟩ := h8 h
 exact iq (.inr ⟨_, dZ rfl, qy n 0 h⟩)
theorem z1 (a0 bh r : List UInt8) (h : lO a0 bh = some r) : b3 a7 42 [.b_ (.dp 64 5 a0), .str bh] .hole [.b_ (.dp 64 5 r), .hole] := J0 a0 bh r h
theorem Kw (a0 r : List UInt8) (h : u4 a0 = some r) : b3 a7 43 [.b_ (.dp 64 5 a0)] (.str r) [.hole] := J1 a0 r h
theorem Kx (a0 : List bS) (r : (List UInt8)) (h : r8 a0 = some r) : b3 a7 13 [.slice (a0.map bP)] (.str r) [] := by
 refine fi [0] [.tmp 2] Try.func13 Jn (fun fu bJ e3 => ?_)
 refine ws _ ?_
 refine cA bJ (fun i3 eU cr bZ => ?_)
 obtain ⟨bL, bQ, h⟩ := ch h
 refine lP (Kv a0 _ bQ) _ ?_
 refine db h (fun eQ h => ?_) (fun eQ h => ?_)
 ·simp only [(fL eQ), bN.down]
  refine ws _ ?_
  exact cv (cr _ (.inl (cw [.str ([] : List UInt8)])))
 ·simp only [(dR eQ), bN.down]
  refine cW (eU _ (.inl ?_))
  refine ws _ ?_
  obtain ⟨bZ, hy, h⟩ := ch h
  refine fK (eL [(0, .slice (a0.map bP)), (3, .b_ (.dp 64 5 bZ))] (fun P aW => ?_) ?_)
  ·refine uD [⟨.h 3 [], true, _, _⟩, ⟨.str ([80, 65] : List UInt8), false, _, .hole⟩] (z1 [] ([80, 65] : List UInt8) _ hy) rfl rfl rfl (by simp only [cm.down, simprocAttr, bP, rE, uE, uF, oh, ot, ou, kY, or_true, true_or]) rfl rfl (.inl rfl) ?_
   simp only [cm.down, simprocAttr, bP, uG]
   (try simp only [cS.down, simprocAttr, bP] at aW ⊢); exact aW
  refine cA bJ (fun k6 gI gw jO => ?_)
  refine ws _ ?_
  refine eV gw (fun sd oU oV kj vd => ?_)
  have Ky : ∀ (n : Nat) (jc : List UInt8) (iz : Int), r7 a0 n jc iz = some r → gv a7 zL sd (I [(3, .b_ (.dp 64 5 jc)), (11, .slice (a0.map bP)), (12, .int .i64 (a0.length : Int)), (13, .int .i64 iz)]) := by
   intro vu
   induction vu with
   | zero => intro jc iz h; cases (show none = some r from h)
   | succ vu Kz =>
    intro jc iz h
    replace h : zx (r7 a0 vu) a0 jc iz = some r := h
    refine iv oV (fun sg kn ko oX => ?_)
    refine ws _ ?_
    refine cA ko (fun oR iD iE lT => ?_)
    refine db h (fun jT h => ?_) (fun jT h => ?_)
    ·simp only [jT, bN.down]
     refine cW (iD _ (.inl ?_))
     refine cA ko (fun Kd vl vm Ke => ?_)
     refine eV vm (fun Mm KA Mn e9 Mo => ?_)
     obtain ⟨bG, sk, h⟩ := ch h
     refine jd sk _ ?_
     refine ws _ ?_
     obtain ⟨vv, kl, h⟩ := ch h
     (try simp only [List.length_append, List.length_cons, List.length_nil, List.length_map, List.length_replicate, Nat.zero_add, Nat.add_zero, Nat.reduceAdd] at kl)
     obtain ⟨vv, qB, h⟩ := ch h
     (try simp only [List.length_append, List.length_cons, List.length_nil, List.length_map, List.length_replicate, Nat.zero_add, Nat.add_zero, Nat.reduceAdd] at qB)
     obtain ⟨vv, m7, h⟩ := ch h
     (try simp only [List.length_append, List.length_cons, List.length_nil, List.length_map, List.length_replicate, Nat.zero_add, Nat.add_zero, Nat.reduceAdd] at m7)
     obtain ⟨vv, na, h⟩ := ch h
     (try simp only [List.length_append, List.length_cons, List.length_nil, List.length_map, List.length_replicate, Nat.zero_add, Nat.add_zero, Nat.reduceAdd] at na)
     obtain ⟨dT, KB, h⟩ := ch h
     refine mM (eL [(3, .b_ (.dp 64 5 dT)), (11, .slice (a0.map bP)), (12, .int .i64 (a0.length : Int)), (13, .int .i64 iz)] (fun P aW => ?_) ?_)
     ·simp only [cm.down, simprocAttr, rM, eW, k3, rP, fH, bP, @hK a7 3 5 .u8 rfl rfl, (show ∀ s, cR a7 s 62 1 [(0, .int .u8 (IntKind.u8.wrap (bG.Name.length : Int)))] = some (.aP 1 [.int .u8 (IntKind.u8.wrap (bG.Name.length : Int))], s) from fun s => by kernel_rfl), (@oi a7 62 9 5 rfl rfl rfl).2.2, om, oj, kl, kW, kX, qB, @oo .i64 256 (by decide), @oq .i64 256 (by decide), (show ∀ s, cR a7 s 62 2 [(0, .int .u8 (IntKind.u8.wrap (IntKind.i64.wrap (Int.tdiv (bG.bp.length : Int) 256)))), (1, .int .u8 (IntKind.u8.wrap (Int.tmod (bG.bp.length : Int) 256)))] = some (.aP 1 [.int .u8 (IntKind.u8.wrap (IntKind.i64.wrap (Int.tdiv (bG.bp.length : Int) 256))), .int .u8 (IntKind.u8.wrap (Int.tmod (bG.bp.length : Int) 256))], s) from fun s => by kernel_rfl), m7, na]
      refine uD [⟨.h 3 [], true, _, _⟩, ⟨.str ((((([35] : List UInt8) ++ [(cX (bG.Name.length : Int))]) ++ bG.Name) ++ [(cX (IntKind.i64.wrap (Int.tdiv (bG.bp.length : Int) 256))), (cX (Int.tmod (bG.bp.length : Int) 256))]) ++ bG.bp), false, _, .hole⟩] (z1 jc ((((([35] : List UInt8) ++ [(cX (bG.Name.length : Int))]) ++ bG.Name) ++ [(cX (IntKind.i64.wrap (Int.tdiv (bG.bp.length : Int) 256))), (cX (Int.tmod (bG.bp.length : Int) 256))]) ++ bG.bp) _ KB) rfl rfl rfl (by simp only [cm.down, simprocAttr, rM, eW, k3, rP, fH, bP, @hK a7 3 5 .u8 rfl rfl, (show ∀ s, cR a7 s 62 1 [(0, .int .u8 (IntKind.u8.wrap (bG.Name.length : Int)))] = some (.aP 1 [.int .u8 (IntKind.u8.wrap (bG.Name.length : Int))], s) from fun s => by kernel_rfl), (@oi a7 62 9 5 rfl rfl rfl).2.2, om, oj, kl, kW, kX, qB, @oo .i64 256 (by decide), @oq .i64 256 (by decide), (show ∀ s, cR a7 s 62 2 [(0, .int .u8 (IntKind.u8.wrap (IntKind.i64.wrap (Int.tdiv (bG.bp.length : Int) 256)))), (1, .int .u8 (IntKind.u8.wrap (Int.tmod (bG.bp.length : Int) 256)))] = some (.aP 1 [.int .u8 (IntKind.u8.wrap (IntKind.i64.wrap (Int.tdiv (bG.bp.length : Int) 256))), .int .u8 (IntKind.u8.wrap (Int.tmod (bG.bp.length : Int) 256))], s) from fun s => by kernel_rfl), m7, na, rE, uE, uF, oh, ot, ou, kY, or_true, true_or]) rfl rfl (.inl rfl) ?_
      simp only [cm.down, simprocAttr, rM, eW, k3, rP, fH, bP, @hK a7 3 5 .u8 rfl rfl, (show ∀ s, cR a7 s 62 1 [(0, .int .u8 (IntKind.u8.wrap (bG.Name.length : Int)))] = some (.aP 1 [.int .u8 (IntKind.u8.wrap (bG.Name.length : Int))], s) from fun s => by kernel_rfl), (@oi a7 62 9 5 rfl rfl rfl).2.2, om, oj, kl, kW, kX, qB, @oo .i64 256 (by decide), @oq .i64 256 (by decide), (show ∀ s, cR a7 s 62 2 [(0, .int .u8 (IntKind.u8.wrap (IntKind.i64.wrap (Int.tdiv (bG.bp.length : Int) 256)))), (1, .int .u8 (IntKind.u8.wrap (Int.tmod (bG.bp.length : Int) 256)))] = some (.aP 1 [.int .u8 (IntKind.u8.wrap (IntKind.i64.wrap (Int.tdiv (bG.bp.length : Int) 256))), .int .u8 (IntKind.u8.wrap (Int.tmod (bG.bp.length : Int) 256))], s) from fun s => by kernel_rfl), m7, na, uG]
      (try simp only [cS.down, simprocAttr, fH, bP, @hK a7 3 5 .u8 rfl rfl, (show ∀ s, cR a7 s 62 1 [(0, .int .u8 (IntKind.u8.wrap (bG.Name.length : Int)))] = some (.aP 1 [.int .u8 (IntKind.u8.wrap (bG.Name.length : Int))], s) from fun s => by kernel_rfl), (@oi a7 62 9 5 rfl rfl rfl).2.2, om, oj, kl, kW, kX, qB, @oo .i64 256 (by decide), @oq .i64 256 (by decide), (show ∀ s, cR a7 s 62 2 [(0, .int .u8 (IntKind.u8.wrap (IntKind.i64.wrap (Int.tdiv (bG.bp.length : Int) 256)))), (1, .int .u8 (IntKind.u8.wrap (Int.tmod (bG.bp.length : Int) 256)))] = some (.aP 1 [.int .u8 (IntKind.u8.wrap (IntKind.i64.wrap (Int.tdiv (bG.bp.length : Int) 256))), .int .u8 (IntKind.u8.wrap (Int.tmod (bG.bp.length : Int) 256))], s) from fun s => by kernel_rfl), m7, na] at aW ⊢); exact aW
     refine KA _ (vl _ (.inl ?_))
     refine wr _ ?_
     exact kn _ (.inr ⟨_, dZ rfl, Kz dT (IntKind.i64.wrap (iz + 1)) h⟩)
    ·simp only [jT, bN.down]
     refine im (lT 0 _ (oX 0 _ (kj _ (gI _ (.inl ?_)))))
     obtain ⟨dU, KC, h⟩ := ch h
     refine fK (eL [(2, .str dU)] (fun P aW => ?_) ?_)
     ·refine uD [⟨.h 3 [], true, _, .hole⟩] (Kw jc _ KC) rfl rfl rfl (by simp only [cm.down, simprocAttr, bP, rE, uE, uF, oh, ot, ou, kY, or_true, true_or]) rfl rfl (.inl rfl) ?_
      simp only [cm.down, simprocAttr, bP, uG]
      (try simp only [cS.down, simprocAttr, bP] at aW ⊢); exact aW
     exact cv (bJ _ (.inl (cw [.str dU])))
  obtain ⟨n, h⟩ := h8 h
  exact iq (.inr ⟨_, dZ rfl, Ky n bZ 0 h⟩)
theorem KD (a0 : bS) (bh : bS) (r : Bool) (h : mX a0 bh = some r) : b3 a7 44 [bP a0, bP bh] (.bool r) [] := by
 refine fi [0, 1] [.tmp 4] Try.func44 Jw (fun fu bJ e3 => ?_)
 refine ws _ ?_
 refine cA bJ (fun i3 eU cr bZ => ?_)
 refine ws _ ?_
 refine db h (fun dv h => ?_) (fun dv h => ?_)
 ·simp only [dv, bN.down]
  refine ws _ ?_
  exact cv (cr _ (.inl (cw [.bool false])))
 ·simp only [dv, bN.down]
  refine cW (eU _ (.inl ?_))
  refine cA bJ (fun oT ki ib f_ => ?_)
  refine ws _ ?_
  refine db h (fun fS h => ?_) (fun fS h => ?_)
  ·simp only [fS, bN.down]
   refine ws _ ?_
   exact cv (ib _ (.inl (cw [.bool false])))
  ·simp only [fS, bN.down]
   refine cW (ki _ (.inl ?_))
   refine ws _ ?_
   exact cv (bJ _ (.inl (cw [.bool true])))
theorem KE (a0 : List bS) (bh : List bS) (r : Bool) (h : oM a0 bh = some r) : b3 a7 14 [.slice (a0.map bP), .slice (bh.map bP)] (.bool r) [] := by
 refine fi [0, 1] [.tmp 4] Try.func14 mY (fun fu bJ e3 => ?_)
 refine ws _ ?_
 refine cA bJ (fun i3 eU cr bZ => ?_)
 refine ws _ ?_
 refine db h (fun dv h => ?_) (fun dv h => ?_)
 ·simp only [dv, bN.down]
  refine ws _ ?_
  exact cv (cr _ (.inl (cw [.bool false])))
 ·simp only [dv, bN.down]
  refine cW (eU _ (.inl ?_))
  refine cA bJ (fun oT ki ib f_ => ?_)
  refine ws _ ?_
  refine eV ib (fun oN m1 lQ fS qp => ?_)
  have qu : ∀ (n : Nat) (h4 : Int), oL a0 bh n h4 = some r → gv a7 zM oN (I [(0, .slice (a0.map bP)), (1, .slice (bh.map bP)), (5, .int .i64 h4)]) := by
   intro jR
   induction jR with
   | zero => intro h4 h; cases (show none = some r from h)
   | succ jR m5 =>
    intro h4 h
    replace h : r9 (oL a0 bh jR) a0 bh h4 = some r := h
    refine iv lQ (fun oO iB iC m2 => ?_)
    refine cA iC (fun k6 gI gw jO => ?_)
    refine ws _ ?_
    refine db h (fun kj h => ?_) (fun kj h => ?_)
    ·simp only [kj, bN.down]
     refine cW (gI _ (.inl ?_))
     refine cA iC (fun sg kn ko oX => ?_)
     refine eV ko (fun oQ lS jP k7 sb => ?_)
     obtain ⟨bL, gZ, h⟩ := ch h
     obtain ⟨bZ, gb, h⟩ := ch h
     obtain ⟨bG, m4, h⟩ := ch h
     refine jI rfl (jJ [(0, .slice (a0.map bP)), (1, .slice (bh.map bP)), (5, .int .i64 h4), (26, .bool (!bG))] (fun P aW => ?_) ?_)
     ·simp only [fC.down, simprocAttr, ga.down, gZ, gb]
      refine kV (KD bL bZ _ m4) rfl rfl rfl rfl (.inl (by rfl)) ?_
      simp only [fC.down, simprocAttr, ga.down, gZ, gb]
      refine ⟨jK (by kernel_rfl), ?_⟩
      (try simp only [cS.down, simprocAttr, bP, gZ, gb] at aW ⊢); exact aW
     refine db h (fun h7 h => ?_) (fun h7 h => ?_)
     ·simp only [(fL h7), bN.down]
      refine ws _ ?_
      exact cv (jP _ (.inl (cw [.bool false])))
     ·simp only [(dR h7), bN.down]
      refine cW (lS _ (kn _ (.inl ?_)))
      refine wr _ ?_
      exact iB _ (.inr ⟨_, dZ rfl, m5 (IntKind.i64.wrap (h4 + 1)) h⟩)
    ·simp only [kj, bN.down]
     refine im (jO 0 _ (m2 0 _ (fS _ (ki _ (.inl ?_)))))
     refine ws _ ?_
     exact cv (bJ _ (.inl (cw [.bool true])))
  obtain ⟨n, h⟩ := h8 h
  exact iq (.inr ⟨_, dZ rfl, qu n 0 h⟩)
theorem KF (a0 : List dL) (r : Bool) (h : u5 a0 = some r) : b3 a7 3 [.slice (a0.map eX)] (.bool r) [] := by
 refine fi [0] [.tmp 2] Try.func3 dD (fun fu bJ e3 => ?_)
 refine ws _ ?_
 refine ws _ ?_
 obtain ⟨bL, bQ, h⟩ := ch h
 refine lP (J3 a0 1048576 _ bQ) _ ?_
 refine cA bJ (fun qz km hP dU => ?_)
 refine ws _ ?_
 refine db h (fun py h => ?_) (fun py h => ?_)
 ·simp only [py, bN.down]
  refine ws _ ?_
  exact cv (hP _ (.inl (cw [.bool true])))
 ·simp only [py, bN.down]
  refine cW (km _ (.inl ?_))
  obtain ⟨bZ, kC, h⟩ := ch h
  obtain ⟨bG, kD, h⟩ := ch h
  refine fK (eL [(0, .slice (a0.map eX)), (4, .str bG)] (fun P aW => ?_) ?_)
  ·simp only [cm.down, simprocAttr, hp.down]
   refine hj (va a0 _ kC) rfl rfl rfl rfl (.inl (by rfl)) ?_
   simp only [cm.down, simprocAttr, hp.down]
   refine hj (Kj bZ _ kD) rfl rfl (by simp only [cm.down, simprocAttr, hp.down, oh, ot, ou, kY, @rD _ bP bP (fun _ => r_ _)] <;> rfl) rfl (.inr (by rfl)) ?_
   simp only [cm.down, simprocAttr, hp.down]
   (try simp only [cS.down, simprocAttr, hp.down] at aW ⊢); exact aW
  obtain ⟨dT, hS, h⟩ := ch h
  refine lP (va a0 _ hS) _ ?_
  obtain ⟨dU, jQ, h⟩ := ch h
  refine fK (eL [(0, .slice (a0.map eX)), (4, .str bG), (5, .aP 2 (dT.map bP)), (6, .str dU)] (fun P aW => ?_) ?_)
  ·simp only [cm.down, simprocAttr, hp.down]
   refine hj (Kx dT _ jQ) rfl rfl (by simp only [cm.down, simprocAttr, hp.down, oh, ot, ou, kY, @rD _ bP bP (fun _ => r_ _)] <;> rfl) rfl (.inr (by rfl)) ?_
   simp only [cm.down, simprocAttr, hp.down]
   (try simp only [cS.down, simprocAttr, hp.down] at aW ⊢); exact aW
  refine cA bJ (fun vg m6 qv qw => ?_)
  refine ws _ ?_
  refine db h (fun e9 h => ?_) (fun e9 h => ?_)
  ·simp only [e9, bN.down]
   refine ws _ ?_
   exact cv (qv _ (.inl (cw [.bool false])))
  ·simp only [e9, bN.down]
   refine cW (m6 _ (.inl ?_))
   refine cA bJ (fun J8 se vi J9 => ?_)
   obtain ⟨f_, jS, h⟩ := ch h
   obtain ⟨iA, kl, h⟩ := ch h
   refine fK (eL [(26, .bool (!iA))] (fun P aW => ?_) ?_)
   ·simp only [cm.down, simprocAttr, hp.down]
    refine hj (va a0 _ jS) rfl rfl rfl rfl (.inl (by rfl)) ?_
    simp only [cm.down, simprocAttr, hp.down]
    refine hj (KE dT f_ _ kl) rfl rfl (by simp only [cm.down, simprocAttr, hp.down, oh, ot, ou, kY, @rD _ bP bP (fun _ => r_ _), @rD _ bP bP (fun _ => r_ _)] <;> rfl) rfl (.inr (by rfl)) ?_
    simp only [cm.down, simprocAttr, hp.down]
    (try simp only [cS.down, simprocAttr, hp.down] at aW ⊢); exact aW
   refine db h (fun h5 h => ?_) (fun h5 h => ?_)
   ·simp only [(fL h5), bN.down]
    refine ws _ ?_
    exact cv (vi _ (.inl (cw [.bool false])))
   ·simp only [(dR h5), bN.down]
    refine cW (se _ (.inl ?_))
    refine ws _ ?_
    exact cv (bJ _ (.inl (cw [.bool true])))
end Go.Proofs.Ytjedocbdhlppdaa
