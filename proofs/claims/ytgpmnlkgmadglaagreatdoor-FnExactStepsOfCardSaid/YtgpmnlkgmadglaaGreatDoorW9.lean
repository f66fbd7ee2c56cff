/- Part of a proof that a law returns true for every input. No condition. -/
import Derived.Test.YtgpmnlkgmadglaaGreatDoorW1x9
namespace Go.Proofs.YtgpmnlkgmadglaaGreatDoor
open Go Go.cY Go.eR
set_option maxRecDepth 100000
set_option maxHeartbeats 1800000
set_option linter.unusedSimpArgs false
set_option linter.unusedVariables false
theorem ave (lh : (List aS) → (List bd) → (List (List UInt8 × Bool)) → Int → Int → (List Int) → Option ((List aS) × (List bd) × (List (List UInt8 × Bool)))) (Ej : ∀ (eN : List aS) (eO : List bd) (eH : List (List UInt8 × Bool)) (R : Int) (a2 : Int) (a3 : List Int) (r : (List aS) × (List bd) × (List (List UInt8 × Bool))), lh eN eO eH R a2 a3 = some r → bm aA 164 [.aU (.agg [.slice (eN.map bb), .au 4 (eO.map cQ), .ct (.mp eH)]), .int .i64 R, .int .i64 a2, .slice (a3.map aE)] (.tuple []) [.aU (.agg [.slice (r.1.map bb), .au 4 (r.2.1.map cQ), .ct (.mp r.2.2)]), .hole, .hole, .hole]) (eN : List aS) (eO : List bd) (eH : List (List UInt8 × Bool)) (R : Int) (a2 : Int) (a3 : List Int) (r : (List aS) × (List bd) × (List (List UInt8 × Bool))) (h : sK lh eN eO eH R a2 a3 = some r) : bm aA 164 [.aU (.agg [.slice (eN.map bb), .au 4 (eO.map cQ), .ct (.mp eH)]), .int .i64 R, .int .i64 a2, .slice (a3.map aE)] (.tuple []) [.aU (.agg [.slice (r.1.map bb), .au 4 (r.2.1.map cQ), .ct (.mp r.2.2)]), .hole, .hole, .hole] := by
 refine b_ [0, 1, 2, 3] [] Tryz.func164 anN (fun b7 aC bY => ?_)
 obtain ⟨ah, aZ, h⟩ := aG h
 refine fm aZ _ ?_
 obtain ⟨ak, b2, h⟩ := aG h
 refine fm b2 _ ?_
 refine ws _ ?_
 refine b5 aC (fun gf dJ dW ft bL => ?_)
 refine ws _ ?_
 refine a8 h (fun c5 h => ?_) (fun c5 h => ?_)
 ·obtain ⟨a6, jg, h⟩ := aG h
  obtain ⟨bl, kI, h⟩ := aG h
  refine hc rfl (gN [(0, .aU (.agg [.slice (eN.map bb), .au 4 (eO.map cQ), .ct (.mp eH)])), (1, .int .i64 R), (2, .int .i64 a2), (3, .slice (a3.map aE)), (8, .aU (bb ah)), (10, .str bl.1)] (fun P aj => ?_) ?_)
  ·simp only [cl.down, simprocAttr, DX.down]
   refine fR (Qb ak.bN a3 _ jg) rfl rfl rfl rfl (.inl (by rfl)) ?_
   simp only [cl.down, simprocAttr, DX.down]
   refine fR (au6 ak.Name a6 _ kI) rfl rfl (by simp only [cl.down, simprocAttr, DX.down, e3, e4, e5, cC, @cx _ aE aE (fun _ => gF _)] <;> rfl) rfl (.inr (by rfl)) ?_
   simp only [cl.down, simprocAttr, DX.down]
   refine ⟨fS (by kernel_rfl), ?_⟩
   (try simp only [bh.down, simprocAttr, lI.down] at aj ⊢); exact aj
  obtain ⟨bq, ea, h⟩ := aG h
  refine cU (bT [(0, .aU (.agg [.slice (eN.map bb), .au 4 (eO.map cQ), .ct (.mp eH)])), (2, .int .i64 a2), (3, .slice (a3.map aE)), (8, .aU (bb ah)), (10, .str bl.1), (12, .aU (.agg [.int .i64 R, .int .i64 (IntKind.i64.wrap (a2 + 1)), .au 1 (bq.map aE)]))] (fun P aj => ?_) ?_)
  ·simp only [aP.down, simprocAttr, dm, gE, ib, aE, bb, bV, bj, cW, hC, cQ, @jx aA 74 [(2, 0), (2, 1), (22, 2)] [(.int .i64 0), (.int .i64 0), .bo] rfl rfl (by kernel_rfl), jm, h0, hS, h1, dD, ej, List.nil_append, List.cons_append]
   refine eQ (Qe a3 _ ea) rfl rfl rfl rfl (.inl (by rfl)) ?_
   simp only [aP.down, simprocAttr, dm, gE, ib, aE, bb, bV, bj, cW, hC, cQ, @jx aA 74 [(2, 0), (2, 1), (22, 2)] [(.int .i64 0), (.int .i64 0), .bo] rfl rfl (by kernel_rfl), jm, h0, hS, h1, dD, ej, List.nil_append, List.cons_append]
   (try simp only [bh.down, simprocAttr, lI.down, @jx aA 74 [(2, 0), (2, 1), (22, 2)] [(.int .i64 0), (.int .i64 0), .bo] rfl rfl (by kernel_rfl), jm, h0, hS, h1, dD, ej, List.nil_append, List.cons_append] at aj ⊢); exact aj
  have xg : ∀ (w3 : Int) (w4 : Int) (w5 : List Int), Dm lh eN eO eH bl w3 w4 w5 = some r → cy aA O8 gf (U [(0, .aU (.agg [.slice (eN.map bb), .au 4 (eO.map cQ), .ct (.mp eH)])), (10, .str bl.1), (12, .aU (.agg [.int .i64 w3, .int .i64 w4, .au 1 (w5.map aE)]))]) := by
   intro w3 w4 w5 h
   obtain ⟨bL, cF, h⟩ := aG h
   refine iY (bT [(0, .aU (.agg [.slice (bL.1.map bb), .au 4 (bL.2.1.map cQ), .ct (.mp bL.2.2)]))] (fun P aj => ?_) ?_)
   ·simp only [aP.down, simprocAttr, xa.down, @jx aA 164 [(9, 0), (74, 1)] [(.str []), (.agg [(.int .i64 0), (.int .i64 0), .bo])] rfl rfl (by kernel_rfl), jm, h0, hS, h1, dD, ej, List.nil_append, List.cons_append]
    refine k_ [⟨.h 0 [], true, _, _⟩, ⟨.h 66 [], true, _, .hole⟩] (avd eN eO eH bl.1 w3 w4 w5 _ cF) rfl rfl rfl (by simp only [aP.down, simprocAttr, xa.down, @jx aA 164 [(9, 0), (74, 1)] [(.str []), (.agg [(.int .i64 0), (.int .i64 0), .bo])] rfl rfl (by kernel_rfl), jm, h0, hS, h1, dD, ej, List.nil_append, List.cons_append, kO, jX, jY, e3, e4, e5, cC, or_true, true_or, @cx _ bb bb (fun _ => w9 _), @cx _ cQ b6 (fun _ => nr _), @cx _ aE aE (fun _ => gF _)]) rfl rfl (.inl rfl) ?_
    simp only [aP.down, simprocAttr, xa.down, @jx aA 164 [(9, 0), (74, 1)] [(.str []), (.agg [(.int .i64 0), (.int .i64 0), .bo])] rfl rfl (by kernel_rfl), jm, h0, hS, h1, dD, ej, List.nil_append, List.cons_append, jZ]
    (try simp only [bh.down, simprocAttr, lI.down, @jx aA 164 [(9, 0), (74, 1)] [(.str []), (.agg [(.int .i64 0), (.int .i64 0), .bo])] rfl rfl (by kernel_rfl), jm, h0, hS, h1, dD, ej, List.nil_append, List.cons_append] at aj ⊢); exact aj
   exact dJ _ (bY _ (.inl (jw [] rfl (by cases gg h; rfl) (by decide) (jH (lY (by cases gg h; rfl) rfl rfl rfl (ep (ep (ep (jI)))))))))
  refine aX dW (fun kh gG gH gP => ?_)
  obtain ⟨ch, gj, h⟩ := aG h
  refine fm gj _ ?_
  refine ws _ ?_
  refine a8 h (fun ki h => ?_) (fun ki h => ?_)
  ·obtain ⟨dv, gk, h⟩ := aG h
   refine Mb rfl (gN [(0, .aU (.agg [.slice (eN.map bb), .au 4 (eO.map cQ), .ct (.mp eH)])), (10, .str bl.1), (12, .aU (.agg [.int .i64 ch.Number, .int .i64 0, .au 1 (dv.map aE)]))] (fun P aj => ?_) ?_)
   ·simp only [cl.down, simprocAttr, dm, eU, gE, ib, e_, fT, ht, eV, aE, bb, bV, bj, cW, hC, cQ, @jx aA 74 [(2, 0), (2, 1), (22, 2)] [(.int .i64 0), (.int .i64 0), .bo] rfl rfl (by kernel_rfl), jm, h0, hS, h1, dD, ej, List.nil_append, List.cons_append]
    refine fR (Qb ch.bN a3 _ gk) rfl rfl rfl rfl (.inl (by rfl)) ?_
    simp only [cl.down, simprocAttr, dm, eU, gE, ib, e_, fT, ht, eV, aE, bb, bV, bj, cW, hC, cQ, @jx aA 74 [(2, 0), (2, 1), (22, 2)] [(.int .i64 0), (.int .i64 0), .bo] rfl rfl (by kernel_rfl), jm, h0, hS, h1, dD, ej, List.nil_append, List.cons_append]
    refine ⟨fS (by kernel_rfl), ?_⟩
    (try simp only [bh.down, simprocAttr, lI.down, @jx aA 74 [(2, 0), (2, 1), (22, 2)] [(.int .i64 0), (.int .i64 0), .bo] rfl rfl (by kernel_rfl), jm, h0, hS, h1, dD, ej, List.nil_append, List.cons_append] at aj ⊢); exact aj
   exact gG _ (.inr ⟨_, bH rfl, xg ch.Number 0 dv h⟩)
  ·exact bk (gG _ (.inr ⟨_, bH rfl, xg R (IntKind.i64.wrap (a2 + 1)) bq h⟩))
 ·refine ws _ ?_
  refine a8 h (fun lj h => ?_) (fun lj h => ?_)
  ·obtain ⟨dk, xo, h⟩ := aG h
   refine cU (bT [(0, .aU (.agg [.slice (dk.1.map bb), .au 4 (dk.2.1.map cQ), .ct (.mp dk.2.2)])), (1, .int .i64 R), (2, .int .i64 a2), (3, .slice (a3.map aE)), (8, .aU (bb ah))] (fun P aj => ?_) ?_)
   ·simp only [aP.down, simprocAttr, lI.down]
    refine k_ [⟨.h 0 [], true, _, _⟩, ⟨.int .i64 R, false, _, .hole⟩, ⟨.int .i64 (IntKind.i64.wrap (a2 + 1)), false, _, .hole⟩, ⟨.slice (a3.map aE), false, _, .hole⟩] (Ej eN eO eH R (IntKind.i64.wrap (a2 + 1)) a3 _ xo) rfl rfl rfl (by simp only [aP.down, simprocAttr, lI.down, kO, jX, jY, e3, e4, e5, cC, or_true, true_or, @cx _ bb bb (fun _ => w9 _), @cx _ cQ b6 (fun _ => nr _)]) rfl rfl (.inl rfl) ?_
    simp only [aP.down, simprocAttr, lI.down, jZ]
    (try simp only [bh.down, simprocAttr, lI.down] at aj ⊢); exact aj
   obtain ⟨dt, avf, h⟩ := aG h
   obtain ⟨eW, rI, h⟩ := aG h
   refine iY (bT [(0, .aU (.agg [.slice (eW.1.map bb), .au 4 (eW.2.1.map cQ), .ct (.mp eW.2.2)]))] (fun P aj => ?_) ?_)
   ·simp only [aP.down, simprocAttr, DY.down]
    refine eQ (P5 ah (IntKind.i64.wrap (a2 + 1)) _ avf) rfl rfl rfl rfl (.inl (by rfl)) ?_
    simp only [aP.down, simprocAttr, DY.down]
    refine k_ [⟨.h 0 [], true, _, _⟩, ⟨.int .i64 R, false, _, .hole⟩, ⟨.int .i64 dt, false, _, .hole⟩, ⟨.slice (a3.map aE), false, _, .hole⟩] (Ej dk.1 dk.2.1 dk.2.2 R dt a3 _ rI) rfl rfl rfl (by simp only [aP.down, simprocAttr, DY.down, kO, jX, jY, e3, e4, e5, cC, or_true, true_or, @cx _ bb bb (fun _ => w9 _), @cx _ cQ b6 (fun _ => nr _)]) rfl rfl (.inl rfl) ?_
    simp only [aP.down, simprocAttr, DY.down, jZ]
    (try simp only [bh.down, simprocAttr, lI.down] at aj ⊢); exact aj
   exact dJ _ (bY _ (.inl (jw [] rfl (by cases gg h; rfl) (by decide) (jH (lY (by cases gg h; rfl) rfl rfl rfl (ep (ep (ep (jI)))))))))
  ·refine ws _ ?_
   refine a8 h (fun u5 h => ?_) (fun u5 h => ?_)
   ·obtain ⟨iP, u_, h⟩ := aG h
    obtain ⟨kg, ny, h⟩ := aG h
    refine hD u_ (Qa iP a3 _ ny) _ ?_
    refine a8 h (fun pS h => ?_) (fun pS h => ?_)
    ·obtain ⟨gP, u0, h⟩ := aG h
     refine iY (bT [(0, .aU (.agg [.slice (gP.1.map bb), .au 4 (gP.2.1.map cQ), .ct (.mp gP.2.2)]))] (fun P aj => ?_) ?_)
     ·simp only [aP.down, simprocAttr, lI.down]
      refine k_ [⟨.h 0 [], true, _, _⟩, ⟨.int .i64 R, false, _, .hole⟩, ⟨.int .i64 (IntKind.i64.wrap (a2 + 1)), false, _, .hole⟩, ⟨.slice (a3.map aE), false, _, .hole⟩] (Ej eN eO eH R (IntKind.i64.wrap (a2 + 1)) a3 _ u0) rfl rfl rfl (by simp only [aP.down, simprocAttr, lI.down, kO, jX, jY, e3, e4, e5, cC, or_true, true_or, @cx _ bb bb (fun _ => w9 _), @cx _ cQ b6 (fun _ => nr _)]) rfl rfl (.inl rfl) ?_
      simp only [aP.down, simprocAttr, lI.down, jZ]
      (try simp only [bh.down, simprocAttr, lI.down] at aj ⊢); exact aj
     exact dJ _ (bY _ (.inl (jw [] rfl (by cases gg h; rfl) (by decide) (jH (lY (by cases gg h; rfl) rfl rfl rfl (ep (ep (ep (jI)))))))))
    ·exact bk (dJ _ (bY _ (.inl (jw [] rfl (by cases gg h; rfl) (by decide) (jH (lY (by cases gg h; rfl) rfl rfl rfl (ep (ep (ep (jI))))))))))
   ·refine ws _ ?_
    refine a8 h (fun qQ h => ?_) (fun qQ h => ?_)
    ·refine ws _ ?_
     refine b5 dW (fun avg aAc avh Ao aAd => ?_)
     have avi : ∀ (n : Nat) (pM : List aS) (pN : List bd) (pO : List (List UInt8 × Bool)) (i7 : Int), uH lh R a2 a3 ak n pM pN pO i7 = some r → ei aA O9 avg (U [(0, .aU (.agg [.slice (pM.map bb), .au 4 (pN.map cQ), .ct (.mp pO)])), (1, .int .i64 R), (2, .int .i64 a2), (3, .slice (a3.map aE)), (103, .int .i64 (IntKind.i64.wrap (ak.Number + 1))), (104, .int .i64 i7)]) := by
      intro I0
      induction I0 with
      | zero => intro pM pN pO i7 h; cases (show none = some r from h)
      | succ I0 avj =>
       intro pM pN pO i7 h
       replace h : Dn lh (uH lh R a2 a3 ak I0) R a2 a3 ak pM pN pO i7 = some r := h
       refine eG avh (fun PM PN D_ PO => ?_)
       refine ws _ ?_
       refine aX D_ (fun atN IC atO ID => ?_)
       refine a8 h (fun u2 h => ?_) (fun u2 h => ?_)
       ·refine bk (IC _ (.inl ?_))
        refine aX D_ (fun P1 P2 IM aue => ?_)
        refine b5 IM (fun PR Am An aAe IF => ?_)
        refine ws _ ?_
        obtain ⟨hK, IG, h⟩ := aG h
        obtain ⟨aAf, rG, h⟩ := aG h
        (try simp only [iC.down, Nat.reduceAdd] at rG)
        obtain ⟨iO, Ek, h⟩ := aG h
        refine iY (bT [(0, .aU (.agg [.slice (iO.1.map bb), .au 4 (iO.2.1.map cQ), .ct (.mp iO.2.2)])), (1, .int .i64 R), (2, .int .i64 a2), (3, .slice (a3.map aE)), (103, .int .i64 (IntKind.i64.wrap (ak.Number + 1))), (104, .int .i64 i7)] (fun P aj => ?_) ?_)
        ·simp only [aP.down, simprocAttr, Af.down, (show ∀ s, c9 aA s 22 1 [(0, .int .i64 i7)] = some (.au 1 [.int .i64 i7], s) from fun s => by kernel_rfl), @gV aA 22 22 2 rfl rfl, gW, gX, ej, all_cons, all_nil, rG, @hd _ aE 1 (fun _ => rfl), ld, lb, lA, I.shares, cC, la, @cx _ aE aE (fun _ => gF _)]
         refine eQ (Qe a3 _ IG) rfl rfl rfl rfl (.inl (by rfl)) ?_
         simp only [aP.down, simprocAttr, Af.down, (show ∀ s, c9 aA s 22 1 [(0, .int .i64 i7)] = some (.au 1 [.int .i64 i7], s) from fun s => by kernel_rfl), @gV aA 22 22 2 rfl rfl, gW, gX, ej, all_cons, all_nil, rG, @hd _ aE 1 (fun _ => rfl), ld, lb, lA, I.shares, cC, la, @cx _ aE aE (fun _ => gF _)]
         refine k_ [⟨.h 0 [], true, _, _⟩, ⟨.int .i64 R, false, _, .hole⟩, ⟨.int .i64 (IntKind.i64.wrap (a2 + 1)), false, _, .hole⟩, ⟨.slice ((hK ++ [i7]).map aE), false, _, .hole⟩] (Ej pM pN pO R (IntKind.i64.wrap (a2 + 1)) (hK ++ [i7]) _ Ek) rfl rfl (by simp only [aP.down, simprocAttr, Af.down, (show ∀ s, c9 aA s 22 1 [(0, .int .i64 i7)] = some (.au 1 [.int .i64 i7], s) from fun s => by kernel_rfl), @gV aA 22 22 2 rfl rfl, gW, gX, ej, all_cons, all_nil, rG, @hd _ aE 1 (fun _ => rfl), ld, lb, lA, I.shares, cC, la, @cx _ aE aE (fun _ => gF _), List.map_append, List.map_set, List.map_cons, List.map_nil]) (by simp only [aP.down, simprocAttr, Af.down, (show ∀ s, c9 aA s 22 1 [(0, .int .i64 i7)] = some (.au 1 [.int .i64 i7], s) from fun s => by kernel_rfl), @gV aA 22 22 2 rfl rfl, gW, gX, ej, all_cons, all_nil, rG, @hd _ aE 1 (fun _ => rfl), ld, lb, lA, I.shares, cC, la, @cx _ aE aE (fun _ => gF _), kO, jX, jY, e3, e4, e5, cC, or_true, true_or, @cx _ bb bb (fun _ => w9 _), @cx _ cQ b6 (fun _ => nr _)]) rfl rfl (.inl rfl) ?_
         simp only [aP.down, simprocAttr, Af.down, (show ∀ s, c9 aA s 22 1 [(0, .int .i64 i7)] = some (.au 1 [.int .i64 i7], s) from fun s => by kernel_rfl), @gV aA 22 22 2 rfl rfl, gW, gX, ej, all_cons, all_nil, rG, @hd _ aE 1 (fun _ => rfl), ld, lb, lA, I.shares, cC, la, @cx _ aE aE (fun _ => gF _), jZ]
         (try simp only [bh.down, simprocAttr, lI.down, (show ∀ s, c9 aA s 22 1 [(0, .int .i64 i7)] = some (.au 1 [.int .i64 i7], s) from fun s => by kernel_rfl), @gV aA 22 22 2 rfl rfl, gW, gX, ej, all_cons, all_nil, rG, @hd _ aE 1 (fun _ => rfl), ld, lb, lA, I.shares, cC, la, @cx _ aE aE (fun _ => gF _)] at aj ⊢); exact aj
        refine Am _ (P2 _ (.inl ?_))
        refine wr _ ?_
        exact PN _ (.inr ⟨_, bH rfl, avj iO.1 iO.2.1 iO.2.2 (IntKind.i64.wrap (i7 + 1)) h⟩)
       ·exact eE (ID 1 _ (PO 1 _ (Ao _ (dJ _ (bY _ (.inl (jw [] rfl (by cases gg h; rfl) (by decide) (jH (lY (by cases gg h; rfl) rfl rfl rfl (ep (ep (ep (jI)))))))))))))
     obtain ⟨n, h⟩ := ed h
     exact eF (.inr ⟨_, bH rfl, avi n eN eO eH 0 h⟩)
    ·exact bk (dJ _ (bY _ (.inl (jw [] rfl (by cases gg h; rfl) (by decide) (jH (lY (by cases gg h; rfl) rfl rfl rfl (ep (ep (ep (jI))))))))))
theorem avk : ∀ (n : Nat) (eN : List aS) (eO : List bd) (eH : List (List UInt8 × Bool)) (R : Int) (a2 : Int) (a3 : List Int) (r : (List aS) × (List bd) × (List (List UInt8 × Bool))), oP n eN eO eH R a2 a3 = some r → bm aA 164 [.aU (.agg [.slice (eN.map bb), .au 4 (eO.map cQ), .ct (.mp eH)]), .int .i64 R, .int .i64 a2, .slice (a3.map aE)] (.tuple []) [.aU (.agg [.slice (r.1.map bb), .au 4 (r.2.1.map cQ), .ct (.mp r.2.2)]), .hole, .hole, .hole] := by
 intro n
 induction n with
 | zero => intro eN eO eH R a2 a3 r h; cases (show none = some r from h)
 | succ n ih => intro eN eO eH R a2 a3 r h; exact ave (oP n) ih eN eO eH R a2 a3 r h
theorem avl (eN : List aS) (eO : List bd) (eH : List (List UInt8 × Bool)) (R : Int) (a2 : Int) (a3 : List Int) (r : (List aS) × (List bd) × (List (List UInt8 × Bool))) (h : Dp eN eO eH R a2 a3 = some r) : bm aA 164 [.aU (.agg [.slice (eN.map bb), .au 4 (eO.map cQ), .ct (.mp eH)]), .int .i64 R, .int .i64 a2, .slice (a3.map aE)] (.tuple []) [.aU (.agg [.slice (r.1.map bb), .au 4 (r.2.1.map cQ), .ct (.mp r.2.2)]), .hole, .hole, .hole] := by
 obtain ⟨n, h⟩ := ed h
 exact avk n eN eO eH R a2 a3 r h
theorem avm (a0 : List aS) (R : dP) (r : (List bd) × Bool) (h : HT a0 R = some r) : bm aA 100 [.slice (a0.map bb), eg R] (.tuple [.au 4 (r.1.map cQ), .bool r.2]) [] := by
 refine b_ [0, 1] [.tmp 4, .tmp 5] Tryz.func100 anS (fun b7 aC bY => ?_)
 refine ws _ ?_
 refine cU (bT [(3, .aU (eg R)), (6, .aU (.agg [.slice (a0.map bb), .bo, .ct (.mp [])]))] (fun P aj => ?_) ?_)
 ·simp only [aP.down, simprocAttr, dm, eU, gE, wI, qC, ib, jL, l0, sy, e_, fT, Hk, ht, Hl, eV, aE, bb, bV, eg, bj, cW, @MH, @jx aA 236 [(72, 0), (69, 1), (197, 2)] [.bo, .bo, (.ct .o_)] rfl rfl (by kernel_rfl), jm, h0, hS, h1, dD, ej, List.nil_append, List.cons_append]
  (try simp only [bh.down, simprocAttr, nu.down, @MH, @jx aA 236 [(72, 0), (69, 1), (197, 2)] [.bo, .bo, (.ct .o_)] rfl rfl (by kernel_rfl), jm, h0, hS, h1, dD, ej, List.nil_append, List.cons_append] at aj ⊢); exact aj
 obtain ⟨ah, b2, h⟩ := aG h
 refine cU (bT [(6, .aU (.agg [.slice (ah.1.map bb), .au 4 (ah.2.1.map cQ), .ct (.mp ah.2.2)]))] (fun P aj => ?_) ?_)
 ·simp only [aP.down, simprocAttr, Ia.down]
  refine k_ [⟨.h 6 [], true, _, _⟩, ⟨.int .i64 R.dO, false, _, .hole⟩, ⟨.int .i64 R.Part, false, _, .hole⟩, ⟨.slice (R.cD.map aE), false, _, .hole⟩] (bm.VO (avl a0 [] [] R.dO R.Part R.cD _ b2) (.wd (.aU (.agg (.cons (.refl _) (.cons (.ly _) (.cons (.refl _) (.nil)))))) rfl rfl (.eq rfl (.eq rfl (.eq rfl (.nil)))))) rfl rfl rfl (by simp only [aP.down, simprocAttr, Ia.down, kO, jX, jY, e3, e4, e5, cC, or_true, true_or, @cx _ bb bb (fun _ => w9 _)]) rfl rfl (.inl rfl) ?_
  simp only [aP.down, simprocAttr, Ia.down, jZ]
  (try simp only [bh.down, simprocAttr, aE, bb, bV, eg, bj, cW, hC, cQ] at aj ⊢); exact aj
 refine hc rfl (gN [(4, .h 6 [0, 1]), (5, .bool (decide ((ah.2.1.length : Int) ≤ 200))), (6, .aU (.agg [.slice (ah.1.map bb), .au 4 (ah.2.1.map cQ), .ct (.mp ah.2.2)]))] (fun P aj => ?_) ?_)
 ·simp only [cl.down, simprocAttr, H_.down, MG]
  refine ⟨fS (by kernel_rfl), ?_⟩
  (try simp only [bh.down, simprocAttr, lI.down, MG] at aj ⊢); exact aj
 exact aM (aC _ (.inl (Vt 4 [.au 4 (ah.2.1.map cQ), .bool (decide ((ah.2.1.length : Int) ≤ 200))])))
theorem I1 (a0 : List aS) (R : dP) (r : (List bd) × Int) (h : zI a0 R = some r) : bm aA 48 [.slice (a0.map bb), eg R] (.tuple [.au 4 (r.1.map cQ), .int .i64 r.2]) [] := by
 refine b_ [0, 1] [.tmp 4, .tmp 5] Tryz.func48 an2 (fun b7 aC bY => ?_)
 refine ws _ ?_
 refine aX aC (fun eh b3 br ak => ?_)
 obtain ⟨ah, b2, h⟩ := aG h
 refine eA (auS a0 R _ b2) _ ?_
 refine a8 h (fun c8 h => ?_) (fun c8 h => ?_)
 ·refine ws _ ?_
  exact aM (br _ (.inr ⟨[(4, .au 4 []), (5, .int .i64 1)], pF [] rfl (pH (t := 4) (d := .bo) rfl rfl (.ly _) (by decide) (lC rfl (pG))), aQ [.au 4 [], .int .i64 1]⟩))
 ·refine bk (b3 _ (.inl ?_))
  obtain ⟨ak, fF, h⟩ := aG h
  refine eA (avm a0 R _ fF) _ ?_
  refine aX aC (fun e0 dw c0 dk => ?_)
  refine ws _ ?_
  refine a8 h (fun pR h => ?_) (fun pR h => ?_)
  ·refine ws _ ?_
   exact aM (c0 _ (.inr ⟨[(4, .au 4 []), (5, .int .i64 5)], pF [] rfl (pH (t := 4) (d := .bo) rfl rfl (.ly _) (by decide) (lC rfl (pG))), aQ [.au 4 [], .int .i64 5]⟩))
  ·refine bk (dw _ (.inl ?_))
   refine ws _ ?_
   exact aM (aC _ (.inl (aQ [.au 4 (ak.1.map cQ), .int .i64 0])))
theorem avn (a0 : List Int) (R : List Int) (r : Bool) (h : Dr a0 R = some r) : bm aA 18 [.slice (a0.map aE), .slice (R.map aE)] (.bool r) [] := by
 refine b_ [0, 1] [.tmp 4] Tryz.func18 aoe (fun b7 aC bY => ?_)
 refine ws _ ?_
 refine aX aC (fun eh b3 br ak => ?_)
 refine ws _ ?_
 refine a8 h (fun b8 h => ?_) (fun b8 h => ?_)
 ·refine ws _ ?_
  exact aM (br _ (.inl (aQ [.bool false])))
 ·refine bk (b3 _ (.inl ?_))
  refine aX aC (fun gf dJ dW bL => ?_)
  refine ws _ ?_
  refine b5 dW (fun kj ky j6 c5 dv => ?_)
  have j7 : ∀ (n : Nat) (cE : Int), Dq a0 R n cE = some r → ei aA O_ kj (U [(0, .slice (a0.map aE)), (1, .slice (R.map aE)), (5, .int .i64 cE)]) := by
   intro m14
   induction m14 with
   | zero => intro cE h; cases (show none = some r from h)
   | succ m14 jN =>
    intro cE h
    replace h : NN (Dq a0 R m14) a0 R cE = some r := h
    refine eG j6 (fun e0 dw c0 dk => ?_)
    refine aX c0 (fun gi c1 dc dt => ?_)
    refine ws _ ?_
    refine a8 h (fun fc h => ?_) (fun fc h => ?_)
    ·refine bk (c1 _ (.inl ?_))
     refine aX c0 (fun pV j8 jq kg => ?_)
     refine b5 jq (fun kh gG gH gQ gP => ?_)
     obtain ⟨ah, cF, h⟩ := aG h
     obtain ⟨ak, eI, h⟩ := aG h
     refine hc rfl (gN [(0, .slice (a0.map aE)), (1, .slice (R.map aE)), (5, .int .i64 cE), (25, .bool (ah != ak))] (fun P aj => ?_) ?_)
     ·simp only [cl.down, simprocAttr, l3.down, cF, eI]
      refine ⟨fS (by kernel_rfl), ?_⟩
      (try simp only [bh.down, simprocAttr, aE, cF, eI] at aj ⊢); exact aj
     refine a8 h (fun jb h => ?_) (fun jb h => ?_)
     ·refine ws _ ?_
      exact aM (gH _ (.inl (aQ [.bool false])))
     ·refine bk (gG _ (j8 _ (.inl ?_)))
      refine wr _ ?_
      exact dw _ (.inr ⟨_, bH rfl, jN (IntKind.i64.wrap (cE + 1)) h⟩)
    ·refine eE (dt 0 _ (dk 0 _ (c5 _ (dJ _ (.inl ?_)))))
     refine ws _ ?_
     exact aM (aC _ (.inl (aQ [.bool true])))
  obtain ⟨n, h⟩ := ed h
  exact eF (.inr ⟨_, bH rfl, j7 n 0 h⟩)
theorem Qf (a0 : dP) (R : dP) (r : Bool) (h : zJ a0 R = some r) : bm aA 51 [eg a0, eg R] (.bool r) [] := by
 refine b_ [0, 1] [.tmp 4] Tryz.func51 aoq (fun b7 aC bY => ?_)
 refine ws _ ?_
 refine aX aC (fun eh b3 br ak => ?_)
 refine ws _ ?_
 refine a8 h (fun b8 h => ?_) (fun b8 h => ?_)
 ·refine ws _ ?_
  exact aM (br _ (.inl (aQ [.bool false])))
 ·refine bk (b3 _ (.inl ?_))
  refine aX aC (fun gf dJ dW bL => ?_)
  refine ws _ ?_
  refine a8 h (fun c5 h => ?_) (fun c5 h => ?_)
  ·refine ws _ ?_
   exact aM (dW _ (.inl (aQ [.bool false])))
  ·refine bk (dJ _ (.inl ?_))
   refine aX aC (fun gi c1 dc dt => ?_)
   obtain ⟨ah, eo, h⟩ := aG h
   refine eA (avn a0.cD R.cD _ eo) _ ?_
   refine a8 h (fun fV h => ?_) (fun fV h => ?_)
   ·refine ws _ ?_
    exact aM (dc _ (.inl (aQ [.bool false])))
   ·refine bk (c1 _ (.inl ?_))
    refine ws _ ?_
    exact aM (aC _ (.inl (aQ [.bool true])))
theorem avo (a0 : bd) (R : bd) (r : Bool) (h : zK a0 R = some r) : bm aA 101 [b6 a0, b6 R] (.bool r) [] := by
 refine b_ [0, 1] [.tmp 4] Tryz.func101 aoz (fun b7 aC bY => ?_)
 refine ws _ ?_
 refine aX aC (fun eh b3 br ak => ?_)
 refine ws _ ?_
 refine a8 h (fun b8 h => ?_) (fun b8 h => ?_)
 ·refine ws _ ?_
  exact aM (br _ (.inl (aQ [.bool false])))
 ·refine bk (b3 _ (.inl ?_))
  refine aX aC (fun gf dJ dW bL => ?_)
  obtain ⟨ah, fF, h⟩ := aG h
  refine eA (Qf a0.Next R.Next _ fF) _ ?_
  refine a8 h (fun fU h => ?_) (fun fU h => ?_)
  ·refine ws _ ?_
   exact aM (dW _ (.inl (aQ [.bool false])))
  ·refine bk (dJ _ (.inl ?_))
   refine ws _ ?_
   exact aM (aC _ (.inl (aQ [.bool true])))
theorem xp (a0 : List bd) (R : List bd) (r : Bool) (h : w6 a0 R = some r) : bm aA 49 [.slice (a0.map b6), .slice (R.map b6)] (.bool r) [] := by
 refine b_ [0, 1] [.tmp 4] Tryz.func49 aoM (fun b7 aC bY => ?_)
 refine ws _ ?_
 refine aX aC (fun eh b3 br ak => ?_)
 refine ws _ ?_
 refine a8 h (fun b8 h => ?_) (fun b8 h => ?_)
 ·refine ws _ ?_
  exact aM (br _ (.inl (aQ [.bool false])))
 ·refine bk (b3 _ (.inl ?_))
  refine aX aC (fun gf dJ dW bL => ?_)
  refine ws _ ?_
  refine b5 dW (fun kj ky j6 c5 dv => ?_)
  have j7 : ∀ (n : Nat) (cE : Int), Ds a0 R n cE = some r → ei aA Pa kj (U [(0, .slice (a0.map b6)), (1, .slice (R.map b6)), (5, .int .i64 cE)]) := by
   intro m14
   induction m14 with
   | zero => intro cE h; cases (show none = some r from h)
   | succ m14 jN =>
    intro cE h
    replace h : NO (Ds a0 R m14) a0 R cE = some r := h
    refine eG j6 (fun e0 dw c0 dk => ?_)
    refine aX c0 (fun gi c1 dc dt => ?_)
    refine ws _ ?_
    refine a8 h (fun fc h => ?_) (fun fc h => ?_)
    ·refine bk (c1 _ (.inl ?_))
     refine aX c0 (fun pV j8 jq kg => ?_)
     refine b5 jq (fun kh gG gH gQ gP => ?_)
     obtain ⟨ah, cF, h⟩ := aG h
     obtain ⟨ak, eI, h⟩ := aG h
     obtain ⟨a6, gj, h⟩ := aG h
     refine hc rfl (gN [(0, .slice (a0.map b6)), (1, .slice (R.map b6)), (5, .int .i64 cE), (26, .bool (!a6))] (fun P aj => ?_) ?_)
     ·simp only [cl.down, simprocAttr, rD.down, cF, eI]
      refine fR (avo ah ak _ gj) rfl rfl rfl rfl (.inl (by rfl)) ?_
      simp only [cl.down, simprocAttr, rD.down, cF, eI]
      refine ⟨fS (by kernel_rfl), ?_⟩
      (try simp only [bh.down, simprocAttr, z_.down, cF, eI] at aj ⊢); exact aj
     refine a8 h (fun iR h => ?_) (fun iR h => ?_)
     ·refine ws _ ?_
      exact aM (gH _ (.inl (aQ [.bool false])))
     ·refine bk (gG _ (j8 _ (.inl ?_)))
      refine wr _ ?_
      exact dw _ (.inr ⟨_, bH rfl, jN (IntKind.i64.wrap (cE + 1)) h⟩)
    ·refine eE (dt 0 _ (dk 0 _ (c5 _ (dJ _ (.inl ?_)))))
     refine ws _ ?_
     exact aM (aC _ (.inl (aQ [.bool true])))
  obtain ⟨n, h⟩ := ed h
  exact eF (.inr ⟨_, bH rfl, j7 n 0 h⟩)
theorem avp (a0 : ba) (R : ba) (r : Bool) (h : zL a0 R = some r) : bm aA 265 [bj a0, bj R] (.bool r) [] := by
 refine b_ [0, 1] [.tmp 4] Tryz.func265 aoV (fun b7 aC bY => ?_)
 refine ws _ ?_
 refine aX aC (fun eh b3 br ak => ?_)
 refine ws _ ?_
 refine a8 h (fun b8 h => ?_) (fun b8 h => ?_)
 ·refine ws _ ?_
  exact aM (br _ (.inl (aQ [.bool false])))
 ·refine bk (b3 _ (.inl ?_))
  refine aX aC (fun gf dJ dW bL => ?_)
  refine ws _ ?_
  refine a8 h (fun c5 h => ?_) (fun c5 h => ?_)
  ·refine ws _ ?_
   exact aM (dW _ (.inl (aQ [.bool false])))
  ·refine bk (dJ _ (.inl ?_))
   refine ws _ ?_
   exact aM (aC _ (.inl (aQ [.bool true])))
theorem avq (a0 : List ba) (R : List ba) (r : Bool) (h : zM a0 R = some r) : bm aA 205 [.slice (a0.map bj), .slice (R.map bj)] (.bool r) [] := by
 refine b_ [0, 1] [.tmp 4] Tryz.func205 ao8 (fun b7 aC bY => ?_)
 refine ws _ ?_
 refine aX aC (fun eh b3 br ak => ?_)
 refine ws _ ?_
 refine a8 h (fun b8 h => ?_) (fun b8 h => ?_)
 ·refine ws _ ?_
  exact aM (br _ (.inl (aQ [.bool false])))
 ·refine bk (b3 _ (.inl ?_))
  refine aX aC (fun gf dJ dW bL => ?_)
  refine ws _ ?_
  refine b5 dW (fun kj ky j6 c5 dv => ?_)
  have j7 : ∀ (n : Nat) (cE : Int), Dt a0 R n cE = some r → ei aA Pb kj (U [(0, .slice (a0.map bj)), (1, .slice (R.map bj)), (5, .int .i64 cE)]) := by
   intro m14
   induction m14 with
   | zero => intro cE h; cases (show none = some r from h)
   | succ m14 jN =>
    intro cE h
    replace h : NP (Dt a0 R m14) a0 R cE = some r := h
    refine eG j6 (fun e0 dw c0 dk => ?_)
    refine aX c0 (fun gi c1 dc dt => ?_)
    refine ws _ ?_
    refine a8 h (fun fc h => ?_) (fun fc h => ?_)
    ·refine bk (c1 _ (.inl ?_))
     refine aX c0 (fun pV j8 jq kg => ?_)
     refine b5 jq (fun kh gG gH gQ gP => ?_)
     obtain ⟨ah, cF, h⟩ := aG h
     obtain ⟨ak, eI, h⟩ := aG h
     obtain ⟨a6, gj, h⟩ := aG h
     refine hc rfl (gN [(0, .slice (a0.map bj)), (1, .slice (R.map bj)), (5, .int .i64 cE), (26, .bool (!a6))] (fun P aj => ?_) ?_)
     ·simp only [cl.down, simprocAttr, n1.down, cF, eI]
      refine fR (avp ah ak _ gj) rfl rfl rfl rfl (.inl (by rfl)) ?_
      simp only [cl.down, simprocAttr, n1.down, cF, eI]
      refine ⟨fS (by kernel_rfl), ?_⟩
      (try simp only [bh.down, simprocAttr, bj, cF, eI] at aj ⊢); exact aj
     refine a8 h (fun iR h => ?_) (fun iR h => ?_)
     ·refine ws _ ?_
      exact aM (gH _ (.inl (aQ [.bool false])))
     ·refine bk (gG _ (j8 _ (.inl ?_)))
      refine wr _ ?_
      exact dw _ (.inr ⟨_, bH rfl, jN (IntKind.i64.wrap (cE + 1)) h⟩)
    ·refine eE (dt 0 _ (dk 0 _ (c5 _ (dJ _ (.inl ?_)))))
     refine ws _ ?_
     exact aM (aC _ (.inl (aQ [.bool true])))
  obtain ⟨n, h⟩ := ed h
  exact eF (.inr ⟨_, bH rfl, j7 n 0 h⟩)
theorem avr (a0 : List (List ba)) (R : List (List ba)) (r : Bool) (h : Dv a0 R = some r) : bm aA 206 [.slice (a0.map cW), .slice (R.map cW)] (.bool r) [] := by
 refine b_ [0, 1] [.tmp 4] Tryz.func206 apk (fun b7 aC bY => ?_)
 refine ws _ ?_
 refine aX aC (fun eh b3 br ak => ?_)
 refine ws _ ?_
 refine a8 h (fun b8 h => ?_) (fun b8 h => ?_)
 ·refine ws _ ?_
  exact aM (br _ (.inl (aQ [.bool false])))
 ·refine bk (b3 _ (.inl ?_))
  refine aX aC (fun gf dJ dW bL => ?_)
  refine ws _ ?_
  refine b5 dW (fun kj ky j6 c5 dv => ?_)
  have j7 : ∀ (n : Nat) (cE : Int), Du a0 R n cE = some r → ei aA Pc kj (U [(0, .slice (a0.map cW)), (1, .slice (R.map cW)), (5, .int .i64 cE)]) := by
   intro m14
   induction m14 with
   | zero => intro cE h; cases (show none = some r from h)
   | succ m14 jN =>
    intro cE h
    replace h : NQ (Du a0 R m14) a0 R cE = some r := h
    refine eG j6 (fun e0 dw c0 dk => ?_)
    refine aX c0 (fun gi c1 dc dt => ?_)
    refine ws _ ?_
    refine a8 h (fun fc h => ?_) (fun fc h => ?_)
    ·refine bk (c1 _ (.inl ?_))
     refine aX c0 (fun pV j8 jq kg => ?_)
     refine b5 jq (fun kh gG gH gQ gP => ?_)
     obtain ⟨ah, cF, h⟩ := aG h
     obtain ⟨ak, eI, h⟩ := aG h
     obtain ⟨a6, gj, h⟩ := aG h
     refine hc rfl (gN [(0, .slice (a0.map cW)), (1, .slice (R.map cW)), (5, .int .i64 cE), (26, .bool (!a6))] (fun P aj => ?_) ?_)
     ·simp only [cl.down, simprocAttr, dm, e_, fT, eV, bj, cW, cF, eI]
      refine fR (avq ah ak _ gj) rfl rfl rfl rfl (.inl (by rfl)) ?_
      simp only [cl.down, simprocAttr, dm, e_, fT, eV, bj, cW, cF, eI]
      refine ⟨fS (by kernel_rfl), ?_⟩
      (try simp only [bh.down, simprocAttr, bj, cW, cF, eI] at aj ⊢); exact aj
     refine a8 h (fun iR h => ?_) (fun iR h => ?_)
     ·refine ws _ ?_
      exact aM (gH _ (.inl (aQ [.bool false])))
     ·refine bk (gG _ (j8 _ (.inl ?_)))
      refine wr _ ?_
      exact dw _ (.inr ⟨_, bH rfl, jN (IntKind.i64.wrap (cE + 1)) h⟩)
    ·refine eE (dt 0 _ (dk 0 _ (c5 _ (dJ _ (.inl ?_)))))
     refine ws _ ?_
     exact aM (aC _ (.inl (aQ [.bool true])))
  obtain ⟨n, h⟩ := ed h
  exact eF (.inr ⟨_, bH rfl, j7 n 0 h⟩)
theorem avs (a0 : bs) (R : bs) (r : Bool) (h : zN a0 R = some r) : bm aA 245 [bV a0, bV R] (.bool r) [] := by
 refine b_ [0, 1] [.tmp 4] Tryz.func245 apA (fun b7 aC bY => ?_)
 refine ws _ ?_
 refine aX aC (fun eh b3 br ak => ?_)
 refine ws _ ?_
 refine a8 h (fun b8 h => ?_) (fun b8 h => ?_)
 ·refine ws _ ?_
  exact aM (br _ (.inl (aQ [.bool false])))
 ·refine bk (b3 _ (.inl ?_))
  refine aX aC (fun gf dJ dW bL => ?_)
  refine ws _ ?_
  refine a8 h (fun c5 h => ?_) (fun c5 h => ?_)
  ·refine ws _ ?_
   exact aM (dW _ (.inl (aQ [.bool false])))
  ·refine bk (dJ _ (.inl ?_))
   refine aX aC (fun gi c1 dc dt => ?_)
   refine ws _ ?_
   refine a8 h (fun fc h => ?_) (fun fc h => ?_)
   ·refine ws _ ?_
    exact aM (dc _ (.inl (aQ [.bool false])))
   ·refine bk (c1 _ (.inl ?_))
    refine aX aC (fun kh gG gH gP => ?_)
    obtain ⟨ah, cF, h⟩ := aG h
    refine eA (avr a0.bN R.bN _ cF) _ ?_
    refine a8 h (fun lK h => ?_) (fun lK h => ?_)
    ·refine ws _ ?_
     exact aM (gH _ (.inl (aQ [.bool false])))
    ·refine bk (gG _ (.inl ?_))
     refine ws _ ?_
     exact aM (aC _ (.inl (aQ [.bool true])))
theorem avt (a0 : List bs) (R : List bs) (r : Bool) (h : Dx a0 R = some r) : bm aA 165 [.slice (a0.map bV), .slice (R.map bV)] (.bool r) [] := by
 refine b_ [0, 1] [.tmp 4] Tryz.func165 apN (fun b7 aC bY => ?_)
 refine ws _ ?_
 refine aX aC (fun eh b3 br ak => ?_)
 refine ws _ ?_
 refine a8 h (fun b8 h => ?_) (fun b8 h => ?_)
 ·refine ws _ ?_
  exact aM (br _ (.inl (aQ [.bool false])))
 ·refine bk (b3 _ (.inl ?_))
  refine aX aC (fun gf dJ dW bL => ?_)
  refine ws _ ?_
  refine b5 dW (fun kj ky j6 c5 dv => ?_)
  have j7 : ∀ (n : Nat) (cE : Int), Dw a0 R n cE = some r → ei aA Pd kj (U [(0, .slice (a0.map bV)), (1, .slice (R.map bV)), (5, .int .i64 cE)]) := by
   intro m14
   induction m14 with
   | zero => intro cE h; cases (show none = some r from h)
   | succ m14 jN =>
    intro cE h
    replace h : NR (Dw a0 R m14) a0 R cE = some r := h
    refine eG j6 (fun e0 dw c0 dk => ?_)
    refine aX c0 (fun gi c1 dc dt => ?_)
    refine ws _ ?_
    refine a8 h (fun fc h => ?_) (fun fc h => ?_)
    ·refine bk (c1 _ (.inl ?_))
     refine aX c0 (fun pV j8 jq kg => ?_)
     refine b5 jq (fun kh gG gH gQ gP => ?_)
     obtain ⟨ah, cF, h⟩ := aG h
     obtain ⟨ak, eI, h⟩ := aG h
     obtain ⟨a6, gj, h⟩ := aG h
     refine hc rfl (gN [(0, .slice (a0.map bV)), (1, .slice (R.map bV)), (5, .int .i64 cE), (26, .bool (!a6))] (fun P aj => ?_) ?_)
     ·simp only [cl.down, simprocAttr, DT.down, cF, eI]
      refine fR (avs ah ak _ gj) rfl rfl rfl rfl (.inl (by rfl)) ?_
      simp only [cl.down, simprocAttr, DT.down, cF, eI]
      refine ⟨fS (by kernel_rfl), ?_⟩
      (try simp only [bh.down, simprocAttr, nt.down, cF, eI] at aj ⊢); exact aj
     refine a8 h (fun iR h => ?_) (fun iR h => ?_)
     ·refine ws _ ?_
      exact aM (gH _ (.inl (aQ [.bool false])))
     ·refine bk (gG _ (j8 _ (.inl ?_)))
      refine wr _ ?_
      exact dw _ (.inr ⟨_, bH rfl, jN (IntKind.i64.wrap (cE + 1)) h⟩)
    ·refine eE (dt 0 _ (dk 0 _ (c5 _ (dJ _ (.inl ?_)))))
     refine ws _ ?_
     exact aM (aC _ (.inl (aQ [.bool true])))
  obtain ⟨n, h⟩ := ed h
  exact eF (.inr ⟨_, bH rfl, j7 n 0 h⟩)
theorem avu (a0 : aS) (R : aS) (r : Bool) (h : zO a0 R = some r) : bm aA 102 [bb a0, bb R] (.bool r) [] := by
 refine b_ [0, 1] [.tmp 4] Tryz.func102 apZ (fun b7 aC bY => ?_)
 refine ws _ ?_
 refine aX aC (fun eh b3 br ak => ?_)
 refine ws _ ?_
 refine a8 h (fun b8 h => ?_) (fun b8 h => ?_)
 ·refine ws _ ?_
  exact aM (br _ (.inl (aQ [.bool false])))
 ·refine bk (b3 _ (.inl ?_))
  refine aX aC (fun gf dJ dW bL => ?_)
  refine ws _ ?_
  refine a8 h (fun c5 h => ?_) (fun c5 h => ?_)
  ·refine ws _ ?_
   exact aM (dW _ (.inl (aQ [.bool false])))
  ·refine bk (dJ _ (.inl ?_))
   refine aX aC (fun gi c1 dc dt => ?_)
   obtain ⟨ah, eo, h⟩ := aG h
   refine eA (avt a0.Body R.Body _ eo) _ ?_
   refine a8 h (fun fV h => ?_) (fun fV h => ?_)
   ·refine ws _ ?_
    exact aM (dc _ (.inl (aQ [.bool false])))
   ·refine bk (c1 _ (.inl ?_))
    refine ws _ ?_
    exact aM (aC _ (.inl (aQ [.bool true])))
theorem avv (a0 : List aS) (R : List aS) (r : Bool) (h : zP a0 R = some r) : bm aA 50 [.slice (a0.map bb), .slice (R.map bb)] (.bool r) [] := by
 refine b_ [0, 1] [.tmp 4] Tryz.func50 aqb (fun b7 aC bY => ?_)
 refine ws _ ?_
 refine aX aC (fun eh b3 br ak => ?_)
 refine ws _ ?_
 refine a8 h (fun b8 h => ?_) (fun b8 h => ?_)
 ·refine ws _ ?_
  exact aM (br _ (.inl (aQ [.bool false])))
 ·refine bk (b3 _ (.inl ?_))
  refine aX aC (fun gf dJ dW bL => ?_)
  refine ws _ ?_
  refine b5 dW (fun kj ky j6 c5 dv => ?_)
  have j7 : ∀ (n : Nat) (cE : Int), Dy a0 R n cE = some r → ei aA Pe kj (U [(0, .slice (a0.map bb)), (1, .slice (R.map bb)), (5, .int .i64 cE)]) := by
   intro m14
   induction m14 with
   | zero => intro cE h; cases (show none = some r from h)
   | succ m14 jN =>
    intro cE h
    replace h : NS (Dy a0 R m14) a0 R cE = some r := h
    refine eG j6 (fun e0 dw c0 dk => ?_)
    refine aX c0 (fun gi c1 dc dt => ?_)
    refine ws _ ?_
    refine a8 h (fun fc h => ?_) (fun fc h => ?_)
    ·refine bk (c1 _ (.inl ?_))
     refine aX c0 (fun pV j8 jq kg => ?_)
     refine b5 jq (fun kh gG gH gQ gP => ?_)
     obtain ⟨ah, cF, h⟩ := aG h
     obtain ⟨ak, eI, h⟩ := aG h
     obtain ⟨a6, gj, h⟩ := aG h
     refine hc rfl (gN [(0, .slice (a0.map bb)), (1, .slice (R.map bb)), (5, .int .i64 cE), (26, .bool (!a6))] (fun P aj => ?_) ?_)
     ·simp only [cl.down, simprocAttr, jo.down, cF, eI]
      refine fR (avu ah ak _ gj) rfl rfl rfl rfl (.inl (by rfl)) ?_
      simp only [cl.down, simprocAttr, jo.down, cF, eI]
      refine ⟨fS (by kernel_rfl), ?_⟩
      (try simp only [bh.down, simprocAttr, ig.down, cF, eI] at aj ⊢); exact aj
     refine a8 h (fun iR h => ?_) (fun iR h => ?_)
     ·refine ws _ ?_
      exact aM (gH _ (.inl (aQ [.bool false])))
     ·refine bk (gG _ (j8 _ (.inl ?_)))
      refine wr _ ?_
      exact dw _ (.inr ⟨_, bH rfl, jN (IntKind.i64.wrap (cE + 1)) h⟩)
    ·refine eE (dt 0 _ (dk 0 _ (c5 _ (dJ _ (.inl ?_)))))
     refine ws _ ?_
     exact aM (aC _ (.inl (aQ [.bool true])))
  obtain ⟨n, h⟩ := ed h
  exact eF (.inr ⟨_, bH rfl, j7 n 0 h⟩)
theorem El (a0 : Int) (r : (List UInt8)) (h : uI a0 = some r) : bm aA 76 [.int .i64 a0] (.str r) [] := by
 refine b_ [] [.tmp 2] Tryz.func76 aqm (fun b7 aC bY => ?_)
 refine ws _ ?_
 refine aX aC (fun eh b3 br ak => ?_)
 refine ws _ ?_
 refine a8 h (fun b8 h => ?_) (fun b8 h => ?_)
 ·refine ws _ ?_
  exact aM (br _ (.inl (aQ [.str ([109, 48] : List UInt8)])))
 ·refine bk (b3 _ (.inl ?_))
  refine ws _ ?_
  refine aX aC (fun j5 fo fE ch => ?_)
  refine b5 fE (fun kj ky j6 c5 dv => ?_)
  have j7 : ∀ (n : Nat) (kv : Int) (fy : List UInt8), sL n kv fy = some r → ei aA Pf kj (U [(0, .int .i64 kv), (3, .str fy)]) := by
   intro m14
   induction m14 with
   | zero => intro kv fy h; cases (show none = some r from h)
   | succ m14 jN =>
    intro kv fy h
    replace h : zQ (sL m14) kv fy = some r := h
    refine eG j6 (fun e0 dw c0 dk => ?_)
    refine aX c0 (fun gi c1 dc dt => ?_)
    refine ws _ ?_
    refine a8 h (fun fc h => ?_) (fun fc h => ?_)
    ·refine bk (c1 _ (.inl ?_))
     refine b5 c0 (fun pV j8 jq fV kg => ?_)
     obtain ⟨u16, gx, h⟩ := aG h
     (try simp only [iC.down, Nat.reduceAdd] at gx)
     refine cU (bT [(0, .int .i64 kv), (3, .str ([(mx (IntKind.i64.wrap (48 + (Int.tmod kv 10))))] ++ fy))] (fun P aj => ?_) ?_)
     ·simp only [aP.down, simprocAttr, y3, y4, gu, @rn .i64 10 (by decide), @BH aA 3 5 .u8 rfl rfl, (show ∀ s, c9 aA s 123 1 [(0, .int .u8 (IntKind.u8.wrap (IntKind.i64.wrap (48 + (Int.tmod kv 10)))))] = some (.au 1 [.int .u8 (IntKind.u8.wrap (IntKind.i64.wrap (48 + (Int.tmod kv 10))))], s) from fun s => by kernel_rfl), (@BI aA 123 9 5 rfl rfl rfl).2.2, BK, BJ, gx, iZ, i1]
      (try simp only [bh.down, simprocAttr, gu, @rn .i64 10 (by decide), @BH aA 3 5 .u8 rfl rfl, (show ∀ s, c9 aA s 123 1 [(0, .int .u8 (IntKind.u8.wrap (IntKind.i64.wrap (48 + (Int.tmod kv 10)))))] = some (.au 1 [.int .u8 (IntKind.u8.wrap (IntKind.i64.wrap (48 + (Int.tmod kv 10))))], s) from fun s => by kernel_rfl), (@BI aA 123 9 5 rfl rfl rfl).2.2, BK, BJ, gx, iZ, i1] at aj ⊢); exact aj
     refine Ps (@Mo .i64 10 (by decide)) [(0, .int .i64 (IntKind.i64.wrap (Int.tdiv kv 10))), (3, .str ([(mx (IntKind.i64.wrap (48 + (Int.tmod kv 10))))] ++ fy))] ?_
     exact j8 _ (dw _ (.inr ⟨_, bH rfl, jN (IntKind.i64.wrap (Int.tdiv kv 10)) ([(mx (IntKind.i64.wrap (48 + (Int.tmod kv 10))))] ++ fy) h⟩))
    ·refine eE (dt 0 _ (dk 0 _ (c5 _ (fo _ (.inl ?_)))))
     obtain ⟨D1, gj, h⟩ := aG h
     (try simp only [iC.down, Nat.reduceAdd] at gj)
     refine cU (bT [(2, .str (([109] : List UInt8) ++ fy))] (fun P aj => ?_) ?_)
     ·simp only [aP.down, simprocAttr, gj, iZ, i1]
      (try simp only [bh.down, simprocAttr, gj, iZ, i1] at aj ⊢); exact aj
     exact aM (aC _ (.inl (aQ [.str (([109] : List UInt8) ++ fy)])))
  obtain ⟨n, h⟩ := ed h
  exact eF (.inr ⟨_, bH rfl, j7 n a0 ([] : List UInt8) h⟩)
theorem avw (a0 : List ba) (R : Int) (r : Int × (List ba)) (h : DA a0 R = some r) : bm aA 136 [.au 2 (a0.map bj), .int .i64 R] (.int .i64 r.1) [.au 2 (r.2.map bj), .hole] := by
 refine b_ [0] [.tmp 4] Tryz.func136 aqx (fun b7 aC bY => ?_)
 refine ws _ ?_
 refine aX aC (fun eh b3 br ak => ?_)
 refine ws _ ?_
 refine b5 br (fun eB eS ca b8 bl => ?_)
 have hf : ∀ (n : Nat) (cb : List ba) (a7 : Int) (aO : Int), uJ n cb a7 aO = some r → ei aA Pg eB (U [(0, .au 2 (cb.map bj)), (1, .int .i64 a7), (5, .int .i64 aO)]) := by
  intro m6
  induction m6 with
  | zero => intro cb a7 aO h; cases (show none = some r from h)
  | succ m6 gR =>
   intro cb a7 aO h
   replace h : Dz (uJ m6) cb a7 aO = some r := h
   refine eG ca (fun ij er dq bq => ?_)
   refine aX dq (fun gf dJ dW bL => ?_)
   refine ws _ ?_
   refine a8 h (fun c5 h => ?_) (fun c5 h => ?_)
   ·refine bk (dJ _ (.inl ?_))
    refine aX dq (fun e0 dw c0 dk => ?_)
    refine b5 c0 (fun gi c1 dc e8 dt => ?_)
    obtain ⟨ah, eo, h⟩ := aG h
    refine cU (bT [(0, .au 2 ((List.set cb (Int.toNat aO) (ba.mk a7 ah.Value)).map bj)), (1, .int .i64 a7), (5, .int .i64 aO)] (fun P aj => ?_) ?_)
    ·simp only [aP.down, simprocAttr, n1.down, eo, dd eo, dD, eD]
     (try simp only [bh.down, simprocAttr, bj, eo, dd eo, dD, eD] at aj ⊢); exact aj
    refine ws [(0, .au 2 ((List.set cb (Int.toNat aO) (ba.mk a7 ah.Value)).map bj)), (1, .int .i64 (IntKind.i64.wrap (a7 + 1))), (5, .int .i64 aO)] ?_
    obtain ⟨ak, gx, h⟩ := aG h
    refine cU (bT [(0, .au 2 ((List.set (List.set cb (Int.toNat aO) (ba.mk a7 ah.Value)) (Int.toNat aO) (ba.mk ak.Kind (IntKind.i64.wrap (a7 + 1)))).map bj)), (1, .int .i64 (IntKind.i64.wrap (a7 + 1))), (5, .int .i64 aO)] (fun P aj => ?_) ?_)
    ·simp only [aP.down, simprocAttr, n1.down, gx, dd gx, dD, eD]
     (try simp only [bh.down, simprocAttr, bj, gx, dd gx, dD, eD] at aj ⊢); exact aj
    refine wr [(0, .au 2 ((List.set (List.set cb (Int.toNat aO) (ba.mk a7 ah.Value)) (Int.toNat aO) (ba.mk ak.Kind (IntKind.i64.wrap (a7 + 1)))).map bj)), (1, .int .i64 (IntKind.i64.wrap ((IntKind.i64.wrap (a7 + 1)) + 1))), (5, .int .i64 aO)] ?_
    refine c1 _ (dw _ (.inl ?_))
    refine wr [(0, .au 2 ((List.set (List.set cb (Int.toNat aO) (ba.mk a7 ah.Value)) (Int.toNat aO) (ba.mk ak.Kind (IntKind.i64.wrap (a7 + 1)))).map bj)), (1, .int .i64 (IntKind.i64.wrap ((IntKind.i64.wrap (a7 + 1)) + 1))), (5, .int .i64 (IntKind.i64.wrap (aO + 1)))] ?_
    exact er _ (.inr ⟨_, bH rfl, gR (List.set (List.set cb (Int.toNat aO) (ba.mk a7 ah.Value)) (Int.toNat aO) (ba.mk ak.Kind (IntKind.i64.wrap (a7 + 1)))) (IntKind.i64.wrap ((IntKind.i64.wrap (a7 + 1)) + 1)) (IntKind.i64.wrap (aO + 1)) h⟩)
   ·refine eE (bL 0 _ (bq 0 _ (b8 _ (b3 _ (.inl ?_)))))
    refine ws _ ?_
    exact aM (aC _ (.inl (jw [.int .i64 a7] rfl (by cases gg h; rfl) (by decide) (jH (lY (by cases gg h; rfl) rfl rfl rfl (ep (jI)))))))
 obtain ⟨n, h⟩ := ed h
 exact eF (.inr ⟨_, bH rfl, hf n a0 R 0 h⟩)
theorem avx (a0 : List (List ba)) (R : Int) (r : Int × (List (List ba))) (h : DC a0 R = some r) : bm aA 137 [.au 1 (a0.map fA), .int .i64 R] (.int .i64 r.1) [.au 1 (r.2.map fA), .hole] := by
 refine b_ [0] [.tmp 4] Tryz.func137 aqF (fun b7 aC bY => ?_)
 refine ws _ ?_
 refine aX aC (fun eh b3 br ak => ?_)
 refine ws _ ?_
 refine b5 br (fun eB eS ca b8 bl => ?_)
 have hf : ∀ (n : Nat) (cb : List (List ba)) (a7 : Int) (aO : Int), uK n cb a7 aO = some r → ei aA Ph eB (U [(0, .au 1 (cb.map fA)), (1, .int .i64 a7), (5, .int .i64 aO)]) := by
  intro m6
  induction m6 with
  | zero => intro cb a7 aO h; cases (show none = some r from h)
  | succ m6 gR =>
   intro cb a7 aO h
   replace h : DB (uK m6) cb a7 aO = some r := h
   refine eG ca (fun ij er dq bq => ?_)
   refine aX dq (fun gf dJ dW bL => ?_)
   refine ws _ ?_
   refine a8 h (fun c5 h => ?_) (fun c5 h => ?_)
   ·refine bk (dJ _ (.inl ?_))
    refine aX dq (fun e0 dw c0 dk => ?_)
    refine b5 c0 (fun gi c1 dc e8 dt => ?_)
    obtain ⟨ah, eo, h⟩ := aG h
    obtain ⟨ak, ea, h⟩ := aG h
    refine iY (bT [(0, .au 1 ((List.set cb (Int.toNat aO) ak.2).map fA)), (1, .int .i64 ak.1), (5, .int .i64 aO)] (fun P aj => ?_) ?_)
    ·simp only [aP.down, simprocAttr, dm, e_, fT, eV, bj, fA, eo, dd eo]
     refine k_ [⟨.h 0 [Int.toNat aO], true, _, _⟩, ⟨.int .i64 a7, false, _, .hole⟩] (avw ah a7 _ ea) rfl rfl rfl (by simp only [aP.down, simprocAttr, dm, e_, fT, eV, bj, fA, eo, dd eo, jX, jY, e3, e4, e5, cC, or_true, true_or, @cx _ bj bj (fun _ => zV _)]) rfl rfl (.inl rfl) ?_
     simp only [aP.down, simprocAttr, dm, e_, fT, eV, bj, fA, eo, dd eo, jZ, (BS (dd eo)), BT]
     (try simp only [bh.down, simprocAttr, bj, fA, eo, dd eo] at aj ⊢); exact aj
    refine c1 _ (dw _ (.inl ?_))
    refine wr [(0, .au 1 ((List.set cb (Int.toNat aO) ak.2).map fA)), (1, .int .i64 ak.1), (5, .int .i64 (IntKind.i64.wrap (aO + 1)))] ?_
    exact er _ (.inr ⟨_, bH rfl, gR (List.set cb (Int.toNat aO) ak.2) ak.1 (IntKind.i64.wrap (aO + 1)) h⟩)
   ·refine eE (bL 0 _ (bq 0 _ (b8 _ (b3 _ (.inl ?_)))))
    refine ws _ ?_
    exact aM (aC _ (.inl (jw [.int .i64 a7] rfl (by cases gg h; rfl) (by decide) (jH (lY (by cases gg h; rfl) rfl rfl rfl (ep (jI)))))))
 obtain ⟨n, h⟩ := ed h
 exact eF (.inr ⟨_, bH rfl, hf n a0 R 0 h⟩)
theorem avy (a0 : List bs) (R : Int) (r : Int × (List bs)) (h : DE a0 R = some r) : bm aA 103 [.au 4 (a0.map fl), .int .i64 R] (.int .i64 r.1) [.au 4 (r.2.map fl), .hole] := by
 refine b_ [0] [.tmp 4] Tryz.func103 aqT (fun b7 aC bY => ?_)
 refine ws _ ?_
 refine aX aC (fun eh b3 br ak => ?_)
 refine ws _ ?_
 refine b5 br (fun eB eS ca b8 bl => ?_)
 have hf : ∀ (n : Nat) (cb : List bs) (a7 : Int) (aO : Int), uL n cb a7 aO = some r → ei aA Pj eB (U [(0, .au 4 (cb.map fl)), (1, .int .i64 a7), (5, .int .i64 aO)]) := by
  intro m6
  induction m6 with
  | zero => intro cb a7 aO h; cases (show none = some r from h)
  | succ m6 gR =>
   intro cb a7 aO h
   replace h : DD (uL m6) cb a7 aO = some r := h
   refine eG ca (fun ij er dq bq => ?_)
   refine aX dq (fun gf dJ dW bL => ?_)
   refine ws _ ?_
   refine a8 h (fun c5 h => ?_) (fun c5 h => ?_)
   ·refine bk (dJ _ (.inl ?_))
    refine aX dq (fun e0 dw c0 dk => ?_)
    refine b5 c0 (fun gi c1 dc e8 dt => ?_)
    obtain ⟨ah, eo, h⟩ := aG h
    refine cU (bT [(0, .au 4 ((List.set cb (Int.toNat aO) (bs.mk a7 ah.Number ah.Name ah.bN)).map fl)), (1, .int .i64 a7), (5, .int .i64 aO)] (fun P aj => ?_) ?_)
    ·simp only [aP.down, simprocAttr, uU.down, eo, dd eo, dD, eD]
     (try simp only [bh.down, simprocAttr, DZ.down, eo, dd eo, dD, eD] at aj ⊢); exact aj
    refine ws [(0, .au 4 ((List.set cb (Int.toNat aO) (bs.mk a7 ah.Number ah.Name ah.bN)).map fl)), (1, .int .i64 (IntKind.i64.wrap (a7 + 1))), (5, .int .i64 aO)] ?_
    obtain ⟨ak, gx, h⟩ := aG h
    refine cU (bT [(0, .au 4 ((List.set (List.set cb (Int.toNat aO) (bs.mk a7 ah.Number ah.Name ah.bN)) (Int.toNat aO) (bs.mk ak.Kind (IntKind.i64.wrap (a7 + 1)) ak.Name ak.bN)).map fl)), (1, .int .i64 (IntKind.i64.wrap (a7 + 1))), (5, .int .i64 aO)] (fun P aj => ?_) ?_)
    ·simp only [aP.down, simprocAttr, uU.down, gx, dd gx, dD, eD]
     (try simp only [bh.down, simprocAttr, DZ.down, gx, dd gx, dD, eD] at aj ⊢); exact aj
    refine ws [(0, .au 4 ((List.set (List.set cb (Int.toNat aO) (bs.mk a7 ah.Number ah.Name ah.bN)) (Int.toNat aO) (bs.mk ak.Kind (IntKind.i64.wrap (a7 + 1)) ak.Name ak.bN)).map fl)), (1, .int .i64 (IntKind.i64.wrap ((IntKind.i64.wrap (a7 + 1)) + 1))), (5, .int .i64 aO)] ?_
    obtain ⟨a6, gj, h⟩ := aG h
    obtain ⟨bl, gy, h⟩ := aG h
    refine cU (bT [(0, .au 4 ((List.set (List.set (List.set cb (Int.toNat aO) (bs.mk a7 ah.Number ah.Name ah.bN)) (Int.toNat aO) (bs.mk ak.Kind (IntKind.i64.wrap (a7 + 1)) ak.Name ak.bN)) (Int.toNat aO) (bs.mk bl.Kind bl.Number a6 bl.bN)).map fl)), (1, .int .i64 (IntKind.i64.wrap ((IntKind.i64.wrap (a7 + 1)) + 1))), (5, .int .i64 aO)] (fun P aj => ?_) ?_)
    ·simp only [aP.down, simprocAttr, uU.down, gy, dd gy, dD, eD]
     refine eQ (El (IntKind.i64.wrap ((IntKind.i64.wrap (a7 + 1)) + 1)) _ gj) rfl rfl rfl rfl (.inl (by rfl)) ?_
     simp only [aP.down, simprocAttr, uU.down, gy, dd gy, dD, eD]
     (try simp only [bh.down, simprocAttr, DZ.down, gy, dd gy, dD, eD] at aj ⊢); exact aj
    refine ws [(0, .au 4 ((List.set (List.set (List.set cb (Int.toNat aO) (bs.mk a7 ah.Number ah.Name ah.bN)) (Int.toNat aO) (bs.mk ak.Kind (IntKind.i64.wrap (a7 + 1)) ak.Name ak.bN)) (Int.toNat aO) (bs.mk bl.Kind bl.Number a6 bl.bN)).map fl)), (1, .int .i64 (IntKind.i64.wrap ((IntKind.i64.wrap ((IntKind.i64.wrap (a7 + 1)) + 1)) + 1))), (5, .int .i64 aO)] ?_
    obtain ⟨bq, gk, h⟩ := aG h
    obtain ⟨bL, lJ, h⟩ := aG h
    refine iY (bT [(0, .au 4 ((List.set (List.set (List.set (List.set cb (Int.toNat aO) (bs.mk a7 ah.Number ah.Name ah.bN)) (Int.toNat aO) (bs.mk ak.Kind (IntKind.i64.wrap (a7 + 1)) ak.Name ak.bN)) (Int.toNat aO) (bs.mk bl.Kind bl.Number a6 bl.bN)) (Int.toNat aO) (bs.mk bq.Kind bq.Number bq.Name bL.2)).map fl)), (1, .int .i64 bL.1), (5, .int .i64 aO)] (fun P aj => ?_) ?_)
    ·simp only [aP.down, simprocAttr, uU.down, gk, dd gk]
     refine k_ [⟨.h 0 [Int.toNat aO, 3], true, _, _⟩, ⟨.int .i64 (IntKind.i64.wrap ((IntKind.i64.wrap ((IntKind.i64.wrap (a7 + 1)) + 1)) + 1)), false, _, .hole⟩] (avx bq.bN (IntKind.i64.wrap ((IntKind.i64.wrap ((IntKind.i64.wrap (a7 + 1)) + 1)) + 1)) _ lJ) rfl rfl rfl (by simp only [aP.down, simprocAttr, uU.down, gk, dd gk, jX, jY, e3, e4, e5, cC, or_true, true_or, @cx _ fA cW (fun _ => HY _)]) rfl rfl (.inl rfl) ?_
     simp only [aP.down, simprocAttr, uU.down, gk, dd gk, jZ, (BS (dd gk)), BT]
     (try simp only [bh.down, simprocAttr, DZ.down, gk, dd gk] at aj ⊢); exact aj
    refine c1 _ (dw _ (.inl ?_))
    refine wr [(0, .au 4 ((List.set (List.set (List.set (List.set cb (Int.toNat aO) (bs.mk a7 ah.Number ah.Name ah.bN)) (Int.toNat aO) (bs.mk ak.Kind (IntKind.i64.wrap (a7 + 1)) ak.Name ak.bN)) (Int.toNat aO) (bs.mk bl.Kind bl.Number a6 bl.bN)) (Int.toNat aO) (bs.mk bq.Kind bq.Number bq.Name bL.2)).map fl)), (1, .int .i64 bL.1), (5, .int .i64 (IntKind.i64.wrap (aO + 1)))] ?_
    exact er _ (.inr ⟨_, bH rfl, gR (List.set (List.set (List.set (List.set cb (Int.toNat aO) (bs.mk a7 ah.Number ah.Name ah.bN)) (Int.toNat aO) (bs.mk ak.Kind (IntKind.i64.wrap (a7 + 1)) ak.Name ak.bN)) (Int.toNat aO) (bs.mk bl.Kind bl.Number a6 bl.bN)) (Int.toNat aO) (bs.mk bq.Kind bq.Number bq.Name bL.2)) bL.1 (IntKind.i64.wrap (aO + 1)) h⟩)
   ·refine eE (bL 0 _ (bq 0 _ (b8 _ (b3 _ (.inl ?_)))))
    refine ws _ ?_
    exact aM (aC _ (.inl (jw [.int .i64 a7] rfl (by cases gg h; rfl) (by decide) (jH (lY (by cases gg h; rfl) rfl rfl rfl (ep (jI)))))))
 obtain ⟨n, h⟩ := ed h
 exact eF (.inr ⟨_, bH rfl, hf n a0 R 0 h⟩)
theorem avz (a0 : List aS) (R : Int) (r : Int × (List aS)) (h : DG a0 R = some r) : bm aA 52 [.au 3 (a0.map fI), .int .i64 R] (.int .i64 r.1) [.au 3 (r.2.map fI), .hole] := by
 refine b_ [0] [.tmp 4] Tryz.func52 z6 (fun b7 aC bY => ?_)
 refine ws _ ?_
 refine aX aC (fun eh b3 br ak => ?_)
 refine ws _ ?_
 refine b5 br (fun eB eS ca b8 bl => ?_)
 have hf : ∀ (n : Nat) (cb : List aS) (a7 : Int) (aO : Int), uM n cb a7 aO = some r → ei aA Pk eB (U [(0, .au 3 (cb.map fI)), (1, .int .i64 a7), (5, .int .i64 aO)]) := by
  intro m6
  induction m6 with
  | zero => intro cb a7 aO h; cases (show none = some r from h)
  | succ m6 gR =>
   intro cb a7 aO h
   replace h : DF (uM m6) cb a7 aO = some r := h
   refine eG ca (fun ij er dq bq => ?_)
   refine aX dq (fun gf dJ dW bL => ?_)
   refine ws _ ?_
   refine a8 h (fun c5 h => ?_) (fun c5 h => ?_)
   ·refine bk (dJ _ (.inl ?_))
    refine aX dq (fun e0 dw c0 dk => ?_)
    refine b5 c0 (fun gi c1 dc e8 dt => ?_)
    obtain ⟨ah, eo, h⟩ := aG h
    obtain ⟨ak, ea, h⟩ := aG h
    refine cU (bT [(0, .au 3 ((List.set cb (Int.toNat aO) (aS.mk ah ak.c_ ak.Body)).map fI)), (1, .int .i64 a7), (5, .int .i64 aO)] (fun P aj => ?_) ?_)
    ·simp only [aP.down, simprocAttr, xb.down, ea, dd ea, dD, eD]
     refine eQ (El a7 _ eo) rfl rfl rfl rfl (.inl (by rfl)) ?_
     simp only [aP.down, simprocAttr, xb.down, ea, dd ea, dD, eD]
     (try simp only [bh.down, simprocAttr, bj, fI, fl, fA, ea, dd ea, dD, eD] at aj ⊢); exact aj
    refine ws [(0, .au 3 ((List.set cb (Int.toNat aO) (aS.mk ah ak.c_ ak.Body)).map fI)), (1, .int .i64 (IntKind.i64.wrap (a7 + 1))), (5, .int .i64 aO)] ?_
    obtain ⟨a6, cF, h⟩ := aG h
    refine cU (bT [(0, .au 3 ((List.set (List.set cb (Int.toNat aO) (aS.mk ah ak.c_ ak.Body)) (Int.toNat aO) (aS.mk a6.Name (IntKind.i64.wrap (a7 + 1)) a6.Body)).map fI)), (1, .int .i64 (IntKind.i64.wrap (a7 + 1))), (5, .int .i64 aO)] (fun P aj => ?_) ?_)
    ·simp only [aP.down, simprocAttr, xb.down, cF, dd cF, dD, eD]
     (try simp only [bh.down, simprocAttr, bj, fI, fl, fA, cF, dd cF, dD, eD] at aj ⊢); exact aj
    refine ws [(0, .au 3 ((List.set (List.set cb (Int.toNat aO) (aS.mk ah ak.c_ ak.Body)) (Int.toNat aO) (aS.mk a6.Name (IntKind.i64.wrap (a7 + 1)) a6.Body)).map fI)), (1, .int .i64 (IntKind.i64.wrap ((IntKind.i64.wrap (a7 + 1)) + 1))), (5, .int .i64 aO)] ?_
    obtain ⟨bl, gy, h⟩ := aG h
    obtain ⟨bq, hM, h⟩ := aG h
    refine iY (bT [(0, .au 3 ((List.set (List.set (List.set cb (Int.toNat aO) (aS.mk ah ak.c_ ak.Body)) (Int.toNat aO) (aS.mk a6.Name (IntKind.i64.wrap (a7 + 1)) a6.Body)) (Int.toNat aO) (aS.mk bl.Name bl.c_ bq.2)).map fI)), (1, .int .i64 bq.1), (5, .int .i64 aO)] (fun P aj => ?_) ?_)
    ·simp only [aP.down, simprocAttr, xb.down, gy, dd gy]
     refine k_ [⟨.h 0 [Int.toNat aO, 2], true, _, _⟩, ⟨.int .i64 (IntKind.i64.wrap ((IntKind.i64.wrap (a7 + 1)) + 1)), false, _, .hole⟩] (avy bl.Body (IntKind.i64.wrap ((IntKind.i64.wrap (a7 + 1)) + 1)) _ hM) rfl rfl rfl (by simp only [aP.down, simprocAttr, xb.down, gy, dd gy, jX, jY, e3, e4, e5, cC, or_true, true_or, @cx _ fl bV (fun _ => HZ _)]) rfl rfl (.inl rfl) ?_
     simp only [aP.down, simprocAttr, xb.down, gy, dd gy, jZ, (BS (dd gy)), BT]
     (try simp only [bh.down, simprocAttr, bj, fI, fl, fA, gy, dd gy] at aj ⊢); exact aj
    refine c1 _ (dw _ (.inl ?_))
    refine wr [(0, .au 3 ((List.set (List.set (List.set cb (Int.toNat aO) (aS.mk ah ak.c_ ak.Body)) (Int.toNat aO) (aS.mk a6.Name (IntKind.i64.wrap (a7 + 1)) a6.Body)) (Int.toNat aO) (aS.mk bl.Name bl.c_ bq.2)).map fI)), (1, .int .i64 bq.1), (5, .int .i64 (IntKind.i64.wrap (aO + 1)))] ?_
    exact er _ (.inr ⟨_, bH rfl, gR (List.set (List.set (List.set cb (Int.toNat aO) (aS.mk ah ak.c_ ak.Body)) (Int.toNat aO) (aS.mk a6.Name (IntKind.i64.wrap (a7 + 1)) a6.Body)) (Int.toNat aO) (aS.mk bl.Name bl.c_ bq.2)) bq.1 (IntKind.i64.wrap (aO + 1)) h⟩)
   ·refine eE (bL 0 _ (bq 0 _ (b8 _ (b3 _ (.inl ?_)))))
    refine ws _ ?_
    exact aM (aC _ (.inl (jw [.int .i64 a7] rfl (by cases gg h; rfl) (by decide) (jH (lY (by cases gg h; rfl) rfl rfl rfl (ep (jI)))))))
 obtain ⟨n, h⟩ := ed h
 exact eF (.inr ⟨_, bH rfl, hf n a0 R 0 h⟩)
theorem Qg (a0 : List Int) (R : Int) (r : Int × (List Int)) (h : zR a0 R = some r) : bm aA 20 [.au 1 (a0.map aE), .int .i64 R] (.int .i64 r.1) [.au 1 (r.2.map aE), .hole] := by
 refine b_ [0] [.tmp 4] Tryz.func20 uS (fun b7 aC bY => ?_)
 refine ws _ ?_
 refine aX aC (fun eh b3 br ak => ?_)
 refine ws _ ?_
 refine b5 br (fun eB eS ca b8 bl => ?_)
 have hf : ∀ (n : Nat) (cb : List Int) (a7 : Int) (aO : Int), uN n cb a7 aO = some r → ei aA Pl eB (U [(0, .au 1 (cb.map aE)), (1, .int .i64 a7), (5, .int .i64 aO)]) := by
  intro m6
  induction m6 with
  | zero => intro cb a7 aO h; cases (show none = some r from h)
  | succ m6 gR =>
   intro cb a7 aO h
   replace h : DH (uN m6) cb a7 aO = some r := h
   refine eG ca (fun ij er dq bq => ?_)
   refine aX dq (fun gf dJ dW bL => ?_)
   refine ws _ ?_
   refine a8 h (fun c5 h => ?_) (fun c5 h => ?_)
   ·refine bk (dJ _ (.inl ?_))
    refine aX dq (fun e0 dw c0 dk => ?_)
    refine b5 c0 (fun gi c1 dc e8 dt => ?_)
    obtain ⟨ah, eo, h⟩ := aG h
    refine cU (bT [(0, .au 1 ((List.set cb (Int.toNat aO) a7).map aE)), (1, .int .i64 a7), (5, .int .i64 aO)] (fun P aj => ?_) ?_)
    ·simp only [aP.down, simprocAttr, l3.down, eo, dd eo, dD, eD]
     (try simp only [bh.down, simprocAttr, aE, eo, dd eo, dD, eD] at aj ⊢); exact aj
    refine wr [(0, .au 1 ((List.set cb (Int.toNat aO) a7).map aE)), (1, .int .i64 (IntKind.i64.wrap (a7 + 1))), (5, .int .i64 aO)] ?_
    refine c1 _ (dw _ (.inl ?_))
    refine wr [(0, .au 1 ((List.set cb (Int.toNat aO) a7).map aE)), (1, .int .i64 (IntKind.i64.wrap (a7 + 1))), (5, .int .i64 (IntKind.i64.wrap (aO + 1)))] ?_
    exact er _ (.inr ⟨_, bH rfl, gR (List.set cb (Int.toNat aO) a7) (IntKind.i64.wrap (a7 + 1)) (IntKind.i64.wrap (aO + 1)) h⟩)
   ·refine eE (bL 0 _ (bq 0 _ (b8 _ (b3 _ (.inl ?_)))))
    refine ws _ ?_
    exact aM (aC _ (.inl (jw [.int .i64 a7] rfl (by cases gg h; rfl) (by decide) (jH (lY (by cases gg h; rfl) rfl rfl rfl (ep (jI)))))))
 obtain ⟨n, h⟩ := ed h
 exact eF (.inr ⟨_, bH rfl, hf n a0 R 0 h⟩)
theorem avA (eN : Int) (eO : Int) (eH : List Int) (R : Int) (r : Int × Int × Int × (List Int)) (h : DI eN eO eH R = some r) : bm aA 53 [.agg [.int .i64 eN, .int .i64 eO, .au 1 (eH.map aE)], .int .i64 R] (.int .i64 r.1) [.agg [.int .i64 r.2.1, .int .i64 r.2.2.1, .au 1 (r.2.2.2.map aE)], .hole] := by
 refine b_ [0] [.tmp 4] Tryz.func53 mU (fun b7 aC bY => ?_)
 refine cU (bT [(0, .agg [.int .i64 eN, .int .i64 eO, .au 1 (eH.map aE)]), (1, .int .i64 R), (2, .aa 0 0)] (fun P aj => ?_) ?_)
 ·simp only [aP.down, simprocAttr, dm, gE, ib, aE, wA, wC, I.e1, wB]
  (try simp only [bh.down, simprocAttr, aE, wA, wC, I.e1, wB] at aj ⊢); exact aj
 obtain ⟨ah, aT, h⟩ := aG h
 refine cU (bT [(0, .agg [.int .i64 eN, .int .i64 eO, .au 1 (ah.2.map aE)]), (1, .int .i64 ah.1)] (fun P aj => ?_) ?_)
 ·simp only [aP.down, simprocAttr, dm, gE, ib, aE, wA, wC, I.e1, wB]
  refine k_ [⟨.h 0 [2], true, _, _⟩, ⟨.int .i64 R, false, _, .hole⟩] (Qg eH R _ aT) rfl rfl rfl (by simp only [aP.down, simprocAttr, dm, gE, ib, aE, wA, wC, I.e1, wB, kO, jX, jY, e3, e4, e5, cC, or_true, true_or, @cx _ aE aE (fun _ => gF _)]) rfl rfl (.inl rfl) ?_
  simp only [aP.down, simprocAttr, dm, gE, ib, aE, wA, wC, I.e1, wB, jZ]
  (try simp only [bh.down, simprocAttr, aE, wA, wC, I.e1, wB] at aj ⊢); exact aj
 refine ws _ ?_
 exact aM (aC _ (.inl (jw [.int .i64 ah.1] rfl (by cases gg h; rfl) (by decide) (jH (lY (by cases gg h; rfl) rfl rfl rfl (ep (jI)))))))
theorem avB (a0 : List bd) (R : Int) (r : Int × (List bd)) (h : DK a0 R = some r) : bm aA 54 [.au 4 (a0.map cQ), .int .i64 R] (.int .i64 r.1) [.au 4 (r.2.map cQ), .hole] := by
 refine b_ [0] [.tmp 4] Tryz.func54 arw (fun b7 aC bY => ?_)
 refine ws _ ?_
 refine aX aC (fun eh b3 br ak => ?_)
 refine ws _ ?_
 refine b5 br (fun eB eS ca b8 bl => ?_)
 have hf : ∀ (n : Nat) (cb : List bd) (a7 : Int) (aO : Int), uO n cb a7 aO = some r → ei aA Pm eB (U [(0, .au 4 (cb.map cQ)), (1, .int .i64 a7), (5, .int .i64 aO)]) := by
  intro m6
  induction m6 with
  | zero => intro cb a7 aO h; cases (show none = some r from h)
  | succ m6 gR =>
   intro cb a7 aO h
   replace h : DJ (uO m6) cb a7 aO = some r := h
   refine eG ca (fun ij er dq bq => ?_)
   refine aX dq (fun gf dJ dW bL => ?_)
   refine ws _ ?_
   refine a8 h (fun c5 h => ?_) (fun c5 h => ?_)
   ·refine bk (dJ _ (.inl ?_))
    refine aX dq (fun e0 dw c0 dk => ?_)
    refine b5 c0 (fun gi c1 dc e8 dt => ?_)
    obtain ⟨ah, eo, h⟩ := aG h
    obtain ⟨ak, ea, h⟩ := aG h
    refine cU (bT [(0, .au 4 ((List.set cb (Int.toNat aO) (bd.mk ah ak.Next)).map cQ)), (1, .int .i64 a7), (5, .int .i64 aO)] (fun P aj => ?_) ?_)
    ·simp only [aP.down, simprocAttr, uV.down, ea, dd ea, dD, eD]
     refine eQ (El a7 _ eo) rfl rfl rfl rfl (.inl (by rfl)) ?_
     simp only [aP.down, simprocAttr, uV.down, ea, dd ea, dD, eD]
     (try simp only [bh.down, simprocAttr, sQ.down, ea, dd ea, dD, eD] at aj ⊢); exact aj
    refine ws [(0, .au 4 ((List.set cb (Int.toNat aO) (bd.mk ah ak.Next)).map cQ)), (1, .int .i64 (IntKind.i64.wrap (a7 + 1))), (5, .int .i64 aO)] ?_
    obtain ⟨a6, cF, h⟩ := aG h
    refine cU (bT [(0, .au 4 ((List.set (List.set cb (Int.toNat aO) (bd.mk ah ak.Next)) (Int.toNat aO) (bd.mk a6.Label (dP.mk (IntKind.i64.wrap (a7 + 1)) a6.Next.Part a6.Next.cD))).map cQ)), (1, .int .i64 (IntKind.i64.wrap (a7 + 1))), (5, .int .i64 aO)] (fun P aj => ?_) ?_)
    ·simp only [aP.down, simprocAttr, uV.down, cF, dd cF, dD, eD]
     (try simp only [bh.down, simprocAttr, sQ.down, cF, dd cF, dD, eD] at aj ⊢); exact aj
    refine ws [(0, .au 4 ((List.set (List.set cb (Int.toNat aO) (bd.mk ah ak.Next)) (Int.toNat aO) (bd.mk a6.Label (dP.mk (IntKind.i64.wrap (a7 + 1)) a6.Next.Part a6.Next.cD))).map cQ)), (1, .int .i64 (IntKind.i64.wrap ((IntKind.i64.wrap (a7 + 1)) + 1))), (5, .int .i64 aO)] ?_
    obtain ⟨bl, gy, h⟩ := aG h
    refine cU (bT [(0, .au 4 ((List.set (List.set (List.set cb (Int.toNat aO) (bd.mk ah ak.Next)) (Int.toNat aO) (bd.mk a6.Label (dP.mk (IntKind.i64.wrap (a7 + 1)) a6.Next.Part a6.Next.cD))) (Int.toNat aO) (bd.mk bl.Label (dP.mk bl.Next.dO (IntKind.i64.wrap ((IntKind.i64.wrap (a7 + 1)) + 1)) bl.Next.cD))).map cQ)), (1, .int .i64 (IntKind.i64.wrap ((IntKind.i64.wrap (a7 + 1)) + 1))), (5, .int .i64 aO)] (fun P aj => ?_) ?_)
    ·simp only [aP.down, simprocAttr, uV.down, gy, dd gy, dD, eD]
     (try simp only [bh.down, simprocAttr, sQ.down, gy, dd gy, dD, eD] at aj ⊢); exact aj
    refine ws [(0, .au 4 ((List.set (List.set (List.set cb (Int.toNat aO) (bd.mk ah ak.Next)) (Int.toNat aO) (bd.mk a6.Label (dP.mk (IntKind.i64.wrap (a7 + 1)) a6.Next.Part a6.Next.cD))) (Int.toNat aO) (bd.mk bl.Label (dP.mk bl.Next.dO (IntKind.i64.wrap ((IntKind.i64.wrap (a7 + 1)) + 1)) bl.Next.cD))).map cQ)), (1, .int .i64 (IntKind.i64.wrap ((IntKind.i64.wrap ((IntKind.i64.wrap (a7 + 1)) + 1)) + 1))), (5, .int .i64 aO)] ?_
    obtain ⟨bq, gk, h⟩ := aG h
    obtain ⟨bL, lJ, h⟩ := aG h
    refine iY (bT [(0, .au 4 ((List.set (List.set (List.set (List.set cb (Int.toNat aO) (bd.mk ah ak.Next)) (Int.toNat aO) (bd.mk a6.Label (dP.mk (IntKind.i64.wrap (a7 + 1)) a6.Next.Part a6.Next.cD))) (Int.toNat aO) (bd.mk bl.Label (dP.mk bl.Next.dO (IntKind.i64.wrap ((IntKind.i64.wrap (a7 + 1)) + 1)) bl.Next.cD))) (Int.toNat aO) (bd.mk bq.Label (dP.mk bq.Next.dO bq.Next.Part bL.2))).map cQ)), (1, .int .i64 bL.1), (5, .int .i64 aO)] (fun P aj => ?_) ?_)
    ·simp only [aP.down, simprocAttr, uV.down, gk, dd gk]
     refine k_ [⟨.h 0 [Int.toNat aO, 1, 2], true, _, _⟩, ⟨.int .i64 (IntKind.i64.wrap ((IntKind.i64.wrap ((IntKind.i64.wrap (a7 + 1)) + 1)) + 1)), false, _, .hole⟩] (Qg bq.Next.cD (IntKind.i64.wrap ((IntKind.i64.wrap ((IntKind.i64.wrap (a7 + 1)) + 1)) + 1)) _ lJ) rfl rfl rfl (by simp only [aP.down, simprocAttr, uV.down, gk, dd gk, jX, jY, e3, e4, e5, cC, or_true, true_or, @cx _ aE aE (fun _ => gF _)]) rfl rfl (.inl rfl) ?_
     simp only [aP.down, simprocAttr, uV.down, gk, dd gk, jZ, (BS (dd gk)), BT]
     (try simp only [bh.down, simprocAttr, sQ.down, gk, dd gk] at aj ⊢); exact aj
    refine c1 _ (dw _ (.inl ?_))
    refine wr [(0, .au 4 ((List.set (List.set (List.set (List.set cb (Int.toNat aO) (bd.mk ah ak.Next)) (Int.toNat aO) (bd.mk a6.Label (dP.mk (IntKind.i64.wrap (a7 + 1)) a6.Next.Part a6.Next.cD))) (Int.toNat aO) (bd.mk bl.Label (dP.mk bl.Next.dO (IntKind.i64.wrap ((IntKind.i64.wrap (a7 + 1)) + 1)) bl.Next.cD))) (Int.toNat aO) (bd.mk bq.Label (dP.mk bq.Next.dO bq.Next.Part bL.2))).map cQ)), (1, .int .i64 bL.1), (5, .int .i64 (IntKind.i64.wrap (aO + 1)))] ?_
    exact er _ (.inr ⟨_, bH rfl, gR (List.set (List.set (List.set (List.set cb (Int.toNat aO) (bd.mk ah ak.Next)) (Int.toNat aO) (bd.mk a6.Label (dP.mk (IntKind.i64.wrap (a7 + 1)) a6.Next.Part a6.Next.cD))) (Int.toNat aO) (bd.mk bl.Label (dP.mk bl.Next.dO (IntKind.i64.wrap ((IntKind.i64.wrap (a7 + 1)) + 1)) bl.Next.cD))) (Int.toNat aO) (bd.mk bq.Label (dP.mk bq.Next.dO bq.Next.Part bL.2))) bL.1 (IntKind.i64.wrap (aO + 1)) h⟩)
   ·refine eE (bL 0 _ (bq 0 _ (b8 _ (b3 _ (.inl ?_)))))
    refine ws _ ?_
    exact aM (aC _ (.inl (jw [.int .i64 a7] rfl (by cases gg h; rfl) (by decide) (jH (lY (by cases gg h; rfl) rfl rfl rfl (ep (jI)))))))
 obtain ⟨n, h⟩ := ed h
 exact eF (.inr ⟨_, bH rfl, hf n a0 R 0 h⟩)
theorem avC (a0 : List Int) (R : Int) (r : Int) (h : DM a0 R = some r) : bm aA 77 [.slice (a0.map aE), .int .i64 R] (.int .i64 r) [] := by
 refine b_ [0] [.tmp 4] Tryz.func77 pQ (fun b7 aC bY => ?_)
 refine ws _ ?_
 refine aX aC (fun eh b3 br ak => ?_)
 refine ws _ ?_
 refine b5 br (fun eB eS ca b8 bl => ?_)
 have hf : ∀ (n : Nat) (a7 : Int) (aO : Int), uP a0 n a7 aO = some r → ei aA Pn eB (U [(0, .slice (a0.map aE)), (1, .int .i64 a7), (5, .int .i64 aO)]) := by
  intro m6
  induction m6 with
  | zero => intro a7 aO h; cases (show none = some r from h)
  | succ m6 gR =>
   intro a7 aO h
   replace h : DL (uP a0 m6) a0 a7 aO = some r := h
   refine eG ca (fun ij er dq bq => ?_)
   refine aX dq (fun gf dJ dW bL => ?_)
   refine ws _ ?_
   refine a8 h (fun c5 h => ?_) (fun c5 h => ?_)
   ·refine bk (dJ _ (.inl ?_))
    refine aX dq (fun e0 dw c0 dk => ?_)
    refine b5 c0 (fun gi c1 dc e8 dt => ?_)
    refine aX dc (fun kT gD hT eW => ?_)
    obtain ⟨ah, ea, h⟩ := aG h
    refine fm ea _ ?_
    refine a8 h (fun gQ h => ?_) (fun gQ h => ?_)
    ·refine ws _ ?_
     exact aM (hT _ (.inl (aQ [.int .i64 (-1)])))
    ·refine bk (gD _ (.inl ?_))
     refine wr _ ?_
     refine c1 _ (dw _ (.inl ?_))
     refine wr _ ?_
     exact er _ (.inr ⟨_, bH rfl, gR (IntKind.i64.wrap (a7 + 1)) (IntKind.i64.wrap (aO + 1)) h⟩)
   ·refine eE (bL 0 _ (bq 0 _ (b8 _ (b3 _ (.inl ?_)))))
    refine ws _ ?_
    exact aM (aC _ (.inl (aQ [.int .i64 a7])))
 obtain ⟨n, h⟩ := ed h
 exact eF (.inr ⟨_, bH rfl, hf n R 0 h⟩)
theorem Qh (a0 : List bd) (R : Int) (r : Int) (h : zS a0 R = some r) : bm aA 55 [.slice (a0.map b6), .int .i64 R] (.int .i64 r) [] := by
 refine b_ [0] [.tmp 4] Tryz.func55 ar3 (fun b7 aC bY => ?_)
 refine ws _ ?_
 refine aX aC (fun eh b3 br ak => ?_)
 refine ws _ ?_
 refine b5 br (fun eB eS ca b8 bl => ?_)
 have hf : ∀ (n : Nat) (a7 : Int) (aO : Int), uQ a0 n a7 aO = some r → ei aA Po eB (U [(0, .slice (a0.map b6)), (1, .int .i64 a7), (5, .int .i64 aO)]) := by
  intro m6
  induction m6 with
  | zero => intro a7 aO h; cases (show none = some r from h)
  | succ m6 gR =>
   intro a7 aO h
   replace h : DN (uQ a0 m6) a0 a7 aO = some r := h
   refine eG ca (fun ij er dq bq => ?_)
   refine aX dq (fun gf dJ dW bL => ?_)
   refine ws _ ?_
   refine a8 h (fun c5 h => ?_) (fun c5 h => ?_)
   ·refine bk (dJ _ (.inl ?_))
    refine aX dq (fun e0 dw c0 dk => ?_)
    refine b5 c0 (fun gi c1 dc e8 dt => ?_)
    refine aX dc (fun kT gD hT eW => ?_)
    obtain ⟨ah, ea, h⟩ := aG h
    obtain ⟨ak, fB, h⟩ := aG h
    refine hc rfl (gN [(0, .slice (a0.map b6)), (1, .int .i64 a7), (5, .int .i64 aO), (19, .bool (!(ah.Label == ak)))] (fun P aj => ?_) ?_)
    ·simp only [cl.down, simprocAttr, rD.down, ea]
     refine fR (El a7 _ fB) rfl rfl rfl rfl (.inl (by rfl)) ?_
     simp only [cl.down, simprocAttr, rD.down, ea]
     refine ⟨fS (by kernel_rfl), ?_⟩
     (try simp only [bh.down, simprocAttr, z_.down, ea] at aj ⊢); exact aj
    refine a8 h (fun fJ h => ?_) (fun fJ h => ?_)
    ·refine ws _ ?_
     exact aM (hT _ (.inl (aQ [.int .i64 (-1)])))
    ·refine bk (gD _ (.inl ?_))
     refine ws _ ?_
     refine aX dc (fun IL sW xm sM => ?_)
     refine fm ea _ ?_
     refine a8 h (fun ki h => ?_) (fun ki h => ?_)
     ·refine ws _ ?_
      exact aM (xm _ (.inl (aQ [.int .i64 (-1)])))
     ·refine bk (sW _ (.inl ?_))
      refine ws _ ?_
      refine aX dc (fun aAg avD avE zT => ?_)
      refine fm ea _ ?_
      refine a8 h (fun Aj h => ?_) (fun Aj h => ?_)
      ·refine ws _ ?_
       exact aM (avE _ (.inl (aQ [.int .i64 (-1)])))
      ·refine bk (avD _ (.inl ?_))
       refine ws _ ?_
       obtain ⟨a6, rI, h⟩ := aG h
       refine hD ea (avC ah.Next.cD (IntKind.i64.wrap ((IntKind.i64.wrap ((IntKind.i64.wrap (a7 + 1)) + 1)) + 1)) _ rI) _ ?_
       refine ws _ ?_
       refine a8 h (fun u5 h => ?_) (fun u5 h => ?_)
       ·refine ws _ ?_
        exact aM (dc _ (.inl (aQ [.int .i64 (-1)])))
       ·refine bk (c1 _ (dw _ (.inl ?_)))
        refine wr _ ?_
        exact er _ (.inr ⟨_, bH rfl, gR a6 (IntKind.i64.wrap (aO + 1)) h⟩)
   ·refine eE (bL 0 _ (bq 0 _ (b8 _ (b3 _ (.inl ?_)))))
    refine ws _ ?_
    exact aM (aC _ (.inl (aQ [.int .i64 a7])))
 obtain ⟨n, h⟩ := ed h
 exact eF (.inr ⟨_, bH rfl, hf n R 0 h⟩)
theorem avF (a0 : List ic) (R : lE) (r : Bool) (h : HU a0 R = some r) : bm aA 9 [.slice (a0.map gd), i_ R] (.bool r) [] := by
 refine b_ [0, 1] [.tmp 4] Tryz.func9 ns (fun b7 aC bY => ?_)
 refine ws _ ?_
 refine ws _ ?_
 obtain ⟨ah, b2, h⟩ := aG h
 refine eA (as4 a0 1048576 _ b2) _ ?_
 refine aX aC (fun ij er dq bq => ?_)
 refine ws _ ?_
 refine a8 h (fun pq h => ?_) (fun pq h => ?_)
 ·refine ws _ ?_
  exact aM (dq _ (.inl (aQ [.bool true])))
 ·refine bk (er _ (.inl ?_))
  obtain ⟨ak, jg, h⟩ := aG h
  refine eA (as6 R ah _ jg) _ ?_
  refine aX aC (fun kT gD hT eW => ?_)
  refine ws _ ?_
  refine a8 h (fun fV h => ?_) (fun fV h => ?_)
  ·refine ws _ ?_
   exact aM (hT _ (.inl (aQ [.bool true])))
  ·refine bk (gD _ (.inl ?_))
   obtain ⟨a6, cF, h⟩ := aG h
   obtain ⟨bl, eI, h⟩ := aG h
   obtain ⟨bq, gj, h⟩ := aG h
   refine NB 7 8 [0, 1, 2, 3, 4, 5, 6, 8, 7, 9] rfl rfl [(0, .slice (a0.map gd)), (3, .aU (i_ R)), (6, .au 4 (bq.1.map b6)), (7, .int .i64 bq.2)] (fun P aj => ?_) (fun P aj => ?_) ?_
   ·simp only [cl.down, simprocAttr, sR.down, kf]
    refine fR (((xc a0 _ cF)).wide (BN rfl rfl (by simp only [cC, I.share, I.shares, @cx _ fI bb (fun _ => sO _)] <;> rfl)) rfl rfl) rfl rfl rfl rfl (.inl (by rfl)) ?_
    simp only [cl.down, simprocAttr, sR.down, kf]
    refine fR (((xd R _ eI)).wide (BN rfl rfl (by simp only [cC, I.share, I.shares, H0] <;> rfl)) rfl rfl) rfl rfl rfl rfl (.inl (by rfl)) ?_
    simp only [cl.down, simprocAttr, sR.down, kf]
    refine fR (P3 a6 bl _ gj) rfl rfl rfl rfl (.inl (by rfl)) ?_
    simp only [cl.down, simprocAttr, sR.down, kf]
    refine ⟨fS (by kernel_rfl), ?_⟩
    (try simp only [bh.down, simprocAttr, aE, bb, bV, eg, b6, bj, gd, fH, i_, fb, cW, fk, kf] at aj ⊢); exact aj
   ·simp only [qz, List.map_cons, List.map_nil, List.getD_cons_zero, List.getD_cons_succ, simprocAttr]
    simp only [cl.down, simprocAttr, sR.down, kf]
    refine fR (((xc a0 _ cF)).wide (BN rfl rfl (by simp only [cC, I.share, I.shares, @cx _ fI bb (fun _ => sO _)] <;> rfl)) rfl rfl) rfl rfl rfl rfl (.inl (by rfl)) ?_
    simp only [cl.down, simprocAttr, sR.down, kf]
    refine fR (((xd R _ eI)).wide (BN rfl rfl (by simp only [cC, I.share, I.shares, H0] <;> rfl)) rfl rfl) rfl rfl rfl rfl (.inl (by rfl)) ?_
    simp only [cl.down, simprocAttr, sR.down, kf]
    refine fR (P3 a6 bl _ gj) rfl rfl rfl rfl (.inl (by rfl)) ?_
    simp only [cl.down, simprocAttr, sR.down, kf]
    refine ⟨fS (by kernel_rfl), ?_⟩
    (try simp only [bh.down, simprocAttr, aE, bb, bV, eg, b6, bj, gd, fH, i_, fb, cW, fk, kf] at aj ⊢); exact aj
   obtain ⟨bL, hM, h⟩ := aG h
   refine eA (xc a0 _ hM) _ ?_
   obtain ⟨ch, gk, h⟩ := aG h
   refine eA (xd R _ gk) _ ?_
   obtain ⟨dv, kk, h⟩ := aG h
   refine cU (bT [(0, .slice (a0.map gd)), (3, .aU (i_ R)), (6, .au 4 (bq.1.map b6)), (7, .int .i64 bq.2), (8, .au 3 (bL.map fI)), (9, .aU (hC ch)), (10, .au 4 (dv.1.map cQ)), (11, .int .i64 dv.2)] (fun P aj => ?_) ?_)
   ·simp only [aP.down, simprocAttr, Ib.down]
    refine eQ (I1 bL ch _ kk) rfl rfl (by simp only [aP.down, simprocAttr, Ib.down, e3, e4, e5, cC, @cx _ fI bb (fun _ => sO _), @cx _ aE aE (fun _ => gF _)] <;> rfl) rfl (.inr (by simp only [I.c3, I.hZ, @oA _ cQ (fun _ => H2 _), Bool.and_self])) ?_
    simp only [aP.down, simprocAttr, Ib.down]
    (try simp only [bh.down, simprocAttr, kx.down] at aj ⊢); exact aj
   refine aX aC (fun auH IW Ei auI => ?_)
   obtain ⟨dk, xn, h⟩ := aG h
   refine cU (bT [(0, .slice (a0.map gd)), (3, .aU (i_ R)), (6, .au 4 (bq.1.map b6)), (7, .int .i64 bq.2), (8, .au 3 (bL.map fI)), (9, .aU (hC ch)), (10, .au 4 (dv.1.map cQ)), (11, .int .i64 dv.2), (53, .bool ((!dk) || (dv.2 != bq.2)))] (fun P aj => ?_) ?_)
   ·rcases Bool.eq_false_or_eq_true (dk) with rK | rK
    ·simp only [aP.down, simprocAttr, kx.down, rK]
     refine eQ (xp dv.1 bq.1 _ xn) rfl rfl (by simp only [aP.down, simprocAttr, kx.down, rK, e3, e4, e5, cC, @cx _ cQ b6 (fun _ => nr _), @cx _ b6 b6 (fun _ => oQ _)] <;> rfl) rfl (.inr (by rfl)) ?_
     simp only [aP.down, simprocAttr, kx.down, rK]
     (try simp only [bh.down, simprocAttr, kx.down, rK] at aj ⊢); exact aj
    ·simp only [aP.down, simprocAttr, kx.down, rK]
     refine eQ (xp dv.1 bq.1 _ xn) rfl rfl (by simp only [aP.down, simprocAttr, kx.down, rK, e3, e4, e5, cC, @cx _ cQ b6 (fun _ => nr _), @cx _ b6 b6 (fun _ => oQ _)] <;> rfl) rfl (.inr (by rfl)) ?_
     simp only [aP.down, simprocAttr, kx.down, rK]
     (try simp only [bh.down, simprocAttr, kx.down, rK] at aj ⊢); exact aj
   refine a8 h (fun Ak h => ?_) (fun Ak h => ?_)
   ·refine ws _ ?_
    exact aM (Ei _ (.inl (aQ [.bool false])))
   ·refine bk (IW _ (.inl ?_))
    refine aX aC (fun PC Al D7 Is => ?_)
    obtain ⟨dt, u_, h⟩ := aG h
    obtain ⟨eW, ny, h⟩ := aG h
    refine cU (bT [(0, .slice (a0.map gd)), (3, .aU (i_ R)), (6, .au 4 (bq.1.map b6)), (7, .int .i64 bq.2), (8, .au 3 (bL.map fI)), (9, .aU (hC ch)), (10, .au 4 (dv.1.map cQ)), (11, .int .i64 dv.2), (58, .bool (!eW))] (fun P aj => ?_) ?_)
    ·simp only [aP.down, simprocAttr, kx.down]
     refine eQ (xc a0 _ u_) rfl rfl rfl rfl (.inl (by rfl)) ?_
     simp only [aP.down, simprocAttr, kx.down]
     refine eQ (avv bL dt _ ny) rfl rfl (by simp only [aP.down, simprocAttr, kx.down, e3, e4, e5, cC, @cx _ fI bb (fun _ => sO _), @cx _ fI bb (fun _ => sO _)] <;> rfl) rfl (.inr (by rfl)) ?_
     simp only [aP.down, simprocAttr, kx.down]
     (try simp only [bh.down, simprocAttr, kx.down] at aj ⊢); exact aj
    refine a8 h (fun pS h => ?_) (fun pS h => ?_)
    ·refine ws _ ?_
     exact aM (D7 _ (.inl (aQ [.bool false])))
    ·refine bk (Al _ (.inl ?_))
     refine aX aC (fun aAh avG avH aAi => ?_)
     obtain ⟨iP, u7, h⟩ := aG h
     obtain ⟨kg, IX, h⟩ := aG h
     refine hc rfl (gN [(0, .slice (a0.map gd)), (3, .aU (i_ R)), (6, .au 4 (bq.1.map b6)), (7, .int .i64 bq.2), (8, .au 3 (bL.map fI)), (9, .aU (hC ch)), (10, .au 4 (dv.1.map cQ)), (11, .int .i64 dv.2), (63, .bool (!kg))] (fun P aj => ?_) ?_)
     ·simp only [cl.down, simprocAttr, D0.down]
      refine fR (xd R _ u7) rfl rfl rfl rfl (.inl (by rfl)) ?_
      simp only [cl.down, simprocAttr, D0.down]
      refine fR (Qf ch iP _ IX) rfl rfl (by simp only [cl.down, simprocAttr, D0.down, e3, e4, e5, cC, @cx _ aE aE (fun _ => gF _), @cx _ aE aE (fun _ => gF _)] <;> rfl) rfl (.inr (by rfl)) ?_
      simp only [cl.down, simprocAttr, D0.down]
      refine ⟨fS (by kernel_rfl), ?_⟩
      (try simp only [bh.down, simprocAttr, kx.down] at aj ⊢); exact aj
     refine a8 h (fun Ao h => ?_) (fun Ao h => ?_)
     ·refine ws _ ?_
      exact aM (avH _ (.inl (aQ [.bool false])))
     ·refine bk (avG _ (.inl ?_))
      refine ws _ ?_
      obtain ⟨gP, avI, h⟩ := aG h
      refine cU (bT [(0, .slice (a0.map gd)), (3, .aU (i_ R)), (6, .au 4 (bq.1.map b6)), (7, .int .i64 bq.2), (9, .aU (hC ch)), (10, .au 4 (dv.1.map cQ)), (11, .int .i64 dv.2), (12, .int .i64 gP.1)] (fun P aj => ?_) ?_)
      ·simp only [aP.down, simprocAttr, kx.down]
       refine k_ [⟨.h 8 [], true, _, _⟩, ⟨.int .i64 1, false, _, .hole⟩] (avz bL 1 _ avI) rfl rfl rfl (by simp only [aP.down, simprocAttr, kx.down, kO, jX, jY, e3, e4, e5, cC, or_true, true_or, @cx _ fI bb (fun _ => sO _)]) rfl rfl (.inl rfl) ?_
       simp only [aP.down, simprocAttr, kx.down, jZ]
       (try simp only [bh.down, simprocAttr, kx.down] at aj ⊢); exact aj
      obtain ⟨hK, avJ, h⟩ := aG h
      refine cU (bT [(0, .slice (a0.map gd)), (3, .aU (i_ R)), (6, .au 4 (bq.1.map b6)), (7, .int .i64 bq.2), (10, .au 4 (dv.1.map cQ)), (11, .int .i64 dv.2), (12, .int .i64 hK.1)] (fun P aj => ?_) ?_)
      ·simp only [aP.down, simprocAttr, Ic.down]
       refine k_ [⟨.h 9 [0], true, _, _⟩, ⟨.int .i64 gP.1, false, _, .hole⟩] (avA ch.dO ch.Part ch.cD gP.1 _ avJ) rfl rfl rfl (by simp only [aP.down, simprocAttr, Ic.down, kO, jX, jY, e3, e4, e5, cC, or_true, true_or, @cx _ aE aE (fun _ => gF _)]) rfl rfl (.inl rfl) ?_
       simp only [aP.down, simprocAttr, Ic.down, jZ]
       (try simp only [bh.down, simprocAttr, l4.down] at aj ⊢); exact aj
      refine aX aC (fun Iu qR rF D8 => ?_)
      rcases dU h with ⟨nw, h⟩ | ⟨nw, h⟩
      ·refine fm nw _ ?_
       refine lB rfl ?_
       refine ws _ ?_
       exact aM (rF _ (.inl (aQ [.bool false])))
      ·obtain ⟨iO, Ek, h⟩ := aG h
       refine cU (bT [(0, .slice (a0.map gd)), (3, .aU (i_ R)), (6, .au 4 (bq.1.map b6)), (7, .int .i64 bq.2), (10, .au 4 (dv.1.map cQ)), (82, .bool ((!iO) || (dv.2 != bq.2)))] (fun P aj => ?_) ?_)
       ·rcases Bool.eq_false_or_eq_true (iO) with mU | mU
        ·simp only [aP.down, simprocAttr, l4.down, nw, mU]
         refine ix (xp dv.1 bq.1 _ Ek) rfl rfl (by simp only [aP.down, simprocAttr, l4.down, nw, mU, e3, e4, e5, cC, @cx _ cQ b6 (fun _ => nr _), @cx _ b6 b6 (fun _ => oQ _)] <;> rfl) rfl (.inr (by rfl)) ?_
         simp only [aP.down, simprocAttr, l4.down, nw, mU]
         (try simp only [bh.down, simprocAttr, l4.down, nw, mU] at aj ⊢); exact aj
        ·simp only [aP.down, simprocAttr, l4.down, nw, mU]
         refine ix (xp dv.1 bq.1 _ Ek) rfl rfl (by simp only [aP.down, simprocAttr, l4.down, nw, mU, e3, e4, e5, cC, @cx _ cQ b6 (fun _ => nr _), @cx _ b6 b6 (fun _ => oQ _)] <;> rfl) rfl (.inr (by rfl)) ?_
         simp only [aP.down, simprocAttr, l4.down, nw, mU]
         (try simp only [bh.down, simprocAttr, l4.down, nw, mU] at aj ⊢); exact aj
       refine a8 h (fun Iv h => ?_) (fun Iv h => ?_)
       ·refine ws _ ?_
        exact aM (rF _ (.inl (aQ [.bool false])))
       ·refine bk (qR _ (.inl ?_))
        refine ws _ ?_
        obtain ⟨jy, avK, h⟩ := aG h
        refine cU (bT [(0, .slice (a0.map gd)), (3, .aU (i_ R)), (6, .au 4 (bq.1.map b6)), (7, .int .i64 bq.2), (10, .au 4 (jy.2.map cQ)), (13, .int .i64 jy.1)] (fun P aj => ?_) ?_)
        ·simp only [aP.down, simprocAttr, l4.down]
         refine k_ [⟨.h 10 [], true, _, _⟩, ⟨.int .i64 1, false, _, .hole⟩] (avB dv.1 1 _ avK) rfl rfl rfl (by simp only [aP.down, simprocAttr, l4.down, kO, jX, jY, e3, e4, e5, cC, or_true, true_or, @cx _ cQ b6 (fun _ => nr _)]) rfl rfl (.inl rfl) ?_
         simp only [aP.down, simprocAttr, l4.down, jZ]
         (try simp only [bh.down, simprocAttr, l4.down] at aj ⊢); exact aj
        refine ws _ ?_
        obtain ⟨sM, avL, h⟩ := aG h
        refine cU (bT [(0, .slice (a0.map gd)), (3, .aU (i_ R)), (6, .au 4 (bq.1.map b6)), (7, .int .i64 bq.2), (10, .au 4 (jy.2.map cQ)), (13, .int .i64 jy.1), (14, .int .i64 sM)] (fun P aj => ?_) ?_)
        ·simp only [aP.down, simprocAttr, l4.down]
         refine eQ (Qh jy.2 1 _ avL) rfl rfl (by simp only [aP.down, simprocAttr, l4.down, e3, e4, e5, cC, @cx _ cQ b6 (fun _ => nr _)] <;> rfl) rfl (.inr (by rfl)) ?_
         simp only [aP.down, simprocAttr, l4.down]
         (try simp only [bh.down, simprocAttr, l4.down] at aj ⊢); exact aj
        refine aX aC (fun aAj avM avN aAk => ?_)
        refine ws _ ?_
        refine a8 h (fun avO h => ?_) (fun avO h => ?_)
        ·refine ws _ ?_
         exact aM (avN _ (.inl (aQ [.bool false])))
        ·refine bk (avM _ (.inl ?_))
         refine aX aC (fun aAl avP avQ aAm => ?_)
         refine ws _ ?_
         refine a8 h (fun lL h => ?_) (fun lL h => ?_)
         ·refine ws _ ?_
          exact aM (avQ _ (.inl (aQ [.bool false])))
         ·refine bk (avP _ (.inl ?_))
          obtain ⟨sN, Qi, h⟩ := aG h
          obtain ⟨w7, D9, h⟩ := aG h
          obtain ⟨qJ, Qj, h⟩ := aG h
          refine NB 7 8 [0, 1, 2, 3, 4, 5, 6, 8, 7, 9] rfl rfl [(6, .au 4 (bq.1.map b6)), (7, .int .i64 bq.2), (10, .au 4 (jy.2.map cQ)), (13, .int .i64 jy.1), (15, .au 4 (qJ.1.map cQ)), (16, .int .i64 qJ.2)] (fun P aj => ?_) (fun P aj => ?_) ?_
          ·simp only [cl.down, simprocAttr, qP.down, kf]
           refine fR (xc a0 _ Qi) rfl rfl rfl rfl (.inl (by rfl)) ?_
           simp only [cl.down, simprocAttr, qP.down, kf]
           refine fR (xd R _ D9) rfl rfl rfl rfl (.inl (by rfl)) ?_
           simp only [cl.down, simprocAttr, qP.down, kf]
           refine fR (I1 sN w7 _ Qj) rfl rfl (by simp only [cl.down, simprocAttr, qP.down, kf, e3, e4, e5, cC, @cx _ fI bb (fun _ => sO _), @cx _ aE aE (fun _ => gF _)] <;> rfl) rfl (.inr (by simp only [I.c3, I.hZ, @oA _ cQ (fun _ => H2 _), Bool.and_self])) ?_
           simp only [cl.down, simprocAttr, qP.down, kf]
           refine ⟨fS (by kernel_rfl), ?_⟩
           (try simp only [bh.down, simprocAttr, kx.down, kf] at aj ⊢); exact aj
          ·simp only [qz, List.map_cons, List.map_nil, List.getD_cons_zero, List.getD_cons_succ, simprocAttr]
           simp only [cl.down, simprocAttr, qP.down, kf]
           refine fR (xc a0 _ Qi) rfl rfl rfl rfl (.inl (by rfl)) ?_
           simp only [cl.down, simprocAttr, qP.down, kf]
           refine fR (xd R _ D9) rfl rfl rfl rfl (.inl (by rfl)) ?_
           simp only [cl.down, simprocAttr, qP.down, kf]
           refine fR (I1 sN w7 _ Qj) rfl rfl (by simp only [cl.down, simprocAttr, qP.down, kf, e3, e4, e5, cC, @cx _ fI bb (fun _ => sO _), @cx _ aE aE (fun _ => gF _)] <;> rfl) rfl (.inr (by simp only [I.c3, I.hZ, @oA _ cQ (fun _ => H2 _), Bool.and_self])) ?_
           simp only [cl.down, simprocAttr, qP.down, kf]
           refine ⟨fS (by kernel_rfl), ?_⟩
           (try simp only [bh.down, simprocAttr, kx.down, kf] at aj ⊢); exact aj
          refine aX aC (fun aAn avR avS aAo => ?_)
          obtain ⟨w8, Qk, h⟩ := aG h
          refine cU (bT [(10, .au 4 (jy.2.map cQ)), (13, .int .i64 jy.1), (110, .bool ((!w8) || (qJ.2 != bq.2)))] (fun P aj => ?_) ?_)
          ·rcases Bool.eq_false_or_eq_true (w8) with pQ | pQ
           ·simp only [aP.down, simprocAttr, sS.down, pQ]
            refine eQ (xp qJ.1 bq.1 _ Qk) rfl rfl (by simp only [aP.down, simprocAttr, sS.down, pQ, e3, e4, e5, cC, @cx _ cQ b6 (fun _ => nr _), @cx _ b6 b6 (fun _ => oQ _)] <;> rfl) rfl (.inr (by rfl)) ?_
            simp only [aP.down, simprocAttr, sS.down, pQ]
            (try simp only [bh.down, simprocAttr, sS.down, pQ] at aj ⊢); exact aj
           ·simp only [aP.down, simprocAttr, sS.down, pQ]
            refine eQ (xp qJ.1 bq.1 _ Qk) rfl rfl (by simp only [aP.down, simprocAttr, sS.down, pQ, e3, e4, e5, cC, @cx _ cQ b6 (fun _ => nr _), @cx _ b6 b6 (fun _ => oQ _)] <;> rfl) rfl (.inr (by rfl)) ?_
            simp only [aP.down, simprocAttr, sS.down, pQ]
            (try simp only [bh.down, simprocAttr, sS.down, pQ] at aj ⊢); exact aj
          refine a8 h (fun avT h => ?_) (fun avT h => ?_)
          ·refine ws _ ?_
           exact aM (avS _ (.inl (aQ [.bool false])))
          ·refine bk (avR _ (.inl ?_))
           refine ws _ ?_
           obtain ⟨zT, avU, h⟩ := aG h
           refine cU (bT [(13, .int .i64 jy.1), (14, .int .i64 zT)] (fun P aj => ?_) ?_)
           ·simp only [aP.down, simprocAttr, sQ.down]
            refine eQ (Qh jy.2 1 _ avU) rfl rfl (by simp only [aP.down, simprocAttr, sQ.down, e3, e4, e5, cC, @cx _ cQ b6 (fun _ => nr _)] <;> rfl) rfl (.inr (by rfl)) ?_
            simp only [aP.down, simprocAttr, sQ.down]
            (try simp only [bh.down, simprocAttr, sQ.down] at aj ⊢); exact aj
           refine aX aC (fun aAp avV avW aAq => ?_)
           refine ws _ ?_
           refine a8 h (fun avX h => ?_) (fun avX h => ?_)
           ·refine ws _ ?_
            exact aM (avW _ (.inl (aQ [.bool false])))
           ·refine bk (avV _ (.inl ?_))
            refine aX aC (fun aAr avY avZ aAs => ?_)
            refine ws _ ?_
            refine a8 h (fun av0 h => ?_) (fun av0 h => ?_)
            ·refine ws _ ?_
             exact aM (avZ _ (.inl (aQ [.bool false])))
            ·refine bk (avY _ (.inl ?_))
             refine ws _ ?_
             exact aM (aC _ (.inl (aQ [.bool true])))
end Go.Proofs.YtgpmnlkgmadglaaGreatDoor
