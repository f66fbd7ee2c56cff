/- Part of a proof that a law returns true for every input. No condition. -/
import Derived.Test.YtjedocbdhlppdaaW1x8
namespace Go.Proofs.Ytjedocbdhlppdaa
open Go Go.dp Go.gV
set_option maxRecDepth 100000
set_option maxHeartbeats 2400000
set_option linter.unusedSimpArgs false
set_option linter.unusedVariables false
theorem ag2 (I : bc) (aa : bc) (r : bc) (h : yT I aa = some r) : a0 aq 80 [bj I, bj aa] (dC r) [] := by
 refine a0.cF (fx := [0, 1]) cI [.cell 4 47] [(0, bj I), (1, bj aa)] Try.func80 rfl rfl abu (Nat.le_of_ble_eq_true rfl) rfl rfl (fun cv aJ cD => ?_)
 refine ws _ ?_
 obtain ⟨aj, bf, h⟩ := aT h
 refine jb rfl (ik [(2, .aG (bj I)), (3, .aG (bj aa)), (4, .aG (.agg [.int .i64 0, .af, .af])), (5, .aG (.agg [.int .i64 (IntKind.i64.wrap (I.aV + aa.aV)), .ai 1 (aj.map aD), .af]))] (fun P al => ?_) ?_)
 ·simp only [cP.down, simprocAttr, CL.down, (show ∀ s, cE aq s 173 2 [(0, .slice (I.Start.map aD)), (1, .slice (aa.Start.map aD))] = some (.ai 1 [.slice (I.Start.map aD), .slice (aa.Start.map aD)], s) from fun s => by kernel_rfl), @g3 aq 47 [(2, 0), (40, 1), (45, 2)] [(.int .i64 0), .af, .af] rfl rfl (by kernel_rfl), gU, du, dn, dv, cC, cm, List.nil_append, List.cons_append]
  refine e7 (agS [I.Start, aa.Start] _ bf) rfl rfl (by simp only [cP.down, simprocAttr, CL.down, (show ∀ s, cE aq s 173 2 [(0, .slice (I.Start.map aD)), (1, .slice (aa.Start.map aD))] = some (.ai 1 [.slice (I.Start.map aD), .slice (aa.Start.map aD)], s) from fun s => by kernel_rfl), @g3 aq 47 [(2, 0), (40, 1), (45, 2)] [(.int .i64 0), .af, .af] rfl rfl (by kernel_rfl), gU, du, dn, dv, cC, cm, List.nil_append, List.cons_append, eZ, e0, e1, dy, @bx _ aD aD (fun _ => dX _), @bx _ aD aD (fun _ => dX _), j.shares, @bx _ jy jy (fun _ => P4 _)] <;> rfl) rfl (.inr (kC (fun _ => y9 _) _)) ?_
  simp only [cP.down, simprocAttr, CL.down, (show ∀ s, cE aq s 173 2 [(0, .slice (I.Start.map aD)), (1, .slice (aa.Start.map aD))] = some (.ai 1 [.slice (I.Start.map aD), .slice (aa.Start.map aD)], s) from fun s => by kernel_rfl), @g3 aq 47 [(2, 0), (40, 1), (45, 2)] [(.int .i64 0), .af, .af] rfl rfl (by kernel_rfl), gU, du, dn, dv, cC, cm, List.nil_append, List.cons_append]
  refine ⟨hd (by kernel_rfl), ?_⟩
  (try simp only [bs.down, simprocAttr, aD, bj, bm, aR, jy, bC, (show ∀ s, cE aq s 173 2 [(0, .slice (I.Start.map aD)), (1, .slice (aa.Start.map aD))] = some (.ai 1 [.slice (I.Start.map aD), .slice (aa.Start.map aD)], s) from fun s => by kernel_rfl), @g3 aq 47 [(2, 0), (40, 1), (45, 2)] [(.int .i64 0), .af, .af] rfl rfl (by kernel_rfl), gU, du, dn, dv, cC, cm, List.nil_append, List.cons_append] at al ⊢); exact al
 refine ws _ ?_
 refine aZ (fun gD fk el bu => ?_)
 refine ws _ ?_
 refine cd (fun jA fZ hc jo cj => ?_)
 have v7 : ∀ (n : Nat) (gA : List (List aA)) (lB : Int), rA I aa aj n gA lB = some r → eg aq Iz jA (R [(2, .aG (bj I)), (3, .aG (bj aa)), (4, .aG (.agg [.int .i64 0, .af, .af])), (5, .aG (.agg [.int .i64 (IntKind.i64.wrap (I.aV + aa.aV)), .ai 1 (aj.map aD), .af])), (6, .ai 1 (gA.map bl)), (7, .af), (27, .int .i64 I.aV), (28, .int .i64 lB)]) := by
  intro kN
  induction kN with
  | zero => intro gA lB h; cases (show none = some r from h)
  | succ kN v8 =>
   intro gA lB h
   replace h : yS (rA I aa aj kN) I aa aj gA lB = some r := h
   refine ew (fun hG fM gS b8 => ?_)
   refine ws _ ?_
   refine aZ (fun f_ c5 dR dE => ?_)
   rcases bk h with ⟨fI, h⟩ | ⟨fI, h⟩
   ·refine bp (congrArg j.bool fI) ?_
    simp only [fI, aO.down]
    refine bF (c5 _ (.inl ?_))
    refine aZ (fun mu h2 kG kF => ?_)
    refine cd (fun oo j3 l5 gL mq => ?_)
    refine ws _ ?_
    obtain ⟨aF, dw, h⟩ := aT h
    obtain ⟨zm, gN, h⟩ := aT h
    (try simp only [List.length_append, List.length_cons, List.length_nil, List.length_map, List.length_replicate, Nat.zero_add, Nat.add_zero, Nat.reduceAdd] at gN)
    refine hs (b0 [(2, .aG (bj I)), (3, .aG (bj aa)), (4, .aG (.agg [.int .i64 0, .af, .af])), (5, .aG (.agg [.int .i64 (IntKind.i64.wrap (I.aV + aa.aV)), .ai 1 (aj.map aD), .af])), (6, .ai 1 ((gA ++ [aF]).map bl)), (7, .af), (27, .int .i64 I.aV), (28, .int .i64 lB)] (fun P al => ?_) ?_)
    ·simp only [aX.down, simprocAttr, eD, e8, fC, eU, aD, bj, bm, aR, bC, bl, @ei aq 88 87 1 1 [.af] rfl rfl rfl (by kernel_rfl), eh, du, dn, dv, cC, cm, List.nil_append, List.cons_append, @dc aq 88 88 87 rfl rfl, dd, de, all_cons, all_nil, gN, @db _ bl 1 (fun _ => rfl)]
     refine ey (Jm lB _ dw) rfl rfl rfl rfl (.inl (by rfl)) ?_
     simp only [aX.down, simprocAttr, eD, e8, fC, eU, aD, bj, bm, aR, bC, bl, @ei aq 88 87 1 1 [.af] rfl rfl rfl (by kernel_rfl), eh, du, dn, dv, cC, cm, List.nil_append, List.cons_append, @dc aq 88 88 87 rfl rfl, dd, de, all_cons, all_nil, gN, @db _ bl 1 (fun _ => rfl)]
     (try simp only [bs.down, simprocAttr, zj.down, @ei aq 88 87 1 1 [.af] rfl rfl rfl (by kernel_rfl), eh, du, dn, dv, cC, cm, List.nil_append, List.cons_append, @dc aq 88 88 87 rfl rfl, dd, de, all_cons, all_nil, gN, @db _ bl 1 (fun _ => rfl)] at al ⊢); exact al
    refine j3 _ (h2 _ (.inl ?_))
    refine wr [(2, .aG (bj I)), (3, .aG (bj aa)), (4, .aG (.agg [.int .i64 0, .af, .af])), (5, .aG (.agg [.int .i64 (IntKind.i64.wrap (I.aV + aa.aV)), .ai 1 (aj.map aD), .af])), (6, .ai 1 ((gA ++ [aF]).map bl)), (7, .af), (27, .int .i64 I.aV), (28, .int .i64 (IntKind.i64.wrap (lB + 1)))] ?_
    exact fM _ (.inr ⟨_, cb rfl, v8 (gA ++ [aF]) (IntKind.i64.wrap (lB + 1)) h⟩)
   ·refine bB (congrArg j.bool fI) ?_
    simp only [fI, aO.down]
    refine eu (dE 0 _ (b8 0 _ (jo _ (fk _ (.inl ?_)))))
    refine aZ (fun CP qg vZ oX => ?_)
    refine ws _ ?_
    refine cd (fun qd l1 nJ ag3 kZ => ?_)
    have ag4 : ∀ (n : Nat) (kY : List (List aA)) (kE : List (List aA)) (lA : Int), oW I aa aj n kY kE lA = some r → eg aq IA qd (R [(2, .aG (bj I)), (3, .aG (bj aa)), (4, .aG (.agg [.int .i64 0, .af, .af])), (5, .aG (.agg [.int .i64 (IntKind.i64.wrap (I.aV + aa.aV)), .ai 1 (aj.map aD), .af])), (6, .ai 1 (kY.map bl)), (7, .ai 1 (kE.map bl)), (38, .int .i64 aa.aV), (39, .int .i64 lA)]) := by
     intro C4
     induction C4 with
     | zero => intro kY kE lA h; cases (show none = some r from h)
     | succ C4 ag5 =>
      intro kY kE lA h
      replace h : yR (oW I aa aj C4) I aa aj kY kE lA = some r := h
      refine ew (fun CS zp zq p_ => ?_)
      refine ws _ ?_
      refine aZ (fun rO lF o3 m4 => ?_)
      rcases bk h with ⟨wm, h⟩ | ⟨wm, h⟩
      ·refine bp (congrArg j.bool wm) ?_
       simp only [wm, aO.down]
       refine bF (lF _ (.inl ?_))
       refine aZ (fun v_ qh zu rR => ?_)
       refine cd (fun zl nK vW hv vX => ?_)
       refine ws _ ?_
       obtain ⟨aW, rQ, h⟩ := aT h
       obtain ⟨u32, iT, h⟩ := aT h
       (try simp only [List.length_append, List.length_cons, List.length_nil, List.length_map, List.length_replicate, Nat.zero_add, Nat.add_zero, Nat.reduceAdd] at iT)
       refine hs (b0 [(2, .aG (bj I)), (3, .aG (bj aa)), (4, .aG (.agg [.int .i64 0, .af, .af])), (5, .aG (.agg [.int .i64 (IntKind.i64.wrap (I.aV + aa.aV)), .ai 1 (aj.map aD), .af])), (6, .ai 1 (kY.map bl)), (7, .ai 1 ((kE ++ [aW]).map bl)), (38, .int .i64 aa.aV), (39, .int .i64 lA)] (fun P al => ?_) ?_)
       ·simp only [aX.down, simprocAttr, eD, fX, hf, jL, lV, e8, fC, h0, eU, aD, bj, bm, aR, bC, bl, @ei aq 88 87 1 1 [.af] rfl rfl rfl (by kernel_rfl), eh, du, dn, dv, cC, cm, List.nil_append, List.cons_append, @dc aq 88 88 87 rfl rfl, dd, de, all_cons, all_nil, iT, @db _ bl 1 (fun _ => rfl)]
        refine ey (Jm (IntKind.i64.wrap (I.aV + lA)) _ rQ) rfl rfl rfl rfl (.inl (by rfl)) ?_
        simp only [aX.down, simprocAttr, eD, fX, hf, jL, lV, e8, fC, h0, eU, aD, bj, bm, aR, bC, bl, @ei aq 88 87 1 1 [.af] rfl rfl rfl (by kernel_rfl), eh, du, dn, dv, cC, cm, List.nil_append, List.cons_append, @dc aq 88 88 87 rfl rfl, dd, de, all_cons, all_nil, iT, @db _ bl 1 (fun _ => rfl)]
        (try simp only [bs.down, simprocAttr, zj.down, @ei aq 88 87 1 1 [.af] rfl rfl rfl (by kernel_rfl), eh, du, dn, dv, cC, cm, List.nil_append, List.cons_append, @dc aq 88 88 87 rfl rfl, dd, de, all_cons, all_nil, iT, @db _ bl 1 (fun _ => rfl)] at al ⊢); exact al
       refine nK _ (qh _ (.inl ?_))
       refine wr [(2, .aG (bj I)), (3, .aG (bj aa)), (4, .aG (.agg [.int .i64 0, .af, .af])), (5, .aG (.agg [.int .i64 (IntKind.i64.wrap (I.aV + aa.aV)), .ai 1 (aj.map aD), .af])), (6, .ai 1 (kY.map bl)), (7, .ai 1 ((kE ++ [aW]).map bl)), (38, .int .i64 aa.aV), (39, .int .i64 (IntKind.i64.wrap (lA + 1)))] ?_
       exact zp _ (.inr ⟨_, cb rfl, ag5 kY (kE ++ [aW]) (IntKind.i64.wrap (lA + 1)) h⟩)
      ·refine bB (congrArg j.bool wm) ?_
       simp only [wm, aO.down]
       refine eu (m4 2 _ (p_ 2 _ (ag3 _ (qg _ (.inl ?_)))))
       refine aZ (fun akd ag6 ake akf => ?_)
       obtain ⟨bn, CY, h⟩ := aT h
       refine cQ (b0 [(2, .aG (bj I)), (3, .aG (bj aa)), (4, .aG (.agg [.int .i64 0, .af, .af])), (5, .aG (.agg [.int .i64 (IntKind.i64.wrap (I.aV + aa.aV)), .ai 1 (aj.map aD), .af])), (6, .ai 1 (kY.map bl)), (7, .ai 1 (kE.map bl)), (54, .ai 5 (bn.bG.map br)), (55, .int .i64 (bn.bG.length : Int)), (56, .int .i64 0)] (fun P al => ?_) ?_)
       ·simp only [aX.down, simprocAttr, qc.down, pQ, pR, pP, (show oe aq 53 [] 2 (.struct [(2, 0), (40, 1), (45, 2)]) (some (.agg [.int .i64 bn.aV, .ai 1 (bn.Start.map aD), .ai 5 (bn.bG.map br)])) = some (.h 53 [2]) from by kernel_rfl)]
        refine ey (agX I I aa _ CY) rfl rfl (by simp only [aX.down, simprocAttr, qc.down, pQ, pR, pP, (show oe aq 53 [] 2 (.struct [(2, 0), (40, 1), (45, 2)]) (some (.agg [.int .i64 bn.aV, .ai 1 (bn.Start.map aD), .ai 5 (bn.bG.map br)])) = some (.h 53 [2]) from by kernel_rfl), eZ, e0, e1, dy, @bx _ aD aD (fun _ => dX _), @bx _ bm bm (fun _ => nE _), @bx _ aD aD (fun _ => dX _), @bx _ bm bm (fun _ => nE _)] <;> rfl) rfl (.inr (qb _)) ?_
        simp only [aX.down, simprocAttr, qc.down, pQ, pR, pP, (show oe aq 53 [] 2 (.struct [(2, 0), (40, 1), (45, 2)]) (some (.agg [.int .i64 bn.aV, .ai 1 (bn.Start.map aD), .ai 5 (bn.bG.map br)])) = some (.h 53 [2]) from by kernel_rfl)]
        (try simp only [bs.down, simprocAttr, CK.down, pQ, pR, pP, (show oe aq 53 [] 2 (.struct [(2, 0), (40, 1), (45, 2)]) (some (.agg [.int .i64 bn.aV, .ai 1 (bn.Start.map aD), .ai 5 (bn.bG.map br)])) = some (.h 53 [2]) from by kernel_rfl)] at al ⊢); exact al
       refine cd (fun ag7 akg akh ag8 aki => ?_)
       have ag9 : ∀ (n : Nat) (j0 : List aY) (kg : List (List aA)) (kX : List (List aA)) (lz : List (Bool × aY)) (ji : Int), oV I aa aj bn n j0 kg kX lz ji = some r → eg aq IB ag7 (R [(2, .aG (bj I)), (3, .aG (bj aa)), (4, .aG (.agg [.int .i64 0, .af, .af])), (5, .aG (.agg [.int .i64 (IntKind.i64.wrap (I.aV + aa.aV)), .ai 1 (aj.map aD), .ai 5 (j0.map br)])), (6, .ai 1 (kg.map bl)), (7, .ai 1 (kX.map bl)), (54, .ai 5 (lz.map k2)), (55, .int .i64 (bn.bG.length : Int)), (56, .int .i64 ji)]) := by
        intro C5
        induction C5 with
        | zero => intro j0 kg kX lz ji h; cases (show none = some r from h)
        | succ C5 ag_ =>
         intro j0 kg kX lz ji h
         replace h : yQ (oV I aa aj bn C5) I aa aj bn j0 kg kX lz ji = some r := h
         refine ew (fun aha C6 Jv Jw => ?_)
         refine ws _ ?_
         refine aZ (fun akj ahb akk ahc => ?_)
         rcases bk h with ⟨wo, h⟩ | ⟨wo, h⟩
         ·refine bp (congrArg j.bool wo) ?_
          simp only [wo, aO.down]
          refine bF (ahb _ (.inl ?_))
          refine aZ (fun akl ahd akm akn => ?_)
          refine cd (fun ako ahe akp akq akr => ?_)
          obtain ⟨bu, zB, h⟩ := aT h
          obtain ⟨ahf, zC, h⟩ := aT h
          refine cQ (b0 [(2, .aG (bj I)), (3, .aG (bj aa)), (4, .aG (.agg [.int .i64 0, .af, .af])), (5, .aG (.agg [.int .i64 (IntKind.i64.wrap (I.aV + aa.aV)), .ai 1 (aj.map aD), .ai 5 (j0.map br)])), (6, .ai 1 (kg.map bl)), (7, .ai 1 (kX.map bl)), (11, .aG (br bu.2)), (54, .ai 5 ((List.set lz (Int.toNat ji) (true, bu.2)).map k2)), (55, .int .i64 (bn.bG.length : Int)), (56, .int .i64 ji)] (fun P al => ?_) ?_)
          ·simp only [aX.down, simprocAttr, eD, fX, hf, jL, e8, fC, h0, eU, aD, bj, bm, aR, bC, br, bl, zB, dD zB, tv, zb, (zc zC)]
           (try simp only [bs.down, simprocAttr, nI.down, zB, dD zB, tv, zb, (zc zC)] at al ⊢); exact al
          obtain ⟨bq, C7, h⟩ := aT h
          obtain ⟨cj, ahg, h⟩ := aT h
          refine jb rfl (ik [(2, .aG (bj I)), (3, .aG (bj aa)), (4, .aG (.agg [.int .i64 0, .af, .af])), (5, .aG (.agg [.int .i64 (IntKind.i64.wrap (I.aV + aa.aV)), .ai 1 (aj.map aD), .ai 5 (j0.map br)])), (6, .ai 1 (kg.map bl)), (7, .ai 1 (kX.map bl)), (11, .aG (.agg [.ai 1 (bu.2.bo.map aD), .ai 2 (bu.2.Guard.map aR), .str bu.2.Name, .ai 1 (bu.2.bH.map bl), .ai 1 (cj.map bl)])), (54, .ai 5 ((List.set lz (Int.toNat ji) (true, bu.2)).map k2)), (55, .int .i64 (bn.bG.length : Int)), (56, .int .i64 ji)] (fun P al => ?_) ?_)
          ·simp only [cP.down, simprocAttr, vT.down, @ei aq 175 88 2 1 [.af, .af] rfl rfl rfl (by kernel_rfl), eh, du, dn, dv, cC, cm, List.nil_append, List.cons_append]
           refine e7 (Jr kX _ C7) rfl rfl (by simp only [cP.down, simprocAttr, vT.down, @ei aq 175 88 2 1 [.af, .af] rfl rfl rfl (by kernel_rfl), eh, du, dn, dv, cC, cm, List.nil_append, List.cons_append, eZ, e0, e1, dy, @bx _ bl bC (fun _ => oj _)] <;> rfl) rfl (.inr (kC (fun _ => qa _) _)) ?_
           simp only [cP.down, simprocAttr, vT.down, @ei aq 175 88 2 1 [.af, .af] rfl rfl rfl (by kernel_rfl), eh, du, dn, dv, cC, cm, List.nil_append, List.cons_append]
           refine G1 [⟨.h 64 [], true, _, .hole⟩] (Js [bu.2.Next, bq] _ ahg) rfl rfl rfl (by simp only [cP.down, simprocAttr, vT.down, @ei aq 175 88 2 1 [.af, .af] rfl rfl rfl (by kernel_rfl), eh, du, dn, dv, cC, cm, List.nil_append, List.cons_append, iQ, pK, mT, lS, eZ, e0, e1, dy, or_true, true_or, @bx _ bl bC (fun _ => oj _), @bx _ bl bC (fun _ => oj _), j.shares, @bx _ iQ hR (fun _ => HM _)]) rfl rfl (.inl rfl) ?_
           simp only [cP.down, simprocAttr, vT.down, @ei aq 175 88 2 1 [.af, .af] rfl rfl rfl (by kernel_rfl), eh, du, dn, dv, cC, cm, List.nil_append, List.cons_append, mU]
           refine ⟨hd (by kernel_rfl), ?_⟩
           (try simp only [bs.down, simprocAttr, nI.down, @ei aq 175 88 2 1 [.af, .af] rfl rfl rfl (by kernel_rfl), eh, du, dn, dv, cC, cm, List.nil_append, List.cons_append] at al ⊢); exact al
          obtain ⟨ahf, C8, h⟩ := aT h
          (try simp only [List.length_append, List.length_cons, List.length_nil, List.length_map, List.length_replicate, Nat.zero_add, Nat.add_zero, Nat.reduceAdd] at C8)
          refine hs (b0 [(2, .aG (bj I)), (3, .aG (bj aa)), (4, .aG (.agg [.int .i64 0, .af, .af])), (5, .aG (.agg [.int .i64 (IntKind.i64.wrap (I.aV + aa.aV)), .ai 1 (aj.map aD), .ai 5 ((j0 ++ [(aY.mk bu.2.bo bu.2.Guard bu.2.Name bu.2.bH cj)]).map br)])), (6, .ai 1 (kg.map bl)), (7, .ai 1 (kX.map bl)), (54, .ai 5 ((List.set lz (Int.toNat ji) (true, bu.2)).map k2)), (55, .int .i64 (bn.bG.length : Int)), (56, .int .i64 ji)] (fun P al => ?_) ?_)
          ·simp only [aX.down, simprocAttr, nH.down, @ei aq 45 90 1 5 [(.agg [.af, .af, (.str []), .af, .af])] rfl rfl rfl (by kernel_rfl), eh, du, dn, dv, cC, cm, List.nil_append, List.cons_append, @dc aq 45 45 90 rfl rfl, dd, de, all_cons, all_nil, C8, @db _ br 5 (fun _ => rfl)]
           (try simp only [bs.down, simprocAttr, nI.down, @ei aq 45 90 1 5 [(.agg [.af, .af, (.str []), .af, .af])] rfl rfl rfl (by kernel_rfl), eh, du, dn, dv, cC, cm, List.nil_append, List.cons_append, @dc aq 45 45 90 rfl rfl, dd, de, all_cons, all_nil, C8, @db _ br 5 (fun _ => rfl)] at al ⊢); exact al
          refine ahe _ (ahd _ (.inl ?_))
          refine wr [(2, .aG (bj I)), (3, .aG (bj aa)), (4, .aG (.agg [.int .i64 0, .af, .af])), (5, .aG (.agg [.int .i64 (IntKind.i64.wrap (I.aV + aa.aV)), .ai 1 (aj.map aD), .ai 5 ((j0 ++ [(aY.mk bu.2.bo bu.2.Guard bu.2.Name bu.2.bH cj)]).map br)])), (6, .ai 1 (kg.map bl)), (7, .ai 1 (kX.map bl)), (54, .ai 5 ((List.set lz (Int.toNat ji) (true, bu.2)).map k2)), (55, .int .i64 (bn.bG.length : Int)), (56, .int .i64 (IntKind.i64.wrap (ji + 1)))] ?_
          exact C6 _ (.inr ⟨_, cb rfl, ag_ (j0 ++ [(aY.mk bu.2.bo bu.2.Guard bu.2.Name bu.2.bH cj)]) kg kX (List.set lz (Int.toNat ji) (true, bu.2)) (IntKind.i64.wrap (ji + 1)) h⟩)
         ·refine bB (congrArg j.bool wo) ?_
          simp only [wo, aO.down]
          refine eu (ahc 4 _ (Jw 4 _ (ag8 _ (ag6 _ (.inl ?_)))))
          refine aZ (fun aks ahh akt aku => ?_)
          obtain ⟨b8, ahi, h⟩ := aT h
          refine cQ (b0 [(4, .aG (.agg [.int .i64 0, .af, .af])), (5, .aG (.agg [.int .i64 (IntKind.i64.wrap (I.aV + aa.aV)), .ai 1 (aj.map aD), .ai 5 (j0.map br)])), (6, .ai 1 (kg.map bl)), (77, .ai 5 (b8.bG.map br)), (78, .int .i64 (b8.bG.length : Int)), (79, .int .i64 0)] (fun P al => ?_) ?_)
          ·simp only [aX.down, simprocAttr, qc.down, pQ, pR, pP, (show oe aq 76 [] 2 (.struct [(2, 0), (40, 1), (45, 2)]) (some (.agg [.int .i64 b8.aV, .ai 1 (b8.Start.map aD), .ai 5 (b8.bG.map br)])) = some (.h 76 [2]) from by kernel_rfl)]
           refine ey (ag1 aa I _ ahi) rfl rfl (by simp only [aX.down, simprocAttr, qc.down, pQ, pR, pP, (show oe aq 76 [] 2 (.struct [(2, 0), (40, 1), (45, 2)]) (some (.agg [.int .i64 b8.aV, .ai 1 (b8.Start.map aD), .ai 5 (b8.bG.map br)])) = some (.h 76 [2]) from by kernel_rfl), eZ, e0, e1, dy, @bx _ aD aD (fun _ => dX _), @bx _ bm bm (fun _ => nE _)] <;> rfl) rfl (.inr (qb _)) ?_
           simp only [aX.down, simprocAttr, qc.down, pQ, pR, pP, (show oe aq 76 [] 2 (.struct [(2, 0), (40, 1), (45, 2)]) (some (.agg [.int .i64 b8.aV, .ai 1 (b8.Start.map aD), .ai 5 (b8.bG.map br)])) = some (.h 76 [2]) from by kernel_rfl)]
           (try simp only [bs.down, simprocAttr, CK.down, pQ, pR, pP, (show oe aq 76 [] 2 (.struct [(2, 0), (40, 1), (45, 2)]) (some (.agg [.int .i64 b8.aV, .ai 1 (b8.Start.map aD), .ai 5 (b8.bG.map br)])) = some (.h 76 [2]) from by kernel_rfl)] at al ⊢); exact al
          refine cd (fun ahj akv akw ahk akx => ?_)
          have ahl : ∀ (n : Nat) (kD : List aY) (kW : List (List aA)) (ly : List (Bool × aY)) (jh : Int), p5 I aa aj b8 n kD kW ly jh = some r → eg aq IC ahj (R [(4, .aG (.agg [.int .i64 0, .af, .af])), (5, .aG (.agg [.int .i64 (IntKind.i64.wrap (I.aV + aa.aV)), .ai 1 (aj.map aD), .ai 5 (kD.map br)])), (6, .ai 1 (kW.map bl)), (77, .ai 5 (ly.map k2)), (78, .int .i64 (b8.bG.length : Int)), (79, .int .i64 jh)]) := by
           intro C9
           induction C9 with
           | zero => intro kD kW ly jh h; cases (show none = some r from h)
           | succ C9 ahm =>
            intro kD kW ly jh h
            replace h : yP (p5 I aa aj b8 C9) I aa aj b8 kD kW ly jh = some r := h
            refine ew (fun aky ahn akz aho => ?_)
            refine ws _ ?_
            refine aZ (fun akA ahp akB ahq => ?_)
            rcases bk h with ⟨wq, h⟩ | ⟨wq, h⟩
            ·refine bp (congrArg j.bool wq) ?_
             simp only [wq, aO.down]
             refine bF (ahp _ (.inl ?_))
             refine aZ (fun akC ahr akD akE => ?_)
             refine cd (fun akF ahs akG akH akI => ?_)
             obtain ⟨cL, zD, h⟩ := aT h
             obtain ⟨aht, Jx, h⟩ := aT h
             refine cQ (b0 [(4, .aG (.agg [.int .i64 0, .af, .af])), (5, .aG (.agg [.int .i64 (IntKind.i64.wrap (I.aV + aa.aV)), .ai 1 (aj.map aD), .ai 5 (kD.map br)])), (6, .ai 1 (kW.map bl)), (13, .aG (br cL.2)), (77, .ai 5 ((List.set ly (Int.toNat jh) (true, cL.2)).map k2)), (78, .int .i64 (b8.bG.length : Int)), (79, .int .i64 jh)] (fun P al => ?_) ?_)
             ·simp only [aX.down, simprocAttr, lC.down, zD, dD zD, tv, zb, (zc Jx)]
              (try simp only [bs.down, simprocAttr, m1.down, zD, dD zD, tv, zb, (zc Jx)] at al ⊢); exact al
             obtain ⟨dE, ahu, h⟩ := aT h
             obtain ⟨gh, ahv, h⟩ := aT h
             refine jb rfl (ik [(4, .aG (.agg [.int .i64 0, .af, .af])), (5, .aG (.agg [.int .i64 (IntKind.i64.wrap (I.aV + aa.aV)), .ai 1 (aj.map aD), .ai 5 (kD.map br)])), (6, .ai 1 (kW.map bl)), (13, .aG (.agg [.ai 1 (cL.2.bo.map aD), .ai 2 (cL.2.Guard.map aR), .str cL.2.Name, .ai 1 (cL.2.bH.map bl), .ai 1 (gh.map bl)])), (77, .ai 5 ((List.set ly (Int.toNat jh) (true, cL.2)).map k2)), (78, .int .i64 (b8.bG.length : Int)), (79, .int .i64 jh)] (fun P al => ?_) ?_)
             ·simp only [cP.down, simprocAttr, vU.down, @ei aq 175 88 2 1 [.af, .af] rfl rfl rfl (by kernel_rfl), eh, du, dn, dv, cC, cm, List.nil_append, List.cons_append]
              refine e7 (Jr kW _ ahu) rfl rfl (by simp only [cP.down, simprocAttr, vU.down, @ei aq 175 88 2 1 [.af, .af] rfl rfl rfl (by kernel_rfl), eh, du, dn, dv, cC, cm, List.nil_append, List.cons_append, eZ, e0, e1, dy, @bx _ bl bC (fun _ => oj _)] <;> rfl) rfl (.inr (kC (fun _ => qa _) _)) ?_
              simp only [cP.down, simprocAttr, vU.down, @ei aq 175 88 2 1 [.af, .af] rfl rfl rfl (by kernel_rfl), eh, du, dn, dv, cC, cm, List.nil_append, List.cons_append]
              refine G1 [⟨.h 87 [], true, _, .hole⟩] (Js [dE, cL.2.Next] _ ahv) rfl rfl rfl (by simp only [cP.down, simprocAttr, vU.down, @ei aq 175 88 2 1 [.af, .af] rfl rfl rfl (by kernel_rfl), eh, du, dn, dv, cC, cm, List.nil_append, List.cons_append, iQ, pK, mT, lS, eZ, e0, e1, dy, or_true, true_or, @bx _ bl bC (fun _ => oj _), @bx _ bl bC (fun _ => oj _), j.shares, @bx _ iQ hR (fun _ => HM _)]) rfl rfl (.inl rfl) ?_
              simp only [cP.down, simprocAttr, vU.down, @ei aq 175 88 2 1 [.af, .af] rfl rfl rfl (by kernel_rfl), eh, du, dn, dv, cC, cm, List.nil_append, List.cons_append, mU]
              refine ⟨hd (by kernel_rfl), ?_⟩
              (try simp only [bs.down, simprocAttr, m1.down, @ei aq 175 88 2 1 [.af, .af] rfl rfl rfl (by kernel_rfl), eh, du, dn, dv, cC, cm, List.nil_append, List.cons_append] at al ⊢); exact al
             obtain ⟨aht, C_, h⟩ := aT h
             (try simp only [List.length_append, List.length_cons, List.length_nil, List.length_map, List.length_replicate, Nat.zero_add, Nat.add_zero, Nat.reduceAdd] at C_)
             refine hs (b0 [(4, .aG (.agg [.int .i64 0, .af, .af])), (5, .aG (.agg [.int .i64 (IntKind.i64.wrap (I.aV + aa.aV)), .ai 1 (aj.map aD), .ai 5 ((kD ++ [(aY.mk cL.2.bo cL.2.Guard cL.2.Name cL.2.bH gh)]).map br)])), (6, .ai 1 (kW.map bl)), (77, .ai 5 ((List.set ly (Int.toNat jh) (true, cL.2)).map k2)), (78, .int .i64 (b8.bG.length : Int)), (79, .int .i64 jh)] (fun P al => ?_) ?_)
             ·simp only [aX.down, simprocAttr, m2.down, @ei aq 45 90 1 5 [(.agg [.af, .af, (.str []), .af, .af])] rfl rfl rfl (by kernel_rfl), eh, du, dn, dv, cC, cm, List.nil_append, List.cons_append, @dc aq 45 45 90 rfl rfl, dd, de, all_cons, all_nil, C_, @db _ br 5 (fun _ => rfl)]
              (try simp only [bs.down, simprocAttr, m1.down, @ei aq 45 90 1 5 [(.agg [.af, .af, (.str []), .af, .af])] rfl rfl rfl (by kernel_rfl), eh, du, dn, dv, cC, cm, List.nil_append, List.cons_append, @dc aq 45 45 90 rfl rfl, dd, de, all_cons, all_nil, C_, @db _ br 5 (fun _ => rfl)] at al ⊢); exact al
             refine ahs _ (ahr _ (.inl ?_))
             refine wr [(4, .aG (.agg [.int .i64 0, .af, .af])), (5, .aG (.agg [.int .i64 (IntKind.i64.wrap (I.aV + aa.aV)), .ai 1 (aj.map aD), .ai 5 ((kD ++ [(aY.mk cL.2.bo cL.2.Guard cL.2.Name cL.2.bH gh)]).map br)])), (6, .ai 1 (kW.map bl)), (77, .ai 5 ((List.set ly (Int.toNat jh) (true, cL.2)).map k2)), (78, .int .i64 (b8.bG.length : Int)), (79, .int .i64 (IntKind.i64.wrap (jh + 1)))] ?_
             exact ahn _ (.inr ⟨_, cb rfl, ahm (kD ++ [(aY.mk cL.2.bo cL.2.Guard cL.2.Name cL.2.bH gh)]) kW (List.set ly (Int.toNat jh) (true, cL.2)) (IntKind.i64.wrap (jh + 1)) h⟩)
            ·refine bB (congrArg j.bool wq) ?_
             simp only [wq, aO.down]
             refine eu (ahq 6 _ (aho 6 _ (ahk _ (ahh _ (.inl ?_)))))
             refine ws _ ?_
             exact a6 (aJ _ (.inl (a7 [dC (bc.mk (IntKind.i64.wrap (I.aV + aa.aV)) aj kD)] rfl (by cases a4 h; rfl) (by decide) a_)))
          obtain ⟨n, h⟩ := et h
          exact ev (.inr ⟨_, jd [] rfl (dQ (t := 4) (d := .aG (.agg [.int .i64 0, .af, .af])) rfl (dQ (t := 5) (d := .aG (.agg [.int .i64 (IntKind.i64.wrap (I.aV + aa.aV)), .ai 1 (aj.map aD), .ai 5 (j0.map br)])) rfl (dQ (t := 6) (d := .ai 1 (kg.map bl)) rfl (i2 (t := 77) (d := .ai 5 (b8.bG.map br)) (bw := .ai 5 ((List.map (fun x => (false, x)) b8.bG).map k2)) rfl rfl (Cd tv _) (by decide) (dQ (t := 78) (d := .int .i64 (b8.bG.length : Int)) rfl (dQ (t := 79) (d := .int .i64 0) rfl (je))))))), ahl n j0 kg (List.map (fun x => (false, x)) b8.bG) 0 h⟩)
       obtain ⟨n, h⟩ := et h
       exact ev (.inr ⟨_, jd [] rfl (dQ (t := 2) (d := .aG (bj I)) rfl (dQ (t := 3) (d := .aG (bj aa)) rfl (dQ (t := 4) (d := .aG (.agg [.int .i64 0, .af, .af])) rfl (i2 (t := 5) (d := .aG (.agg [.int .i64 (IntKind.i64.wrap (I.aV + aa.aV)), .ai 1 (aj.map aD), .af])) (bw := .aG (.agg [.int .i64 (IntKind.i64.wrap (I.aV + aa.aV)), .ai 1 (aj.map aD), .ai 5 []])) rfl rfl (.aG (.agg (.cons (.refl _) (.cons (.refl _) (.cons (.gq _) (.nil)))))) (by decide) (dQ (t := 6) (d := .ai 1 (kY.map bl)) rfl (dQ (t := 7) (d := .ai 1 (kE.map bl)) rfl (i2 (t := 54) (d := .ai 5 (bn.bG.map br)) (bw := .ai 5 ((List.map (fun x => (false, x)) bn.bG).map k2)) rfl rfl (Cd tv _) (by decide) (dQ (t := 55) (d := .int .i64 (bn.bG.length : Int)) rfl (dQ (t := 56) (d := .int .i64 0) rfl (je)))))))))), ag9 n [] kY kE (List.map (fun x => (false, x)) bn.bG) 0 h⟩)
    obtain ⟨n, h⟩ := et h
    exact ev (.inr ⟨_, jd [] rfl (dQ (t := 2) (d := .aG (bj I)) rfl (dQ (t := 3) (d := .aG (bj aa)) rfl (dQ (t := 4) (d := .aG (.agg [.int .i64 0, .af, .af])) rfl (dQ (t := 5) (d := .aG (.agg [.int .i64 (IntKind.i64.wrap (I.aV + aa.aV)), .ai 1 (aj.map aD), .af])) rfl (dQ (t := 6) (d := .ai 1 (gA.map bl)) rfl (i2 (t := 7) (d := .af) (bw := .ai 1 []) rfl rfl (.gq _) (by decide) (dQ (t := 38) (d := .int .i64 aa.aV) rfl (dQ (t := 39) (d := .int .i64 0) rfl (je))))))))), ag4 n gA [] 0 h⟩)
 obtain ⟨n, h⟩ := et h
 exact ev (.inr ⟨_, jd [] rfl (dQ (t := 2) (d := .aG (bj I)) rfl (dQ (t := 3) (d := .aG (bj aa)) rfl (dQ (t := 4) (d := .aG (.agg [.int .i64 0, .af, .af])) rfl (dQ (t := 5) (d := .aG (.agg [.int .i64 (IntKind.i64.wrap (I.aV + aa.aV)), .ai 1 (aj.map aD), .af])) rfl (i2 (t := 6) (d := .af) (bw := .ai 1 []) rfl rfl (.gq _) (by decide) (dQ (t := 7) (d := .af) rfl (dQ (t := 27) (d := .int .i64 I.aV) rfl (dQ (t := 28) (d := .int .i64 0) rfl (je))))))))), v7 n [] 0 h⟩)
theorem Da (I : bc) (aa : bc) (r : bc × Int) (h : vz I aa = some r) : a0 aq 33 [bj I, bj aa] (.tuple [dC r.1, .int .i64 r.2]) [] := by
 refine a0.cF (fx := [0, 1]) cI [.cell 4 47, .tmp 5] [(0, bj I), (1, bj aa)] Try.func33 rfl rfl abE (Nat.le_of_ble_eq_true rfl) rfl rfl (fun cv aJ cD => ?_)
 refine ws _ ?_
 refine aZ (fun fB cT bP aF => ?_)
 obtain ⟨aj, cn, h⟩ := aT h
 rcases bk h with ⟨cc, h⟩ | ⟨cc, h⟩
 ·refine j1 (eT cc) (zz I _ cn) _ ?_
  refine bp rfl ?_
  refine fG (show ∀ s, ed aq s 47 [] = some (.agg [.int .i64 0, .af, .af], s) from fun s => by kernel_rfl) _ ?_
  exact a6 (bP _ (aJ _ (.inr ⟨[(4, .aG (dC (bc.mk 0 [] []))), (5, .int .i64 1)], jd [] rfl (i2 (t := 4) (d := .aG (.agg [.int .i64 0, .af, .af])) rfl rfl (.aG (.agg (.cons (.refl _) (.cons (.gq _) (.cons (.gq _) (.nil)))))) (by decide) (dQ rfl (je))), a7 [dC (bc.mk 0 [] []), .int .i64 1] rfl (by cases a4 h; rfl) (by decide) a_⟩)))
 ·obtain ⟨aF, bV, h⟩ := aT h
  refine cQ (b0 [(2, .aG (bj I)), (3, .aG (bj aa)), (4, .aG (.agg [.int .i64 0, .af, .af])), (14, .bool (!aF))] (fun P al => ?_) ?_)
  ·simp only [aX.down, simprocAttr, hg.down, (dz cc)]
   refine ey (zz I _ cn) rfl rfl rfl rfl (.inl (by rfl)) ?_
   simp only [aX.down, simprocAttr, hg.down, (dz cc)]
   refine jc (zz aa _ bV) rfl rfl rfl rfl (.inl (by rfl)) ?_
   simp only [aX.down, simprocAttr, hg.down, (dz cc)]
   (try simp only [bs.down, simprocAttr, i5.down, (dz cc)] at al ⊢); exact al
  rcases bk h with ⟨bW, h⟩ | ⟨bW, h⟩
  ·refine bp (congrArg j.bool bW) ?_
   simp only [(eT bW), aO.down]
   refine fG (show ∀ s, ed aq s 47 [] = some (.agg [.int .i64 0, .af, .af], s) from fun s => by kernel_rfl) _ ?_
   exact a6 (bP _ (aJ _ (.inr ⟨[(4, .aG (dC (bc.mk 0 [] []))), (5, .int .i64 1)], jd [] rfl (i2 (t := 4) (d := .aG (.agg [.int .i64 0, .af, .af])) rfl rfl (.aG (.agg (.cons (.refl _) (.cons (.gq _) (.cons (.gq _) (.nil)))))) (by decide) (dQ rfl (je))), a7 [dC (bc.mk 0 [] []), .int .i64 1] rfl (by cases a4 h; rfl) (by decide) a_⟩)))
  ·refine bB (congrArg j.bool bW) ?_
   simp only [(dz bW), aO.down]
   refine bF (cT _ (.inl ?_))
   obtain ⟨aW, qH, h⟩ := aT h
   refine eI (ag2 I aa _ qH) _ ?_
   refine aZ (fun mu h2 kG kF => ?_)
   obtain ⟨bn, fc, h⟩ := aT h
   refine cQ (b0 [(4, .aG (.agg [.int .i64 0, .af, .af])), (6, .aG (dC aW)), (21, .bool (!bn))] (fun P al => ?_) ?_)
   ·simp only [aX.down, simprocAttr, o0.down]
    refine ey (zz aW _ fc) rfl rfl (by simp only [aX.down, simprocAttr, o0.down, eZ, e0, e1, dy, @bx _ aD aD (fun _ => dX _), @bx _ br bm (fun _ => gu _)] <;> rfl) rfl (.inr (by rfl)) ?_
    simp only [aX.down, simprocAttr, o0.down]
    (try simp only [bs.down, simprocAttr, tw.down] at al ⊢); exact al
   rcases bk h with ⟨fS, h⟩ | ⟨fS, h⟩
   ·refine bp (congrArg j.bool fS) ?_
    simp only [(eT fS), aO.down]
    refine fG (show ∀ s, ed aq s 47 [] = some (.agg [.int .i64 0, .af, .af], s) from fun s => by kernel_rfl) _ ?_
    exact a6 (kG _ (aJ _ (.inr ⟨[(4, .aG (dC (bc.mk 0 [] []))), (5, .int .i64 5)], jd [] rfl (i2 (t := 4) (d := .aG (.agg [.int .i64 0, .af, .af])) rfl rfl (.aG (.agg (.cons (.refl _) (.cons (.gq _) (.cons (.gq _) (.nil)))))) (by decide) (dQ rfl (je))), a7 [dC (bc.mk 0 [] []), .int .i64 5] rfl (by cases a4 h; rfl) (by decide) a_⟩)))
   ·refine bB (congrArg j.bool fS) ?_
    simp only [(dz fS), aO.down]
    refine bF (h2 _ (.inl ?_))
    refine ws _ ?_
    exact a6 (aJ _ (.inl (a7 [dC aW, .int .i64 0] rfl (by cases a4 h; rfl) (by decide) a_)))
theorem Jy (I : List Int) (aa : List Int) (r : Bool) (h : vA I aa = some r) : a0 aq 36 [.slice (I.map aD), .slice (aa.map aD)] (.bool r) [] := by
 refine a0.cF (fx := [0, 1]) cI [.tmp 4] [(0, .slice (I.map aD)), (1, .slice (aa.map aD))] Try.func36 rfl rfl abR (Nat.le_of_ble_eq_true rfl) rfl rfl (fun cv aJ cD => ?_)
 refine ws _ ?_
 refine aZ (fun fB cT bP aF => ?_)
 refine ws _ ?_
 rcases bk h with ⟨b3, h⟩ | ⟨b3, h⟩
 ·refine bp (congrArg j.bool b3) ?_
  simp only [b3, aO.down]
  refine ws _ ?_
  exact a6 (bP _ (aJ _ (.inl (a7 [.bool false] rfl (by cases a4 h; rfl) (by decide) a_))))
 ·refine bB (congrArg j.bool b3) ?_
  simp only [b3, aO.down]
  refine bF (cT _ (.inl ?_))
  refine aZ (fun fj dO eR bq => ?_)
  refine ws _ ?_
  refine cd (fun hG fM gS bW b8 => ?_)
  have mv : ∀ (n : Nat) (ee : Int), yU I aa n ee = some r → eg aq ID hG (R [(0, .slice (I.map aD)), (1, .slice (aa.map aD)), (5, .int .i64 ee)]) := by
   intro h6
   induction h6 with
   | zero => intro ee h; cases (show none = some r from h)
   | succ h6 l4 =>
    intro ee h
    replace h : HE (yU I aa h6) I aa ee = some r := h
    refine ew (fun ht eN eJ cL => ?_)
    refine aZ (fun f_ c5 dR dE => ?_)
    refine ws _ ?_
    rcases bk h with ⟨c2, h⟩ | ⟨c2, h⟩
    ·refine bp (congrArg j.bool c2) ?_
     simp only [c2, aO.down]
     refine bF (c5 _ (.inl ?_))
     refine aZ (fun oo j3 l5 mq => ?_)
     refine cd (fun k3 hh gM dY jj => ?_)
     obtain ⟨aj, dw, h⟩ := aT h
     obtain ⟨aF, gN, h⟩ := aT h
     refine jb rfl (ik [(0, .slice (I.map aD)), (1, .slice (aa.map aD)), (5, .int .i64 ee), (25, .bool (aj != aF))] (fun P al => ?_) ?_)
     ·simp only [cP.down, simprocAttr, nG.down, dw, gN]
      refine ⟨hd (by kernel_rfl), ?_⟩
      (try simp only [bs.down, simprocAttr, aD, dw, gN] at al ⊢); exact al
     rcases bk h with ⟨hH, h⟩ | ⟨hH, h⟩
     ·refine bp (congrArg j.bool hH) ?_
      simp only [hH, aO.down]
      refine ws _ ?_
      exact a6 (gM _ (l5 _ (eJ _ (gS _ (eR _ (aJ _ (.inl (a7 [.bool false] rfl (by cases a4 h; rfl) (by decide) a_))))))))
     ·refine bB (congrArg j.bool hH) ?_
      simp only [hH, aO.down]
      refine bF (hh _ (j3 _ (.inl ?_)))
      refine wr _ ?_
      exact eN _ (.inr ⟨_, cb rfl, l4 (IntKind.i64.wrap (ee + 1)) h⟩)
    ·refine bB (congrArg j.bool c2) ?_
     simp only [c2, aO.down]
     refine eu (dE 0 _ (cL 0 _ (bW _ (dO _ (.inl ?_)))))
     refine ws _ ?_
     exact a6 (aJ _ (.inl (a7 [.bool true] rfl (by cases a4 h; rfl) (by decide) a_)))
  obtain ⟨n, h⟩ := et h
  exact ev (.inr ⟨_, cb rfl, mv n 0 h⟩)
theorem ahw (I : aA) (aa : aA) (r : Bool) (h : vB I aa = some r) : a0 aq 177 [aR I, aR aa] (.bool r) [] := by
 refine a0.cF (fx := [0, 1]) cI [.tmp 4] [(0, aR I), (1, aR aa)] Try.func177 rfl rfl ab0 (Nat.le_of_ble_eq_true rfl) rfl rfl (fun cv aJ cD => ?_)
 refine ws _ ?_
 refine aZ (fun fB cT bP aF => ?_)
 refine ws _ ?_
 rcases bk h with ⟨b3, h⟩ | ⟨b3, h⟩
 ·refine bp (congrArg j.bool b3) ?_
  simp only [b3, aO.down]
  refine ws _ ?_
  exact a6 (bP _ (aJ _ (.inl (a7 [.bool false] rfl (by cases a4 h; rfl) (by decide) a_))))
 ·refine bB (congrArg j.bool b3) ?_
  simp only [b3, aO.down]
  refine bF (cT _ (.inl ?_))
  refine aZ (fun fj dO eR bq => ?_)
  refine ws _ ?_
  rcases bk h with ⟨bW, h⟩ | ⟨bW, h⟩
  ·refine bp (congrArg j.bool bW) ?_
   simp only [bW, aO.down]
   refine ws _ ?_
   exact a6 (eR _ (aJ _ (.inl (a7 [.bool false] rfl (by cases a4 h; rfl) (by decide) a_))))
  ·refine bB (congrArg j.bool bW) ?_
   simp only [bW, aO.down]
   refine bF (dO _ (.inl ?_))
   refine ws _ ?_
   exact a6 (aJ _ (.inl (a7 [.bool true] rfl (by cases a4 h; rfl) (by decide) a_)))
theorem Jz (I : List aA) (aa : List aA) (r : Bool) (h : tt I aa = some r) : a0 aq 149 [.slice (I.map aR), .slice (aa.map aR)] (.bool r) [] := by
 refine a0.cF (fx := [0, 1]) cI [.tmp 4] [(0, .slice (I.map aR)), (1, .slice (aa.map aR))] Try.func149 rfl rfl acd (Nat.le_of_ble_eq_true rfl) rfl rfl (fun cv aJ cD => ?_)
 refine ws _ ?_
 refine aZ (fun fB cT bP aF => ?_)
 refine ws _ ?_
 rcases bk h with ⟨b3, h⟩ | ⟨b3, h⟩
 ·refine bp (congrArg j.bool b3) ?_
  simp only [b3, aO.down]
  refine ws _ ?_
  exact a6 (bP _ (aJ _ (.inl (a7 [.bool false] rfl (by cases a4 h; rfl) (by decide) a_))))
 ·refine bB (congrArg j.bool b3) ?_
  simp only [b3, aO.down]
  refine bF (cT _ (.inl ?_))
  refine aZ (fun fj dO eR bq => ?_)
  refine ws _ ?_
  refine cd (fun hG fM gS bW b8 => ?_)
  have mv : ∀ (n : Nat) (ee : Int), yV I aa n ee = some r → eg aq IE hG (R [(0, .slice (I.map aR)), (1, .slice (aa.map aR)), (5, .int .i64 ee)]) := by
   intro h6
   induction h6 with
   | zero => intro ee h; cases (show none = some r from h)
   | succ h6 l4 =>
    intro ee h
    replace h : HF (yV I aa h6) I aa ee = some r := h
    refine ew (fun ht eN eJ cL => ?_)
    refine aZ (fun f_ c5 dR dE => ?_)
    refine ws _ ?_
    rcases bk h with ⟨c2, h⟩ | ⟨c2, h⟩
    ·refine bp (congrArg j.bool c2) ?_
     simp only [c2, aO.down]
     refine bF (c5 _ (.inl ?_))
     refine aZ (fun oo j3 l5 mq => ?_)
     refine cd (fun k3 hh gM dY jj => ?_)
     obtain ⟨aj, dw, h⟩ := aT h
     obtain ⟨aF, gN, h⟩ := aT h
     obtain ⟨aW, gO, h⟩ := aT h
     refine jb rfl (ik [(0, .slice (I.map aR)), (1, .slice (aa.map aR)), (5, .int .i64 ee), (26, .bool (!aW))] (fun P al => ?_) ?_)
     ·simp only [cP.down, simprocAttr, hS.down, dw, gN]
      refine e7 (ahw aj aF _ gO) rfl rfl rfl rfl (.inl (by rfl)) ?_
      simp only [cP.down, simprocAttr, hS.down, dw, gN]
      refine ⟨hd (by kernel_rfl), ?_⟩
      (try simp only [bs.down, simprocAttr, aR, dw, gN] at al ⊢); exact al
     rcases bk h with ⟨gv, h⟩ | ⟨gv, h⟩
     ·refine bp (congrArg j.bool gv) ?_
      simp only [(eT gv), aO.down]
      refine ws _ ?_
      exact a6 (gM _ (l5 _ (eJ _ (gS _ (eR _ (aJ _ (.inl (a7 [.bool false] rfl (by cases a4 h; rfl) (by decide) a_))))))))
     ·refine bB (congrArg j.bool gv) ?_
      simp only [(dz gv), aO.down]
      refine bF (hh _ (j3 _ (.inl ?_)))
      refine wr _ ?_
      exact eN _ (.inr ⟨_, cb rfl, l4 (IntKind.i64.wrap (ee + 1)) h⟩)
    ·refine bB (congrArg j.bool c2) ?_
     simp only [c2, aO.down]
     refine eu (dE 0 _ (cL 0 _ (bW _ (dO _ (.inl ?_)))))
     refine ws _ ?_
     exact a6 (aJ _ (.inl (a7 [.bool true] rfl (by cases a4 h; rfl) (by decide) a_)))
  obtain ⟨n, h⟩ := et h
  exact ev (.inr ⟨_, cb rfl, mv n 0 h⟩)
theorem JA (I : List (List aA)) (aa : List (List aA)) (r : Bool) (h : vC I aa = some r) : a0 aq 150 [.slice (I.map bC), .slice (aa.map bC)] (.bool r) [] := by
 refine a0.cF (fx := [0, 1]) cI [.tmp 4] [(0, .slice (I.map bC)), (1, .slice (aa.map bC))] Try.func150 rfl rfl acr (Nat.le_of_ble_eq_true rfl) rfl rfl (fun cv aJ cD => ?_)
 refine ws _ ?_
 refine aZ (fun fB cT bP aF => ?_)
 refine ws _ ?_
 rcases bk h with ⟨b3, h⟩ | ⟨b3, h⟩
 ·refine bp (congrArg j.bool b3) ?_
  simp only [b3, aO.down]
  refine ws _ ?_
  exact a6 (bP _ (aJ _ (.inl (a7 [.bool false] rfl (by cases a4 h; rfl) (by decide) a_))))
 ·refine bB (congrArg j.bool b3) ?_
  simp only [b3, aO.down]
  refine bF (cT _ (.inl ?_))
  refine aZ (fun fj dO eR bq => ?_)
  refine ws _ ?_
  refine cd (fun hG fM gS bW b8 => ?_)
  have mv : ∀ (n : Nat) (ee : Int), yW I aa n ee = some r → eg aq IF hG (R [(0, .slice (I.map bC)), (1, .slice (aa.map bC)), (5, .int .i64 ee)]) := by
   intro h6
   induction h6 with
   | zero => intro ee h; cases (show none = some r from h)
   | succ h6 l4 =>
    intro ee h
    replace h : HG (yW I aa h6) I aa ee = some r := h
    refine ew (fun ht eN eJ cL => ?_)
    refine aZ (fun f_ c5 dR dE => ?_)
    refine ws _ ?_
    rcases bk h with ⟨c2, h⟩ | ⟨c2, h⟩
    ·refine bp (congrArg j.bool c2) ?_
     simp only [c2, aO.down]
     refine bF (c5 _ (.inl ?_))
     refine aZ (fun oo j3 l5 mq => ?_)
     refine cd (fun k3 hh gM dY jj => ?_)
     obtain ⟨aj, dw, h⟩ := aT h
     obtain ⟨aF, gN, h⟩ := aT h
     obtain ⟨aW, gO, h⟩ := aT h
     refine jb rfl (ik [(0, .slice (I.map bC)), (1, .slice (aa.map bC)), (5, .int .i64 ee), (26, .bool (!aW))] (fun P al => ?_) ?_)
     ·simp only [cP.down, simprocAttr, eD, e8, fC, eU, aR, bC, dw, gN]
      refine e7 (Jz aj aF _ gO) rfl rfl rfl rfl (.inl (by rfl)) ?_
      simp only [cP.down, simprocAttr, eD, e8, fC, eU, aR, bC, dw, gN]
      refine ⟨hd (by kernel_rfl), ?_⟩
      (try simp only [bs.down, simprocAttr, aR, bC, dw, gN] at al ⊢); exact al
     rcases bk h with ⟨gv, h⟩ | ⟨gv, h⟩
     ·refine bp (congrArg j.bool gv) ?_
      simp only [(eT gv), aO.down]
      refine ws _ ?_
      exact a6 (gM _ (l5 _ (eJ _ (gS _ (eR _ (aJ _ (.inl (a7 [.bool false] rfl (by cases a4 h; rfl) (by decide) a_))))))))
     ·refine bB (congrArg j.bool gv) ?_
      simp only [(dz gv), aO.down]
      refine bF (hh _ (j3 _ (.inl ?_)))
      refine wr _ ?_
      exact eN _ (.inr ⟨_, cb rfl, l4 (IntKind.i64.wrap (ee + 1)) h⟩)
    ·refine bB (congrArg j.bool c2) ?_
     simp only [c2, aO.down]
     refine eu (dE 0 _ (cL 0 _ (bW _ (dO _ (.inl ?_)))))
     refine ws _ ?_
     exact a6 (aJ _ (.inl (a7 [.bool true] rfl (by cases a4 h; rfl) (by decide) a_)))
  obtain ⟨n, h⟩ := et h
  exact ev (.inr ⟨_, cb rfl, mv n 0 h⟩)
theorem ahx (I : aY) (aa : aY) (r : Bool) (h : vD I aa = some r) : a0 aq 108 [bm I, bm aa] (.bool r) [] := by
 refine a0.cF (fx := [0, 1]) cI [.tmp 4] [(0, bm I), (1, bm aa)] Try.func108 rfl rfl acK (Nat.le_of_ble_eq_true rfl) rfl rfl (fun cv aJ cD => ?_)
 refine ws _ ?_
 refine aZ (fun fB cT bP aF => ?_)
 obtain ⟨aj, cn, h⟩ := aT h
 refine eI (Jy I.bo aa.bo _ cn) _ ?_
 rcases bk h with ⟨cc, h⟩ | ⟨cc, h⟩
 ·refine bp (congrArg j.bool cc) ?_
  simp only [(eT cc), aO.down]
  refine ws _ ?_
  exact a6 (bP _ (aJ _ (.inl (a7 [.bool false] rfl (by cases a4 h; rfl) (by decide) a_))))
 ·refine bB (congrArg j.bool cc) ?_
  simp only [(dz cc), aO.down]
  refine bF (cT _ (.inl ?_))
  refine aZ (fun jA fZ hc cj => ?_)
  obtain ⟨aF, g7, h⟩ := aT h
  refine eI (Jz I.Guard aa.Guard _ g7) _ ?_
  rcases bk h with ⟨c7, h⟩ | ⟨c7, h⟩
  ·refine bp (congrArg j.bool c7) ?_
   simp only [(eT c7), aO.down]
   refine ws _ ?_
   exact a6 (hc _ (aJ _ (.inl (a7 [.bool false] rfl (by cases a4 h; rfl) (by decide) a_))))
  ·refine bB (congrArg j.bool c7) ?_
   simp only [(dz c7), aO.down]
   refine bF (fZ _ (.inl ?_))
   refine aZ (fun mu h2 kG kF => ?_)
   refine ws _ ?_
   rcases bk h with ⟨dY, h⟩ | ⟨dY, h⟩
   ·refine bp (congrArg j.bool dY) ?_
    simp only [dY, aO.down]
    refine ws _ ?_
    exact a6 (kG _ (aJ _ (.inl (a7 [.bool false] rfl (by cases a4 h; rfl) (by decide) a_))))
   ·refine bB (congrArg j.bool dY) ?_
    simp only [dY, aO.down]
    refine bF (h2 _ (.inl ?_))
    refine aZ (fun vY qf om oi => ?_)
    obtain ⟨aW, gO, h⟩ := aT h
    refine eI (JA I.bH aa.bH _ gO) _ ?_
    rcases bk h with ⟨gv, h⟩ | ⟨gv, h⟩
    ·refine bp (congrArg j.bool gv) ?_
     simp only [(eT gv), aO.down]
     refine ws _ ?_
     exact a6 (om _ (aJ _ (.inl (a7 [.bool false] rfl (by cases a4 h; rfl) (by decide) a_))))
    ·refine bB (congrArg j.bool gv) ?_
     simp only [(dz gv), aO.down]
     refine bF (qf _ (.inl ?_))
     refine aZ (fun qd l1 nJ kZ => ?_)
     obtain ⟨bn, m5, h⟩ := aT h
     refine eI (JA I.Next aa.Next _ m5) _ ?_
     rcases bk h with ⟨kj, h⟩ | ⟨kj, h⟩
     ·refine bp (congrArg j.bool kj) ?_
      simp only [(eT kj), aO.down]
      refine ws _ ?_
      exact a6 (nJ _ (aJ _ (.inl (a7 [.bool false] rfl (by cases a4 h; rfl) (by decide) a_))))
     ·refine bB (congrArg j.bool kj) ?_
      simp only [(dz kj), aO.down]
      refine bF (l1 _ (.inl ?_))
      refine ws _ ?_
      exact a6 (aJ _ (.inl (a7 [.bool true] rfl (by cases a4 h; rfl) (by decide) a_)))
theorem ahy (I : List aY) (aa : List aY) (r : Bool) (h : yY I aa = some r) : a0 aq 76 [.slice (I.map bm), .slice (aa.map bm)] (.bool r) [] := by
 refine a0.cF (fx := [0, 1]) cI [.tmp 4] [(0, .slice (I.map bm)), (1, .slice (aa.map bm))] Try.func76 rfl rfl acX (Nat.le_of_ble_eq_true rfl) rfl rfl (fun cv aJ cD => ?_)
 refine ws _ ?_
 refine aZ (fun fB cT bP aF => ?_)
 refine ws _ ?_
 rcases bk h with ⟨b3, h⟩ | ⟨b3, h⟩
 ·refine bp (congrArg j.bool b3) ?_
  simp only [b3, aO.down]
  refine ws _ ?_
  exact a6 (bP _ (aJ _ (.inl (a7 [.bool false] rfl (by cases a4 h; rfl) (by decide) a_))))
 ·refine bB (congrArg j.bool b3) ?_
  simp only [b3, aO.down]
  refine bF (cT _ (.inl ?_))
  refine aZ (fun fj dO eR bq => ?_)
  refine ws _ ?_
  refine cd (fun hG fM gS bW b8 => ?_)
  have mv : ∀ (n : Nat) (ee : Int), yX I aa n ee = some r → eg aq IG hG (R [(0, .slice (I.map bm)), (1, .slice (aa.map bm)), (5, .int .i64 ee)]) := by
   intro h6
   induction h6 with
   | zero => intro ee h; cases (show none = some r from h)
   | succ h6 l4 =>
    intro ee h
    replace h : HH (yX I aa h6) I aa ee = some r := h
    refine ew (fun ht eN eJ cL => ?_)
    refine aZ (fun f_ c5 dR dE => ?_)
    refine ws _ ?_
    rcases bk h with ⟨c2, h⟩ | ⟨c2, h⟩
    ·refine bp (congrArg j.bool c2) ?_
     simp only [c2, aO.down]
     refine bF (c5 _ (.inl ?_))
     refine aZ (fun oo j3 l5 mq => ?_)
     refine cd (fun k3 hh gM dY jj => ?_)
     obtain ⟨aj, dw, h⟩ := aT h
     obtain ⟨aF, gN, h⟩ := aT h
     obtain ⟨aW, gO, h⟩ := aT h
     refine jb rfl (ik [(0, .slice (I.map bm)), (1, .slice (aa.map bm)), (5, .int .i64 ee), (26, .bool (!aW))] (fun P al => ?_) ?_)
     ·simp only [cP.down, simprocAttr, zk.down, dw, gN]
      refine e7 (ahx aj aF _ gO) rfl rfl rfl rfl (.inl (by rfl)) ?_
      simp only [cP.down, simprocAttr, zk.down, dw, gN]
      refine ⟨hd (by kernel_rfl), ?_⟩
      (try simp only [bs.down, simprocAttr, kh.down, dw, gN] at al ⊢); exact al
     rcases bk h with ⟨gv, h⟩ | ⟨gv, h⟩
     ·refine bp (congrArg j.bool gv) ?_
      simp only [(eT gv), aO.down]
      refine ws _ ?_
      exact a6 (gM _ (l5 _ (eJ _ (gS _ (eR _ (aJ _ (.inl (a7 [.bool false] rfl (by cases a4 h; rfl) (by decide) a_))))))))
     ·refine bB (congrArg j.bool gv) ?_
      simp only [(dz gv), aO.down]
      refine bF (hh _ (j3 _ (.inl ?_)))
      refine wr _ ?_
      exact eN _ (.inr ⟨_, cb rfl, l4 (IntKind.i64.wrap (ee + 1)) h⟩)
    ·refine bB (congrArg j.bool c2) ?_
     simp only [c2, aO.down]
     refine eu (dE 0 _ (cL 0 _ (bW _ (dO _ (.inl ?_)))))
     refine ws _ ?_
     exact a6 (aJ _ (.inl (a7 [.bool true] rfl (by cases a4 h; rfl) (by decide) a_)))
  obtain ⟨n, h⟩ := et h
  exact ev (.inr ⟨_, cb rfl, mv n 0 h⟩)
theorem qi (I : bc) (aa : bc) (r : Bool) (h : p6 I aa = some r) : a0 aq 29 [bj I, bj aa] (.bool r) [] := by
 refine a0.cF (fx := [0, 1]) cI [.tmp 4] [(0, bj I), (1, bj aa)] Try.func29 rfl rfl ac9 (Nat.le_of_ble_eq_true rfl) rfl rfl (fun cv aJ cD => ?_)
 refine ws _ ?_
 refine aZ (fun fB cT bP aF => ?_)
 refine ws _ ?_
 rcases bk h with ⟨b3, h⟩ | ⟨b3, h⟩
 ·refine bp (congrArg j.bool b3) ?_
  simp only [b3, aO.down]
  refine ws _ ?_
  exact a6 (bP _ (aJ _ (.inl (a7 [.bool false] rfl (by cases a4 h; rfl) (by decide) a_))))
 ·refine bB (congrArg j.bool b3) ?_
  simp only [b3, aO.down]
  refine bF (cT _ (.inl ?_))
  refine aZ (fun fj dO eR bq => ?_)
  obtain ⟨aj, hK, h⟩ := aT h
  refine eI (Jy I.Start aa.Start _ hK) _ ?_
  rcases bk h with ⟨cM, h⟩ | ⟨cM, h⟩
  ·refine bp (congrArg j.bool cM) ?_
   simp only [(eT cM), aO.down]
   refine ws _ ?_
   exact a6 (eR _ (aJ _ (.inl (a7 [.bool false] rfl (by cases a4 h; rfl) (by decide) a_))))
  ·refine bB (congrArg j.bool cM) ?_
   simp only [(dz cM), aO.down]
   refine bF (dO _ (.inl ?_))
   refine aZ (fun iB eW hU gh => ?_)
   obtain ⟨aF, eP, h⟩ := aT h
   refine eI (ahy I.bG aa.bG _ eP) _ ?_
   rcases bk h with ⟨dY, h⟩ | ⟨dY, h⟩
   ·refine bp (congrArg j.bool dY) ?_
    simp only [(eT dY), aO.down]
    refine ws _ ?_
    exact a6 (hU _ (aJ _ (.inl (a7 [.bool false] rfl (by cases a4 h; rfl) (by decide) a_))))
   ·refine bB (congrArg j.bool dY) ?_
    simp only [(dz dY), aO.down]
    refine bF (eW _ (.inl ?_))
    refine ws _ ?_
    exact a6 (aJ _ (.inl (a7 [.bool true] rfl (by cases a4 h; rfl) (by decide) a_)))
theorem JB (I : List Int) (aa : Int) (r : Int × (List Int)) (h : vE I aa = some r) : a0 aq 37 [.ai 1 (I.map aD), .int .i64 aa] (.int .i64 r.1) [.ai 1 (r.2.map aD), .hole] := by
 refine a0.cF (fx := [0]) cI [.tmp 4] [(0, .ai 1 (I.map aD)), (1, .int .i64 aa)] Try.func37 rfl rfl adj (Nat.le_of_ble_eq_true rfl) rfl rfl (fun cv aJ cD => ?_)
 refine ws _ ?_
 refine aZ (fun fB cT bP aF => ?_)
 refine ws _ ?_
 refine cd (fun fH fu cZ b3 bn => ?_)
 have h3 : ∀ (n : Nat) (dh : List Int) (bR : Int) (bb : Int), rB n dh bR bb = some r → eg aq IH fH (R [(0, .ai 1 (dh.map aD)), (1, .int .i64 bR), (5, .int .i64 bb)]) := by
  intro dK
  induction dK with
  | zero => intro dh bR bb h; cases (show none = some r from h)
  | succ dK hV =>
   intro dh bR bb h
   replace h : yZ (rB dK) dh bR bb = some r := h
   refine ew (fun gD fk el bu => ?_)
   refine aZ (fun fj dO eR bq => ?_)
   refine ws _ ?_
   rcases bk h with ⟨bW, h⟩ | ⟨bW, h⟩
   ·refine bp (congrArg j.bool bW) ?_
    simp only [bW, aO.down]
    refine bF (dO _ (.inl ?_))
    refine aZ (fun ht eN eJ cL => ?_)
    refine cd (fun f_ c5 dR c7 dE => ?_)
    obtain ⟨aj, eG, h⟩ := aT h
    refine cQ (b0 [(0, .ai 1 ((List.set dh (Int.toNat bb) bR).map aD)), (1, .int .i64 bR), (5, .int .i64 bb)] (fun P al => ?_) ?_)
    ·simp only [aX.down, simprocAttr, nG.down, eG, dD eG, cC, fW]
     (try simp only [bs.down, simprocAttr, aD, eG, dD eG, cC, fW] at al ⊢); exact al
    refine wr [(0, .ai 1 ((List.set dh (Int.toNat bb) bR).map aD)), (1, .int .i64 (IntKind.i64.wrap (bR + 1))), (5, .int .i64 bb)] ?_
    refine c5 _ (eN _ (.inl ?_))
    refine wr [(0, .ai 1 ((List.set dh (Int.toNat bb) bR).map aD)), (1, .int .i64 (IntKind.i64.wrap (bR + 1))), (5, .int .i64 (IntKind.i64.wrap (bb + 1)))] ?_
    exact fk _ (.inr ⟨_, cb rfl, hV (List.set dh (Int.toNat bb) bR) (IntKind.i64.wrap (bR + 1)) (IntKind.i64.wrap (bb + 1)) h⟩)
   ·refine bB (congrArg j.bool bW) ?_
    simp only [bW, aO.down]
    refine eu (bq 0 _ (bu 0 _ (b3 _ (cT _ (.inl ?_)))))
    refine ws _ ?_
    exact a6 (aJ _ (.inl (a7 [.int .i64 bR] rfl (by cases a4 h; rfl) (by decide) (s6 (uX (by cases a4 h; rfl) rfl rfl rfl (s7 (s8)))))))
 obtain ⟨n, h⟩ := et h
 exact ev (.inr ⟨_, cb rfl, h3 n I aa 0 h⟩)
theorem JC (I : List aA) (aa : Int) (r : Int × (List aA)) (h : vF I aa = some r) : a0 aq 109 [.ai 2 (I.map aR), .int .i64 aa] (.int .i64 r.1) [.ai 2 (r.2.map aR), .hole] := by
 refine a0.cF (fx := [0]) cI [.tmp 4] [(0, .ai 2 (I.map aR)), (1, .int .i64 aa)] Try.func109 rfl rfl adu (Nat.le_of_ble_eq_true rfl) rfl rfl (fun cv aJ cD => ?_)
 refine ws _ ?_
 refine aZ (fun fB cT bP aF => ?_)
 refine ws _ ?_
 refine cd (fun fH fu cZ b3 bn => ?_)
 have h3 : ∀ (n : Nat) (dh : List aA) (bR : Int) (bb : Int), rC n dh bR bb = some r → eg aq II fH (R [(0, .ai 2 (dh.map aR)), (1, .int .i64 bR), (5, .int .i64 bb)]) := by
  intro dK
  induction dK with
  | zero => intro dh bR bb h; cases (show none = some r from h)
  | succ dK hV =>
   intro dh bR bb h
   replace h : y0 (rC dK) dh bR bb = some r := h
   refine ew (fun gD fk el bu => ?_)
   refine aZ (fun fj dO eR bq => ?_)
   refine ws _ ?_
   rcases bk h with ⟨bW, h⟩ | ⟨bW, h⟩
   ·refine bp (congrArg j.bool bW) ?_
    simp only [bW, aO.down]
    refine bF (dO _ (.inl ?_))
    refine aZ (fun ht eN eJ cL => ?_)
    refine cd (fun f_ c5 dR c7 dE => ?_)
    obtain ⟨aj, eG, h⟩ := aT h
    refine cQ (b0 [(0, .ai 2 ((List.set dh (Int.toNat bb) (aA.mk bR aj.Value)).map aR)), (1, .int .i64 bR), (5, .int .i64 bb)] (fun P al => ?_) ?_)
    ·simp only [aX.down, simprocAttr, hS.down, eG, dD eG, cC, fW]
     (try simp only [bs.down, simprocAttr, aR, eG, dD eG, cC, fW] at al ⊢); exact al
    refine ws [(0, .ai 2 ((List.set dh (Int.toNat bb) (aA.mk bR aj.Value)).map aR)), (1, .int .i64 (IntKind.i64.wrap (bR + 1))), (5, .int .i64 bb)] ?_
    obtain ⟨aF, eA, h⟩ := aT h
    refine cQ (b0 [(0, .ai 2 ((List.set (List.set dh (Int.toNat bb) (aA.mk bR aj.Value)) (Int.toNat bb) (aA.mk aF.Kind (IntKind.i64.wrap (bR + 1)))).map aR)), (1, .int .i64 (IntKind.i64.wrap (bR + 1))), (5, .int .i64 bb)] (fun P al => ?_) ?_)
    ·simp only [aX.down, simprocAttr, hS.down, eA, dD eA, cC, fW]
     (try simp only [bs.down, simprocAttr, aR, eA, dD eA, cC, fW] at al ⊢); exact al
    refine wr [(0, .ai 2 ((List.set (List.set dh (Int.toNat bb) (aA.mk bR aj.Value)) (Int.toNat bb) (aA.mk aF.Kind (IntKind.i64.wrap (bR + 1)))).map aR)), (1, .int .i64 (IntKind.i64.wrap ((IntKind.i64.wrap (bR + 1)) + 1))), (5, .int .i64 bb)] ?_
    refine c5 _ (eN _ (.inl ?_))
    refine wr [(0, .ai 2 ((List.set (List.set dh (Int.toNat bb) (aA.mk bR aj.Value)) (Int.toNat bb) (aA.mk aF.Kind (IntKind.i64.wrap (bR + 1)))).map aR)), (1, .int .i64 (IntKind.i64.wrap ((IntKind.i64.wrap (bR + 1)) + 1))), (5, .int .i64 (IntKind.i64.wrap (bb + 1)))] ?_
    exact fk _ (.inr ⟨_, cb rfl, hV (List.set (List.set dh (Int.toNat bb) (aA.mk bR aj.Value)) (Int.toNat bb) (aA.mk aF.Kind (IntKind.i64.wrap (bR + 1)))) (IntKind.i64.wrap ((IntKind.i64.wrap (bR + 1)) + 1)) (IntKind.i64.wrap (bb + 1)) h⟩)
   ·refine bB (congrArg j.bool bW) ?_
    simp only [bW, aO.down]
    refine eu (bq 0 _ (bu 0 _ (b3 _ (cT _ (.inl ?_)))))
    refine ws _ ?_
    exact a6 (aJ _ (.inl (a7 [.int .i64 bR] rfl (by cases a4 h; rfl) (by decide) (s6 (uX (by cases a4 h; rfl) rfl rfl rfl (s7 (s8)))))))
 obtain ⟨n, h⟩ := et h
 exact ev (.inr ⟨_, cb rfl, h3 n I aa 0 h⟩)
theorem JD (I : Int) (r : (List UInt8)) (h : vH I = some r) : a0 aq 47 [.int .i64 I] (.str r) [] := by
 refine a0.cF (fx := []) cI [.tmp 2] [(0, .int .i64 I)] Try.func47 rfl rfl adF (Nat.le_of_ble_eq_true rfl) rfl rfl (fun cv aJ cD => ?_)
 refine ws _ ?_
 refine aZ (fun fB cT bP aF => ?_)
 refine ws _ ?_
 rcases bk h with ⟨b3, h⟩ | ⟨b3, h⟩
 ·refine bp (congrArg j.bool b3) ?_
  simp only [b3, aO.down]
  refine ws _ ?_
  exact a6 (bP _ (aJ _ (.inl (a7 [.str ([109, 48] : List UInt8)] rfl (by cases a4 h; rfl) (by decide) a_))))
 ·refine bB (congrArg j.bool b3) ?_
  simp only [b3, aO.down]
  refine bF (cT _ (.inl ?_))
  refine ws _ ?_
  refine aZ (fun jA fZ hc cj => ?_)
  refine cd (fun hG fM gS bW b8 => ?_)
  have mv : ∀ (n : Nat) (jx : Int) (e2 : List UInt8), p7 n jx e2 = some r → eg aq IJ hG (R [(0, .int .i64 jx), (3, .str e2)]) := by
   intro h6
   induction h6 with
   | zero => intro jx e2 h; cases (show none = some r from h)
   | succ h6 l4 =>
    intro jx e2 h
    replace h : vG (p7 h6) jx e2 = some r := h
    refine ew (fun ht eN eJ cL => ?_)
    refine aZ (fun f_ c5 dR dE => ?_)
    refine ws _ ?_
    rcases bk h with ⟨c2, h⟩ | ⟨c2, h⟩
    ·refine bp (congrArg j.bool c2) ?_
     simp only [c2, aO.down]
     refine bF (c5 _ (.inl ?_))
     refine cd (fun oo j3 l5 gL mq => ?_)
     obtain ⟨u16, eA, h⟩ := aT h
     (try simp only [List.length_append, List.length_cons, List.length_nil, List.length_map, List.length_replicate, Nat.zero_add, Nat.add_zero, Nat.reduceAdd] at eA)
     refine cQ (b0 [(0, .int .i64 jx), (3, .str ([(ov (IntKind.i64.wrap (48 + (Int.tmod jx 10))))] ++ e2))] (fun P al => ?_) ?_)
     ·simp only [aX.down, simprocAttr, PX, PY, jS, @GH .i64 10 (by decide), @GA aq 3 5 .u8 rfl rfl, (show ∀ s, cE aq s 62 1 [(0, .int .u8 (IntKind.u8.wrap (IntKind.i64.wrap (48 + (Int.tmod jx 10)))))] = some (.ai 1 [.int .u8 (IntKind.u8.wrap (IntKind.i64.wrap (48 + (Int.tmod jx 10))))], s) from fun s => by kernel_rfl), (@GC aq 62 9 5 rfl rfl rfl).2.2, GG, GD, eA, xC, xD]
      (try simp only [bs.down, simprocAttr, jS, @GH .i64 10 (by decide), @GA aq 3 5 .u8 rfl rfl, (show ∀ s, cE aq s 62 1 [(0, .int .u8 (IntKind.u8.wrap (IntKind.i64.wrap (48 + (Int.tmod jx 10)))))] = some (.ai 1 [.int .u8 (IntKind.u8.wrap (IntKind.i64.wrap (48 + (Int.tmod jx 10))))], s) from fun s => by kernel_rfl), (@GC aq 62 9 5 rfl rfl rfl).2.2, GG, GD, eA, xC, xD] at al ⊢); exact al
     refine vR (@OU .i64 10 (by decide)) [(0, .int .i64 (IntKind.i64.wrap (Int.tdiv jx 10))), (3, .str ([(ov (IntKind.i64.wrap (48 + (Int.tmod jx 10))))] ++ e2))] ?_
     exact j3 _ (eN _ (.inr ⟨_, cb rfl, l4 (IntKind.i64.wrap (Int.tdiv jx 10)) ([(ov (IntKind.i64.wrap (48 + (Int.tmod jx 10))))] ++ e2) h⟩))
    ·refine bB (congrArg j.bool c2) ?_
     simp only [c2, aO.down]
     refine eu (dE 0 _ (cL 0 _ (bW _ (fZ _ (.inl ?_)))))
     obtain ⟨zm, gO, h⟩ := aT h
     (try simp only [List.length_append, List.length_cons, List.length_nil, List.length_map, List.length_replicate, Nat.zero_add, Nat.add_zero, Nat.reduceAdd] at gO)
     refine cQ (b0 [(2, .str (([109] : List UInt8) ++ e2))] (fun P al => ?_) ?_)
     ·simp only [aX.down, simprocAttr, gO, xC, xD]
      (try simp only [bs.down, simprocAttr, gO, xC, xD] at al ⊢); exact al
     exact a6 (aJ _ (.inl (a7 [.str (([109] : List UInt8) ++ e2)] rfl (by cases a4 h; rfl) (by decide) a_)))
  obtain ⟨n, h⟩ := et h
  exact ev (.inr ⟨_, cb rfl, mv n I ([] : List UInt8) h⟩)
theorem JE (I : List (List aA)) (aa : Int) (r : Int × (List (List aA))) (h : vI I aa = some r) : a0 aq 110 [.ai 1 (I.map bl), .int .i64 aa] (.int .i64 r.1) [.ai 1 (r.2.map bl), .hole] := by
 refine a0.cF (fx := [0]) cI [.tmp 4] [(0, .ai 1 (I.map bl)), (1, .int .i64 aa)] Try.func110 rfl rfl adN (Nat.le_of_ble_eq_true rfl) rfl rfl (fun cv aJ cD => ?_)
 refine ws _ ?_
 refine aZ (fun fB cT bP aF => ?_)
 refine ws _ ?_
 refine cd (fun fH fu cZ b3 bn => ?_)
 have h3 : ∀ (n : Nat) (dh : List (List aA)) (bR : Int) (bb : Int), rD n dh bR bb = some r → eg aq IK fH (R [(0, .ai 1 (dh.map bl)), (1, .int .i64 bR), (5, .int .i64 bb)]) := by
  intro dK
  induction dK with
  | zero => intro dh bR bb h; cases (show none = some r from h)
  | succ dK hV =>
   intro dh bR bb h
   replace h : y1 (rD dK) dh bR bb = some r := h
   refine ew (fun gD fk el bu => ?_)
   refine aZ (fun fj dO eR bq => ?_)
   refine ws _ ?_
   rcases bk h with ⟨bW, h⟩ | ⟨bW, h⟩
   ·refine bp (congrArg j.bool bW) ?_
    simp only [bW, aO.down]
    refine bF (dO _ (.inl ?_))
    refine aZ (fun ht eN eJ cL => ?_)
    refine cd (fun f_ c5 dR c7 dE => ?_)
    obtain ⟨aj, eG, h⟩ := aT h
    obtain ⟨aF, eP, h⟩ := aT h
    refine hs (b0 [(0, .ai 1 ((List.set dh (Int.toNat bb) aF.2).map bl)), (1, .int .i64 aF.1), (5, .int .i64 bb)] (fun P al => ?_) ?_)
    ·simp only [aX.down, simprocAttr, vS.down, eG, dD eG]
     refine oP [⟨.h 0 [Int.toNat bb], true, _, _⟩, ⟨.int .i64 bR, false, _, .hole⟩] (JC aj bR _ eP) rfl rfl rfl (by simp only [aX.down, simprocAttr, vS.down, eG, dD eG, mT, lS, eZ, e0, e1, dy, or_true, true_or, @bx _ aR aR (fun _ => k1 _)]) rfl rfl (.inl rfl) ?_
     simp only [aX.down, simprocAttr, vS.down, eG, dD eG, mU, (uY (dD eG)), uZ]
     (try simp only [bs.down, simprocAttr, aR, bl, eG, dD eG] at al ⊢); exact al
    refine c5 _ (eN _ (.inl ?_))
    refine wr [(0, .ai 1 ((List.set dh (Int.toNat bb) aF.2).map bl)), (1, .int .i64 aF.1), (5, .int .i64 (IntKind.i64.wrap (bb + 1)))] ?_
    exact fk _ (.inr ⟨_, cb rfl, hV (List.set dh (Int.toNat bb) aF.2) aF.1 (IntKind.i64.wrap (bb + 1)) h⟩)
   ·refine bB (congrArg j.bool bW) ?_
    simp only [bW, aO.down]
    refine eu (bq 0 _ (bu 0 _ (b3 _ (cT _ (.inl ?_)))))
    refine ws _ ?_
    exact a6 (aJ _ (.inl (a7 [.int .i64 bR] rfl (by cases a4 h; rfl) (by decide) (s6 (uX (by cases a4 h; rfl) rfl rfl rfl (s7 (s8)))))))
 obtain ⟨n, h⟩ := et h
 exact ev (.inr ⟨_, cb rfl, h3 n I aa 0 h⟩)
theorem ahz (I : List aY) (aa : Int) (r : Int × (List aY)) (h : y3 I aa = some r) : a0 aq 77 [.ai 5 (I.map br), .int .i64 aa] (.int .i64 r.1) [.ai 5 (r.2.map br), .hole] := by
 refine a0.cF (fx := [0]) cI [.tmp 4] [(0, .ai 5 (I.map br)), (1, .int .i64 aa)] Try.func77 rfl rfl nF (Nat.le_of_ble_eq_true rfl) rfl rfl (fun cv aJ cD => ?_)
 refine ws _ ?_
 refine aZ (fun fB cT bP aF => ?_)
 refine ws _ ?_
 refine cd (fun fH fu cZ b3 bn => ?_)
 have h3 : ∀ (n : Nat) (dh : List aY) (bR : Int) (bb : Int), rE n dh bR bb = some r → eg aq IL fH (R [(0, .ai 5 (dh.map br)), (1, .int .i64 bR), (5, .int .i64 bb)]) := by
  intro dK
  induction dK with
  | zero => intro dh bR bb h; cases (show none = some r from h)
  | succ dK hV =>
   intro dh bR bb h
   replace h : y2 (rE dK) dh bR bb = some r := h
   refine ew (fun gD fk el bu => ?_)
   refine aZ (fun fj dO eR bq => ?_)
   refine ws _ ?_
   rcases bk h with ⟨bW, h⟩ | ⟨bW, h⟩
   ·refine bp (congrArg j.bool bW) ?_
    simp only [bW, aO.down]
    refine bF (dO _ (.inl ?_))
    refine aZ (fun ht eN eJ cL => ?_)
    refine cd (fun f_ c5 dR c7 dE => ?_)
    obtain ⟨aj, eG, h⟩ := aT h
    obtain ⟨aF, eP, h⟩ := aT h
    refine cQ (b0 [(0, .ai 5 ((List.set dh (Int.toNat bb) (aY.mk aF.2 aj.Guard aj.Name aj.bH aj.Next)).map br)), (1, .int .i64 aF.1), (5, .int .i64 bb)] (fun P al => ?_) ?_)
    ·simp only [aX.down, simprocAttr, lC.down, eG, dD eG]
     refine oP [⟨.h 0 [Int.toNat bb, 0], true, _, _⟩, ⟨.int .i64 bR, false, _, .hole⟩] (JB aj.bo bR _ eP) rfl rfl rfl (by simp only [aX.down, simprocAttr, lC.down, eG, dD eG, mT, lS, eZ, e0, e1, dy, or_true, true_or, @bx _ aD aD (fun _ => dX _)]) rfl rfl (.inl rfl) ?_
     simp only [aX.down, simprocAttr, lC.down, eG, dD eG, mU, (uY (dD eG)), uZ]
     (try simp only [bs.down, simprocAttr, m1.down, eG, dD eG] at al ⊢); exact al
    obtain ⟨aW, eA, h⟩ := aT h
    obtain ⟨bn, dw, h⟩ := aT h
    refine cQ (b0 [(0, .ai 5 ((List.set (List.set dh (Int.toNat bb) (aY.mk aF.2 aj.Guard aj.Name aj.bH aj.Next)) (Int.toNat bb) (aY.mk aW.bo bn.2 aW.Name aW.bH aW.Next)).map br)), (1, .int .i64 bn.1), (5, .int .i64 bb)] (fun P al => ?_) ?_)
    ·simp only [aX.down, simprocAttr, lC.down, eA, dD eA]
     refine oP [⟨.h 0 [Int.toNat bb, 1], true, _, _⟩, ⟨.int .i64 aF.1, false, _, .hole⟩] (JC aW.Guard aF.1 _ dw) rfl rfl rfl (by simp only [aX.down, simprocAttr, lC.down, eA, dD eA, mT, lS, eZ, e0, e1, dy, or_true, true_or, @bx _ aR aR (fun _ => k1 _)]) rfl rfl (.inl rfl) ?_
     simp only [aX.down, simprocAttr, lC.down, eA, dD eA, mU, (uY (dD eA)), uZ]
     (try simp only [bs.down, simprocAttr, m1.down, eA, dD eA] at al ⊢); exact al
    obtain ⟨bu, gO, h⟩ := aT h
    obtain ⟨bq, jB, h⟩ := aT h
    refine cQ (b0 [(0, .ai 5 ((List.set (List.set (List.set dh (Int.toNat bb) (aY.mk aF.2 aj.Guard aj.Name aj.bH aj.Next)) (Int.toNat bb) (aY.mk aW.bo bn.2 aW.Name aW.bH aW.Next)) (Int.toNat bb) (aY.mk bq.bo bq.Guard bu bq.bH bq.Next)).map br)), (1, .int .i64 bn.1), (5, .int .i64 bb)] (fun P al => ?_) ?_)
    ·simp only [aX.down, simprocAttr, lC.down, jB, dD jB, cC, fW]
     refine ey (JD bn.1 _ gO) rfl rfl rfl rfl (.inl (by rfl)) ?_
     simp only [aX.down, simprocAttr, lC.down, jB, dD jB, cC, fW]
     (try simp only [bs.down, simprocAttr, m1.down, jB, dD jB, cC, fW] at al ⊢); exact al
    refine ws [(0, .ai 5 ((List.set (List.set (List.set dh (Int.toNat bb) (aY.mk aF.2 aj.Guard aj.Name aj.bH aj.Next)) (Int.toNat bb) (aY.mk aW.bo bn.2 aW.Name aW.bH aW.Next)) (Int.toNat bb) (aY.mk bq.bo bq.Guard bu bq.bH bq.Next)).map br)), (1, .int .i64 (IntKind.i64.wrap (bn.1 + 1))), (5, .int .i64 bb)] ?_
    obtain ⟨cj, il, h⟩ := aT h
    obtain ⟨b8, m5, h⟩ := aT h
    refine cQ (b0 [(0, .ai 5 ((List.set (List.set (List.set (List.set dh (Int.toNat bb) (aY.mk aF.2 aj.Guard aj.Name aj.bH aj.Next)) (Int.toNat bb) (aY.mk aW.bo bn.2 aW.Name aW.bH aW.Next)) (Int.toNat bb) (aY.mk bq.bo bq.Guard bu bq.bH bq.Next)) (Int.toNat bb) (aY.mk cj.bo cj.Guard cj.Name b8.2 cj.Next)).map br)), (1, .int .i64 b8.1), (5, .int .i64 bb)] (fun P al => ?_) ?_)
    ·simp only [aX.down, simprocAttr, lC.down, il, dD il]
     refine oP [⟨.h 0 [Int.toNat bb, 3], true, _, _⟩, ⟨.int .i64 (IntKind.i64.wrap (bn.1 + 1)), false, _, .hole⟩] (JE cj.bH (IntKind.i64.wrap (bn.1 + 1)) _ m5) rfl rfl rfl (by simp only [aX.down, simprocAttr, lC.down, il, dD il, mT, lS, eZ, e0, e1, dy, or_true, true_or, @bx _ bl bC (fun _ => oj _)]) rfl rfl (.inl rfl) ?_
     simp only [aX.down, simprocAttr, lC.down, il, dD il, mU, (uY (dD il)), uZ]
     (try simp only [bs.down, simprocAttr, m1.down, il, dD il] at al ⊢); exact al
    obtain ⟨cL, k4, h⟩ := aT h
    obtain ⟨dE, vV, h⟩ := aT h
    refine hs (b0 [(0, .ai 5 ((List.set (List.set (List.set (List.set (List.set dh (Int.toNat bb) (aY.mk aF.2 aj.Guard aj.Name aj.bH aj.Next)) (Int.toNat bb) (aY.mk aW.bo bn.2 aW.Name aW.bH aW.Next)) (Int.toNat bb) (aY.mk bq.bo bq.Guard bu bq.bH bq.Next)) (Int.toNat bb) (aY.mk cj.bo cj.Guard cj.Name b8.2 cj.Next)) (Int.toNat bb) (aY.mk cL.bo cL.Guard cL.Name cL.bH dE.2)).map br)), (1, .int .i64 dE.1), (5, .int .i64 bb)] (fun P al => ?_) ?_)
    ·simp only [aX.down, simprocAttr, lC.down, k4, dD k4]
     refine oP [⟨.h 0 [Int.toNat bb, 4], true, _, _⟩, ⟨.int .i64 b8.1, false, _, .hole⟩] (JE cL.Next b8.1 _ vV) rfl rfl rfl (by simp only [aX.down, simprocAttr, lC.down, k4, dD k4, mT, lS, eZ, e0, e1, dy, or_true, true_or, @bx _ bl bC (fun _ => oj _)]) rfl rfl (.inl rfl) ?_
     simp only [aX.down, simprocAttr, lC.down, k4, dD k4, mU, (uY (dD k4)), uZ]
     (try simp only [bs.down, simprocAttr, m1.down, k4, dD k4] at al ⊢); exact al
    refine c5 _ (eN _ (.inl ?_))
    refine wr [(0, .ai 5 ((List.set (List.set (List.set (List.set (List.set dh (Int.toNat bb) (aY.mk aF.2 aj.Guard aj.Name aj.bH aj.Next)) (Int.toNat bb) (aY.mk aW.bo bn.2 aW.Name aW.bH aW.Next)) (Int.toNat bb) (aY.mk bq.bo bq.Guard bu bq.bH bq.Next)) (Int.toNat bb) (aY.mk cj.bo cj.Guard cj.Name b8.2 cj.Next)) (Int.toNat bb) (aY.mk cL.bo cL.Guard cL.Name cL.bH dE.2)).map br)), (1, .int .i64 dE.1), (5, .int .i64 (IntKind.i64.wrap (bb + 1)))] ?_
    exact fk _ (.inr ⟨_, cb rfl, hV (List.set (List.set (List.set (List.set (List.set dh (Int.toNat bb) (aY.mk aF.2 aj.Guard aj.Name aj.bH aj.Next)) (Int.toNat bb) (aY.mk aW.bo bn.2 aW.Name aW.bH aW.Next)) (Int.toNat bb) (aY.mk bq.bo bq.Guard bu bq.bH bq.Next)) (Int.toNat bb) (aY.mk cj.bo cj.Guard cj.Name b8.2 cj.Next)) (Int.toNat bb) (aY.mk cL.bo cL.Guard cL.Name cL.bH dE.2)) dE.1 (IntKind.i64.wrap (bb + 1)) h⟩)
   ·refine bB (congrArg j.bool bW) ?_
    simp only [bW, aO.down]
    refine eu (bq 0 _ (bu 0 _ (b3 _ (cT _ (.inl ?_)))))
    refine ws _ ?_
    exact a6 (aJ _ (.inl (a7 [.int .i64 bR] rfl (by cases a4 h; rfl) (by decide) (s6 (uX (by cases a4 h; rfl) rfl rfl rfl (s7 (s8)))))))
 obtain ⟨n, h⟩ := et h
 exact ev (.inr ⟨_, cb rfl, h3 n I aa 0 h⟩)
theorem Db (p8 : Int) (rF : List Int) (p9 : List aY) (aa : Int) (r : Int × Int × (List Int) × (List aY)) (h : tu p8 rF p9 aa = some r) : a0 aq 30 [.agg [.int .i64 p8, .ai 1 (rF.map aD), .ai 5 (p9.map br)], .int .i64 aa] (.int .i64 r.1) [.agg [.int .i64 r.2.1, .ai 1 (r.2.2.1.map aD), .ai 5 (r.2.2.2.map br)], .hole] := by
 refine a0.cF (fx := [0]) cI [.tmp 4] [(0, .agg [.int .i64 p8, .ai 1 (rF.map aD), .ai 5 (p9.map br)]), (1, .int .i64 aa)] Try.func30 rfl rfl ad4 (Nat.le_of_ble_eq_true rfl) rfl rfl (fun cv aJ cD => ?_)
 refine cQ (b0 [(0, .agg [.int .i64 p8, .ai 1 (rF.map aD), .ai 5 (p9.map br)]), (1, .int .i64 aa), (2, .U 0 0)] (fun P al => ?_) ?_)
 ·simp only [aX.down, simprocAttr, m2.down, lr, ny, j.d_, nx]
  (try simp only [bs.down, simprocAttr, m1.down, lr, ny, j.d_, nx] at al ⊢); exact al
 obtain ⟨aj, bf, h⟩ := aT h
 refine cQ (b0 [(0, .agg [.int .i64 p8, .ai 1 (aj.2.map aD), .ai 5 (p9.map br)]), (1, .int .i64 aj.1), (2, .U 0 0)] (fun P al => ?_) ?_)
 ·simp only [aX.down, simprocAttr, m2.down, lr, ny, j.d_, nx]
  refine O7 [⟨.h 0 [1], true, _, _⟩, ⟨.int .i64 aa, false, _, .hole⟩] (JB rF aa _ bf) rfl rfl rfl (by simp only [aX.down, simprocAttr, m2.down, lr, ny, j.d_, nx, pK, mT, lS, eZ, e0, e1, dy, or_true, true_or, @bx _ aD aD (fun _ => dX _)]) rfl rfl (.inl rfl) (by simp only [aX.down, simprocAttr, m2.down, lr, ny, j.d_, nx, G0, lS, BG, Bool.and_self, Bool.not_false, Bool.and_true]) ?_
  simp only [aX.down, simprocAttr, m2.down, lr, ny, j.d_, nx, mU, G0, lS, eq_self, Bool.and_self]
  (try simp only [bs.down, simprocAttr, m1.down, lr, ny, j.d_, nx] at al ⊢); exact al
 obtain ⟨aF, c3, h⟩ := aT h
 refine cQ (b0 [(0, .agg [.int .i64 p8, .ai 1 (aj.2.map aD), .ai 5 (aF.2.map br)]), (1, .int .i64 aF.1)] (fun P al => ?_) ?_)
 ·simp only [aX.down, simprocAttr, m2.down, lr, ny, j.d_, nx]
  refine oP [⟨.h 0 [2], true, _, _⟩, ⟨.int .i64 aj.1, false, _, .hole⟩] (ahz p9 aj.1 _ c3) rfl rfl rfl (by simp only [aX.down, simprocAttr, m2.down, lr, ny, j.d_, nx, pK, mT, lS, eZ, e0, e1, dy, or_true, true_or, @bx _ br bm (fun _ => gu _)]) rfl rfl (.inl rfl) ?_
  simp only [aX.down, simprocAttr, m2.down, lr, ny, j.d_, nx, mU]
  (try simp only [bs.down, simprocAttr, m1.down, lr, ny, j.d_, nx] at al ⊢); exact al
 refine ws _ ?_
 exact a6 (aJ _ (.inl (a7 [.int .i64 aF.1] rfl (by cases a4 h; rfl) (by decide) (s6 (uX (by cases a4 h; rfl) rfl rfl rfl (s7 (s8)))))))
theorem JF (I : List Int) (aa : Int) (r : Int) (h : vJ I aa = some r) : a0 aq 38 [.slice (I.map aD), .int .i64 aa] (.int .i64 r) [] := by
 refine a0.cF (fx := [0]) cI [.tmp 4] [(0, .slice (I.map aD)), (1, .int .i64 aa)] Try.func38 rfl rfl aee (Nat.le_of_ble_eq_true rfl) rfl rfl (fun cv aJ cD => ?_)
 refine ws _ ?_
 refine aZ (fun fB cT bP aF => ?_)
 refine ws _ ?_
 refine cd (fun fH fu cZ b3 bn => ?_)
 have h3 : ∀ (n : Nat) (bR : Int) (bb : Int), rG I n bR bb = some r → eg aq IM fH (R [(0, .slice (I.map aD)), (1, .int .i64 bR), (5, .int .i64 bb)]) := by
  intro dK
  induction dK with
  | zero => intro bR bb h; cases (show none = some r from h)
  | succ dK hV =>
   intro bR bb h
   replace h : y4 (rG I dK) I bR bb = some r := h
   refine ew (fun gD fk el bu => ?_)
   refine aZ (fun fj dO eR bq => ?_)
   refine ws _ ?_
   rcases bk h with ⟨bW, h⟩ | ⟨bW, h⟩
   ·refine bp (congrArg j.bool bW) ?_
    simp only [bW, aO.down]
    refine bF (dO _ (.inl ?_))
    refine aZ (fun ht eN eJ cL => ?_)
    refine cd (fun f_ c5 dR c7 dE => ?_)
    refine aZ (fun iB eW hU gh => ?_)
    obtain ⟨aj, eP, h⟩ := aT h
    refine fG eP _ ?_
    rcases bk h with ⟨dY, h⟩ | ⟨dY, h⟩
    ·refine bp (congrArg j.bool dY) ?_
     simp only [dY, aO.down]
     refine ws _ ?_
     exact a6 (hU _ (dR _ (eJ _ (el _ (cZ _ (bP _ (aJ _ (.inl (a7 [.int .i64 (-1)] rfl (by cases a4 h; rfl) (by decide) a_)))))))))
    ·refine bB (congrArg j.bool dY) ?_
     simp only [dY, aO.down]
     refine bF (eW _ (.inl ?_))
     refine wr _ ?_
     refine c5 _ (eN _ (.inl ?_))
     refine wr _ ?_
     exact fk _ (.inr ⟨_, cb rfl, hV (IntKind.i64.wrap (bR + 1)) (IntKind.i64.wrap (bb + 1)) h⟩)
   ·refine bB (congrArg j.bool bW) ?_
    simp only [bW, aO.down]
    refine eu (bq 0 _ (bu 0 _ (b3 _ (cT _ (.inl ?_)))))
    refine ws _ ?_
    exact a6 (aJ _ (.inl (a7 [.int .i64 bR] rfl (by cases a4 h; rfl) (by decide) a_)))
 obtain ⟨n, h⟩ := et h
 exact ev (.inr ⟨_, cb rfl, h3 n aa 0 h⟩)
theorem JG (I : List aA) (aa : Int) (r : Int) (h : vK I aa = some r) : a0 aq 111 [.slice (I.map aR), .int .i64 aa] (.int .i64 r) [] := by
 refine a0.cF (fx := [0]) cI [.tmp 4] [(0, .slice (I.map aR)), (1, .int .i64 aa)] Try.func111 rfl rfl aet (Nat.le_of_ble_eq_true rfl) rfl rfl (fun cv aJ cD => ?_)
 refine ws _ ?_
 refine aZ (fun fB cT bP aF => ?_)
 refine ws _ ?_
 refine cd (fun fH fu cZ b3 bn => ?_)
 have h3 : ∀ (n : Nat) (bR : Int) (bb : Int), rH I n bR bb = some r → eg aq IP fH (R [(0, .slice (I.map aR)), (1, .int .i64 bR), (5, .int .i64 bb)]) := by
  intro dK
  induction dK with
  | zero => intro bR bb h; cases (show none = some r from h)
  | succ dK hV =>
   intro bR bb h
   replace h : y5 (rH I dK) I bR bb = some r := h
   refine ew (fun gD fk el bu => ?_)
   refine aZ (fun fj dO eR bq => ?_)
   refine ws _ ?_
   rcases bk h with ⟨bW, h⟩ | ⟨bW, h⟩
   ·refine bp (congrArg j.bool bW) ?_
    simp only [bW, aO.down]
    refine bF (dO _ (.inl ?_))
    refine aZ (fun ht eN eJ cL => ?_)
    refine cd (fun f_ c5 dR c7 dE => ?_)
    refine aZ (fun iB eW hU gh => ?_)
    obtain ⟨aj, eP, h⟩ := aT h
    refine fG eP _ ?_
    rcases bk h with ⟨dY, h⟩ | ⟨dY, h⟩
    ·refine bp (congrArg j.bool dY) ?_
     simp only [dY, aO.down]
     refine ws _ ?_
     exact a6 (hU _ (dR _ (eJ _ (el _ (cZ _ (bP _ (aJ _ (.inl (a7 [.int .i64 (-1)] rfl (by cases a4 h; rfl) (by decide) a_)))))))))
    ·refine bB (congrArg j.bool dY) ?_
     simp only [dY, aO.down]
     refine bF (eW _ (.inl ?_))
     refine ws _ ?_
     refine aZ (fun agH C1 zw gB => ?_)
     refine fG eP _ ?_
     rcases bk h with ⟨gv, h⟩ | ⟨gv, h⟩
     ·refine bp (congrArg j.bool gv) ?_
      simp only [gv, aO.down]
      refine ws _ ?_
      exact a6 (zw _ (dR _ (eJ _ (el _ (cZ _ (bP _ (aJ _ (.inl (a7 [.int .i64 (-1)] rfl (by cases a4 h; rfl) (by decide) a_)))))))))
     ·refine bB (congrArg j.bool gv) ?_
      simp only [gv, aO.down]
      refine bF (C1 _ (.inl ?_))
      refine wr _ ?_
      refine c5 _ (eN _ (.inl ?_))
      refine wr _ ?_
      exact fk _ (.inr ⟨_, cb rfl, hV (IntKind.i64.wrap ((IntKind.i64.wrap (bR + 1)) + 1)) (IntKind.i64.wrap (bb + 1)) h⟩)
   ·refine bB (congrArg j.bool bW) ?_
    simp only [bW, aO.down]
    refine eu (bq 0 _ (bu 0 _ (b3 _ (cT _ (.inl ?_)))))
    refine ws _ ?_
    exact a6 (aJ _ (.inl (a7 [.int .i64 bR] rfl (by cases a4 h; rfl) (by decide) a_)))
 obtain ⟨n, h⟩ := et h
 exact ev (.inr ⟨_, cb rfl, h3 n aa 0 h⟩)
theorem JH (I : List (List aA)) (aa : Int) (r : Int) (h : vL I aa = some r) : a0 aq 112 [.slice (I.map bC), .int .i64 aa] (.int .i64 r) [] := by
 refine a0.cF (fx := [0]) cI [.tmp 4] [(0, .slice (I.map bC)), (1, .int .i64 aa)] Try.func112 rfl rfl aeE (Nat.le_of_ble_eq_true rfl) rfl rfl (fun cv aJ cD => ?_)
 refine ws _ ?_
 refine aZ (fun fB cT bP aF => ?_)
 refine ws _ ?_
 refine cd (fun fH fu cZ b3 bn => ?_)
 have h3 : ∀ (n : Nat) (bR : Int) (bb : Int), rI I n bR bb = some r → eg aq IQ fH (R [(0, .slice (I.map bC)), (1, .int .i64 bR), (5, .int .i64 bb)]) := by
  intro dK
  induction dK with
  | zero => intro bR bb h; cases (show none = some r from h)
  | succ dK hV =>
   intro bR bb h
   replace h : y6 (rI I dK) I bR bb = some r := h
   refine ew (fun gD fk el bu => ?_)
   refine aZ (fun fj dO eR bq => ?_)
   refine ws _ ?_
   rcases bk h with ⟨bW, h⟩ | ⟨bW, h⟩
   ·refine bp (congrArg j.bool bW) ?_
    simp only [bW, aO.down]
    refine bF (dO _ (.inl ?_))
    refine aZ (fun ht eN eJ cL => ?_)
    refine cd (fun f_ c5 dR c7 dE => ?_)
    obtain ⟨aj, eG, h⟩ := aT h
    obtain ⟨aF, eP, h⟩ := aT h
    refine j1 eG (JG aj bR _ eP) _ ?_
    refine ws _ ?_
    rcases bk h with ⟨fS, h⟩ | ⟨fS, h⟩
    ·refine bp (congrArg j.bool fS) ?_
     simp only [fS, aO.down]
     refine ws _ ?_
     exact a6 (dR _ (eJ _ (el _ (cZ _ (bP _ (aJ _ (.inl (a7 [.int .i64 (-1)] rfl (by cases a4 h; rfl) (by decide) a_))))))))
    ·refine bB (congrArg j.bool fS) ?_
     simp only [fS, aO.down]
     refine bF (c5 _ (eN _ (.inl ?_)))
     refine wr _ ?_
     exact fk _ (.inr ⟨_, cb rfl, hV aF (IntKind.i64.wrap (bb + 1)) h⟩)
   ·refine bB (congrArg j.bool bW) ?_
    simp only [bW, aO.down]
    refine eu (bq 0 _ (bu 0 _ (b3 _ (cT _ (.inl ?_)))))
    refine ws _ ?_
    exact a6 (aJ _ (.inl (a7 [.int .i64 bR] rfl (by cases a4 h; rfl) (by decide) a_)))
 obtain ⟨n, h⟩ := et h
 exact ev (.inr ⟨_, cb rfl, h3 n aa 0 h⟩)
theorem ahA (I : List aY) (aa : Int) (r : Int) (h : y8 I aa = some r) : a0 aq 78 [.slice (I.map bm), .int .i64 aa] (.int .i64 r) [] := by
 refine a0.cF (fx := [0]) cI [.tmp 4] [(0, .slice (I.map bm)), (1, .int .i64 aa)] Try.func78 rfl rfl ae5 (Nat.le_of_ble_eq_true rfl) rfl rfl (fun cv aJ cD => ?_)
 refine ws _ ?_
 refine aZ (fun fB cT bP aF => ?_)
 refine ws _ ?_
 refine cd (fun fH fu cZ b3 bn => ?_)
 have h3 : ∀ (n : Nat) (bR : Int) (bb : Int), rJ I n bR bb = some r → eg aq IU fH (R [(0, .slice (I.map bm)), (1, .int .i64 bR), (5, .int .i64 bb)]) := by
  intro dK
  induction dK with
  | zero => intro bR bb h; cases (show none = some r from h)
  | succ dK hV =>
   intro bR bb h
   replace h : y7 (rJ I dK) I bR bb = some r := h
   refine ew (fun gD fk el bu => ?_)
   refine aZ (fun fj dO eR bq => ?_)
   refine ws _ ?_
   rcases bk h with ⟨bW, h⟩ | ⟨bW, h⟩
   ·refine bp (congrArg j.bool bW) ?_
    simp only [bW, aO.down]
    refine bF (dO _ (.inl ?_))
    refine aZ (fun ht eN eJ cL => ?_)
    refine cd (fun f_ c5 dR c7 dE => ?_)
    obtain ⟨aj, eG, h⟩ := aT h
    obtain ⟨aF, eP, h⟩ := aT h
    refine j1 eG (JF aj.bo bR _ eP) _ ?_
    refine aZ (fun k3 hh gM jj => ?_)
    refine ws _ ?_
    rcases bk h with ⟨iS, h⟩ | ⟨iS, h⟩
    ·refine bp (congrArg j.bool iS) ?_
     simp only [iS, aO.down]
     refine ws _ ?_
     exact a6 (gM _ (dR _ (eJ _ (el _ (cZ _ (bP _ (aJ _ (.inl (a7 [.int .i64 (-1)] rfl (by cases a4 h; rfl) (by decide) a_)))))))))
    ·refine bB (congrArg j.bool iS) ?_
     simp only [iS, aO.down]
     refine bF (hh _ (.inl ?_))
     obtain ⟨aW, jB, h⟩ := aT h
     refine j1 eG (JG aj.Guard aF _ jB) _ ?_
     refine aZ (fun I4 tz zn rK => ?_)
     refine ws _ ?_
     rcases bk h with ⟨jP, h⟩ | ⟨jP, h⟩
     ·refine bp (congrArg j.bool jP) ?_
      simp only [jP, aO.down]
      refine ws _ ?_
      exact a6 (zn _ (dR _ (eJ _ (el _ (cZ _ (bP _ (aJ _ (.inl (a7 [.int .i64 (-1)] rfl (by cases a4 h; rfl) (by decide) a_)))))))))
     ·refine bB (congrArg j.bool jP) ?_
      simp only [jP, aO.down]
      refine bF (tz _ (.inl ?_))
      refine aZ (fun rO lF o3 m4 => ?_)
      obtain ⟨bn, vV, h⟩ := aT h
      refine jb rfl (ik [(0, .slice (I.map bm)), (1, .int .i64 aW), (5, .int .i64 bb), (37, .bool (!(aj.Name == bn)))] (fun P al => ?_) ?_)
      ·simp only [cP.down, simprocAttr, zk.down, eG]
       refine e7 (JD aW _ vV) rfl rfl rfl rfl (.inl (by rfl)) ?_
       simp only [cP.down, simprocAttr, zk.down, eG]
       refine ⟨hd (by kernel_rfl), ?_⟩
       (try simp only [bs.down, simprocAttr, kh.down, eG] at al ⊢); exact al
      rcases bk h with ⟨hv, h⟩ | ⟨hv, h⟩
      ·refine bp (congrArg j.bool hv) ?_
       simp only [hv, aO.down]
       refine ws _ ?_
       exact a6 (o3 _ (dR _ (eJ _ (el _ (cZ _ (bP _ (aJ _ (.inl (a7 [.int .i64 (-1)] rfl (by cases a4 h; rfl) (by decide) a_)))))))))
      ·refine bB (congrArg j.bool hv) ?_
       simp only [hv, aO.down]
       refine bF (lF _ (.inl ?_))
       refine ws _ ?_
       obtain ⟨bu, iT, h⟩ := aT h
       refine j1 eG (JH aj.bH (IntKind.i64.wrap (aW + 1)) _ iT) _ ?_
       refine aZ (fun agt CX Jb agu => ?_)
       refine ws _ ?_
       rcases bk h with ⟨wt, h⟩ | ⟨wt, h⟩
       ·refine bp (congrArg j.bool wt) ?_
        simp only [wt, aO.down]
        refine ws _ ?_
        exact a6 (Jb _ (dR _ (eJ _ (el _ (cZ _ (bP _ (aJ _ (.inl (a7 [.int .i64 (-1)] rfl (by cases a4 h; rfl) (by decide) a_)))))))))
       ·refine bB (congrArg j.bool wt) ?_
        simp only [wt, aO.down]
        refine bF (CX _ (.inl ?_))
        obtain ⟨bq, rS, h⟩ := aT h
        refine j1 eG (JH aj.Next bu _ rS) _ ?_
        refine ws _ ?_
        rcases bk h with ⟨wu, h⟩ | ⟨wu, h⟩
        ·refine bp (congrArg j.bool wu) ?_
         simp only [wu, aO.down]
         refine ws _ ?_
         exact a6 (dR _ (eJ _ (el _ (cZ _ (bP _ (aJ _ (.inl (a7 [.int .i64 (-1)] rfl (by cases a4 h; rfl) (by decide) a_))))))))
        ·refine bB (congrArg j.bool wu) ?_
         simp only [wu, aO.down]
         refine bF (c5 _ (eN _ (.inl ?_)))
         refine wr _ ?_
         exact fk _ (.inr ⟨_, cb rfl, hV bq (IntKind.i64.wrap (bb + 1)) h⟩)
   ·refine bB (congrArg j.bool bW) ?_
    simp only [bW, aO.down]
    refine eu (bq 0 _ (bu 0 _ (b3 _ (cT _ (.inl ?_)))))
    refine ws _ ?_
    exact a6 (aJ _ (.inl (a7 [.int .i64 bR] rfl (by cases a4 h; rfl) (by decide) a_)))
 obtain ⟨n, h⟩ := et h
 exact ev (.inr ⟨_, cb rfl, h3 n aa 0 h⟩)
theorem JI (I : bc) (aa : Int) (r : Int) (h : vM I aa = some r) : a0 aq 31 [bj I, .int .i64 aa] (.int .i64 r) [] := by
 refine a0.cF (fx := [0]) cI [.tmp 4] [(0, bj I), (1, .int .i64 aa)] Try.func31 rfl rfl aff (Nat.le_of_ble_eq_true rfl) rfl rfl (fun cv aJ cD => ?_)
 refine ws _ ?_
 obtain ⟨aj, bf, h⟩ := aT h
 refine eI (JF I.Start aa _ bf) _ ?_
 refine aZ (fun fH fu cZ bn => ?_)
 refine ws _ ?_
 rcases bk h with ⟨dB, h⟩ | ⟨dB, h⟩
 ·refine bp (congrArg j.bool dB) ?_
  simp only [dB, aO.down]
  refine ws _ ?_
  exact a6 (cZ _ (aJ _ (.inl (a7 [.int .i64 (-1)] rfl (by cases a4 h; rfl) (by decide) a_))))
 ·refine bB (congrArg j.bool dB) ?_
  simp only [dB, aO.down]
  refine bF (fu _ (.inl ?_))
  obtain ⟨aF, g7, h⟩ := aT h
  refine eI (ahA I.bG aj _ g7) _ ?_
  refine aZ (fun f_ c5 dR dE => ?_)
  refine ws _ ?_
  rcases bk h with ⟨c2, h⟩ | ⟨c2, h⟩
  ·refine bp (congrArg j.bool c2) ?_
   simp only [c2, aO.down]
   refine ws _ ?_
   exact a6 (dR _ (aJ _ (.inl (a7 [.int .i64 (-1)] rfl (by cases a4 h; rfl) (by decide) a_))))
  ·refine bB (congrArg j.bool c2) ?_
   simp only [c2, aO.down]
   refine bF (c5 _ (.inl ?_))
   refine ws _ ?_
   exact a6 (aJ _ (.inl (a7 [.int .i64 aF] rfl (by cases a4 h; rfl) (by decide) a_)))
theorem ahB (I : jf) (aa : jf) (r : Bool) (h : CE I aa = some r) : a0 aq 8 [gr I, gr aa] (.bool r) [] := by
 refine a0.cF (fx := [0, 1]) cI [.tmp 4] [(0, gr I), (1, gr aa)] Try.func8 rfl rfl jz (Nat.le_of_ble_eq_true rfl) rfl rfl (fun cv aJ cD => ?_)
 refine ws _ ?_
 refine ws _ ?_
 obtain ⟨aj, cn, h⟩ := aT h
 refine eI (IY I 1048576 _ cn) _ ?_
 refine aZ (fun gD fk el bu => ?_)
 refine ws _ ?_
 rcases bk h with ⟨jo, h⟩ | ⟨jo, h⟩
 ·refine bp (congrArg j.bool jo) ?_
  simp only [jo, aO.down]
  refine ws _ ?_
  exact a6 (el _ (aJ _ (.inl (a7 [.bool true] rfl (by cases a4 h; rfl) (by decide) a_))))
 ·refine bB (congrArg j.bool jo) ?_
  simp only [jo, aO.down]
  refine bF (fk _ (.inl ?_))
  obtain ⟨aF, jH, h⟩ := aT h
  refine eI (IY aa aj _ jH) _ ?_
  refine aZ (fun iB eW hU gh => ?_)
  refine ws _ ?_
  rcases bk h with ⟨gL, h⟩ | ⟨gL, h⟩
  ·refine bp (congrArg j.bool gL) ?_
   simp only [gL, aO.down]
   refine ws _ ?_
   exact a6 (hU _ (aJ _ (.inl (a7 [.bool true] rfl (by cases a4 h; rfl) (by decide) a_))))
  ·refine bB (congrArg j.bool gL) ?_
   simp only [gL, aO.down]
   refine bF (eW _ (.inl ?_))
   obtain ⟨aW, dw, h⟩ := aT h
   obtain ⟨bn, gN, h⟩ := aT h
   obtain ⟨bu, gO, h⟩ := aT h
   refine Hu 7 9 [0, 1, 2, 3, 4, 5, 6, 8, 9, 7, 10] rfl rfl [(2, .aG (gr I)), (3, .aG (gr aa)), (6, .aG (dC bu.1)), (7, .int .i64 bu.2)] (fun P al => ?_) (fun P al => ?_) ?_
   ·simp only [cP.down, simprocAttr, hT.down, iP]
    refine e7 (m3 I _ dw) rfl rfl rfl rfl (.inl (by rfl)) ?_
    simp only [cP.down, simprocAttr, hT.down, iP]
    refine e7 (m3 aa _ gN) rfl rfl rfl rfl (.inl (by rfl)) ?_
    simp only [cP.down, simprocAttr, hT.down, iP]
    refine e7 (Jc aW bn _ gO) rfl rfl (by simp only [cP.down, simprocAttr, hT.down, iP, eZ, e0, e1, dy, @bx _ aD aD (fun _ => dX _), @bx _ br bm (fun _ => gu _), @bx _ aD aD (fun _ => dX _), @bx _ br bm (fun _ => gu _)] <;> rfl) rfl (.inr (by simp only [j.dm, j.i1, qb, Bool.and_self])) ?_
    simp only [cP.down, simprocAttr, hT.down, iP]
    refine ⟨hd (by kernel_rfl), ?_⟩
    (try simp only [bs.down, simprocAttr, lD.down, iP] at al ⊢); exact al
   ·simp only [pU, List.map_cons, List.map_nil, List.getD_cons_zero, List.getD_cons_succ, simprocAttr]
    simp only [cP.down, simprocAttr, hT.down, iP]
    refine e7 (m3 I _ dw) rfl rfl rfl rfl (.inl (by rfl)) ?_
    simp only [cP.down, simprocAttr, hT.down, iP]
    refine e7 (m3 aa _ gN) rfl rfl rfl rfl (.inl (by rfl)) ?_
    simp only [cP.down, simprocAttr, hT.down, iP]
    refine e7 (Jc aW bn _ gO) rfl rfl (by simp only [cP.down, simprocAttr, hT.down, iP, eZ, e0, e1, dy, @bx _ aD aD (fun _ => dX _), @bx _ br bm (fun _ => gu _), @bx _ aD aD (fun _ => dX _), @bx _ br bm (fun _ => gu _)] <;> rfl) rfl (.inr (by simp only [j.dm, j.i1, qb, Bool.and_self])) ?_
    simp only [cP.down, simprocAttr, hT.down, iP]
    refine ⟨hd (by kernel_rfl), ?_⟩
    (try simp only [bs.down, simprocAttr, lD.down, iP] at al ⊢); exact al
   obtain ⟨bq, iC, h⟩ := aT h
   refine eI (m3 I _ iC) _ ?_
   obtain ⟨cj, il, h⟩ := aT h
   refine eI (m3 aa _ il) _ ?_
   obtain ⟨b8, v3, h⟩ := aT h
   refine cQ (b0 [(2, .aG (gr I)), (3, .aG (gr aa)), (6, .aG (dC bu.1)), (7, .int .i64 bu.2), (8, .aG (dC bq)), (9, .aG (dC cj)), (10, .aG (dC b8.1)), (11, .int .i64 b8.2)] (fun P al => ?_) ?_)
   ·simp only [aX.down, simprocAttr, h1.down]
    refine ey (Da bq cj _ v3) rfl rfl (by simp only [aX.down, simprocAttr, h1.down, eZ, e0, e1, dy, @bx _ aD aD (fun _ => dX _), @bx _ br bm (fun _ => gu _), @bx _ aD aD (fun _ => dX _), @bx _ br bm (fun _ => gu _)] <;> rfl) rfl (.inr (by simp only [j.dm, j.i1, qb, Bool.and_self])) ?_
    simp only [aX.down, simprocAttr, h1.down]
    (try simp only [bs.down, simprocAttr, lD.down] at al ⊢); exact al
   refine aZ (fun agI C2 zx agJ => ?_)
   obtain ⟨cL, zy, h⟩ := aT h
   refine cQ (b0 [(2, .aG (gr I)), (3, .aG (gr aa)), (6, .aG (dC bu.1)), (7, .int .i64 bu.2), (8, .aG (dC bq)), (9, .aG (dC cj)), (10, .aG (dC b8.1)), (11, .int .i64 b8.2), (53, .bool ((!cL) || (b8.2 != bu.2)))] (fun P al => ?_) ?_)
   ·rcases Bool.eq_false_or_eq_true (cL) with o6 | o6
    ·simp only [aX.down, simprocAttr, h1.down, o6]
     refine ey (qi b8.1 bu.1 _ zy) rfl rfl (by simp only [aX.down, simprocAttr, h1.down, o6, eZ, e0, e1, dy, @bx _ aD aD (fun _ => dX _), @bx _ br bm (fun _ => gu _), @bx _ aD aD (fun _ => dX _), @bx _ br bm (fun _ => gu _)] <;> rfl) rfl (.inr (by rfl)) ?_
     simp only [aX.down, simprocAttr, h1.down, o6]
     (try simp only [bs.down, simprocAttr, lD.down, o6] at al ⊢); exact al
    ·simp only [aX.down, simprocAttr, h1.down, o6]
     refine ey (qi b8.1 bu.1 _ zy) rfl rfl (by simp only [aX.down, simprocAttr, h1.down, o6, eZ, e0, e1, dy, @bx _ aD aD (fun _ => dX _), @bx _ br bm (fun _ => gu _), @bx _ aD aD (fun _ => dX _), @bx _ br bm (fun _ => gu _)] <;> rfl) rfl (.inr (by rfl)) ?_
     simp only [aX.down, simprocAttr, h1.down, o6]
     (try simp only [bs.down, simprocAttr, lD.down, o6] at al ⊢); exact al
   rcases bk h with ⟨l3, h⟩ | ⟨l3, h⟩
   ·refine bp (congrArg j.bool l3) ?_
    simp only [l3, aO.down]
    refine ws _ ?_
    exact a6 (zx _ (aJ _ (.inl (a7 [.bool false] rfl (by cases a4 h; rfl) (by decide) a_))))
   ·refine bB (congrArg j.bool l3) ?_
    simp only [l3, aO.down]
    refine bF (C2 _ (.inl ?_))
    refine aZ (fun agr CW Ja ags => ?_)
    obtain ⟨dE, mx, h⟩ := aT h
    obtain ⟨gh, o5, h⟩ := aT h
    refine jb rfl (ik [(2, .aG (gr I)), (3, .aG (gr aa)), (6, .aG (dC bu.1)), (7, .int .i64 bu.2), (8, .aG (dC bq)), (9, .aG (dC cj)), (10, .aG (dC b8.1)), (11, .int .i64 b8.2), (58, .bool (!gh))] (fun P al => ?_) ?_)
    ·simp only [cP.down, simprocAttr, hT.down]
     refine e7 (m3 I _ mx) rfl rfl rfl rfl (.inl (by rfl)) ?_
     simp only [cP.down, simprocAttr, hT.down]
     refine e7 (qi bq dE _ o5) rfl rfl (by simp only [cP.down, simprocAttr, hT.down, eZ, e0, e1, dy, @bx _ aD aD (fun _ => dX _), @bx _ br bm (fun _ => gu _), @bx _ aD aD (fun _ => dX _), @bx _ br bm (fun _ => gu _)] <;> rfl) rfl (.inr (by rfl)) ?_
     simp only [cP.down, simprocAttr, hT.down]
     refine ⟨hd (by kernel_rfl), ?_⟩
     (try simp only [bs.down, simprocAttr, lD.down] at al ⊢); exact al
    rcases bk h with ⟨wv, h⟩ | ⟨wv, h⟩
    ·refine bp (congrArg j.bool wv) ?_
     simp only [(eT wv), aO.down]
     refine ws _ ?_
     exact a6 (Ja _ (aJ _ (.inl (a7 [.bool false] rfl (by cases a4 h; rfl) (by decide) a_))))
    ·refine bB (congrArg j.bool wv) ?_
     simp only [(dz wv), aO.down]
     refine bF (CW _ (.inl ?_))
     refine aZ (fun aha C6 Jv Jw => ?_)
     obtain ⟨kF, ahC, h⟩ := aT h
     obtain ⟨mq, wa, h⟩ := aT h
     refine jb rfl (ik [(2, .aG (gr I)), (3, .aG (gr aa)), (6, .aG (dC bu.1)), (7, .int .i64 bu.2), (8, .aG (dC bq)), (9, .aG (dC cj)), (10, .aG (dC b8.1)), (11, .int .i64 b8.2), (63, .bool (!mq))] (fun P al => ?_) ?_)
     ·simp only [cP.down, simprocAttr, hT.down]
      refine e7 (m3 aa _ ahC) rfl rfl rfl rfl (.inl (by rfl)) ?_
      simp only [cP.down, simprocAttr, hT.down]
      refine e7 (qi cj kF _ wa) rfl rfl (by simp only [cP.down, simprocAttr, hT.down, eZ, e0, e1, dy, @bx _ aD aD (fun _ => dX _), @bx _ br bm (fun _ => gu _), @bx _ aD aD (fun _ => dX _), @bx _ br bm (fun _ => gu _)] <;> rfl) rfl (.inr (by rfl)) ?_
      simp only [cP.down, simprocAttr, hT.down]
      refine ⟨hd (by kernel_rfl), ?_⟩
      (try simp only [bs.down, simprocAttr, lD.down] at al ⊢); exact al
     rcases bk h with ⟨wx, h⟩ | ⟨wx, h⟩
     ·refine bp (congrArg j.bool wx) ?_
      simp only [(eT wx), aO.down]
      refine ws _ ?_
      exact a6 (Jv _ (aJ _ (.inl (a7 [.bool false] rfl (by cases a4 h; rfl) (by decide) a_))))
     ·refine bB (congrArg j.bool wx) ?_
      simp only [(dz wx), aO.down]
      refine bF (C6 _ (.inl ?_))
      refine ws _ ?_
      obtain ⟨jj, zC, h⟩ := aT h
      refine cQ (b0 [(2, .aG (gr I)), (3, .aG (gr aa)), (6, .aG (dC bu.1)), (7, .int .i64 bu.2), (9, .aG (dC cj)), (10, .aG (dC b8.1)), (11, .int .i64 b8.2), (12, .int .i64 jj.1)] (fun P al => ?_) ?_)
      ·simp only [aX.down, simprocAttr, h1.down]
       refine oP [⟨.h 8 [0], true, _, _⟩, ⟨.int .i64 1, false, _, .hole⟩] (Db bq.aV bq.Start bq.bG 1 _ zC) rfl rfl rfl (by simp only [aX.down, simprocAttr, h1.down, pK, mT, lS, eZ, e0, e1, dy, or_true, true_or, @bx _ aD aD (fun _ => dX _), @bx _ br bm (fun _ => gu _)]) rfl rfl (.inl rfl) ?_
       simp only [aX.down, simprocAttr, h1.down, mU]
       (try simp only [bs.down, simprocAttr, lD.down] at al ⊢); exact al
      obtain ⟨mr, C7, h⟩ := aT h
      refine cQ (b0 [(2, .aG (gr I)), (3, .aG (gr aa)), (6, .aG (dC bu.1)), (7, .int .i64 bu.2), (10, .aG (dC b8.1)), (11, .int .i64 b8.2), (12, .int .i64 mr.1)] (fun P al => ?_) ?_)
      ·simp only [aX.down, simprocAttr, h1.down]
       refine oP [⟨.h 9 [0], true, _, _⟩, ⟨.int .i64 jj.1, false, _, .hole⟩] (Db cj.aV cj.Start cj.bG jj.1 _ C7) rfl rfl rfl (by simp only [aX.down, simprocAttr, h1.down, pK, mT, lS, eZ, e0, e1, dy, or_true, true_or, @bx _ aD aD (fun _ => dX _), @bx _ br bm (fun _ => gu _)]) rfl rfl (.inl rfl) ?_
       simp only [aX.down, simprocAttr, h1.down, mU]
       (try simp only [bs.down, simprocAttr, lD.down] at al ⊢); exact al
      refine aZ (fun akJ ahD JJ akK => ?_)
      rcases bk h with ⟨oq, h⟩ | ⟨oq, h⟩
      ·refine fG oq _ ?_
       refine bp rfl ?_
       refine ws _ ?_
       exact a6 (JJ _ (aJ _ (.inl (a7 [.bool false] rfl (by cases a4 h; rfl) (by decide) a_))))
      ·obtain ⟨oi, JK, h⟩ := aT h
       refine cQ (b0 [(2, .aG (gr I)), (3, .aG (gr aa)), (6, .aG (dC bu.1)), (7, .int .i64 bu.2), (10, .aG (dC b8.1)), (82, .bool ((!oi) || (b8.2 != bu.2)))] (fun P al => ?_) ?_)
       ·rcases Bool.eq_false_or_eq_true (oi) with o7 | o7
        ·simp only [aX.down, simprocAttr, h1.down, oq, o7]
         refine jc (qi b8.1 bu.1 _ JK) rfl rfl (by simp only [aX.down, simprocAttr, h1.down, oq, o7, eZ, e0, e1, dy, @bx _ aD aD (fun _ => dX _), @bx _ br bm (fun _ => gu _), @bx _ aD aD (fun _ => dX _), @bx _ br bm (fun _ => gu _)] <;> rfl) rfl (.inr (by rfl)) ?_
         simp only [aX.down, simprocAttr, h1.down, oq, o7]
         (try simp only [bs.down, simprocAttr, lD.down, oq, o7] at al ⊢); exact al
        ·simp only [aX.down, simprocAttr, h1.down, oq, o7]
         refine jc (qi b8.1 bu.1 _ JK) rfl rfl (by simp only [aX.down, simprocAttr, h1.down, oq, o7, eZ, e0, e1, dy, @bx _ aD aD (fun _ => dX _), @bx _ br bm (fun _ => gu _), @bx _ aD aD (fun _ => dX _), @bx _ br bm (fun _ => gu _)] <;> rfl) rfl (.inr (by rfl)) ?_
         simp only [aX.down, simprocAttr, h1.down, oq, o7]
         (try simp only [bs.down, simprocAttr, lD.down, oq, o7] at al ⊢); exact al
       rcases bk h with ⟨wy, h⟩ | ⟨wy, h⟩
       ·refine bp (congrArg j.bool wy) ?_
        simp only [wy, aO.down]
        refine ws _ ?_
        exact a6 (JJ _ (aJ _ (.inl (a7 [.bool false] rfl (by cases a4 h; rfl) (by decide) a_))))
       ·refine bB (congrArg j.bool wy) ?_
        simp only [wy, aO.down]
        refine bF (ahD _ (.inl ?_))
        refine ws _ ?_
        obtain ⟨gB, ahE, h⟩ := aT h
        refine cQ (b0 [(2, .aG (gr I)), (3, .aG (gr aa)), (6, .aG (dC bu.1)), (7, .int .i64 bu.2), (10, .aG (.agg [.int .i64 gB.2.1, .ai 1 (gB.2.2.1.map aD), .ai 5 (gB.2.2.2.map br)])), (13, .int .i64 gB.1)] (fun P al => ?_) ?_)
        ·simp only [aX.down, simprocAttr, h1.down]
         refine oP [⟨.h 10 [0], true, _, _⟩, ⟨.int .i64 1, false, _, .hole⟩] (Db b8.1.aV b8.1.Start b8.1.bG 1 _ ahE) rfl rfl rfl (by simp only [aX.down, simprocAttr, h1.down, pK, mT, lS, eZ, e0, e1, dy, or_true, true_or, @bx _ aD aD (fun _ => dX _), @bx _ br bm (fun _ => gu _)]) rfl rfl (.inl rfl) ?_
         simp only [aX.down, simprocAttr, h1.down, mU]
         (try simp only [bs.down, simprocAttr, lD.down] at al ⊢); exact al
        refine ws _ ?_
        obtain ⟨vN, ahF, h⟩ := aT h
        refine cQ (b0 [(2, .aG (gr I)), (3, .aG (gr aa)), (6, .aG (dC bu.1)), (7, .int .i64 bu.2), (10, .aG (.agg [.int .i64 gB.2.1, .ai 1 (gB.2.2.1.map aD), .ai 5 (gB.2.2.2.map br)])), (13, .int .i64 gB.1), (14, .int .i64 vN)] (fun P al => ?_) ?_)
        ·simp only [aX.down, simprocAttr, h1.down]
         refine ey (JI (bc.mk gB.2.1 gB.2.2.1 gB.2.2.2) 1 _ ahF) rfl rfl (by simp only [aX.down, simprocAttr, h1.down, eZ, e0, e1, dy, @bx _ aD aD (fun _ => dX _), @bx _ br bm (fun _ => gu _)] <;> rfl) rfl (.inr (by rfl)) ?_
         simp only [aX.down, simprocAttr, h1.down]
         (try simp only [bs.down, simprocAttr, lD.down] at al ⊢); exact al
        refine aZ (fun akL ahG ahH akM => ?_)
        refine ws _ ?_
        rcases bk h with ⟨wz, h⟩ | ⟨wz, h⟩
        ·refine bp (congrArg j.bool wz) ?_
         simp only [wz, aO.down]
         refine ws _ ?_
         exact a6 (ahH _ (aJ _ (.inl (a7 [.bool false] rfl (by cases a4 h; rfl) (by decide) a_))))
        ·refine bB (congrArg j.bool wz) ?_
         simp only [wz, aO.down]
         refine bF (ahG _ (.inl ?_))
         refine aZ (fun akN ahI ahJ akO => ?_)
         refine ws _ ?_
         rcases bk h with ⟨wA, h⟩ | ⟨wA, h⟩
         ·refine bp (congrArg j.bool wA) ?_
          simp only [wA, aO.down]
          refine ws _ ?_
          exact a6 (ahJ _ (aJ _ (.inl (a7 [.bool false] rfl (by cases a4 h; rfl) (by decide) a_))))
         ·refine bB (congrArg j.bool wA) ?_
          simp only [wA, aO.down]
          refine bF (ahI _ (.inl ?_))
          obtain ⟨oX, JL, h⟩ := aT h
          obtain ⟨rK, JM, h⟩ := aT h
          obtain ⟨kZ, JN, h⟩ := aT h
          refine Hu 7 9 [0, 1, 2, 3, 4, 5, 6, 8, 9, 7, 10] rfl rfl [(6, .aG (dC bu.1)), (7, .int .i64 bu.2), (10, .aG (.agg [.int .i64 gB.2.1, .ai 1 (gB.2.2.1.map aD), .ai 5 (gB.2.2.2.map br)])), (13, .int .i64 gB.1), (15, .aG (dC kZ.1)), (16, .int .i64 kZ.2)] (fun P al => ?_) (fun P al => ?_) ?_
          ·simp only [cP.down, simprocAttr, hT.down, iP]
           refine e7 (m3 I _ JL) rfl rfl rfl rfl (.inl (by rfl)) ?_
           simp only [cP.down, simprocAttr, hT.down, iP]
           refine e7 (m3 aa _ JM) rfl rfl rfl rfl (.inl (by rfl)) ?_
           simp only [cP.down, simprocAttr, hT.down, iP]
           refine e7 (Da oX rK _ JN) rfl rfl (by simp only [cP.down, simprocAttr, hT.down, iP, eZ, e0, e1, dy, @bx _ aD aD (fun _ => dX _), @bx _ br bm (fun _ => gu _), @bx _ aD aD (fun _ => dX _), @bx _ br bm (fun _ => gu _)] <;> rfl) rfl (.inr (by simp only [j.dm, j.i1, qb, Bool.and_self])) ?_
           simp only [cP.down, simprocAttr, hT.down, iP]
           refine ⟨hd (by kernel_rfl), ?_⟩
           (try simp only [bs.down, simprocAttr, lD.down, iP] at al ⊢); exact al
          ·simp only [pU, List.map_cons, List.map_nil, List.getD_cons_zero, List.getD_cons_succ, simprocAttr]
           simp only [cP.down, simprocAttr, hT.down, iP]
           refine e7 (m3 I _ JL) rfl rfl rfl rfl (.inl (by rfl)) ?_
           simp only [cP.down, simprocAttr, hT.down, iP]
           refine e7 (m3 aa _ JM) rfl rfl rfl rfl (.inl (by rfl)) ?_
           simp only [cP.down, simprocAttr, hT.down, iP]
           refine e7 (Da oX rK _ JN) rfl rfl (by simp only [cP.down, simprocAttr, hT.down, iP, eZ, e0, e1, dy, @bx _ aD aD (fun _ => dX _), @bx _ br bm (fun _ => gu _), @bx _ aD aD (fun _ => dX _), @bx _ br bm (fun _ => gu _)] <;> rfl) rfl (.inr (by simp only [j.dm, j.i1, qb, Bool.and_self])) ?_
           simp only [cP.down, simprocAttr, hT.down, iP]
           refine ⟨hd (by kernel_rfl), ?_⟩
           (try simp only [bs.down, simprocAttr, lD.down, iP] at al ⊢); exact al
          refine aZ (fun akP ahK ahL akQ => ?_)
          obtain ⟨p_, JO, h⟩ := aT h
          refine cQ (b0 [(10, .aG (.agg [.int .i64 gB.2.1, .ai 1 (gB.2.2.1.map aD), .ai 5 (gB.2.2.2.map br)])), (13, .int .i64 gB.1), (110, .bool ((!p_) || (kZ.2 != bu.2)))] (fun P al => ?_) ?_)
          ·rcases Bool.eq_false_or_eq_true (p_) with nF | nF
           ·simp only [aX.down, simprocAttr, o0.down, nF]
            refine ey (qi kZ.1 bu.1 _ JO) rfl rfl (by simp only [aX.down, simprocAttr, o0.down, nF, eZ, e0, e1, dy, @bx _ aD aD (fun _ => dX _), @bx _ br bm (fun _ => gu _), @bx _ aD aD (fun _ => dX _), @bx _ br bm (fun _ => gu _)] <;> rfl) rfl (.inr (by rfl)) ?_
            simp only [aX.down, simprocAttr, o0.down, nF]
            (try simp only [bs.down, simprocAttr, tw.down, nF] at al ⊢); exact al
           ·simp only [aX.down, simprocAttr, o0.down, nF]
            refine ey (qi kZ.1 bu.1 _ JO) rfl rfl (by simp only [aX.down, simprocAttr, o0.down, nF, eZ, e0, e1, dy, @bx _ aD aD (fun _ => dX _), @bx _ br bm (fun _ => gu _), @bx _ aD aD (fun _ => dX _), @bx _ br bm (fun _ => gu _)] <;> rfl) rfl (.inr (by rfl)) ?_
            simp only [aX.down, simprocAttr, o0.down, nF]
            (try simp only [bs.down, simprocAttr, tw.down, nF] at al ⊢); exact al
          rcases bk h with ⟨wB, h⟩ | ⟨wB, h⟩
          ·refine bp (congrArg j.bool wB) ?_
           simp only [wB, aO.down]
           refine ws _ ?_
           exact a6 (ahL _ (aJ _ (.inl (a7 [.bool false] rfl (by cases a4 h; rfl) (by decide) a_))))
          ·refine bB (congrArg j.bool wB) ?_
           simp only [wB, aO.down]
           refine bF (ahK _ (.inl ?_))
           refine ws _ ?_
           obtain ⟨oY, ahM, h⟩ := aT h
           refine cQ (b0 [(13, .int .i64 gB.1), (14, .int .i64 oY)] (fun P al => ?_) ?_)
           ·simp only [aX.down, simprocAttr, m2.down]
            refine ey (JI (bc.mk gB.2.1 gB.2.2.1 gB.2.2.2) 1 _ ahM) rfl rfl (by simp only [aX.down, simprocAttr, m2.down, eZ, e0, e1, dy, @bx _ aD aD (fun _ => dX _), @bx _ br bm (fun _ => gu _)] <;> rfl) rfl (.inr (by rfl)) ?_
            simp only [aX.down, simprocAttr, m2.down]
            (try simp only [bs.down, simprocAttr, m1.down] at al ⊢); exact al
           refine aZ (fun akR ahN ahO akS => ?_)
           refine ws _ ?_
           rcases bk h with ⟨wC, h⟩ | ⟨wC, h⟩
           ·refine bp (congrArg j.bool wC) ?_
            simp only [wC, aO.down]
            refine ws _ ?_
            exact a6 (ahO _ (aJ _ (.inl (a7 [.bool false] rfl (by cases a4 h; rfl) (by decide) a_))))
           ·refine bB (congrArg j.bool wC) ?_
            simp only [wC, aO.down]
            refine bF (ahN _ (.inl ?_))
            refine aZ (fun akT ahP ahQ akU => ?_)
            refine ws _ ?_
            rcases bk h with ⟨wD, h⟩ | ⟨wD, h⟩
            ·refine bp (congrArg j.bool wD) ?_
             simp only [wD, aO.down]
             refine ws _ ?_
             exact a6 (ahQ _ (aJ _ (.inl (a7 [.bool false] rfl (by cases a4 h; rfl) (by decide) a_))))
            ·refine bB (congrArg j.bool wD) ?_
             simp only [wD, aO.down]
             refine bF (ahP _ (.inl ?_))
             refine ws _ ?_
             exact a6 (aJ _ (.inl (a7 [.bool true] rfl (by cases a4 h; rfl) (by decide) a_)))
end Go.Proofs.Ytjedocbdhlppdaa
