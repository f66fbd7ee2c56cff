/- Part of a proof that a law returns true for every input. No condition. -/
import Derived.Test.YtbemmmimelklkaaW1x4
namespace Go.Proofs.Ytbemmmimelklkaa
open Go Go.cB Go.eJ
set_option maxRecDepth 100000
set_option linter.unusedSimpArgs false
set_option linter.unusedVariables false
set_option maxHeartbeats 1000000 in
theorem aeQ (a0 : List gF) (ad : Int) (r : Bool) (h : BO a0 ad = some r) : aU aN 4 [.slice (a0.map e7), .int .i64 ad] (.bool r) [] := by
 refine aU.cQ (fx := [0, 1]) cR [.tmp 4] [(0, .slice (a0.map e7)), (1, .int .i64 ad)] Try.func4 rfl rfl h9 (Nat.le_of_ble_eq_true rfl) rfl rfl (fun cO aI cM => ?_)
 refine ws _ ?_
 refine ws _ ?_
 obtain ⟨ar, cD, h⟩ := aW h
 refine ga (acP a0 1048576 _ cD) _ ?_
 refine a7 (fun iC eS e4 bP => ?_)
 refine ws _ ?_
 rcases a8 h with ⟨i0, h⟩ | ⟨i0, h⟩
 ·refine bg (congrArg I.bool i0) ?_
  simp only [i0, Bool.not_true, Bool.not_false]
  refine ws _ ?_
  exact a1 (e4 _ (aI _ (.inl (a2 [.bool true] rfl (by cases aS h; rfl) (by decide) ba))))
 ·refine bm (congrArg I.bool i0) ?_
  simp only [i0, Bool.not_true, Bool.not_false]
  refine bt (eS _ (.inl ?_))
  obtain ⟨aC, nI, h⟩ := aW h
  obtain ⟨aX, mr, h⟩ := aW h
  refine c5 (b3 [(0, .slice (a0.map e7)), (1, .int .i64 ad), (6, .slice (aX.1.map bf)), (7, .int .i64 aX.2)] (fun P aq => ?_) ?_)
  ·simp only [aQ.down, simprocAttr, yu.down]
   refine fv (((yw a0 _ nI)).wide (Bb rfl rfl (by simp only [eg, I.share, I.shares, @eY _ e8 bk (fun _ => sr _)] <;> rfl)) rfl rfl) rfl rfl rfl rfl (.inl (by rfl)) ?_
   simp only [aQ.down, simprocAttr, yu.down]
   refine fv (ad0 aC ad _ mr) rfl rfl rfl rfl (.inl (by rfl)) ?_
   simp only [aQ.down, simprocAttr, yu.down]
   (try simp only [bw.down, simprocAttr, yu.down] at aq ⊢); exact aq
  obtain ⟨bM, eW, h⟩ := aW h
  refine ga (yw a0 _ eW) _ ?_
  obtain ⟨bP, gd, h⟩ := aW h
  refine c5 (b3 [(0, .slice (a0.map e7)), (1, .int .i64 ad), (6, .slice (aX.1.map bf)), (7, .int .i64 aX.2), (8, .aE 3 (bM.map e8)), (9, .aE 1 (bP.1.map bf)), (10, .int .i64 bP.2)] (fun P aq => ?_) ?_)
  ·simp only [aQ.down, simprocAttr, hj.down]
   refine fv (Ie bM ad _ gd) rfl rfl (by simp only [aQ.down, simprocAttr, hj.down, hL, hM, hN, eg, @eY _ e8 bk (fun _ => sr _)] <;> rfl) rfl (.inr (by simp only [I.c8, I.h_, @oK _ bf (fun _ => GV _), Bool.and_self])) ?_
   simp only [aQ.down, simprocAttr, hj.down]
   (try simp only [bw.down, simprocAttr, hj.down] at aq ⊢); exact aq
  refine a7 (fun qJ kA jR l7 => ?_)
  obtain ⟨cN, gX, h⟩ := aW h
  refine c5 (b3 [(0, .slice (a0.map e7)), (1, .int .i64 ad), (6, .slice (aX.1.map bf)), (7, .int .i64 aX.2), (8, .aE 3 (bM.map e8)), (9, .aE 1 (bP.1.map bf)), (10, .int .i64 bP.2), (44, .bool ((!cN) || (bP.2 != aX.2)))] (fun P aq => ?_) ?_)
  ·rcases Bool.eq_false_or_eq_true (cN) with mR | mR
   ·simp only [aQ.down, simprocAttr, hj.down, mR]
    refine fv (sF bP.1 aX.1 _ gX) rfl rfl (by simp only [aQ.down, simprocAttr, hj.down, mR, hL, hM, hN, eg, @eY _ bf bf (fun _ => kU _)] <;> rfl) rfl (.inr (by rfl)) ?_
    simp only [aQ.down, simprocAttr, hj.down, mR]
    (try simp only [bw.down, simprocAttr, hj.down, mR] at aq ⊢); exact aq
   ·simp only [aQ.down, simprocAttr, hj.down, mR]
    refine fv (sF bP.1 aX.1 _ gX) rfl rfl (by simp only [aQ.down, simprocAttr, hj.down, mR, hL, hM, hN, eg, @eY _ bf bf (fun _ => kU _)] <;> rfl) rfl (.inr (by rfl)) ?_
    simp only [aQ.down, simprocAttr, hj.down, mR]
    (try simp only [bw.down, simprocAttr, hj.down, mR] at aq ⊢); exact aq
  rcases a8 h with ⟨eo, h⟩ | ⟨eo, h⟩
  ·refine bg (congrArg I.bool eo) ?_
   simp only [eo, Bool.not_true, Bool.not_false]
   refine ws _ ?_
   exact a1 (jR _ (aI _ (.inl (a2 [.bool false] rfl (by cases aS h; rfl) (by decide) ba))))
  ·refine bm (congrArg I.bool eo) ?_
   simp only [eo, Bool.not_true, Bool.not_false]
   refine bt (kA _ (.inl ?_))
   refine a7 (fun B9 qM qN u1 => ?_)
   obtain ⟨d_, k2, h⟩ := aW h
   obtain ⟨ig, kX, h⟩ := aW h
   refine c5 (b3 [(0, .slice (a0.map e7)), (1, .int .i64 ad), (6, .slice (aX.1.map bf)), (7, .int .i64 aX.2), (8, .aE 3 (bM.map e8)), (9, .aE 1 (bP.1.map bf)), (10, .int .i64 bP.2), (49, .bool (!ig))] (fun P aq => ?_) ?_)
   ·simp only [aQ.down, simprocAttr, hj.down]
    refine fv (yw a0 _ k2) rfl rfl rfl rfl (.inl (by rfl)) ?_
    simp only [aQ.down, simprocAttr, hj.down]
    refine fv (aeK bM d_ _ kX) rfl rfl (by simp only [aQ.down, simprocAttr, hj.down, hL, hM, hN, eg, @eY _ e8 bk (fun _ => sr _), @eY _ e8 bk (fun _ => sr _)] <;> rfl) rfl (.inr (by rfl)) ?_
    simp only [aQ.down, simprocAttr, hj.down]
    (try simp only [bw.down, simprocAttr, hj.down] at aq ⊢); exact aq
   rcases a8 h with ⟨hD, h⟩ | ⟨hD, h⟩
   ·refine bg (congrArg I.bool hD) ?_
    simp only [(dZ hD), Bool.not_true, Bool.not_false]
    refine ws _ ?_
    exact a1 (qN _ (aI _ (.inl (a2 [.bool false] rfl (by cases aS h; rfl) (by decide) ba))))
   ·refine bm (congrArg I.bool hD) ?_
    simp only [(cX hD), Bool.not_true, Bool.not_false]
    refine bt (qM _ (.inl ?_))
    refine ws _ ?_
    obtain ⟨dP, Cs, h⟩ := aW h
    refine c5 (b3 [(0, .slice (a0.map e7)), (1, .int .i64 ad), (6, .slice (aX.1.map bf)), (7, .int .i64 aX.2), (9, .aE 1 (bP.1.map bf)), (10, .int .i64 bP.2), (11, .int .i64 dP.1)] (fun P aq => ?_) ?_)
    ·simp only [aQ.down, simprocAttr, hj.down]
     refine qa [⟨.h 8 [], true, _, _⟩, ⟨.int .i64 1, false, _, .hole⟩] (aeO bM 1 _ Cs) rfl rfl rfl (by simp only [aQ.down, simprocAttr, hj.down, p9, nU, nV, hL, hM, hN, eg, or_true, true_or, @eY _ e8 bk (fun _ => sr _)]) rfl rfl (.inl rfl) ?_
     simp only [aQ.down, simprocAttr, hj.down, nW]
     (try simp only [bw.down, simprocAttr, hj.down] at aq ⊢); exact aq
    refine a7 (fun H0 n31 u4 Cc => ?_)
    rcases a8 h with ⟨gy, h⟩ | ⟨gy, h⟩
    ·refine hZ gy _ ?_
     refine bg rfl ?_
     refine ws _ ?_
     exact a1 (u4 _ (aI _ (.inl (a2 [.bool false] rfl (by cases aS h; rfl) (by decide) ba))))
    ·obtain ⟨dK, vf, h⟩ := aW h
     refine c5 (b3 [(0, .slice (a0.map e7)), (1, .int .i64 ad), (6, .slice (aX.1.map bf)), (7, .int .i64 aX.2), (9, .aE 1 (bP.1.map bf)), (65, .bool ((!dK) || (bP.2 != aX.2)))] (fun P aq => ?_) ?_)
     ·rcases Bool.eq_false_or_eq_true (dK) with mS | mS
      ·simp only [aQ.down, simprocAttr, kb.down, gy, mS]
       refine g5 (sF bP.1 aX.1 _ vf) rfl rfl (by simp only [aQ.down, simprocAttr, kb.down, gy, mS, hL, hM, hN, eg, @eY _ bf bf (fun _ => kU _)] <;> rfl) rfl (.inr (by rfl)) ?_
       simp only [aQ.down, simprocAttr, kb.down, gy, mS]
       (try simp only [bw.down, simprocAttr, kb.down, gy, mS] at aq ⊢); exact aq
      ·simp only [aQ.down, simprocAttr, kb.down, gy, mS]
       refine g5 (sF bP.1 aX.1 _ vf) rfl rfl (by simp only [aQ.down, simprocAttr, kb.down, gy, mS, hL, hM, hN, eg, @eY _ bf bf (fun _ => kU _)] <;> rfl) rfl (.inr (by rfl)) ?_
       simp only [aQ.down, simprocAttr, kb.down, gy, mS]
       (try simp only [bw.down, simprocAttr, kb.down, gy, mS] at aq ⊢); exact aq
     rcases a8 h with ⟨vo, h⟩ | ⟨vo, h⟩
     ·refine bg (congrArg I.bool vo) ?_
      simp only [vo, Bool.not_true, Bool.not_false]
      refine ws _ ?_
      exact a1 (u4 _ (aI _ (.inl (a2 [.bool false] rfl (by cases aS h; rfl) (by decide) ba))))
     ·refine bm (congrArg I.bool vo) ?_
      simp only [vo, Bool.not_true, Bool.not_false]
      refine bt (n31 _ (.inl ?_))
      refine ws _ ?_
      obtain ⟨en, aeR, h⟩ := aW h
      refine c5 (b3 [(0, .slice (a0.map e7)), (1, .int .i64 ad), (6, .slice (aX.1.map bf)), (7, .int .i64 aX.2), (9, .aE 1 (en.2.map bf)), (12, .int .i64 en.1)] (fun P aq => ?_) ?_)
      ·simp only [aQ.down, simprocAttr, kb.down]
       refine qa [⟨.h 9 [], true, _, _⟩, ⟨.int .i64 1, false, _, .hole⟩] (aeP bP.1 1 _ aeR) rfl rfl rfl (by simp only [aQ.down, simprocAttr, kb.down, p9, nU, nV, hL, hM, hN, eg, or_true, true_or, @eY _ bf bf (fun _ => kU _)]) rfl rfl (.inl rfl) ?_
       simp only [aQ.down, simprocAttr, kb.down, nW]
       (try simp only [bw.down, simprocAttr, kb.down] at aq ⊢); exact aq
      refine ws _ ?_
      obtain ⟨ij, aeS, h⟩ := aW h
      refine c5 (b3 [(0, .slice (a0.map e7)), (1, .int .i64 ad), (6, .slice (aX.1.map bf)), (7, .int .i64 aX.2), (9, .aE 1 (en.2.map bf)), (12, .int .i64 en.1), (13, .int .i64 ij)] (fun P aq => ?_) ?_)
      ·simp only [aQ.down, simprocAttr, kb.down]
       refine fv (Ih en.2 1 _ aeS) rfl rfl (by simp only [aQ.down, simprocAttr, kb.down, hL, hM, hN, eg, @eY _ bf bf (fun _ => kU _)] <;> rfl) rfl (.inr (by rfl)) ?_
       simp only [aQ.down, simprocAttr, kb.down]
       (try simp only [bw.down, simprocAttr, kb.down] at aq ⊢); exact aq
      refine a7 (fun ais n45 aeT ait => ?_)
      refine ws _ ?_
      rcases a8 h with ⟨vp, h⟩ | ⟨vp, h⟩
      ·refine bg (congrArg I.bool vp) ?_
       simp only [vp, Bool.not_true, Bool.not_false]
       refine ws _ ?_
       exact a1 (aeT _ (aI _ (.inl (a2 [.bool false] rfl (by cases aS h; rfl) (by decide) ba))))
      ·refine bm (congrArg I.bool vp) ?_
       simp only [vp, Bool.not_true, Bool.not_false]
       refine bt (n45 _ (.inl ?_))
       refine a7 (fun aiu n49 aeU aiv => ?_)
       refine ws _ ?_
       rcases a8 h with ⟨vq, h⟩ | ⟨vq, h⟩
       ·refine bg (congrArg I.bool vq) ?_
        simp only [vq, Bool.not_true, Bool.not_false]
        refine ws _ ?_
        exact a1 (aeU _ (aI _ (.inl (a2 [.bool false] rfl (by cases aS h; rfl) (by decide) ba))))
       ·refine bm (congrArg I.bool vq) ?_
        simp only [vq, Bool.not_true, Bool.not_false]
        refine bt (n49 _ (.inl ?_))
        obtain ⟨i7, aeV, h⟩ := aW h
        obtain ⟨hY, aeW, h⟩ := aW h
        refine c5 (b3 [(6, .slice (aX.1.map bf)), (7, .int .i64 aX.2), (9, .aE 1 (en.2.map bf)), (12, .int .i64 en.1), (14, .aE 1 (hY.1.map bf)), (15, .int .i64 hY.2)] (fun P aq => ?_) ?_)
        ·simp only [aQ.down, simprocAttr, hj.down]
         refine fv (yw a0 _ aeV) rfl rfl rfl rfl (.inl (by rfl)) ?_
         simp only [aQ.down, simprocAttr, hj.down]
         refine fv (Ie i7 ad _ aeW) rfl rfl (by simp only [aQ.down, simprocAttr, hj.down, hL, hM, hN, eg, @eY _ e8 bk (fun _ => sr _)] <;> rfl) rfl (.inr (by simp only [I.c8, I.h_, @oK _ bf (fun _ => GV _), Bool.and_self])) ?_
         simp only [aQ.down, simprocAttr, hj.down]
         (try simp only [bw.down, simprocAttr, hj.down] at aq ⊢); exact aq
        refine a7 (fun aiw aeX aeY aix => ?_)
        obtain ⟨iA, Ii, h⟩ := aW h
        refine c5 (b3 [(9, .aE 1 (en.2.map bf)), (12, .int .i64 en.1), (92, .bool ((!iA) || (hY.2 != aX.2)))] (fun P aq => ?_) ?_)
        ·rcases Bool.eq_false_or_eq_true (iA) with n9 | n9
         ·simp only [aQ.down, simprocAttr, bf, n9]
          refine fv (sF hY.1 aX.1 _ Ii) rfl rfl (by simp only [aQ.down, simprocAttr, bf, n9, hL, hM, hN, eg, @eY _ bf bf (fun _ => kU _)] <;> rfl) rfl (.inr (by rfl)) ?_
          simp only [aQ.down, simprocAttr, bf, n9]
          (try simp only [bw.down, simprocAttr, bf, n9] at aq ⊢); exact aq
         ·simp only [aQ.down, simprocAttr, bf, n9]
          refine fv (sF hY.1 aX.1 _ Ii) rfl rfl (by simp only [aQ.down, simprocAttr, bf, n9, hL, hM, hN, eg, @eY _ bf bf (fun _ => kU _)] <;> rfl) rfl (.inr (by rfl)) ?_
          simp only [aQ.down, simprocAttr, bf, n9]
          (try simp only [bw.down, simprocAttr, bf, n9] at aq ⊢); exact aq
        rcases a8 h with ⟨vr, h⟩ | ⟨vr, h⟩
        ·refine bg (congrArg I.bool vr) ?_
         simp only [vr, Bool.not_true, Bool.not_false]
         refine ws _ ?_
         exact a1 (aeY _ (aI _ (.inl (a2 [.bool false] rfl (by cases aS h; rfl) (by decide) ba))))
        ·refine bm (congrArg I.bool vr) ?_
         simp only [vr, Bool.not_true, Bool.not_false]
         refine bt (aeX _ (.inl ?_))
         refine ws _ ?_
         obtain ⟨l7, sA, h⟩ := aW h
         refine c5 (b3 [(12, .int .i64 en.1), (13, .int .i64 l7)] (fun P aq => ?_) ?_)
         ·simp only [aQ.down, simprocAttr, bf]
          refine fv (Ih en.2 1 _ sA) rfl rfl (by simp only [aQ.down, simprocAttr, bf, hL, hM, hN, eg, @eY _ bf bf (fun _ => kU _)] <;> rfl) rfl (.inr (by rfl)) ?_
          simp only [aQ.down, simprocAttr, bf]
          (try simp only [bw.down, simprocAttr, bf] at aq ⊢); exact aq
         refine a7 (fun aiy n65 aeZ aiz => ?_)
         refine ws _ ?_
         rcases a8 h with ⟨vt, h⟩ | ⟨vt, h⟩
         ·refine bg (congrArg I.bool vt) ?_
          simp only [vt, Bool.not_true, Bool.not_false]
          refine ws _ ?_
          exact a1 (aeZ _ (aI _ (.inl (a2 [.bool false] rfl (by cases aS h; rfl) (by decide) ba))))
         ·refine bm (congrArg I.bool vt) ?_
          simp only [vt, Bool.not_true, Bool.not_false]
          refine bt (n65 _ (.inl ?_))
          refine a7 (fun aiA n69 ae0 aiB => ?_)
          refine ws _ ?_
          rcases a8 h with ⟨kZ, h⟩ | ⟨kZ, h⟩
          ·refine bg (congrArg I.bool kZ) ?_
           simp only [kZ, Bool.not_true, Bool.not_false]
           refine ws _ ?_
           exact a1 (ae0 _ (aI _ (.inl (a2 [.bool false] rfl (by cases aS h; rfl) (by decide) ba))))
          ·refine bm (congrArg I.bool kZ) ?_
           simp only [kZ, Bool.not_true, Bool.not_false]
           refine bt (n69 _ (.inl ?_))
           refine ws _ ?_
           exact a1 (aI _ (.inl (a2 [.bool true] rfl (by cases aS h; rfl) (by decide) ba)))
end Go.Proofs.Ytbemmmimelklkaa
