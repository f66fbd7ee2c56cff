/- Part of a proof that a law returns true for every input. No condition. -/
import Derived.Test.YtjedocbdhlppdaaSl
namespace Go.Proofs.Ytjedocbdhlppdaa
open Go Go.b7 Go.fi
set_option maxRecDepth 100000
set_option maxHeartbeats 1600000
set_option linter.unusedSimpArgs false
set_option linter.unusedVariables false
theorem fe (fx : List Nat) (dB : List ResultVar) {f : FuncId} {fn : Func} {c : Code} {dd : ae} {ins outs : List j} {r : j} (bo : aP.P.funcs[f]? = some fn) (R : cC ⟨fn.ntmps, fx⟩ c = some dd.strip)
 (uY : ∀ Q : Exit → ad → Prop, (∀ s, dS (b7.Ends aP fx dB r outs) s → Q .ret s) → (∀ s, dS (b7.Ends aP fx dB r outs) s → Q .normal s) → cg aP dd Q (I (num 0 ins))) (J : fn.body = some c := by rfl) (ie : (fn.name == "runtime.NumGoroutine") = false := by rfl) (aO : ins.length ≤ fn.ntmps := by exact Nat.le_of_ble_eq_true rfl) (eI : fn.results.toList = dB := by rfl) (ak : dd.plain = true := by kernel_rfl) : b5 aP f ins r outs :=
 b5.z7 GX dB (num 0 ins) bo J ie R aO eI rfl uY ak
def gC := PLift.up (And.intro @kU (And.intro @dI (And.intro @Ai (And.intro @ir (And.intro @GY (And.intro @kV @aL.eq_1))))))
theorem ws {Q : Exit → ad → Prop} {l : List (Nat × j)} {ros : List bm} {k : List Nat} {b : ae} (cP : List (Nat × j)) (ah : cg aP b Q (I cP)) (h : ∀ P : List (Nat × j) → Prop, P cP → bF aP (I l) ros none (fun _ s => P (fT k s)) := by
 intro P aF
 simp only [bl.down, simprocAttr, gC.down]
 (try simp only [bZ.down, simprocAttr, gC.down] at aF ⊢)
 exact aF) : cg aP (.seq (.aA ros (some k)) b) Q (I l) :=
 dD (c9 cP (h) ah)
theorem lF {Q : Exit → ad → Prop} {l : List (Nat × j)} {ros : List bm} {k : List Nat} {b : ae} {g : FuncId} {ds : List j} {r : j} (ok : b5 aP g ds r []) (cP : List (Nat × j)) (ah : cg aP b Q (I cP)) (h : b5 aP g ds r [] → ∀ P : List (Nat × j) → Prop, P cP → bF aP (I l) ros none (fun _ s => P (fT k s)) := by
 intro nL P aF
 (try simp only [bl.down, simprocAttr, gC.down])
 refine fV nL rfl rfl rfl rfl (.inl (by rfl)) ?_
 simp only [bl.down, simprocAttr, gC.down]
 (try simp only [bZ.down, simprocAttr, gC.down] at aF ⊢)
 exact aF) : cg aP (.seq (.aA ros (some k)) b) Q (I l) :=
 dD (c9 cP (h ok) ah)
theorem eS {F : Prop} (aN : F) {Q : Exit → ad → Prop} {l : List (Nat × j)} {ros : List bm} {k : List Nat} {b : ae} (cP : List (Nat × j)) (ah : cg aP b Q (I cP)) (h : F → ∀ P : List (Nat × j) → Prop, P cP → bF aP (I l) ros none (fun _ s => P (fT k s)) := by
 intro aN P aF
 simp only [bl.down, simprocAttr, gC.down, aN]
 (try simp only [bZ.down, simprocAttr, gC.down, aN] at aF ⊢)
 exact aF) : cg aP (.seq (.aA ros (some k)) b) Q (I l) :=
 dD (c9 cP (h aN) ah)
theorem sW {F : Prop} (aN : F) {Q : Exit → ad → Prop} {l : List (Nat × j)} {ros : List bm} {k : List Nat} {b : ae} {g : FuncId} {ds : List j} {r : j} (ok : b5 aP g ds r []) (cP : List (Nat × j)) (ah : cg aP b Q (I cP)) (h : b5 aP g ds r [] → F → ∀ P : List (Nat × j) → Prop, P cP → bF aP (I l) ros none (fun _ s => P (fT k s)) := by
 intro nL aN P aF
 (try simp only [bl.down, simprocAttr, gC.down, aN])
 refine fV nL rfl rfl rfl rfl (.inl (by rfl)) ?_
 simp only [bl.down, simprocAttr, gC.down, aN]
 (try simp only [bZ.down, simprocAttr, gC.down, aN] at aF ⊢)
 exact aF) : cg aP (.seq (.aA ros (some k)) b) Q (I l) :=
 dD (c9 cP (h ok aN) ah)
theorem wr {Q : Exit → ad → Prop} {l : List (Nat × j)} {ros : List bm} {k : List Nat} (cP : List (Nat × j)) (ah : Q .normal (I cP)) (h : ∀ P : List (Nat × j) → Prop, P cP → bF aP (I l) ros none (fun _ s => P (fT k s)) := by
 intro P aF
 simp only [bl.down, simprocAttr, gC.down]
 (try simp only [bZ.down, simprocAttr, gC.down] at aF ⊢)
 exact aF) : cg aP (.aA ros (some k)) Q (I l) :=
 o7 (c9 cP (h) ah)
theorem OM {Q : Exit → ad → Prop} {l : List (Nat × j)} {ros : List bm} {k : List Nat} {g : FuncId} {ds : List j} {r : j} (ok : b5 aP g ds r []) (cP : List (Nat × j)) (ah : Q .normal (I cP)) (h : b5 aP g ds r [] → ∀ P : List (Nat × j) → Prop, P cP → bF aP (I l) ros none (fun _ s => P (fT k s)) := by
 intro nL P aF
 (try simp only [bl.down, simprocAttr, gC.down])
 refine fV nL rfl rfl rfl rfl (.inl (by rfl)) ?_
 simp only [bl.down, simprocAttr, gC.down]
 (try simp only [bZ.down, simprocAttr, gC.down] at aF ⊢)
 exact aF) : cg aP (.aA ros (some k)) Q (I l) :=
 o7 (c9 cP (h ok) ah)
theorem My {F : Prop} (aN : F) {Q : Exit → ad → Prop} {l : List (Nat × j)} {ros : List bm} {k : List Nat} (cP : List (Nat × j)) (ah : Q .normal (I cP)) (h : F → ∀ P : List (Nat × j) → Prop, P cP → bF aP (I l) ros none (fun _ s => P (fT k s)) := by
 intro aN P aF
 simp only [bl.down, simprocAttr, gC.down, aN]
 (try simp only [bZ.down, simprocAttr, gC.down, aN] at aF ⊢)
 exact aF) : cg aP (.aA ros (some k)) Q (I l) :=
 o7 (c9 cP (h aN) ah)
theorem ON {F : Prop} (aN : F) {Q : Exit → ad → Prop} {l : List (Nat × j)} {ros : List bm} {k : List Nat} {g : FuncId} {ds : List j} {r : j} (ok : b5 aP g ds r []) (cP : List (Nat × j)) (ah : Q .normal (I cP)) (h : b5 aP g ds r [] → F → ∀ P : List (Nat × j) → Prop, P cP → bF aP (I l) ros none (fun _ s => P (fT k s)) := by
 intro nL aN P aF
 (try simp only [bl.down, simprocAttr, gC.down, aN])
 refine fV nL rfl rfl rfl rfl (.inl (by rfl)) ?_
 simp only [bl.down, simprocAttr, gC.down, aN]
 (try simp only [bZ.down, simprocAttr, gC.down, aN] at aF ⊢)
 exact aF) : cg aP (.aA ros (some k)) Q (I l) :=
 o7 (c9 cP (h ok aN) ah)
def eg := PLift.up (And.intro @dI (And.intro @Ai (And.intro @ir @aL.eq_1)))
theorem vR (a0 : UInt8) (r : Bool) (h : qO a0 = some r) : b5 aP 91 [.int .u8 (a0.toNat : Int)] (.bool r) [] := by
 refine fe [0] [.tmp 2] Try.func91 G2 (fun fj bt e5 => ?_)
 refine ws _ ?_
 refine dD (c9 [(2, .bool ((decide (97 ≤ (a0.toNat : Int))) && (decide ((a0.toNat : Int) ≤ 122))))] (fun P aF => ?_) ?_)
 ·rcases Bool.eq_false_or_eq_true (decide (97 ≤ (a0.toNat : Int))) with ee | ee
  ·simp only [bl.down, simprocAttr, ee]
   (try simp only [bZ.down, simprocAttr, ee] at aF ⊢); exact aF
  ·simp only [bl.down, simprocAttr, ee]
   (try simp only [bZ.down, simprocAttr, ee] at aF ⊢); exact aF
 exact b1 (bt _ (.inl (b9 [.bool ((decide (97 ≤ (a0.toNat : Int))) && (decide ((a0.toNat : Int) ≤ 122)))])))
theorem Mz (a0 : UInt8) (r : Bool) (h : vJ a0 = some r) : b5 aP 92 [.int .u8 (a0.toNat : Int)] (.bool r) [] := by
 refine fe [0] [.tmp 2] Try.func92 G5 (fun fj bt e5 => ?_)
 refine ws _ ?_
 refine dD (c9 [(2, .bool ((decide (48 ≤ (a0.toNat : Int))) && (decide ((a0.toNat : Int) ≤ 57))))] (fun P aF => ?_) ?_)
 ·rcases Bool.eq_false_or_eq_true (decide (48 ≤ (a0.toNat : Int))) with ee | ee
  ·simp only [bl.down, simprocAttr, ee]
   (try simp only [bZ.down, simprocAttr, ee] at aF ⊢); exact aF
  ·simp only [bl.down, simprocAttr, ee]
   (try simp only [bZ.down, simprocAttr, ee] at aF ⊢); exact aF
 exact b1 (bt _ (.inl (b9 [.bool ((decide (48 ≤ (a0.toNat : Int))) && (decide ((a0.toNat : Int) ≤ 57)))])))
theorem q3 (a0 : List UInt8) (r : Bool) (h : qP a0 = some r) : b5 aP 52 [.str a0] (.bool r) [] := by
 refine fe [0] [.tmp 2] Try.func52 Hh (fun fj bt e5 => ?_)
 refine ws _ ?_
 refine b3 bt (fun gH dC ck aQ => ?_)
 rcases iD h with ⟨ct, h⟩ | ⟨ct, h⟩
 ·refine eS ct _ ?_
  refine lu rfl ?_
  refine ws _ ?_
  exact b1 (ck _ (.inl (b9 [.bool false])))
 ·rcases iD h with ⟨l3, h⟩ | ⟨l3, h⟩
  ·refine eS (And.intro ct l3) _ ?_
   refine lu rfl ?_
   refine ws _ ?_
   exact b1 (ck _ (.inl (b9 [.bool false])))
  ·obtain ⟨aR, iF, h⟩ := bL h
   obtain ⟨aQ, ho, h⟩ := bL h
   refine dD (c9 [(0, .str a0), (16, .bool (!aQ))] (fun P aF => ?_) ?_)
   ·simp only [bl.down, simprocAttr, dI, ct, l3, iF]
    refine sj (vR aR _ ho) rfl rfl rfl rfl (.inl (by rfl)) ?_
    simp only [bl.down, simprocAttr, dI, ct, l3, iF]
    (try simp only [bZ.down, simprocAttr, ct, l3, iF] at aF ⊢); exact aF
   refine cG h (fun iX h => ?_) (fun iX h => ?_)
   ·simp only [(fN iX), bj.down]
    refine ws _ ?_
    exact b1 (ck _ (.inl (b9 [.bool false])))
   ·simp only [(dO iX), bj.down]
    refine cB (dC _ (.inl ?_))
    refine b3 bt (fun sX pq nM vS => ?_)
    refine ws _ ?_
    refine eB nM (fun nN kX jj iy q4 => ?_)
    have nO : ∀ (n : Nat) (cY : Int), o_ a0 n cY = some r → gd aP Am nN (I [(0, .str a0), (3, .int .i64 cY)]) := by
     intro iz
     induction iz with
     | zero => intro cY h; cases (show none = some r from h)
     | succ iz lG =>
      intro cY h
      replace h : sy (o_ a0 iz) a0 cY = some r := h
      refine hT jj (fun q5 kq kr nP => ?_)
      refine b3 kr (fun AK q6 vT sY => ?_)
      refine ws _ ?_
      refine cG h (fun gf h => ?_) (fun gf h => ?_)
      ·simp only [gf, bj.down]
       refine cB (q6 _ (.inl ?_))
       refine b3 kr (fun AL nQ q7 AM => ?_)
       refine eB q7 (fun OO AN MA gZ OP => ?_)
       obtain ⟨a_, jW, h⟩ := bL h
       obtain ⟨cy, jX, h⟩ := bL h
       rcases iD h with ⟨iY, h⟩ | ⟨iY, h⟩
       ·obtain ⟨cw, lH, h⟩ := bL h
        refine dD (c9 [(0, .str a0), (3, .int .i64 cY), (34, .bool (!cw))] (fun P aF => ?_) ?_)
        ·simp only [bl.down, simprocAttr, dI, jW, (fN iY)]
         refine fV (vR a_ _ jX) rfl rfl rfl rfl (.inl (by rfl)) ?_
         simp only [bl.down, simprocAttr, dI, jW, (fN iY)]
         refine sj (Mz a_ _ lH) rfl rfl rfl rfl (.inl (by rfl)) ?_
         simp only [bl.down, simprocAttr, dI, jW, (fN iY)]
         (try simp only [bZ.down, simprocAttr, jW, (fN iY)] at aF ⊢); exact aF
        refine cG h (fun vU h => ?_) (fun vU h => ?_)
        ·simp only [(fN vU), bj.down]
         refine ws _ ?_
         exact b1 (MA _ (.inl (b9 [.bool false])))
        ·simp only [(dO vU), bj.down]
         refine cB (AN _ (nQ _ (.inl ?_)))
         refine wr _ ?_
         exact kq _ (.inr ⟨_, dN rfl, lG (IntKind.i64.wrap (cY + 1)) h⟩)
       ·refine sW (And.intro jW (dO iY)) (vR a_ _ jX) _ ?_
        refine qD rfl ?_
        refine cB (AN _ (nQ _ (.inl ?_)))
        refine wr _ ?_
        exact kq _ (.inr ⟨_, dN rfl, lG (IntKind.i64.wrap (cY + 1)) h⟩)
      ·simp only [gf, bj.down]
       refine hP (sY 0 _ (nP 0 _ (iy _ (pq _ (.inl ?_)))))
       refine ws _ ?_
       exact b1 (bt _ (.inl (b9 [.bool true])))
    obtain ⟨n, h⟩ := hB h
    exact hQ (.inr ⟨_, dN rfl, nO n 0 h⟩)
theorem MB (a0 : List UInt8) (a7 : Int) (r : Int) (h : pd a0 a7 = some r) : b5 aP 93 [.str a0, .int .i64 a7] (.int .i64 r) [] := by
 refine fe [0] [.tmp 4] Try.func93 Hw (fun fj bt e5 => ?_)
 refine ws _ ?_
 refine b3 bt (fun gH dC ck aQ => ?_)
 refine ws _ ?_
 refine eB ck (fun lI sZ gk ct cy => ?_)
 have lJ : ∀ (n : Nat) (cX : Int) (cH : Int), hW a0 n cX cH = some r → gd aP Ap lI (I [(0, .str a0), (1, .int .i64 cX), (5, .int .i64 cH)]) := by
  intro ek
  induction ek with
  | zero => intro cX cH h; cases (show none = some r from h)
  | succ ek ks =>
   intro cX cH h
   replace h : qS (hW a0 ek) a0 cX cH = some r := h
   refine hT gk (fun pr jY gO cw => ?_)
   refine b3 gO (fun pt jk i4 cD => ?_)
   refine ws _ ?_
   refine cG h (fun eP h => ?_) (fun eP h => ?_)
   ·simp only [eP, bj.down]
    refine cB (jk _ (.inl ?_))
    refine b3 gO (fun kt gD gg hA => ?_)
    refine eB gg (fun iZ ff e9 iX g_ => ?_)
    obtain ⟨aR, iH, h⟩ := bL h
    refine eS (And.intro iH (And.intro (@gu aP 5 2 .i64 rfl rfl) (@zX .i64 .u64 8 256 (by decide) (by decide)))) [(0, .str a0), (1, .int .i64 (bitsOf .xor .i64 cX (IntKind.i64.wrap ((aR.toNat : Int) * 256)))), (5, .int .i64 cH)] ?_
    refine ws _ ?_
    refine eB e9 (fun nN kX jj iy q4 => ?_)
    have MC : ∀ (n : Nat) (hV : Int) (iu : Int) (iT : Int), kW (hW a0 ek) a0 n hV iu iT = some r → gd aP Ao nN (I [(0, .str a0), (1, .int .i64 hV), (5, .int .i64 iu), (6, .int .i64 iT)]) := by
     intro s0
     induction s0 with
     | zero => intro hV iu iT h; cases (show none = some r from h)
     | succ s0 MD =>
      intro hV iu iT h
      replace h : qR (hW a0 ek) (kW (hW a0 ek) a0 s0) a0 hV iu iT = some r := h
      refine hT jj (fun q5 kq kr nP => ?_)
      refine b3 kr (fun AK q6 vT sY => ?_)
      refine ws _ ?_
      refine cG h (fun gf h => ?_) (fun gf h => ?_)
      ·simp only [gf, bj.down]
       refine cB (q6 _ (.inl ?_))
       have AO : ∀ (pa : Int) (pb : Int) (pc : Int), qQ (hW a0 ek) (kW (hW a0 ek) a0 s0) a0 pa pb pc = some r → cg aP An q5 (I [(0, .str a0), (1, .int .i64 pa), (5, .int .i64 pb), (6, .int .i64 pc)]) := by
        intro pa pb pc h
        refine wr _ ?_
        exact kq _ (.inr ⟨_, dN rfl, MD pa pb (IntKind.i64.wrap (pc + 1)) h⟩)
       refine b3 kr (fun AL nQ q7 AM => ?_)
       refine eB q7 (fun AP vV AQ gh ME => ?_)
       refine eS (@zX .i64 .u64 1 2 (by decide) (by decide)) [(0, .str a0), (1, .int .i64 (IntKind.i64.wrap (hV * 2))), (5, .int .i64 iu), (6, .int .i64 iT)] ?_
       refine ws _ ?_
       refine cG h (fun iY h => ?_) (fun iY h => ?_)
       ·simp only [iY, bj.down]
        refine wr _ ?_
        exact vV _ (nQ _ (.inr ⟨_, dN rfl, AO (bitsOf .xor .i64 (bitsOf .and .i64 (IntKind.i64.wrap (hV * 2)) 65535) 4129) iu iT h⟩))
       ·simp only [iY, bj.down]
        exact cB (vV _ (nQ _ (.inr ⟨_, dN rfl, AO (IntKind.i64.wrap (hV * 2)) iu iT h⟩)))
      ·simp only [gf, bj.down]
       refine hP (sY 2 _ (nP 2 _ (iy _ (ff _ (gD _ (.inl ?_))))))
       refine wr _ ?_
       exact jY _ (.inr ⟨_, dN rfl, ks hV (IntKind.i64.wrap (iu + 1)) h⟩)
    obtain ⟨n, h⟩ := hB h
    exact hQ (.inr ⟨_, dN rfl, MC n (bitsOf .xor .i64 cX (IntKind.i64.wrap ((aR.toNat : Int) * 256))) cH 0 h⟩)
   ·simp only [eP, bj.down]
    refine hP (cD 0 _ (cw 0 _ (ct _ (dC _ (.inl ?_)))))
    refine ws _ ?_
    exact b1 (bt _ (.inl (b9 [.int .i64 cX])))
 obtain ⟨n, h⟩ := hB h
 exact hQ (.inr ⟨_, dN rfl, lJ n a7 0 h⟩)
theorem AR (a0 : Int) (a7 : Int) (a2 : Int) (r : Bool) (h : sB a0 a7 a2 = some r) : b5 aP 94 [.int .i64 a0, .int .i64 a7, .int .i64 a2] (.bool r) [] := by
 refine fe [0, 1, 2] [.tmp 6] Try.func94 Hz (fun fj bt e5 => ?_)
 refine ws _ ?_
 refine dD (c9 [(6, .bool ((decide (a7 ≤ a0)) && (decide (a0 ≤ a2))))] (fun P aF => ?_) ?_)
 ·rcases Bool.eq_false_or_eq_true (decide (a7 ≤ a0)) with ee | ee
  ·simp only [bl.down, simprocAttr, ee]
   (try simp only [bZ.down, simprocAttr, ee] at aF ⊢); exact aF
  ·simp only [bl.down, simprocAttr, ee]
   (try simp only [bZ.down, simprocAttr, ee] at aF ⊢); exact aF
 exact b1 (bt _ (.inl (b9 [.bool ((decide (a7 ≤ a0)) && (decide (a0 ≤ a2)))])))
theorem vW (a0 : List UInt8) (r : Int × Int) (h : nG a0 = some r) : b5 aP 53 [.str a0] (.tuple [.int .i64 r.1, .int .i64 r.2]) [] := by
 refine fe [0] [.tmp 2, .tmp 3] Try.func53 HN (fun fj bt e5 => ?_)
 refine ws _ ?_
 refine ws _ ?_
 refine b3 bt (fun MF vX hI a_ => ?_)
 refine ws _ ?_
 refine cG h (fun hK h => ?_) (fun hK h => ?_)
 ·simp only [hK, bj.down]
  refine ws _ ?_
  exact b1 (hI _ (.inl (b9 [.int .i64 0, .int .i64 11])))
 ·simp only [hK, bj.down]
  refine cB (vX _ (.inl ?_))
  refine b3 bt (fun pv jl jv eY => ?_)
  obtain ⟨aR, ho, h⟩ := bL h
  obtain ⟨aQ, j9, h⟩ := bL h
  obtain ⟨a_, m6, h⟩ := bL h
  obtain ⟨cy, iH, h⟩ := bL h
  refine hO rfl (hR [(0, .str a0), (4, .int .i64 (a0.length : Int)), (27, .bool (aQ != (IntKind.i64.wrap ((IntKind.i64.wrap ((a_.toNat : Int) * 256)) + (cy.toNat : Int)))))] (fun P aF => ?_) ?_)
  ·simp only [ez.down, simprocAttr, dI, ho, m6, @gu aP 5 2 .i64 rfl rfl, iH]
   refine jb (MB aR 65535 _ j9) rfl rfl rfl rfl (.inl (by rfl)) ?_
   simp only [ez.down, simprocAttr, dI, ho, m6, @gu aP 5 2 .i64 rfl rfl, iH]
   refine ⟨hS (by kernel_rfl), ?_⟩
   (try simp only [bZ.down, simprocAttr, ho, m6, @gu aP 5 2 .i64 rfl rfl, iH] at aF ⊢); exact aF
  refine cG h (fun jm h => ?_) (fun jm h => ?_)
  ·simp only [jm, bj.down]
   refine ws _ ?_
   exact b1 (jv _ (.inl (b9 [.int .i64 0, .int .i64 10])))
  ·simp only [jm, bj.down]
   refine cB (jl _ (.inl ?_))
   obtain ⟨cw, hY, h⟩ := bL h
   refine eS (And.intro hY (@gu aP 5 2 .i64 rfl rfl)) _ ?_
   refine b3 bt (fun AS q8 q9 AU => ?_)
   obtain ⟨cD, pw, h⟩ := bL h
   refine dD (c9 [(5, .int .i64 (cw.toNat : Int)), (37, .bool ((!cD) || (decide (6000 < (a0.length : Int)))))] (fun P aF => ?_) ?_)
   ·rcases Bool.eq_false_or_eq_true (cD) with jn | jn
    ·simp only [bl.down, simprocAttr, jn]
     refine fV (AR (cw.toNat : Int) 1 3 _ pw) rfl rfl rfl rfl (.inl (by rfl)) ?_
     simp only [bl.down, simprocAttr, jn]
     (try simp only [bZ.down, simprocAttr, jn] at aF ⊢); exact aF
    ·simp only [bl.down, simprocAttr, jn]
     refine fV (AR (cw.toNat : Int) 1 3 _ pw) rfl rfl rfl rfl (.inl (by rfl)) ?_
     simp only [bl.down, simprocAttr, jn]
     (try simp only [bZ.down, simprocAttr, jn] at aF ⊢); exact aF
   refine cG h (fun gh h => ?_) (fun gh h => ?_)
   ·simp only [gh, bj.down]
    refine ws _ ?_
    exact b1 (q9 _ (.inl (b9 [.int .i64 0, .int .i64 9])))
   ·simp only [gh, bj.down]
    refine cB (q8 _ (.inl ?_))
    refine ws _ ?_
    exact b1 (bt _ (.inl (b9 [.int .i64 (cw.toNat : Int), .int .i64 0])))
theorem MG (a0 : List UInt8) (a7 : Int) (r : a6 × Int × Bool) (h : sC a0 a7 = some r) : b5 aP 45 [.str a0, .int .i64 a7] (.tuple [aL r.1, .int .i64 r.2.1, .bool r.2.2]) [] := by
 refine fe [0, 1] [.cell 4 37, .tmp 5, .tmp 6] Try.func45 H8 (fun fj bt e5 => ?_)
 refine ws _ ?_
 refine b3 bt (fun gH dC ck aQ => ?_)
 rcases iD h with ⟨ct, h⟩ | ⟨ct, h⟩
 ·refine eS ct _ ?_
  refine lu rfl ?_
  refine eS (show ∀ s, cI aP s 37 [] = some (.agg [.str ([] : List UInt8), .str ([] : List UInt8)], s) from fun s => by kernel_rfl) _ ?_
  exact b1 (ck _ (.inl (b9 [aL (a6.mk ([] : List UInt8) ([] : List UInt8)), .int .i64 a7, .bool false])))
 ·obtain ⟨aR, bh, h⟩ := bL h
  refine eS (And.intro ct bh) _ ?_
  refine cG h (fun p5 h => ?_) (fun p5 h => ?_)
  ·simp only [p5, bj.down]
   refine eS (show ∀ s, cI aP s 37 [] = some (.agg [.str ([] : List UInt8), .str ([] : List UInt8)], s) from fun s => by kernel_rfl) _ ?_
   exact b1 (ck _ (.inl (b9 [aL (a6.mk ([] : List UInt8) ([] : List UInt8)), .int .i64 a7, .bool false])))
  ·simp only [p5, bj.down]
   refine cB (dC _ (.inl ?_))
   obtain ⟨aQ, j9, h⟩ := bL h
   refine eS (And.intro j9 (@gu aP 5 3 .i64 rfl rfl)) _ ?_
   refine ws _ ?_
   refine b3 bt (fun sX pq nM vS => ?_)
   refine dD (c9 [(0, .str a0), (1, .int .i64 a7), (4, .bb (.agg [.str ([] : List UInt8), .str ([] : List UInt8)])), (7, .int .i64 (aQ.toNat : Int)), (8, .int .i64 (IntKind.i64.wrap (a7 + 2))), (43, .bool ((decide (10 < (aQ.toNat : Int))) || (decide ((a0.length : Int) < (IntKind.i64.wrap ((IntKind.i64.wrap ((IntKind.i64.wrap (a7 + 2)) + (aQ.toNat : Int))) + 2))))))] (fun P aF => ?_) ?_)
   ·rcases Bool.eq_false_or_eq_true (decide (10 < (aQ.toNat : Int))) with ji | ji
    ·simp only [bl.down, simprocAttr, dI, ji]
     (try simp only [bZ.down, simprocAttr, ji] at aF ⊢); exact aF
    ·simp only [bl.down, simprocAttr, dI, ji]
     (try simp only [bZ.down, simprocAttr, ji] at aF ⊢); exact aF
   refine cG h (fun fO h => ?_) (fun fO h => ?_)
   ·simp only [fO, bj.down]
    refine eS (show ∀ s, cI aP s 37 [] = some (.agg [.str ([] : List UInt8), .str ([] : List UInt8)], s) from fun s => by kernel_rfl) _ ?_
    exact b1 (nM _ (.inl (b9 [aL (a6.mk ([] : List UInt8) ([] : List UInt8)), .int .i64 a7, .bool false])))
   ·simp only [fO, bj.down]
    refine cB (pq _ (.inl ?_))
    obtain ⟨a_, iA, h⟩ := bL h
    refine eS (And.intro iA (show ∀ s, cI aP s 37 [(0, .str a_)] = some (.agg [.str a_, .str ([] : List UInt8)], s) from fun s => by kernel_rfl)) _ ?_
    refine ws _ ?_
    obtain ⟨cy, lK, h⟩ := bL h
    obtain ⟨cw, jW, h⟩ := bL h
    refine hO rfl (hR [(0, .str a0), (1, .int .i64 a7), (4, .bb (.agg [.str ([] : List UInt8), .str ([] : List UInt8)])), (8, .int .i64 (IntKind.i64.wrap ((IntKind.i64.wrap (a7 + 2)) + (aQ.toNat : Int)))), (9, .bb (.agg [.str a_, .str ([] : List UInt8)])), (10, .int .i64 (IntKind.i64.wrap ((IntKind.i64.wrap ((cy.toNat : Int) * 256)) + (cw.toNat : Int))))] (fun P aF => ?_) ?_)
    ·simp only [ez.down, simprocAttr, dI, lK, @gu aP 5 3 .i64 rfl rfl, jW]
     refine ⟨hS (by kernel_rfl), ?_⟩
     (try simp only [bZ.down, simprocAttr, lK, @gu aP 5 3 .i64 rfl rfl, jW] at aF ⊢); exact aF
    refine ws _ ?_
    refine b3 bt (fun MH vY AV AW => ?_)
    obtain ⟨cD, kY, h⟩ := bL h
    refine dD (c9 [(0, .str a0), (1, .int .i64 a7), (4, .bb (.agg [.str ([] : List UInt8), .str ([] : List UInt8)])), (8, .int .i64 (IntKind.i64.wrap ((IntKind.i64.wrap ((IntKind.i64.wrap (a7 + 2)) + (aQ.toNat : Int))) + 2))), (9, .bb (.agg [.str a_, .str ([] : List UInt8)])), (10, .int .i64 (IntKind.i64.wrap ((IntKind.i64.wrap ((cy.toNat : Int) * 256)) + (cw.toNat : Int)))), (80, .bool ((!cD) || (decide ((a0.length : Int) < (IntKind.i64.wrap ((IntKind.i64.wrap ((IntKind.i64.wrap ((IntKind.i64.wrap (a7 + 2)) + (aQ.toNat : Int))) + 2)) + (IntKind.i64.wrap ((IntKind.i64.wrap ((cy.toNat : Int) * 256)) + (cw.toNat : Int)))))))))] (fun P aF => ?_) ?_)
    ·rcases Bool.eq_false_or_eq_true (cD) with nR | nR
     ·simp only [bl.down, simprocAttr, dI, ir, nR]
      refine fV (q3 a_ _ kY) rfl rfl rfl rfl (.inl (by rfl)) ?_
      simp only [bl.down, simprocAttr, dI, ir, nR]
      (try simp only [bZ.down, simprocAttr, nR] at aF ⊢); exact aF
     ·simp only [bl.down, simprocAttr, dI, ir, nR]
      refine fV (q3 a_ _ kY) rfl rfl rfl rfl (.inl (by rfl)) ?_
      simp only [bl.down, simprocAttr, dI, ir, nR]
      (try simp only [bZ.down, simprocAttr, nR] at aF ⊢); exact aF
    refine cG h (fun eC h => ?_) (fun eC h => ?_)
    ·simp only [eC, bj.down]
     refine eS (show ∀ s, cI aP s 37 [] = some (.agg [.str ([] : List UInt8), .str ([] : List UInt8)], s) from fun s => by kernel_rfl) _ ?_
     exact b1 (AV _ (.inl (b9 [aL (a6.mk ([] : List UInt8) ([] : List UInt8)), .int .i64 a7, .bool false])))
    ·simp only [eC, bj.down]
     refine cB (vY _ (.inl ?_))
     obtain ⟨eY, vZ, h⟩ := bL h
     refine eS vZ _ ?_
     obtain ⟨hX, MI, h⟩ := bL h
     refine lF (vW eY _ MI) _ ?_
     refine ws _ ?_
     exact b1 (bt _ (.inl (b9 [aL (a6.mk a_ eY), .int .i64 (IntKind.i64.wrap ((IntKind.i64.wrap ((IntKind.i64.wrap ((IntKind.i64.wrap (a7 + 2)) + (aQ.toNat : Int))) + 2)) + (IntKind.i64.wrap ((IntKind.i64.wrap ((cy.toNat : Int) * 256)) + (cw.toNat : Int))))), .bool (hX.2 == 0)])))
theorem AX (a0 : List a6) (r : Bool) (h : sE a0 = some r) : b5 aP 39 [.slice (a0.map aL)] (.bool r) [] := by
 refine fe [0] [.tmp 2] Try.func39 Ir (fun fj bt e5 => ?_)
 refine ws _ ?_
 refine b3 bt (fun gH dC ck aQ => ?_)
 refine ws _ ?_
 refine cG h (fun ct h => ?_) (fun ct h => ?_)
 ·simp only [ct, bj.down]
  refine ws _ ?_
  exact b1 (ck _ (.inl (b9 [.bool false])))
 ·simp only [ct, bj.down]
  refine cB (dC _ (.inl ?_))
  refine b3 bt (fun pt jk i4 cD => ?_)
  refine ws _ ?_
  refine eB i4 (fun nS px lL eP hX => ?_)
  have nO : ∀ (n : Nat) (cY : Int), pe a0 n cY = some r → gd aP Aq nS (I [(0, .slice (a0.map aL)), (3, .int .i64 cY)]) := by
   intro iz
   induction iz with
   | zero => intro cY h; cases (show none = some r from h)
   | succ iz lG =>
    intro cY h
    replace h : sD (pe a0 iz) a0 cY = some r := h
    refine hT lL (fun kt gD gg hA => ?_)
    refine b3 gg (fun iZ ff e9 g_ => ?_)
    refine ws _ ?_
    refine cG h (fun jo h => ?_) (fun jo h => ?_)
    ·simp only [jo, bj.down]
     refine cB (ff _ (.inl ?_))
     refine b3 gg (fun q_ jZ ku nT => ?_)
     refine eB ku (fun nN kX jj iy q4 => ?_)
     refine b3 jj (fun q5 kq kr nP => ?_)
     obtain ⟨aR, eZ, h⟩ := bL h
     obtain ⟨aQ, iA, h⟩ := bL h
     rcases iD h with ⟨i0, h⟩ | ⟨i0, h⟩
     ·refine hO rfl (hR [(0, .slice (a0.map aL)), (3, .int .i64 cY), (39, .bool true)] (fun P aF => ?_) ?_)
      ·simp only [ez.down, simprocAttr, eg.down, eZ, (fN i0)]
       refine jb (q3 aR.Name _ iA) rfl rfl rfl rfl (.inl (by rfl)) ?_
       simp only [ez.down, simprocAttr, eg.down, eZ, (fN i0)]
       refine ⟨hS (by kernel_rfl), ?_⟩
       (try simp only [bZ.down, simprocAttr, aL, eZ, (fN i0)] at aF ⊢); exact aF
      refine lu rfl ?_
      refine ws _ ?_
      exact b1 (kr _ (.inl (b9 [.bool false])))
     ·rcases iD h with ⟨gh, h⟩ | ⟨gh, h⟩
      ·obtain ⟨a_, jW, h⟩ := bL h
       refine hO rfl (hR [(0, .slice (a0.map aL)), (3, .int .i64 cY), (39, .bool (!(Op.bytesLess a_.Name aR.Name)))] (fun P aF => ?_) ?_)
       ·simp only [ez.down, simprocAttr, eg.down, eZ, (dO i0), gh, jW]
        refine jb (q3 aR.Name _ iA) rfl rfl rfl rfl (.inl (by rfl)) ?_
        simp only [ez.down, simprocAttr, eg.down, eZ, (dO i0), gh, jW]
        refine ⟨hS (by kernel_rfl), ?_⟩
        (try simp only [bZ.down, simprocAttr, aL, eZ, (dO i0), gh, jW] at aF ⊢); exact aF
       refine cG h (fun v7 h => ?_) (fun v7 h => ?_)
       ·simp only [v7, bj.down]
        refine ws _ ?_
        exact b1 (kr _ (.inl (b9 [.bool false])))
       ·simp only [v7, bj.down]
        refine cB (kq _ (.inl ?_))
        obtain ⟨cy, kY, h⟩ := bL h
        refine sW eZ (vW aR.bx _ kY) _ ?_
        refine ws _ ?_
        refine cG h (fun eC h => ?_) (fun eC h => ?_)
        ·simp only [eC, bj.down]
         refine ws _ ?_
         exact b1 (jj _ (.inl (b9 [.bool false])))
        ·simp only [eC, bj.down]
         refine cB (kX _ (jZ _ (.inl ?_)))
         refine wr _ ?_
         exact gD _ (.inr ⟨_, dN rfl, lG (IntKind.i64.wrap (cY + 1)) h⟩)
      ·refine hO rfl (hR [(0, .slice (a0.map aL)), (3, .int .i64 cY), (39, .bool false)] (fun P aF => ?_) ?_)
       ·simp only [ez.down, simprocAttr, eg.down, eZ, (dO i0), gh]
        refine jb (q3 aR.Name _ iA) rfl rfl rfl rfl (.inl (by rfl)) ?_
        simp only [ez.down, simprocAttr, eg.down, eZ, (dO i0), gh]
        refine ⟨hS (by kernel_rfl), ?_⟩
        (try simp only [bZ.down, simprocAttr, aL, eZ, (dO i0), gh] at aF ⊢); exact aF
       refine qD rfl ?_
       refine cB (kq _ (.inl ?_))
       obtain ⟨cw, MJ, h⟩ := bL h
       refine sW eZ (vW aR.bx _ MJ) _ ?_
       refine ws _ ?_
       refine cG h (fun v8 h => ?_) (fun v8 h => ?_)
       ·simp only [v8, bj.down]
        refine ws _ ?_
        exact b1 (jj _ (.inl (b9 [.bool false])))
       ·simp only [v8, bj.down]
        refine cB (kX _ (jZ _ (.inl ?_)))
        refine wr _ ?_
        exact gD _ (.inr ⟨_, dN rfl, lG (IntKind.i64.wrap (cY + 1)) h⟩)
    ·simp only [jo, bj.down]
     refine hP (g_ 0 _ (hA 0 _ (eP _ (jk _ (.inl ?_)))))
     refine ws _ ?_
     exact b1 (bt _ (.inl (b9 [.bool true])))
  obtain ⟨n, h⟩ := hB h
  exact hQ (.inr ⟨_, dN rfl, nO n 0 h⟩)
theorem MK (a0 : a6) (r : (List UInt8)) (h : sF a0 = some r) : b5 aP 84 [.ref (aL a0)] (.str r) [] := by
 refine fe [0] [.tmp 2] Try.func84 Iv (fun fj bt e5 => ?_)
 refine ws _ ?_
 refine ws _ ?_
 obtain ⟨oj, bX, h⟩ := bL h
 (try simp only [List.length_append, List.length_cons, List.length_nil, List.length_map, List.length_replicate, Nat.zero_add, Nat.add_zero, Nat.reduceAdd] at bX)
 obtain ⟨oj, b0, h⟩ := bL h
 (try simp only [List.length_append, List.length_cons, List.length_nil, List.length_map, List.length_replicate, Nat.zero_add, Nat.add_zero, Nat.reduceAdd] at b0)
 obtain ⟨oj, bh, h⟩ := bL h
 (try simp only [List.length_append, List.length_cons, List.length_nil, List.length_map, List.length_replicate, Nat.zero_add, Nat.add_zero, Nat.reduceAdd] at bh)
 obtain ⟨oj, bc, h⟩ := bL h
 (try simp only [List.length_append, List.length_cons, List.length_nil, List.length_map, List.length_replicate, Nat.zero_add, Nat.add_zero, Nat.reduceAdd] at bc)
 refine hO rfl (hR [(2, .str ((((([35] : List UInt8) ++ [(c0 (a0.Name.length : Int))]) ++ a0.Name) ++ [(c0 (IntKind.i64.wrap (Int.tdiv (a0.bx.length : Int) 256))), (c0 (Int.tmod (a0.bx.length : Int) 256))]) ++ a0.bx))] (fun P aF => ?_) ?_)
 ·simp only [ez.down, simprocAttr, qM, dI, ir, qN, fy, aL, @gu aP 3 5 .u8 rfl rfl, (show ∀ s, cM aP s 62 1 [(0, .int .u8 (IntKind.u8.wrap (a0.Name.length : Int)))] = some (.aJ 1 [.int .u8 (IntKind.u8.wrap (a0.Name.length : Int))], s) from fun s => by kernel_rfl), (@mu aP 62 9 5 rfl rfl rfl).2.2, mw, mv, bX, jc, jd, b0, @nA .i64 256 (by decide), @mx .i64 256 (by decide), (show ∀ s, cM aP s 62 2 [(0, .int .u8 (IntKind.u8.wrap (IntKind.i64.wrap (Int.tdiv (a0.bx.length : Int) 256)))), (1, .int .u8 (IntKind.u8.wrap (Int.tmod (a0.bx.length : Int) 256)))] = some (.aJ 1 [.int .u8 (IntKind.u8.wrap (IntKind.i64.wrap (Int.tdiv (a0.bx.length : Int) 256))), .int .u8 (IntKind.u8.wrap (Int.tmod (a0.bx.length : Int) 256))], s) from fun s => by kernel_rfl), bh, bc]
  refine ⟨hS (by kernel_rfl), ?_⟩
  (try simp only [bZ.down, simprocAttr, fy, aL, @gu aP 3 5 .u8 rfl rfl, (show ∀ s, cM aP s 62 1 [(0, .int .u8 (IntKind.u8.wrap (a0.Name.length : Int)))] = some (.aJ 1 [.int .u8 (IntKind.u8.wrap (a0.Name.length : Int))], s) from fun s => by kernel_rfl), (@mu aP 62 9 5 rfl rfl rfl).2.2, mw, mv, bX, jc, jd, b0, @nA .i64 256 (by decide), @mx .i64 256 (by decide), (show ∀ s, cM aP s 62 2 [(0, .int .u8 (IntKind.u8.wrap (IntKind.i64.wrap (Int.tdiv (a0.bx.length : Int) 256)))), (1, .int .u8 (IntKind.u8.wrap (Int.tmod (a0.bx.length : Int) 256)))] = some (.aJ 1 [.int .u8 (IntKind.u8.wrap (IntKind.i64.wrap (Int.tdiv (a0.bx.length : Int) 256))), .int .u8 (IntKind.u8.wrap (Int.tmod (a0.bx.length : Int) 256))], s) from fun s => by kernel_rfl), bh, bc] at aF ⊢); exact aF
 exact b1 (bt _ (.inl (b9 [.str ((((([35] : List UInt8) ++ [(c0 (a0.Name.length : Int))]) ++ a0.Name) ++ [(c0 (IntKind.i64.wrap (Int.tdiv (a0.bx.length : Int) 256))), (c0 (Int.tmod (a0.bx.length : Int) 256))]) ++ a0.bx)])))
theorem ML (a0 : List a6) (r : (List UInt8)) (h : sH a0 = some r) : b5 aP 40 [.slice (a0.map aL)] (.str r) [] := by
 refine fe [0] [.tmp 2] Try.func40 IE (fun fj bt e5 => ?_)
 refine ws _ ?_
 refine ws _ ?_
 refine b3 bt (fun MF vX hI a_ => ?_)
 refine ws _ ?_
 refine eB hI (fun pr jY gO hK cw => ?_)
 have MM : ∀ (n : Nat) (iv : List UInt8) (iU : Int), sG a0 n iv iU = some r → gd aP Ar pr (I [(0, .slice (a0.map aL)), (3, .str iv), (4, .int .i64 iU)]) := by
  intro l6
  induction l6 with
  | zero => intro iv iU h; cases (show none = some r from h)
  | succ l6 MN =>
   intro iv iU h
   replace h : Aj (sG a0 l6) a0 iv iU = some r := h
   refine hT gO (fun pt jk i4 cD => ?_)
   refine b3 i4 (fun pv jl jv eY => ?_)
   refine ws _ ?_
   refine cG h (fun nU h => ?_) (fun nU h => ?_)
   ·simp only [nU, bj.down]
    refine cB (jl _ (.inl ?_))
    refine b3 i4 (fun iZ ff e9 g_ => ?_)
    refine eB e9 (fun s3 lM nV OQ nW => ?_)
    obtain ⟨aR, fc, h⟩ := bL h
    obtain ⟨aQ, mK, h⟩ := bL h
    obtain ⟨u16, jq, h⟩ := bL h
    (try simp only [List.length_append, List.length_cons, List.length_nil, List.length_map, List.length_replicate, Nat.zero_add, Nat.add_zero, Nat.reduceAdd] at jq)
    refine o7 (c9 [(0, .slice (a0.map aL)), (3, .str (iv ++ aQ)), (4, .int .i64 iU)] (fun P aF => ?_) ?_)
    ·simp only [bl.down, simprocAttr, eg.down, fc, jq, jc, jd]
     refine fV (MK aR _ mK) rfl rfl rfl rfl (.inl (by rfl)) ?_
     simp only [bl.down, simprocAttr, eg.down, fc, jq, jc, jd]
     (try simp only [bZ.down, simprocAttr, aL, fc, jq, jc, jd] at aF ⊢); exact aF
    refine lM _ (ff _ (.inl ?_))
    refine wr [(0, .slice (a0.map aL)), (3, .str (iv ++ aQ)), (4, .int .i64 (IntKind.i64.wrap (iU + 1)))] ?_
    exact jk _ (.inr ⟨_, dN rfl, MN (iv ++ aQ) (IntKind.i64.wrap (iU + 1)) h⟩)
   ·simp only [nU, bj.down]
    refine hP (eY 0 _ (cD 0 _ (hK _ (vX _ (.inl ?_)))))
    refine ws _ ?_
    exact b1 (bt _ (.inl (b9 [.str iv])))
 obtain ⟨n, h⟩ := hB h
 exact hQ (.inr ⟨_, dN rfl, MM n ([80, 65] : List UInt8) 0 h⟩)
theorem MO (a0 : List UInt8) (r : (List a6) × Int) (h : sI a0 = some r) : b5 aP 15 [.str a0] (.tuple [.aJ 2 (r.1.map aL), .int .i64 r.2]) [] := by
 refine fe [0] [.tmp 2, .tmp 3] Try.func15 I2 (fun fj bt e5 => ?_)
 refine ws _ ?_
 refine b3 bt (fun gH dC ck aQ => ?_)
 refine ws _ ?_
 refine cG h (fun ct h => ?_) (fun ct h => ?_)
 ·simp only [ct, bj.down]
  refine ws _ ?_
  exact b1 (ck _ (.inr ⟨[(2, .aJ 2 []), (3, .int .i64 11)], mo [] rfl (mr (t := 2) (d := .bu) rfl rfl (.iP _) (by decide) (lv rfl (mq))), b9 [.aJ 2 [], .int .i64 11]⟩))
 ·simp only [ct, bj.down]
  refine cB (dC _ (.inl ?_))
  refine eS (show ∀ s, cM aP s 25 0 [] = some (.aJ 2 [], s) from fun s => by kernel_rfl) _ ?_
  refine ws _ ?_
  refine b3 bt (fun nS px lL hX => ?_)
  refine eB lL (fun kt gD gg nU hA => ?_)
  have ra : ∀ (n : Nat) (da : List a6) (dJ : Int), pf a0 n da dJ = some r → gd aP As kt (I [(0, .str a0), (4, .aJ 2 (da.map aL)), (5, .int .i64 dJ)]) := by
   intro hZ
   induction hZ with
   | zero => intro da dJ h; cases (show none = some r from h)
   | succ hZ rb =>
    intro da dJ h
    replace h : vK (pf a0 hZ) a0 da dJ = some r := h
    refine hT gg (fun iZ ff e9 g_ => ?_)
    refine b3 e9 (fun s3 lM nV nW => ?_)
    refine ws _ ?_
    refine cG h (fun jm h => ?_) (fun jm h => ?_)
    ·simp only [jm, bj.down]
     refine cB (lM _ (.inl ?_))
     refine eB e9 (fun nN kX jj iy q4 => ?_)
     obtain ⟨aR, hY, h⟩ := bL h
     refine lF (MG a0 dJ _ hY) _ ?_
     refine b3 jj (fun AS q8 q9 AU => ?_)
     refine dD (c9 [(0, .str a0), (4, .aJ 2 (da.map aL)), (6, .bb (aL aR.1)), (7, .int .i64 aR.2.1), (30, .bool ((!aR.2.2) || ((da.length : Int) == 16)))] (fun P aF => ?_) ?_)
     ·rcases Bool.eq_false_or_eq_true (aR.2.2) with re | re
      ·simp only [bl.down, simprocAttr, eg.down, re]
       (try simp only [bZ.down, simprocAttr, aL, re] at aF ⊢); exact aF
      ·simp only [bl.down, simprocAttr, eg.down, re]
       (try simp only [bZ.down, simprocAttr, aL, re] at aF ⊢); exact aF
     refine cG h (fun gZ h => ?_) (fun gZ h => ?_)
     ·simp only [gZ, bj.down]
      refine ws _ ?_
      exact b1 (q9 _ (.inr ⟨[(2, .aJ 2 []), (3, .int .i64 9)], mo [] rfl (mr (t := 2) (d := .bu) rfl rfl (.iP _) (by decide) (lv rfl (mq))), b9 [.aJ 2 [], .int .i64 9]⟩))
     ·simp only [gZ, bj.down]
      refine cB (q8 _ (.inl ?_))
      obtain ⟨OR, jX, h⟩ := bL h
      (try simp only [List.length_append, List.length_cons, List.length_nil, List.length_map, List.length_replicate, Nat.zero_add, Nat.add_zero, Nat.reduceAdd] at jX)
      refine dD (c9 [(0, .str a0), (4, .aJ 2 ((da ++ [aR.1]).map aL)), (7, .int .i64 aR.2.1)] (fun P aF => ?_) ?_)
      ·simp only [bl.down, simprocAttr, eg.down, (show ∀ s, cM aP s 25 1 [(0, .agg [.str aR.1.Name, .str aR.1.bx])] = some (.aJ 2 [.agg [.str aR.1.Name, .str aR.1.bx]], s) from fun s => by kernel_rfl), @sn aP 25 25 37 rfl rfl, so, sq, sr, all_cons, all_nil, jX, @sl _ aL 2 (fun _ => rfl)]
       (try simp only [bZ.down, simprocAttr, aL, (show ∀ s, cM aP s 25 1 [(0, .agg [.str aR.1.Name, .str aR.1.bx])] = some (.aJ 2 [.agg [.str aR.1.Name, .str aR.1.bx]], s) from fun s => by kernel_rfl), @sn aP 25 25 37 rfl rfl, so, sq, sr, all_cons, all_nil, jX, @sl _ aL 2 (fun _ => rfl)] at aF ⊢); exact aF
      refine wr [(0, .str a0), (4, .aJ 2 ((da ++ [aR.1]).map aL)), (5, .int .i64 aR.2.1)] ?_
      exact kX _ (ff _ (.inr ⟨_, dN rfl, rb (da ++ [aR.1]) aR.2.1 h⟩))
    ·simp only [jm, bj.down]
     refine hP (nW 0 _ (g_ 0 _ (nU _ (px _ (.inl ?_)))))
     refine b3 bt (fun OS MP AY OT => ?_)
     obtain ⟨aQ, nX, h⟩ := bL h
     rcases iD h with ⟨eC, h⟩ | ⟨eC, h⟩
     ·refine dD (c9 [(4, .aJ 2 (da.map aL)), (44, .bool true)] (fun P aF => ?_) ?_)
      ·simp only [bl.down, simprocAttr, aL, (fN eC)]
       refine fV (AX da _ nX) rfl rfl (by simp only [bl.down, simprocAttr, aL, (fN eC), gV, gW, gX, gB, @ik _ aL aL (fun _ => ix _)] <;> rfl) rfl (.inr (by rfl)) ?_
       simp only [bl.down, simprocAttr, aL, (fN eC)]
       (try simp only [bZ.down, simprocAttr, aL, (fN eC)] at aF ⊢); exact aF
      refine lu rfl ?_
      refine ws _ ?_
      exact b1 (AY _ (.inr ⟨[(2, .aJ 2 []), (3, .int .i64 9)], mo [] rfl (mr (t := 2) (d := .bu) rfl rfl (.iP _) (by decide) (lv rfl (mq))), b9 [.aJ 2 [], .int .i64 9]⟩))
     ·obtain ⟨a_, v_, h⟩ := bL h
      refine dD (c9 [(4, .aJ 2 (da.map aL)), (44, .bool (!(a_ == a0)))] (fun P aF => ?_) ?_)
      ·simp only [bl.down, simprocAttr, aL, (dO eC)]
       refine fV (AX da _ nX) rfl rfl (by simp only [bl.down, simprocAttr, aL, (dO eC), gV, gW, gX, gB, @ik _ aL aL (fun _ => ix _)] <;> rfl) rfl (.inr (by rfl)) ?_
       simp only [bl.down, simprocAttr, aL, (dO eC)]
       refine sj (ML da _ v_) rfl rfl (by simp only [bl.down, simprocAttr, aL, (dO eC), gV, gW, gX, gB, @ik _ aL aL (fun _ => ix _)] <;> rfl) rfl (.inr (by rfl)) ?_
       simp only [bl.down, simprocAttr, aL, (dO eC)]
       (try simp only [bZ.down, simprocAttr, aL, (dO eC)] at aF ⊢); exact aF
      refine cG h (fun nY h => ?_) (fun nY h => ?_)
      ·simp only [nY, bj.down]
       refine ws _ ?_
       exact b1 (AY _ (.inr ⟨[(2, .aJ 2 []), (3, .int .i64 9)], mo [] rfl (mr (t := 2) (d := .bu) rfl rfl (.iP _) (by decide) (lv rfl (mq))), b9 [.aJ 2 [], .int .i64 9]⟩))
      ·simp only [nY, bj.down]
       refine cB (MP _ (.inl ?_))
       refine ws _ ?_
       exact b1 (bt _ (.inl (b9 [.aJ 2 (da.map aL), .int .i64 0])))
  obtain ⟨n, h⟩ := hB h
  exact hQ (.inr ⟨_, dN rfl, ra n [] 2 h⟩)
theorem s4 (mH : List UInt8) (sJ : Bool) (r : Int × (List UInt8) × Bool) (h : mG mH sJ = some r) : b5 aP 87 [.bb (.agg [.str mH, .bool sJ])] (.int .i64 r.1) [.bb (.agg [.str r.2.1, .bool r.2.2])] := by
 refine fe [0] [.tmp 2] Try.func87 Ja (fun fj bt e5 => ?_)
 refine ws _ ?_
 refine b3 bt (fun gH dC ck aQ => ?_)
 refine ws _ ?_
 refine cG h (fun ct h => ?_) (fun ct h => ?_)
 ·simp only [ct, bj.down]
  refine ws _ ?_
  refine ws _ ?_
  exact b1 (ck _ (.inl (sg [.int .i64 0] rfl (by cases mO h; rfl) (by decide) (vn (vo (by cases mO h; rfl) rfl rfl rfl (vp))))))
 ·simp only [ct, bj.down]
  refine cB (dC _ (.inl ?_))
  obtain ⟨aR, iF, h⟩ := bL h
  refine eS iF _ ?_
  obtain ⟨aQ, j9, h⟩ := bL h
  refine eS j9 _ ?_
  refine eS (@gu aP 5 2 .i64 rfl rfl) _ ?_
  exact b1 (bt _ (.inl (sg [.int .i64 (aR.toNat : Int)] rfl (by cases mO h; rfl) (by decide) (vn (vo (by cases mO h; rfl) rfl rfl rfl (vp))))))
theorem MQ (a0 : UInt8) (r : Bool) (h : vL a0 = some r) : b5 aP 95 [.int .u8 (a0.toNat : Int)] (.bool r) [] := by
 refine fe [0] [.tmp 2] Try.func95 Jd (fun fj bt e5 => ?_)
 refine ws _ ?_
 refine dD (c9 [(2, .bool ((decide (48 ≤ (a0.toNat : Int))) && (decide ((a0.toNat : Int) ≤ 57))))] (fun P aF => ?_) ?_)
 ·rcases Bool.eq_false_or_eq_true (decide (48 ≤ (a0.toNat : Int))) with ee | ee
  ·simp only [bl.down, simprocAttr, ee]
   (try simp only [bZ.down, simprocAttr, ee] at aF ⊢); exact aF
  ·simp only [bl.down, simprocAttr, ee]
   (try simp only [bZ.down, simprocAttr, ee] at aF ⊢); exact aF
 exact b1 (bt _ (.inl (b9 [.bool ((decide (48 ≤ (a0.toNat : Int))) && (decide ((a0.toNat : Int) ≤ 57)))])))
theorem py (a0 : List UInt8) (r : Bool) (h : qU a0 = some r) : b5 aP 54 [.str a0] (.bool r) [] := by
 refine fe [0] [.tmp 2] Try.func54 Jp (fun fj bt e5 => ?_)
 refine ws _ ?_
 refine b3 bt (fun gH dC ck aQ => ?_)
 refine ws _ ?_
 refine eB ck (fun lI sZ gk ct cy => ?_)
 have lJ : ∀ (n : Nat) (dP : Int), lE a0 n dP = some r → gd aP At lI (I [(0, .str a0), (6, .int .i64 (a0.length : Int)), (7, .int .i64 dP)]) := by
  intro ek
  induction ek with
  | zero => intro dP h; cases (show none = some r from h)
  | succ ek ks =>
   intro dP h
   replace h : qT (lE a0 ek) a0 dP = some r := h
   refine hT gk (fun pr jY gO cw => ?_)
   refine ws _ ?_
   refine b3 gO (fun pv jl jv eY => ?_)
   refine cG h (fun eP h => ?_) (fun eP h => ?_)
   ·simp only [eP, bj.down]
    refine cB (jl _ (.inl ?_))
    refine b3 gO (fun kt gD gg hA => ?_)
    refine eB gg (fun iZ ff e9 iX g_ => ?_)
    refine ws _ ?_
    obtain ⟨aR, fc, h⟩ := bL h
    refine dD (c9 [(0, .str a0), (3, .int .i64 dP), (4, .bool ((decide (97 ≤ (aR.toNat : Int))) && (decide ((aR.toNat : Int) ≤ 122)))), (6, .int .i64 (a0.length : Int)), (7, .int .i64 dP)] (fun P aF => ?_) ?_)
    ·rcases Bool.eq_false_or_eq_true (decide (97 ≤ (aR.toNat : Int))) with ji | ji
     ·simp only [bl.down, simprocAttr, dI, fc, ji]
      (try simp only [bZ.down, simprocAttr, fc, ji] at aF ⊢); exact aF
     ·simp only [bl.down, simprocAttr, dI, fc, ji]
      (try simp only [bZ.down, simprocAttr, fc, ji] at aF ⊢); exact aF
    rcases iD h with ⟨kv, h⟩ | ⟨kv, h⟩
    ·rcases iD h with ⟨lN, h⟩ | ⟨lN, h⟩
     ·refine eS (And.intro kv lN) _ ?_
      refine lu rfl ?_
      refine ws _ ?_
      exact b1 (e9 _ (.inl (b9 [.bool false])))
     ·obtain ⟨aQ, pw, h⟩ := bL h
      refine dD (c9 [(0, .str a0), (6, .int .i64 (a0.length : Int)), (7, .int .i64 dP), (32, .bool (!aQ))] (fun P aF => ?_) ?_)
      ·simp only [bl.down, simprocAttr, dI, kv, lN, fc]
       refine sj (MQ aR _ pw) rfl rfl rfl rfl (.inl (by rfl)) ?_
       simp only [bl.down, simprocAttr, dI, kv, lN, fc]
       (try simp only [bZ.down, simprocAttr, kv, lN, fc] at aF ⊢); exact aF
      refine cG h (fun gZ h => ?_) (fun gZ h => ?_)
      ·simp only [(fN gZ), bj.down]
       refine ws _ ?_
       exact b1 (e9 _ (.inl (b9 [.bool false])))
      ·simp only [(dO gZ), bj.down]
       refine cB (ff _ (gD _ (.inl ?_)))
       refine wr _ ?_
       exact jY _ (.inr ⟨_, dN rfl, ks (IntKind.i64.wrap (dP + 1)) h⟩)
    ·refine eS kv _ ?_
     refine qD rfl ?_
     refine cB (ff _ (gD _ (.inl ?_)))
     refine wr _ ?_
     exact jY _ (.inr ⟨_, dN rfl, ks (IntKind.i64.wrap (dP + 1)) h⟩)
   ·simp only [eP, bj.down]
    refine hP (eY 0 _ (cw 0 _ (ct _ (dC _ (.inl ?_)))))
    refine dD (c9 [(2, .bool ((decide (1 ≤ (a0.length : Int))) && (decide ((a0.length : Int) ≤ 10))))] (fun P aF => ?_) ?_)
    ·rcases Bool.eq_false_or_eq_true (decide (1 ≤ (a0.length : Int))) with rf | rf
     ·simp only [bl.down, simprocAttr, dI, rf]
      (try simp only [bZ.down, simprocAttr, rf] at aF ⊢); exact aF
     ·simp only [bl.down, simprocAttr, dI, rf]
      (try simp only [bZ.down, simprocAttr, rf] at aF ⊢); exact aF
    exact b1 (bt _ (.inl (b9 [.bool ((decide (1 ≤ (a0.length : Int))) && (decide ((a0.length : Int) ≤ 10)))])))
 obtain ⟨n, h⟩ := hB h
 exact hQ (.inr ⟨_, dN rfl, lJ n 0 h⟩)
theorem wa (a0 : Int) (a7 : Int) (a2 : Int) (r : Bool) (h : qV a0 a7 a2 = some r) : b5 aP 97 [.int .i64 a0, .int .i64 a7, .int .i64 a2] (.bool r) [] := by
 refine fe [0, 1, 2] [.tmp 6] Try.func97 Js (fun fj bt e5 => ?_)
 refine ws _ ?_
 refine dD (c9 [(6, .bool ((decide (a7 ≤ a0)) && (decide (a0 ≤ a2))))] (fun P aF => ?_) ?_)
 ·rcases Bool.eq_false_or_eq_true (decide (a7 ≤ a0)) with ee | ee
  ·simp only [bl.down, simprocAttr, ee]
   (try simp only [bZ.down, simprocAttr, ee] at aF ⊢); exact aF
  ·simp only [bl.down, simprocAttr, ee]
   (try simp only [bZ.down, simprocAttr, ee] at aF ⊢); exact aF
 exact b1 (bt _ (.inl (b9 [.bool ((decide (a7 ≤ a0)) && (decide (a0 ≤ a2)))])))
theorem MR (a0 : List UInt8) (a7 : Int) (r : Int) (h : qW a0 a7 = some r) : b5 aP 96 [.str a0, .int .i64 a7] (.int .i64 r) [] := by
 refine fe [0, 1] [.tmp 4] Try.func96 JM (fun fj bt e5 => ?_)
 refine ws _ ?_
 refine b3 bt (fun gH dC ck aQ => ?_)
 obtain ⟨aR, bX, h⟩ := bL h
 refine lF (wa a7 0 65535 _ bX) _ ?_
 refine cG h (fun hK h => ?_) (fun hK h => ?_)
 ·simp only [(fN hK), bj.down]
  refine ws _ ?_
  exact b1 (ck _ (.inl (b9 [.int .i64 0])))
 ·simp only [(dO hK), bj.down]
  refine cB (dC _ (.inl ?_))
  refine ws _ ?_
  refine b3 bt (fun nS px lL hX => ?_)
  refine ws _ ?_
  refine eB lL (fun iZ ff e9 iX g_ => ?_)
  have ra : ∀ (n : Nat) (dJ : Int) (jT : Int), jU a0 n dJ jT = some r → gd aP Aw iZ (I [(0, .str a0), (5, .int .i64 dJ), (12, .int .i64 (a0.length : Int)), (13, .int .i64 jT)]) := by
   intro hZ
   induction hZ with
   | zero => intro dJ jT h; cases (show none = some r from h)
   | succ hZ rb =>
    intro dJ jT h
    replace h : vN (jU a0 hZ) a0 dJ jT = some r := h
    refine hT e9 (fun s3 lM nV nW => ?_)
    refine ws _ ?_
    refine b3 nV (fun q_ jZ ku nT => ?_)
    refine cG h (fun iy h => ?_) (fun iy h => ?_)
    ·simp only [iy, bj.down]
     refine cB (jZ _ (.inl ?_))
     refine b3 nV (fun q5 kq kr nP => ?_)
     refine eB kr (fun AK q6 vT kv sY => ?_)
     refine ws _ ?_
     obtain ⟨aQ, pw, h⟩ := bL h
     refine eS (And.intro pw (@gu aP 5 2 .i64 rfl rfl)) _ ?_
     refine ws _ ?_
     refine eB vT (fun AP vV AQ gh ME => ?_)
     have MS : ∀ (n : Nat) (iw : Int) (iV : Int) (jg : Int), nH (jU a0 hZ) a0 n iw iV jg = some r → gd aP Av AP (I [(0, .str a0), (5, .int .i64 iw), (12, .int .i64 (a0.length : Int)), (13, .int .i64 iV), (23, .int .i64 jg)]) := by
      intro m32
      induction m32 with
      | zero => intro iw iV jg h; cases (show none = some r from h)
      | succ m32 MT =>
       intro iw iV jg h
       replace h : vM (jU a0 hZ) (nH (jU a0 hZ) a0 m32) a0 iw iV jg = some r := h
       refine hT AQ (fun AZ wb s5 A0 => ?_)
       refine ws _ ?_
       refine b3 s5 (fun MH vY AV AW => ?_)
       refine cG h (fun wc h => ?_) (fun wc h => ?_)
       ·simp only [wc, bj.down]
        refine cB (vY _ (.inl ?_))
        have A1 : ∀ (pg : Int) (ph : Int) (pj : Int), sK (jU a0 hZ) (nH (jU a0 hZ) a0 m32) a0 pg ph pj = some r → cg aP Au AZ (I [(0, .str a0), (5, .int .i64 pg), (12, .int .i64 (a0.length : Int)), (13, .int .i64 ph), (23, .int .i64 pj)]) := by
         intro pg ph pj h
         refine wr _ ?_
         exact wb _ (.inr ⟨_, dN rfl, MT pg ph (IntKind.i64.wrap (pj + 1)) h⟩)
        refine b3 s5 (fun A2 pz rh A3 => ?_)
        refine eB rh (fun OU A4 OV eC OW => ?_)
        refine ws _ ?_
        refine ws _ ?_
        refine cG h (fun nY h => ?_) (fun nY h => ?_)
        ·simp only [nY, bj.down]
         refine wr _ ?_
         exact A4 _ (pz _ (.inr ⟨_, dN rfl, A1 (bitsOf .xor .i64 (bitsOf .and .i64 (IntKind.i64.wrap (iw * 2)) 65535) 4129) iV jg h⟩))
        ·simp only [nY, bj.down]
         exact cB (A4 _ (pz _ (.inr ⟨_, dN rfl, A1 (IntKind.i64.wrap (iw * 2)) iV jg h⟩)))
       ·simp only [wc, bj.down]
        refine hP (AW 2 _ (A0 2 _ (gh _ (q6 _ (kq _ (.inl ?_))))))
        refine wr _ ?_
        exact lM _ (.inr ⟨_, dN rfl, rb iw (IntKind.i64.wrap (iV + 1)) h⟩)
     obtain ⟨n, h⟩ := hB h
     exact hQ (.inr ⟨_, dN rfl, MS n (bitsOf .xor .i64 dJ (IntKind.i64.wrap ((aQ.toNat : Int) * 256))) jT 0 h⟩)
    ·simp only [iy, bj.down]
     refine hP (nT 0 _ (nW 0 _ (iX _ (px _ (.inl ?_)))))
     refine ws _ ?_
     exact b1 (bt _ (.inl (b9 [.int .i64 dJ])))
  obtain ⟨n, h⟩ := hB h
  exact hQ (.inr ⟨_, dN rfl, ra n a7 0 h⟩)
theorem MU (a0 : List UInt8) (r : Int × Int) (h : sM a0 = some r) : b5 aP 55 [.str a0] (.tuple [.int .i64 r.1, .int .i64 r.2]) [] := by
 refine fe [0] [.tmp 2, .tmp 3] Try.func55 J1 (fun fj bt e5 => ?_)
 refine ws _ ?_
 refine b3 bt (fun gH dC ck aQ => ?_)
 refine ws _ ?_
 refine cG h (fun ct h => ?_) (fun ct h => ?_)
 ·simp only [ct, bj.down]
  refine ws _ ?_
  exact b1 (ck _ (.inl (b9 [.int .i64 0, .int .i64 11])))
 ·simp only [ct, bj.down]
  refine cB (dC _ (.inl ?_))
  obtain ⟨aR, bc, h⟩ := bL h
  refine eS bc _ ?_
  obtain ⟨aQ, ho, h⟩ := bL h
  refine lF (MR aR 65535 _ ho) _ ?_
  obtain ⟨a_, m6, h⟩ := bL h
  refine eS (And.intro m6 (@gu aP 5 2 .i64 rfl rfl)) _ ?_
  refine b3 bt (fun sX pq nM vS => ?_)
  refine eB nM (fun q_ jZ ku jm nT => ?_)
  obtain ⟨cy, jq, h⟩ := bL h
  obtain ⟨cw, hY, h⟩ := bL h
  refine hO rfl (hR [(0, .str a0), (6, .int .i64 (a_.toNat : Int)), (20, .bool ((IntKind.i64.wrap ((IntKind.i64.wrap ((cy.toNat : Int) * 256)) + (cw.toNat : Int))) != aQ))] (fun P aF => ?_) ?_)
  ·simp only [ez.down, simprocAttr, dI, jq, @gu aP 5 2 .i64 rfl rfl, hY]
   refine ⟨hS (by kernel_rfl), ?_⟩
   (try simp only [bZ.down, simprocAttr, jq, @gu aP 5 2 .i64 rfl rfl, hY] at aF ⊢); exact aF
  refine cG h (fun lN h => ?_) (fun lN h => ?_)
  ·simp only [lN, bj.down]
   refine ws _ ?_
   exact b1 (ku _ (.inl (b9 [.int .i64 0, .int .i64 10])))
  ·simp only [lN, bj.down]
   obtain ⟨cD, pA, h⟩ := bL h
   refine dD (c9 [(6, .int .i64 (a_.toNat : Int)), (37, .bool ((!cD) || (decide (6000 < (a0.length : Int)))))] (fun P aF => ?_) ?_)
   ·rcases Bool.eq_false_or_eq_true (cD) with jr | jr
    ·simp only [bl.down, simprocAttr, dI, jr]
     refine fV (wa (a_.toNat : Int) 1 3 _ pA) rfl rfl rfl rfl (.inl (by rfl)) ?_
     simp only [bl.down, simprocAttr, dI, jr]
     (try simp only [bZ.down, simprocAttr, jr] at aF ⊢); exact aF
    ·simp only [bl.down, simprocAttr, dI, jr]
     refine fV (wa (a_.toNat : Int) 1 3 _ pA) rfl rfl rfl rfl (.inl (by rfl)) ?_
     simp only [bl.down, simprocAttr, dI, jr]
     (try simp only [bZ.down, simprocAttr, jr] at aF ⊢); exact aF
   refine cG h (fun kx h => ?_) (fun kx h => ?_)
   ·simp only [kx, bj.down]
    refine ws _ ?_
    exact b1 (ku _ (.inl (b9 [.int .i64 0, .int .i64 9])))
   ·simp only [kx, bj.down]
    refine cB (jZ _ (pq _ (.inl ?_)))
    refine ws _ ?_
    exact b1 (bt _ (.inl (b9 [.int .i64 (a_.toNat : Int), .int .i64 0])))
theorem s6 (a0 : List UInt8) (r : Bool) (h : pk a0 = some r) : b5 aP 85 [.str a0] (.bool r) [] := by
 refine fe [0] [.tmp 2] Try.func85 J5 (fun fj bt e5 => ?_)
 refine ws _ ?_
 obtain ⟨aR, bg, h⟩ := bL h
 refine lF (MU a0 _ bg) _ ?_
 refine ws _ ?_
 exact b1 (bt _ (.inl (b9 [.bool (aR.2 == 0)])))
theorem MV (a0 : List UInt8) (r : a6 × Int × Bool) (h : sN a0 = some r) : b5 aP 46 [.str a0] (.tuple [aL r.1, .int .i64 r.2.1, .bool r.2.2]) [] := by
 refine fe [0] [.cell 2 37, .tmp 3, .tmp 4] Try.func46 Kk (fun fj bt e5 => ?_)
 refine ws _ ?_
 refine eS (show ∀ s, cI aP s 116 [(0, .str a0)] = some (.agg [.str a0, .bool false], s) from fun s => by kernel_rfl) _ ?_
 obtain ⟨aR, bX, h⟩ := bL h
 refine dD (c9 [(0, .str a0), (2, .bb (.agg [.str ([] : List UInt8), .str ([] : List UInt8)])), (5, .bb (.agg [.str aR.2.1, .bool aR.2.2])), (6, .int .i64 aR.1)] (fun P aF => ?_) ?_)
 ·simp only [bl.down, simprocAttr]
  refine my [⟨.h 5 [], true, _, _⟩] (s4 a0 false _ bX) rfl rfl rfl (by simp only [bl.down, simprocAttr, lx, mz, mA, gV, gW, gX, gB, or_true, true_or]) rfl rfl (.inl rfl) ?_
  simp only [bl.down, simprocAttr, mB]
  (try simp only [bZ.down, simprocAttr] at aF ⊢); exact aF
 obtain ⟨aQ, bh, h⟩ := bL h
 refine dD (c9 [(0, .str a0), (2, .bb (.agg [.str ([] : List UInt8), .str ([] : List UInt8)])), (5, .bb (.agg [.str aQ.2.1, .bool aQ.2.2])), (6, .int .i64 aR.1), (7, .int .i64 aQ.1)] (fun P aF => ?_) ?_)
 ·simp only [bl.down, simprocAttr]
  refine my [⟨.h 5 [], true, _, _⟩] (s4 aR.2.1 aR.2.2 _ bh) rfl rfl rfl (by simp only [bl.down, simprocAttr, lx, mz, mA, gV, gW, gX, gB, or_true, true_or]) rfl rfl (.inl rfl) ?_
  simp only [bl.down, simprocAttr, mB]
  (try simp only [bZ.down, simprocAttr] at aF ⊢); exact aF
 refine b3 bt (fun pv jl jv eY => ?_)
 refine dD (c9 [(0, .str a0), (2, .bb (.agg [.str ([] : List UInt8), .str ([] : List UInt8)])), (5, .bb (.agg [.str aQ.2.1, .bool aQ.2.2])), (7, .int .i64 aQ.1), (26, .bool ((aR.1 != 35) || (decide ((aQ.2.1.length : Int) < aQ.1))))] (fun P aF => ?_) ?_)
 ·rcases Bool.eq_false_or_eq_true (aR.1 != 35) with ri | ri
  ·simp only [bl.down, simprocAttr, kU, dI, kV, ri]
   (try simp only [bZ.down, simprocAttr, ri] at aF ⊢); exact aF
  ·simp only [bl.down, simprocAttr, kU, dI, kV, ri]
   (try simp only [bZ.down, simprocAttr, ri] at aF ⊢); exact aF
 refine cG h (fun iX h => ?_) (fun iX h => ?_)
 ·simp only [iX, bj.down]
  refine eS (show ∀ s, cI aP s 37 [] = some (.agg [.str ([] : List UInt8), .str ([] : List UInt8)], s) from fun s => by kernel_rfl) _ ?_
  exact b1 (jv _ (.inl (b9 [aL (a6.mk ([] : List UInt8) ([] : List UInt8)), .int .i64 0, .bool false])))
 ·simp only [iX, bj.down]
  refine cB (jl _ (.inl ?_))
  obtain ⟨a_, fc, h⟩ := bL h
  refine eS (And.intro fc (show ∀ s, cI aP s 37 [(0, .str a_)] = some (.agg [.str a_, .str ([] : List UInt8)], s) from fun s => by kernel_rfl)) _ ?_
  obtain ⟨cy, jq, h⟩ := bL h
  refine eS jq _ ?_
  obtain ⟨cw, eZ, h⟩ := bL h
  obtain ⟨cD, iA, h⟩ := bL h
  refine dD (c9 [(0, .str a0), (2, .bb (.agg [.str ([] : List UInt8), .str ([] : List UInt8)])), (5, .bb (.agg [.str cD.2.1, .bool cD.2.2])), (7, .int .i64 (IntKind.i64.wrap ((IntKind.i64.wrap (cw.1 * 256)) + cD.1))), (8, .bb (.agg [.str a_, .str ([] : List UInt8)]))] (fun P aF => ?_) ?_)
  ·simp only [bl.down, simprocAttr]
   refine my [⟨.h 5 [], true, _, _⟩] (s4 cy aQ.2.2 _ eZ) rfl rfl rfl (by simp only [bl.down, simprocAttr, lx, mz, mA, gV, gW, gX, gB, or_true, true_or]) rfl rfl (.inl rfl) ?_
   simp only [bl.down, simprocAttr, mB]
   refine my [⟨.h 5 [], true, _, _⟩] (s4 cw.2.1 cw.2.2 _ iA) rfl rfl rfl (by simp only [bl.down, simprocAttr, lx, mz, mA, gV, gW, gX, gB, or_true, true_or]) rfl rfl (.inl rfl) ?_
   simp only [bl.down, simprocAttr, mB]
   (try simp only [bZ.down, simprocAttr] at aF ⊢); exact aF
  refine b3 bt (fun AL nQ q7 AM => ?_)
  refine dD (c9 [(0, .str a0), (2, .bb (.agg [.str ([] : List UInt8), .str ([] : List UInt8)])), (5, .bb (.agg [.str cD.2.1, .bool cD.2.2])), (7, .int .i64 (IntKind.i64.wrap ((IntKind.i64.wrap (cw.1 * 256)) + cD.1))), (8, .bb (.agg [.str a_, .str ([] : List UInt8)])), (62, .bool (cD.2.2 || (decide ((cD.2.1.length : Int) < (IntKind.i64.wrap ((IntKind.i64.wrap (cw.1 * 256)) + cD.1))))))] (fun P aF => ?_) ?_)
  ·rcases Bool.eq_false_or_eq_true (cD.2.2) with jr | jr
   ·simp only [bl.down, simprocAttr, kU, dI, kV, jr]
    (try simp only [bZ.down, simprocAttr, jr] at aF ⊢); exact aF
   ·simp only [bl.down, simprocAttr, kU, dI, kV, jr]
    (try simp only [bZ.down, simprocAttr, jr] at aF ⊢); exact aF
  refine cG h (fun kx h => ?_) (fun kx h => ?_)
  ·simp only [kx, bj.down]
   refine eS (show ∀ s, cI aP s 37 [] = some (.agg [.str ([] : List UInt8), .str ([] : List UInt8)], s) from fun s => by kernel_rfl) _ ?_
   exact b1 (q7 _ (.inl (b9 [aL (a6.mk ([] : List UInt8) ([] : List UInt8)), .int .i64 0, .bool false])))
  ·simp only [kx, bj.down]
   refine cB (nQ _ (.inl ?_))
   obtain ⟨eY, lH, h⟩ := bL h
   refine eS lH _ ?_
   obtain ⟨hX, nX, h⟩ := bL h
   rcases iD h with ⟨eC, h⟩ | ⟨eC, h⟩
   ·obtain ⟨hA, MW, h⟩ := bL h
    refine hO rfl (hR [(2, .bb (.agg [.str a_, .str eY])), (3, .int .i64 (IntKind.i64.wrap ((IntKind.i64.wrap ((a0.length : Int) - (cD.2.1.length : Int))) + (IntKind.i64.wrap ((IntKind.i64.wrap (cw.1 * 256)) + cD.1))))), (4, .bool hA)] (fun P aF => ?_) ?_)
    ·simp only [ez.down, simprocAttr, kU, dI, ir, kV, eC]
     refine jb (py a_ _ nX) rfl rfl rfl rfl (.inl (by rfl)) ?_
     simp only [ez.down, simprocAttr, kU, dI, ir, kV, eC]
     refine sk (s6 eY _ MW) rfl rfl rfl rfl (.inl (by rfl)) ?_
     simp only [ez.down, simprocAttr, kU, dI, ir, kV, eC]
     refine ⟨hS (by kernel_rfl), ?_⟩
     (try simp only [bZ.down, simprocAttr, eC] at aF ⊢); exact aF
    exact b1 (bt _ (.inl (b9 [aL (a6.mk a_ eY), .int .i64 (IntKind.i64.wrap ((IntKind.i64.wrap ((a0.length : Int) - (cD.2.1.length : Int))) + (IntKind.i64.wrap ((IntKind.i64.wrap (cw.1 * 256)) + cD.1)))), .bool hA])))
   ·refine hO rfl (hR [(2, .bb (.agg [.str a_, .str eY])), (3, .int .i64 (IntKind.i64.wrap ((IntKind.i64.wrap ((a0.length : Int) - (cD.2.1.length : Int))) + (IntKind.i64.wrap ((IntKind.i64.wrap (cw.1 * 256)) + cD.1))))), (4, .bool false)] (fun P aF => ?_) ?_)
    ·simp only [ez.down, simprocAttr, kU, dI, ir, kV, eC]
     refine jb (py a_ _ nX) rfl rfl rfl rfl (.inl (by rfl)) ?_
     simp only [ez.down, simprocAttr, kU, dI, ir, kV, eC]
     refine ⟨hS (by kernel_rfl), ?_⟩
     (try simp only [bZ.down, simprocAttr, eC] at aF ⊢); exact aF
    exact b1 (bt _ (.inl (b9 [aL (a6.mk a_ eY), .int .i64 (IntKind.i64.wrap ((IntKind.i64.wrap ((a0.length : Int) - (cD.2.1.length : Int))) + (IntKind.i64.wrap ((IntKind.i64.wrap (cw.1 * 256)) + cD.1)))), .bool false])))
theorem MX (a0 : List a6) (r : Bool) (h : sP a0 = some r) : b5 aP 41 [.slice (a0.map aL)] (.bool r) [] := by
 refine fe [0] [.tmp 2] Try.func41 Kv (fun fj bt e5 => ?_)
 refine ws _ ?_
 refine b3 bt (fun gH dC ck aQ => ?_)
 refine ws _ ?_
 refine eB ck (fun lI sZ gk ct cy => ?_)
 have lJ : ∀ (n : Nat) (dP : Int), pn a0 n dP = some r → gd aP Ax lI (I [(0, .slice (a0.map aL)), (5, .slice (a0.map aL)), (6, .int .i64 (a0.length : Int)), (7, .int .i64 dP)]) := by
  intro ek
  induction ek with
  | zero => intro dP h; cases (show none = some r from h)
  | succ ek ks =>
   intro dP h
   replace h : sO (pn a0 ek) a0 dP = some r := h
   refine hT gk (fun pr jY gO cw => ?_)
   refine ws _ ?_
   refine b3 gO (fun pv jl jv eY => ?_)
   refine cG h (fun eP h => ?_) (fun eP h => ?_)
   ·simp only [eP, bj.down]
    refine cB (jl _ (.inl ?_))
    refine b3 gO (fun kt gD gg hA => ?_)
    refine eB gg (fun iZ ff e9 iX g_ => ?_)
    obtain ⟨aR, iH, h⟩ := bL h
    refine eS iH _ ?_
    obtain ⟨aQ, mK, h⟩ := bL h
    rcases iD h with ⟨fO, h⟩ | ⟨fO, h⟩
    ·refine hO rfl (hR [(0, .slice (a0.map aL)), (5, .slice (a0.map aL)), (6, .int .i64 (a0.length : Int)), (7, .int .i64 dP), (36, .bool true)] (fun P aF => ?_) ?_)
     ·simp only [ez.down, simprocAttr, eg.down, (fN fO)]
      refine jb (py aR.Name _ mK) rfl rfl rfl rfl (.inl (by rfl)) ?_
      simp only [ez.down, simprocAttr, eg.down, (fN fO)]
      refine ⟨hS (by kernel_rfl), ?_⟩
      (try simp only [bZ.down, simprocAttr, aL, (fN fO)] at aF ⊢); exact aF
     refine lu rfl ?_
     refine ws _ ?_
     exact b1 (e9 _ (.inl (b9 [.bool false])))
    ·obtain ⟨a_, eZ, h⟩ := bL h
     rcases iD h with ⟨gf, h⟩ | ⟨gf, h⟩
     ·refine hO rfl (hR [(0, .slice (a0.map aL)), (5, .slice (a0.map aL)), (6, .int .i64 (a0.length : Int)), (7, .int .i64 dP), (36, .bool true)] (fun P aF => ?_) ?_)
      ·simp only [ez.down, simprocAttr, eg.down, (dO fO), (fN gf)]
       refine jb (py aR.Name _ mK) rfl rfl rfl rfl (.inl (by rfl)) ?_
       simp only [ez.down, simprocAttr, eg.down, (dO fO), (fN gf)]
       refine sk (s6 aR.bx _ eZ) rfl rfl rfl rfl (.inl (by rfl)) ?_
       simp only [ez.down, simprocAttr, eg.down, (dO fO), (fN gf)]
       refine ⟨hS (by kernel_rfl), ?_⟩
       (try simp only [bZ.down, simprocAttr, aL, (dO fO), (fN gf)] at aF ⊢); exact aF
      refine lu rfl ?_
      refine ws _ ?_
      exact b1 (e9 _ (.inl (b9 [.bool false])))
     ·rcases iD h with ⟨gZ, h⟩ | ⟨gZ, h⟩
      ·obtain ⟨cy, lK, h⟩ := bL h
       refine hO rfl (hR [(0, .slice (a0.map aL)), (5, .slice (a0.map aL)), (6, .int .i64 (a0.length : Int)), (7, .int .i64 dP), (36, .bool (Op.bytesLess aR.Name cy.Name || aR.Name == cy.Name))] (fun P aF => ?_) ?_)
       ·simp only [ez.down, simprocAttr, eg.down, (dO fO), (dO gf), gZ, lK]
        refine jb (py aR.Name _ mK) rfl rfl rfl rfl (.inl (by rfl)) ?_
        simp only [ez.down, simprocAttr, eg.down, (dO fO), (dO gf), gZ, lK]
        refine sk (s6 aR.bx _ eZ) rfl rfl rfl rfl (.inl (by rfl)) ?_
        simp only [ez.down, simprocAttr, eg.down, (dO fO), (dO gf), gZ, lK]
        refine ⟨hS (by kernel_rfl), ?_⟩
        (try simp only [bZ.down, simprocAttr, aL, (dO fO), (dO gf), gZ, lK] at aF ⊢); exact aF
       refine cG h (fun kx h => ?_) (fun kx h => ?_)
       ·simp only [kx, bj.down]
        refine ws _ ?_
        exact b1 (e9 _ (.inl (b9 [.bool false])))
       ·simp only [kx, bj.down]
        refine cB (ff _ (gD _ (.inl ?_)))
        refine wr _ ?_
        exact jY _ (.inr ⟨_, dN rfl, ks (IntKind.i64.wrap (dP + 1)) h⟩)
      ·refine hO rfl (hR [(0, .slice (a0.map aL)), (5, .slice (a0.map aL)), (6, .int .i64 (a0.length : Int)), (7, .int .i64 dP), (36, .bool false)] (fun P aF => ?_) ?_)
       ·simp only [ez.down, simprocAttr, eg.down, (dO fO), (dO gf), gZ]
        refine jb (py aR.Name _ mK) rfl rfl rfl rfl (.inl (by rfl)) ?_
        simp only [ez.down, simprocAttr, eg.down, (dO fO), (dO gf), gZ]
        refine sk (s6 aR.bx _ eZ) rfl rfl rfl rfl (.inl (by rfl)) ?_
        simp only [ez.down, simprocAttr, eg.down, (dO fO), (dO gf), gZ]
        refine ⟨hS (by kernel_rfl), ?_⟩
        (try simp only [bZ.down, simprocAttr, aL, (dO fO), (dO gf), gZ] at aF ⊢); exact aF
       refine qD rfl ?_
       refine cB (ff _ (gD _ (.inl ?_)))
       refine wr _ ?_
       exact jY _ (.inr ⟨_, dN rfl, ks (IntKind.i64.wrap (dP + 1)) h⟩)
   ·simp only [eP, bj.down]
    refine hP (eY 0 _ (cw 0 _ (ct _ (dC _ (.inl ?_)))))
    refine ws _ ?_
    exact b1 (bt _ (.inl (b9 [.bool (decide ((a0.length : Int) ≤ 16))])))
 obtain ⟨n, h⟩ := hB h
 exact hQ (.inr ⟨_, dN rfl, lJ n 0 h⟩)
theorem A5 (a0 a7 r : List UInt8) (h : mI a0 a7 = some r) : b5 aP 42 [.ch (.dE 64 5 a0), .str a7] .hole [.ch (.dE 64 5 r), .hole] := Mw a0 a7 r h
theorem MY (a0 r : List UInt8) (h : vO a0 = some r) : b5 aP 43 [.ch (.dE 64 5 a0)] (.str r) [.hole] := Mx a0 r h
theorem MZ (a0 : List a6) (r : (List UInt8)) (h : sR a0 = some r) : b5 aP 13 [.slice (a0.map aL)] (.str r) [] := by
 refine fe [0] [.tmp 2] Try.func13 kp (fun fj bt e5 => ?_)
 refine ws _ ?_
 refine b3 bt (fun gH dC ck aQ => ?_)
 obtain ⟨aR, bX, h⟩ := bL h
 refine lF (MX a0 _ bX) _ ?_
 refine cG h (fun hK h => ?_) (fun hK h => ?_)
 ·simp only [(fN hK), bj.down]
  refine ws _ ?_
  exact b1 (ck _ (.inl (b9 [.str ([] : List UInt8)])))
 ·simp only [(dO hK), bj.down]
  refine cB (dC _ (.inl ?_))
  refine ws _ ?_
  obtain ⟨aQ, ho, h⟩ := bL h
  refine dD (c9 [(0, .slice (a0.map aL)), (3, .ch (.dE 64 5 aQ))] (fun P aF => ?_) ?_)
  ·refine my [⟨.h 3 [], true, _, _⟩, ⟨.str ([80, 65] : List UInt8), false, _, .hole⟩] (A5 [] ([80, 65] : List UInt8) _ ho) rfl rfl rfl (by simp only [bl.down, simprocAttr, aL, lx, mz, mA, gV, gW, gX, gB, or_true, true_or]) rfl rfl (.inl rfl) ?_
   simp only [bl.down, simprocAttr, aL, mB]
   (try simp only [bZ.down, simprocAttr, aL] at aF ⊢); exact aF
  refine b3 bt (fun iZ ff e9 g_ => ?_)
  refine ws _ ?_
  refine eB e9 (fun sX pq nM jo vS => ?_)
  have M0 : ∀ (n : Nat) (jV : List UInt8) (jh : Int), sQ a0 n jV jh = some r → gd aP Ay sX (I [(3, .ch (.dE 64 5 jV)), (11, .slice (a0.map aL)), (12, .int .i64 (a0.length : Int)), (13, .int .i64 jh)]) := by
   intro we
   induction we with
   | zero => intro jV jh h; cases (show none = some r from h)
   | succ we M1 =>
    intro jV jh h
    replace h : Ak (sQ a0 we) a0 jV jh = some r := h
    refine hT nM (fun q_ jZ ku nT => ?_)
    refine ws _ ?_
    refine b3 ku (fun q5 kq kr nP => ?_)
    refine cG h (fun kv h => ?_) (fun kv h => ?_)
    ·simp only [kv, bj.down]
     refine cB (kq _ (.inl ?_))
     refine b3 ku (fun AS q8 q9 AU => ?_)
     refine eB q9 (fun A6 rj s7 gf A7 => ?_)
     obtain ⟨a_, pA, h⟩ := bL h
     refine eS pA _ ?_
     refine ws _ ?_
     obtain ⟨wg, jX, h⟩ := bL h
     (try simp only [List.length_append, List.length_cons, List.length_nil, List.length_map, List.length_replicate, Nat.zero_add, Nat.add_zero, Nat.reduceAdd] at jX)
     obtain ⟨wg, lO, h⟩ := bL h
     (try simp only [List.length_append, List.length_cons, List.length_nil, List.length_map, List.length_replicate, Nat.zero_add, Nat.add_zero, Nat.reduceAdd] at lO)
     obtain ⟨wg, lH, h⟩ := bL h
     (try simp only [List.length_append, List.length_cons, List.length_nil, List.length_map, List.length_replicate, Nat.zero_add, Nat.add_zero, Nat.reduceAdd] at lH)
     obtain ⟨wg, kY, h⟩ := bL h
     (try simp only [List.length_append, List.length_cons, List.length_nil, List.length_map, List.length_replicate, Nat.zero_add, Nat.add_zero, Nat.reduceAdd] at kY)
     obtain ⟨cy, nX, h⟩ := bL h
     refine o7 (c9 [(3, .ch (.dE 64 5 cy)), (11, .slice (a0.map aL)), (12, .int .i64 (a0.length : Int)), (13, .int .i64 jh)] (fun P aF => ?_) ?_)
     ·simp only [bl.down, simprocAttr, qM, dI, ir, qN, fy, aL, @gu aP 3 5 .u8 rfl rfl, (show ∀ s, cM aP s 62 1 [(0, .int .u8 (IntKind.u8.wrap (a_.Name.length : Int)))] = some (.aJ 1 [.int .u8 (IntKind.u8.wrap (a_.Name.length : Int))], s) from fun s => by kernel_rfl), (@mu aP 62 9 5 rfl rfl rfl).2.2, mw, mv, jX, jc, jd, lO, @nA .i64 256 (by decide), @mx .i64 256 (by decide), (show ∀ s, cM aP s 62 2 [(0, .int .u8 (IntKind.u8.wrap (IntKind.i64.wrap (Int.tdiv (a_.bx.length : Int) 256)))), (1, .int .u8 (IntKind.u8.wrap (Int.tmod (a_.bx.length : Int) 256)))] = some (.aJ 1 [.int .u8 (IntKind.u8.wrap (IntKind.i64.wrap (Int.tdiv (a_.bx.length : Int) 256))), .int .u8 (IntKind.u8.wrap (Int.tmod (a_.bx.length : Int) 256))], s) from fun s => by kernel_rfl), lH, kY]
      refine my [⟨.h 3 [], true, _, _⟩, ⟨.str ((((([35] : List UInt8) ++ [(c0 (a_.Name.length : Int))]) ++ a_.Name) ++ [(c0 (IntKind.i64.wrap (Int.tdiv (a_.bx.length : Int) 256))), (c0 (Int.tmod (a_.bx.length : Int) 256))]) ++ a_.bx), false, _, .hole⟩] (A5 jV ((((([35] : List UInt8) ++ [(c0 (a_.Name.length : Int))]) ++ a_.Name) ++ [(c0 (IntKind.i64.wrap (Int.tdiv (a_.bx.length : Int) 256))), (c0 (Int.tmod (a_.bx.length : Int) 256))]) ++ a_.bx) _ nX) rfl rfl rfl (by simp only [bl.down, simprocAttr, qM, dI, ir, qN, fy, aL, @gu aP 3 5 .u8 rfl rfl, (show ∀ s, cM aP s 62 1 [(0, .int .u8 (IntKind.u8.wrap (a_.Name.length : Int)))] = some (.aJ 1 [.int .u8 (IntKind.u8.wrap (a_.Name.length : Int))], s) from fun s => by kernel_rfl), (@mu aP 62 9 5 rfl rfl rfl).2.2, mw, mv, jX, jc, jd, lO, @nA .i64 256 (by decide), @mx .i64 256 (by decide), (show ∀ s, cM aP s 62 2 [(0, .int .u8 (IntKind.u8.wrap (IntKind.i64.wrap (Int.tdiv (a_.bx.length : Int) 256)))), (1, .int .u8 (IntKind.u8.wrap (Int.tmod (a_.bx.length : Int) 256)))] = some (.aJ 1 [.int .u8 (IntKind.u8.wrap (IntKind.i64.wrap (Int.tdiv (a_.bx.length : Int) 256))), .int .u8 (IntKind.u8.wrap (Int.tmod (a_.bx.length : Int) 256))], s) from fun s => by kernel_rfl), lH, kY, lx, mz, mA, gV, gW, gX, gB, or_true, true_or]) rfl rfl (.inl rfl) ?_
      simp only [bl.down, simprocAttr, qM, dI, ir, qN, fy, aL, @gu aP 3 5 .u8 rfl rfl, (show ∀ s, cM aP s 62 1 [(0, .int .u8 (IntKind.u8.wrap (a_.Name.length : Int)))] = some (.aJ 1 [.int .u8 (IntKind.u8.wrap (a_.Name.length : Int))], s) from fun s => by kernel_rfl), (@mu aP 62 9 5 rfl rfl rfl).2.2, mw, mv, jX, jc, jd, lO, @nA .i64 256 (by decide), @mx .i64 256 (by decide), (show ∀ s, cM aP s 62 2 [(0, .int .u8 (IntKind.u8.wrap (IntKind.i64.wrap (Int.tdiv (a_.bx.length : Int) 256)))), (1, .int .u8 (IntKind.u8.wrap (Int.tmod (a_.bx.length : Int) 256)))] = some (.aJ 1 [.int .u8 (IntKind.u8.wrap (IntKind.i64.wrap (Int.tdiv (a_.bx.length : Int) 256))), .int .u8 (IntKind.u8.wrap (Int.tmod (a_.bx.length : Int) 256))], s) from fun s => by kernel_rfl), lH, kY, mB]
      (try simp only [bZ.down, simprocAttr, fy, aL, @gu aP 3 5 .u8 rfl rfl, (show ∀ s, cM aP s 62 1 [(0, .int .u8 (IntKind.u8.wrap (a_.Name.length : Int)))] = some (.aJ 1 [.int .u8 (IntKind.u8.wrap (a_.Name.length : Int))], s) from fun s => by kernel_rfl), (@mu aP 62 9 5 rfl rfl rfl).2.2, mw, mv, jX, jc, jd, lO, @nA .i64 256 (by decide), @mx .i64 256 (by decide), (show ∀ s, cM aP s 62 2 [(0, .int .u8 (IntKind.u8.wrap (IntKind.i64.wrap (Int.tdiv (a_.bx.length : Int) 256)))), (1, .int .u8 (IntKind.u8.wrap (Int.tmod (a_.bx.length : Int) 256)))] = some (.aJ 1 [.int .u8 (IntKind.u8.wrap (IntKind.i64.wrap (Int.tdiv (a_.bx.length : Int) 256))), .int .u8 (IntKind.u8.wrap (Int.tmod (a_.bx.length : Int) 256))], s) from fun s => by kernel_rfl), lH, kY] at aF ⊢); exact aF
     refine rj _ (q8 _ (.inl ?_))
     refine wr _ ?_
     exact jZ _ (.inr ⟨_, dN rfl, M1 cy (IntKind.i64.wrap (jh + 1)) h⟩)
    ·simp only [kv, bj.down]
     refine hP (nP 0 _ (nT 0 _ (jo _ (ff _ (.inl ?_)))))
     obtain ⟨cw, v_, h⟩ := bL h
     refine dD (c9 [(2, .str cw)] (fun P aF => ?_) ?_)
     ·refine my [⟨.h 3 [], true, _, .hole⟩] (MY jV _ v_) rfl rfl rfl (by simp only [bl.down, simprocAttr, aL, lx, mz, mA, gV, gW, gX, gB, or_true, true_or]) rfl rfl (.inl rfl) ?_
      simp only [bl.down, simprocAttr, aL, mB]
      (try simp only [bZ.down, simprocAttr, aL] at aF ⊢); exact aF
     exact b1 (bt _ (.inl (b9 [.str cw])))
  obtain ⟨n, h⟩ := hB h
  exact hQ (.inr ⟨_, dN rfl, M0 n aQ 0 h⟩)
theorem A8 (a0 : List UInt8) (r : (List a6) × Int) (h : qX a0 = some r) : b5 aP 16 [.str a0] (.tuple [.aJ 2 (r.1.map aL), .int .i64 r.2]) [] := by
 refine fe [0] [.tmp 2, .tmp 3] Try.func16 K2 (fun fj bt e5 => ?_)
 refine ws _ ?_
 refine b3 bt (fun gH dC ck aQ => ?_)
 refine ws _ ?_
 refine cG h (fun ct h => ?_) (fun ct h => ?_)
 ·simp only [ct, bj.down]
  refine ws _ ?_
  exact b1 (ck _ (.inr ⟨[(2, .aJ 2 []), (3, .int .i64 11)], mo [] rfl (mr (t := 2) (d := .bu) rfl rfl (.iP _) (by decide) (lv rfl (mq))), b9 [.aJ 2 [], .int .i64 11]⟩))
 ·simp only [ct, bj.down]
  refine cB (dC _ (.inl ?_))
  refine ws _ ?_
  refine b3 bt (fun pv jl jv eY => ?_)
  refine ws _ ?_
  refine eB jv (fun kt gD gg nU hA => ?_)
  have ra : ∀ (n : Nat) (da : List a6) (dJ : Int), po a0 n da dJ = some r → gd aP Az kt (I [(0, .str a0), (4, .aJ 2 (da.map aL)), (5, .int .i64 dJ)]) := by
   intro hZ
   induction hZ with
   | zero => intro da dJ h; cases (show none = some r from h)
   | succ hZ rb =>
    intro da dJ h
    replace h : vP (po a0 hZ) a0 da dJ = some r := h
    refine hT gg (fun iZ ff e9 g_ => ?_)
    refine b3 e9 (fun s3 lM nV nW => ?_)
    refine ws _ ?_
    refine cG h (fun jm h => ?_) (fun jm h => ?_)
    ·simp only [jm, bj.down]
     refine cB (lM _ (.inl ?_))
     refine eB e9 (fun nN kX jj iy q4 => ?_)
     obtain ⟨aR, hY, h⟩ := bL h
     obtain ⟨aQ, eZ, h⟩ := bL h
     refine sW hY (MV aR _ eZ) _ ?_
     refine b3 jj (fun A6 rj s7 A7 => ?_)
     refine dD (c9 [(0, .str a0), (4, .aJ 2 (da.map aL)), (5, .int .i64 dJ), (6, .bb (aL aQ.1)), (7, .int .i64 aQ.2.1), (30, .bool ((!aQ.2.2) || ((da.length : Int) == 16)))] (fun P aF => ?_) ?_)
     ·rcases Bool.eq_false_or_eq_true (aQ.2.2) with jn | jn
      ·simp only [bl.down, simprocAttr, eg.down, jn]
       (try simp only [bZ.down, simprocAttr, aL, jn] at aF ⊢); exact aF
      ·simp only [bl.down, simprocAttr, eg.down, jn]
       (try simp only [bZ.down, simprocAttr, aL, jn] at aF ⊢); exact aF
     refine cG h (fun gh h => ?_) (fun gh h => ?_)
     ·simp only [gh, bj.down]
      refine ws _ ?_
      exact b1 (s7 _ (.inr ⟨[(2, .aJ 2 []), (3, .int .i64 9)], mo [] rfl (mr (t := 2) (d := .bu) rfl rfl (.iP _) (by decide) (lv rfl (mq))), b9 [.aJ 2 [], .int .i64 9]⟩))
     ·simp only [gh, bj.down]
      refine cB (rj _ (.inl ?_))
      obtain ⟨OX, lO, h⟩ := bL h
      (try simp only [List.length_append, List.length_cons, List.length_nil, List.length_map, List.length_replicate, Nat.zero_add, Nat.add_zero, Nat.reduceAdd] at lO)
      refine dD (c9 [(0, .str a0), (4, .aJ 2 ((da ++ [aQ.1]).map aL)), (5, .int .i64 dJ), (7, .int .i64 aQ.2.1)] (fun P aF => ?_) ?_)
      ·simp only [bl.down, simprocAttr, eg.down, (show ∀ s, cM aP s 25 1 [(0, .agg [.str aQ.1.Name, .str aQ.1.bx])] = some (.aJ 2 [.agg [.str aQ.1.Name, .str aQ.1.bx]], s) from fun s => by kernel_rfl), @sn aP 25 25 37 rfl rfl, so, sq, sr, all_cons, all_nil, lO, @sl _ aL 2 (fun _ => rfl)]
       (try simp only [bZ.down, simprocAttr, aL, (show ∀ s, cM aP s 25 1 [(0, .agg [.str aQ.1.Name, .str aQ.1.bx])] = some (.aJ 2 [.agg [.str aQ.1.Name, .str aQ.1.bx]], s) from fun s => by kernel_rfl), @sn aP 25 25 37 rfl rfl, so, sq, sr, all_cons, all_nil, lO, @sl _ aL 2 (fun _ => rfl)] at aF ⊢); exact aF
      refine wr [(0, .str a0), (4, .aJ 2 ((da ++ [aQ.1]).map aL)), (5, .int .i64 (IntKind.i64.wrap (dJ + aQ.2.1)))] ?_
      exact kX _ (ff _ (.inr ⟨_, dN rfl, rb (da ++ [aQ.1]) (IntKind.i64.wrap (dJ + aQ.2.1)) h⟩))
    ·simp only [jm, bj.down]
     refine hP (nW 0 _ (g_ 0 _ (nU _ (jl _ (.inl ?_)))))
     refine b3 bt (fun A2 pz rh A3 => ?_)
     obtain ⟨a_, M3, h⟩ := bL h
     refine dD (c9 [(4, .aJ 2 (da.map aL)), (41, .bool (!(a_ == a0)))] (fun P aF => ?_) ?_)
     ·simp only [bl.down, simprocAttr, aL]
      refine fV (MZ da _ M3) rfl rfl (by simp only [bl.down, simprocAttr, aL, gV, gW, gX, gB, @ik _ aL aL (fun _ => ix _)] <;> rfl) rfl (.inr (by rfl)) ?_
      simp only [bl.down, simprocAttr, aL]
      (try simp only [bZ.down, simprocAttr, aL] at aF ⊢); exact aF
     refine cG h (fun wh h => ?_) (fun wh h => ?_)
     ·simp only [wh, bj.down]
      refine ws _ ?_
      exact b1 (rh _ (.inr ⟨[(2, .aJ 2 []), (3, .int .i64 9)], mo [] rfl (mr (t := 2) (d := .bu) rfl rfl (.iP _) (by decide) (lv rfl (mq))), b9 [.aJ 2 [], .int .i64 9]⟩))
     ·simp only [wh, bj.down]
      refine cB (pz _ (.inl ?_))
      refine ws _ ?_
      exact b1 (bt _ (.inl (b9 [.aJ 2 (da.map aL), .int .i64 0])))
  obtain ⟨n, h⟩ := hB h
  exact hQ (.inr ⟨_, mo [] rfl (lv (t := 0) (d := .str a0) rfl (mr (t := 4) (d := .bu) (aS := .aJ 2 []) rfl rfl (.iP _) (by decide) (lv (t := 5) (d := .int .i64 2) rfl (mq)))), ra n [] 2 h⟩)
theorem M4 (a0 : a6) (a7 : a6) (r : Bool) (h : qY a0 a7 = some r) : b5 aP 44 [aL a0, aL a7] (.bool r) [] := by
 refine fe [0, 1] [.tmp 4] Try.func44 La (fun fj bt e5 => ?_)
 refine ws _ ?_
 refine b3 bt (fun gH dC ck aQ => ?_)
 refine ws _ ?_
 refine cG h (fun ct h => ?_) (fun ct h => ?_)
 ·simp only [ct, bj.down]
  refine ws _ ?_
  exact b1 (ck _ (.inl (b9 [.bool false])))
 ·simp only [ct, bj.down]
  refine cB (dC _ (.inl ?_))
  refine b3 bt (fun pt jk i4 cD => ?_)
  refine ws _ ?_
  refine cG h (fun eP h => ?_) (fun eP h => ?_)
  ·simp only [eP, bj.down]
   refine ws _ ?_
   exact b1 (i4 _ (.inl (b9 [.bool false])))
  ·simp only [eP, bj.down]
   refine cB (jk _ (.inl ?_))
   refine ws _ ?_
   exact b1 (bt _ (.inl (b9 [.bool true])))
theorem s8 (a0 : List a6) (a7 : List a6) (r : Bool) (h : qZ a0 a7 = some r) : b5 aP 14 [.slice (a0.map aL), .slice (a7.map aL)] (.bool r) [] := by
 refine fe [0, 1] [.tmp 4] Try.func14 ji (fun fj bt e5 => ?_)
 refine ws _ ?_
 refine b3 bt (fun gH dC ck aQ => ?_)
 refine ws _ ?_
 refine cG h (fun ct h => ?_) (fun ct h => ?_)
 ·simp only [ct, bj.down]
  refine ws _ ?_
  exact b1 (ck _ (.inl (b9 [.bool false])))
 ·simp only [ct, bj.down]
  refine cB (dC _ (.inl ?_))
  refine b3 bt (fun pt jk i4 cD => ?_)
  refine ws _ ?_
  refine eB i4 (fun nS px lL eP hX => ?_)
  have nO : ∀ (n : Nat) (iW : Int), sS a0 a7 n iW = some r → gd aP AA nS (I [(0, .slice (a0.map aL)), (1, .slice (a7.map aL)), (5, .int .i64 iW)]) := by
   intro iz
   induction iz with
   | zero => intro iW h; cases (show none = some r from h)
   | succ iz lG =>
    intro iW h
    replace h : Al (sS a0 a7 iz) a0 a7 iW = some r := h
    refine hT lL (fun kt gD gg hA => ?_)
    refine b3 gg (fun iZ ff e9 g_ => ?_)
    refine ws _ ?_
    refine cG h (fun jo h => ?_) (fun jo h => ?_)
    ·simp only [jo, bj.down]
     refine cB (ff _ (.inl ?_))
     refine b3 gg (fun q_ jZ ku nT => ?_)
     refine eB ku (fun nN kX jj iy q4 => ?_)
     obtain ⟨aR, hY, h⟩ := bL h
     obtain ⟨aQ, eZ, h⟩ := bL h
     obtain ⟨a_, iA, h⟩ := bL h
     refine hO rfl (hR [(0, .slice (a0.map aL)), (1, .slice (a7.map aL)), (5, .int .i64 iW), (26, .bool (!a_))] (fun P aF => ?_) ?_)
     ·simp only [ez.down, simprocAttr, eg.down, hY, eZ]
      refine jb (M4 aR aQ _ iA) rfl rfl rfl rfl (.inl (by rfl)) ?_
      simp only [ez.down, simprocAttr, eg.down, hY, eZ]
      refine ⟨hS (by kernel_rfl), ?_⟩
      (try simp only [bZ.down, simprocAttr, aL, hY, eZ] at aF ⊢); exact aF
     refine cG h (fun i0 h => ?_) (fun i0 h => ?_)
     ·simp only [(fN i0), bj.down]
      refine ws _ ?_
      exact b1 (jj _ (.inl (b9 [.bool false])))
     ·simp only [(dO i0), bj.down]
      refine cB (kX _ (jZ _ (.inl ?_)))
      refine wr _ ?_
      exact gD _ (.inr ⟨_, dN rfl, lG (IntKind.i64.wrap (iW + 1)) h⟩)
    ·simp only [jo, bj.down]
     refine hP (g_ 0 _ (hA 0 _ (eP _ (jk _ (.inl ?_)))))
     refine ws _ ?_
     exact b1 (bt _ (.inl (b9 [.bool true])))
  obtain ⟨n, h⟩ := hB h
  exact hQ (.inr ⟨_, dN rfl, nO n 0 h⟩)
theorem s9 (a0 : Int) (r : (List UInt8)) (h : nI a0 = some r) : b5 aP 47 [.int .i64 a0] (.str r) [] := by
 refine fe [] [.tmp 2] Try.func47 Lx (fun fj bt e5 => ?_)
 refine ws _ ?_
 refine b3 bt (fun gH dC ck aQ => ?_)
 refine ws _ ?_
 refine cG h (fun ct h => ?_) (fun ct h => ?_)
 ·simp only [ct, bj.down]
  refine ws _ ?_
  exact b1 (ck _ (.inl (b9 [.str ([109, 48] : List UInt8)])))
 ·simp only [ct, bj.down]
  refine cB (dC _ (.inl ?_))
  refine ws _ ?_
  refine b3 bt (fun pv jl jv eY => ?_)
  refine eB jv (fun nS px lL eP hX => ?_)
  have nO : ∀ (n : Nat) (gv : Int) (cY : List UInt8), mJ n gv cY = some r → gd aP AB nS (I [(0, .int .i64 gv), (3, .str cY)]) := by
   intro iz
   induction iz with
   | zero => intro gv cY h; cases (show none = some r from h)
   | succ iz lG =>
    intro gv cY h
    replace h : q0 (mJ iz) gv cY = some r := h
    refine hT lL (fun kt gD gg hA => ?_)
    refine b3 gg (fun iZ ff e9 g_ => ?_)
    refine ws _ ?_
    refine cG h (fun jo h => ?_) (fun jo h => ?_)
    ·simp only [jo, bj.down]
     refine cB (ff _ (.inl ?_))
     refine eB gg (fun q_ jZ ku jm nT => ?_)
     obtain ⟨u16, jq, h⟩ := bL h
     (try simp only [List.length_append, List.length_cons, List.length_nil, List.length_map, List.length_replicate, Nat.zero_add, Nat.add_zero, Nat.reduceAdd] at jq)
     refine dD (c9 [(0, .int .i64 gv), (3, .str ([(c0 (IntKind.i64.wrap (48 + (Int.tmod gv 10))))] ++ cY))] (fun P aF => ?_) ?_)
     ·simp only [bl.down, simprocAttr, qM, qN, fy, @mx .i64 10 (by decide), @gu aP 3 5 .u8 rfl rfl, (show ∀ s, cM aP s 62 1 [(0, .int .u8 (IntKind.u8.wrap (IntKind.i64.wrap (48 + (Int.tmod gv 10)))))] = some (.aJ 1 [.int .u8 (IntKind.u8.wrap (IntKind.i64.wrap (48 + (Int.tmod gv 10))))], s) from fun s => by kernel_rfl), (@mu aP 62 9 5 rfl rfl rfl).2.2, mw, mv, jq, jc, jd]
      (try simp only [bZ.down, simprocAttr, fy, @mx .i64 10 (by decide), @gu aP 3 5 .u8 rfl rfl, (show ∀ s, cM aP s 62 1 [(0, .int .u8 (IntKind.u8.wrap (IntKind.i64.wrap (48 + (Int.tmod gv 10)))))] = some (.aJ 1 [.int .u8 (IntKind.u8.wrap (IntKind.i64.wrap (48 + (Int.tmod gv 10))))], s) from fun s => by kernel_rfl), (@mu aP 62 9 5 rfl rfl rfl).2.2, mw, mv, jq, jc, jd] at aF ⊢); exact aF
     refine My (@nA .i64 10 (by decide)) [(0, .int .i64 (IntKind.i64.wrap (Int.tdiv gv 10))), (3, .str ([(c0 (IntKind.i64.wrap (48 + (Int.tmod gv 10))))] ++ cY))] ?_
     exact jZ _ (gD _ (.inr ⟨_, dN rfl, lG (IntKind.i64.wrap (Int.tdiv gv 10)) ([(c0 (IntKind.i64.wrap (48 + (Int.tmod gv 10))))] ++ cY) h⟩))
    ·simp only [jo, bj.down]
     refine hP (g_ 0 _ (hA 0 _ (eP _ (jl _ (.inl ?_)))))
     obtain ⟨OY, iA, h⟩ := bL h
     (try simp only [List.length_append, List.length_cons, List.length_nil, List.length_map, List.length_replicate, Nat.zero_add, Nat.add_zero, Nat.reduceAdd] at iA)
     refine dD (c9 [(2, .str (([109] : List UInt8) ++ cY))] (fun P aF => ?_) ?_)
     ·simp only [bl.down, simprocAttr, iA, jc, jd]
      (try simp only [bZ.down, simprocAttr, iA, jc, jd] at aF ⊢); exact aF
     exact b1 (bt _ (.inl (b9 [.str (([109] : List UInt8) ++ cY)])))
  obtain ⟨n, h⟩ := hB h
  exact hQ (.inr ⟨_, dN rfl, nO n a0 ([] : List UInt8) h⟩)
theorem M5 (a0 : List a6) (a7 : Int) (r : Int × (List a6)) (h : sU a0 a7 = some r) : b5 aP 17 [.aJ 2 (a0.map aL), .int .i64 a7] (.int .i64 r.1) [.aJ 2 (r.2.map aL), .hole] := by
 refine fe [0] [.tmp 4] Try.func17 LJ (fun fj bt e5 => ?_)
 refine ws _ ?_
 refine b3 bt (fun gH dC ck aQ => ?_)
 refine ws _ ?_
 refine eB ck (fun lI sZ gk ct cy => ?_)
 have lJ : ∀ (n : Nat) (gK : List a6) (cX : Int) (cH : Int), nJ n gK cX cH = some r → gd aP AD lI (I [(0, .aJ 2 (gK.map aL)), (1, .int .i64 cX), (5, .int .i64 cH)]) := by
  intro ek
  induction ek with
  | zero => intro gK cX cH h; cases (show none = some r from h)
  | succ ek ks =>
   intro gK cX cH h
   replace h : sT (nJ ek) gK cX cH = some r := h
   refine hT gk (fun pr jY gO cw => ?_)
   refine b3 gO (fun pt jk i4 cD => ?_)
   refine ws _ ?_
   refine cG h (fun eP h => ?_) (fun eP h => ?_)
   ·simp only [eP, bj.down]
    refine cB (jk _ (.inl ?_))
    refine b3 gO (fun kt gD gg hA => ?_)
    refine eB gg (fun iZ ff e9 iX g_ => ?_)
    obtain ⟨aR, iH, h⟩ := bL h
    obtain ⟨aQ, fc, h⟩ := bL h
    refine dD (c9 [(0, .aJ 2 ((List.set gK (Int.toNat cH) (a6.mk aR aQ.bx)).map aL)), (1, .int .i64 cX), (5, .int .i64 cH)] (fun P aF => ?_) ?_)
    ·simp only [bl.down, simprocAttr, eg.down, fc, n0 fc, o8, hN]
     refine fV (s9 cX _ iH) rfl rfl rfl rfl (.inl (by rfl)) ?_
     simp only [bl.down, simprocAttr, eg.down, fc, n0 fc, o8, hN]
     (try simp only [bZ.down, simprocAttr, aL, fc, n0 fc, o8, hN] at aF ⊢); exact aF
    refine ws [(0, .aJ 2 ((List.set gK (Int.toNat cH) (a6.mk aR aQ.bx)).map aL)), (1, .int .i64 (IntKind.i64.wrap (cX + 1))), (5, .int .i64 cH)] ?_
    obtain ⟨a_, hY, h⟩ := bL h
    obtain ⟨cy, eZ, h⟩ := bL h
    refine dD (c9 [(0, .aJ 2 ((List.set (List.set gK (Int.toNat cH) (a6.mk aR aQ.bx)) (Int.toNat cH) (a6.mk cy.Name a_)).map aL)), (1, .int .i64 (IntKind.i64.wrap (cX + 1))), (5, .int .i64 cH)] (fun P aF => ?_) ?_)
    ·simp only [bl.down, simprocAttr, eg.down, eZ, n0 eZ, o8, hN]
     refine fV (s9 (IntKind.i64.wrap (cX + 1)) _ hY) rfl rfl rfl rfl (.inl (by rfl)) ?_
     simp only [bl.down, simprocAttr, eg.down, eZ, n0 eZ, o8, hN]
     (try simp only [bZ.down, simprocAttr, aL, eZ, n0 eZ, o8, hN] at aF ⊢); exact aF
    refine wr [(0, .aJ 2 ((List.set (List.set gK (Int.toNat cH) (a6.mk aR aQ.bx)) (Int.toNat cH) (a6.mk cy.Name a_)).map aL)), (1, .int .i64 (IntKind.i64.wrap ((IntKind.i64.wrap (cX + 1)) + 1))), (5, .int .i64 cH)] ?_
    refine ff _ (gD _ (.inl ?_))
    refine wr [(0, .aJ 2 ((List.set (List.set gK (Int.toNat cH) (a6.mk aR aQ.bx)) (Int.toNat cH) (a6.mk cy.Name a_)).map aL)), (1, .int .i64 (IntKind.i64.wrap ((IntKind.i64.wrap (cX + 1)) + 1))), (5, .int .i64 (IntKind.i64.wrap (cH + 1)))] ?_
    exact jY _ (.inr ⟨_, dN rfl, ks (List.set (List.set gK (Int.toNat cH) (a6.mk aR aQ.bx)) (Int.toNat cH) (a6.mk cy.Name a_)) (IntKind.i64.wrap ((IntKind.i64.wrap (cX + 1)) + 1)) (IntKind.i64.wrap (cH + 1)) h⟩)
   ·simp only [eP, bj.down]
    refine hP (cD 0 _ (cw 0 _ (ct _ (dC _ (.inl ?_)))))
    refine ws _ ?_
    exact b1 (bt _ (.inl (sg [.int .i64 cX] rfl (by cases mO h; rfl) (by decide) (vn (vo (by cases mO h; rfl) rfl rfl rfl (FX (vp)))))))
 obtain ⟨n, h⟩ := hB h
 exact hQ (.inr ⟨_, dN rfl, lJ n a0 a7 0 h⟩)
theorem A9 (a0 : List a6) (a7 : Int) (r : Int) (h : q1 a0 a7 = some r) : b5 aP 18 [.slice (a0.map aL), .int .i64 a7] (.int .i64 r) [] := by
 refine fe [0] [.tmp 4] Try.func18 LZ (fun fj bt e5 => ?_)
 refine ws _ ?_
 refine b3 bt (fun gH dC ck aQ => ?_)
 refine ws _ ?_
 refine eB ck (fun lI sZ gk ct cy => ?_)
 have lJ : ∀ (n : Nat) (cX : Int) (cH : Int), nK a0 n cX cH = some r → gd aP AE lI (I [(0, .slice (a0.map aL)), (1, .int .i64 cX), (5, .int .i64 cH)]) := by
  intro ek
  induction ek with
  | zero => intro cX cH h; cases (show none = some r from h)
  | succ ek ks =>
   intro cX cH h
   replace h : sV (nK a0 ek) a0 cX cH = some r := h
   refine hT gk (fun pr jY gO cw => ?_)
   refine b3 gO (fun pt jk i4 cD => ?_)
   refine ws _ ?_
   refine cG h (fun eP h => ?_) (fun eP h => ?_)
   ·simp only [eP, bj.down]
    refine cB (jk _ (.inl ?_))
    refine b3 gO (fun kt gD gg hA => ?_)
    refine eB gg (fun iZ ff e9 iX g_ => ?_)
    refine b3 e9 (fun s3 lM nV nW => ?_)
    obtain ⟨aR, fc, h⟩ := bL h
    obtain ⟨aQ, mK, h⟩ := bL h
    refine hO rfl (hR [(0, .slice (a0.map aL)), (1, .int .i64 cX), (5, .int .i64 cH), (19, .bool (!(aR.Name == aQ)))] (fun P aF => ?_) ?_)
    ·simp only [ez.down, simprocAttr, eg.down, fc]
     refine jb (s9 cX _ mK) rfl rfl rfl rfl (.inl (by rfl)) ?_
     simp only [ez.down, simprocAttr, eg.down, fc]
     refine ⟨hS (by kernel_rfl), ?_⟩
     (try simp only [bZ.down, simprocAttr, aL, fc] at aF ⊢); exact aF
    refine cG h (fun fO h => ?_) (fun fO h => ?_)
    ·simp only [fO, bj.down]
     refine ws _ ?_
     exact b1 (nV _ (.inl (b9 [.int .i64 (-1)])))
    ·simp only [fO, bj.down]
     refine cB (lM _ (.inl ?_))
     refine ws _ ?_
     refine b3 e9 (fun A6 rj s7 A7 => ?_)
     obtain ⟨a_, pA, h⟩ := bL h
     refine hO rfl (hR [(0, .slice (a0.map aL)), (1, .int .i64 (IntKind.i64.wrap (cX + 1))), (5, .int .i64 cH), (29, .bool (!(aR.bx == a_)))] (fun P aF => ?_) ?_)
     ·simp only [ez.down, simprocAttr, eg.down, fc]
      refine jb (s9 (IntKind.i64.wrap (cX + 1)) _ pA) rfl rfl rfl rfl (.inl (by rfl)) ?_
      simp only [ez.down, simprocAttr, eg.down, fc]
      refine ⟨hS (by kernel_rfl), ?_⟩
      (try simp only [bZ.down, simprocAttr, aL, fc] at aF ⊢); exact aF
     refine cG h (fun gh h => ?_) (fun gh h => ?_)
     ·simp only [gh, bj.down]
      refine ws _ ?_
      exact b1 (s7 _ (.inl (b9 [.int .i64 (-1)])))
     ·simp only [gh, bj.down]
      refine cB (rj _ (.inl ?_))
      refine wr _ ?_
      refine ff _ (gD _ (.inl ?_))
      refine wr _ ?_
      exact jY _ (.inr ⟨_, dN rfl, ks (IntKind.i64.wrap ((IntKind.i64.wrap (cX + 1)) + 1)) (IntKind.i64.wrap (cH + 1)) h⟩)
   ·simp only [eP, bj.down]
    refine hP (cD 0 _ (cw 0 _ (ct _ (dC _ (.inl ?_)))))
    refine ws _ ?_
    exact b1 (bt _ (.inl (b9 [.int .i64 cX])))
 obtain ⟨n, h⟩ := hB h
 exact hQ (.inr ⟨_, dN rfl, lJ n a7 0 h⟩)
theorem M6 (a0 : List UInt8) (r : Bool) (h : vQ a0 = some r) : b5 aP 4 [.str a0] (.bool r) [] := by
 refine fe [0] [.tmp 2] Try.func4 xY (fun fj bt e5 => ?_)
 refine ws _ ?_
 refine b3 bt (fun gH dC ck aQ => ?_)
 refine ws _ ?_
 refine cG h (fun ct h => ?_) (fun ct h => ?_)
 ·simp only [ct, bj.down]
  refine ws _ ?_
  exact b1 (ck _ (.inl (b9 [.bool true])))
 ·simp only [ct, bj.down]
  refine cB (dC _ (.inl ?_))
  obtain ⟨aR, bc, h⟩ := bL h
  refine lF (MO a0 _ bc) _ ?_
  obtain ⟨aQ, ho, h⟩ := bL h
  refine lF (A8 a0 _ ho) _ ?_
  refine b3 bt (fun iZ ff e9 g_ => ?_)
  obtain ⟨a_, iH, h⟩ := bL h
  refine dD (c9 [(0, .str a0), (3, .aJ 2 (aR.1.map aL)), (4, .int .i64 aR.2), (5, .aJ 2 (aQ.1.map aL)), (32, .bool ((!a_) || (aQ.2 != aR.2)))] (fun P aF => ?_) ?_)
  ·rcases Bool.eq_false_or_eq_true (a_) with kp | kp
   ·simp only [bl.down, simprocAttr, aL, kp]
    refine fV (s8 aQ.1 aR.1 _ iH) rfl rfl (by simp only [bl.down, simprocAttr, aL, kp, gV, gW, gX, gB, @ik _ aL aL (fun _ => ix _), @ik _ aL aL (fun _ => ix _)] <;> rfl) rfl (.inr (by rfl)) ?_
    simp only [bl.down, simprocAttr, aL, kp]
    (try simp only [bZ.down, simprocAttr, aL, kp] at aF ⊢); exact aF
   ·simp only [bl.down, simprocAttr, aL, kp]
    refine fV (s8 aQ.1 aR.1 _ iH) rfl rfl (by simp only [bl.down, simprocAttr, aL, kp, gV, gW, gX, gB, @ik _ aL aL (fun _ => ix _), @ik _ aL aL (fun _ => ix _)] <;> rfl) rfl (.inr (by rfl)) ?_
    simp only [bl.down, simprocAttr, aL, kp]
    (try simp only [bZ.down, simprocAttr, aL, kp] at aF ⊢); exact aF
  refine cG h (fun iy h => ?_) (fun iy h => ?_)
  ·simp only [iy, bj.down]
   refine ws _ ?_
   exact b1 (e9 _ (.inl (b9 [.bool false])))
  ·simp only [iy, bj.down]
   refine cB (ff _ (.inl ?_))
   refine ws _ ?_
   obtain ⟨cy, iA, h⟩ := bL h
   refine dD (c9 [(0, .str a0), (3, .aJ 2 (aR.1.map aL)), (4, .int .i64 aR.2), (5, .aJ 2 (cy.2.map aL)), (7, .int .i64 cy.1)] (fun P aF => ?_) ?_)
   ·simp only [bl.down, simprocAttr, aL]
    refine my [⟨.h 5 [], true, _, _⟩, ⟨.int .i64 1, false, _, .hole⟩] (M5 aQ.1 1 _ iA) rfl rfl rfl (by simp only [bl.down, simprocAttr, aL, lx, mz, mA, gV, gW, gX, gB, or_true, true_or, @ik _ aL aL (fun _ => ix _)]) rfl rfl (.inl rfl) ?_
    simp only [bl.down, simprocAttr, aL, mB]
    (try simp only [bZ.down, simprocAttr, aL] at aF ⊢); exact aF
   refine ws _ ?_
   obtain ⟨cw, lK, h⟩ := bL h
   refine dD (c9 [(0, .str a0), (3, .aJ 2 (aR.1.map aL)), (4, .int .i64 aR.2), (5, .aJ 2 (cy.2.map aL)), (7, .int .i64 cy.1), (8, .int .i64 cw)] (fun P aF => ?_) ?_)
   ·simp only [bl.down, simprocAttr, aL]
    refine fV (A9 cy.2 1 _ lK) rfl rfl (by simp only [bl.down, simprocAttr, aL, gV, gW, gX, gB, @ik _ aL aL (fun _ => ix _)] <;> rfl) rfl (.inr (by rfl)) ?_
    simp only [bl.down, simprocAttr, aL]
    (try simp only [bZ.down, simprocAttr, aL] at aF ⊢); exact aF
   refine b3 bt (fun AZ wb s5 A0 => ?_)
   refine ws _ ?_
   refine cG h (fun iY h => ?_) (fun iY h => ?_)
   ·simp only [iY, bj.down]
    refine ws _ ?_
    exact b1 (s5 _ (.inl (b9 [.bool false])))
   ·simp only [iY, bj.down]
    refine cB (wb _ (.inl ?_))
    refine b3 bt (fun A2 pz rh A3 => ?_)
    refine ws _ ?_
    refine cG h (fun eC h => ?_) (fun eC h => ?_)
    ·simp only [eC, bj.down]
     refine ws _ ?_
     exact b1 (rh _ (.inl (b9 [.bool false])))
    ·simp only [eC, bj.down]
     refine cB (pz _ (.inl ?_))
     obtain ⟨cD, vZ, h⟩ := bL h
     refine lF (A8 a0 _ vZ) _ ?_
     refine b3 bt (fun OZ M7 M8 O0 => ?_)
     obtain ⟨eY, A_, h⟩ := bL h
     refine dD (c9 [(5, .aJ 2 (cy.2.map aL)), (7, .int .i64 cy.1), (57, .bool ((!eY) || (cD.2 != aR.2)))] (fun P aF => ?_) ?_)
     ·rcases Bool.eq_false_or_eq_true (eY) with lP | lP
      ·simp only [bl.down, simprocAttr, aL, lP]
       refine fV (s8 cD.1 aR.1 _ A_) rfl rfl (by simp only [bl.down, simprocAttr, aL, lP, gV, gW, gX, gB, @ik _ aL aL (fun _ => ix _), @ik _ aL aL (fun _ => ix _)] <;> rfl) rfl (.inr (by rfl)) ?_
       simp only [bl.down, simprocAttr, aL, lP]
       (try simp only [bZ.down, simprocAttr, aL, lP] at aF ⊢); exact aF
      ·simp only [bl.down, simprocAttr, aL, lP]
       refine fV (s8 cD.1 aR.1 _ A_) rfl rfl (by simp only [bl.down, simprocAttr, aL, lP, gV, gW, gX, gB, @ik _ aL aL (fun _ => ix _), @ik _ aL aL (fun _ => ix _)] <;> rfl) rfl (.inr (by rfl)) ?_
       simp only [bl.down, simprocAttr, aL, lP]
       (try simp only [bZ.down, simprocAttr, aL, lP] at aF ⊢); exact aF
     refine cG h (fun wi h => ?_) (fun wi h => ?_)
     ·simp only [wi, bj.down]
      refine ws _ ?_
      exact b1 (M8 _ (.inl (b9 [.bool false])))
     ·simp only [wi, bj.down]
      refine cB (M7 _ (.inl ?_))
      refine ws _ ?_
      obtain ⟨hX, M9, h⟩ := bL h
      refine dD (c9 [(7, .int .i64 cy.1), (8, .int .i64 hX)] (fun P aF => ?_) ?_)
      ·simp only [bl.down, simprocAttr, aL]
       refine fV (A9 cy.2 1 _ M9) rfl rfl (by simp only [bl.down, simprocAttr, aL, gV, gW, gX, gB, @ik _ aL aL (fun _ => ix _)] <;> rfl) rfl (.inr (by rfl)) ?_
       simp only [bl.down, simprocAttr, aL]
       (try simp only [bZ.down, simprocAttr, aL] at aF ⊢); exact aF
      refine b3 bt (fun O1 M_ Na O2 => ?_)
      refine ws _ ?_
      refine cG h (fun wj h => ?_) (fun wj h => ?_)
      ·simp only [wj, bj.down]
       refine ws _ ?_
       exact b1 (Na _ (.inl (b9 [.bool false])))
      ·simp only [wj, bj.down]
       refine cB (M_ _ (.inl ?_))
       refine b3 bt (fun O3 Nb Nc O4 => ?_)
       refine ws _ ?_
       refine cG h (fun wk h => ?_) (fun wk h => ?_)
       ·simp only [wk, bj.down]
        refine ws _ ?_
        exact b1 (Nc _ (.inl (b9 [.bool false])))
       ·simp only [wk, bj.down]
        refine cB (Nb _ (.inl ?_))
        refine ws _ ?_
        exact b1 (bt _ (.inl (b9 [.bool true])))
end Go.Proofs.Ytjedocbdhlppdaa
