/- Part of a proof that a law returns true for every input. No condition. -/
import Derived.Test.YtjedocbdhlppdaaC8
namespace Go.Proofs.Ytjedocbdhlppdaa
open Go Go.dp Go.gV
set_option maxRecDepth 100000
set_option maxHeartbeats 2200000
set_option linter.unusedSimpArgs false
set_option linter.unusedVariables false
def jO := PLift.up (And.intro @eD (And.intro @fX (And.intro @hf (And.intro @u2 (And.intro @Hw (And.intro @jL (And.intro @lV (And.intro @e8 (And.intro @fC (And.intro @h0 (And.intro @nz (And.intro @pV (And.intro @u3 (And.intro @eU (And.intro @Hx (And.intro @ra (And.intro @nA (And.intro @aD.eq_1 (And.intro @bj.eq_1 (And.intro @bm.eq_1 (And.intro @aR.eq_1 (And.intro @gr.eq_1 (And.intro @ft.eq_1 (And.intro @e3.eq_1 (And.intro @jy.eq_1 (And.intro @bC.eq_1 (And.intro @fs.eq_1 (And.intro @hR.eq_1 (And.intro @dC.eq_1 (And.intro @br.eq_1 (And.intro @bl.eq_1 @iQ.eq_1)))))))))))))))))))))))))))))))
theorem ws {Q : Exit → ao → Prop} {l : List (Nat × j)} {ros : List cA} {k : List Nat} {b : J} (dr : List (Nat × j)) (aB : c4 aq b Q (R dr)) (h : ∀ P : List (Nat × j) → Prop, P dr → bZ aq (R l) ros none (fun _ s => P (hY k s)) := by
 intro P al
 simp only [aX.down, simprocAttr, jO.down]
 (try simp only [bs.down, simprocAttr, jO.down] at al ⊢)
 exact al) : c4 aq (.seq (.ad ros (some k)) b) Q (R l) :=
 cQ (b0 dr (h) aB)
theorem eI {Q : Exit → ao → Prop} {l : List (Nat × j)} {ros : List cA} {k : List Nat} {b : J} {g : FuncId} {ds : List j} {r : j} (ok : a0 aq g ds r []) (dr : List (Nat × j)) (aB : c4 aq b Q (R dr)) (h : a0 aq g ds r [] → ∀ P : List (Nat × j) → Prop, P dr → bZ aq (R l) ros none (fun _ s => P (hY k s)) := by
 intro rM P al
 (try simp only [aX.down, simprocAttr, jO.down])
 refine ey rM rfl rfl rfl rfl (.inl (by rfl)) ?_
 simp only [aX.down, simprocAttr, jO.down]
 (try simp only [bs.down, simprocAttr, jO.down] at al ⊢)
 exact al) : c4 aq (.seq (.ad ros (some k)) b) Q (R l) :=
 cQ (b0 dr (h ok) aB)
theorem fG {F : Prop} (bE : F) {Q : Exit → ao → Prop} {l : List (Nat × j)} {ros : List cA} {k : List Nat} {b : J} (dr : List (Nat × j)) (aB : c4 aq b Q (R dr)) (h : F → ∀ P : List (Nat × j) → Prop, P dr → bZ aq (R l) ros none (fun _ s => P (hY k s)) := by
 intro bE P al
 simp only [aX.down, simprocAttr, jO.down, bE]
 (try simp only [bs.down, simprocAttr, jO.down, bE] at al ⊢)
 exact al) : c4 aq (.seq (.ad ros (some k)) b) Q (R l) :=
 cQ (b0 dr (h bE) aB)
theorem j1 {F : Prop} (bE : F) {Q : Exit → ao → Prop} {l : List (Nat × j)} {ros : List cA} {k : List Nat} {b : J} {g : FuncId} {ds : List j} {r : j} (ok : a0 aq g ds r []) (dr : List (Nat × j)) (aB : c4 aq b Q (R dr)) (h : a0 aq g ds r [] → F → ∀ P : List (Nat × j) → Prop, P dr → bZ aq (R l) ros none (fun _ s => P (hY k s)) := by
 intro rM bE P al
 (try simp only [aX.down, simprocAttr, jO.down, bE])
 refine ey rM rfl rfl rfl rfl (.inl (by rfl)) ?_
 simp only [aX.down, simprocAttr, jO.down, bE]
 (try simp only [bs.down, simprocAttr, jO.down, bE] at al ⊢)
 exact al) : c4 aq (.seq (.ad ros (some k)) b) Q (R l) :=
 cQ (b0 dr (h ok bE) aB)
theorem wr {Q : Exit → ao → Prop} {l : List (Nat × j)} {ros : List cA} {k : List Nat} (dr : List (Nat × j)) (aB : Q .normal (R dr)) (h : ∀ P : List (Nat × j) → Prop, P dr → bZ aq (R l) ros none (fun _ s => P (hY k s)) := by
 intro P al
 simp only [aX.down, simprocAttr, jO.down]
 (try simp only [bs.down, simprocAttr, jO.down] at al ⊢)
 exact al) : c4 aq (.ad ros (some k)) Q (R l) :=
 hs (b0 dr (h) aB)
theorem CJ {Q : Exit → ao → Prop} {l : List (Nat × j)} {ros : List cA} {k : List Nat} {g : FuncId} {ds : List j} {r : j} (ok : a0 aq g ds r []) (dr : List (Nat × j)) (aB : Q .normal (R dr)) (h : a0 aq g ds r [] → ∀ P : List (Nat × j) → Prop, P dr → bZ aq (R l) ros none (fun _ s => P (hY k s)) := by
 intro rM P al
 (try simp only [aX.down, simprocAttr, jO.down])
 refine ey rM rfl rfl rfl rfl (.inl (by rfl)) ?_
 simp only [aX.down, simprocAttr, jO.down]
 (try simp only [bs.down, simprocAttr, jO.down] at al ⊢)
 exact al) : c4 aq (.ad ros (some k)) Q (R l) :=
 hs (b0 dr (h ok) aB)
theorem vR {F : Prop} (bE : F) {Q : Exit → ao → Prop} {l : List (Nat × j)} {ros : List cA} {k : List Nat} (dr : List (Nat × j)) (aB : Q .normal (R dr)) (h : F → ∀ P : List (Nat × j) → Prop, P dr → bZ aq (R l) ros none (fun _ s => P (hY k s)) := by
 intro bE P al
 simp only [aX.down, simprocAttr, jO.down, bE]
 (try simp only [bs.down, simprocAttr, jO.down, bE] at al ⊢)
 exact al) : c4 aq (.ad ros (some k)) Q (R l) :=
 hs (b0 dr (h bE) aB)
theorem af5 {F : Prop} (bE : F) {Q : Exit → ao → Prop} {l : List (Nat × j)} {ros : List cA} {k : List Nat} {g : FuncId} {ds : List j} {r : j} (ok : a0 aq g ds r []) (dr : List (Nat × j)) (aB : Q .normal (R dr)) (h : a0 aq g ds r [] → F → ∀ P : List (Nat × j) → Prop, P dr → bZ aq (R l) ros none (fun _ s => P (hY k s)) := by
 intro rM bE P al
 (try simp only [aX.down, simprocAttr, jO.down, bE])
 refine ey rM rfl rfl rfl rfl (.inl (by rfl)) ?_
 simp only [aX.down, simprocAttr, jO.down, bE]
 (try simp only [bs.down, simprocAttr, jO.down, bE] at al ⊢)
 exact al) : c4 aq (.ad ros (some k)) Q (R l) :=
 hs (b0 dr (h ok bE) aB)
def fR := PLift.up (And.intro @eD (And.intro @fX (And.intro @hf (And.intro @e8 (And.intro @fC (And.intro @h0 (And.intro @eU (And.intro @aD.eq_1 (And.intro @bm.eq_1 (And.intro @aR.eq_1 @bC.eq_1))))))))))
def hg := PLift.up (And.intro @eD (And.intro @fX (And.intro @hf (And.intro @jL (And.intro @lV (And.intro @e8 (And.intro @fC (And.intro @h0 (And.intro @eU (And.intro @aD.eq_1 (And.intro @bj.eq_1 (And.intro @bm.eq_1 (And.intro @aR.eq_1 @bC.eq_1)))))))))))))
def hS := PLift.up (And.intro @eD (And.intro @e8 (And.intro @eU @aR.eq_1)))
def hT := PLift.up (And.intro @eD (And.intro @fX (And.intro @hf (And.intro @u2 (And.intro @Hw (And.intro @jL (And.intro @lV (And.intro @e8 (And.intro @fC (And.intro @h0 (And.intro @nz (And.intro @pV (And.intro @u3 (And.intro @eU (And.intro @nA (And.intro @aD.eq_1 (And.intro @aR.eq_1 (And.intro @gr.eq_1 (And.intro @ft.eq_1 (And.intro @e3.eq_1 (And.intro @fs.eq_1 (And.intro @dC.eq_1 (And.intro @br.eq_1 @bl.eq_1)))))))))))))))))))))))
def h1 := PLift.up (And.intro @eD (And.intro @fX (And.intro @hf (And.intro @jL (And.intro @lV (And.intro @e8 (And.intro @fC (And.intro @h0 (And.intro @eU (And.intro @aD.eq_1 (And.intro @aR.eq_1 (And.intro @gr.eq_1 (And.intro @ft.eq_1 (And.intro @e3.eq_1 (And.intro @fs.eq_1 (And.intro @dC.eq_1 (And.intro @br.eq_1 @bl.eq_1)))))))))))))))))
def i5 := PLift.up (And.intro @aD.eq_1 (And.intro @bj.eq_1 (And.intro @bm.eq_1 (And.intro @aR.eq_1 @bC.eq_1))))
def kh := PLift.up (And.intro @aD.eq_1 (And.intro @bm.eq_1 (And.intro @aR.eq_1 @bC.eq_1)))
def lC := PLift.up (And.intro @eD (And.intro @fX (And.intro @hf (And.intro @jL (And.intro @e8 (And.intro @fC (And.intro @h0 (And.intro @eU (And.intro @aD.eq_1 (And.intro @aR.eq_1 (And.intro @br.eq_1 @bl.eq_1)))))))))))
def lD := PLift.up (And.intro @aD.eq_1 (And.intro @aR.eq_1 (And.intro @gr.eq_1 (And.intro @ft.eq_1 (And.intro @e3.eq_1 (And.intro @fs.eq_1 (And.intro @dC.eq_1 (And.intro @br.eq_1 @bl.eq_1))))))))
def lZ := PLift.up (And.intro @eD (And.intro @fX (And.intro @hf (And.intro @jL (And.intro @lV (And.intro @e8 (And.intro @fC (And.intro @h0 (And.intro @xR (And.intro @eU (And.intro @aD.eq_1 (And.intro @bj.eq_1 (And.intro @bm.eq_1 (And.intro @aR.eq_1 (And.intro @bC.eq_1 (And.intro @br.eq_1 @bl.eq_1))))))))))))))))
def m1 := PLift.up (And.intro @aD.eq_1 (And.intro @aR.eq_1 (And.intro @br.eq_1 @bl.eq_1)))
def m2 := PLift.up (And.intro @eD (And.intro @fX (And.intro @hf (And.intro @jL (And.intro @lV (And.intro @e8 (And.intro @fC (And.intro @h0 (And.intro @eU (And.intro @aD.eq_1 (And.intro @aR.eq_1 (And.intro @br.eq_1 @bl.eq_1))))))))))))
def nG := PLift.up (And.intro @eD (And.intro @hf @aD.eq_1))
def nH := PLift.up (And.intro @eD (And.intro @fX (And.intro @hf (And.intro @jL (And.intro @lV (And.intro @e8 (And.intro @fC (And.intro @h0 (And.intro @eU (And.intro @aD.eq_1 (And.intro @bj.eq_1 (And.intro @bm.eq_1 (And.intro @aR.eq_1 (And.intro @bC.eq_1 (And.intro @br.eq_1 @bl.eq_1)))))))))))))))
def nI := PLift.up (And.intro @aD.eq_1 (And.intro @bj.eq_1 (And.intro @bm.eq_1 (And.intro @aR.eq_1 (And.intro @bC.eq_1 (And.intro @br.eq_1 @bl.eq_1))))))
def o0 := PLift.up (And.intro @eD (And.intro @fX (And.intro @hf (And.intro @jL (And.intro @lV (And.intro @e8 (And.intro @fC (And.intro @h0 (And.intro @eU (And.intro @aD.eq_1 (And.intro @aR.eq_1 (And.intro @dC.eq_1 (And.intro @br.eq_1 @bl.eq_1)))))))))))))
def qc := PLift.up (And.intro @eD (And.intro @fX (And.intro @hf (And.intro @jL (And.intro @lV (And.intro @e8 (And.intro @fC (And.intro @h0 (And.intro @eU (And.intro @aD.eq_1 (And.intro @bj.eq_1 (And.intro @bm.eq_1 (And.intro @aR.eq_1 (And.intro @bC.eq_1 (And.intro @dC.eq_1 (And.intro @br.eq_1 @bl.eq_1))))))))))))))))
def tw := PLift.up (And.intro @aD.eq_1 (And.intro @aR.eq_1 (And.intro @dC.eq_1 (And.intro @br.eq_1 @bl.eq_1))))
def vS := PLift.up (And.intro @eD (And.intro @e8 (And.intro @fC (And.intro @eU (And.intro @aR.eq_1 @bl.eq_1)))))
def vT := PLift.up (And.intro @eD (And.intro @fX (And.intro @hf (And.intro @e8 (And.intro @fC (And.intro @h0 (And.intro @eU (And.intro @ra (And.intro @aD.eq_1 (And.intro @bj.eq_1 (And.intro @bm.eq_1 (And.intro @aR.eq_1 (And.intro @bC.eq_1 (And.intro @br.eq_1 @bl.eq_1))))))))))))))
def vU := PLift.up (And.intro @eD (And.intro @fX (And.intro @hf (And.intro @e8 (And.intro @fC (And.intro @h0 (And.intro @eU (And.intro @ra (And.intro @aD.eq_1 (And.intro @aR.eq_1 (And.intro @br.eq_1 @bl.eq_1)))))))))))
def zg := PLift.up (And.intro @eD (And.intro @e8 (And.intro @fC (And.intro @eU (And.intro @aR.eq_1 (And.intro @bC.eq_1 @bl.eq_1))))))
def zh := PLift.up (And.intro @eD (And.intro @fX (And.intro @hf (And.intro @e8 (And.intro @fC (And.intro @h0 (And.intro @eU (And.intro @aD.eq_1 (And.intro @bm.eq_1 (And.intro @aR.eq_1 (And.intro @bC.eq_1 @bl.eq_1)))))))))))
def zi := PLift.up (And.intro @eD (And.intro @fX (And.intro @hf (And.intro @e8 (And.intro @fC (And.intro @h0 (And.intro @xR (And.intro @eU (And.intro @aD.eq_1 (And.intro @bj.eq_1 (And.intro @bm.eq_1 (And.intro @aR.eq_1 (And.intro @bC.eq_1 @bl.eq_1)))))))))))))
def zj := PLift.up (And.intro @aD.eq_1 (And.intro @bj.eq_1 (And.intro @bm.eq_1 (And.intro @aR.eq_1 (And.intro @bC.eq_1 @bl.eq_1)))))
def zk := PLift.up (And.intro @eD (And.intro @fX (And.intro @hf (And.intro @jL (And.intro @e8 (And.intro @fC (And.intro @h0 (And.intro @eU (And.intro @aD.eq_1 (And.intro @bm.eq_1 (And.intro @aR.eq_1 @bC.eq_1)))))))))))
def CK := PLift.up (And.intro @aD.eq_1 (And.intro @bj.eq_1 (And.intro @bm.eq_1 (And.intro @aR.eq_1 (And.intro @bC.eq_1 (And.intro @dC.eq_1 (And.intro @br.eq_1 @bl.eq_1)))))))
def CL := PLift.up (And.intro @eD (And.intro @fX (And.intro @hf (And.intro @jL (And.intro @lV (And.intro @e8 (And.intro @fC (And.intro @h0 (And.intro @eU (And.intro @Hx (And.intro @aD.eq_1 (And.intro @bj.eq_1 (And.intro @bm.eq_1 (And.intro @aR.eq_1 (And.intro @jy.eq_1 @bC.eq_1)))))))))))))))
theorem IV (I : List Int) (aa : Int) (r : Int) (h : u5 I aa = some r) : a0 aq 57 [.slice (I.map aD), .int .i64 aa] (.int .i64 r) [] := by
 refine a0.cF (fx := [0]) cI [.tmp 4] [(0, .slice (I.map aD)), (1, .int .i64 aa)] Try.func57 rfl rfl Qa (Nat.le_of_ble_eq_true rfl) rfl rfl (fun cv aJ cD => ?_)
 refine ws _ ?_
 refine ws _ ?_
 refine aZ (fun lE gW fw aW => ?_)
 refine ws _ ?_
 rcases bk h with ⟨cc, h⟩ | ⟨cc, h⟩
 ·refine bp (congrArg j.bool cc) ?_
  simp only [cc, aO.down]
  refine ws _ ?_
  exact a6 (fw _ (aJ _ (.inl (a7 [.int .i64 (-1)] rfl (by cases a4 h; rfl) (by decide) a_))))
 ·refine bB (congrArg j.bool cc) ?_
  simp only [cc, aO.down]
  refine bF (gW _ (.inl ?_))
  refine ws _ ?_
  exact a6 (aJ _ (.inl (a7 [.int .i64 (IntKind.i64.wrap (aa - (I.length : Int)))] rfl (by cases a4 h; rfl) (by decide) a_)))
theorem IW (I : List fY) (aa : Int) (r : Int) (h : te I aa = some r) : a0 aq 133 [.slice (I.map e3), .int .i64 aa] (.int .i64 r) [] := by
 refine a0.cF (fx := [0]) cI [.tmp 4] [(0, .slice (I.map e3)), (1, .int .i64 aa)] Try.func133 rfl rfl Qh (Nat.le_of_ble_eq_true rfl) rfl rfl (fun cv aJ cD => ?_)
 refine ws _ ?_
 refine ws _ ?_
 refine aZ (fun lE gW fw aW => ?_)
 refine ws _ ?_
 rcases bk h with ⟨cc, h⟩ | ⟨cc, h⟩
 ·refine bp (congrArg j.bool cc) ?_
  simp only [cc, aO.down]
  refine ws _ ?_
  exact a6 (fw _ (aJ _ (.inl (a7 [.int .i64 (-1)] rfl (by cases a4 h; rfl) (by decide) a_))))
 ·refine bB (congrArg j.bool cc) ?_
  simp only [cc, aO.down]
  refine bF (gW _ (.inl ?_))
  refine ws _ ?_
  exact a6 (aJ _ (.inl (a7 [.int .i64 (IntKind.i64.wrap (aa - (I.length : Int)))] rfl (by cases a4 h; rfl) (by decide) a_)))
theorem IX (I : List (List fY)) (aa : Int) (r : Int) (h : u6 I aa = some r) : a0 aq 134 [.slice (I.map fs), .int .i64 aa] (.int .i64 r) [] := by
 refine a0.cF (fx := [0]) cI [.tmp 4] [(0, .slice (I.map fs)), (1, .int .i64 aa)] Try.func134 rfl rfl Qw (Nat.le_of_ble_eq_true rfl) rfl rfl (fun cv aJ cD => ?_)
 refine ws _ ?_
 refine ws _ ?_
 refine aZ (fun lE gW fw aW => ?_)
 refine ws _ ?_
 rcases bk h with ⟨cc, h⟩ | ⟨cc, h⟩
 ·refine bp (congrArg j.bool cc) ?_
  simp only [cc, aO.down]
  refine ws _ ?_
  exact a6 (fw _ (aJ _ (.inl (a7 [.int .i64 (-1)] rfl (by cases a4 h; rfl) (by decide) a_))))
 ·refine bB (congrArg j.bool cc) ?_
  simp only [cc, aO.down]
  refine bF (gW _ (.inl ?_))
  refine aZ (fun jA fZ hc cj => ?_)
  refine ws _ ?_
  refine cd (fun ht eN eJ cM cL => ?_)
  have o1 : ∀ (n : Nat) (iz : Int) (iA : Int), xS I n iz iA = some r → eg aq HN ht (R [(0, .slice (I.map fs)), (1, .int .i64 iz), (5, .int .i64 iA)]) := by
   intro j2
   induction j2 with
   | zero => intro iz iA h; cases (show none = some r from h)
   | succ j2 o2 =>
    intro iz iA h
    replace h : Hy (xS I j2) I iz iA = some r := h
    refine ew (fun f_ c5 dR dE => ?_)
    refine aZ (fun iB eW hU gh => ?_)
    refine ws _ ?_
    rcases bk h with ⟨gL, h⟩ | ⟨gL, h⟩
    ·refine bp (congrArg j.bool gL) ?_
     simp only [gL, aO.down]
     refine bF (eW _ (.inl ?_))
     refine aZ (fun k3 hh gM jj => ?_)
     refine cd (fun rN ki l0 fS mr => ?_)
     obtain ⟨aj, gN, h⟩ := aT h
     obtain ⟨aF, gO, h⟩ := aT h
     refine j1 gN (IW aj iz _ gO) _ ?_
     refine ws _ ?_
     rcases bk h with ⟨gP, h⟩ | ⟨gP, h⟩
     ·refine bp (congrArg j.bool gP) ?_
      simp only [gP, aO.down]
      refine ws _ ?_
      exact a6 (l0 _ (gM _ (dR _ (eJ _ (hc _ (aJ _ (.inl (a7 [.int .i64 (-1)] rfl (by cases a4 h; rfl) (by decide) a_))))))))
     ·refine bB (congrArg j.bool gP) ?_
      simp only [gP, aO.down]
      refine bF (ki _ (hh _ (.inl ?_)))
      refine wr _ ?_
      exact c5 _ (.inr ⟨_, cb rfl, o2 aF (IntKind.i64.wrap (iA + 1)) h⟩)
    ·refine bB (congrArg j.bool gL) ?_
     simp only [gL, aO.down]
     refine eu (gh 0 _ (dE 0 _ (cM _ (fZ _ (.inl ?_)))))
     refine ws _ ?_
     exact a6 (aJ _ (.inl (a7 [.int .i64 iz] rfl (by cases a4 h; rfl) (by decide) a_)))
  obtain ⟨n, h⟩ := et h
  exact ev (.inr ⟨_, cb rfl, o1 n (IntKind.i64.wrap (aa - (I.length : Int))) 0 h⟩)
theorem af6 (I : hQ) (aa : Int) (r : Int) (h : u7 I aa = some r) : a0 aq 98 [ft I, .int .i64 aa] (.int .i64 r) [] := by
 refine a0.cF (fx := [0]) cI [.tmp 4] [(0, ft I), (1, .int .i64 aa)] Try.func98 rfl rfl QT (Nat.le_of_ble_eq_true rfl) rfl rfl (fun cv aJ cD => ?_)
 refine ws _ ?_
 obtain ⟨aj, bf, h⟩ := aT h
 refine eI (IV I.bo aa _ bf) _ ?_
 refine aZ (fun fH fu cZ bn => ?_)
 refine ws _ ?_
 rcases bk h with ⟨dB, h⟩ | ⟨dB, h⟩
 ·refine bp (congrArg j.bool dB) ?_
  simp only [dB, aO.down]
  refine ws _ ?_
  exact a6 (cZ _ (aJ _ (.inl (a7 [.int .i64 (-1)] rfl (by cases a4 h; rfl) (by decide) a_))))
 ·refine bB (congrArg j.bool dB) ?_
  simp only [dB, aO.down]
  refine bF (fu _ (.inl ?_))
  obtain ⟨aF, g7, h⟩ := aT h
  refine eI (IW I.Guard aj _ g7) _ ?_
  refine aZ (fun f_ c5 dR dE => ?_)
  refine ws _ ?_
  rcases bk h with ⟨c2, h⟩ | ⟨c2, h⟩
  ·refine bp (congrArg j.bool c2) ?_
   simp only [c2, aO.down]
   refine ws _ ?_
   exact a6 (dR _ (aJ _ (.inl (a7 [.int .i64 (-1)] rfl (by cases a4 h; rfl) (by decide) a_))))
  ·refine bB (congrArg j.bool c2) ?_
   simp only [c2, aO.down]
   refine bF (c5 _ (.inl ?_))
   refine ws _ ?_
   refine aZ (fun rN ki l0 mr => ?_)
   refine ws _ ?_
   rcases bk h with ⟨dS, h⟩ | ⟨dS, h⟩
   ·refine bp (congrArg j.bool dS) ?_
    simp only [dS, aO.down]
    refine ws _ ?_
    exact a6 (l0 _ (aJ _ (.inl (a7 [.int .i64 (-1)] rfl (by cases a4 h; rfl) (by decide) a_))))
   ·refine bB (congrArg j.bool dS) ?_
    simp only [dS, aO.down]
    refine bF (ki _ (.inl ?_))
    obtain ⟨aW, iC, h⟩ := aT h
    refine eI (IX I.bH (IntKind.i64.wrap (aF - (I.Name.length : Int))) _ iC) _ ?_
    refine aZ (fun qd l1 nJ kZ => ?_)
    refine ws _ ?_
    rcases bk h with ⟨iR, h⟩ | ⟨iR, h⟩
    ·refine bp (congrArg j.bool iR) ?_
     simp only [iR, aO.down]
     refine ws _ ?_
     exact a6 (nJ _ (aJ _ (.inl (a7 [.int .i64 (-1)] rfl (by cases a4 h; rfl) (by decide) a_))))
    ·refine bB (congrArg j.bool iR) ?_
     simp only [iR, aO.down]
     refine bF (l1 _ (.inl ?_))
     obtain ⟨bn, vV, h⟩ := aT h
     refine eI (IX I.Next aW _ vV) _ ?_
     refine aZ (fun zl nK vW vX => ?_)
     refine ws _ ?_
     rcases bk h with ⟨l3, h⟩ | ⟨l3, h⟩
     ·refine bp (congrArg j.bool l3) ?_
      simp only [l3, aO.down]
      refine ws _ ?_
      exact a6 (vW _ (aJ _ (.inl (a7 [.int .i64 (-1)] rfl (by cases a4 h; rfl) (by decide) a_))))
     ·refine bB (congrArg j.bool l3) ?_
      simp only [l3, aO.down]
      refine bF (nK _ (.inl ?_))
      refine ws _ ?_
      exact a6 (aJ _ (.inl (a7 [.int .i64 bn] rfl (by cases a4 h; rfl) (by decide) a_)))
theorem af7 (I : List hQ) (aa : Int) (r : Int) (h : xU I aa = some r) : a0 aq 58 [.slice (I.map ft), .int .i64 aa] (.int .i64 r) [] := by
 refine a0.cF (fx := [0]) cI [.tmp 4] [(0, .slice (I.map ft)), (1, .int .i64 aa)] Try.func58 rfl rfl Q8 (Nat.le_of_ble_eq_true rfl) rfl rfl (fun cv aJ cD => ?_)
 refine ws _ ?_
 refine ws _ ?_
 refine aZ (fun lE gW fw aW => ?_)
 refine ws _ ?_
 rcases bk h with ⟨cc, h⟩ | ⟨cc, h⟩
 ·refine bp (congrArg j.bool cc) ?_
  simp only [cc, aO.down]
  refine ws _ ?_
  exact a6 (fw _ (aJ _ (.inl (a7 [.int .i64 (-1)] rfl (by cases a4 h; rfl) (by decide) a_))))
 ·refine bB (congrArg j.bool cc) ?_
  simp only [cc, aO.down]
  refine bF (gW _ (.inl ?_))
  refine aZ (fun jA fZ hc cj => ?_)
  refine ws _ ?_
  refine cd (fun ht eN eJ cM cL => ?_)
  have o1 : ∀ (n : Nat) (iz : Int) (iA : Int), xT I n iz iA = some r → eg aq HO ht (R [(0, .slice (I.map ft)), (1, .int .i64 iz), (5, .int .i64 iA)]) := by
   intro j2
   induction j2 with
   | zero => intro iz iA h; cases (show none = some r from h)
   | succ j2 o2 =>
    intro iz iA h
    replace h : Hz (xT I j2) I iz iA = some r := h
    refine ew (fun f_ c5 dR dE => ?_)
    refine aZ (fun iB eW hU gh => ?_)
    refine ws _ ?_
    rcases bk h with ⟨gL, h⟩ | ⟨gL, h⟩
    ·refine bp (congrArg j.bool gL) ?_
     simp only [gL, aO.down]
     refine bF (eW _ (.inl ?_))
     refine aZ (fun k3 hh gM jj => ?_)
     refine cd (fun rN ki l0 fS mr => ?_)
     obtain ⟨aj, gN, h⟩ := aT h
     obtain ⟨aF, gO, h⟩ := aT h
     refine j1 gN (af6 aj iz _ gO) _ ?_
     refine ws _ ?_
     rcases bk h with ⟨gP, h⟩ | ⟨gP, h⟩
     ·refine bp (congrArg j.bool gP) ?_
      simp only [gP, aO.down]
      refine ws _ ?_
      exact a6 (l0 _ (gM _ (dR _ (eJ _ (hc _ (aJ _ (.inl (a7 [.int .i64 (-1)] rfl (by cases a4 h; rfl) (by decide) a_))))))))
     ·refine bB (congrArg j.bool gP) ?_
      simp only [gP, aO.down]
      refine bF (ki _ (hh _ (.inl ?_)))
      refine wr _ ?_
      exact c5 _ (.inr ⟨_, cb rfl, o2 aF (IntKind.i64.wrap (iA + 1)) h⟩)
    ·refine bB (congrArg j.bool gL) ?_
     simp only [gL, aO.down]
     refine eu (gh 0 _ (dE 0 _ (cM _ (fZ _ (.inl ?_)))))
     refine ws _ ?_
     exact a6 (aJ _ (.inl (a7 [.int .i64 iz] rfl (by cases a4 h; rfl) (by decide) a_)))
  obtain ⟨n, h⟩ := et h
  exact ev (.inr ⟨_, cb rfl, o1 n (IntKind.i64.wrap (aa - (I.length : Int))) 0 h⟩)
theorem IY (I : jf) (aa : Int) (r : Int) (h : u9 I aa = some r) : a0 aq 25 [gr I, .int .i64 aa] (.int .i64 r) [] := by
 refine a0.cF (fx := [0]) cI [.tmp 4] [(0, gr I), (1, .int .i64 aa)] Try.func25 rfl rfl rL (Nat.le_of_ble_eq_true rfl) rfl rfl (fun cv aJ cD => ?_)
 refine ws _ ?_
 obtain ⟨aj, bf, h⟩ := aT h
 refine eI (IV I.Start aa _ bf) _ ?_
 refine aZ (fun fH fu cZ bn => ?_)
 refine ws _ ?_
 rcases bk h with ⟨dB, h⟩ | ⟨dB, h⟩
 ·refine bp (congrArg j.bool dB) ?_
  simp only [dB, aO.down]
  refine ws _ ?_
  exact a6 (cZ _ (aJ _ (.inl (a7 [.int .i64 (-1)] rfl (by cases a4 h; rfl) (by decide) a_))))
 ·refine bB (congrArg j.bool dB) ?_
  simp only [dB, aO.down]
  refine bF (fu _ (.inl ?_))
  obtain ⟨aF, g7, h⟩ := aT h
  refine eI (af7 I.bG aj _ g7) _ ?_
  refine aZ (fun f_ c5 dR dE => ?_)
  refine ws _ ?_
  rcases bk h with ⟨c2, h⟩ | ⟨c2, h⟩
  ·refine bp (congrArg j.bool c2) ?_
   simp only [c2, aO.down]
   refine ws _ ?_
   exact a6 (dR _ (aJ _ (.inl (a7 [.int .i64 (-1)] rfl (by cases a4 h; rfl) (by decide) a_))))
  ·refine bB (congrArg j.bool c2) ?_
   simp only [c2, aO.down]
   refine bF (c5 _ (.inl ?_))
   refine ws _ ?_
   exact a6 (aJ _ (.inl (a7 [.int .i64 aF] rfl (by cases a4 h; rfl) (by decide) a_)))
theorem IZ (I : List Int) (r : (List Int)) (h : u_ I = some r) : a0 aq 65 [.slice (I.map aD)] (.ai 1 (r.map aD)) [] := by
 refine a0.cF (fx := [0]) cI [.tmp 2] [(0, .slice (I.map aD))] Try.func65 rfl rfl Rq (Nat.le_of_ble_eq_true rfl) rfl rfl (fun cv aJ cD => ?_)
 refine ws _ ?_
 obtain ⟨CM, bf, h⟩ := aT h
 refine cQ (b0 [(0, .slice (I.map aD)), (3, .ai 1 ((List.replicate (Int.toNat (I.length : Int)) 0).map aD))] (fun P al => ?_) ?_)
 ·simp only [aX.down, simprocAttr, nG.down, (gk bf).1, (gk bf).2.1, (gk bf).2.2, fE, List.map_replicate, -Int.reduceNatCast']
  (try simp only [bs.down, simprocAttr, aD, (gk bf).1, (gk bf).2.1, (gk bf).2.2, fE, List.map_replicate, -Int.reduceNatCast'] at al ⊢); exact al
 refine aZ (fun fH fu cZ bn => ?_)
 refine ws [(0, .slice (I.map aD)), (3, .ai 1 ((List.replicate (Int.toNat (I.length : Int)) 0).map aD)), (4, .int .i64 0)] ?_
 refine cd (fun fj dO eR dB bq => ?_)
 have gX : ∀ (n : Nat) (bK : List Int) (cR : Int), xV I n bK cR = some r → eg aq HP fj (R [(0, .slice (I.map aD)), (3, .ai 1 (bK.map aD)), (4, .int .i64 cR)]) := by
  intro c6
  induction c6 with
  | zero => intro bK cR h; cases (show none = some r from h)
  | succ c6 gC =>
   intro bK cR h
   replace h : HA (xV I c6) I bK cR = some r := h
   refine ew (fun jA fZ hc cj => ?_)
   refine aZ (fun hG fM gS b8 => ?_)
   refine ws _ ?_
   rcases bk h with ⟨c7, h⟩ | ⟨c7, h⟩
   ·refine bp (congrArg j.bool c7) ?_
    simp only [c7, aO.down]
    refine bF (fM _ (.inl ?_))
    refine aZ (fun iB eW hU gh => ?_)
    refine cd (fun mu h2 kG c2 kF => ?_)
    obtain ⟨aj, fc, h⟩ := aT h
    obtain ⟨aF, eA, h⟩ := aT h
    refine hs (b0 [(0, .slice (I.map aD)), (3, .ai 1 ((List.set bK (Int.toNat cR) aj).map aD)), (4, .int .i64 cR)] (fun P al => ?_) ?_)
    ·simp only [aX.down, simprocAttr, nG.down, fc, eA, dD eA, cC, fW]
     (try simp only [bs.down, simprocAttr, aD, fc, eA, dD eA, cC, fW] at al ⊢); exact al
    refine h2 _ (eW _ (.inl ?_))
    refine wr [(0, .slice (I.map aD)), (3, .ai 1 ((List.set bK (Int.toNat cR) aj).map aD)), (4, .int .i64 (IntKind.i64.wrap (cR + 1)))] ?_
    exact fZ _ (.inr ⟨_, cb rfl, gC (List.set bK (Int.toNat cR) aj) (IntKind.i64.wrap (cR + 1)) h⟩)
   ·refine bB (congrArg j.bool c7) ?_
    simp only [c7, aO.down]
    refine eu (b8 0 _ (cj 0 _ (dB _ (fu _ (.inl ?_)))))
    refine ws _ ?_
    exact a6 (aJ _ (.inl (a7 [.ai 1 (bK.map aD)] rfl (by cases a4 h; rfl) (by decide) a_)))
 obtain ⟨n, h⟩ := et h
 exact ev (.inr ⟨_, cb rfl, gX n (List.replicate (Int.toNat (I.length : Int)) 0) 0 h⟩)
theorem af8 (I : fY) (r : aA) (h : va I = some r) : a0 aq 170 [e3 I] (aR r) [] := by
 refine a0.cF (fx := [0]) cI [.cell 2 133] [(0, e3 I)] Try.func170 rfl rfl Rw (Nat.le_of_ble_eq_true rfl) rfl rfl (fun cv aJ cD => ?_)
 refine ws _ ?_
 refine ws _ ?_
 refine ws _ ?_
 refine ws _ ?_
 refine ws _ ?_
 exact a6 (aJ _ (.inl (a7 [aR (aA.mk I.Kind I.Value)] rfl (by cases a4 h; rfl) (by decide) a_)))
theorem I0 (I : List fY) (r : (List aA)) (h : tf I = some r) : a0 aq 139 [.slice (I.map e3)] (.ai 2 (r.map aR)) [] := by
 refine a0.cF (fx := [0]) cI [.tmp 2] [(0, .slice (I.map e3))] Try.func139 rfl rfl RF (Nat.le_of_ble_eq_true rfl) rfl rfl (fun cv aJ cD => ?_)
 refine ws _ ?_
 obtain ⟨zm, bf, h⟩ := aT h
 refine cQ (b0 [(0, .slice (I.map e3)), (3, .ai 2 ((List.replicate (Int.toNat (I.length : Int)) (aA.mk 0 0)).map aR))] (fun P al => ?_) ?_)
 ·simp only [aX.down, simprocAttr, eD, e8, nz, eU, nA, aR, e3, (gk bf).1, (gk bf).2.1, (gk bf).2.2, fE, List.map_replicate, -Int.reduceNatCast']
  (try simp only [bs.down, simprocAttr, aR, e3, (gk bf).1, (gk bf).2.1, (gk bf).2.2, fE, List.map_replicate, -Int.reduceNatCast'] at al ⊢); exact al
 refine aZ (fun fH fu cZ bn => ?_)
 refine ws [(0, .slice (I.map e3)), (3, .ai 2 ((List.replicate (Int.toNat (I.length : Int)) (aA.mk 0 0)).map aR)), (4, .int .i64 0)] ?_
 refine cd (fun fj dO eR dB bq => ?_)
 have gX : ∀ (n : Nat) (bK : List aA) (cR : Int), xW I n bK cR = some r → eg aq HQ fj (R [(0, .slice (I.map e3)), (3, .ai 2 (bK.map aR)), (4, .int .i64 cR)]) := by
  intro c6
  induction c6 with
  | zero => intro bK cR h; cases (show none = some r from h)
  | succ c6 gC =>
   intro bK cR h
   replace h : HB (xW I c6) I bK cR = some r := h
   refine ew (fun jA fZ hc cj => ?_)
   refine aZ (fun hG fM gS b8 => ?_)
   refine ws _ ?_
   rcases bk h with ⟨c7, h⟩ | ⟨c7, h⟩
   ·refine bp (congrArg j.bool c7) ?_
    simp only [c7, aO.down]
    refine bF (fM _ (.inl ?_))
    refine aZ (fun iB eW hU gh => ?_)
    refine cd (fun mu h2 kG c2 kF => ?_)
    obtain ⟨aj, fc, h⟩ := aT h
    obtain ⟨aF, eA, h⟩ := aT h
    obtain ⟨aW, dw, h⟩ := aT h
    refine hs (b0 [(0, .slice (I.map e3)), (3, .ai 2 ((List.set bK (Int.toNat cR) aF).map aR)), (4, .int .i64 cR)] (fun P al => ?_) ?_)
    ·simp only [aX.down, simprocAttr, eD, e8, nz, eU, nA, aR, e3, fc, dw, dD dw, cC, fW]
     refine ey (af8 aj _ eA) rfl rfl rfl rfl (.inl (by rfl)) ?_
     simp only [aX.down, simprocAttr, eD, e8, nz, eU, nA, aR, e3, fc, dw, dD dw, cC, fW]
     (try simp only [bs.down, simprocAttr, aR, e3, fc, dw, dD dw, cC, fW] at al ⊢); exact al
    refine h2 _ (eW _ (.inl ?_))
    refine wr [(0, .slice (I.map e3)), (3, .ai 2 ((List.set bK (Int.toNat cR) aF).map aR)), (4, .int .i64 (IntKind.i64.wrap (cR + 1)))] ?_
    exact fZ _ (.inr ⟨_, cb rfl, gC (List.set bK (Int.toNat cR) aF) (IntKind.i64.wrap (cR + 1)) h⟩)
   ·refine bB (congrArg j.bool c7) ?_
    simp only [c7, aO.down]
    refine eu (b8 0 _ (cj 0 _ (dB _ (fu _ (.inl ?_)))))
    refine ws _ ?_
    exact a6 (aJ _ (.inl (a7 [.ai 2 (bK.map aR)] rfl (by cases a4 h; rfl) (by decide) a_)))
 obtain ⟨n, h⟩ := et h
 exact ev (.inr ⟨_, cb rfl, gX n (List.replicate (Int.toNat (I.length : Int)) (aA.mk 0 0)) 0 h⟩)
theorem I1 (I : List (List fY)) (r : (List (List aA))) (h : vb I = some r) : a0 aq 140 [.slice (I.map fs)] (.ai 1 (r.map bl)) [] := by
 refine a0.cF (fx := [0]) cI [.tmp 2] [(0, .slice (I.map fs))] Try.func140 rfl rfl RO (Nat.le_of_ble_eq_true rfl) rfl rfl (fun cv aJ cD => ?_)
 refine ws _ ?_
 obtain ⟨zm, bf, h⟩ := aT h
 refine cQ (b0 [(0, .slice (I.map fs)), (3, .ai 1 (List.replicate (Int.toNat (I.length : Int)) .af))] (fun P al => ?_) ?_)
 ·simp only [aX.down, simprocAttr, eD, e8, fC, nz, pV, eU, nA, e3, fs, (gk bf).1, (gk bf).2.1, (gk bf).2.2, fE, List.map_replicate, -Int.reduceNatCast']
  (try simp only [bs.down, simprocAttr, e3, fs, (gk bf).1, (gk bf).2.1, (gk bf).2.2, fE, List.map_replicate, -Int.reduceNatCast'] at al ⊢); exact al
 refine aZ (fun fH fu cZ bn => ?_)
 refine ws [(0, .slice (I.map fs)), (3, .ai 1 (List.replicate (Int.toNat (I.length : Int)) .af)), (4, .int .i64 0)] ?_
 refine cd (fun fj dO eR dB bq => ?_)
 have gX : ∀ (n : Nat) (bK : List (List aA)) (cR : Int), xX I n bK cR = some r → eg aq HR fj (R [(0, .slice (I.map fs)), (3, .ai 1 (bK.map bl)), (4, .int .i64 cR)]) := by
  intro c6
  induction c6 with
  | zero => intro bK cR h; cases (show none = some r from h)
  | succ c6 gC =>
   intro bK cR h
   replace h : HC (xX I c6) I bK cR = some r := h
   refine ew (fun jA fZ hc cj => ?_)
   refine aZ (fun hG fM gS b8 => ?_)
   refine ws _ ?_
   rcases bk h with ⟨c7, h⟩ | ⟨c7, h⟩
   ·refine bp (congrArg j.bool c7) ?_
    simp only [c7, aO.down]
    refine bF (fM _ (.inl ?_))
    refine aZ (fun iB eW hU gh => ?_)
    refine cd (fun mu h2 kG c2 kF => ?_)
    obtain ⟨aj, fc, h⟩ := aT h
    obtain ⟨aF, eA, h⟩ := aT h
    obtain ⟨aW, dw, h⟩ := aT h
    refine hs (b0 [(0, .slice (I.map fs)), (3, .ai 1 ((List.set bK (Int.toNat cR) aF).map bl)), (4, .int .i64 cR)] (fun P al => ?_) ?_)
    ·simp only [aX.down, simprocAttr, eD, e8, fC, nz, pV, eU, nA, aR, e3, fs, bl, fc, dw, dD dw, cC, fW]
     refine ey (I0 aj _ eA) rfl rfl rfl rfl (.inl (by rfl)) ?_
     simp only [aX.down, simprocAttr, eD, e8, fC, nz, pV, eU, nA, aR, e3, fs, bl, fc, dw, dD dw, cC, fW]
     (try simp only [bs.down, simprocAttr, aR, e3, fs, bl, fc, dw, dD dw, cC, fW] at al ⊢); exact al
    refine h2 _ (eW _ (.inl ?_))
    refine wr [(0, .slice (I.map fs)), (3, .ai 1 ((List.set bK (Int.toNat cR) aF).map bl)), (4, .int .i64 (IntKind.i64.wrap (cR + 1)))] ?_
    exact fZ _ (.inr ⟨_, cb rfl, gC (List.set bK (Int.toNat cR) aF) (IntKind.i64.wrap (cR + 1)) h⟩)
   ·refine bB (congrArg j.bool c7) ?_
    simp only [c7, aO.down]
    refine eu (b8 0 _ (cj 0 _ (dB _ (fu _ (.inl ?_)))))
    refine ws _ ?_
    exact a6 (aJ _ (.inl (a7 [.ai 1 (bK.map bl)] rfl (by cases a4 h; rfl) (by decide) a_)))
 obtain ⟨n, h⟩ := et h
 exact ev (.inr ⟨_, jd [] rfl (dQ (t := 0) (d := .slice (I.map fs)) rfl (i2 (t := 3) (d := .ai 1 (List.replicate (Int.toNat (I.length : Int)) .af)) (bw := .ai 1 ((List.replicate (Int.toNat (I.length : Int)) []).map bl)) rfl rfl (Gz (u := bl) (z := []) (.gq _) _) (by decide) (dQ (t := 4) (d := .int .i64 0) rfl (je)))), gX n (List.replicate (Int.toNat (I.length : Int)) []) 0 h⟩)
theorem af9 (I : hQ) (r : aY) (h : vc I = some r) : a0 aq 102 [ft I] (br r) [] := by
 refine a0.cF (fx := [0]) cI [.cell 2 90] [(0, ft I)] Try.func102 rfl rfl RX (Nat.le_of_ble_eq_true rfl) rfl rfl (fun cv aJ cD => ?_)
 refine ws _ ?_
 refine ws _ ?_
 obtain ⟨aj, cn, h⟩ := aT h
 refine eI (IZ I.bo _ cn) _ ?_
 obtain ⟨aF, b_, h⟩ := aT h
 refine eI (I0 I.Guard _ b_) _ ?_
 refine ws _ ?_
 obtain ⟨aW, g7, h⟩ := aT h
 refine eI (I1 I.bH _ g7) _ ?_
 obtain ⟨bn, qH, h⟩ := aT h
 refine eI (I1 I.Next _ qH) _ ?_
 refine ws _ ?_
 exact a6 (aJ _ (.inl (a7 [br (aY.mk aj aF I.Name aW bn)] rfl (by cases a4 h; rfl) (by decide) a_)))
theorem af_ (I : List hQ) (r : (List aY)) (h : xZ I = some r) : a0 aq 66 [.slice (I.map ft)] (.ai 5 (r.map br)) [] := by
 refine a0.cF (fx := [0]) cI [.tmp 2] [(0, .slice (I.map ft))] Try.func66 rfl rfl R6 (Nat.le_of_ble_eq_true rfl) rfl rfl (fun cv aJ cD => ?_)
 refine ws _ ?_
 obtain ⟨zm, bf, h⟩ := aT h
 refine cQ (b0 [(0, .slice (I.map ft)), (3, .ai 5 (List.replicate (Int.toNat (I.length : Int)) (.agg [.af, .af, (.str []), .af, .af])))] (fun P al => ?_) ?_)
 ·simp only [aX.down, simprocAttr, eD, fX, hf, u2, jL, e8, fC, h0, nz, pV, u3, eU, nA, aD, ft, e3, fs, (gk bf).1, (gk bf).2.1, (gk bf).2.2, fE, List.map_replicate, -Int.reduceNatCast']
  (try simp only [bs.down, simprocAttr, aD, ft, e3, fs, (gk bf).1, (gk bf).2.1, (gk bf).2.2, fE, List.map_replicate, -Int.reduceNatCast'] at al ⊢); exact al
 refine aZ (fun fH fu cZ bn => ?_)
 refine ws [(0, .slice (I.map ft)), (3, .ai 5 (List.replicate (Int.toNat (I.length : Int)) (.agg [.af, .af, (.str []), .af, .af]))), (4, .int .i64 0)] ?_
 refine cd (fun fj dO eR dB bq => ?_)
 have gX : ∀ (n : Nat) (bK : List aY) (cR : Int), xY I n bK cR = some r → eg aq HS fj (R [(0, .slice (I.map ft)), (3, .ai 5 (bK.map br)), (4, .int .i64 cR)]) := by
  intro c6
  induction c6 with
  | zero => intro bK cR h; cases (show none = some r from h)
  | succ c6 gC =>
   intro bK cR h
   replace h : HD (xY I c6) I bK cR = some r := h
   refine ew (fun jA fZ hc cj => ?_)
   refine aZ (fun hG fM gS b8 => ?_)
   refine ws _ ?_
   rcases bk h with ⟨c7, h⟩ | ⟨c7, h⟩
   ·refine bp (congrArg j.bool c7) ?_
    simp only [c7, aO.down]
    refine bF (fM _ (.inl ?_))
    refine aZ (fun iB eW hU gh => ?_)
    refine cd (fun mu h2 kG c2 kF => ?_)
    obtain ⟨aj, fc, h⟩ := aT h
    obtain ⟨aF, eA, h⟩ := aT h
    obtain ⟨aW, dw, h⟩ := aT h
    refine hs (b0 [(0, .slice (I.map ft)), (3, .ai 5 ((List.set bK (Int.toNat cR) aF).map br)), (4, .int .i64 cR)] (fun P al => ?_) ?_)
    ·simp only [aX.down, simprocAttr, eD, fX, hf, u2, jL, e8, fC, h0, nz, pV, u3, eU, nA, aD, aR, ft, e3, fs, br, bl, fc, dw, dD dw, cC, fW]
     refine ey (af9 aj _ eA) rfl rfl rfl rfl (.inl (by rfl)) ?_
     simp only [aX.down, simprocAttr, eD, fX, hf, u2, jL, e8, fC, h0, nz, pV, u3, eU, nA, aD, aR, ft, e3, fs, br, bl, fc, dw, dD dw, cC, fW]
     (try simp only [bs.down, simprocAttr, aD, aR, ft, e3, fs, br, bl, fc, dw, dD dw, cC, fW] at al ⊢); exact al
    refine h2 _ (eW _ (.inl ?_))
    refine wr [(0, .slice (I.map ft)), (3, .ai 5 ((List.set bK (Int.toNat cR) aF).map br)), (4, .int .i64 (IntKind.i64.wrap (cR + 1)))] ?_
    exact fZ _ (.inr ⟨_, cb rfl, gC (List.set bK (Int.toNat cR) aF) (IntKind.i64.wrap (cR + 1)) h⟩)
   ·refine bB (congrArg j.bool c7) ?_
    simp only [c7, aO.down]
    refine eu (b8 0 _ (cj 0 _ (dB _ (fu _ (.inl ?_)))))
    refine ws _ ?_
    exact a6 (aJ _ (.inl (a7 [.ai 5 (bK.map br)] rfl (by cases a4 h; rfl) (by decide) a_)))
 obtain ⟨n, h⟩ := et h
 exact ev (.inr ⟨_, jd [] rfl (dQ (t := 0) (d := .slice (I.map ft)) rfl (i2 (t := 3) (d := .ai 5 (List.replicate (Int.toNat (I.length : Int)) (.agg [.af, .af, (.str []), .af, .af]))) (bw := .ai 5 ((List.replicate (Int.toNat (I.length : Int)) (aY.mk [] [] ([] : List UInt8) [] [])).map br)) rfl rfl (Gz (u := br) (z := (aY.mk [] [] ([] : List UInt8) [] [])) (.agg (.cons (.gq _) (.cons (.gq _) (.cons (.refl _) (.cons (.gq _) (.cons (.gq _) (.nil))))))) _) (by decide) (dQ (t := 4) (d := .int .i64 0) rfl (je)))), gX n (List.replicate (Int.toNat (I.length : Int)) (aY.mk [] [] ([] : List UInt8) [] [])) 0 h⟩)
theorem m3 (I : jf) (r : bc) (h : nB I = some r) : a0 aq 27 [gr I] (dC r) [] := by
 refine a0.cF (fx := [0]) cI [.cell 2 47] [(0, gr I)] Try.func27 rfl rfl Sc (Nat.le_of_ble_eq_true rfl) rfl rfl (fun cv aJ cD => ?_)
 refine ws _ ?_
 refine ws _ ?_
 refine ws _ ?_
 obtain ⟨aj, c3, h⟩ := aT h
 refine eI (IZ I.Start _ c3) _ ?_
 obtain ⟨aF, bV, h⟩ := aT h
 refine eI (af_ I.bG _ bV) _ ?_
 refine ws _ ?_
 exact a6 (aJ _ (.inl (a7 [dC (bc.mk I.aV aj aF)] rfl (by cases a4 h; rfl) (by decide) a_)))
theorem qe (I : Int) (aa : Int) (a9 : Int) (r : Bool) (h : nC I aa a9 = some r) : a0 aq 94 [.int .i64 I, .int .i64 aa, .int .i64 a9] (.bool r) [] := by
 refine a0.cF (fx := [0, 1, 2]) cI [.tmp 6] [(0, .int .i64 I), (1, .int .i64 aa), (2, .int .i64 a9)] Try.func94 rfl rfl Sf (Nat.le_of_ble_eq_true rfl) rfl rfl (fun cv aJ cD => ?_)
 refine ws _ ?_
 refine cQ (b0 [(6, .bool ((decide (aa ≤ I)) && (decide (I ≤ a9))))] (fun P al => ?_) ?_)
 ·rcases Bool.eq_false_or_eq_true (decide (aa ≤ I)) with gf | gf
  ·simp only [aX.down, simprocAttr, gf]
   (try simp only [bs.down, simprocAttr, gf] at al ⊢); exact al
  ·simp only [aX.down, simprocAttr, gf]
   (try simp only [bs.down, simprocAttr, gf] at al ⊢); exact al
 exact a6 (aJ _ (.inl (a7 [.bool ((decide (aa ≤ I)) && (decide (I ≤ a9)))] rfl (by cases a4 h; rfl) (by decide) a_)))
theorem aga (I : List Int) (r : Bool) (h : x1 I = some r) : a0 aq 135 [.slice (I.map aD)] (.bool r) [] := by
 refine a0.cF (fx := [0]) cI [.tmp 2] [(0, .slice (I.map aD))] Try.func135 rfl rfl Sq (Nat.le_of_ble_eq_true rfl) rfl rfl (fun cv aJ cD => ?_)
 refine ws _ ?_
 refine aZ (fun fB cT bP aF => ?_)
 refine ws _ ?_
 refine cd (fun fH fu cZ b3 bn => ?_)
 have h3 : ∀ (n : Nat) (mY : Int), tg I n mY = some r → eg aq HT fH (R [(0, .slice (I.map aD)), (3, .int .i64 mY)]) := by
  intro dK
  induction dK with
  | zero => intro mY h; cases (show none = some r from h)
  | succ dK hV =>
   intro mY h
   replace h : x0 (tg I dK) I mY = some r := h
   refine ew (fun gD fk el bu => ?_)
   refine aZ (fun fj dO eR bq => ?_)
   refine ws _ ?_
   rcases bk h with ⟨bW, h⟩ | ⟨bW, h⟩
   ·refine bp (congrArg j.bool bW) ?_
    simp only [bW, aO.down]
    refine bF (dO _ (.inl ?_))
    refine aZ (fun ht eN eJ cL => ?_)
    refine cd (fun f_ c5 dR c7 dE => ?_)
    obtain ⟨aj, eG, h⟩ := aT h
    obtain ⟨aF, eP, h⟩ := aT h
    refine j1 eG (qe aj 0 63 _ eP) _ ?_
    rcases bk h with ⟨dY, h⟩ | ⟨dY, h⟩
    ·refine bp (congrArg j.bool dY) ?_
     simp only [(eT dY), aO.down]
     refine ws _ ?_
     exact a6 (dR _ (eJ _ (el _ (cZ _ (bP _ (aJ _ (.inl (a7 [.bool false] rfl (by cases a4 h; rfl) (by decide) a_))))))))
    ·refine bB (congrArg j.bool dY) ?_
     simp only [(dz dY), aO.down]
     refine bF (c5 _ (eN _ (.inl ?_)))
     refine wr _ ?_
     exact fk _ (.inr ⟨_, cb rfl, hV (IntKind.i64.wrap (mY + 1)) h⟩)
   ·refine bB (congrArg j.bool bW) ?_
    simp only [bW, aO.down]
    refine eu (bq 0 _ (bu 0 _ (b3 _ (cT _ (.inl ?_)))))
    refine ws _ ?_
    exact a6 (aJ _ (.inl (a7 [.bool true] rfl (by cases a4 h; rfl) (by decide) a_)))
 obtain ⟨n, h⟩ := et h
 exact ev (.inr ⟨_, cb rfl, h3 n 0 h⟩)
theorem I2 (I : List Int) (aa : Int) (r : Bool) (h : x2 I aa = some r) : a0 aq 99 [.slice (I.map aD), .int .i64 aa] (.bool r) [] := by
 refine a0.cF (fx := [0, 1]) cI [.tmp 4] [(0, .slice (I.map aD)), (1, .int .i64 aa)] Try.func99 rfl rfl St (Nat.le_of_ble_eq_true rfl) rfl rfl (fun cv aJ cD => ?_)
 refine ws _ ?_
 rcases bk h with ⟨hM, h⟩ | ⟨hM, h⟩
 ·obtain ⟨aj, cn, h⟩ := aT h
  refine cQ (b0 [(4, .bool aj)] (fun P al => ?_) ?_)
  ·simp only [aX.down, simprocAttr, nG.down, hM]
   refine jc (aga I _ cn) rfl rfl rfl rfl (.inl (by rfl)) ?_
   simp only [aX.down, simprocAttr, nG.down, hM]
   (try simp only [bs.down, simprocAttr, aD, hM] at al ⊢); exact al
  exact a6 (aJ _ (.inl (a7 [.bool aj] rfl (by cases a4 h; rfl) (by decide) a_)))
 ·refine fG hM _ ?_
  exact a6 (aJ _ (.inl (a7 [.bool false] rfl (by cases a4 h; rfl) (by decide) a_)))
theorem agb (I : List Int) (r : Int) (h : x4 I = some r) : a0 aq 60 [.slice (I.map aD)] (.int .i64 r) [] := by
 refine a0.cF (fx := [0]) cI [.tmp 2] [(0, .slice (I.map aD))] Try.func60 rfl rfl SM (Nat.le_of_ble_eq_true rfl) rfl rfl (fun cv aJ cD => ?_)
 refine ws _ ?_
 refine aZ (fun fB cT bP aF => ?_)
 refine ws _ ?_
 rcases bk h with ⟨b3, h⟩ | ⟨b3, h⟩
 ·refine bp (congrArg j.bool b3) ?_
  simp only [b3, aO.down]
  refine ws _ ?_
  exact a6 (bP _ (aJ _ (.inl (a7 [.int .i64 0] rfl (by cases a4 h; rfl) (by decide) a_))))
 ·refine bB (congrArg j.bool b3) ?_
  simp only [b3, aO.down]
  refine bF (cT _ (.inl ?_))
  refine ws _ ?_
  refine aZ (fun jA fZ hc cj => ?_)
  refine ws _ ?_
  refine cd (fun ht eN eJ cM cL => ?_)
  have o1 : ∀ (n : Nat) (ml : Int) (mZ : Int), rb I n ml mZ = some r → eg aq HU ht (R [(0, .slice (I.map aD)), (3, .int .i64 ml), (4, .int .i64 mZ)]) := by
   intro j2
   induction j2 with
   | zero => intro ml mZ h; cases (show none = some r from h)
   | succ j2 o2 =>
    intro ml mZ h
    replace h : x3 (rb I j2) I ml mZ = some r := h
    refine ew (fun f_ c5 dR dE => ?_)
    refine aZ (fun iB eW hU gh => ?_)
    refine ws _ ?_
    rcases bk h with ⟨gL, h⟩ | ⟨gL, h⟩
    ·refine bp (congrArg j.bool gL) ?_
     simp only [gL, aO.down]
     refine bF (eW _ (.inl ?_))
     refine aZ (fun k3 hh gM jj => ?_)
     refine cd (fun rN ki l0 fS mr => ?_)
     refine aZ (fun vY qf om oi => ?_)
     obtain ⟨aj, gO, h⟩ := aT h
     obtain ⟨aF, jB, h⟩ := aT h
     refine j1 gO (qe aj 1 7 _ jB) _ ?_
     rcases bk h with ⟨gP, h⟩ | ⟨gP, h⟩
     ·refine bp (congrArg j.bool gP) ?_
      simp only [(eT gP), aO.down]
      refine ws _ ?_
      exact a6 (om _ (l0 _ (gM _ (dR _ (eJ _ (hc _ (aJ _ (.inl (a7 [.int .i64 0] rfl (by cases a4 h; rfl) (by decide) a_)))))))))
     ·refine bB (congrArg j.bool gP) ?_
      simp only [(dz gP), aO.down]
      refine bF (qf _ (.inl ?_))
      refine vR gO _ ?_
      refine ki _ (hh _ (.inl ?_))
      refine wr _ ?_
      exact c5 _ (.inr ⟨_, cb rfl, o2 (IntKind.i64.wrap (ml * (IntKind.i64.wrap (aj + 1)))) (IntKind.i64.wrap (mZ + 1)) h⟩)
    ·refine bB (congrArg j.bool gL) ?_
     simp only [gL, aO.down]
     refine eu (gh 0 _ (dE 0 _ (cM _ (fZ _ (.inl ?_)))))
     refine aZ (fun rO lF o3 m4 => ?_)
     refine ws _ ?_
     rcases bk h with ⟨h4, h⟩ | ⟨h4, h⟩
     ·refine bp (congrArg j.bool h4) ?_
      simp only [h4, aO.down]
      refine ws _ ?_
      exact a6 (o3 _ (aJ _ (.inl (a7 [.int .i64 0] rfl (by cases a4 h; rfl) (by decide) a_))))
     ·refine bB (congrArg j.bool h4) ?_
      simp only [h4, aO.down]
      refine bF (lF _ (.inl ?_))
      refine ws _ ?_
      exact a6 (aJ _ (.inl (a7 [.int .i64 ml] rfl (by cases a4 h; rfl) (by decide) a_)))
  obtain ⟨n, h⟩ := et h
  exact ev (.inr ⟨_, cb rfl, o1 n 1 0 h⟩)
theorem agc (I : aA) (aa : Int) (r : Bool) (h : x5 I aa = some r) : a0 aq 168 [.ref (aR I), .int .i64 aa] (.bool r) [] := by
 refine a0.cF (fx := [0, 1]) cI [.tmp 4] [(0, .ref (aR I)), (1, .int .i64 aa)] Try.func168 rfl rfl S3 (Nat.le_of_ble_eq_true rfl) rfl rfl (fun cv aJ cD => ?_)
 refine ws _ ?_
 refine aZ (fun fB cT bP aF => ?_)
 refine ws _ ?_
 refine cd (fun fH fu cZ b3 bn => ?_)
 refine ws _ ?_
 rcases bk h with ⟨dB, h⟩ | ⟨dB, h⟩
 ·refine bp (congrArg j.bool dB) ?_
  simp only [dB, aO.down]
  obtain ⟨aj, hK, h⟩ := aT h
  refine eI (qe I.Value 0 63 _ hK) _ ?_
  exact a6 (cZ _ (bP _ (aJ _ (.inl (a7 [.bool aj] rfl (by cases a4 h; rfl) (by decide) a_)))))
 ·refine bB (congrArg j.bool dB) ?_
  simp only [dB, aO.down]
  refine ws _ ?_
  rcases bk h with ⟨c7, h⟩ | ⟨c7, h⟩
  ·refine bp (congrArg j.bool c7) ?_
   simp only [c7, aO.down]
   obtain ⟨aF, eG, h⟩ := aT h
   refine eI (qe I.Value 0 (IntKind.i64.wrap (aa - 1)) _ eG) _ ?_
   exact a6 (cZ _ (bP _ (aJ _ (.inl (a7 [.bool aF] rfl (by cases a4 h; rfl) (by decide) a_)))))
  ·refine bB (congrArg j.bool c7) ?_
   simp only [c7, aO.down]
   refine ws _ ?_
   rcases bk h with ⟨dY, h⟩ | ⟨dY, h⟩
   ·refine bp (congrArg j.bool dY) ?_
    simp only [dY, aO.down]
    obtain ⟨aW, dw, h⟩ := aT h
    refine eI (qe I.Value 0 8 _ dw) _ ?_
    exact a6 (cZ _ (bP _ (aJ _ (.inl (a7 [.bool aW] rfl (by cases a4 h; rfl) (by decide) a_)))))
   ·refine bB (congrArg j.bool dY) ?_
    simp only [dY, aO.down]
    refine ws _ ?_
    rcases bk h with ⟨hH, h⟩ | ⟨hH, h⟩
    ·refine bp (congrArg j.bool hH) ?_
     simp only [hH, aO.down]
     refine ws _ ?_
     exact a6 (cZ _ (bP _ (aJ _ (.inl (a7 [.bool (I.Value == 0)] rfl (by cases a4 h; rfl) (by decide) a_)))))
    ·refine bB (congrArg j.bool hH) ?_
     simp only [hH, aO.down]
     refine bF (fu _ (cT _ (.inl ?_)))
     refine ws _ ?_
     exact a6 (aJ _ (.inl (a7 [.bool false] rfl (by cases a4 h; rfl) (by decide) a_)))
theorem agd (I : aA) (r : Int) (h : Cg I = some r) : a0 aq 169 [.ref (aR I)] (.int .i64 r) [] := by
 refine a0.cF (fx := [0]) cI [.tmp 2] [(0, .ref (aR I))] Try.func169 rfl rfl Tc (Nat.le_of_ble_eq_true rfl) rfl rfl (fun cv aJ cD => ?_)
 refine ws _ ?_
 refine aZ (fun fB cT bP aF => ?_)
 refine ws _ ?_
 refine cd (fun fH fu cZ b3 bn => ?_)
 refine ws _ ?_
 rcases bk h with ⟨dB, h⟩ | ⟨dB, h⟩
 ·refine bp (congrArg j.bool dB) ?_
  simp only [dB, aO.down]
  refine ws _ ?_
  exact a6 (cZ _ (bP _ (aJ _ (.inl (a7 [.int .i64 2] rfl (by cases a4 h; rfl) (by decide) a_)))))
 ·refine bB (congrArg j.bool dB) ?_
  simp only [dB, aO.down]
  refine ws _ ?_
  rcases bk h with ⟨cM, h⟩ | ⟨cM, h⟩
  ·refine bp (congrArg j.bool cM) ?_
   simp only [cM, aO.down]
   refine ws _ ?_
   exact a6 (cZ _ (bP _ (aJ _ (.inl (a7 [.int .i64 1] rfl (by cases a4 h; rfl) (by decide) a_)))))
  ·refine bB (congrArg j.bool cM) ?_
   simp only [cM, aO.down]
   refine bF (fu _ (cT _ (.inl ?_)))
   refine ws _ ?_
   exact a6 (aJ _ (.inl (a7 [.int .i64 0] rfl (by cases a4 h; rfl) (by decide) a_)))
theorem CN (I : List aA) (aa : Int) (a9 : Int) (r : Bool) (h : vd I aa a9 = some r) : a0 aq 136 [.slice (I.map aR), .int .i64 aa, .int .i64 a9] (.bool r) [] := by
 refine a0.cF (fx := [0, 1, 2]) cI [.tmp 6] [(0, .slice (I.map aR)), (1, .int .i64 aa), (2, .int .i64 a9)] Try.func136 rfl rfl Tr (Nat.le_of_ble_eq_true rfl) rfl rfl (fun cv aJ cD => ?_)
 refine ws _ ?_
 refine aZ (fun fB cT bP aF => ?_)
 refine ws _ ?_
 rcases bk h with ⟨b3, h⟩ | ⟨b3, h⟩
 ·refine bp (congrArg j.bool b3) ?_
  simp only [b3, aO.down]
  refine ws _ ?_
  exact a6 (bP _ (aJ _ (.inl (a7 [.bool false] rfl (by cases a4 h; rfl) (by decide) a_))))
 ·refine bB (congrArg j.bool b3) ?_
  simp only [b3, aO.down]
  refine bF (cT _ (.inl ?_))
  refine ws _ ?_
  refine aZ (fun jA fZ hc cj => ?_)
  refine ws _ ?_
  refine cd (fun ht eN eJ cM cL => ?_)
  have o1 : ∀ (n : Nat) (hD : Int) (mm : Int), re I aa n hD mm = some r → eg aq HV ht (R [(0, .slice (I.map aR)), (1, .int .i64 aa), (7, .int .i64 hD), (8, .int .i64 mm)]) := by
   intro j2
   induction j2 with
   | zero => intro hD mm h; cases (show none = some r from h)
   | succ j2 o2 =>
    intro hD mm h
    replace h : x6 (re I aa j2) I aa hD mm = some r := h
    refine ew (fun f_ c5 dR dE => ?_)
    refine aZ (fun iB eW hU gh => ?_)
    refine ws _ ?_
    rcases bk h with ⟨gL, h⟩ | ⟨gL, h⟩
    ·refine bp (congrArg j.bool gL) ?_
     simp only [gL, aO.down]
     refine bF (eW _ (.inl ?_))
     refine aZ (fun k3 hh gM jj => ?_)
     refine cd (fun rN ki l0 fS mr => ?_)
     refine aZ (fun vY qf om oi => ?_)
     rcases bk h with ⟨hH, h⟩ | ⟨hH, h⟩
     ·refine fG hH _ ?_
      refine bp rfl ?_
      refine ws _ ?_
      exact a6 (om _ (l0 _ (gM _ (dR _ (eJ _ (hc _ (aJ _ (.inl (a7 [.bool false] rfl (by cases a4 h; rfl) (by decide) a_)))))))))
     ·obtain ⟨aj, iC, h⟩ := aT h
      obtain ⟨aF, h5, h⟩ := aT h
      refine cQ (b0 [(0, .slice (I.map aR)), (1, .int .i64 aa), (7, .int .i64 hD), (8, .int .i64 mm), (28, .bool (!aF))] (fun P al => ?_) ?_)
      ·simp only [aX.down, simprocAttr, hS.down, hH, iC]
       refine jc (agc aj aa _ h5) rfl rfl rfl rfl (.inl (by rfl)) ?_
       simp only [aX.down, simprocAttr, hS.down, hH, iC]
       (try simp only [bs.down, simprocAttr, aR, hH, iC] at al ⊢); exact al
      rcases bk h with ⟨jP, h⟩ | ⟨jP, h⟩
      ·refine bp (congrArg j.bool jP) ?_
       simp only [(eT jP), aO.down]
       refine ws _ ?_
       exact a6 (om _ (l0 _ (gM _ (dR _ (eJ _ (hc _ (aJ _ (.inl (a7 [.bool false] rfl (by cases a4 h; rfl) (by decide) a_)))))))))
      ·refine bB (congrArg j.bool jP) ?_
       simp only [(dz jP), aO.down]
       refine bF (qf _ (.inl ?_))
       obtain ⟨aW, k4, h⟩ := aT h
       refine af5 iC (agd aj _ k4) _ ?_
       refine ki _ (hh _ (.inl ?_))
       refine wr _ ?_
       exact c5 _ (.inr ⟨_, cb rfl, o2 (IntKind.i64.wrap (hD + (IntKind.i64.wrap (aW - 1)))) (IntKind.i64.wrap (mm + 1)) h⟩)
    ·refine bB (congrArg j.bool gL) ?_
     simp only [gL, aO.down]
     refine eu (gh 0 _ (dE 0 _ (cM _ (fZ _ (.inl ?_)))))
     refine ws _ ?_
     exact a6 (aJ _ (.inl (a7 [.bool (hD == 0)] rfl (by cases a4 h; rfl) (by decide) a_)))
  obtain ⟨n, h⟩ := et h
  exact ev (.inr ⟨_, cb rfl, o1 n 1 0 h⟩)
theorem tx (I : List (List aA)) (aa : Int) (r : Bool) (h : rf I aa = some r) : a0 aq 138 [.slice (I.map bC), .int .i64 aa] (.bool r) [] := by
 refine a0.cF (fx := [0, 1]) cI [.tmp 4] [(0, .slice (I.map bC)), (1, .int .i64 aa)] Try.func138 rfl rfl TB (Nat.le_of_ble_eq_true rfl) rfl rfl (fun cv aJ cD => ?_)
 refine ws _ ?_
 refine aZ (fun fB cT bP aF => ?_)
 refine ws _ ?_
 refine cd (fun fH fu cZ b3 bn => ?_)
 have h3 : ∀ (n : Nat) (bb : Int), th I aa n bb = some r → eg aq HW fH (R [(0, .slice (I.map bC)), (1, .int .i64 aa), (5, .int .i64 bb)]) := by
  intro dK
  induction dK with
  | zero => intro bb h; cases (show none = some r from h)
  | succ dK hV =>
   intro bb h
   replace h : x7 (th I aa dK) I aa bb = some r := h
   refine ew (fun gD fk el bu => ?_)
   refine aZ (fun fj dO eR bq => ?_)
   refine ws _ ?_
   rcases bk h with ⟨bW, h⟩ | ⟨bW, h⟩
   ·refine bp (congrArg j.bool bW) ?_
    simp only [bW, aO.down]
    refine bF (dO _ (.inl ?_))
    refine aZ (fun ht eN eJ cL => ?_)
    refine cd (fun f_ c5 dR c7 dE => ?_)
    obtain ⟨aj, eG, h⟩ := aT h
    obtain ⟨aF, eP, h⟩ := aT h
    refine j1 eG (CN aj aa 60 _ eP) _ ?_
    rcases bk h with ⟨dY, h⟩ | ⟨dY, h⟩
    ·refine bp (congrArg j.bool dY) ?_
     simp only [(eT dY), aO.down]
     refine ws _ ?_
     exact a6 (dR _ (eJ _ (el _ (cZ _ (bP _ (aJ _ (.inl (a7 [.bool false] rfl (by cases a4 h; rfl) (by decide) a_))))))))
    ·refine bB (congrArg j.bool dY) ?_
     simp only [(dz dY), aO.down]
     refine bF (c5 _ (eN _ (.inl ?_)))
     refine wr _ ?_
     exact fk _ (.inr ⟨_, cb rfl, hV (IntKind.i64.wrap (bb + 1)) h⟩)
   ·refine bB (congrArg j.bool bW) ?_
    simp only [bW, aO.down]
    refine eu (bq 0 _ (bu 0 _ (b3 _ (cT _ (.inl ?_)))))
    refine ws _ ?_
    exact a6 (aJ _ (.inl (a7 [.bool true] rfl (by cases a4 h; rfl) (by decide) a_)))
 obtain ⟨n, h⟩ := et h
 exact ev (.inr ⟨_, cb rfl, h3 n 0 h⟩)
theorem CO (I : UInt8) (r : Bool) (h : ve I = some r) : a0 aq 91 [.int .u8 (I.toNat : Int)] (.bool r) [] := by
 refine a0.cF (fx := [0]) cI [.tmp 2] [(0, .int .u8 (I.toNat : Int))] Try.func91 rfl rfl TE (Nat.le_of_ble_eq_true rfl) rfl rfl (fun cv aJ cD => ?_)
 refine ws _ ?_
 refine cQ (b0 [(2, .bool ((decide (97 ≤ (I.toNat : Int))) && (decide ((I.toNat : Int) ≤ 122))))] (fun P al => ?_) ?_)
 ·rcases Bool.eq_false_or_eq_true (decide (97 ≤ (I.toNat : Int))) with gf | gf
  ·simp only [aX.down, simprocAttr, gf]
   (try simp only [bs.down, simprocAttr, gf] at al ⊢); exact al
  ·simp only [aX.down, simprocAttr, gf]
   (try simp only [bs.down, simprocAttr, gf] at al ⊢); exact al
 exact a6 (aJ _ (.inl (a7 [.bool ((decide (97 ≤ (I.toNat : Int))) && (decide ((I.toNat : Int) ≤ 122)))] rfl (by cases a4 h; rfl) (by decide) a_)))
theorem age (I : UInt8) (r : Bool) (h : Ch I = some r) : a0 aq 92 [.int .u8 (I.toNat : Int)] (.bool r) [] := by
 refine a0.cF (fx := [0]) cI [.tmp 2] [(0, .int .u8 (I.toNat : Int))] Try.func92 rfl rfl TH (Nat.le_of_ble_eq_true rfl) rfl rfl (fun cv aJ cD => ?_)
 refine ws _ ?_
 refine cQ (b0 [(2, .bool ((decide (48 ≤ (I.toNat : Int))) && (decide ((I.toNat : Int) ≤ 57))))] (fun P al => ?_) ?_)
 ·rcases Bool.eq_false_or_eq_true (decide (48 ≤ (I.toNat : Int))) with gf | gf
  ·simp only [aX.down, simprocAttr, gf]
   (try simp only [bs.down, simprocAttr, gf] at al ⊢); exact al
  ·simp only [aX.down, simprocAttr, gf]
   (try simp only [bs.down, simprocAttr, gf] at al ⊢); exact al
 exact a6 (aJ _ (.inl (a7 [.bool ((decide (48 ≤ (I.toNat : Int))) && (decide ((I.toNat : Int) ≤ 57)))] rfl (by cases a4 h; rfl) (by decide) a_)))
theorem I3 (I : List UInt8) (r : Bool) (h : x9 I = some r) : a0 aq 52 [.str I] (.bool r) [] := by
 refine a0.cF (fx := [0]) cI [.tmp 2] [(0, .str I)] Try.func52 rfl rfl TU (Nat.le_of_ble_eq_true rfl) rfl rfl (fun cv aJ cD => ?_)
 refine ws _ ?_
 refine aZ (fun fB cT bP aF => ?_)
 rcases bk h with ⟨b3, h⟩ | ⟨b3, h⟩
 ·refine fG b3 _ ?_
  refine bp rfl ?_
  refine ws _ ?_
  exact a6 (bP _ (aJ _ (.inl (a7 [.bool false] rfl (by cases a4 h; rfl) (by decide) a_))))
 ·rcases bk h with ⟨dB, h⟩ | ⟨dB, h⟩
  ·refine fG (And.intro b3 dB) _ ?_
   refine bp rfl ?_
   refine ws _ ?_
   exact a6 (bP _ (aJ _ (.inl (a7 [.bool false] rfl (by cases a4 h; rfl) (by decide) a_))))
  ·obtain ⟨aj, hK, h⟩ := aT h
   obtain ⟨aF, g7, h⟩ := aT h
   refine cQ (b0 [(0, .str I), (16, .bool (!aF))] (fun P al => ?_) ?_)
   ·simp only [aX.down, simprocAttr, fX, b3, dB, hK]
    refine jc (CO aj _ g7) rfl rfl rfl rfl (.inl (by rfl)) ?_
    simp only [aX.down, simprocAttr, fX, b3, dB, hK]
    (try simp only [bs.down, simprocAttr, b3, dB, hK] at al ⊢); exact al
   rcases bk h with ⟨c7, h⟩ | ⟨c7, h⟩
   ·refine bp (congrArg j.bool c7) ?_
    simp only [(eT c7), aO.down]
    refine ws _ ?_
    exact a6 (bP _ (aJ _ (.inl (a7 [.bool false] rfl (by cases a4 h; rfl) (by decide) a_))))
   ·refine bB (congrArg j.bool c7) ?_
    simp only [(dz c7), aO.down]
    refine bF (cT _ (.inl ?_))
    refine aZ (fun mu h2 kG kF => ?_)
    refine ws _ ?_
    refine cd (fun k3 hh gM dY jj => ?_)
    have mv : ∀ (n : Nat) (e2 : Int), ti I n e2 = some r → eg aq HX k3 (R [(0, .str I), (3, .int .i64 e2)]) := by
     intro h6
     induction h6 with
     | zero => intro e2 h; cases (show none = some r from h)
     | succ h6 l4 =>
      intro e2 h
      replace h : x8 (ti I h6) I e2 = some r := h
      refine ew (fun rN ki l0 mr => ?_)
      refine aZ (fun vY qf om oi => ?_)
      refine ws _ ?_
      rcases bk h with ⟨hH, h⟩ | ⟨hH, h⟩
      ·refine bp (congrArg j.bool hH) ?_
       simp only [hH, aO.down]
       refine bF (qf _ (.inl ?_))
       refine aZ (fun CP qg vZ oX => ?_)
       refine cd (fun I4 tz zn gP rK => ?_)
       obtain ⟨aW, il, h⟩ := aT h
       obtain ⟨bn, m5, h⟩ := aT h
       rcases bk h with ⟨kj, h⟩ | ⟨kj, h⟩
       ·obtain ⟨bu, k4, h⟩ := aT h
        refine cQ (b0 [(0, .str I), (3, .int .i64 e2), (34, .bool (!bu))] (fun P al => ?_) ?_)
        ·simp only [aX.down, simprocAttr, fX, il, (eT kj)]
         refine ey (CO aW _ m5) rfl rfl rfl rfl (.inl (by rfl)) ?_
         simp only [aX.down, simprocAttr, fX, il, (eT kj)]
         refine jc (age aW _ k4) rfl rfl rfl rfl (.inl (by rfl)) ?_
         simp only [aX.down, simprocAttr, fX, il, (eT kj)]
         (try simp only [bs.down, simprocAttr, il, (eT kj)] at al ⊢); exact al
        rcases bk h with ⟨h4, h⟩ | ⟨h4, h⟩
        ·refine bp (congrArg j.bool h4) ?_
         simp only [(eT h4), aO.down]
         refine ws _ ?_
         exact a6 (zn _ (vZ _ (l0 _ (gM _ (kG _ (aJ _ (.inl (a7 [.bool false] rfl (by cases a4 h; rfl) (by decide) a_))))))))
        ·refine bB (congrArg j.bool h4) ?_
         simp only [(dz h4), aO.down]
         refine bF (tz _ (qg _ (.inl ?_)))
         refine wr _ ?_
         exact ki _ (.inr ⟨_, cb rfl, l4 (IntKind.i64.wrap (e2 + 1)) h⟩)
       ·refine j1 (And.intro il (dz kj)) (CO aW _ m5) _ ?_
        refine bB rfl ?_
        refine bF (tz _ (qg _ (.inl ?_)))
        refine wr _ ?_
        exact ki _ (.inr ⟨_, cb rfl, l4 (IntKind.i64.wrap (e2 + 1)) h⟩)
      ·refine bB (congrArg j.bool hH) ?_
       simp only [hH, aO.down]
       refine eu (oi 0 _ (mr 0 _ (dY _ (h2 _ (.inl ?_)))))
       refine ws _ ?_
       exact a6 (aJ _ (.inl (a7 [.bool true] rfl (by cases a4 h; rfl) (by decide) a_)))
    obtain ⟨n, h⟩ := et h
    exact ev (.inr ⟨_, cb rfl, mv n 0 h⟩)
theorem I5 (I : List UInt8) (r : Bool) (h : x_ I = some r) : a0 aq 137 [.str I] (.bool r) [] := by
 refine a0.cF (fx := [0]) cI [.tmp 2] [(0, .str I)] Try.func137 rfl rfl TX (Nat.le_of_ble_eq_true rfl) rfl rfl (fun cv aJ cD => ?_)
 refine ws _ ?_
 obtain ⟨aj, bf, h⟩ := aT h
 refine cQ (b0 [(2, .bool (aj && (!(I == ([116, 97, 117] : List UInt8)))))] (fun P al => ?_) ?_)
 ·rcases Bool.eq_false_or_eq_true (aj) with kQ | kQ
  ·simp only [aX.down, simprocAttr, kQ]
   refine ey (I3 I _ bf) rfl rfl rfl rfl (.inl (by rfl)) ?_
   simp only [aX.down, simprocAttr, kQ]
   (try simp only [bs.down, simprocAttr, kQ] at al ⊢); exact al
  ·simp only [aX.down, simprocAttr, kQ]
   refine ey (I3 I _ bf) rfl rfl rfl rfl (.inl (by rfl)) ?_
   simp only [aX.down, simprocAttr, kQ]
   (try simp only [bs.down, simprocAttr, kQ] at al ⊢); exact al
 exact a6 (aJ _ (.inl (a7 [.bool (aj && (!(I == ([116, 97, 117] : List UInt8))))] rfl (by cases a4 h; rfl) (by decide) a_)))
theorem agf (I : aY) (aa : Int) (r : Bool) (h : ya I aa = some r) : a0 aq 100 [.ref (bm I), .int .i64 aa] (.bool r) [] := by
 refine a0.cF (fx := [0, 1]) cI [.tmp 4] [(0, .ref (bm I)), (1, .int .i64 aa)] Try.func100 rfl rfl T_ (Nat.le_of_ble_eq_true rfl) rfl rfl (fun cv aJ cD => ?_)
 refine ws _ ?_
 refine aZ (fun fB cT bP aF => ?_)
 obtain ⟨aj, cn, h⟩ := aT h
 refine eI (agb I.bo _ cn) _ ?_
 rcases bk h with ⟨cc, h⟩ | ⟨cc, h⟩
 ·refine bp (congrArg j.bool cc) ?_
  simp only [cc, aO.down]
  refine ws _ ?_
  exact a6 (bP _ (aJ _ (.inl (a7 [.bool false] rfl (by cases a4 h; rfl) (by decide) a_))))
 ·refine bB (congrArg j.bool cc) ?_
  simp only [cc, aO.down]
  refine bF (cT _ (.inl ?_))
  refine ws _ ?_
  refine aZ (fun hG fM gS b8 => ?_)
  obtain ⟨aF, jH, h⟩ := aT h
  refine cQ (b0 [(0, .ref (bm I)), (5, .int .i64 (IntKind.i64.wrap (aa + (I.bo.length : Int)))), (34, .bool ((!aF) || ((I.Next.length : Int) != aa)))] (fun P al => ?_) ?_)
  ·rcases Bool.eq_false_or_eq_true (aF) with rP | rP
   ·simp only [aX.down, simprocAttr, fR.down, rP]
    refine ey (CN I.Guard (IntKind.i64.wrap (aa + (I.bo.length : Int))) 60 _ jH) rfl rfl rfl rfl (.inl (by rfl)) ?_
    simp only [aX.down, simprocAttr, fR.down, rP]
    (try simp only [bs.down, simprocAttr, kh.down, rP] at al ⊢); exact al
   ·simp only [aX.down, simprocAttr, fR.down, rP]
    refine ey (CN I.Guard (IntKind.i64.wrap (aa + (I.bo.length : Int))) 60 _ jH) rfl rfl rfl rfl (.inl (by rfl)) ?_
    simp only [aX.down, simprocAttr, fR.down, rP]
    (try simp only [bs.down, simprocAttr, kh.down, rP] at al ⊢); exact al
  rcases bk h with ⟨c2, h⟩ | ⟨c2, h⟩
  ·refine bp (congrArg j.bool c2) ?_
   simp only [c2, aO.down]
   refine ws _ ?_
   exact a6 (gS _ (aJ _ (.inl (a7 [.bool false] rfl (by cases a4 h; rfl) (by decide) a_))))
  ·refine bB (congrArg j.bool c2) ?_
   simp only [c2, aO.down]
   refine bF (fM _ (.inl ?_))
   refine aZ (fun k3 hh gM jj => ?_)
   rcases bk h with ⟨iS, h⟩ | ⟨iS, h⟩
   ·rcases bk h with ⟨dS, h⟩ | ⟨dS, h⟩
    ·refine fG (And.intro iS dS) _ ?_
     refine bp rfl ?_
     refine ws _ ?_
     exact a6 (gM _ (aJ _ (.inl (a7 [.bool false] rfl (by cases a4 h; rfl) (by decide) a_))))
    ·refine fG (And.intro iS dS) _ ?_
     rcases bk h with ⟨gv, h⟩ | ⟨gv, h⟩
     ·refine bp (congrArg j.bool gv) ?_
      simp only [gv, aO.down]
      refine ws _ ?_
      exact a6 (gM _ (aJ _ (.inl (a7 [.bool false] rfl (by cases a4 h; rfl) (by decide) a_))))
     ·refine bB (congrArg j.bool gv) ?_
      simp only [gv, aO.down]
      refine bF (hh _ (.inl ?_))
      obtain ⟨aW, il, h⟩ := aT h
      rcases bk h with ⟨iR, h⟩ | ⟨iR, h⟩
      ·obtain ⟨bn, v3, h⟩ := aT h
       refine cQ (b0 [(4, .bool bn)] (fun P al => ?_) ?_)
       ·simp only [aX.down, simprocAttr, fR.down, iR]
        refine ey (tx I.bH (IntKind.i64.wrap (aa + (I.bo.length : Int))) _ il) rfl rfl rfl rfl (.inl (by rfl)) ?_
        simp only [aX.down, simprocAttr, fR.down, iR]
        refine jc (tx I.Next (IntKind.i64.wrap (aa + (I.bo.length : Int))) _ v3) rfl rfl rfl rfl (.inl (by rfl)) ?_
        simp only [aX.down, simprocAttr, fR.down, iR]
        (try simp only [bs.down, simprocAttr, kh.down, iR] at al ⊢); exact al
       exact a6 (aJ _ (.inl (a7 [.bool bn] rfl (by cases a4 h; rfl) (by decide) a_)))
      ·refine j1 iR (tx I.bH (IntKind.i64.wrap (aa + (I.bo.length : Int))) _ il) _ ?_
       exact a6 (aJ _ (.inl (a7 [.bool false] rfl (by cases a4 h; rfl) (by decide) a_)))
   ·obtain ⟨bu, k4, h⟩ := aT h
    rcases bk h with ⟨h4, h⟩ | ⟨h4, h⟩
    ·refine cQ (b0 [(0, .ref (bm I)), (5, .int .i64 (IntKind.i64.wrap (aa + (I.bo.length : Int)))), (70, .bool true)] (fun P al => ?_) ?_)
     ·simp only [aX.down, simprocAttr, fR.down, iS, (eT h4)]
      refine jc (I5 I.Name _ k4) rfl rfl rfl rfl (.inl (by rfl)) ?_
      simp only [aX.down, simprocAttr, fR.down, iS, (eT h4)]
      (try simp only [bs.down, simprocAttr, kh.down, iS, (eT h4)] at al ⊢); exact al
     refine bp rfl ?_
     refine ws _ ?_
     exact a6 (gM _ (aJ _ (.inl (a7 [.bool false] rfl (by cases a4 h; rfl) (by decide) a_))))
    ·refine cQ (b0 [(0, .ref (bm I)), (5, .int .i64 (IntKind.i64.wrap (aa + (I.bo.length : Int)))), (70, .bool (decide (2 < (I.bH.length : Int))))] (fun P al => ?_) ?_)
     ·simp only [aX.down, simprocAttr, fR.down, iS, (dz h4)]
      refine jc (I5 I.Name _ k4) rfl rfl rfl rfl (.inl (by rfl)) ?_
      simp only [aX.down, simprocAttr, fR.down, iS, (dz h4)]
      (try simp only [bs.down, simprocAttr, kh.down, iS, (dz h4)] at al ⊢); exact al
     rcases bk h with ⟨tA, h⟩ | ⟨tA, h⟩
     ·refine bp (congrArg j.bool tA) ?_
      simp only [tA, aO.down]
      refine ws _ ?_
      exact a6 (gM _ (aJ _ (.inl (a7 [.bool false] rfl (by cases a4 h; rfl) (by decide) a_))))
     ·refine bB (congrArg j.bool tA) ?_
      simp only [tA, aO.down]
      refine bF (hh _ (.inl ?_))
      obtain ⟨bq, iT, h⟩ := aT h
      rcases bk h with ⟨mw, h⟩ | ⟨mw, h⟩
      ·obtain ⟨cj, mx, h⟩ := aT h
       refine cQ (b0 [(4, .bool cj)] (fun P al => ?_) ?_)
       ·simp only [aX.down, simprocAttr, fR.down, mw]
        refine ey (tx I.bH (IntKind.i64.wrap (aa + (I.bo.length : Int))) _ iT) rfl rfl rfl rfl (.inl (by rfl)) ?_
        simp only [aX.down, simprocAttr, fR.down, mw]
        refine jc (tx I.Next (IntKind.i64.wrap (aa + (I.bo.length : Int))) _ mx) rfl rfl rfl rfl (.inl (by rfl)) ?_
        simp only [aX.down, simprocAttr, fR.down, mw]
        (try simp only [bs.down, simprocAttr, kh.down, mw] at al ⊢); exact al
       exact a6 (aJ _ (.inl (a7 [.bool cj] rfl (by cases a4 h; rfl) (by decide) a_)))
      ·refine j1 mw (tx I.bH (IntKind.i64.wrap (aa + (I.bo.length : Int))) _ iT) _ ?_
       exact a6 (aJ _ (.inl (a7 [.bool false] rfl (by cases a4 h; rfl) (by decide) a_)))
theorem zo (I : bc) (r : Bool) (h : tk I = some r) : a0 aq 59 [.ref (bj I)] (.bool r) [] := by
 refine a0.cF (fx := [0]) cI [.tmp 2] [(0, .ref (bj I))] Try.func59 rfl rfl Um (Nat.le_of_ble_eq_true rfl) rfl rfl (fun cv aJ cD => ?_)
 refine ws _ ?_
 refine aZ (fun fB cT bP aF => ?_)
 obtain ⟨aj, cn, h⟩ := aT h
 rcases bk h with ⟨cc, h⟩ | ⟨cc, h⟩
 ·refine jb rfl (ik [(0, .ref (bj I)), (29, .bool true)] (fun P al => ?_) ?_)
  ·simp only [cP.down, simprocAttr, hg.down, (eT cc)]
   refine e7 (qe I.aV 0 21 _ cn) rfl rfl rfl rfl (.inl (by rfl)) ?_
   simp only [cP.down, simprocAttr, hg.down, (eT cc)]
   refine ⟨hd (by kernel_rfl), ?_⟩
   (try simp only [bs.down, simprocAttr, i5.down, (eT cc)] at al ⊢); exact al
  refine bp rfl ?_
  refine ws _ ?_
  exact a6 (bP _ (aJ _ (.inl (a7 [.bool false] rfl (by cases a4 h; rfl) (by decide) a_))))
 ·obtain ⟨aF, bV, h⟩ := aT h
  refine jb rfl (ik [(0, .ref (bj I)), (29, .bool ((!aF) || (decide (60 < (I.bG.length : Int)))))] (fun P al => ?_) ?_)
  ·rcases Bool.eq_false_or_eq_true (aF) with jz | jz
   ·simp only [cP.down, simprocAttr, hg.down, (dz cc), jz]
    refine e7 (qe I.aV 0 21 _ cn) rfl rfl rfl rfl (.inl (by rfl)) ?_
    simp only [cP.down, simprocAttr, hg.down, (dz cc), jz]
    refine Gx (I2 I.Start I.aV _ bV) rfl rfl rfl rfl (.inl (by rfl)) ?_
    simp only [cP.down, simprocAttr, hg.down, (dz cc), jz]
    refine ⟨hd (by kernel_rfl), ?_⟩
    (try simp only [bs.down, simprocAttr, i5.down, (dz cc), jz] at al ⊢); exact al
   ·simp only [cP.down, simprocAttr, hg.down, (dz cc), jz]
    refine e7 (qe I.aV 0 21 _ cn) rfl rfl rfl rfl (.inl (by rfl)) ?_
    simp only [cP.down, simprocAttr, hg.down, (dz cc), jz]
    refine Gx (I2 I.Start I.aV _ bV) rfl rfl rfl rfl (.inl (by rfl)) ?_
    simp only [cP.down, simprocAttr, hg.down, (dz cc), jz]
    refine ⟨hd (by kernel_rfl), ?_⟩
    (try simp only [bs.down, simprocAttr, i5.down, (dz cc), jz] at al ⊢); exact al
  rcases bk h with ⟨cM, h⟩ | ⟨cM, h⟩
  ·refine bp (congrArg j.bool cM) ?_
   simp only [cM, aO.down]
   refine ws _ ?_
   exact a6 (bP _ (aJ _ (.inl (a7 [.bool false] rfl (by cases a4 h; rfl) (by decide) a_))))
  ·refine bB (congrArg j.bool cM) ?_
   simp only [cM, aO.down]
   refine bF (cT _ (.inl ?_))
   refine aZ (fun iB eW hU gh => ?_)
   refine ws _ ?_
   refine cd (fun oo j3 l5 gL mq => ?_)
   have mv : ∀ (n : Nat) (e2 : Int), tj I n e2 = some r → eg aq HY oo (R [(0, .ref (bj I)), (3, .int .i64 e2)]) := by
    intro h6
    induction h6 with
    | zero => intro e2 h; cases (show none = some r from h)
    | succ h6 l4 =>
     intro e2 h
     replace h : yb (tj I h6) I e2 = some r := h
     refine ew (fun k3 hh gM jj => ?_)
     refine aZ (fun rN ki l0 mr => ?_)
     refine ws _ ?_
     rcases bk h with ⟨dS, h⟩ | ⟨dS, h⟩
     ·refine bp (congrArg j.bool dS) ?_
      simp only [dS, aO.down]
      refine bF (ki _ (.inl ?_))
      refine aZ (fun aj5 agh agi vN => ?_)
      refine cd (fun CP qg vZ gv oX => ?_)
      obtain ⟨aW, h5, h⟩ := aT h
      obtain ⟨bn, il, h⟩ := aT h
      refine jb rfl (ik [(0, .ref (bj I)), (3, .int .i64 e2), (50, .bool (!bn))] (fun P al => ?_) ?_)
      ·simp only [cP.down, simprocAttr, hg.down, h5]
       refine e7 (agf aW I.aV _ il) rfl rfl rfl rfl (.inl (by rfl)) ?_
       simp only [cP.down, simprocAttr, hg.down, h5]
       refine ⟨hd (by kernel_rfl), ?_⟩
       (try simp only [bs.down, simprocAttr, i5.down, h5] at al ⊢); exact al
      rcases bk h with ⟨iR, h⟩ | ⟨iR, h⟩
      ·refine bp (congrArg j.bool iR) ?_
       simp only [(eT iR), aO.down]
       refine ws _ ?_
       exact a6 (vZ _ (agi _ (gM _ (l5 _ (hU _ (aJ _ (.inl (a7 [.bool false] rfl (by cases a4 h; rfl) (by decide) a_))))))))
      ·refine bB (congrArg j.bool iR) ?_
       simp only [(dz iR), aO.down]
       refine bF (qg _ (agh _ (.inl ?_)))
       refine wr _ ?_
       exact hh _ (.inr ⟨_, cb rfl, l4 (IntKind.i64.wrap (e2 + 1)) h⟩)
     ·refine bB (congrArg j.bool dS) ?_
      simp only [dS, aO.down]
      refine eu (mr 0 _ (jj 0 _ (gL _ (eW _ (.inl ?_)))))
      refine ws _ ?_
      exact a6 (aJ _ (.inl (a7 [.bool true] rfl (by cases a4 h; rfl) (by decide) a_)))
   obtain ⟨n, h⟩ := et h
   exact ev (.inr ⟨_, cb rfl, mv n 0 h⟩)
theorem I6 (I : List Int) (r : (List Int)) (h : vf I = some r) : a0 aq 61 [.slice (I.map aD)] (.ai 1 (r.map aD)) [] := by
 refine a0.cF (fx := [0]) cI [.tmp 2] [(0, .slice (I.map aD))] Try.func61 rfl rfl Up (Nat.le_of_ble_eq_true rfl) rfl rfl (fun cv aJ cD => ?_)
 refine ws _ ?_
 obtain ⟨Ev, bf, h⟩ := aT h
 (try simp only [List.length_append, List.length_cons, List.length_nil, List.length_map, List.length_replicate, Nat.zero_add, Nat.add_zero, Nat.reduceAdd] at bf)
 refine cQ (b0 [(2, .ai 1 (I.map aD))] (fun P al => ?_) ?_)
 ·simp only [aX.down, simprocAttr, nG.down, (show ∀ s, cE aq s 40 0 [] = some (.ai 1 [], s) from fun s => by kernel_rfl), @dc aq 40 40 2 rfl rfl, dd, de, cm, all_cons, all_nil, bf, @db _ aD 1 (fun _ => rfl)]
  (try simp only [bs.down, simprocAttr, aD, (show ∀ s, cE aq s 40 0 [] = some (.ai 1 [], s) from fun s => by kernel_rfl), @dc aq 40 40 2 rfl rfl, dd, de, cm, all_cons, all_nil, bf, @db _ aD 1 (fun _ => rfl)] at al ⊢); exact al
 exact a6 (aJ _ (.inl (a7 [.ai 1 (I.map aD)] rfl (by cases a4 h; rfl) (by decide) a_)))
theorem CQ (I : List aA) (r : (List aA)) (h : tl I = some r) : a0 aq 101 [.slice (I.map aR)] (.ai 2 (r.map aR)) [] := by
 refine a0.cF (fx := [0]) cI [.tmp 2] [(0, .slice (I.map aR))] Try.func101 rfl rfl Us (Nat.le_of_ble_eq_true rfl) rfl rfl (fun cv aJ cD => ?_)
 refine ws _ ?_
 obtain ⟨Ev, bf, h⟩ := aT h
 (try simp only [List.length_append, List.length_cons, List.length_nil, List.length_map, List.length_replicate, Nat.zero_add, Nat.add_zero, Nat.reduceAdd] at bf)
 refine cQ (b0 [(2, .ai 2 (I.map aR))] (fun P al => ?_) ?_)
 ·simp only [aX.down, simprocAttr, hS.down, (show ∀ s, cE aq s 87 0 [] = some (.ai 2 [], s) from fun s => by kernel_rfl), @dc aq 87 87 133 rfl rfl, dd, de, cm, all_cons, all_nil, bf, @db _ aR 2 (fun _ => rfl)]
  (try simp only [bs.down, simprocAttr, aR, (show ∀ s, cE aq s 87 0 [] = some (.ai 2 [], s) from fun s => by kernel_rfl), @dc aq 87 87 133 rfl rfl, dd, de, cm, all_cons, all_nil, bf, @db _ aR 2 (fun _ => rfl)] at al ⊢); exact al
 exact a6 (aJ _ (.inl (a7 [.ai 2 (I.map aR)] rfl (by cases a4 h; rfl) (by decide) a_)))
theorem I7 (I : List (List aA)) (r : (List (List aA))) (h : vg I = some r) : a0 aq 178 [.slice (I.map bC)] (.ai 1 (r.map bl)) [] := by
 refine a0.cF (fx := [0]) cI [.tmp 2] [(0, .slice (I.map bC))] Try.func178 rfl rfl UB (Nat.le_of_ble_eq_true rfl) rfl rfl (fun cv aJ cD => ?_)
 refine ws _ ?_
 refine fG (show ∀ s, cE aq s 88 0 [] = some (.ai 1 [], s) from fun s => by kernel_rfl) _ ?_
 refine aZ (fun lE gW fw aW => ?_)
 refine ws _ ?_
 refine cd (fun gD fk el cc bu => ?_)
 have gX : ∀ (n : Nat) (bK : List (List aA)) (cR : Int), rh I n bK cR = some r → eg aq HZ gD (R [(0, .slice (I.map bC)), (3, .ai 1 (bK.map bl)), (4, .int .i64 cR)]) := by
  intro c6
  induction c6 with
  | zero => intro bK cR h; cases (show none = some r from h)
  | succ c6 gC =>
   intro bK cR h
   replace h : yc (rh I c6) I bK cR = some r := h
   refine ew (fun fj dO eR bq => ?_)
   refine aZ (fun jA fZ hc cj => ?_)
   refine ws _ ?_
   rcases bk h with ⟨cM, h⟩ | ⟨cM, h⟩
   ·refine bp (congrArg j.bool cM) ?_
    simp only [cM, aO.down]
    refine bF (fZ _ (.inl ?_))
    refine aZ (fun f_ c5 dR dE => ?_)
    refine cd (fun iB eW hU fI gh => ?_)
    obtain ⟨aj, eP, h⟩ := aT h
    obtain ⟨aF, fc, h⟩ := aT h
    obtain ⟨u16, eA, h⟩ := aT h
    (try simp only [List.length_append, List.length_cons, List.length_nil, List.length_map, List.length_replicate, Nat.zero_add, Nat.add_zero, Nat.reduceAdd] at eA)
    refine hs (b0 [(0, .slice (I.map bC)), (3, .ai 1 ((bK ++ [aF]).map bl)), (4, .int .i64 cR)] (fun P al => ?_) ?_)
    ·simp only [aX.down, simprocAttr, zg.down, eP, @ei aq 88 87 1 1 [.af] rfl rfl rfl (by kernel_rfl), eh, du, dn, dv, cC, cm, List.nil_append, List.cons_append, @dc aq 88 88 87 rfl rfl, dd, de, all_cons, all_nil, eA, @db _ bl 1 (fun _ => rfl)]
     refine ey (CQ aj _ fc) rfl rfl rfl rfl (.inl (by rfl)) ?_
     simp only [aX.down, simprocAttr, zg.down, eP, @ei aq 88 87 1 1 [.af] rfl rfl rfl (by kernel_rfl), eh, du, dn, dv, cC, cm, List.nil_append, List.cons_append, @dc aq 88 88 87 rfl rfl, dd, de, all_cons, all_nil, eA, @db _ bl 1 (fun _ => rfl)]
     (try simp only [bs.down, simprocAttr, aR, bC, bl, eP, @ei aq 88 87 1 1 [.af] rfl rfl rfl (by kernel_rfl), eh, du, dn, dv, cC, cm, List.nil_append, List.cons_append, @dc aq 88 88 87 rfl rfl, dd, de, all_cons, all_nil, eA, @db _ bl 1 (fun _ => rfl)] at al ⊢); exact al
    refine eW _ (c5 _ (.inl ?_))
    refine wr [(0, .slice (I.map bC)), (3, .ai 1 ((bK ++ [aF]).map bl)), (4, .int .i64 (IntKind.i64.wrap (cR + 1)))] ?_
    exact dO _ (.inr ⟨_, cb rfl, gC (bK ++ [aF]) (IntKind.i64.wrap (cR + 1)) h⟩)
   ·refine bB (congrArg j.bool cM) ?_
    simp only [cM, aO.down]
    refine eu (cj 0 _ (bq 0 _ (cc _ (gW _ (.inl ?_)))))
    refine ws _ ?_
    exact a6 (aJ _ (.inl (a7 [.ai 1 (bK.map bl)] rfl (by cases a4 h; rfl) (by decide) a_)))
 obtain ⟨n, h⟩ := et h
 exact ev (.inr ⟨_, cb rfl, gX n [] 0 h⟩)
theorem agj (I : aY) (r : aY) (h : Ci I = some r) : a0 aq 151 [.ref (bm I)] (br r) [] := by
 refine a0.cF (fx := [0]) cI [.cell 2 90] [(0, .ref (bm I))] Try.func151 rfl rfl UH (Nat.le_of_ble_eq_true rfl) rfl rfl (fun cv aJ cD => ?_)
 refine ws _ ?_
 obtain ⟨aj, bf, h⟩ := aT h
 obtain ⟨aF, cn, h⟩ := aT h
 refine jb rfl (ik [(0, .ref (bm I)), (2, .aG (.agg [.af, .af, .str ([] : List UInt8), .af, .af])), (3, .aG (.agg [.ai 1 (aj.map aD), .ai 2 (aF.map aR), .str I.Name, .af, .af]))] (fun P al => ?_) ?_)
 ·simp only [cP.down, simprocAttr, fR.down, @g3 aq 90 [(40, 0), (87, 1), (9, 2), (88, 3), (88, 4)] [.af, .af, (.str []), .af, .af] rfl rfl (by kernel_rfl), gU, du, dn, dv, cC, cm, List.nil_append, List.cons_append]
  refine e7 (I6 I.bo _ bf) rfl rfl rfl rfl (.inl (by rfl)) ?_
  simp only [cP.down, simprocAttr, fR.down, @g3 aq 90 [(40, 0), (87, 1), (9, 2), (88, 3), (88, 4)] [.af, .af, (.str []), .af, .af] rfl rfl (by kernel_rfl), gU, du, dn, dv, cC, cm, List.nil_append, List.cons_append]
  refine e7 (CQ I.Guard _ cn) rfl rfl rfl rfl (.inl (by rfl)) ?_
  simp only [cP.down, simprocAttr, fR.down, @g3 aq 90 [(40, 0), (87, 1), (9, 2), (88, 3), (88, 4)] [.af, .af, (.str []), .af, .af] rfl rfl (by kernel_rfl), gU, du, dn, dv, cC, cm, List.nil_append, List.cons_append]
  refine ⟨hd (by kernel_rfl), ?_⟩
  (try simp only [bs.down, simprocAttr, kh.down, @g3 aq 90 [(40, 0), (87, 1), (9, 2), (88, 3), (88, 4)] [.af, .af, (.str []), .af, .af] rfl rfl (by kernel_rfl), gU, du, dn, dv, cC, cm, List.nil_append, List.cons_append] at al ⊢); exact al
 obtain ⟨aW, b_, h⟩ := aT h
 refine eI (I7 I.bH _ b_) _ ?_
 obtain ⟨bn, hK, h⟩ := aT h
 refine eI (I7 I.Next _ hK) _ ?_
 refine ws _ ?_
 exact a6 (aJ _ (.inl (a7 [br (aY.mk aj aF I.Name aW bn)] rfl (by cases a4 h; rfl) (by decide) a_)))
theorem CR (I : List aA) (aa : Int) (a9 : Int) (r : (List aA)) (h : tp I aa a9 = some r) : a0 aq 152 [.slice (I.map aR), .int .i64 aa, .int .i64 a9] (.ai 2 (r.map aR)) [] := by
 refine a0.cF (fx := [0, 1, 2]) cI [.tmp 6] [(0, .slice (I.map aR)), (1, .int .i64 aa), (2, .int .i64 a9)] Try.func152 rfl rfl UR (Nat.le_of_ble_eq_true rfl) rfl rfl (fun cv aJ cD => ?_)
 refine ws _ ?_
 obtain ⟨aj, bf, h⟩ := aT h
 refine eI (CQ I _ bf) _ ?_
 refine aZ (fun fH fu cZ bn => ?_)
 refine ws _ ?_
 refine cd (fun fj dO eR dB bq => ?_)
 have gX : ∀ (n : Nat) (kd : List aA) (gK : Int), pX aa a9 n kd gK = some r → eg aq H2 fj (R [(1, .int .i64 aa), (2, .int .i64 a9), (7, .ai 2 (kd.map aR)), (8, .int .i64 gK)]) := by
  intro c6
  induction c6 with
  | zero => intro kd gK h; cases (show none = some r from h)
  | succ c6 gC =>
   intro kd gK h
   replace h : ye (pX aa a9 c6) aa a9 kd gK = some r := h
   refine ew (fun jA fZ hc cj => ?_)
   refine aZ (fun hG fM gS b8 => ?_)
   refine ws _ ?_
   rcases bk h with ⟨c7, h⟩ | ⟨c7, h⟩
   ·refine bp (congrArg j.bool c7) ?_
    simp only [c7, aO.down]
    refine bF (fM _ (.inl ?_))
    have I8 : ∀ (tm : List aA) (tn : Int), yd (pX aa a9 c6) aa a9 tm tn = some r → c4 aq H0 jA (R [(1, .int .i64 aa), (2, .int .i64 a9), (7, .ai 2 (tm.map aR)), (8, .int .i64 tn)]) := by
     intro tm tn h
     refine wr _ ?_
     exact fZ _ (.inr ⟨_, cb rfl, gC tm (IntKind.i64.wrap (tn + 1)) h⟩)
    refine aZ (fun iB eW hU gh => ?_)
    refine cd (fun oo j3 l5 gL mq => ?_)
    obtain ⟨aF, eA, h⟩ := aT h
    refine cQ (b0 [(1, .int .i64 aa), (2, .int .i64 a9), (7, .ai 2 (kd.map aR)), (8, .int .i64 gK), (31, .bool ((aF.Kind == 1) && (decide (aa ≤ aF.Value))))] (fun P al => ?_) ?_)
    ·rcases Bool.eq_false_or_eq_true (aF.Kind == 1) with v5 | v5
     ·simp only [aX.down, simprocAttr, hS.down, eA, dD eA, v5]
      (try simp only [bs.down, simprocAttr, aR, eA, dD eA, v5] at al ⊢); exact al
     ·simp only [aX.down, simprocAttr, hS.down, eA, dD eA, v5]
      (try simp only [bs.down, simprocAttr, aR, eA, dD eA, v5] at al ⊢); exact al
    rcases bk h with ⟨dS, h⟩ | ⟨dS, h⟩
    ·refine bp (congrArg j.bool dS) ?_
     simp only [dS, aO.down]
     refine hs (b0 [(1, .int .i64 aa), (2, .int .i64 a9), (7, .ai 2 ((List.set kd (Int.toNat gK) (aA.mk aF.Kind (IntKind.i64.wrap (aF.Value + a9)))).map aR)), (8, .int .i64 gK)] (fun P al => ?_) ?_)
     ·simp only [aX.down, simprocAttr, hS.down, eA, dD eA, cC, fW]
      (try simp only [bs.down, simprocAttr, aR, eA, dD eA, cC, fW] at al ⊢); exact al
     exact j3 _ (eW _ (.inr ⟨_, cb rfl, I8 (List.set kd (Int.toNat gK) (aA.mk aF.Kind (IntKind.i64.wrap (aF.Value + a9)))) gK h⟩))
    ·refine bB (congrArg j.bool dS) ?_
     simp only [dS, aO.down]
     exact bF (j3 _ (eW _ (.inr ⟨_, cb rfl, I8 kd gK h⟩)))
   ·refine bB (congrArg j.bool c7) ?_
    simp only [c7, aO.down]
    refine eu (b8 0 _ (cj 0 _ (dB _ (fu _ (.inl ?_)))))
    refine ws _ ?_
    exact a6 (aJ _ (.inl (a7 [.ai 2 (kd.map aR)] rfl (by cases a4 h; rfl) (by decide) a_)))
 obtain ⟨n, h⟩ := et h
 exact ev (.inr ⟨_, cb rfl, gX n aj 0 h⟩)
theorem I9 (I : aY) (aa : Int) (a9 : Int) (r : aY) (h : vh I aa a9 = some r) : a0 aq 113 [.ref (bm I), .int .i64 aa, .int .i64 a9] (br r) [] := by
 refine a0.cF (fx := [0, 1, 2]) cI [.cell 6 90] [(0, .ref (bm I)), (1, .int .i64 aa), (2, .int .i64 a9)] Try.func113 rfl rfl U7 (Nat.le_of_ble_eq_true rfl) rfl rfl (fun cv aJ cD => ?_)
 refine ws _ ?_
 obtain ⟨aj, bf, h⟩ := aT h
 refine eI (agj I _ bf) _ ?_
 obtain ⟨aF, c3, h⟩ := aT h
 refine eI (CR I.Guard aa a9 _ c3) _ ?_
 refine aZ (fun fj dO eR bq => ?_)
 refine ws _ ?_
 refine cd (fun hG fM gS bW b8 => ?_)
 have v7 : ∀ (n : Nat) (lv : List (List aA)) (jX : Int), ri I aa a9 aj aF n lv jX = some r → eg aq H3 hG (R [(0, .ref (bm I)), (1, .int .i64 aa), (2, .int .i64 a9), (6, .aG (.agg [.af, .af, .str ([] : List UInt8), .af, .af])), (7, .aG (.agg [.ai 1 (aj.bo.map aD), .ai 2 (aF.map aR), .str aj.Name, .ai 1 (lv.map bl), .ai 1 (aj.Next.map bl)])), (8, .int .i64 jX)]) := by
  intro kN
  induction kN with
  | zero => intro lv jX h; cases (show none = some r from h)
  | succ kN v8 =>
   intro lv jX h
   replace h : yg (ri I aa a9 aj aF kN) I aa a9 aj aF lv jX = some r := h
   refine ew (fun ht eN eJ cL => ?_)
   refine aZ (fun f_ c5 dR dE => ?_)
   refine ws _ ?_
   rcases bk h with ⟨c2, h⟩ | ⟨c2, h⟩
   ·refine bp (congrArg j.bool c2) ?_
    simp only [c2, aO.down]
    refine bF (c5 _ (.inl ?_))
    refine aZ (fun oo j3 l5 mq => ?_)
    refine cd (fun k3 hh gM dY jj => ?_)
    obtain ⟨aW, dw, h⟩ := aT h
    obtain ⟨bn, gN, h⟩ := aT h
    obtain ⟨bu, gO, h⟩ := aT h
    refine xz rfl (ik [(0, .ref (bm I)), (1, .int .i64 aa), (2, .int .i64 a9), (6, .aG (.agg [.af, .af, .str ([] : List UInt8), .af, .af])), (7, .aG (.agg [.ai 1 (aj.bo.map aD), .ai 2 (aF.map aR), .str aj.Name, .ai 1 ((List.set lv (Int.toNat jX) bn).map bl), .ai 1 (aj.Next.map bl)])), (8, .int .i64 jX)] (fun P al => ?_) ?_)
    ·simp only [cP.down, simprocAttr, zh.down, dw, gO, dD gO, cC, fW]
     refine e7 (CR aW aa a9 _ gN) rfl rfl rfl rfl (.inl (by rfl)) ?_
     simp only [cP.down, simprocAttr, zh.down, dw, gO, dD gO, cC, fW]
     refine ⟨hd (by kernel_rfl), ?_⟩
     (try simp only [bs.down, simprocAttr, aD, bm, aR, bC, bl, dw, gO, dD gO, cC, fW] at al ⊢); exact al
    refine hh _ (j3 _ (.inl ?_))
    refine wr [(0, .ref (bm I)), (1, .int .i64 aa), (2, .int .i64 a9), (6, .aG (.agg [.af, .af, .str ([] : List UInt8), .af, .af])), (7, .aG (.agg [.ai 1 (aj.bo.map aD), .ai 2 (aF.map aR), .str aj.Name, .ai 1 ((List.set lv (Int.toNat jX) bn).map bl), .ai 1 (aj.Next.map bl)])), (8, .int .i64 (IntKind.i64.wrap (jX + 1)))] ?_
    exact eN _ (.inr ⟨_, cb rfl, v8 (List.set lv (Int.toNat jX) bn) (IntKind.i64.wrap (jX + 1)) h⟩)
   ·refine bB (congrArg j.bool c2) ?_
    simp only [c2, aO.down]
    refine eu (dE 0 _ (cL 0 _ (bW _ (dO _ (.inl ?_)))))
    refine aZ (fun I4 tz zn rK => ?_)
    refine ws _ ?_
    refine cd (fun CS zp zq jP p_ => ?_)
    have agk : ∀ (n : Nat) (lX : List (List aA)) (lu : List (List aA)) (jW : Int), pY I aa a9 aj aF n lX lu jW = some r → eg aq H4 CS (R [(0, .ref (bm I)), (1, .int .i64 aa), (2, .int .i64 a9), (6, .aG (.agg [.af, .af, .str ([] : List UInt8), .af, .af])), (7, .aG (.agg [.ai 1 (aj.bo.map aD), .ai 2 (aF.map aR), .str aj.Name, .ai 1 (lX.map bl), .ai 1 (lu.map bl)])), (9, .int .i64 jW)]) := by
     intro CT
     induction CT with
     | zero => intro lX lu jW h; cases (show none = some r from h)
     | succ CT agl =>
      intro lX lu jW h
      replace h : yf (pY I aa a9 aj aF CT) I aa a9 aj aF lX lu jW = some r := h
      refine ew (fun tB zr CU oY => ?_)
      refine aZ (fun rO lF o3 m4 => ?_)
      refine ws _ ?_
      rcases bk h with ⟨h4, h⟩ | ⟨h4, h⟩
      ·refine bp (congrArg j.bool h4) ?_
       simp only [h4, aO.down]
       refine bF (lF _ (.inl ?_))
       refine aZ (fun zl nK vW vX => ?_)
       refine cd (fun zs o4 zt tA v9 => ?_)
       obtain ⟨bq, rQ, h⟩ := aT h
       obtain ⟨cj, iT, h⟩ := aT h
       obtain ⟨b8, nL, h⟩ := aT h
       refine xz rfl (ik [(0, .ref (bm I)), (1, .int .i64 aa), (2, .int .i64 a9), (6, .aG (.agg [.af, .af, .str ([] : List UInt8), .af, .af])), (7, .aG (.agg [.ai 1 (aj.bo.map aD), .ai 2 (aF.map aR), .str aj.Name, .ai 1 (lX.map bl), .ai 1 ((List.set lu (Int.toNat jW) cj).map bl)])), (9, .int .i64 jW)] (fun P al => ?_) ?_)
       ·simp only [cP.down, simprocAttr, zh.down, rQ, nL, dD nL, cC, fW]
        refine e7 (CR bq aa a9 _ iT) rfl rfl rfl rfl (.inl (by rfl)) ?_
        simp only [cP.down, simprocAttr, zh.down, rQ, nL, dD nL, cC, fW]
        refine ⟨hd (by kernel_rfl), ?_⟩
        (try simp only [bs.down, simprocAttr, aD, bm, aR, bC, bl, rQ, nL, dD nL, cC, fW] at al ⊢); exact al
       refine o4 _ (nK _ (.inl ?_))
       refine wr [(0, .ref (bm I)), (1, .int .i64 aa), (2, .int .i64 a9), (6, .aG (.agg [.af, .af, .str ([] : List UInt8), .af, .af])), (7, .aG (.agg [.ai 1 (aj.bo.map aD), .ai 2 (aF.map aR), .str aj.Name, .ai 1 (lX.map bl), .ai 1 ((List.set lu (Int.toNat jW) cj).map bl)])), (9, .int .i64 (IntKind.i64.wrap (jW + 1)))] ?_
       exact zr _ (.inr ⟨_, cb rfl, agl lX (List.set lu (Int.toNat jW) cj) (IntKind.i64.wrap (jW + 1)) h⟩)
      ·refine bB (congrArg j.bool h4) ?_
       simp only [h4, aO.down]
       refine eu (m4 2 _ (oY 2 _ (jP _ (tz _ (.inl ?_)))))
       refine ws _ ?_
       exact a6 (aJ _ (.inl (a7 [br (aY.mk aj.bo aF aj.Name lX lu)] rfl (by cases a4 h; rfl) (by decide) a_)))
    obtain ⟨n, h⟩ := et h
    exact ev (.inr ⟨_, cb rfl, agk n lv aj.Next 0 h⟩)
 obtain ⟨n, h⟩ := et h
 exact ev (.inr ⟨_, cb rfl, v7 n aj.bH 0 h⟩)
theorem agm (I : Int) (r : (List aA)) (h : Ck I = some r) : a0 aq 153 [.int .i64 I] (.ai 2 (r.map aR)) [] := by
 refine a0.cF (fx := [0]) cI [.tmp 2] [(0, .int .i64 I)] Try.func153 rfl rfl U_ (Nat.le_of_ble_eq_true rfl) rfl rfl (fun cv aJ cD => ?_)
 refine ws _ ?_
 refine fG (And.intro (show ∀ s, ed aq s 133 [(0, .int .i64 1), (1, .int .i64 I)] = some (.agg [.int .i64 1, .int .i64 I], s) from fun s => by kernel_rfl) (show ∀ s, cE aq s 87 1 [(0, .agg [.int .i64 1, .int .i64 I])] = some (.ai 2 [.agg [.int .i64 1, .int .i64 I]], s) from fun s => by kernel_rfl)) _ ?_
 exact a6 (aJ _ (.inl (a7 [.ai 2 ([(aA.mk 1 I)].map aR)] rfl (by cases a4 h; rfl) (by decide) a_)))
theorem I_ (I : Int) (aa : Int) (r : (List (List aA))) (h : vi I aa = some r) : a0 aq 114 [.int .i64 I, .int .i64 aa] (.ai 1 (r.map bl)) [] := by
 refine a0.cF (fx := [0, 1]) cI [.tmp 4] [(0, .int .i64 I), (1, .int .i64 aa)] Try.func114 rfl rfl Vi (Nat.le_of_ble_eq_true rfl) rfl rfl (fun cv aJ cD => ?_)
 refine ws _ ?_
 refine fG (show ∀ s, cE aq s 88 0 [] = some (.ai 1 [], s) from fun s => by kernel_rfl) _ ?_
 refine aZ (fun lE gW fw aW => ?_)
 refine ws _ ?_
 refine cd (fun gD fk el cc bu => ?_)
 have gX : ∀ (n : Nat) (cq : List (List aA)) (lx : Int), rj I aa n cq lx = some r → eg aq H5 gD (R [(0, .int .i64 I), (1, .int .i64 aa), (5, .ai 1 (cq.map bl)), (6, .int .i64 lx)]) := by
  intro c6
  induction c6 with
  | zero => intro cq lx h; cases (show none = some r from h)
  | succ c6 gC =>
   intro cq lx h
   replace h : yh (rj I aa c6) I aa cq lx = some r := h
   refine ew (fun fj dO eR bq => ?_)
   refine aZ (fun jA fZ hc cj => ?_)
   refine ws _ ?_
   rcases bk h with ⟨cM, h⟩ | ⟨cM, h⟩
   ·refine bp (congrArg j.bool cM) ?_
    simp only [cM, aO.down]
    refine bF (fZ _ (.inl ?_))
    refine aZ (fun f_ c5 dR dE => ?_)
    refine cd (fun iB eW hU fI gh => ?_)
    obtain ⟨aj, eP, h⟩ := aT h
    obtain ⟨aj6, fc, h⟩ := aT h
    (try simp only [List.length_append, List.length_cons, List.length_nil, List.length_map, List.length_replicate, Nat.zero_add, Nat.add_zero, Nat.reduceAdd] at fc)
    refine hs (b0 [(0, .int .i64 I), (1, .int .i64 aa), (5, .ai 1 ((cq ++ [aj]).map bl)), (6, .int .i64 lx)] (fun P al => ?_) ?_)
    ·simp only [aX.down, simprocAttr, vS.down, @ei aq 88 87 1 1 [.af] rfl rfl rfl (by kernel_rfl), eh, du, dn, dv, cC, cm, List.nil_append, List.cons_append, @dc aq 88 88 87 rfl rfl, dd, de, all_cons, all_nil, fc, @db _ bl 1 (fun _ => rfl)]
     refine ey (agm (IntKind.i64.wrap (I + lx)) _ eP) rfl rfl rfl rfl (.inl (by rfl)) ?_
     simp only [aX.down, simprocAttr, vS.down, @ei aq 88 87 1 1 [.af] rfl rfl rfl (by kernel_rfl), eh, du, dn, dv, cC, cm, List.nil_append, List.cons_append, @dc aq 88 88 87 rfl rfl, dd, de, all_cons, all_nil, fc, @db _ bl 1 (fun _ => rfl)]
     (try simp only [bs.down, simprocAttr, aR, bl, @ei aq 88 87 1 1 [.af] rfl rfl rfl (by kernel_rfl), eh, du, dn, dv, cC, cm, List.nil_append, List.cons_append, @dc aq 88 88 87 rfl rfl, dd, de, all_cons, all_nil, fc, @db _ bl 1 (fun _ => rfl)] at al ⊢); exact al
    refine eW _ (c5 _ (.inl ?_))
    refine wr [(0, .int .i64 I), (1, .int .i64 aa), (5, .ai 1 ((cq ++ [aj]).map bl)), (6, .int .i64 (IntKind.i64.wrap (lx + 1)))] ?_
    exact dO _ (.inr ⟨_, cb rfl, gC (cq ++ [aj]) (IntKind.i64.wrap (lx + 1)) h⟩)
   ·refine bB (congrArg j.bool cM) ?_
    simp only [cM, aO.down]
    refine eu (cj 0 _ (bq 0 _ (cc _ (gW _ (.inl ?_)))))
    refine ws _ ?_
    exact a6 (aJ _ (.inl (a7 [.ai 1 (cq.map bl)] rfl (by cases a4 h; rfl) (by decide) a_)))
 obtain ⟨n, h⟩ := et h
 exact ev (.inr ⟨_, cb rfl, gX n [] 0 h⟩)
theorem agn (I : bc) (aa : bc) (r : bc) (h : yk I aa = some r) : a0 aq 79 [.ref (bj I), .ref (bj aa)] (dC r) [] := by
 refine a0.cF (fx := [0, 1]) cI [.cell 4 47] [(0, .ref (bj I)), (1, .ref (bj aa))] Try.func79 rfl rfl VB (Nat.le_of_ble_eq_true rfl) rfl rfl (fun cv aJ cD => ?_)
 refine ws _ ?_
 refine jb rfl (ik [(0, .ref (bj I)), (1, .ref (bj aa)), (4, .aG (.agg [.int .i64 0, .af, .af])), (5, .aG (.agg [.int .i64 (IntKind.i64.wrap (I.aV + aa.aV)), .af, .ai 5 []]))] (fun P al => ?_) ?_)
 ·simp only [cP.down, simprocAttr, hg.down, (show ∀ s, cE aq s 45 0 [] = some (.ai 5 [], s) from fun s => by kernel_rfl), @g3 aq 47 [(2, 0), (40, 1), (45, 2)] [(.int .i64 0), .af, .af] rfl rfl (by kernel_rfl), gU, du, dn, dv, cC, cm, List.nil_append, List.cons_append]
  refine ⟨hd (by kernel_rfl), ?_⟩
  (try simp only [bs.down, simprocAttr, i5.down, (show ∀ s, cE aq s 45 0 [] = some (.ai 5 [], s) from fun s => by kernel_rfl), @g3 aq 47 [(2, 0), (40, 1), (45, 2)] [(.int .i64 0), .af, .af] rfl rfl (by kernel_rfl), gU, du, dn, dv, cC, cm, List.nil_append, List.cons_append] at al ⊢); exact al
 obtain ⟨aj, cn, h⟩ := aT h
 obtain ⟨aj7, c3, h⟩ := aT h
 (try simp only [List.length_append, List.length_cons, List.length_nil, List.length_map, List.length_replicate, Nat.zero_add, Nat.add_zero, Nat.reduceAdd] at c3)
 refine jb rfl (ik [(0, .ref (bj I)), (1, .ref (bj aa)), (4, .aG (.agg [.int .i64 0, .af, .af])), (5, .aG (.agg [.int .i64 (IntKind.i64.wrap (I.aV + aa.aV)), .ai 1 ((aj ++ aa.Start).map aD), .ai 5 []]))] (fun P al => ?_) ?_)
 ·simp only [cP.down, simprocAttr, hg.down, @dc aq 40 40 2 rfl rfl, dd, de, cm, all_cons, all_nil, c3, @db _ aD 1 (fun _ => rfl)]
  refine e7 (I6 I.Start _ cn) rfl rfl rfl rfl (.inl (by rfl)) ?_
  simp only [cP.down, simprocAttr, hg.down, @dc aq 40 40 2 rfl rfl, dd, de, cm, all_cons, all_nil, c3, @db _ aD 1 (fun _ => rfl)]
  refine ⟨hd (by kernel_rfl), ?_⟩
  (try simp only [bs.down, simprocAttr, i5.down, @dc aq 40 40 2 rfl rfl, dd, de, cm, all_cons, all_nil, c3, @db _ aD 1 (fun _ => rfl)] at al ⊢); exact al
 refine aZ (fun fj dO eR bq => ?_)
 refine ws [(0, .ref (bj I)), (1, .ref (bj aa)), (4, .aG (.agg [.int .i64 0, .af, .af])), (5, .aG (.agg [.int .i64 (IntKind.i64.wrap (I.aV + aa.aV)), .ai 1 ((aj ++ aa.Start).map aD), .ai 5 []])), (6, .int .i64 0)] ?_
 refine cd (fun hG fM gS bW b8 => ?_)
 have v7 : ∀ (n : Nat) (jZ : List aY) (gA : Int), rl I aa aj n jZ gA = some r → eg aq H6 hG (R [(0, .ref (bj I)), (1, .ref (bj aa)), (4, .aG (.agg [.int .i64 0, .af, .af])), (5, .aG (.agg [.int .i64 (IntKind.i64.wrap (I.aV + aa.aV)), .ai 1 ((aj ++ aa.Start).map aD), .ai 5 (jZ.map br)])), (6, .int .i64 gA)]) := by
  intro kN
  induction kN with
  | zero => intro jZ gA h; cases (show none = some r from h)
  | succ kN v8 =>
   intro jZ gA h
   replace h : yj (rl I aa aj kN) I aa aj jZ gA = some r := h
   refine ew (fun ht eN eJ cL => ?_)
   refine aZ (fun f_ c5 dR dE => ?_)
   refine ws [(0, .ref (bj I)), (1, .ref (bj aa)), (4, .aG (.agg [.int .i64 0, .af, .af])), (5, .aG (.agg [.int .i64 (IntKind.i64.wrap (I.aV + aa.aV)), .ai 1 ((aj ++ aa.Start).map aD), .ai 5 (jZ.map br)])), (6, .int .i64 gA), (38, .bool (decide (gA < (I.bG.length : Int))))] ?_
   rcases bk h with ⟨c2, h⟩ | ⟨c2, h⟩
   ·refine bp (congrArg j.bool c2) ?_
    simp only [c2, aO.down]
    refine bF (c5 _ (.inl ?_))
    refine aZ (fun oo j3 l5 mq => ?_)
    refine cd (fun k3 hh gM dY jj => ?_)
    obtain ⟨aF, dw, h⟩ := aT h
    obtain ⟨aW, gN, h⟩ := aT h
    refine jb rfl (ik [(0, .ref (bj I)), (1, .ref (bj aa)), (4, .aG (.agg [.int .i64 0, .af, .af])), (5, .aG (.agg [.int .i64 (IntKind.i64.wrap (I.aV + aa.aV)), .ai 1 ((aj ++ aa.Start).map aD), .ai 5 (jZ.map br)])), (6, .int .i64 gA), (7, .aG (br aW))] (fun P al => ?_) ?_)
    ·simp only [cP.down, simprocAttr, nH.down, dw]
     refine e7 (I9 aF I.aV aa.aV _ gN) rfl rfl rfl rfl (.inl (by rfl)) ?_
     simp only [cP.down, simprocAttr, nH.down, dw]
     refine ⟨hd (by kernel_rfl), ?_⟩
     (try simp only [bs.down, simprocAttr, nI.down, dw] at al ⊢); exact al
    obtain ⟨bn, jB, h⟩ := aT h
    obtain ⟨ago, iC, h⟩ := aT h
    (try simp only [List.length_append, List.length_cons, List.length_nil, List.length_map, List.length_replicate, Nat.zero_add, Nat.add_zero, Nat.reduceAdd] at iC)
    refine jb rfl (ik [(0, .ref (bj I)), (1, .ref (bj aa)), (4, .aG (.agg [.int .i64 0, .af, .af])), (5, .aG (.agg [.int .i64 (IntKind.i64.wrap (I.aV + aa.aV)), .ai 1 ((aj ++ aa.Start).map aD), .ai 5 (jZ.map br)])), (6, .int .i64 gA), (7, .aG (.agg [.ai 1 (aW.bo.map aD), .ai 2 (aW.Guard.map aR), .str aW.Name, .ai 1 (aW.bH.map bl), .ai 1 ((aW.Next ++ bn).map bl)]))] (fun P al => ?_) ?_)
    ·simp only [cP.down, simprocAttr, nH.down, @dc aq 88 88 87 rfl rfl, dd, de, cm, all_cons, all_nil, iC, @db _ bl 1 (fun _ => rfl)]
     refine e7 (I_ I.aV aa.aV _ jB) rfl rfl rfl rfl (.inl (by rfl)) ?_
     simp only [cP.down, simprocAttr, nH.down, @dc aq 88 88 87 rfl rfl, dd, de, cm, all_cons, all_nil, iC, @db _ bl 1 (fun _ => rfl)]
     refine ⟨hd (by kernel_rfl), ?_⟩
     (try simp only [bs.down, simprocAttr, nI.down, @dc aq 88 88 87 rfl rfl, dd, de, cm, all_cons, all_nil, iC, @db _ bl 1 (fun _ => rfl)] at al ⊢); exact al
    obtain ⟨ago, il, h⟩ := aT h
    (try simp only [List.length_append, List.length_cons, List.length_nil, List.length_map, List.length_replicate, Nat.zero_add, Nat.add_zero, Nat.reduceAdd] at il)
    refine hs (b0 [(0, .ref (bj I)), (1, .ref (bj aa)), (4, .aG (.agg [.int .i64 0, .af, .af])), (5, .aG (.agg [.int .i64 (IntKind.i64.wrap (I.aV + aa.aV)), .ai 1 ((aj ++ aa.Start).map aD), .ai 5 ((jZ ++ [(aY.mk aW.bo aW.Guard aW.Name aW.bH (aW.Next ++ bn))]).map br)])), (6, .int .i64 gA)] (fun P al => ?_) ?_)
    ·simp only [aX.down, simprocAttr, nH.down, @ei aq 45 90 1 5 [(.agg [.af, .af, (.str []), .af, .af])] rfl rfl rfl (by kernel_rfl), eh, du, dn, dv, cC, cm, List.nil_append, List.cons_append, @dc aq 45 45 90 rfl rfl, dd, de, all_cons, all_nil, il, @db _ br 5 (fun _ => rfl)]
     (try simp only [bs.down, simprocAttr, nI.down, @ei aq 45 90 1 5 [(.agg [.af, .af, (.str []), .af, .af])] rfl rfl rfl (by kernel_rfl), eh, du, dn, dv, cC, cm, List.nil_append, List.cons_append, @dc aq 45 45 90 rfl rfl, dd, de, all_cons, all_nil, il, @db _ br 5 (fun _ => rfl)] at al ⊢); exact al
    refine hh _ (j3 _ (.inl ?_))
    refine wr [(0, .ref (bj I)), (1, .ref (bj aa)), (4, .aG (.agg [.int .i64 0, .af, .af])), (5, .aG (.agg [.int .i64 (IntKind.i64.wrap (I.aV + aa.aV)), .ai 1 ((aj ++ aa.Start).map aD), .ai 5 ((jZ ++ [(aY.mk aW.bo aW.Guard aW.Name aW.bH (aW.Next ++ bn))]).map br)])), (6, .int .i64 (IntKind.i64.wrap (gA + 1)))] ?_
    exact eN _ (.inr ⟨_, cb rfl, v8 (jZ ++ [(aY.mk aW.bo aW.Guard aW.Name aW.bH (aW.Next ++ bn))]) (IntKind.i64.wrap (gA + 1)) h⟩)
   ·refine bB (congrArg j.bool c2) ?_
    simp only [c2, aO.down]
    refine eu (dE 0 _ (cL 0 _ (bW _ (dO _ (.inl ?_)))))
    refine aZ (fun rO lF o3 m4 => ?_)
    refine ws [(0, .ref (bj I)), (1, .ref (bj aa)), (4, .aG (.agg [.int .i64 0, .af, .af])), (5, .aG (.agg [.int .i64 (IntKind.i64.wrap (I.aV + aa.aV)), .ai 1 ((aj ++ aa.Start).map aD), .ai 5 (jZ.map br)])), (8, .int .i64 0)] ?_
    refine cd (fun v_ qh zu h4 rR => ?_)
    have agp : ∀ (n : Nat) (jY : List aY) (ke : Int), rk I aa aj n jY ke = some r → eg aq H7 v_ (R [(0, .ref (bj I)), (1, .ref (bj aa)), (4, .aG (.agg [.int .i64 0, .af, .af])), (5, .aG (.agg [.int .i64 (IntKind.i64.wrap (I.aV + aa.aV)), .ai 1 ((aj ++ aa.Start).map aD), .ai 5 (jY.map br)])), (8, .int .i64 ke)]) := by
     intro CV
     induction CV with
     | zero => intro jY ke h; cases (show none = some r from h)
     | succ CV agq =>
      intro jY ke h
      replace h : yi (rk I aa aj CV) I aa aj jY ke = some r := h
      refine ew (fun zl nK vW vX => ?_)
      refine aZ (fun zs o4 zt v9 => ?_)
      refine ws [(0, .ref (bj I)), (1, .ref (bj aa)), (4, .aG (.agg [.int .i64 0, .af, .af])), (5, .aG (.agg [.int .i64 (IntKind.i64.wrap (I.aV + aa.aV)), .ai 1 ((aj ++ aa.Start).map aD), .ai 5 (jY.map br)])), (8, .int .i64 ke), (81, .bool (decide (ke < (aa.bG.length : Int))))] ?_
      rcases bk h with ⟨nM, h⟩ | ⟨nM, h⟩
      ·refine bp (congrArg j.bool nM) ?_
       simp only [nM, aO.down]
       refine bF (o4 _ (.inl ?_))
       refine aZ (fun agr CW Ja ags => ?_)
       refine cd (fun agt CX Jb mw agu => ?_)
       obtain ⟨bu, o5, h⟩ := aT h
       obtain ⟨bq, CY, h⟩ := aT h
       refine jb rfl (ik [(0, .ref (bj I)), (1, .ref (bj aa)), (4, .aG (.agg [.int .i64 0, .af, .af])), (5, .aG (.agg [.int .i64 (IntKind.i64.wrap (I.aV + aa.aV)), .ai 1 ((aj ++ aa.Start).map aD), .ai 5 (jY.map br)])), (8, .int .i64 ke), (9, .aG (br bq))] (fun P al => ?_) ?_)
       ·simp only [cP.down, simprocAttr, nH.down, o5]
        refine e7 (I9 bu 0 I.aV _ CY) rfl rfl rfl rfl (.inl (by rfl)) ?_
        simp only [cP.down, simprocAttr, nH.down, o5]
        refine ⟨hd (by kernel_rfl), ?_⟩
        (try simp only [bs.down, simprocAttr, nI.down, o5] at al ⊢); exact al
       obtain ⟨cj, rS, h⟩ := aT h
       obtain ⟨agv, zv, h⟩ := aT h
       (try simp only [List.length_append, List.length_cons, List.length_nil, List.length_map, List.length_replicate, Nat.zero_add, Nat.add_zero, Nat.reduceAdd] at zv)
       refine jb rfl (ik [(0, .ref (bj I)), (1, .ref (bj aa)), (4, .aG (.agg [.int .i64 0, .af, .af])), (5, .aG (.agg [.int .i64 (IntKind.i64.wrap (I.aV + aa.aV)), .ai 1 ((aj ++ aa.Start).map aD), .ai 5 (jY.map br)])), (8, .int .i64 ke), (9, .aG (.agg [.ai 1 (bq.bo.map aD), .ai 2 (bq.Guard.map aR), .str bq.Name, .ai 1 (bq.bH.map bl), .ai 1 ((cj ++ bq.Next).map bl)]))] (fun P al => ?_) ?_)
       ·simp only [cP.down, simprocAttr, nH.down, @dc aq 88 88 87 rfl rfl, dd, de, cm, all_cons, all_nil, zv, @db _ bl 1 (fun _ => rfl)]
        refine e7 (I_ 0 I.aV _ rS) rfl rfl rfl rfl (.inl (by rfl)) ?_
        simp only [cP.down, simprocAttr, nH.down, @dc aq 88 88 87 rfl rfl, dd, de, cm, all_cons, all_nil, zv, @db _ bl 1 (fun _ => rfl)]
        refine ⟨hd (by kernel_rfl), ?_⟩
        (try simp only [bs.down, simprocAttr, nI.down, @dc aq 88 88 87 rfl rfl, dd, de, cm, all_cons, all_nil, zv, @db _ bl 1 (fun _ => rfl)] at al ⊢); exact al
       obtain ⟨agv, wa, h⟩ := aT h
       (try simp only [List.length_append, List.length_cons, List.length_nil, List.length_map, List.length_replicate, Nat.zero_add, Nat.add_zero, Nat.reduceAdd] at wa)
       refine hs (b0 [(0, .ref (bj I)), (1, .ref (bj aa)), (4, .aG (.agg [.int .i64 0, .af, .af])), (5, .aG (.agg [.int .i64 (IntKind.i64.wrap (I.aV + aa.aV)), .ai 1 ((aj ++ aa.Start).map aD), .ai 5 ((jY ++ [(aY.mk bq.bo bq.Guard bq.Name bq.bH (cj ++ bq.Next))]).map br)])), (8, .int .i64 ke)] (fun P al => ?_) ?_)
       ·simp only [aX.down, simprocAttr, nH.down, @ei aq 45 90 1 5 [(.agg [.af, .af, (.str []), .af, .af])] rfl rfl rfl (by kernel_rfl), eh, du, dn, dv, cC, cm, List.nil_append, List.cons_append, @dc aq 45 45 90 rfl rfl, dd, de, all_cons, all_nil, wa, @db _ br 5 (fun _ => rfl)]
        (try simp only [bs.down, simprocAttr, nI.down, @ei aq 45 90 1 5 [(.agg [.af, .af, (.str []), .af, .af])] rfl rfl rfl (by kernel_rfl), eh, du, dn, dv, cC, cm, List.nil_append, List.cons_append, @dc aq 45 45 90 rfl rfl, dd, de, all_cons, all_nil, wa, @db _ br 5 (fun _ => rfl)] at al ⊢); exact al
       refine CX _ (CW _ (.inl ?_))
       refine wr [(0, .ref (bj I)), (1, .ref (bj aa)), (4, .aG (.agg [.int .i64 0, .af, .af])), (5, .aG (.agg [.int .i64 (IntKind.i64.wrap (I.aV + aa.aV)), .ai 1 ((aj ++ aa.Start).map aD), .ai 5 ((jY ++ [(aY.mk bq.bo bq.Guard bq.Name bq.bH (cj ++ bq.Next))]).map br)])), (8, .int .i64 (IntKind.i64.wrap (ke + 1)))] ?_
       exact nK _ (.inr ⟨_, cb rfl, agq (jY ++ [(aY.mk bq.bo bq.Guard bq.Name bq.bH (cj ++ bq.Next))]) (IntKind.i64.wrap (ke + 1)) h⟩)
      ·refine bB (congrArg j.bool nM) ?_
       simp only [nM, aO.down]
       refine eu (v9 2 _ (vX 2 _ (h4 _ (lF _ (.inl ?_)))))
       refine ws [(4, .aG (.agg [.int .i64 (IntKind.i64.wrap (I.aV + aa.aV)), .ai 1 ((aj ++ aa.Start).map aD), .ai 5 (jY.map br)]))] ?_
       exact a6 (aJ _ (.inl (a7 [dC (bc.mk (IntKind.i64.wrap (I.aV + aa.aV)) (aj ++ aa.Start) jY)] rfl (by cases a4 h; rfl) (by decide) a_)))
    obtain ⟨n, h⟩ := et h
    exact ev (.inr ⟨_, cb rfl, agp n jZ 0 h⟩)
 obtain ⟨n, h⟩ := et h
 exact ev (.inr ⟨_, cb rfl, v7 n [] 0 h⟩)
theorem Jc (I : bc) (aa : bc) (r : bc × Int) (h : yl I aa = some r) : a0 aq 32 [bj I, bj aa] (.tuple [dC r.1, .int .i64 r.2]) [] := by
 refine a0.cF (fx := [0, 1]) cI [.cell 4 47, .tmp 5] [(0, bj I), (1, bj aa)] Try.func32 rfl rfl VL (Nat.le_of_ble_eq_true rfl) rfl rfl (fun cv aJ cD => ?_)
 refine ws _ ?_
 refine aZ (fun fB cT bP aF => ?_)
 obtain ⟨aj, cn, h⟩ := aT h
 rcases bk h with ⟨cc, h⟩ | ⟨cc, h⟩
 ·refine cQ (b0 [(2, .aG (bj I)), (3, .aG (bj aa)), (4, .aG (.agg [.int .i64 0, .af, .af])), (12, .bool true)] (fun P al => ?_) ?_)
  ·refine ey (zo I _ cn) rfl rfl (by simp only [aX.down, simprocAttr, i5.down, (eT cc), eZ, e0, e1, dy, @bx _ aD aD (fun _ => dX _), @bx _ bm bm (fun _ => nE _)] <;> rfl) rfl (.inr (by rfl)) ?_
   simp only [aX.down, simprocAttr, i5.down, (eT cc)]
   (try simp only [bs.down, simprocAttr, i5.down, (eT cc)] at al ⊢); exact al
  refine bp rfl ?_
  refine fG (show ∀ s, ed aq s 47 [] = some (.agg [.int .i64 0, .af, .af], s) from fun s => by kernel_rfl) _ ?_
  exact a6 (bP _ (aJ _ (.inr ⟨[(4, .aG (dC (bc.mk 0 [] []))), (5, .int .i64 1)], jd [] rfl (i2 (t := 4) (d := .aG (.agg [.int .i64 0, .af, .af])) rfl rfl (.aG (.agg (.cons (.refl _) (.cons (.gq _) (.cons (.gq _) (.nil)))))) (by decide) (dQ rfl (je))), a7 [dC (bc.mk 0 [] []), .int .i64 1] rfl (by cases a4 h; rfl) (by decide) a_⟩)))
 ·obtain ⟨aF, bV, h⟩ := aT h
  refine cQ (b0 [(2, .aG (bj I)), (3, .aG (bj aa)), (4, .aG (.agg [.int .i64 0, .af, .af])), (12, .bool (!aF))] (fun P al => ?_) ?_)
  ·refine ey (zo I _ cn) rfl rfl (by simp only [aX.down, simprocAttr, i5.down, (dz cc), eZ, e0, e1, dy, @bx _ aD aD (fun _ => dX _), @bx _ bm bm (fun _ => nE _)] <;> rfl) rfl (.inr (by rfl)) ?_
   simp only [aX.down, simprocAttr, i5.down, (dz cc)]
   refine jc (zo aa _ bV) rfl rfl (by simp only [aX.down, simprocAttr, i5.down, (dz cc), eZ, e0, e1, dy, @bx _ aD aD (fun _ => dX _), @bx _ bm bm (fun _ => nE _)] <;> rfl) rfl (.inr (by rfl)) ?_
   simp only [aX.down, simprocAttr, i5.down, (dz cc)]
   (try simp only [bs.down, simprocAttr, i5.down, (dz cc)] at al ⊢); exact al
  rcases bk h with ⟨bW, h⟩ | ⟨bW, h⟩
  ·refine bp (congrArg j.bool bW) ?_
   simp only [(eT bW), aO.down]
   refine fG (show ∀ s, ed aq s 47 [] = some (.agg [.int .i64 0, .af, .af], s) from fun s => by kernel_rfl) _ ?_
   exact a6 (bP _ (aJ _ (.inr ⟨[(4, .aG (dC (bc.mk 0 [] []))), (5, .int .i64 1)], jd [] rfl (i2 (t := 4) (d := .aG (.agg [.int .i64 0, .af, .af])) rfl rfl (.aG (.agg (.cons (.refl _) (.cons (.gq _) (.cons (.gq _) (.nil)))))) (by decide) (dQ rfl (je))), a7 [dC (bc.mk 0 [] []), .int .i64 1] rfl (by cases a4 h; rfl) (by decide) a_⟩)))
  ·refine bB (congrArg j.bool bW) ?_
   simp only [(dz bW), aO.down]
   refine bF (cT _ (.inl ?_))
   obtain ⟨aW, qH, h⟩ := aT h
   refine cQ (b0 [(4, .aG (.agg [.int .i64 0, .af, .af])), (6, .aG (dC aW))] (fun P al => ?_) ?_)
   ·refine ey (agn I aa _ qH) rfl rfl (by simp only [aX.down, simprocAttr, qc.down, eZ, e0, e1, dy, @bx _ aD aD (fun _ => dX _), @bx _ bm bm (fun _ => nE _), @bx _ aD aD (fun _ => dX _), @bx _ bm bm (fun _ => nE _)] <;> rfl) rfl (.inr (qb _)) ?_
    simp only [aX.down, simprocAttr, qc.down]
    (try simp only [bs.down, simprocAttr, CK.down] at al ⊢); exact al
   refine aZ (fun mu h2 kG kF => ?_)
   obtain ⟨bn, fc, h⟩ := aT h
   refine cQ (b0 [(4, .aG (.agg [.int .i64 0, .af, .af])), (6, .aG (dC aW)), (16, .bool (!bn))] (fun P al => ?_) ?_)
   ·refine ey (zo aW _ fc) rfl rfl (by simp only [aX.down, simprocAttr, tw.down, eZ, e0, e1, dy, @bx _ aD aD (fun _ => dX _), @bx _ br bm (fun _ => gu _)] <;> rfl) rfl (.inr (by rfl)) ?_
    simp only [aX.down, simprocAttr, tw.down]
    (try simp only [bs.down, simprocAttr, tw.down] at al ⊢); exact al
   rcases bk h with ⟨fS, h⟩ | ⟨fS, h⟩
   ·refine bp (congrArg j.bool fS) ?_
    simp only [(eT fS), aO.down]
    refine fG (show ∀ s, ed aq s 47 [] = some (.agg [.int .i64 0, .af, .af], s) from fun s => by kernel_rfl) _ ?_
    exact a6 (kG _ (aJ _ (.inr ⟨[(4, .aG (dC (bc.mk 0 [] []))), (5, .int .i64 5)], jd [] rfl (i2 (t := 4) (d := .aG (.agg [.int .i64 0, .af, .af])) rfl rfl (.aG (.agg (.cons (.refl _) (.cons (.gq _) (.cons (.gq _) (.nil)))))) (by decide) (dQ rfl (je))), a7 [dC (bc.mk 0 [] []), .int .i64 5] rfl (by cases a4 h; rfl) (by decide) a_⟩)))
   ·refine bB (congrArg j.bool fS) ?_
    simp only [(dz fS), aO.down]
    refine bF (h2 _ (.inl ?_))
    refine ws _ ?_
    exact a6 (aJ _ (.inl (a7 [dC aW, .int .i64 0] rfl (by cases a4 h; rfl) (by decide) a_)))
theorem my (I : Int) (aa : Int) (a9 : Int) (r : Bool) (h : mn I aa a9 = some r) : a0 aq 97 [.int .i64 I, .int .i64 aa, .int .i64 a9] (.bool r) [] := by
 refine a0.cF (fx := [0, 1, 2]) cI [.tmp 6] [(0, .int .i64 I), (1, .int .i64 aa), (2, .int .i64 a9)] Try.func97 rfl rfl VO (Nat.le_of_ble_eq_true rfl) rfl rfl (fun cv aJ cD => ?_)
 refine ws _ ?_
 refine cQ (b0 [(6, .bool ((decide (aa ≤ I)) && (decide (I ≤ a9))))] (fun P al => ?_) ?_)
 ·rcases Bool.eq_false_or_eq_true (decide (aa ≤ I)) with gf | gf
  ·simp only [aX.down, simprocAttr, gf]
   (try simp only [bs.down, simprocAttr, gf] at al ⊢); exact al
  ·simp only [aX.down, simprocAttr, gf]
   (try simp only [bs.down, simprocAttr, gf] at al ⊢); exact al
 exact a6 (aJ _ (.inl (a7 [.bool ((decide (aa ≤ I)) && (decide (I ≤ a9)))] rfl (by cases a4 h; rfl) (by decide) a_)))
theorem Jd (I : Int) (r : Bool) (h : ym I = some r) : a0 aq 173 [.int .i64 I] (.bool r) [] := by
 refine a0.cF (fx := [0]) cI [.tmp 2] [(0, .int .i64 I)] Try.func173 rfl rfl VR (Nat.le_of_ble_eq_true rfl) rfl rfl (fun cv aJ cD => ?_)
 refine ws _ ?_
 obtain ⟨aj, bf, h⟩ := aT h
 refine eI (my I 0 63 _ bf) _ ?_
 exact a6 (aJ _ (.inl (a7 [.bool aj] rfl (by cases a4 h; rfl) (by decide) a_)))
theorem agw (I : Int) (r : Bool) (h : Cl I = some r) : a0 aq 172 [.int .i64 I] (.bool r) [] := by
 refine a0.cF (fx := [0]) cI [.tmp 2] [(0, .int .i64 I)] Try.func172 rfl rfl VU (Nat.le_of_ble_eq_true rfl) rfl rfl (fun cv aJ cD => ?_)
 refine ws _ ?_
 obtain ⟨aj, bf, h⟩ := aT h
 refine eI (Jd I _ bf) _ ?_
 exact a6 (aJ _ (.inl (a7 [.bool (!aj)] rfl (by cases a4 h; rfl) (by decide) a_)))
theorem agx (I : List Int) (r : Int) (h : Cn I = some r) : a0 aq 160 [.slice (I.map aD), .fn 172 []] (.int .i64 r) [] := by
 refine a0.cF (fx := [0, 1]) cI [.tmp 4] [(0, .slice (I.map aD)), (1, .fn 172 [])] Try.func160 rfl rfl V5 (Nat.le_of_ble_eq_true rfl) rfl rfl (fun cv aJ cD => ?_)
 refine ws _ ?_
 refine aZ (fun fB cT bP aF => ?_)
 refine ws _ ?_
 refine cd (fun fH fu cZ b3 bn => ?_)
 have h3 : ∀ (n : Nat) (fi : Int), vj I n fi = some r → eg aq H8 fH (R [(0, .slice (I.map aD)), (1, .fn 172 []), (7, .int .i64 (I.length : Int)), (8, .int .i64 fi)]) := by
  intro dK
  induction dK with
  | zero => intro fi h; cases (show none = some r from h)
  | succ dK hV =>
   intro fi h
   replace h : Cm (vj I dK) I fi = some r := h
   refine ew (fun gD fk el bu => ?_)
   refine ws _ ?_
   refine aZ (fun jA fZ hc cj => ?_)
   rcases bk h with ⟨bW, h⟩ | ⟨bW, h⟩
   ·refine bp (congrArg j.bool bW) ?_
    simp only [bW, aO.down]
    refine bF (fZ _ (.inl ?_))
    refine aZ (fun ht eN eJ cL => ?_)
    refine cd (fun f_ c5 dR c7 dE => ?_)
    refine ws _ ?_
    obtain ⟨aj, eP, h⟩ := aT h
    obtain ⟨aF, fc, h⟩ := aT h
    refine j1 eP (agw aj _ fc) _ ?_
    rcases bk h with ⟨fS, h⟩ | ⟨fS, h⟩
    ·refine bp (congrArg j.bool fS) ?_
     simp only [fS, aO.down]
     refine ws _ ?_
     exact a6 (dR _ (eJ _ (el _ (cZ _ (bP _ (aJ _ (.inl (a7 [.int .i64 fi] rfl (by cases a4 h; rfl) (by decide) a_))))))))
    ·refine bB (congrArg j.bool fS) ?_
     simp only [fS, aO.down]
     refine bF (c5 _ (eN _ (.inl ?_)))
     refine wr _ ?_
     exact fk _ (.inr ⟨_, cb rfl, hV (IntKind.i64.wrap (fi + 1)) h⟩)
   ·refine bB (congrArg j.bool bW) ?_
    simp only [bW, aO.down]
    refine eu (cj 0 _ (bu 0 _ (b3 _ (cT _ (.inl ?_)))))
    refine ws _ ?_
    exact a6 (aJ _ (.inl (a7 [.int .i64 (-1)] rfl (by cases a4 h; rfl) (by decide) a_)))
 obtain ⟨n, h⟩ := et h
 exact ev (.inr ⟨_, cb rfl, h3 n 0 h⟩)
theorem agy (I : List Int) (r : Bool) (h : Co I = some r) : a0 aq 171 [.slice (I.map aD), .fn 172 []] (.bool r) [] := by
 refine a0.cF (fx := [0, 1]) cI [.tmp 4] [(0, .slice (I.map aD)), (1, .fn 172 [])] Try.func171 rfl rfl V8 (Nat.le_of_ble_eq_true rfl) rfl rfl (fun cv aJ cD => ?_)
 refine ws _ ?_
 obtain ⟨aj, bf, h⟩ := aT h
 refine eI (agx I _ bf) _ ?_
 exact a6 (aJ _ (.inl (a7 [.bool (decide (0 ≤ aj))] rfl (by cases a4 h; rfl) (by decide) a_)))
theorem agz (I : List Int) (r : Bool) (h : Cp I = some r) : a0 aq 141 [.slice (I.map aD)] (.bool r) [] := by
 refine a0.cF (fx := [0]) cI [.tmp 2] [(0, .slice (I.map aD))] Try.func141 rfl rfl Wa (Nat.le_of_ble_eq_true rfl) rfl rfl (fun cv aJ cD => ?_)
 refine ws _ ?_
 obtain ⟨aj, bf, h⟩ := aT h
 refine eI (agy I _ bf) _ ?_
 exact a6 (aJ _ (.inl (a7 [.bool (!aj)] rfl (by cases a4 h; rfl) (by decide) a_)))
theorem Je (I : bc) (aa : List Int) (r : Bool) (h : yn I aa = some r) : a0 aq 103 [bj I, .slice (aa.map aD)] (.bool r) [] := by
 refine a0.cF (fx := [0, 1]) cI [.tmp 4] [(0, bj I), (1, .slice (aa.map aD))] Try.func103 rfl rfl Wd (Nat.le_of_ble_eq_true rfl) rfl rfl (fun cv aJ cD => ?_)
 refine ws _ ?_
 rcases bk h with ⟨hM, h⟩ | ⟨hM, h⟩
 ·obtain ⟨aj, cn, h⟩ := aT h
  refine cQ (b0 [(4, .bool aj)] (fun P al => ?_) ?_)
  ·simp only [aX.down, simprocAttr, hg.down, hM]
   refine jc (agz aa _ cn) rfl rfl rfl rfl (.inl (by rfl)) ?_
   simp only [aX.down, simprocAttr, hg.down, hM]
   (try simp only [bs.down, simprocAttr, i5.down, hM] at al ⊢); exact al
  exact a6 (aJ _ (.inl (a7 [.bool aj] rfl (by cases a4 h; rfl) (by decide) a_)))
 ·refine fG hM _ ?_
  exact a6 (aJ _ (.inl (a7 [.bool false] rfl (by cases a4 h; rfl) (by decide) a_)))
theorem Jf (I : aY) (r : Bool) (h : yp I = some r) : a0 aq 143 [bm I] (.bool r) [] := by
 refine a0.cF (fx := [0]) cI [.tmp 2] [(0, bm I)] Try.func143 rfl rfl Wq (Nat.le_of_ble_eq_true rfl) rfl rfl (fun cv aJ cD => ?_)
 refine ws _ ?_
 refine ws _ ?_
 refine aZ (fun lE gW fw aW => ?_)
 refine ws _ ?_
 refine cd (fun gD fk el cc bu => ?_)
 have gX : ∀ (n : Nat) (bK : Int) (m0 : Int), rm I n bK m0 = some r → eg aq H9 gD (R [(1, .aG (bm I)), (3, .int .i64 bK), (7, .slice (I.bo.map aD)), (8, .int .i64 (I.bo.length : Int)), (9, .int .i64 m0)]) := by
  intro c6
  induction c6 with
  | zero => intro bK m0 h; cases (show none = some r from h)
  | succ c6 gC =>
   intro bK m0 h
   replace h : yo (rm I c6) I bK m0 = some r := h
   refine ew (fun fj dO eR bq => ?_)
   refine ws _ ?_
   refine aZ (fun hG fM gS b8 => ?_)
   rcases bk h with ⟨cM, h⟩ | ⟨cM, h⟩
   ·refine bp (congrArg j.bool cM) ?_
    simp only [cM, aO.down]
    refine bF (fM _ (.inl ?_))
    refine aZ (fun f_ c5 dR dE => ?_)
    refine cd (fun iB eW hU fI gh => ?_)
    obtain ⟨aj, eP, h⟩ := aT h
    refine fG eP _ ?_
    refine aZ (fun k3 hh gM jj => ?_)
    obtain ⟨aF, dw, h⟩ := aT h
    refine eI (my aj 1 7 _ dw) _ ?_
    rcases bk h with ⟨dS, h⟩ | ⟨dS, h⟩
    ·refine bp (congrArg j.bool dS) ?_
     simp only [(eT dS), aO.down]
     refine ws _ ?_
     exact a6 (gM _ (hU _ (dR _ (eR _ (el _ (fw _ (aJ _ (.inl (a7 [.bool false] rfl (by cases a4 h; rfl) (by decide) a_)))))))))
    ·refine bB (congrArg j.bool dS) ?_
     simp only [(dz dS), aO.down]
     refine bF (hh _ (.inl ?_))
     refine wr _ ?_
     refine eW _ (c5 _ (.inl ?_))
     refine wr _ ?_
     exact dO _ (.inr ⟨_, cb rfl, gC (IntKind.i64.wrap (bK * (IntKind.i64.wrap (aj + 1)))) (IntKind.i64.wrap (m0 + 1)) h⟩)
   ·refine bB (congrArg j.bool cM) ?_
    simp only [cM, aO.down]
    refine eu (b8 0 _ (bq 0 _ (cc _ (gW _ (.inl ?_)))))
    refine cQ (b0 [(2, .bool ((decide ((I.bo.length : Int) ≤ 8)) && (decide (bK ≤ 4096))))] (fun P al => ?_) ?_)
    ·rcases Bool.eq_false_or_eq_true (decide ((I.bo.length : Int) ≤ 8)) with wb | wb
     ·simp only [aX.down, simprocAttr, fR.down, wb]
      (try simp only [bs.down, simprocAttr, kh.down, wb] at al ⊢); exact al
     ·simp only [aX.down, simprocAttr, fR.down, wb]
      (try simp only [bs.down, simprocAttr, kh.down, wb] at al ⊢); exact al
    exact a6 (aJ _ (.inl (a7 [.bool ((decide ((I.bo.length : Int) ≤ 8)) && (decide (bK ≤ 4096)))] rfl (by cases a4 h; rfl) (by decide) a_)))
 obtain ⟨n, h⟩ := et h
 exact ev (.inr ⟨_, cb rfl, gX n 1 0 h⟩)
theorem agA (I : UInt8) (r : Bool) (h : Cq I = some r) : a0 aq 95 [.int .u8 (I.toNat : Int)] (.bool r) [] := by
 refine a0.cF (fx := [0]) cI [.tmp 2] [(0, .int .u8 (I.toNat : Int))] Try.func95 rfl rfl Wt (Nat.le_of_ble_eq_true rfl) rfl rfl (fun cv aJ cD => ?_)
 refine ws _ ?_
 refine cQ (b0 [(2, .bool ((decide (48 ≤ (I.toNat : Int))) && (decide ((I.toNat : Int) ≤ 57))))] (fun P al => ?_) ?_)
 ·rcases Bool.eq_false_or_eq_true (decide (48 ≤ (I.toNat : Int))) with gf | gf
  ·simp only [aX.down, simprocAttr, gf]
   (try simp only [bs.down, simprocAttr, gf] at al ⊢); exact al
  ·simp only [aX.down, simprocAttr, gf]
   (try simp only [bs.down, simprocAttr, gf] at al ⊢); exact al
 exact a6 (aJ _ (.inl (a7 [.bool ((decide (48 ≤ (I.toNat : Int))) && (decide ((I.toNat : Int) ≤ 57)))] rfl (by cases a4 h; rfl) (by decide) a_)))
theorem Jg (I : List UInt8) (r : Bool) (h : yq I = some r) : a0 aq 54 [.str I] (.bool r) [] := by
 refine a0.cF (fx := [0]) cI [.tmp 2] [(0, .str I)] Try.func54 rfl rfl WG (Nat.le_of_ble_eq_true rfl) rfl rfl (fun cv aJ cD => ?_)
 refine ws _ ?_
 refine aZ (fun fB cT bP aF => ?_)
 refine ws _ ?_
 refine cd (fun fH fu cZ b3 bn => ?_)
 have h3 : ∀ (n : Nat) (kf : Int), oT I n kf = some r → eg aq H_ fH (R [(0, .str I), (6, .int .i64 (I.length : Int)), (7, .int .i64 kf)]) := by
  intro dK
  induction dK with
  | zero => intro kf h; cases (show none = some r from h)
  | succ dK hV =>
   intro kf h
   replace h : vk (oT I dK) I kf = some r := h
   refine ew (fun gD fk el bu => ?_)
   refine ws _ ?_
   refine aZ (fun jA fZ hc cj => ?_)
   rcases bk h with ⟨bW, h⟩ | ⟨bW, h⟩
   ·refine bp (congrArg j.bool bW) ?_
    simp only [bW, aO.down]
    refine bF (fZ _ (.inl ?_))
    refine aZ (fun ht eN eJ cL => ?_)
    refine cd (fun f_ c5 dR c7 dE => ?_)
    refine ws _ ?_
    obtain ⟨aj, eP, h⟩ := aT h
    refine cQ (b0 [(0, .str I), (3, .int .i64 kf), (4, .bool ((decide (97 ≤ (aj.toNat : Int))) && (decide ((aj.toNat : Int) ≤ 122)))), (6, .int .i64 (I.length : Int)), (7, .int .i64 kf)] (fun P al => ?_) ?_)
    ·rcases Bool.eq_false_or_eq_true (decide (97 ≤ (aj.toNat : Int))) with wc | wc
     ·simp only [aX.down, simprocAttr, fX, eP, wc]
      (try simp only [bs.down, simprocAttr, eP, wc] at al ⊢); exact al
     ·simp only [aX.down, simprocAttr, fX, eP, wc]
      (try simp only [bs.down, simprocAttr, eP, wc] at al ⊢); exact al
    rcases bk h with ⟨iS, h⟩ | ⟨iS, h⟩
    ·rcases bk h with ⟨dS, h⟩ | ⟨dS, h⟩
     ·refine fG (And.intro iS dS) _ ?_
      refine bp rfl ?_
      refine ws _ ?_
      exact a6 (dR _ (eJ _ (el _ (cZ _ (bP _ (aJ _ (.inl (a7 [.bool false] rfl (by cases a4 h; rfl) (by decide) a_))))))))
     ·obtain ⟨aF, jB, h⟩ := aT h
      refine cQ (b0 [(0, .str I), (6, .int .i64 (I.length : Int)), (7, .int .i64 kf), (32, .bool (!aF))] (fun P al => ?_) ?_)
      ·simp only [aX.down, simprocAttr, fX, iS, dS, eP]
       refine jc (agA aj _ jB) rfl rfl rfl rfl (.inl (by rfl)) ?_
       simp only [aX.down, simprocAttr, fX, iS, dS, eP]
       (try simp only [bs.down, simprocAttr, iS, dS, eP] at al ⊢); exact al
      rcases bk h with ⟨gP, h⟩ | ⟨gP, h⟩
      ·refine bp (congrArg j.bool gP) ?_
       simp only [(eT gP), aO.down]
       refine ws _ ?_
       exact a6 (dR _ (eJ _ (el _ (cZ _ (bP _ (aJ _ (.inl (a7 [.bool false] rfl (by cases a4 h; rfl) (by decide) a_))))))))
      ·refine bB (congrArg j.bool gP) ?_
       simp only [(dz gP), aO.down]
       refine bF (c5 _ (eN _ (.inl ?_)))
       refine wr _ ?_
       exact fk _ (.inr ⟨_, cb rfl, hV (IntKind.i64.wrap (kf + 1)) h⟩)
    ·refine fG iS _ ?_
     refine bB rfl ?_
     refine bF (c5 _ (eN _ (.inl ?_)))
     refine wr _ ?_
     exact fk _ (.inr ⟨_, cb rfl, hV (IntKind.i64.wrap (kf + 1)) h⟩)
   ·refine bB (congrArg j.bool bW) ?_
    simp only [bW, aO.down]
    refine eu (cj 0 _ (bu 0 _ (b3 _ (cT _ (.inl ?_)))))
    refine cQ (b0 [(2, .bool ((decide (1 ≤ (I.length : Int))) && (decide ((I.length : Int) ≤ 10))))] (fun P al => ?_) ?_)
    ·rcases Bool.eq_false_or_eq_true (decide (1 ≤ (I.length : Int))) with rL | rL
     ·simp only [aX.down, simprocAttr, fX, rL]
      (try simp only [bs.down, simprocAttr, rL] at al ⊢); exact al
     ·simp only [aX.down, simprocAttr, fX, rL]
      (try simp only [bs.down, simprocAttr, rL] at al ⊢); exact al
    exact a6 (aJ _ (.inl (a7 [.bool ((decide (1 ≤ (I.length : Int))) && (decide ((I.length : Int) ≤ 10)))] rfl (by cases a4 h; rfl) (by decide) a_)))
 obtain ⟨n, h⟩ := et h
 exact ev (.inr ⟨_, cb rfl, h3 n 0 h⟩)
theorem Jh (I : List UInt8) (r : Bool) (h : vl I = some r) : a0 aq 144 [.str I] (.bool r) [] := by
 refine a0.cF (fx := [0]) cI [.tmp 2] [(0, .str I)] Try.func144 rfl rfl WJ (Nat.le_of_ble_eq_true rfl) rfl rfl (fun cv aJ cD => ?_)
 refine ws _ ?_
 obtain ⟨aj, bf, h⟩ := aT h
 refine cQ (b0 [(2, .bool (aj && (!(I == ([116, 97, 117] : List UInt8)))))] (fun P al => ?_) ?_)
 ·rcases Bool.eq_false_or_eq_true (aj) with kQ | kQ
  ·simp only [aX.down, simprocAttr, kQ]
   refine ey (Jg I _ bf) rfl rfl rfl rfl (.inl (by rfl)) ?_
   simp only [aX.down, simprocAttr, kQ]
   (try simp only [bs.down, simprocAttr, kQ] at al ⊢); exact al
  ·simp only [aX.down, simprocAttr, kQ]
   refine ey (Jg I _ bf) rfl rfl rfl rfl (.inl (by rfl)) ?_
   simp only [aX.down, simprocAttr, kQ]
   (try simp only [bs.down, simprocAttr, kQ] at al ⊢); exact al
 exact a6 (aJ _ (.inl (a7 [.bool (aj && (!(I == ([116, 97, 117] : List UInt8))))] rfl (by cases a4 h; rfl) (by decide) a_)))
theorem Ji (aa : Int) (r : Unit) (h : vm aa = some r) : a0 aq 156 [.af, .int .i64 aa] (.ai 1 []) [] := by
 refine a0.cF (fx := []) cI [.tmp 4] [(0, .af), (1, .int .i64 aa)] Try.func156 rfl rfl WS (Nat.le_of_ble_eq_true rfl) rfl rfl (fun cv aJ cD => ?_)
 refine ws _ ?_
 have CZ : Cr aa = some r → c4 aq Ib cv (R [(0, .af), (1, .int .i64 aa), (6, .bool false)]) := by
  intro h
  have we : yr = some r → c4 aq Ia cv (R [(0, .ai 1 [])]) := by
   intro h
   refine ws _ ?_
   exact a6 (aJ _ (.inl (a7 [.ai 1 []] rfl (by cases a4 h; rfl) (by decide) a_)))
  refine aZ (fun lE gW fw aW => ?_)
  refine cQ (b0 [(0, .af), (1, .int .i64 (IntKind.i64.wrap (aa - (IntKind.i64.wrap 0))))] (fun P al => ?_) ?_)
  ·simp only [aX.down, simprocAttr, eD, e8, fC, eU, pO, (fun s x h => @pN aq s 88 87 x rfl h)]
   (try simp only [bs.down, simprocAttr, pO, (fun s x h => @pN aq s 88 87 x rfl h)] at al ⊢); exact al
  refine ws _ ?_
  rcases bk h with ⟨jo, h⟩ | ⟨jo, h⟩
  ·refine bp (congrArg j.bool jo) ?_
   simp only [jo, aO.down]
   obtain ⟨agB, g7, h⟩ := aT h
   refine hs (b0 [(0, .ai 1 [])] (fun P al => ?_) ?_)
   ·simp only [aX.down, simprocAttr, eD, Hv, e8, fC, eU, aR, bC, pO, (fun s x h => @pN aq s 88 87 x rfl h), xN, xM, (gk g7).1, (gk g7).2.1, (gk g7).2.2, xO, ic, xJ, List.map_replicate, -Int.reduceNatCast', (fun s y q => (mW aq s 88 y q).1), (fun s y q => (mW aq s 88 y q).2.1), (fun s y q => (mW aq s 88 y q).2.2), od, xP]
    (try simp only [bs.down, simprocAttr, aR, bC, pO, (fun s x h => @pN aq s 88 87 x rfl h), xN, xM, (gk g7).1, (gk g7).2.1, (gk g7).2.2, xO, ic, xJ, List.map_replicate, -Int.reduceNatCast', (fun s y q => (mW aq s 88 y q).1), (fun s y q => (mW aq s 88 y q).2.1), (fun s y q => (mW aq s 88 y q).2.2), od, xP] at al ⊢); exact al
   exact gW _ (.inr ⟨_, cb rfl, we h⟩)
  ·refine bB (congrArg j.bool jo) ?_
   simp only [jo, aO.down]
   exact bF (gW _ (.inr ⟨_, jd [] rfl (i2 (t := 0) (d := .af) (bw := .ai 1 []) rfl rfl (.gq _) (by decide) (je)), we h⟩))
 refine aZ (fun fB cT bP aF => ?_)
 refine ws _ ?_
 rcases bk h with ⟨fI, h⟩ | ⟨fI, h⟩
 ·refine bp (congrArg j.bool fI) ?_
  simp only [fI, aO.down]
  cases h
 ·refine bB (congrArg j.bool fI) ?_
  simp only [fI, aO.down]
  exact bF (cT _ (.inr ⟨_, cb rfl, CZ h⟩))
theorem agC (I : List (List (List aA))) (r : (List (List aA))) (h : yu I = some r) : a0 aq 119 [.slice (I.map hR)] (.ai 1 (r.map bC)) [] := by
 refine a0.cF (fx := [0]) cI [.tmp 2] [(0, .slice (I.map hR))] Try.func119 rfl rfl Xa (Nat.le_of_ble_eq_true rfl) rfl rfl (fun cv aJ cD => ?_)
 refine ws _ ?_
 refine ws _ ?_
 refine aZ (fun lE gW fw aW => ?_)
 refine ws _ ?_
 refine cd (fun gD fk el cc bu => ?_)
 have gX : ∀ (n : Nat) (bK : Int) (dL : Int), p0 I n bK dL = some r → eg aq Ie gD (R [(0, .slice (I.map hR)), (3, .int .i64 bK), (9, .slice (I.map hR)), (10, .int .i64 (I.length : Int)), (11, .int .i64 dL)]) := by
  intro c6
  induction c6 with
  | zero => intro bK dL h; cases (show none = some r from h)
  | succ c6 gC =>
   intro bK dL h
   replace h : yt (p0 I c6) I bK dL = some r := h
   refine ew (fun fj dO eR bq => ?_)
   refine ws _ ?_
   refine aZ (fun hG fM gS b8 => ?_)
   rcases bk h with ⟨cM, h⟩ | ⟨cM, h⟩
   ·refine bp (congrArg j.bool cM) ?_
    simp only [cM, aO.down]
    refine bF (fM _ (.inl ?_))
    have wg : ∀ (jM : Int) (jN : Int), Cs (p0 I c6) I jM jN = some r → c4 aq Ic fj (R [(0, .slice (I.map hR)), (3, .int .i64 jM), (9, .slice (I.map hR)), (10, .int .i64 (I.length : Int)), (11, .int .i64 jN), (20, .bool false)]) := by
     intro jM jN h
     refine wr _ ?_
     exact dO _ (.inr ⟨_, cb rfl, gC jM (IntKind.i64.wrap (jN + 1)) h⟩)
    refine aZ (fun f_ c5 dR dE => ?_)
    refine cd (fun mu h2 kG c2 kF => ?_)
    obtain ⟨aj, fc, h⟩ := aT h
    refine fG fc _ ?_
    refine ws _ ?_
    refine ws _ ?_
    rcases bk h with ⟨dS, h⟩ | ⟨dS, h⟩
    ·refine bp (congrArg j.bool dS) ?_
     simp only [dS, aO.down]
     cases h
    ·refine bB (congrArg j.bool dS) ?_
     simp only [dS, aO.down]
     exact bF (h2 _ (c5 _ (.inr ⟨_, cb rfl, wg (IntKind.i64.wrap (bK + (aj.length : Int))) dL h⟩)))
   ·refine bB (congrArg j.bool cM) ?_
    simp only [cM, aO.down]
    refine eu (b8 0 _ (bq 0 _ (cc _ (gW _ (.inl ?_)))))
    obtain ⟨aF, iC, h⟩ := aT h
    refine eI (Ji bK _ iC) _ ?_
    refine aZ (fun qd l1 nJ kZ => ?_)
    refine ws _ ?_
    refine cd (fun tB zr CU iR oY => ?_)
    have wh : ∀ (n : Nat) (eV : List (List aA)) (eM : Int), pZ I n eV eM = some r → eg aq Ig tB (R [(6, .ai 1 (eV.map bC)), (25, .slice (I.map hR)), (26, .int .i64 (I.length : Int)), (27, .int .i64 eM)]) := by
     intro nN
     induction nN with
     | zero => intro eV eM h; cases (show none = some r from h)
     | succ nN wi =>
      intro eV eM h
      replace h : ys (pZ I nN) I eV eM = some r := h
      refine ew (fun rO lF o3 m4 => ?_)
      refine ws _ ?_
      refine aZ (fun v_ qh zu rR => ?_)
      rcases bk h with ⟨hv, h⟩ | ⟨hv, h⟩
      ·refine bp (congrArg j.bool hv) ?_
       simp only [hv, aO.down]
       refine bF (qh _ (.inl ?_))
       refine aZ (fun zs o4 zt v9 => ?_)
       refine cd (fun Jj wj Jk l3 Jl => ?_)
       obtain ⟨aW, iT, h⟩ := aT h
       refine fG iT _ ?_
       obtain ⟨agD, mx, h⟩ := aT h
       (try simp only [List.length_append, List.length_cons, List.length_nil, List.length_map, List.length_replicate, Nat.zero_add, Nat.add_zero, Nat.reduceAdd] at mx)
       refine hs (b0 [(6, .ai 1 ((eV ++ aW).map bC)), (25, .slice (I.map hR)), (26, .int .i64 (I.length : Int)), (27, .int .i64 eM)] (fun P al => ?_) ?_)
       ·simp only [aX.down, simprocAttr, eD, e8, fC, eU, aR, bC, hR, @dc aq 88 88 87 rfl rfl, dd, de, cm, all_cons, all_nil, mx, @db _ bC 1 (fun _ => rfl)]
        (try simp only [bs.down, simprocAttr, aR, bC, hR, @dc aq 88 88 87 rfl rfl, dd, de, cm, all_cons, all_nil, mx, @db _ bC 1 (fun _ => rfl)] at al ⊢); exact al
       refine wj _ (o4 _ (.inl ?_))
       refine wr [(6, .ai 1 ((eV ++ aW).map bC)), (25, .slice (I.map hR)), (26, .int .i64 (I.length : Int)), (27, .int .i64 (IntKind.i64.wrap (eM + 1)))] ?_
       exact lF _ (.inr ⟨_, cb rfl, wi (eV ++ aW) (IntKind.i64.wrap (eM + 1)) h⟩)
      ·refine bB (congrArg j.bool hv) ?_
       simp only [hv, aO.down]
       refine eu (rR 2 _ (m4 2 _ (iR _ (l1 _ (.inl ?_)))))
       refine ws _ ?_
       exact a6 (aJ _ (.inl (a7 [.ai 1 (eV.map bC)] rfl (by cases a4 h; rfl) (by decide) a_)))
    obtain ⟨n, h⟩ := et h
    exact ev (.inr ⟨_, cb rfl, wh n [] 0 h⟩)
 obtain ⟨n, h⟩ := et h
 exact ev (.inr ⟨_, cb rfl, gX n 0 0 h⟩)
theorem C0 (I : aY) (r : (List (List aA))) (h : tq I = some r) : a0 aq 146 [bm I] (.ai 1 (r.map bC)) [] := by
 refine a0.cF (fx := [0]) cI [.tmp 2] [(0, bm I)] Try.func146 rfl rfl Xd (Nat.le_of_ble_eq_true rfl) rfl rfl (fun cv aJ cD => ?_)
 refine ws _ ?_
 obtain ⟨aj, bf, h⟩ := aT h
 refine cQ (b0 [(2, .ai 1 (aj.map bC))] (fun P al => ?_) ?_)
 ·simp only [aX.down, simprocAttr, eD, fX, hf, e8, fC, h0, eU, ra, aD, bm, aR, bC, hR, (show ∀ s, cE aq s 88 1 [(0, .slice (I.Guard.map aR))] = some (.ai 1 [.slice (I.Guard.map aR)], s) from fun s => by kernel_rfl), B0, BZ, oO, j.shares, dy, @bx _ aR aR (fun _ => k1 _), @bx _ bC bC (fun _ => jk _), (show ∀ s, cE aq s 175 3 [(0, .slice [.slice (I.Guard.map aR)]), (1, .slice (I.bH.map bC)), (2, .slice (I.Next.map bC))] = some (.ai 1 [.slice [.slice (I.Guard.map aR)], .slice (I.bH.map bC), .slice (I.Next.map bC)], s) from fun s => by kernel_rfl), @bx _ hR hR (fun _ => CI _)]
  refine ey (agC [[I.Guard], I.bH, I.Next] _ bf) rfl rfl rfl rfl (.inl (by rfl)) ?_
  simp only [aX.down, simprocAttr, eD, fX, hf, e8, fC, h0, eU, ra, aD, bm, aR, bC, hR, (show ∀ s, cE aq s 88 1 [(0, .slice (I.Guard.map aR))] = some (.ai 1 [.slice (I.Guard.map aR)], s) from fun s => by kernel_rfl), B0, BZ, oO, j.shares, dy, @bx _ aR aR (fun _ => k1 _), @bx _ bC bC (fun _ => jk _), (show ∀ s, cE aq s 175 3 [(0, .slice [.slice (I.Guard.map aR)]), (1, .slice (I.bH.map bC)), (2, .slice (I.Next.map bC))] = some (.ai 1 [.slice [.slice (I.Guard.map aR)], .slice (I.bH.map bC), .slice (I.Next.map bC)], s) from fun s => by kernel_rfl), @bx _ hR hR (fun _ => CI _)]
  (try simp only [bs.down, simprocAttr, aD, bm, aR, bC, hR, (show ∀ s, cE aq s 88 1 [(0, .slice (I.Guard.map aR))] = some (.ai 1 [.slice (I.Guard.map aR)], s) from fun s => by kernel_rfl), B0, BZ, oO, j.shares, dy, @bx _ aR aR (fun _ => k1 _), @bx _ bC bC (fun _ => jk _), (show ∀ s, cE aq s 175 3 [(0, .slice [.slice (I.Guard.map aR)]), (1, .slice (I.bH.map bC)), (2, .slice (I.Next.map bC))] = some (.ai 1 [.slice [.slice (I.Guard.map aR)], .slice (I.bH.map bC), .slice (I.Next.map bC)], s) from fun s => by kernel_rfl), @bx _ hR hR (fun _ => CI _)] at al ⊢); exact al
 exact a6 (aJ _ (.inl (a7 [.ai 1 (aj.map bC)] rfl (by cases a4 h; rfl) (by decide) a_)))
theorem agE (I : aA) (aa : Int) (r : Bool) (h : yv I aa = some r) : a0 aq 175 [aR I, .int .i64 aa] (.bool r) [] := by
 refine a0.cF (fx := [0, 1]) cI [.tmp 4] [(0, aR I), (1, .int .i64 aa)] Try.func175 rfl rfl Xt (Nat.le_of_ble_eq_true rfl) rfl rfl (fun cv aJ cD => ?_)
 refine ws _ ?_
 refine aZ (fun fB cT bP aF => ?_)
 refine ws _ ?_
 refine cd (fun fH fu cZ b3 bn => ?_)
 refine ws _ ?_
 rcases bk h with ⟨dB, h⟩ | ⟨dB, h⟩
 ·refine bp (congrArg j.bool dB) ?_
  simp only [dB, aO.down]
  obtain ⟨aj, hK, h⟩ := aT h
  refine eI (Jd I.Value _ hK) _ ?_
  exact a6 (cZ _ (bP _ (aJ _ (.inl (a7 [.bool aj] rfl (by cases a4 h; rfl) (by decide) a_)))))
 ·refine bB (congrArg j.bool dB) ?_
  simp only [dB, aO.down]
  refine ws _ ?_
  rcases bk h with ⟨c7, h⟩ | ⟨c7, h⟩
  ·refine bp (congrArg j.bool c7) ?_
   simp only [c7, aO.down]
   obtain ⟨aF, eG, h⟩ := aT h
   refine eI (my I.Value 0 (IntKind.i64.wrap (aa - 1)) _ eG) _ ?_
   exact a6 (cZ _ (bP _ (aJ _ (.inl (a7 [.bool aF] rfl (by cases a4 h; rfl) (by decide) a_)))))
  ·refine bB (congrArg j.bool c7) ?_
   simp only [c7, aO.down]
   refine ws _ ?_
   rcases bk h with ⟨dY, h⟩ | ⟨dY, h⟩
   ·refine bp (congrArg j.bool dY) ?_
    simp only [dY, aO.down]
    obtain ⟨aW, dw, h⟩ := aT h
    refine eI (my I.Value 0 8 _ dw) _ ?_
    exact a6 (cZ _ (bP _ (aJ _ (.inl (a7 [.bool aW] rfl (by cases a4 h; rfl) (by decide) a_)))))
   ·refine bB (congrArg j.bool dY) ?_
    simp only [dY, aO.down]
    refine ws _ ?_
    rcases bk h with ⟨hH, h⟩ | ⟨hH, h⟩
    ·refine bp (congrArg j.bool hH) ?_
     simp only [hH, aO.down]
     refine ws _ ?_
     exact a6 (cZ _ (bP _ (aJ _ (.inl (a7 [.bool (I.Value == 0)] rfl (by cases a4 h; rfl) (by decide) a_)))))
    ·refine bB (congrArg j.bool hH) ?_
     simp only [hH, aO.down]
     refine bF (fu _ (cT _ (.inl ?_)))
     refine ws _ ?_
     exact a6 (aJ _ (.inl (a7 [.bool false] rfl (by cases a4 h; rfl) (by decide) a_)))
theorem agF (I : aA) (r : Int) (h : Ct I = some r) : a0 aq 176 [aR I] (.int .i64 r) [] := by
 refine a0.cF (fx := [0]) cI [.tmp 2] [(0, aR I)] Try.func176 rfl rfl XD (Nat.le_of_ble_eq_true rfl) rfl rfl (fun cv aJ cD => ?_)
 refine ws _ ?_
 refine aZ (fun fB cT bP aF => ?_)
 refine ws _ ?_
 refine cd (fun fH fu cZ b3 bn => ?_)
 refine ws _ ?_
 rcases bk h with ⟨dB, h⟩ | ⟨dB, h⟩
 ·refine bp (congrArg j.bool dB) ?_
  simp only [dB, aO.down]
  refine ws _ ?_
  exact a6 (cZ _ (bP _ (aJ _ (.inl (a7 [.int .i64 2] rfl (by cases a4 h; rfl) (by decide) a_)))))
 ·refine bB (congrArg j.bool dB) ?_
  simp only [dB, aO.down]
  refine ws _ ?_
  rcases bk h with ⟨cM, h⟩ | ⟨cM, h⟩
  ·refine bp (congrArg j.bool cM) ?_
   simp only [cM, aO.down]
   refine ws _ ?_
   exact a6 (cZ _ (bP _ (aJ _ (.inl (a7 [.int .i64 1] rfl (by cases a4 h; rfl) (by decide) a_)))))
  ·refine bB (congrArg j.bool cM) ?_
   simp only [cM, aO.down]
   refine bF (fu _ (cT _ (.inl ?_)))
   refine ws _ ?_
   exact a6 (aJ _ (.inl (a7 [.int .i64 0] rfl (by cases a4 h; rfl) (by decide) a_)))
theorem agG (I : List aA) (aa : Int) (a9 : Int) (r : Bool) (h : yx I aa a9 = some r) : a0 aq 148 [.slice (I.map aR), .int .i64 aa, .int .i64 a9] (.bool r) [] := by
 refine a0.cF (fx := [0, 1, 2]) cI [.tmp 6] [(0, .slice (I.map aR)), (1, .int .i64 aa), (2, .int .i64 a9)] Try.func148 rfl rfl XT (Nat.le_of_ble_eq_true rfl) rfl rfl (fun cv aJ cD => ?_)
 refine ws _ ?_
 refine aZ (fun fB cT bP aF => ?_)
 obtain ⟨aj, cn, h⟩ := aT h
 rcases bk h with ⟨cc, h⟩ | ⟨cc, h⟩
 ·refine j1 (eT cc) (my aa 0 29 _ cn) _ ?_
  refine bp rfl ?_
  refine ws _ ?_
  exact a6 (bP _ (aJ _ (.inl (a7 [.bool false] rfl (by cases a4 h; rfl) (by decide) a_))))
 ·obtain ⟨aF, bV, h⟩ := aT h
  rcases bk h with ⟨bW, h⟩ | ⟨bW, h⟩
  ·refine cQ (b0 [(0, .slice (I.map aR)), (1, .int .i64 aa), (24, .bool true)] (fun P al => ?_) ?_)
   ·simp only [aX.down, simprocAttr, hS.down, (dz cc), (eT bW)]
    refine ey (my aa 0 29 _ cn) rfl rfl rfl rfl (.inl (by rfl)) ?_
    simp only [aX.down, simprocAttr, hS.down, (dz cc), (eT bW)]
    refine jc (my a9 1 60 _ bV) rfl rfl rfl rfl (.inl (by rfl)) ?_
    simp only [aX.down, simprocAttr, hS.down, (dz cc), (eT bW)]
    (try simp only [bs.down, simprocAttr, aR, (dz cc), (eT bW)] at al ⊢); exact al
   refine bp rfl ?_
   refine ws _ ?_
   exact a6 (bP _ (aJ _ (.inl (a7 [.bool false] rfl (by cases a4 h; rfl) (by decide) a_))))
  ·obtain ⟨aW, jH, h⟩ := aT h
   refine cQ (b0 [(0, .slice (I.map aR)), (1, .int .i64 aa), (24, .bool (!aW))] (fun P al => ?_) ?_)
   ·simp only [aX.down, simprocAttr, hS.down, (dz cc), (dz bW)]
    refine ey (my aa 0 29 _ cn) rfl rfl rfl rfl (.inl (by rfl)) ?_
    simp only [aX.down, simprocAttr, hS.down, (dz cc), (dz bW)]
    refine jc (my a9 1 60 _ bV) rfl rfl rfl rfl (.inl (by rfl)) ?_
    simp only [aX.down, simprocAttr, hS.down, (dz cc), (dz bW)]
    refine jc (my (I.length : Int) 1 a9 _ jH) rfl rfl rfl rfl (.inl (by rfl)) ?_
    simp only [aX.down, simprocAttr, hS.down, (dz cc), (dz bW)]
    (try simp only [bs.down, simprocAttr, aR, (dz cc), (dz bW)] at al ⊢); exact al
   rcases bk h with ⟨fI, h⟩ | ⟨fI, h⟩
   ·refine bp (congrArg j.bool fI) ?_
    simp only [(eT fI), aO.down]
    refine ws _ ?_
    exact a6 (bP _ (aJ _ (.inl (a7 [.bool false] rfl (by cases a4 h; rfl) (by decide) a_))))
   ·refine bB (congrArg j.bool fI) ?_
    simp only [(dz fI), aO.down]
    refine bF (cT _ (.inl ?_))
    refine ws _ ?_
    refine aZ (fun k3 hh gM jj => ?_)
    refine ws _ ?_
    refine cd (fun vY qf om iS oi => ?_)
    have o1 : ∀ (n : Nat) (hD : Int) (mo : Int), rn I aa n hD mo = some r → eg aq Ih vY (R [(1, .int .i64 aa), (7, .int .i64 hD), (25, .slice (I.map aR)), (26, .int .i64 (I.length : Int)), (27, .int .i64 mo)]) := by
     intro j2
     induction j2 with
     | zero => intro hD mo h; cases (show none = some r from h)
     | succ j2 o2 =>
      intro hD mo h
      replace h : yw (rn I aa j2) I aa hD mo = some r := h
      refine ew (fun agH C1 zw gB => ?_)
      refine ws _ ?_
      refine aZ (fun CP qg vZ oX => ?_)
      rcases bk h with ⟨gP, h⟩ | ⟨gP, h⟩
      ·refine bp (congrArg j.bool gP) ?_
       simp only [gP, aO.down]
       refine bF (qg _ (.inl ?_))
       refine aZ (fun qd l1 nJ kZ => ?_)
       refine cd (fun CS zp zq jP p_ => ?_)
       obtain ⟨bn, v3, h⟩ := aT h
       refine fG v3 _ ?_
       refine aZ (fun agI C2 zx agJ => ?_)
       rcases bk h with ⟨hv, h⟩ | ⟨hv, h⟩
       ·refine fG hv _ ?_
        refine bp rfl ?_
        refine ws _ ?_
        exact a6 (zx _ (zq _ (nJ _ (zw _ (om _ (gM _ (aJ _ (.inl (a7 [.bool false] rfl (by cases a4 h; rfl) (by decide) a_)))))))))
       ·obtain ⟨bu, wk, h⟩ := aT h
        refine cQ (b0 [(1, .int .i64 aa), (7, .int .i64 hD), (9, .aG (aR bn)), (25, .slice (I.map aR)), (26, .int .i64 (I.length : Int)), (27, .int .i64 mo), (38, .bool (!bu))] (fun P al => ?_) ?_)
        ·simp only [aX.down, simprocAttr, eD, eU, aR, hv]
         refine jc (agE bn aa _ wk) rfl rfl rfl rfl (.inl (by rfl)) ?_
         simp only [aX.down, simprocAttr, eD, eU, aR, hv]
         (try simp only [bs.down, simprocAttr, aR, hv] at al ⊢); exact al
        rcases bk h with ⟨nM, h⟩ | ⟨nM, h⟩
        ·refine bp (congrArg j.bool nM) ?_
         simp only [(eT nM), aO.down]
         refine ws _ ?_
         exact a6 (zx _ (zq _ (nJ _ (zw _ (om _ (gM _ (aJ _ (.inl (a7 [.bool false] rfl (by cases a4 h; rfl) (by decide) a_)))))))))
        ·refine bB (congrArg j.bool nM) ?_
         simp only [(dz nM), aO.down]
         refine bF (C2 _ (.inl ?_))
         obtain ⟨bq, mx, h⟩ := aT h
         refine CJ (agF bn _ mx) _ ?_
         refine zp _ (l1 _ (.inl ?_))
         refine wr _ ?_
         exact C1 _ (.inr ⟨_, cb rfl, o2 (IntKind.i64.wrap (hD + (IntKind.i64.wrap (bq - 1)))) (IntKind.i64.wrap (mo + 1)) h⟩)
      ·refine bB (congrArg j.bool gP) ?_
       simp only [gP, aO.down]
       refine eu (oX 0 _ (gB 0 _ (iS _ (hh _ (.inl ?_)))))
       refine ws _ ?_
       exact a6 (aJ _ (.inl (a7 [.bool (hD == 0)] rfl (by cases a4 h; rfl) (by decide) a_)))
    obtain ⟨n, h⟩ := et h
    exact ev (.inr ⟨_, cb rfl, o1 n 1 0 h⟩)
theorem agK (I : List aA) (aa : Int) (a9 : aY) (r : Bool) (h : yy I aa a9 = some r) : a0 aq 147 [.slice (I.map aR), .ref (.int .i64 aa), .ref (bm a9)] (.bool r) [] := by
 refine a0.cF (fx := [0, 1, 2]) cI [.tmp 4] [(0, .slice (I.map aR)), (1, .ref (.int .i64 aa)), (2, .ref (bm a9))] Try.func147 rfl rfl XW (Nat.le_of_ble_eq_true rfl) rfl rfl (fun cv aJ cD => ?_)
 refine ws _ ?_
 obtain ⟨aj, bf, h⟩ := aT h
 refine eI (agG I (IntKind.i64.wrap (aa + (a9.bo.length : Int))) 60 _ bf) _ ?_
 exact a6 (aJ _ (.inl (a7 [.bool (!aj)] rfl (by cases a4 h; rfl) (by decide) a_)))
theorem agL (I : List (List aA)) (b5 : Int) (b6 : aY) (r : Int) (h : Cv I b5 b6 = some r) : a0 aq 174 [.slice (I.map bC), .fn 147 [.ref (.int .i64 b5), .ref (bm b6)]] (.int .i64 r) [] := by
 refine a0.cF (fx := [0, 1]) cI [.tmp 4] [(0, .slice (I.map bC)), (1, .fn 147 [.ref (.int .i64 b5), .ref (bm b6)])] Try.func174 rfl rfl X7 (Nat.le_of_ble_eq_true rfl) rfl rfl (fun cv aJ cD => ?_)
 refine ws _ ?_
 refine aZ (fun fB cT bP aF => ?_)
 refine ws _ ?_
 refine cd (fun fH fu cZ b3 bn => ?_)
 have h3 : ∀ (n : Nat) (fi : Int), vn I b5 b6 n fi = some r → eg aq Ii fH (R [(0, .slice (I.map bC)), (1, .fn 147 [.ref (.int .i64 b5), .ref (bm b6)]), (7, .int .i64 (I.length : Int)), (8, .int .i64 fi)]) := by
  intro dK
  induction dK with
  | zero => intro fi h; cases (show none = some r from h)
  | succ dK hV =>
   intro fi h
   replace h : Cu (vn I b5 b6 dK) I b5 b6 fi = some r := h
   refine ew (fun gD fk el bu => ?_)
   refine ws _ ?_
   refine aZ (fun jA fZ hc cj => ?_)
   rcases bk h with ⟨bW, h⟩ | ⟨bW, h⟩
   ·refine bp (congrArg j.bool bW) ?_
    simp only [bW, aO.down]
    refine bF (fZ _ (.inl ?_))
    refine aZ (fun ht eN eJ cL => ?_)
    refine cd (fun f_ c5 dR c7 dE => ?_)
    refine ws _ ?_
    obtain ⟨aj, eP, h⟩ := aT h
    obtain ⟨aF, fc, h⟩ := aT h
    refine j1 eP (agK aj b5 b6 _ fc) _ ?_
    rcases bk h with ⟨fS, h⟩ | ⟨fS, h⟩
    ·refine bp (congrArg j.bool fS) ?_
     simp only [fS, aO.down]
     refine ws _ ?_
     exact a6 (dR _ (eJ _ (el _ (cZ _ (bP _ (aJ _ (.inl (a7 [.int .i64 fi] rfl (by cases a4 h; rfl) (by decide) a_))))))))
    ·refine bB (congrArg j.bool fS) ?_
     simp only [fS, aO.down]
     refine bF (c5 _ (eN _ (.inl ?_)))
     refine wr _ ?_
     exact fk _ (.inr ⟨_, cb rfl, hV (IntKind.i64.wrap (fi + 1)) h⟩)
   ·refine bB (congrArg j.bool bW) ?_
    simp only [bW, aO.down]
    refine eu (cj 0 _ (bu 0 _ (b3 _ (cT _ (.inl ?_)))))
    refine ws _ ?_
    exact a6 (aJ _ (.inl (a7 [.int .i64 (-1)] rfl (by cases a4 h; rfl) (by decide) a_)))
 obtain ⟨n, h⟩ := et h
 exact ev (.inr ⟨_, cb rfl, h3 n 0 h⟩)
theorem C3 (I : List (List aA)) (b5 : Int) (b6 : aY) (r : Bool) (h : rp I b5 b6 = some r) : a0 aq 145 [.slice (I.map bC), .fn 147 [.ref (.int .i64 b5), .ref (bm b6)]] (.bool r) [] := by
 refine a0.cF (fx := [0, 1]) cI [.tmp 4] [(0, .slice (I.map bC)), (1, .fn 147 [.ref (.int .i64 b5), .ref (bm b6)])] Try.func145 rfl rfl X_ (Nat.le_of_ble_eq_true rfl) rfl rfl (fun cv aJ cD => ?_)
 refine ws _ ?_
 obtain ⟨aj, bf, h⟩ := aT h
 refine eI (agL I b5 b6 _ bf) _ ?_
 exact a6 (aJ _ (.inl (a7 [.bool (decide (0 ≤ aj))] rfl (by cases a4 h; rfl) (by decide) a_)))
theorem agM (I : aY) (aa : Int) (r : Bool) (h : yz I aa = some r) : a0 aq 106 [bm I, .int .i64 aa] (.bool r) [] := by
 refine a0.cF (fx := [0, 1]) cI [.tmp 4] [(0, bm I), (1, .int .i64 aa)] Try.func106 rfl rfl Yj (Nat.le_of_ble_eq_true rfl) rfl rfl (fun cv aJ cD => ?_)
 refine ws _ ?_
 refine aZ (fun fB cT bP aF => ?_)
 obtain ⟨aj, cn, h⟩ := aT h
 refine cQ (b0 [(2, .aG (bm I)), (3, .aG (.int .i64 aa)), (15, .bool ((!aj) || ((I.Next.length : Int) != aa)))] (fun P al => ?_) ?_)
 ·rcases Bool.eq_false_or_eq_true (aj) with rT | rT
  ·simp only [aX.down, simprocAttr, fR.down, rT]
   refine ey (Jf I _ cn) rfl rfl rfl rfl (.inl (by rfl)) ?_
   simp only [aX.down, simprocAttr, fR.down, rT]
   (try simp only [bs.down, simprocAttr, kh.down, rT] at al ⊢); exact al
  ·simp only [aX.down, simprocAttr, fR.down, rT]
   refine ey (Jf I _ cn) rfl rfl rfl rfl (.inl (by rfl)) ?_
   simp only [aX.down, simprocAttr, fR.down, rT]
   (try simp only [bs.down, simprocAttr, kh.down, rT] at al ⊢); exact al
 rcases bk h with ⟨dB, h⟩ | ⟨dB, h⟩
 ·refine bp (congrArg j.bool dB) ?_
  simp only [dB, aO.down]
  refine ws _ ?_
  exact a6 (bP _ (aJ _ (.inl (a7 [.bool false] rfl (by cases a4 h; rfl) (by decide) a_))))
 ·refine bB (congrArg j.bool dB) ?_
  simp only [dB, aO.down]
  refine bF (cT _ (.inl ?_))
  refine aZ (fun hG fM gS b8 => ?_)
  refine ws _ ?_
  rcases bk h with ⟨fI, h⟩ | ⟨fI, h⟩
  ·rcases bk h with ⟨c2, h⟩ | ⟨c2, h⟩
   ·refine fG (And.intro fI c2) _ ?_
    refine bp rfl ?_
    refine ws _ ?_
    exact a6 (gS _ (aJ _ (.inl (a7 [.bool false] rfl (by cases a4 h; rfl) (by decide) a_))))
   ·rcases bk h with ⟨dY, h⟩ | ⟨dY, h⟩
    ·refine fG (And.intro fI (And.intro c2 dY)) _ ?_
     refine bp rfl ?_
     refine ws _ ?_
     exact a6 (gS _ (aJ _ (.inl (a7 [.bool false] rfl (by cases a4 h; rfl) (by decide) a_))))
    ·obtain ⟨aF, dw, h⟩ := aT h
     refine cQ (b0 [(2, .aG (bm I)), (3, .aG (.int .i64 aa)), (40, .bool (!aF))] (fun P al => ?_) ?_)
     ·simp only [aX.down, simprocAttr, fR.down, fI, c2, dY]
      refine jc (Jh I.Name _ dw) rfl rfl rfl rfl (.inl (by rfl)) ?_
      simp only [aX.down, simprocAttr, fR.down, fI, c2, dY]
      (try simp only [bs.down, simprocAttr, kh.down, fI, c2, dY] at al ⊢); exact al
     rcases bk h with ⟨dS, h⟩ | ⟨dS, h⟩
     ·refine bp (congrArg j.bool dS) ?_
      simp only [(eT dS), aO.down]
      refine ws _ ?_
      exact a6 (gS _ (aJ _ (.inl (a7 [.bool false] rfl (by cases a4 h; rfl) (by decide) a_))))
     ·refine bB (congrArg j.bool dS) ?_
      simp only [(dz dS), aO.down]
      refine bF (fM _ (.inl ?_))
      obtain ⟨aW, iC, h⟩ := aT h
      obtain ⟨bn, h5, h⟩ := aT h
      refine cQ (b0 [(4, .bool (!bn))] (fun P al => ?_) ?_)
      ·simp only [aX.down, simprocAttr, fR.down]
       refine ey (C0 I _ iC) rfl rfl rfl rfl (.inl (by rfl)) ?_
       simp only [aX.down, simprocAttr, fR.down]
       refine ey (C3 aW aa I _ h5) rfl rfl (by simp only [aX.down, simprocAttr, fR.down, eZ, e0, e1, dy, @bx _ bC bC (fun _ => jk _), @bx _ aD aD (fun _ => dX _), @bx _ aR aR (fun _ => k1 _), @bx _ bC bC (fun _ => jk _), @bx _ bC bC (fun _ => jk _)] <;> rfl) rfl (.inr (by rfl)) ?_
       simp only [aX.down, simprocAttr, fR.down]
       (try simp only [bs.down, simprocAttr, kh.down] at al ⊢); exact al
      exact a6 (aJ _ (.inl (a7 [.bool (!bn)] rfl (by cases a4 h; rfl) (by decide) a_)))
  ·rcases bk h with ⟨jP, h⟩ | ⟨jP, h⟩
   ·obtain ⟨bu, m5, h⟩ := aT h
    refine cQ (b0 [(2, .aG (bm I)), (3, .aG (.int .i64 aa)), (40, .bool (!bu))] (fun P al => ?_) ?_)
    ·simp only [aX.down, simprocAttr, fR.down, fI, jP]
     refine jc (Jh I.Name _ m5) rfl rfl rfl rfl (.inl (by rfl)) ?_
     simp only [aX.down, simprocAttr, fR.down, fI, jP]
     (try simp only [bs.down, simprocAttr, kh.down, fI, jP] at al ⊢); exact al
    rcases bk h with ⟨kj, h⟩ | ⟨kj, h⟩
    ·refine bp (congrArg j.bool kj) ?_
     simp only [(eT kj), aO.down]
     refine ws _ ?_
     exact a6 (gS _ (aJ _ (.inl (a7 [.bool false] rfl (by cases a4 h; rfl) (by decide) a_))))
    ·refine bB (congrArg j.bool kj) ?_
     simp only [(dz kj), aO.down]
     refine bF (fM _ (.inl ?_))
     obtain ⟨bq, zy, h⟩ := aT h
     obtain ⟨cj, agN, h⟩ := aT h
     refine cQ (b0 [(4, .bool (!cj))] (fun P al => ?_) ?_)
     ·simp only [aX.down, simprocAttr, fR.down]
      refine ey (C0 I _ zy) rfl rfl rfl rfl (.inl (by rfl)) ?_
      simp only [aX.down, simprocAttr, fR.down]
      refine ey (C3 bq aa I _ agN) rfl rfl (by simp only [aX.down, simprocAttr, fR.down, eZ, e0, e1, dy, @bx _ bC bC (fun _ => jk _), @bx _ aD aD (fun _ => dX _), @bx _ aR aR (fun _ => k1 _), @bx _ bC bC (fun _ => jk _), @bx _ bC bC (fun _ => jk _)] <;> rfl) rfl (.inr (by rfl)) ?_
      simp only [aX.down, simprocAttr, fR.down]
      (try simp only [bs.down, simprocAttr, kh.down] at al ⊢); exact al
     exact a6 (aJ _ (.inl (a7 [.bool (!cj)] rfl (by cases a4 h; rfl) (by decide) a_)))
   ·refine fG (And.intro fI jP) _ ?_
    refine bB rfl ?_
    refine bF (fM _ (.inl ?_))
    obtain ⟨b8, rQ, h⟩ := aT h
    obtain ⟨cL, iT, h⟩ := aT h
    refine cQ (b0 [(4, .bool (!cL))] (fun P al => ?_) ?_)
    ·simp only [aX.down, simprocAttr, fR.down]
     refine ey (C0 I _ rQ) rfl rfl rfl rfl (.inl (by rfl)) ?_
     simp only [aX.down, simprocAttr, fR.down]
     refine ey (C3 b8 aa I _ iT) rfl rfl (by simp only [aX.down, simprocAttr, fR.down, eZ, e0, e1, dy, @bx _ bC bC (fun _ => jk _), @bx _ aD aD (fun _ => dX _), @bx _ aR aR (fun _ => k1 _), @bx _ bC bC (fun _ => jk _), @bx _ bC bC (fun _ => jk _)] <;> rfl) rfl (.inr (by rfl)) ?_
     simp only [aX.down, simprocAttr, fR.down]
     (try simp only [bs.down, simprocAttr, kh.down] at al ⊢); exact al
    exact a6 (aJ _ (.inl (a7 [.bool (!cL)] rfl (by cases a4 h; rfl) (by decide) a_)))
theorem agO (I : aY) (aa : bc) (r : Bool) (h : yA I aa = some r) : a0 aq 105 [bm I, .ref (bj aa)] (.bool r) [] := by
 refine a0.cF (fx := [0, 1]) cI [.tmp 3] [(0, bm I), (1, .ref (bj aa))] Try.func105 rfl rfl Ym (Nat.le_of_ble_eq_true rfl) rfl rfl (fun cv aJ cD => ?_)
 refine ws _ ?_
 obtain ⟨aj, bf, h⟩ := aT h
 refine eI (agM I aa.aV _ bf) _ ?_
 exact a6 (aJ _ (.inl (a7 [.bool (!aj)] rfl (by cases a4 h; rfl) (by decide) a_)))
theorem agP (I : List aY) (aa : bc) (r : Int) (h : Cx I aa = some r) : a0 aq 142 [.slice (I.map bm), .fn 105 [.ref (bj aa)]] (.int .i64 r) [] := by
 refine a0.cF (fx := [0, 1]) cI [.tmp 4] [(0, .slice (I.map bm)), (1, .fn 105 [.ref (bj aa)])] Try.func142 rfl rfl Yx (Nat.le_of_ble_eq_true rfl) rfl rfl (fun cv aJ cD => ?_)
 refine ws _ ?_
 refine aZ (fun fB cT bP aF => ?_)
 refine ws _ ?_
 refine cd (fun fH fu cZ b3 bn => ?_)
 have h3 : ∀ (n : Nat) (fi : Int), vo I aa n fi = some r → eg aq Ij fH (R [(0, .slice (I.map bm)), (1, .fn 105 [.ref (bj aa)]), (7, .int .i64 (I.length : Int)), (8, .int .i64 fi)]) := by
  intro dK
  induction dK with
  | zero => intro fi h; cases (show none = some r from h)
  | succ dK hV =>
   intro fi h
   replace h : Cw (vo I aa dK) I aa fi = some r := h
   refine ew (fun gD fk el bu => ?_)
   refine ws _ ?_
   refine aZ (fun jA fZ hc cj => ?_)
   rcases bk h with ⟨bW, h⟩ | ⟨bW, h⟩
   ·refine bp (congrArg j.bool bW) ?_
    simp only [bW, aO.down]
    refine bF (fZ _ (.inl ?_))
    refine aZ (fun ht eN eJ cL => ?_)
    refine cd (fun f_ c5 dR c7 dE => ?_)
    refine ws _ ?_
    obtain ⟨aj, eP, h⟩ := aT h
    obtain ⟨aF, fc, h⟩ := aT h
    refine j1 eP (agO aj aa _ fc) _ ?_
    rcases bk h with ⟨fS, h⟩ | ⟨fS, h⟩
    ·refine bp (congrArg j.bool fS) ?_
     simp only [fS, aO.down]
     refine ws _ ?_
     exact a6 (dR _ (eJ _ (el _ (cZ _ (bP _ (aJ _ (.inl (a7 [.int .i64 fi] rfl (by cases a4 h; rfl) (by decide) a_))))))))
    ·refine bB (congrArg j.bool fS) ?_
     simp only [fS, aO.down]
     refine bF (c5 _ (eN _ (.inl ?_)))
     refine wr _ ?_
     exact fk _ (.inr ⟨_, cb rfl, hV (IntKind.i64.wrap (fi + 1)) h⟩)
   ·refine bB (congrArg j.bool bW) ?_
    simp only [bW, aO.down]
    refine eu (cj 0 _ (bu 0 _ (b3 _ (cT _ (.inl ?_)))))
    refine ws _ ?_
    exact a6 (aJ _ (.inl (a7 [.int .i64 (-1)] rfl (by cases a4 h; rfl) (by decide) a_)))
 obtain ⟨n, h⟩ := et h
 exact ev (.inr ⟨_, cb rfl, h3 n 0 h⟩)
theorem agQ (I : List aY) (aa : bc) (r : Bool) (h : Cy I aa = some r) : a0 aq 104 [.slice (I.map bm), .fn 105 [.ref (bj aa)]] (.bool r) [] := by
 refine a0.cF (fx := [0, 1]) cI [.tmp 4] [(0, .slice (I.map bm)), (1, .fn 105 [.ref (bj aa)])] Try.func104 rfl rfl YA (Nat.le_of_ble_eq_true rfl) rfl rfl (fun cv aJ cD => ?_)
 refine ws _ ?_
 obtain ⟨aj, bf, h⟩ := aT h
 refine eI (agP I aa _ bf) _ ?_
 exact a6 (aJ _ (.inl (a7 [.bool (decide (0 ≤ aj))] rfl (by cases a4 h; rfl) (by decide) a_)))
theorem zz (I : bc) (r : Bool) (h : tr I = some r) : a0 aq 67 [bj I] (.bool r) [] := by
 refine a0.cF (fx := [0]) cI [.tmp 2] [(0, bj I)] Try.func67 rfl rfl YG (Nat.le_of_ble_eq_true rfl) rfl rfl (fun cv aJ cD => ?_)
 refine ws _ ?_
 refine aZ (fun fB cT bP aF => ?_)
 obtain ⟨aj, cn, h⟩ := aT h
 rcases bk h with ⟨cc, h⟩ | ⟨cc, h⟩
 ·refine j1 (eT cc) (my I.aV 0 21 _ cn) _ ?_
  refine bp rfl ?_
  refine ws _ ?_
  exact a6 (bP _ (aJ _ (.inl (a7 [.bool false] rfl (by cases a4 h; rfl) (by decide) a_))))
 ·obtain ⟨aF, bV, h⟩ := aT h
  refine cQ (b0 [(1, .aG (bj I)), (19, .bool ((!aF) || (decide (60 < (I.bG.length : Int)))))] (fun P al => ?_) ?_)
  ·rcases Bool.eq_false_or_eq_true (aF) with jz | jz
   ·simp only [aX.down, simprocAttr, hg.down, (dz cc), jz]
    refine ey (my I.aV 0 21 _ cn) rfl rfl rfl rfl (.inl (by rfl)) ?_
    simp only [aX.down, simprocAttr, hg.down, (dz cc), jz]
    refine jc (Je I I.Start _ bV) rfl rfl rfl rfl (.inl (by rfl)) ?_
    simp only [aX.down, simprocAttr, hg.down, (dz cc), jz]
    (try simp only [bs.down, simprocAttr, i5.down, (dz cc), jz] at al ⊢); exact al
   ·simp only [aX.down, simprocAttr, hg.down, (dz cc), jz]
    refine ey (my I.aV 0 21 _ cn) rfl rfl rfl rfl (.inl (by rfl)) ?_
    simp only [aX.down, simprocAttr, hg.down, (dz cc), jz]
    refine jc (Je I I.Start _ bV) rfl rfl rfl rfl (.inl (by rfl)) ?_
    simp only [aX.down, simprocAttr, hg.down, (dz cc), jz]
    (try simp only [bs.down, simprocAttr, i5.down, (dz cc), jz] at al ⊢); exact al
  rcases bk h with ⟨cM, h⟩ | ⟨cM, h⟩
  ·refine bp (congrArg j.bool cM) ?_
   simp only [cM, aO.down]
   refine ws _ ?_
   exact a6 (bP _ (aJ _ (.inl (a7 [.bool false] rfl (by cases a4 h; rfl) (by decide) a_))))
  ·refine bB (congrArg j.bool cM) ?_
   simp only [cM, aO.down]
   refine bF (cT _ (.inl ?_))
   obtain ⟨aW, eG, h⟩ := aT h
   refine cQ (b0 [(2, .bool (!aW))] (fun P al => ?_) ?_)
   ·simp only [aX.down, simprocAttr, hg.down]
    refine ey (agQ I.bG I _ eG) rfl rfl (by simp only [aX.down, simprocAttr, hg.down, eZ, e0, e1, dy, @bx _ aD aD (fun _ => dX _), @bx _ bm bm (fun _ => nE _)] <;> rfl) rfl (.inr (by rfl)) ?_
    simp only [aX.down, simprocAttr, hg.down]
    (try simp only [bs.down, simprocAttr, i5.down] at al ⊢); exact al
   exact a6 (aJ _ (.inl (a7 [.bool (!aW)] rfl (by cases a4 h; rfl) (by decide) a_)))
theorem agR (aa : Int) (r : (List Int)) (h : yC aa = some r) : a0 aq 154 [.af, .int .i64 aa] (.ai 1 (r.map aD)) [] := by
 refine a0.cF (fx := []) cI [.tmp 4] [(0, .af), (1, .int .i64 aa)] Try.func154 rfl rfl YO (Nat.le_of_ble_eq_true rfl) rfl rfl (fun cv aJ cD => ?_)
 refine ws _ ?_
 have CZ : Cz aa = some r → c4 aq Il cv (R [(0, .af), (1, .int .i64 aa), (6, .bool false)]) := by
  intro h
  have we : yB = some r → c4 aq Ik cv (R [(0, .ai 1 [])]) := by
   intro h
   refine ws _ ?_
   exact a6 (aJ _ (.inl (a7 [.ai 1 []] rfl (by cases a4 h; rfl) (by decide) a_)))
  refine aZ (fun lE gW fw aW => ?_)
  refine cQ (b0 [(0, .af), (1, .int .i64 (IntKind.i64.wrap (aa - (IntKind.i64.wrap 0))))] (fun P al => ?_) ?_)
  ·simp only [aX.down, simprocAttr, eD, hf, pO, (fun s x h => @pN aq s 40 2 x rfl h)]
   (try simp only [bs.down, simprocAttr, pO, (fun s x h => @pN aq s 40 2 x rfl h)] at al ⊢); exact al
  refine ws _ ?_
  rcases bk h with ⟨jo, h⟩ | ⟨jo, h⟩
  ·refine bp (congrArg j.bool jo) ?_
   simp only [jo, aO.down]
   obtain ⟨agB, g7, h⟩ := aT h
   refine hs (b0 [(0, .ai 1 [])] (fun P al => ?_) ?_)
   ·simp only [aX.down, simprocAttr, eD, Hv, hf, aD, pO, (fun s x h => @pN aq s 40 2 x rfl h), xN, xM, (gk g7).1, (gk g7).2.1, (gk g7).2.2, xO, ic, xJ, List.map_replicate, -Int.reduceNatCast', (fun s y q => (mW aq s 40 y q).1), (fun s y q => (mW aq s 40 y q).2.1), (fun s y q => (mW aq s 40 y q).2.2), od, xP]
    (try simp only [bs.down, simprocAttr, aD, pO, (fun s x h => @pN aq s 40 2 x rfl h), xN, xM, (gk g7).1, (gk g7).2.1, (gk g7).2.2, xO, ic, xJ, List.map_replicate, -Int.reduceNatCast', (fun s y q => (mW aq s 40 y q).1), (fun s y q => (mW aq s 40 y q).2.1), (fun s y q => (mW aq s 40 y q).2.2), od, xP] at al ⊢); exact al
   exact gW _ (.inr ⟨_, cb rfl, we h⟩)
  ·refine bB (congrArg j.bool jo) ?_
   simp only [jo, aO.down]
   exact bF (gW _ (.inr ⟨_, jd [] rfl (i2 (t := 0) (d := .af) (bw := .ai 1 []) rfl rfl (.gq _) (by decide) (je)), we h⟩))
 refine aZ (fun fB cT bP aF => ?_)
 refine ws _ ?_
 rcases bk h with ⟨fI, h⟩ | ⟨fI, h⟩
 ·refine bp (congrArg j.bool fI) ?_
  simp only [fI, aO.down]
  cases h
 ·refine bB (congrArg j.bool fI) ?_
  simp only [fI, aO.down]
  exact bF (cT _ (.inr ⟨_, cb rfl, CZ h⟩))
theorem agS (I : List (List Int)) (r : (List Int)) (h : vp I = some r) : a0 aq 115 [.slice (I.map jy)] (.ai 1 (r.map aD)) [] := by
 refine a0.cF (fx := [0]) cI [.tmp 2] [(0, .slice (I.map jy))] Try.func115 rfl rfl Y7 (Nat.le_of_ble_eq_true rfl) rfl rfl (fun cv aJ cD => ?_)
 refine ws _ ?_
 refine ws _ ?_
 refine aZ (fun lE gW fw aW => ?_)
 refine ws _ ?_
 refine cd (fun gD fk el cc bu => ?_)
 have gX : ∀ (n : Nat) (bK : Int) (dL : Int), p2 I n bK dL = some r → eg aq Io gD (R [(0, .slice (I.map jy)), (3, .int .i64 bK), (9, .slice (I.map jy)), (10, .int .i64 (I.length : Int)), (11, .int .i64 dL)]) := by
  intro c6
  induction c6 with
  | zero => intro bK dL h; cases (show none = some r from h)
  | succ c6 gC =>
   intro bK dL h
   replace h : yE (p2 I c6) I bK dL = some r := h
   refine ew (fun fj dO eR bq => ?_)
   refine ws _ ?_
   refine aZ (fun hG fM gS b8 => ?_)
   rcases bk h with ⟨cM, h⟩ | ⟨cM, h⟩
   ·refine bp (congrArg j.bool cM) ?_
    simp only [cM, aO.down]
    refine bF (fM _ (.inl ?_))
    have wg : ∀ (jM : Int) (jN : Int), CA (p2 I c6) I jM jN = some r → c4 aq Im fj (R [(0, .slice (I.map jy)), (3, .int .i64 jM), (9, .slice (I.map jy)), (10, .int .i64 (I.length : Int)), (11, .int .i64 jN), (20, .bool false)]) := by
     intro jM jN h
     refine wr _ ?_
     exact dO _ (.inr ⟨_, cb rfl, gC jM (IntKind.i64.wrap (jN + 1)) h⟩)
    refine aZ (fun f_ c5 dR dE => ?_)
    refine cd (fun mu h2 kG c2 kF => ?_)
    obtain ⟨aj, fc, h⟩ := aT h
    refine fG fc _ ?_
    refine ws _ ?_
    refine ws _ ?_
    rcases bk h with ⟨dS, h⟩ | ⟨dS, h⟩
    ·refine bp (congrArg j.bool dS) ?_
     simp only [dS, aO.down]
     cases h
    ·refine bB (congrArg j.bool dS) ?_
     simp only [dS, aO.down]
     exact bF (h2 _ (c5 _ (.inr ⟨_, cb rfl, wg (IntKind.i64.wrap (bK + (aj.length : Int))) dL h⟩)))
   ·refine bB (congrArg j.bool cM) ?_
    simp only [cM, aO.down]
    refine eu (b8 0 _ (bq 0 _ (cc _ (gW _ (.inl ?_)))))
    obtain ⟨aF, iC, h⟩ := aT h
    refine eI (agR bK _ iC) _ ?_
    refine aZ (fun qd l1 nJ kZ => ?_)
    refine ws _ ?_
    refine cd (fun tB zr CU iR oY => ?_)
    have wh : ∀ (n : Nat) (eV : List Int) (eM : Int), p1 I n eV eM = some r → eg aq Ip tB (R [(6, .ai 1 (eV.map aD)), (25, .slice (I.map jy)), (26, .int .i64 (I.length : Int)), (27, .int .i64 eM)]) := by
     intro nN
     induction nN with
     | zero => intro eV eM h; cases (show none = some r from h)
     | succ nN wi =>
      intro eV eM h
      replace h : yD (p1 I nN) I eV eM = some r := h
      refine ew (fun rO lF o3 m4 => ?_)
      refine ws _ ?_
      refine aZ (fun v_ qh zu rR => ?_)
      rcases bk h with ⟨hv, h⟩ | ⟨hv, h⟩
      ·refine bp (congrArg j.bool hv) ?_
       simp only [hv, aO.down]
       refine bF (qh _ (.inl ?_))
       refine aZ (fun zs o4 zt v9 => ?_)
       refine cd (fun Jj wj Jk l3 Jl => ?_)
       obtain ⟨aW, iT, h⟩ := aT h
       refine fG iT _ ?_
       obtain ⟨agD, mx, h⟩ := aT h
       (try simp only [List.length_append, List.length_cons, List.length_nil, List.length_map, List.length_replicate, Nat.zero_add, Nat.add_zero, Nat.reduceAdd] at mx)
       refine hs (b0 [(6, .ai 1 ((eV ++ aW).map aD)), (25, .slice (I.map jy)), (26, .int .i64 (I.length : Int)), (27, .int .i64 eM)] (fun P al => ?_) ?_)
       ·simp only [aX.down, simprocAttr, eD, hf, aD, jy, @dc aq 40 40 2 rfl rfl, dd, de, cm, all_cons, all_nil, mx, @db _ aD 1 (fun _ => rfl)]
        (try simp only [bs.down, simprocAttr, aD, jy, @dc aq 40 40 2 rfl rfl, dd, de, cm, all_cons, all_nil, mx, @db _ aD 1 (fun _ => rfl)] at al ⊢); exact al
       refine wj _ (o4 _ (.inl ?_))
       refine wr [(6, .ai 1 ((eV ++ aW).map aD)), (25, .slice (I.map jy)), (26, .int .i64 (I.length : Int)), (27, .int .i64 (IntKind.i64.wrap (eM + 1)))] ?_
       exact lF _ (.inr ⟨_, cb rfl, wi (eV ++ aW) (IntKind.i64.wrap (eM + 1)) h⟩)
      ·refine bB (congrArg j.bool hv) ?_
       simp only [hv, aO.down]
       refine eu (rR 2 _ (m4 2 _ (iR _ (l1 _ (.inl ?_)))))
       refine ws _ ?_
       exact a6 (aJ _ (.inl (a7 [.ai 1 (eV.map aD)] rfl (by cases a4 h; rfl) (by decide) a_)))
    obtain ⟨n, h⟩ := et h
    exact ev (.inr ⟨_, cb rfl, wh n aF 0 h⟩)
 obtain ⟨n, h⟩ := et h
 exact ev (.inr ⟨_, cb rfl, gX n 0 0 h⟩)
theorem Jm (I : Int) (r : (List aA)) (h : vq I = some r) : a0 aq 116 [.int .i64 I] (.ai 2 (r.map aR)) [] := by
 refine a0.cF (fx := [0]) cI [.tmp 2] [(0, .int .i64 I)] Try.func116 rfl rfl Y_ (Nat.le_of_ble_eq_true rfl) rfl rfl (fun cv aJ cD => ?_)
 refine ws _ ?_
 refine fG (And.intro (show ∀ s, ed aq s 133 [(0, .int .i64 1), (1, .int .i64 I)] = some (.agg [.int .i64 1, .int .i64 I], s) from fun s => by kernel_rfl) (show ∀ s, cE aq s 87 1 [(0, .agg [.int .i64 1, .int .i64 I])] = some (.ai 2 [.agg [.int .i64 1, .int .i64 I]], s) from fun s => by kernel_rfl)) _ ?_
 exact a6 (aJ _ (.inl (a7 [.ai 2 ([(aA.mk 1 I)].map aR)] rfl (by cases a4 h; rfl) (by decide) a_)))
theorem zA (I : List Int) (r : (List Int)) (h : rq I = some r) : a0 aq 68 [.slice (I.map aD)] (.ai 1 (r.map aD)) [] := by
 refine a0.cF (fx := [0]) cI [.tmp 2] [(0, .slice (I.map aD))] Try.func68 rfl rfl Zf (Nat.le_of_ble_eq_true rfl) rfl rfl (fun cv aJ cD => ?_)
 refine ws _ ?_
 refine aZ (fun fB cT bP aF => ?_)
 rcases bk h with ⟨b3, h⟩ | ⟨b3, h⟩
 ·refine cQ (b0 [(0, .slice (I.map aD)), (4, .eo)] (fun P al => ?_) ?_)
  ·simp only [aX.down, simprocAttr, nG.down, kU, (xG b3), mV]
   (try simp only [bs.down, simprocAttr, aD, kU, (xG b3), mV] at al ⊢); exact al
  obtain ⟨bI, h⟩ := zX h
  refine BM rfl ?_ ?_
  ·replace h := bI
   refine ws _ ?_
   exact a6 (bP _ (aJ _ (.inr ⟨[(2, .ai 1 [])], jd [] rfl (i2 (t := 2) (d := .af) rfl rfl (.gq _) (by decide) (je)), a7 [.ai 1 []] rfl (by cases a4 h; rfl) (by decide) a_⟩)))
  ·refine bF (cT _ (.inl ?_))
   obtain ⟨u8, hK, h⟩ := aT h
   (try simp only [List.length_append, List.length_cons, List.length_nil, List.length_map, List.length_replicate, Nat.zero_add, Nat.add_zero, Nat.reduceAdd] at hK)
   refine cQ (b0 [(2, .ai 1 (I.map aD))] (fun P al => ?_) ?_)
   ·simp only [aX.down, simprocAttr, nG.down, (show ∀ s, cE aq s 40 0 [] = some (.ai 1 [], s) from fun s => by kernel_rfl), @dc aq 40 40 2 rfl rfl, dd, de, cm, all_cons, all_nil, hK, @db _ aD 1 (fun _ => rfl)]
    (try simp only [bs.down, simprocAttr, aD, (show ∀ s, cE aq s 40 0 [] = some (.ai 1 [], s) from fun s => by kernel_rfl), @dc aq 40 40 2 rfl rfl, dd, de, cm, all_cons, all_nil, hK, @db _ aD 1 (fun _ => rfl)] at al ⊢); exact al
   exact a6 (aJ _ (.inl (a7 [.ai 1 (I.map aD)] rfl (by cases a4 h; rfl) (by decide) a_)))
 ·refine cQ (b0 [(0, .slice (I.map aD)), (4, .bool false)] (fun P al => ?_) ?_)
  ·simp only [aX.down, simprocAttr, nG.down, kU, (xH b3), mV]
   (try simp only [bs.down, simprocAttr, aD, kU, (xH b3), mV] at al ⊢); exact al
  refine bB rfl ?_
  refine bF (cT _ (.inl ?_))
  obtain ⟨agT, jH, h⟩ := aT h
  (try simp only [List.length_append, List.length_cons, List.length_nil, List.length_map, List.length_replicate, Nat.zero_add, Nat.add_zero, Nat.reduceAdd] at jH)
  refine cQ (b0 [(2, .ai 1 (I.map aD))] (fun P al => ?_) ?_)
  ·simp only [aX.down, simprocAttr, nG.down, (show ∀ s, cE aq s 40 0 [] = some (.ai 1 [], s) from fun s => by kernel_rfl), @dc aq 40 40 2 rfl rfl, dd, de, cm, all_cons, all_nil, jH, @db _ aD 1 (fun _ => rfl)]
   (try simp only [bs.down, simprocAttr, aD, (show ∀ s, cE aq s 40 0 [] = some (.ai 1 [], s) from fun s => by kernel_rfl), @dc aq 40 40 2 rfl rfl, dd, de, cm, all_cons, all_nil, jH, @db _ aD 1 (fun _ => rfl)] at al ⊢); exact al
  exact a6 (aJ _ (.inl (a7 [.ai 1 (I.map aD)] rfl (by cases a4 h; rfl) (by decide) a_)))
theorem Jn (I : Int) (aa : Int) (a9 : Int) (r : (Option ((List aA)))) (h : CB I aa a9 = some r) : a0 aq 155 [.int .i64 I, .ref (.int .i64 aa), .ref (.int .i64 a9)] (BW (fun y => .ai 2 (y.map aR)) r) [] := by
 refine a0.cF (fx := [0, 1, 2]) cI [.tmp 4] [(0, .int .i64 I), (1, .ref (.int .i64 aa)), (2, .ref (.int .i64 a9))] Try.func155 rfl rfl Zl (Nat.le_of_ble_eq_true rfl) rfl rfl (fun cv aJ cD => ?_)
 refine ws _ ?_
 refine aZ (fun fB cT bP aF => ?_)
 refine ws _ ?_
 rcases bk h with ⟨b3, h⟩ | ⟨b3, h⟩
 ·refine bp (congrArg j.bool b3) ?_
  simp only [b3, aO.down]
  refine ws _ ?_
  exact a6 (bP _ (aJ _ (.inl (a7 [.af] rfl (by cases a4 h; rfl) (by decide) a_))))
 ·refine bB (congrArg j.bool b3) ?_
  simp only [b3, aO.down]
  refine bF (cT _ (.inl ?_))
  refine fG (And.intro (show ∀ s, ed aq s 133 [(0, .int .i64 1), (1, .int .i64 (IntKind.i64.wrap (I + a9)))] = some (.agg [.int .i64 1, .int .i64 (IntKind.i64.wrap (I + a9))], s) from fun s => by kernel_rfl) (show ∀ s, cE aq s 87 1 [(0, .agg [.int .i64 1, .int .i64 (IntKind.i64.wrap (I + a9))])] = some (.ai 2 [.agg [.int .i64 1, .int .i64 (IntKind.i64.wrap (I + a9))]], s) from fun s => by kernel_rfl)) _ ?_
  exact a6 (aJ _ (.inl (a7 [.ai 2 ([(aA.mk 1 (IntKind.i64.wrap (I + a9)))].map aR)] rfl (by cases a4 h; rfl) (by decide) a_)))
theorem agU (I : List aA) (b5 : Int) (b6 : Int) (r : (List aA)) (h : CC I b5 b6 = some r) : a0 aq 73 [.slice (I.map aR), .fn 155 [.ref (.int .i64 b5), .ref (.int .i64 b6)]] (.ai 2 (r.map aR)) [] := by
 refine a0.cF (fx := [0, 1]) cI [.tmp 4] [(0, .slice (I.map aR)), (1, .fn 155 [.ref (.int .i64 b5), .ref (.int .i64 b6)])] Try.func73 rfl rfl ZB (Nat.le_of_ble_eq_true rfl) rfl rfl (fun cv aJ cD => ?_)
 refine ws _ ?_
 refine ws _ ?_
 refine aZ (fun lE gW fw aW => ?_)
 refine ws _ ?_
 refine cd (fun gD fk el cc bu => ?_)
 have gX : ∀ (n : Nat) (cq : List aA) (dL : Int), oh I b5 b6 n cq dL = some r → eg aq Iq gD (R [(1, .fn 155 [.ref (.int .i64 b5), .ref (.int .i64 b6)]), (5, .ai 2 (cq.map aR)), (9, .slice (I.map aR)), (10, .int .i64 (I.length : Int)), (11, .int .i64 dL)]) := by
  intro c6
  induction c6 with
  | zero => intro cq dL h; cases (show none = some r from h)
  | succ c6 gC =>
   intro cq dL h
   replace h : yF (oh I b5 b6 c6) I b5 b6 cq dL = some r := h
   refine ew (fun fj dO eR bq => ?_)
   refine ws _ ?_
   refine aZ (fun hG fM gS b8 => ?_)
   rcases bk h with ⟨cM, h⟩ | ⟨cM, h⟩
   ·refine bp (congrArg j.bool cM) ?_
    simp only [cM, aO.down]
    refine bF (fM _ (.inl ?_))
    refine aZ (fun f_ c5 dR dE => ?_)
    refine cd (fun iB eW hU fI gh => ?_)
    obtain ⟨aj, eP, h⟩ := aT h
    refine fG eP _ ?_
    refine ws _ ?_
    refine aZ (fun rN ki l0 mr => ?_)
    refine ws _ ?_
    rcases bk h with ⟨dS, h⟩ | ⟨dS, h⟩
    ·refine bp (congrArg j.bool dS) ?_
     simp only [dS, aO.down]
     obtain ⟨aF, jB, h⟩ := aT h
     rcases O8 h with ⟨gP, h⟩ | ⟨aW, gP, h⟩
     ·refine CJ (by have q := (Jn aj.Value b5 b6 _ jB); simp only [gP, BW] at q; exact q) _ ?_
      refine ki _ (.inl ?_)
      have rU : ∀ (i3 : List aA) (i4 : List aA) (jg : Int), oU (oh I b5 b6 c6) I b5 b6 i3 i4 jg = some r → c4 aq zf iB (R [(1, .fn 155 [.ref (.int .i64 b5), .ref (.int .i64 b6)]), (5, .ai 2 (i3.map aR)), (8, .ai 2 (i4.map aR)), (9, .slice (I.map aR)), (10, .int .i64 (I.length : Int)), (11, .int .i64 jg)]) := by
       intro i3 i4 jg h
       obtain ⟨aj8, m5, h⟩ := aT h
       (try simp only [List.length_append, List.length_cons, List.length_nil, List.length_map, List.length_replicate, Nat.zero_add, Nat.add_zero, Nat.reduceAdd] at m5)
       refine hs (b0 [(1, .fn 155 [.ref (.int .i64 b5), .ref (.int .i64 b6)]), (5, .ai 2 ((i3 ++ i4).map aR)), (9, .slice (I.map aR)), (10, .int .i64 (I.length : Int)), (11, .int .i64 jg)] (fun P al => ?_) ?_)
       ·simp only [aX.down, simprocAttr, hS.down, @dc aq 87 87 133 rfl rfl, dd, de, cm, all_cons, all_nil, m5, @db _ aR 2 (fun _ => rfl)]
        (try simp only [bs.down, simprocAttr, aR, @dc aq 87 87 133 rfl rfl, dd, de, cm, all_cons, all_nil, m5, @db _ aR 2 (fun _ => rfl)] at al ⊢); exact al
       refine eW _ (c5 _ (.inl ?_))
       refine wr [(1, .fn 155 [.ref (.int .i64 b5), .ref (.int .i64 b6)]), (5, .ai 2 ((i3 ++ i4).map aR)), (9, .slice (I.map aR)), (10, .int .i64 (I.length : Int)), (11, .int .i64 (IntKind.i64.wrap (jg + 1)))] ?_
       exact dO _ (.inr ⟨_, cb rfl, gC (i3 ++ i4) (IntKind.i64.wrap (jg + 1)) h⟩)
      refine aZ (fun qd l1 nJ kZ => ?_)
      refine cQ (b0 [(1, .fn 155 [.ref (.int .i64 b5), .ref (.int .i64 b6)]), (5, .ai 2 (cq.map aR)), (7, .aG (aR aj)), (8, .af), (9, .slice (I.map aR)), (10, .int .i64 (I.length : Int)), (11, .int .i64 dL), (23, .bool true)] (fun P al => ?_) ?_)
      ·simp only [aX.down, simprocAttr, hS.down, kU]
       (try simp only [bs.down, simprocAttr, aR, kU] at al ⊢); exact al
      refine bp rfl ?_
      refine vR (show ∀ s, cE aq s 87 1 [(0, .agg [.int .i64 aj.Kind, .int .i64 aj.Value])] = some (.ai 2 [.agg [.int .i64 aj.Kind, .int .i64 aj.Value]], s) from fun s => by kernel_rfl) _ ?_
      exact l1 _ (.inr ⟨_, cb rfl, rU cq [aj] dL h⟩)
     ·refine CJ (by have q := (Jn aj.Value b5 b6 _ jB); simp only [gP, BW] at q; exact q) _ ?_
      refine ki _ (.inl ?_)
      have rU : ∀ (i3 : List aA) (i4 : List aA) (jg : Int), oU (oh I b5 b6 c6) I b5 b6 i3 i4 jg = some r → c4 aq zf iB (R [(1, .fn 155 [.ref (.int .i64 b5), .ref (.int .i64 b6)]), (5, .ai 2 (i3.map aR)), (8, .ai 2 (i4.map aR)), (9, .slice (I.map aR)), (10, .int .i64 (I.length : Int)), (11, .int .i64 jg)]) := by
       intro i3 i4 jg h
       obtain ⟨aj9, wk, h⟩ := aT h
       (try simp only [List.length_append, List.length_cons, List.length_nil, List.length_map, List.length_replicate, Nat.zero_add, Nat.add_zero, Nat.reduceAdd] at wk)
       refine hs (b0 [(1, .fn 155 [.ref (.int .i64 b5), .ref (.int .i64 b6)]), (5, .ai 2 ((i3 ++ i4).map aR)), (9, .slice (I.map aR)), (10, .int .i64 (I.length : Int)), (11, .int .i64 jg)] (fun P al => ?_) ?_)
       ·simp only [aX.down, simprocAttr, hS.down, @dc aq 87 87 133 rfl rfl, dd, de, cm, all_cons, all_nil, wk, @db _ aR 2 (fun _ => rfl)]
        (try simp only [bs.down, simprocAttr, aR, @dc aq 87 87 133 rfl rfl, dd, de, cm, all_cons, all_nil, wk, @db _ aR 2 (fun _ => rfl)] at al ⊢); exact al
       refine eW _ (c5 _ (.inl ?_))
       refine wr [(1, .fn 155 [.ref (.int .i64 b5), .ref (.int .i64 b6)]), (5, .ai 2 ((i3 ++ i4).map aR)), (9, .slice (I.map aR)), (10, .int .i64 (I.length : Int)), (11, .int .i64 (IntKind.i64.wrap (jg + 1)))] ?_
       exact dO _ (.inr ⟨_, cb rfl, gC (i3 ++ i4) (IntKind.i64.wrap (jg + 1)) h⟩)
      refine aZ (fun zl nK vW vX => ?_)
      rcases bk h with ⟨mw, h⟩ | ⟨mw, h⟩
      ·refine cQ (b0 [(1, .fn 155 [.ref (.int .i64 b5), .ref (.int .i64 b6)]), (5, .ai 2 (cq.map aR)), (7, .aG (aR aj)), (8, .ai 2 (aW.map aR)), (9, .slice (I.map aR)), (10, .int .i64 (I.length : Int)), (11, .int .i64 dL), (23, .eo)] (fun P al => ?_) ?_)
       ·simp only [aX.down, simprocAttr, hS.down, kU, (G2 mw), mV]
        (try simp only [bs.down, simprocAttr, aR, kU, (G2 mw), mV] at al ⊢); exact al
       obtain ⟨agV, h⟩ := zX h
       refine BM rfl ?_ ?_
       ·replace h := agV
        refine vR (show ∀ s, cE aq s 87 1 [(0, .agg [.int .i64 aj.Kind, .int .i64 aj.Value])] = some (.ai 2 [.agg [.int .i64 aj.Kind, .int .i64 aj.Value]], s) from fun s => by kernel_rfl) _ ?_
        exact nK _ (.inr ⟨_, cb rfl, rU cq [aj] dL h⟩)
       ·exact bF (nK _ (.inr ⟨_, cb rfl, rU cq aW dL h⟩))
      ·refine cQ (b0 [(1, .fn 155 [.ref (.int .i64 b5), .ref (.int .i64 b6)]), (5, .ai 2 (cq.map aR)), (7, .aG (aR aj)), (8, .ai 2 (aW.map aR)), (9, .slice (I.map aR)), (10, .int .i64 (I.length : Int)), (11, .int .i64 dL), (23, .bool false)] (fun P al => ?_) ?_)
       ·simp only [aX.down, simprocAttr, hS.down, kU, (G3 mw), mV]
        (try simp only [bs.down, simprocAttr, aR, kU, (G3 mw), mV] at al ⊢); exact al
       refine bB rfl ?_
       exact bF (nK _ (.inr ⟨_, cb rfl, rU cq aW dL h⟩))
    ·refine bB (congrArg j.bool dS) ?_
     simp only [dS, aO.down]
     refine bF (ki _ (.inl ?_))
     have rU : ∀ (i3 : List aA) (i4 : List aA) (jg : Int), oU (oh I b5 b6 c6) I b5 b6 i3 i4 jg = some r → c4 aq zf iB (R [(1, .fn 155 [.ref (.int .i64 b5), .ref (.int .i64 b6)]), (5, .ai 2 (i3.map aR)), (8, .ai 2 (i4.map aR)), (9, .slice (I.map aR)), (10, .int .i64 (I.length : Int)), (11, .int .i64 jg)]) := by
      intro i3 i4 jg h
      obtain ⟨aj_, rS, h⟩ := aT h
      (try simp only [List.length_append, List.length_cons, List.length_nil, List.length_map, List.length_replicate, Nat.zero_add, Nat.add_zero, Nat.reduceAdd] at rS)
      refine hs (b0 [(1, .fn 155 [.ref (.int .i64 b5), .ref (.int .i64 b6)]), (5, .ai 2 ((i3 ++ i4).map aR)), (9, .slice (I.map aR)), (10, .int .i64 (I.length : Int)), (11, .int .i64 jg)] (fun P al => ?_) ?_)
      ·simp only [aX.down, simprocAttr, hS.down, @dc aq 87 87 133 rfl rfl, dd, de, cm, all_cons, all_nil, rS, @db _ aR 2 (fun _ => rfl)]
       (try simp only [bs.down, simprocAttr, aR, @dc aq 87 87 133 rfl rfl, dd, de, cm, all_cons, all_nil, rS, @db _ aR 2 (fun _ => rfl)] at al ⊢); exact al
      refine eW _ (c5 _ (.inl ?_))
      refine wr [(1, .fn 155 [.ref (.int .i64 b5), .ref (.int .i64 b6)]), (5, .ai 2 ((i3 ++ i4).map aR)), (9, .slice (I.map aR)), (10, .int .i64 (I.length : Int)), (11, .int .i64 (IntKind.i64.wrap (jg + 1)))] ?_
      exact dO _ (.inr ⟨_, cb rfl, gC (i3 ++ i4) (IntKind.i64.wrap (jg + 1)) h⟩)
     refine aZ (fun aka agW akb akc => ?_)
     refine cQ (b0 [(1, .fn 155 [.ref (.int .i64 b5), .ref (.int .i64 b6)]), (5, .ai 2 (cq.map aR)), (7, .aG (aR aj)), (8, .af), (9, .slice (I.map aR)), (10, .int .i64 (I.length : Int)), (11, .int .i64 dL), (23, .bool true)] (fun P al => ?_) ?_)
     ·simp only [aX.down, simprocAttr, hS.down, kU]
      (try simp only [bs.down, simprocAttr, aR, kU] at al ⊢); exact al
     refine bp rfl ?_
     refine vR (show ∀ s, cE aq s 87 1 [(0, .agg [.int .i64 aj.Kind, .int .i64 aj.Value])] = some (.ai 2 [.agg [.int .i64 aj.Kind, .int .i64 aj.Value]], s) from fun s => by kernel_rfl) _ ?_
     exact agW _ (.inr ⟨_, cb rfl, rU cq [aj] dL h⟩)
   ·refine bB (congrArg j.bool cM) ?_
    simp only [cM, aO.down]
    refine eu (b8 0 _ (bq 0 _ (cc _ (gW _ (.inl ?_)))))
    refine ws _ ?_
    exact a6 (aJ _ (.inl (a7 [.ai 2 (cq.map aR)] rfl (by cases a4 h; rfl) (by decide) a_)))
 obtain ⟨n, h⟩ := et h
 exact ev (.inr ⟨_, jd [] rfl (dQ (t := 1) (d := .fn 155 [.ref (.int .i64 b5), .ref (.int .i64 b6)]) rfl (i2 (t := 5) (d := .af) (bw := .ai 2 []) rfl rfl (.gq _) (by decide) (dQ (t := 9) (d := .slice (I.map aR)) rfl (dQ (t := 10) (d := .int .i64 (I.length : Int)) rfl (dQ (t := 11) (d := .int .i64 0) rfl (je)))))), gX n [] 0 h⟩)
theorem Jo (I : List aA) (aa : Int) (a9 : Int) (r : (List aA)) (h : vr I aa a9 = some r) : a0 aq 118 [.slice (I.map aR), .int .i64 aa, .int .i64 a9] (.ai 2 (r.map aR)) [] := by
 refine a0.cF (fx := [0, 1, 2]) cI [.tmp 6] [(0, .slice (I.map aR)), (1, .int .i64 aa), (2, .int .i64 a9)] Try.func118 rfl rfl ZE (Nat.le_of_ble_eq_true rfl) rfl rfl (fun cv aJ cD => ?_)
 refine ws _ ?_
 obtain ⟨aj, bf, h⟩ := aT h
 refine cQ (b0 [(6, .ai 2 (aj.map aR))] (fun P al => ?_) ?_)
 ·simp only [aX.down, simprocAttr, aR]
  refine ey (agU I aa a9 _ bf) rfl rfl (by simp only [aX.down, simprocAttr, aR, eZ, e0, e1, dy] <;> rfl) rfl (.inr (kC (fun _ => CH _) _)) ?_
  simp only [aX.down, simprocAttr, aR]
  (try simp only [bs.down, simprocAttr, aR] at al ⊢); exact al
 exact a6 (aJ _ (.inl (a7 [.ai 2 (aj.map aR)] rfl (by cases a4 h; rfl) (by decide) a_)))
theorem Jp (I : aY) (aa : List aA) (a9 : bc) (gz : bc) (r : (List aA)) (h : vt I aa a9 gz = some r) : a0 aq 117 [bm I, .slice (aa.map aR), .ref (bj a9), .ref (bj gz)] (.ai 2 (r.map aR)) [] := by
 refine a0.cF (fx := [0, 1, 2, 3]) cI [.tmp 6] [(0, bm I), (1, .slice (aa.map aR)), (2, .ref (bj a9)), (3, .ref (bj gz))] Try.func117 rfl rfl ZH (Nat.le_of_ble_eq_true rfl) rfl rfl (fun cv aJ cD => ?_)
 refine ws _ ?_
 obtain ⟨aj, bf, h⟩ := aT h
 refine eI (Jo aa a9.aV gz.aV _ bf) _ ?_
 exact a6 (aJ _ (.inl (a7 [.ai 2 (aj.map aR)] rfl (by cases a4 h; rfl) (by decide) a_)))
theorem Jq (I : List (List aA)) (b5 : bc) (b6 : bc) (a9 : aY) (r : (List (List aA))) (h : vu I b5 b6 a9 = some r) : a0 aq 107 [.slice (I.map bC), .ref (.fn 117 [.ref (bj b5), .ref (bj b6)]), .ref (bm a9)] (.ai 1 (r.map bl)) [] := by
 refine a0.cF (fx := [0, 1, 2]) cI [.tmp 4] [(0, .slice (I.map bC)), (1, .ref (.fn 117 [.ref (bj b5), .ref (bj b6)])), (2, .ref (bm a9))] Try.func107 rfl rfl ZR (Nat.le_of_ble_eq_true rfl) rfl rfl (fun cv aJ cD => ?_)
 refine ws _ ?_
 refine ws _ ?_
 refine aZ (fun lE gW fw aW => ?_)
 refine ws _ ?_
 refine cd (fun gD fk el cc bu => ?_)
 have gX : ∀ (n : Nat) (cq : List (List aA)) (hE : Int), rr I a9 b5 b6 n cq hE = some r → eg aq Ir gD (R [(1, .ref (.fn 117 [.ref (bj b5), .ref (bj b6)])), (2, .ref (bm a9)), (5, .ai 1 (cq.map bl)), (8, .slice (I.map bC)), (9, .int .i64 (I.length : Int)), (10, .int .i64 hE)]) := by
  intro c6
  induction c6 with
  | zero => intro cq hE h; cases (show none = some r from h)
  | succ c6 gC =>
   intro cq hE h
   replace h : yG (rr I a9 b5 b6 c6) I a9 b5 b6 cq hE = some r := h
   refine ew (fun fj dO eR bq => ?_)
   refine ws _ ?_
   refine aZ (fun hG fM gS b8 => ?_)
   rcases bk h with ⟨cM, h⟩ | ⟨cM, h⟩
   ·refine bp (congrArg j.bool cM) ?_
    simp only [cM, aO.down]
    refine bF (fM _ (.inl ?_))
    refine aZ (fun f_ c5 dR dE => ?_)
    refine cd (fun iB eW hU fI gh => ?_)
    obtain ⟨aj, eP, h⟩ := aT h
    refine fG eP _ ?_
    obtain ⟨aF, eA, h⟩ := aT h
    obtain ⟨CM, dw, h⟩ := aT h
    (try simp only [List.length_append, List.length_cons, List.length_nil, List.length_map, List.length_replicate, Nat.zero_add, Nat.add_zero, Nat.reduceAdd] at dw)
    refine hs (b0 [(1, .ref (.fn 117 [.ref (bj b5), .ref (bj b6)])), (2, .ref (bm a9)), (5, .ai 1 ((cq ++ [aF]).map bl)), (8, .slice (I.map bC)), (9, .int .i64 (I.length : Int)), (10, .int .i64 hE)] (fun P al => ?_) ?_)
    ·simp only [aX.down, simprocAttr, zi.down, @ei aq 88 87 1 1 [.af] rfl rfl rfl (by kernel_rfl), eh, du, dn, dv, cC, cm, List.nil_append, List.cons_append, @dc aq 88 88 87 rfl rfl, dd, de, all_cons, all_nil, dw, @db _ bl 1 (fun _ => rfl)]
     refine ey (Jp a9 aj b5 b6 _ eA) rfl rfl rfl rfl (.inl (by rfl)) ?_
     simp only [aX.down, simprocAttr, zi.down, @ei aq 88 87 1 1 [.af] rfl rfl rfl (by kernel_rfl), eh, du, dn, dv, cC, cm, List.nil_append, List.cons_append, @dc aq 88 88 87 rfl rfl, dd, de, all_cons, all_nil, dw, @db _ bl 1 (fun _ => rfl)]
     (try simp only [bs.down, simprocAttr, zj.down, @ei aq 88 87 1 1 [.af] rfl rfl rfl (by kernel_rfl), eh, du, dn, dv, cC, cm, List.nil_append, List.cons_append, @dc aq 88 88 87 rfl rfl, dd, de, all_cons, all_nil, dw, @db _ bl 1 (fun _ => rfl)] at al ⊢); exact al
    refine eW _ (c5 _ (.inl ?_))
    refine wr [(1, .ref (.fn 117 [.ref (bj b5), .ref (bj b6)])), (2, .ref (bm a9)), (5, .ai 1 ((cq ++ [aF]).map bl)), (8, .slice (I.map bC)), (9, .int .i64 (I.length : Int)), (10, .int .i64 (IntKind.i64.wrap (hE + 1)))] ?_
    exact dO _ (.inr ⟨_, cb rfl, gC (cq ++ [aF]) (IntKind.i64.wrap (hE + 1)) h⟩)
   ·refine bB (congrArg j.bool cM) ?_
    simp only [cM, aO.down]
    refine eu (b8 0 _ (bq 0 _ (cc _ (gW _ (.inl ?_)))))
    refine ws _ ?_
    exact a6 (aJ _ (.inl (a7 [.ai 1 (cq.map bl)] rfl (by cases a4 h; rfl) (by decide) a_)))
 obtain ⟨n, h⟩ := et h
 exact ev (.inr ⟨_, jd [] rfl (dQ (t := 1) (d := .ref (.fn 117 [.ref (bj b5), .ref (bj b6)])) rfl (dQ (t := 2) (d := .ref (bm a9)) rfl (i2 (t := 5) (d := .af) (bw := .ai 1 []) rfl rfl (.gq _) (by decide) (dQ (t := 8) (d := .slice (I.map bC)) rfl (dQ (t := 9) (d := .int .i64 (I.length : Int)) rfl (dQ (t := 10) (d := .int .i64 0) rfl (je))))))), gX n [] 0 h⟩)
theorem agX (I : bc) (b5 : bc) (b6 : bc) (r : bc) (h : vv I b5 b6 = some r) : a0 aq 71 [bj I, .fn 117 [.ref (bj b5), .ref (bj b6)]] (dC r) [] := by
 refine a0.cF (fx := [0, 1]) cI [.cell 4 47] [(0, bj I), (1, .fn 117 [.ref (bj b5), .ref (bj b6)])] Try.func71 rfl rfl Z2 (Nat.le_of_ble_eq_true rfl) rfl rfl (fun cv aJ cD => ?_)
 refine cQ (b0 [(2, .aG (bj I)), (3, .ref (.fn 117 [.ref (bj b5), .ref (bj b6)])), (4, .aG (.agg [.int .i64 0, .af, .af]))] (fun P al => ?_) ?_)
 ·simp only [aX.down, simprocAttr, eD, fX, hf, jL, lV, e8, fC, h0, xR, eU, aD, bj, bm, aR, bC, lr, (show ∀ s, hL s (.fn 117 [.ref (.agg [.int .i64 b5.aV, .slice (b5.Start.map aD), .slice (b5.bG.map bm)]), .ref (.agg [.int .i64 b6.aV, .slice (b6.Start.map aD), .slice (b6.bG.map bm)])]) = some (.ref (.fn 117 [.ref (.agg [.int .i64 b5.aV, .slice (b5.Start.map aD), .slice (b5.bG.map bm)]), .ref (.agg [.int .i64 b6.aV, .slice (b6.Start.map aD), .slice (b6.bG.map bm)])]), s) from fun s => rfl)]
  (try simp only [bs.down, simprocAttr, i5.down, lr, (show ∀ s, hL s (.fn 117 [.ref (.agg [.int .i64 b5.aV, .slice (b5.Start.map aD), .slice (b5.bG.map bm)]), .ref (.agg [.int .i64 b6.aV, .slice (b6.Start.map aD), .slice (b6.bG.map bm)])]) = some (.ref (.fn 117 [.ref (.agg [.int .i64 b5.aV, .slice (b5.Start.map aD), .slice (b5.bG.map bm)]), .ref (.agg [.int .i64 b6.aV, .slice (b6.Start.map aD), .slice (b6.bG.map bm)])]), s) from fun s => rfl)] at al ⊢); exact al
 obtain ⟨aj, bf, h⟩ := aT h
 refine jb rfl (ik [(2, .aG (bj I)), (3, .ref (.fn 117 [.ref (bj b5), .ref (bj b6)])), (4, .aG (.agg [.int .i64 0, .af, .af])), (5, .aG (.agg [.int .i64 I.aV, .ai 1 (aj.map aD), .af]))] (fun P al => ?_) ?_)
 ·simp only [cP.down, simprocAttr, hg.down, @g3 aq 47 [(2, 0), (40, 1), (45, 2)] [(.int .i64 0), .af, .af] rfl rfl (by kernel_rfl), gU, du, dn, dv, cC, cm, List.nil_append, List.cons_append]
  refine e7 (zA I.Start _ bf) rfl rfl rfl rfl (.inl (by rfl)) ?_
  simp only [cP.down, simprocAttr, hg.down, @g3 aq 47 [(2, 0), (40, 1), (45, 2)] [(.int .i64 0), .af, .af] rfl rfl (by kernel_rfl), gU, du, dn, dv, cC, cm, List.nil_append, List.cons_append]
  refine ⟨hd (by kernel_rfl), ?_⟩
  (try simp only [bs.down, simprocAttr, i5.down, @g3 aq 47 [(2, 0), (40, 1), (45, 2)] [(.int .i64 0), .af, .af] rfl rfl (by kernel_rfl), gU, du, dn, dv, cC, cm, List.nil_append, List.cons_append] at al ⊢); exact al
 refine aZ (fun fH fu cZ bn => ?_)
 refine ws _ ?_
 refine cd (fun fj dO eR dB bq => ?_)
 have gX : ∀ (n : Nat) (cq : List aY) (hF : Int), ru I b5 b6 aj n cq hF = some r → eg aq Is fj (R [(3, .ref (.fn 117 [.ref (bj b5), .ref (bj b6)])), (4, .aG (.agg [.int .i64 0, .af, .af])), (5, .aG (.agg [.int .i64 I.aV, .ai 1 (aj.map aD), .ai 5 (cq.map br)])), (16, .slice (I.bG.map bm)), (17, .int .i64 (I.bG.length : Int)), (18, .int .i64 hF)]) := by
  intro c6
  induction c6 with
  | zero => intro cq hF h; cases (show none = some r from h)
  | succ c6 gC =>
   intro cq hF h
   replace h : yH (ru I b5 b6 aj c6) I b5 b6 aj cq hF = some r := h
   refine ew (fun jA fZ hc cj => ?_)
   refine ws _ ?_
   refine aZ (fun ht eN eJ cL => ?_)
   rcases bk h with ⟨c7, h⟩ | ⟨c7, h⟩
   ·refine bp (congrArg j.bool c7) ?_
    simp only [c7, aO.down]
    refine bF (eN _ (.inl ?_))
    refine aZ (fun iB eW hU gh => ?_)
    refine cd (fun mu h2 kG c2 kF => ?_)
    obtain ⟨aF, fc, h⟩ := aT h
    refine fG fc _ ?_
    refine ws _ ?_
    obtain ⟨aW, gN, h⟩ := aT h
    obtain ⟨bn, gO, h⟩ := aT h
    obtain ⟨bu, jB, h⟩ := aT h
    obtain ⟨bq, iC, h⟩ := aT h
    obtain ⟨agY, h5, h⟩ := aT h
    (try simp only [List.length_append, List.length_cons, List.length_nil, List.length_map, List.length_replicate, Nat.zero_add, Nat.add_zero, Nat.reduceAdd] at h5)
    refine xz rfl (ik [(3, .ref (.fn 117 [.ref (bj b5), .ref (bj b6)])), (4, .aG (.agg [.int .i64 0, .af, .af])), (5, .aG (.agg [.int .i64 I.aV, .ai 1 (aj.map aD), .ai 5 ((cq ++ [(aY.mk aW bn aF.Name bu bq)]).map br)])), (16, .slice (I.bG.map bm)), (17, .int .i64 (I.bG.length : Int)), (18, .int .i64 hF)] (fun P al => ?_) ?_)
    ·simp only [cP.down, simprocAttr, lZ.down, @g3 aq 90 [(40, 0), (87, 1), (9, 2), (88, 3), (88, 4)] [.af, .af, (.str []), .af, .af] rfl rfl (by kernel_rfl), gU, du, dn, dv, cC, cm, List.nil_append, List.cons_append, @ei aq 45 90 1 5 [(.agg [.af, .af, (.str []), .af, .af])] rfl rfl rfl (by kernel_rfl), eh, @dc aq 45 45 90 rfl rfl, dd, de, all_cons, all_nil, h5, @db _ br 5 (fun _ => rfl)]
     refine e7 (zA aF.bo _ gN) rfl rfl rfl rfl (.inl (by rfl)) ?_
     simp only [cP.down, simprocAttr, lZ.down, @g3 aq 90 [(40, 0), (87, 1), (9, 2), (88, 3), (88, 4)] [.af, .af, (.str []), .af, .af] rfl rfl (by kernel_rfl), gU, du, dn, dv, cC, cm, List.nil_append, List.cons_append, @ei aq 45 90 1 5 [(.agg [.af, .af, (.str []), .af, .af])] rfl rfl rfl (by kernel_rfl), eh, @dc aq 45 45 90 rfl rfl, dd, de, all_cons, all_nil, h5, @db _ br 5 (fun _ => rfl)]
     refine e7 (Jp aF aF.Guard b5 b6 _ gO) rfl rfl rfl rfl (.inl (by rfl)) ?_
     simp only [cP.down, simprocAttr, lZ.down, @g3 aq 90 [(40, 0), (87, 1), (9, 2), (88, 3), (88, 4)] [.af, .af, (.str []), .af, .af] rfl rfl (by kernel_rfl), gU, du, dn, dv, cC, cm, List.nil_append, List.cons_append, @ei aq 45 90 1 5 [(.agg [.af, .af, (.str []), .af, .af])] rfl rfl rfl (by kernel_rfl), eh, @dc aq 45 45 90 rfl rfl, dd, de, all_cons, all_nil, h5, @db _ br 5 (fun _ => rfl)]
     refine e7 (Jq aF.bH b5 b6 aF _ jB) rfl rfl (by simp only [cP.down, simprocAttr, lZ.down, @g3 aq 90 [(40, 0), (87, 1), (9, 2), (88, 3), (88, 4)] [.af, .af, (.str []), .af, .af] rfl rfl (by kernel_rfl), gU, du, dn, dv, cC, cm, List.nil_append, List.cons_append, @ei aq 45 90 1 5 [(.agg [.af, .af, (.str []), .af, .af])] rfl rfl rfl (by kernel_rfl), eh, @dc aq 45 45 90 rfl rfl, dd, de, all_cons, all_nil, h5, @db _ br 5 (fun _ => rfl), eZ, e0, e1, dy, @bx _ aD aD (fun _ => dX _), @bx _ aR aR (fun _ => k1 _), @bx _ bC bC (fun _ => jk _), @bx _ bC bC (fun _ => jk _)] <;> rfl) rfl (.inr (kC (fun _ => qa _) _)) ?_
     simp only [cP.down, simprocAttr, lZ.down, @g3 aq 90 [(40, 0), (87, 1), (9, 2), (88, 3), (88, 4)] [.af, .af, (.str []), .af, .af] rfl rfl (by kernel_rfl), gU, du, dn, dv, cC, cm, List.nil_append, List.cons_append, @ei aq 45 90 1 5 [(.agg [.af, .af, (.str []), .af, .af])] rfl rfl rfl (by kernel_rfl), eh, @dc aq 45 45 90 rfl rfl, dd, de, all_cons, all_nil, h5, @db _ br 5 (fun _ => rfl)]
     refine e7 (Jq aF.Next b5 b6 aF _ iC) rfl rfl (by simp only [cP.down, simprocAttr, lZ.down, @g3 aq 90 [(40, 0), (87, 1), (9, 2), (88, 3), (88, 4)] [.af, .af, (.str []), .af, .af] rfl rfl (by kernel_rfl), gU, du, dn, dv, cC, cm, List.nil_append, List.cons_append, @ei aq 45 90 1 5 [(.agg [.af, .af, (.str []), .af, .af])] rfl rfl rfl (by kernel_rfl), eh, @dc aq 45 45 90 rfl rfl, dd, de, all_cons, all_nil, h5, @db _ br 5 (fun _ => rfl), eZ, e0, e1, dy, @bx _ aD aD (fun _ => dX _), @bx _ aR aR (fun _ => k1 _), @bx _ bC bC (fun _ => jk _), @bx _ bC bC (fun _ => jk _)] <;> rfl) rfl (.inr (kC (fun _ => qa _) _)) ?_
     simp only [cP.down, simprocAttr, lZ.down, @g3 aq 90 [(40, 0), (87, 1), (9, 2), (88, 3), (88, 4)] [.af, .af, (.str []), .af, .af] rfl rfl (by kernel_rfl), gU, du, dn, dv, cC, cm, List.nil_append, List.cons_append, @ei aq 45 90 1 5 [(.agg [.af, .af, (.str []), .af, .af])] rfl rfl rfl (by kernel_rfl), eh, @dc aq 45 45 90 rfl rfl, dd, de, all_cons, all_nil, h5, @db _ br 5 (fun _ => rfl)]
     refine ⟨hd (by kernel_rfl), ?_⟩
     (try simp only [bs.down, simprocAttr, nI.down, @g3 aq 90 [(40, 0), (87, 1), (9, 2), (88, 3), (88, 4)] [.af, .af, (.str []), .af, .af] rfl rfl (by kernel_rfl), gU, du, dn, dv, cC, cm, List.nil_append, List.cons_append, @ei aq 45 90 1 5 [(.agg [.af, .af, (.str []), .af, .af])] rfl rfl rfl (by kernel_rfl), eh, @dc aq 45 45 90 rfl rfl, dd, de, all_cons, all_nil, h5, @db _ br 5 (fun _ => rfl)] at al ⊢); exact al
    refine h2 _ (eW _ (.inl ?_))
    refine wr [(3, .ref (.fn 117 [.ref (bj b5), .ref (bj b6)])), (4, .aG (.agg [.int .i64 0, .af, .af])), (5, .aG (.agg [.int .i64 I.aV, .ai 1 (aj.map aD), .ai 5 ((cq ++ [(aY.mk aW bn aF.Name bu bq)]).map br)])), (16, .slice (I.bG.map bm)), (17, .int .i64 (I.bG.length : Int)), (18, .int .i64 (IntKind.i64.wrap (hF + 1)))] ?_
    exact fZ _ (.inr ⟨_, cb rfl, gC (cq ++ [(aY.mk aW bn aF.Name bu bq)]) (IntKind.i64.wrap (hF + 1)) h⟩)
   ·refine bB (congrArg j.bool c7) ?_
    simp only [c7, aO.down]
    refine eu (cL 0 _ (cj 0 _ (dB _ (fu _ (.inl ?_)))))
    refine ws _ ?_
    exact a6 (aJ _ (.inl (a7 [dC (bc.mk I.aV aj cq)] rfl (by cases a4 h; rfl) (by decide) a_)))
 obtain ⟨n, h⟩ := et h
 exact ev (.inr ⟨_, jd [] rfl (dQ (t := 3) (d := .ref (.fn 117 [.ref (bj b5), .ref (bj b6)])) rfl (dQ (t := 4) (d := .aG (.agg [.int .i64 0, .af, .af])) rfl (i2 (t := 5) (d := .aG (.agg [.int .i64 I.aV, .ai 1 (aj.map aD), .af])) (bw := .aG (.agg [.int .i64 I.aV, .ai 1 (aj.map aD), .ai 5 []])) rfl rfl (.aG (.agg (.cons (.refl _) (.cons (.refl _) (.cons (.gq _) (.nil)))))) (by decide) (dQ (t := 16) (d := .slice (I.bG.map bm)) rfl (dQ (t := 17) (d := .int .i64 (I.bG.length : Int)) rfl (dQ (t := 18) (d := .int .i64 0) rfl (je))))))), gX n [] 0 h⟩)
theorem agZ (I : List aA) (r : (List aA)) (h : yI I = some r) : a0 aq 157 [.slice (I.map aR)] (.ai 2 (r.map aR)) [] := by
 refine a0.cF (fx := [0]) cI [.tmp 2] [(0, .slice (I.map aR))] Try.func157 rfl rfl Z8 (Nat.le_of_ble_eq_true rfl) rfl rfl (fun cv aJ cD => ?_)
 refine ws _ ?_
 refine aZ (fun fB cT bP aF => ?_)
 rcases bk h with ⟨b3, h⟩ | ⟨b3, h⟩
 ·refine cQ (b0 [(0, .slice (I.map aR)), (4, .eo)] (fun P al => ?_) ?_)
  ·simp only [aX.down, simprocAttr, hS.down, kU, (xG b3), mV]
   (try simp only [bs.down, simprocAttr, aR, kU, (xG b3), mV] at al ⊢); exact al
  obtain ⟨bI, h⟩ := zX h
  refine BM rfl ?_ ?_
  ·replace h := bI
   refine ws _ ?_
   exact a6 (bP _ (aJ _ (.inr ⟨[(2, .ai 2 [])], jd [] rfl (i2 (t := 2) (d := .af) rfl rfl (.gq _) (by decide) (je)), a7 [.ai 2 []] rfl (by cases a4 h; rfl) (by decide) a_⟩)))
  ·refine bF (cT _ (.inl ?_))
   obtain ⟨u8, hK, h⟩ := aT h
   (try simp only [List.length_append, List.length_cons, List.length_nil, List.length_map, List.length_replicate, Nat.zero_add, Nat.add_zero, Nat.reduceAdd] at hK)
   refine cQ (b0 [(2, .ai 2 (I.map aR))] (fun P al => ?_) ?_)
   ·simp only [aX.down, simprocAttr, hS.down, (show ∀ s, cE aq s 87 0 [] = some (.ai 2 [], s) from fun s => by kernel_rfl), @dc aq 87 87 133 rfl rfl, dd, de, cm, all_cons, all_nil, hK, @db _ aR 2 (fun _ => rfl)]
    (try simp only [bs.down, simprocAttr, aR, (show ∀ s, cE aq s 87 0 [] = some (.ai 2 [], s) from fun s => by kernel_rfl), @dc aq 87 87 133 rfl rfl, dd, de, cm, all_cons, all_nil, hK, @db _ aR 2 (fun _ => rfl)] at al ⊢); exact al
   exact a6 (aJ _ (.inl (a7 [.ai 2 (I.map aR)] rfl (by cases a4 h; rfl) (by decide) a_)))
 ·refine cQ (b0 [(0, .slice (I.map aR)), (4, .bool false)] (fun P al => ?_) ?_)
  ·simp only [aX.down, simprocAttr, hS.down, kU, (xH b3), mV]
   (try simp only [bs.down, simprocAttr, aR, kU, (xH b3), mV] at al ⊢); exact al
  refine bB rfl ?_
  refine bF (cT _ (.inl ?_))
  obtain ⟨agT, jH, h⟩ := aT h
  (try simp only [List.length_append, List.length_cons, List.length_nil, List.length_map, List.length_replicate, Nat.zero_add, Nat.add_zero, Nat.reduceAdd] at jH)
  refine cQ (b0 [(2, .ai 2 (I.map aR))] (fun P al => ?_) ?_)
  ·simp only [aX.down, simprocAttr, hS.down, (show ∀ s, cE aq s 87 0 [] = some (.ai 2 [], s) from fun s => by kernel_rfl), @dc aq 87 87 133 rfl rfl, dd, de, cm, all_cons, all_nil, jH, @db _ aR 2 (fun _ => rfl)]
   (try simp only [bs.down, simprocAttr, aR, (show ∀ s, cE aq s 87 0 [] = some (.ai 2 [], s) from fun s => by kernel_rfl), @dc aq 87 87 133 rfl rfl, dd, de, cm, all_cons, all_nil, jH, @db _ aR 2 (fun _ => rfl)] at al ⊢); exact al
  exact a6 (aJ _ (.inl (a7 [.ai 2 (I.map aR)] rfl (by cases a4 h; rfl) (by decide) a_)))
theorem Jr (I : List (List aA)) (r : (List (List aA))) (h : vw I = some r) : a0 aq 120 [.slice (I.map bC)] (.ai 1 (r.map bl)) [] := by
 refine a0.cF (fx := [0]) cI [.tmp 2] [(0, .slice (I.map bC))] Try.func120 rfl rfl aah (Nat.le_of_ble_eq_true rfl) rfl rfl (fun cv aJ cD => ?_)
 refine ws _ ?_
 refine ws _ ?_
 refine aZ (fun lE gW fw aW => ?_)
 refine ws _ ?_
 refine cd (fun gD fk el cc bu => ?_)
 have gX : ∀ (n : Nat) (bK : List (List aA)) (gK : Int), rv I n bK gK = some r → eg aq It gD (R [(3, .ai 1 (bK.map bl)), (6, .slice (I.map bC)), (7, .int .i64 (I.length : Int)), (8, .int .i64 gK)]) := by
  intro c6
  induction c6 with
  | zero => intro bK gK h; cases (show none = some r from h)
  | succ c6 gC =>
   intro bK gK h
   replace h : yJ (rv I c6) I bK gK = some r := h
   refine ew (fun fj dO eR bq => ?_)
   refine ws _ ?_
   refine aZ (fun hG fM gS b8 => ?_)
   rcases bk h with ⟨cM, h⟩ | ⟨cM, h⟩
   ·refine bp (congrArg j.bool cM) ?_
    simp only [cM, aO.down]
    refine bF (fM _ (.inl ?_))
    refine aZ (fun f_ c5 dR dE => ?_)
    refine cd (fun iB eW hU fI gh => ?_)
    obtain ⟨aj, eP, h⟩ := aT h
    refine fG eP _ ?_
    obtain ⟨aF, eA, h⟩ := aT h
    obtain ⟨CM, dw, h⟩ := aT h
    (try simp only [List.length_append, List.length_cons, List.length_nil, List.length_map, List.length_replicate, Nat.zero_add, Nat.add_zero, Nat.reduceAdd] at dw)
    refine hs (b0 [(3, .ai 1 ((bK ++ [aF]).map bl)), (6, .slice (I.map bC)), (7, .int .i64 (I.length : Int)), (8, .int .i64 gK)] (fun P al => ?_) ?_)
    ·simp only [aX.down, simprocAttr, zg.down, @ei aq 88 87 1 1 [.af] rfl rfl rfl (by kernel_rfl), eh, du, dn, dv, cC, cm, List.nil_append, List.cons_append, @dc aq 88 88 87 rfl rfl, dd, de, all_cons, all_nil, dw, @db _ bl 1 (fun _ => rfl)]
     refine ey (agZ aj _ eA) rfl rfl rfl rfl (.inl (by rfl)) ?_
     simp only [aX.down, simprocAttr, zg.down, @ei aq 88 87 1 1 [.af] rfl rfl rfl (by kernel_rfl), eh, du, dn, dv, cC, cm, List.nil_append, List.cons_append, @dc aq 88 88 87 rfl rfl, dd, de, all_cons, all_nil, dw, @db _ bl 1 (fun _ => rfl)]
     (try simp only [bs.down, simprocAttr, aR, bC, bl, @ei aq 88 87 1 1 [.af] rfl rfl rfl (by kernel_rfl), eh, du, dn, dv, cC, cm, List.nil_append, List.cons_append, @dc aq 88 88 87 rfl rfl, dd, de, all_cons, all_nil, dw, @db _ bl 1 (fun _ => rfl)] at al ⊢); exact al
    refine eW _ (c5 _ (.inl ?_))
    refine wr [(3, .ai 1 ((bK ++ [aF]).map bl)), (6, .slice (I.map bC)), (7, .int .i64 (I.length : Int)), (8, .int .i64 (IntKind.i64.wrap (gK + 1)))] ?_
    exact dO _ (.inr ⟨_, cb rfl, gC (bK ++ [aF]) (IntKind.i64.wrap (gK + 1)) h⟩)
   ·refine bB (congrArg j.bool cM) ?_
    simp only [cM, aO.down]
    refine eu (b8 0 _ (bq 0 _ (cc _ (gW _ (.inl ?_)))))
    refine ws _ ?_
    exact a6 (aJ _ (.inl (a7 [.ai 1 (bK.map bl)] rfl (by cases a4 h; rfl) (by decide) a_)))
 obtain ⟨n, h⟩ := et h
 exact ev (.inr ⟨_, jd [] rfl (i2 (t := 3) (d := .af) (bw := .ai 1 []) rfl rfl (.gq _) (by decide) (dQ (t := 6) (d := .slice (I.map bC)) rfl (dQ (t := 7) (d := .int .i64 (I.length : Int)) rfl (dQ (t := 8) (d := .int .i64 0) rfl (je))))), gX n [] 0 h⟩)
theorem Js (I : List (List (List aA))) (r : (List (List aA))) (h : ts I = some r) : a0 aq 119 [.ai 1 (I.map iQ)] (.ai 1 (r.map bl)) [.hole] := by
 refine a0.cF (fx := [0]) cI [.tmp 2] [(0, .ai 1 (I.map iQ))] Try.func119 rfl rfl aaA (Nat.le_of_ble_eq_true rfl) rfl rfl (fun cv aJ cD => ?_)
 refine ws _ ?_
 refine ws _ ?_
 refine aZ (fun lE gW fw aW => ?_)
 refine ws _ ?_
 refine cd (fun gD fk el cc bu => ?_)
 have gX : ∀ (n : Nat) (bK : Int) (dL : Int), p4 I n bK dL = some r → eg aq Iv gD (R [(0, .ai 1 (I.map iQ)), (3, .int .i64 bK), (9, .h 0 []), (10, .int .i64 (I.length : Int)), (11, .int .i64 dL)]) := by
  intro c6
  induction c6 with
  | zero => intro bK dL h; cases (show none = some r from h)
  | succ c6 gC =>
   intro bK dL h
   replace h : yL (p4 I c6) I bK dL = some r := h
   refine ew (fun fj dO eR bq => ?_)
   refine ws _ ?_
   refine aZ (fun hG fM gS b8 => ?_)
   rcases bk h with ⟨cM, h⟩ | ⟨cM, h⟩
   ·refine bp (congrArg j.bool cM) ?_
    simp only [cM, aO.down]
    refine bF (fM _ (.inl ?_))
    have wg : ∀ (jM : Int) (jN : Int), CD (p4 I c6) I jM jN = some r → c4 aq Iu fj (R [(0, .ai 1 (I.map iQ)), (3, .int .i64 jM), (9, .h 0 []), (10, .int .i64 (I.length : Int)), (11, .int .i64 jN), (20, .bool false)]) := by
     intro jM jN h
     refine wr _ ?_
     exact dO _ (.inr ⟨_, cb rfl, gC jM (IntKind.i64.wrap (jN + 1)) h⟩)
    refine aZ (fun f_ c5 dR dE => ?_)
    refine cd (fun mu h2 kG c2 kF => ?_)
    obtain ⟨aj, fc, h⟩ := aT h
    refine cQ (b0 [(0, .ai 1 (I.map iQ)), (3, .int .i64 bK), (5, .h 0 [Int.toNat dL]), (9, .h 0 []), (10, .int .i64 (I.length : Int)), (11, .int .i64 dL)] (fun P al => ?_) ?_)
    ·simp only [aX.down, simprocAttr, eD, e8, fC, eU, ra, aR, bl, iQ, fc, dD fc, xK]
     (try simp only [bs.down, simprocAttr, aR, bl, iQ, fc, dD fc, xK] at al ⊢); exact al
    refine fG (dD fc) _ ?_
    refine ws _ ?_
    rcases bk h with ⟨dS, h⟩ | ⟨dS, h⟩
    ·refine bp (congrArg j.bool dS) ?_
     simp only [dS, aO.down]
     cases h
    ·refine bB (congrArg j.bool dS) ?_
     simp only [dS, aO.down]
     exact bF (h2 _ (c5 _ (.inr ⟨_, cb rfl, wg (IntKind.i64.wrap (bK + (aj.length : Int))) dL h⟩)))
   ·refine bB (congrArg j.bool cM) ?_
    simp only [cM, aO.down]
    refine eu (b8 0 _ (bq 0 _ (cc _ (gW _ (.inl ?_)))))
    obtain ⟨aF, iC, h⟩ := aT h
    refine eI (Ji bK _ iC) _ ?_
    refine aZ (fun qd l1 nJ kZ => ?_)
    refine ws _ ?_
    refine cd (fun tB zr CU iR oY => ?_)
    have wh : ∀ (n : Nat) (lY : List (Bool × (List (List aA)))) (eV : List (List aA)) (eM : Int), p3 I n lY eV eM = some r → eg aq Iw tB (R [(0, .ai 1 (lY.map oZ)), (6, .ai 1 (eV.map bl)), (25, .h 0 []), (26, .int .i64 (I.length : Int)), (27, .int .i64 eM)]) := by
     intro nN
     induction nN with
     | zero => intro lY eV eM h; cases (show none = some r from h)
     | succ nN wi =>
      intro lY eV eM h
      replace h : yK (p3 I nN) I lY eV eM = some r := h
      refine ew (fun rO lF o3 m4 => ?_)
      refine ws _ ?_
      refine aZ (fun v_ qh zu rR => ?_)
      rcases bk h with ⟨hv, h⟩ | ⟨hv, h⟩
      ·refine bp (congrArg j.bool hv) ?_
       simp only [hv, aO.down]
       refine bF (qh _ (.inl ?_))
       refine aZ (fun zs o4 zt v9 => ?_)
       refine cd (fun Jj wj Jk l3 Jl => ?_)
       obtain ⟨aW, iT, h⟩ := aT h
       obtain ⟨ag0, nL, h⟩ := aT h
       refine cQ (b0 [(0, .ai 1 (lY.map oZ)), (6, .ai 1 (eV.map bl)), (8, .h 0 [Int.toNat eM]), (25, .h 0 []), (26, .int .i64 (I.length : Int)), (27, .int .i64 eM)] (fun P al => ?_) ?_)
       ·simp only [aX.down, simprocAttr, eD, e8, fC, eU, ra, aR, bl, iQ, iT, dD iT, vQ, zd, (ze nL), xK]
        (try simp only [bs.down, simprocAttr, aR, bl, iQ, iT, dD iT, vQ, zd, (ze nL), xK] at al ⊢); exact al
       obtain ⟨ag0, o5, h⟩ := aT h
       (try simp only [List.length_append, List.length_cons, List.length_nil, List.length_map, List.length_replicate, Nat.zero_add, Nat.add_zero, Nat.reduceAdd] at o5)
       refine hs (b0 [(0, .ai 1 ((List.set lY (Int.toNat eM) (true, aW.2)).map oZ)), (6, .ai 1 ((eV ++ aW.2).map bl)), (25, .h 0 []), (26, .int .i64 (I.length : Int)), (27, .int .i64 eM)] (fun P al => ?_) ?_)
       ·simp only [aX.down, simprocAttr, eD, e8, fC, eU, aR, bl, iQ, @dc aq 88 88 87 rfl rfl, dd, de, cm, all_cons, all_nil, dD iT, vQ, zd, (ze nL), o5, @db _ bl 1 (fun _ => rfl)]
        (try simp only [bs.down, simprocAttr, aR, bl, iQ, @dc aq 88 88 87 rfl rfl, dd, de, cm, all_cons, all_nil, dD iT, vQ, zd, (ze nL), o5, @db _ bl 1 (fun _ => rfl)] at al ⊢); exact al
       refine wj _ (o4 _ (.inl ?_))
       refine wr [(0, .ai 1 ((List.set lY (Int.toNat eM) (true, aW.2)).map oZ)), (6, .ai 1 ((eV ++ aW.2).map bl)), (25, .h 0 []), (26, .int .i64 (I.length : Int)), (27, .int .i64 (IntKind.i64.wrap (eM + 1)))] ?_
       exact lF _ (.inr ⟨_, cb rfl, wi (List.set lY (Int.toNat eM) (true, aW.2)) (eV ++ aW.2) (IntKind.i64.wrap (eM + 1)) h⟩)
      ·refine bB (congrArg j.bool hv) ?_
       simp only [hv, aO.down]
       refine eu (rR 2 _ (m4 2 _ (iR _ (l1 _ (.inl ?_)))))
       refine ws _ ?_
       exact a6 (aJ _ (.inl (a7 [.ai 1 (eV.map bl)] rfl (by cases a4 h; rfl) (by decide) (s6 (s7 (s8))))))
    obtain ⟨n, h⟩ := et h
    exact ev (.inr ⟨_, OR [0] [] rfl rfl (OT (t := 0) (d := .ai 1 (I.map iQ)) (bw := .ai 1 ((List.map (fun x => (false, x)) I).map oZ)) rfl rfl (Cd vQ _) rfl rfl (by decide) (xB (t := 6) (d := .ai 1 []) rfl (xB (t := 25) (d := .h 0 []) rfl (xB (t := 26) (d := .int .i64 (I.length : Int)) rfl (xB (t := 27) (d := .int .i64 0) rfl (OS)))))), wh n (List.map (fun x => (false, x)) I) [] 0 h⟩)
 obtain ⟨n, h⟩ := et h
 exact ev (.inr ⟨_, cb rfl, gX n 0 0 h⟩)
theorem Jt (I : aY) (aa : List aA) (a9 : bc) (r : (List aA)) (h : vx I aa a9 = some r) : a0 aq 121 [bm I, .slice (aa.map aR), .ref (bj a9)] (.ai 2 (r.map aR)) [] := by
 refine a0.cF (fx := [0, 1, 2]) cI [.tmp 5] [(0, bm I), (1, .slice (aa.map aR)), (2, .ref (bj a9))] Try.func121 rfl rfl aaD (Nat.le_of_ble_eq_true rfl) rfl rfl (fun cv aJ cD => ?_)
 refine ws _ ?_
 obtain ⟨aj, bf, h⟩ := aT h
 refine eI (Jo aa 0 a9.aV _ bf) _ ?_
 exact a6 (aJ _ (.inl (a7 [.ai 2 (aj.map aR)] rfl (by cases a4 h; rfl) (by decide) a_)))
theorem Ju (I : List (List aA)) (aa : bc) (a9 : aY) (r : (List (List aA))) (h : vy I aa a9 = some r) : a0 aq 107 [.slice (I.map bC), .ref (.fn 121 [.ref (bj aa)]), .ref (bm a9)] (.ai 1 (r.map bl)) [] := by
 refine a0.cF (fx := [0, 1, 2]) cI [.tmp 4] [(0, .slice (I.map bC)), (1, .ref (.fn 121 [.ref (bj aa)])), (2, .ref (bm a9))] Try.func107 rfl rfl aaN (Nat.le_of_ble_eq_true rfl) rfl rfl (fun cv aJ cD => ?_)
 refine ws _ ?_
 refine ws _ ?_
 refine aZ (fun lE gW fw aW => ?_)
 refine ws _ ?_
 refine cd (fun gD fk el cc bu => ?_)
 have gX : ∀ (n : Nat) (cq : List (List aA)) (hE : Int), ry I aa a9 n cq hE = some r → eg aq Ix gD (R [(1, .ref (.fn 121 [.ref (bj aa)])), (2, .ref (bm a9)), (5, .ai 1 (cq.map bl)), (8, .slice (I.map bC)), (9, .int .i64 (I.length : Int)), (10, .int .i64 hE)]) := by
  intro c6
  induction c6 with
  | zero => intro cq hE h; cases (show none = some r from h)
  | succ c6 gC =>
   intro cq hE h
   replace h : yM (ry I aa a9 c6) I aa a9 cq hE = some r := h
   refine ew (fun fj dO eR bq => ?_)
   refine ws _ ?_
   refine aZ (fun hG fM gS b8 => ?_)
   rcases bk h with ⟨cM, h⟩ | ⟨cM, h⟩
   ·refine bp (congrArg j.bool cM) ?_
    simp only [cM, aO.down]
    refine bF (fM _ (.inl ?_))
    refine aZ (fun f_ c5 dR dE => ?_)
    refine cd (fun iB eW hU fI gh => ?_)
    obtain ⟨aj, eP, h⟩ := aT h
    refine fG eP _ ?_
    obtain ⟨aF, eA, h⟩ := aT h
    obtain ⟨CM, dw, h⟩ := aT h
    (try simp only [List.length_append, List.length_cons, List.length_nil, List.length_map, List.length_replicate, Nat.zero_add, Nat.add_zero, Nat.reduceAdd] at dw)
    refine hs (b0 [(1, .ref (.fn 121 [.ref (bj aa)])), (2, .ref (bm a9)), (5, .ai 1 ((cq ++ [aF]).map bl)), (8, .slice (I.map bC)), (9, .int .i64 (I.length : Int)), (10, .int .i64 hE)] (fun P al => ?_) ?_)
    ·simp only [aX.down, simprocAttr, zi.down, @ei aq 88 87 1 1 [.af] rfl rfl rfl (by kernel_rfl), eh, du, dn, dv, cC, cm, List.nil_append, List.cons_append, @dc aq 88 88 87 rfl rfl, dd, de, all_cons, all_nil, dw, @db _ bl 1 (fun _ => rfl)]
     refine ey (Jt a9 aj aa _ eA) rfl rfl rfl rfl (.inl (by rfl)) ?_
     simp only [aX.down, simprocAttr, zi.down, @ei aq 88 87 1 1 [.af] rfl rfl rfl (by kernel_rfl), eh, du, dn, dv, cC, cm, List.nil_append, List.cons_append, @dc aq 88 88 87 rfl rfl, dd, de, all_cons, all_nil, dw, @db _ bl 1 (fun _ => rfl)]
     (try simp only [bs.down, simprocAttr, zj.down, @ei aq 88 87 1 1 [.af] rfl rfl rfl (by kernel_rfl), eh, du, dn, dv, cC, cm, List.nil_append, List.cons_append, @dc aq 88 88 87 rfl rfl, dd, de, all_cons, all_nil, dw, @db _ bl 1 (fun _ => rfl)] at al ⊢); exact al
    refine eW _ (c5 _ (.inl ?_))
    refine wr [(1, .ref (.fn 121 [.ref (bj aa)])), (2, .ref (bm a9)), (5, .ai 1 ((cq ++ [aF]).map bl)), (8, .slice (I.map bC)), (9, .int .i64 (I.length : Int)), (10, .int .i64 (IntKind.i64.wrap (hE + 1)))] ?_
    exact dO _ (.inr ⟨_, cb rfl, gC (cq ++ [aF]) (IntKind.i64.wrap (hE + 1)) h⟩)
   ·refine bB (congrArg j.bool cM) ?_
    simp only [cM, aO.down]
    refine eu (b8 0 _ (bq 0 _ (cc _ (gW _ (.inl ?_)))))
    refine ws _ ?_
    exact a6 (aJ _ (.inl (a7 [.ai 1 (cq.map bl)] rfl (by cases a4 h; rfl) (by decide) a_)))
 obtain ⟨n, h⟩ := et h
 exact ev (.inr ⟨_, jd [] rfl (dQ (t := 1) (d := .ref (.fn 121 [.ref (bj aa)])) rfl (dQ (t := 2) (d := .ref (bm a9)) rfl (i2 (t := 5) (d := .af) (bw := .ai 1 []) rfl rfl (.gq _) (by decide) (dQ (t := 8) (d := .slice (I.map bC)) rfl (dQ (t := 9) (d := .int .i64 (I.length : Int)) rfl (dQ (t := 10) (d := .int .i64 0) rfl (je))))))), gX n [] 0 h⟩)
theorem ag1 (I : bc) (aa : bc) (r : bc) (h : yO I aa = some r) : a0 aq 71 [bj I, .fn 121 [.ref (bj aa)]] (dC r) [] := by
 refine a0.cF (fx := [0, 1]) cI [.cell 4 47] [(0, bj I), (1, .fn 121 [.ref (bj aa)])] Try.func71 rfl rfl aaY (Nat.le_of_ble_eq_true rfl) rfl rfl (fun cv aJ cD => ?_)
 refine cQ (b0 [(2, .aG (bj I)), (3, .ref (.fn 121 [.ref (bj aa)])), (4, .aG (.agg [.int .i64 0, .af, .af]))] (fun P al => ?_) ?_)
 ·simp only [aX.down, simprocAttr, eD, fX, hf, jL, lV, e8, fC, h0, xR, eU, aD, bj, bm, aR, bC, lr, (show ∀ s, hL s (.fn 121 [.ref (.agg [.int .i64 aa.aV, .slice (aa.Start.map aD), .slice (aa.bG.map bm)])]) = some (.ref (.fn 121 [.ref (.agg [.int .i64 aa.aV, .slice (aa.Start.map aD), .slice (aa.bG.map bm)])]), s) from fun s => rfl)]
  (try simp only [bs.down, simprocAttr, i5.down, lr, (show ∀ s, hL s (.fn 121 [.ref (.agg [.int .i64 aa.aV, .slice (aa.Start.map aD), .slice (aa.bG.map bm)])]) = some (.ref (.fn 121 [.ref (.agg [.int .i64 aa.aV, .slice (aa.Start.map aD), .slice (aa.bG.map bm)])]), s) from fun s => rfl)] at al ⊢); exact al
 obtain ⟨aj, bf, h⟩ := aT h
 refine jb rfl (ik [(2, .aG (bj I)), (3, .ref (.fn 121 [.ref (bj aa)])), (4, .aG (.agg [.int .i64 0, .af, .af])), (5, .aG (.agg [.int .i64 I.aV, .ai 1 (aj.map aD), .af]))] (fun P al => ?_) ?_)
 ·simp only [cP.down, simprocAttr, hg.down, @g3 aq 47 [(2, 0), (40, 1), (45, 2)] [(.int .i64 0), .af, .af] rfl rfl (by kernel_rfl), gU, du, dn, dv, cC, cm, List.nil_append, List.cons_append]
  refine e7 (zA I.Start _ bf) rfl rfl rfl rfl (.inl (by rfl)) ?_
  simp only [cP.down, simprocAttr, hg.down, @g3 aq 47 [(2, 0), (40, 1), (45, 2)] [(.int .i64 0), .af, .af] rfl rfl (by kernel_rfl), gU, du, dn, dv, cC, cm, List.nil_append, List.cons_append]
  refine ⟨hd (by kernel_rfl), ?_⟩
  (try simp only [bs.down, simprocAttr, i5.down, @g3 aq 47 [(2, 0), (40, 1), (45, 2)] [(.int .i64 0), .af, .af] rfl rfl (by kernel_rfl), gU, du, dn, dv, cC, cm, List.nil_append, List.cons_append] at al ⊢); exact al
 refine aZ (fun fH fu cZ bn => ?_)
 refine ws _ ?_
 refine cd (fun fj dO eR dB bq => ?_)
 have gX : ∀ (n : Nat) (cq : List aY) (hF : Int), rz I aa aj n cq hF = some r → eg aq Iy fj (R [(3, .ref (.fn 121 [.ref (bj aa)])), (4, .aG (.agg [.int .i64 0, .af, .af])), (5, .aG (.agg [.int .i64 I.aV, .ai 1 (aj.map aD), .ai 5 (cq.map br)])), (16, .slice (I.bG.map bm)), (17, .int .i64 (I.bG.length : Int)), (18, .int .i64 hF)]) := by
  intro c6
  induction c6 with
  | zero => intro cq hF h; cases (show none = some r from h)
  | succ c6 gC =>
   intro cq hF h
   replace h : yN (rz I aa aj c6) I aa aj cq hF = some r := h
   refine ew (fun jA fZ hc cj => ?_)
   refine ws _ ?_
   refine aZ (fun ht eN eJ cL => ?_)
   rcases bk h with ⟨c7, h⟩ | ⟨c7, h⟩
   ·refine bp (congrArg j.bool c7) ?_
    simp only [c7, aO.down]
    refine bF (eN _ (.inl ?_))
    refine aZ (fun iB eW hU gh => ?_)
    refine cd (fun mu h2 kG c2 kF => ?_)
    obtain ⟨aF, fc, h⟩ := aT h
    refine fG fc _ ?_
    refine ws _ ?_
    obtain ⟨aW, gN, h⟩ := aT h
    obtain ⟨bn, gO, h⟩ := aT h
    obtain ⟨bu, jB, h⟩ := aT h
    obtain ⟨bq, iC, h⟩ := aT h
    obtain ⟨agY, h5, h⟩ := aT h
    (try simp only [List.length_append, List.length_cons, List.length_nil, List.length_map, List.length_replicate, Nat.zero_add, Nat.add_zero, Nat.reduceAdd] at h5)
    refine xz rfl (ik [(3, .ref (.fn 121 [.ref (bj aa)])), (4, .aG (.agg [.int .i64 0, .af, .af])), (5, .aG (.agg [.int .i64 I.aV, .ai 1 (aj.map aD), .ai 5 ((cq ++ [(aY.mk aW bn aF.Name bu bq)]).map br)])), (16, .slice (I.bG.map bm)), (17, .int .i64 (I.bG.length : Int)), (18, .int .i64 hF)] (fun P al => ?_) ?_)
    ·simp only [cP.down, simprocAttr, lZ.down, @g3 aq 90 [(40, 0), (87, 1), (9, 2), (88, 3), (88, 4)] [.af, .af, (.str []), .af, .af] rfl rfl (by kernel_rfl), gU, du, dn, dv, cC, cm, List.nil_append, List.cons_append, @ei aq 45 90 1 5 [(.agg [.af, .af, (.str []), .af, .af])] rfl rfl rfl (by kernel_rfl), eh, @dc aq 45 45 90 rfl rfl, dd, de, all_cons, all_nil, h5, @db _ br 5 (fun _ => rfl)]
     refine e7 (zA aF.bo _ gN) rfl rfl rfl rfl (.inl (by rfl)) ?_
     simp only [cP.down, simprocAttr, lZ.down, @g3 aq 90 [(40, 0), (87, 1), (9, 2), (88, 3), (88, 4)] [.af, .af, (.str []), .af, .af] rfl rfl (by kernel_rfl), gU, du, dn, dv, cC, cm, List.nil_append, List.cons_append, @ei aq 45 90 1 5 [(.agg [.af, .af, (.str []), .af, .af])] rfl rfl rfl (by kernel_rfl), eh, @dc aq 45 45 90 rfl rfl, dd, de, all_cons, all_nil, h5, @db _ br 5 (fun _ => rfl)]
     refine e7 (Jt aF aF.Guard aa _ gO) rfl rfl rfl rfl (.inl (by rfl)) ?_
     simp only [cP.down, simprocAttr, lZ.down, @g3 aq 90 [(40, 0), (87, 1), (9, 2), (88, 3), (88, 4)] [.af, .af, (.str []), .af, .af] rfl rfl (by kernel_rfl), gU, du, dn, dv, cC, cm, List.nil_append, List.cons_append, @ei aq 45 90 1 5 [(.agg [.af, .af, (.str []), .af, .af])] rfl rfl rfl (by kernel_rfl), eh, @dc aq 45 45 90 rfl rfl, dd, de, all_cons, all_nil, h5, @db _ br 5 (fun _ => rfl)]
     refine e7 (Ju aF.bH aa aF _ jB) rfl rfl (by simp only [cP.down, simprocAttr, lZ.down, @g3 aq 90 [(40, 0), (87, 1), (9, 2), (88, 3), (88, 4)] [.af, .af, (.str []), .af, .af] rfl rfl (by kernel_rfl), gU, du, dn, dv, cC, cm, List.nil_append, List.cons_append, @ei aq 45 90 1 5 [(.agg [.af, .af, (.str []), .af, .af])] rfl rfl rfl (by kernel_rfl), eh, @dc aq 45 45 90 rfl rfl, dd, de, all_cons, all_nil, h5, @db _ br 5 (fun _ => rfl), eZ, e0, e1, dy, @bx _ aD aD (fun _ => dX _), @bx _ aR aR (fun _ => k1 _), @bx _ bC bC (fun _ => jk _), @bx _ bC bC (fun _ => jk _)] <;> rfl) rfl (.inr (kC (fun _ => qa _) _)) ?_
     simp only [cP.down, simprocAttr, lZ.down, @g3 aq 90 [(40, 0), (87, 1), (9, 2), (88, 3), (88, 4)] [.af, .af, (.str []), .af, .af] rfl rfl (by kernel_rfl), gU, du, dn, dv, cC, cm, List.nil_append, List.cons_append, @ei aq 45 90 1 5 [(.agg [.af, .af, (.str []), .af, .af])] rfl rfl rfl (by kernel_rfl), eh, @dc aq 45 45 90 rfl rfl, dd, de, all_cons, all_nil, h5, @db _ br 5 (fun _ => rfl)]
     refine e7 (Ju aF.Next aa aF _ iC) rfl rfl (by simp only [cP.down, simprocAttr, lZ.down, @g3 aq 90 [(40, 0), (87, 1), (9, 2), (88, 3), (88, 4)] [.af, .af, (.str []), .af, .af] rfl rfl (by kernel_rfl), gU, du, dn, dv, cC, cm, List.nil_append, List.cons_append, @ei aq 45 90 1 5 [(.agg [.af, .af, (.str []), .af, .af])] rfl rfl rfl (by kernel_rfl), eh, @dc aq 45 45 90 rfl rfl, dd, de, all_cons, all_nil, h5, @db _ br 5 (fun _ => rfl), eZ, e0, e1, dy, @bx _ aD aD (fun _ => dX _), @bx _ aR aR (fun _ => k1 _), @bx _ bC bC (fun _ => jk _), @bx _ bC bC (fun _ => jk _)] <;> rfl) rfl (.inr (kC (fun _ => qa _) _)) ?_
     simp only [cP.down, simprocAttr, lZ.down, @g3 aq 90 [(40, 0), (87, 1), (9, 2), (88, 3), (88, 4)] [.af, .af, (.str []), .af, .af] rfl rfl (by kernel_rfl), gU, du, dn, dv, cC, cm, List.nil_append, List.cons_append, @ei aq 45 90 1 5 [(.agg [.af, .af, (.str []), .af, .af])] rfl rfl rfl (by kernel_rfl), eh, @dc aq 45 45 90 rfl rfl, dd, de, all_cons, all_nil, h5, @db _ br 5 (fun _ => rfl)]
     refine ⟨hd (by kernel_rfl), ?_⟩
     (try simp only [bs.down, simprocAttr, nI.down, @g3 aq 90 [(40, 0), (87, 1), (9, 2), (88, 3), (88, 4)] [.af, .af, (.str []), .af, .af] rfl rfl (by kernel_rfl), gU, du, dn, dv, cC, cm, List.nil_append, List.cons_append, @ei aq 45 90 1 5 [(.agg [.af, .af, (.str []), .af, .af])] rfl rfl rfl (by kernel_rfl), eh, @dc aq 45 45 90 rfl rfl, dd, de, all_cons, all_nil, h5, @db _ br 5 (fun _ => rfl)] at al ⊢); exact al
    refine h2 _ (eW _ (.inl ?_))
    refine wr [(3, .ref (.fn 121 [.ref (bj aa)])), (4, .aG (.agg [.int .i64 0, .af, .af])), (5, .aG (.agg [.int .i64 I.aV, .ai 1 (aj.map aD), .ai 5 ((cq ++ [(aY.mk aW bn aF.Name bu bq)]).map br)])), (16, .slice (I.bG.map bm)), (17, .int .i64 (I.bG.length : Int)), (18, .int .i64 (IntKind.i64.wrap (hF + 1)))] ?_
    exact fZ _ (.inr ⟨_, cb rfl, gC (cq ++ [(aY.mk aW bn aF.Name bu bq)]) (IntKind.i64.wrap (hF + 1)) h⟩)
   ·refine bB (congrArg j.bool c7) ?_
    simp only [c7, aO.down]
    refine eu (cL 0 _ (cj 0 _ (dB _ (fu _ (.inl ?_)))))
    refine ws _ ?_
    exact a6 (aJ _ (.inl (a7 [dC (bc.mk I.aV aj cq)] rfl (by cases a4 h; rfl) (by decide) a_)))
 obtain ⟨n, h⟩ := et h
 exact ev (.inr ⟨_, jd [] rfl (dQ (t := 3) (d := .ref (.fn 121 [.ref (bj aa)])) rfl (dQ (t := 4) (d := .aG (.agg [.int .i64 0, .af, .af])) rfl (i2 (t := 5) (d := .aG (.agg [.int .i64 I.aV, .ai 1 (aj.map aD), .af])) (bw := .aG (.agg [.int .i64 I.aV, .ai 1 (aj.map aD), .ai 5 []])) rfl rfl (.aG (.agg (.cons (.refl _) (.cons (.refl _) (.cons (.gq _) (.nil)))))) (by decide) (dQ (t := 16) (d := .slice (I.bG.map bm)) rfl (dQ (t := 17) (d := .int .i64 (I.bG.length : Int)) rfl (dQ (t := 18) (d := .int .i64 0) rfl (je))))))), gX n [] 0 h⟩)
end Go.Proofs.Ytjedocbdhlppdaa
