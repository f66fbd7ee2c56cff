/- Part of a proof that a law returns true for every input. No condition. -/
import Derived.Test.YtocllehpepigpaaGreatSl
namespace Go.Proofs.YtocllehpepigpaaGreat
open Go Go.cZ Go.eN
set_option maxRecDepth 100000
set_option maxHeartbeats 4600000
set_option linter.unusedSimpArgs false
set_option linter.unusedVariables false
theorem bT (fx:List Nat) (fC:List ResultVar) {f:FuncId} {fn:Func} {c:Code} {dJ:J} {ins outs:List I} {r:I} (bC:aB.P.funcs[f]? =some fn) (ag:bn ⟨fn.ntmps,fx⟩ c=some dJ.strip)
 (yn:∀Q:Exit→ar→Prop,(∀s,ev (cZ.Ends aB fx fC r outs) s→Q .ret s)→(∀s,ev (cZ.Ends aB fx fC r outs) s→Q .normal s)→dc aB dJ Q (ab (num 0 ins))) (ae:fn.body=some c:=by rfl) (k1:(fn.name== "runtime.NumGoroutine")=false:=by rfl) (a6:ins.length≤fn.ntmps:=by exact Nat.le_of_ble_eq_true rfl) (gv:fn.results.toList=fC:=by rfl) (au:dJ.plain=true:=by kernel_rfl):bl aB f ins r outs:=
 bl.Hg Hp fC (num 0 ins) bC ae k1 ag a6 gv rfl yn au
def kI:=PLift.up (And.intro @eg (And.intro @Nf (And.intro @qd (And.intro @eI (And.intro @tw (And.intro @tx (And.intro @tz (And.intro @k4 (And.intro @B0 (And.intro @B1 (And.intro @q1 (And.intro @nj (And.intro @oG (And.intro @qe (And.intro @wv (And.intro @hU (And.intro @B2 (And.intro @k5 (And.intro @nO (And.intro @qf (And.intro @tA (And.intro @tB (And.intro @tC (And.intro @jw (And.intro @kG (And.intro @nk (And.intro @gh (And.intro @gR (And.intro @hZ (And.intro @qg (And.intro @tD (And.intro @fS (And.intro @nP (And.intro @qh (And.intro @Nh (And.intro @mf (And.intro @mg (And.intro @bs.eq_1 (And.intro @e2.eq_1 (And.intro @bA.eq_1 (And.intro @bz.eq_1 (And.intro @cA.eq_1 (And.intro @bD.eq_1 (And.intro @gz.eq_1 (And.intro @cc.eq_1 (And.intro @dT.eq_1 (And.intro @gK.eq_1 (And.intro @gJ.eq_1 (And.intro @gx.eq_1 (And.intro @gi.eq_1 (And.intro @gy.eq_1 (And.intro @jy.eq_1 (And.intro @fN.eq_1 (And.intro @ey.eq_1 (And.intro @fT.eq_1 (And.intro @bE.eq_1 (And.intro @ff.eq_1 (And.intro @e5.eq_1 (And.intro @fp.eq_1 (And.intro @b6.eq_1 (And.intro @mO.eq_1 @fv.eq_1)))))))))))))))))))))))))))))))))))))))))))))))))))))))))))))
theorem ws {Q:Exit→ar→Prop} {l:List (Nat×I)} {ros:List cj} {k:List Nat} {b:J} (eu:List (Nat×I)) (hk:dc aB b Q (ab eu)) (h:∀P:List (Nat×I)→Prop,P eu→cT aB (ab l) ros none (fun _ s=>P (jf k s)):=by
 intro P ai
 simp only[aO.down,simprocAttr,kI.down]
 (try simp only[bb.down,simprocAttr,kI.down]at ai⊢)
 exact ai):dc aB (.seq (.ca ros (some k)) b) Q (ab l):=
 cP (bU eu (h) hk)
theorem dx {Q:Exit→ar→Prop} {l:List (Nat×I)} {ros:List cj} {k:List Nat} {b:J} {g:FuncId} {ds:List I} {r:I} (ok:bl aB g ds r []) (eu:List (Nat×I)) (hk:dc aB b Q (ab eu)) (h:bl aB g ds r []→∀P:List (Nat×I)→Prop,P eu→cT aB (ab l) ros none (fun _ s=>P (jf k s)):=by
 intro uA P ai
 (try simp only[aO.down,simprocAttr,kI.down])
 refine e1 uA rfl rfl rfl rfl (.inl (by rfl)) ?_
 simp only[aO.down,simprocAttr,kI.down]
 (try simp only[bb.down,simprocAttr,kI.down]at ai⊢)
 exact ai):dc aB (.seq (.ca ros (some k)) b) Q (ab l):=
 cP (bU eu (h ok) hk)
theorem hI {F:Prop} (bI:F) {Q:Exit→ar→Prop} {l:List (Nat×I)} {ros:List cj} {k:List Nat} {b:J} (eu:List (Nat×I)) (hk:dc aB b Q (ab eu)) (h:F→∀P:List (Nat×I)→Prop,P eu→cT aB (ab l) ros none (fun _ s=>P (jf k s)):=by
 intro bI P ai
 simp only[aO.down,simprocAttr,kI.down,bI]
 (try simp only[bb.down,simprocAttr,kI.down,bI]at ai⊢)
 exact ai):dc aB (.seq (.ca ros (some k)) b) Q (ab l):=
 cP (bU eu (h bI) hk)
theorem im {F:Prop} (bI:F) {Q:Exit→ar→Prop} {l:List (Nat×I)} {ros:List cj} {k:List Nat} {b:J} {g:FuncId} {ds:List I} {r:I} (ok:bl aB g ds r []) (eu:List (Nat×I)) (hk:dc aB b Q (ab eu)) (h:bl aB g ds r []→F→∀P:List (Nat×I)→Prop,P eu→cT aB (ab l) ros none (fun _ s=>P (jf k s)):=by
 intro uA bI P ai
 (try simp only[aO.down,simprocAttr,kI.down,bI])
 refine e1 uA rfl rfl rfl rfl (.inl (by rfl)) ?_
 simp only[aO.down,simprocAttr,kI.down,bI]
 (try simp only[bb.down,simprocAttr,kI.down,bI]at ai⊢)
 exact ai):dc aB (.seq (.ca ros (some k)) b) Q (ab l):=
 cP (bU eu (h ok bI) hk)
theorem wr {Q:Exit→ar→Prop} {l:List (Nat×I)} {ros:List cj} {k:List Nat} (eu:List (Nat×I)) (hk:Q .normal (ab eu)) (h:∀P:List (Nat×I)→Prop,P eu→cT aB (ab l) ros none (fun _ s=>P (jf k s)):=by
 intro P ai
 simp only[aO.down,simprocAttr,kI.down]
 (try simp only[bb.down,simprocAttr,kI.down]at ai⊢)
 exact ai):dc aB (.ca ros (some k)) Q (ab l):=
 jV (bU eu (h) hk)
theorem axp {Q:Exit→ar→Prop} {l:List (Nat×I)} {ros:List cj} {k:List Nat} {g:FuncId} {ds:List I} {r:I} (ok:bl aB g ds r []) (eu:List (Nat×I)) (hk:Q .normal (ab eu)) (h:bl aB g ds r []→∀P:List (Nat×I)→Prop,P eu→cT aB (ab l) ros none (fun _ s=>P (jf k s)):=by
 intro uA P ai
 (try simp only[aO.down,simprocAttr,kI.down])
 refine e1 uA rfl rfl rfl rfl (.inl (by rfl)) ?_
 simp only[aO.down,simprocAttr,kI.down]
 (try simp only[bb.down,simprocAttr,kI.down]at ai⊢)
 exact ai):dc aB (.ca ros (some k)) Q (ab l):=
 jV (bU eu (h ok) hk)
theorem axq {F:Prop} (bI:F) {Q:Exit→ar→Prop} {l:List (Nat×I)} {ros:List cj} {k:List Nat} (eu:List (Nat×I)) (hk:Q .normal (ab eu)) (h:F→∀P:List (Nat×I)→Prop,P eu→cT aB (ab l) ros none (fun _ s=>P (jf k s)):=by
 intro bI P ai
 simp only[aO.down,simprocAttr,kI.down,bI]
 (try simp only[bb.down,simprocAttr,kI.down,bI]at ai⊢)
 exact ai):dc aB (.ca ros (some k)) Q (ab l):=
 jV (bU eu (h bI) hk)
theorem H_ {F:Prop} (bI:F) {Q:Exit→ar→Prop} {l:List (Nat×I)} {ros:List cj} {k:List Nat} {g:FuncId} {ds:List I} {r:I} (ok:bl aB g ds r []) (eu:List (Nat×I)) (hk:Q .normal (ab eu)) (h:bl aB g ds r []→F→∀P:List (Nat×I)→Prop,P eu→cT aB (ab l) ros none (fun _ s=>P (jf k s)):=by
 intro uA bI P ai
 (try simp only[aO.down,simprocAttr,kI.down,bI])
 refine e1 uA rfl rfl rfl rfl (.inl (by rfl)) ?_
 simp only[aO.down,simprocAttr,kI.down,bI]
 (try simp only[bb.down,simprocAttr,kI.down,bI]at ai⊢)
 exact ai):dc aB (.ca ros (some k)) Q (ab l):=
 jV (bU eu (h ok bI) hk)
def hy:=PLift.up (And.intro @eI (And.intro @qe (And.intro @nk @bz.eq_1)))
def iq:=PLift.up (And.intro @bA.eq_1 (And.intro @cA.eq_1 (And.intro @cc.eq_1 @ey.eq_1)))
def jn:=PLift.up (And.intro @eg (And.intro @eI (And.intro @nj (And.intro @jw (And.intro @kG (And.intro @gh (And.intro @gR (And.intro @hZ (And.intro @fS (And.intro @bA.eq_1 (And.intro @cA.eq_1 (And.intro @cc.eq_1 @ey.eq_1))))))))))))
def kb:=PLift.up (And.intro @bs.eq_1 (And.intro @bD.eq_1 @b6.eq_1))
def kJ:=PLift.up (And.intro @eg (And.intro @eI (And.intro @k4 (And.intro @nj (And.intro @oG (And.intro @qe (And.intro @wv (And.intro @hU (And.intro @nO (And.intro @jw (And.intro @kG (And.intro @nk (And.intro @gh (And.intro @gR (And.intro @hZ (And.intro @fS (And.intro @bs.eq_1 (And.intro @bz.eq_1 (And.intro @cc.eq_1 (And.intro @bE.eq_1 (And.intro @ff.eq_1 (And.intro @e5.eq_1 (And.intro @fp.eq_1 @fv.eq_1)))))))))))))))))))))))
def kK:=PLift.up (And.intro @bs.eq_1 (And.intro @bD.eq_1 (And.intro @gK.eq_1 (And.intro @gJ.eq_1 (And.intro @gx.eq_1 (And.intro @gi.eq_1 (And.intro @gy.eq_1 (And.intro @jy.eq_1 (And.intro @fN.eq_1 (And.intro @fT.eq_1 (And.intro @bE.eq_1 @b6.eq_1)))))))))))
def lT:=PLift.up (And.intro @bs.eq_1 (And.intro @bz.eq_1 (And.intro @bD.eq_1 (And.intro @cc.eq_1 (And.intro @gK.eq_1 (And.intro @gJ.eq_1 (And.intro @gx.eq_1 (And.intro @gi.eq_1 (And.intro @gy.eq_1 (And.intro @jy.eq_1 (And.intro @fN.eq_1 (And.intro @fT.eq_1 (And.intro @bE.eq_1 (And.intro @ff.eq_1 (And.intro @e5.eq_1 (And.intro @fp.eq_1 (And.intro @b6.eq_1 (And.intro @mO.eq_1 @fv.eq_1))))))))))))))))))
def mQ:=PLift.up (And.intro @bs.eq_1 @b6.eq_1)
def nr:=PLift.up (And.intro @cA.eq_1 (And.intro @cc.eq_1 @ey.eq_1))
def ns:=PLift.up (And.intro @eg (And.intro @q1 (And.intro @hU (And.intro @k5 (And.intro @bs.eq_1 (And.intro @bD.eq_1 @b6.eq_1))))))
def nW:=PLift.up (And.intro @eg (And.intro @hU @bs.eq_1))
def nX:=PLift.up (And.intro @eg (And.intro @gh (And.intro @fS @cc.eq_1)))
def nY:=PLift.up (And.intro @eI (And.intro @nk @bz.eq_1))
def nZ:=PLift.up (And.intro @bA.eq_1 (And.intro @cA.eq_1 (And.intro @cc.eq_1 (And.intro @dT.eq_1 @ey.eq_1))))
def oQ:=PLift.up (And.intro @eg (And.intro @eI (And.intro @gh (And.intro @gR (And.intro @hZ (And.intro @fS (And.intro @cA.eq_1 (And.intro @cc.eq_1 @ey.eq_1))))))))
def pz:=PLift.up (And.intro @eg (And.intro @eI (And.intro @k4 (And.intro @nj (And.intro @oG (And.intro @qe (And.intro @wv (And.intro @hU (And.intro @nO (And.intro @jw (And.intro @kG (And.intro @nk (And.intro @gh (And.intro @gR (And.intro @hZ (And.intro @fS (And.intro @bs.eq_1 (And.intro @e2.eq_1 (And.intro @bA.eq_1 (And.intro @bz.eq_1 (And.intro @cA.eq_1 (And.intro @gz.eq_1 (And.intro @cc.eq_1 (And.intro @ey.eq_1 @bE.eq_1))))))))))))))))))))))))
def qk:=PLift.up (And.intro @eg (And.intro @eI (And.intro @jw (And.intro @kG (And.intro @gh (And.intro @gR (And.intro @hZ (And.intro @fS (And.intro @bA.eq_1 (And.intro @cA.eq_1 (And.intro @cc.eq_1 @ey.eq_1)))))))))))
def ql:=PLift.up (And.intro @eg (And.intro @eI (And.intro @nj (And.intro @jw (And.intro @kG (And.intro @gh (And.intro @gR (And.intro @hZ (And.intro @fS (And.intro @bA.eq_1 (And.intro @cA.eq_1 (And.intro @cc.eq_1 (And.intro @dT.eq_1 @ey.eq_1)))))))))))))
def q8:=PLift.up (And.intro @bs.eq_1 @bD.eq_1)
def sj:=PLift.up (And.intro @bs.eq_1 (And.intro @e2.eq_1 (And.intro @bA.eq_1 (And.intro @bz.eq_1 (And.intro @cA.eq_1 (And.intro @gz.eq_1 (And.intro @cc.eq_1 (And.intro @ey.eq_1 (And.intro @bE.eq_1 @b6.eq_1)))))))))
def uB:=PLift.up (And.intro @bs.eq_1 (And.intro @bA.eq_1 (And.intro @cA.eq_1 (And.intro @bD.eq_1 (And.intro @cc.eq_1 @ey.eq_1)))))
def uC:=PLift.up (And.intro @eg (And.intro @hU (And.intro @k5 (And.intro @bs.eq_1 (And.intro @bA.eq_1 (And.intro @cA.eq_1 (And.intro @bD.eq_1 (And.intro @cc.eq_1 @ey.eq_1))))))))
def uD:=PLift.up (And.intro @eg (And.intro @eI (And.intro @nj (And.intro @hU (And.intro @nO (And.intro @jw (And.intro @kG (And.intro @gh (And.intro @gR (And.intro @hZ (And.intro @fS (And.intro @bs.eq_1 (And.intro @e2.eq_1 (And.intro @bA.eq_1 (And.intro @cA.eq_1 (And.intro @cc.eq_1 @ey.eq_1))))))))))))))))
def uE:=PLift.up (And.intro @eg (And.intro @eI (And.intro @jw (And.intro @gh (And.intro @gR (And.intro @hZ (And.intro @fS (And.intro @cc.eq_1 (And.intro @fp.eq_1 @fv.eq_1)))))))))
def wX:=PLift.up (And.intro @bs.eq_1 (And.intro @e2.eq_1 (And.intro @bA.eq_1 (And.intro @bz.eq_1 (And.intro @cA.eq_1 (And.intro @gz.eq_1 (And.intro @cc.eq_1 (And.intro @ey.eq_1 @bE.eq_1))))))))
def wY:=PLift.up (And.intro @eg (And.intro @eI (And.intro @k4 (And.intro @q1 (And.intro @nj (And.intro @oG (And.intro @qe (And.intro @wv (And.intro @hU (And.intro @k5 (And.intro @nO (And.intro @jw (And.intro @kG (And.intro @nk (And.intro @gh (And.intro @gR (And.intro @hZ (And.intro @fS (And.intro @bs.eq_1 (And.intro @e2.eq_1 (And.intro @bA.eq_1 (And.intro @bz.eq_1 (And.intro @cA.eq_1 (And.intro @bD.eq_1 (And.intro @gz.eq_1 (And.intro @cc.eq_1 (And.intro @ey.eq_1 @bE.eq_1)))))))))))))))))))))))))))
def wZ:=PLift.up (And.intro @eg (And.intro @Nf (And.intro @hU (And.intro @k5 (And.intro @Nh (And.intro @bs.eq_1 @bD.eq_1))))))
def w1:=PLift.up (And.intro @eg (And.intro @eI (And.intro @nj (And.intro @jw (And.intro @kG (And.intro @gh (And.intro @gR (And.intro @hZ (And.intro @fS (And.intro @cc.eq_1 (And.intro @e5.eq_1 (And.intro @fp.eq_1 @fv.eq_1))))))))))))
def w2:=PLift.up (And.intro @bs.eq_1 (And.intro @bz.eq_1 (And.intro @cc.eq_1 (And.intro @bE.eq_1 (And.intro @ff.eq_1 (And.intro @e5.eq_1 (And.intro @fp.eq_1 @fv.eq_1)))))))
def w3:=PLift.up (And.intro @eg (And.intro @eI (And.intro @k4 (And.intro @nj (And.intro @oG (And.intro @qe (And.intro @wv (And.intro @hU (And.intro @nO (And.intro @jw (And.intro @kG (And.intro @nk (And.intro @gh (And.intro @gR (And.intro @hZ (And.intro @fS (And.intro @bs.eq_1 (And.intro @bz.eq_1 (And.intro @bD.eq_1 (And.intro @cc.eq_1 (And.intro @gK.eq_1 (And.intro @gJ.eq_1 (And.intro @gx.eq_1 (And.intro @gi.eq_1 (And.intro @gy.eq_1 (And.intro @jy.eq_1 (And.intro @fN.eq_1 (And.intro @fT.eq_1 (And.intro @bE.eq_1 (And.intro @ff.eq_1 (And.intro @e5.eq_1 (And.intro @fp.eq_1 (And.intro @b6.eq_1 (And.intro @mO.eq_1 @fv.eq_1))))))))))))))))))))))))))))))))))
def Ad:=PLift.up (And.intro @eg (And.intro @eI (And.intro @gh (And.intro @gR (And.intro @hZ (And.intro @fS (And.intro @bA.eq_1 (And.intro @cA.eq_1 (And.intro @cc.eq_1 @ey.eq_1)))))))))
def Ae:=PLift.up (And.intro @cA.eq_1 (And.intro @cc.eq_1 (And.intro @dT.eq_1 @ey.eq_1)))
def Af:=PLift.up (And.intro @eg (And.intro @eI (And.intro @nj (And.intro @hU (And.intro @k5 (And.intro @jw (And.intro @kG (And.intro @gh (And.intro @gR (And.intro @hZ (And.intro @fS (And.intro @bs.eq_1 (And.intro @bA.eq_1 (And.intro @cA.eq_1 (And.intro @bD.eq_1 (And.intro @cc.eq_1 @ey.eq_1))))))))))))))))
def Ag:=PLift.up (And.intro @eg (And.intro @qd (And.intro @eI (And.intro @hU (And.intro @k5 (And.intro @jw (And.intro @kG (And.intro @gh (And.intro @gR (And.intro @hZ (And.intro @qg (And.intro @tD (And.intro @fS (And.intro @bs.eq_1 (And.intro @bA.eq_1 (And.intro @cA.eq_1 (And.intro @bD.eq_1 (And.intro @cc.eq_1 (And.intro @dT.eq_1 @ey.eq_1)))))))))))))))))))
def Ah:=PLift.up (And.intro @eg (And.intro @q1 (And.intro @hU (And.intro @k5 (And.intro @bs.eq_1 @b6.eq_1)))))
def Ai:=PLift.up (And.intro @eg (And.intro @eI (And.intro @tw (And.intro @tx (And.intro @tz (And.intro @k4 (And.intro @B0 (And.intro @hU (And.intro @qf (And.intro @tA (And.intro @tB (And.intro @tC (And.intro @nP (And.intro @qh (And.intro @mf (And.intro @mg (And.intro @bs.eq_1 (And.intro @e2.eq_1 (And.intro @bA.eq_1 (And.intro @bz.eq_1 (And.intro @cA.eq_1 (And.intro @bD.eq_1 (And.intro @gz.eq_1 (And.intro @cc.eq_1 (And.intro @gK.eq_1 (And.intro @gJ.eq_1 (And.intro @gx.eq_1 (And.intro @gi.eq_1 (And.intro @gy.eq_1 (And.intro @jy.eq_1 (And.intro @fN.eq_1 (And.intro @ey.eq_1 (And.intro @fT.eq_1 (And.intro @bE.eq_1 @b6.eq_1))))))))))))))))))))))))))))))))))
def Aj:=PLift.up (And.intro @eg (And.intro @eI (And.intro @tw (And.intro @tx (And.intro @tz (And.intro @k4 (And.intro @B0 (And.intro @hU (And.intro @qf (And.intro @tA (And.intro @tB (And.intro @tC (And.intro @nP (And.intro @qh (And.intro @mf (And.intro @mg (And.intro @bs.eq_1 (And.intro @bz.eq_1 (And.intro @bD.eq_1 (And.intro @cc.eq_1 (And.intro @gK.eq_1 (And.intro @gJ.eq_1 (And.intro @gx.eq_1 (And.intro @gi.eq_1 (And.intro @gy.eq_1 (And.intro @jy.eq_1 (And.intro @fN.eq_1 (And.intro @fT.eq_1 (And.intro @bE.eq_1 (And.intro @ff.eq_1 (And.intro @e5.eq_1 (And.intro @fp.eq_1 (And.intro @b6.eq_1 (And.intro @mO.eq_1 @fv.eq_1))))))))))))))))))))))))))))))))))
def Ej:=PLift.up (And.intro @eg (And.intro @eI (And.intro @jw (And.intro @gh (And.intro @gR (And.intro @hZ (And.intro @fS (And.intro @cA.eq_1 (And.intro @cc.eq_1 @ey.eq_1)))))))))
def Ek:=PLift.up (And.intro @eg (And.intro @eI (And.intro @hU (And.intro @k5 (And.intro @jw (And.intro @kG (And.intro @gh (And.intro @gR (And.intro @hZ (And.intro @fS (And.intro @bs.eq_1 (And.intro @bA.eq_1 (And.intro @cA.eq_1 (And.intro @bD.eq_1 (And.intro @cc.eq_1 @ey.eq_1)))))))))))))))
def El:=PLift.up (And.intro @eg (And.intro @qd (And.intro @eI (And.intro @gh (And.intro @gR (And.intro @hZ (And.intro @qg (And.intro @fS (And.intro @cA.eq_1 (And.intro @cc.eq_1 (And.intro @dT.eq_1 @ey.eq_1)))))))))))
def Em:=PLift.up (And.intro @eg (And.intro @eI (And.intro @gh (And.intro @gR (And.intro @hZ (And.intro @fS (And.intro @bA.eq_1 (And.intro @cA.eq_1 (And.intro @cc.eq_1 (And.intro @dT.eq_1 @ey.eq_1))))))))))
def En:=PLift.up (And.intro @cc.eq_1 (And.intro @fp.eq_1 @fv.eq_1))
def Eo:=PLift.up (And.intro @eg (And.intro @oG (And.intro @hU (And.intro @nO (And.intro @bs.eq_1 @ff.eq_1)))))
def Ep:=PLift.up (And.intro @eg (And.intro @eI (And.intro @tw (And.intro @tx (And.intro @tz (And.intro @k4 (And.intro @B0 (And.intro @nj (And.intro @oG (And.intro @qe (And.intro @wv (And.intro @hU (And.intro @nO (And.intro @qf (And.intro @tA (And.intro @tB (And.intro @tC (And.intro @jw (And.intro @kG (And.intro @nk (And.intro @gh (And.intro @gR (And.intro @hZ (And.intro @fS (And.intro @nP (And.intro @qh (And.intro @mf (And.intro @mg (And.intro @bs.eq_1 (And.intro @bz.eq_1 (And.intro @bD.eq_1 (And.intro @cc.eq_1 (And.intro @gK.eq_1 (And.intro @gJ.eq_1 (And.intro @gx.eq_1 (And.intro @gi.eq_1 (And.intro @gy.eq_1 (And.intro @jy.eq_1 (And.intro @fN.eq_1 (And.intro @fT.eq_1 (And.intro @bE.eq_1 (And.intro @ff.eq_1 (And.intro @e5.eq_1 (And.intro @fp.eq_1 (And.intro @b6.eq_1 (And.intro @mO.eq_1 @fv.eq_1))))))))))))))))))))))))))))))))))))))))))))))
def Ia:=PLift.up (And.intro @eg (And.intro @qd (And.intro @qg (And.intro @Ng (And.intro @bA.eq_1 (And.intro @cA.eq_1 (And.intro @cc.eq_1 (And.intro @dT.eq_1 @ey.eq_1))))))))
def Ib:=PLift.up (And.intro @eg (And.intro @qd (And.intro @eI (And.intro @jw (And.intro @kG (And.intro @gh (And.intro @gR (And.intro @hZ (And.intro @qg (And.intro @fS (And.intro @Ng (And.intro @bA.eq_1 (And.intro @cA.eq_1 (And.intro @cc.eq_1 (And.intro @dT.eq_1 @ey.eq_1)))))))))))))))
def Ic:=PLift.up (And.intro @eg (And.intro @eI (And.intro @gh (And.intro @gR (And.intro @hZ (And.intro @fS (And.intro @cA.eq_1 (And.intro @cc.eq_1 (And.intro @dT.eq_1 @ey.eq_1)))))))))
def Ie:=PLift.up (And.intro @bs.eq_1 (And.intro @e2.eq_1 (And.intro @bA.eq_1 (And.intro @cA.eq_1 (And.intro @cc.eq_1 @ey.eq_1)))))
theorem axr (a0:List ht) (R:Int) (r:Int) (h:yP a0 R=some r):bl aB 282 [.slice (a0.map fN),.int .i64 R] (.int .i64 r) []:=by
 refine bT [0] [.tmp 4] Tryz.func282 Xx (fun bO al bN=> ?_)
 refine ws _ ?_
 refine ws _ ?_
 refine aI al (fun kq gL di aV=> ?_)
 refine ws _ ?_
 refine aT h (fun cN h=> ?_) (fun cN h=> ?_)
 ·refine ws _ ?_
  exact aD (di _ (.inl (aH [.int .i64 (-1)])))
 ·refine aY (gL _ (.inl ?_))
  refine ws _ ?_
  exact aD (al _ (.inl (aH [.int .i64 (IntKind.i64.wrap (R-(a0.length:Int)))])))
theorem axs (a0:List (List ht)) (R:Int) (r:Int) (h:B4 a0 R=some r):bl aB 239 [.slice (a0.map fT),.int .i64 R] (.int .i64 r) []:=by
 refine bT [0] [.tmp 4] Tryz.func239 XM (fun bO al bN=> ?_)
 refine ws _ ?_
 refine ws _ ?_
 refine aI al (fun kq gL di aV=> ?_)
 refine ws _ ?_
 refine aT h (fun cN h=> ?_) (fun cN h=> ?_)
 ·refine ws _ ?_
  exact aD (di _ (.inl (aH [.int .i64 (-1)])))
 ·refine aY (gL _ (.inl ?_))
  refine aI al (fun gZ n7 dY cQ=> ?_)
  refine ws _ ?_
  refine bH dY (fun eh cL cl gj dh=> ?_)
  have kr:∀(n:Nat) (dg:Int) (db:Int),B3 a0 n dg db=some r→dp aB NW eh (ab [(0,.slice (a0.map fT)),(1,.int .i64 dg),(5,.int .i64 db)]):=by
   intro m16
   induction m16 with
   |zero=>intro dg db h;cases(show none=some r from h)
   |succ m16 ks=>
    intro dg db h
    replace h:Ni (B3 a0 m16) a0 dg db=some r:=h
    refine dE cl (fun eJ n10 cx c_=> ?_)
    refine aI cx (fun ir n11 fD eO=> ?_)
    refine ws _ ?_
    refine aT h (fun gM h=> ?_) (fun gM h=> ?_)
    ·refine aY (n11 _ (.inl ?_))
     refine aI cx (fun iL n14 eX hV=> ?_)
     refine bH eX (fun mj n15 hz eU jO=> ?_)
     obtain⟨af,ez,h⟩:=aE h
     obtain⟨ak,eQ,h⟩:=aE h
     refine im ez (axr af dg _ eQ) _ ?_
     refine ws _ ?_
     refine aT h (fun e3 h=> ?_) (fun e3 h=> ?_)
     ·refine ws _ ?_
      exact aD (hz _ (.inl (aH [.int .i64 (-1)])))
     ·refine aY (n15 _ (n14 _ (.inl ?_)))
      refine wr _ ?_
      exact n10 _ (.inr ⟨_,bq rfl,ks ak (IntKind.i64.wrap (db+1)) h⟩)
    ·refine dA (eO 0 _ (c_ 0 _ (gj _ (n7 _ (.inl ?_)))))
     refine ws _ ?_
     exact aD (al _ (.inl (aH [.int .i64 dg])))
  obtain⟨n,h⟩:=dy h
  exact dC (.inr ⟨_,bq rfl,kr n (IntKind.i64.wrap (R-(a0.length:Int))) 0 h⟩)
theorem axt (a0:iT) (R:Int) (r:Int) (h:yQ a0 R=some r):bl aB 180 [gi a0,.int .i64 R] (.int .i64 r) []:=by
 refine bT [0] [.tmp 4] Tryz.func180 XX (fun bO al bN=> ?_)
 refine ws _ ?_
 refine ws _ ?_
 refine aI al (fun kq gL di aV=> ?_)
 refine ws _ ?_
 refine aT h (fun cN h=> ?_) (fun cN h=> ?_)
 ·refine ws _ ?_
  exact aD (di _ (.inl (aH [.int .i64 (-1)])))
 ·refine aY (gL _ (.inl ?_))
  obtain⟨af,hq,h⟩:=aE h
  refine dx (axs a0.cO (IntKind.i64.wrap (R-(a0.Name.length:Int))) _ hq) _ ?_
  refine aI al (fun eh cL cl dh=> ?_)
  refine ws _ ?_
  refine aT h (fun k9 h=> ?_) (fun k9 h=> ?_)
  ·refine ws _ ?_
   exact aD (cl _ (.inl (aH [.int .i64 (-1)])))
  ·refine aY (cL _ (.inl ?_))
   refine ws _ ?_
   exact aD (al _ (.inl (aH [.int .i64 af])))
theorem axu (a0:List iT) (R:Int) (r:Int) (h:B6 a0 R=some r):bl aB 131 [.slice (a0.map gi),.int .i64 R] (.int .i64 r) []:=by
 refine bT [0] [.tmp 4] Tryz.func131 Yb (fun bO al bN=> ?_)
 refine ws _ ?_
 refine ws _ ?_
 refine aI al (fun kq gL di aV=> ?_)
 refine ws _ ?_
 refine aT h (fun cN h=> ?_) (fun cN h=> ?_)
 ·refine ws _ ?_
  exact aD (di _ (.inl (aH [.int .i64 (-1)])))
 ·refine aY (gL _ (.inl ?_))
  refine aI al (fun gZ n7 dY cQ=> ?_)
  refine ws _ ?_
  refine bH dY (fun eh cL cl gj dh=> ?_)
  have kr:∀(n:Nat) (dg:Int) (db:Int),B5 a0 n dg db=some r→dp aB NX eh (ab [(0,.slice (a0.map gi)),(1,.int .i64 dg),(5,.int .i64 db)]):=by
   intro m16
   induction m16 with
   |zero=>intro dg db h;cases(show none=some r from h)
   |succ m16 ks=>
    intro dg db h
    replace h:Nj (B5 a0 m16) a0 dg db=some r:=h
    refine dE cl (fun eJ n10 cx c_=> ?_)
    refine aI cx (fun ir n11 fD eO=> ?_)
    refine ws _ ?_
    refine aT h (fun gM h=> ?_) (fun gM h=> ?_)
    ·refine aY (n11 _ (.inl ?_))
     refine aI cx (fun iL n14 eX hV=> ?_)
     refine bH eX (fun mj n15 hz eU jO=> ?_)
     obtain⟨af,ez,h⟩:=aE h
     obtain⟨ak,eQ,h⟩:=aE h
     refine im ez (axt af dg _ eQ) _ ?_
     refine ws _ ?_
     refine aT h (fun e3 h=> ?_) (fun e3 h=> ?_)
     ·refine ws _ ?_
      exact aD (hz _ (.inl (aH [.int .i64 (-1)])))
     ·refine aY (n15 _ (n14 _ (.inl ?_)))
      refine wr _ ?_
      exact n10 _ (.inr ⟨_,bq rfl,ks ak (IntKind.i64.wrap (db+1)) h⟩)
    ·refine dA (eO 0 _ (c_ 0 _ (gj _ (n7 _ (.inl ?_)))))
     refine ws _ ?_
     exact aD (al _ (.inl (aH [.int .i64 dg])))
  obtain⟨n,h⟩:=dy h
  exact dC (.inr ⟨_,bq rfl,kr n (IntKind.i64.wrap (R-(a0.length:Int))) 0 h⟩)
theorem axv (a0:iU) (R:Int) (r:Int) (h:yR a0 R=some r):bl aB 75 [gJ a0,.int .i64 R] (.int .i64 r) []:=by
 refine bT [0] [.tmp 4] Tryz.func75 Ym (fun bO al bN=> ?_)
 refine ws _ ?_
 refine ws _ ?_
 refine aI al (fun kq gL di aV=> ?_)
 refine ws _ ?_
 refine aT h (fun cN h=> ?_) (fun cN h=> ?_)
 ·refine ws _ ?_
  exact aD (di _ (.inl (aH [.int .i64 (-1)])))
 ·refine aY (gL _ (.inl ?_))
  obtain⟨af,hq,h⟩:=aE h
  refine dx (axu a0.Body (IntKind.i64.wrap (R-(a0.Name.length:Int))) _ hq) _ ?_
  refine aI al (fun eh cL cl dh=> ?_)
  refine ws _ ?_
  refine aT h (fun k9 h=> ?_) (fun k9 h=> ?_)
  ·refine ws _ ?_
   exact aD (cl _ (.inl (aH [.int .i64 (-1)])))
  ·refine aY (cL _ (.inl ?_))
   refine ws _ ?_
   exact aD (al _ (.inl (aH [.int .i64 af])))
theorem axw (a0:List iU) (R:Int) (r:Int) (h:B8 a0 R=some r):bl aB 36 [.slice (a0.map gJ),.int .i64 R] (.int .i64 r) []:=by
 refine bT [0] [.tmp 4] Tryz.func36 YB (fun bO al bN=> ?_)
 refine ws _ ?_
 refine ws _ ?_
 refine aI al (fun kq gL di aV=> ?_)
 refine ws _ ?_
 refine aT h (fun cN h=> ?_) (fun cN h=> ?_)
 ·refine ws _ ?_
  exact aD (di _ (.inl (aH [.int .i64 (-1)])))
 ·refine aY (gL _ (.inl ?_))
  refine aI al (fun gZ n7 dY cQ=> ?_)
  refine ws _ ?_
  refine bH dY (fun eh cL cl gj dh=> ?_)
  have kr:∀(n:Nat) (dg:Int) (db:Int),B7 a0 n dg db=some r→dp aB NY eh (ab [(0,.slice (a0.map gJ)),(1,.int .i64 dg),(5,.int .i64 db)]):=by
   intro m16
   induction m16 with
   |zero=>intro dg db h;cases(show none=some r from h)
   |succ m16 ks=>
    intro dg db h
    replace h:Nk (B7 a0 m16) a0 dg db=some r:=h
    refine dE cl (fun eJ n10 cx c_=> ?_)
    refine aI cx (fun ir n11 fD eO=> ?_)
    refine ws _ ?_
    refine aT h (fun gM h=> ?_) (fun gM h=> ?_)
    ·refine aY (n11 _ (.inl ?_))
     refine aI cx (fun iL n14 eX hV=> ?_)
     refine bH eX (fun mj n15 hz eU jO=> ?_)
     obtain⟨af,ez,h⟩:=aE h
     obtain⟨ak,eQ,h⟩:=aE h
     refine im ez (axv af dg _ eQ) _ ?_
     refine ws _ ?_
     refine aT h (fun e3 h=> ?_) (fun e3 h=> ?_)
     ·refine ws _ ?_
      exact aD (hz _ (.inl (aH [.int .i64 (-1)])))
     ·refine aY (n15 _ (n14 _ (.inl ?_)))
      refine wr _ ?_
      exact n10 _ (.inr ⟨_,bq rfl,ks ak (IntKind.i64.wrap (db+1)) h⟩)
    ·refine dA (eO 0 _ (c_ 0 _ (gj _ (n7 _ (.inl ?_)))))
     refine ws _ ?_
     exact aD (al _ (.inl (aH [.int .i64 dg])))
  obtain⟨n,h⟩:=dy h
  exact dC (.inr ⟨_,bq rfl,kr n (IntKind.i64.wrap (R-(a0.length:Int))) 0 h⟩)
theorem Ps (a0:List Int) (R:Int) (r:Int) (h:yS a0 R=some r):bl aB 78 [.slice (a0.map bs),.int .i64 R] (.int .i64 r) []:=by
 refine bT [0] [.tmp 4] Tryz.func78 YI (fun bO al bN=> ?_)
 refine ws _ ?_
 refine ws _ ?_
 refine aI al (fun kq gL di aV=> ?_)
 refine ws _ ?_
 refine aT h (fun cN h=> ?_) (fun cN h=> ?_)
 ·refine ws _ ?_
  exact aD (di _ (.inl (aH [.int .i64 (-1)])))
 ·refine aY (gL _ (.inl ?_))
  refine ws _ ?_
  exact aD (al _ (.inl (aH [.int .i64 (IntKind.i64.wrap (R-(a0.length:Int)))])))
theorem axx (a0:iV) (R:Int) (r:Int) (h:yT a0 R=some r):bl aB 76 [gK a0,.int .i64 R] (.int .i64 r) []:=by
 refine bT [0] [.tmp 4] Tryz.func76 YP (fun bO al bN=> ?_)
 refine ws _ ?_
 obtain⟨af,aQ,h⟩:=aE h
 refine dx (Ps a0.bS R _ aQ) _ ?_
 refine aI al (fun dK et cd bm=> ?_)
 refine ws _ ?_
 refine aT h (fun ep h=> ?_) (fun ep h=> ?_)
 ·refine ws _ ?_
  exact aD (cd _ (.inl (aH [.int .i64 (-1)])))
 ·refine aY (et _ (.inl ?_))
  refine ws _ ?_
  exact aD (al _ (.inl (aH [.int .i64 af])))
theorem axy (a0:List iV) (R:Int) (r:Int) (h:B_ a0 R=some r):bl aB 37 [.slice (a0.map gK),.int .i64 R] (.int .i64 r) []:=by
 refine bT [0] [.tmp 4] Tryz.func37 Y4 (fun bO al bN=> ?_)
 refine ws _ ?_
 refine ws _ ?_
 refine aI al (fun kq gL di aV=> ?_)
 refine ws _ ?_
 refine aT h (fun cN h=> ?_) (fun cN h=> ?_)
 ·refine ws _ ?_
  exact aD (di _ (.inl (aH [.int .i64 (-1)])))
 ·refine aY (gL _ (.inl ?_))
  refine aI al (fun gZ n7 dY cQ=> ?_)
  refine ws _ ?_
  refine bH dY (fun eh cL cl gj dh=> ?_)
  have kr:∀(n:Nat) (dg:Int) (db:Int),B9 a0 n dg db=some r→dp aB NZ eh (ab [(0,.slice (a0.map gK)),(1,.int .i64 dg),(5,.int .i64 db)]):=by
   intro m16
   induction m16 with
   |zero=>intro dg db h;cases(show none=some r from h)
   |succ m16 ks=>
    intro dg db h
    replace h:Nl (B9 a0 m16) a0 dg db=some r:=h
    refine dE cl (fun eJ n10 cx c_=> ?_)
    refine aI cx (fun ir n11 fD eO=> ?_)
    refine ws _ ?_
    refine aT h (fun gM h=> ?_) (fun gM h=> ?_)
    ·refine aY (n11 _ (.inl ?_))
     refine aI cx (fun iL n14 eX hV=> ?_)
     refine bH eX (fun mj n15 hz eU jO=> ?_)
     obtain⟨af,ez,h⟩:=aE h
     obtain⟨ak,eQ,h⟩:=aE h
     refine im ez (axx af dg _ eQ) _ ?_
     refine ws _ ?_
     refine aT h (fun e3 h=> ?_) (fun e3 h=> ?_)
     ·refine ws _ ?_
      exact aD (hz _ (.inl (aH [.int .i64 (-1)])))
     ·refine aY (n15 _ (n14 _ (.inl ?_)))
      refine wr _ ?_
      exact n10 _ (.inr ⟨_,bq rfl,ks ak (IntKind.i64.wrap (db+1)) h⟩)
    ·refine dA (eO 0 _ (c_ 0 _ (gj _ (n7 _ (.inl ?_)))))
     refine ws _ ?_
     exact aD (al _ (.inl (aH [.int .i64 dg])))
  obtain⟨n,h⟩:=dy h
  exact dC (.inr ⟨_,bq rfl,kr n (IntKind.i64.wrap (R-(a0.length:Int))) 0 h⟩)
theorem axz (a0:iG) (R:Int) (r:Int) (h:yU a0 R=some r):bl aB 77 [gx a0,.int .i64 R] (.int .i64 r) []:=by
 refine bT [0] [.tmp 4] Tryz.func77 pv (fun bO al bN=> ?_)
 refine ws _ ?_
 refine ws _ ?_
 refine aI al (fun kq gL di aV=> ?_)
 refine ws _ ?_
 refine aT h (fun cN h=> ?_) (fun cN h=> ?_)
 ·refine ws _ ?_
  exact aD (di _ (.inl (aH [.int .i64 (-1)])))
 ·refine aY (gL _ (.inl ?_))
  refine ws _ ?_
  refine aI al (fun hg n8 gN eb=> ?_)
  refine ws _ ?_
  refine aT h (fun ek h=> ?_) (fun ek h=> ?_)
  ·refine ws _ ?_
   exact aD (gN _ (.inl (aH [.int .i64 (-1)])))
  ·refine aY (n8 _ (.inl ?_))
   refine ws _ ?_
   refine aI al (fun k_ n13 fY jm=> ?_)
   refine ws _ ?_
   refine aT h (fun eU h=> ?_) (fun eU h=> ?_)
   ·refine ws _ ?_
    exact aD (fY _ (.inl (aH [.int .i64 (-1)])))
   ·refine aY (n13 _ (.inl ?_))
    refine ws _ ?_
    exact aD (al _ (.inl (aH [.int .i64 (IntKind.i64.wrap ((IntKind.i64.wrap ((IntKind.i64.wrap (R-(a0.Left.length:Int)))-(a0.cp.length:Int)))-(a0.Result.length:Int)))])))
theorem axA (a0:List iG) (R:Int) (r:Int) (h:Cb a0 R=some r):bl aB 38 [.slice (a0.map gx),.int .i64 R] (.int .i64 r) []:=by
 refine bT [0] [.tmp 4] Tryz.func38 Zw (fun bO al bN=> ?_)
 refine ws _ ?_
 refine ws _ ?_
 refine aI al (fun kq gL di aV=> ?_)
 refine ws _ ?_
 refine aT h (fun cN h=> ?_) (fun cN h=> ?_)
 ·refine ws _ ?_
  exact aD (di _ (.inl (aH [.int .i64 (-1)])))
 ·refine aY (gL _ (.inl ?_))
  refine aI al (fun gZ n7 dY cQ=> ?_)
  refine ws _ ?_
  refine bH dY (fun eh cL cl gj dh=> ?_)
  have kr:∀(n:Nat) (dg:Int) (db:Int),Ca a0 n dg db=some r→dp aB N0 eh (ab [(0,.slice (a0.map gx)),(1,.int .i64 dg),(5,.int .i64 db)]):=by
   intro m16
   induction m16 with
   |zero=>intro dg db h;cases(show none=some r from h)
   |succ m16 ks=>
    intro dg db h
    replace h:Nn (Ca a0 m16) a0 dg db=some r:=h
    refine dE cl (fun eJ n10 cx c_=> ?_)
    refine aI cx (fun ir n11 fD eO=> ?_)
    refine ws _ ?_
    refine aT h (fun gM h=> ?_) (fun gM h=> ?_)
    ·refine aY (n11 _ (.inl ?_))
     refine aI cx (fun iL n14 eX hV=> ?_)
     refine bH eX (fun mj n15 hz eU jO=> ?_)
     obtain⟨af,ez,h⟩:=aE h
     obtain⟨ak,eQ,h⟩:=aE h
     refine im ez (axz af dg _ eQ) _ ?_
     refine ws _ ?_
     refine aT h (fun e3 h=> ?_) (fun e3 h=> ?_)
     ·refine ws _ ?_
      exact aD (hz _ (.inl (aH [.int .i64 (-1)])))
     ·refine aY (n15 _ (n14 _ (.inl ?_)))
      refine wr _ ?_
      exact n10 _ (.inr ⟨_,bq rfl,ks ak (IntKind.i64.wrap (db+1)) h⟩)
    ·refine dA (eO 0 _ (c_ 0 _ (gj _ (n7 _ (.inl ?_)))))
     refine ws _ ?_
     exact aD (al _ (.inl (aH [.int .i64 dg])))
  obtain⟨n,h⟩:=dy h
  exact dC (.inr ⟨_,bq rfl,kr n (IntKind.i64.wrap (R-(a0.length:Int))) 0 h⟩)
theorem Pt (a0:List (List UInt8)) (R:Int) (r:Int) (h:yV a0 R=some r):bl aB 39 [.slice (a0.map bE),.int .i64 R] (.int .i64 r) []:=by
 refine bT [0] [.tmp 4] Tryz.func39 ZL (fun bO al bN=> ?_)
 refine ws _ ?_
 refine ws _ ?_
 refine aI al (fun kq gL di aV=> ?_)
 refine ws _ ?_
 refine aT h (fun cN h=> ?_) (fun cN h=> ?_)
 ·refine ws _ ?_
  exact aD (di _ (.inl (aH [.int .i64 (-1)])))
 ·refine aY (gL _ (.inl ?_))
  refine aI al (fun gZ n7 dY cQ=> ?_)
  refine ws _ ?_
  refine bH dY (fun eh cL cl gj dh=> ?_)
  have kr:∀(n:Nat) (dg:Int) (db:Int),Cc a0 n dg db=some r→dp aB N1 eh (ab [(0,.slice (a0.map bE)),(1,.int .i64 dg),(5,.int .i64 db)]):=by
   intro m16
   induction m16 with
   |zero=>intro dg db h;cases(show none=some r from h)
   |succ m16 ks=>
    intro dg db h
    replace h:Np (Cc a0 m16) a0 dg db=some r:=h
    refine dE cl (fun eJ n10 cx c_=> ?_)
    refine aI cx (fun ir n11 fD eO=> ?_)
    refine ws _ ?_
    refine aT h (fun gM h=> ?_) (fun gM h=> ?_)
    ·refine aY (n11 _ (.inl ?_))
     refine aI cx (fun iL n14 eX hV=> ?_)
     refine bH eX (fun mj n15 hz eU jO=> ?_)
     obtain⟨af,ez,h⟩:=aE h
     refine hI ez _ ?_
     refine ws _ ?_
     refine aT h (fun hA h=> ?_) (fun hA h=> ?_)
     ·refine ws _ ?_
      exact aD (hz _ (.inl (aH [.int .i64 (-1)])))
     ·refine aY (n15 _ (n14 _ (.inl ?_)))
      refine wr _ ?_
      exact n10 _ (.inr ⟨_,bq rfl,ks (IntKind.i64.wrap (dg-(af.length:Int))) (IntKind.i64.wrap (db+1)) h⟩)
    ·refine dA (eO 0 _ (c_ 0 _ (gj _ (n7 _ (.inl ?_)))))
     refine ws _ ?_
     exact aD (al _ (.inl (aH [.int .i64 dg])))
  obtain⟨n,h⟩:=dy h
  exact dC (.inr ⟨_,bq rfl,kr n (IntKind.i64.wrap (R-(a0.length:Int))) 0 h⟩)
theorem axB (a0:k6) (R:Int) (r:Int) (h:yW a0 R=some r):bl aB 8 [jy a0,.int .i64 R] (.int .i64 r) []:=by
 refine bT [0] [.tmp 4] Tryz.func8 pw (fun bO al bN=> ?_)
 refine ws _ ?_
 obtain⟨af,aQ,h⟩:=aE h
 refine dx (axw a0.ew R _ aQ) _ ?_
 refine aI al (fun dK et cd bm=> ?_)
 refine ws _ ?_
 refine aT h (fun ep h=> ?_) (fun ep h=> ?_)
 ·refine ws _ ?_
  exact aD (cd _ (.inl (aH [.int .i64 (-1)])))
 ·refine aY (et _ (.inl ?_))
  obtain⟨ak,lh,h⟩:=aE h
  refine dx (axy a0.c8 af _ lh) _ ?_
  refine aI al (fun eJ n10 cx c_=> ?_)
  refine ws _ ?_
  refine aT h (fun fg h=> ?_) (fun fg h=> ?_)
  ·refine ws _ ?_
   exact aD (cx _ (.inl (aH [.int .i64 (-1)])))
  ·refine aY (n10 _ (.inl ?_))
   obtain⟨aV,el,h⟩:=aE h
   refine dx (axA a0.hE ak _ el) _ ?_
   refine aI al (fun qm n16 lx nn=> ?_)
   refine ws _ ?_
   refine aT h (fun iM h=> ?_) (fun iM h=> ?_)
   ·refine ws _ ?_
    exact aD (lx _ (.inl (aH [.int .i64 (-1)])))
   ·refine aY (n16 _ (.inl ?_))
    obtain⟨bm,lU,h⟩:=aE h
    refine dx (Pt a0.hv aV _ lU) _ ?_
    refine aI al (fun uF n22 mR oO=> ?_)
    refine ws _ ?_
    refine aT h (fun i1 h=> ?_) (fun i1 h=> ?_)
    ·refine ws _ ?_
     exact aD (mR _ (.inl (aH [.int .i64 (-1)])))
    ·refine aY (n22 _ (.inl ?_))
     obtain⟨bh,sk,h⟩:=aE h
     refine dx (Pt a0.hx bm _ sk) _ ?_
     refine aI al (fun axC n28 Pu Pv=> ?_)
     refine ws _ ?_
     refine aT h (fun kc h=> ?_) (fun kc h=> ?_)
     ·refine ws _ ?_
      exact aD (Pu _ (.inl (aH [.int .i64 (-1)])))
     ·refine aY (n28 _ (.inl ?_))
      refine ws _ ?_
      exact aD (al _ (.inl (aH [.int .i64 bh])))
theorem axD (a0:iH) (R:Int) (r:Int) (h:yX a0 R=some r):bl aB 40 [gy a0,.int .i64 R] (.int .i64 r) []:=by
 refine bT [0] [.tmp 4] Tryz.func40 aac (fun bO al bN=> ?_)
 refine ws _ ?_
 obtain⟨af,aQ,h⟩:=aE h
 refine dx (Ps a0.bS R _ aQ) _ ?_
 refine aI al (fun dK et cd bm=> ?_)
 refine ws _ ?_
 refine aT h (fun ep h=> ?_) (fun ep h=> ?_)
 ·refine ws _ ?_
  exact aD (cd _ (.inl (aH [.int .i64 (-1)])))
 ·refine aY (et _ (.inl ?_))
  refine ws _ ?_
  exact aD (al _ (.inl (aH [.int .i64 af])))
theorem axE (a0:List iH) (R:Int) (r:Int) (h:Ce a0 R=some r):bl aB 9 [.slice (a0.map gy),.int .i64 R] (.int .i64 r) []:=by
 refine bT [0] [.tmp 4] Tryz.func9 nq (fun bO al bN=> ?_)
 refine ws _ ?_
 refine ws _ ?_
 refine aI al (fun kq gL di aV=> ?_)
 refine ws _ ?_
 refine aT h (fun cN h=> ?_) (fun cN h=> ?_)
 ·refine ws _ ?_
  exact aD (di _ (.inl (aH [.int .i64 (-1)])))
 ·refine aY (gL _ (.inl ?_))
  refine aI al (fun gZ n7 dY cQ=> ?_)
  refine ws _ ?_
  refine bH dY (fun eh cL cl gj dh=> ?_)
  have kr:∀(n:Nat) (dg:Int) (db:Int),Cd a0 n dg db=some r→dp aB N2 eh (ab [(0,.slice (a0.map gy)),(1,.int .i64 dg),(5,.int .i64 db)]):=by
   intro m16
   induction m16 with
   |zero=>intro dg db h;cases(show none=some r from h)
   |succ m16 ks=>
    intro dg db h
    replace h:Nq (Cd a0 m16) a0 dg db=some r:=h
    refine dE cl (fun eJ n10 cx c_=> ?_)
    refine aI cx (fun ir n11 fD eO=> ?_)
    refine ws _ ?_
    refine aT h (fun gM h=> ?_) (fun gM h=> ?_)
    ·refine aY (n11 _ (.inl ?_))
     refine aI cx (fun iL n14 eX hV=> ?_)
     refine bH eX (fun mj n15 hz eU jO=> ?_)
     obtain⟨af,ez,h⟩:=aE h
     obtain⟨ak,eQ,h⟩:=aE h
     refine im ez (axD af dg _ eQ) _ ?_
     refine ws _ ?_
     refine aT h (fun e3 h=> ?_) (fun e3 h=> ?_)
     ·refine ws _ ?_
      exact aD (hz _ (.inl (aH [.int .i64 (-1)])))
     ·refine aY (n15 _ (n14 _ (.inl ?_)))
      refine wr _ ?_
      exact n10 _ (.inr ⟨_,bq rfl,ks ak (IntKind.i64.wrap (db+1)) h⟩)
    ·refine dA (eO 0 _ (c_ 0 _ (gj _ (n7 _ (.inl ?_)))))
     refine ws _ ?_
     exact aD (al _ (.inl (aH [.int .i64 dg])))
  obtain⟨n,h⟩:=dy h
  exact dC (.inr ⟨_,bq rfl,kr n (IntKind.i64.wrap (R-(a0.length:Int))) 0 h⟩)
theorem axF (a0:ht) (r:b7) (h:yY a0=some r):bl aB 298 [fN a0] (cc r) []:=by
 refine bT [0] [.cell 2 196] Tryz.func298 aav (fun bO al bN=> ?_)
 refine ws _ ?_
 refine ws _ ?_
 refine ws _ ?_
 refine ws _ ?_
 refine ws _ ?_
 exact aD (al _ (.inl (aH [cc (b7.mk a0.Kind a0.Value)])))
theorem axG (a0:List ht) (r:(List b7)) (h:yZ a0=some r):bl aB 284 [.slice (a0.map fN)] (.an 2 (r.map cc)) []:=by
 refine bT [0] [.tmp 2] Tryz.func284 aaE (fun bO al bN=> ?_)
 refine ws _ ?_
 obtain⟨uG,aQ,h⟩:=aE h
 refine cP (bU [(0,.slice (a0.map fN)),(3,.an 2 ((List.replicate (Int.toNat (a0.length:Int)) (b7.mk 0 0)).map cc))] (fun P ai=> ?_) ?_)
 ·simp only[aO.down,simprocAttr,eg,gh,fS,mf,mg,cc,fN,(eK aQ).1,(eK aQ).2.1,(eK aQ).2.2,eS,List.map_replicate,-Int.reduceNatCast']
  (try simp only[bb.down,simprocAttr,cc,fN,(eK aQ).1,(eK aQ).2.1,(eK aQ).2.2,eS,List.map_replicate,-Int.reduceNatCast']at ai⊢);exact ai
 refine aI al (fun dK et cd bm=> ?_)
 refine ws [(0,.slice (a0.map fN)),(3,.an 2 ((List.replicate (Int.toNat (a0.length:Int)) (b7.mk 0 0)).map cc)),(4,.int .i64 0)] ?_
 refine bH cd (fun eY n6 dj ep bM=> ?_)
 have jz:∀(n:Nat) (bG:List b7) (br:Int),Cf a0 n bG br=some r→dp aB N3 eY (ab [(0,.slice (a0.map fN)),(3,.an 2 (bG.map cc)),(4,.int .i64 br)]):=by
  intro m8
  induction m8 with
  |zero=>intro bG br h;cases(show none=some r from h)
  |succ m8 jA=>
   intro bG br h
   replace h:Nr (Cf a0 m8) a0 bG br=some r:=h
   refine dE dj (fun gZ n7 dY cQ=> ?_)
   refine aI dY (fun hg n8 gN eb=> ?_)
   refine ws _ ?_
   refine aT h (fun ek h=> ?_) (fun ek h=> ?_)
   ·refine aY (n8 _ (.inl ?_))
    refine aI dY (fun ir n11 fD eO=> ?_)
    refine bH fD (fun jZ n12 ib fg iW=> ?_)
    obtain⟨af,ee,h⟩:=aE h
    obtain⟨ak,el,h⟩:=aE h
    obtain⟨aV,cg,h⟩:=aE h
    refine jV (bU [(0,.slice (a0.map fN)),(3,.an 2 ((List.set bG (Int.toNat br) ak).map cc)),(4,.int .i64 br)] (fun P ai=> ?_) ?_)
    ·simp only[aO.down,simprocAttr,eg,gh,fS,mf,mg,cc,fN,ee,cg,cG cg,dN,dz]
     refine e1 (axF af _ el) rfl rfl rfl rfl (.inl (by rfl)) ?_
     simp only[aO.down,simprocAttr,eg,gh,fS,mf,mg,cc,fN,ee,cg,cG cg,dN,dz]
     (try simp only[bb.down,simprocAttr,cc,fN,ee,cg,cG cg,dN,dz]at ai⊢);exact ai
    refine n12 _ (n11 _ (.inl ?_))
    refine wr [(0,.slice (a0.map fN)),(3,.an 2 ((List.set bG (Int.toNat br) ak).map cc)),(4,.int .i64 (IntKind.i64.wrap (br+1)))] ?_
    exact n7 _ (.inr ⟨_,bq rfl,jA (List.set bG (Int.toNat br) ak) (IntKind.i64.wrap (br+1)) h⟩)
   ·refine dA (eb 0 _ (cQ 0 _ (ep _ (et _ (.inl ?_)))))
    refine ws _ ?_
    exact aD (al _ (.inl (aH [.an 2 (bG.map cc)])))
 obtain⟨n,h⟩:=dy h
 exact dC (.inr ⟨_,bq rfl,jz n (List.replicate (Int.toNat (a0.length:Int)) (b7.mk 0 0)) 0 h⟩)
theorem axH (a0:List (List ht)) (r:(List (List b7))) (h:Ch a0=some r):bl aB 245 [.slice (a0.map fT)] (.an 1 (r.map fv)) []:=by
 refine bT [0] [.tmp 2] Tryz.func245 aaN (fun bO al bN=> ?_)
 refine ws _ ?_
 obtain⟨uG,aQ,h⟩:=aE h
 refine cP (bU [(0,.slice (a0.map fT)),(3,.an 1 (List.replicate (Int.toNat (a0.length:Int)) .bk))] (fun P ai=> ?_) ?_)
 ·simp only[aO.down,simprocAttr,eg,gh,gR,fS,nP,mf,mg,fN,fT,(eK aQ).1,(eK aQ).2.1,(eK aQ).2.2,eS,List.map_replicate,-Int.reduceNatCast']
  (try simp only[bb.down,simprocAttr,fN,fT,(eK aQ).1,(eK aQ).2.1,(eK aQ).2.2,eS,List.map_replicate,-Int.reduceNatCast']at ai⊢);exact ai
 refine aI al (fun dK et cd bm=> ?_)
 refine ws [(0,.slice (a0.map fT)),(3,.an 1 (List.replicate (Int.toNat (a0.length:Int)) .bk)),(4,.int .i64 0)] ?_
 refine bH cd (fun eY n6 dj ep bM=> ?_)
 have jz:∀(n:Nat) (bG:List (List b7)) (br:Int),Cg a0 n bG br=some r→dp aB N4 eY (ab [(0,.slice (a0.map fT)),(3,.an 1 (bG.map fv)),(4,.int .i64 br)]):=by
  intro m8
  induction m8 with
  |zero=>intro bG br h;cases(show none=some r from h)
  |succ m8 jA=>
   intro bG br h
   replace h:Ns (Cg a0 m8) a0 bG br=some r:=h
   refine dE dj (fun gZ n7 dY cQ=> ?_)
   refine aI dY (fun hg n8 gN eb=> ?_)
   refine ws _ ?_
   refine aT h (fun ek h=> ?_) (fun ek h=> ?_)
   ·refine aY (n8 _ (.inl ?_))
    refine aI dY (fun ir n11 fD eO=> ?_)
    refine bH fD (fun jZ n12 ib fg iW=> ?_)
    obtain⟨af,ee,h⟩:=aE h
    obtain⟨ak,el,h⟩:=aE h
    obtain⟨aV,cg,h⟩:=aE h
    refine jV (bU [(0,.slice (a0.map fT)),(3,.an 1 ((List.set bG (Int.toNat br) ak).map fv)),(4,.int .i64 br)] (fun P ai=> ?_) ?_)
    ·simp only[aO.down,simprocAttr,eg,gh,gR,fS,nP,mf,mg,cc,fN,fT,fv,ee,cg,cG cg,dN,dz]
     refine e1 (axG af _ el) rfl rfl rfl rfl (.inl (by rfl)) ?_
     simp only[aO.down,simprocAttr,eg,gh,gR,fS,nP,mf,mg,cc,fN,fT,fv,ee,cg,cG cg,dN,dz]
     (try simp only[bb.down,simprocAttr,cc,fN,fT,fv,ee,cg,cG cg,dN,dz]at ai⊢);exact ai
    refine n12 _ (n11 _ (.inl ?_))
    refine wr [(0,.slice (a0.map fT)),(3,.an 1 ((List.set bG (Int.toNat br) ak).map fv)),(4,.int .i64 (IntKind.i64.wrap (br+1)))] ?_
    exact n7 _ (.inr ⟨_,bq rfl,jA (List.set bG (Int.toNat br) ak) (IntKind.i64.wrap (br+1)) h⟩)
   ·refine dA (eb 0 _ (cQ 0 _ (ep _ (et _ (.inl ?_)))))
    refine ws _ ?_
    exact aD (al _ (.inl (aH [.an 1 (bG.map fv)])))
 obtain⟨n,h⟩:=dy h
 exact dC (.inr ⟨_,nK [] rfl (iD (t:=0) (d:=.slice (a0.map fT)) rfl (nM (t:=3) (d:=.an 1 (List.replicate (Int.toNat (a0.length:Int)) .bk)) (bp:=.an 1 ((List.replicate (Int.toNat (a0.length:Int)) []).map fv)) rfl rfl (yv (u:=fv) (z:=[]) (.l8 _) _) (by decide) (iD (t:=4) (d:=.int .i64 0) rfl (nL)))),jz n (List.replicate (Int.toNat (a0.length:Int)) []) 0 h⟩)
theorem axI (a0:iT) (r:bJ) (h:y0 a0=some r):bl aB 186 [gi a0] (fp r) []:=by
 refine bT [0] [.cell 2 178] Tryz.func186 aaV (fun bO al bN=> ?_)
 refine ws _ ?_
 refine ws _ ?_
 refine ws _ ?_
 refine ws _ ?_
 refine ws _ ?_
 obtain⟨af,b3,h⟩:=aE h
 refine dx (axH a0.cO _ b3) _ ?_
 refine ws _ ?_
 exact aD (al _ (.inl (aH [fp (bJ.mk a0.Kind a0.Number a0.Name af)])))
theorem axJ (a0:List iT) (r:(List bJ)) (h:Cj a0=some r):bl aB 139 [.slice (a0.map gi)] (.an 4 (r.map fp)) []:=by
 refine bT [0] [.tmp 2] Tryz.func139 aa4 (fun bO al bN=> ?_)
 refine ws _ ?_
 obtain⟨uG,aQ,h⟩:=aE h
 refine cP (bU [(0,.slice (a0.map gi)),(3,.an 4 (List.replicate (Int.toNat (a0.length:Int)) (.agg [(.int .i64 0),(.int .i64 0),(.str []),.bk])))] (fun P ai=> ?_) ?_)
 ·simp only[aO.down,simprocAttr,eg,eI,qf,jw,gh,gR,hZ,fS,nP,qh,mf,mg,gi,fN,fT,(eK aQ).1,(eK aQ).2.1,(eK aQ).2.2,eS,List.map_replicate,-Int.reduceNatCast']
  (try simp only[bb.down,simprocAttr,gi,fN,fT,(eK aQ).1,(eK aQ).2.1,(eK aQ).2.2,eS,List.map_replicate,-Int.reduceNatCast']at ai⊢);exact ai
 refine aI al (fun dK et cd bm=> ?_)
 refine ws [(0,.slice (a0.map gi)),(3,.an 4 (List.replicate (Int.toNat (a0.length:Int)) (.agg [(.int .i64 0),(.int .i64 0),(.str []),.bk]))),(4,.int .i64 0)] ?_
 refine bH cd (fun eY n6 dj ep bM=> ?_)
 have jz:∀(n:Nat) (bG:List bJ) (br:Int),Ci a0 n bG br=some r→dp aB N5 eY (ab [(0,.slice (a0.map gi)),(3,.an 4 (bG.map fp)),(4,.int .i64 br)]):=by
  intro m8
  induction m8 with
  |zero=>intro bG br h;cases(show none=some r from h)
  |succ m8 jA=>
   intro bG br h
   replace h:Nt (Ci a0 m8) a0 bG br=some r:=h
   refine dE dj (fun gZ n7 dY cQ=> ?_)
   refine aI dY (fun hg n8 gN eb=> ?_)
   refine ws _ ?_
   refine aT h (fun ek h=> ?_) (fun ek h=> ?_)
   ·refine aY (n8 _ (.inl ?_))
    refine aI dY (fun ir n11 fD eO=> ?_)
    refine bH fD (fun jZ n12 ib fg iW=> ?_)
    obtain⟨af,ee,h⟩:=aE h
    obtain⟨ak,el,h⟩:=aE h
    obtain⟨aV,cg,h⟩:=aE h
    refine jV (bU [(0,.slice (a0.map gi)),(3,.an 4 ((List.set bG (Int.toNat br) ak).map fp)),(4,.int .i64 br)] (fun P ai=> ?_) ?_)
    ·simp only[aO.down,simprocAttr,eg,eI,qf,jw,gh,gR,hZ,fS,nP,qh,mf,mg,cc,gi,fN,fT,fp,fv,ee,cg,cG cg,dN,dz]
     refine e1 (axI af _ el) rfl rfl rfl rfl (.inl (by rfl)) ?_
     simp only[aO.down,simprocAttr,eg,eI,qf,jw,gh,gR,hZ,fS,nP,qh,mf,mg,cc,gi,fN,fT,fp,fv,ee,cg,cG cg,dN,dz]
     (try simp only[bb.down,simprocAttr,cc,gi,fN,fT,fp,fv,ee,cg,cG cg,dN,dz]at ai⊢);exact ai
    refine n12 _ (n11 _ (.inl ?_))
    refine wr [(0,.slice (a0.map gi)),(3,.an 4 ((List.set bG (Int.toNat br) ak).map fp)),(4,.int .i64 (IntKind.i64.wrap (br+1)))] ?_
    exact n7 _ (.inr ⟨_,bq rfl,jA (List.set bG (Int.toNat br) ak) (IntKind.i64.wrap (br+1)) h⟩)
   ·refine dA (eb 0 _ (cQ 0 _ (ep _ (et _ (.inl ?_)))))
    refine ws _ ?_
    exact aD (al _ (.inl (aH [.an 4 (bG.map fp)])))
 obtain⟨n,h⟩:=dy h
 exact dC (.inr ⟨_,nK [] rfl (iD (t:=0) (d:=.slice (a0.map gi)) rfl (nM (t:=3) (d:=.an 4 (List.replicate (Int.toNat (a0.length:Int)) (.agg [(.int .i64 0),(.int .i64 0),(.str []),.bk]))) (bp:=.an 4 ((List.replicate (Int.toNat (a0.length:Int)) (bJ.mk 0 0 ([]:List UInt8) [])).map fp)) rfl rfl (yv (u:=fp) (z:=(bJ.mk 0 0 ([]:List UInt8) [])) (.agg (.cons (.refl _) (.cons (.refl _) (.cons (.refl _) (.cons (.l8 _) (.nil)))))) _) (by decide) (iD (t:=4) (d:=.int .i64 0) rfl (nL)))),jz n (List.replicate (Int.toNat (a0.length:Int)) (bJ.mk 0 0 ([]:List UInt8) [])) 0 h⟩)
theorem axK (a0:iU) (r:bj) (h:y1 a0=some r):bl aB 83 [gJ a0] (e5 r) []:=by
 refine bT [0] [.cell 2 121] Tryz.func83 aba (fun bO al bN=> ?_)
 refine ws _ ?_
 refine ws _ ?_
 refine ws _ ?_
 refine ws _ ?_
 obtain⟨af,ch,h⟩:=aE h
 refine dx (axJ a0.Body _ ch) _ ?_
 refine ws _ ?_
 exact aD (al _ (.inl (aH [e5 (bj.mk a0.Name a0.dt af)])))
theorem axL (a0:List iU) (r:(List bj)) (h:Cl a0=some r):bl aB 44 [.slice (a0.map gJ)] (.an 3 (r.map e5)) []:=by
 refine bT [0] [.tmp 2] Tryz.func44 abj (fun bO al bN=> ?_)
 refine ws _ ?_
 obtain⟨uG,aQ,h⟩:=aE h
 refine cP (bU [(0,.slice (a0.map gJ)),(3,.an 3 (List.replicate (Int.toNat (a0.length:Int)) (.agg [(.str []),(.int .i64 0),.bk])))] (fun P ai=> ?_) ?_)
 ·simp only[aO.down,simprocAttr,eg,eI,tw,nj,qf,tA,jw,kG,gh,gR,hZ,fS,nP,qh,mf,mg,gJ,gi,fN,fT,(eK aQ).1,(eK aQ).2.1,(eK aQ).2.2,eS,List.map_replicate,-Int.reduceNatCast']
  (try simp only[bb.down,simprocAttr,gJ,gi,fN,fT,(eK aQ).1,(eK aQ).2.1,(eK aQ).2.2,eS,List.map_replicate,-Int.reduceNatCast']at ai⊢);exact ai
 refine aI al (fun dK et cd bm=> ?_)
 refine ws [(0,.slice (a0.map gJ)),(3,.an 3 (List.replicate (Int.toNat (a0.length:Int)) (.agg [(.str []),(.int .i64 0),.bk]))),(4,.int .i64 0)] ?_
 refine bH cd (fun eY n6 dj ep bM=> ?_)
 have jz:∀(n:Nat) (bG:List bj) (br:Int),Ck a0 n bG br=some r→dp aB N6 eY (ab [(0,.slice (a0.map gJ)),(3,.an 3 (bG.map e5)),(4,.int .i64 br)]):=by
  intro m8
  induction m8 with
  |zero=>intro bG br h;cases(show none=some r from h)
  |succ m8 jA=>
   intro bG br h
   replace h:Nu (Ck a0 m8) a0 bG br=some r:=h
   refine dE dj (fun gZ n7 dY cQ=> ?_)
   refine aI dY (fun hg n8 gN eb=> ?_)
   refine ws _ ?_
   refine aT h (fun ek h=> ?_) (fun ek h=> ?_)
   ·refine aY (n8 _ (.inl ?_))
    refine aI dY (fun ir n11 fD eO=> ?_)
    refine bH fD (fun jZ n12 ib fg iW=> ?_)
    obtain⟨af,ee,h⟩:=aE h
    obtain⟨ak,el,h⟩:=aE h
    obtain⟨aV,cg,h⟩:=aE h
    refine jV (bU [(0,.slice (a0.map gJ)),(3,.an 3 ((List.set bG (Int.toNat br) ak).map e5)),(4,.int .i64 br)] (fun P ai=> ?_) ?_)
    ·simp only[aO.down,simprocAttr,eg,eI,tw,nj,qf,tA,jw,kG,gh,gR,hZ,fS,nP,qh,mf,mg,cc,gJ,gi,fN,fT,e5,fp,fv,ee,cg,cG cg,dN,dz]
     refine e1 (axK af _ el) rfl rfl rfl rfl (.inl (by rfl)) ?_
     simp only[aO.down,simprocAttr,eg,eI,tw,nj,qf,tA,jw,kG,gh,gR,hZ,fS,nP,qh,mf,mg,cc,gJ,gi,fN,fT,e5,fp,fv,ee,cg,cG cg,dN,dz]
     (try simp only[bb.down,simprocAttr,cc,gJ,gi,fN,fT,e5,fp,fv,ee,cg,cG cg,dN,dz]at ai⊢);exact ai
    refine n12 _ (n11 _ (.inl ?_))
    refine wr [(0,.slice (a0.map gJ)),(3,.an 3 ((List.set bG (Int.toNat br) ak).map e5)),(4,.int .i64 (IntKind.i64.wrap (br+1)))] ?_
    exact n7 _ (.inr ⟨_,bq rfl,jA (List.set bG (Int.toNat br) ak) (IntKind.i64.wrap (br+1)) h⟩)
   ·refine dA (eb 0 _ (cQ 0 _ (ep _ (et _ (.inl ?_)))))
    refine ws _ ?_
    exact aD (al _ (.inl (aH [.an 3 (bG.map e5)])))
 obtain⟨n,h⟩:=dy h
 exact dC (.inr ⟨_,nK [] rfl (iD (t:=0) (d:=.slice (a0.map gJ)) rfl (nM (t:=3) (d:=.an 3 (List.replicate (Int.toNat (a0.length:Int)) (.agg [(.str []),(.int .i64 0),.bk]))) (bp:=.an 3 ((List.replicate (Int.toNat (a0.length:Int)) (bj.mk ([]:List UInt8) 0 [])).map e5)) rfl rfl (yv (u:=e5) (z:=(bj.mk ([]:List UInt8) 0 [])) (.agg (.cons (.refl _) (.cons (.refl _) (.cons (.l8 _) (.nil))))) _) (by decide) (iD (t:=4) (d:=.int .i64 0) rfl (nL)))),jz n (List.replicate (Int.toNat (a0.length:Int)) (bj.mk ([]:List UInt8) 0 [])) 0 h⟩)
theorem Pw (a0:List Int) (r:(List Int)) (h:y2 a0=some r):bl aB 25 [.slice (a0.map bs)] (.an 1 (r.map bs)) []:=by
 refine bT [0] [.tmp 2] Tryz.func25 uw (fun bO al bN=> ?_)
 refine ws _ ?_
 obtain⟨Px,aQ,h⟩:=aE h
 refine cP (bU [(0,.slice (a0.map bs)),(3,.an 1 ((List.replicate (Int.toNat (a0.length:Int)) 0).map bs))] (fun P ai=> ?_) ?_)
 ·simp only[aO.down,simprocAttr,nW.down,(eK aQ).1,(eK aQ).2.1,(eK aQ).2.2,eS,List.map_replicate,-Int.reduceNatCast']
  (try simp only[bb.down,simprocAttr,bs,(eK aQ).1,(eK aQ).2.1,(eK aQ).2.2,eS,List.map_replicate,-Int.reduceNatCast']at ai⊢);exact ai
 refine aI al (fun dK et cd bm=> ?_)
 refine ws [(0,.slice (a0.map bs)),(3,.an 1 ((List.replicate (Int.toNat (a0.length:Int)) 0).map bs)),(4,.int .i64 0)] ?_
 refine bH cd (fun eY n6 dj ep bM=> ?_)
 have jz:∀(n:Nat) (bG:List Int) (br:Int),Cm a0 n bG br=some r→dp aB N7 eY (ab [(0,.slice (a0.map bs)),(3,.an 1 (bG.map bs)),(4,.int .i64 br)]):=by
  intro m8
  induction m8 with
  |zero=>intro bG br h;cases(show none=some r from h)
  |succ m8 jA=>
   intro bG br h
   replace h:Nv (Cm a0 m8) a0 bG br=some r:=h
   refine dE dj (fun gZ n7 dY cQ=> ?_)
   refine aI dY (fun hg n8 gN eb=> ?_)
   refine ws _ ?_
   refine aT h (fun ek h=> ?_) (fun ek h=> ?_)
   ·refine aY (n8 _ (.inl ?_))
    refine aI dY (fun ir n11 fD eO=> ?_)
    refine bH fD (fun jZ n12 ib fg iW=> ?_)
    obtain⟨af,ee,h⟩:=aE h
    obtain⟨ak,el,h⟩:=aE h
    refine jV (bU [(0,.slice (a0.map bs)),(3,.an 1 ((List.set bG (Int.toNat br) af).map bs)),(4,.int .i64 br)] (fun P ai=> ?_) ?_)
    ·simp only[aO.down,simprocAttr,nW.down,ee,el,cG el,dN,dz]
     (try simp only[bb.down,simprocAttr,bs,ee,el,cG el,dN,dz]at ai⊢);exact ai
    refine n12 _ (n11 _ (.inl ?_))
    refine wr [(0,.slice (a0.map bs)),(3,.an 1 ((List.set bG (Int.toNat br) af).map bs)),(4,.int .i64 (IntKind.i64.wrap (br+1)))] ?_
    exact n7 _ (.inr ⟨_,bq rfl,jA (List.set bG (Int.toNat br) af) (IntKind.i64.wrap (br+1)) h⟩)
   ·refine dA (eb 0 _ (cQ 0 _ (ep _ (et _ (.inl ?_)))))
    refine ws _ ?_
    exact aD (al _ (.inl (aH [.an 1 (bG.map bs)])))
 obtain⟨n,h⟩:=dy h
 exact dC (.inr ⟨_,bq rfl,jz n (List.replicate (Int.toNat (a0.length:Int)) 0) 0 h⟩)
theorem axM (a0:iV) (r:dk) (h:y3 a0=some r):bl aB 84 [gK a0] (ff r) []:=by
 refine bT [0] [.cell 2 100] Tryz.func84 aby (fun bO al bN=> ?_)
 refine ws _ ?_
 refine ws _ ?_
 refine ws _ ?_
 obtain⟨af,cR,h⟩:=aE h
 refine dx (Pw a0.bS _ cR) _ ?_
 refine ws _ ?_
 exact aD (al _ (.inl (aH [ff (dk.mk a0.cm af)])))
theorem axN (a0:List iV) (r:(List dk)) (h:Co a0=some r):bl aB 45 [.slice (a0.map gK)] (.an 2 (r.map ff)) []:=by
 refine bT [0] [.tmp 2] Tryz.func45 abH (fun bO al bN=> ?_)
 refine ws _ ?_
 obtain⟨uG,aQ,h⟩:=aE h
 refine cP (bU [(0,.slice (a0.map gK)),(3,.an 2 (List.replicate (Int.toNat (a0.length:Int)) (.agg [(.int .i64 0),.bk])))] (fun P ai=> ?_) ?_)
 ·simp only[aO.down,simprocAttr,eg,tx,oG,hU,nO,tB,bs,gK,(eK aQ).1,(eK aQ).2.1,(eK aQ).2.2,eS,List.map_replicate,-Int.reduceNatCast']
  (try simp only[bb.down,simprocAttr,bs,gK,(eK aQ).1,(eK aQ).2.1,(eK aQ).2.2,eS,List.map_replicate,-Int.reduceNatCast']at ai⊢);exact ai
 refine aI al (fun dK et cd bm=> ?_)
 refine ws [(0,.slice (a0.map gK)),(3,.an 2 (List.replicate (Int.toNat (a0.length:Int)) (.agg [(.int .i64 0),.bk]))),(4,.int .i64 0)] ?_
 refine bH cd (fun eY n6 dj ep bM=> ?_)
 have jz:∀(n:Nat) (bG:List dk) (br:Int),Cn a0 n bG br=some r→dp aB N8 eY (ab [(0,.slice (a0.map gK)),(3,.an 2 (bG.map ff)),(4,.int .i64 br)]):=by
  intro m8
  induction m8 with
  |zero=>intro bG br h;cases(show none=some r from h)
  |succ m8 jA=>
   intro bG br h
   replace h:Nw (Cn a0 m8) a0 bG br=some r:=h
   refine dE dj (fun gZ n7 dY cQ=> ?_)
   refine aI dY (fun hg n8 gN eb=> ?_)
   refine ws _ ?_
   refine aT h (fun ek h=> ?_) (fun ek h=> ?_)
   ·refine aY (n8 _ (.inl ?_))
    refine aI dY (fun ir n11 fD eO=> ?_)
    refine bH fD (fun jZ n12 ib fg iW=> ?_)
    obtain⟨af,ee,h⟩:=aE h
    obtain⟨ak,el,h⟩:=aE h
    obtain⟨aV,cg,h⟩:=aE h
    refine jV (bU [(0,.slice (a0.map gK)),(3,.an 2 ((List.set bG (Int.toNat br) ak).map ff)),(4,.int .i64 br)] (fun P ai=> ?_) ?_)
    ·simp only[aO.down,simprocAttr,eg,tx,oG,hU,nO,tB,bs,gK,ff,ee,cg,cG cg,dN,dz]
     refine e1 (axM af _ el) rfl rfl rfl rfl (.inl (by rfl)) ?_
     simp only[aO.down,simprocAttr,eg,tx,oG,hU,nO,tB,bs,gK,ff,ee,cg,cG cg,dN,dz]
     (try simp only[bb.down,simprocAttr,bs,gK,ff,ee,cg,cG cg,dN,dz]at ai⊢);exact ai
    refine n12 _ (n11 _ (.inl ?_))
    refine wr [(0,.slice (a0.map gK)),(3,.an 2 ((List.set bG (Int.toNat br) ak).map ff)),(4,.int .i64 (IntKind.i64.wrap (br+1)))] ?_
    exact n7 _ (.inr ⟨_,bq rfl,jA (List.set bG (Int.toNat br) ak) (IntKind.i64.wrap (br+1)) h⟩)
   ·refine dA (eb 0 _ (cQ 0 _ (ep _ (et _ (.inl ?_)))))
    refine ws _ ?_
    exact aD (al _ (.inl (aH [.an 2 (bG.map ff)])))
 obtain⟨n,h⟩:=dy h
 exact dC (.inr ⟨_,nK [] rfl (iD (t:=0) (d:=.slice (a0.map gK)) rfl (nM (t:=3) (d:=.an 2 (List.replicate (Int.toNat (a0.length:Int)) (.agg [(.int .i64 0),.bk]))) (bp:=.an 2 ((List.replicate (Int.toNat (a0.length:Int)) (dk.mk 0 [])).map ff)) rfl rfl (yv (u:=ff) (z:=(dk.mk 0 [])) (.agg (.cons (.refl _) (.cons (.l8 _) (.nil)))) _) (by decide) (iD (t:=4) (d:=.int .i64 0) rfl (nL)))),jz n (List.replicate (Int.toNat (a0.length:Int)) (dk.mk 0 [])) 0 h⟩)
theorem axO (a0:iG) (r:cb) (h:y4 a0=some r):bl aB 85 [gx a0] (bz r) []:=by
 refine bT [0] [.cell 2 124] Tryz.func85 abO (fun bO al bN=> ?_)
 refine ws _ ?_
 refine ws _ ?_
 refine ws _ ?_
 refine ws _ ?_
 refine ws _ ?_
 refine ws _ ?_
 exact aD (al _ (.inl (aH [bz (cb.mk a0.Left a0.cp a0.Result)])))
theorem axP (a0:List iG) (r:(List cb)) (h:Cq a0=some r):bl aB 46 [.slice (a0.map gx)] (.an 3 (r.map bz)) []:=by
 refine bT [0] [.tmp 2] Tryz.func46 abX (fun bO al bN=> ?_)
 refine ws _ ?_
 obtain⟨uG,aQ,h⟩:=aE h
 refine cP (bU [(0,.slice (a0.map gx)),(3,.an 3 ((List.replicate (Int.toNat (a0.length:Int)) (cb.mk ([]:List UInt8) ([]:List UInt8) ([]:List UInt8))).map bz))] (fun P ai=> ?_) ?_)
 ·simp only[aO.down,simprocAttr,eI,tz,qe,tC,nk,bz,gx,(eK aQ).1,(eK aQ).2.1,(eK aQ).2.2,eS,List.map_replicate,-Int.reduceNatCast']
  (try simp only[bb.down,simprocAttr,bz,gx,(eK aQ).1,(eK aQ).2.1,(eK aQ).2.2,eS,List.map_replicate,-Int.reduceNatCast']at ai⊢);exact ai
 refine aI al (fun dK et cd bm=> ?_)
 refine ws [(0,.slice (a0.map gx)),(3,.an 3 ((List.replicate (Int.toNat (a0.length:Int)) (cb.mk ([]:List UInt8) ([]:List UInt8) ([]:List UInt8))).map bz)),(4,.int .i64 0)] ?_
 refine bH cd (fun eY n6 dj ep bM=> ?_)
 have jz:∀(n:Nat) (bG:List cb) (br:Int),Cp a0 n bG br=some r→dp aB N9 eY (ab [(0,.slice (a0.map gx)),(3,.an 3 (bG.map bz)),(4,.int .i64 br)]):=by
  intro m8
  induction m8 with
  |zero=>intro bG br h;cases(show none=some r from h)
  |succ m8 jA=>
   intro bG br h
   replace h:Nx (Cp a0 m8) a0 bG br=some r:=h
   refine dE dj (fun gZ n7 dY cQ=> ?_)
   refine aI dY (fun hg n8 gN eb=> ?_)
   refine ws _ ?_
   refine aT h (fun ek h=> ?_) (fun ek h=> ?_)
   ·refine aY (n8 _ (.inl ?_))
    refine aI dY (fun ir n11 fD eO=> ?_)
    refine bH fD (fun jZ n12 ib fg iW=> ?_)
    obtain⟨af,ee,h⟩:=aE h
    obtain⟨ak,el,h⟩:=aE h
    obtain⟨aV,cg,h⟩:=aE h
    refine jV (bU [(0,.slice (a0.map gx)),(3,.an 3 ((List.set bG (Int.toNat br) ak).map bz)),(4,.int .i64 br)] (fun P ai=> ?_) ?_)
    ·simp only[aO.down,simprocAttr,eI,tz,qe,tC,nk,bz,gx,ee,cg,cG cg,dN,dz]
     refine e1 (axO af _ el) rfl rfl rfl rfl (.inl (by rfl)) ?_
     simp only[aO.down,simprocAttr,eI,tz,qe,tC,nk,bz,gx,ee,cg,cG cg,dN,dz]
     (try simp only[bb.down,simprocAttr,bz,gx,ee,cg,cG cg,dN,dz]at ai⊢);exact ai
    refine n12 _ (n11 _ (.inl ?_))
    refine wr [(0,.slice (a0.map gx)),(3,.an 3 ((List.set bG (Int.toNat br) ak).map bz)),(4,.int .i64 (IntKind.i64.wrap (br+1)))] ?_
    exact n7 _ (.inr ⟨_,bq rfl,jA (List.set bG (Int.toNat br) ak) (IntKind.i64.wrap (br+1)) h⟩)
   ·refine dA (eb 0 _ (cQ 0 _ (ep _ (et _ (.inl ?_)))))
    refine ws _ ?_
    exact aD (al _ (.inl (aH [.an 3 (bG.map bz)])))
 obtain⟨n,h⟩:=dy h
 exact dC (.inr ⟨_,bq rfl,jz n (List.replicate (Int.toNat (a0.length:Int)) (cb.mk ([]:List UInt8) ([]:List UInt8) ([]:List UInt8))) 0 h⟩)
theorem Py (a0:List (List UInt8)) (r:(List (List UInt8))) (h:y5 a0=some r):bl aB 47 [.slice (a0.map bE)] (.an 1 (r.map bE)) []:=by
 refine bT [0] [.tmp 2] Tryz.func47 ux (fun bO al bN=> ?_)
 refine ws _ ?_
 obtain⟨Px,aQ,h⟩:=aE h
 refine cP (bU [(0,.slice (a0.map bE)),(3,.an 1 ((List.replicate (Int.toNat (a0.length:Int)) ([]:List UInt8)).map bE))] (fun P ai=> ?_) ?_)
 ·simp only[aO.down,simprocAttr,eI,k4,bE,(eK aQ).1,(eK aQ).2.1,(eK aQ).2.2,eS,List.map_replicate,-Int.reduceNatCast']
  (try simp only[bb.down,simprocAttr,bE,(eK aQ).1,(eK aQ).2.1,(eK aQ).2.2,eS,List.map_replicate,-Int.reduceNatCast']at ai⊢);exact ai
 refine aI al (fun dK et cd bm=> ?_)
 refine ws [(0,.slice (a0.map bE)),(3,.an 1 ((List.replicate (Int.toNat (a0.length:Int)) ([]:List UInt8)).map bE)),(4,.int .i64 0)] ?_
 refine bH cd (fun eY n6 dj ep bM=> ?_)
 have jz:∀(n:Nat) (bG:List (List UInt8)) (br:Int),Cr a0 n bG br=some r→dp aB N_ eY (ab [(0,.slice (a0.map bE)),(3,.an 1 (bG.map bE)),(4,.int .i64 br)]):=by
  intro m8
  induction m8 with
  |zero=>intro bG br h;cases(show none=some r from h)
  |succ m8 jA=>
   intro bG br h
   replace h:Ny (Cr a0 m8) a0 bG br=some r:=h
   refine dE dj (fun gZ n7 dY cQ=> ?_)
   refine aI dY (fun hg n8 gN eb=> ?_)
   refine ws _ ?_
   refine aT h (fun ek h=> ?_) (fun ek h=> ?_)
   ·refine aY (n8 _ (.inl ?_))
    refine aI dY (fun ir n11 fD eO=> ?_)
    refine bH fD (fun jZ n12 ib fg iW=> ?_)
    obtain⟨af,ee,h⟩:=aE h
    obtain⟨ak,el,h⟩:=aE h
    refine jV (bU [(0,.slice (a0.map bE)),(3,.an 1 ((List.set bG (Int.toNat br) af).map bE)),(4,.int .i64 br)] (fun P ai=> ?_) ?_)
    ·simp only[aO.down,simprocAttr,eI,k4,bE,ee,el,cG el,dN,dz]
     (try simp only[bb.down,simprocAttr,bE,ee,el,cG el,dN,dz]at ai⊢);exact ai
    refine n12 _ (n11 _ (.inl ?_))
    refine wr [(0,.slice (a0.map bE)),(3,.an 1 ((List.set bG (Int.toNat br) af).map bE)),(4,.int .i64 (IntKind.i64.wrap (br+1)))] ?_
    exact n7 _ (.inr ⟨_,bq rfl,jA (List.set bG (Int.toNat br) af) (IntKind.i64.wrap (br+1)) h⟩)
   ·refine dA (eb 0 _ (cQ 0 _ (ep _ (et _ (.inl ?_)))))
    refine ws _ ?_
    exact aD (al _ (.inl (aH [.an 1 (bG.map bE)])))
 obtain⟨n,h⟩:=dy h
 exact dC (.inr ⟨_,bq rfl,jz n (List.replicate (Int.toNat (a0.length:Int)) ([]:List UInt8)) 0 h⟩)
theorem Er (a0:k6) (r:ea) (h:r6 a0=some r):bl aB 11 [jy a0] (mO r) []:=by
 refine bT [0] [.cell 2 38] Tryz.func11 wS (fun bO al bN=> ?_)
 refine ws _ ?_
 refine ws _ ?_
 obtain⟨af,cF,h⟩:=aE h
 refine dx (axL a0.ew _ cF) _ ?_
 obtain⟨ak,ch,h⟩:=aE h
 refine dx (axN a0.c8 _ ch) _ ?_
 obtain⟨aV,hq,h⟩:=aE h
 refine dx (axP a0.hE _ hq) _ ?_
 obtain⟨bm,mu,h⟩:=aE h
 refine dx (Py a0.hv _ mu) _ ?_
 obtain⟨bh,eo,h⟩:=aE h
 refine dx (Py a0.hx _ eo) _ ?_
 refine ws _ ?_
 exact aD (al _ (.inl (aH [mO (ea.mk af ak aV bm bh)])))
theorem axQ (a0:iH) (r:aW) (h:y6 a0=some r):bl aB 48 [gy a0] (b6 r) []:=by
 refine bT [0] [.cell 2 82] Tryz.func48 ack (fun bO al bN=> ?_)
 refine ws _ ?_
 refine ws _ ?_
 refine ws _ ?_
 refine ws _ ?_
 obtain⟨af,ch,h⟩:=aE h
 refine dx (Pw a0.bS _ ch) _ ?_
 refine ws _ ?_
 exact aD (al _ (.inl (aH [b6 (aW.mk a0.cm a0.Part af)])))
theorem Es (a0:List iH) (r:(List aW)) (h:tE a0=some r):bl aB 12 [.slice (a0.map gy)] (.an 3 (r.map b6)) []:=by
 refine bT [0] [.tmp 2] Tryz.func12 wT (fun bO al bN=> ?_)
 refine ws _ ?_
 obtain⟨uG,aQ,h⟩:=aE h
 refine cP (bU [(0,.slice (a0.map gy)),(3,.an 3 (List.replicate (Int.toNat (a0.length:Int)) (.agg [(.int .i64 0),(.int .i64 0),.bk])))] (fun P ai=> ?_) ?_)
 ·simp only[aO.down,simprocAttr,eg,B1,q1,hU,B2,k5,bs,gy,(eK aQ).1,(eK aQ).2.1,(eK aQ).2.2,eS,List.map_replicate,-Int.reduceNatCast']
  (try simp only[bb.down,simprocAttr,bs,gy,(eK aQ).1,(eK aQ).2.1,(eK aQ).2.2,eS,List.map_replicate,-Int.reduceNatCast']at ai⊢);exact ai
 refine aI al (fun dK et cd bm=> ?_)
 refine ws [(0,.slice (a0.map gy)),(3,.an 3 (List.replicate (Int.toNat (a0.length:Int)) (.agg [(.int .i64 0),(.int .i64 0),.bk]))),(4,.int .i64 0)] ?_
 refine bH cd (fun eY n6 dj ep bM=> ?_)
 have jz:∀(n:Nat) (bG:List aW) (br:Int),Cs a0 n bG br=some r→dp aB Oa eY (ab [(0,.slice (a0.map gy)),(3,.an 3 (bG.map b6)),(4,.int .i64 br)]):=by
  intro m8
  induction m8 with
  |zero=>intro bG br h;cases(show none=some r from h)
  |succ m8 jA=>
   intro bG br h
   replace h:Nz (Cs a0 m8) a0 bG br=some r:=h
   refine dE dj (fun gZ n7 dY cQ=> ?_)
   refine aI dY (fun hg n8 gN eb=> ?_)
   refine ws _ ?_
   refine aT h (fun ek h=> ?_) (fun ek h=> ?_)
   ·refine aY (n8 _ (.inl ?_))
    refine aI dY (fun ir n11 fD eO=> ?_)
    refine bH fD (fun jZ n12 ib fg iW=> ?_)
    obtain⟨af,ee,h⟩:=aE h
    obtain⟨ak,el,h⟩:=aE h
    obtain⟨aV,cg,h⟩:=aE h
    refine jV (bU [(0,.slice (a0.map gy)),(3,.an 3 ((List.set bG (Int.toNat br) ak).map b6)),(4,.int .i64 br)] (fun P ai=> ?_) ?_)
    ·simp only[aO.down,simprocAttr,eg,B1,q1,hU,B2,k5,bs,gy,b6,ee,cg,cG cg,dN,dz]
     refine e1 (axQ af _ el) rfl rfl rfl rfl (.inl (by rfl)) ?_
     simp only[aO.down,simprocAttr,eg,B1,q1,hU,B2,k5,bs,gy,b6,ee,cg,cG cg,dN,dz]
     (try simp only[bb.down,simprocAttr,bs,gy,b6,ee,cg,cG cg,dN,dz]at ai⊢);exact ai
    refine n12 _ (n11 _ (.inl ?_))
    refine wr [(0,.slice (a0.map gy)),(3,.an 3 ((List.set bG (Int.toNat br) ak).map b6)),(4,.int .i64 (IntKind.i64.wrap (br+1)))] ?_
    exact n7 _ (.inr ⟨_,bq rfl,jA (List.set bG (Int.toNat br) ak) (IntKind.i64.wrap (br+1)) h⟩)
   ·refine dA (eb 0 _ (cQ 0 _ (ep _ (et _ (.inl ?_)))))
    refine ws _ ?_
    exact aD (al _ (.inl (aH [.an 3 (bG.map b6)])))
 obtain⟨n,h⟩:=dy h
 exact dC (.inr ⟨_,nK [] rfl (iD (t:=0) (d:=.slice (a0.map gy)) rfl (nM (t:=3) (d:=.an 3 (List.replicate (Int.toNat (a0.length:Int)) (.agg [(.int .i64 0),(.int .i64 0),.bk]))) (bp:=.an 3 ((List.replicate (Int.toNat (a0.length:Int)) (aW.mk 0 0 [])).map b6)) rfl rfl (yv (u:=b6) (z:=(aW.mk 0 0 [])) (.agg (.cons (.refl _) (.cons (.refl _) (.cons (.l8 _) (.nil))))) _) (by decide) (iD (t:=4) (d:=.int .i64 0) rfl (nL)))),jz n (List.replicate (Int.toNat (a0.length:Int)) (aW.mk 0 0 [])) 0 h⟩)
theorem Ig (a0:UInt8) (r:Bool) (h:y7 a0=some r):bl aB 240 [.int .u8 (a0.toNat:Int)] (.bool r) []:=by
 refine bT [0] [.tmp 2] Tryz.func240 acx (fun bO al bN=> ?_)
 refine ws _ ?_
 refine cP (bU [(2,.bool ((decide (97≤(a0.toNat:Int)))&&(decide ((a0.toNat:Int)≤122))))] (fun P ai=> ?_) ?_)
 ·rcases Bool.eq_false_or_eq_true (decide (97≤(a0.toNat:Int)))with e4|e4
  ·simp only[aO.down,simprocAttr,e4]
   (try simp only[bb.down,simprocAttr,e4]at ai⊢);exact ai
  ·simp only[aO.down,simprocAttr,e4]
   (try simp only[bb.down,simprocAttr,e4]at ai⊢);exact ai
 exact aD (al _ (.inl (aH [.bool ((decide (97≤(a0.toNat:Int)))&&(decide ((a0.toNat:Int)≤122)))])))
theorem axR (a0:UInt8) (r:Bool) (h:Hq a0=some r):bl aB 241 [.int .u8 (a0.toNat:Int)] (.bool r) []:=by
 refine bT [0] [.tmp 2] Tryz.func241 acA (fun bO al bN=> ?_)
 refine ws _ ?_
 refine cP (bU [(2,.bool ((decide (48≤(a0.toNat:Int)))&&(decide ((a0.toNat:Int)≤57))))] (fun P ai=> ?_) ?_)
 ·rcases Bool.eq_false_or_eq_true (decide (48≤(a0.toNat:Int)))with e4|e4
  ·simp only[aO.down,simprocAttr,e4]
   (try simp only[bb.down,simprocAttr,e4]at ai⊢);exact ai
  ·simp only[aO.down,simprocAttr,e4]
   (try simp only[bb.down,simprocAttr,e4]at ai⊢);exact ai
 exact aD (al _ (.inl (aH [.bool ((decide (48≤(a0.toNat:Int)))&&(decide ((a0.toNat:Int)≤57)))])))
theorem Ak (a0:List UInt8) (r:Bool) (h:wA a0=some r):bl aB 181 [.str a0] (.bool r) []:=by
 refine bT [0] [.tmp 2] Tryz.func181 acN (fun bO al bN=> ?_)
 refine ws _ ?_
 refine aI al (fun d_ bW bg ak=> ?_)
 rcases e9 h with⟨b4,h⟩|⟨b4,h⟩
 ·refine hI b4 _ ?_
  refine jg rfl ?_
  refine ws _ ?_
  exact aD (bg _ (.inl (aH [.bool false])))
 ·rcases e9 h with⟨ep,h⟩|⟨ep,h⟩
  ·refine hI (And.intro b4 ep) _ ?_
   refine jg rfl ?_
   refine ws _ ?_
   exact aD (bg _ (.inl (aH [.bool false])))
  ·obtain⟨af,hq,h⟩:=aE h
   obtain⟨ak,lh,h⟩:=aE h
   refine cP (bU [(0,.str a0),(16,.bool (!ak))] (fun P ai=> ?_) ?_)
   ·simp only[aO.down,simprocAttr,eI,b4,ep,hq]
    refine hQ (Ig af _ lh) rfl rfl rfl rfl (.inl (by rfl)) ?_
    simp only[aO.down,simprocAttr,eI,b4,ep,hq]
    (try simp only[bb.down,simprocAttr,b4,ep,hq]at ai⊢);exact ai
   refine aT h (fun ek h=> ?_) (fun ek h=> ?_)
   ·refine ws _ ?_
    exact aD (bg _ (.inl (aH [.bool false])))
   ·refine aY (bW _ (.inl ?_))
    refine aI al (fun jZ n12 ib iW=> ?_)
    refine ws _ ?_
    refine bH ib (fun iL n14 eX gk hV=> ?_)
    have hJ:∀(n:Nat) (c9:Int),wz a0 n c9=some r→dp aB Ob iL (ab [(0,.str a0),(3,.int .i64 c9)]):=by
     intro m14
     induction m14 with
     |zero=>intro c9 h;cases(show none=some r from h)
     |succ m14 hh=>
      intro c9 h
      replace h:Ct (wz a0 m14) a0 c9=some r:=h
      refine dE eX (fun mj n15 hz jO=> ?_)
      refine aI hz (fun qm n16 lx nn=> ?_)
      refine ws _ ?_
      refine aT h (fun iM h=> ?_) (fun iM h=> ?_)
      ·refine aY (n16 _ (.inl ?_))
       refine aI hz (fun Pz n19 Et ur=> ?_)
       refine bH Et (fun axS n20 Ih e3 zV=> ?_)
       obtain⟨aV,gl,h⟩:=aE h
       obtain⟨bm,n0,h⟩:=aE h
       rcases e9 h with⟨i1,h⟩|⟨i1,h⟩
       ·obtain⟨bh,ml,h⟩:=aE h
        refine cP (bU [(0,.str a0),(3,.int .i64 c9),(34,.bool (!bh))] (fun P ai=> ?_) ?_)
        ·simp only[aO.down,simprocAttr,eI,gl,(fk i1)]
         refine e1 (Ig aV _ n0) rfl rfl rfl rfl (.inl (by rfl)) ?_
         simp only[aO.down,simprocAttr,eI,gl,(fk i1)]
         refine hQ (axR aV _ ml) rfl rfl rfl rfl (.inl (by rfl)) ?_
         simp only[aO.down,simprocAttr,eI,gl,(fk i1)]
         (try simp only[bb.down,simprocAttr,gl,(fk i1)]at ai⊢);exact ai
        refine aT h (fun hK h=> ?_) (fun hK h=> ?_)
        ·refine ws _ ?_
         exact aD (Ih _ (.inl (aH [.bool false])))
        ·refine aY (n20 _ (n19 _ (.inl ?_)))
         refine wr _ ?_
         exact n15 _ (.inr ⟨_,bq rfl,hh (IntKind.i64.wrap (c9+1)) h⟩)
       ·refine im (And.intro gl (bV i1)) (Ig aV _ n0) _ ?_
        refine qV rfl ?_
        refine aY (n20 _ (n19 _ (.inl ?_)))
        refine wr _ ?_
        exact n15 _ (.inr ⟨_,bq rfl,hh (IntKind.i64.wrap (c9+1)) h⟩)
      ·refine dA (nn 0 _ (jO 0 _ (gk _ (n12 _ (.inl ?_)))))
       refine ws _ ?_
       exact aD (al _ (.inl (aH [.bool true])))
    obtain⟨n,h⟩:=dy h
    exact dC (.inr ⟨_,bq rfl,hJ n 0 h⟩)
theorem nt (a0:Int) (R:Int) (a2:Int) (r:Bool) (h:lv a0 R a2=some r):bl aB 61 [.int .i64 a0,.int .i64 R,.int .i64 a2] (.bool r) []:=by
 refine bT [0,1,2] [.tmp 6] Tryz.func61 acQ (fun bO al bN=> ?_)
 refine ws _ ?_
 refine cP (bU [(6,.bool ((decide (R≤a0))&&(decide (a0≤a2))))] (fun P ai=> ?_) ?_)
 ·rcases Bool.eq_false_or_eq_true (decide (R≤a0))with e4|e4
  ·simp only[aO.down,simprocAttr,e4]
   (try simp only[bb.down,simprocAttr,e4]at ai⊢);exact ai
  ·simp only[aO.down,simprocAttr,e4]
   (try simp only[bb.down,simprocAttr,e4]at ai⊢);exact ai
 exact aD (al _ (.inl (aH [.bool ((decide (R≤a0))&&(decide (a0≤a2)))])))
theorem PA (a0:bJ) (r:Int) (h:y9 a0=some r):bl aB 244 [.ref (cA a0)] (.int .i64 r) []:=by
 refine bT [0] [.tmp 2] Tryz.func244 ac3 (fun bO al bN=> ?_)
 refine ws _ ?_
 refine aI al (fun d_ bW bg ak=> ?_)
 refine ws _ ?_
 refine bH bg (fun dK et cd b4 bm=> ?_)
 have uH:∀(hF:Bool),y8 a0 hF=some r→dc aB Oc dK (ab [(6,.int .i64 a0.Kind),(7,.bool hF)]):=by
  intro hF h
  refine aT h (fun ep h=> ?_) (fun ep h=> ?_)
  ·refine ws _ ?_
   exact aD (cd _ (.inl (aH [.int .i64 1])))
  ·refine ws _ ?_
   refine aT h (fun gj h=> ?_) (fun gj h=> ?_)
   ·refine ws _ ?_
    exact aD (cd _ (.inl (aH [.int .i64 2])))
   ·refine aY (et _ (bW _ (.inl ?_)))
    refine ws _ ?_
    exact aD (al _ (.inl (aH [.int .i64 0])))
 refine aI cd (fun gO dH cS bh=> ?_)
 refine ws _ ?_
 refine aT h (fun gM h=> ?_) (fun gM h=> ?_)
 ·simp only[gM,Ab.down]
  exact aY (dH _ (.inr ⟨_,bq rfl,uH true h⟩))
 ·refine ws _ ?_
  refine aT h (fun eU h=> ?_) (fun eU h=> ?_)
  ·simp only[eU,Ab.down]
   exact aY (dH _ (.inr ⟨_,bq rfl,uH true h⟩))
  ·refine wr _ ?_
   exact dH _ (.inr ⟨_,bq rfl,uH (a0.Kind==4) h⟩)
theorem axT (a0:List bJ) (r:Bool) (h:Cv a0=some r):bl aB 242 [.slice (a0.map cA)] (.bool r) []:=by
 refine bT [0] [.tmp 2] Tryz.func242 adj (fun bO al bN=> ?_)
 refine ws _ ?_
 refine aI al (fun d_ bW bg ak=> ?_)
 refine cP (bU [(0,.slice (a0.map cA)),(12,.bool (((a0.length:Int)==0)||(decide (20<(a0.length:Int)))))] (fun P ai=> ?_) ?_)
 ·rcases Bool.eq_false_or_eq_true ((a0.length:Int)==0)with hP|hP
  ·simp only[aO.down,simprocAttr,Ej.down,hP]
   (try simp only[bb.down,simprocAttr,nr.down,hP]at ai⊢);exact ai
  ·simp only[aO.down,simprocAttr,Ej.down,hP]
   (try simp only[bb.down,simprocAttr,nr.down,hP]at ai⊢);exact ai
 refine aT h (fun cN h=> ?_) (fun cN h=> ?_)
 ·refine ws _ ?_
  exact aD (bg _ (.inl (aH [.bool false])))
 ·refine aY (bW _ (.inl ?_))
  refine ws _ ?_
  refine aI al (fun hg n8 gN eb=> ?_)
  refine ws _ ?_
  refine bH gN (fun eJ n10 cx ek c_=> ?_)
  have kr:∀(n:Nat) (nQ:Int) (oH:Int),tF a0 n nQ oH=some r→dp aB Od eJ (ab [(0,.slice (a0.map cA)),(3,.int .i64 nQ),(4,.int .i64 oH)]):=by
   intro m16
   induction m16 with
   |zero=>intro nQ oH h;cases(show none=some r from h)
   |succ m16 ks=>
    intro nQ oH h
    replace h:Cu (tF a0 m16) a0 nQ oH=some r:=h
    refine dE cx (fun ir n11 fD eO=> ?_)
    refine aI fD (fun jZ n12 ib iW=> ?_)
    refine ws _ ?_
    refine aT h (fun gk h=> ?_) (fun gk h=> ?_)
    ·refine aY (n12 _ (.inl ?_))
     refine aI fD (fun mj n15 hz jO=> ?_)
     refine bH hz (fun qm n16 lx kd nn=> ?_)
     refine aI lx (fun oR n17 jo h0=> ?_)
     refine ws _ ?_
     refine aT h (fun hA h=> ?_) (fun hA h=> ?_)
     ·refine ws _ ?_
      exact aD (jo _ (.inl (aH [.bool false])))
     ·refine aY (n17 _ (.inl ?_))
      obtain⟨af,gl,h⟩:=aE h
      obtain⟨ak,n0,h⟩:=aE h
      refine H_ gl (PA af _ n0) _ ?_
      refine n16 _ (n15 _ (.inl ?_))
      refine wr _ ?_
      exact n11 _ (.inr ⟨_,bq rfl,ks (IntKind.i64.wrap (nQ+(IntKind.i64.wrap (ak-1)))) (IntKind.i64.wrap (oH+1)) h⟩)
    ·refine dA (iW 0 _ (eO 0 _ (ek _ (n8 _ (.inl ?_)))))
     refine ws _ ?_
     exact aD (al _ (.inl (aH [.bool (nQ==0)])))
  obtain⟨n,h⟩:=dy h
  exact dC (.inr ⟨_,bq rfl,kr n 1 0 h⟩)
theorem axU (a0:bJ) (r:Bool) (h:Hr a0=some r):bl aB 283 [.ref (cA a0)] (.bool r) []:=by
 refine bT [0] [.tmp 2] Tryz.func283 adD (fun bO al bN=> ?_)
 refine ws _ ?_
 refine aI al (fun d_ bW bg ak=> ?_)
 refine ws _ ?_
 refine bH bg (fun dK et cd b4 bm=> ?_)
 have w4:∀(y_:Bool),Cw a0 y_=some r→dc aB Oe dK (ab [(0,.ref (cA a0)),(6,.int .i64 a0.Kind),(7,.bool y_)]):=by
  intro y_ h
  refine aT h (fun ep h=> ?_) (fun ep h=> ?_)
  ·refine cP (bU [(2,.bool (((a0.Number==0)&&(a0.Name==([]:List UInt8)))&&((a0.cO.length:Int)==0)))] (fun P ai=> ?_) ?_)
   ·(rcases Bool.eq_false_or_eq_true (a0.Number==0)with pw|pw)<;>(rcases Bool.eq_false_or_eq_true (a0.Name==([]:List UInt8))with nq|nq)<;>
     (simp only[aO.down,simprocAttr,oQ.down,pw,nq]
      (try simp only[bb.down,simprocAttr,nr.down,pw,nq]at ai⊢);exact ai)
   exact aD (cd _ (.inl (aH [.bool (((a0.Number==0)&&(a0.Name==([]:List UInt8)))&&((a0.cO.length:Int)==0))])))
  ·refine ws _ ?_
   refine aT h (fun k9 h=> ?_) (fun k9 h=> ?_)
   ·refine ws _ ?_
    exact aD (cd _ (.inl (aH [.bool (a0.Number==0)])))
   ·refine ws _ ?_
    refine aT h (fun gk h=> ?_) (fun gk h=> ?_)
    ·refine cP (bU [(2,.bool ((a0.Number==0)&&(a0.Name==([]:List UInt8))))] (fun P ai=> ?_) ?_)
     ·rcases Bool.eq_false_or_eq_true (a0.Number==0)with uy|uy
      ·simp only[aO.down,simprocAttr,oQ.down,uy]
       (try simp only[bb.down,simprocAttr,nr.down,uy]at ai⊢);exact ai
      ·simp only[aO.down,simprocAttr,oQ.down,uy]
       (try simp only[bb.down,simprocAttr,nr.down,uy]at ai⊢);exact ai
     exact aD (cd _ (.inl (aH [.bool ((a0.Number==0)&&(a0.Name==([]:List UInt8)))])))
    ·refine ws _ ?_
     refine aT h (fun iM h=> ?_) (fun iM h=> ?_)
     ·refine cP (bU [(2,.bool ((a0.Name==([]:List UInt8))&&((a0.cO.length:Int)==0)))] (fun P ai=> ?_) ?_)
      ·rcases Bool.eq_false_or_eq_true (a0.Name==([]:List UInt8))with Al|Al
       ·simp only[aO.down,simprocAttr,oQ.down,Al]
        (try simp only[bb.down,simprocAttr,nr.down,Al]at ai⊢);exact ai
       ·simp only[aO.down,simprocAttr,oQ.down,Al]
        (try simp only[bb.down,simprocAttr,nr.down,Al]at ai⊢);exact ai
      exact aD (cd _ (.inl (aH [.bool ((a0.Name==([]:List UInt8))&&((a0.cO.length:Int)==0))])))
     ·refine ws _ ?_
      refine aT h (fun qn h=> ?_) (fun qn h=> ?_)
      ·refine ws _ ?_
       exact aD (cd _ (.inl (aH [.bool (a0.Name==([]:List UInt8))])))
      ·refine aY (et _ (bW _ (.inl ?_)))
       refine ws _ ?_
       exact aD (al _ (.inl (aH [.bool false])))
 refine aI cd (fun gO dH cS bh=> ?_)
 refine ws _ ?_
 refine aT h (fun hK h=> ?_) (fun hK h=> ?_)
 ·simp only[hK,Ab.down]
  exact aY (dH _ (.inr ⟨_,bq rfl,w4 true h⟩))
 ·refine wr _ ?_
  exact dH _ (.inr ⟨_,bq rfl,w4 (a0.Kind==2) h⟩)
theorem axV (a0:List bJ) (R:Int) (r:Int) (h:Cy a0 R=some r):bl aB 185 [.slice (a0.map cA),.int .i64 R] (.int .i64 r) []:=by
 refine bT [0] [.tmp 4] Tryz.func185 adL (fun bO al bN=> ?_)
 refine ws _ ?_
 refine ws _ ?_
 refine aI al (fun kq gL di aV=> ?_)
 refine bH di (fun dK et cd b4 bm=> ?_)
 have e8:∀(n:Nat) (aU:Int) (aF:Int),tG a0 n aU aF=some r→dp aB Of dK (ab [(0,.slice (a0.map cA)),(1,.int .i64 aU),(5,.int .i64 aF)]):=by
  intro m6
  induction m6 with
  |zero=>intro aU aF h;cases(show none=some r from h)
  |succ m6 eZ=>
   intro aU aF h
   replace h:Cx (tG a0 m6) a0 aU aF=some r:=h
   refine dE cd (fun gO dH cS bh=> ?_)
   refine aI cS (fun eY n6 dj bM=> ?_)
   refine ws _ ?_
   refine aT h (fun cH h=> ?_) (fun cH h=> ?_)
   ·refine aY (n6 _ (.inl ?_))
    refine bH cS (fun eh cL cl gj dh=> ?_)
    obtain⟨af,l4,h⟩:=aE h
    obtain⟨ak,eo,h⟩:=aE h
    refine im l4 (PA af _ eo) _ ?_
    refine wr _ ?_
    exact cL _ (dH _ (.inr ⟨_,bq rfl,eZ (IntKind.i64.wrap (aU+1)) (IntKind.i64.wrap (aF+(IntKind.i64.wrap (ak-1)))) h⟩))
   ·refine dA (bM 0 _ (bh 0 _ (b4 _ (gL _ (.inl ?_)))))
    refine ws _ ?_
    exact aD (al _ (.inl (aH [.int .i64 aU])))
 obtain⟨n,h⟩:=dy h
 exact dC (.inr ⟨_,bq rfl,e8 n R 1 h⟩)
theorem Ii (a0:bj) (R:Int) (r:Int) (h:r8 a0 R=some r):bl aB 136 [.ref (bA a0),.int .i64 R] (.int .i64 r) []:=by
 refine bT [0,1] [.tmp 4] Tryz.func136 adV (fun bO al bN=> ?_)
 refine ws _ ?_
 refine ws _ ?_
 refine aI al (fun kq gL di aV=> ?_)
 refine ws _ ?_
 refine bH di (fun gO dH cS cN bh=> ?_)
 have jz:∀(n:Nat) (lR:Int) (k7:Int),r7 a0 R n lR k7=some r→dp aB Oh gO (ab [(0,.ref (bA a0)),(1,.int .i64 R),(5,.int .i64 lR),(6,.int .i64 k7)]):=by
  intro m8
  induction m8 with
  |zero=>intro lR k7 h;cases(show none=some r from h)
  |succ m8 jA=>
   intro lR k7 h
   replace h:Cz (r7 a0 R m8) a0 R lR k7=some r:=h
   refine dE cS (fun eY n6 dj bM=> ?_)
   refine aI dj (fun gZ n7 dY cQ=> ?_)
   refine ws _ ?_
   refine aT h (fun gj h=> ?_) (fun gj h=> ?_)
   ·refine aY (n7 _ (.inl ?_))
    have Ij:∀(wB:Int) (wC:Int),za (r7 a0 R m8) a0 R wB wC=some r→dc aB Og eY (ab [(0,.ref (bA a0)),(1,.int .i64 R),(5,.int .i64 wB),(6,.int .i64 wC)]):=by
     intro wB wC h
     refine wr _ ?_
     exact n6 _ (.inr ⟨_,bq rfl,jA wB (IntKind.i64.wrap (wC+1)) h⟩)
    refine aI dj (fun eJ n10 cx c_=> ?_)
    refine bH cx (fun jZ n12 ib fg iW=> ?_)
    obtain⟨af,ee,h⟩:=aE h
    rcases e9 h with⟨eU,h⟩|⟨eU,h⟩
    ·obtain⟨ak,cg,h⟩:=aE h
     refine cP (bU [(0,.ref (bA a0)),(1,.int .i64 R),(5,.int .i64 lR),(6,.int .i64 k7),(34,.bool (decide (R<ak)))] (fun P ai=> ?_) ?_)
     ·simp only[aO.down,simprocAttr,qk.down,ee,eU]
      refine hQ (axV a0.Body k7 _ cg) rfl rfl rfl rfl (.inl (by rfl)) ?_
      simp only[aO.down,simprocAttr,qk.down,ee,eU]
      (try simp only[bb.down,simprocAttr,iq.down,ee,eU]at ai⊢);exact ai
     refine aT h (fun jB h=> ?_) (fun jB h=> ?_)
     ·refine wr _ ?_
      exact n12 _ (n10 _ (.inr ⟨_,bq rfl,Ij (IntKind.i64.wrap (lR+1)) k7 h⟩))
     ·exact aY (n12 _ (n10 _ (.inr ⟨_,bq rfl,Ij lR k7 h⟩)))
    ·refine hI (And.intro ee eU) _ ?_
     refine qV rfl ?_
     exact aY (n12 _ (n10 _ (.inr ⟨_,bq rfl,Ij lR k7 h⟩)))
   ·refine dA (cQ 0 _ (bM 0 _ (cN _ (gL _ (.inl ?_)))))
    refine ws _ ?_
    exact aD (al _ (.inl (aH [.int .i64 lR])))
 obtain⟨n,h⟩:=dy h
 exact dC (.inr ⟨_,bq rfl,jz n a0.dt 0 h⟩)
theorem axW (a0:b7) (R:Int) (r:Bool) (h:CA a0 R=some r):bl aB 252 [.ref (cc a0),.int .i64 R] (.bool r) []:=by
 refine bT [0,1] [.tmp 4] Tryz.func252 aea (fun bO al bN=> ?_)
 refine ws _ ?_
 refine aI al (fun d_ bW bg ak=> ?_)
 refine ws _ ?_
 refine bH bg (fun dK et cd b4 bm=> ?_)
 refine ws _ ?_
 refine aT h (fun ep h=> ?_) (fun ep h=> ?_)
 ·obtain⟨af,hq,h⟩:=aE h
  refine dx (nt a0.Value 0 63 _ hq) _ ?_
  exact aD (cd _ (.inl (aH [.bool af])))
 ·refine ws _ ?_
  refine aT h (fun ek h=> ?_) (fun ek h=> ?_)
  ·obtain⟨ak,eo,h⟩:=aE h
   refine dx (nt a0.Value 0 (IntKind.i64.wrap (R-1)) _ eo) _ ?_
   exact aD (cd _ (.inl (aH [.bool ak])))
  ·refine ws _ ?_
   refine aT h (fun gk h=> ?_) (fun gk h=> ?_)
   ·obtain⟨aV,cg,h⟩:=aE h
    refine dx (nt a0.Value 0 8 _ cg) _ ?_
    exact aD (cd _ (.inl (aH [.bool aV])))
   ·refine ws _ ?_
    refine aT h (fun iM h=> ?_) (fun iM h=> ?_)
    ·refine ws _ ?_
     exact aD (cd _ (.inl (aH [.bool (a0.Value==0)])))
    ·refine aY (et _ (bW _ (.inl ?_)))
     refine ws _ ?_
     exact aD (al _ (.inl (aH [.bool false])))
theorem axX (a0:b7) (r:Int) (h:Hs a0=some r):bl aB 253 [.ref (cc a0)] (.int .i64 r) []:=by
 refine bT [0] [.tmp 2] Tryz.func253 aek (fun bO al bN=> ?_)
 refine ws _ ?_
 refine aI al (fun d_ bW bg ak=> ?_)
 refine ws _ ?_
 refine bH bg (fun dK et cd b4 bm=> ?_)
 refine ws _ ?_
 refine aT h (fun ep h=> ?_) (fun ep h=> ?_)
 ·refine ws _ ?_
  exact aD (cd _ (.inl (aH [.int .i64 2])))
 ·refine ws _ ?_
  refine aT h (fun gj h=> ?_) (fun gj h=> ?_)
  ·refine ws _ ?_
   exact aD (cd _ (.inl (aH [.int .i64 1])))
  ·refine aY (et _ (bW _ (.inl ?_)))
   refine ws _ ?_
   exact aD (al _ (.inl (aH [.int .i64 0])))
theorem axY (a0:List b7) (R:Int) (a2:Int) (r:Bool) (h:CC a0 R a2=some r):bl aB 206 [.slice (a0.map cc),.int .i64 R,.int .i64 a2] (.bool r) []:=by
 refine bT [0,1,2] [.tmp 6] Tryz.func206 aez (fun bO al bN=> ?_)
 refine ws _ ?_
 refine aI al (fun d_ bW bg ak=> ?_)
 refine ws _ ?_
 refine aT h (fun b4 h=> ?_) (fun b4 h=> ?_)
 ·refine ws _ ?_
  exact aD (bg _ (.inl (aH [.bool false])))
 ·refine aY (bW _ (.inl ?_))
  refine ws _ ?_
  refine aI al (fun gZ n7 dY cQ=> ?_)
  refine ws _ ?_
  refine bH dY (fun eh cL cl gj dh=> ?_)
  have kr:∀(n:Nat) (hF:Int) (nR:Int),tH a0 R n hF nR=some r→dp aB Oi eh (ab [(0,.slice (a0.map cc)),(1,.int .i64 R),(7,.int .i64 hF),(8,.int .i64 nR)]):=by
   intro m16
   induction m16 with
   |zero=>intro hF nR h;cases(show none=some r from h)
   |succ m16 ks=>
    intro hF nR h
    replace h:CB (tH a0 R m16) a0 R hF nR=some r:=h
    refine dE cl (fun eJ n10 cx c_=> ?_)
    refine aI cx (fun ir n11 fD eO=> ?_)
    refine ws _ ?_
    refine aT h (fun gM h=> ?_) (fun gM h=> ?_)
    ·refine aY (n11 _ (.inl ?_))
     refine aI cx (fun iL n14 eX hV=> ?_)
     refine bH eX (fun mj n15 hz eU jO=> ?_)
     refine aI hz (fun qm n16 lx nn=> ?_)
     rcases e9 h with⟨iM,h⟩|⟨iM,h⟩
     ·refine hI iM _ ?_
      refine jg rfl ?_
      refine ws _ ?_
      exact aD (lx _ (.inl (aH [.bool false])))
     ·obtain⟨af,i6,h⟩:=aE h
      obtain⟨ak,lU,h⟩:=aE h
      refine cP (bU [(0,.slice (a0.map cc)),(1,.int .i64 R),(7,.int .i64 hF),(8,.int .i64 nR),(28,.bool (!ak))] (fun P ai=> ?_) ?_)
      ·simp only[aO.down,simprocAttr,nX.down,iM,i6]
       refine hQ (axW af R _ lU) rfl rfl rfl rfl (.inl (by rfl)) ?_
       simp only[aO.down,simprocAttr,nX.down,iM,i6]
       (try simp only[bb.down,simprocAttr,cc,iM,i6]at ai⊢);exact ai
      refine aT h (fun qn h=> ?_) (fun qn h=> ?_)
      ·refine ws _ ?_
       exact aD (lx _ (.inl (aH [.bool false])))
      ·refine aY (n16 _ (.inl ?_))
       obtain⟨aV,ml,h⟩:=aE h
       refine H_ i6 (axX af _ ml) _ ?_
       refine n15 _ (n14 _ (.inl ?_))
       refine wr _ ?_
       exact n10 _ (.inr ⟨_,bq rfl,ks (IntKind.i64.wrap (hF+(IntKind.i64.wrap (aV-1)))) (IntKind.i64.wrap (nR+1)) h⟩)
    ·refine dA (eO 0 _ (c_ 0 _ (gj _ (n7 _ (.inl ?_)))))
     refine ws _ ?_
     exact aD (al _ (.inl (aH [.bool (hF==0)])))
  obtain⟨n,h⟩:=dy h
  exact dC (.inr ⟨_,bq rfl,kr n 1 0 h⟩)
theorem axZ (a0:List bj) (R:bj) (a2:Int) (r:Int) (h:ze a0 R a2=some r):bl aB 243 [.slice (a0.map bA),.ref (bA R),.int .i64 a2] (.int .i64 r) []:=by
 refine bT [0,1,2] [.tmp 6] Tryz.func243 afc (fun bO al bN=> ?_)
 refine ws _ ?_
 obtain⟨af,aQ,h⟩:=aE h
 refine hI aQ _ ?_
 refine aI al (fun dK et cd bm=> ?_)
 obtain⟨ak,ch,h⟩:=aE h
 refine cP (bU [(0,.slice (a0.map bA)),(1,.ref (bA R)),(2,.int .i64 a2),(7,.bd (cA af)),(19,.bool (!ak))] (fun P ai=> ?_) ?_)
 ·refine e1 (axU af _ ch) rfl rfl (by simp only[aO.down,simprocAttr,iq.down,fJ,fK,fL,de, @b5 _ ey ey (fun _=>H2 _)]<;>rfl) rfl (.inr (by rfl)) ?_
  simp only[aO.down,simprocAttr,iq.down]
  (try simp only[bb.down,simprocAttr,iq.down]at ai⊢);exact ai
 refine aT h (fun o8 h=> ?_) (fun o8 h=> ?_)
 ·refine ws _ ?_
  exact aD (cd _ (.inl (aH [.int .i64 2])))
 ·refine aY (et _ (.inl ?_))
  refine aI al (fun eh cL cl dh=> ?_)
  have PB:∀(zd:Bool),CE a0 R a2 af zd=some r→dc aB Oj eh (ab [(0,.slice (a0.map bA)),(1,.ref (bA R)),(2,.int .i64 a2),(7,.bd (cA af)),(28,.bool zd)]):=by
   intro zd h
   refine aT h (fun ek h=> ?_) (fun ek h=> ?_)
   ·refine ws _ ?_
    exact aD (cl _ (.inl (aH [.int .i64 3])))
   ·refine aY (cL _ (.inl ?_))
    refine aI al (fun jZ n12 ib iW=> ?_)
    have Am:∀(zc:Bool),tJ a0 R a2 af zc=some r→dc aB Ol jZ (ab [(0,.slice (a0.map bA)),(1,.ref (bA R)),(2,.int .i64 a2),(7,.bd (cA af)),(51,.bool zc)]):=by
     intro zc h
     refine aT h (fun gM h=> ?_) (fun gM h=> ?_)
     ·refine ws _ ?_
      exact aD (ib _ (.inl (aH [.int .i64 4])))
     ·refine aY (n12 _ (.inl ?_))
      refine ws _ ?_
      have Eu:tI R a2 af=some r→dc aB Oo bO (ab [(1,.ref (bA R)),(2,.int .i64 a2),(7,.bd (cA af)),(8,.int .i64 (af.cO.length:Int))]):=by
       intro h
       refine aI al (fun oR n17 jo h0=> ?_)
       have Ik:∀(zb:Bool),wD R a2 af zb=some r→dc aB Om oR (ab [(1,.ref (bA R)),(2,.int .i64 a2),(7,.bd (cA af)),(8,.int .i64 (af.cO.length:Int)),(102,.bool zb)]):=by
        intro zb h
        refine aT h (fun iM h=> ?_) (fun iM h=> ?_)
        ·refine ws _ ?_
         exact aD (jo _ (.inl (aH [.int .i64 6])))
        ·refine aY (n17 _ (.inl ?_))
         obtain⟨aV,lU,h⟩:=aE h
         refine dx (Ii R a2 _ lU) _ ?_
         refine aI al (fun uF n22 mR oO=> ?_)
         refine cP (bU [(7,.bd (cA af)),(8,.int .i64 (af.cO.length:Int)),(9,.int .i64 aV),(112,.bool ((af.Kind==4)&&(decide (6≤aV))))] (fun P ai=> ?_) ?_)
         ·rcases Bool.eq_false_or_eq_true (af.Kind==4)with An|An
          ·simp only[aO.down,simprocAttr,oQ.down,An]
           (try simp only[bb.down,simprocAttr,nr.down,An]at ai⊢);exact ai
          ·simp only[aO.down,simprocAttr,oQ.down,An]
           (try simp only[bb.down,simprocAttr,nr.down,An]at ai⊢);exact ai
         refine aT h (fun lV h=> ?_) (fun lV h=> ?_)
         ·refine ws _ ?_
          exact aD (mR _ (.inl (aH [.int .i64 7])))
         ·refine aY (n22 _ (.inl ?_))
          refine aI al (fun ax0 n27 Ev PC=> ?_)
          refine ws _ ?_
          refine bH Ev (fun Il n29 Ao jq PD=> ?_)
          have ax1:∀(n:Nat) (oI:Int) (oJ:Int),r9 af n oI oJ=some r→dp aB On Il (ab [(7,.bd (cA af)),(8,.int .i64 (af.cO.length:Int)),(9,.int .i64 oI),(10,.int .i64 oJ)]):=by
           intro Im
           induction Im with
           |zero=>intro oI oJ h;cases(show none=some r from h)
           |succ Im ax2=>
            intro oI oJ h
            replace h:CD (r9 af Im) af oI oJ=some r:=h
            refine dE Ao (fun aEY n30 PE ax3=> ?_)
            refine aI PE (fun Ew n31 w5 Ex=> ?_)
            refine ws _ ?_
            refine aT h (fun jC h=> ?_) (fun jC h=> ?_)
            ·refine aY (n31 _ (.inl ?_))
             refine aI PE (fun aEZ n34 ax4 aE0=> ?_)
             refine bH ax4 (fun aE1 n35 ax5 n1 aE2=> ?_)
             obtain⟨bm,ax6,h⟩:=aE h
             obtain⟨bh,ax7,h⟩:=aE h
             refine im ax6 (axY bm oI 15 _ ax7) _ ?_
             refine aT h (fun sl h=> ?_) (fun sl h=> ?_)
             ·refine ws _ ?_
              exact aD (ax5 _ (.inl (aH [.int .i64 8])))
             ·refine aY (n35 _ (n34 _ (.inl ?_)))
              refine wr _ ?_
              exact n30 _ (.inr ⟨_,bq rfl,ax2 oI (IntKind.i64.wrap (oJ+1)) h⟩)
            ·refine dA (Ex 1 _ (ax3 1 _ (jq _ (n27 _ (.inl ?_)))))
             refine ws _ ?_
             exact aD (al _ (.inl (aH [.int .i64 0])))
          obtain⟨n,h⟩:=dy h
          exact dC (.inr ⟨_,bq rfl,ax1 n aV 0 h⟩)
       rcases e9 h with⟨sm,h⟩|⟨sm,h⟩
       ·rcases e9 h with⟨uI,h⟩|⟨uI,h⟩
        ·refine kD (bU (K:=ev _) [(1,.ref (bA R)),(2,.int .i64 a2),(7,.bd (cA af)),(8,.int .i64 (af.cO.length:Int)),(102,.bool true)] (fun P ai=> ?_) ?_)
         ·simp only[aO.down,simprocAttr,qk.down,sm,uI]
          (try simp only[bb.down,simprocAttr,iq.down,sm,uI]at ai⊢);exact ai
         exact .inr ⟨_,bq rfl,Ik true h⟩
        ·obtain⟨bM,uJ,h⟩:=aE h
         refine kD (bU (K:=ev _) [(1,.ref (bA R)),(2,.int .i64 a2),(7,.bd (cA af)),(8,.int .i64 (af.cO.length:Int)),(102,.bool (bM.Kind !=1))] (fun P ai=> ?_) ?_)
         ·simp only[aO.down,simprocAttr,qk.down,sm,uI,uJ]
          (try simp only[bb.down,simprocAttr,iq.down,sm,uI,uJ]at ai⊢);exact ai
         exact .inr ⟨_,bq rfl,Ik (bM.Kind !=1) h⟩
       ·refine kD (bU (K:=ev _) [(1,.ref (bA R)),(2,.int .i64 a2),(7,.bd (cA af)),(8,.int .i64 (af.cO.length:Int)),(102,.bool false)] (fun P ai=> ?_) ?_)
        ·simp only[aO.down,simprocAttr,qk.down,sm]
         (try simp only[bb.down,simprocAttr,iq.down,sm]at ai⊢);exact ai
        exact .inr ⟨_,bq rfl,Ik false h⟩
      refine aI al (fun qm n16 lx nn=> ?_)
      refine ws _ ?_
      refine bH lx (fun Io n48 qo Ip Iq=> ?_)
      refine ws _ ?_
      refine aT h (fun nu h=> ?_) (fun nu h=> ?_)
      ·refine cP (bU [(1,.ref (bA R)),(2,.int .i64 a2),(7,.bd (cA af)),(8,.int .i64 (af.cO.length:Int)),(69,.bool ((decide (2<(af.cO.length:Int)))||((decide (0<(af.cO.length:Int)))&&(af.Name==([116,97,117]:List UInt8)))))] (fun P ai=> ?_) ?_)
       ·(rcases Bool.eq_false_or_eq_true (decide (2<(af.cO.length:Int)))with Aa|Aa)<;>(rcases Bool.eq_false_or_eq_true (decide (0<(af.cO.length:Int)))with mP|mP)<;>
         (simp only[aO.down,simprocAttr,Ad.down,Aa,mP]
          (try simp only[bb.down,simprocAttr,iq.down,Aa,mP]at ai⊢);exact ai)
       refine aT h (fun Ap h=> ?_) (fun Ap h=> ?_)
       ·refine ws _ ?_
        exact aD (qo _ (.inl (aH [.int .i64 5])))
       ·exact aY (n48 _ (n16 _ (.inr ⟨_,bq rfl,Eu h⟩)))
      ·refine ws _ ?_
       refine aT h (fun Ir h=> ?_) (fun Ir h=> ?_)
       ·refine ws _ ?_
        refine aT h (fun PF h=> ?_) (fun PF h=> ?_)
        ·refine ws _ ?_
         exact aD (qo _ (.inl (aH [.int .i64 5])))
        ·exact aY (n48 _ (n16 _ (.inr ⟨_,bq rfl,Eu h⟩)))
       ·refine ws _ ?_
        refine aT h (fun ax8 h=> ?_) (fun ax8 h=> ?_)
        ·obtain⟨cQ,ax9,h⟩:=aE h
         refine hI ax9 _ ?_
         refine aT h (fun ax_ h=> ?_) (fun ax_ h=> ?_)
         ·refine ws _ ?_
          exact aD (qo _ (.inl (aH [.int .i64 5])))
         ·exact aY (n48 _ (n16 _ (.inr ⟨_,bq rfl,Eu h⟩)))
        ·exact aY (n48 _ (n16 _ (.inr ⟨_,bq rfl,Eu h⟩)))
    rcases e9 h with⟨ly,h⟩|⟨ly,h⟩
    ·obtain⟨eb,Is,h⟩:=aE h
     rcases e9 h with⟨pA,h⟩|⟨pA,h⟩
     ·refine kD (bU (K:=ev _) [(0,.slice (a0.map bA)),(1,.ref (bA R)),(2,.int .i64 a2),(7,.bd (cA af)),(51,.bool true)] (fun P ai=> ?_) ?_)
      ·simp only[aO.down,simprocAttr,jn.down,ly,(fk pA)]
       refine hQ (nt af.Number 1 7 _ Is) rfl rfl rfl rfl (.inl (by rfl)) ?_
       simp only[aO.down,simprocAttr,jn.down,ly,(fk pA)]
       (try simp only[bb.down,simprocAttr,iq.down,ly,(fk pA)]at ai⊢);exact ai
      exact .inr ⟨_,bq rfl,Am true h⟩
     ·rcases e9 h with⟨sn,h⟩|⟨sn,h⟩
      ·obtain⟨dh,It,h⟩:=aE h
       refine kD (bU (K:=ev _) [(0,.slice (a0.map bA)),(1,.ref (bA R)),(2,.int .i64 a2),(7,.bd (cA af)),(51,.bool (!dh))] (fun P ai=> ?_) ?_)
       ·simp only[aO.down,simprocAttr,jn.down,ly,(bV pA),sn]
        refine hQ (nt af.Number 1 7 _ Is) rfl rfl rfl rfl (.inl (by rfl)) ?_
        simp only[aO.down,simprocAttr,jn.down,ly,(bV pA),sn]
        refine hQ (nt af.Number 0 (IntKind.i64.wrap ((a0.length:Int)-1)) _ It) rfl rfl rfl rfl (.inl (by rfl)) ?_
        simp only[aO.down,simprocAttr,jn.down,ly,(bV pA),sn]
        (try simp only[bb.down,simprocAttr,iq.down,ly,(bV pA),sn]at ai⊢);exact ai
       exact .inr ⟨_,bq rfl,Am (!dh) h⟩
      ·refine kD (bU (K:=ev _) [(0,.slice (a0.map bA)),(1,.ref (bA R)),(2,.int .i64 a2),(7,.bd (cA af)),(51,.bool false)] (fun P ai=> ?_) ?_)
       ·simp only[aO.down,simprocAttr,jn.down,ly,(bV pA),sn]
        refine hQ (nt af.Number 1 7 _ Is) rfl rfl rfl rfl (.inl (by rfl)) ?_
        simp only[aO.down,simprocAttr,jn.down,ly,(bV pA),sn]
        (try simp only[bb.down,simprocAttr,iq.down,ly,(bV pA),sn]at ai⊢);exact ai
       exact .inr ⟨_,bq rfl,Am false h⟩
    ·rcases e9 h with⟨w6,h⟩|⟨w6,h⟩
     ·obtain⟨c_,aya,h⟩:=aE h
      refine kD (bU (K:=ev _) [(0,.slice (a0.map bA)),(1,.ref (bA R)),(2,.int .i64 a2),(7,.bd (cA af)),(51,.bool (!c_))] (fun P ai=> ?_) ?_)
      ·simp only[aO.down,simprocAttr,jn.down,ly,w6]
       refine hQ (nt af.Number 0 (IntKind.i64.wrap ((a0.length:Int)-1)) _ aya) rfl rfl rfl rfl (.inl (by rfl)) ?_
       simp only[aO.down,simprocAttr,jn.down,ly,w6]
       (try simp only[bb.down,simprocAttr,iq.down,ly,w6]at ai⊢);exact ai
      exact .inr ⟨_,bq rfl,Am (!c_) h⟩
     ·refine kD (bU (K:=ev _) [(0,.slice (a0.map bA)),(1,.ref (bA R)),(2,.int .i64 a2),(7,.bd (cA af)),(51,.bool false)] (fun P ai=> ?_) ?_)
      ·simp only[aO.down,simprocAttr,jn.down,ly,w6]
       (try simp only[bb.down,simprocAttr,iq.down,ly,w6]at ai⊢);exact ai
      exact .inr ⟨_,bq rfl,Am false h⟩
  rcases e9 h with⟨w7,h⟩|⟨w7,h⟩
  ·obtain⟨eO,ayb,h⟩:=aE h
   refine kD (bU (K:=ev _) [(0,.slice (a0.map bA)),(1,.ref (bA R)),(2,.int .i64 a2),(7,.bd (cA af)),(28,.bool (!eO))] (fun P ai=> ?_) ?_)
   ·simp only[aO.down,simprocAttr,Ad.down,w7]
    refine hQ (Ak af.Name _ ayb) rfl rfl rfl rfl (.inl (by rfl)) ?_
    simp only[aO.down,simprocAttr,Ad.down,w7]
    (try simp only[bb.down,simprocAttr,iq.down,w7]at ai⊢);exact ai
   exact .inr ⟨_,bq rfl,PB (!eO) h⟩
  ·refine kD (bU (K:=ev _) [(0,.slice (a0.map bA)),(1,.ref (bA R)),(2,.int .i64 a2),(7,.bd (cA af)),(28,.bool false)] (fun P ai=> ?_) ?_)
   ·simp only[aO.down,simprocAttr,Ad.down,w7]
    (try simp only[bb.down,simprocAttr,iq.down,w7]at ai⊢);exact ai
   exact .inr ⟨_,bq rfl,PB false h⟩
theorem ayc (a0:List bj) (R:bj) (r:Int×Int) (h:tK a0 R=some r):bl aB 182 [.slice (a0.map bA),.ref (bA R)] (.tuple [.int .i64 r.1,.int .i64 r.2]) []:=by
 refine bT [0,1] [.tmp 4,.tmp 5] Tryz.func182 afq (fun bO al bN=> ?_)
 refine ws _ ?_
 refine aI al (fun d_ bW bg ak=> ?_)
 obtain⟨af,cF,h⟩:=aE h
 refine dx (axT R.Body _ cF) _ ?_
 refine aT h (fun cN h=> ?_) (fun cN h=> ?_)
 ·refine ws _ ?_
  exact aD (bg _ (.inl (aH [.int .i64 0,.int .i64 1])))
 ·refine aY (bW _ (.inl ?_))
  refine aI al (fun gZ n7 dY cQ=> ?_)
  refine ws _ ?_
  refine bH dY (fun eh cL cl gj dh=> ?_)
  have hJ:∀(n:Nat) (mK:Int),r_ a0 R n mK=some r→dp aB Oq eh (ab [(0,.slice (a0.map bA)),(1,.ref (bA R)),(6,.int .i64 mK)]):=by
   intro m14
   induction m14 with
   |zero=>intro mK h;cases(show none=some r from h)
   |succ m14 hh=>
    intro mK h
    replace h:zf (r_ a0 R m14) a0 R mK=some r:=h
    refine dE cl (fun eJ n10 cx c_=> ?_)
    refine aI cx (fun ir n11 fD eO=> ?_)
    refine ws _ ?_
    refine aT h (fun gM h=> ?_) (fun gM h=> ?_)
    ·refine aY (n11 _ (.inl ?_))
     refine aI cx (fun iL n14 eX hV=> ?_)
     refine bH eX (fun mj n15 hz eU jO=> ?_)
     obtain⟨ak,ez,h⟩:=aE h
     refine dx (axZ a0 R mK _ ez) _ ?_
     refine ws _ ?_
     refine aT h (fun hA h=> ?_) (fun hA h=> ?_)
     ·refine ws _ ?_
      exact aD (hz _ (.inl (aH [.int .i64 mK,.int .i64 ak])))
     ·refine aY (n15 _ (n14 _ (.inl ?_)))
      refine wr _ ?_
      exact n10 _ (.inr ⟨_,bq rfl,hh (IntKind.i64.wrap (mK+1)) h⟩)
    ·refine dA (eO 0 _ (c_ 0 _ (gj _ (n7 _ (.inl ?_)))))
     refine ws _ ?_
     exact aD (al _ (.inl (aH [.int .i64 0,.int .i64 0])))
  obtain⟨n,h⟩:=dy h
  exact dC (.inr ⟨_,bq rfl,hJ n 0 h⟩)
theorem ayd (a0:List bj) (r:Bool) (h:CI a0=some r):bl aB 132 [.slice (a0.map bA)] (.bool r) []:=by
 refine bT [0] [.tmp 2] Tryz.func132 afS (fun bO al bN=> ?_)
 refine ws _ ?_
 refine aI al (fun d_ bW bg ak=> ?_)
 refine cP (bU [(0,.slice (a0.map bA)),(15,.bool (((a0.length:Int)==0)||(decide (4<(a0.length:Int)))))] (fun P ai=> ?_) ?_)
 ·rcases Bool.eq_false_or_eq_true ((a0.length:Int)==0)with hP|hP
  ·simp only[aO.down,simprocAttr,jn.down,hP]
   (try simp only[bb.down,simprocAttr,iq.down,hP]at ai⊢);exact ai
  ·simp only[aO.down,simprocAttr,jn.down,hP]
   (try simp only[bb.down,simprocAttr,iq.down,hP]at ai⊢);exact ai
 refine aT h (fun cN h=> ?_) (fun cN h=> ?_)
 ·refine ws _ ?_
  exact aD (bg _ (.inl (aH [.bool false])))
 ·refine aY (bW _ (.inl ?_))
  refine aI al (fun gZ n7 dY cQ=> ?_)
  refine ws _ ?_
  refine bH dY (fun eh cL cl gj dh=> ?_)
  have hJ:∀(n:Nat) (c9:Int),oL a0 n c9=some r→dp aB Ou eh (ab [(0,.slice (a0.map bA)),(3,.int .i64 c9)]):=by
   intro m14
   induction m14 with
   |zero=>intro c9 h;cases(show none=some r from h)
   |succ m14 hh=>
    intro c9 h
    replace h:CH (oL a0 m14) a0 c9=some r:=h
    refine dE cl (fun eJ n10 cx c_=> ?_)
    refine aI cx (fun ir n11 fD eO=> ?_)
    refine ws _ ?_
    refine aT h (fun gM h=> ?_) (fun gM h=> ?_)
    ·refine aY (n11 _ (.inl ?_))
     refine aI cx (fun iL n14 eX hV=> ?_)
     refine bH eX (fun mj n15 hz eU jO=> ?_)
     refine aI hz (fun qm n16 lx nn=> ?_)
     obtain⟨af,eQ,h⟩:=aE h
     obtain⟨ak,hL,h⟩:=aE h
     rcases e9 h with⟨e3,h⟩|⟨e3,h⟩
     ·refine im (And.intro eQ (fk e3)) (Ak af.Name _ hL) _ ?_
      refine jg rfl ?_
      refine ws _ ?_
      exact aD (lx _ (.inl (aH [.bool false])))
     ·obtain⟨aV,gl,h⟩:=aE h
      refine cP (bU [(0,.slice (a0.map bA)),(3,.int .i64 c9),(37,.bool (!aV))] (fun P ai=> ?_) ?_)
      ·simp only[aO.down,simprocAttr,jn.down,eQ,(bV e3)]
       refine e1 (Ak af.Name _ hL) rfl rfl rfl rfl (.inl (by rfl)) ?_
       simp only[aO.down,simprocAttr,jn.down,eQ,(bV e3)]
       refine hQ (nt af.dt 0 3 _ gl) rfl rfl rfl rfl (.inl (by rfl)) ?_
       simp only[aO.down,simprocAttr,jn.down,eQ,(bV e3)]
       (try simp only[bb.down,simprocAttr,iq.down,eQ,(bV e3)]at ai⊢);exact ai
      refine aT h (fun fO h=> ?_) (fun fO h=> ?_)
      ·refine ws _ ?_
       exact aD (lx _ (.inl (aH [.bool false])))
      ·refine aY (n16 _ (.inl ?_))
       refine ws _ ?_
       refine bH hz (fun PG n26 Iu hK aye=> ?_)
       have ayf:∀(n:Nat) (mL:Int) (nS:Int),tL (oL a0 m14) a0 n mL nS=some r→dp aB Ot PG (ab [(0,.slice (a0.map bA)),(3,.int .i64 mL),(4,.int .i64 nS)]):=by
        intro Iv
        induction Iv with
        |zero=>intro mL nS h;cases(show none=some r from h)
        |succ Iv ayg=>
         intro mL nS h
         replace h:CF (oL a0 m14) (tL (oL a0 m14) a0 Iv) a0 mL nS=some r:=h
         refine dE Iu (fun ax0 n27 Ev PC=> ?_)
         refine aI Ev (fun axC n28 Pu Pv=> ?_)
         refine ws _ ?_
         refine aT h (fun kc h=> ?_) (fun kc h=> ?_)
         ·refine aY (n28 _ (.inl ?_))
          refine aI Ev (fun Ew n31 w5 Ex=> ?_)
          refine bH w5 (fun ayh n32 Ey oS PH=> ?_)
          obtain⟨bm,n2,h⟩:=aE h
          obtain⟨bh,Ez,h⟩:=aE h
          refine fj rfl (fi [(0,.slice (a0.map bA)),(3,.int .i64 mL),(4,.int .i64 nS),(53,.bool (bm.Name==bh.Name))] (fun P ai=> ?_) ?_)
          ·simp only[cD.down,simprocAttr,jn.down,n2,Ez]
           refine⟨fa (by kernel_rfl),?_⟩
           (try simp only[bb.down,simprocAttr,iq.down,n2,Ez]at ai⊢);exact ai
          refine aT h (fun Iw h=> ?_) (fun Iw h=> ?_)
          ·refine ws _ ?_
           exact aD (Ey _ (.inl (aH [.bool false])))
          ·refine aY (n32 _ (n31 _ (.inl ?_)))
           refine wr _ ?_
           exact n27 _ (.inr ⟨_,bq rfl,ayg mL (IntKind.i64.wrap (nS+1)) h⟩)
         ·refine dA (Pv 2 _ (PC 2 _ (hK _ (n15 _ (n14 _ (.inl ?_))))))
          refine wr _ ?_
          exact n10 _ (.inr ⟨_,bq rfl,hh (IntKind.i64.wrap (mL+1)) h⟩)
       obtain⟨n,h⟩:=dy h
       exact dC (.inr ⟨_,bq rfl,ayf n c9 0 h⟩)
    ·refine dA (eO 0 _ (c_ 0 _ (gj _ (n7 _ (.inl ?_)))))
     refine aI al (fun ayi n40 PI PJ=> ?_)
     refine ws _ ?_
     refine bH PI (fun ayj n42 ayk Ix aE3=> ?_)
     have ayl:∀(n:Nat) (oK:Int),sa a0 n oK=some r→dp aB Ov ayj (ab [(0,.slice (a0.map bA)),(5,.int .i64 oK)]):=by
      intro Iy
      induction Iy with
      |zero=>intro oK h;cases(show none=some r from h)
      |succ Iy aym=>
       intro oK h
       replace h:CG (sa a0 Iy) a0 oK=some r:=h
       refine dE ayk (fun ayn n43 EA PK=> ?_)
       refine aI EA (fun ayo n44 PL PM=> ?_)
       refine ws _ ?_
       refine aT h (fun ayp h=> ?_) (fun ayp h=> ?_)
       ·refine aY (n44 _ (.inl ?_))
        refine aI EA (fun aE4 n47 ayq aE5=> ?_)
        refine bH ayq (fun Io n48 qo Ip Iq=> ?_)
        obtain⟨bM,ayr,h⟩:=aE h
        obtain⟨cQ,ays,h⟩:=aE h
        refine im ayr (ayc a0 bM _ ays) _ ?_
        refine ws _ ?_
        refine aT h (fun Iz h=> ?_) (fun Iz h=> ?_)
        ·refine ws _ ?_
         exact aD (qo _ (.inl (aH [.bool false])))
        ·refine aY (n48 _ (n47 _ (.inl ?_)))
         refine wr _ ?_
         exact n43 _ (.inr ⟨_,bq rfl,aym (IntKind.i64.wrap (oK+1)) h⟩)
       ·refine dA (PM 4 _ (PK 4 _ (Ix _ (n40 _ (.inl ?_)))))
        refine ws _ ?_
        exact aD (al _ (.inl (aH [.bool true])))
     obtain⟨n,h⟩:=dy h
     exact dC (.inr ⟨_,bq rfl,ayl n 0 h⟩)
  obtain⟨n,h⟩:=dy h
  exact dC (.inr ⟨_,bq rfl,hJ n 0 h⟩)
theorem PN (a0:List Int) (r:Bool) (h:zg a0=some r):bl aB 137 [.slice (a0.map bs)] (.bool r) []:=by
 refine bT [0] [.tmp 2] Tryz.func137 af2 (fun bO al bN=> ?_)
 refine ws _ ?_
 refine aI al (fun d_ bW bg ak=> ?_)
 refine ws _ ?_
 refine bH bg (fun dK et cd b4 bm=> ?_)
 have e8:∀(n:Nat) (jx:Int),tM a0 n jx=some r→dp aB Ow dK (ab [(0,.slice (a0.map bs)),(3,.int .i64 jx)]):=by
  intro m6
  induction m6 with
  |zero=>intro jx h;cases(show none=some r from h)
  |succ m6 eZ=>
   intro jx h
   replace h:CJ (tM a0 m6) a0 jx=some r:=h
   refine dE cd (fun gO dH cS bh=> ?_)
   refine aI cS (fun eY n6 dj bM=> ?_)
   refine ws _ ?_
   refine aT h (fun cH h=> ?_) (fun cH h=> ?_)
   ·refine aY (n6 _ (.inl ?_))
    refine aI cS (fun eh cL cl dh=> ?_)
    refine bH cl (fun eJ n10 cx ek c_=> ?_)
    obtain⟨af,eo,h⟩:=aE h
    obtain⟨ak,dS,h⟩:=aE h
    refine im eo (nt af 0 63 _ dS) _ ?_
    refine aT h (fun gk h=> ?_) (fun gk h=> ?_)
    ·refine ws _ ?_
     exact aD (cx _ (.inl (aH [.bool false])))
    ·refine aY (n10 _ (cL _ (.inl ?_)))
     refine wr _ ?_
     exact dH _ (.inr ⟨_,bq rfl,eZ (IntKind.i64.wrap (jx+1)) h⟩)
   ·refine dA (bM 0 _ (bh 0 _ (b4 _ (bW _ (.inl ?_)))))
    refine ws _ ?_
    exact aD (al _ (.inl (aH [.bool true])))
 obtain⟨n,h⟩:=dy h
 exact dC (.inr ⟨_,bq rfl,e8 n 0 h⟩)
theorem ayt (a0:ea) (r:Bool) (h:CL a0=some r):bl aB 133 [.ref (gz a0)] (.bool r) []:=by
 refine bT [0] [.tmp 2] Tryz.func133 agj (fun bO al bN=> ?_)
 refine ws _ ?_
 refine aI al (fun d_ bW bg ak=> ?_)
 refine cP (bU [(0,.ref (gz a0)),(18,.bool (((a0.c8.length:Int)==0)||(decide (3<(a0.c8.length:Int)))))] (fun P ai=> ?_) ?_)
 ·rcases Bool.eq_false_or_eq_true ((a0.c8.length:Int)==0)with hP|hP
  ·simp only[aO.down,simprocAttr,pz.down,hP]
   (try simp only[bb.down,simprocAttr,wX.down,hP]at ai⊢);exact ai
  ·simp only[aO.down,simprocAttr,pz.down,hP]
   (try simp only[bb.down,simprocAttr,wX.down,hP]at ai⊢);exact ai
 refine aT h (fun cN h=> ?_) (fun cN h=> ?_)
 ·refine ws _ ?_
  exact aD (bg _ (.inl (aH [.bool false])))
 ·refine aY (bW _ (.inl ?_))
  refine aI al (fun gZ n7 dY cQ=> ?_)
  refine ws _ ?_
  refine bH dY (fun eh cL cl gj dh=> ?_)
  have hJ:∀(n:Nat) (c9:Int),tN a0 n c9=some r→dp aB Ox eh (ab [(0,.ref (gz a0)),(3,.int .i64 c9)]):=by
   intro m14
   induction m14 with
   |zero=>intro c9 h;cases(show none=some r from h)
   |succ m14 hh=>
    intro c9 h
    replace h:CK (tN a0 m14) a0 c9=some r:=h
    refine dE cl (fun eJ n10 cx c_=> ?_)
    refine aI cx (fun ir n11 fD eO=> ?_)
    refine ws _ ?_
    refine aT h (fun gM h=> ?_) (fun gM h=> ?_)
    ·refine aY (n11 _ (.inl ?_))
     refine aI cx (fun iL n14 eX hV=> ?_)
     refine bH eX (fun mj n15 hz eU jO=> ?_)
     obtain⟨af,ez,h⟩:=aE h
     refine hI ez _ ?_
     refine aI hz (fun Aq n18 qp oN=> ?_)
     obtain⟨ak,i6,h⟩:=aE h
     refine fj rfl (fi [(0,.ref (gz a0)),(3,.int .i64 c9),(4,.bd (e2 af)),(44,.bool (!ak))] (fun P ai=> ?_) ?_)
     ·simp only[cD.down,simprocAttr,pz.down]
      refine hf (nt af.cm 0 (IntKind.i64.wrap ((a0.ew.length:Int)-1)) _ i6) rfl rfl rfl rfl (.inl (by rfl)) ?_
      simp only[cD.down,simprocAttr,pz.down]
      refine⟨fa (by kernel_rfl),?_⟩
      (try simp only[bb.down,simprocAttr,wX.down]at ai⊢);exact ai
     refine aT h (fun Ar h=> ?_) (fun Ar h=> ?_)
     ·refine ws _ ?_
      exact aD (qp _ (.inl (aH [.bool false])))
     ·refine aY (n18 _ (.inl ?_))
      obtain⟨aV,ke,h⟩:=aE h
      rcases e9 h with⟨lV,h⟩|⟨lV,h⟩
      ·refine fj rfl (fi [(0,.ref (gz a0)),(3,.int .i64 c9),(63,.bool true)] (fun P ai=> ?_) ?_)
       ·simp only[cD.down,simprocAttr,pz.down,ke,lV]
        refine⟨fa (by kernel_rfl),?_⟩
        (try simp only[bb.down,simprocAttr,wX.down,ke,lV]at ai⊢);exact ai
       refine jg rfl ?_
       refine ws _ ?_
       exact aD (hz _ (.inl (aH [.bool false])))
      ·obtain⟨bm,sk,h⟩:=aE h
       refine fj rfl (fi [(0,.ref (gz a0)),(3,.int .i64 c9),(63,.bool (!bm))] (fun P ai=> ?_) ?_)
       ·simp only[cD.down,simprocAttr,pz.down,ke,lV]
        refine kA (PN af.bS _ sk) rfl rfl rfl rfl (.inl (by rfl)) ?_
        simp only[cD.down,simprocAttr,pz.down,ke,lV]
        refine⟨fa (by kernel_rfl),?_⟩
        (try simp only[bb.down,simprocAttr,wX.down,ke,lV]at ai⊢);exact ai
       refine aT h (fun As h=> ?_) (fun As h=> ?_)
       ·refine ws _ ?_
        exact aD (hz _ (.inl (aH [.bool false])))
       ·refine aY (n15 _ (n14 _ (.inl ?_)))
        refine wr _ ?_
        exact n10 _ (.inr ⟨_,bq rfl,hh (IntKind.i64.wrap (c9+1)) h⟩)
    ·refine dA (eO 0 _ (c_ 0 _ (gj _ (n7 _ (.inl ?_)))))
     refine ws _ ?_
     exact aD (al _ (.inl (aH [.bool true])))
  obtain⟨n,h⟩:=dy h
  exact dC (.inr ⟨_,bq rfl,hJ n 0 h⟩)
theorem qq (a0:List UInt8) (r:Bool) (h:tO a0=some r):bl aB 183 [.str a0] (.bool r) []:=by
 refine bT [0] [.tmp 2] Tryz.func183 agm (fun bO al bN=> ?_)
 refine ws _ ?_
 obtain⟨af,aQ,h⟩:=aE h
 refine cP (bU [(2,.bool (af&&(!(a0==([116,97,117]:List UInt8)))))] (fun P ai=> ?_) ?_)
 ·rcases Bool.eq_false_or_eq_true (af)with hP|hP
  ·simp only[aO.down,simprocAttr,hP]
   refine e1 (Ak a0 _ aQ) rfl rfl rfl rfl (.inl (by rfl)) ?_
   simp only[aO.down,simprocAttr,hP]
   (try simp only[bb.down,simprocAttr,hP]at ai⊢);exact ai
  ·simp only[aO.down,simprocAttr,hP]
   refine e1 (Ak a0 _ aQ) rfl rfl rfl rfl (.inl (by rfl)) ?_
   simp only[aO.down,simprocAttr,hP]
   (try simp only[bb.down,simprocAttr,hP]at ai⊢);exact ai
 exact aD (al _ (.inl (aH [.bool (af&&(!(a0==([116,97,117]:List UInt8))))])))
theorem ayu (a0:List cb) (r:Bool) (h:CN a0=some r):bl aB 134 [.slice (a0.map bz)] (.bool r) []:=by
 refine bT [0] [.tmp 2] Tryz.func134 agK (fun bO al bN=> ?_)
 refine ws _ ?_
 refine aI al (fun d_ bW bg ak=> ?_)
 refine ws _ ?_
 refine aT h (fun b4 h=> ?_) (fun b4 h=> ?_)
 ·refine ws _ ?_
  exact aD (bg _ (.inl (aH [.bool false])))
 ·refine aY (bW _ (.inl ?_))
  refine aI al (fun eY n6 dj bM=> ?_)
  refine ws _ ?_
  refine bH dj (fun hg n8 gN cH eb=> ?_)
  have hJ:∀(n:Nat) (c9:Int),mh a0 n c9=some r→dp aB Oy hg (ab [(0,.slice (a0.map bz)),(3,.int .i64 c9)]):=by
   intro m14
   induction m14 with
   |zero=>intro c9 h;cases(show none=some r from h)
   |succ m14 hh=>
    intro c9 h
    replace h:CM (mh a0 m14) a0 c9=some r:=h
    refine dE gN (fun eh cL cl dh=> ?_)
    refine aI cl (fun eJ n10 cx c_=> ?_)
    refine ws _ ?_
    refine aT h (fun fg h=> ?_) (fun fg h=> ?_)
    ·refine aY (n10 _ (.inl ?_))
     refine aI cl (fun k_ n13 fY jm=> ?_)
     refine bH fY (fun iL n14 eX gk hV=> ?_)
     obtain⟨af,cg,h⟩:=aE h
     refine hI cg _ ?_
     refine aI eX (fun oR n17 jo h0=> ?_)
     obtain⟨ak,hL,h⟩:=aE h
     rcases e9 h with⟨e3,h⟩|⟨e3,h⟩
     ·refine im (fk e3) (qq af.Left _ hL) _ ?_
      refine jg rfl ?_
      refine ws _ ?_
      exact aD (jo _ (.inl (aH [.bool false])))
     ·obtain⟨aV,gl,h⟩:=aE h
      rcases e9 h with⟨fO,h⟩|⟨fO,h⟩
      ·refine cP (bU [(0,.slice (a0.map bz)),(3,.int .i64 c9),(4,.bd (bz af)),(41,.bool true)] (fun P ai=> ?_) ?_)
       ·simp only[aO.down,simprocAttr,nY.down,(bV e3),(fk fO)]
        refine e1 (qq af.Left _ hL) rfl rfl rfl rfl (.inl (by rfl)) ?_
        simp only[aO.down,simprocAttr,nY.down,(bV e3),(fk fO)]
        refine hQ (qq af.cp _ gl) rfl rfl rfl rfl (.inl (by rfl)) ?_
        simp only[aO.down,simprocAttr,nY.down,(bV e3),(fk fO)]
        (try simp only[bb.down,simprocAttr,bz,(bV e3),(fk fO)]at ai⊢);exact ai
       refine jg rfl ?_
       refine ws _ ?_
       exact aD (jo _ (.inl (aH [.bool false])))
      ·obtain⟨bm,ml,h⟩:=aE h
       refine cP (bU [(0,.slice (a0.map bz)),(3,.int .i64 c9),(4,.bd (bz af)),(41,.bool ((!bm)||(!(Op.bytesLess af.Left af.cp||af.Left==af.cp))))] (fun P ai=> ?_) ?_)
       ·rcases Bool.eq_false_or_eq_true (bm)with pB|pB
        ·simp only[aO.down,simprocAttr,nY.down,(bV e3),(bV fO),pB]
         refine e1 (qq af.Left _ hL) rfl rfl rfl rfl (.inl (by rfl)) ?_
         simp only[aO.down,simprocAttr,nY.down,(bV e3),(bV fO),pB]
         refine hQ (qq af.cp _ gl) rfl rfl rfl rfl (.inl (by rfl)) ?_
         simp only[aO.down,simprocAttr,nY.down,(bV e3),(bV fO),pB]
         refine hQ (qq af.Result _ ml) rfl rfl rfl rfl (.inl (by rfl)) ?_
         simp only[aO.down,simprocAttr,nY.down,(bV e3),(bV fO),pB]
         (try simp only[bb.down,simprocAttr,bz,(bV e3),(bV fO),pB]at ai⊢);exact ai
        ·simp only[aO.down,simprocAttr,nY.down,(bV e3),(bV fO),pB]
         refine e1 (qq af.Left _ hL) rfl rfl rfl rfl (.inl (by rfl)) ?_
         simp only[aO.down,simprocAttr,nY.down,(bV e3),(bV fO),pB]
         refine hQ (qq af.cp _ gl) rfl rfl rfl rfl (.inl (by rfl)) ?_
         simp only[aO.down,simprocAttr,nY.down,(bV e3),(bV fO),pB]
         refine hQ (qq af.Result _ ml) rfl rfl rfl rfl (.inl (by rfl)) ?_
         simp only[aO.down,simprocAttr,nY.down,(bV e3),(bV fO),pB]
         (try simp only[bb.down,simprocAttr,bz,(bV e3),(bV fO),pB]at ai⊢);exact ai
       refine aT h (fun n3 h=> ?_) (fun n3 h=> ?_)
       ·refine ws _ ?_
        exact aD (jo _ (.inl (aH [.bool false])))
       ·refine aY (n17 _ (.inl ?_))
        refine aI eX (fun Il n29 Ao PD=> ?_)
        rcases e9 h with⟨jD,h⟩|⟨jD,h⟩
        ·obtain⟨bh,PO,h⟩:=aE h
         refine fj rfl (fi [(0,.slice (a0.map bz)),(3,.int .i64 c9),(4,.bd (bz af)),(76,.bool ((!(Op.bytesLess bh.Left af.Left||bh.Left==af.Left))||((bh.Left==af.Left)&&(!(Op.bytesLess bh.cp af.cp)))))] (fun P ai=> ?_) ?_)
         ·(rcases Bool.eq_false_or_eq_true (Op.bytesLess bh.Left af.Left)with IA|IA)<;>(rcases Bool.eq_false_or_eq_true (bh.Left==af.Left)with IB|IB)<;>
           (simp only[cD.down,simprocAttr,hy.down,jD,PO,IA,IB]
            refine⟨fa (by kernel_rfl),?_⟩
            (try simp only[bb.down,simprocAttr,bz,jD,PO,IA,IB]at ai⊢);exact ai)
         refine aT h (fun n1 h=> ?_) (fun n1 h=> ?_)
         ·refine ws _ ?_
          exact aD (Ao _ (.inl (aH [.bool false])))
         ·refine aY (n29 _ (.inl ?_))
          refine ws _ ?_
          refine bH eX (fun ayv n38 ayw qs aE6=> ?_)
          have IC:∀(n:Nat) (ka:Int) (ko:Int),po (mh a0 m14) a0 af n ka ko=some r→dp aB H6 ayv (ab [(0,.slice (a0.map bz)),(3,.int .i64 ka),(4,.bd (bz af)),(5,.int .i64 ko)]):=by
           intro uK
           induction uK with
           |zero=>intro ka ko h;cases(show none=some r from h)
           |succ uK ID=>
            intro ka ko h
            replace h:zh (mh a0 m14) (po (mh a0 m14) a0 af uK) a0 af ka ko=some r:=h
            refine dE ayw (fun aE7 n39 PQ ayx=> ?_)
            refine aI PQ (fun ayi n40 PI PJ=> ?_)
            refine ws _ ?_
            refine aT h (fun Ix h=> ?_) (fun Ix h=> ?_)
            ·refine aY (n40 _ (.inl ?_))
             refine aI PQ (fun ayn n43 EA PK=> ?_)
             refine bH EA (fun ayo n44 PL sm PM=> ?_)
             obtain⟨bM,uJ,h⟩:=aE h
             refine fj rfl (fi [(0,.slice (a0.map bz)),(3,.int .i64 ka),(4,.bd (bz af)),(5,.int .i64 ko),(100,.bool ((bM.Left==af.Result)||(bM.cp==af.Result)))] (fun P ai=> ?_) ?_)
             ·rcases Bool.eq_false_or_eq_true (bM.Left==af.Result)with ux|ux
              ·simp only[cD.down,simprocAttr,hy.down,uJ,ux]
               refine⟨fa (by kernel_rfl),?_⟩
               (try simp only[bb.down,simprocAttr,bz,uJ,ux]at ai⊢);exact ai
              ·simp only[cD.down,simprocAttr,hy.down,uJ,ux]
               refine⟨fa (by kernel_rfl),?_⟩
               (try simp only[bb.down,simprocAttr,bz,uJ,ux]at ai⊢);exact ai
             refine aT h (fun Ip h=> ?_) (fun Ip h=> ?_)
             ·refine ws _ ?_
              exact aD (PL _ (.inl (aH [.bool false])))
             ·refine aY (n44 _ (n43 _ (.inl ?_)))
              refine wr _ ?_
              exact n39 _ (.inr ⟨_,bq rfl,ID ka (IntKind.i64.wrap (ko+1)) h⟩)
            ·refine dA (PJ 2 _ (ayx 2 _ (qs _ (n14 _ (n13 _ (.inl ?_))))))
             refine wr _ ?_
             exact cL _ (.inr ⟨_,bq rfl,hh (IntKind.i64.wrap (ka+1)) h⟩)
          obtain⟨n,h⟩:=dy h
          exact dC (.inr ⟨_,bq rfl,IC n c9 0 h⟩)
        ·refine fj rfl (fi [(0,.slice (a0.map bz)),(3,.int .i64 c9),(4,.bd (bz af)),(76,.bool false)] (fun P ai=> ?_) ?_)
         ·simp only[cD.down,simprocAttr,hy.down,jD]
          refine⟨fa (by kernel_rfl),?_⟩
          (try simp only[bb.down,simprocAttr,bz,jD]at ai⊢);exact ai
         refine qV rfl ?_
         refine aY (n29 _ (.inl ?_))
         refine ws _ ?_
         refine bH eX (fun ayy aE8 ayz Iz aE9=> ?_)
         have IC:∀(n:Nat) (ka:Int) (ko:Int),po (mh a0 m14) a0 af n ka ko=some r→dp aB H6 ayy (ab [(0,.slice (a0.map bz)),(3,.int .i64 ka),(4,.bd (bz af)),(5,.int .i64 ko)]):=by
          intro uK
          induction uK with
          |zero=>intro ka ko h;cases(show none=some r from h)
          |succ uK ID=>
           intro ka ko h
           replace h:zh (mh a0 m14) (po (mh a0 m14) a0 af uK) a0 af ka ko=some r:=h
           refine dE ayz (fun aE_ ayA PR ayB=> ?_)
           refine aI PR (fun ayC IE PS PT=> ?_)
           refine ws _ ?_
           refine aT h (fun Ir h=> ?_) (fun Ir h=> ?_)
           ·refine aY (IE _ (.inl ?_))
            refine aI PR (fun aFa ayD ayE aFb=> ?_)
            refine bH ayE (fun aFc n59 ayF PF aFd=> ?_)
            obtain⟨cQ,w8,h⟩:=aE h
            refine fj rfl (fi [(0,.slice (a0.map bz)),(3,.int .i64 ka),(4,.bd (bz af)),(5,.int .i64 ko),(100,.bool ((cQ.Left==af.Result)||(cQ.cp==af.Result)))] (fun P ai=> ?_) ?_)
            ·rcases Bool.eq_false_or_eq_true (cQ.Left==af.Result)with Au|Au
             ·simp only[cD.down,simprocAttr,hy.down,w8,Au]
              refine⟨fa (by kernel_rfl),?_⟩
              (try simp only[bb.down,simprocAttr,bz,w8,Au]at ai⊢);exact ai
             ·simp only[cD.down,simprocAttr,hy.down,w8,Au]
              refine⟨fa (by kernel_rfl),?_⟩
              (try simp only[bb.down,simprocAttr,bz,w8,Au]at ai⊢);exact ai
            refine aT h (fun ayG h=> ?_) (fun ayG h=> ?_)
            ·refine ws _ ?_
             exact aD (ayF _ (.inl (aH [.bool false])))
            ·refine aY (n59 _ (ayD _ (.inl ?_)))
             refine wr _ ?_
             exact ayA _ (.inr ⟨_,bq rfl,ID ka (IntKind.i64.wrap (ko+1)) h⟩)
           ·refine dA (PT 2 _ (ayB 2 _ (Iz _ (n14 _ (n13 _ (.inl ?_))))))
            refine wr _ ?_
            exact cL _ (.inr ⟨_,bq rfl,hh (IntKind.i64.wrap (ka+1)) h⟩)
         obtain⟨n,h⟩:=dy h
         exact dC (.inr ⟨_,bq rfl,IC n c9 0 h⟩)
    ·refine dA (c_ 0 _ (dh 0 _ (cH _ (n6 _ (.inl ?_)))))
     refine ws _ ?_
     exact aD (al _ (.inl (aH [.bool true])))
  obtain⟨n,h⟩:=dy h
  exact dC (.inr ⟨_,bq rfl,hJ n 0 h⟩)
theorem ayH (a0:List (List UInt8)) (r:Bool) (h:CP a0=some r):bl aB 184 [.slice (a0.map bE)] (.bool r) []:=by
 refine bT [0] [.tmp 2] Tryz.func184 agU (fun bO al bN=> ?_)
 refine ws _ ?_
 refine aI al (fun d_ bW bg ak=> ?_)
 refine ws _ ?_
 refine bH bg (fun dK et cd b4 bm=> ?_)
 have e8:∀(n:Nat) (jx:Int),tP a0 n jx=some r→dp aB Oz dK (ab [(0,.slice (a0.map bE)),(3,.int .i64 jx)]):=by
  intro m6
  induction m6 with
  |zero=>intro jx h;cases(show none=some r from h)
  |succ m6 eZ=>
   intro jx h
   replace h:CO (tP a0 m6) a0 jx=some r:=h
   refine dE cd (fun gO dH cS bh=> ?_)
   refine aI cS (fun eY n6 dj bM=> ?_)
   refine ws _ ?_
   refine aT h (fun cH h=> ?_) (fun cH h=> ?_)
   ·refine aY (n6 _ (.inl ?_))
    refine aI cS (fun eh cL cl dh=> ?_)
    refine bH cl (fun eJ n10 cx ek c_=> ?_)
    obtain⟨af,eo,h⟩:=aE h
    obtain⟨ak,dS,h⟩:=aE h
    refine im eo (qq af _ dS) _ ?_
    refine aT h (fun gk h=> ?_) (fun gk h=> ?_)
    ·refine ws _ ?_
     exact aD (cx _ (.inl (aH [.bool false])))
    ·refine aY (n10 _ (cL _ (.inl ?_)))
     refine wr _ ?_
     exact dH _ (.inr ⟨_,bq rfl,eZ (IntKind.i64.wrap (jx+1)) h⟩)
   ·refine dA (bM 0 _ (bh 0 _ (b4 _ (bW _ (.inl ?_)))))
    refine ws _ ?_
    exact aD (al _ (.inl (aH [.bool true])))
 obtain⟨n,h⟩:=dy h
 exact dC (.inr ⟨_,bq rfl,e8 n 0 h⟩)
theorem PU (a0:List (List UInt8)) (r:Bool) (h:zj a0=some r):bl aB 135 [.slice (a0.map bE)] (.bool r) []:=by
 refine bT [0] [.tmp 2] Tryz.func135 ag7 (fun bO al bN=> ?_)
 refine ws _ ?_
 refine aI al (fun d_ bW bg ak=> ?_)
 rcases e9 h with⟨b4,h⟩|⟨b4,h⟩
 ·refine hI b4 _ ?_
  refine jg rfl ?_
  refine ws _ ?_
  exact aD (bg _ (.inl (aH [.bool false])))
 ·obtain⟨af,ch,h⟩:=aE h
  refine cP (bU [(0,.slice (a0.map bE)),(11,.bool (!af))] (fun P ai=> ?_) ?_)
  ·simp only[aO.down,simprocAttr,eI,k4,bE,b4]
   refine hQ (ayH a0 _ ch) rfl rfl rfl rfl (.inl (by rfl)) ?_
   simp only[aO.down,simprocAttr,eI,k4,bE,b4]
   (try simp only[bb.down,simprocAttr,bE,b4]at ai⊢);exact ai
  refine aT h (fun o8 h=> ?_) (fun o8 h=> ?_)
  ·refine ws _ ?_
   exact aD (bg _ (.inl (aH [.bool false])))
  ·refine aY (bW _ (.inl ?_))
   refine aI al (fun eh cL cl dh=> ?_)
   refine ws _ ?_
   refine bH cl (fun ir n11 fD k9 eO=> ?_)
   have hJ:∀(n:Nat) (c9:Int),nT a0 n c9=some r→dp aB OA ir (ab [(0,.slice (a0.map bE)),(3,.int .i64 c9)]):=by
    intro m14
    induction m14 with
    |zero=>intro c9 h;cases(show none=some r from h)
    |succ m14 hh=>
     intro c9 h
     replace h:zi (nT a0 m14) a0 c9=some r:=h
     refine dE fD (fun jZ n12 ib iW=> ?_)
     refine aI ib (fun k_ n13 fY jm=> ?_)
     refine ws _ ?_
     refine aT h (fun eU h=> ?_) (fun eU h=> ?_)
     ·refine aY (n13 _ (.inl ?_))
      refine aI ib (fun qm n16 lx nn=> ?_)
      refine bH lx (fun oR n17 jo jB h0=> ?_)
      obtain⟨ak,hL,h⟩:=aE h
      obtain⟨aV,i6,h⟩:=aE h
      refine fj rfl (fi [(0,.slice (a0.map bE)),(3,.int .i64 c9),(27,.bool (!(Op.bytesLess ak aV)))] (fun P ai=> ?_) ?_)
      ·simp only[cD.down,simprocAttr,eI,k4,bE,hL,i6]
       refine⟨fa (by kernel_rfl),?_⟩
       (try simp only[bb.down,simprocAttr,bE,hL,i6]at ai⊢);exact ai
      refine aT h (fun Ar h=> ?_) (fun Ar h=> ?_)
      ·refine ws _ ?_
       exact aD (jo _ (.inl (aH [.bool false])))
      ·refine aY (n17 _ (n16 _ (.inl ?_)))
       refine wr _ ?_
       exact n12 _ (.inr ⟨_,bq rfl,hh (IntKind.i64.wrap (c9+1)) h⟩)
     ·refine dA (jm 0 _ (iW 0 _ (k9 _ (cL _ (.inl ?_)))))
      refine ws _ ?_
      exact aD (al _ (.inl (aH [.bool true])))
   obtain⟨n,h⟩:=dy h
   exact dC (.inr ⟨_,bq rfl,hJ n 1 h⟩)
theorem ayI (a0:ea) (r:Int) (h:CQ a0=some r):bl aB 79 [.ref (gz a0)] (.int .i64 r) []:=by
 refine bT [0] [.tmp 2] Tryz.func79 aho (fun bO al bN=> ?_)
 refine ws _ ?_
 refine aI al (fun d_ bW bg ak=> ?_)
 obtain⟨af,cF,h⟩:=aE h
 refine dx (ayd a0.ew _ cF) _ ?_
 refine aT h (fun cN h=> ?_) (fun cN h=> ?_)
 ·refine ws _ ?_
  exact aD (bg _ (.inl (aH [.int .i64 1])))
 ·refine aY (bW _ (.inl ?_))
  refine aI al (fun gZ n7 dY cQ=> ?_)
  obtain⟨ak,lh,h⟩:=aE h
  refine dx (ayt a0 _ lh) _ ?_
  refine aT h (fun ek h=> ?_) (fun ek h=> ?_)
  ·refine ws _ ?_
   exact aD (dY _ (.inl (aH [.int .i64 2])))
  ·refine aY (n7 _ (.inl ?_))
   refine aI al (fun jZ n12 ib iW=> ?_)
   obtain⟨aV,ee,h⟩:=aE h
   refine dx (ayu a0.hE _ ee) _ ?_
   refine aT h (fun eU h=> ?_) (fun eU h=> ?_)
   ·refine ws _ ?_
    exact aD (ib _ (.inl (aH [.int .i64 3])))
   ·refine aY (n12 _ (.inl ?_))
    refine aI al (fun oR n17 jo h0=> ?_)
    obtain⟨bm,hL,h⟩:=aE h
    refine dx (PU a0.hv _ hL) _ ?_
    refine aT h (fun e3 h=> ?_) (fun e3 h=> ?_)
    ·refine ws _ ?_
     exact aD (jo _ (.inl (aH [.int .i64 4])))
    ·refine aY (n17 _ (.inl ?_))
     refine aI al (fun uF n22 mR oO=> ?_)
     obtain⟨bh,ke,h⟩:=aE h
     refine dx (PU a0.hx _ ke) _ ?_
     refine aT h (fun lV h=> ?_) (fun lV h=> ?_)
     ·refine ws _ ?_
      exact aD (mR _ (.inl (aH [.int .i64 5])))
     ·refine aY (n22 _ (.inl ?_))
      refine ws _ ?_
      exact aD (al _ (.inl (aH [.int .i64 0])))
theorem PV (a0:ea) (r:Bool) (h:CR a0=some r):bl aB 41 [.ref (gz a0)] (.bool r) []:=by
 refine bT [0] [.tmp 2] Tryz.func41 ahr (fun bO al bN=> ?_)
 refine ws _ ?_
 obtain⟨af,aQ,h⟩:=aE h
 refine dx (ayI a0 _ aQ) _ ?_
 exact aD (al _ (.inl (aH [.bool (af==0)])))
theorem ayJ (a0:List bj) (R:aW) (r:Bool) (h:wE a0 R=some r):bl aB 80 [.slice (a0.map bA),.ref (bD R)] (.bool r) []:=by
 refine bT [0,1] [.tmp 4] Tryz.func80 ahB (fun bO al bN=> ?_)
 refine ws _ ?_
 refine aI al (fun d_ bW bg ak=> ?_)
 obtain⟨af,cF,h⟩:=aE h
 refine dx (nt R.cm 0 (IntKind.i64.wrap ((a0.length:Int)-1)) _ cF) _ ?_
 refine aT h (fun cN h=> ?_) (fun cN h=> ?_)
 ·refine ws _ ?_
  exact aD (bg _ (.inl (aH [.bool false])))
 ·refine aY (bW _ (.inl ?_))
  obtain⟨ak,hq,h⟩:=aE h
  refine hI hq _ ?_
  refine aI al (fun eh cL cl dh=> ?_)
  obtain⟨aV,l4,h⟩:=aE h
  rcases e9 h with⟨fg,h⟩|⟨fg,h⟩
  ·refine fj rfl (fi [(1,.ref (bD R)),(5,.bd (bA ak)),(43,.bool true)] (fun P ai=> ?_) ?_)
   ·simp only[cD.down,simprocAttr,Ek.down,(fk fg)]
    refine hf (nt R.Part 0 (IntKind.i64.wrap ((ak.Body.length:Int)-1)) _ l4) rfl rfl rfl rfl (.inl (by rfl)) ?_
    simp only[cD.down,simprocAttr,Ek.down,(fk fg)]
    refine⟨fa (by kernel_rfl),?_⟩
    (try simp only[bb.down,simprocAttr,uB.down,(fk fg)]at ai⊢);exact ai
   refine jg rfl ?_
   refine ws _ ?_
   exact aD (cl _ (.inl (aH [.bool false])))
  ·obtain⟨bm,ee,h⟩:=aE h
   refine fj rfl (fi [(1,.ref (bD R)),(5,.bd (bA ak)),(43,.bool (bm.Kind==5))] (fun P ai=> ?_) ?_)
   ·simp only[cD.down,simprocAttr,Ek.down,(bV fg),ee]
    refine hf (nt R.Part 0 (IntKind.i64.wrap ((ak.Body.length:Int)-1)) _ l4) rfl rfl rfl rfl (.inl (by rfl)) ?_
    simp only[cD.down,simprocAttr,Ek.down,(bV fg),ee]
    refine⟨fa (by kernel_rfl),?_⟩
    (try simp only[bb.down,simprocAttr,uB.down,(bV fg),ee]at ai⊢);exact ai
   refine aT h (fun eU h=> ?_) (fun eU h=> ?_)
   ·refine ws _ ?_
    exact aD (cl _ (.inl (aH [.bool false])))
   ·refine aY (cL _ (.inl ?_))
    obtain⟨bh,eQ,h⟩:=aE h
    rcases e9 h with⟨hA,h⟩|⟨hA,h⟩
    ·obtain⟨bM,i6,h⟩:=aE h
     refine fj rfl (fi [(4,.bool bM)] (fun P ai=> ?_) ?_)
     ·simp only[cD.down,simprocAttr,uC.down,hA]
      refine hf (Ii ak R.Part _ eQ) rfl rfl (by simp only[cD.down,simprocAttr,uC.down,hA,fJ,fK,fL,de, @b5 _ cA cA (fun _=>zY _)]<;>rfl) rfl (.inr (by rfl)) ?_
      simp only[cD.down,simprocAttr,uC.down,hA]
      refine kA (PN R.bS _ i6) rfl rfl rfl rfl (.inl (by rfl)) ?_
      simp only[cD.down,simprocAttr,uC.down,hA]
      refine⟨fa (by kernel_rfl),?_⟩
      (try simp only[bb.down,simprocAttr,uB.down,hA]at ai⊢);exact ai
     exact aD (al _ (.inl (aH [.bool bM])))
    ·refine fj rfl (fi [(4,.bool false)] (fun P ai=> ?_) ?_)
     ·simp only[cD.down,simprocAttr,uC.down,hA]
      refine hf (Ii ak R.Part _ eQ) rfl rfl (by simp only[cD.down,simprocAttr,uC.down,hA,fJ,fK,fL,de, @b5 _ cA cA (fun _=>zY _)]<;>rfl) rfl (.inr (by rfl)) ?_
      simp only[cD.down,simprocAttr,uC.down,hA]
      refine⟨fa (by kernel_rfl),?_⟩
      (try simp only[bb.down,simprocAttr,uB.down,hA]at ai⊢);exact ai
     exact aD (al _ (.inl (aH [.bool false])))
theorem ayK (a0:ea) (R:List aW) (r:Bool) (h:CT a0 R=some r):bl aB 42 [.ref (gz a0),.slice (R.map bD)] (.bool r) []:=by
 refine bT [0,1] [.tmp 4] Tryz.func42 ahO (fun bO al bN=> ?_)
 refine ws _ ?_
 refine aI al (fun d_ bW bg ak=> ?_)
 refine ws _ ?_
 refine aT h (fun b4 h=> ?_) (fun b4 h=> ?_)
 ·refine ws _ ?_
  exact aD (bg _ (.inl (aH [.bool false])))
 ·refine aY (bW _ (.inl ?_))
  refine aI al (fun eY n6 dj bM=> ?_)
  refine ws _ ?_
  refine bH dj (fun hg n8 gN cH eb=> ?_)
  have hJ:∀(n:Nat) (bY:Int),tQ a0 R n bY=some r→dp aB OB hg (ab [(0,.ref (gz a0)),(1,.slice (R.map bD)),(5,.int .i64 bY)]):=by
   intro m14
   induction m14 with
   |zero=>intro bY h;cases(show none=some r from h)
   |succ m14 hh=>
    intro bY h
    replace h:CS (tQ a0 R m14) a0 R bY=some r:=h
    refine dE gN (fun eh cL cl dh=> ?_)
    refine aI cl (fun eJ n10 cx c_=> ?_)
    refine ws _ ?_
    refine aT h (fun fg h=> ?_) (fun fg h=> ?_)
    ·refine aY (n10 _ (.inl ?_))
     refine aI cl (fun k_ n13 fY jm=> ?_)
     refine bH fY (fun iL n14 eX gk hV=> ?_)
     obtain⟨af,cg,h⟩:=aE h
     obtain⟨ak,ez,h⟩:=aE h
     refine fj rfl (fi [(0,.ref (gz a0)),(1,.slice (R.map bD)),(5,.int .i64 bY),(28,.bool (!ak))] (fun P ai=> ?_) ?_)
     ·simp only[cD.down,simprocAttr,wY.down,cg]
      refine hf (ayJ a0.ew af _ ez) rfl rfl rfl rfl (.inl (by rfl)) ?_
      simp only[cD.down,simprocAttr,wY.down,cg]
      refine⟨fa (by kernel_rfl),?_⟩
      (try simp only[bb.down,simprocAttr,bs,e2,bA,bz,cA,bD,gz,cc,ey,bE,cg]at ai⊢);exact ai
     refine aT h (fun iM h=> ?_) (fun iM h=> ?_)
     ·refine ws _ ?_
      exact aD (eX _ (.inl (aH [.bool false])))
     ·refine aY (n14 _ (n13 _ (.inl ?_)))
      refine wr _ ?_
      exact cL _ (.inr ⟨_,bq rfl,hh (IntKind.i64.wrap (bY+1)) h⟩)
    ·refine dA (c_ 0 _ (dh 0 _ (cH _ (n6 _ (.inl ?_)))))
     refine ws _ ?_
     exact aD (al _ (.inl (aH [.bool true])))
  obtain⟨n,h⟩:=dy h
  exact dC (.inr ⟨_,bq rfl,hJ n 0 h⟩)
theorem ayL (a0:List Int) (r:(List Int)) (h:CU a0=some r):bl aB 117 [.slice (a0.map bs)] (.an 1 (r.map bs)) []:=by
 refine bT [0] [.tmp 2] Tryz.func117 ahR (fun bO al bN=> ?_)
 refine ws _ ?_
 obtain⟨Bf,aQ,h⟩:=aE h
 (try simp only[q7.down,Nat.reduceAdd]at aQ)
 refine cP (bU [(2,.an 1 (a0.map bs))] (fun P ai=> ?_) ?_)
 ·simp only[aO.down,simprocAttr,nW.down,(show∀s,dG aB s 46 0 []=some (.an 1 [],s)from fun s=>by kernel_rfl), @ma aB 46 46 2 rfl rfl,mb,mc,me,all_cons,all_nil,aQ, @kC _ bs 1 (fun _=>rfl)]
  (try simp only[bb.down,simprocAttr,bs,(show∀s,dG aB s 46 0 []=some (.an 1 [],s)from fun s=>by kernel_rfl), @ma aB 46 46 2 rfl rfl,mb,mc,me,all_cons,all_nil,aQ, @kC _ bs 1 (fun _=>rfl)]at ai⊢);exact ai
 exact aD (al _ (.inl (aH [.an 1 (a0.map bs)])))
theorem ayM (a0:List aW) (r:(List aW)) (h:CW a0=some r):bl aB 81 [.slice (a0.map bD)] (.an 3 (r.map b6)) []:=by
 refine bT [0] [.tmp 2] Tryz.func81 ah0 (fun bO al bN=> ?_)
 refine ws _ ?_
 refine hI (show∀s,dG aB s 31 0 []=some (.an 3 [],s)from fun s=>by kernel_rfl) _ ?_
 refine aI al (fun kq gL di aV=> ?_)
 refine ws _ ?_
 refine bH di (fun gO dH cS cN bh=> ?_)
 have jz:∀(n:Nat) (bG:List aW) (br:Int),tR a0 n bG br=some r→dp aB OC gO (ab [(0,.slice (a0.map bD)),(3,.an 3 (bG.map b6)),(4,.int .i64 br)]):=by
  intro m8
  induction m8 with
  |zero=>intro bG br h;cases(show none=some r from h)
  |succ m8 jA=>
   intro bG br h
   replace h:CV (tR a0 m8) a0 bG br=some r:=h
   refine dE cS (fun eY n6 dj bM=> ?_)
   refine aI dj (fun gZ n7 dY cQ=> ?_)
   refine ws _ ?_
   refine aT h (fun gj h=> ?_) (fun gj h=> ?_)
   ·refine aY (n7 _ (.inl ?_))
    refine aI dj (fun eJ n10 cx c_=> ?_)
    refine bH cx (fun ir n11 fD k9 eO=> ?_)
    obtain⟨af,dS,h⟩:=aE h
    obtain⟨ak,ee,h⟩:=aE h
    obtain⟨u16,el,h⟩:=aE h
    (try simp only[q7.down,Nat.reduceAdd]at el)
    refine Va rfl (fi [(0,.slice (a0.map bD)),(3,.an 3 ((bG++[(aW.mk af.cm af.Part ak)]).map b6)),(4,.int .i64 br)] (fun P ai=> ?_) ?_)
    ·simp only[cD.down,simprocAttr,ns.down,dS, @GR aB 82 [(2,0),(2,1),(46,2)] [(.int .i64 0),(.int .i64 0),.bk] rfl rfl (by kernel_rfl),BJ,we,tr,wg,dN,me,List.nil_append,List.cons_append, @wc aB 31 82 1 3 [(.agg [(.int .i64 0),(.int .i64 0),.bk])] rfl rfl rfl (by kernel_rfl),tq, @ma aB 31 31 82 rfl rfl,mb,mc,all_cons,all_nil,el, @kC _ b6 3 (fun _=>rfl)]
     refine hf (ayL af.bS _ ee) rfl rfl rfl rfl (.inl (by rfl)) ?_
     simp only[cD.down,simprocAttr,ns.down,dS, @GR aB 82 [(2,0),(2,1),(46,2)] [(.int .i64 0),(.int .i64 0),.bk] rfl rfl (by kernel_rfl),BJ,we,tr,wg,dN,me,List.nil_append,List.cons_append, @wc aB 31 82 1 3 [(.agg [(.int .i64 0),(.int .i64 0),.bk])] rfl rfl rfl (by kernel_rfl),tq, @ma aB 31 31 82 rfl rfl,mb,mc,all_cons,all_nil,el, @kC _ b6 3 (fun _=>rfl)]
     refine⟨fa (by kernel_rfl),?_⟩
     (try simp only[bb.down,simprocAttr,kb.down,dS, @GR aB 82 [(2,0),(2,1),(46,2)] [(.int .i64 0),(.int .i64 0),.bk] rfl rfl (by kernel_rfl),BJ,we,tr,wg,dN,me,List.nil_append,List.cons_append, @wc aB 31 82 1 3 [(.agg [(.int .i64 0),(.int .i64 0),.bk])] rfl rfl rfl (by kernel_rfl),tq, @ma aB 31 31 82 rfl rfl,mb,mc,all_cons,all_nil,el, @kC _ b6 3 (fun _=>rfl)]at ai⊢);exact ai
    refine n11 _ (n10 _ (.inl ?_))
    refine wr [(0,.slice (a0.map bD)),(3,.an 3 ((bG++[(aW.mk af.cm af.Part ak)]).map b6)),(4,.int .i64 (IntKind.i64.wrap (br+1)))] ?_
    exact n6 _ (.inr ⟨_,bq rfl,jA (bG++[(aW.mk af.cm af.Part ak)]) (IntKind.i64.wrap (br+1)) h⟩)
   ·refine dA (cQ 0 _ (bM 0 _ (cN _ (gL _ (.inl ?_)))))
    refine ws _ ?_
    exact aD (al _ (.inl (aH [.an 3 (bG.map b6)])))
 obtain⟨n,h⟩:=dy h
 exact dC (.inr ⟨_,bq rfl,jz n [] 0 h⟩)
theorem PW (a0:List Int) (R:List Int) (r:Int) (h:zk a0 R=some r):bl aB 138 [.slice (a0.map bs),.slice (R.map bs)] (.int .i64 r) []:=by
 refine bT [0,1] [.tmp 4] Tryz.func138 aij (fun bO al bN=> ?_)
 refine ws _ ?_
 refine aI al (fun d_ bW bg ak=> ?_)
 refine ws _ ?_
 refine bH bg (fun dK et cd b4 bm=> ?_)
 have e8:∀(n:Nat) (aF:Int),tS a0 R n aF=some r→dp aB OD dK (ab [(0,.slice (a0.map bs)),(1,.slice (R.map bs)),(5,.int .i64 aF)]):=by
  intro m6
  induction m6 with
  |zero=>intro aF h;cases(show none=some r from h)
  |succ m6 eZ=>
   intro aF h
   replace h:CX (tS a0 R m6) a0 R aF=some r:=h
   refine dE cd (fun gO dH cS bh=> ?_)
   refine aI cS (fun eY n6 dj bM=> ?_)
   refine cP (bU [(0,.slice (a0.map bs)),(1,.slice (R.map bs)),(5,.int .i64 aF),(15,.bool ((decide (aF<(a0.length:Int)))&&(decide (aF<(R.length:Int)))))] (fun P ai=> ?_) ?_)
   ·rcases Bool.eq_false_or_eq_true (decide (aF<(a0.length:Int)))with pw|pw
    ·simp only[aO.down,simprocAttr,nW.down,pw]
     (try simp only[bb.down,simprocAttr,bs,pw]at ai⊢);exact ai
    ·simp only[aO.down,simprocAttr,nW.down,pw]
     (try simp only[bb.down,simprocAttr,bs,pw]at ai⊢);exact ai
   refine aT h (fun gj h=> ?_) (fun gj h=> ?_)
   ·refine aY (n6 _ (.inl ?_))
    refine aI cS (fun eJ n10 cx c_=> ?_)
    refine bH cx (fun ir n11 fD k9 eO=> ?_)
    refine aI fD (fun jZ n12 ib iW=> ?_)
    obtain⟨af,ee,h⟩:=aE h
    obtain⟨ak,el,h⟩:=aE h
    refine fj rfl (fi [(0,.slice (a0.map bs)),(1,.slice (R.map bs)),(5,.int .i64 aF),(26,.bool (decide (af<ak)))] (fun P ai=> ?_) ?_)
    ·simp only[cD.down,simprocAttr,nW.down,ee,el]
     refine⟨fa (by kernel_rfl),?_⟩
     (try simp only[bb.down,simprocAttr,bs,ee,el]at ai⊢);exact ai
    refine aT h (fun kd h=> ?_) (fun kd h=> ?_)
    ·refine ws _ ?_
     exact aD (ib _ (.inl (aH [.int .i64 (-1)])))
    ·refine aY (n12 _ (.inl ?_))
     refine fj rfl (fi [(0,.slice (a0.map bs)),(1,.slice (R.map bs)),(5,.int .i64 aF),(35,.bool (decide (ak<af)))] (fun P ai=> ?_) ?_)
     ·simp only[cD.down,simprocAttr,nW.down,ee,el]
      refine⟨fa (by kernel_rfl),?_⟩
      (try simp only[bb.down,simprocAttr,bs,ee,el]at ai⊢);exact ai
     refine aT h (fun hA h=> ?_) (fun hA h=> ?_)
     ·refine ws _ ?_
      exact aD (fD _ (.inl (aH [.int .i64 1])))
     ·refine aY (n11 _ (n10 _ (.inl ?_)))
      refine wr _ ?_
      exact dH _ (.inr ⟨_,bq rfl,eZ (IntKind.i64.wrap (aF+1)) h⟩)
   ·refine dA (bM 0 _ (bh 0 _ (b4 _ (bW _ (.inl ?_)))))
    refine aI al (fun uF n22 mR oO=> ?_)
    refine ws _ ?_
    refine aT h (fun i1 h=> ?_) (fun i1 h=> ?_)
    ·refine ws _ ?_
     exact aD (mR _ (.inl (aH [.int .i64 (-1)])))
    ·refine aY (n22 _ (.inl ?_))
     refine aI al (fun PG n26 Iu aye=> ?_)
     refine ws _ ?_
     refine aT h (fun As h=> ?_) (fun As h=> ?_)
     ·refine ws _ ?_
      exact aD (Iu _ (.inl (aH [.int .i64 1])))
     ·refine aY (n26 _ (.inl ?_))
      refine ws _ ?_
      exact aD (al _ (.inl (aH [.int .i64 0])))
 obtain⟨n,h⟩:=dy h
 exact dC (.inr ⟨_,bq rfl,e8 n 0 h⟩)
theorem ayN (a0:aW) (R:aW) (r:Int) (h:CY a0 R=some r):bl aB 82 [.ref (bD a0),.ref (bD R)] (.int .i64 r) []:=by
 refine bT [0,1] [.tmp 4] Tryz.func82 ais (fun bO al bN=> ?_)
 refine ws _ ?_
 refine fj rfl (fi [(0,.ref (bD a0)),(1,.ref (bD R)),(5,.an 1 ([a0.cm,a0.Part].map bs))] (fun P ai=> ?_) ?_)
 ·simp only[cD.down,simprocAttr,eg,hU,k5,bs,bD,(show∀s,dG aB s 46 2 [(0,.int .i64 a0.cm),(1,.int .i64 a0.Part)]=some (.an 1 [.int .i64 a0.cm,.int .i64 a0.Part],s)from fun s=>by kernel_rfl)]
  refine⟨fa (by kernel_rfl),?_⟩
  (try simp only[bb.down,simprocAttr,q8.down,(show∀s,dG aB s 46 2 [(0,.int .i64 a0.cm),(1,.int .i64 a0.Part)]=some (.an 1 [.int .i64 a0.cm,.int .i64 a0.Part],s)from fun s=>by kernel_rfl)]at ai⊢);exact ai
 refine fj rfl (fi [(0,.ref (bD a0)),(1,.ref (bD R)),(5,.an 1 ([a0.cm,a0.Part].map bs)),(6,.an 1 ([R.cm,R.Part].map bs))] (fun P ai=> ?_) ?_)
 ·simp only[cD.down,simprocAttr,eg,hU,k5,bs,bD,(show∀s,dG aB s 46 2 [(0,.int .i64 R.cm),(1,.int .i64 R.Part)]=some (.an 1 [.int .i64 R.cm,.int .i64 R.Part],s)from fun s=>by kernel_rfl)]
  refine⟨fa (by kernel_rfl),?_⟩
  (try simp only[bb.down,simprocAttr,q8.down,(show∀s,dG aB s 46 2 [(0,.int .i64 R.cm),(1,.int .i64 R.Part)]=some (.an 1 [.int .i64 R.cm,.int .i64 R.Part],s)from fun s=>by kernel_rfl)]at ai⊢);exact ai
 obtain⟨af,cR,h⟩:=aE h
 refine cP (bU [(0,.ref (bD a0)),(1,.ref (bD R)),(7,.int .i64 af)] (fun P ai=> ?_) ?_)
 ·simp only[aO.down,simprocAttr,q8.down]
  refine e1 (PW [a0.cm,a0.Part] [R.cm,R.Part] _ cR) rfl rfl (by simp only[aO.down,simprocAttr,q8.down,fJ,fK,fL,de,I.shares, @b5 _ bs bs (fun _=>np _), @b5 _ bs bs (fun _=>np _)]<;>rfl) rfl (.inr (by rfl)) ?_
  simp only[aO.down,simprocAttr,q8.down]
  (try simp only[bb.down,simprocAttr,q8.down]at ai⊢);exact ai
 refine aI al (fun eY n6 dj bM=> ?_)
 refine ws _ ?_
 refine aT h (fun cH h=> ?_) (fun cH h=> ?_)
 ·refine ws _ ?_
  exact aD (dj _ (.inl (aH [.int .i64 af])))
 ·refine aY (n6 _ (.inl ?_))
  obtain⟨ak,l4,h⟩:=aE h
  refine fj rfl (fi [(4,.int .i64 ak)] (fun P ai=> ?_) ?_)
  ·simp only[cD.down,simprocAttr,eg,hU,k5,bs,bD]
   refine hf (PW a0.bS R.bS _ l4) rfl rfl rfl rfl (.inl (by rfl)) ?_
   simp only[cD.down,simprocAttr,eg,hU,k5,bs,bD]
   refine⟨fa (by kernel_rfl),?_⟩
   (try simp only[bb.down,simprocAttr,q8.down]at ai⊢);exact ai
  exact aD (al _ (.inl (aH [.int .i64 ak])))
theorem ayO (a0:List aW) (r:(List aW)) (h:C0 a0=some r):bl aB 43 [.an 3 (a0.map b6)] (.an 3 (r.map bD)) [.an 3 (a0.map b6)]:=by
 refine bT [0] [.tmp 2] Tryz.func43 aiM (fun bO al bN=> ?_)
 refine ws _ ?_
 obtain⟨af,aQ,h⟩:=aE h
 refine cP (bU [(0,.an 3 (a0.map b6)),(3,.an 3 (af.map b6))] (fun P ai=> ?_) ?_)
 ·simp only[aO.down,simprocAttr,mQ.down]
  refine e1 (ayM a0 _ aQ) rfl rfl (by simp only[aO.down,simprocAttr,mQ.down,fJ,fK,fL,de, @b5 _ b6 bD (fun _=>jY _)]<;>rfl) rfl (.inr (kB (fun _=>H5 _) _)) ?_
  simp only[aO.down,simprocAttr,mQ.down]
  (try simp only[bb.down,simprocAttr,mQ.down]at ai⊢);exact ai
 refine hI (show∀s,dG aB s 31 0 []=some (.an 3 [],s)from fun s=>by kernel_rfl) _ ?_
 refine aI al (fun gO dH cS bh=> ?_)
 refine ws _ ?_
 refine bH cS (fun gZ n7 dY o8 cQ=> ?_)
 have ayP:∀(n:Nat) (nm:List aW) (pr:Int),kH a0 af n nm pr=some r→dp aB OG gZ (ab [(0,.an 3 (a0.map b6)),(3,.slice (af.map bD)),(4,.an 3 (nm.map bD)),(5,.int .i64 pr)]):=by
  intro m10
  induction m10 with
  |zero=>intro nm pr h;cases(show none=some r from h)
  |succ m10 PX=>
   intro nm pr h
   replace h:CZ (kH a0 af m10) a0 af nm pr=some r:=h
   refine dE dY (fun hg n8 gN eb=> ?_)
   refine aI gN (fun eh cL cl dh=> ?_)
   refine ws _ ?_
   refine aT h (fun k9 h=> ?_) (fun k9 h=> ?_)
   ·refine aY (cL _ (.inl ?_))
    refine aI gN (fun jZ n12 ib iW=> ?_)
    refine bH ib (fun k_ n13 fY gM jm=> ?_)
    refine ws _ ?_
    refine aI fY (fun mj n15 hz jO=> ?_)
    refine bH hz (fun qm n16 lx kd nn=> ?_)
    have ayQ:∀(n:Nat) (hG:List aW) (jW:Int) (jN:Int),q2 (kH a0 af m10) a0 af n hG jW jN=some r→dp aB OE qm (ab [(0,.an 3 (a0.map b6)),(3,.slice (af.map bD)),(4,.an 3 (hG.map bD)),(5,.int .i64 jW),(6,.int .i64 jN)]):=by
     intro m23
     induction m23 with
     |zero=>intro hG jW jN h;cases(show none=some r from h)
     |succ m23 ayR=>
      intro hG jW jN h
      replace h:zm (kH a0 af m10) (q2 (kH a0 af m10) a0 af m23) a0 af hG jW jN=some r:=h
      refine dE lx (fun oR n17 jo h0=> ?_)
      refine aI jo (fun Aq n18 qp oN=> ?_)
      rcases e9 h with⟨e3,h⟩|⟨e3,h⟩
      ·obtain⟨ak,lU,h⟩:=aE h
       obtain⟨aV,gl,h⟩:=aE h
       obtain⟨bm,n0,h⟩:=aE h
       refine fj rfl (fi [(0,.an 3 (a0.map b6)),(3,.slice (af.map bD)),(4,.an 3 (hG.map bD)),(5,.int .i64 jW),(6,.int .i64 jN),(31,.bool (decide (bm<0)))] (fun P ai=> ?_) ?_)
       ·simp only[cD.down,simprocAttr,ns.down,e3,lU,gl,cG gl]
        refine kA (ayN ak aV _ n0) rfl rfl (by simp only[cD.down,simprocAttr,ns.down,e3,lU,gl,cG gl,fJ,fK,fL,de, @b5 _ bs bs (fun _=>np _)]<;>rfl) rfl (.inr (by rfl)) ?_
        simp only[cD.down,simprocAttr,ns.down,e3,lU,gl,cG gl]
        refine⟨fa (by kernel_rfl),?_⟩
        (try simp only[bb.down,simprocAttr,kb.down,e3,lU,gl,cG gl]at ai⊢);exact ai
       refine aT h (fun i1 h=> ?_) (fun i1 h=> ?_)
       ·refine aY (n18 _ (.inl ?_))
        refine bH jo (fun EB n25 q9 lV EC=> ?_)
        refine wr _ ?_
        exact n25 _ (n17 _ (.inr ⟨_,bq rfl,ayR hG jW (IntKind.i64.wrap (jN-1)) h⟩))
       ·refine dA (oN 2 _ (h0 2 _ (kd _ (n15 _ (.inl ?_)))))
        obtain⟨aFe,so,h⟩:=aE h
        (try simp only[q7.down,Nat.reduceAdd]at so)
        refine kD (bU (K:=ev _) [(0,.an 3 (a0.map b6)),(3,.slice (af.map bD)),(4,.an 3 (List.map bD hG++[.agg [.int .i64 0,.int .i64 0,.bk]])),(5,.int .i64 jW),(6,.int .i64 jN)] (fun P ai=> ?_) (Mg [(0,.an 3 (a0.map b6)),(3,.slice (af.map bD)),(4,.an 3 ((hG++[(aW.mk 0 0 [])]).map bD)),(5,.int .i64 jW),(6,.int .i64 jN)] (nK [] rfl (iD rfl (iD rfl (nM (t:=4) (d:=.an 3 (List.map bD hG++[.agg [.int .i64 0,.int .i64 0,.bk]])) (bp:=.an 3 ((hG++[(aW.mk 0 0 [])]).map bD)) rfl rfl (.an (GW (ys:=[(aW.mk 0 0 [])]) (.cons (.agg (.cons (.refl _) (.cons (.refl _) (.cons (.rU) (.nil))))) (.nil)) _)) (by decide) (iD rfl (iD rfl (nL))))))) ?_))
        ·simp only[aO.down,simprocAttr,ns.down,(show∀s,e0 aB s 82 []=some (.agg [.int .i64 0,.int .i64 0,.bk],s)from fun s=>by kernel_rfl),(show∀s,dG aB s 31 1 [(0,.agg [.int .i64 0,.int .i64 0,.bk])]=some (.an 3 [.agg [.int .i64 0,.int .i64 0,.bk]],s)from fun s=>by kernel_rfl), @ma aB 31 31 82 rfl rfl,mb,mc,me,all_cons,all_nil,so, @kC _ bD 3 (fun _=>rfl)]
         (try simp only[bb.down,simprocAttr,kb.down,(show∀s,e0 aB s 82 []=some (.agg [.int .i64 0,.int .i64 0,.bk],s)from fun s=>by kernel_rfl),(show∀s,dG aB s 31 1 [(0,.agg [.int .i64 0,.int .i64 0,.bk])]=some (.an 3 [.agg [.int .i64 0,.int .i64 0,.bk]],s)from fun s=>by kernel_rfl), @ma aB 31 31 82 rfl rfl,mb,mc,me,all_cons,all_nil,so, @kC _ bD 3 (fun _=>rfl)]at ai⊢);exact ai
        refine aI fY (fun Il n29 Ao PD=> ?_)
        refine ws [(0,.an 3 (a0.map b6)),(3,.slice (af.map bD)),(4,.an 3 ((hG++[(aW.mk 0 0 [])]).map bD)),(5,.int .i64 jW),(6,.int .i64 jN),(7,.int .i64 (IntKind.i64.wrap (((hG++[(aW.mk 0 0 [])]).length:Int)-1)))] ?_
        refine bH Ao (fun Ew n31 w5 jD Ex=> ?_)
        have IF:∀(n:Nat) (h_:List aW) (iI:Int) (il:Int) (ia:Int),pq (kH a0 af m10) a0 af n h_ iI il ia=some r→dp aB H7 Ew (ab [(0,.an 3 (a0.map b6)),(3,.slice (af.map bD)),(4,.an 3 (h_.map bD)),(5,.int .i64 iI),(6,.int .i64 il),(7,.int .i64 ia)]):=by
         intro uL
         induction uL with
         |zero=>intro h_ iI il ia h;cases(show none=some r from h)
         |succ uL IG=>
          intro h_ iI il ia h
          replace h:zl (kH a0 af m10) (pq (kH a0 af m10) a0 af uL) a0 af h_ iI il ia=some r:=h
          refine dE w5 (fun ayh n32 Ey PH=> ?_)
          refine aI Ey (fun aFf n33 aFg ayS=> ?_)
          refine ws _ ?_
          refine aT h (fun n1 h=> ?_) (fun n1 h=> ?_)
          ·refine aY (n33 _ (.inl ?_))
           refine aI Ey (fun aFh n36 ayT aFi=> ?_)
           refine bH ayT (fun ayU n37 PY aFj ayV=> ?_)
           obtain⟨bh,sq,h⟩:=aE h
           obtain⟨bM,sr,h⟩:=aE h
           refine jV (bU [(0,.an 3 (a0.map b6)),(3,.slice (af.map bD)),(4,.an 3 ((List.set h_ (Int.toNat ia) bh).map bD)),(5,.int .i64 iI),(6,.int .i64 il),(7,.int .i64 ia)] (fun P ai=> ?_) ?_)
           ·simp only[aO.down,simprocAttr,ns.down,sq,cG sq,sr,cG sr,dN,dz]
            (try simp only[bb.down,simprocAttr,kb.down,sq,cG sq,sr,cG sr,dN,dz]at ai⊢);exact ai
           refine n37 _ (n36 _ (.inl ?_))
           refine wr [(0,.an 3 (a0.map b6)),(3,.slice (af.map bD)),(4,.an 3 ((List.set h_ (Int.toNat ia) bh).map bD)),(5,.int .i64 iI),(6,.int .i64 il),(7,.int .i64 (IntKind.i64.wrap (ia-1)))] ?_
           exact n32 _ (.inr ⟨_,bq rfl,IG (List.set h_ (Int.toNat ia) bh) iI il (IntKind.i64.wrap (ia-1)) h⟩)
          ·refine dA (ayS 4 _ (PH 4 _ (jD _ (n29 _ (.inl ?_)))))
           obtain⟨cQ,PZ,h⟩:=aE h
           obtain⟨eb,w9,h⟩:=aE h
           refine jV (bU [(0,.an 3 (a0.map b6)),(3,.slice (af.map bD)),(4,.an 3 ((List.set h_ (Int.toNat il) cQ).map bD)),(5,.int .i64 iI)] (fun P ai=> ?_) ?_)
           ·simp only[aO.down,simprocAttr,ns.down,PZ,w9,cG w9,dN,dz]
            (try simp only[bb.down,simprocAttr,kb.down,PZ,w9,cG w9,dN,dz]at ai⊢);exact ai
           refine n13 _ (n12 _ (.inl ?_))
           refine wr [(0,.an 3 (a0.map b6)),(3,.slice (af.map bD)),(4,.an 3 ((List.set h_ (Int.toNat il) cQ).map bD)),(5,.int .i64 (IntKind.i64.wrap (iI+1)))] ?_
           exact n8 _ (.inr ⟨_,bq rfl,PX (List.set h_ (Int.toNat il) cQ) (IntKind.i64.wrap (iI+1)) h⟩)
        obtain⟨n,h⟩:=dy h
        exact dC (.inr ⟨_,bq rfl,IF n (hG++[(aW.mk 0 0 [])]) jW jN (IntKind.i64.wrap (((hG++[(aW.mk 0 0 [])]).length:Int)-1)) h⟩)
      ·refine fj rfl (fi [(0,.an 3 (a0.map b6)),(3,.slice (af.map bD)),(4,.an 3 (hG.map bD)),(5,.int .i64 jW),(6,.int .i64 jN),(31,.bool false)] (fun P ai=> ?_) ?_)
       ·simp only[cD.down,simprocAttr,ns.down,e3]
        refine⟨fa (by kernel_rfl),?_⟩
        (try simp only[bb.down,simprocAttr,kb.down,e3]at ai⊢);exact ai
       refine qV rfl ?_
       refine dA (oN 2 _ (h0 2 _ (kd _ (n15 _ (.inl ?_)))))
       obtain⟨u64,Av,h⟩:=aE h
       (try simp only[q7.down,Nat.reduceAdd]at Av)
       refine kD (bU (K:=ev _) [(0,.an 3 (a0.map b6)),(3,.slice (af.map bD)),(4,.an 3 (List.map bD hG++[.agg [.int .i64 0,.int .i64 0,.bk]])),(5,.int .i64 jW),(6,.int .i64 jN)] (fun P ai=> ?_) (Mg [(0,.an 3 (a0.map b6)),(3,.slice (af.map bD)),(4,.an 3 ((hG++[(aW.mk 0 0 [])]).map bD)),(5,.int .i64 jW),(6,.int .i64 jN)] (nK [] rfl (iD rfl (iD rfl (nM (t:=4) (d:=.an 3 (List.map bD hG++[.agg [.int .i64 0,.int .i64 0,.bk]])) (bp:=.an 3 ((hG++[(aW.mk 0 0 [])]).map bD)) rfl rfl (.an (GW (ys:=[(aW.mk 0 0 [])]) (.cons (.agg (.cons (.refl _) (.cons (.refl _) (.cons (.rU) (.nil))))) (.nil)) _)) (by decide) (iD rfl (iD rfl (nL))))))) ?_))
       ·simp only[aO.down,simprocAttr,ns.down,(show∀s,e0 aB s 82 []=some (.agg [.int .i64 0,.int .i64 0,.bk],s)from fun s=>by kernel_rfl),(show∀s,dG aB s 31 1 [(0,.agg [.int .i64 0,.int .i64 0,.bk])]=some (.an 3 [.agg [.int .i64 0,.int .i64 0,.bk]],s)from fun s=>by kernel_rfl), @ma aB 31 31 82 rfl rfl,mb,mc,me,all_cons,all_nil,Av, @kC _ bD 3 (fun _=>rfl)]
        (try simp only[bb.down,simprocAttr,kb.down,(show∀s,e0 aB s 82 []=some (.agg [.int .i64 0,.int .i64 0,.bk],s)from fun s=>by kernel_rfl),(show∀s,dG aB s 31 1 [(0,.agg [.int .i64 0,.int .i64 0,.bk])]=some (.an 3 [.agg [.int .i64 0,.int .i64 0,.bk]],s)from fun s=>by kernel_rfl), @ma aB 31 31 82 rfl rfl,mb,mc,me,all_cons,all_nil,Av, @kC _ bD 3 (fun _=>rfl)]at ai⊢);exact ai
       refine aI fY (fun Io n48 qo Iq=> ?_)
       refine ws [(0,.an 3 (a0.map b6)),(3,.slice (af.map bD)),(4,.an 3 ((hG++[(aW.mk 0 0 [])]).map bD)),(5,.int .i64 jW),(6,.int .i64 jN),(7,.int .i64 (IntKind.i64.wrap (((hG++[(aW.mk 0 0 [])]).length:Int)-1)))] ?_
       refine bH qo (fun ayW n50 ayX nu aFk=> ?_)
       have IF:∀(n:Nat) (h_:List aW) (iI:Int) (il:Int) (ia:Int),pq (kH a0 af m10) a0 af n h_ iI il ia=some r→dp aB H7 ayW (ab [(0,.an 3 (a0.map b6)),(3,.slice (af.map bD)),(4,.an 3 (h_.map bD)),(5,.int .i64 iI),(6,.int .i64 il),(7,.int .i64 ia)]):=by
        intro uL
        induction uL with
        |zero=>intro h_ iI il ia h;cases(show none=some r from h)
        |succ uL IG=>
         intro h_ iI il ia h
         replace h:zl (kH a0 af m10) (pq (kH a0 af m10) a0 af uL) a0 af h_ iI il ia=some r:=h
         refine dE ayX (fun aFl n51 P0 ayY=> ?_)
         refine aI P0 (fun aFm n52 aFn ayZ=> ?_)
         refine ws _ ?_
         refine aT h (fun Ap h=> ?_) (fun Ap h=> ?_)
         ·refine aY (n52 _ (.inl ?_))
          refine aI P0 (fun ayC IE PS PT=> ?_)
          refine bH PS (fun aFo ay0 aFp aFq aFr=> ?_)
          obtain⟨dh,w_,h⟩:=aE h
          obtain⟨c_,ED,h⟩:=aE h
          refine jV (bU [(0,.an 3 (a0.map b6)),(3,.slice (af.map bD)),(4,.an 3 ((List.set h_ (Int.toNat ia) dh).map bD)),(5,.int .i64 iI),(6,.int .i64 il),(7,.int .i64 ia)] (fun P ai=> ?_) ?_)
          ·simp only[aO.down,simprocAttr,ns.down,w_,cG w_,ED,cG ED,dN,dz]
           (try simp only[bb.down,simprocAttr,kb.down,w_,cG w_,ED,cG ED,dN,dz]at ai⊢);exact ai
          refine ay0 _ (IE _ (.inl ?_))
          refine wr [(0,.an 3 (a0.map b6)),(3,.slice (af.map bD)),(4,.an 3 ((List.set h_ (Int.toNat ia) dh).map bD)),(5,.int .i64 iI),(6,.int .i64 il),(7,.int .i64 (IntKind.i64.wrap (ia-1)))] ?_
          exact n51 _ (.inr ⟨_,bq rfl,IG (List.set h_ (Int.toNat ia) dh) iI il (IntKind.i64.wrap (ia-1)) h⟩)
         ·refine dA (ayZ 4 _ (ayY 4 _ (nu _ (n48 _ (.inl ?_)))))
          obtain⟨eO,P1,h⟩:=aE h
          obtain⟨iW,EE,h⟩:=aE h
          refine jV (bU [(0,.an 3 (a0.map b6)),(3,.slice (af.map bD)),(4,.an 3 ((List.set h_ (Int.toNat il) eO).map bD)),(5,.int .i64 iI)] (fun P ai=> ?_) ?_)
          ·simp only[aO.down,simprocAttr,ns.down,P1,EE,cG EE,dN,dz]
           (try simp only[bb.down,simprocAttr,kb.down,P1,EE,cG EE,dN,dz]at ai⊢);exact ai
          refine n13 _ (n12 _ (.inl ?_))
          refine wr [(0,.an 3 (a0.map b6)),(3,.slice (af.map bD)),(4,.an 3 ((List.set h_ (Int.toNat il) eO).map bD)),(5,.int .i64 (IntKind.i64.wrap (iI+1)))] ?_
          exact n8 _ (.inr ⟨_,bq rfl,PX (List.set h_ (Int.toNat il) eO) (IntKind.i64.wrap (iI+1)) h⟩)
       obtain⟨n,h⟩:=dy h
       exact dC (.inr ⟨_,bq rfl,IF n (hG++[(aW.mk 0 0 [])]) jW jN (IntKind.i64.wrap (((hG++[(aW.mk 0 0 [])]).length:Int)-1)) h⟩)
    obtain⟨n,h⟩:=dy h
    exact dC (.inr ⟨_,bq rfl,ayQ n nm pr (nm.length:Int) h⟩)
   ·refine dA (dh 0 _ (eb 0 _ (o8 _ (dH _ (.inl ?_)))))
    refine ws _ ?_
    exact aD (al _ (.inl (l_ [.an 3 (nm.map bD)] rfl (by cases h2 h;rfl) (by decide) (mF (mG (by cases h2 h;rfl) rfl rfl rfl (mH))))))
 obtain⟨n,h⟩:=dy h
 exact dC (.inr ⟨_,nK [] rfl (iD (t:=0) (d:=.an 3 (a0.map b6)) rfl (nM (t:=3) (d:=.an 3 (af.map b6)) (bp:=.slice (af.map bD)) rfl rfl (Vh rfl rfl (congrArg I.slice (b5 (fun _=>jY _) _))) (by decide) (iD (t:=4) (d:=.an 3 []) rfl (iD (t:=5) (d:=.int .i64 0) rfl (nL))))),ayP n [] 0 h⟩)
theorem ay1 (a0:ea) (R:List aW) (r:(List aW)×Int) (h:C1 a0 R=some r):bl aB 10 [gz a0,.an 3 (R.map b6)] (.tuple [.an 3 (r.1.map bD),.int .i64 r.2]) [.hole,.an 3 (R.map b6)]:=by
 refine bT [0,1] [.tmp 4,.tmp 5] Tryz.func10 aiS (fun bO al bN=> ?_)
 refine ws _ ?_
 refine aI al (fun d_ bW bg ak=> ?_)
 obtain⟨af,cF,h⟩:=aE h
 rcases e9 h with⟨cN,h⟩|⟨cN,h⟩
 ·refine cP (bU [(1,.an 3 (R.map b6)),(12,.bool true)] (fun P ai=> ?_) ?_)
  ·refine e1 (PV a0 _ cF) rfl rfl (by simp only[aO.down,simprocAttr,sj.down,(fk cN),fJ,fK,fL,de, @b5 _ bA bA (fun _=>uu _), @b5 _ e2 e2 (fun _=>uv _), @b5 _ bz bz (fun _=>mN _), @b5 _ bE bE (fun _=>iK _), @b5 _ bE bE (fun _=>iK _)]<;>rfl) rfl (.inr (by rfl)) ?_
   simp only[aO.down,simprocAttr,sj.down,(fk cN)]
   (try simp only[bb.down,simprocAttr,sj.down,(fk cN)]at ai⊢);exact ai
  refine jg rfl ?_
  refine ws _ ?_
  exact aD (bg _ (.inr ⟨[(4,.an 3 []),(5,.int .i64 1),(1,.an 3 (R.map b6))],nK [] rfl (nM (t:=4) (d:=.bk) rfl rfl (.l8 _) (by decide) (iD rfl (iD rfl (nL)))),l_ [.an 3 [],.int .i64 1] rfl (by cases h2 h;rfl) (by decide) (mF (lP (mG (by cases h2 h;rfl) rfl rfl rfl (mH))))⟩))
 ·obtain⟨ak,b3,h⟩:=aE h
  refine cP (bU [(1,.an 3 (R.map b6)),(12,.bool (!ak))] (fun P ai=> ?_) ?_)
  ·refine e1 (PV a0 _ cF) rfl rfl (by simp only[aO.down,simprocAttr,sj.down,(bV cN),fJ,fK,fL,de, @b5 _ bA bA (fun _=>uu _), @b5 _ e2 e2 (fun _=>uv _), @b5 _ bz bz (fun _=>mN _), @b5 _ bE bE (fun _=>iK _), @b5 _ bE bE (fun _=>iK _)]<;>rfl) rfl (.inr (by rfl)) ?_
   simp only[aO.down,simprocAttr,sj.down,(bV cN)]
   refine hQ (ayK a0 R _ b3) rfl rfl (by simp only[aO.down,simprocAttr,sj.down,(bV cN),fJ,fK,fL,de, @b5 _ bA bA (fun _=>uu _), @b5 _ e2 e2 (fun _=>uv _), @b5 _ bz bz (fun _=>mN _), @b5 _ bE bE (fun _=>iK _), @b5 _ bE bE (fun _=>iK _), @b5 _ b6 bD (fun _=>jY _)]<;>rfl) rfl (.inr (by rfl)) ?_
   simp only[aO.down,simprocAttr,sj.down,(bV cN)]
   (try simp only[bb.down,simprocAttr,sj.down,(bV cN)]at ai⊢);exact ai
  refine aT h (fun cH h=> ?_) (fun cH h=> ?_)
  ·refine ws _ ?_
   exact aD (bg _ (.inr ⟨[(4,.an 3 []),(5,.int .i64 1),(1,.an 3 (R.map b6))],nK [] rfl (nM (t:=4) (d:=.bk) rfl rfl (.l8 _) (by decide) (iD rfl (iD rfl (nL)))),l_ [.an 3 [],.int .i64 1] rfl (by cases h2 h;rfl) (by decide) (mF (lP (mG (by cases h2 h;rfl) rfl rfl rfl (mH))))⟩))
  ·refine aY (bW _ (.inl ?_))
   obtain⟨aV,l4,h⟩:=aE h
   refine cP (bU [(1,.an 3 (R.map b6)),(4,.an 3 (aV.map bD)),(5,.int .i64 0)] (fun P ai=> ?_) ?_)
   ·simp only[aO.down,simprocAttr,kb.down]
    refine oF [⟨.h 1 [],true,_,_⟩] (ayO R _ l4) rfl rfl rfl (by simp only[aO.down,simprocAttr,kb.down,ni,lq,ji,fJ,fK,fL,de,or_true,true_or, @b5 _ b6 bD (fun _=>jY _)]) rfl rfl (.inl rfl) ?_
    simp only[aO.down,simprocAttr,kb.down,lr]
    (try simp only[bb.down,simprocAttr,kb.down]at ai⊢);exact ai
   exact aD (al _ (.inl (l_ [.an 3 (aV.map bD),.int .i64 0] rfl (by cases h2 h;rfl) (by decide) (mF (lP (mG (by cases h2 h;rfl) rfl rfl rfl (mH)))))))
theorem kt (a0:Int) (R:Int) (a2:Int) (r:Bool) (h:jX a0 R a2=some r):bl aB 106 [.int .i64 a0,.int .i64 R,.int .i64 a2] (.bool r) []:=by
 refine bT [0,1,2] [.tmp 6] Tryz.func106 aiV (fun bO al bN=> ?_)
 refine ws _ ?_
 refine cP (bU [(6,.bool ((decide (R≤a0))&&(decide (a0≤a2))))] (fun P ai=> ?_) ?_)
 ·rcases Bool.eq_false_or_eq_true (decide (R≤a0))with e4|e4
  ·simp only[aO.down,simprocAttr,e4]
   (try simp only[bb.down,simprocAttr,e4]at ai⊢);exact ai
  ·simp only[aO.down,simprocAttr,e4]
   (try simp only[bb.down,simprocAttr,e4]at ai⊢);exact ai
 exact aD (al _ (.inl (aH [.bool ((decide (R≤a0))&&(decide (a0≤a2)))])))
theorem ay2 (a0:bj) (r:Bool) (h:Ht a0=some r):bl aB 255 [bA a0] (.bool r) []:=by
 refine bT [0] [.tmp 2] Tryz.func255 aiY (fun bO al bN=> ?_)
 refine ws _ ?_
 obtain⟨af,aQ,h⟩:=aE h
 refine dx (kt a0.dt 0 3 _ aQ) _ ?_
 exact aD (al _ (.inl (aH [.bool (!af)])))
theorem ay3 (a0:List bj) (r:Int) (h:Hu a0=some r):bl aB 257 [.slice (a0.map bA),.fn 255 []] (.int .i64 r) []:=by
 refine bT [0,1] [.tmp 4] Tryz.func257 ai9 (fun bO al bN=> ?_)
 refine ws _ ?_
 refine aI al (fun d_ bW bg ak=> ?_)
 refine ws _ ?_
 refine bH bg (fun dK et cd b4 bm=> ?_)
 have e8:∀(n:Nat) (cY:Int),wF a0 n cY=some r→dp aB OH dK (ab [(0,.slice (a0.map bA)),(1,.fn 255 []),(7,.int .i64 (a0.length:Int)),(8,.int .i64 cY)]):=by
  intro m6
  induction m6 with
  |zero=>intro cY h;cases(show none=some r from h)
  |succ m6 eZ=>
   intro cY h
   replace h:C2 (wF a0 m6) a0 cY=some r:=h
   refine dE cd (fun gO dH cS bh=> ?_)
   refine ws _ ?_
   refine aI cS (fun gZ n7 dY cQ=> ?_)
   refine aT h (fun cH h=> ?_) (fun cH h=> ?_)
   ·refine aY (n7 _ (.inl ?_))
    refine aI cS (fun eh cL cl dh=> ?_)
    refine bH cl (fun eJ n10 cx ek c_=> ?_)
    refine ws _ ?_
    obtain⟨af,dS,h⟩:=aE h
    obtain⟨ak,ee,h⟩:=aE h
    refine im dS (ay2 af _ ee) _ ?_
    refine aT h (fun eU h=> ?_) (fun eU h=> ?_)
    ·refine ws _ ?_
     exact aD (cx _ (.inl (aH [.int .i64 cY])))
    ·refine aY (n10 _ (cL _ (.inl ?_)))
     refine wr _ ?_
     exact dH _ (.inr ⟨_,bq rfl,eZ (IntKind.i64.wrap (cY+1)) h⟩)
   ·refine dA (cQ 0 _ (bh 0 _ (b4 _ (bW _ (.inl ?_)))))
    refine ws _ ?_
    exact aD (al _ (.inl (aH [.int .i64 (-1)])))
 obtain⟨n,h⟩:=dy h
 exact dC (.inr ⟨_,bq rfl,e8 n 0 h⟩)
theorem ay4 (a0:List bj) (r:Bool) (h:Hv a0=some r):bl aB 254 [.slice (a0.map bA),.fn 255 []] (.bool r) []:=by
 refine bT [0,1] [.tmp 4] Tryz.func254 ajb (fun bO al bN=> ?_)
 refine ws _ ?_
 obtain⟨af,aQ,h⟩:=aE h
 refine dx (ay3 a0 _ aQ) _ ?_
 exact aD (al _ (.inl (aH [.bool (decide (0≤af))])))
theorem ay5 (a0:List bj) (r:Bool) (h:C3 a0=some r):bl aB 208 [.slice (a0.map bA)] (.bool r) []:=by
 refine bT [0] [.tmp 2] Tryz.func208 aje (fun bO al bN=> ?_)
 refine ws _ ?_
 obtain⟨af,aQ,h⟩:=aE h
 refine dx (ay4 a0 _ aQ) _ ?_
 exact aD (al _ (.inl (aH [.bool (!af)])))
theorem ay6 (a0:UInt8) (r:Bool) (h:Hw a0=some r):bl aB 256 [.int .u8 (a0.toNat:Int)] (.bool r) []:=by
 refine bT [0] [.tmp 2] Tryz.func256 ajh (fun bO al bN=> ?_)
 refine ws _ ?_
 refine cP (bU [(2,.bool ((decide (48≤(a0.toNat:Int)))&&(decide ((a0.toNat:Int)≤57))))] (fun P ai=> ?_) ?_)
 ·rcases Bool.eq_false_or_eq_true (decide (48≤(a0.toNat:Int)))with e4|e4
  ·simp only[aO.down,simprocAttr,e4]
   (try simp only[bb.down,simprocAttr,e4]at ai⊢);exact ai
  ·simp only[aO.down,simprocAttr,e4]
   (try simp only[bb.down,simprocAttr,e4]at ai⊢);exact ai
 exact aD (al _ (.inl (aH [.bool ((decide (48≤(a0.toNat:Int)))&&(decide ((a0.toNat:Int)≤57)))])))
theorem EF (a0:List UInt8) (r:Bool) (h:zo a0=some r):bl aB 209 [.str a0] (.bool r) []:=by
 refine bT [0] [.tmp 2] Tryz.func209 ajt (fun bO al bN=> ?_)
 refine ws _ ?_
 refine aI al (fun d_ bW bg ak=> ?_)
 refine ws _ ?_
 refine bH bg (fun dK et cd b4 bm=> ?_)
 have e8:∀(n:Nat) (eP:Int),q3 a0 n eP=some r→dp aB OI dK (ab [(0,.str a0),(6,.int .i64 (a0.length:Int)),(7,.int .i64 eP)]):=by
  intro m6
  induction m6 with
  |zero=>intro eP h;cases(show none=some r from h)
  |succ m6 eZ=>
   intro eP h
   replace h:zn (q3 a0 m6) a0 eP=some r:=h
   refine dE cd (fun gO dH cS bh=> ?_)
   refine ws _ ?_
   refine aI cS (fun gZ n7 dY cQ=> ?_)
   refine aT h (fun cH h=> ?_) (fun cH h=> ?_)
   ·refine aY (n7 _ (.inl ?_))
    refine aI cS (fun eh cL cl dh=> ?_)
    refine bH cl (fun eJ n10 cx ek c_=> ?_)
    refine ws _ ?_
    obtain⟨af,dS,h⟩:=aE h
    refine cP (bU [(0,.str a0),(3,.int .i64 eP),(4,.bool ((decide (97≤(af.toNat:Int)))&&(decide ((af.toNat:Int)≤122)))),(6,.int .i64 (a0.length:Int)),(7,.int .i64 eP)] (fun P ai=> ?_) ?_)
    ·rcases Bool.eq_false_or_eq_true (decide (97≤(af.toNat:Int)))with oP|oP
     ·simp only[aO.down,simprocAttr,eI,dS,oP]
      (try simp only[bb.down,simprocAttr,dS,oP]at ai⊢);exact ai
     ·simp only[aO.down,simprocAttr,eI,dS,oP]
      (try simp only[bb.down,simprocAttr,dS,oP]at ai⊢);exact ai
    rcases e9 h with⟨kd,h⟩|⟨kd,h⟩
    ·rcases e9 h with⟨jB,h⟩|⟨jB,h⟩
     ·refine hI (And.intro kd jB) _ ?_
      refine jg rfl ?_
      refine ws _ ?_
      exact aD (cx _ (.inl (aH [.bool false])))
     ·obtain⟨ak,hL,h⟩:=aE h
      refine cP (bU [(0,.str a0),(6,.int .i64 (a0.length:Int)),(7,.int .i64 eP),(32,.bool (!ak))] (fun P ai=> ?_) ?_)
      ·simp only[aO.down,simprocAttr,eI,kd,jB,dS]
       refine hQ (ay6 af _ hL) rfl rfl rfl rfl (.inl (by rfl)) ?_
       simp only[aO.down,simprocAttr,eI,kd,jB,dS]
       (try simp only[bb.down,simprocAttr,kd,jB,dS]at ai⊢);exact ai
      refine aT h (fun e3 h=> ?_) (fun e3 h=> ?_)
      ·refine ws _ ?_
       exact aD (cx _ (.inl (aH [.bool false])))
      ·refine aY (n10 _ (cL _ (.inl ?_)))
       refine wr _ ?_
       exact dH _ (.inr ⟨_,bq rfl,eZ (IntKind.i64.wrap (eP+1)) h⟩)
    ·refine hI kd _ ?_
     refine qV rfl ?_
     refine aY (n10 _ (cL _ (.inl ?_)))
     refine wr _ ?_
     exact dH _ (.inr ⟨_,bq rfl,eZ (IntKind.i64.wrap (eP+1)) h⟩)
   ·refine dA (cQ 0 _ (bh 0 _ (b4 _ (bW _ (.inl ?_)))))
    refine cP (bU [(2,.bool ((decide (1≤(a0.length:Int)))&&(decide ((a0.length:Int)≤10))))] (fun P ai=> ?_) ?_)
    ·rcases Bool.eq_false_or_eq_true (decide (1≤(a0.length:Int)))with uw|uw
     ·simp only[aO.down,simprocAttr,eI,uw]
      (try simp only[bb.down,simprocAttr,uw]at ai⊢);exact ai
     ·simp only[aO.down,simprocAttr,eI,uw]
      (try simp only[bb.down,simprocAttr,uw]at ai⊢);exact ai
    exact aD (al _ (.inl (aH [.bool ((decide (1≤(a0.length:Int)))&&(decide ((a0.length:Int)≤10)))])))
 obtain⟨n,h⟩:=dy h
 exact dC (.inr ⟨_,bq rfl,e8 n 0 h⟩)
theorem ay7 (a0:bj) (R:List UInt8) (r:Bool) (h:Hx a0 R=some r):bl aB 258 [bA a0,.ref (.str R)] (.bool r) []:=by
 refine bT [0,1] [.tmp 3] Tryz.func258 ajw (fun bO al bN=> ?_)
 refine ws _ ?_
 refine ws _ ?_
 exact aD (al _ (.inl (aH [.bool (a0.Name==R)])))
theorem ay8 (a0:List bj) (R:List UInt8) (r:Int) (h:Hy a0 R=some r):bl aB 257 [.slice (a0.map bA),.fn 258 [.ref (.str R)]] (.int .i64 r) []:=by
 refine bT [0,1] [.tmp 4] Tryz.func257 ajH (fun bO al bN=> ?_)
 refine ws _ ?_
 refine aI al (fun d_ bW bg ak=> ?_)
 refine ws _ ?_
 refine bH bg (fun dK et cd b4 bm=> ?_)
 have e8:∀(n:Nat) (cY:Int),wG a0 R n cY=some r→dp aB OJ dK (ab [(0,.slice (a0.map bA)),(1,.fn 258 [.ref (.str R)]),(7,.int .i64 (a0.length:Int)),(8,.int .i64 cY)]):=by
  intro m6
  induction m6 with
  |zero=>intro cY h;cases(show none=some r from h)
  |succ m6 eZ=>
   intro cY h
   replace h:C4 (wG a0 R m6) a0 R cY=some r:=h
   refine dE cd (fun gO dH cS bh=> ?_)
   refine ws _ ?_
   refine aI cS (fun gZ n7 dY cQ=> ?_)
   refine aT h (fun cH h=> ?_) (fun cH h=> ?_)
   ·refine aY (n7 _ (.inl ?_))
    refine aI cS (fun eh cL cl dh=> ?_)
    refine bH cl (fun eJ n10 cx ek c_=> ?_)
    refine ws _ ?_
    obtain⟨af,dS,h⟩:=aE h
    obtain⟨ak,ee,h⟩:=aE h
    refine im dS (ay7 af R _ ee) _ ?_
    refine aT h (fun eU h=> ?_) (fun eU h=> ?_)
    ·refine ws _ ?_
     exact aD (cx _ (.inl (aH [.int .i64 cY])))
    ·refine aY (n10 _ (cL _ (.inl ?_)))
     refine wr _ ?_
     exact dH _ (.inr ⟨_,bq rfl,eZ (IntKind.i64.wrap (cY+1)) h⟩)
   ·refine dA (cQ 0 _ (bh 0 _ (b4 _ (bW _ (.inl ?_)))))
    refine ws _ ?_
    exact aD (al _ (.inl (aH [.int .i64 (-1)])))
 obtain⟨n,h⟩:=dy h
 exact dC (.inr ⟨_,bq rfl,e8 n 0 h⟩)
theorem ay9 (a0:List bj) (R:List UInt8) (r:Int) (h:C5 a0 R=some r):bl aB 210 [.slice (a0.map bA),.str R] (.int .i64 r) []:=by
 refine bT [0,1] [.tmp 4] Tryz.func210 ajK (fun bO al bN=> ?_)
 refine ws _ ?_
 obtain⟨af,aQ,h⟩:=aE h
 refine cP (bU [(4,.int .i64 af)] (fun P ai=> ?_) ?_)
 ·simp only[aO.down,simprocAttr,iq.down]
  refine e1 (ay8 a0 R _ aQ) rfl rfl (by simp only[aO.down,simprocAttr,iq.down,fJ,fK,fL,de]<;>rfl) rfl (.inr (by rfl)) ?_
  simp only[aO.down,simprocAttr,iq.down]
  (try simp only[bb.down,simprocAttr,iq.down]at ai⊢);exact ai
 exact aD (al _ (.inl (aH [.int .i64 af])))
theorem P2 (a0:bJ) (r:Int) (h:zq a0=some r):bl aB 188 [cA a0] (.int .i64 r) []:=by
 refine bT [0] [.tmp 2] Tryz.func188 ajX (fun bO al bN=> ?_)
 refine ws _ ?_
 refine aI al (fun d_ bW bg ak=> ?_)
 refine ws _ ?_
 refine bH bg (fun dK et cd b4 bm=> ?_)
 have uH:∀(db:Bool),zp a0 db=some r→dc aB OK dK (ab [(4,.int .i64 a0.Kind),(5,.bool db)]):=by
  intro db h
  refine aT h (fun ep h=> ?_) (fun ep h=> ?_)
  ·refine ws _ ?_
   exact aD (cd _ (.inl (aH [.int .i64 1])))
  ·refine ws _ ?_
   refine aT h (fun gj h=> ?_) (fun gj h=> ?_)
   ·refine ws _ ?_
    exact aD (cd _ (.inl (aH [.int .i64 2])))
   ·refine aY (et _ (bW _ (.inl ?_)))
    refine ws _ ?_
    exact aD (al _ (.inl (aH [.int .i64 0])))
 refine aI cd (fun gO dH cS bh=> ?_)
 refine ws _ ?_
 refine aT h (fun gM h=> ?_) (fun gM h=> ?_)
 ·simp only[gM,Ab.down]
  exact aY (dH _ (.inr ⟨_,bq rfl,uH true h⟩))
 ·refine ws _ ?_
  refine aT h (fun eU h=> ?_) (fun eU h=> ?_)
  ·simp only[eU,Ab.down]
   exact aY (dH _ (.inr ⟨_,bq rfl,uH true h⟩))
  ·refine wr _ ?_
   exact dH _ (.inr ⟨_,bq rfl,uH (a0.Kind==4) h⟩)
theorem ay_ (a0:bj) (R:Int) (r:Int) (h:C7 a0 R=some r):bl aB 165 [bA a0,.int .i64 R] (.int .i64 r) []:=by
 refine bT [0] [.tmp 4] Tryz.func165 aj8 (fun bO al bN=> ?_)
 refine ws _ ?_
 refine aI al (fun d_ bW bg ak=> ?_)
 refine ws _ ?_
 refine bH bg (fun dK et cd b4 bm=> ?_)
 have e8:∀(n:Nat) (aU:Int) (aF:Int),tT a0 n aU aF=some r→dp aB OL dK (ab [(1,.int .i64 aU),(2,.bd (bA a0)),(5,.int .i64 aF)]):=by
  intro m6
  induction m6 with
  |zero=>intro aU aF h;cases(show none=some r from h)
  |succ m6 eZ=>
   intro aU aF h
   replace h:C6 (tT a0 m6) a0 aU aF=some r:=h
   refine dE cd (fun gO dH cS bh=> ?_)
   refine aI cS (fun eY n6 dj bM=> ?_)
   refine ws _ ?_
   refine aT h (fun cH h=> ?_) (fun cH h=> ?_)
   ·refine aY (n6 _ (.inl ?_))
    refine aI cS (fun eh cL cl dh=> ?_)
    refine bH cl (fun eJ n10 cx ek c_=> ?_)
    refine aI cx (fun ir n11 fD eO=> ?_)
    refine ws _ ?_
    refine aT h (fun gM h=> ?_) (fun gM h=> ?_)
    ·refine ws _ ?_
     exact aD (fD _ (.inl (aH [.int .i64 (-1)])))
    ·refine aY (n11 _ (.inl ?_))
     obtain⟨af,cg,h⟩:=aE h
     obtain⟨ak,ez,h⟩:=aE h
     refine H_ cg (P2 af _ ez) _ ?_
     refine n10 _ (cL _ (.inl ?_))
     refine wr _ ?_
     exact dH _ (.inr ⟨_,bq rfl,eZ (IntKind.i64.wrap (aU+1)) (IntKind.i64.wrap (aF+(IntKind.i64.wrap (ak-1)))) h⟩)
   ·refine dA (bM 0 _ (bh 0 _ (b4 _ (bW _ (.inl ?_)))))
    refine ws _ ?_
    exact aD (al _ (.inl (aH [.int .i64 aU])))
 obtain⟨n,h⟩:=dy h
 exact dC (.inr ⟨_,bq rfl,e8 n R 1 h⟩)
theorem aza (mi:Int→cM→(List cM)→bj→Option (Int×(List cM))) (azb:∀(a0:Int) (R:cM) (a2:List cM) (a3:bj) (r:Int×(List cM)),mi a0 R a2 a3=some r→mI aB 187 2 4 [.int .i64 a0,dT R,.bd (.an 2 (a2.map dT)),.ref (bA a3),.ref (.hole)] (.int .i64 r.1) [.hole,.hole,.bd (.an 2 (r.2.map dT)),.hole,.hole]) (a0:Int) (R:cM) (a2:List cM) (a3:bj) (r:Int×(List cM)) (h:Hz mi a0 R a2 a3=some r):mI aB 187 2 4 [.int .i64 a0,dT R,.bd (.an 2 (a2.map dT)),.ref (bA a3),.ref (.hole)] (.int .i64 r.1) [.hole,.hole,.bd (.an 2 (r.2.map dT)),.hole,.hole]:=by
 refine mI.Hg (fx:=[0,1,2,3,4]) Hp [.tmp 7] [(0,.int .i64 a0),(1,dT R),(2,.bd (.an 2 (a2.map dT))),(3,.ref (bA a3)),(4,.ref (.hole))] Tryz.func187 rfl rfl akl (Nat.le_of_ble_eq_true rfl) akk rfl rfl (fun bO al bN=> ?_)
 refine ws _ ?_
 obtain⟨af,aQ,h⟩:=aE h
 refine cP (bU [(0,.int .i64 a0),(2,.bd (.an 2 ((List.set a2 (Int.toNat a0) R).map dT))),(3,.ref (bA a3)),(4,.ref (.hole)),(6,.bd (dT R))] (fun P ai=> ?_) ?_)
 ·simp only[aO.down,simprocAttr,eg,qd,qg,tD,bA,cA,cc,dT,ey,aQ,cG aQ,dN,dz]
  (try simp only[bb.down,simprocAttr,nZ.down,aQ,cG aQ,dN,dz]at ai⊢);exact ai
 obtain⟨ak,cR,h⟩:=aE h
 refine hI cR [(0,.int .i64 a0),(2,.bd (.an 2 ((List.set a2 (Int.toNat a0) R).map dT))),(3,.ref (bA a3)),(4,.ref (.hole)),(6,.bd (dT R)),(8,.bd (cA ak))] ?_
 refine hI (show∀s,e0 aB s 183 [(0,.int .i64 R.scope),(1,.bool (ak.Kind==1))]=some (.agg [.int .i64 R.scope,.bool (ak.Kind==1)],s)from fun s=>by kernel_rfl) [(0,.int .i64 a0),(2,.bd (.an 2 ((List.set a2 (Int.toNat a0) R).map dT))),(3,.ref (bA a3)),(4,.ref (.hole)),(8,.bd (cA ak)),(9,.bd (.agg [.int .i64 R.scope,.bool (ak.Kind==1)]))] ?_
 have P3:∀(k8:Int),C9 mi a0 R a2 a3 ak k8=some r→dc aB ON bO (ab [(0,.int .i64 a0),(2,.bd (.an 2 ((List.set a2 (Int.toNat a0) R).map dT))),(3,.ref (bA a3)),(4,.ref (.hole)),(8,.bd (cA ak)),(9,.bd (.agg [.int .i64 k8,.bool (ak.Kind==1)]))]):=by
  intro k8 h
  refine ws [(2,.bd (.an 2 ((List.set a2 (Int.toNat a0) R).map dT))),(3,.ref (bA a3)),(4,.ref (.hole)),(8,.bd (cA ak)),(9,.bd (.agg [.int .i64 k8,.bool (ak.Kind==1)])),(10,.int .i64 (IntKind.i64.wrap (a0+1)))] ?_
  refine aI al (fun eh cL cl dh=> ?_)
  obtain⟨aV,l4,h⟩:=aE h
  refine dx (P2 ak _ l4) [(2,.bd (.an 2 ((List.set a2 (Int.toNat a0) R).map dT))),(3,.ref (bA a3)),(4,.ref (.hole)),(9,.bd (.agg [.int .i64 k8,.bool (ak.Kind==1)])),(10,.int .i64 (IntKind.i64.wrap (a0+1))),(36,.int .i64 aV),(37,.int .i64 0)] ?_
  refine bH cl (fun jZ n12 ib fg iW=> ?_)
  have azc:∀(n:Nat) (pt:List cM) (nU:Int) (oM:Int),sb mi a3 k8 ak aV n pt nU oM=some r→dp aB OM jZ (ab [(2,.bd (.an 2 (pt.map dT))),(3,.ref (bA a3)),(4,.ref (.hole)),(9,.bd (.agg [.int .i64 k8,.bool (ak.Kind==1)])),(10,.int .i64 nU),(36,.int .i64 aV),(37,.int .i64 oM)]):=by
   intro m20
   induction m20 with
   |zero=>intro pt nU oM h;cases(show none=some r from h)
   |succ m20 azd=>
    intro pt nU oM h
    replace h:C8 mi (sb mi a3 k8 ak aV m20) a3 k8 ak aV pt nU oM=some r:=h
    refine dE ib (fun k_ n13 fY jm=> ?_)
    refine ws _ ?_
    refine aI fY (fun mj n15 hz jO=> ?_)
    refine aT h (fun kd h=> ?_) (fun kd h=> ?_)
    ·refine aY (n15 _ (.inl ?_))
     refine aI fY (fun oR n17 jo h0=> ?_)
     refine bH jo (fun Aq n18 qp iM oN=> ?_)
     obtain⟨bm,i6,h⟩:=aE h
     refine VZ [(2,.bd (.an 2 (bm.2.map dT))),(3,.ref (bA a3)),(4,.ref (.hole)),(9,.bd (.agg [.int .i64 k8,.bool (ak.Kind==1)])),(10,.int .i64 bm.1),(36,.int .i64 aV),(37,.int .i64 oM)] (fun P ai=> ?_) ?_
     ·simp only[aO.down,simprocAttr,Ia.down,pk]
      refine My [⟨.int .i64 nU,false,_,.hole⟩,⟨.agg [.int .i64 k8,.bool (ak.Kind==1)],false,_,.hole⟩,⟨.h 2 [],true,_,_⟩,⟨.ref (bA a3),false,_,.hole⟩,⟨.ref (.hole),false,_,.hole⟩] (azb nU (cM.mk k8 (ak.Kind==1)) pt a3 _ i6) rfl (by simp only[aO.down,simprocAttr,Ia.down,pk,ni,lq,ji,fJ,fK,fL,de,or_true,true_or, @b5 _ dT dT (fun _=>NV _)]) rfl rfl (.inl rfl) ?_
      simp only[aO.down,simprocAttr,Ia.down,pk,lr]
      (try simp only[bb.down,simprocAttr,nZ.down,pk]at ai⊢);exact ai
     refine n18 _ (n17 _ (.inl ?_))
     refine wr _ ?_
     exact n13 _ (.inr ⟨_,bq rfl,azd bm.2 bm.1 (IntKind.i64.wrap (oM+1)) h⟩)
    ·refine dA (jO 0 _ (jm 0 _ (fg _ (cL _ (.inl ?_)))))
     refine ws _ ?_
     exact aD (al _ (.inl (l_ [.int .i64 nU] rfl (by cases h2 h;rfl) (by decide) (mF (lP (lP (mG (by cases h2 h;rfl) rfl rfl rfl (lP (lP (mH))))))))))
  obtain⟨n,h⟩:=dy h
  exact dC (.inr ⟨_,bq rfl,azc n (List.set a2 (Int.toNat a0) R) (IntKind.i64.wrap (a0+1)) 0 h⟩)
 refine aI al (fun gZ n7 dY cQ=> ?_)
 refine ws [(0,.int .i64 a0),(2,.bd (.an 2 ((List.set a2 (Int.toNat a0) R).map dT))),(3,.ref (bA a3)),(4,.ref (.hole)),(8,.bd (cA ak)),(9,.bd (.agg [.int .i64 R.scope,.bool (ak.Kind==1)])),(28,.bool (ak.Kind==4))] ?_
 refine aT h (fun i1 h=> ?_) (fun i1 h=> ?_)
 ·refine wr [(0,.int .i64 a0),(2,.bd (.an 2 ((List.set a2 (Int.toNat a0) R).map dT))),(3,.ref (bA a3)),(4,.ref (.hole)),(8,.bd (cA ak)),(9,.bd (.agg [.int .i64 (IntKind.i64.wrap (R.scope+1)),.bool (ak.Kind==1)]))] ?_
  exact n7 _ (.inr ⟨_,bq rfl,P3 (IntKind.i64.wrap (R.scope+1)) h⟩)
 ·exact aY (n7 _ (.inr ⟨_,bq rfl,P3 R.scope h⟩))
theorem aze:∀(n:Nat) (a0:Int) (R:cM) (a2:List cM) (a3:bj) (r:Int×(List cM)),tU n a0 R a2 a3=some r→mI aB 187 2 4 [.int .i64 a0,dT R,.bd (.an 2 (a2.map dT)),.ref (bA a3),.ref (.hole)] (.int .i64 r.1) [.hole,.hole,.bd (.an 2 (r.2.map dT)),.hole,.hole]:=by
 intro n
 induction n with
 |zero=>intro a0 R a2 a3 r h;cases(show none=some r from h)
 |succ n ih=>intro a0 R a2 a3 r h;exact aza (tU n) ih a0 R a2 a3 r h
theorem azf (a0:Int) (R:cM) (a2:List cM) (a3:bj) (r:Int×(List cM)) (h:C_ a0 R a2 a3=some r):mI aB 187 2 4 [.int .i64 a0,dT R,.bd (.an 2 (a2.map dT)),.ref (bA a3),.ref (.hole)] (.int .i64 r.1) [.hole,.hole,.bd (.an 2 (r.2.map dT)),.hole,.hole]:=by
 obtain⟨n,h⟩:=dy h
 exact aze n a0 R a2 a3 r h
theorem IH (a0:bj) (r:(List cM)) (h:wH a0=some r):bl aB 141 [bA a0] (.an 2 (r.map dT)) []:=by
 refine bl.WH (fx:=[0]) Hp [.tmp 2] [(0,bA a0)] Tryz.func141 rfl rfl akq (Nat.le_of_ble_eq_true rfl) akp rfl rfl (fun bO al bN=> ?_)
 refine ws _ ?_
 obtain⟨FK,aQ,h⟩:=aE h
 refine cP (bU [(1,.bd (bA a0)),(3,.bd (.an 2 ((List.replicate (Int.toNat (a0.Body.length:Int)) (cM.mk 0 false)).map dT)))] (fun P ai=> ?_) ?_)
 ·simp only[aO.down,simprocAttr,eg,qd,eI,jw,kG,gh,gR,hZ,qg,tD,fS,bA,cA,cc,dT,ey,(eK aQ).1,(eK aQ).2.1,(eK aQ).2.2,eS,List.map_replicate,-Int.reduceNatCast']
  (try simp only[bb.down,simprocAttr,nZ.down,(eK aQ).1,(eK aQ).2.1,(eK aQ).2.2,eS,List.map_replicate,-Int.reduceNatCast']at ai⊢);exact ai
 obtain⟨af,cR,h⟩:=aE h
 refine WE [(3,.bd (.an 2 (af.2.map dT)))] (fun P ai=> ?_) ?_
 ·simp only[aO.down,simprocAttr,Ib.down,(show∀s,e0 aB s 183 [(0,.int .i64 a0.dt)]=some (.agg [.int .i64 a0.dt,.bool false],s)from fun s=>by kernel_rfl),pk]
  refine My [⟨.int .i64 0,false,_,.hole⟩,⟨.agg [.int .i64 a0.dt,.bool false],false,_,.hole⟩,⟨.h 3 [],true,_,_⟩,⟨.h 1 [],false,_,.hole⟩,⟨.ref (.hole),false,_,.hole⟩] (azf 0 (cM.mk a0.dt false) (List.replicate (Int.toNat (a0.Body.length:Int)) (cM.mk 0 false)) a0 _ cR) rfl (by simp only[aO.down,simprocAttr,Ib.down,(show∀s,e0 aB s 183 [(0,.int .i64 a0.dt)]=some (.agg [.int .i64 a0.dt,.bool false],s)from fun s=>by kernel_rfl),pk,ni,lq,ji,fJ,fK,fL,de,or_true,true_or, @b5 _ dT dT (fun _=>NV _), @b5 _ cA cA (fun _=>zY _)]) rfl rfl ((.inr (by simp only[qX,I.dd,I.hY,Bool.and_self, @kB _ dT (fun _=>Xq _)]))) ?_
  simp only[aO.down,simprocAttr,Ib.down,(show∀s,e0 aB s 183 [(0,.int .i64 a0.dt)]=some (.agg [.int .i64 a0.dt,.bool false],s)from fun s=>by kernel_rfl),pk,lr]
  (try simp only[bb.down,simprocAttr,nZ.down,(show∀s,e0 aB s 183 [(0,.int .i64 a0.dt)]=some (.agg [.int .i64 a0.dt,.bool false],s)from fun s=>by kernel_rfl),pk]at ai⊢);exact ai
 refine ws _ ?_
 exact aD (al _ (.inl (aH [.an 2 (af.2.map dT)])))
theorem azg (a0:bJ) (r:Bool) (h:HA a0=some r):bl aB 286 [cA a0] (.bool r) []:=by
 refine bT [0] [.tmp 2] Tryz.func286 akv (fun bO al bN=> ?_)
 refine ws _ ?_
 refine cP (bU [(1,.bd (cA a0)),(3,.bool ((a0.Kind==4)||(a0.Kind==5)))] (fun P ai=> ?_) ?_)
 ·rcases Bool.eq_false_or_eq_true (a0.Kind==4)with e4|e4
  ·simp only[aO.down,simprocAttr,oQ.down,e4]
   (try simp only[bb.down,simprocAttr,nr.down,e4]at ai⊢);exact ai
  ·simp only[aO.down,simprocAttr,oQ.down,e4]
   (try simp only[bb.down,simprocAttr,nr.down,e4]at ai⊢);exact ai
 refine cP (bU [(1,.bd (cA a0)),(3,.bool ((a0.Kind==4)||(a0.Kind==5))),(4,.bool (((a0.Kind==1)||(a0.Kind==3))||(a0.Kind==5)))] (fun P ai=> ?_) ?_)
 ·(rcases Bool.eq_false_or_eq_true (a0.Kind==1)with II|II)<;>(rcases Bool.eq_false_or_eq_true (a0.Kind==3)with IJ|IJ)<;>
   (simp only[aO.down,simprocAttr,oQ.down,II,IJ]
    (try simp only[bb.down,simprocAttr,nr.down,II,IJ]at ai⊢);exact ai)
 obtain⟨af,hq,h⟩:=aE h
 refine cP (bU [(2,.bool (((af&&(((a0.Kind==4)||(a0.Kind==5))||(a0.Number==0)))&&((a0.Kind==1)||(a0.Name==([]:List UInt8))))&&((((a0.Kind==1)||(a0.Kind==3))||(a0.Kind==5))||((a0.cO.length:Int)==0))))] (fun P ai=> ?_) ?_)
 ·(rcases Bool.eq_false_or_eq_true (af)with nq|nq)<;>(rcases Bool.eq_false_or_eq_true (a0.Kind==4)with ss|ss)<;>(rcases Bool.eq_false_or_eq_true (a0.Kind==5)with wS|wS)<;>(rcases Bool.eq_false_or_eq_true (a0.Number==0)with wT|wT)<;>(rcases Bool.eq_false_or_eq_true (a0.Kind==1)with wU|wU)<;>(rcases Bool.eq_false_or_eq_true (a0.Name==([]:List UInt8))with oP|oP)<;>(rcases Bool.eq_false_or_eq_true (a0.Kind==3)with wV|wV)<;>
   (simp only[aO.down,simprocAttr,oQ.down,nq,ss,wS,wT,wU,oP,wV]
    refine e1 (kt a0.Kind 0 5 _ hq) rfl rfl rfl rfl (.inl (by rfl)) ?_
    simp only[aO.down,simprocAttr,oQ.down,nq,ss,wS,wT,wU,oP,wV]
    (try simp only[bb.down,simprocAttr,nr.down,nq,ss,wS,wT,wU,oP,wV]at ai⊢);exact ai)
 exact aD (al _ (.inl (aH [.bool (((af&&(((a0.Kind==4)||(a0.Kind==5))||(a0.Number==0)))&&((a0.Kind==1)||(a0.Name==([]:List UInt8))))&&((((a0.Kind==1)||(a0.Kind==3))||(a0.Kind==5))||((a0.cO.length:Int)==0)))])))
theorem la (a0:List UInt8) (r:Bool) (h:q4 a0=some r):bl aB 213 [.str a0] (.bool r) []:=by
 refine bT [0] [.tmp 2] Tryz.func213 aky (fun bO al bN=> ?_)
 refine ws _ ?_
 obtain⟨af,aQ,h⟩:=aE h
 refine cP (bU [(2,.bool (af&&(!(a0==([116,97,117]:List UInt8)))))] (fun P ai=> ?_) ?_)
 ·rcases Bool.eq_false_or_eq_true (af)with hP|hP
  ·simp only[aO.down,simprocAttr,hP]
   refine e1 (EF a0 _ aQ) rfl rfl rfl rfl (.inl (by rfl)) ?_
   simp only[aO.down,simprocAttr,hP]
   (try simp only[bb.down,simprocAttr,hP]at ai⊢);exact ai
  ·simp only[aO.down,simprocAttr,hP]
   refine e1 (EF a0 _ aQ) rfl rfl rfl rfl (.inl (by rfl)) ?_
   simp only[aO.down,simprocAttr,hP]
   (try simp only[bb.down,simprocAttr,hP]at ai⊢);exact ai
 exact aD (al _ (.inl (aH [.bool (af&&(!(a0==([116,97,117]:List UInt8))))])))
theorem su (a0:Int) (R:Int) (r:Bool) (h:sc a0 R=some r):bl aB 64 [.int .i64 a0,.int .i64 R] (.bool r) []:=by
 refine bT [0,1] [.tmp 4] Tryz.func64 akB (fun bO al bN=> ?_)
 refine ws _ ?_
 obtain⟨af,aQ,h⟩:=aE h
 refine dx (kt a0 0 (IntKind.i64.wrap (R-1)) _ aQ) _ ?_
 exact aD (al _ (.inl (aH [.bool af])))
theorem azh (a0:bJ) (R:List bj) (r:Bool) (h:HB a0 R=some r):bl aB 287 [cA a0,.slice (R.map bA)] (.bool r) []:=by
 refine bT [0,1] [.tmp 4] Tryz.func287 akP (fun bO al bN=> ?_)
 refine ws _ ?_
 refine ws _ ?_
 refine aI al (fun kq gL di aV=> ?_)
 refine ws _ ?_
 refine bH di (fun gO dH cS cN bh=> ?_)
 refine ws _ ?_
 refine aT h (fun o8 h=> ?_) (fun o8 h=> ?_)
 ·refine cP (bU [(4,.bool (((a0.cO.length:Int)==0)||((!(a0.Name==([116,97,117]:List UInt8)))&&(decide ((a0.cO.length:Int)≤2)))))] (fun P ai=> ?_) ?_)
  ·(rcases Bool.eq_false_or_eq_true ((a0.cO.length:Int)==0)with nq|nq)<;>(rcases Bool.eq_false_or_eq_true (a0.Name==([116,97,117]:List UInt8))with ss|ss)<;>
    (simp only[aO.down,simprocAttr,Ad.down,nq,ss]
     (try simp only[bb.down,simprocAttr,iq.down,nq,ss]at ai⊢);exact ai)
  exact aD (cS _ (.inl (aH [.bool (((a0.cO.length:Int)==0)||((!(a0.Name==([116,97,117]:List UInt8)))&&(decide ((a0.cO.length:Int)≤2))))])))
 ·refine ws _ ?_
  refine aT h (fun fg h=> ?_) (fun fg h=> ?_)
  ·refine ws _ ?_
   exact aD (cS _ (.inl (aH [.bool ((a0.cO.length:Int)==1)])))
  ·refine ws _ ?_
   refine aT h (fun eU h=> ?_) (fun eU h=> ?_)
   ·obtain⟨af,ez,h⟩:=aE h
    refine hI ez _ ?_
    exact aD (cS _ (.inl (aH [.bool ((a0.cO.length:Int)==af.dt)])))
   ·refine aY (dH _ (gL _ (.inl ?_)))
    refine ws _ ?_
    exact aD (al _ (.inl (aH [.bool true])))
theorem P4 (a0:Int) (r:Bool) (h:zr a0=some r):bl aB 191 [.int .i64 a0] (.bool r) []:=by
 refine bT [0] [.tmp 2] Tryz.func191 akS (fun bO al bN=> ?_)
 refine ws _ ?_
 obtain⟨af,aQ,h⟩:=aE h
 refine dx (kt a0 0 63 _ aQ) _ ?_
 exact aD (al _ (.inl (aH [.bool af])))
theorem azi (a0:b7) (R:Int) (r:Bool) (h:Da a0 R=some r):bl aB 268 [cc a0,.int .i64 R] (.bool r) []:=by
 refine bT [0,1] [.tmp 4] Tryz.func268 ak8 (fun bO al bN=> ?_)
 refine ws _ ?_
 refine aI al (fun d_ bW bg ak=> ?_)
 refine ws _ ?_
 refine bH bg (fun dK et cd b4 bm=> ?_)
 refine ws _ ?_
 refine aT h (fun ep h=> ?_) (fun ep h=> ?_)
 ·obtain⟨af,hq,h⟩:=aE h
  refine dx (P4 a0.Value _ hq) _ ?_
  exact aD (cd _ (.inl (aH [.bool af])))
 ·refine ws _ ?_
  refine aT h (fun ek h=> ?_) (fun ek h=> ?_)
  ·obtain⟨ak,eo,h⟩:=aE h
   refine dx (kt a0.Value 0 (IntKind.i64.wrap (R-1)) _ eo) _ ?_
   exact aD (cd _ (.inl (aH [.bool ak])))
  ·refine ws _ ?_
   refine aT h (fun gk h=> ?_) (fun gk h=> ?_)
   ·obtain⟨aV,cg,h⟩:=aE h
    refine dx (kt a0.Value 0 8 _ cg) _ ?_
    exact aD (cd _ (.inl (aH [.bool aV])))
   ·refine ws _ ?_
    refine aT h (fun iM h=> ?_) (fun iM h=> ?_)
    ·refine ws _ ?_
     exact aD (cd _ (.inl (aH [.bool (a0.Value==0)])))
    ·refine aY (et _ (bW _ (.inl ?_)))
     refine ws _ ?_
     exact aD (al _ (.inl (aH [.bool false])))
theorem azj (a0:b7) (r:Int) (h:HC a0=some r):bl aB 269 [cc a0] (.int .i64 r) []:=by
 refine bT [0] [.tmp 2] Tryz.func269 alh (fun bO al bN=> ?_)
 refine ws _ ?_
 refine aI al (fun d_ bW bg ak=> ?_)
 refine ws _ ?_
 refine bH bg (fun dK et cd b4 bm=> ?_)
 refine ws _ ?_
 refine aT h (fun ep h=> ?_) (fun ep h=> ?_)
 ·refine ws _ ?_
  exact aD (cd _ (.inl (aH [.int .i64 2])))
 ·refine ws _ ?_
  refine aT h (fun gj h=> ?_) (fun gj h=> ?_)
  ·refine ws _ ?_
   exact aD (cd _ (.inl (aH [.int .i64 1])))
  ·refine aY (et _ (bW _ (.inl ?_)))
   refine ws _ ?_
   exact aD (al _ (.inl (aH [.int .i64 0])))
theorem azk (a0:List b7) (R:Int) (a2:Int) (r:Bool) (h:Dc a0 R a2=some r):bl aB 226 [.slice (a0.map cc),.int .i64 R,.int .i64 a2] (.bool r) []:=by
 refine bT [0,1,2] [.tmp 6] Tryz.func226 alz (fun bO al bN=> ?_)
 refine ws _ ?_
 refine aI al (fun d_ bW bg ak=> ?_)
 obtain⟨af,cF,h⟩:=aE h
 rcases e9 h with⟨cN,h⟩|⟨cN,h⟩
 ·refine im (fk cN) (kt R 0 29 _ cF) _ ?_
  refine jg rfl ?_
  refine ws _ ?_
  exact aD (bg _ (.inl (aH [.bool false])))
 ·obtain⟨ak,b3,h⟩:=aE h
  rcases e9 h with⟨cH,h⟩|⟨cH,h⟩
  ·refine cP (bU [(0,.slice (a0.map cc)),(1,.int .i64 R),(24,.bool true)] (fun P ai=> ?_) ?_)
   ·simp only[aO.down,simprocAttr,nX.down,(bV cN),(fk cH)]
    refine e1 (kt R 0 29 _ cF) rfl rfl rfl rfl (.inl (by rfl)) ?_
    simp only[aO.down,simprocAttr,nX.down,(bV cN),(fk cH)]
    refine hQ (kt a2 1 60 _ b3) rfl rfl rfl rfl (.inl (by rfl)) ?_
    simp only[aO.down,simprocAttr,nX.down,(bV cN),(fk cH)]
    (try simp only[bb.down,simprocAttr,cc,(bV cN),(fk cH)]at ai⊢);exact ai
   refine jg rfl ?_
   refine ws _ ?_
   exact aD (bg _ (.inl (aH [.bool false])))
  ·obtain⟨aV,mu,h⟩:=aE h
   refine cP (bU [(0,.slice (a0.map cc)),(1,.int .i64 R),(24,.bool (!aV))] (fun P ai=> ?_) ?_)
   ·simp only[aO.down,simprocAttr,nX.down,(bV cN),(bV cH)]
    refine e1 (kt R 0 29 _ cF) rfl rfl rfl rfl (.inl (by rfl)) ?_
    simp only[aO.down,simprocAttr,nX.down,(bV cN),(bV cH)]
    refine hQ (kt a2 1 60 _ b3) rfl rfl rfl rfl (.inl (by rfl)) ?_
    simp only[aO.down,simprocAttr,nX.down,(bV cN),(bV cH)]
    refine hQ (kt (a0.length:Int) 1 a2 _ mu) rfl rfl rfl rfl (.inl (by rfl)) ?_
    simp only[aO.down,simprocAttr,nX.down,(bV cN),(bV cH)]
    (try simp only[bb.down,simprocAttr,cc,(bV cN),(bV cH)]at ai⊢);exact ai
   refine aT h (fun k9 h=> ?_) (fun k9 h=> ?_)
   ·refine ws _ ?_
    exact aD (bg _ (.inl (aH [.bool false])))
   ·refine aY (bW _ (.inl ?_))
    refine ws _ ?_
    refine aI al (fun iL n14 eX hV=> ?_)
    refine ws _ ?_
    refine bH eX (fun qm n16 lx kd nn=> ?_)
    have kr:∀(n:Nat) (hF:Int) (nV:Int),tV a0 R n hF nV=some r→dp aB OQ qm (ab [(1,.int .i64 R),(7,.int .i64 hF),(25,.slice (a0.map cc)),(26,.int .i64 (a0.length:Int)),(27,.int .i64 nV)]):=by
     intro m16
     induction m16 with
     |zero=>intro hF nV h;cases(show none=some r from h)
     |succ m16 ks=>
      intro hF nV h
      replace h:Db (tV a0 R m16) a0 R hF nV=some r:=h
      refine dE lx (fun oR n17 jo h0=> ?_)
      refine ws _ ?_
      refine aI jo (fun Pz n19 Et ur=> ?_)
      refine aT h (fun e3 h=> ?_) (fun e3 h=> ?_)
      ·refine aY (n19 _ (.inl ?_))
       refine aI jo (fun azl n21 EG qj=> ?_)
       refine bH EG (fun uF n22 mR qn oO=> ?_)
       obtain⟨bm,ke,h⟩:=aE h
       refine hI ke _ ?_
       refine aI mR (fun EB n25 q9 EC=> ?_)
       rcases e9 h with⟨n3,h⟩|⟨n3,h⟩
       ·refine hI n3 _ ?_
        refine jg rfl ?_
        refine ws _ ?_
        exact aD (q9 _ (.inl (aH [.bool false])))
       ·obtain⟨bh,azm,h⟩:=aE h
        refine cP (bU [(1,.int .i64 R),(7,.int .i64 hF),(9,.bd (cc bm)),(25,.slice (a0.map cc)),(26,.int .i64 (a0.length:Int)),(27,.int .i64 nV),(38,.bool (!bh))] (fun P ai=> ?_) ?_)
        ·simp only[aO.down,simprocAttr,eg,fS,cc,n3]
         refine hQ (azi bm R _ azm) rfl rfl rfl rfl (.inl (by rfl)) ?_
         simp only[aO.down,simprocAttr,eg,fS,cc,n3]
         (try simp only[bb.down,simprocAttr,cc,n3]at ai⊢);exact ai
        refine aT h (fun kc h=> ?_) (fun kc h=> ?_)
        ·refine ws _ ?_
         exact aD (q9 _ (.inl (aH [.bool false])))
        ·refine aY (n25 _ (.inl ?_))
         obtain⟨bM,IK,h⟩:=aE h
         refine axp (azj bm _ IK) _ ?_
         refine n22 _ (n21 _ (.inl ?_))
         refine wr _ ?_
         exact n17 _ (.inr ⟨_,bq rfl,ks (IntKind.i64.wrap (hF+(IntKind.i64.wrap (bM-1)))) (IntKind.i64.wrap (nV+1)) h⟩)
      ·refine dA (ur 0 _ (h0 0 _ (kd _ (n14 _ (.inl ?_)))))
       refine ws _ ?_
       exact aD (al _ (.inl (aH [.bool (hF==0)])))
    obtain⟨n,h⟩:=dy h
    exact dC (.inr ⟨_,bq rfl,kr n 1 0 h⟩)
theorem azn (a0:List b7) (R:cM) (r:Bool) (h:HD a0 R=some r):bl aB 288 [.slice (a0.map cc),.ref (dT R)] (.bool r) []:=by
 refine bT [0,1] [.tmp 3] Tryz.func288 alC (fun bO al bN=> ?_)
 refine ws _ ?_
 obtain⟨af,aQ,h⟩:=aE h
 refine dx (azk a0 R.scope 15 _ aQ) _ ?_
 exact aD (al _ (.inl (aH [.bool (!af)])))
theorem azo (a0:List (List b7)) (R:cM) (r:Int) (h:HE a0 R=some r):bl aB 267 [.slice (a0.map ey),.fn 288 [.ref (dT R)]] (.int .i64 r) []:=by
 refine bT [0,1] [.tmp 4] Tryz.func267 alN (fun bO al bN=> ?_)
 refine ws _ ?_
 refine aI al (fun d_ bW bg ak=> ?_)
 refine ws _ ?_
 refine bH bg (fun dK et cd b4 bm=> ?_)
 have e8:∀(n:Nat) (cY:Int),wI a0 R n cY=some r→dp aB OR dK (ab [(0,.slice (a0.map ey)),(1,.fn 288 [.ref (dT R)]),(7,.int .i64 (a0.length:Int)),(8,.int .i64 cY)]):=by
  intro m6
  induction m6 with
  |zero=>intro cY h;cases(show none=some r from h)
  |succ m6 eZ=>
   intro cY h
   replace h:Dd (wI a0 R m6) a0 R cY=some r:=h
   refine dE cd (fun gO dH cS bh=> ?_)
   refine ws _ ?_
   refine aI cS (fun gZ n7 dY cQ=> ?_)
   refine aT h (fun cH h=> ?_) (fun cH h=> ?_)
   ·refine aY (n7 _ (.inl ?_))
    refine aI cS (fun eh cL cl dh=> ?_)
    refine bH cl (fun eJ n10 cx ek c_=> ?_)
    refine ws _ ?_
    obtain⟨af,dS,h⟩:=aE h
    obtain⟨ak,ee,h⟩:=aE h
    refine im dS (azn af R _ ee) _ ?_
    refine aT h (fun eU h=> ?_) (fun eU h=> ?_)
    ·refine ws _ ?_
     exact aD (cx _ (.inl (aH [.int .i64 cY])))
    ·refine aY (n10 _ (cL _ (.inl ?_)))
     refine wr _ ?_
     exact dH _ (.inr ⟨_,bq rfl,eZ (IntKind.i64.wrap (cY+1)) h⟩)
   ·refine dA (cQ 0 _ (bh 0 _ (b4 _ (bW _ (.inl ?_)))))
    refine ws _ ?_
    exact aD (al _ (.inl (aH [.int .i64 (-1)])))
 obtain⟨n,h⟩:=dy h
 exact dC (.inr ⟨_,bq rfl,e8 n 0 h⟩)
theorem azp (a0:List (List b7)) (R:cM) (r:Bool) (h:De a0 R=some r):bl aB 223 [.slice (a0.map ey),.fn 288 [.ref (dT R)]] (.bool r) []:=by
 refine bT [0,1] [.tmp 4] Tryz.func223 alQ (fun bO al bN=> ?_)
 refine ws _ ?_
 obtain⟨af,aQ,h⟩:=aE h
 refine dx (azo a0 R _ aQ) _ ?_
 exact aD (al _ (.inl (aH [.bool (decide (0≤af))])))
theorem azq (a0:bJ) (R:List bj) (a2:cM) (r:Int) (h:zv a0 R a2=some r):bl aB 259 [cA a0,.slice (R.map bA),dT a2] (.int .i64 r) []:=by
 refine bT [0,1,2] [.tmp 6] Tryz.func259 amb (fun bO al bN=> ?_)
 refine ws _ ?_
 refine aI al (fun d_ bW bg ak=> ?_)
 refine bH bg (fun kq gL di lJ aV=> ?_)
 obtain⟨af,cR,h⟩:=aE h
 refine dx (azg a0 _ cR) _ ?_
 refine aT h (fun ep h=> ?_) (fun ep h=> ?_)
 ·refine ws _ ?_
  exact aD (di _ (.inl (aH [.int .i64 2])))
 ·skip
  have w4:∀(zu:Bool),zt a0 R a2 zu=some r→dc aB OT kq (ab [(1,.slice (R.map bA)),(3,.bd (cA a0)),(5,.bd (dT a2)),(11,.bool zu)]):=by
   intro zu h
   refine aT h (fun cH h=> ?_) (fun cH h=> ?_)
   ·refine ws _ ?_
    exact aD (di _ (.inl (aH [.int .i64 3])))
   ·skip
    have Aw:∀(zs:Bool),tW a0 R a2 zs=some r→dc aB OS kq (ab [(1,.slice (R.map bA)),(3,.bd (cA a0)),(5,.bd (dT a2)),(26,.bool zs)]):=by
     intro zs h
     refine aT h (fun ek h=> ?_) (fun ek h=> ?_)
     ·refine ws _ ?_
      exact aD (di _ (.inl (aH [.int .i64 4])))
     ·obtain⟨ak,dS,h⟩:=aE h
      refine dx (azh a0 R _ dS) _ ?_
      refine aT h (fun gk h=> ?_) (fun gk h=> ?_)
      ·refine ws _ ?_
       exact aD (di _ (.inl (aH [.int .i64 5])))
      ·refine cP (bU [(3,.bd (cA a0)),(5,.bd (dT a2)),(54,.bool ((a0.Kind==5)&&(!a2.behind)))] (fun P ai=> ?_) ?_)
       ·rcases Bool.eq_false_or_eq_true (a0.Kind==5)with uz|uz
        ·simp only[aO.down,simprocAttr,El.down,uz]
         (try simp only[bb.down,simprocAttr,Ae.down,uz]at ai⊢);exact ai
        ·simp only[aO.down,simprocAttr,El.down,uz]
         (try simp only[bb.down,simprocAttr,Ae.down,uz]at ai⊢);exact ai
       refine aT h (fun iM h=> ?_) (fun iM h=> ?_)
       ·refine ws _ ?_
        exact aD (di _ (.inl (aH [.int .i64 6])))
       ·refine cP (bU [(3,.bd (cA a0)),(5,.bd (dT a2)),(63,.bool ((a0.Kind==4)&&(decide (6≤a2.scope))))] (fun P ai=> ?_) ?_)
        ·rcases Bool.eq_false_or_eq_true (a0.Kind==4)with Ax|Ax
         ·simp only[aO.down,simprocAttr,El.down,Ax]
          (try simp only[bb.down,simprocAttr,Ae.down,Ax]at ai⊢);exact ai
         ·simp only[aO.down,simprocAttr,El.down,Ax]
          (try simp only[bb.down,simprocAttr,Ae.down,Ax]at ai⊢);exact ai
        refine aT h (fun qn h=> ?_) (fun qn h=> ?_)
        ·refine ws _ ?_
         exact aD (di _ (.inl (aH [.int .i64 7])))
        ·obtain⟨aV,ml,h⟩:=aE h
         refine cP (bU [(72,.bool aV)] (fun P ai=> ?_) ?_)
         ·simp only[aO.down,simprocAttr,Ic.down]
          refine e1 (azp a0.cO a2 _ ml) rfl rfl (by simp only[aO.down,simprocAttr,Ic.down,fJ,fK,fL,de]<;>rfl) rfl (.inr (by rfl)) ?_
          simp only[aO.down,simprocAttr,Ic.down]
          (try simp only[bb.down,simprocAttr,Ae.down]at ai⊢);exact ai
         refine aT h (fun hK h=> ?_) (fun hK h=> ?_)
         ·refine ws _ ?_
          exact aD (di _ (.inl (aH [.int .i64 8])))
         ·refine aY (gL _ (bW _ (.inl ?_)))
          refine ws _ ?_
          exact aD (al _ (.inl (aH [.int .i64 0])))
    rcases e9 h with⟨kc,h⟩|⟨kc,h⟩
    ·obtain⟨bm,Ay,h⟩:=aE h
     rcases e9 h with⟨oS,h⟩|⟨oS,h⟩
     ·refine kD (bU (K:=ev _) [(1,.slice (R.map bA)),(3,.bd (cA a0)),(5,.bd (dT a2)),(26,.bool true)] (fun P ai=> ?_) ?_)
      ·simp only[aO.down,simprocAttr,ql.down,kc,(fk oS)]
       refine hQ (kt a0.Number 1 7 _ Ay) rfl rfl rfl rfl (.inl (by rfl)) ?_
       simp only[aO.down,simprocAttr,ql.down,kc,(fk oS)]
       (try simp only[bb.down,simprocAttr,nZ.down,kc,(fk oS)]at ai⊢);exact ai
      exact .inr ⟨_,bq rfl,Aw true h⟩
     ·rcases e9 h with⟨jC,h⟩|⟨jC,h⟩
      ·obtain⟨bh,n2,h⟩:=aE h
       refine kD (bU (K:=ev _) [(1,.slice (R.map bA)),(3,.bd (cA a0)),(5,.bd (dT a2)),(26,.bool (!bh))] (fun P ai=> ?_) ?_)
       ·simp only[aO.down,simprocAttr,ql.down,kc,(bV oS),jC]
        refine hQ (kt a0.Number 1 7 _ Ay) rfl rfl rfl rfl (.inl (by rfl)) ?_
        simp only[aO.down,simprocAttr,ql.down,kc,(bV oS),jC]
        refine hQ (su a0.Number (R.length:Int) _ n2) rfl rfl rfl rfl (.inl (by rfl)) ?_
        simp only[aO.down,simprocAttr,ql.down,kc,(bV oS),jC]
        (try simp only[bb.down,simprocAttr,nZ.down,kc,(bV oS),jC]at ai⊢);exact ai
       exact .inr ⟨_,bq rfl,Aw (!bh) h⟩
      ·refine kD (bU (K:=ev _) [(1,.slice (R.map bA)),(3,.bd (cA a0)),(5,.bd (dT a2)),(26,.bool false)] (fun P ai=> ?_) ?_)
       ·simp only[aO.down,simprocAttr,ql.down,kc,(bV oS),jC]
        refine hQ (kt a0.Number 1 7 _ Ay) rfl rfl rfl rfl (.inl (by rfl)) ?_
        simp only[aO.down,simprocAttr,ql.down,kc,(bV oS),jC]
        (try simp only[bb.down,simprocAttr,nZ.down,kc,(bV oS),jC]at ai⊢);exact ai
       exact .inr ⟨_,bq rfl,Aw false h⟩
    ·rcases e9 h with⟨n1,h⟩|⟨n1,h⟩
     ·obtain⟨bM,azr,h⟩:=aE h
      refine kD (bU (K:=ev _) [(1,.slice (R.map bA)),(3,.bd (cA a0)),(5,.bd (dT a2)),(26,.bool (!bM))] (fun P ai=> ?_) ?_)
      ·simp only[aO.down,simprocAttr,ql.down,kc,n1]
       refine hQ (su a0.Number (R.length:Int) _ azr) rfl rfl rfl rfl (.inl (by rfl)) ?_
       simp only[aO.down,simprocAttr,ql.down,kc,n1]
       (try simp only[bb.down,simprocAttr,nZ.down,kc,n1]at ai⊢);exact ai
      exact .inr ⟨_,bq rfl,Aw (!bM) h⟩
     ·refine kD (bU (K:=ev _) [(1,.slice (R.map bA)),(3,.bd (cA a0)),(5,.bd (dT a2)),(26,.bool false)] (fun P ai=> ?_) ?_)
      ·simp only[aO.down,simprocAttr,ql.down,kc,n1]
       (try simp only[bb.down,simprocAttr,nZ.down,kc,n1]at ai⊢);exact ai
      exact .inr ⟨_,bq rfl,Aw false h⟩
  rcases e9 h with⟨qs,h⟩|⟨qs,h⟩
  ·rcases e9 h with⟨sl,h⟩|⟨sl,h⟩
   ·obtain⟨cQ,sr,h⟩:=aE h
    refine kD (bU (K:=ev _) [(1,.slice (R.map bA)),(3,.bd (cA a0)),(5,.bd (dT a2)),(11,.bool (!cQ))] (fun P ai=> ?_) ?_)
    ·simp only[aO.down,simprocAttr,Em.down,qs,sl]
     refine hQ (la a0.Name _ sr) rfl rfl rfl rfl (.inl (by rfl)) ?_
     simp only[aO.down,simprocAttr,Em.down,qs,sl]
     (try simp only[bb.down,simprocAttr,nZ.down,qs,sl]at ai⊢);exact ai
    exact .inr ⟨_,bq rfl,w4 (!cQ) h⟩
   ·refine kD (bU (K:=ev _) [(1,.slice (R.map bA)),(3,.bd (cA a0)),(5,.bd (dT a2)),(11,.bool false)] (fun P ai=> ?_) ?_)
    ·simp only[aO.down,simprocAttr,Em.down,qs,sl]
     (try simp only[bb.down,simprocAttr,nZ.down,qs,sl]at ai⊢);exact ai
    exact .inr ⟨_,bq rfl,w4 false h⟩
  ·refine kD (bU (K:=ev _) [(1,.slice (R.map bA)),(3,.bd (cA a0)),(5,.bd (dT a2)),(11,.bool false)] (fun P ai=> ?_) ?_)
   ·simp only[aO.down,simprocAttr,Em.down,qs]
    (try simp only[bb.down,simprocAttr,nZ.down,qs]at ai⊢);exact ai
   exact .inr ⟨_,bq rfl,w4 false h⟩
theorem azs (a0:List bj) (R:bj) (r:Int×Int) (h:zx a0 R=some r):bl aB 211 [.slice (a0.map bA),bA R] (.tuple [.int .i64 r.1,.int .i64 r.2]) []:=by
 refine bT [0,1] [.tmp 4,.tmp 5] Tryz.func211 amr (fun bO al bN=> ?_)
 refine ws _ ?_
 refine aI al (fun d_ bW bg ak=> ?_)
 obtain⟨af,cF,h⟩:=aE h
 rcases e9 h with⟨cN,h⟩|⟨cN,h⟩
 ·refine fj rfl (fi [(0,.slice (a0.map bA)),(3,.bd (bA R)),(22,.bool true)] (fun P ai=> ?_) ?_)
  ·simp only[cD.down,simprocAttr,qk.down,(fk cN)]
   refine hf (kt (R.Body.length:Int) 1 20 _ cF) rfl rfl rfl rfl (.inl (by rfl)) ?_
   simp only[cD.down,simprocAttr,qk.down,(fk cN)]
   refine⟨fa (by kernel_rfl),?_⟩
   (try simp only[bb.down,simprocAttr,iq.down,(fk cN)]at ai⊢);exact ai
  refine jg rfl ?_
  refine ws _ ?_
  exact aD (bg _ (.inl (aH [.int .i64 0,.int .i64 1])))
 ·obtain⟨ak,b3,h⟩:=aE h
  refine fj rfl (fi [(0,.slice (a0.map bA)),(3,.bd (bA R)),(22,.bool (ak !=(R.Body.length:Int)))] (fun P ai=> ?_) ?_)
  ·simp only[cD.down,simprocAttr,qk.down,(bV cN)]
   refine hf (kt (R.Body.length:Int) 1 20 _ cF) rfl rfl rfl rfl (.inl (by rfl)) ?_
   simp only[cD.down,simprocAttr,qk.down,(bV cN)]
   refine kA (ay_ R 0 _ b3) rfl rfl rfl rfl (.inl (by rfl)) ?_
   simp only[cD.down,simprocAttr,qk.down,(bV cN)]
   refine⟨fa (by kernel_rfl),?_⟩
   (try simp only[bb.down,simprocAttr,iq.down,(bV cN)]at ai⊢);exact ai
  refine aT h (fun cH h=> ?_) (fun cH h=> ?_)
  ·refine ws _ ?_
   exact aD (bg _ (.inl (aH [.int .i64 0,.int .i64 1])))
  ·refine aY (bW _ (.inl ?_))
   obtain⟨aV,l4,h⟩:=aE h
   refine dx (IH R _ l4) _ ?_
   refine aI al (fun jZ n12 ib iW=> ?_)
   refine ws _ ?_
   refine bH ib (fun iL n14 eX gk hV=> ?_)
   have kr:∀(n:Nat) (lS:Int),sd a0 R aV n lS=some r→dp aB OU iL (ab [(0,.slice (a0.map bA)),(6,.an 2 (aV.map dT)),(26,.slice (R.Body.map cA)),(27,.int .i64 (R.Body.length:Int)),(28,.int .i64 lS)]):=by
    intro m16
    induction m16 with
    |zero=>intro lS h;cases(show none=some r from h)
    |succ m16 ks=>
     intro lS h
     replace h:zw (sd a0 R aV m16) a0 R aV lS=some r:=h
     refine dE eX (fun mj n15 hz jO=> ?_)
     refine ws _ ?_
     refine aI hz (fun oR n17 jo h0=> ?_)
     refine aT h (fun iM h=> ?_) (fun iM h=> ?_)
     ·refine aY (n17 _ (.inl ?_))
      refine aI hz (fun Pz n19 Et ur=> ?_)
      refine bH Et (fun axS n20 Ih e3 zV=> ?_)
      obtain⟨bm,gl,h⟩:=aE h
      refine hI gl _ ?_
      obtain⟨bh,ke,h⟩:=aE h
      obtain⟨bM,ml,h⟩:=aE h
      refine fj rfl (fi [(0,.slice (a0.map bA)),(6,.an 2 (aV.map dT)),(7,.int .i64 lS),(9,.int .i64 bM),(26,.slice (R.Body.map cA)),(27,.int .i64 (R.Body.length:Int)),(28,.int .i64 lS)] (fun P ai=> ?_) ?_)
      ·simp only[cD.down,simprocAttr,eg,qd,eI,gh,gR,hZ,qg,tD,fS,bA,cA,cc,dT,ey,ke,cG ke]
       refine hf (azq bm a0 bh _ ml) rfl rfl rfl rfl (.inl (by rfl)) ?_
       simp only[cD.down,simprocAttr,eg,qd,eI,gh,gR,hZ,qg,tD,fS,bA,cA,cc,dT,ey,ke,cG ke]
       refine⟨fa (by kernel_rfl),?_⟩
       (try simp only[bb.down,simprocAttr,nZ.down,ke,cG ke]at ai⊢);exact ai
      refine ws _ ?_
      refine aT h (fun n3 h=> ?_) (fun n3 h=> ?_)
      ·refine ws _ ?_
       exact aD (Ih _ (.inl (aH [.int .i64 lS,.int .i64 bM])))
      ·refine aY (n20 _ (n19 _ (.inl ?_)))
       refine wr _ ?_
       exact n15 _ (.inr ⟨_,bq rfl,ks (IntKind.i64.wrap (lS+1)) h⟩)
     ·refine dA (h0 0 _ (jO 0 _ (gk _ (n12 _ (.inl ?_)))))
      refine ws _ ?_
      exact aD (al _ (.inl (aH [.int .i64 0,.int .i64 0])))
   obtain⟨n,h⟩:=dy h
   exact dC (.inr ⟨_,bq rfl,kr n 0 h⟩)
theorem azt (a0:List bj) (r:Bool) (h:Dg a0=some r):bl aB 156 [.slice (a0.map bA)] (.bool r) []:=by
 refine bT [0] [.tmp 2] Tryz.func156 amJ (fun bO al bN=> ?_)
 refine ws _ ?_
 refine aI al (fun d_ bW bg ak=> ?_)
 obtain⟨af,cF,h⟩:=aE h
 rcases e9 h with⟨cN,h⟩|⟨cN,h⟩
 ·refine im (fk cN) (kt (a0.length:Int) 1 4 _ cF) _ ?_
  refine jg rfl ?_
  refine ws _ ?_
  exact aD (bg _ (.inl (aH [.bool false])))
 ·obtain⟨ak,b3,h⟩:=aE h
  refine cP (bU [(0,.slice (a0.map bA)),(15,.bool (!ak))] (fun P ai=> ?_) ?_)
  ·simp only[aO.down,simprocAttr,jn.down,(bV cN)]
   refine e1 (kt (a0.length:Int) 1 4 _ cF) rfl rfl rfl rfl (.inl (by rfl)) ?_
   simp only[aO.down,simprocAttr,jn.down,(bV cN)]
   refine hQ (ay5 a0 _ b3) rfl rfl rfl rfl (.inl (by rfl)) ?_
   simp only[aO.down,simprocAttr,jn.down,(bV cN)]
   (try simp only[bb.down,simprocAttr,iq.down,(bV cN)]at ai⊢);exact ai
  refine aT h (fun cH h=> ?_) (fun cH h=> ?_)
  ·refine ws _ ?_
   exact aD (bg _ (.inl (aH [.bool false])))
  ·refine aY (bW _ (.inl ?_))
   refine aI al (fun eJ n10 cx c_=> ?_)
   refine ws _ ?_
   refine bH cx (fun jZ n12 ib fg iW=> ?_)
   have hJ:∀(n:Nat) (mM:Int),tX a0 n mM=some r→dp aB OV jZ (ab [(0,.slice (a0.map bA)),(16,.slice (a0.map bA)),(17,.int .i64 (a0.length:Int)),(18,.int .i64 mM)]):=by
    intro m14
    induction m14 with
    |zero=>intro mM h;cases(show none=some r from h)
    |succ m14 hh=>
     intro mM h
     replace h:Df (tX a0 m14) a0 mM=some r:=h
     refine dE ib (fun k_ n13 fY jm=> ?_)
     refine ws _ ?_
     refine aI fY (fun mj n15 hz jO=> ?_)
     refine aT h (fun kd h=> ?_) (fun kd h=> ?_)
     ·refine aY (n15 _ (.inl ?_))
      refine aI fY (fun oR n17 jo h0=> ?_)
      refine bH jo (fun Aq n18 qp iM oN=> ?_)
      obtain⟨aV,i6,h⟩:=aE h
      refine hI i6 _ ?_
      refine aI qp (fun azl n21 EG qj=> ?_)
      obtain⟨bm,n0,h⟩:=aE h
      rcases e9 h with⟨i1,h⟩|⟨i1,h⟩
      ·refine fj rfl (fi [(0,.slice (a0.map bA)),(4,.bd (bA aV)),(16,.slice (a0.map bA)),(17,.int .i64 (a0.length:Int)),(18,.int .i64 mM),(35,.bool true)] (fun P ai=> ?_) ?_)
       ·simp only[cD.down,simprocAttr,jn.down,(fk i1)]
        refine hf (EF aV.Name _ n0) rfl rfl rfl rfl (.inl (by rfl)) ?_
        simp only[cD.down,simprocAttr,jn.down,(fk i1)]
        refine⟨fa (by kernel_rfl),?_⟩
        (try simp only[bb.down,simprocAttr,iq.down,(fk i1)]at ai⊢);exact ai
       refine jg rfl ?_
       refine ws _ ?_
       exact aD (EG _ (.inl (aH [.bool false])))
      ·obtain⟨bh,EH,h⟩:=aE h
       obtain⟨bM,sk,h⟩:=aE h
       refine fj rfl (fi [(0,.slice (a0.map bA)),(4,.bd (bA aV)),(16,.slice (a0.map bA)),(17,.int .i64 (a0.length:Int)),(18,.int .i64 mM),(35,.bool (decide (0≤bM)))] (fun P ai=> ?_) ?_)
       ·simp only[cD.down,simprocAttr,jn.down,(bV i1),EH, @kC _ bA 3 (fun _=>rfl)]
        refine hf (EF aV.Name _ n0) rfl rfl rfl rfl (.inl (by rfl)) ?_
        simp only[cD.down,simprocAttr,jn.down,(bV i1),EH, @kC _ bA 3 (fun _=>rfl)]
        refine kA (ay9 bh aV.Name _ sk) rfl rfl rfl rfl (.inl (by rfl)) ?_
        simp only[cD.down,simprocAttr,jn.down,(bV i1),EH, @kC _ bA 3 (fun _=>rfl)]
        refine⟨fa (by kernel_rfl),?_⟩
        (try simp only[bb.down,simprocAttr,iq.down,(bV i1),EH, @kC _ bA 3 (fun _=>rfl)]at ai⊢);exact ai
       refine aT h (fun As h=> ?_) (fun As h=> ?_)
       ·refine ws _ ?_
        exact aD (EG _ (.inl (aH [.bool false])))
       ·refine aY (n21 _ (.inl ?_))
        obtain⟨cQ,Ay,h⟩:=aE h
        refine dx (azs a0 aV _ Ay) _ ?_
        refine ws _ ?_
        refine aT h (fun jC h=> ?_) (fun jC h=> ?_)
        ·refine ws _ ?_
         exact aD (qp _ (.inl (aH [.bool false])))
        ·refine aY (n18 _ (n17 _ (.inl ?_)))
         refine wr _ ?_
         exact n13 _ (.inr ⟨_,bq rfl,hh (IntKind.i64.wrap (mM+1)) h⟩)
     ·refine dA (jO 0 _ (jm 0 _ (fg _ (n10 _ (.inl ?_)))))
      refine ws _ ?_
      exact aD (al _ (.inl (aH [.bool true])))
   obtain⟨n,h⟩:=dy h
   exact dC (.inr ⟨_,bq rfl,hJ n 0 h⟩)
theorem azu (a0:Int) (r:Bool) (h:HF a0=some r):bl aB 190 [.int .i64 a0] (.bool r) []:=by
 refine bT [0] [.tmp 2] Tryz.func190 amM (fun bO al bN=> ?_)
 refine ws _ ?_
 obtain⟨af,aQ,h⟩:=aE h
 refine dx (P4 a0 _ aQ) _ ?_
 exact aD (al _ (.inl (aH [.bool (!af)])))
theorem azv (a0:List Int) (r:Int) (h:HG a0=some r):bl aB 246 [.slice (a0.map bs),.fn 190 []] (.int .i64 r) []:=by
 refine bT [0,1] [.tmp 4] Tryz.func246 amX (fun bO al bN=> ?_)
 refine ws _ ?_
 refine aI al (fun d_ bW bg ak=> ?_)
 refine ws _ ?_
 refine bH bg (fun dK et cd b4 bm=> ?_)
 have e8:∀(n:Nat) (cY:Int),wJ a0 n cY=some r→dp aB OW dK (ab [(0,.slice (a0.map bs)),(1,.fn 190 []),(7,.int .i64 (a0.length:Int)),(8,.int .i64 cY)]):=by
  intro m6
  induction m6 with
  |zero=>intro cY h;cases(show none=some r from h)
  |succ m6 eZ=>
   intro cY h
   replace h:Dh (wJ a0 m6) a0 cY=some r:=h
   refine dE cd (fun gO dH cS bh=> ?_)
   refine ws _ ?_
   refine aI cS (fun gZ n7 dY cQ=> ?_)
   refine aT h (fun cH h=> ?_) (fun cH h=> ?_)
   ·refine aY (n7 _ (.inl ?_))
    refine aI cS (fun eh cL cl dh=> ?_)
    refine bH cl (fun eJ n10 cx ek c_=> ?_)
    refine ws _ ?_
    obtain⟨af,dS,h⟩:=aE h
    obtain⟨ak,ee,h⟩:=aE h
    refine im dS (azu af _ ee) _ ?_
    refine aT h (fun eU h=> ?_) (fun eU h=> ?_)
    ·refine ws _ ?_
     exact aD (cx _ (.inl (aH [.int .i64 cY])))
    ·refine aY (n10 _ (cL _ (.inl ?_)))
     refine wr _ ?_
     exact dH _ (.inr ⟨_,bq rfl,eZ (IntKind.i64.wrap (cY+1)) h⟩)
   ·refine dA (cQ 0 _ (bh 0 _ (b4 _ (bW _ (.inl ?_)))))
    refine ws _ ?_
    exact aD (al _ (.inl (aH [.int .i64 (-1)])))
 obtain⟨n,h⟩:=dy h
 exact dC (.inr ⟨_,bq rfl,e8 n 0 h⟩)
theorem azw (a0:List Int) (r:Bool) (h:HH a0=some r):bl aB 189 [.slice (a0.map bs),.fn 190 []] (.bool r) []:=by
 refine bT [0,1] [.tmp 4] Tryz.func189 am0 (fun bO al bN=> ?_)
 refine ws _ ?_
 obtain⟨af,aQ,h⟩:=aE h
 refine dx (azv a0 _ aQ) _ ?_
 exact aD (al _ (.inl (aH [.bool (decide (0≤af))])))
theorem P5 (a0:List Int) (r:Bool) (h:zy a0=some r):bl aB 142 [.slice (a0.map bs)] (.bool r) []:=by
 refine bT [0] [.tmp 2] Tryz.func142 am3 (fun bO al bN=> ?_)
 refine ws _ ?_
 obtain⟨af,aQ,h⟩:=aE h
 refine dx (azw a0 _ aQ) _ ?_
 exact aD (al _ (.inl (aH [.bool (!af)])))
theorem azx (a0:List bj) (R:dk) (r:Bool) (h:Di a0 R=some r):bl aB 159 [.slice (a0.map bA),e2 R] (.bool r) []:=by
 refine bT [0,1] [.tmp 4] Tryz.func159 am6 (fun bO al bN=> ?_)
 refine ws _ ?_
 obtain⟨af,aQ,h⟩:=aE h
 rcases e9 h with⟨b4,h⟩|⟨b4,h⟩
 ·obtain⟨ak,cR,h⟩:=aE h
  rcases e9 h with⟨ep,h⟩|⟨ep,h⟩
  ·obtain⟨aV,b3,h⟩:=aE h
   refine fj rfl (fi [(4,.bool aV)] (fun P ai=> ?_) ?_)
   ·simp only[cD.down,simprocAttr,uD.down,b4,cR,ep]
    refine hf (su R.cm (a0.length:Int) _ aQ) rfl rfl rfl rfl (.inl (by rfl)) ?_
    simp only[cD.down,simprocAttr,uD.down,b4,cR,ep]
    refine kA (P5 R.bS _ b3) rfl rfl rfl rfl (.inl (by rfl)) ?_
    simp only[cD.down,simprocAttr,uD.down,b4,cR,ep]
    refine⟨fa (by kernel_rfl),?_⟩
    (try simp only[bb.down,simprocAttr,Ie.down,b4,cR,ep]at ai⊢);exact ai
   exact aD (al _ (.inl (aH [.bool aV])))
  ·refine fj rfl (fi [(4,.bool false)] (fun P ai=> ?_) ?_)
   ·simp only[cD.down,simprocAttr,uD.down,b4,cR,ep]
    refine hf (su R.cm (a0.length:Int) _ aQ) rfl rfl rfl rfl (.inl (by rfl)) ?_
    simp only[cD.down,simprocAttr,uD.down,b4,cR,ep]
    refine⟨fa (by kernel_rfl),?_⟩
    (try simp only[bb.down,simprocAttr,Ie.down,b4,cR,ep]at ai⊢);exact ai
   exact aD (al _ (.inl (aH [.bool false])))
 ·refine fj rfl (fi [(4,.bool false)] (fun P ai=> ?_) ?_)
  ·simp only[cD.down,simprocAttr,uD.down,b4]
   refine hf (su R.cm (a0.length:Int) _ aQ) rfl rfl rfl rfl (.inl (by rfl)) ?_
   simp only[cD.down,simprocAttr,uD.down,b4]
   refine⟨fa (by kernel_rfl),?_⟩
   (try simp only[bb.down,simprocAttr,Ie.down,b4]at ai⊢);exact ai
  exact aD (al _ (.inl (aH [.bool false])))
theorem azy (a0:dk) (R:ea) (r:Bool) (h:HI a0 R=some r):bl aB 158 [e2 a0,.ref (gz R)] (.bool r) []:=by
 refine bT [0,1] [.tmp 3] Tryz.func158 am9 (fun bO al bN=> ?_)
 refine ws _ ?_
 obtain⟨af,aQ,h⟩:=aE h
 refine dx (azx R.ew a0 _ aQ) _ ?_
 exact aD (al _ (.inl (aH [.bool (!af)])))
theorem azz (a0:List dk) (R:ea) (r:Int) (h:HJ a0 R=some r):bl aB 212 [.slice (a0.map e2),.fn 158 [.ref (gz R)]] (.int .i64 r) []:=by
 refine bT [0,1] [.tmp 4] Tryz.func212 ank (fun bO al bN=> ?_)
 refine ws _ ?_
 refine aI al (fun d_ bW bg ak=> ?_)
 refine ws _ ?_
 refine bH bg (fun dK et cd b4 bm=> ?_)
 have e8:∀(n:Nat) (cY:Int),wK a0 R n cY=some r→dp aB OX dK (ab [(0,.slice (a0.map e2)),(1,.fn 158 [.ref (gz R)]),(7,.int .i64 (a0.length:Int)),(8,.int .i64 cY)]):=by
  intro m6
  induction m6 with
  |zero=>intro cY h;cases(show none=some r from h)
  |succ m6 eZ=>
   intro cY h
   replace h:Dj (wK a0 R m6) a0 R cY=some r:=h
   refine dE cd (fun gO dH cS bh=> ?_)
   refine ws _ ?_
   refine aI cS (fun gZ n7 dY cQ=> ?_)
   refine aT h (fun cH h=> ?_) (fun cH h=> ?_)
   ·refine aY (n7 _ (.inl ?_))
    refine aI cS (fun eh cL cl dh=> ?_)
    refine bH cl (fun eJ n10 cx ek c_=> ?_)
    refine ws _ ?_
    obtain⟨af,dS,h⟩:=aE h
    obtain⟨ak,ee,h⟩:=aE h
    refine im dS (azy af R _ ee) _ ?_
    refine aT h (fun eU h=> ?_) (fun eU h=> ?_)
    ·refine ws _ ?_
     exact aD (cx _ (.inl (aH [.int .i64 cY])))
    ·refine aY (n10 _ (cL _ (.inl ?_)))
     refine wr _ ?_
     exact dH _ (.inr ⟨_,bq rfl,eZ (IntKind.i64.wrap (cY+1)) h⟩)
   ·refine dA (cQ 0 _ (bh 0 _ (b4 _ (bW _ (.inl ?_)))))
    refine ws _ ?_
    exact aD (al _ (.inl (aH [.int .i64 (-1)])))
 obtain⟨n,h⟩:=dy h
 exact dC (.inr ⟨_,bq rfl,e8 n 0 h⟩)
theorem azA (a0:List dk) (R:ea) (r:Bool) (h:Dk a0 R=some r):bl aB 157 [.slice (a0.map e2),.fn 158 [.ref (gz R)]] (.bool r) []:=by
 refine bT [0,1] [.tmp 4] Tryz.func157 ann (fun bO al bN=> ?_)
 refine ws _ ?_
 obtain⟨af,aQ,h⟩:=aE h
 refine dx (azz a0 R _ aQ) _ ?_
 exact aD (al _ (.inl (aH [.bool (decide (0≤af))])))
theorem P6 (a0:List UInt8) (r:Bool) (h:cmp_isNaN_string a0=some r):bl aB 299 [.str a0] (.bool r) []:=by
 refine bT [0] [.tmp 2] Tryz.func299 anq (fun bO al bN=> ?_)
 refine ws _ ?_
 refine ws _ ?_
 exact aD (al _ (.inl (aH [.bool false])))
theorem azB (a0:List UInt8) (R:List UInt8) (r:Int) (h:Dl a0 R=some r):bl aB 289 [.str a0,.str R] (.int .i64 r) []:=by
 refine bT [0,1] [.tmp 4] Tryz.func289 anL (fun bO al bN=> ?_)
 refine ws _ ?_
 obtain⟨af,aQ,h⟩:=aE h
 refine dx (P6 a0 _ aQ) _ ?_
 obtain⟨ak,cR,h⟩:=aE h
 refine dx (P6 R _ cR) _ ?_
 refine aI al (fun eY n6 dj bM=> ?_)
 refine ws _ ?_
 refine aT h (fun cH h=> ?_) (fun cH h=> ?_)
 ·refine aI dj (fun eh cL cl dh=> ?_)
  refine ws _ ?_
  refine aT h (fun k9 h=> ?_) (fun k9 h=> ?_)
  ·refine ws _ ?_
   exact aD (cl _ (.inl (aH [.int .i64 0])))
  ·refine aY (cL _ (.inl ?_))
   refine ws _ ?_
   exact aD (dj _ (.inl (aH [.int .i64 (-1)])))
 ·refine aY (n6 _ (.inl ?_))
  refine aI al (fun iL n14 eX hV=> ?_)
  refine ws _ ?_
  refine aT h (fun kd h=> ?_) (fun kd h=> ?_)
  ·refine ws _ ?_
   exact aD (eX _ (.inl (aH [.int .i64 1])))
  ·refine aY (n14 _ (.inl ?_))
   refine aI al (fun Aq n18 qp oN=> ?_)
   refine ws _ ?_
   refine aT h (fun e3 h=> ?_) (fun e3 h=> ?_)
   ·refine ws _ ?_
    exact aD (qp _ (.inl (aH [.int .i64 (-1)])))
   ·refine aY (n18 _ (.inl ?_))
    refine aI al (fun uF n22 mR oO=> ?_)
    refine ws _ ?_
    refine aT h (fun i1 h=> ?_) (fun i1 h=> ?_)
    ·refine ws _ ?_
     exact aD (mR _ (.inl (aH [.int .i64 1])))
    ·refine aY (n22 _ (.inl ?_))
     refine ws _ ?_
     exact aD (al _ (.inl (aH [.int .i64 0])))
theorem azC (a0:List (List UInt8)) (R:List (List UInt8)) (r:Int) (h:Dm a0 R=some r):bl aB 260 [.slice (a0.map bE),.slice (R.map bE)] (.int .i64 r) []:=by
 refine bT [0,1] [.tmp 4] Tryz.func260 an4 (fun bO al bN=> ?_)
 refine ws _ ?_
 refine aI al (fun d_ bW bg ak=> ?_)
 refine ws _ ?_
 refine bH bg (fun dK et cd b4 bm=> ?_)
 have e8:∀(n:Nat) (iJ:Int),zz a0 R n iJ=some r→dp aB OY dK (ab [(0,.slice (a0.map bE)),(1,.slice (R.map bE)),(9,.slice (a0.map bE)),(10,.int .i64 (a0.length:Int)),(11,.int .i64 iJ)]):=by
  intro m6
  induction m6 with
  |zero=>intro iJ h;cases(show none=some r from h)
  |succ m6 eZ=>
   intro iJ h
   replace h:HK (zz a0 R m6) a0 R iJ=some r:=h
   refine dE cd (fun gO dH cS bh=> ?_)
   refine ws _ ?_
   refine aI cS (fun gZ n7 dY cQ=> ?_)
   refine aT h (fun cH h=> ?_) (fun cH h=> ?_)
   ·refine aY (n7 _ (.inl ?_))
    refine aI cS (fun eh cL cl dh=> ?_)
    refine bH cl (fun eJ n10 cx ek c_=> ?_)
    obtain⟨af,eo,h⟩:=aE h
    refine hI eo _ ?_
    refine aI cx (fun k_ n13 fY jm=> ?_)
    refine ws _ ?_
    refine aT h (fun eU h=> ?_) (fun eU h=> ?_)
    ·refine ws _ ?_
     exact aD (fY _ (.inl (aH [.int .i64 1])))
    ·refine aY (n13 _ (.inl ?_))
     obtain⟨ak,eQ,h⟩:=aE h
     refine hI eQ _ ?_
     obtain⟨aV,i6,h⟩:=aE h
     refine dx (azB af ak _ i6) _ ?_
     refine ws _ ?_
     refine aT h (fun qn h=> ?_) (fun qn h=> ?_)
     ·refine ws _ ?_
      exact aD (cx _ (.inl (aH [.int .i64 aV])))
     ·refine aY (n10 _ (cL _ (.inl ?_)))
      refine wr _ ?_
      exact dH _ (.inr ⟨_,bq rfl,eZ (IntKind.i64.wrap (iJ+1)) h⟩)
   ·refine dA (cQ 0 _ (bh 0 _ (b4 _ (bW _ (.inl ?_)))))
    refine aI al (fun EB n25 q9 EC=> ?_)
    refine ws _ ?_
    refine aT h (fun n3 h=> ?_) (fun n3 h=> ?_)
    ·refine ws _ ?_
     exact aD (q9 _ (.inl (aH [.int .i64 (-1)])))
    ·refine aY (n25 _ (.inl ?_))
     refine ws _ ?_
     exact aD (al _ (.inl (aH [.int .i64 0])))
 obtain⟨n,h⟩:=dy h
 exact dC (.inr ⟨_,bq rfl,e8 n 0 h⟩)
theorem azD (a0:cb) (R:cb) (r:Int) (h:Dn a0 R=some r):bl aB 214 [bz a0,bz R] (.int .i64 r) []:=by
 refine bT [0,1] [.tmp 4] Tryz.func214 an7 (fun bO al bN=> ?_)
 refine ws _ ?_
 obtain⟨af,aQ,h⟩:=aE h
 refine cP (bU [(4,.int .i64 af)] (fun P ai=> ?_) ?_)
 ·simp only[aO.down,simprocAttr,eI,k4,nk,bz,bE,(show∀s,dG aB s 25 2 [(0,.str a0.Left),(1,.str a0.cp)]=some (.an 1 [.str a0.Left,.str a0.cp],s)from fun s=>by kernel_rfl),(show∀s,dG aB s 25 2 [(0,.str R.Left),(1,.str R.cp)]=some (.an 1 [.str R.Left,.str R.cp],s)from fun s=>by kernel_rfl)]
  refine e1 (azC [a0.Left,a0.cp] [R.Left,R.cp] _ aQ) rfl rfl (by simp only[aO.down,simprocAttr,eI,k4,nk,bz,bE,(show∀s,dG aB s 25 2 [(0,.str a0.Left),(1,.str a0.cp)]=some (.an 1 [.str a0.Left,.str a0.cp],s)from fun s=>by kernel_rfl),(show∀s,dG aB s 25 2 [(0,.str R.Left),(1,.str R.cp)]=some (.an 1 [.str R.Left,.str R.cp],s)from fun s=>by kernel_rfl),fJ,fK,fL,de,I.shares, @b5 _ bE bE (fun _=>iK _), @b5 _ bE bE (fun _=>iK _)]<;>rfl) rfl (.inr (by rfl)) ?_
  simp only[aO.down,simprocAttr,eI,k4,nk,bz,bE,(show∀s,dG aB s 25 2 [(0,.str a0.Left),(1,.str a0.cp)]=some (.an 1 [.str a0.Left,.str a0.cp],s)from fun s=>by kernel_rfl),(show∀s,dG aB s 25 2 [(0,.str R.Left),(1,.str R.cp)]=some (.an 1 [.str R.Left,.str R.cp],s)from fun s=>by kernel_rfl)]
  (try simp only[bb.down,simprocAttr,bz,bE,(show∀s,dG aB s 25 2 [(0,.str a0.Left),(1,.str a0.cp)]=some (.an 1 [.str a0.Left,.str a0.cp],s)from fun s=>by kernel_rfl),(show∀s,dG aB s 25 2 [(0,.str R.Left),(1,.str R.cp)]=some (.an 1 [.str R.Left,.str R.cp],s)from fun s=>by kernel_rfl)]at ai⊢);exact ai
 exact aD (al _ (.inl (aH [.int .i64 af])))
theorem azE (a0:cb) (R:cb) (r:Bool) (h:HL a0 R=some r):bl aB 216 [bz a0,.ref (bz R)] (.bool r) []:=by
 refine bT [0,1] [.tmp 3] Tryz.func216 an_ (fun bO al bN=> ?_)
 refine ws _ ?_
 refine cP (bU [(3,.bool ((a0.Left==R.Result)||(a0.cp==R.Result)))] (fun P ai=> ?_) ?_)
 ·rcases Bool.eq_false_or_eq_true (a0.Left==R.Result)with e4|e4
  ·simp only[aO.down,simprocAttr,nY.down,e4]
   (try simp only[bb.down,simprocAttr,bz,e4]at ai⊢);exact ai
  ·simp only[aO.down,simprocAttr,nY.down,e4]
   (try simp only[bb.down,simprocAttr,bz,e4]at ai⊢);exact ai
 exact aD (al _ (.inl (aH [.bool ((a0.Left==R.Result)||(a0.cp==R.Result))])))
theorem azF (a0:List cb) (R:cb) (r:Int) (h:HM a0 R=some r):bl aB 261 [.slice (a0.map bz),.fn 216 [.ref (bz R)]] (.int .i64 r) []:=by
 refine bT [0,1] [.tmp 4] Tryz.func261 aok (fun bO al bN=> ?_)
 refine ws _ ?_
 refine aI al (fun d_ bW bg ak=> ?_)
 refine ws _ ?_
 refine bH bg (fun dK et cd b4 bm=> ?_)
 have e8:∀(n:Nat) (cY:Int),wL a0 R n cY=some r→dp aB OZ dK (ab [(0,.slice (a0.map bz)),(1,.fn 216 [.ref (bz R)]),(7,.int .i64 (a0.length:Int)),(8,.int .i64 cY)]):=by
  intro m6
  induction m6 with
  |zero=>intro cY h;cases(show none=some r from h)
  |succ m6 eZ=>
   intro cY h
   replace h:Dp (wL a0 R m6) a0 R cY=some r:=h
   refine dE cd (fun gO dH cS bh=> ?_)
   refine ws _ ?_
   refine aI cS (fun gZ n7 dY cQ=> ?_)
   refine aT h (fun cH h=> ?_) (fun cH h=> ?_)
   ·refine aY (n7 _ (.inl ?_))
    refine aI cS (fun eh cL cl dh=> ?_)
    refine bH cl (fun eJ n10 cx ek c_=> ?_)
    refine ws _ ?_
    obtain⟨af,dS,h⟩:=aE h
    obtain⟨ak,ee,h⟩:=aE h
    refine im dS (azE af R _ ee) _ ?_
    refine aT h (fun eU h=> ?_) (fun eU h=> ?_)
    ·refine ws _ ?_
     exact aD (cx _ (.inl (aH [.int .i64 cY])))
    ·refine aY (n10 _ (cL _ (.inl ?_)))
     refine wr _ ?_
     exact dH _ (.inr ⟨_,bq rfl,eZ (IntKind.i64.wrap (cY+1)) h⟩)
   ·refine dA (cQ 0 _ (bh 0 _ (b4 _ (bW _ (.inl ?_)))))
    refine ws _ ?_
    exact aD (al _ (.inl (aH [.int .i64 (-1)])))
 obtain⟨n,h⟩:=dy h
 exact dC (.inr ⟨_,bq rfl,e8 n 0 h⟩)
theorem P7 (a0:List cb) (R:cb) (r:Bool) (h:zA a0 R=some r):bl aB 215 [.slice (a0.map bz),.fn 216 [.ref (bz R)]] (.bool r) []:=by
 refine bT [0,1] [.tmp 4] Tryz.func215 aon (fun bO al bN=> ?_)
 refine ws _ ?_
 obtain⟨af,aQ,h⟩:=aE h
 refine dx (azF a0 R _ aQ) _ ?_
 exact aD (al _ (.inl (aH [.bool (decide (0≤af))])))
end Go.Proofs.YtocllehpepigpaaGreat
