/- Part of a proof that a law returns true for every input. No condition. -/
import Derived.Test.YtocllehpepigpaaGreatDoorSl
namespace Go.Proofs.YtocllehpepigpaaGreatDoor
open Go Go.cI Go.gB
set_option maxRecDepth 100000
set_option maxHeartbeats 2200000
set_option linter.unusedSimpArgs false
set_option linter.unusedVariables false
theorem b0 (fx:List Nat) (fN:List ResultVar) {f:FuncId} {fn:Func} {c:Code} {e4:J} {ins outs:List I} {r:I} (br:aN.P.funcs[f]? =some fn) (aa:bt ⟨fn.ntmps,fx⟩ c=some e4.strip)
 (BV:∀Q:Exit→an→Prop,(∀s,fU (cI.Ends aN fx fN r outs) s→Q .ret s)→(∀s,fU (cI.Ends aN fx fN r outs) s→Q .normal s)→cK aN e4 Q (R (num 0 ins))) (U:fn.body=some c:=by rfl) (kU:(fn.name== "runtime.NumGoroutine")=false:=by rfl) (aV:ins.length≤fn.ntmps:=by exact Nat.le_of_ble_eq_true rfl) (gg:fn.results.toList=fN:=by rfl) (ao:e4.plain=true:=by kernel_rfl):bh aN f ins r outs:=
 bh.HI P1 fN (num 0 ins) br U kU aa aV gg rfl BV ao
def j2:=PLift.up (And.intro @eJ (And.intro @HK (And.intro @kW (And.intro @fq (And.intro @lR (And.intro @th (And.intro @ti (And.intro @CF (And.intro @kX (And.intro @oT (And.intro @rF (And.intro @px (And.intro @py (And.intro @xS (And.intro @lS (And.intro @ob (And.intro @pz (And.intro @tj (And.intro @ie (And.intro @oU (And.intro @lT (And.intro @oV (And.intro @lo (And.intro @jC (And.intro @pA (And.intro @HL (And.intro @bB.eq_1 (And.intro @ew.eq_1 (And.intro @cC.eq_1 (And.intro @dQ.eq_1 (And.intro @bs.eq_1 (And.intro @iv.eq_1 (And.intro @e_.eq_1 (And.intro @fI.eq_1 (And.intro @fX.eq_1 (And.intro @eX.eq_1 (And.intro @mr.eq_1 (And.intro @di.eq_1 (And.intro @a1.eq_1 (And.intro @gC.eq_1 (And.intro @hj.eq_1 (And.intro @nD.eq_1 @gI.eq_1))))))))))))))))))))))))))))))))))))))))))
theorem ws {Q:Exit→an→Prop} {l:List (Nat×I)} {ros:List bO} {k:List Nat} {b:J} (dW:List (Nat×I)) (ax:cK aN b Q (R dW)) (h:∀P:List (Nat×I)→Prop,P dW→cj aN (R l) ros none (fun _ s=>P (iT k s)):=by
 intro P al
 simp only[aZ.down,simprocAttr,j2.down]
 (try simp only[bn.down,simprocAttr,j2.down]at al⊢)
 exact al):cK aN (.seq (.ct ros (some k)) b) Q (R l):=
 cP (cv dW (h) ax)
theorem dH {Q:Exit→an→Prop} {l:List (Nat×I)} {ros:List bO} {k:List Nat} {b:J} {g:FuncId} {ds:List I} {r:I} (ok:bh aN g ds r []) (dW:List (Nat×I)) (ax:cK aN b Q (R dW)) (h:bh aN g ds r []→∀P:List (Nat×I)→Prop,P dW→cj aN (R l) ros none (fun _ s=>P (iT k s)):=by
 intro rX P al
 (try simp only[aZ.down,simprocAttr,j2.down])
 refine ev rX rfl rfl rfl rfl (.inl (by rfl)) ?_
 simp only[aZ.down,simprocAttr,j2.down]
 (try simp only[bn.down,simprocAttr,j2.down]at al⊢)
 exact al):cK aN (.seq (.ct ros (some k)) b) Q (R l):=
 cP (cv dW (h ok) ax)
theorem fs {F:Prop} (bl:F) {Q:Exit→an→Prop} {l:List (Nat×I)} {ros:List bO} {k:List Nat} {b:J} (dW:List (Nat×I)) (ax:cK aN b Q (R dW)) (h:F→∀P:List (Nat×I)→Prop,P dW→cj aN (R l) ros none (fun _ s=>P (iT k s)):=by
 intro bl P al
 simp only[aZ.down,simprocAttr,j2.down,bl]
 (try simp only[bn.down,simprocAttr,j2.down,bl]at al⊢)
 exact al):cK aN (.seq (.ct ros (some k)) b) Q (R l):=
 cP (cv dW (h bl) ax)
theorem hk {F:Prop} (bl:F) {Q:Exit→an→Prop} {l:List (Nat×I)} {ros:List bO} {k:List Nat} {b:J} {g:FuncId} {ds:List I} {r:I} (ok:bh aN g ds r []) (dW:List (Nat×I)) (ax:cK aN b Q (R dW)) (h:bh aN g ds r []→F→∀P:List (Nat×I)→Prop,P dW→cj aN (R l) ros none (fun _ s=>P (iT k s)):=by
 intro rX bl P al
 (try simp only[aZ.down,simprocAttr,j2.down,bl])
 refine ev rX rfl rfl rfl rfl (.inl (by rfl)) ?_
 simp only[aZ.down,simprocAttr,j2.down,bl]
 (try simp only[bn.down,simprocAttr,j2.down,bl]at al⊢)
 exact al):cK aN (.seq (.ct ros (some k)) b) Q (R l):=
 cP (cv dW (h ok bl) ax)
theorem wr {Q:Exit→an→Prop} {l:List (Nat×I)} {ros:List bO} {k:List Nat} (dW:List (Nat×I)) (ax:Q .normal (R dW)) (h:∀P:List (Nat×I)→Prop,P dW→cj aN (R l) ros none (fun _ s=>P (iT k s)):=by
 intro P al
 simp only[aZ.down,simprocAttr,j2.down]
 (try simp only[bn.down,simprocAttr,j2.down]at al⊢)
 exact al):cK aN (.ct ros (some k)) Q (R l):=
 mn (cv dW (h) ax)
theorem Jn {Q:Exit→an→Prop} {l:List (Nat×I)} {ros:List bO} {k:List Nat} {g:FuncId} {ds:List I} {r:I} (ok:bh aN g ds r []) (dW:List (Nat×I)) (ax:Q .normal (R dW)) (h:bh aN g ds r []→∀P:List (Nat×I)→Prop,P dW→cj aN (R l) ros none (fun _ s=>P (iT k s)):=by
 intro rX P al
 (try simp only[aZ.down,simprocAttr,j2.down])
 refine ev rX rfl rfl rfl rfl (.inl (by rfl)) ?_
 simp only[aZ.down,simprocAttr,j2.down]
 (try simp only[bn.down,simprocAttr,j2.down]at al⊢)
 exact al):cK aN (.ct ros (some k)) Q (R l):=
 mn (cv dW (h ok) ax)
theorem Db {F:Prop} (bl:F) {Q:Exit→an→Prop} {l:List (Nat×I)} {ros:List bO} {k:List Nat} (dW:List (Nat×I)) (ax:Q .normal (R dW)) (h:F→∀P:List (Nat×I)→Prop,P dW→cj aN (R l) ros none (fun _ s=>P (iT k s)):=by
 intro bl P al
 simp only[aZ.down,simprocAttr,j2.down,bl]
 (try simp only[bn.down,simprocAttr,j2.down,bl]at al⊢)
 exact al):cK aN (.ct ros (some k)) Q (R l):=
 mn (cv dW (h bl) ax)
theorem ahu {F:Prop} (bl:F) {Q:Exit→an→Prop} {l:List (Nat×I)} {ros:List bO} {k:List Nat} {g:FuncId} {ds:List I} {r:I} (ok:bh aN g ds r []) (dW:List (Nat×I)) (ax:Q .normal (R dW)) (h:bh aN g ds r []→F→∀P:List (Nat×I)→Prop,P dW→cj aN (R l) ros none (fun _ s=>P (iT k s)):=by
 intro rX bl P al
 (try simp only[aZ.down,simprocAttr,j2.down,bl])
 refine ev rX rfl rfl rfl rfl (.inl (by rfl)) ?_
 simp only[aZ.down,simprocAttr,j2.down,bl]
 (try simp only[bn.down,simprocAttr,j2.down,bl]at al⊢)
 exact al):cK aN (.ct ros (some k)) Q (R l):=
 mn (cv dW (h ok bl) ax)
def ej:=PLift.up (And.intro @eJ (And.intro @fq (And.intro @lR (And.intro @lT (And.intro @oV (And.intro @jC (And.intro @cC.eq_1 (And.intro @dQ.eq_1 @a1.eq_1))))))))
def gj:=PLift.up (And.intro @eJ (And.intro @kW (And.intro @fq (And.intro @lS (And.intro @lo @bs.eq_1)))))
def hU:=PLift.up (And.intro @eJ (And.intro @kW (And.intro @fq (And.intro @lo @bs.eq_1))))
def hV:=PLift.up (And.intro @eJ (And.intro @kW (And.intro @fq (And.intro @kX (And.intro @lS (And.intro @ob (And.intro @ie (And.intro @lo (And.intro @bB.eq_1 (And.intro @ew.eq_1 (And.intro @bs.eq_1 @di.eq_1)))))))))))
def iM:=PLift.up (And.intro @eJ (And.intro @kW (And.intro @fq (And.intro @lR (And.intro @kX (And.intro @px (And.intro @py (And.intro @xS (And.intro @lS (And.intro @ob (And.intro @ie (And.intro @lT (And.intro @oV (And.intro @lo (And.intro @jC (And.intro @bB.eq_1 (And.intro @ew.eq_1 (And.intro @cC.eq_1 (And.intro @dQ.eq_1 (And.intro @bs.eq_1 (And.intro @iv.eq_1 (And.intro @di.eq_1 @a1.eq_1))))))))))))))))))))))
def k2:=PLift.up (And.intro @fq (And.intro @lR @a1.eq_1))
def k3:=PLift.up (And.intro @cC.eq_1 (And.intro @dQ.eq_1 @a1.eq_1))
def k4:=PLift.up (And.intro @bB.eq_1 (And.intro @ew.eq_1 (And.intro @cC.eq_1 (And.intro @dQ.eq_1 (And.intro @bs.eq_1 (And.intro @iv.eq_1 (And.intro @di.eq_1 @a1.eq_1)))))))
def pI:=PLift.up (And.intro @bB.eq_1 (And.intro @ew.eq_1 (And.intro @bs.eq_1 @di.eq_1)))
def tM:=PLift.up (And.intro @eJ (And.intro @HK (And.intro @jC (And.intro @HL (And.intro @bB.eq_1 @cC.eq_1)))))
def wq:=PLift.up (And.intro @eJ (And.intro @kW (And.intro @fq (And.intro @lR (And.intro @th (And.intro @ti (And.intro @CF (And.intro @kX (And.intro @oT (And.intro @rF (And.intro @pz (And.intro @tj (And.intro @ie (And.intro @oU (And.intro @pA (And.intro @bB.eq_1 (And.intro @cC.eq_1 (And.intro @bs.eq_1 (And.intro @e_.eq_1 (And.intro @fI.eq_1 (And.intro @fX.eq_1 (And.intro @eX.eq_1 (And.intro @mr.eq_1 (And.intro @di.eq_1 (And.intro @a1.eq_1 (And.intro @gC.eq_1 (And.intro @hj.eq_1 (And.intro @nD.eq_1 @gI.eq_1))))))))))))))))))))))))))))
def zF:=PLift.up (And.intro @eJ (And.intro @kW (And.intro @fq (And.intro @lR (And.intro @th (And.intro @ti (And.intro @CF (And.intro @kX (And.intro @oT (And.intro @rF (And.intro @px (And.intro @py (And.intro @xS (And.intro @lS (And.intro @ob (And.intro @pz (And.intro @tj (And.intro @ie (And.intro @oU (And.intro @lT (And.intro @oV (And.intro @lo (And.intro @jC (And.intro @pA (And.intro @bB.eq_1 (And.intro @cC.eq_1 (And.intro @bs.eq_1 (And.intro @e_.eq_1 (And.intro @fI.eq_1 (And.intro @fX.eq_1 (And.intro @eX.eq_1 (And.intro @mr.eq_1 (And.intro @di.eq_1 (And.intro @a1.eq_1 (And.intro @gC.eq_1 (And.intro @hj.eq_1 (And.intro @nD.eq_1 @gI.eq_1)))))))))))))))))))))))))))))))))))))
def zG:=PLift.up (And.intro @eJ (And.intro @kW (And.intro @fq (And.intro @kX (And.intro @oT (And.intro @rF (And.intro @lS (And.intro @ob (And.intro @ie (And.intro @oU (And.intro @lo (And.intro @bB.eq_1 (And.intro @bs.eq_1 (And.intro @e_.eq_1 (And.intro @eX.eq_1 (And.intro @di.eq_1 (And.intro @gC.eq_1 @gI.eq_1)))))))))))))))))
def Dc:=PLift.up (And.intro @bB.eq_1 (And.intro @cC.eq_1 (And.intro @bs.eq_1 (And.intro @e_.eq_1 (And.intro @fI.eq_1 (And.intro @fX.eq_1 (And.intro @eX.eq_1 (And.intro @mr.eq_1 (And.intro @di.eq_1 (And.intro @a1.eq_1 (And.intro @gC.eq_1 (And.intro @hj.eq_1 (And.intro @nD.eq_1 @gI.eq_1)))))))))))))
def Dd:=PLift.up (And.intro @eJ (And.intro @kW (And.intro @fq (And.intro @lR (And.intro @kX (And.intro @px (And.intro @py (And.intro @xS (And.intro @lS (And.intro @ob (And.intro @ie (And.intro @lT (And.intro @oV (And.intro @lo (And.intro @jC (And.intro @bB.eq_1 (And.intro @cC.eq_1 (And.intro @bs.eq_1 (And.intro @e_.eq_1 (And.intro @fI.eq_1 (And.intro @fX.eq_1 (And.intro @eX.eq_1 (And.intro @mr.eq_1 (And.intro @di.eq_1 (And.intro @a1.eq_1 (And.intro @gC.eq_1 (And.intro @hj.eq_1 (And.intro @nD.eq_1 @gI.eq_1))))))))))))))))))))))))))))
theorem Jo (a0:List (List UInt8)) (ab:Int) (r:Int) (h:vv a0 ab=some r):bh aN 12 [.slice (a0.map a1),.int .i64 ab] (.int .i64 r) []:=by
 refine b0 [0] [.tmp 4] Tryz.func12 Qm (fun bP az bW=> ?_)
 refine ws _ ?_
 refine ws _ ?_
 refine aU az (fun lr gJ dt a7=> ?_)
 refine ws _ ?_
 refine a_ h (fun cr h=> ?_) (fun cr h=> ?_)
 ·refine ws _ ?_
  exact aJ (dt _ (.inl (aK [.int .i64 (-1)])))
 ·refine a6 (gJ _ (.inl ?_))
  refine aU az (fun kl gk e3 da=> ?_)
  refine ws _ ?_
  refine cg e3 (fun hB eK ee dR dU=> ?_)
  have og:∀(n:Nat) (dw:Int) (dy:Int),xV a0 n dw dy=some r→ei aN Ij hB (R [(0,.slice (a0.map a1)),(1,.int .i64 dw),(5,.int .i64 dy)]):=by
   intro m16
   induction m16 with
   |zero=>intro dw dy h;cases(show none=some r from h)
   |succ m16 nE=>
    intro dw dy h
    replace h:HM (xV a0 m16) a0 dw dy=some r:=h
    refine eI ee (fun fY c6 dk dN=> ?_)
    refine aU dk (fun jk eS ft fW=> ?_)
    refine ws _ ?_
    refine a_ h (fun gR h=> ?_) (fun gR h=> ?_)
    ·refine a6 (eS _ (.inl ?_))
     refine aU dk (fun i1 eY eZ i6=> ?_)
     refine cg eZ (fun lY gY hJ jF k5=> ?_)
     obtain⟨ar,ep,h⟩:=aM h
     refine fs ep _ ?_
     refine ws _ ?_
     refine a_ h (fun iN h=> ?_) (fun iN h=> ?_)
     ·refine ws _ ?_
      exact aJ (hJ _ (.inl (aK [.int .i64 (-1)])))
     ·refine a6 (gY _ (eY _ (.inl ?_)))
      refine wr _ ?_
      exact c6 _ (.inr ⟨_,bJ rfl,nE (IntKind.i64.wrap (dw-(ar.length:Int))) (IntKind.i64.wrap (dy+1)) h⟩)
    ·refine eG (fW 0 _ (dN 0 _ (dR _ (gk _ (.inl ?_)))))
     refine ws _ ?_
     exact aJ (az _ (.inl (aK [.int .i64 dw])))
  obtain⟨n,h⟩:=eD h
  exact eH (.inr ⟨_,bJ rfl,og n (IntKind.i64.wrap (ab-(a0.length:Int))) 0 h⟩)
theorem ahv (a0:List jh) (ab:Int) (r:Int) (h:xW a0 ab=some r):bh aN 55 [.slice (a0.map fI),.int .i64 ab] (.int .i64 r) []:=by
 refine b0 [0] [.tmp 4] Tryz.func55 Qt (fun bP az bW=> ?_)
 refine ws _ ?_
 refine ws _ ?_
 refine aU az (fun lr gJ dt a7=> ?_)
 refine ws _ ?_
 refine a_ h (fun cr h=> ?_) (fun cr h=> ?_)
 ·refine ws _ ?_
  exact aJ (dt _ (.inl (aK [.int .i64 (-1)])))
 ·refine a6 (gJ _ (.inl ?_))
  refine ws _ ?_
  exact aJ (az _ (.inl (aK [.int .i64 (IntKind.i64.wrap (ab-(a0.length:Int)))])))
theorem ahw (a0:hS) (ab:Int) (r:Int) (h:vw a0 ab=some r):bh aN 31 [fX a0,.int .i64 ab] (.int .i64 r) []:=by
 refine b0 [0] [.tmp 4] Tryz.func31 QD (fun bP az bW=> ?_)
 refine ws _ ?_
 obtain⟨ar,aS,h⟩:=aM h
 refine dH (Jo a0.cW ab _ aS) _ ?_
 refine aU az (fun fZ fu cT bo=> ?_)
 refine ws _ ?_
 refine a_ h (fun cw h=> ?_) (fun cw h=> ?_)
 ·refine ws _ ?_
  exact aJ (cT _ (.inl (aK [.int .i64 (-1)])))
 ·refine a6 (fu _ (.inl ?_))
  obtain⟨aD,h7,h⟩:=aM h
  refine dH (ahv a0.cB ar _ h7) _ ?_
  refine aU az (fun fY c6 dk dN=> ?_)
  refine ws _ ?_
  refine a_ h (fun dm h=> ?_) (fun dm h=> ?_)
  ·refine ws _ ?_
   exact aJ (dk _ (.inl (aK [.int .i64 (-1)])))
  ·refine a6 (c6 _ (.inl ?_))
   refine ws _ ?_
   exact aJ (az _ (.inl (aK [.int .i64 aD])))
theorem ahx (a0:List hS) (ab:Int) (r:Int) (h:xY a0 ab=some r):bh aN 13 [.slice (a0.map fX),.int .i64 ab] (.int .i64 r) []:=by
 refine b0 [0] [.tmp 4] Tryz.func13 QS (fun bP az bW=> ?_)
 refine ws _ ?_
 refine ws _ ?_
 refine aU az (fun lr gJ dt a7=> ?_)
 refine ws _ ?_
 refine a_ h (fun cr h=> ?_) (fun cr h=> ?_)
 ·refine ws _ ?_
  exact aJ (dt _ (.inl (aK [.int .i64 (-1)])))
 ·refine a6 (gJ _ (.inl ?_))
  refine aU az (fun kl gk e3 da=> ?_)
  refine ws _ ?_
  refine cg e3 (fun hB eK ee dR dU=> ?_)
  have og:∀(n:Nat) (dw:Int) (dy:Int),xX a0 n dw dy=some r→ei aN Ik hB (R [(0,.slice (a0.map fX)),(1,.int .i64 dw),(5,.int .i64 dy)]):=by
   intro m16
   induction m16 with
   |zero=>intro dw dy h;cases(show none=some r from h)
   |succ m16 nE=>
    intro dw dy h
    replace h:HN (xX a0 m16) a0 dw dy=some r:=h
    refine eI ee (fun fY c6 dk dN=> ?_)
    refine aU dk (fun jk eS ft fW=> ?_)
    refine ws _ ?_
    refine a_ h (fun gR h=> ?_) (fun gR h=> ?_)
    ·refine a6 (eS _ (.inl ?_))
     refine aU dk (fun i1 eY eZ i6=> ?_)
     refine cg eZ (fun lY gY hJ jF k5=> ?_)
     obtain⟨ar,ep,h⟩:=aM h
     obtain⟨aD,eB,h⟩:=aM h
     refine hk ep (ahw ar dw _ eB) _ ?_
     refine ws _ ?_
     refine a_ h (fun gD h=> ?_) (fun gD h=> ?_)
     ·refine ws _ ?_
      exact aJ (hJ _ (.inl (aK [.int .i64 (-1)])))
     ·refine a6 (gY _ (eY _ (.inl ?_)))
      refine wr _ ?_
      exact c6 _ (.inr ⟨_,bJ rfl,nE aD (IntKind.i64.wrap (dy+1)) h⟩)
    ·refine eG (fW 0 _ (dN 0 _ (dR _ (gk _ (.inl ?_)))))
     refine ws _ ?_
     exact aJ (az _ (.inl (aK [.int .i64 dw])))
  obtain⟨n,h⟩:=eD h
  exact eH (.inr ⟨_,bJ rfl,og n (IntKind.i64.wrap (ab-(a0.length:Int))) 0 h⟩)
theorem ahy (a0:List Int) (ab:Int) (r:Int) (h:vx a0 ab=some r):bh aN 32 [.slice (a0.map bB),.int .i64 ab] (.int .i64 r) []:=by
 refine b0 [0] [.tmp 4] Tryz.func32 QZ (fun bP az bW=> ?_)
 refine ws _ ?_
 refine ws _ ?_
 refine aU az (fun lr gJ dt a7=> ?_)
 refine ws _ ?_
 refine a_ h (fun cr h=> ?_) (fun cr h=> ?_)
 ·refine ws _ ?_
  exact aJ (dt _ (.inl (aK [.int .i64 (-1)])))
 ·refine a6 (gJ _ (.inl ?_))
  refine ws _ ?_
  exact aJ (az _ (.inl (aK [.int .i64 (IntKind.i64.wrap (ab-(a0.length:Int)))])))
theorem ahz (a0:List (List Int)) (ab:Int) (r:Int) (h:x0 a0 ab=some r):bh aN 15 [.slice (a0.map di),.int .i64 ab] (.int .i64 r) []:=by
 refine b0 [0] [.tmp 4] Tryz.func15 lW (fun bP az bW=> ?_)
 refine ws _ ?_
 refine ws _ ?_
 refine aU az (fun lr gJ dt a7=> ?_)
 refine ws _ ?_
 refine a_ h (fun cr h=> ?_) (fun cr h=> ?_)
 ·refine ws _ ?_
  exact aJ (dt _ (.inl (aK [.int .i64 (-1)])))
 ·refine a6 (gJ _ (.inl ?_))
  refine aU az (fun kl gk e3 da=> ?_)
  refine ws _ ?_
  refine cg e3 (fun hB eK ee dR dU=> ?_)
  have og:∀(n:Nat) (dw:Int) (dy:Int),xZ a0 n dw dy=some r→ei aN Il hB (R [(0,.slice (a0.map di)),(1,.int .i64 dw),(5,.int .i64 dy)]):=by
   intro m16
   induction m16 with
   |zero=>intro dw dy h;cases(show none=some r from h)
   |succ m16 nE=>
    intro dw dy h
    replace h:HO (xZ a0 m16) a0 dw dy=some r:=h
    refine eI ee (fun fY c6 dk dN=> ?_)
    refine aU dk (fun jk eS ft fW=> ?_)
    refine ws _ ?_
    refine a_ h (fun gR h=> ?_) (fun gR h=> ?_)
    ·refine a6 (eS _ (.inl ?_))
     refine aU dk (fun i1 eY eZ i6=> ?_)
     refine cg eZ (fun lY gY hJ jF k5=> ?_)
     obtain⟨ar,ep,h⟩:=aM h
     obtain⟨aD,eB,h⟩:=aM h
     refine hk ep (ahy ar dw _ eB) _ ?_
     refine ws _ ?_
     refine a_ h (fun gD h=> ?_) (fun gD h=> ?_)
     ·refine ws _ ?_
      exact aJ (hJ _ (.inl (aK [.int .i64 (-1)])))
     ·refine a6 (gY _ (eY _ (.inl ?_)))
      refine wr _ ?_
      exact c6 _ (.inr ⟨_,bJ rfl,nE aD (IntKind.i64.wrap (dy+1)) h⟩)
    ·refine eG (fW 0 _ (dN 0 _ (dR _ (gk _ (.inl ?_)))))
     refine ws _ ?_
     exact aJ (az _ (.inl (aK [.int .i64 dw])))
  obtain⟨n,h⟩:=eD h
  exact eH (.inr ⟨_,bJ rfl,og n (IntKind.i64.wrap (ab-(a0.length:Int))) 0 h⟩)
theorem ahA (a0:hH) (ab:Int) (r:Int) (h:vy a0 ab=some r):bh aN 33 [eX a0,.int .i64 ab] (.int .i64 r) []:=by
 refine b0 [0] [.tmp 4] Tryz.func33 Rj (fun bP az bW=> ?_)
 refine ws _ ?_
 refine ws _ ?_
 refine aU az (fun lr gJ dt a7=> ?_)
 refine ws _ ?_
 refine a_ h (fun cr h=> ?_) (fun cr h=> ?_)
 ·refine ws _ ?_
  exact aJ (dt _ (.inl (aK [.int .i64 (-1)])))
 ·refine a6 (gJ _ (.inl ?_))
  refine ws _ ?_
  exact aJ (az _ (.inl (aK [.int .i64 (IntKind.i64.wrap (ab-(a0.Label.length:Int)))])))
theorem ahB (a0:List hH) (ab:Int) (r:Int) (h:x2 a0 ab=some r):bh aN 16 [.slice (a0.map eX),.int .i64 ab] (.int .i64 r) []:=by
 refine b0 [0] [.tmp 4] Tryz.func16 Ry (fun bP az bW=> ?_)
 refine ws _ ?_
 refine ws _ ?_
 refine aU az (fun lr gJ dt a7=> ?_)
 refine ws _ ?_
 refine a_ h (fun cr h=> ?_) (fun cr h=> ?_)
 ·refine ws _ ?_
  exact aJ (dt _ (.inl (aK [.int .i64 (-1)])))
 ·refine a6 (gJ _ (.inl ?_))
  refine aU az (fun kl gk e3 da=> ?_)
  refine ws _ ?_
  refine cg e3 (fun hB eK ee dR dU=> ?_)
  have og:∀(n:Nat) (dw:Int) (dy:Int),x1 a0 n dw dy=some r→ei aN Im hB (R [(0,.slice (a0.map eX)),(1,.int .i64 dw),(5,.int .i64 dy)]):=by
   intro m16
   induction m16 with
   |zero=>intro dw dy h;cases(show none=some r from h)
   |succ m16 nE=>
    intro dw dy h
    replace h:HP (x1 a0 m16) a0 dw dy=some r:=h
    refine eI ee (fun fY c6 dk dN=> ?_)
    refine aU dk (fun jk eS ft fW=> ?_)
    refine ws _ ?_
    refine a_ h (fun gR h=> ?_) (fun gR h=> ?_)
    ·refine a6 (eS _ (.inl ?_))
     refine aU dk (fun i1 eY eZ i6=> ?_)
     refine cg eZ (fun lY gY hJ jF k5=> ?_)
     obtain⟨ar,ep,h⟩:=aM h
     obtain⟨aD,eB,h⟩:=aM h
     refine hk ep (ahA ar dw _ eB) _ ?_
     refine ws _ ?_
     refine a_ h (fun gD h=> ?_) (fun gD h=> ?_)
     ·refine ws _ ?_
      exact aJ (hJ _ (.inl (aK [.int .i64 (-1)])))
     ·refine a6 (gY _ (eY _ (.inl ?_)))
      refine wr _ ?_
      exact c6 _ (.inr ⟨_,bJ rfl,nE aD (IntKind.i64.wrap (dy+1)) h⟩)
    ·refine eG (fW 0 _ (dN 0 _ (dR _ (gk _ (.inl ?_)))))
     refine ws _ ?_
     exact aJ (az _ (.inl (aK [.int .i64 dw])))
  obtain⟨n,h⟩:=eD h
  exact eH (.inr ⟨_,bJ rfl,og n (IntKind.i64.wrap (ab-(a0.length:Int))) 0 h⟩)
theorem Jp (a0:gQ) (ab:Int) (r:Int) (h:tk a0 ab=some r):bh aN 5 [e_ a0,.int .i64 ab] (.int .i64 r) []:=by
 refine b0 [0] [.tmp 4] Tryz.func5 jE (fun bP az bW=> ?_)
 refine ws _ ?_
 obtain⟨ar,aS,h⟩:=aM h
 refine dH (ahz a0.gz ab _ aS) _ ?_
 refine aU az (fun fZ fu cT bo=> ?_)
 refine ws _ ?_
 refine a_ h (fun cw h=> ?_) (fun cw h=> ?_)
 ·refine ws _ ?_
  exact aJ (cT _ (.inl (aK [.int .i64 (-1)])))
 ·refine a6 (fu _ (.inl ?_))
  obtain⟨aD,h7,h⟩:=aM h
  refine dH (ahB a0.Formula ar _ h7) _ ?_
  refine aU az (fun fY c6 dk dN=> ?_)
  refine ws _ ?_
  refine a_ h (fun dm h=> ?_) (fun dm h=> ?_)
  ·refine ws _ ?_
   exact aJ (dk _ (.inl (aK [.int .i64 (-1)])))
  ·refine a6 (c6 _ (.inl ?_))
   refine ws _ ?_
   exact aJ (az _ (.inl (aK [.int .i64 aD])))
theorem ahC (a0:List gQ) (ab:Int) (r:Int) (h:x4 a0 ab=some r):bh aN 14 [.slice (a0.map e_),.int .i64 ab] (.int .i64 r) []:=by
 refine b0 [0] [.tmp 4] Tryz.func14 rP (fun bP az bW=> ?_)
 refine ws _ ?_
 refine ws _ ?_
 refine aU az (fun lr gJ dt a7=> ?_)
 refine ws _ ?_
 refine a_ h (fun cr h=> ?_) (fun cr h=> ?_)
 ·refine ws _ ?_
  exact aJ (dt _ (.inl (aK [.int .i64 (-1)])))
 ·refine a6 (gJ _ (.inl ?_))
  refine aU az (fun kl gk e3 da=> ?_)
  refine ws _ ?_
  refine cg e3 (fun hB eK ee dR dU=> ?_)
  have og:∀(n:Nat) (dw:Int) (dy:Int),x3 a0 n dw dy=some r→ei aN Io hB (R [(0,.slice (a0.map e_)),(1,.int .i64 dw),(5,.int .i64 dy)]):=by
   intro m16
   induction m16 with
   |zero=>intro dw dy h;cases(show none=some r from h)
   |succ m16 nE=>
    intro dw dy h
    replace h:HQ (x3 a0 m16) a0 dw dy=some r:=h
    refine eI ee (fun fY c6 dk dN=> ?_)
    refine aU dk (fun jk eS ft fW=> ?_)
    refine ws _ ?_
    refine a_ h (fun gR h=> ?_) (fun gR h=> ?_)
    ·refine a6 (eS _ (.inl ?_))
     refine aU dk (fun i1 eY eZ i6=> ?_)
     refine cg eZ (fun lY gY hJ jF k5=> ?_)
     obtain⟨ar,ep,h⟩:=aM h
     obtain⟨aD,eB,h⟩:=aM h
     refine hk ep (Jp ar dw _ eB) _ ?_
     refine ws _ ?_
     refine a_ h (fun gD h=> ?_) (fun gD h=> ?_)
     ·refine ws _ ?_
      exact aJ (hJ _ (.inl (aK [.int .i64 (-1)])))
     ·refine a6 (gY _ (eY _ (.inl ?_)))
      refine wr _ ?_
      exact c6 _ (.inr ⟨_,bJ rfl,nE aD (IntKind.i64.wrap (dy+1)) h⟩)
    ·refine eG (fW 0 _ (dN 0 _ (dR _ (gk _ (.inl ?_)))))
     refine ws _ ?_
     exact aJ (az _ (.inl (aK [.int .i64 dw])))
  obtain⟨n,h⟩:=eD h
  exact eH (.inr ⟨_,bJ rfl,og n (IntKind.i64.wrap (ab-(a0.length:Int))) 0 h⟩)
theorem ahD (a0:ky) (ab:Int) (r:Int) (h:x5 a0 ab=some r):bh aN 4 [mr a0,.int .i64 ab] (.int .i64 r) []:=by
 refine b0 [0] [.tmp 4] Tryz.func4 gV (fun bP az bW=> ?_)
 refine ws _ ?_
 obtain⟨ar,aS,h⟩:=aM h
 refine dH (Jo a0.Names ab _ aS) _ ?_
 refine aU az (fun fZ fu cT bo=> ?_)
 refine ws _ ?_
 refine a_ h (fun cw h=> ?_) (fun cw h=> ?_)
 ·refine ws _ ?_
  exact aJ (cT _ (.inl (aK [.int .i64 (-1)])))
 ·refine a6 (fu _ (.inl ?_))
  obtain⟨aD,h7,h⟩:=aM h
  refine dH (ahx a0.dB ar _ h7) _ ?_
  refine aU az (fun fY c6 dk dN=> ?_)
  refine ws _ ?_
  refine a_ h (fun dm h=> ?_) (fun dm h=> ?_)
  ·refine ws _ ?_
   exact aJ (dk _ (.inl (aK [.int .i64 (-1)])))
  ·refine a6 (c6 _ (.inl ?_))
   obtain⟨a7,fc,h⟩:=aM h
   refine dH (ahC a0.ji aD _ fc) _ ?_
   refine aU az (fun oh j3 iy oY=> ?_)
   refine ws _ ?_
   refine a_ h (fun i7 h=> ?_) (fun i7 h=> ?_)
   ·refine ws _ ?_
    exact aJ (iy _ (.inl (aK [.int .i64 (-1)])))
   ·refine a6 (j3 _ (.inl ?_))
    refine ws _ ?_
    exact aJ (az _ (.inl (aK [.int .i64 a7])))
theorem Jq (a0:List (List UInt8)) (r:(List (List UInt8))) (h:vz a0=some r):bh aN 19 [.slice (a0.map a1)] (.aL 1 (r.map a1)) []:=by
 refine b0 [0] [.tmp 2] Tryz.func19 Sg (fun bP az bW=> ?_)
 refine ws _ ?_
 obtain⟨ahE,aS,h⟩:=aM h
 refine cP (cv [(0,.slice (a0.map a1)),(3,.aL 1 ((List.replicate (Int.toNat (a0.length:Int)) ([]:List UInt8)).map a1))] (fun P al=> ?_) ?_)
 ·simp only[aZ.down,simprocAttr,k2.down,(ef aS).1,(ef aS).2.1,(ef aS).2.2,dX,List.map_replicate,-Int.reduceNatCast']
  (try simp only[bn.down,simprocAttr,a1,(ef aS).1,(ef aS).2.1,(ef aS).2.2,dX,List.map_replicate,-Int.reduceNatCast']at al⊢);exact al
 refine aU az (fun fZ fu cT bo=> ?_)
 refine ws [(0,.slice (a0.map a1)),(3,.aL 1 ((List.replicate (Int.toNat (a0.length:Int)) ([]:List UInt8)).map a1)),(4,.int .i64 0)] ?_
 refine cg cT (fun fv dS du cw cu=> ?_)
 have jG:∀(n:Nat) (bL:List (List UInt8)) (bp:Int),x6 a0 n bL bp=some r→ei aN Ip fv (R [(0,.slice (a0.map a1)),(3,.aL 1 (bL.map a1)),(4,.int .i64 bp)]):=by
  intro m8
  induction m8 with
  |zero=>intro bL bp h;cases(show none=some r from h)
  |succ m8 jH=>
   intro bL bp h
   replace h:HR (x6 a0 m8) a0 bL bp=some r:=h
   refine eI du (fun kl gk e3 da=> ?_)
   refine aU e3 (fun hK fw gZ dz=> ?_)
   refine ws _ ?_
   refine a_ h (fun e7 h=> ?_) (fun e7 h=> ?_)
   ·refine a6 (fw _ (.inl ?_))
    refine aU e3 (fun jk eS ft fW=> ?_)
    refine cg ft (fun mS iO lZ dm jj=> ?_)
    obtain⟨ar,gy,h⟩:=aM h
    obtain⟨aD,fc,h⟩:=aM h
    refine mn (cv [(0,.slice (a0.map a1)),(3,.aL 1 ((List.set bL (Int.toNat bp) ar).map a1)),(4,.int .i64 bp)] (fun P al=> ?_) ?_)
    ·simp only[aZ.down,simprocAttr,k2.down,gy,fc,hW fc,ic,gw]
     (try simp only[bn.down,simprocAttr,a1,gy,fc,hW fc,ic,gw]at al⊢);exact al
    refine iO _ (eS _ (.inl ?_))
    refine wr [(0,.slice (a0.map a1)),(3,.aL 1 ((List.set bL (Int.toNat bp) ar).map a1)),(4,.int .i64 (IntKind.i64.wrap (bp+1)))] ?_
    exact gk _ (.inr ⟨_,bJ rfl,jH (List.set bL (Int.toNat bp) ar) (IntKind.i64.wrap (bp+1)) h⟩)
   ·refine eG (dz 0 _ (da 0 _ (cw _ (fu _ (.inl ?_)))))
    refine ws _ ?_
    exact aJ (az _ (.inl (aK [.aL 1 (bL.map a1)])))
 obtain⟨n,h⟩:=eD h
 exact eH (.inr ⟨_,bJ rfl,jG n (List.replicate (Int.toNat (a0.length:Int)) ([]:List UInt8)) 0 h⟩)
theorem ahF (a0:jh) (r:ek) (h:vA a0=some r):bh aN 78 [fI a0] (cC r) []:=by
 refine b0 [0] [.cell 2 100] Tryz.func78 So (fun bP az bW=> ?_)
 refine ws _ ?_
 refine ws _ ?_
 refine ws _ ?_
 refine ws _ ?_
 refine ws _ ?_
 refine ws _ ?_
 exact aJ (az _ (.inl (aK [cC (ek.mk a0.er a0.Label a0.gi)])))
theorem ahG (a0:List jh) (r:(List ek)) (h:x8 a0=some r):bh aN 63 [.slice (a0.map fI)] (.aL 3 (r.map cC)) []:=by
 refine b0 [0] [.tmp 2] Tryz.func63 Sy (fun bP az bW=> ?_)
 refine ws _ ?_
 obtain⟨zH,aS,h⟩:=aM h
 refine cP (cv [(0,.slice (a0.map fI)),(3,.aL 3 ((List.replicate (Int.toNat (a0.length:Int)) (ek.mk 0 0 0)).map cC))] (fun P al=> ?_) ?_)
 ·simp only[aZ.down,simprocAttr,eJ,pz,lT,jC,pA,cC,fI,(ef aS).1,(ef aS).2.1,(ef aS).2.2,dX,List.map_replicate,-Int.reduceNatCast']
  (try simp only[bn.down,simprocAttr,cC,fI,(ef aS).1,(ef aS).2.1,(ef aS).2.2,dX,List.map_replicate,-Int.reduceNatCast']at al⊢);exact al
 refine aU az (fun fZ fu cT bo=> ?_)
 refine ws [(0,.slice (a0.map fI)),(3,.aL 3 ((List.replicate (Int.toNat (a0.length:Int)) (ek.mk 0 0 0)).map cC)),(4,.int .i64 0)] ?_
 refine cg cT (fun fv dS du cw cu=> ?_)
 have jG:∀(n:Nat) (bL:List ek) (bp:Int),x7 a0 n bL bp=some r→ei aN Iq fv (R [(0,.slice (a0.map fI)),(3,.aL 3 (bL.map cC)),(4,.int .i64 bp)]):=by
  intro m8
  induction m8 with
  |zero=>intro bL bp h;cases(show none=some r from h)
  |succ m8 jH=>
   intro bL bp h
   replace h:HS (x7 a0 m8) a0 bL bp=some r:=h
   refine eI du (fun kl gk e3 da=> ?_)
   refine aU e3 (fun hK fw gZ dz=> ?_)
   refine ws _ ?_
   refine a_ h (fun e7 h=> ?_) (fun e7 h=> ?_)
   ·refine a6 (fw _ (.inl ?_))
    refine aU e3 (fun jk eS ft fW=> ?_)
    refine cg ft (fun mS iO lZ dm jj=> ?_)
    obtain⟨ar,gy,h⟩:=aM h
    obtain⟨aD,fc,h⟩:=aM h
    obtain⟨a7,dn,h⟩:=aM h
    refine mn (cv [(0,.slice (a0.map fI)),(3,.aL 3 ((List.set bL (Int.toNat bp) aD).map cC)),(4,.int .i64 bp)] (fun P al=> ?_) ?_)
    ·simp only[aZ.down,simprocAttr,eJ,pz,lT,jC,pA,cC,fI,gy,dn,hW dn,ic,gw]
     refine ev (ahF ar _ fc) rfl rfl rfl rfl (.inl (by rfl)) ?_
     simp only[aZ.down,simprocAttr,eJ,pz,lT,jC,pA,cC,fI,gy,dn,hW dn,ic,gw]
     (try simp only[bn.down,simprocAttr,cC,fI,gy,dn,hW dn,ic,gw]at al⊢);exact al
    refine iO _ (eS _ (.inl ?_))
    refine wr [(0,.slice (a0.map fI)),(3,.aL 3 ((List.set bL (Int.toNat bp) aD).map cC)),(4,.int .i64 (IntKind.i64.wrap (bp+1)))] ?_
    exact gk _ (.inr ⟨_,bJ rfl,jH (List.set bL (Int.toNat bp) aD) (IntKind.i64.wrap (bp+1)) h⟩)
   ·refine eG (dz 0 _ (da 0 _ (cw _ (fu _ (.inl ?_)))))
    refine ws _ ?_
    exact aJ (az _ (.inl (aK [.aL 3 (bL.map cC)])))
 obtain⟨n,h⟩:=eD h
 exact eH (.inr ⟨_,bJ rfl,jG n (List.replicate (Int.toNat (a0.length:Int)) (ek.mk 0 0 0)) 0 h⟩)
theorem ahH (a0:hS) (r:dC) (h:vB a0=some r):bh aN 41 [fX a0] (hj r) []:=by
 refine b0 [0] [.cell 2 82] Tryz.func41 SG (fun bP az bW=> ?_)
 refine ws _ ?_
 refine ws _ ?_
 refine ws _ ?_
 refine ws _ ?_
 obtain⟨ar,bK,h⟩:=aM h
 refine dH (Jq a0.cW _ bK) _ ?_
 obtain⟨aD,gb,h⟩:=aM h
 refine dH (ahG a0.cB _ gb) _ ?_
 refine ws _ ?_
 exact aJ (az _ (.inl (aK [hj (dC.mk a0.eW a0.iL ar aD)])))
theorem ahI (a0:List hS) (r:(List dC)) (h:x_ a0=some r):bh aN 20 [.slice (a0.map fX)] (.aL 4 (r.map hj)) []:=by
 refine b0 [0] [.tmp 2] Tryz.func20 SO (fun bP az bW=> ?_)
 refine ws _ ?_
 obtain⟨zH,aS,h⟩:=aM h
 refine cP (cv [(0,.slice (a0.map fX)),(3,.aL 4 (List.replicate (Int.toNat (a0.length:Int)) (.agg [(.int .i64 0),(.int .i64 0),.bk,.bk])))] (fun P al=> ?_) ?_)
 ·simp only[aZ.down,simprocAttr,eJ,fq,lR,th,px,pz,tj,lT,oV,jC,pA,fI,fX,a1,(ef aS).1,(ef aS).2.1,(ef aS).2.2,dX,List.map_replicate,-Int.reduceNatCast']
  (try simp only[bn.down,simprocAttr,fI,fX,a1,(ef aS).1,(ef aS).2.1,(ef aS).2.2,dX,List.map_replicate,-Int.reduceNatCast']at al⊢);exact al
 refine aU az (fun fZ fu cT bo=> ?_)
 refine ws [(0,.slice (a0.map fX)),(3,.aL 4 (List.replicate (Int.toNat (a0.length:Int)) (.agg [(.int .i64 0),(.int .i64 0),.bk,.bk]))),(4,.int .i64 0)] ?_
 refine cg cT (fun fv dS du cw cu=> ?_)
 have jG:∀(n:Nat) (bL:List dC) (bp:Int),x9 a0 n bL bp=some r→ei aN Ir fv (R [(0,.slice (a0.map fX)),(3,.aL 4 (bL.map hj)),(4,.int .i64 bp)]):=by
  intro m8
  induction m8 with
  |zero=>intro bL bp h;cases(show none=some r from h)
  |succ m8 jH=>
   intro bL bp h
   replace h:HT (x9 a0 m8) a0 bL bp=some r:=h
   refine eI du (fun kl gk e3 da=> ?_)
   refine aU e3 (fun hK fw gZ dz=> ?_)
   refine ws _ ?_
   refine a_ h (fun e7 h=> ?_) (fun e7 h=> ?_)
   ·refine a6 (fw _ (.inl ?_))
    refine aU e3 (fun jk eS ft fW=> ?_)
    refine cg ft (fun mS iO lZ dm jj=> ?_)
    obtain⟨ar,gy,h⟩:=aM h
    obtain⟨aD,fc,h⟩:=aM h
    obtain⟨a7,dn,h⟩:=aM h
    refine mn (cv [(0,.slice (a0.map fX)),(3,.aL 4 ((List.set bL (Int.toNat bp) aD).map hj)),(4,.int .i64 bp)] (fun P al=> ?_) ?_)
    ·simp only[aZ.down,simprocAttr,eJ,fq,lR,th,px,pz,tj,lT,oV,jC,pA,cC,fI,fX,a1,hj,gy,dn,hW dn,ic,gw]
     refine ev (ahH ar _ fc) rfl rfl rfl rfl (.inl (by rfl)) ?_
     simp only[aZ.down,simprocAttr,eJ,fq,lR,th,px,pz,tj,lT,oV,jC,pA,cC,fI,fX,a1,hj,gy,dn,hW dn,ic,gw]
     (try simp only[bn.down,simprocAttr,cC,fI,fX,a1,hj,gy,dn,hW dn,ic,gw]at al⊢);exact al
    refine iO _ (eS _ (.inl ?_))
    refine wr [(0,.slice (a0.map fX)),(3,.aL 4 ((List.set bL (Int.toNat bp) aD).map hj)),(4,.int .i64 (IntKind.i64.wrap (bp+1)))] ?_
    exact gk _ (.inr ⟨_,bJ rfl,jH (List.set bL (Int.toNat bp) aD) (IntKind.i64.wrap (bp+1)) h⟩)
   ·refine eG (dz 0 _ (da 0 _ (cw _ (fu _ (.inl ?_)))))
    refine ws _ ?_
    exact aJ (az _ (.inl (aK [.aL 4 (bL.map hj)])))
 obtain⟨n,h⟩:=eD h
 exact eH (.inr ⟨_,mO [] rfl (jW (t:=0) (d:=.slice (a0.map fX)) rfl (mQ (t:=3) (d:=.aL 4 (List.replicate (Int.toNat (a0.length:Int)) (.agg [(.int .i64 0),(.int .i64 0),.bk,.bk]))) (bf:=.aL 4 ((List.replicate (Int.toNat (a0.length:Int)) (dC.mk 0 0 [] [])).map hj)) rfl rfl (Ch (u:=hj) (z:=(dC.mk 0 0 [] [])) (.agg (.cons (.refl _) (.cons (.refl _) (.cons (.jw _) (.cons (.jw _) (.nil)))))) _) (by decide) (jW (t:=4) (d:=.int .i64 0) rfl (mP)))),jG n (List.replicate (Int.toNat (a0.length:Int)) (dC.mk 0 0 [] [])) 0 h⟩)
theorem ahJ (a0:List Int) (r:(List Int)) (h:vC a0=some r):bh aN 42 [.slice (a0.map bB)] (.aL 1 (r.map bB)) []:=by
 refine b0 [0] [.tmp 2] Tryz.func42 SY (fun bP az bW=> ?_)
 refine ws _ ?_
 obtain⟨ahE,aS,h⟩:=aM h
 refine cP (cv [(0,.slice (a0.map bB)),(3,.aL 1 ((List.replicate (Int.toNat (a0.length:Int)) 0).map bB))] (fun P al=> ?_) ?_)
 ·simp only[aZ.down,simprocAttr,eJ,ie,bB,(ef aS).1,(ef aS).2.1,(ef aS).2.2,dX,List.map_replicate,-Int.reduceNatCast']
  (try simp only[bn.down,simprocAttr,bB,(ef aS).1,(ef aS).2.1,(ef aS).2.2,dX,List.map_replicate,-Int.reduceNatCast']at al⊢);exact al
 refine aU az (fun fZ fu cT bo=> ?_)
 refine ws [(0,.slice (a0.map bB)),(3,.aL 1 ((List.replicate (Int.toNat (a0.length:Int)) 0).map bB)),(4,.int .i64 0)] ?_
 refine cg cT (fun fv dS du cw cu=> ?_)
 have jG:∀(n:Nat) (bL:List Int) (bp:Int),ya a0 n bL bp=some r→ei aN Is fv (R [(0,.slice (a0.map bB)),(3,.aL 1 (bL.map bB)),(4,.int .i64 bp)]):=by
  intro m8
  induction m8 with
  |zero=>intro bL bp h;cases(show none=some r from h)
  |succ m8 jH=>
   intro bL bp h
   replace h:HU (ya a0 m8) a0 bL bp=some r:=h
   refine eI du (fun kl gk e3 da=> ?_)
   refine aU e3 (fun hK fw gZ dz=> ?_)
   refine ws _ ?_
   refine a_ h (fun e7 h=> ?_) (fun e7 h=> ?_)
   ·refine a6 (fw _ (.inl ?_))
    refine aU e3 (fun jk eS ft fW=> ?_)
    refine cg ft (fun mS iO lZ dm jj=> ?_)
    obtain⟨ar,gy,h⟩:=aM h
    obtain⟨aD,fc,h⟩:=aM h
    refine mn (cv [(0,.slice (a0.map bB)),(3,.aL 1 ((List.set bL (Int.toNat bp) ar).map bB)),(4,.int .i64 bp)] (fun P al=> ?_) ?_)
    ·simp only[aZ.down,simprocAttr,eJ,ie,bB,gy,fc,hW fc,ic,gw]
     (try simp only[bn.down,simprocAttr,bB,gy,fc,hW fc,ic,gw]at al⊢);exact al
    refine iO _ (eS _ (.inl ?_))
    refine wr [(0,.slice (a0.map bB)),(3,.aL 1 ((List.set bL (Int.toNat bp) ar).map bB)),(4,.int .i64 (IntKind.i64.wrap (bp+1)))] ?_
    exact gk _ (.inr ⟨_,bJ rfl,jH (List.set bL (Int.toNat bp) ar) (IntKind.i64.wrap (bp+1)) h⟩)
   ·refine eG (dz 0 _ (da 0 _ (cw _ (fu _ (.inl ?_)))))
    refine ws _ ?_
    exact aJ (az _ (.inl (aK [.aL 1 (bL.map bB)])))
 obtain⟨n,h⟩:=eD h
 exact eH (.inr ⟨_,bJ rfl,jG n (List.replicate (Int.toNat (a0.length:Int)) 0) 0 h⟩)
theorem ahK (a0:List (List Int)) (r:(List (List Int))) (h:yc a0=some r):bh aN 22 [.slice (a0.map di)] (.aL 1 (r.map gI)) []:=by
 refine b0 [0] [.tmp 2] Tryz.func22 S7 (fun bP az bW=> ?_)
 refine ws _ ?_
 obtain⟨zH,aS,h⟩:=aM h
 refine cP (cv [(0,.slice (a0.map di)),(3,.aL 1 (List.replicate (Int.toNat (a0.length:Int)) .bk))] (fun P al=> ?_) ?_)
 ·simp only[aZ.down,simprocAttr,eJ,kX,ie,bB,di,(ef aS).1,(ef aS).2.1,(ef aS).2.2,dX,List.map_replicate,-Int.reduceNatCast']
  (try simp only[bn.down,simprocAttr,bB,di,(ef aS).1,(ef aS).2.1,(ef aS).2.2,dX,List.map_replicate,-Int.reduceNatCast']at al⊢);exact al
 refine aU az (fun fZ fu cT bo=> ?_)
 refine ws [(0,.slice (a0.map di)),(3,.aL 1 (List.replicate (Int.toNat (a0.length:Int)) .bk)),(4,.int .i64 0)] ?_
 refine cg cT (fun fv dS du cw cu=> ?_)
 have jG:∀(n:Nat) (bL:List (List Int)) (bp:Int),yb a0 n bL bp=some r→ei aN It fv (R [(0,.slice (a0.map di)),(3,.aL 1 (bL.map gI)),(4,.int .i64 bp)]):=by
  intro m8
  induction m8 with
  |zero=>intro bL bp h;cases(show none=some r from h)
  |succ m8 jH=>
   intro bL bp h
   replace h:HV (yb a0 m8) a0 bL bp=some r:=h
   refine eI du (fun kl gk e3 da=> ?_)
   refine aU e3 (fun hK fw gZ dz=> ?_)
   refine ws _ ?_
   refine a_ h (fun e7 h=> ?_) (fun e7 h=> ?_)
   ·refine a6 (fw _ (.inl ?_))
    refine aU e3 (fun jk eS ft fW=> ?_)
    refine cg ft (fun mS iO lZ dm jj=> ?_)
    obtain⟨ar,gy,h⟩:=aM h
    obtain⟨aD,fc,h⟩:=aM h
    obtain⟨a7,dn,h⟩:=aM h
    refine mn (cv [(0,.slice (a0.map di)),(3,.aL 1 ((List.set bL (Int.toNat bp) aD).map gI)),(4,.int .i64 bp)] (fun P al=> ?_) ?_)
    ·simp only[aZ.down,simprocAttr,eJ,kX,ie,bB,di,gI,gy,dn,hW dn,ic,gw]
     refine ev (ahJ ar _ fc) rfl rfl rfl rfl (.inl (by rfl)) ?_
     simp only[aZ.down,simprocAttr,eJ,kX,ie,bB,di,gI,gy,dn,hW dn,ic,gw]
     (try simp only[bn.down,simprocAttr,bB,di,gI,gy,dn,hW dn,ic,gw]at al⊢);exact al
    refine iO _ (eS _ (.inl ?_))
    refine wr [(0,.slice (a0.map di)),(3,.aL 1 ((List.set bL (Int.toNat bp) aD).map gI)),(4,.int .i64 (IntKind.i64.wrap (bp+1)))] ?_
    exact gk _ (.inr ⟨_,bJ rfl,jH (List.set bL (Int.toNat bp) aD) (IntKind.i64.wrap (bp+1)) h⟩)
   ·refine eG (dz 0 _ (da 0 _ (cw _ (fu _ (.inl ?_)))))
    refine ws _ ?_
    exact aJ (az _ (.inl (aK [.aL 1 (bL.map gI)])))
 obtain⟨n,h⟩:=eD h
 exact eH (.inr ⟨_,mO [] rfl (jW (t:=0) (d:=.slice (a0.map di)) rfl (mQ (t:=3) (d:=.aL 1 (List.replicate (Int.toNat (a0.length:Int)) .bk)) (bf:=.aL 1 ((List.replicate (Int.toNat (a0.length:Int)) []).map gI)) rfl rfl (Ch (u:=gI) (z:=[]) (.jw _) _) (by decide) (jW (t:=4) (d:=.int .i64 0) rfl (mP)))),jG n (List.replicate (Int.toNat (a0.length:Int)) []) 0 h⟩)
theorem ahL (a0:hH) (r:bZ) (h:vD a0=some r):bh aN 43 [eX a0] (bs r) []:=by
 refine b0 [0] [.cell 2 88] Tryz.func43 Te (fun bP az bW=> ?_)
 refine ws _ ?_
 refine ws _ ?_
 refine ws _ ?_
 refine ws _ ?_
 refine ws _ ?_
 refine ws _ ?_
 refine ws _ ?_
 exact aJ (az _ (.inl (aK [bs (bZ.mk a0.Kind a0.Variable a0.Label a0.Not)])))
theorem ahM (a0:List hH) (r:(List bZ)) (h:ye a0=some r):bh aN 23 [.slice (a0.map eX)] (.aL 4 (r.map bs)) []:=by
 refine b0 [0] [.tmp 2] Tryz.func23 Tn (fun bP az bW=> ?_)
 refine ws _ ?_
 obtain⟨zH,aS,h⟩:=aM h
 refine cP (cv [(0,.slice (a0.map eX)),(3,.aL 4 ((List.replicate (Int.toNat (a0.length:Int)) (bZ.mk 0 0 ([]:List UInt8) false)).map bs))] (fun P al=> ?_) ?_)
 ·simp only[aZ.down,simprocAttr,eJ,kW,fq,oT,lS,oU,lo,bs,eX,(ef aS).1,(ef aS).2.1,(ef aS).2.2,dX,List.map_replicate,-Int.reduceNatCast']
  (try simp only[bn.down,simprocAttr,bs,eX,(ef aS).1,(ef aS).2.1,(ef aS).2.2,dX,List.map_replicate,-Int.reduceNatCast']at al⊢);exact al
 refine aU az (fun fZ fu cT bo=> ?_)
 refine ws [(0,.slice (a0.map eX)),(3,.aL 4 ((List.replicate (Int.toNat (a0.length:Int)) (bZ.mk 0 0 ([]:List UInt8) false)).map bs)),(4,.int .i64 0)] ?_
 refine cg cT (fun fv dS du cw cu=> ?_)
 have jG:∀(n:Nat) (bL:List bZ) (bp:Int),yd a0 n bL bp=some r→ei aN Iu fv (R [(0,.slice (a0.map eX)),(3,.aL 4 (bL.map bs)),(4,.int .i64 bp)]):=by
  intro m8
  induction m8 with
  |zero=>intro bL bp h;cases(show none=some r from h)
  |succ m8 jH=>
   intro bL bp h
   replace h:HW (yd a0 m8) a0 bL bp=some r:=h
   refine eI du (fun kl gk e3 da=> ?_)
   refine aU e3 (fun hK fw gZ dz=> ?_)
   refine ws _ ?_
   refine a_ h (fun e7 h=> ?_) (fun e7 h=> ?_)
   ·refine a6 (fw _ (.inl ?_))
    refine aU e3 (fun jk eS ft fW=> ?_)
    refine cg ft (fun mS iO lZ dm jj=> ?_)
    obtain⟨ar,gy,h⟩:=aM h
    obtain⟨aD,fc,h⟩:=aM h
    obtain⟨a7,dn,h⟩:=aM h
    refine mn (cv [(0,.slice (a0.map eX)),(3,.aL 4 ((List.set bL (Int.toNat bp) aD).map bs)),(4,.int .i64 bp)] (fun P al=> ?_) ?_)
    ·simp only[aZ.down,simprocAttr,eJ,kW,fq,oT,lS,oU,lo,bs,eX,gy,dn,hW dn,ic,gw]
     refine ev (ahL ar _ fc) rfl rfl rfl rfl (.inl (by rfl)) ?_
     simp only[aZ.down,simprocAttr,eJ,kW,fq,oT,lS,oU,lo,bs,eX,gy,dn,hW dn,ic,gw]
     (try simp only[bn.down,simprocAttr,bs,eX,gy,dn,hW dn,ic,gw]at al⊢);exact al
    refine iO _ (eS _ (.inl ?_))
    refine wr [(0,.slice (a0.map eX)),(3,.aL 4 ((List.set bL (Int.toNat bp) aD).map bs)),(4,.int .i64 (IntKind.i64.wrap (bp+1)))] ?_
    exact gk _ (.inr ⟨_,bJ rfl,jH (List.set bL (Int.toNat bp) aD) (IntKind.i64.wrap (bp+1)) h⟩)
   ·refine eG (dz 0 _ (da 0 _ (cw _ (fu _ (.inl ?_)))))
    refine ws _ ?_
    exact aJ (az _ (.inl (aK [.aL 4 (bL.map bs)])))
 obtain⟨n,h⟩:=eD h
 exact eH (.inr ⟨_,bJ rfl,jG n (List.replicate (Int.toNat (a0.length:Int)) (bZ.mk 0 0 ([]:List UInt8) false)) 0 h⟩)
theorem zI (a0:gQ) (r:dM) (h:qq a0=some r):bh aN 8 [e_ a0] (gC r) []:=by
 refine b0 [0] [.cell 2 41] Tryz.func8 Tv (fun bP az bW=> ?_)
 refine ws _ ?_
 refine ws _ ?_
 refine ws _ ?_
 refine ws _ ?_
 refine ws _ ?_
 obtain⟨ar,bH,h⟩:=aM h
 refine dH (ahK a0.gz _ bH) _ ?_
 obtain⟨aD,h7,h⟩:=aM h
 refine dH (ahM a0.Formula _ h7) _ ?_
 refine ws _ ?_
 exact aJ (az _ (.inl (aK [gC (dM.mk a0.Kind a0.Left a0.hT ar aD)])))
theorem ahN (a0:List gQ) (r:(List dM)) (h:yg a0=some r):bh aN 21 [.slice (a0.map e_)] (.aL 5 (r.map gC)) []:=by
 refine b0 [0] [.tmp 2] Tryz.func21 TD (fun bP az bW=> ?_)
 refine ws _ ?_
 obtain⟨zH,aS,h⟩:=aM h
 refine cP (cv [(0,.slice (a0.map e_)),(3,.aL 5 (List.replicate (Int.toNat (a0.length:Int)) (.agg [(.int .i64 0),(.int .i64 0),(.int .i64 0),.bk,.bk])))] (fun P al=> ?_) ?_)
 ·simp only[aZ.down,simprocAttr,eJ,kW,fq,ti,kX,oT,rF,py,lS,ob,ie,oU,lo,bB,e_,eX,di,(ef aS).1,(ef aS).2.1,(ef aS).2.2,dX,List.map_replicate,-Int.reduceNatCast']
  (try simp only[bn.down,simprocAttr,bB,e_,eX,di,(ef aS).1,(ef aS).2.1,(ef aS).2.2,dX,List.map_replicate,-Int.reduceNatCast']at al⊢);exact al
 refine aU az (fun fZ fu cT bo=> ?_)
 refine ws [(0,.slice (a0.map e_)),(3,.aL 5 (List.replicate (Int.toNat (a0.length:Int)) (.agg [(.int .i64 0),(.int .i64 0),(.int .i64 0),.bk,.bk]))),(4,.int .i64 0)] ?_
 refine cg cT (fun fv dS du cw cu=> ?_)
 have jG:∀(n:Nat) (bL:List dM) (bp:Int),yf a0 n bL bp=some r→ei aN Iv fv (R [(0,.slice (a0.map e_)),(3,.aL 5 (bL.map gC)),(4,.int .i64 bp)]):=by
  intro m8
  induction m8 with
  |zero=>intro bL bp h;cases(show none=some r from h)
  |succ m8 jH=>
   intro bL bp h
   replace h:HX (yf a0 m8) a0 bL bp=some r:=h
   refine eI du (fun kl gk e3 da=> ?_)
   refine aU e3 (fun hK fw gZ dz=> ?_)
   refine ws _ ?_
   refine a_ h (fun e7 h=> ?_) (fun e7 h=> ?_)
   ·refine a6 (fw _ (.inl ?_))
    refine aU e3 (fun jk eS ft fW=> ?_)
    refine cg ft (fun mS iO lZ dm jj=> ?_)
    obtain⟨ar,gy,h⟩:=aM h
    obtain⟨aD,fc,h⟩:=aM h
    obtain⟨a7,dn,h⟩:=aM h
    refine mn (cv [(0,.slice (a0.map e_)),(3,.aL 5 ((List.set bL (Int.toNat bp) aD).map gC)),(4,.int .i64 bp)] (fun P al=> ?_) ?_)
    ·simp only[aZ.down,simprocAttr,eJ,kW,fq,ti,kX,oT,rF,py,lS,ob,ie,oU,lo,bB,bs,e_,eX,di,gC,gI,gy,dn,hW dn,ic,gw]
     refine ev (zI ar _ fc) rfl rfl rfl rfl (.inl (by rfl)) ?_
     simp only[aZ.down,simprocAttr,eJ,kW,fq,ti,kX,oT,rF,py,lS,ob,ie,oU,lo,bB,bs,e_,eX,di,gC,gI,gy,dn,hW dn,ic,gw]
     (try simp only[bn.down,simprocAttr,bB,bs,e_,eX,di,gC,gI,gy,dn,hW dn,ic,gw]at al⊢);exact al
    refine iO _ (eS _ (.inl ?_))
    refine wr [(0,.slice (a0.map e_)),(3,.aL 5 ((List.set bL (Int.toNat bp) aD).map gC)),(4,.int .i64 (IntKind.i64.wrap (bp+1)))] ?_
    exact gk _ (.inr ⟨_,bJ rfl,jH (List.set bL (Int.toNat bp) aD) (IntKind.i64.wrap (bp+1)) h⟩)
   ·refine eG (dz 0 _ (da 0 _ (cw _ (fu _ (.inl ?_)))))
    refine ws _ ?_
    exact aJ (az _ (.inl (aK [.aL 5 (bL.map gC)])))
 obtain⟨n,h⟩:=eD h
 exact eH (.inr ⟨_,mO [] rfl (jW (t:=0) (d:=.slice (a0.map e_)) rfl (mQ (t:=3) (d:=.aL 5 (List.replicate (Int.toNat (a0.length:Int)) (.agg [(.int .i64 0),(.int .i64 0),(.int .i64 0),.bk,.bk]))) (bf:=.aL 5 ((List.replicate (Int.toNat (a0.length:Int)) (dM.mk 0 0 0 [] [])).map gC)) rfl rfl (Ch (u:=gC) (z:=(dM.mk 0 0 0 [] [])) (.agg (.cons (.refl _) (.cons (.refl _) (.cons (.refl _) (.cons (.jw _) (.cons (.jw _) (.nil))))))) _) (by decide) (jW (t:=4) (d:=.int .i64 0) rfl (mP)))),jG n (List.replicate (Int.toNat (a0.length:Int)) (dM.mk 0 0 0 [] [])) 0 h⟩)
theorem De (a0:ky) (r:gx) (h:tl a0=some r):bh aN 7 [mr a0] (nD r) []:=by
 refine b0 [0] [.cell 2 37] Tryz.func7 TJ (fun bP az bW=> ?_)
 refine ws _ ?_
 refine ws _ ?_
 obtain⟨ar,bQ,h⟩:=aM h
 refine dH (Jq a0.Names _ bQ) _ ?_
 obtain⟨aD,bK,h⟩:=aM h
 refine dH (ahI a0.dB _ bK) _ ?_
 obtain⟨a7,gb,h⟩:=aM h
 refine dH (ahN a0.ji _ gb) _ ?_
 refine ws _ ?_
 exact aJ (az _ (.inl (aK [nD (gx.mk ar aD a7)])))
theorem Df (a0:UInt8) (r:Bool) (h:vE a0=some r):bh aN 56 [.int .u8 (a0.toNat:Int)] (.bool r) []:=by
 refine b0 [0] [.tmp 2] Tryz.func56 TM (fun bP az bW=> ?_)
 refine ws _ ?_
 refine cP (cv [(2,.bool ((decide (97≤(a0.toNat:Int)))&&(decide ((a0.toNat:Int)≤122))))] (fun P al=> ?_) ?_)
 ·rcases Bool.eq_false_or_eq_true (decide (97≤(a0.toNat:Int)))with dL|dL
  ·simp only[aZ.down,simprocAttr,dL]
   (try simp only[bn.down,simprocAttr,dL]at al⊢);exact al
  ·simp only[aZ.down,simprocAttr,dL]
   (try simp only[bn.down,simprocAttr,dL]at al⊢);exact al
 exact aJ (az _ (.inl (aK [.bool ((decide (97≤(a0.toNat:Int)))&&(decide ((a0.toNat:Int)≤122)))])))
theorem Dg (a0:UInt8) (r:Bool) (h:tm a0=some r):bh aN 57 [.int .u8 (a0.toNat:Int)] (.bool r) []:=by
 refine b0 [0] [.tmp 2] Tryz.func57 TP (fun bP az bW=> ?_)
 refine ws _ ?_
 refine cP (cv [(2,.bool ((decide (48≤(a0.toNat:Int)))&&(decide ((a0.toNat:Int)≤57))))] (fun P al=> ?_) ?_)
 ·rcases Bool.eq_false_or_eq_true (decide (48≤(a0.toNat:Int)))with dL|dL
  ·simp only[aZ.down,simprocAttr,dL]
   (try simp only[bn.down,simprocAttr,dL]at al⊢);exact al
  ·simp only[aZ.down,simprocAttr,dL]
   (try simp only[bn.down,simprocAttr,dL]at al⊢);exact al
 exact aJ (az _ (.inl (aK [.bool ((decide (48≤(a0.toNat:Int)))&&(decide ((a0.toNat:Int)≤57)))])))
theorem tN (a0:List UInt8) (r:Bool) (h:tp a0=some r):bh aN 34 [.str a0] (.bool r) []:=by
 refine b0 [0] [.tmp 2] Tryz.func34 T2 (fun bP az bW=> ?_)
 refine ws _ ?_
 refine aU az (fun fl cA bD aD=> ?_)
 rcases dA h with⟨cq,h⟩|⟨cq,h⟩
 ·refine fs cq _ ?_
  refine fC rfl ?_
  refine ws _ ?_
  exact aJ (bD _ (.inl (aK [.bool false])))
 ·rcases dA h with⟨cw,h⟩|⟨cw,h⟩
  ·refine fs (And.intro cq cw) _ ?_
   refine fC rfl ?_
   refine ws _ ?_
   exact aJ (bD _ (.inl (aK [.bool false])))
  ·obtain⟨ar,gb,h⟩:=aM h
   obtain⟨aD,h7,h⟩:=aM h
   refine cP (cv [(0,.str a0),(16,.bool (!aD))] (fun P al=> ?_) ?_)
   ·simp only[aZ.down,simprocAttr,fq,cq,cw,gb]
    refine eQ (Df ar _ h7) rfl rfl rfl rfl (.inl (by rfl)) ?_
    simp only[aZ.down,simprocAttr,fq,cq,cw,gb]
    (try simp only[bn.down,simprocAttr,cq,cw,gb]at al⊢);exact al
   refine a_ h (fun e7 h=> ?_) (fun e7 h=> ?_)
   ·refine ws _ ?_
    exact aJ (bD _ (.inl (aK [.bool false])))
   ·refine a6 (cA _ (.inl ?_))
    refine aU az (fun mS iO lZ jj=> ?_)
    refine ws _ ?_
    refine cg lZ (fun i1 eY eZ fJ i6=> ?_)
    have hL:∀(n:Nat) (cy:Int),tn a0 n cy=some r→ei aN Iw i1 (R [(0,.str a0),(3,.int .i64 cy)]):=by
     intro m14
     induction m14 with
     |zero=>intro cy h;cases(show none=some r from h)
     |succ m14 gE=>
      intro cy h
      replace h:yh (tn a0 m14) a0 cy=some r:=h
      refine eI eZ (fun lY gY hJ k5=> ?_)
      refine aU hJ (fun oh j3 iy oY=> ?_)
      refine ws _ ?_
      refine a_ h (fun i7 h=> ?_) (fun i7 h=> ?_)
      ·refine a6 (j3 _ (.inl ?_))
       refine aU hJ (fun zJ oi pJ tO=> ?_)
       refine cg pJ (fun ahO zK Dh gD ahP=> ?_)
       obtain⟨a7,g_,h⟩:=aM h
       obtain⟨bo,fO,h⟩:=aM h
       rcases dA h with⟨jI,h⟩|⟨jI,h⟩
       ·obtain⟨c1,qE,h⟩:=aM h
        refine cP (cv [(0,.str a0),(3,.int .i64 cy),(34,.bool (!c1))] (fun P al=> ?_) ?_)
        ·simp only[aZ.down,simprocAttr,fq,g_,(cZ jI)]
         refine ev (Df a7 _ fO) rfl rfl rfl rfl (.inl (by rfl)) ?_
         simp only[aZ.down,simprocAttr,fq,g_,(cZ jI)]
         refine eQ (Dg a7 _ qE) rfl rfl rfl rfl (.inl (by rfl)) ?_
         simp only[aZ.down,simprocAttr,fq,g_,(cZ jI)]
         (try simp only[bn.down,simprocAttr,g_,(cZ jI)]at al⊢);exact al
        refine a_ h (fun iP h=> ?_) (fun iP h=> ?_)
        ·refine ws _ ?_
         exact aJ (Dh _ (.inl (aK [.bool false])))
        ·refine a6 (zK _ (oi _ (.inl ?_)))
         refine wr _ ?_
         exact gY _ (.inr ⟨_,bJ rfl,gE (IntKind.i64.wrap (cy+1)) h⟩)
       ·refine hk (And.intro g_ (aR jI)) (Df a7 _ fO) _ ?_
        refine lk rfl ?_
        refine a6 (zK _ (oi _ (.inl ?_)))
        refine wr _ ?_
        exact gY _ (.inr ⟨_,bJ rfl,gE (IntKind.i64.wrap (cy+1)) h⟩)
      ·refine eG (oY 0 _ (k5 0 _ (fJ _ (iO _ (.inl ?_)))))
       refine ws _ ?_
       exact aJ (az _ (.inl (aK [.bool true])))
    obtain⟨n,h⟩:=eD h
    exact eH (.inr ⟨_,bJ rfl,hL n 0 h⟩)
theorem Jr (a0:List (List UInt8)) (ab:List UInt8) (r:Int) (h:yj a0 ab=some r):bh aN 35 [.slice (a0.map a1),.str ab] (.int .i64 r) []:=by
 refine b0 [0,1] [.tmp 4] Tryz.func35 rQ (fun bP az bW=> ?_)
 refine ws _ ?_
 refine aU az (fun fl cA bD aD=> ?_)
 refine ws _ ?_
 refine cg bD (fun fZ fu cT cq bo=> ?_)
 have k6:∀(n:Nat) (cF:Int),tq a0 ab n cF=some r→ei aN Ix fZ (R [(0,.slice (a0.map a1)),(1,.str ab),(5,.int .i64 cF)]):=by
  intro m6
  induction m6 with
  |zero=>intro cF h;cases(show none=some r from h)
  |succ m6 jl=>
   intro cF h
   replace h:yi (tq a0 ab m6) a0 ab cF=some r:=h
   refine eI cT (fun kD gl fF c1=> ?_)
   refine aU fF (fun fv dS du cu=> ?_)
   refine ws _ ?_
   refine a_ h (fun cm h=> ?_) (fun cm h=> ?_)
   ·refine a6 (dS _ (.inl ?_))
    refine aU fF (fun hB eK ee dU=> ?_)
    refine cg ee (fun fY c6 dk e7 dN=> ?_)
    obtain⟨ar,fi,h⟩:=aM h
    refine fs fi _ ?_
    refine a_ h (fun gR h=> ?_) (fun gR h=> ?_)
    ·refine ws _ ?_
     exact aJ (dk _ (.inl (aK [.int .i64 cF])))
    ·refine a6 (c6 _ (eK _ (.inl ?_)))
     refine wr _ ?_
     exact gl _ (.inr ⟨_,bJ rfl,jl (IntKind.i64.wrap (cF+1)) h⟩)
   ·refine eG (cu 0 _ (c1 0 _ (cq _ (cA _ (.inl ?_)))))
    refine ws _ ?_
    exact aJ (az _ (.inl (aK [.int .i64 (-1)])))
 obtain⟨n,h⟩:=eD h
 exact eH (.inr ⟨_,bJ rfl,k6 n 0 h⟩)
theorem jm (a0:Int) (ab:Int) (a2:Int) (r:Bool) (h:kz a0 ab a2=some r):bh aN 37 [.int .i64 a0,.int .i64 ab,.int .i64 a2] (.bool r) []:=by
 refine b0 [0,1,2] [.tmp 6] Tryz.func37 Uc (fun bP az bW=> ?_)
 refine ws _ ?_
 refine cP (cv [(6,.bool ((decide (ab≤a0))&&(decide (a0≤a2))))] (fun P al=> ?_) ?_)
 ·rcases Bool.eq_false_or_eq_true (decide (ab≤a0))with dL|dL
  ·simp only[aZ.down,simprocAttr,dL]
   (try simp only[bn.down,simprocAttr,dL]at al⊢);exact al
  ·simp only[aZ.down,simprocAttr,dL]
   (try simp only[bn.down,simprocAttr,dL]at al⊢);exact al
 exact aJ (az _ (.inl (aK [.bool ((decide (ab≤a0))&&(decide (a0≤a2)))])))
theorem ahQ (a0:List UInt8) (r:Int) (h:tr a0=some r):bh aN 98 [.str a0] (.int .i64 r) []:=by
 refine b0 [0] [.tmp 2] Tryz.func98 Um (fun bP az bW=> ?_)
 refine ws _ ?_
 refine aU az (fun fl cA bD aD=> ?_)
 refine ws _ ?_
 refine cg bD (fun fZ fu cT cq bo=> ?_)
 have k6:∀(n:Nat) (mo:Int),pB a0 n mo=some r→ei aN Iy fZ (R [(0,.str a0),(3,.int .i64 mo)]):=by
  intro m6
  induction m6 with
  |zero=>intro mo h;cases(show none=some r from h)
  |succ m6 jl=>
   intro mo h
   replace h:yk (pB a0 m6) a0 mo=some r:=h
   refine eI cT (fun kD gl fF c1=> ?_)
   refine aU fF (fun fv dS du cu=> ?_)
   refine ws _ ?_
   refine a_ h (fun cm h=> ?_) (fun cm h=> ?_)
   ·refine a6 (dS _ (.inl ?_))
    refine aU fF (fun hB eK ee dU=> ?_)
    refine cg ee (fun fY c6 dk e7 dN=> ?_)
    obtain⟨ar,fi,h⟩:=aM h
    refine fs fi _ ?_
    refine a_ h (fun gR h=> ?_) (fun gR h=> ?_)
    ·refine ws _ ?_
     exact aJ (dk _ (.inl (aK [.int .i64 mo])))
    ·refine a6 (c6 _ (eK _ (.inl ?_)))
     refine wr _ ?_
     exact gl _ (.inr ⟨_,bJ rfl,jl (IntKind.i64.wrap (mo+1)) h⟩)
   ·refine eG (cu 0 _ (c1 0 _ (cq _ (cA _ (.inl ?_)))))
    refine ws _ ?_
    exact aJ (az _ (.inl (aK [.int .i64 (a0.length:Int)])))
 obtain⟨n,h⟩:=eD h
 exact eH (.inr ⟨_,bJ rfl,k6 n 0 h⟩)
theorem Di (a0:List UInt8) (r:Bool) (h:vF a0=some r):bh aN 89 [.str a0] (.bool r) []:=by
 refine b0 [0] [.tmp 2] Tryz.func89 Up (fun bP az bW=> ?_)
 refine ws _ ?_
 obtain⟨ar,aS,h⟩:=aM h
 refine cP (cv [(2,.bool (ar&&(!(a0==([116,97,117]:List UInt8)))))] (fun P al=> ?_) ?_)
 ·rcases Bool.eq_false_or_eq_true (ar)with gV|gV
  ·simp only[aZ.down,simprocAttr,gV]
   refine ev (tN a0 _ aS) rfl rfl rfl rfl (.inl (by rfl)) ?_
   simp only[aZ.down,simprocAttr,gV]
   (try simp only[bn.down,simprocAttr,gV]at al⊢);exact al
  ·simp only[aZ.down,simprocAttr,gV]
   refine ev (tN a0 _ aS) rfl rfl rfl rfl (.inl (by rfl)) ?_
   simp only[aZ.down,simprocAttr,gV]
   (try simp only[bn.down,simprocAttr,gV]at al⊢);exact al
 exact aJ (az _ (.inl (aK [.bool (ar&&(!(a0==([116,97,117]:List UInt8))))])))
theorem ahR (a0:List UInt8) (ab:UInt8) (r:(List (List UInt8))) (h:yn a0 ab=some r):bh aN 99 [.str a0,.int .u8 (ab.toNat:Int)] (.aL 1 (r.map a1)) []:=by
 refine b0 [0,1] [.tmp 4] Tryz.func99 UB (fun bP az bW=> ?_)
 refine ws _ ?_
 refine fs (show∀s,dT aN s 22 0 []=some (.aL 1 [],s)from fun s=>by kernel_rfl) _ ?_
 refine ws _ ?_
 refine aU az (fun fZ fu cT bo=> ?_)
 refine ws _ ?_
 refine cg cT (fun fv dS du cw cu=> ?_)
 have ahS:∀(n:Nat) (kh:List (List UInt8)) (ny:Int) (jX:Int),qs a0 ab n kh ny jX=some r→ei aN IA fv (R [(0,.str a0),(1,.int .u8 (ab.toNat:Int)),(5,.aL 1 (kh.map a1)),(6,.int .i64 ny),(7,.int .i64 jX)]):=by
  intro m10
  induction m10 with
  |zero=>intro kh ny jX h;cases(show none=some r from h)
  |succ m10 ahT=>
   intro kh ny jX h
   replace h:ym (qs a0 ab m10) a0 ab kh ny jX=some r:=h
   refine eI du (fun kl gk e3 da=> ?_)
   refine aU e3 (fun hK fw gZ dz=> ?_)
   refine ws _ ?_
   refine a_ h (fun e7 h=> ?_) (fun e7 h=> ?_)
   ·refine a6 (fw _ (.inl ?_))
    have wt:∀(ts:List (List UInt8)) (tt:Int) (tu:Int),yl (qs a0 ab m10) a0 ab ts tt tu=some r→cK aN Iz kl (R [(0,.str a0),(1,.int .u8 (ab.toNat:Int)),(5,.aL 1 (ts.map a1)),(6,.int .i64 tt),(7,.int .i64 tu)]):=by
     intro ts tt tu h
     refine wr _ ?_
     exact gk _ (.inr ⟨_,bJ rfl,ahT ts tt (IntKind.i64.wrap (tu+1)) h⟩)
    refine aU e3 (fun jk eS ft fW=> ?_)
    refine cg ft (fun mT i_ jn gR kY=> ?_)
    obtain⟨ar,fc,h⟩:=aM h
    refine fs fc _ ?_
    refine a_ h (fun eL h=> ?_) (fun eL h=> ?_)
    ·obtain⟨aD,eB,h⟩:=aM h
     obtain⟨ahU,l0,h⟩:=aM h
     (try simp only[rW.down,Nat.reduceAdd]at l0)
     refine cP (cv [(0,.str a0),(1,.int .u8 (ab.toNat:Int)),(5,.aL 1 ((kh++[aD]).map a1)),(7,.int .i64 jX)] (fun P al=> ?_) ?_)
     ·simp only[aZ.down,simprocAttr,k2.down,eB,(show∀s,dT aN s 22 1 [(0,.str aD)]=some (.aL 1 [.str aD],s)from fun s=>by kernel_rfl), @qk aN 22 22 9 rfl rfl,ql,qm,qn,all_cons,all_nil,l0, @ib _ a1 1 (fun _=>rfl)]
      (try simp only[bn.down,simprocAttr,a1,eB,(show∀s,dT aN s 22 1 [(0,.str aD)]=some (.aL 1 [.str aD],s)from fun s=>by kernel_rfl), @qk aN 22 22 9 rfl rfl,ql,qm,qn,all_cons,all_nil,l0, @ib _ a1 1 (fun _=>rfl)]at al⊢);exact al
     refine wr [(0,.str a0),(1,.int .u8 (ab.toNat:Int)),(5,.aL 1 ((kh++[aD]).map a1)),(6,.int .i64 (IntKind.i64.wrap (jX+1))),(7,.int .i64 jX)] ?_
     exact i_ _ (eS _ (.inr ⟨_,bJ rfl,wt (kh++[aD]) (IntKind.i64.wrap (jX+1)) jX h⟩))
    ·exact a6 (i_ _ (eS _ (.inr ⟨_,bJ rfl,wt kh ny jX h⟩)))
   ·refine eG (dz 0 _ (da 0 _ (cw _ (fu _ (.inl ?_)))))
    obtain⟨a7,g_,h⟩:=aM h
    obtain⟨amK,fO,h⟩:=aM h
    (try simp only[rW.down,Nat.reduceAdd]at fO)
    refine cP (cv [(4,.aL 1 ((kh++[a7]).map a1))] (fun P al=> ?_) ?_)
    ·simp only[aZ.down,simprocAttr,k2.down,g_,(show∀s,dT aN s 22 1 [(0,.str a7)]=some (.aL 1 [.str a7],s)from fun s=>by kernel_rfl), @qk aN 22 22 9 rfl rfl,ql,qm,qn,all_cons,all_nil,fO, @ib _ a1 1 (fun _=>rfl)]
     (try simp only[bn.down,simprocAttr,a1,g_,(show∀s,dT aN s 22 1 [(0,.str a7)]=some (.aL 1 [.str a7],s)from fun s=>by kernel_rfl), @qk aN 22 22 9 rfl rfl,ql,qm,qn,all_cons,all_nil,fO, @ib _ a1 1 (fun _=>rfl)]at al⊢);exact al
    exact aJ (az _ (.inl (aK [.aL 1 ((kh++[a7]).map a1)])))
 obtain⟨n,h⟩:=eD h
 exact eH (.inr ⟨_,bJ rfl,ahS n [] 0 0 h⟩)
theorem ahV (a0:List UInt8) (r:Int×Bool) (h:yo a0=some r):bh aN 100 [.str a0] (.tuple [.int .i64 r.1,.bool r.2]) []:=by
 refine b0 [0] [.tmp 2,.tmp 3] Tryz.func100 UW (fun bP az bW=> ?_)
 refine ws _ ?_
 refine ws _ ?_
 have Dj:∀(ig:Int),tv a0 ig=some r→cK aN IB bP (R [(0,.str a0),(4,.int .i64 ig)]):=by
  intro ig h
  refine aU az (fun fZ fu cT bo=> ?_)
  rcases dA h with⟨cw,h⟩|⟨cw,h⟩
  ·refine fs cw _ ?_
   refine fC rfl ?_
   refine ws _ ?_
   exact aJ (cT _ (.inl (aK [.int .i64 0,.bool false])))
  ·rcases dA h with⟨cm,h⟩|⟨cm,h⟩
   ·refine fs (And.intro cw cm) _ ?_
    refine fC rfl ?_
    refine ws _ ?_
    exact aJ (cT _ (.inl (aK [.int .i64 0,.bool false])))
   ·obtain⟨ar,iQ,h⟩:=aM h
    rcases dA h with⟨lu,h⟩|⟨lu,h⟩
    ·refine fs (And.intro cw (And.intro cm (And.intro iQ lu))) _ ?_
     refine a_ h (fun dm h=> ?_) (fun dm h=> ?_)
     ·refine ws _ ?_
      exact aJ (cT _ (.inl (aK [.int .i64 0,.bool false])))
     ·refine a6 (fu _ (.inl ?_))
      refine ws _ ?_
      refine aU az (fun lY gY hJ k5=> ?_)
      refine ws _ ?_
      refine cg hJ (fun wu oj nF mu tP=> ?_)
      have Dk:∀(n:Nat) (iZ:Int) (ki:Int),od a0 ig n iZ ki=some r→ei aN C8 wu (R [(0,.str a0),(4,.int .i64 ig),(5,.int .i64 iZ),(6,.int .i64 ki)]):=by
       intro m24
       induction m24 with
       |zero=>intro iZ ki h;cases(show none=some r from h)
       |succ m24 Dl=>
        intro iZ ki h
        replace h:vH (od a0 ig m24) a0 ig iZ ki=some r:=h
        refine eI nF (fun tQ l1 lv qF=> ?_)
        refine aU lv (fun zJ oi pJ tO=> ?_)
        refine ws _ ?_
        refine a_ h (fun j4 h=> ?_) (fun j4 h=> ?_)
        ·refine a6 (oi _ (.inl ?_))
         refine aU lv (fun wv mU l3 rY=> ?_)
         refine cg l3 (fun ahW Dm Js hZ Jt=> ?_)
         refine aU Js (fun Ju Jv Dn ahX=> ?_)
         obtain⟨aD,km,h⟩:=aM h
         obtain⟨a7,jJ,h⟩:=aM h
         refine hk km (Dg aD _ jJ) _ ?_
         refine a_ h (fun iz h=> ?_) (fun iz h=> ?_)
         ·refine ws _ ?_
          exact aJ (Dn _ (.inl (aK [.int .i64 0,.bool false])))
         ·refine a6 (Jv _ (.inl ?_))
          refine Db (And.intro km (@G5 aN 5 2 .i64 rfl rfl)) _ ?_
          refine Dm _ (mU _ (.inl ?_))
          refine wr _ ?_
          exact l1 _ (.inr ⟨_,bJ rfl,Dl (IntKind.i64.wrap ((IntKind.i64.wrap (10*iZ))+(IntKind.i64.wrap (IntKind.u8.wrap ((aD.toNat:Int)-48))))) (IntKind.i64.wrap (ki+1)) h⟩)
        ·refine eG (tO 0 _ (qF 0 _ (mu _ (gY _ (.inl ?_)))))
         have wx:∀(oc:Int),vG oc=some r→cK aN C9 bP (R [(5,.int .i64 oc)]):=by
          intro oc h
          refine ws _ ?_
          exact aJ (az _ (.inl (aK [.int .i64 oc,.bool true])))
         refine aU az (fun amL Jw amM amN=> ?_)
         refine ws _ ?_
         refine a_ h (fun Dp h=> ?_) (fun Dp h=> ?_)
         ·refine wr _ ?_
          exact Jw _ (.inr ⟨_,bJ rfl,wx (IntKind.i64.wrap (0-iZ)) h⟩)
         ·exact a6 (Jw _ (.inr ⟨_,bJ rfl,wx iZ h⟩))
      obtain⟨n,h⟩:=eD h
      exact eH (.inr ⟨_,bJ rfl,Dk n 0 ig h⟩)
    ·refine fs (And.intro cw (And.intro cm (And.intro iQ lu))) _ ?_
     refine lk rfl ?_
     refine a6 (fu _ (.inl ?_))
     refine ws _ ?_
     refine aU az (fun ahY Dq Dr ahZ=> ?_)
     refine ws _ ?_
     refine cg Dr (fun Ds ah0 Dt wy ah1=> ?_)
     have Dk:∀(n:Nat) (iZ:Int) (ki:Int),od a0 ig n iZ ki=some r→ei aN C8 Ds (R [(0,.str a0),(4,.int .i64 ig),(5,.int .i64 iZ),(6,.int .i64 ki)]):=by
      intro m24
      induction m24 with
      |zero=>intro iZ ki h;cases(show none=some r from h)
      |succ m24 Dl=>
       intro iZ ki h
       replace h:vH (od a0 ig m24) a0 ig iZ ki=some r:=h
       refine eI Dt (fun ah2 zL wz Du=> ?_)
       refine aU wz (fun amO ah3 amP ah4=> ?_)
       refine ws _ ?_
       refine a_ h (fun Dv h=> ?_) (fun Dv h=> ?_)
       ·refine a6 (ah3 _ (.inl ?_))
        refine aU wz (fun ah5 tR Dw ah6=> ?_)
        refine cg Dw (fun ah7 zM tS ah8 ah9=> ?_)
        refine aU tS (fun amQ ah_ aia amR=> ?_)
        obtain⟨bo,Jx,h⟩:=aM h
        obtain⟨c1,rZ,h⟩:=aM h
        refine hk Jx (Dg bo _ rZ) _ ?_
        refine a_ h (fun ik h=> ?_) (fun ik h=> ?_)
        ·refine ws _ ?_
         exact aJ (aia _ (.inl (aK [.int .i64 0,.bool false])))
        ·refine a6 (ah_ _ (.inl ?_))
         refine Db (And.intro Jx (@G5 aN 5 2 .i64 rfl rfl)) _ ?_
         refine zM _ (tR _ (.inl ?_))
         refine wr _ ?_
         exact zL _ (.inr ⟨_,bJ rfl,Dl (IntKind.i64.wrap ((IntKind.i64.wrap (10*iZ))+(IntKind.i64.wrap (IntKind.u8.wrap ((bo.toNat:Int)-48))))) (IntKind.i64.wrap (ki+1)) h⟩)
       ·refine eG (ah4 0 _ (Du 0 _ (wy _ (Dq _ (.inl ?_)))))
        have wx:∀(oc:Int),vG oc=some r→cK aN C9 bP (R [(5,.int .i64 oc)]):=by
         intro oc h
         refine ws _ ?_
         exact aJ (az _ (.inl (aK [.int .i64 oc,.bool true])))
        refine aU az (fun amS Jy amT amU=> ?_)
        refine ws _ ?_
        refine a_ h (fun aib h=> ?_) (fun aib h=> ?_)
        ·refine wr _ ?_
         exact Jy _ (.inr ⟨_,bJ rfl,wx (IntKind.i64.wrap (0-iZ)) h⟩)
        ·exact a6 (Jy _ (.inr ⟨_,bJ rfl,wx iZ h⟩))
     obtain⟨n,h⟩:=eD h
     exact eH (.inr ⟨_,bJ rfl,Dk n 0 ig h⟩)
 refine aU az (fun lr gJ dt a7=> ?_)
 rcases dA h with⟨Dx,h⟩|⟨Dx,h⟩
 ·obtain⟨cu,aic,h⟩:=aM h
  refine fs (And.intro Dx aic) _ ?_
  refine a_ h (fun aid h=> ?_) (fun aid h=> ?_)
  ·refine wr _ ?_
   exact gJ _ (.inr ⟨_,bJ rfl,Dj 1 h⟩)
  ·exact a6 (gJ _ (.inr ⟨_,bJ rfl,Dj 0 h⟩))
 ·refine fs Dx _ ?_
  refine lk rfl ?_
  exact a6 (gJ _ (.inr ⟨_,bJ rfl,Dj 0 h⟩))
theorem aie (a0:List UInt8) (r:(List Int)×Bool) (h:tw a0=some r):bh aN 88 [.str a0] (.tuple [.aL 1 (r.1.map bB),.bool r.2]) []:=by
 refine b0 [0] [.tmp 2,.tmp 3] Tryz.func88 Vg (fun bP az bW=> ?_)
 refine ws _ ?_
 obtain⟨ar,aS,h⟩:=aM h
 refine dH (ahQ a0 _ aS) _ ?_
 refine aU az (fun fZ fu cT bo=> ?_)
 refine ws _ ?_
 refine a_ h (fun cw h=> ?_) (fun cw h=> ?_)
 ·obtain⟨aD,gb,h⟩:=aM h
  refine hk (show∀s,dT aN s 72 0 []=some (.aL 1 [],s)from fun s=>by kernel_rfl) (tN a0 _ gb) _ ?_
  exact aJ (cT _ (.inl (aK [.aL 1 [],.bool aD])))
 ·refine a6 (fu _ (.inl ?_))
  refine aU az (fun hB eK ee dU=> ?_)
  obtain⟨a7,ma,h⟩:=aM h
  obtain⟨bo,fi,h⟩:=aM h
  rcases dA h with⟨gR,h⟩|⟨gR,h⟩
  ·refine hk (And.intro ma (cZ gR)) (Di a7 _ fi) _ ?_
   refine fC rfl ?_
   refine ws _ ?_
   exact aJ (ee _ (.inr ⟨[(2,.aL 1 []),(3,.bool false)],mO [] rfl (mQ (t:=2) (d:=.bk) rfl rfl (.jw _) (by decide) (jW rfl (mP))),aK [.aL 1 [],.bool false]⟩))
  ·obtain⟨c1,fc,h⟩:=aM h
   refine hk (And.intro ma (And.intro (aR gR) fc)) (Di a7 _ fi) _ ?_
   refine a_ h (fun eL h=> ?_) (fun eL h=> ?_)
   ·refine ws _ ?_
    exact aJ (ee _ (.inr ⟨[(2,.aL 1 []),(3,.bool false)],mO [] rfl (mQ (t:=2) (d:=.bk) rfl rfl (.jw _) (by decide) (jW rfl (mP))),aK [.aL 1 [],.bool false]⟩))
   ·refine a6 (eK _ (.inl ?_))
    obtain⟨cu,l0,h⟩:=aM h
    obtain⟨da,j5,h⟩:=aM h
    refine hk l0 (ahR cu (44:UInt8) _ j5) _ ?_
    refine fs (show∀s,dT aN s 72 0 []=some (.aL 1 [],s)from fun s=>by kernel_rfl) _ ?_
    refine aU az (fun wv mU l3 rY=> ?_)
    refine ws _ ?_
    refine cg l3 (fun Ju Jv Dn jI ahX=> ?_)
    have aif:∀(n:Nat) (kA:List Int) (lU:Int),qt da n kA lU=some r→ei aN IC Ju (R [(5,.aL 1 (da.map a1)),(6,.aL 1 (kA.map bB)),(7,.int .i64 lU)]):=by
     intro Dy
     induction Dy with
     |zero=>intro kA lU h;cases(show none=some r from h)
     |succ Dy aih=>
      intro kA lU h
      replace h:yp (qt da Dy) da kA lU=some r:=h
      refine eI Dn (fun Jz wA qG Dz=> ?_)
      refine aU qG (fun aii DA JA DB=> ?_)
      refine ws _ ?_
      refine a_ h (fun iz h=> ?_) (fun iz h=> ?_)
      ·refine a6 (DA _ (.inl ?_))
       refine aU qG (fun JB wB zN DC=> ?_)
       refine cg zN (fun amV aij aik k7 amW=> ?_)
       obtain⟨dz,tT,h⟩:=aM h
       obtain⟨dU,qH,h⟩:=aM h
       refine hk (And.intro tT (hW tT)) (ahV dz _ qH) _ ?_
       refine aU aik (fun amX ail JC amY=> ?_)
       rcases dA h with⟨r0,h⟩|⟨r0,h⟩
       ·refine fs (cZ r0) _ ?_
        refine fC rfl ?_
        refine ws _ ?_
        exact aJ (JC _ (.inr ⟨[(2,.aL 1 []),(3,.bool false)],mO [] rfl (mQ (t:=2) (d:=.bk) rfl rfl (.jw _) (by decide) (jW rfl (mP))),aK [.aL 1 [],.bool false]⟩))
       ·obtain⟨dN,qI,h⟩:=aM h
        refine cP (cv [(5,.aL 1 (da.map a1)),(6,.aL 1 (kA.map bB)),(7,.int .i64 lU),(8,.int .i64 dU.1),(61,.bool (!dN))] (fun P al=> ?_) ?_)
        ·simp only[aZ.down,simprocAttr,bB,a1,(aR r0)]
         refine eQ (jm dU.1 0 63 _ qI) rfl rfl rfl rfl (.inl (by rfl)) ?_
         simp only[aZ.down,simprocAttr,bB,a1,(aR r0)]
         (try simp only[bn.down,simprocAttr,bB,a1,(aR r0)]at al⊢);exact al
        refine a_ h (fun wC h=> ?_) (fun wC h=> ?_)
        ·refine ws _ ?_
         exact aJ (JC _ (.inr ⟨[(2,.aL 1 []),(3,.bool false)],mO [] rfl (mQ (t:=2) (d:=.bk) rfl rfl (.jw _) (by decide) (jW rfl (mP))),aK [.aL 1 [],.bool false]⟩))
        ·refine a6 (ail _ (.inl ?_))
         obtain⟨amZ,DD,h⟩:=aM h
         (try simp only[rW.down,Nat.reduceAdd]at DD)
         refine mn (cv [(5,.aL 1 (da.map a1)),(6,.aL 1 ((kA++[dU.1]).map bB)),(7,.int .i64 lU)] (fun P al=> ?_) ?_)
         ·simp only[aZ.down,simprocAttr,eJ,ie,bB,a1,(show∀s,dT aN s 72 1 [(0,.int .i64 dU.1)]=some (.aL 1 [.int .i64 dU.1],s)from fun s=>by kernel_rfl), @qk aN 72 72 2 rfl rfl,ql,qm,qn,all_cons,all_nil,DD, @ib _ bB 1 (fun _=>rfl)]
          (try simp only[bn.down,simprocAttr,bB,a1,(show∀s,dT aN s 72 1 [(0,.int .i64 dU.1)]=some (.aL 1 [.int .i64 dU.1],s)from fun s=>by kernel_rfl), @qk aN 72 72 2 rfl rfl,ql,qm,qn,all_cons,all_nil,DD, @ib _ bB 1 (fun _=>rfl)]at al⊢);exact al
         refine aij _ (wB _ (.inl ?_))
         refine wr [(5,.aL 1 (da.map a1)),(6,.aL 1 ((kA++[dU.1]).map bB)),(7,.int .i64 (IntKind.i64.wrap (lU+1)))] ?_
         exact wA _ (.inr ⟨_,bJ rfl,aih (kA++[dU.1]) (IntKind.i64.wrap (lU+1)) h⟩)
      ·refine eG (DB 0 _ (Dz 0 _ (jI _ (mU _ (.inl ?_)))))
       refine ws _ ?_
       exact aJ (az _ (.inl (aK [.aL 1 (kA.map bB),.bool (decide ((kA.length:Int)≤2))])))
    obtain⟨n,h⟩:=eD h
    exact eH (.inr ⟨_,bJ rfl,aif n [] 0 h⟩)
theorem wD (a0:List UInt8) (r:Bool) (h:nz a0=some r):bh aN 74 [.str a0] (.bool r) []:=by
 refine b0 [0] [.tmp 2] Tryz.func74 Vk (fun bP az bW=> ?_)
 refine ws _ ?_
 obtain⟨ar,aS,h⟩:=aM h
 refine dH (aie a0 _ aS) _ ?_
 refine ws _ ?_
 exact aJ (az _ (.inl (aK [.bool ar.2])))
theorem JD (a0:List (List UInt8)) (r:Bool) (h:yr a0=some r):bh aN 58 [.slice (a0.map a1)] (.bool r) []:=by
 refine b0 [0] [.tmp 2] Tryz.func58 Vx (fun bP az bW=> ?_)
 refine ws _ ?_
 refine aU az (fun fl cA bD aD=> ?_)
 rcases dA h with⟨cq,h⟩|⟨cq,h⟩
 ·refine fs cq _ ?_
  refine fC rfl ?_
  refine ws _ ?_
  exact aJ (bD _ (.inl (aK [.bool false])))
 ·rcases dA h with⟨cw,h⟩|⟨cw,h⟩
  ·refine fs (And.intro cq cw) _ ?_
   refine fC rfl ?_
   refine ws _ ?_
   exact aJ (bD _ (.inl (aK [.bool false])))
  ·obtain⟨ar,gb,h⟩:=aM h
   refine fs (And.intro cq (And.intro cw gb)) _ ?_
   refine a_ h (fun dR h=> ?_) (fun dR h=> ?_)
   ·refine ws _ ?_
    exact aJ (bD _ (.inl (aK [.bool false])))
   ·refine a6 (cA _ (.inl ?_))
    refine aU az (fun jk eS ft fW=> ?_)
    refine ws _ ?_
    refine cg ft (fun mT i_ jn gR kY=> ?_)
    have hL:∀(n:Nat) (cy:Int),qu a0 n cy=some r→ei aN ID mT (R [(0,.slice (a0.map a1)),(3,.int .i64 cy)]):=by
     intro m14
     induction m14 with
     |zero=>intro cy h;cases(show none=some r from h)
     |succ m14 gE=>
      intro cy h
      replace h:yq (qu a0 m14) a0 cy=some r:=h
      refine eI jn (fun i1 eY eZ i6=> ?_)
      refine aU eZ (fun lY gY hJ k5=> ?_)
      refine ws _ ?_
      refine a_ h (fun mu h=> ?_) (fun mu h=> ?_)
      ·refine a6 (gY _ (.inl ?_))
       refine aU eZ (fun tQ l1 lv qF=> ?_)
       refine cg lv (fun zJ oi pJ iN tO=> ?_)
       obtain⟨bo,fO,h⟩:=aM h
       obtain⟨c1,j6,h⟩:=aM h
       rcases dA h with⟨il,h⟩|⟨il,h⟩
       ·refine fm rfl (fo [(0,.slice (a0.map a1)),(3,.int .i64 cy),(52,.bool true)] (fun P al=> ?_) ?_)
        ·simp only[b3.down,simprocAttr,k2.down,fO,(cZ il)]
         refine fD (wD bo _ j6) rfl rfl rfl rfl (.inl (by rfl)) ?_
         simp only[b3.down,simprocAttr,k2.down,fO,(cZ il)]
         refine⟨fb (by kernel_rfl),?_⟩
         (try simp only[bn.down,simprocAttr,a1,fO,(cZ il)]at al⊢);exact al
        refine fC rfl ?_
        refine ws _ ?_
        exact aJ (pJ _ (.inl (aK [.bool false])))
       ·rcases dA h with⟨nG,h⟩|⟨nG,h⟩
        ·refine fm rfl (fo [(0,.slice (a0.map a1)),(3,.int .i64 cy),(52,.bool true)] (fun P al=> ?_) ?_)
         ·simp only[b3.down,simprocAttr,k2.down,fO,(aR il),nG]
          refine fD (wD bo _ j6) rfl rfl rfl rfl (.inl (by rfl)) ?_
          simp only[b3.down,simprocAttr,k2.down,fO,(aR il),nG]
          refine⟨fb (by kernel_rfl),?_⟩
          (try simp only[bn.down,simprocAttr,a1,fO,(aR il),nG]at al⊢);exact al
         refine fC rfl ?_
         refine ws _ ?_
         exact aJ (pJ _ (.inl (aK [.bool false])))
        ·rcases dA h with⟨hM,h⟩|⟨hM,h⟩
         ·obtain⟨cu,tU,h⟩:=aM h
          refine fm rfl (fo [(0,.slice (a0.map a1)),(3,.int .i64 cy),(52,.bool (!(Op.bytesLess cu bo)))] (fun P al=> ?_) ?_)
          ·simp only[b3.down,simprocAttr,k2.down,fO,(aR il),nG,hM,tU]
           refine fD (wD bo _ j6) rfl rfl rfl rfl (.inl (by rfl)) ?_
           simp only[b3.down,simprocAttr,k2.down,fO,(aR il),nG,hM,tU]
           refine⟨fb (by kernel_rfl),?_⟩
           (try simp only[bn.down,simprocAttr,a1,fO,(aR il),nG,hM,tU]at al⊢);exact al
          refine a_ h (fun h0 h=> ?_) (fun h0 h=> ?_)
          ·refine ws _ ?_
           exact aJ (pJ _ (.inl (aK [.bool false])))
          ·refine a6 (oi _ (l1 _ (.inl ?_)))
           refine wr _ ?_
           exact eY _ (.inr ⟨_,bJ rfl,gE (IntKind.i64.wrap (cy+1)) h⟩)
         ·refine fm rfl (fo [(0,.slice (a0.map a1)),(3,.int .i64 cy),(52,.bool false)] (fun P al=> ?_) ?_)
          ·simp only[b3.down,simprocAttr,k2.down,fO,(aR il),nG,hM]
           refine fD (wD bo _ j6) rfl rfl rfl rfl (.inl (by rfl)) ?_
           simp only[b3.down,simprocAttr,k2.down,fO,(aR il),nG,hM]
           refine⟨fb (by kernel_rfl),?_⟩
           (try simp only[bn.down,simprocAttr,a1,fO,(aR il),nG,hM]at al⊢);exact al
          refine lk rfl ?_
          refine a6 (oi _ (l1 _ (.inl ?_)))
          refine wr _ ?_
          exact eY _ (.inr ⟨_,bJ rfl,gE (IntKind.i64.wrap (cy+1)) h⟩)
      ·refine eG (k5 0 _ (i6 0 _ (gR _ (eS _ (.inl ?_)))))
       refine ws _ ?_
       exact aJ (az _ (.inl (aK [.bool true])))
    obtain⟨n,h⟩:=eD h
    exact eH (.inr ⟨_,bJ rfl,hL n 1 h⟩)
theorem aim (a0:ek) (ab:ek) (r:Bool) (h:ys a0 ab=some r):bh aN 59 [.ref (cC a0),.ref (cC ab)] (.bool r) []:=by
 refine b0 [0,1] [.tmp 4] Tryz.func59 VF (fun bP az bW=> ?_)
 refine ws _ ?_
 refine aU az (fun fl cA bD aD=> ?_)
 refine fm rfl (fo [(0,.ref (cC a0)),(1,.ref (cC ab)),(13,.bool (a0.er !=ab.er))] (fun P al=> ?_) ?_)
 ·simp only[b3.down,simprocAttr,eJ,jC,cC]
  refine⟨fb (by kernel_rfl),?_⟩
  (try simp only[bn.down,simprocAttr,cC]at al⊢);exact al
 refine a_ h (fun cq h=> ?_) (fun cq h=> ?_)
 ·refine fm rfl (fo [(4,.bool (decide (a0.er<ab.er)))] (fun P al=> ?_) ?_)
  ·simp only[b3.down,simprocAttr,eJ,jC,cC]
   refine⟨fb (by kernel_rfl),?_⟩
   (try simp only[bn.down,simprocAttr,cC]at al⊢);exact al
  exact aJ (bD _ (.inl (aK [.bool (decide (a0.er<ab.er))])))
 ·refine a6 (cA _ (.inl ?_))
  refine aU az (fun fv dS du cu=> ?_)
  refine fm rfl (fo [(0,.ref (cC a0)),(1,.ref (cC ab)),(31,.bool (a0.Label !=ab.Label))] (fun P al=> ?_) ?_)
  ·simp only[b3.down,simprocAttr,eJ,jC,cC]
   refine⟨fb (by kernel_rfl),?_⟩
   (try simp only[bn.down,simprocAttr,cC]at al⊢);exact al
  refine a_ h (fun cm h=> ?_) (fun cm h=> ?_)
  ·refine fm rfl (fo [(4,.bool (decide (a0.Label<ab.Label)))] (fun P al=> ?_) ?_)
   ·simp only[b3.down,simprocAttr,eJ,jC,cC]
    refine⟨fb (by kernel_rfl),?_⟩
    (try simp only[bn.down,simprocAttr,cC]at al⊢);exact al
   exact aJ (du _ (.inl (aK [.bool (decide (a0.Label<ab.Label))])))
  ·refine a6 (dS _ (.inl ?_))
   refine fm rfl (fo [(4,.bool (decide (a0.gi<ab.gi)))] (fun P al=> ?_) ?_)
   ·simp only[b3.down,simprocAttr,eJ,jC,cC]
    refine⟨fb (by kernel_rfl),?_⟩
    (try simp only[bn.down,simprocAttr,cC]at al⊢);exact al
   exact aJ (az _ (.inl (aK [.bool (decide (a0.gi<ab.gi))])))
theorem ain (a0:dC) (r:Bool) (h:yu a0=some r):bh aN 36 [.ref (dQ a0)] (.bool r) []:=by
 refine b0 [0] [.tmp 2] Tryz.func36 VW (fun bP az bW=> ?_)
 refine ws _ ?_
 refine aU az (fun fl cA bD aD=> ?_)
 obtain⟨ar,bQ,h⟩:=aM h
 rcases dA h with⟨cr,h⟩|⟨cr,h⟩
 ·refine fm rfl (fo [(0,.ref (dQ a0)),(39,.bool true)] (fun P al=> ?_) ?_)
  ·simp only[b3.down,simprocAttr,ej.down,(cZ cr)]
   refine fD (jm a0.eW 1 40 _ bQ) rfl rfl rfl rfl (.inl (by rfl)) ?_
   simp only[b3.down,simprocAttr,ej.down,(cZ cr)]
   refine⟨fb (by kernel_rfl),?_⟩
   (try simp only[bn.down,simprocAttr,k3.down,(cZ cr)]at al⊢);exact al
  refine fC rfl ?_
  refine ws _ ?_
  exact aJ (bD _ (.inl (aK [.bool false])))
 ·obtain⟨aD,bH,h⟩:=aM h
  rcases dA h with⟨cm,h⟩|⟨cm,h⟩
  ·refine fm rfl (fo [(0,.ref (dQ a0)),(39,.bool true)] (fun P al=> ?_) ?_)
   ·simp only[b3.down,simprocAttr,ej.down,(aR cr),(cZ cm)]
    refine fD (jm a0.eW 1 40 _ bQ) rfl rfl rfl rfl (.inl (by rfl)) ?_
    simp only[b3.down,simprocAttr,ej.down,(aR cr),(cZ cm)]
    refine jA (jm a0.iL 0 (IntKind.i64.wrap (a0.eW-1)) _ bH) rfl rfl rfl rfl (.inl (by rfl)) ?_
    simp only[b3.down,simprocAttr,ej.down,(aR cr),(cZ cm)]
    refine⟨fb (by kernel_rfl),?_⟩
    (try simp only[bn.down,simprocAttr,k3.down,(aR cr),(cZ cm)]at al⊢);exact al
   refine fC rfl ?_
   refine ws _ ?_
   exact aJ (bD _ (.inl (aK [.bool false])))
  ·obtain⟨a7,iQ,h⟩:=aM h
   refine fm rfl (fo [(0,.ref (dQ a0)),(39,.bool ((!a7)||(decide (300<(a0.cB.length:Int)))))] (fun P al=> ?_) ?_)
   ·rcases Bool.eq_false_or_eq_true (a7)with ix|ix
    ·simp only[b3.down,simprocAttr,ej.down,(aR cr),(aR cm),ix]
     refine fD (jm a0.eW 1 40 _ bQ) rfl rfl rfl rfl (.inl (by rfl)) ?_
     simp only[b3.down,simprocAttr,ej.down,(aR cr),(aR cm),ix]
     refine jA (jm a0.iL 0 (IntKind.i64.wrap (a0.eW-1)) _ bH) rfl rfl rfl rfl (.inl (by rfl)) ?_
     simp only[b3.down,simprocAttr,ej.down,(aR cr),(aR cm),ix]
     refine jA (JD a0.cW _ iQ) rfl rfl rfl rfl (.inl (by rfl)) ?_
     simp only[b3.down,simprocAttr,ej.down,(aR cr),(aR cm),ix]
     refine⟨fb (by kernel_rfl),?_⟩
     (try simp only[bn.down,simprocAttr,k3.down,(aR cr),(aR cm),ix]at al⊢);exact al
    ·simp only[b3.down,simprocAttr,ej.down,(aR cr),(aR cm),ix]
     refine fD (jm a0.eW 1 40 _ bQ) rfl rfl rfl rfl (.inl (by rfl)) ?_
     simp only[b3.down,simprocAttr,ej.down,(aR cr),(aR cm),ix]
     refine jA (jm a0.iL 0 (IntKind.i64.wrap (a0.eW-1)) _ bH) rfl rfl rfl rfl (.inl (by rfl)) ?_
     simp only[b3.down,simprocAttr,ej.down,(aR cr),(aR cm),ix]
     refine jA (JD a0.cW _ iQ) rfl rfl rfl rfl (.inl (by rfl)) ?_
     simp only[b3.down,simprocAttr,ej.down,(aR cr),(aR cm),ix]
     refine⟨fb (by kernel_rfl),?_⟩
     (try simp only[bn.down,simprocAttr,k3.down,(aR cr),(aR cm),ix]at al⊢);exact al
   refine a_ h (fun dm h=> ?_) (fun dm h=> ?_)
   ·refine ws _ ?_
    exact aJ (bD _ (.inl (aK [.bool false])))
   ·refine a6 (cA _ (.inl ?_))
    refine aU az (fun i1 eY eZ i6=> ?_)
    refine ws _ ?_
    refine cg eZ (fun oh j3 iy eL oY=> ?_)
    have hL:∀(n:Nat) (cy:Int),qv a0 n cy=some r→ei aN IE oh (R [(0,.ref (dQ a0)),(3,.int .i64 cy)]):=by
     intro m14
     induction m14 with
     |zero=>intro cy h;cases(show none=some r from h)
     |succ m14 gE=>
      intro cy h
      replace h:yt (qv a0 m14) a0 cy=some r:=h
      refine eI iy (fun wu oj nF tP=> ?_)
      refine aU nF (fun tQ l1 lv qF=> ?_)
      refine ws _ ?_
      refine a_ h (fun gD h=> ?_) (fun gD h=> ?_)
      ·refine a6 (l1 _ (.inl ?_))
       refine aU nF (fun DE tV wE JE=> ?_)
       refine cg wE (fun wv mU l3 wF rY=> ?_)
       obtain⟨bo,j6,h⟩:=aM h
       refine fs j6 _ ?_
       refine aU l3 (fun Jz wA qG Dz=> ?_)
       obtain⟨c1,jJ,h⟩:=aM h
       rcases dA h with⟨iz,h⟩|⟨iz,h⟩
       ·refine fm rfl (fo [(0,.ref (dQ a0)),(3,.int .i64 cy),(4,.bM (cC bo)),(87,.bool true)] (fun P al=> ?_) ?_)
        ·simp only[b3.down,simprocAttr,ej.down,(cZ iz)]
         refine fD (jm bo.er 0 (IntKind.i64.wrap (a0.eW-1)) _ jJ) rfl rfl rfl rfl (.inl (by rfl)) ?_
         simp only[b3.down,simprocAttr,ej.down,(cZ iz)]
         refine⟨fb (by kernel_rfl),?_⟩
         (try simp only[bn.down,simprocAttr,k3.down,(cZ iz)]at al⊢);exact al
        refine fC rfl ?_
        refine ws _ ?_
        exact aJ (qG _ (.inl (aK [.bool false])))
       ·obtain⟨cu,tU,h⟩:=aM h
        rcases dA h with⟨h0,h⟩|⟨h0,h⟩
        ·refine fm rfl (fo [(0,.ref (dQ a0)),(3,.int .i64 cy),(4,.bM (cC bo)),(87,.bool true)] (fun P al=> ?_) ?_)
         ·simp only[b3.down,simprocAttr,ej.down,(aR iz),(cZ h0)]
          refine fD (jm bo.er 0 (IntKind.i64.wrap (a0.eW-1)) _ jJ) rfl rfl rfl rfl (.inl (by rfl)) ?_
          simp only[b3.down,simprocAttr,ej.down,(aR iz),(cZ h0)]
          refine jA (jm bo.gi 0 (IntKind.i64.wrap (a0.eW-1)) _ tU) rfl rfl rfl rfl (.inl (by rfl)) ?_
          simp only[b3.down,simprocAttr,ej.down,(aR iz),(cZ h0)]
          refine⟨fb (by kernel_rfl),?_⟩
          (try simp only[bn.down,simprocAttr,k3.down,(aR iz),(cZ h0)]at al⊢);exact al
         refine fC rfl ?_
         refine ws _ ?_
         exact aJ (qG _ (.inl (aK [.bool false])))
        ·obtain⟨da,qH,h⟩:=aM h
         refine fm rfl (fo [(0,.ref (dQ a0)),(3,.int .i64 cy),(4,.bM (cC bo)),(87,.bool (!da))] (fun P al=> ?_) ?_)
         ·simp only[b3.down,simprocAttr,ej.down,(aR iz),(aR h0)]
          refine fD (jm bo.er 0 (IntKind.i64.wrap (a0.eW-1)) _ jJ) rfl rfl rfl rfl (.inl (by rfl)) ?_
          simp only[b3.down,simprocAttr,ej.down,(aR iz),(aR h0)]
          refine jA (jm bo.gi 0 (IntKind.i64.wrap (a0.eW-1)) _ tU) rfl rfl rfl rfl (.inl (by rfl)) ?_
          simp only[b3.down,simprocAttr,ej.down,(aR iz),(aR h0)]
          refine jA (jm bo.Label 0 (IntKind.i64.wrap ((a0.cW.length:Int)-1)) _ qH) rfl rfl rfl rfl (.inl (by rfl)) ?_
          simp only[b3.down,simprocAttr,ej.down,(aR iz),(aR h0)]
          refine⟨fb (by kernel_rfl),?_⟩
          (try simp only[bn.down,simprocAttr,k3.down,(aR iz),(aR h0)]at al⊢);exact al
         refine a_ h (fun DF h=> ?_) (fun DF h=> ?_)
         ·refine ws _ ?_
          exact aJ (qG _ (.inl (aK [.bool false])))
         ·refine a6 (wA _ (.inl ?_))
          rcases dA h with⟨tW,h⟩|⟨tW,h⟩
          ·obtain⟨dz,qI,h⟩:=aM h
           obtain⟨dU,aio,h⟩:=aM h
           refine cP (cv [(0,.ref (dQ a0)),(3,.int .i64 cy),(100,.bool (!dU))] (fun P al=> ?_) ?_)
           ·simp only[aZ.down,simprocAttr,ej.down,tW,qI]
            refine eQ (aim dz bo _ aio) rfl rfl (by simp only[aZ.down,simprocAttr,ej.down,tW,qI,nu,nv,nw,eV]<;>rfl) rfl (.inr (by rfl)) ?_
            simp only[aZ.down,simprocAttr,ej.down,tW,qI]
            (try simp only[bn.down,simprocAttr,k3.down,tW,qI]at al⊢);exact al
           refine a_ h (fun wy h=> ?_) (fun wy h=> ?_)
           ·refine ws _ ?_
            exact aJ (l3 _ (.inl (aK [.bool false])))
           ·refine a6 (mU _ (tV _ (.inl ?_)))
            refine wr _ ?_
            exact oj _ (.inr ⟨_,bJ rfl,gE (IntKind.i64.wrap (cy+1)) h⟩)
          ·refine fs tW _ ?_
           refine lk rfl ?_
           refine a6 (mU _ (tV _ (.inl ?_)))
           refine wr _ ?_
           exact oj _ (.inr ⟨_,bJ rfl,gE (IntKind.i64.wrap (cy+1)) h⟩)
      ·refine eG (qF 0 _ (tP 0 _ (eL _ (eY _ (.inl ?_)))))
       refine ws _ ?_
       exact aJ (az _ (.inl (aK [.bool true])))
    obtain⟨n,h⟩:=eD h
    exact eH (.inr ⟨_,bJ rfl,hL n 0 h⟩)
theorem JF (a0:gx) (r:Bool) (h:yw a0=some r):bh aN 17 [.ref (iv a0)] (.bool r) []:=by
 refine b0 [0] [.tmp 2] Tryz.func17 pH (fun bP az bW=> ?_)
 refine ws _ ?_
 refine aU az (fun fl cA bD aD=> ?_)
 refine fm rfl (fo [(0,.ref (iv a0)),(30,.bool ((((a0.Names.length:Int)==0)||(decide (6<(a0.Names.length:Int))))||((a0.dB.length:Int) !=(a0.Names.length:Int))))] (fun P al=> ?_) ?_)
 ·(rcases Bool.eq_false_or_eq_true ((a0.Names.length:Int)==0)with gV|gV)<;>(rcases Bool.eq_false_or_eq_true (decide (6<(a0.Names.length:Int)))with jE|jE)<;>
   (simp only[b3.down,simprocAttr,iM.down,gV,jE]
    refine⟨fb (by kernel_rfl),?_⟩
    (try simp only[bn.down,simprocAttr,k4.down,gV,jE]at al⊢);exact al)
 refine a_ h (fun cw h=> ?_) (fun cw h=> ?_)
 ·refine ws _ ?_
  exact aJ (bD _ (.inl (aK [.bool false])))
 ·refine a6 (cA _ (.inl ?_))
  refine aU az (fun hK fw gZ dz=> ?_)
  refine ws _ ?_
  refine cg gZ (fun fY c6 dk e7 dN=> ?_)
  have hL:∀(n:Nat) (cy:Int),qw a0 n cy=some r→ei aN IF fY (R [(0,.ref (iv a0)),(3,.int .i64 cy)]):=by
   intro m14
   induction m14 with
   |zero=>intro cy h;cases(show none=some r from h)
   |succ m14 gE=>
    intro cy h
    replace h:yv (qw a0 m14) a0 cy=some r:=h
    refine eI dk (fun jk eS ft fW=> ?_)
    refine aU ft (fun mS iO lZ jj=> ?_)
    refine ws _ ?_
    refine a_ h (fun fJ h=> ?_) (fun fJ h=> ?_)
    ·refine a6 (iO _ (.inl ?_))
     refine aU ft (fun lY gY hJ k5=> ?_)
     refine cg hJ (fun oh j3 iy eL oY=> ?_)
     obtain⟨ar,eB,h⟩:=aM h
     obtain⟨aD,l0,h⟩:=aM h
     rcases dA h with⟨gD,h⟩|⟨gD,h⟩
     ·refine fm rfl (fo [(0,.ref (iv a0)),(3,.int .i64 cy),(75,.bool true)] (fun P al=> ?_) ?_)
      ·simp only[b3.down,simprocAttr,iM.down,eB,(cZ gD)]
       refine fD (tN ar _ l0) rfl rfl rfl rfl (.inl (by rfl)) ?_
       simp only[b3.down,simprocAttr,iM.down,eB,(cZ gD)]
       refine⟨fb (by kernel_rfl),?_⟩
       (try simp only[bn.down,simprocAttr,k4.down,eB,(cZ gD)]at al⊢);exact al
      refine fC rfl ?_
      refine ws _ ?_
      exact aJ (iy _ (.inl (aK [.bool false])))
     ·obtain⟨a7,g_,h⟩:=aM h
      obtain⟨bo,fO,h⟩:=aM h
      rcases dA h with⟨jI,h⟩|⟨jI,h⟩
      ·refine fm rfl (fo [(0,.ref (iv a0)),(3,.int .i64 cy),(75,.bool true)] (fun P al=> ?_) ?_)
       ·simp only[b3.down,simprocAttr,iM.down,eB,(aR gD),g_, @ib _ a1 1 (fun _=>rfl),jI]
        refine fD (tN ar _ l0) rfl rfl rfl rfl (.inl (by rfl)) ?_
        simp only[b3.down,simprocAttr,iM.down,eB,(aR gD),g_, @ib _ a1 1 (fun _=>rfl),jI]
        refine jA (Jr a7 ar _ fO) rfl rfl rfl rfl (.inl (by rfl)) ?_
        simp only[b3.down,simprocAttr,iM.down,eB,(aR gD),g_, @ib _ a1 1 (fun _=>rfl),jI]
        refine⟨fb (by kernel_rfl),?_⟩
        (try simp only[bn.down,simprocAttr,k4.down,eB,(aR gD),g_, @ib _ a1 1 (fun _=>rfl),jI]at al⊢);exact al
       refine fC rfl ?_
       refine ws _ ?_
       exact aJ (iy _ (.inl (aK [.bool false])))
      ·obtain⟨c1,km,h⟩:=aM h
       obtain⟨cu,jJ,h⟩:=aM h
       refine fm rfl (fo [(0,.ref (iv a0)),(3,.int .i64 cy),(75,.bool (!cu))] (fun P al=> ?_) ?_)
       ·simp only[b3.down,simprocAttr,iM.down,eB,(aR gD),g_, @ib _ a1 1 (fun _=>rfl),jI,km]
        refine fD (tN ar _ l0) rfl rfl rfl rfl (.inl (by rfl)) ?_
        simp only[b3.down,simprocAttr,iM.down,eB,(aR gD),g_, @ib _ a1 1 (fun _=>rfl),jI,km]
        refine jA (Jr a7 ar _ fO) rfl rfl rfl rfl (.inl (by rfl)) ?_
        simp only[b3.down,simprocAttr,iM.down,eB,(aR gD),g_, @ib _ a1 1 (fun _=>rfl),jI,km]
        refine jA (ain c1 _ jJ) rfl rfl rfl rfl (.inl (by rfl)) ?_
        simp only[b3.down,simprocAttr,iM.down,eB,(aR gD),g_, @ib _ a1 1 (fun _=>rfl),jI,km]
        refine⟨fb (by kernel_rfl),?_⟩
        (try simp only[bn.down,simprocAttr,k4.down,eB,(aR gD),g_, @ib _ a1 1 (fun _=>rfl),jI,km]at al⊢);exact al
       refine a_ h (fun iz h=> ?_) (fun iz h=> ?_)
       ·refine ws _ ?_
        exact aJ (iy _ (.inl (aK [.bool false])))
       ·refine a6 (j3 _ (gY _ (.inl ?_)))
        refine wr _ ?_
        exact eS _ (.inr ⟨_,bJ rfl,gE (IntKind.i64.wrap (cy+1)) h⟩)
    ·refine eG (jj 0 _ (fW 0 _ (e7 _ (fw _ (.inl ?_)))))
     refine ws _ ?_
     exact aJ (az _ (.inl (aK [.bool true])))
  obtain⟨n,h⟩:=eD h
  exact eH (.inr ⟨_,bJ rfl,hL n 0 h⟩)
theorem JG (a0:Int) (r:Bool) (h:CG a0=some r):bh aN 38 [.int .i64 a0] (.bool r) []:=by
 refine b0 [0] [.tmp 2] Tryz.func38 Wa (fun bP az bW=> ?_)
 refine ws _ ?_
 refine ws _ ?_
 exact aJ (az _ (.inl (aK [.bool (decide (a0≤3))])))
theorem aip (a0:Int) (r:Bool) (h:CH a0=some r):bh aN 39 [.int .i64 a0] (.bool r) []:=by
 refine b0 [0] [.tmp 2] Tryz.func39 Wd (fun bP az bW=> ?_)
 refine ws _ ?_
 refine cP (cv [(2,.bool (((a0==3)||(a0==4))||(a0==5)))] (fun P al=> ?_) ?_)
 ·(rcases Bool.eq_false_or_eq_true (a0==3)with dL|dL)<;>(rcases Bool.eq_false_or_eq_true (a0==4)with gV|gV)<;>
   (simp only[aZ.down,simprocAttr,dL,gV]
    (try simp only[bn.down,simprocAttr,dL,gV]at al⊢);exact al)
 exact aJ (az _ (.inl (aK [.bool (((a0==3)||(a0==4))||(a0==5))])))
theorem JH (a0:Int) (r:Int) (h:vL a0=some r):bh aN 75 [.int .i64 a0] (.int .i64 r) []:=by
 refine b0 [0] [.tmp 2] Tryz.func75 Wq (fun bP az bW=> ?_)
 refine ws _ ?_
 refine aU az (fun fl cA bD aD=> ?_)
 refine ws _ ?_
 refine cg bD (fun fZ fu cT cq bo=> ?_)
 have DG:∀(vK:Bool),vJ a0 vK=some r→cK aN IH fZ (R [(3,.int .i64 a0),(4,.bool vK)]):=by
  intro vK h
  refine a_ h (fun cw h=> ?_) (fun cw h=> ?_)
  ·refine ws _ ?_
   exact aJ (cT _ (.inl (aK [.int .i64 0])))
  ·skip
   have wt:∀(vI:Bool),yx vI=some r→cK aN IG fZ (R [(8,.bool vI)]):=by
    intro vI h
    refine a_ h (fun dR h=> ?_) (fun dR h=> ?_)
    ·refine ws _ ?_
     exact aJ (cT _ (.inl (aK [.int .i64 2])))
    ·refine a6 (fu _ (cA _ (.inl ?_)))
     refine ws _ ?_
     exact aJ (az _ (.inl (aK [.int .i64 1])))
   refine aU cT (fun hK fw gZ dz=> ?_)
   refine ws _ ?_
   refine a_ h (fun gR h=> ?_) (fun gR h=> ?_)
   ·simp only[gR,rV.down]
    exact a6 (fw _ (.inr ⟨_,bJ rfl,wt true h⟩))
   ·refine wr _ ?_
    exact fw _ (.inr ⟨_,bJ rfl,wt (a0==3) h⟩)
 refine aU cT (fun kD gl fF c1=> ?_)
 refine ws _ ?_
 refine a_ h (fun eL h=> ?_) (fun eL h=> ?_)
 ·simp only[eL,rV.down]
  exact a6 (gl _ (.inr ⟨_,bJ rfl,DG true h⟩))
 ·refine ws _ ?_
  refine a_ h (fun i7 h=> ?_) (fun i7 h=> ?_)
  ·simp only[i7,rV.down]
   exact a6 (gl _ (.inr ⟨_,bJ rfl,DG true h⟩))
  ·refine wr _ ?_
   exact gl _ (.inr ⟨_,bJ rfl,DG (a0==6) h⟩)
theorem JI (a0:List UInt8) (r:Bool) (h:tx a0=some r):bh aN 76 [.str a0] (.bool r) []:=by
 refine b0 [0] [.tmp 2] Tryz.func76 Wv (fun bP az bW=> ?_)
 refine ws _ ?_
 refine aU az (fun fl cA bD aD=> ?_)
 rcases dA h with⟨cq,h⟩|⟨cq,h⟩
 ·refine fs cq _ ?_
  refine fC rfl ?_
  refine ws _ ?_
  exact aJ (bD _ (.inl (aK [.bool true])))
 ·obtain⟨ar,bK,h⟩:=aM h
  refine cP (cv [(0,.str a0),(8,.bool ar)] (fun P al=> ?_) ?_)
  ·simp only[aZ.down,simprocAttr,cq]
   refine eQ (wD a0 _ bK) rfl rfl rfl rfl (.inl (by rfl)) ?_
   simp only[aZ.down,simprocAttr,cq]
   (try simp only[bn.down,simprocAttr,cq]at al⊢);exact al
  refine a_ h (fun kb h=> ?_) (fun kb h=> ?_)
  ·refine ws _ ?_
   exact aJ (bD _ (.inl (aK [.bool true])))
  ·refine a6 (cA _ (.inl ?_))
   obtain⟨aD,iQ,h⟩:=aM h
   rcases dA h with⟨lu,h⟩|⟨lu,h⟩
   ·obtain⟨a7,fi,h⟩:=aM h
    obtain⟨bo,fL,h⟩:=aM h
    refine cP (cv [(2,.bool bo)] (fun P al=> ?_) ?_)
    ·simp only[aZ.down,simprocAttr,fq,iQ,lu,fi]
     refine eQ (Di a7 _ fL) rfl rfl rfl rfl (.inl (by rfl)) ?_
     simp only[aZ.down,simprocAttr,fq,iQ,lu,fi]
     (try simp only[bn.down,simprocAttr,iQ,lu,fi]at al⊢);exact al
    exact aJ (az _ (.inl (aK [.bool bo])))
   ·refine fs (And.intro iQ lu) _ ?_
    exact aJ (az _ (.inl (aK [.bool false])))
theorem aiq (a0:List bZ) (ab:Int) (a2:Int) (r:Bool) (h:yz a0 ab a2=some r):bh aN 60 [.slice (a0.map bs),.int .i64 ab,.int .i64 a2] (.bool r) []:=by
 refine b0 [0,1,2] [.tmp 6] Tryz.func60 WQ (fun bP az bW=> ?_)
 refine ws _ ?_
 refine aU az (fun fl cA bD aD=> ?_)
 refine cP (cv [(0,.slice (a0.map bs)),(2,.int .i64 a2),(18,.bool ((decide ((a0.length:Int)<1))||(decide (ab<(a0.length:Int)))))] (fun P al=> ?_) ?_)
 ·rcases Bool.eq_false_or_eq_true (decide ((a0.length:Int)<1))with gV|gV
  ·simp only[aZ.down,simprocAttr,gj.down,gV]
   (try simp only[bn.down,simprocAttr,bs,gV]at al⊢);exact al
  ·simp only[aZ.down,simprocAttr,gj.down,gV]
   (try simp only[bn.down,simprocAttr,bs,gV]at al⊢);exact al
 refine a_ h (fun cr h=> ?_) (fun cr h=> ?_)
 ·refine ws _ ?_
  exact aJ (bD _ (.inl (aK [.bool false])))
 ·refine a6 (cA _ (.inl ?_))
  refine ws _ ?_
  refine aU az (fun hK fw gZ dz=> ?_)
  refine ws _ ?_
  refine cg gZ (fun fY c6 dk e7 dN=> ?_)
  have og:∀(n:Nat) (jY:Int) (kj:Int),qx a0 a2 n jY kj=some r→ei aN II fY (R [(0,.slice (a0.map bs)),(2,.int .i64 a2),(7,.int .i64 jY),(8,.int .i64 kj)]):=by
   intro m16
   induction m16 with
   |zero=>intro jY kj h;cases(show none=some r from h)
   |succ m16 nE=>
    intro jY kj h
    replace h:yy (qx a0 a2 m16) a0 a2 jY kj=some r:=h
    refine eI dk (fun jk eS ft fW=> ?_)
    refine aU ft (fun mS iO lZ jj=> ?_)
    refine ws _ ?_
    refine a_ h (fun fJ h=> ?_) (fun fJ h=> ?_)
    ·refine a6 (iO _ (.inl ?_))
     refine aU ft (fun lY gY hJ k5=> ?_)
     refine cg hJ (fun oh j3 iy eL oY=> ?_)
     refine aU iy (fun wu oj nF tP=> ?_)
     rcases dA h with⟨iN,h⟩|⟨iN,h⟩
     ·refine fs iN _ ?_
      refine fC rfl ?_
      refine ws _ ?_
      exact aJ (nF _ (.inl (aK [.bool false])))
     ·obtain⟨ar,hN,h⟩:=aM h
      obtain⟨aD,g_,h⟩:=aM h
      refine cP (cv [(0,.slice (a0.map bs)),(2,.int .i64 a2),(7,.int .i64 jY),(8,.int .i64 kj),(36,.bool (!aD))] (fun P al=> ?_) ?_)
      ·simp only[aZ.down,simprocAttr,gj.down,iN,hN]
       refine eQ (jm ar.Kind 0 a2 _ g_) rfl rfl rfl rfl (.inl (by rfl)) ?_
       simp only[aZ.down,simprocAttr,gj.down,iN,hN]
       (try simp only[bn.down,simprocAttr,bs,iN,hN]at al⊢);exact al
      refine a_ h (fun hZ h=> ?_) (fun hZ h=> ?_)
      ·refine ws _ ?_
       exact aJ (nF _ (.inl (aK [.bool false])))
      ·refine a6 (oj _ (.inl ?_))
       obtain⟨a7,km,h⟩:=aM h
       refine hk hN (JH ar.Kind _ km) _ ?_
       refine cP (cv [(0,.slice (a0.map bs)),(2,.int .i64 a2),(7,.int .i64 (IntKind.i64.wrap (jY+(IntKind.i64.wrap (a7-1))))),(8,.int .i64 kj),(9,.bool ((ar.Kind==4)||(ar.Kind==5)))] (fun P al=> ?_) ?_)
       ·rcases Bool.eq_false_or_eq_true (ar.Kind==4)with lX|lX
        ·simp only[aZ.down,simprocAttr,gj.down,hN,lX]
         (try simp only[bn.down,simprocAttr,bs,hN,lX]at al⊢);exact al
        ·simp only[aZ.down,simprocAttr,gj.down,hN,lX]
         (try simp only[bn.down,simprocAttr,bs,hN,lX]at al⊢);exact al
       rcases dA h with⟨k7,h⟩|⟨k7,h⟩
       ·obtain⟨bo,tX,h⟩:=aM h
        rcases dA h with⟨mV,h⟩|⟨mV,h⟩
        ·refine cP (cv [(0,.slice (a0.map bs)),(2,.int .i64 a2),(7,.int .i64 (IntKind.i64.wrap (jY+(IntKind.i64.wrap (a7-1))))),(8,.int .i64 kj),(88,.bool true)] (fun P al=> ?_) ?_)
         ·simp only[aZ.down,simprocAttr,gj.down,k7,hN,(cZ mV)]
          refine eQ (JI ar.Label _ tX) rfl rfl rfl rfl (.inl (by rfl)) ?_
          simp only[aZ.down,simprocAttr,gj.down,k7,hN,(cZ mV)]
          (try simp only[bn.down,simprocAttr,bs,k7,hN,(cZ mV)]at al⊢);exact al
         refine fC rfl ?_
         refine ws _ ?_
         exact aJ (iy _ (.inl (aK [.bool false])))
        ·refine cP (cv [(0,.slice (a0.map bs)),(2,.int .i64 a2),(7,.int .i64 (IntKind.i64.wrap (jY+(IntKind.i64.wrap (a7-1))))),(8,.int .i64 kj),(88,.bool false)] (fun P al=> ?_) ?_)
         ·simp only[aZ.down,simprocAttr,gj.down,k7,hN,(aR mV)]
          refine eQ (JI ar.Label _ tX) rfl rfl rfl rfl (.inl (by rfl)) ?_
          simp only[aZ.down,simprocAttr,gj.down,k7,hN,(aR mV)]
          (try simp only[bn.down,simprocAttr,bs,k7,hN,(aR mV)]at al⊢);exact al
         refine lk rfl ?_
         refine a6 (j3 _ (gY _ (.inl ?_)))
         refine wr _ ?_
         exact eS _ (.inr ⟨_,bJ rfl,nE (IntKind.i64.wrap (jY+(IntKind.i64.wrap (a7-1)))) (IntKind.i64.wrap (kj+1)) h⟩)
       ·refine cP (cv [(0,.slice (a0.map bs)),(2,.int .i64 a2),(7,.int .i64 (IntKind.i64.wrap (jY+(IntKind.i64.wrap (a7-1))))),(8,.int .i64 kj),(88,.bool ((!(ar.Label==([]:List UInt8)))||ar.Not))] (fun P al=> ?_) ?_)
        ·rcases Bool.eq_false_or_eq_true (ar.Label==([]:List UInt8))with rQ|rQ
         ·simp only[aZ.down,simprocAttr,gj.down,k7,hN,rQ]
          (try simp only[bn.down,simprocAttr,bs,k7,hN,rQ]at al⊢);exact al
         ·simp only[aZ.down,simprocAttr,gj.down,k7,hN,rQ]
          (try simp only[bn.down,simprocAttr,bs,k7,hN,rQ]at al⊢);exact al
        refine a_ h (fun r0 h=> ?_) (fun r0 h=> ?_)
        ·refine ws _ ?_
         exact aJ (iy _ (.inl (aK [.bool false])))
        ·refine a6 (j3 _ (gY _ (.inl ?_)))
         refine wr _ ?_
         exact eS _ (.inr ⟨_,bJ rfl,nE (IntKind.i64.wrap (jY+(IntKind.i64.wrap (a7-1)))) (IntKind.i64.wrap (kj+1)) h⟩)
    ·refine eG (jj 0 _ (fW 0 _ (e7 _ (fw _ (.inl ?_)))))
     refine ws _ ?_
     exact aJ (az _ (.inl (aK [.bool (jY==0)])))
  obtain⟨n,h⟩:=eD h
  exact eH (.inr ⟨_,bJ rfl,og n 1 0 h⟩)
theorem wG (a0:bZ) (r:Bool) (h:yA a0=some r):bh aN 61 [.ref (bs a0)] (.bool r) []:=by
 refine b0 [0] [.tmp 2] Tryz.func61 WT (fun bP az bW=> ?_)
 refine ws _ ?_
 refine cP (cv [(2,.bool ((a0.Kind==7)||(a0.Kind==8)))] (fun P al=> ?_) ?_)
 ·rcases Bool.eq_false_or_eq_true (a0.Kind==7)with dL|dL
  ·simp only[aZ.down,simprocAttr,hU.down,dL]
   (try simp only[bn.down,simprocAttr,bs,dL]at al⊢);exact al
  ·simp only[aZ.down,simprocAttr,hU.down,dL]
   (try simp only[bn.down,simprocAttr,bs,dL]at al⊢);exact al
 exact aJ (az _ (.inl (aK [.bool ((a0.Kind==7)||(a0.Kind==8))])))
theorem air (a0:List bZ) (ab:Int) (r:Int) (h:yB a0 ab=some r):bh aN 77 [.slice (a0.map bs),.int .i64 ab] (.int .i64 r) []:=by
 refine b0 [0] [.tmp 4] Tryz.func77 W1 (fun bP az bW=> ?_)
 refine ws _ ?_
 refine ws _ ?_
 refine aU az (fun lr gJ dt a7=> ?_)
 refine cg dt (fun fZ fu cT cq bo=> ?_)
 have k6:∀(n:Nat) (hX:Int) (cF:Int),tz a0 n hX cF=some r→ei aN IJ fZ (R [(0,.slice (a0.map bs)),(1,.int .i64 hX),(5,.int .i64 cF)]):=by
  intro m6
  induction m6 with
  |zero=>intro hX cF h;cases(show none=some r from h)
  |succ m6 jl=>
   intro hX cF h
   replace h:CI (tz a0 m6) a0 hX cF=some r:=h
   refine eI cT (fun kD gl fF c1=> ?_)
   refine aU fF (fun fv dS du cu=> ?_)
   refine ws _ ?_
   refine a_ h (fun cm h=> ?_) (fun cm h=> ?_)
   ·refine a6 (dS _ (.inl ?_))
    refine cg fF (fun hB eK ee dR dU=> ?_)
    obtain⟨ar,ma,h⟩:=aM h
    obtain⟨aD,fi,h⟩:=aM h
    refine hk ma (JH ar.Kind _ fi) _ ?_
    refine wr _ ?_
    exact eK _ (gl _ (.inr ⟨_,bJ rfl,jl (IntKind.i64.wrap (hX+1)) (IntKind.i64.wrap (cF+(IntKind.i64.wrap (aD-1)))) h⟩))
   ·refine eG (cu 0 _ (c1 0 _ (cq _ (gJ _ (.inl ?_)))))
    refine ws _ ?_
    exact aJ (az _ (.inl (aK [.int .i64 hX])))
 obtain⟨n,h⟩:=eD h
 exact eH (.inr ⟨_,bJ rfl,k6 n ab 1 h⟩)
theorem ais (a0:List bZ) (ab:Int) (r:Int) (h:vM a0 ab=some r):bh aN 62 [.slice (a0.map bs),.int .i64 ab] (.int .i64 r) []:=by
 refine b0 [0,1] [.tmp 4] Tryz.func62 Xa (fun bP az bW=> ?_)
 refine ws _ ?_
 refine aU az (fun fl cA bD aD=> ?_)
 refine ws _ ?_
 refine cg bD (fun fZ fu cT cq bo=> ?_)
 have k6:∀(n:Nat) (cF:Int),rH a0 ab n cF=some r→ei aN IK fZ (R [(0,.slice (a0.map bs)),(1,.int .i64 ab),(5,.int .i64 cF)]):=by
  intro m6
  induction m6 with
  |zero=>intro cF h;cases(show none=some r from h)
  |succ m6 jl=>
   intro cF h
   replace h:yC (rH a0 ab m6) a0 ab cF=some r:=h
   refine eI cT (fun kD gl fF c1=> ?_)
   refine aU fF (fun fv dS du cu=> ?_)
   refine ws _ ?_
   refine a_ h (fun cm h=> ?_) (fun cm h=> ?_)
   ·refine a6 (dS _ (.inl ?_))
    refine aU fF (fun hB eK ee dU=> ?_)
    refine cg ee (fun fY c6 dk e7 dN=> ?_)
    obtain⟨ar,fi,h⟩:=aM h
    obtain⟨aD,fL,h⟩:=aM h
    rcases dA h with⟨fJ,h⟩|⟨fJ,h⟩
    ·obtain⟨a7,fc,h⟩:=aM h
     rcases dA h with⟨eL,h⟩|⟨eL,h⟩
     ·obtain⟨bo,ep,h⟩:=aM h
      refine fm rfl (fo [(0,.slice (a0.map bs)),(1,.int .i64 ab),(5,.int .i64 cF),(35,.bool (decide (ab<bo)))] (fun P al=> ?_) ?_)
      ·simp only[b3.down,simprocAttr,gj.down,fi,fJ,fc,eL]
       refine fD (wG ar _ fL) rfl rfl rfl rfl (.inl (by rfl)) ?_
       simp only[b3.down,simprocAttr,gj.down,fi,fJ,fc,eL]
       refine jA (air a0 cF _ ep) rfl rfl rfl rfl (.inl (by rfl)) ?_
       simp only[b3.down,simprocAttr,gj.down,fi,fJ,fc,eL]
       refine⟨fb (by kernel_rfl),?_⟩
       (try simp only[bn.down,simprocAttr,bs,fi,fJ,fc,eL]at al⊢);exact al
      refine a_ h (fun i7 h=> ?_) (fun i7 h=> ?_)
      ·refine ws _ ?_
       exact aJ (dk _ (.inl (aK [.int .i64 cF])))
      ·refine a6 (c6 _ (eK _ (.inl ?_)))
       refine wr _ ?_
       exact gl _ (.inr ⟨_,bJ rfl,jl (IntKind.i64.wrap (cF-1)) h⟩)
     ·refine fm rfl (fo [(0,.slice (a0.map bs)),(1,.int .i64 ab),(5,.int .i64 cF),(35,.bool false)] (fun P al=> ?_) ?_)
      ·simp only[b3.down,simprocAttr,gj.down,fi,fJ,fc,eL]
       refine fD (wG ar _ fL) rfl rfl rfl rfl (.inl (by rfl)) ?_
       simp only[b3.down,simprocAttr,gj.down,fi,fJ,fc,eL]
       refine⟨fb (by kernel_rfl),?_⟩
       (try simp only[bn.down,simprocAttr,bs,fi,fJ,fc,eL]at al⊢);exact al
      refine lk rfl ?_
      refine a6 (c6 _ (eK _ (.inl ?_)))
      refine wr _ ?_
      exact gl _ (.inr ⟨_,bJ rfl,jl (IntKind.i64.wrap (cF-1)) h⟩)
    ·refine fm rfl (fo [(0,.slice (a0.map bs)),(1,.int .i64 ab),(5,.int .i64 cF),(35,.bool false)] (fun P al=> ?_) ?_)
     ·simp only[b3.down,simprocAttr,gj.down,fi,fJ]
      refine fD (wG ar _ fL) rfl rfl rfl rfl (.inl (by rfl)) ?_
      simp only[b3.down,simprocAttr,gj.down,fi,fJ]
      refine⟨fb (by kernel_rfl),?_⟩
      (try simp only[bn.down,simprocAttr,bs,fi,fJ]at al⊢);exact al
     refine lk rfl ?_
     refine a6 (c6 _ (eK _ (.inl ?_)))
     refine wr _ ?_
     exact gl _ (.inr ⟨_,bJ rfl,jl (IntKind.i64.wrap (cF-1)) h⟩)
   ·refine eG (cu 0 _ (c1 0 _ (cq _ (cA _ (.inl ?_)))))
    refine ws _ ?_
    exact aJ (az _ (.inl (aK [.int .i64 (-1)])))
 obtain⟨n,h⟩:=eD h
 exact eH (.inr ⟨_,bJ rfl,k6 n (IntKind.i64.wrap (ab-1)) h⟩)
theorem ait (a0:List bZ) (r:Bool) (h:yF a0=some r):bh aN 40 [.slice (a0.map bs)] (.bool r) []:=by
 refine b0 [0] [.tmp 2] Tryz.func40 Xt (fun bP az bW=> ?_)
 refine ws _ ?_
 refine aU az (fun fl cA bD aD=> ?_)
 obtain⟨ar,bQ,h⟩:=aM h
 refine dH (aiq a0 30 8 _ bQ) _ ?_
 refine a_ h (fun cr h=> ?_) (fun cr h=> ?_)
 ·refine ws _ ?_
  exact aJ (bD _ (.inl (aK [.bool false])))
 ·refine a6 (cA _ (.inl ?_))
  refine aU az (fun kl gk e3 da=> ?_)
  refine ws _ ?_
  refine cg e3 (fun hB eK ee dR dU=> ?_)
  have hL:∀(n:Nat) (cy:Int),pC a0 n cy=some r→ei aN IM hB (R [(0,.slice (a0.map bs)),(3,.int .i64 cy)]):=by
   intro m14
   induction m14 with
   |zero=>intro cy h;cases(show none=some r from h)
   |succ m14 gE=>
    intro cy h
    replace h:yE (pC a0 m14) a0 cy=some r:=h
    refine eI ee (fun fY c6 dk dN=> ?_)
    refine aU dk (fun jk eS ft fW=> ?_)
    refine ws _ ?_
    refine a_ h (fun gR h=> ?_) (fun gR h=> ?_)
    ·refine a6 (eS _ (.inl ?_))
     refine aU dk (fun i1 eY eZ i6=> ?_)
     refine cg eZ (fun lY gY hJ jF k5=> ?_)
     have JJ:∀(nA:Int),yD (pC a0 m14) a0 nA=some r→cK aN IL lY (R [(0,.slice (a0.map bs)),(3,.int .i64 nA)]):=by
      intro nA h
      obtain⟨aD,eB,h⟩:=aM h
      rcases dA h with⟨iN,h⟩|⟨iN,h⟩
      ·obtain⟨a7,j5,h⟩:=aM h
       refine cP (cv [(0,.slice (a0.map bs)),(3,.int .i64 nA),(49,.bool (decide (a7<0)))] (fun P al=> ?_) ?_)
       ·simp only[aZ.down,simprocAttr,gj.down,eB,iN]
        refine eQ (ais a0 nA _ j5) rfl rfl rfl rfl (.inl (by rfl)) ?_
        simp only[aZ.down,simprocAttr,gj.down,eB,iN]
        (try simp only[bn.down,simprocAttr,bs,eB,iN]at al⊢);exact al
       refine a_ h (fun j4 h=> ?_) (fun j4 h=> ?_)
       ·refine ws _ ?_
        exact aJ (hJ _ (.inl (aK [.bool false])))
       ·refine a6 (gY _ (eY _ (.inl ?_)))
        refine wr _ ?_
        exact c6 _ (.inr ⟨_,bJ rfl,gE (IntKind.i64.wrap (nA+1)) h⟩)
      ·refine fs (And.intro eB iN) _ ?_
       refine lk rfl ?_
       refine a6 (gY _ (eY _ (.inl ?_)))
       refine wr _ ?_
       exact c6 _ (.inr ⟨_,bJ rfl,gE (IntKind.i64.wrap (nA+1)) h⟩)
     refine aU hJ (fun oh j3 iy oY=> ?_)
     obtain⟨bo,km,h⟩:=aM h
     obtain⟨c1,jJ,h⟩:=aM h
     refine cP (cv [(0,.slice (a0.map bs)),(3,.int .i64 cy),(24,.bool (c1||(bo.Kind==6)))] (fun P al=> ?_) ?_)
     ·rcases Bool.eq_false_or_eq_true (c1)with lX|lX
      ·simp only[aZ.down,simprocAttr,gj.down,km,lX]
       refine ev (wG bo _ jJ) rfl rfl rfl rfl (.inl (by rfl)) ?_
       simp only[aZ.down,simprocAttr,gj.down,km,lX]
       (try simp only[bn.down,simprocAttr,bs,km,lX]at al⊢);exact al
      ·simp only[aZ.down,simprocAttr,gj.down,km,lX]
       refine ev (wG bo _ jJ) rfl rfl rfl rfl (.inl (by rfl)) ?_
       simp only[aZ.down,simprocAttr,gj.down,km,lX]
       (try simp only[bn.down,simprocAttr,bs,km,lX]at al⊢);exact al
     refine a_ h (fun hM h=> ?_) (fun hM h=> ?_)
     ·obtain⟨cu,tX,h⟩:=aM h
      refine hk km (jm bo.Variable 0 2 _ tX) _ ?_
      refine a_ h (fun mV h=> ?_) (fun mV h=> ?_)
      ·refine ws _ ?_
       exact aJ (iy _ (.inl (aK [.bool false])))
      ·exact a6 (j3 _ (.inr ⟨_,bJ rfl,JJ cy h⟩))
     ·refine fs km _ ?_
      refine a_ h (fun Dp h=> ?_) (fun Dp h=> ?_)
      ·refine ws _ ?_
       exact aJ (iy _ (.inl (aK [.bool false])))
      ·exact a6 (j3 _ (.inr ⟨_,bJ rfl,JJ cy h⟩))
    ·refine eG (fW 0 _ (dN 0 _ (dR _ (gk _ (.inl ?_)))))
     refine ws _ ?_
     exact aJ (az _ (.inl (aK [.bool true])))
  obtain⟨n,h⟩:=eD h
  exact eH (.inr ⟨_,bJ rfl,hL n 0 h⟩)
theorem aiu (a0:gx) (ab:dM) (r:Bool) (h:yG a0 ab=some r):bh aN 18 [.ref (iv a0),.ref (ew ab)] (.bool r) []:=by
 refine b0 [0,1] [.tmp 4] Tryz.func18 XG (fun bP az bW=> ?_)
 refine ws _ ?_
 refine ws _ ?_
 refine aU az (fun lr gJ dt a7=> ?_)
 obtain⟨ar,cp,h⟩:=aM h
 rcases dA h with⟨cw,h⟩|⟨cw,h⟩
 ·refine hk (cZ cw) (jm ab.Kind 0 7 _ cp) _ ?_
  refine fC rfl ?_
  refine ws _ ?_
  exact aJ (dt _ (.inl (aK [.bool false])))
 ·obtain⟨aD,gb,h⟩:=aM h
  rcases dA h with⟨dR,h⟩|⟨dR,h⟩
  ·refine cP (cv [(1,.ref (ew ab)),(36,.bool true)] (fun P al=> ?_) ?_)
   ·simp only[aZ.down,simprocAttr,hV.down,(aR cw),(cZ dR)]
    refine ev (jm ab.Kind 0 7 _ cp) rfl rfl rfl rfl (.inl (by rfl)) ?_
    simp only[aZ.down,simprocAttr,hV.down,(aR cw),(cZ dR)]
    refine eQ (jm ab.Left 0 (IntKind.i64.wrap ((a0.dB.length:Int)-1)) _ gb) rfl rfl rfl rfl (.inl (by rfl)) ?_
    simp only[aZ.down,simprocAttr,hV.down,(aR cw),(cZ dR)]
    (try simp only[bn.down,simprocAttr,pI.down,(aR cw),(cZ dR)]at al⊢);exact al
   refine fC rfl ?_
   refine ws _ ?_
   exact aJ (dt _ (.inl (aK [.bool false])))
  ·obtain⟨a7,ma,h⟩:=aM h
   refine cP (cv [(1,.ref (ew ab)),(36,.bool (!a7))] (fun P al=> ?_) ?_)
   ·simp only[aZ.down,simprocAttr,hV.down,(aR cw),(aR dR)]
    refine ev (jm ab.Kind 0 7 _ cp) rfl rfl rfl rfl (.inl (by rfl)) ?_
    simp only[aZ.down,simprocAttr,hV.down,(aR cw),(aR dR)]
    refine eQ (jm ab.Left 0 (IntKind.i64.wrap ((a0.dB.length:Int)-1)) _ gb) rfl rfl rfl rfl (.inl (by rfl)) ?_
    simp only[aZ.down,simprocAttr,hV.down,(aR cw),(aR dR)]
    refine eQ (jm ab.hT 0 (IntKind.i64.wrap ((a0.dB.length:Int)-1)) _ ma) rfl rfl rfl rfl (.inl (by rfl)) ?_
    simp only[aZ.down,simprocAttr,hV.down,(aR cw),(aR dR)]
    (try simp only[bn.down,simprocAttr,pI.down,(aR cw),(aR dR)]at al⊢);exact al
   refine a_ h (fun dm h=> ?_) (fun dm h=> ?_)
   ·refine ws _ ?_
    exact aJ (dt _ (.inl (aK [.bool false])))
   ·refine a6 (gJ _ (.inl ?_))
    refine aU az (fun i1 eY eZ i6=> ?_)
    obtain⟨bo,dn,h⟩:=aM h
    refine cP (cv [(1,.ref (ew ab)),(49,.bool ((!bo)&&(ab.hT !=0)))] (fun P al=> ?_) ?_)
    ·rcases Bool.eq_false_or_eq_true (bo)with pH|pH
     ·simp only[aZ.down,simprocAttr,hV.down,pH]
      refine ev (JG ab.Kind _ dn) rfl rfl rfl rfl (.inl (by rfl)) ?_
      simp only[aZ.down,simprocAttr,hV.down,pH]
      (try simp only[bn.down,simprocAttr,pI.down,pH]at al⊢);exact al
     ·simp only[aZ.down,simprocAttr,hV.down,pH]
      refine ev (JG ab.Kind _ dn) rfl rfl rfl rfl (.inl (by rfl)) ?_
      simp only[aZ.down,simprocAttr,hV.down,pH]
      (try simp only[bn.down,simprocAttr,pI.down,pH]at al⊢);exact al
    refine a_ h (fun i7 h=> ?_) (fun i7 h=> ?_)
    ·refine ws _ ?_
     exact aJ (eZ _ (.inl (aK [.bool false])))
    ·refine a6 (eY _ (.inl ?_))
     refine aU az (fun ahO zK Dh ahP=> ?_)
     obtain⟨c1,g_,h⟩:=aM h
     refine dH (aip ab.Kind _ g_) _ ?_
     refine a_ h (fun hZ h=> ?_) (fun hZ h=> ?_)
     ·obtain⟨cu,qE,h⟩:=aM h
      refine dH (ait ab.Formula _ qE) _ ?_
      exact aJ (Dh _ (.inl (aK [.bool cu])))
     ·refine a6 (zK _ (.inl ?_))
      refine ws _ ?_
      exact aJ (az _ (.inl (aK [.bool ((ab.Formula.length:Int)==0)])))
theorem aiv (a0:gx) (ab:dM) (r:Bool) (h:yH a0 ab=some r):bh aN 6 [iv a0,ew ab] (.bool r) []:=by
 refine b0 [0,1] [.tmp 4] Tryz.func6 rR (fun bP az bW=> ?_)
 refine ws _ ?_
 obtain⟨ar,aS,h⟩:=aM h
 rcases dA h with⟨cq,h⟩|⟨cq,h⟩
 ·obtain⟨aD,cp,h⟩:=aM h
  refine cP (cv [(4,.bool aD)] (fun P al=> ?_) ?_)
  ·refine ev (JF a0 _ aS) rfl rfl (by simp only[aZ.down,simprocAttr,k4.down,cq,nu,nv,nw,eV, @c_ _ a1 a1 (fun _=>k1 _), @c_ _ dQ dQ (fun _=>wh _), @c_ _ ew ew (fun _=>wj _)]<;>rfl) rfl (.inr (by rfl)) ?_
   simp only[aZ.down,simprocAttr,k4.down,cq]
   refine eQ (aiu a0 ab _ cp) rfl rfl (by simp only[aZ.down,simprocAttr,k4.down,cq,nu,nv,nw,eV, @c_ _ a1 a1 (fun _=>k1 _), @c_ _ dQ dQ (fun _=>wh _), @c_ _ ew ew (fun _=>wj _), @c_ _ di di (fun _=>zw _), @c_ _ bs bs (fun _=>pG _)]<;>rfl) rfl (.inr (by rfl)) ?_
   simp only[aZ.down,simprocAttr,k4.down,cq]
   (try simp only[bn.down,simprocAttr,k4.down,cq]at al⊢);exact al
  exact aJ (az _ (.inl (aK [.bool aD])))
 ·refine cP (cv [(4,.bool false)] (fun P al=> ?_) ?_)
  ·refine ev (JF a0 _ aS) rfl rfl (by simp only[aZ.down,simprocAttr,k4.down,cq,nu,nv,nw,eV, @c_ _ a1 a1 (fun _=>k1 _), @c_ _ dQ dQ (fun _=>wh _), @c_ _ ew ew (fun _=>wj _)]<;>rfl) rfl (.inr (by rfl)) ?_
   simp only[aZ.down,simprocAttr,k4.down,cq]
   (try simp only[bn.down,simprocAttr,k4.down,cq]at al⊢);exact al
  exact aJ (az _ (.inl (aK [.bool false])))
theorem iA (a0:Int) (ab:Int) (a2:Int) (r:Bool) (h:jZ a0 ab a2=some r):bh aN 44 [.int .i64 a0,.int .i64 ab,.int .i64 a2] (.bool r) []:=by
 refine b0 [0,1,2] [.tmp 6] Tryz.func44 XK (fun bP az bW=> ?_)
 refine ws _ ?_
 refine cP (cv [(6,.bool ((decide (ab≤a0))&&(decide (a0≤a2))))] (fun P al=> ?_) ?_)
 ·rcases Bool.eq_false_or_eq_true (decide (ab≤a0))with dL|dL
  ·simp only[aZ.down,simprocAttr,dL]
   (try simp only[bn.down,simprocAttr,dL]at al⊢);exact al
  ·simp only[aZ.down,simprocAttr,dL]
   (try simp only[bn.down,simprocAttr,dL]at al⊢);exact al
 exact aJ (az _ (.inl (aK [.bool ((decide (ab≤a0))&&(decide (a0≤a2)))])))
theorem aiw (a0:UInt8) (r:Bool) (h:CJ a0=some r):bh aN 64 [.int .u8 (a0.toNat:Int)] (.bool r) []:=by
 refine b0 [0] [.tmp 2] Tryz.func64 XN (fun bP az bW=> ?_)
 refine ws _ ?_
 refine cP (cv [(2,.bool ((decide (48≤(a0.toNat:Int)))&&(decide ((a0.toNat:Int)≤57))))] (fun P al=> ?_) ?_)
 ·rcases Bool.eq_false_or_eq_true (decide (48≤(a0.toNat:Int)))with dL|dL
  ·simp only[aZ.down,simprocAttr,dL]
   (try simp only[bn.down,simprocAttr,dL]at al⊢);exact al
  ·simp only[aZ.down,simprocAttr,dL]
   (try simp only[bn.down,simprocAttr,dL]at al⊢);exact al
 exact aJ (az _ (.inl (aK [.bool ((decide (48≤(a0.toNat:Int)))&&(decide ((a0.toNat:Int)≤57)))])))
theorem wH (a0:List UInt8) (r:Bool) (h:vO a0=some r):bh aN 45 [.str a0] (.bool r) []:=by
 refine b0 [0] [.tmp 2] Tryz.func45 XZ (fun bP az bW=> ?_)
 refine ws _ ?_
 refine aU az (fun fl cA bD aD=> ?_)
 refine ws _ ?_
 refine cg bD (fun fZ fu cT cq bo=> ?_)
 have k6:∀(n:Nat) (kB:Int),pD a0 n kB=some r→ei aN IP fZ (R [(0,.str a0),(6,.int .i64 (a0.length:Int)),(7,.int .i64 kB)]):=by
  intro m6
  induction m6 with
  |zero=>intro kB h;cases(show none=some r from h)
  |succ m6 jl=>
   intro kB h
   replace h:vN (pD a0 m6) a0 kB=some r:=h
   refine eI cT (fun kD gl fF c1=> ?_)
   refine ws _ ?_
   refine aU fF (fun kl gk e3 da=> ?_)
   refine a_ h (fun cm h=> ?_) (fun cm h=> ?_)
   ·refine a6 (gk _ (.inl ?_))
    refine aU fF (fun hB eK ee dU=> ?_)
    refine cg ee (fun fY c6 dk e7 dN=> ?_)
    refine ws _ ?_
    obtain⟨ar,fL,h⟩:=aM h
    refine cP (cv [(0,.str a0),(3,.int .i64 kB),(4,.bool ((decide (97≤(ar.toNat:Int)))&&(decide ((ar.toNat:Int)≤122)))),(6,.int .i64 (a0.length:Int)),(7,.int .i64 kB)] (fun P al=> ?_) ?_)
    ·rcases Bool.eq_false_or_eq_true (decide (97≤(ar.toNat:Int)))with rP|rP
     ·simp only[aZ.down,simprocAttr,fq,fL,rP]
      (try simp only[bn.down,simprocAttr,fL,rP]at al⊢);exact al
     ·simp only[aZ.down,simprocAttr,fq,fL,rP]
      (try simp only[bn.down,simprocAttr,fL,rP]at al⊢);exact al
    rcases dA h with⟨eL,h⟩|⟨eL,h⟩
    ·rcases dA h with⟨mu,h⟩|⟨mu,h⟩
     ·refine fs (And.intro eL mu) _ ?_
      refine fC rfl ?_
      refine ws _ ?_
      exact aJ (dk _ (.inl (aK [.bool false])))
     ·obtain⟨aD,l0,h⟩:=aM h
      refine cP (cv [(0,.str a0),(6,.int .i64 (a0.length:Int)),(7,.int .i64 kB),(32,.bool (!aD))] (fun P al=> ?_) ?_)
      ·simp only[aZ.down,simprocAttr,fq,eL,mu,fL]
       refine eQ (aiw ar _ l0) rfl rfl rfl rfl (.inl (by rfl)) ?_
       simp only[aZ.down,simprocAttr,fq,eL,mu,fL]
       (try simp only[bn.down,simprocAttr,eL,mu,fL]at al⊢);exact al
      refine a_ h (fun gD h=> ?_) (fun gD h=> ?_)
      ·refine ws _ ?_
       exact aJ (dk _ (.inl (aK [.bool false])))
      ·refine a6 (c6 _ (eK _ (.inl ?_)))
       refine wr _ ?_
       exact gl _ (.inr ⟨_,bJ rfl,jl (IntKind.i64.wrap (kB+1)) h⟩)
    ·refine fs eL _ ?_
     refine lk rfl ?_
     refine a6 (c6 _ (eK _ (.inl ?_)))
     refine wr _ ?_
     exact gl _ (.inr ⟨_,bJ rfl,jl (IntKind.i64.wrap (kB+1)) h⟩)
   ·refine eG (da 0 _ (c1 0 _ (cq _ (cA _ (.inl ?_)))))
    refine cP (cv [(2,.bool ((decide (1≤(a0.length:Int)))&&(decide ((a0.length:Int)≤10))))] (fun P al=> ?_) ?_)
    ·rcases Bool.eq_false_or_eq_true (decide (1≤(a0.length:Int)))with rS|rS
     ·simp only[aZ.down,simprocAttr,fq,rS]
      (try simp only[bn.down,simprocAttr,rS]at al⊢);exact al
     ·simp only[aZ.down,simprocAttr,fq,rS]
      (try simp only[bn.down,simprocAttr,rS]at al⊢);exact al
    exact aJ (az _ (.inl (aK [.bool ((decide (1≤(a0.length:Int)))&&(decide ((a0.length:Int)≤10)))])))
 obtain⟨n,h⟩:=eD h
 exact eH (.inr ⟨_,bJ rfl,k6 n 0 h⟩)
theorem aix (a0:List (List UInt8)) (ab:List UInt8) (r:Int) (h:CK a0 ab=some r):bh aN 65 [.slice (a0.map a1),.str ab] (.int .i64 r) []:=by
 refine b0 [0,1] [.tmp 4] Tryz.func65 X_ (fun bP az bW=> ?_)
 refine ws _ ?_
 refine aU az (fun fl cA bD aD=> ?_)
 refine ws _ ?_
 refine cg bD (fun fZ fu cT cq bo=> ?_)
 have k6:∀(n:Nat) (hI:Int),rI a0 ab n hI=some r→ei aN IQ fZ (R [(0,.slice (a0.map a1)),(1,.str ab),(7,.int .i64 (a0.length:Int)),(8,.int .i64 hI)]):=by
  intro m6
  induction m6 with
  |zero=>intro hI h;cases(show none=some r from h)
  |succ m6 jl=>
   intro hI h
   replace h:yI (rI a0 ab m6) a0 ab hI=some r:=h
   refine eI cT (fun kD gl fF c1=> ?_)
   refine ws _ ?_
   refine aU fF (fun kl gk e3 da=> ?_)
   refine a_ h (fun cm h=> ?_) (fun cm h=> ?_)
   ·refine a6 (gk _ (.inl ?_))
    refine aU fF (fun hB eK ee dU=> ?_)
    refine cg ee (fun fY c6 dk e7 dN=> ?_)
    refine ws _ ?_
    obtain⟨ar,fL,h⟩:=aM h
    refine fs fL _ ?_
    refine a_ h (fun fJ h=> ?_) (fun fJ h=> ?_)
    ·refine ws _ ?_
     exact aJ (dk _ (.inl (aK [.int .i64 hI])))
    ·refine a6 (c6 _ (eK _ (.inl ?_)))
     refine wr _ ?_
     exact gl _ (.inr ⟨_,bJ rfl,jl (IntKind.i64.wrap (hI+1)) h⟩)
   ·refine eG (da 0 _ (c1 0 _ (cq _ (cA _ (.inl ?_)))))
    refine ws _ ?_
    exact aJ (az _ (.inl (aK [.int .i64 (-1)])))
 obtain⟨n,h⟩:=eD h
 exact eH (.inr ⟨_,bJ rfl,k6 n 0 h⟩)
theorem JK (a0:List (List UInt8)) (ab:List UInt8) (r:Bool) (h:yJ a0 ab=some r):bh aN 46 [.slice (a0.map a1),.str ab] (.bool r) []:=by
 refine b0 [0,1] [.tmp 4] Tryz.func46 Yb (fun bP az bW=> ?_)
 refine ws _ ?_
 obtain⟨ar,aS,h⟩:=aM h
 refine dH (aix a0 ab _ aS) _ ?_
 exact aJ (az _ (.inl (aK [.bool (decide (0≤ar))])))
theorem nH (a0:dC) (ab:Int) (r:Bool) (h:tA a0 ab=some r):bh aN 66 [dQ a0,.int .i64 ab] (.bool r) []:=by
 refine b0 [0,1] [.tmp 4] Tryz.func66 Ye (fun bP az bW=> ?_)
 refine ws _ ?_
 obtain⟨ar,aS,h⟩:=aM h
 refine dH (iA ab 0 (IntKind.i64.wrap (a0.eW-1)) _ aS) _ ?_
 exact aJ (az _ (.inl (aK [.bool ar])))
theorem JL:∀a c,oe a c=Lib.indexByte a c
 |[],_=>rfl
 |a::x,c=>by simp only[oe,Lib.indexByte,JL x c]
theorem aiy (a0:List UInt8) (ab:UInt8) (r:Int) (h:CL a0 ab=some r):bh aN 135 [.str a0,.int .u8 ab.toNat] (.int .i64 r) []:=by
 rw[show r=Lib.indexByte a0 ab from(Aj h).trans (JL _ _)]
 exact Hl Tryz.func135 (by kernel_rfl) (by kernel_rfl) (by kernel_rfl) (E:=Extern.BytealgIndexByte.indexByte) (by kernel_rfl) a0 ab _ fun w=>by
  rw[Lib.run_indexByteString,show((ab.toNat:Int).toNat).toUInt8=ab from by simp]
theorem aiz (a0:List UInt8) (ab:UInt8) (r:Int) (h:CM a0 ab=some r):bh aN 120 [.str a0,.int .u8 (ab.toNat:Int)] (.int .i64 r) []:=by
 refine b0 [0,1] [.tmp 4] Tryz.func120 Yh (fun bP az bW=> ?_)
 refine ws _ ?_
 obtain⟨ar,aS,h⟩:=aM h
 refine dH (aiy a0 ab _ aS) _ ?_
 exact aJ (az _ (.inl (aK [.int .i64 ar])))
theorem JM (a0:List UInt8) (ab:List UInt8) (r:Int) (h:pE a0 ab=some r):bh aN 108 [.str a0,.str ab] (.int .i64 r) []:=by
 refine b0 [0,1] [.tmp 4] Tryz.func108 Y5 (fun bP az bW=> ?_)
 refine ws _ ?_
 refine ws _ ?_
 refine aU az (fun lr gJ dt a7=> ?_)
 refine cg dt (fun fZ fu cT cq bo=> ?_)
 refine cP (cv [(0,.str a0),(1,.str ab),(5,.int .i64 (ab.length:Int)),(16,.bool (((ab.length:Int)==0)||(ab==a0)))] (fun P al=> ?_) ?_)
 ·rcases Bool.eq_false_or_eq_true ((ab.length:Int)==0)with rR|rR
  ·simp only[aZ.down,simprocAttr,rR]
   (try simp only[bn.down,simprocAttr,rR]at al⊢);exact al
  ·simp only[aZ.down,simprocAttr,rR]
   (try simp only[bn.down,simprocAttr,rR]at al⊢);exact al
 refine a_ h (fun kb h=> ?_) (fun kb h=> ?_)
 ·refine ws _ ?_
  exact aJ (cT _ (.inl (aK [.int .i64 0])))
 ·refine ws _ ?_
  refine a_ h (fun e7 h=> ?_) (fun e7 h=> ?_)
  ·obtain⟨ar,fi,h⟩:=aM h
   obtain⟨aD,fL,h⟩:=aM h
   refine hk fi (aiz a0 ar _ fL) _ ?_
   exact aJ (cT _ (.inl (aK [.int .i64 aD])))
  ·refine ws _ ?_
   refine a_ h (fun jF h=> ?_) (fun jF h=> ?_)
   ·refine ws _ ?_
    exact aJ (cT _ (.inl (aK [.int .i64 (-1)])))
   ·cases h
theorem aiA (a0:List UInt8) (ab:List UInt8) (r:(List UInt8)×(List UInt8)×Bool) (h:yK a0 ab=some r):bh aN 101 [.str a0,.str ab] (.tuple [.str r.1,.str r.2.1,.bool r.2.2]) []:=by
 refine b0 [0,1] [.tmp 4,.tmp 5,.tmp 6] Tryz.func101 Zb (fun bP az bW=> ?_)
 refine ws _ ?_
 refine aU az (fun fl cA bD aD=> ?_)
 obtain⟨ar,bQ,h⟩:=aM h
 refine dH (JM a0 ab _ bQ) _ ?_
 refine ws _ ?_
 refine a_ h (fun cw h=> ?_) (fun cw h=> ?_)
 ·obtain⟨aD,gb,h⟩:=aM h
  obtain⟨a7,h7,h⟩:=aM h
  refine fm rfl (fo [(4,.str aD),(5,.str a7),(6,.bool true)] (fun P al=> ?_) ?_)
  ·simp only[b3.down,simprocAttr,fq,gb,h7]
   refine⟨fb (by kernel_rfl),?_⟩
   (try simp only[bn.down,simprocAttr,gb,h7]at al⊢);exact al
  exact aJ (bD _ (.inl (aK [.str aD,.str a7,.bool true])))
 ·refine a6 (cA _ (.inl ?_))
  refine ws _ ?_
  exact aJ (az _ (.inl (aK [.str a0,.str ([]:List UInt8),.bool false])))
theorem aiB (a0:List UInt8) (ab:List UInt8) (r:(List UInt8)×(List UInt8)×Bool) (h:tB a0 ab=some r):bh aN 90 [.str a0,.str ab] (.tuple [.str r.1,.str r.2.1,.bool r.2.2]) []:=by
 refine b0 [0,1] [.tmp 4,.tmp 5,.tmp 6] Tryz.func90 Ze (fun bP az bW=> ?_)
 refine ws _ ?_
 obtain⟨ar,aS,h⟩:=aM h
 refine dH (aiA a0 ab _ aS) _ ?_
 exact aJ (az _ (.inl (aK [.str ar.1,.str ar.2.1,.bool ar.2.2])))
theorem JN (a0:List UInt8) (ab:List UInt8) (r:Bool) (h:tC a0 ab=some r):bh aN 115 [.str a0,.str ab] (.bool r) []:=by
 refine b0 [0,1] [.tmp 4] Tryz.func115 Zh (fun bP az bW=> ?_)
 refine ws _ ?_
 rcases dA h with⟨lJ,h⟩|⟨lJ,h⟩
 ·obtain⟨ar,bQ,h⟩:=aM h
  refine fs (And.intro lJ bQ) _ ?_
  exact aJ (az _ (.inl (aK [.bool (ar==ab)])))
 ·refine fs lJ _ ?_
  exact aJ (az _ (.inl (aK [.bool false])))
theorem aiC (a0:List UInt8) (ab:List UInt8) (r:(List UInt8)) (h:yL a0 ab=some r):bh aN 104 [.str a0,.str ab] (.str r) []:=by
 refine b0 [0,1] [.tmp 4] Tryz.func104 Zn (fun bP az bW=> ?_)
 refine ws _ ?_
 refine aU az (fun fl cA bD aD=> ?_)
 obtain⟨ar,bQ,h⟩:=aM h
 refine dH (JN a0 ab _ bQ) _ ?_
 refine a_ h (fun cr h=> ?_) (fun cr h=> ?_)
 ·obtain⟨aD,bH,h⟩:=aM h
  refine fs bH _ ?_
  exact aJ (bD _ (.inl (aK [.str aD])))
 ·refine a6 (cA _ (.inl ?_))
  refine ws _ ?_
  exact aJ (az _ (.inl (aK [.str a0])))
theorem aiD (a0:List UInt8) (ab:List UInt8) (r:(List UInt8)) (h:strings_TrimSuffix a0 ab=some r):bh aN 93 [.str a0,.str ab] (.str r) []:=by
 refine b0 [0,1] [.tmp 4] Tryz.func93 Zp (fun bP az bW=> ?_)
 refine ws _ ?_
 obtain⟨ar,aS,h⟩:=aM h
 refine dH (aiC a0 ab _ aS) _ ?_
 exact aJ (az _ (.inl (aK [.str ar])))
theorem aiE (a0:List UInt8) (ab:UInt8) (r:Int) (h:CN a0 ab=some r):bh aN 130 [.str a0,.int .u8 ab.toNat] (.int .i64 r) []:=by
 rw[show r=((Lib.countByte a0 ab:Nat):Int)from Aj h]
 exact Hl Tryz.func130 (by kernel_rfl) (by kernel_rfl) (by kernel_rfl) (E:=Extern.BytealgCount.count) (by kernel_rfl) a0 ab _ fun w=>by
  rw[Lib.run_countString,show((ab.toNat:Int).toNat).toUInt8=ab from by simp]
theorem JO (a0:List UInt8) (ab:List UInt8) (r:Int) (h:vP a0 ab=some r):bh aN 114 [.str a0,.str ab] (.int .i64 r) []:=by
 refine b0 [0,1] [.tmp 4] Tryz.func114 Zs (fun bP az bW=> ?_)
 refine ws _ ?_
 obtain⟨ar,aS,h⟩:=aM h
 refine dH (JM a0 ab _ aS) _ ?_
 exact aJ (az _ (.inl (aK [.int .i64 ar])))
theorem aiF (a0:List UInt8) (ab:List UInt8) (r:Int) (h:CO a0 ab=some r):bh aN 113 [.str a0,.str ab] (.int .i64 r) []:=by
 refine b0 [1] [.tmp 4] Tryz.func113 ZH (fun bP az bW=> ?_)
 refine ws _ ?_
 refine aU az (fun fl cA bD aD=> ?_)
 refine ws _ ?_
 refine a_ h (fun cq h=> ?_) (fun cq h=> ?_)
 ·cases h
 ·refine a6 (cA _ (.inl ?_))
  refine aU az (fun fv dS du cu=> ?_)
  refine ws _ ?_
  refine a_ h (fun cm h=> ?_) (fun cm h=> ?_)
  ·obtain⟨ar,iQ,h⟩:=aM h
   obtain⟨aD,ma,h⟩:=aM h
   refine hk iQ (aiE a0 ar _ ma) _ ?_
   exact aJ (du _ (.inl (aK [.int .i64 aD])))
  ·refine a6 (dS _ (.inl ?_))
   refine ws _ ?_
   refine cg az (fun mT i_ jn gR kY=> ?_)
   have aiG:∀(n:Nat) (nB:List UInt8) (nC:Int),yM ab n nB nC=some r→ei aN IU mT (R [(0,.str nB),(1,.str ab),(5,.int .i64 nC)]):=by
    intro m21
    induction m21 with
    |zero=>intro nB nC h;cases(show none=some r from h)
    |succ m21 aiH=>
     intro nB nC h
     replace h:HY (yM ab m21) ab nB nC=some r:=h
     refine eI jn (fun i1 eY eZ i6=> ?_)
     refine cg eZ (fun lY gY hJ jF k5=> ?_)
     obtain⟨a7,ep,h⟩:=aM h
     refine dH (JO nB ab _ ep) _ ?_
     refine aU hJ (fun tQ l1 lv qF=> ?_)
     refine ws _ ?_
     refine a_ h (fun gD h=> ?_) (fun gD h=> ?_)
     ·refine ws _ ?_
      exact aJ (lv _ (.inl (aK [.int .i64 nC])))
     ·refine a6 (l1 _ (.inl ?_))
      refine ws _ ?_
      obtain⟨bo,j6,h⟩:=aM h
      refine Db j6 _ ?_
      exact gY _ (eY _ (.inr ⟨_,bJ rfl,aiH bo (IntKind.i64.wrap (nC+1)) h⟩))
   obtain⟨n,h⟩:=eD h
   exact eH (.inr ⟨_,bJ rfl,aiG n a0 0 h⟩)
theorem aiI (a0:List UInt8) (ab:List UInt8) (a2:Int) (a3:Int) (r:(List (List UInt8))) (h:CP a0 ab a2 a3=some r):bh aN 103 [.str a0,.str ab,.int .i64 a2,.int .i64 a3] (.aL 1 (r.map a1)) []:=by
 refine b0 [1,2] [.tmp 8] Tryz.func103 Z4 (fun bP az bW=> ?_)
 refine ws _ ?_
 refine aU az (fun fl cA bD aD=> ?_)
 refine ws _ ?_
 refine a_ h (fun cq h=> ?_) (fun cq h=> ?_)
 ·refine ws _ ?_
  exact aJ (bD _ (.inr ⟨[(8,.aL 1 [])],mO [] rfl (mQ (t:=8) (d:=.bk) rfl rfl (.jw _) (by decide) (mP)),aK [.aL 1 []]⟩))
 ·refine a6 (cA _ (.inl ?_))
  refine aU az (fun fv dS du cu=> ?_)
  refine ws _ ?_
  refine a_ h (fun cm h=> ?_) (fun cm h=> ?_)
  ·cases h
  ·refine a6 (dS _ (.inl ?_))
   have JP:∀(gX:Int),yO a0 ab a2 gX=some r→cK aN IX bP (R [(0,.str a0),(1,.str ab),(2,.int .i64 a2),(3,.int .i64 gX)]):=by
    intro gX h
    refine cP (cv [(0,.str a0),(1,.str ab),(2,.int .i64 a2),(3,.int .i64 (h3 false gX (IntKind.i64.wrap ((a0.length:Int)+1))))] (fun P al=> ?_) ?_)
    ·simp only[aZ.down,simprocAttr,fq, @Hm,Hn]
     (try simp only[bn.down,simprocAttr, @Hm,Hn]at al⊢);exact al
    obtain⟨am0,fL,h⟩:=aM h
    refine cP (cv [(0,.str a0),(1,.str ab),(2,.int .i64 a2),(3,.int .i64 (h3 false gX (IntKind.i64.wrap ((a0.length:Int)+1)))),(9,.aL 1 ((List.replicate (Int.toNat (h3 false gX (IntKind.i64.wrap ((a0.length:Int)+1)))) ([]:List UInt8)).map a1))] (fun P al=> ?_) ?_)
    ·simp only[aZ.down,simprocAttr,k2.down,(ef fL).1,(ef fL).2.1,(ef fL).2.2,dX,List.map_replicate,-Int.reduceNatCast']
     (try simp only[bn.down,simprocAttr,a1,(ef fL).1,(ef fL).2.1,(ef fL).2.2,dX,List.map_replicate,-Int.reduceNatCast']at al⊢);exact al
    refine ws [(0,.str a0),(1,.str ab),(2,.int .i64 a2),(3,.int .i64 (IntKind.i64.wrap ((h3 false gX (IntKind.i64.wrap ((a0.length:Int)+1)))-1))),(9,.aL 1 ((List.replicate (Int.toNat (h3 false gX (IntKind.i64.wrap ((a0.length:Int)+1)))) ([]:List UInt8)).map a1))] ?_
    refine ws [(0,.str a0),(1,.str ab),(2,.int .i64 a2),(3,.int .i64 (IntKind.i64.wrap ((h3 false gX (IntKind.i64.wrap ((a0.length:Int)+1)))-1))),(9,.aL 1 ((List.replicate (Int.toNat (h3 false gX (IntKind.i64.wrap ((a0.length:Int)+1)))) ([]:List UInt8)).map a1)),(10,.int .i64 0)] ?_
    have JQ:∀(tD:List UInt8) (rJ:List (List UInt8)) (pF:Int),vQ a0 ab a2 gX tD rJ pF=some r→cK aN IW bP (R [(0,.str tD),(1,.str ab),(2,.int .i64 a2),(3,.int .i64 (IntKind.i64.wrap ((h3 false gX (IntKind.i64.wrap ((a0.length:Int)+1)))-1))),(9,.aL 1 (rJ.map a1)),(10,.int .i64 pF)]):=by
     intro tD rJ pF h
     obtain⟨ar,eB,h⟩:=aM h
     refine cP (cv [(9,.aL 1 ((List.set rJ (Int.toNat pF) tD).map a1)),(10,.int .i64 pF)] (fun P al=> ?_) ?_)
     ·simp only[aZ.down,simprocAttr,k2.down,eB,hW eB,ic,gw]
      (try simp only[bn.down,simprocAttr,a1,eB,hW eB,ic,gw]at al⊢);exact al
     obtain⟨aD,j5,h⟩:=aM h
     refine cP (cv [(8,.aL 1 (aD.map a1))] (fun P al=> ?_) ?_)
     ·simp only[aZ.down,simprocAttr,k2.down,j5,(fun s y q=>(xL aN s 22 y q).1),(fun s y q=>(xL aN s 22 y q).2.1),qo]
      (try simp only[bn.down,simprocAttr,a1,j5,(fun s y q=>(xL aN s 22 y q).1),(fun s y q=>(xL aN s 22 y q).2.1),qo]at al⊢);exact al
     exact aJ (az _ (.inl (aK [.aL 1 (aD.map a1)])))
    refine aU az (fun oh j3 iy oY=> ?_)
    refine cg iy (fun DE tV wE j4 JE=> ?_)
    have aiJ:∀(n:Nat) (kC:List UInt8) (j0:List (List UInt8)) (ij:Int),qy a0 ab a2 gX n kC j0 ij=some r→ei aN IV DE (R [(0,.str kC),(1,.str ab),(2,.int .i64 a2),(3,.int .i64 (IntKind.i64.wrap ((h3 false gX (IntKind.i64.wrap ((a0.length:Int)+1)))-1))),(9,.aL 1 (j0.map a1)),(10,.int .i64 ij)]):=by
     intro DH
     induction DH with
     |zero=>intro kC j0 ij h;cases(show none=some r from h)
     |succ DH aiK=>
      intro kC j0 ij h
      replace h:yN (qy a0 ab a2 gX DH) a0 ab a2 gX kC j0 ij=some r:=h
      refine eI wE (fun wv mU l3 rY=> ?_)
      refine aU l3 (fun ahW Dm Js Jt=> ?_)
      refine ws _ ?_
      refine a_ h (fun il h=> ?_) (fun il h=> ?_)
      ·refine a6 (Dm _ (.inl ?_))
       refine cg l3 (fun aii DA JA iP DB=> ?_)
       obtain⟨a7,r1,h⟩:=aM h
       refine dH (JO kC ab _ r1) _ ?_
       refine aU JA (fun JB wB zN DC=> ?_)
       refine ws _ ?_
       refine a_ h (fun h0 h=> ?_) (fun h0 h=> ?_)
       ·exact eG (DC 0 _ (DB 0 _ (by decide) (rY 0 _ (j4 _ (j3 _ (.inr ⟨_,bJ rfl,JQ kC j0 ij h⟩))))))
       ·refine a6 (wB _ (.inl ?_))
        obtain⟨bo,qH,h⟩:=aM h
        obtain⟨c1,zO,h⟩:=aM h
        refine cP (cv [(0,.str kC),(1,.str ab),(2,.int .i64 a2),(3,.int .i64 (IntKind.i64.wrap ((h3 false gX (IntKind.i64.wrap ((a0.length:Int)+1)))-1))),(9,.aL 1 ((List.set j0 (Int.toNat ij) bo).map a1)),(10,.int .i64 ij),(11,.int .i64 a7)] (fun P al=> ?_) ?_)
        ·simp only[aZ.down,simprocAttr,k2.down,qH,zO,hW zO,ic,gw,(show(List.map a1 j0).set (Int.toNat ij) (.str bo)=List.map a1 (List.set j0 (Int.toNat ij) bo)from(List.map_set ..).symm)]
         (try simp only[bn.down,simprocAttr,a1,qH,zO,hW zO,ic,gw]at al⊢);exact al
        obtain⟨cu,aiL,h⟩:=aM h
        refine fs aiL [(0,.str cu),(1,.str ab),(2,.int .i64 a2),(3,.int .i64 (IntKind.i64.wrap ((h3 false gX (IntKind.i64.wrap ((a0.length:Int)+1)))-1))),(9,.aL 1 ((List.set j0 (Int.toNat ij) bo).map a1)),(10,.int .i64 ij)] ?_
        refine wr [(0,.str cu),(1,.str ab),(2,.int .i64 a2),(3,.int .i64 (IntKind.i64.wrap ((h3 false gX (IntKind.i64.wrap ((a0.length:Int)+1)))-1))),(9,.aL 1 ((List.set j0 (Int.toNat ij) bo).map a1)),(10,.int .i64 (IntKind.i64.wrap (ij+1)))] ?_
        exact DA _ (mU _ (.inr ⟨_,bJ rfl,aiK cu (List.set j0 (Int.toNat ij) bo) (IntKind.i64.wrap (ij+1)) h⟩))
      ·exact eG (Jt 0 _ (rY 0 _ (j4 _ (j3 _ (.inr ⟨_,bJ rfl,JQ kC j0 ij h⟩)))))
    obtain⟨n,h⟩:=eD h
    exact eH (.inr ⟨_,bJ rfl,aiJ n a0 (List.replicate (Int.toNat (h3 false gX (IntKind.i64.wrap ((a0.length:Int)+1)))) ([]:List UInt8)) 0 h⟩)
   refine aU az (fun fY c6 dk dN=> ?_)
   refine ws _ ?_
   refine a_ h (fun wC h=> ?_) (fun wC h=> ?_)
   ·obtain⟨da,aiM,h⟩:=aM h
    refine Jn (aiF a0 ab _ aiM) _ ?_
    exact c6 _ (.inr ⟨_,bJ rfl,JP (IntKind.i64.wrap (da+1)) h⟩)
   ·exact a6 (c6 _ (.inr ⟨_,bJ rfl,JP a3 h⟩))
theorem aiN (a0:List UInt8) (ab:List UInt8) (r:(List (List UInt8))) (h:yP a0 ab=some r):bh aN 92 [.str a0,.str ab] (.aL 1 (r.map a1)) []:=by
 refine b0 [0,1] [.tmp 4] Tryz.func92 Z7 (fun bP az bW=> ?_)
 refine ws _ ?_
 obtain⟨ar,aS,h⟩:=aM h
 refine dH (aiI a0 ab 0 (-1) _ aS) _ ?_
 exact aJ (az _ (.inl (aK [.aL 1 (ar.map a1)])))
theorem aiO (a0:List UInt8) (r:Int×Bool) (h:yQ a0=some r):bh aN 102 [.str a0] (.tuple [.int .i64 r.1,.bool r.2]) []:=aht a0 r h
theorem aiP (a0:List (List UInt8)) (r:(List Int)×Bool) (h:yS a0=some r):bh aN 91 [.slice (a0.map a1)] (.tuple [.aL 1 (r.1.map bB),.bool r.2]) []:=by
 refine b0 [0] [.tmp 2,.tmp 3] Tryz.func91 aaj (fun bP az bW=> ?_)
 refine ws _ ?_
 refine ws _ ?_
 refine aU az (fun lr gJ dt a7=> ?_)
 refine ws _ ?_
 refine cg dt (fun kD gl fF cr c1=> ?_)
 have jG:∀(n:Nat) (bp:List Int) (mq:Int),rK a0 n bp mq=some r→ei aN IY kD (R [(4,.aL 1 (bp.map bB)),(9,.slice (a0.map a1)),(10,.int .i64 (a0.length:Int)),(11,.int .i64 mq)]):=by
  intro m8
  induction m8 with
  |zero=>intro bp mq h;cases(show none=some r from h)
  |succ m8 jH=>
   intro bp mq h
   replace h:yR (rK a0 m8) a0 bp mq=some r:=h
   refine eI fF (fun fv dS du cu=> ?_)
   refine ws _ ?_
   refine aU du (fun hK fw gZ dz=> ?_)
   refine a_ h (fun dR h=> ?_) (fun dR h=> ?_)
   ·refine a6 (fw _ (.inl ?_))
    refine aU du (fun fY c6 dk dN=> ?_)
    refine cg dk (fun jk eS ft lu fW=> ?_)
    obtain⟨ar,fL,h⟩:=aM h
    refine fs fL _ ?_
    obtain⟨aD,fc,h⟩:=aM h
    refine dH (aiO ar _ fc) _ ?_
    refine aU ft (fun oh j3 iy oY=> ?_)
    refine ws _ ?_
    refine a_ h (fun i7 h=> ?_) (fun i7 h=> ?_)
    ·refine ws _ ?_
     exact aJ (iy _ (.inr ⟨[(2,.aL 1 []),(3,.bool false)],mO [] rfl (mQ (t:=2) (d:=.bk) rfl rfl (.jw _) (by decide) (jW rfl (mP))),aK [.aL 1 [],.bool false]⟩))
    ·refine a6 (j3 _ (.inl ?_))
     obtain⟨am1,hN,h⟩:=aM h
     (try simp only[rW.down,Nat.reduceAdd]at hN)
     refine mn (cv [(4,.aL 1 ((bp++[aD.1]).map bB)),(9,.slice (a0.map a1)),(10,.int .i64 (a0.length:Int)),(11,.int .i64 mq)] (fun P al=> ?_) ?_)
     ·simp only[aZ.down,simprocAttr,eJ,ie,bB,a1,(show∀s,dT aN s 72 1 [(0,.int .i64 aD.1)]=some (.aL 1 [.int .i64 aD.1],s)from fun s=>by kernel_rfl), @qk aN 72 72 2 rfl rfl,ql,qm,qn,all_cons,all_nil,hN, @ib _ bB 1 (fun _=>rfl)]
      (try simp only[bn.down,simprocAttr,bB,a1,(show∀s,dT aN s 72 1 [(0,.int .i64 aD.1)]=some (.aL 1 [.int .i64 aD.1],s)from fun s=>by kernel_rfl), @qk aN 72 72 2 rfl rfl,ql,qm,qn,all_cons,all_nil,hN, @ib _ bB 1 (fun _=>rfl)]at al⊢);exact al
     refine eS _ (c6 _ (.inl ?_))
     refine wr [(4,.aL 1 ((bp++[aD.1]).map bB)),(9,.slice (a0.map a1)),(10,.int .i64 (a0.length:Int)),(11,.int .i64 (IntKind.i64.wrap (mq+1)))] ?_
     exact dS _ (.inr ⟨_,bJ rfl,jH (bp++[aD.1]) (IntKind.i64.wrap (mq+1)) h⟩)
   ·refine eG (dz 0 _ (cu 0 _ (cr _ (gJ _ (.inl ?_)))))
    refine ws _ ?_
    exact aJ (az _ (.inl (aK [.aL 1 (bp.map bB),.bool true])))
 obtain⟨n,h⟩:=eD h
 exact eH (.inr ⟨_,mO [] rfl (mQ (t:=4) (d:=.bk) (bf:=.aL 1 []) rfl rfl (.jw _) (by decide) (jW (t:=9) (d:=.slice (a0.map a1)) rfl (jW (t:=10) (d:=.int .i64 (a0.length:Int)) rfl (jW (t:=11) (d:=.int .i64 0) rfl (mP))))),jG n [] 0 h⟩)
theorem zP (a0:List UInt8) (r:Bool) (h:vR a0=some r):bh aN 97 [.str a0] (.bool r) []:=by
 refine b0 [0] [.tmp 2] Tryz.func97 aam (fun bP az bW=> ?_)
 refine ws _ ?_
 obtain⟨ar,aS,h⟩:=aM h
 refine cP (cv [(2,.bool (ar&&(!(a0==([116,97,117]:List UInt8)))))] (fun P al=> ?_) ?_)
 ·rcases Bool.eq_false_or_eq_true (ar)with gV|gV
  ·simp only[aZ.down,simprocAttr,gV]
   refine ev (wH a0 _ aS) rfl rfl rfl rfl (.inl (by rfl)) ?_
   simp only[aZ.down,simprocAttr,gV]
   (try simp only[bn.down,simprocAttr,gV]at al⊢);exact al
  ·simp only[aZ.down,simprocAttr,gV]
   refine ev (wH a0 _ aS) rfl rfl rfl rfl (.inl (by rfl)) ?_
   simp only[aZ.down,simprocAttr,gV]
   (try simp only[bn.down,simprocAttr,gV]at al⊢);exact al
 exact aJ (az _ (.inl (aK [.bool (ar&&(!(a0==([116,97,117]:List UInt8))))])))
theorem aiQ (a0:Int) (r:Bool) (h:CQ a0=some r):bh aN 118 [.int .i64 a0] (.bool r) []:=by
 refine b0 [0] [.tmp 2] Tryz.func118 aap (fun bP az bW=> ?_)
 refine ws _ ?_
 obtain⟨ar,aS,h⟩:=aM h
 refine dH (iA a0 0 63 _ aS) _ ?_
 exact aJ (az _ (.inl (aK [.bool ar])))
theorem aiR (a0:Int) (r:Bool) (h:CR a0=some r):bh aN 117 [.int .i64 a0] (.bool r) []:=by
 refine b0 [0] [.tmp 2] Tryz.func117 aar (fun bP az bW=> ?_)
 refine ws _ ?_
 obtain⟨ar,aS,h⟩:=aM h
 refine dH (aiQ a0 _ aS) _ ?_
 exact aJ (az _ (.inl (aK [.bool (!ar)])))
theorem aiS (a0:List Int) (r:Int) (h:CS a0=some r):bh aN 131 [.slice (a0.map bB),.fn 117 []] (.int .i64 r) []:=by
 refine b0 [0,1] [.tmp 4] Tryz.func131 aaB (fun bP az bW=> ?_)
 refine ws _ ?_
 refine aU az (fun fl cA bD aD=> ?_)
 refine ws _ ?_
 refine cg bD (fun fZ fu cT cq bo=> ?_)
 have k6:∀(n:Nat) (hI:Int),rL a0 n hI=some r→ei aN IZ fZ (R [(0,.slice (a0.map bB)),(1,.fn 117 []),(7,.int .i64 (a0.length:Int)),(8,.int .i64 hI)]):=by
  intro m6
  induction m6 with
  |zero=>intro hI h;cases(show none=some r from h)
  |succ m6 jl=>
   intro hI h
   replace h:yT (rL a0 m6) a0 hI=some r:=h
   refine eI cT (fun kD gl fF c1=> ?_)
   refine ws _ ?_
   refine aU fF (fun kl gk e3 da=> ?_)
   refine a_ h (fun cm h=> ?_) (fun cm h=> ?_)
   ·refine a6 (gk _ (.inl ?_))
    refine aU fF (fun hB eK ee dU=> ?_)
    refine cg ee (fun fY c6 dk e7 dN=> ?_)
    refine ws _ ?_
    obtain⟨ar,fL,h⟩:=aM h
    obtain⟨aD,gy,h⟩:=aM h
    refine hk fL (aiR ar _ gy) _ ?_
    refine a_ h (fun jF h=> ?_) (fun jF h=> ?_)
    ·refine ws _ ?_
     exact aJ (dk _ (.inl (aK [.int .i64 hI])))
    ·refine a6 (c6 _ (eK _ (.inl ?_)))
     refine wr _ ?_
     exact gl _ (.inr ⟨_,bJ rfl,jl (IntKind.i64.wrap (hI+1)) h⟩)
   ·refine eG (da 0 _ (c1 0 _ (cq _ (cA _ (.inl ?_)))))
    refine ws _ ?_
    exact aJ (az _ (.inl (aK [.int .i64 (-1)])))
 obtain⟨n,h⟩:=eD h
 exact eH (.inr ⟨_,bJ rfl,k6 n 0 h⟩)
theorem aiT (a0:List Int) (r:Bool) (h:CT a0=some r):bh aN 116 [.slice (a0.map bB),.fn 117 []] (.bool r) []:=by
 refine b0 [0,1] [.tmp 4] Tryz.func116 aaD (fun bP az bW=> ?_)
 refine ws _ ?_
 obtain⟨ar,aS,h⟩:=aM h
 refine dH (aiS a0 _ aS) _ ?_
 exact aJ (az _ (.inl (aK [.bool (decide (0≤ar))])))
theorem aiU (a0:List Int) (r:Bool) (h:yU a0=some r):bh aN 105 [.slice (a0.map bB)] (.bool r) []:=by
 refine b0 [0] [.tmp 2] Tryz.func105 aaF (fun bP az bW=> ?_)
 refine ws _ ?_
 obtain⟨ar,aS,h⟩:=aM h
 refine dH (aiT a0 _ aS) _ ?_
 exact aJ (az _ (.inl (aK [.bool (!ar)])))
theorem aiV (a0 ab:Int) (r:List UInt8) (h:vS a0 ab=some r):bh aN 127 [.int .i64 a0,.int .i64 ab] (.str r) []:=ahh a0 ab r h
theorem aiW (a0:Int) (r:(List UInt8)) (h:vT a0=some r):bh aN 111 [.int .i64 a0] (.str r) []:=by
 refine b0 [0] [.tmp 2] Tryz.func111 aaI (fun bP az bW=> ?_)
 refine ws _ ?_
 obtain⟨ar,aS,h⟩:=aM h
 refine dH (aiV a0 10 _ aS) _ ?_
 exact aJ (az _ (.inl (aK [.str ar])))
theorem aiX (a0:List (List UInt8)) (ab:List UInt8) (r:List UInt8) (h:strings_Join a0 ab=some r):bh aN 119 [.slice (a0.map a1),.str ab] (.str r) []:=ahi a0 ab r h
theorem aiY (a0:List Int) (ab:List UInt8) (r:(List UInt8)) (h:yW a0 ab=some r):bh aN 106 [.slice (a0.map bB),.str ab] (.str r) []:=by
 refine b0 [0,1] [.tmp 4] Tryz.func106 aaS (fun bP az bW=> ?_)
 refine ws _ ?_
 obtain⟨ahU,aS,h⟩:=aM h
 refine cP (cv [(0,.slice (a0.map bB)),(1,.str ab),(5,.aL 1 ((List.replicate (Int.toNat (a0.length:Int)) ([]:List UInt8)).map a1))] (fun P al=> ?_) ?_)
 ·simp only[aZ.down,simprocAttr,eJ,fq,lR,ie,bB,a1,(ef aS).1,(ef aS).2.1,(ef aS).2.2,dX,List.map_replicate,-Int.reduceNatCast']
  (try simp only[bn.down,simprocAttr,bB,a1,(ef aS).1,(ef aS).2.1,(ef aS).2.2,dX,List.map_replicate,-Int.reduceNatCast']at al⊢);exact al
 refine aU az (fun fZ fu cT bo=> ?_)
 refine ws [(1,.str ab),(5,.aL 1 ((List.replicate (Int.toNat (a0.length:Int)) ([]:List UInt8)).map a1)),(11,.slice (a0.map bB)),(12,.int .i64 (a0.length:Int)),(13,.int .i64 0)] ?_
 refine cg cT (fun fv dS du cw cu=> ?_)
 have jG:∀(n:Nat) (lV:List (List UInt8)) (kk:Int),rM a0 ab n lV kk=some r→ei aN I0 fv (R [(1,.str ab),(5,.aL 1 (lV.map a1)),(11,.slice (a0.map bB)),(12,.int .i64 (a0.length:Int)),(13,.int .i64 kk)]):=by
  intro m8
  induction m8 with
  |zero=>intro lV kk h;cases(show none=some r from h)
  |succ m8 jH=>
   intro lV kk h
   replace h:yV (rM a0 ab m8) a0 ab lV kk=some r:=h
   refine eI du (fun kl gk e3 da=> ?_)
   refine ws _ ?_
   refine aU e3 (fun hB eK ee dU=> ?_)
   refine a_ h (fun e7 h=> ?_) (fun e7 h=> ?_)
   ·refine a6 (eK _ (.inl ?_))
    refine aU e3 (fun jk eS ft fW=> ?_)
    refine cg ft (fun mS iO lZ dm jj=> ?_)
    obtain⟨ar,gy,h⟩:=aM h
    refine fs gy _ ?_
    obtain⟨aD,dn,h⟩:=aM h
    obtain⟨a7,ep,h⟩:=aM h
    refine mn (cv [(1,.str ab),(5,.aL 1 ((List.set lV (Int.toNat kk) aD).map a1)),(11,.slice (a0.map bB)),(12,.int .i64 (a0.length:Int)),(13,.int .i64 kk)] (fun P al=> ?_) ?_)
    ·simp only[aZ.down,simprocAttr,fq,lR,bB,a1,ep,hW ep,ic,gw]
     refine ev (aiW ar _ dn) rfl rfl rfl rfl (.inl (by rfl)) ?_
     simp only[aZ.down,simprocAttr,fq,lR,bB,a1,ep,hW ep,ic,gw]
     (try simp only[bn.down,simprocAttr,bB,a1,ep,hW ep,ic,gw]at al⊢);exact al
    refine iO _ (eS _ (.inl ?_))
    refine wr [(1,.str ab),(5,.aL 1 ((List.set lV (Int.toNat kk) aD).map a1)),(11,.slice (a0.map bB)),(12,.int .i64 (a0.length:Int)),(13,.int .i64 (IntKind.i64.wrap (kk+1)))] ?_
    exact gk _ (.inr ⟨_,bJ rfl,jH (List.set lV (Int.toNat kk) aD) (IntKind.i64.wrap (kk+1)) h⟩)
   ·refine eG (dU 0 _ (da 0 _ (cw _ (fu _ (.inl ?_)))))
    obtain⟨bo,j5,h⟩:=aM h
    refine cP (cv [(4,.str bo)] (fun P al=> ?_) ?_)
    ·simp only[aZ.down,simprocAttr,bB,a1]
     refine ev (aiX lV ab _ j5) rfl rfl (by simp only[aZ.down,simprocAttr,bB,a1,nu,nv,nw,eV, @c_ _ a1 a1 (fun _=>k1 _)]<;>rfl) rfl (.inr (by rfl)) ?_
     simp only[aZ.down,simprocAttr,bB,a1]
     (try simp only[bn.down,simprocAttr,bB,a1]at al⊢);exact al
    exact aJ (az _ (.inl (aK [.str bo])))
 obtain⟨n,h⟩:=eD h
 exact eH (.inr ⟨_,bJ rfl,jG n (List.replicate (Int.toNat (a0.length:Int)) ([]:List UInt8)) 0 h⟩)
theorem aiZ (a0:List UInt8) (ab:List Int) (r:(List UInt8)×Bool) (h:yX a0 ab=some r):bh aN 94 [.str a0,.slice (ab.map bB)] (.tuple [.str r.1,.bool r.2]) []:=by
 refine b0 [0,1] [.tmp 4,.tmp 5] Tryz.func94 aa4 (fun bP az bW=> ?_)
 refine ws _ ?_
 refine aU az (fun fl cA bD aD=> ?_)
 refine cg bD (fun lr gJ dt lJ a7=> ?_)
 refine ws _ ?_
 refine a_ h (fun cr h=> ?_) (fun cr h=> ?_)
 ·refine ws _ ?_
  exact aJ (dt _ (.inl (aK [.str ([116,97,117]:List UInt8),.bool ((ab.length:Int)==0)])))
 ·obtain⟨aD,h7,h⟩:=aM h
  rcases dA h with⟨e7,h⟩|⟨e7,h⟩
  ·refine hk (cZ e7) (zP a0 _ h7) _ ?_
   refine fC rfl ?_
   refine ws _ ?_
   exact aJ (dt _ (.inl (aK [.str ([]:List UInt8),.bool false])))
  ·rcases dA h with⟨dm,h⟩|⟨dm,h⟩
   ·refine hk (And.intro (aR e7) dm) (zP a0 _ h7) _ ?_
    refine fC rfl ?_
    refine ws _ ?_
    exact aJ (dt _ (.inl (aK [.str ([]:List UInt8),.bool false])))
   ·obtain⟨a7,gy,h⟩:=aM h
    refine cP (cv [(0,.str a0),(1,.slice (ab.map bB)),(12,.bool (!a7))] (fun P al=> ?_) ?_)
    ·simp only[aZ.down,simprocAttr,eJ,ie,bB,(aR e7),dm]
     refine ev (zP a0 _ h7) rfl rfl rfl rfl (.inl (by rfl)) ?_
     simp only[aZ.down,simprocAttr,eJ,ie,bB,(aR e7),dm]
     refine eQ (aiU ab _ gy) rfl rfl rfl rfl (.inl (by rfl)) ?_
     simp only[aZ.down,simprocAttr,eJ,ie,bB,(aR e7),dm]
     (try simp only[bn.down,simprocAttr,bB,(aR e7),dm]at al⊢);exact al
    refine a_ h (fun jF h=> ?_) (fun jF h=> ?_)
    ·refine ws _ ?_
     exact aJ (dt _ (.inl (aK [.str ([]:List UInt8),.bool false])))
    ·refine ws _ ?_
     refine a_ h (fun i7 h=> ?_) (fun i7 h=> ?_)
     ·refine ws _ ?_
      exact aJ (dt _ (.inl (aK [.str a0,.bool true])))
     ·refine a6 (gJ _ (cA _ (.inl ?_)))
      obtain⟨JR,hN,h⟩:=aM h
      (try simp only[rW.down,Nat.reduceAdd]at hN)
      obtain⟨bo,g_,h⟩:=aM h
      obtain⟨JR,fO,h⟩:=aM h
      (try simp only[rW.down,Nat.reduceAdd]at fO)
      obtain⟨JR,j6,h⟩:=aM h
      (try simp only[rW.down,Nat.reduceAdd]at j6)
      refine cP (cv [(4,.str (((a0++([40]:List UInt8))++bo)++([41]:List UInt8))),(5,.bool true)] (fun P al=> ?_) ?_)
      ·simp only[aZ.down,simprocAttr,bB,hN,Ci,Cj,fO,j6]
       refine ev (aiY ab ([44]:List UInt8) _ g_) rfl rfl rfl rfl (.inl (by rfl)) ?_
       simp only[aZ.down,simprocAttr,bB,hN,Ci,Cj,fO,j6]
       (try simp only[bn.down,simprocAttr,bB,hN,Ci,Cj,fO,j6]at al⊢);exact al
      exact aJ (az _ (.inl (aK [.str (((a0++([40]:List UInt8))++bo)++([41]:List UInt8)),.bool true])))
theorem ai0 (a0:List UInt8) (r:(List UInt8)×(List Int)×Bool) (h:yY a0=some r):bh aN 79 [.str a0] (.tuple [.str r.1,.aL 1 (r.2.1.map bB),.bool r.2.2]) []:=by
 refine b0 [0] [.tmp 2,.tmp 3,.tmp 4] Tryz.func79 abj (fun bP az bW=> ?_)
 refine ws _ ?_
 obtain⟨ar,aS,h⟩:=aM h
 refine dH (aiB a0 ([40]:List UInt8) _ aS) _ ?_
 refine ws _ ?_
 have JS:∀(oW:List Int),vU a0 ar oW=some r→cK aN I1 bP (R [(0,.str a0),(5,.str ar.1),(8,.aL 1 (oW.map bB))]):=by
  intro oW h
  refine aU az (fun fv dS du cu=> ?_)
  obtain⟨aD,gb,h⟩:=aM h
  refine cP (cv [(0,.str a0),(5,.str ar.1),(8,.aL 1 (oW.map bB)),(10,.str aD.1),(11,.bool aD.2)] (fun P al=> ?_) ?_)
  ·simp only[aZ.down,simprocAttr,bB]
   refine ev (aiZ ar.1 oW _ gb) rfl rfl (by simp only[aZ.down,simprocAttr,bB,nu,nv,nw,eV, @c_ _ bB bB (fun _=>zv _)]<;>rfl) rfl (.inr (by rfl)) ?_
   simp only[aZ.down,simprocAttr,bB]
   (try simp only[bn.down,simprocAttr,bB]at al⊢);exact al
  refine cP (cv [(5,.str ar.1),(8,.aL 1 (oW.map bB)),(40,.bool ((!aD.2)||(!(aD.1==a0))))] (fun P al=> ?_) ?_)
  ·rcases Bool.eq_false_or_eq_true (aD.2)with rU|rU
   ·simp only[aZ.down,simprocAttr,bB,rU]
    (try simp only[bn.down,simprocAttr,bB,rU]at al⊢);exact al
   ·simp only[aZ.down,simprocAttr,bB,rU]
    (try simp only[bn.down,simprocAttr,bB,rU]at al⊢);exact al
  refine a_ h (fun lu h=> ?_) (fun lu h=> ?_)
  ·refine ws _ ?_
   exact aJ (du _ (.inr ⟨[(2,.str ([]:List UInt8)),(3,.aL 1 []),(4,.bool false)],mO [] rfl (jW rfl (mQ (t:=3) (d:=.bk) rfl rfl (.jw _) (by decide) (jW rfl (mP)))),aK [.str ([]:List UInt8),.aL 1 [],.bool false]⟩))
  ·refine a6 (dS _ (.inl ?_))
   refine ws _ ?_
   exact aJ (az _ (.inl (aK [.str ar.1,.aL 1 (oW.map bB),.bool true])))
 refine aU az (fun kD gl fF c1=> ?_)
 refine ws _ ?_
 refine a_ h (fun jF h=> ?_) (fun jF h=> ?_)
 ·refine ws _ ?_
  obtain⟨a7,eB,h⟩:=aM h
  obtain⟨bo,l0,h⟩:=aM h
  obtain⟨c1,j5,h⟩:=aM h
  refine cP (cv [(0,.str a0),(5,.str ar.1),(8,.aL 1 (c1.1.map bB)),(9,.bool c1.2)] (fun P al=> ?_) ?_)
  ·simp only[aZ.down,simprocAttr,bB,a1]
   refine ev (aiD ar.2.1 ([41]:List UInt8) _ eB) rfl rfl rfl rfl (.inl (by rfl)) ?_
   simp only[aZ.down,simprocAttr,bB,a1]
   refine ev (aiN a7 ([44]:List UInt8) _ l0) rfl rfl rfl rfl (.inl (by rfl)) ?_
   simp only[aZ.down,simprocAttr,bB,a1]
   refine ev (aiP bo _ j5) rfl rfl (by simp only[aZ.down,simprocAttr,bB,a1,nu,nv,nw,eV, @c_ _ a1 a1 (fun _=>k1 _)]<;>rfl) rfl (.inr (by simp only[I.cU,I.ia, @lQ _ bB (fun _=>H_ _),Bool.and_self])) ?_
   simp only[aZ.down,simprocAttr,bB,a1]
   (try simp only[bn.down,simprocAttr,bB,a1]at al⊢);exact al
  refine ws _ ?_
  refine a_ h (fun wF h=> ?_) (fun wF h=> ?_)
  ·refine ws _ ?_
   exact aJ (fF _ (.inr ⟨[(2,.str ([]:List UInt8)),(3,.aL 1 []),(4,.bool false)],mO [] rfl (jW rfl (mQ (t:=3) (d:=.bk) rfl rfl (.jw _) (by decide) (jW rfl (mP)))),aK [.str ([]:List UInt8),.aL 1 [],.bool false]⟩))
  ·exact a6 (gl _ (.inr ⟨_,bJ rfl,JS c1.1 h⟩))
 ·exact a6 (gl _ (.inr ⟨_,mO [] rfl (jW (t:=0) (d:=.str a0) rfl (jW (t:=5) (d:=.str ar.1) rfl (mQ (t:=8) (d:=.bk) (bf:=.aL 1 []) rfl rfl (.jw _) (by decide) (mP)))),JS [] h⟩))
theorem r2 (a0:List UInt8) (r:Bool) (h:qz a0=some r):bh aN 67 [.str a0] (.bool r) []:=by
 refine b0 [0] [.tmp 2] Tryz.func67 abn (fun bP az bW=> ?_)
 refine ws _ ?_
 obtain⟨ar,aS,h⟩:=aM h
 refine dH (ai0 a0 _ aS) _ ?_
 refine ws _ ?_
 exact aJ (az _ (.inl (aK [.bool ar.2.2])))
theorem oZ (a0:Int) (ab:Int) (r:Bool) (h:tE a0 ab=some r):bh aN 48 [.int .i64 a0,.int .i64 ab] (.bool r) []:=by
 refine b0 [0,1] [.tmp 4] Tryz.func48 abq (fun bP az bW=> ?_)
 refine ws _ ?_
 obtain⟨ar,aS,h⟩:=aM h
 refine dH (iA a0 0 (IntKind.i64.wrap (ab-1)) _ aS) _ ?_
 exact aJ (az _ (.inl (aK [.bool ar])))
theorem JT (a0:Int) (r:Bool) (h:yZ a0=some r):bh aN 95 [.int .i64 a0] (.bool r) []:=by
 refine b0 [0] [.tmp 2] Tryz.func95 abu (fun bP az bW=> ?_)
 refine ws _ ?_
 refine ws _ ?_
 exact aJ (az _ (.inl (aK [.bool (a0 !=a0)])))
theorem DI (a0:Int) (ab:Int) (r:Int) (h:tF a0 ab=some r):bh aN 81 [.int .i64 a0,.int .i64 ab] (.int .i64 r) []:=by
 refine b0 [0,1] [.tmp 4] Tryz.func81 abO (fun bP az bW=> ?_)
 refine ws _ ?_
 obtain⟨ar,aS,h⟩:=aM h
 refine dH (JT a0 _ aS) _ ?_
 obtain⟨aD,cp,h⟩:=aM h
 refine dH (JT ab _ cp) _ ?_
 refine aU az (fun fv dS du cu=> ?_)
 refine ws _ ?_
 refine a_ h (fun cm h=> ?_) (fun cm h=> ?_)
 ·refine aU du (fun hB eK ee dU=> ?_)
  refine ws _ ?_
  refine a_ h (fun lu h=> ?_) (fun lu h=> ?_)
  ·refine ws _ ?_
   exact aJ (ee _ (.inl (aK [.int .i64 0])))
  ·refine a6 (eK _ (.inl ?_))
   refine ws _ ?_
   exact aJ (du _ (.inl (aK [.int .i64 (-1)])))
 ·refine a6 (dS _ (.inl ?_))
  refine aU az (fun i1 eY eZ i6=> ?_)
  refine ws _ ?_
  refine a_ h (fun eL h=> ?_) (fun eL h=> ?_)
  ·refine ws _ ?_
   exact aJ (eZ _ (.inl (aK [.int .i64 1])))
  ·refine a6 (eY _ (.inl ?_))
   refine aU az (fun tQ l1 lv qF=> ?_)
   refine ws _ ?_
   refine a_ h (fun gD h=> ?_) (fun gD h=> ?_)
   ·refine ws _ ?_
    exact aJ (lv _ (.inl (aK [.int .i64 (-1)])))
   ·refine a6 (l1 _ (.inl ?_))
    refine aU az (fun wv mU l3 rY=> ?_)
    refine ws _ ?_
    refine a_ h (fun jI h=> ?_) (fun jI h=> ?_)
    ·refine ws _ ?_
     exact aJ (l3 _ (.inl (aK [.int .i64 1])))
    ·refine a6 (mU _ (.inl ?_))
     refine ws _ ?_
     exact aJ (az _ (.inl (aK [.int .i64 0])))
theorem ai1 (a0:List Int) (r:Int) (h:y0 a0=some r):bh aN 80 [.slice (a0.map bB)] (.int .i64 r) []:=by
 refine b0 [0] [.tmp 2] Tryz.func80 abZ (fun bP az bW=> ?_)
 refine ws _ ?_
 refine ws _ ?_
 refine aU az (fun lr gJ dt a7=> ?_)
 refine ws _ ?_
 refine cg dt (fun kD gl fF cr c1=> ?_)
 have jG:∀(n:Nat) (iu:Int),vV a0 n iu=some r→ei aN I2 kD (R [(3,.int .i64 0),(6,.slice (a0.map bB)),(7,.int .i64 (a0.length:Int)),(8,.int .i64 iu)]):=by
  intro m8
  induction m8 with
  |zero=>intro iu h;cases(show none=some r from h)
  |succ m8 jH=>
   intro iu h
   replace h:CU (vV a0 m8) a0 iu=some r:=h
   refine eI fF (fun fv dS du cu=> ?_)
   refine ws _ ?_
   refine aU du (fun hK fw gZ dz=> ?_)
   refine a_ h (fun dR h=> ?_) (fun dR h=> ?_)
   ·refine a6 (fw _ (.inl ?_))
    refine aU du (fun fY c6 dk dN=> ?_)
    refine cg dk (fun jk eS ft lu fW=> ?_)
    obtain⟨ar,fL,h⟩:=aM h
    refine fs fL _ ?_
    refine ws _ ?_
    refine a_ h (fun jF h=> ?_) (fun jF h=> ?_)
    ·refine ws _ ?_
     exact aJ (ft _ (.inl (aK [.int .i64 ar])))
    ·refine a6 (eS _ (c6 _ (.inl ?_)))
     refine wr _ ?_
     exact dS _ (.inr ⟨_,bJ rfl,jH (IntKind.i64.wrap (iu+1)) h⟩)
   ·refine eG (dz 0 _ (cu 0 _ (cr _ (gJ _ (.inl ?_)))))
    refine ws _ ?_
    exact aJ (az _ (.inl (aK [.int .i64 0])))
 obtain⟨n,h⟩:=eD h
 exact eH (.inr ⟨_,bJ rfl,jG n 0 h⟩)
theorem ai2 (a0:ek) (ab:ek) (r:Int) (h:y1 a0 ab=some r):bh aN 68 [cC a0,cC ab] (.int .i64 r) []:=by
 refine b0 [0,1] [.tmp 4] Tryz.func68 ab2 (fun bP az bW=> ?_)
 refine ws _ ?_
 obtain⟨ar,aS,h⟩:=aM h
 obtain⟨aD,bQ,h⟩:=aM h
 obtain⟨a7,cp,h⟩:=aM h
 obtain⟨bo,bK,h⟩:=aM h
 refine fm rfl (fo [(4,.int .i64 bo)] (fun P al=> ?_) ?_)
 ·simp only[b3.down,simprocAttr,tM.down,(show∀s,dT aN s 130 3 [(0,.int .i64 ar),(1,.int .i64 aD),(2,.int .i64 a7)]=some (.aL 1 [.int .i64 ar,.int .i64 aD,.int .i64 a7],s)from fun s=>by kernel_rfl)]
  refine fD (DI a0.er ab.er _ aS) rfl rfl rfl rfl (.inl (by rfl)) ?_
  simp only[b3.down,simprocAttr,tM.down,(show∀s,dT aN s 130 3 [(0,.int .i64 ar),(1,.int .i64 aD),(2,.int .i64 a7)]=some (.aL 1 [.int .i64 ar,.int .i64 aD,.int .i64 a7],s)from fun s=>by kernel_rfl)]
  refine fD (DI a0.Label ab.Label _ bQ) rfl rfl rfl rfl (.inl (by rfl)) ?_
  simp only[b3.down,simprocAttr,tM.down,(show∀s,dT aN s 130 3 [(0,.int .i64 ar),(1,.int .i64 aD),(2,.int .i64 a7)]=some (.aL 1 [.int .i64 ar,.int .i64 aD,.int .i64 a7],s)from fun s=>by kernel_rfl)]
  refine fD (DI a0.gi ab.gi _ cp) rfl rfl rfl rfl (.inl (by rfl)) ?_
  simp only[b3.down,simprocAttr,tM.down,(show∀s,dT aN s 130 3 [(0,.int .i64 ar),(1,.int .i64 aD),(2,.int .i64 a7)]=some (.aL 1 [.int .i64 ar,.int .i64 aD,.int .i64 a7],s)from fun s=>by kernel_rfl)]
  refine fD (ai1 [ar,aD,a7] _ bK) rfl rfl (by simp only[b3.down,simprocAttr,tM.down,(show∀s,dT aN s 130 3 [(0,.int .i64 ar),(1,.int .i64 aD),(2,.int .i64 a7)]=some (.aL 1 [.int .i64 ar,.int .i64 aD,.int .i64 a7],s)from fun s=>by kernel_rfl),nu,nv,nw,eV,I.shares, @c_ _ bB bB (fun _=>zv _)]<;>rfl) rfl (.inr (by rfl)) ?_
  simp only[b3.down,simprocAttr,tM.down,(show∀s,dT aN s 130 3 [(0,.int .i64 ar),(1,.int .i64 aD),(2,.int .i64 a7)]=some (.aL 1 [.int .i64 ar,.int .i64 aD,.int .i64 a7],s)from fun s=>by kernel_rfl)]
  refine⟨fb (by kernel_rfl),?_⟩
  (try simp only[bn.down,simprocAttr,bB,cC,(show∀s,dT aN s 130 3 [(0,.int .i64 ar),(1,.int .i64 aD),(2,.int .i64 a7)]=some (.aL 1 [.int .i64 ar,.int .i64 aD,.int .i64 a7],s)from fun s=>by kernel_rfl)]at al⊢);exact al
 exact aJ (az _ (.inl (aK [.int .i64 bo])))
theorem ai3 (a0:dC) (r:Bool) (h:y4 a0=some r):bh aN 47 [dQ a0] (.bool r) []:=by
 refine b0 [0] [.tmp 2] Tryz.func47 acp (fun bP az bW=> ?_)
 refine ws _ ?_
 refine aU az (fun fl cA bD aD=> ?_)
 obtain⟨ar,bQ,h⟩:=aM h
 rcases dA h with⟨cr,h⟩|⟨cr,h⟩
 ·refine hk (cZ cr) (iA a0.eW 1 40 _ bQ) _ ?_
  refine fC rfl ?_
  refine ws _ ?_
  exact aJ (bD _ (.inl (aK [.bool false])))
 ·obtain⟨aD,bH,h⟩:=aM h
  rcases dA h with⟨cm,h⟩|⟨cm,h⟩
  ·refine cP (cv [(1,.bM (dQ a0)),(30,.bool true)] (fun P al=> ?_) ?_)
   ·simp only[aZ.down,simprocAttr,ej.down,(aR cr),(cZ cm)]
    refine ev (iA a0.eW 1 40 _ bQ) rfl rfl rfl rfl (.inl (by rfl)) ?_
    simp only[aZ.down,simprocAttr,ej.down,(aR cr),(cZ cm)]
    refine eQ (nH a0 a0.iL _ bH) rfl rfl rfl rfl (.inl (by rfl)) ?_
    simp only[aZ.down,simprocAttr,ej.down,(aR cr),(cZ cm)]
    (try simp only[bn.down,simprocAttr,k3.down,(aR cr),(cZ cm)]at al⊢);exact al
   refine fC rfl ?_
   refine ws _ ?_
   exact aJ (bD _ (.inl (aK [.bool false])))
  ·obtain⟨a7,iQ,h⟩:=aM h
   refine cP (cv [(1,.bM (dQ a0)),(30,.bool ((!a7)||(decide (300<(a0.cB.length:Int)))))] (fun P al=> ?_) ?_)
   ·rcases Bool.eq_false_or_eq_true (a7)with ix|ix
    ·simp only[aZ.down,simprocAttr,ej.down,(aR cr),(aR cm),ix]
     refine ev (iA a0.eW 1 40 _ bQ) rfl rfl rfl rfl (.inl (by rfl)) ?_
     simp only[aZ.down,simprocAttr,ej.down,(aR cr),(aR cm),ix]
     refine eQ (nH a0 a0.iL _ bH) rfl rfl rfl rfl (.inl (by rfl)) ?_
     simp only[aZ.down,simprocAttr,ej.down,(aR cr),(aR cm),ix]
     refine eQ (iA (a0.cW.length:Int) 1 12 _ iQ) rfl rfl rfl rfl (.inl (by rfl)) ?_
     simp only[aZ.down,simprocAttr,ej.down,(aR cr),(aR cm),ix]
     (try simp only[bn.down,simprocAttr,k3.down,(aR cr),(aR cm),ix]at al⊢);exact al
    ·simp only[aZ.down,simprocAttr,ej.down,(aR cr),(aR cm),ix]
     refine ev (iA a0.eW 1 40 _ bQ) rfl rfl rfl rfl (.inl (by rfl)) ?_
     simp only[aZ.down,simprocAttr,ej.down,(aR cr),(aR cm),ix]
     refine eQ (nH a0 a0.iL _ bH) rfl rfl rfl rfl (.inl (by rfl)) ?_
     simp only[aZ.down,simprocAttr,ej.down,(aR cr),(aR cm),ix]
     refine eQ (iA (a0.cW.length:Int) 1 12 _ iQ) rfl rfl rfl rfl (.inl (by rfl)) ?_
     simp only[aZ.down,simprocAttr,ej.down,(aR cr),(aR cm),ix]
     (try simp only[bn.down,simprocAttr,k3.down,(aR cr),(aR cm),ix]at al⊢);exact al
   refine a_ h (fun dm h=> ?_) (fun dm h=> ?_)
   ·refine ws _ ?_
    exact aJ (bD _ (.inl (aK [.bool false])))
   ·refine a6 (cA _ (.inl ?_))
    refine aU az (fun i1 eY eZ i6=> ?_)
    refine ws _ ?_
    refine cg eZ (fun oh j3 iy eL oY=> ?_)
    have hL:∀(n:Nat) (kZ:Int),qB a0 n kZ=some r→ei aN I3 oh (R [(1,.bM (dQ a0)),(32,.slice (a0.cW.map a1)),(33,.int .i64 (a0.cW.length:Int)),(34,.int .i64 kZ)]):=by
     intro m14
     induction m14 with
     |zero=>intro kZ h;cases(show none=some r from h)
     |succ m14 gE=>
      intro kZ h
      replace h:y3 (qB a0 m14) a0 kZ=some r:=h
      refine eI iy (fun wu oj nF tP=> ?_)
      refine ws _ ?_
      refine aU nF (fun zJ oi pJ tO=> ?_)
      refine a_ h (fun gD h=> ?_) (fun gD h=> ?_)
      ·refine a6 (oi _ (.inl ?_))
       refine aU nF (fun DE tV wE JE=> ?_)
       refine cg wE (fun wv mU l3 wF rY=> ?_)
       obtain⟨bo,j6,h⟩:=aM h
       refine fs j6 _ ?_
       obtain⟨cu,jJ,h⟩:=aM h
       rcases dA h with⟨iz,h⟩|⟨iz,h⟩
       ·refine hk (cZ iz) (r2 bo _ jJ) _ ?_
        refine fC rfl ?_
        refine ws _ ?_
        exact aJ (l3 _ (.inl (aK [.bool false])))
       ·rcases dA h with⟨k7,h⟩|⟨k7,h⟩
        ·refine hk (And.intro (aR iz) k7) (r2 bo _ jJ) _ ?_
         refine fC rfl ?_
         refine ws _ ?_
         exact aJ (l3 _ (.inl (aK [.bool false])))
        ·rcases dA h with⟨mV,h⟩|⟨mV,h⟩
         ·obtain⟨da,qH,h⟩:=aM h
          refine hk (And.intro (aR iz) (And.intro k7 (And.intro mV qH))) (r2 bo _ jJ) _ ?_
          refine a_ h (fun DF h=> ?_) (fun DF h=> ?_)
          ·refine ws _ ?_
           exact aJ (l3 _ (.inl (aK [.bool false])))
          ·refine a6 (mU _ (tV _ (.inl ?_)))
           refine wr _ ?_
           exact oj _ (.inr ⟨_,bJ rfl,gE (IntKind.i64.wrap (kZ+1)) h⟩)
         ·refine hk (And.intro (aR iz) (And.intro k7 mV)) (r2 bo _ jJ) _ ?_
          refine lk rfl ?_
          refine a6 (mU _ (tV _ (.inl ?_)))
          refine wr _ ?_
          exact oj _ (.inr ⟨_,bJ rfl,gE (IntKind.i64.wrap (kZ+1)) h⟩)
      ·refine eG (tO 0 _ (tP 0 _ (eL _ (eY _ (.inl ?_)))))
       refine aU az (fun ahY Dq Dr ahZ=> ?_)
       refine ws _ ?_
       refine cg Dr (fun Ds ah0 Dt wy ah1=> ?_)
       have ai4:∀(n:Nat) (jD:Int),qA a0 n jD=some r→ei aN I4 Ds (R [(1,.bM (dQ a0)),(65,.slice (a0.cB.map cC)),(66,.int .i64 (a0.cB.length:Int)),(67,.int .i64 jD)]):=by
        intro DJ
        induction DJ with
        |zero=>intro jD h;cases(show none=some r from h)
        |succ DJ JU=>
         intro jD h
         replace h:y2 (qA a0 DJ) a0 jD=some r:=h
         refine eI Dt (fun ah2 zL wz Du=> ?_)
         refine ws _ ?_
         refine aU wz (fun am2 ai5 am3 ai6=> ?_)
         refine a_ h (fun Dv h=> ?_) (fun Dv h=> ?_)
         ·refine a6 (ai5 _ (.inl ?_))
          refine aU wz (fun ah5 tR Dw ah6=> ?_)
          refine cg Dw (fun ah7 zM tS ah8 ah9=> ?_)
          obtain⟨dz,ai7,h⟩:=aM h
          refine fs ai7 _ ?_
          obtain⟨dU,rZ,h⟩:=aM h
          rcases dA h with⟨ik,h⟩|⟨ik,h⟩
          ·refine fm rfl (fo [(1,.bM (dQ a0)),(65,.slice (a0.cB.map cC)),(66,.int .i64 (a0.cB.length:Int)),(67,.int .i64 jD),(107,.bool true)] (fun P al=> ?_) ?_)
           ·simp only[b3.down,simprocAttr,ej.down,(cZ ik)]
            refine fD (nH a0 dz.er _ rZ) rfl rfl rfl rfl (.inl (by rfl)) ?_
            simp only[b3.down,simprocAttr,ej.down,(cZ ik)]
            refine⟨fb (by kernel_rfl),?_⟩
            (try simp only[bn.down,simprocAttr,k3.down,(cZ ik)]at al⊢);exact al
           refine fC rfl ?_
           refine ws _ ?_
           exact aJ (tS _ (.inl (aK [.bool false])))
          ·obtain⟨dN,zQ,h⟩:=aM h
           rcases dA h with⟨jK,h⟩|⟨jK,h⟩
           ·refine fm rfl (fo [(1,.bM (dQ a0)),(65,.slice (a0.cB.map cC)),(66,.int .i64 (a0.cB.length:Int)),(67,.int .i64 jD),(107,.bool true)] (fun P al=> ?_) ?_)
            ·simp only[b3.down,simprocAttr,ej.down,(aR ik),(cZ jK)]
             refine fD (nH a0 dz.er _ rZ) rfl rfl rfl rfl (.inl (by rfl)) ?_
             simp only[b3.down,simprocAttr,ej.down,(aR ik),(cZ jK)]
             refine jA (nH a0 dz.gi _ zQ) rfl rfl rfl rfl (.inl (by rfl)) ?_
             simp only[b3.down,simprocAttr,ej.down,(aR ik),(cZ jK)]
             refine⟨fb (by kernel_rfl),?_⟩
             (try simp only[bn.down,simprocAttr,k3.down,(aR ik),(cZ jK)]at al⊢);exact al
            refine fC rfl ?_
            refine ws _ ?_
            exact aJ (tS _ (.inl (aK [.bool false])))
           ·obtain⟨fW,DK,h⟩:=aM h
            rcases dA h with⟨k8,h⟩|⟨k8,h⟩
            ·refine fm rfl (fo [(1,.bM (dQ a0)),(65,.slice (a0.cB.map cC)),(66,.int .i64 (a0.cB.length:Int)),(67,.int .i64 jD),(107,.bool true)] (fun P al=> ?_) ?_)
             ·simp only[b3.down,simprocAttr,ej.down,(aR ik),(aR jK),(cZ k8)]
              refine fD (nH a0 dz.er _ rZ) rfl rfl rfl rfl (.inl (by rfl)) ?_
              simp only[b3.down,simprocAttr,ej.down,(aR ik),(aR jK),(cZ k8)]
              refine jA (nH a0 dz.gi _ zQ) rfl rfl rfl rfl (.inl (by rfl)) ?_
              simp only[b3.down,simprocAttr,ej.down,(aR ik),(aR jK),(cZ k8)]
              refine jA (oZ dz.Label (a0.cW.length:Int) _ DK) rfl rfl rfl rfl (.inl (by rfl)) ?_
              simp only[b3.down,simprocAttr,ej.down,(aR ik),(aR jK),(cZ k8)]
              refine⟨fb (by kernel_rfl),?_⟩
              (try simp only[bn.down,simprocAttr,k3.down,(aR ik),(aR jK),(cZ k8)]at al⊢);exact al
             refine fC rfl ?_
             refine ws _ ?_
             exact aJ (tS _ (.inl (aK [.bool false])))
            ·rcases dA h with⟨nI,h⟩|⟨nI,h⟩
             ·obtain⟨jj,tY,h⟩:=aM h
              obtain⟨kY,ai8,h⟩:=aM h
              refine fm rfl (fo [(1,.bM (dQ a0)),(65,.slice (a0.cB.map cC)),(66,.int .i64 (a0.cB.length:Int)),(67,.int .i64 jD),(107,.bool (decide (0≤kY)))] (fun P al=> ?_) ?_)
              ·simp only[b3.down,simprocAttr,ej.down,(aR ik),(aR jK),(aR k8),nI,tY]
               refine fD (nH a0 dz.er _ rZ) rfl rfl rfl rfl (.inl (by rfl)) ?_
               simp only[b3.down,simprocAttr,ej.down,(aR ik),(aR jK),(aR k8),nI,tY]
               refine jA (nH a0 dz.gi _ zQ) rfl rfl rfl rfl (.inl (by rfl)) ?_
               simp only[b3.down,simprocAttr,ej.down,(aR ik),(aR jK),(aR k8),nI,tY]
               refine jA (oZ dz.Label (a0.cW.length:Int) _ DK) rfl rfl rfl rfl (.inl (by rfl)) ?_
               simp only[b3.down,simprocAttr,ej.down,(aR ik),(aR jK),(aR k8),nI,tY]
               refine jA (ai2 jj dz _ ai8) rfl rfl rfl rfl (.inl (by rfl)) ?_
               simp only[b3.down,simprocAttr,ej.down,(aR ik),(aR jK),(aR k8),nI,tY]
               refine⟨fb (by kernel_rfl),?_⟩
               (try simp only[bn.down,simprocAttr,k3.down,(aR ik),(aR jK),(aR k8),nI,tY]at al⊢);exact al
              refine a_ h (fun ai9 h=> ?_) (fun ai9 h=> ?_)
              ·refine ws _ ?_
               exact aJ (tS _ (.inl (aK [.bool false])))
              ·refine a6 (zM _ (tR _ (.inl ?_)))
               refine wr _ ?_
               exact zL _ (.inr ⟨_,bJ rfl,JU (IntKind.i64.wrap (jD+1)) h⟩)
             ·refine fm rfl (fo [(1,.bM (dQ a0)),(65,.slice (a0.cB.map cC)),(66,.int .i64 (a0.cB.length:Int)),(67,.int .i64 jD),(107,.bool false)] (fun P al=> ?_) ?_)
              ·simp only[b3.down,simprocAttr,ej.down,(aR ik),(aR jK),(aR k8),nI]
               refine fD (nH a0 dz.er _ rZ) rfl rfl rfl rfl (.inl (by rfl)) ?_
               simp only[b3.down,simprocAttr,ej.down,(aR ik),(aR jK),(aR k8),nI]
               refine jA (nH a0 dz.gi _ zQ) rfl rfl rfl rfl (.inl (by rfl)) ?_
               simp only[b3.down,simprocAttr,ej.down,(aR ik),(aR jK),(aR k8),nI]
               refine jA (oZ dz.Label (a0.cW.length:Int) _ DK) rfl rfl rfl rfl (.inl (by rfl)) ?_
               simp only[b3.down,simprocAttr,ej.down,(aR ik),(aR jK),(aR k8),nI]
               refine⟨fb (by kernel_rfl),?_⟩
               (try simp only[bn.down,simprocAttr,k3.down,(aR ik),(aR jK),(aR k8),nI]at al⊢);exact al
              refine lk rfl ?_
              refine a6 (zM _ (tR _ (.inl ?_)))
              refine wr _ ?_
              exact zL _ (.inr ⟨_,bJ rfl,JU (IntKind.i64.wrap (jD+1)) h⟩)
         ·refine eG (ai6 2 _ (Du 2 _ (wy _ (Dq _ (.inl ?_)))))
          refine ws _ ?_
          exact aJ (az _ (.inl (aK [.bool true])))
       obtain⟨n,h⟩:=eD h
       exact eH (.inr ⟨_,bJ rfl,ai4 n 0 h⟩)
    obtain⟨n,h⟩:=eD h
    exact eH (.inr ⟨_,bJ rfl,hL n 0 h⟩)
theorem JV (a0:gx) (r:Bool) (h:y6 a0=some r):bh aN 24 [iv a0] (.bool r) []:=by
 refine b0 [0] [.tmp 2] Tryz.func24 acD (fun bP az bW=> ?_)
 refine ws _ ?_
 refine aU az (fun fl cA bD aD=> ?_)
 obtain⟨ar,bQ,h⟩:=aM h
 refine cP (cv [(1,.bM (iv a0)),(18,.bool ((!ar)||((a0.dB.length:Int) !=(a0.Names.length:Int))))] (fun P al=> ?_) ?_)
 ·rcases Bool.eq_false_or_eq_true (ar)with jE|jE
  ·simp only[aZ.down,simprocAttr,iM.down,jE]
   refine ev (iA (a0.Names.length:Int) 1 6 _ bQ) rfl rfl rfl rfl (.inl (by rfl)) ?_
   simp only[aZ.down,simprocAttr,iM.down,jE]
   (try simp only[bn.down,simprocAttr,k4.down,jE]at al⊢);exact al
  ·simp only[aZ.down,simprocAttr,iM.down,jE]
   refine ev (iA (a0.Names.length:Int) 1 6 _ bQ) rfl rfl rfl rfl (.inl (by rfl)) ?_
   simp only[aZ.down,simprocAttr,iM.down,jE]
   (try simp only[bn.down,simprocAttr,k4.down,jE]at al⊢);exact al
 refine a_ h (fun cw h=> ?_) (fun cw h=> ?_)
 ·refine ws _ ?_
  exact aJ (bD _ (.inl (aK [.bool false])))
 ·refine a6 (cA _ (.inl ?_))
  refine aU az (fun hK fw gZ dz=> ?_)
  refine ws _ ?_
  refine cg gZ (fun fY c6 dk e7 dN=> ?_)
  have hL:∀(n:Nat) (lq:Int),qC a0 n lq=some r→ei aN I5 fY (R [(1,.bM (iv a0)),(20,.slice (a0.Names.map a1)),(21,.int .i64 (a0.Names.length:Int)),(22,.int .i64 lq)]):=by
   intro m14
   induction m14 with
   |zero=>intro lq h;cases(show none=some r from h)
   |succ m14 gE=>
    intro lq h
    replace h:y5 (qC a0 m14) a0 lq=some r:=h
    refine eI dk (fun jk eS ft fW=> ?_)
    refine ws _ ?_
    refine aU ft (fun mT i_ jn kY=> ?_)
    refine a_ h (fun fJ h=> ?_) (fun fJ h=> ?_)
    ·refine a6 (i_ _ (.inl ?_))
     refine aU ft (fun lY gY hJ k5=> ?_)
     refine cg hJ (fun oh j3 iy eL oY=> ?_)
     obtain⟨aD,eB,h⟩:=aM h
     refine fs eB _ ?_
     obtain⟨a7,j5,h⟩:=aM h
     rcases dA h with⟨j4,h⟩|⟨j4,h⟩
     ·refine hk (cZ j4) (wH aD _ j5) _ ?_
      refine fC rfl ?_
      refine ws _ ?_
      exact aJ (iy _ (.inl (aK [.bool false])))
     ·obtain⟨bo,fO,h⟩:=aM h
      obtain⟨c1,j6,h⟩:=aM h
      rcases dA h with⟨il,h⟩|⟨il,h⟩
      ·refine cP (cv [(1,.bM (iv a0)),(20,.slice (a0.Names.map a1)),(21,.int .i64 (a0.Names.length:Int)),(22,.int .i64 lq),(46,.bool true)] (fun P al=> ?_) ?_)
       ·simp only[aZ.down,simprocAttr,iM.down,(aR j4),fO, @ib _ a1 1 (fun _=>rfl),il]
        refine ev (wH aD _ j5) rfl rfl rfl rfl (.inl (by rfl)) ?_
        simp only[aZ.down,simprocAttr,iM.down,(aR j4),fO, @ib _ a1 1 (fun _=>rfl),il]
        refine eQ (JK bo aD _ j6) rfl rfl rfl rfl (.inl (by rfl)) ?_
        simp only[aZ.down,simprocAttr,iM.down,(aR j4),fO, @ib _ a1 1 (fun _=>rfl),il]
        (try simp only[bn.down,simprocAttr,k4.down,(aR j4),fO, @ib _ a1 1 (fun _=>rfl),il]at al⊢);exact al
       refine fC rfl ?_
       refine ws _ ?_
       exact aJ (iy _ (.inl (aK [.bool false])))
      ·obtain⟨cu,jJ,h⟩:=aM h
       obtain⟨da,r1,h⟩:=aM h
       refine cP (cv [(1,.bM (iv a0)),(20,.slice (a0.Names.map a1)),(21,.int .i64 (a0.Names.length:Int)),(22,.int .i64 lq),(46,.bool (!da))] (fun P al=> ?_) ?_)
       ·simp only[aZ.down,simprocAttr,iM.down,(aR j4),fO, @ib _ a1 1 (fun _=>rfl),il,jJ]
        refine ev (wH aD _ j5) rfl rfl rfl rfl (.inl (by rfl)) ?_
        simp only[aZ.down,simprocAttr,iM.down,(aR j4),fO, @ib _ a1 1 (fun _=>rfl),il,jJ]
        refine eQ (JK bo aD _ j6) rfl rfl rfl rfl (.inl (by rfl)) ?_
        simp only[aZ.down,simprocAttr,iM.down,(aR j4),fO, @ib _ a1 1 (fun _=>rfl),il,jJ]
        refine eQ (ai3 cu _ r1) rfl rfl rfl rfl (.inl (by rfl)) ?_
        simp only[aZ.down,simprocAttr,iM.down,(aR j4),fO, @ib _ a1 1 (fun _=>rfl),il,jJ]
        (try simp only[bn.down,simprocAttr,k4.down,(aR j4),fO, @ib _ a1 1 (fun _=>rfl),il,jJ]at al⊢);exact al
       refine a_ h (fun hM h=> ?_) (fun hM h=> ?_)
       ·refine ws _ ?_
        exact aJ (iy _ (.inl (aK [.bool false])))
       ·refine a6 (j3 _ (gY _ (.inl ?_)))
        refine wr _ ?_
        exact eS _ (.inr ⟨_,bJ rfl,gE (IntKind.i64.wrap (lq+1)) h⟩)
    ·refine eG (kY 0 _ (fW 0 _ (e7 _ (fw _ (.inl ?_)))))
     refine ws _ ?_
     exact aJ (az _ (.inl (aK [.bool true])))
  obtain⟨n,h⟩:=eD h
  exact eH (.inr ⟨_,bJ rfl,hL n 0 h⟩)
theorem JW (a0:dM) (r:Bool) (h:CV a0=some r):bh aN 49 [ew a0] (.bool r) []:=by
 refine b0 [0] [.tmp 2] Tryz.func49 acF (fun bP az bW=> ?_)
 refine ws _ ?_
 refine ws _ ?_
 exact aJ (az _ (.inl (aK [.bool (decide (a0.Kind≤3))])))
theorem ai_ (a0:dM) (r:Bool) (h:CW a0=some r):bh aN 50 [ew a0] (.bool r) []:=by
 refine b0 [0] [.tmp 2] Tryz.func50 acI (fun bP az bW=> ?_)
 refine ws _ ?_
 obtain⟨ar,aS,h⟩:=aM h
 refine dH (iA a0.Kind 3 5 _ aS) _ ?_
 exact aJ (az _ (.inl (aK [.bool ar])))
theorem JX (a0:bZ) (r:Int) (h:vY a0=some r):bh aN 82 [bs a0] (.int .i64 r) []:=by
 refine b0 [0] [.tmp 2] Tryz.func82 acY (fun bP az bW=> ?_)
 refine ws _ ?_
 refine aU az (fun fl cA bD aD=> ?_)
 refine ws _ ?_
 refine cg bD (fun fZ fu cT cq bo=> ?_)
 have JY:∀(vX:Bool),y7 a0 vX=some r→cK aN I7 fZ (R [(4,.int .i64 a0.Kind),(5,.bool vX)]):=by
  intro vX h
  refine a_ h (fun cw h=> ?_) (fun cw h=> ?_)
  ·refine ws _ ?_
   exact aJ (cT _ (.inl (aK [.int .i64 2])))
  ·skip
   have zR:∀(vW:Bool),tG vW=some r→cK aN I6 fZ (R [(8,.bool vW)]):=by
    intro vW h
    refine a_ h (fun dR h=> ?_) (fun dR h=> ?_)
    ·refine ws _ ?_
     exact aJ (cT _ (.inl (aK [.int .i64 1])))
    ·refine a6 (fu _ (cA _ (.inl ?_)))
     refine ws _ ?_
     exact aJ (az _ (.inl (aK [.int .i64 0])))
   refine aU cT (fun hK fw gZ dz=> ?_)
   refine ws _ ?_
   refine a_ h (fun gR h=> ?_) (fun gR h=> ?_)
   ·simp only[gR,rV.down]
    exact a6 (fw _ (.inr ⟨_,bJ rfl,zR true h⟩))
   ·refine ws _ ?_
    refine a_ h (fun jF h=> ?_) (fun jF h=> ?_)
    ·simp only[jF,rV.down]
     exact a6 (fw _ (.inr ⟨_,bJ rfl,zR true h⟩))
    ·refine ws _ ?_
     refine a_ h (fun mu h=> ?_) (fun mu h=> ?_)
     ·simp only[mu,rV.down]
      exact a6 (fw _ (.inr ⟨_,bJ rfl,zR true h⟩))
     ·refine wr _ ?_
      exact fw _ (.inr ⟨_,bJ rfl,zR (a0.Kind==8) h⟩)
 refine aU cT (fun kD gl fF c1=> ?_)
 refine ws _ ?_
 refine a_ h (fun gD h=> ?_) (fun gD h=> ?_)
 ·simp only[gD,rV.down]
  exact a6 (gl _ (.inr ⟨_,bJ rfl,JY true h⟩))
 ·refine wr _ ?_
  exact gl _ (.inr ⟨_,bJ rfl,JY (a0.Kind==3) h⟩)
theorem aja (a0:List bZ) (r:Bool) (h:y9 a0=some r):bh aN 69 [.slice (a0.map bs)] (.bool r) []:=by
 refine b0 [0] [.tmp 2] Tryz.func69 ada (fun bP az bW=> ?_)
 refine ws _ ?_
 refine ws _ ?_
 refine aU az (fun lr gJ dt a7=> ?_)
 refine ws _ ?_
 refine cg dt (fun kD gl fF cr c1=> ?_)
 have jG:∀(n:Nat) (bL:Int) (iu:Int),rN a0 n bL iu=some r→ei aN I8 kD (R [(3,.int .i64 bL),(6,.slice (a0.map bs)),(7,.int .i64 (a0.length:Int)),(8,.int .i64 iu)]):=by
  intro m8
  induction m8 with
  |zero=>intro bL iu h;cases(show none=some r from h)
  |succ m8 jH=>
   intro bL iu h
   replace h:y8 (rN a0 m8) a0 bL iu=some r:=h
   refine eI fF (fun fv dS du cu=> ?_)
   refine ws _ ?_
   refine aU du (fun hK fw gZ dz=> ?_)
   refine a_ h (fun dR h=> ?_) (fun dR h=> ?_)
   ·refine a6 (fw _ (.inl ?_))
    refine aU du (fun fY c6 dk dN=> ?_)
    refine cg dk (fun jk eS ft lu fW=> ?_)
    obtain⟨ar,fL,h⟩:=aM h
    refine fs fL _ ?_
    refine aU ft (fun i1 eY eZ i6=> ?_)
    refine ws _ ?_
    refine a_ h (fun eL h=> ?_) (fun eL h=> ?_)
    ·refine ws _ ?_
     exact aJ (eZ _ (.inl (aK [.bool false])))
    ·refine a6 (eY _ (.inl ?_))
     obtain⟨aD,l0,h⟩:=aM h
     refine Jn (JX ar _ l0) _ ?_
     refine eS _ (c6 _ (.inl ?_))
     refine wr _ ?_
     exact dS _ (.inr ⟨_,bJ rfl,jH (IntKind.i64.wrap (bL+(IntKind.i64.wrap (aD-1)))) (IntKind.i64.wrap (iu+1)) h⟩)
   ·refine eG (dz 0 _ (cu 0 _ (cr _ (gJ _ (.inl ?_)))))
    refine ws _ ?_
    exact aJ (az _ (.inl (aK [.bool (bL==0)])))
 obtain⟨n,h⟩:=eD h
 exact eH (.inr ⟨_,bJ rfl,jG n 1 0 h⟩)
theorem ajb (a0:bZ) (r:Bool) (h:CX a0=some r):bh aN 83 [bs a0] (.bool r) []:=by
 refine b0 [0] [.tmp 2] Tryz.func83 adf (fun bP az bW=> ?_)
 refine ws _ ?_
 refine cP (cv [(2,.bool ((a0.Kind==4)||(a0.Kind==5)))] (fun P al=> ?_) ?_)
 ·rcases Bool.eq_false_or_eq_true (a0.Kind==4)with dL|dL
  ·simp only[aZ.down,simprocAttr,hU.down,dL]
   (try simp only[bn.down,simprocAttr,bs,dL]at al⊢);exact al
  ·simp only[aZ.down,simprocAttr,hU.down,dL]
   (try simp only[bn.down,simprocAttr,bs,dL]at al⊢);exact al
 exact aJ (az _ (.inl (aK [.bool ((a0.Kind==4)||(a0.Kind==5))])))
theorem ajc (a0:List UInt8) (ab:List UInt8) (r:(List UInt8)×Bool) (h:CY a0 ab=some r):bh aN 107 [.str a0,.str ab] (.tuple [.str r.1,.bool r.2]) []:=by
 refine b0 [0,1] [.tmp 4,.tmp 5] Tryz.func107 adk (fun bP az bW=> ?_)
 refine ws _ ?_
 refine aU az (fun fl cA bD aD=> ?_)
 obtain⟨ar,bQ,h⟩:=aM h
 refine dH (JN a0 ab _ bQ) _ ?_
 refine a_ h (fun cr h=> ?_) (fun cr h=> ?_)
 ·refine ws _ ?_
  exact aJ (bD _ (.inl (aK [.str a0,.bool false])))
 ·refine a6 (cA _ (.inl ?_))
  obtain⟨aD,gb,h⟩:=aM h
  refine fs gb _ ?_
  exact aJ (az _ (.inl (aK [.str aD,.bool true])))
theorem ajd (a0:List UInt8) (ab:List UInt8) (r:(List UInt8)×Bool) (h:y_ a0 ab=some r):bh aN 96 [.str a0,.str ab] (.tuple [.str r.1,.bool r.2]) []:=by
 refine b0 [0,1] [.tmp 4,.tmp 5] Tryz.func96 adn (fun bP az bW=> ?_)
 refine ws _ ?_
 obtain⟨ar,aS,h⟩:=aM h
 refine dH (ajc a0 ab _ aS) _ ?_
 exact aJ (az _ (.inl (aK [.str ar.1,.bool ar.2])))
theorem aje (a0:List UInt8) (r:Bool) (h:vZ a0=some r):bh aN 84 [.str a0] (.bool r) []:=by
 refine b0 [0] [.tmp 2] Tryz.func84 adr (fun bP az bW=> ?_)
 refine ws _ ?_
 obtain⟨ar,aS,h⟩:=aM h
 refine dH (ajd a0 ([42]:List UInt8) _ aS) _ ?_
 rcases dA h with⟨cr,h⟩|⟨cr,h⟩
 ·refine fs cr _ ?_
  exact aJ (az _ (.inl (aK [.bool true])))
 ·obtain⟨aD,bK,h⟩:=aM h
  rcases dA h with⟨kb,h⟩|⟨kb,h⟩
  ·refine cP (cv [(2,.bool true)] (fun P al=> ?_) ?_)
   ·simp only[aZ.down,simprocAttr,cr,kb]
    refine eQ (r2 a0 _ bK) rfl rfl rfl rfl (.inl (by rfl)) ?_
    simp only[aZ.down,simprocAttr,cr,kb]
    (try simp only[bn.down,simprocAttr,cr,kb]at al⊢);exact al
   exact aJ (az _ (.inl (aK [.bool true])))
  ·rcases dA h with⟨cm,h⟩|⟨cm,h⟩
   ·obtain⟨a7,h7,h⟩:=aM h
    refine cP (cv [(2,.bool a7)] (fun P al=> ?_) ?_)
    ·simp only[aZ.down,simprocAttr,cr,kb,cm]
     refine eQ (r2 a0 _ bK) rfl rfl rfl rfl (.inl (by rfl)) ?_
     simp only[aZ.down,simprocAttr,cr,kb,cm]
     refine eQ (zP ar.1 _ h7) rfl rfl rfl rfl (.inl (by rfl)) ?_
     simp only[aZ.down,simprocAttr,cr,kb,cm]
     (try simp only[bn.down,simprocAttr,cr,kb,cm]at al⊢);exact al
    exact aJ (az _ (.inl (aK [.bool a7])))
   ·refine cP (cv [(2,.bool false)] (fun P al=> ?_) ?_)
    ·simp only[aZ.down,simprocAttr,cr,kb,cm]
     refine eQ (r2 a0 _ bK) rfl rfl rfl rfl (.inl (by rfl)) ?_
     simp only[aZ.down,simprocAttr,cr,kb,cm]
     (try simp only[bn.down,simprocAttr,cr,kb,cm]at al⊢);exact al
    exact aJ (az _ (.inl (aK [.bool false])))
theorem zS (a0:bZ) (r:Bool) (h:CZ a0=some r):bh aN 70 [bs a0] (.bool r) []:=by
 refine b0 [0] [.tmp 2] Tryz.func70 adw (fun bP az bW=> ?_)
 refine ws _ ?_
 refine aU az (fun fl cA bD aD=> ?_)
 obtain⟨ar,bQ,h⟩:=aM h
 refine dH (ajb a0 _ bQ) _ ?_
 refine a_ h (fun cr h=> ?_) (fun cr h=> ?_)
 ·obtain⟨aD,bH,h⟩:=aM h
  refine dH (aje a0.Label _ bH) _ ?_
  exact aJ (bD _ (.inl (aK [.bool aD])))
 ·refine a6 (cA _ (.inl ?_))
  refine cP (cv [(2,.bool ((a0.Label==([]:List UInt8))&&(!a0.Not)))] (fun P al=> ?_) ?_)
  ·rcases Bool.eq_false_or_eq_true (a0.Label==([]:List UInt8))with rT|rT
   ·simp only[aZ.down,simprocAttr,hU.down,rT]
    (try simp only[bn.down,simprocAttr,bs,rT]at al⊢);exact al
   ·simp only[aZ.down,simprocAttr,hU.down,rT]
    (try simp only[bn.down,simprocAttr,bs,rT]at al⊢);exact al
  exact aJ (az _ (.inl (aK [.bool ((a0.Label==([]:List UInt8))&&(!a0.Not))])))
theorem wI (a0:bZ) (r:Bool) (h:za a0=some r):bh aN 85 [bs a0] (.bool r) []:=by
 refine b0 [0] [.tmp 2] Tryz.func85 ady (fun bP az bW=> ?_)
 refine ws _ ?_
 refine cP (cv [(2,.bool ((a0.Kind==7)||(a0.Kind==8)))] (fun P al=> ?_) ?_)
 ·rcases Bool.eq_false_or_eq_true (a0.Kind==7)with dL|dL
  ·simp only[aZ.down,simprocAttr,hU.down,dL]
   (try simp only[bn.down,simprocAttr,bs,dL]at al⊢);exact al
  ·simp only[aZ.down,simprocAttr,hU.down,dL]
   (try simp only[bn.down,simprocAttr,bs,dL]at al⊢);exact al
 exact aJ (az _ (.inl (aK [.bool ((a0.Kind==7)||(a0.Kind==8))])))
theorem DL (a0:bZ) (r:Bool) (h:C0 a0=some r):bh aN 71 [bs a0] (.bool r) []:=by
 refine b0 [0] [.tmp 2] Tryz.func71 adE (fun bP az bW=> ?_)
 refine ws _ ?_
 refine aU az (fun fl cA bD aD=> ?_)
 obtain⟨ar,bQ,h⟩:=aM h
 refine cP (cv [(1,.bM (bs a0)),(9,.bool (ar||(a0.Kind==6)))] (fun P al=> ?_) ?_)
 ·rcases Bool.eq_false_or_eq_true (ar)with jE|jE
  ·simp only[aZ.down,simprocAttr,hU.down,jE]
   refine ev (wI a0 _ bQ) rfl rfl rfl rfl (.inl (by rfl)) ?_
   simp only[aZ.down,simprocAttr,hU.down,jE]
   (try simp only[bn.down,simprocAttr,bs,jE]at al⊢);exact al
  ·simp only[aZ.down,simprocAttr,hU.down,jE]
   refine ev (wI a0 _ bQ) rfl rfl rfl rfl (.inl (by rfl)) ?_
   simp only[aZ.down,simprocAttr,hU.down,jE]
   (try simp only[bn.down,simprocAttr,bs,jE]at al⊢);exact al
 refine a_ h (fun cw h=> ?_) (fun cw h=> ?_)
 ·obtain⟨aD,gb,h⟩:=aM h
  refine dH (iA a0.Variable 0 2 _ gb) _ ?_
  exact aJ (bD _ (.inl (aK [.bool aD])))
 ·refine a6 (cA _ (.inl ?_))
  refine ws _ ?_
  exact aJ (az _ (.inl (aK [.bool (a0.Variable==0)])))
theorem ajf (a0:List bZ) (ab:Int) (r:Int) (h:zb a0 ab=some r):bh aN 86 [.slice (a0.map bs),.int .i64 ab] (.int .i64 r) []:=by
 refine b0 [0] [.tmp 4] Tryz.func86 adM (fun bP az bW=> ?_)
 refine ws _ ?_
 refine aU az (fun fl cA bD aD=> ?_)
 refine ws _ ?_
 refine cg bD (fun fZ fu cT cq bo=> ?_)
 have k6:∀(n:Nat) (hX:Int) (cF:Int),tH a0 n hX cF=some r→ei aN I9 fZ (R [(0,.slice (a0.map bs)),(1,.int .i64 hX),(5,.int .i64 cF)]):=by
  intro m6
  induction m6 with
  |zero=>intro hX cF h;cases(show none=some r from h)
  |succ m6 jl=>
   intro hX cF h
   replace h:C1 (tH a0 m6) a0 hX cF=some r:=h
   refine eI cT (fun kD gl fF c1=> ?_)
   refine aU fF (fun fv dS du cu=> ?_)
   refine ws _ ?_
   refine a_ h (fun cm h=> ?_) (fun cm h=> ?_)
   ·refine a6 (dS _ (.inl ?_))
    refine aU fF (fun hB eK ee dU=> ?_)
    refine cg ee (fun fY c6 dk e7 dN=> ?_)
    obtain⟨ar,fi,h⟩:=aM h
    obtain⟨aD,fL,h⟩:=aM h
    refine ahu fi (JX ar _ fL) _ ?_
    refine c6 _ (eK _ (.inl ?_))
    refine wr _ ?_
    exact gl _ (.inr ⟨_,bJ rfl,jl (IntKind.i64.wrap (hX+1)) (IntKind.i64.wrap (cF+(IntKind.i64.wrap (aD-1)))) h⟩)
   ·refine eG (cu 0 _ (c1 0 _ (cq _ (cA _ (.inl ?_)))))
    refine ws _ ?_
    exact aJ (az _ (.inl (aK [.int .i64 hX])))
 obtain⟨n,h⟩:=eD h
 exact eH (.inr ⟨_,bJ rfl,k6 n ab 1 h⟩)
theorem ajg (a0:List bZ) (ab:Int) (r:Int) (h:zd a0 ab=some r):bh aN 72 [.slice (a0.map bs),.int .i64 ab] (.int .i64 r) []:=by
 refine b0 [0,1] [.tmp 4] Tryz.func72 adV (fun bP az bW=> ?_)
 refine ws _ ?_
 refine aU az (fun fl cA bD aD=> ?_)
 refine ws _ ?_
 refine cg bD (fun fZ fu cT cq bo=> ?_)
 have k6:∀(n:Nat) (cF:Int),rO a0 ab n cF=some r→ei aN I_ fZ (R [(0,.slice (a0.map bs)),(1,.int .i64 ab),(5,.int .i64 cF)]):=by
  intro m6
  induction m6 with
  |zero=>intro cF h;cases(show none=some r from h)
  |succ m6 jl=>
   intro cF h
   replace h:zc (rO a0 ab m6) a0 ab cF=some r:=h
   refine eI cT (fun kD gl fF c1=> ?_)
   refine aU fF (fun fv dS du cu=> ?_)
   refine ws _ ?_
   refine a_ h (fun cm h=> ?_) (fun cm h=> ?_)
   ·refine a6 (dS _ (.inl ?_))
    refine aU fF (fun hB eK ee dU=> ?_)
    refine cg ee (fun fY c6 dk e7 dN=> ?_)
    obtain⟨ar,fi,h⟩:=aM h
    obtain⟨aD,fL,h⟩:=aM h
    rcases dA h with⟨fJ,h⟩|⟨fJ,h⟩
    ·obtain⟨a7,fc,h⟩:=aM h
     rcases dA h with⟨eL,h⟩|⟨eL,h⟩
     ·obtain⟨bo,ep,h⟩:=aM h
      refine fm rfl (fo [(0,.slice (a0.map bs)),(1,.int .i64 ab),(5,.int .i64 cF),(36,.bool (decide (ab<bo)))] (fun P al=> ?_) ?_)
      ·simp only[b3.down,simprocAttr,gj.down,fi,fJ,fc,eL]
       refine fD (wI ar _ fL) rfl rfl rfl rfl (.inl (by rfl)) ?_
       simp only[b3.down,simprocAttr,gj.down,fi,fJ,fc,eL]
       refine jA (ajf a0 cF _ ep) rfl rfl rfl rfl (.inl (by rfl)) ?_
       simp only[b3.down,simprocAttr,gj.down,fi,fJ,fc,eL]
       refine⟨fb (by kernel_rfl),?_⟩
       (try simp only[bn.down,simprocAttr,bs,fi,fJ,fc,eL]at al⊢);exact al
      refine a_ h (fun i7 h=> ?_) (fun i7 h=> ?_)
      ·refine ws _ ?_
       exact aJ (dk _ (.inl (aK [.int .i64 cF])))
      ·refine a6 (c6 _ (eK _ (.inl ?_)))
       refine wr _ ?_
       exact gl _ (.inr ⟨_,bJ rfl,jl (IntKind.i64.wrap (cF-1)) h⟩)
     ·refine fm rfl (fo [(0,.slice (a0.map bs)),(1,.int .i64 ab),(5,.int .i64 cF),(36,.bool false)] (fun P al=> ?_) ?_)
      ·simp only[b3.down,simprocAttr,gj.down,fi,fJ,fc,eL]
       refine fD (wI ar _ fL) rfl rfl rfl rfl (.inl (by rfl)) ?_
       simp only[b3.down,simprocAttr,gj.down,fi,fJ,fc,eL]
       refine⟨fb (by kernel_rfl),?_⟩
       (try simp only[bn.down,simprocAttr,bs,fi,fJ,fc,eL]at al⊢);exact al
      refine lk rfl ?_
      refine a6 (c6 _ (eK _ (.inl ?_)))
      refine wr _ ?_
      exact gl _ (.inr ⟨_,bJ rfl,jl (IntKind.i64.wrap (cF-1)) h⟩)
    ·refine fm rfl (fo [(0,.slice (a0.map bs)),(1,.int .i64 ab),(5,.int .i64 cF),(36,.bool false)] (fun P al=> ?_) ?_)
     ·simp only[b3.down,simprocAttr,gj.down,fi,fJ]
      refine fD (wI ar _ fL) rfl rfl rfl rfl (.inl (by rfl)) ?_
      simp only[b3.down,simprocAttr,gj.down,fi,fJ]
      refine⟨fb (by kernel_rfl),?_⟩
      (try simp only[bn.down,simprocAttr,bs,fi,fJ]at al⊢);exact al
     refine lk rfl ?_
     refine a6 (c6 _ (eK _ (.inl ?_)))
     refine wr _ ?_
     exact gl _ (.inr ⟨_,bJ rfl,jl (IntKind.i64.wrap (cF-1)) h⟩)
   ·refine eG (cu 0 _ (c1 0 _ (cq _ (cA _ (.inl ?_)))))
    refine ws _ ?_
    exact aJ (az _ (.inl (aK [.int .i64 (-1)])))
 obtain⟨n,h⟩:=eD h
 exact eH (.inr ⟨_,bJ rfl,k6 n (IntKind.i64.wrap (ab-1)) h⟩)
theorem ajh (a0:List bZ) (r:Bool) (h:zf a0=some r):bh aN 51 [.slice (a0.map bs)] (.bool r) []:=by
 refine b0 [0] [.tmp 2] Tryz.func51 ad8 (fun bP az bW=> ?_)
 refine ws _ ?_
 refine aU az (fun fl cA bD aD=> ?_)
 obtain⟨ar,bQ,h⟩:=aM h
 rcases dA h with⟨cr,h⟩|⟨cr,h⟩
 ·refine hk (cZ cr) (iA (a0.length:Int) 1 30 _ bQ) _ ?_
  refine fC rfl ?_
  refine ws _ ?_
  exact aJ (bD _ (.inl (aK [.bool false])))
 ·obtain⟨aD,bH,h⟩:=aM h
  refine cP (cv [(0,.slice (a0.map bs)),(13,.bool (!aD))] (fun P al=> ?_) ?_)
  ·simp only[aZ.down,simprocAttr,gj.down,(aR cr)]
   refine ev (iA (a0.length:Int) 1 30 _ bQ) rfl rfl rfl rfl (.inl (by rfl)) ?_
   simp only[aZ.down,simprocAttr,gj.down,(aR cr)]
   refine eQ (aja a0 _ bH) rfl rfl rfl rfl (.inl (by rfl)) ?_
   simp only[aZ.down,simprocAttr,gj.down,(aR cr)]
   (try simp only[bn.down,simprocAttr,bs,(aR cr)]at al⊢);exact al
  refine a_ h (fun cm h=> ?_) (fun cm h=> ?_)
  ·refine ws _ ?_
   exact aJ (bD _ (.inl (aK [.bool false])))
  ·refine a6 (cA _ (.inl ?_))
   refine aU az (fun fY c6 dk dN=> ?_)
   refine ws _ ?_
   refine cg dk (fun mS iO lZ dm jj=> ?_)
   have hL:∀(n:Nat) (j1:Int),qD a0 n j1=some r→ei aN Ja mS (R [(0,.slice (a0.map bs)),(14,.slice (a0.map bs)),(15,.int .i64 (a0.length:Int)),(16,.int .i64 j1)]):=by
    intro m14
    induction m14 with
    |zero=>intro j1 h;cases(show none=some r from h)
    |succ m14 gE=>
     intro j1 h
     replace h:ze (qD a0 m14) a0 j1=some r:=h
     refine eI lZ (fun mT i_ jn kY=> ?_)
     refine ws _ ?_
     refine aU jn (fun lY gY hJ k5=> ?_)
     refine a_ h (fun eL h=> ?_) (fun eL h=> ?_)
     ·refine a6 (gY _ (.inl ?_))
      refine aU jn (fun wu oj nF tP=> ?_)
      refine cg nF (fun tQ l1 lv i7 qF=> ?_)
      obtain⟨a7,j5,h⟩:=aM h
      refine fs j5 _ ?_
      obtain⟨bo,g_,h⟩:=aM h
      rcases dA h with⟨hZ,h⟩|⟨hZ,h⟩
      ·refine hk (cZ hZ) (iA a7.Kind 0 8 _ g_) _ ?_
       refine fC rfl ?_
       refine ws _ ?_
       exact aJ (lv _ (.inl (aK [.bool false])))
      ·obtain⟨c1,qE,h⟩:=aM h
       rcases dA h with⟨iP,h⟩|⟨iP,h⟩
       ·refine cP (cv [(0,.slice (a0.map bs)),(14,.slice (a0.map bs)),(15,.int .i64 (a0.length:Int)),(16,.int .i64 j1),(45,.bool true)] (fun P al=> ?_) ?_)
        ·simp only[aZ.down,simprocAttr,hU.down,(aR hZ),(cZ iP)]
         refine ev (iA a7.Kind 0 8 _ g_) rfl rfl rfl rfl (.inl (by rfl)) ?_
         simp only[aZ.down,simprocAttr,hU.down,(aR hZ),(cZ iP)]
         refine eQ (zS a7 _ qE) rfl rfl rfl rfl (.inl (by rfl)) ?_
         simp only[aZ.down,simprocAttr,hU.down,(aR hZ),(cZ iP)]
         (try simp only[bn.down,simprocAttr,bs,(aR hZ),(cZ iP)]at al⊢);exact al
        refine fC rfl ?_
        refine ws _ ?_
        exact aJ (lv _ (.inl (aK [.bool false])))
       ·obtain⟨cu,r1,h⟩:=aM h
        rcases dA h with⟨hM,h⟩|⟨hM,h⟩
        ·refine cP (cv [(0,.slice (a0.map bs)),(14,.slice (a0.map bs)),(15,.int .i64 (a0.length:Int)),(16,.int .i64 j1),(45,.bool true)] (fun P al=> ?_) ?_)
         ·simp only[aZ.down,simprocAttr,hU.down,(aR hZ),(aR iP),(cZ hM)]
          refine ev (iA a7.Kind 0 8 _ g_) rfl rfl rfl rfl (.inl (by rfl)) ?_
          simp only[aZ.down,simprocAttr,hU.down,(aR hZ),(aR iP),(cZ hM)]
          refine eQ (zS a7 _ qE) rfl rfl rfl rfl (.inl (by rfl)) ?_
          simp only[aZ.down,simprocAttr,hU.down,(aR hZ),(aR iP),(cZ hM)]
          refine eQ (DL a7 _ r1) rfl rfl rfl rfl (.inl (by rfl)) ?_
          simp only[aZ.down,simprocAttr,hU.down,(aR hZ),(aR iP),(cZ hM)]
          (try simp only[bn.down,simprocAttr,bs,(aR hZ),(aR iP),(cZ hM)]at al⊢);exact al
         refine fC rfl ?_
         refine ws _ ?_
         exact aJ (lv _ (.inl (aK [.bool false])))
        ·rcases dA h with⟨h0,h⟩|⟨h0,h⟩
         ·obtain⟨da,tT,h⟩:=aM h
          refine cP (cv [(0,.slice (a0.map bs)),(14,.slice (a0.map bs)),(15,.int .i64 (a0.length:Int)),(16,.int .i64 j1),(45,.bool (decide (da<0)))] (fun P al=> ?_) ?_)
          ·simp only[aZ.down,simprocAttr,hU.down,(aR hZ),(aR iP),(aR hM),h0]
           refine ev (iA a7.Kind 0 8 _ g_) rfl rfl rfl rfl (.inl (by rfl)) ?_
           simp only[aZ.down,simprocAttr,hU.down,(aR hZ),(aR iP),(aR hM),h0]
           refine eQ (zS a7 _ qE) rfl rfl rfl rfl (.inl (by rfl)) ?_
           simp only[aZ.down,simprocAttr,hU.down,(aR hZ),(aR iP),(aR hM),h0]
           refine eQ (DL a7 _ r1) rfl rfl rfl rfl (.inl (by rfl)) ?_
           simp only[aZ.down,simprocAttr,hU.down,(aR hZ),(aR iP),(aR hM),h0]
           refine eQ (ajg a0 j1 _ tT) rfl rfl rfl rfl (.inl (by rfl)) ?_
           simp only[aZ.down,simprocAttr,hU.down,(aR hZ),(aR iP),(aR hM),h0]
           (try simp only[bn.down,simprocAttr,bs,(aR hZ),(aR iP),(aR hM),h0]at al⊢);exact al
          refine a_ h (fun DM h=> ?_) (fun DM h=> ?_)
          ·refine ws _ ?_
           exact aJ (lv _ (.inl (aK [.bool false])))
          ·refine a6 (l1 _ (oj _ (.inl ?_)))
           refine wr _ ?_
           exact i_ _ (.inr ⟨_,bJ rfl,gE (IntKind.i64.wrap (j1+1)) h⟩)
         ·refine cP (cv [(0,.slice (a0.map bs)),(14,.slice (a0.map bs)),(15,.int .i64 (a0.length:Int)),(16,.int .i64 j1),(45,.bool false)] (fun P al=> ?_) ?_)
          ·simp only[aZ.down,simprocAttr,hU.down,(aR hZ),(aR iP),(aR hM),h0]
           refine ev (iA a7.Kind 0 8 _ g_) rfl rfl rfl rfl (.inl (by rfl)) ?_
           simp only[aZ.down,simprocAttr,hU.down,(aR hZ),(aR iP),(aR hM),h0]
           refine eQ (zS a7 _ qE) rfl rfl rfl rfl (.inl (by rfl)) ?_
           simp only[aZ.down,simprocAttr,hU.down,(aR hZ),(aR iP),(aR hM),h0]
           refine eQ (DL a7 _ r1) rfl rfl rfl rfl (.inl (by rfl)) ?_
           simp only[aZ.down,simprocAttr,hU.down,(aR hZ),(aR iP),(aR hM),h0]
           (try simp only[bn.down,simprocAttr,bs,(aR hZ),(aR iP),(aR hM),h0]at al⊢);exact al
          refine lk rfl ?_
          refine a6 (l1 _ (oj _ (.inl ?_)))
          refine wr _ ?_
          exact i_ _ (.inr ⟨_,bJ rfl,gE (IntKind.i64.wrap (j1+1)) h⟩)
     ·refine eG (k5 0 _ (kY 0 _ (dm _ (c6 _ (.inl ?_)))))
      refine ws _ ?_
      exact aJ (az _ (.inl (aK [.bool true])))
   obtain⟨n,h⟩:=eD h
   exact eH (.inr ⟨_,bJ rfl,hL n 0 h⟩)
theorem aji (a0:gx) (ab:dM) (r:Bool) (h:zg a0 ab=some r):bh aN 25 [iv a0,ew ab] (.bool r) []:=by
 refine b0 [0,1] [.tmp 4] Tryz.func25 rS (fun bP az bW=> ?_)
 refine ws _ ?_
 refine ws _ ?_
 refine aU az (fun lr gJ dt a7=> ?_)
 obtain⟨ar,cp,h⟩:=aM h
 rcases dA h with⟨cw,h⟩|⟨cw,h⟩
 ·refine hk (cZ cw) (iA ab.Kind 0 7 _ cp) _ ?_
  refine fC rfl ?_
  refine ws _ ?_
  exact aJ (dt _ (.inl (aK [.bool false])))
 ·obtain⟨aD,gb,h⟩:=aM h
  rcases dA h with⟨dR,h⟩|⟨dR,h⟩
  ·refine cP (cv [(3,.bM (ew ab)),(36,.bool true)] (fun P al=> ?_) ?_)
   ·simp only[aZ.down,simprocAttr,hV.down,(aR cw),(cZ dR)]
    refine ev (iA ab.Kind 0 7 _ cp) rfl rfl rfl rfl (.inl (by rfl)) ?_
    simp only[aZ.down,simprocAttr,hV.down,(aR cw),(cZ dR)]
    refine eQ (oZ ab.Left (a0.dB.length:Int) _ gb) rfl rfl rfl rfl (.inl (by rfl)) ?_
    simp only[aZ.down,simprocAttr,hV.down,(aR cw),(cZ dR)]
    (try simp only[bn.down,simprocAttr,pI.down,(aR cw),(cZ dR)]at al⊢);exact al
   refine fC rfl ?_
   refine ws _ ?_
   exact aJ (dt _ (.inl (aK [.bool false])))
  ·obtain⟨a7,ma,h⟩:=aM h
   rcases dA h with⟨dm,h⟩|⟨dm,h⟩
   ·refine cP (cv [(3,.bM (ew ab)),(36,.bool true)] (fun P al=> ?_) ?_)
    ·simp only[aZ.down,simprocAttr,hV.down,(aR cw),(aR dR),(cZ dm)]
     refine ev (iA ab.Kind 0 7 _ cp) rfl rfl rfl rfl (.inl (by rfl)) ?_
     simp only[aZ.down,simprocAttr,hV.down,(aR cw),(aR dR),(cZ dm)]
     refine eQ (oZ ab.Left (a0.dB.length:Int) _ gb) rfl rfl rfl rfl (.inl (by rfl)) ?_
     simp only[aZ.down,simprocAttr,hV.down,(aR cw),(aR dR),(cZ dm)]
     refine eQ (oZ ab.hT (a0.dB.length:Int) _ ma) rfl rfl rfl rfl (.inl (by rfl)) ?_
     simp only[aZ.down,simprocAttr,hV.down,(aR cw),(aR dR),(cZ dm)]
     (try simp only[bn.down,simprocAttr,pI.down,(aR cw),(aR dR),(cZ dm)]at al⊢);exact al
    refine fC rfl ?_
    refine ws _ ?_
    exact aJ (dt _ (.inl (aK [.bool false])))
   ·obtain⟨bo,gy,h⟩:=aM h
    refine cP (cv [(3,.bM (ew ab)),(36,.bool ((!bo)&&(ab.hT !=0)))] (fun P al=> ?_) ?_)
    ·rcases Bool.eq_false_or_eq_true (bo)with lW|lW
     ·simp only[aZ.down,simprocAttr,hV.down,(aR cw),(aR dR),(aR dm),lW]
      refine ev (iA ab.Kind 0 7 _ cp) rfl rfl rfl rfl (.inl (by rfl)) ?_
      simp only[aZ.down,simprocAttr,hV.down,(aR cw),(aR dR),(aR dm),lW]
      refine eQ (oZ ab.Left (a0.dB.length:Int) _ gb) rfl rfl rfl rfl (.inl (by rfl)) ?_
      simp only[aZ.down,simprocAttr,hV.down,(aR cw),(aR dR),(aR dm),lW]
      refine eQ (oZ ab.hT (a0.dB.length:Int) _ ma) rfl rfl rfl rfl (.inl (by rfl)) ?_
      simp only[aZ.down,simprocAttr,hV.down,(aR cw),(aR dR),(aR dm),lW]
      refine eQ (JW ab _ gy) rfl rfl rfl rfl (.inl (by rfl)) ?_
      simp only[aZ.down,simprocAttr,hV.down,(aR cw),(aR dR),(aR dm),lW]
      (try simp only[bn.down,simprocAttr,pI.down,(aR cw),(aR dR),(aR dm),lW]at al⊢);exact al
     ·simp only[aZ.down,simprocAttr,hV.down,(aR cw),(aR dR),(aR dm),lW]
      refine ev (iA ab.Kind 0 7 _ cp) rfl rfl rfl rfl (.inl (by rfl)) ?_
      simp only[aZ.down,simprocAttr,hV.down,(aR cw),(aR dR),(aR dm),lW]
      refine eQ (oZ ab.Left (a0.dB.length:Int) _ gb) rfl rfl rfl rfl (.inl (by rfl)) ?_
      simp only[aZ.down,simprocAttr,hV.down,(aR cw),(aR dR),(aR dm),lW]
      refine eQ (oZ ab.hT (a0.dB.length:Int) _ ma) rfl rfl rfl rfl (.inl (by rfl)) ?_
      simp only[aZ.down,simprocAttr,hV.down,(aR cw),(aR dR),(aR dm),lW]
      refine eQ (JW ab _ gy) rfl rfl rfl rfl (.inl (by rfl)) ?_
      simp only[aZ.down,simprocAttr,hV.down,(aR cw),(aR dR),(aR dm),lW]
      (try simp only[bn.down,simprocAttr,pI.down,(aR cw),(aR dR),(aR dm),lW]at al⊢);exact al
    refine a_ h (fun eL h=> ?_) (fun eL h=> ?_)
    ·refine ws _ ?_
     exact aJ (dt _ (.inl (aK [.bool false])))
    ·refine a6 (gJ _ (.inl ?_))
     refine aU az (fun tQ l1 lv qF=> ?_)
     obtain⟨c1,j5,h⟩:=aM h
     refine dH (ai_ ab _ j5) _ ?_
     refine a_ h (fun j4 h=> ?_) (fun j4 h=> ?_)
     ·obtain⟨cu,fO,h⟩:=aM h
      refine dH (ajh ab.Formula _ fO) _ ?_
      exact aJ (lv _ (.inl (aK [.bool cu])))
     ·refine a6 (l1 _ (.inl ?_))
      refine ws _ ?_
      exact aJ (az _ (.inl (aK [.bool ((ab.Formula.length:Int)==0)])))
theorem ajj (a0:gx) (ab:dM) (r:Bool) (h:zh a0 ab=some r):bh aN 9 [iv a0,ew ab] (.bool r) []:=by
 refine b0 [0,1] [.tmp 4] Tryz.func9 rT (fun bP az bW=> ?_)
 refine ws _ ?_
 obtain⟨ar,aS,h⟩:=aM h
 rcases dA h with⟨cq,h⟩|⟨cq,h⟩
 ·obtain⟨aD,cp,h⟩:=aM h
  refine cP (cv [(4,.bool aD)] (fun P al=> ?_) ?_)
  ·simp only[aZ.down,simprocAttr,iM.down,cq]
   refine ev (JV a0 _ aS) rfl rfl rfl rfl (.inl (by rfl)) ?_
   simp only[aZ.down,simprocAttr,iM.down,cq]
   refine eQ (aji a0 ab _ cp) rfl rfl rfl rfl (.inl (by rfl)) ?_
   simp only[aZ.down,simprocAttr,iM.down,cq]
   (try simp only[bn.down,simprocAttr,k4.down,cq]at al⊢);exact al
  exact aJ (az _ (.inl (aK [.bool aD])))
 ·refine hk cq (JV a0 _ aS) _ ?_
  exact aJ (az _ (.inl (aK [.bool false])))
theorem JZ (a0:List (List UInt8)) (ab:List (List UInt8)) (r:Bool) (h:v7 a0 ab=some r):bh aN 26 [.slice (a0.map a1),.slice (ab.map a1)] (.bool r) []:=by
 refine b0 [0,1] [.tmp 4] Tryz.func26 aeu (fun bP az bW=> ?_)
 refine ws _ ?_
 refine aU az (fun fl cA bD aD=> ?_)
 refine ws _ ?_
 refine a_ h (fun cq h=> ?_) (fun cq h=> ?_)
 ·refine ws _ ?_
  exact aJ (bD _ (.inl (aK [.bool false])))
 ·refine a6 (cA _ (.inl ?_))
  refine aU az (fun fv dS du cu=> ?_)
  refine ws _ ?_
  refine cg du (fun hK fw gZ cm dz=> ?_)
  have hL:∀(n:Nat) (b_:Int),zi a0 ab n b_=some r→ei aN Jb hK (R [(0,.slice (a0.map a1)),(1,.slice (ab.map a1)),(5,.int .i64 b_)]):=by
   intro m14
   induction m14 with
   |zero=>intro b_ h;cases(show none=some r from h)
   |succ m14 gE=>
    intro b_ h
    replace h:H0 (zi a0 ab m14) a0 ab b_=some r:=h
    refine eI gZ (fun hB eK ee dU=> ?_)
    refine aU ee (fun fY c6 dk dN=> ?_)
    refine ws _ ?_
    refine a_ h (fun dm h=> ?_) (fun dm h=> ?_)
    ·refine a6 (c6 _ (.inl ?_))
     refine aU ee (fun mT i_ jn kY=> ?_)
     refine cg jn (fun i1 eY eZ fJ i6=> ?_)
     obtain⟨ar,dn,h⟩:=aM h
     obtain⟨aD,ep,h⟩:=aM h
     refine fm rfl (fo [(0,.slice (a0.map a1)),(1,.slice (ab.map a1)),(5,.int .i64 b_),(25,.bool (!(ar==aD)))] (fun P al=> ?_) ?_)
     ·simp only[b3.down,simprocAttr,k2.down,dn,ep]
      refine⟨fb (by kernel_rfl),?_⟩
      (try simp only[bn.down,simprocAttr,a1,dn,ep]at al⊢);exact al
     refine a_ h (fun i7 h=> ?_) (fun i7 h=> ?_)
     ·refine ws _ ?_
      exact aJ (eZ _ (.inl (aK [.bool false])))
     ·refine a6 (eY _ (i_ _ (.inl ?_)))
      refine wr _ ?_
      exact eK _ (.inr ⟨_,bJ rfl,gE (IntKind.i64.wrap (b_+1)) h⟩)
    ·refine eG (dN 0 _ (dU 0 _ (cm _ (dS _ (.inl ?_)))))
     refine ws _ ?_
     exact aJ (az _ (.inl (aK [.bool true])))
  obtain⟨n,h⟩:=eD h
  exact eH (.inr ⟨_,bJ rfl,hL n 0 h⟩)
theorem ajk (a0:ek) (ab:ek) (r:Bool) (h:v8 a0 ab=some r):bh aN 87 [cC a0,cC ab] (.bool r) []:=by
 refine b0 [0,1] [.tmp 4] Tryz.func87 aeF (fun bP az bW=> ?_)
 refine ws _ ?_
 refine aU az (fun fl cA bD aD=> ?_)
 refine ws _ ?_
 refine a_ h (fun cq h=> ?_) (fun cq h=> ?_)
 ·refine ws _ ?_
  exact aJ (bD _ (.inl (aK [.bool false])))
 ·refine a6 (cA _ (.inl ?_))
  refine aU az (fun fv dS du cu=> ?_)
  refine ws _ ?_
  refine a_ h (fun cm h=> ?_) (fun cm h=> ?_)
  ·refine ws _ ?_
   exact aJ (du _ (.inl (aK [.bool false])))
  ·refine a6 (dS _ (.inl ?_))
   refine aU az (fun fY c6 dk dN=> ?_)
   refine ws _ ?_
   refine a_ h (fun dm h=> ?_) (fun dm h=> ?_)
   ·refine ws _ ?_
    exact aJ (dk _ (.inl (aK [.bool false])))
   ·refine a6 (c6 _ (.inl ?_))
    refine ws _ ?_
    exact aJ (az _ (.inl (aK [.bool true])))
theorem ajl (a0:List ek) (ab:List ek) (r:Bool) (h:zk a0 ab=some r):bh aN 73 [.slice (a0.map cC),.slice (ab.map cC)] (.bool r) []:=by
 refine b0 [0,1] [.tmp 4] Tryz.func73 aeS (fun bP az bW=> ?_)
 refine ws _ ?_
 refine aU az (fun fl cA bD aD=> ?_)
 refine ws _ ?_
 refine a_ h (fun cq h=> ?_) (fun cq h=> ?_)
 ·refine ws _ ?_
  exact aJ (bD _ (.inl (aK [.bool false])))
 ·refine a6 (cA _ (.inl ?_))
  refine aU az (fun fv dS du cu=> ?_)
  refine ws _ ?_
  refine cg du (fun hK fw gZ cm dz=> ?_)
  have hL:∀(n:Nat) (b_:Int),zj a0 ab n b_=some r→ei aN Jc hK (R [(0,.slice (a0.map cC)),(1,.slice (ab.map cC)),(5,.int .i64 b_)]):=by
   intro m14
   induction m14 with
   |zero=>intro b_ h;cases(show none=some r from h)
   |succ m14 gE=>
    intro b_ h
    replace h:H2 (zj a0 ab m14) a0 ab b_=some r:=h
    refine eI gZ (fun hB eK ee dU=> ?_)
    refine aU ee (fun fY c6 dk dN=> ?_)
    refine ws _ ?_
    refine a_ h (fun dm h=> ?_) (fun dm h=> ?_)
    ·refine a6 (c6 _ (.inl ?_))
     refine aU ee (fun mT i_ jn kY=> ?_)
     refine cg jn (fun i1 eY eZ fJ i6=> ?_)
     obtain⟨ar,dn,h⟩:=aM h
     obtain⟨aD,ep,h⟩:=aM h
     obtain⟨a7,eB,h⟩:=aM h
     refine fm rfl (fo [(0,.slice (a0.map cC)),(1,.slice (ab.map cC)),(5,.int .i64 b_),(26,.bool (!a7))] (fun P al=> ?_) ?_)
     ·simp only[b3.down,simprocAttr,eJ,lT,jC,cC,dn,ep]
      refine fD (ajk ar aD _ eB) rfl rfl rfl rfl (.inl (by rfl)) ?_
      simp only[b3.down,simprocAttr,eJ,lT,jC,cC,dn,ep]
      refine⟨fb (by kernel_rfl),?_⟩
      (try simp only[bn.down,simprocAttr,cC,dn,ep]at al⊢);exact al
     refine a_ h (fun iN h=> ?_) (fun iN h=> ?_)
     ·refine ws _ ?_
      exact aJ (eZ _ (.inl (aK [.bool false])))
     ·refine a6 (eY _ (i_ _ (.inl ?_)))
      refine wr _ ?_
      exact eK _ (.inr ⟨_,bJ rfl,gE (IntKind.i64.wrap (b_+1)) h⟩)
    ·refine eG (dN 0 _ (dU 0 _ (cm _ (dS _ (.inl ?_)))))
     refine ws _ ?_
     exact aJ (az _ (.inl (aK [.bool true])))
  obtain⟨n,h⟩:=eD h
  exact eH (.inr ⟨_,bJ rfl,hL n 0 h⟩)
theorem ajm (a0:dC) (ab:dC) (r:Bool) (h:v_ a0 ab=some r):bh aN 52 [dQ a0,dQ ab] (.bool r) []:=by
 refine b0 [0,1] [.tmp 4] Tryz.func52 ae7 (fun bP az bW=> ?_)
 refine ws _ ?_
 refine aU az (fun fl cA bD aD=> ?_)
 refine ws _ ?_
 refine a_ h (fun cq h=> ?_) (fun cq h=> ?_)
 ·refine ws _ ?_
  exact aJ (bD _ (.inl (aK [.bool false])))
 ·refine a6 (cA _ (.inl ?_))
  refine aU az (fun fv dS du cu=> ?_)
  refine ws _ ?_
  refine a_ h (fun cm h=> ?_) (fun cm h=> ?_)
  ·refine ws _ ?_
   exact aJ (du _ (.inl (aK [.bool false])))
  ·refine a6 (dS _ (.inl ?_))
   refine aU az (fun fY c6 dk dN=> ?_)
   obtain⟨ar,fi,h⟩:=aM h
   refine dH (JZ a0.cW ab.cW _ fi) _ ?_
   refine a_ h (fun gR h=> ?_) (fun gR h=> ?_)
   ·refine ws _ ?_
    exact aJ (dk _ (.inl (aK [.bool false])))
   ·refine a6 (c6 _ (.inl ?_))
    refine aU az (fun lY gY hJ k5=> ?_)
    obtain⟨aD,ep,h⟩:=aM h
    refine dH (ajl a0.cB ab.cB _ ep) _ ?_
    refine a_ h (fun i7 h=> ?_) (fun i7 h=> ?_)
    ·refine ws _ ?_
     exact aJ (hJ _ (.inl (aK [.bool false])))
    ·refine a6 (gY _ (.inl ?_))
     refine ws _ ?_
     exact aJ (az _ (.inl (aK [.bool true])))
theorem ajn (a0:List dC) (ab:List dC) (r:Bool) (h:zm a0 ab=some r):bh aN 27 [.slice (a0.map dQ),.slice (ab.map dQ)] (.bool r) []:=by
 refine b0 [0,1] [.tmp 4] Tryz.func27 afj (fun bP az bW=> ?_)
 refine ws _ ?_
 refine aU az (fun fl cA bD aD=> ?_)
 refine ws _ ?_
 refine a_ h (fun cq h=> ?_) (fun cq h=> ?_)
 ·refine ws _ ?_
  exact aJ (bD _ (.inl (aK [.bool false])))
 ·refine a6 (cA _ (.inl ?_))
  refine aU az (fun fv dS du cu=> ?_)
  refine ws _ ?_
  refine cg du (fun hK fw gZ cm dz=> ?_)
  have hL:∀(n:Nat) (b_:Int),zl a0 ab n b_=some r→ei aN Jd hK (R [(0,.slice (a0.map dQ)),(1,.slice (ab.map dQ)),(5,.int .i64 b_)]):=by
   intro m14
   induction m14 with
   |zero=>intro b_ h;cases(show none=some r from h)
   |succ m14 gE=>
    intro b_ h
    replace h:H3 (zl a0 ab m14) a0 ab b_=some r:=h
    refine eI gZ (fun hB eK ee dU=> ?_)
    refine aU ee (fun fY c6 dk dN=> ?_)
    refine ws _ ?_
    refine a_ h (fun dm h=> ?_) (fun dm h=> ?_)
    ·refine a6 (c6 _ (.inl ?_))
     refine aU ee (fun mT i_ jn kY=> ?_)
     refine cg jn (fun i1 eY eZ fJ i6=> ?_)
     obtain⟨ar,dn,h⟩:=aM h
     obtain⟨aD,ep,h⟩:=aM h
     obtain⟨a7,eB,h⟩:=aM h
     refine fm rfl (fo [(0,.slice (a0.map dQ)),(1,.slice (ab.map dQ)),(5,.int .i64 b_),(26,.bool (!a7))] (fun P al=> ?_) ?_)
     ·simp only[b3.down,simprocAttr,eJ,fq,lR,px,lT,oV,jC,cC,dQ,a1,dn,ep]
      refine fD (ajm ar aD _ eB) rfl rfl rfl rfl (.inl (by rfl)) ?_
      simp only[b3.down,simprocAttr,eJ,fq,lR,px,lT,oV,jC,cC,dQ,a1,dn,ep]
      refine⟨fb (by kernel_rfl),?_⟩
      (try simp only[bn.down,simprocAttr,k3.down,dn,ep]at al⊢);exact al
     refine a_ h (fun iN h=> ?_) (fun iN h=> ?_)
     ·refine ws _ ?_
      exact aJ (eZ _ (.inl (aK [.bool false])))
     ·refine a6 (eY _ (i_ _ (.inl ?_)))
      refine wr _ ?_
      exact eK _ (.inr ⟨_,bJ rfl,gE (IntKind.i64.wrap (b_+1)) h⟩)
    ·refine eG (dN 0 _ (dU 0 _ (cm _ (dS _ (.inl ?_)))))
     refine ws _ ?_
     exact aJ (az _ (.inl (aK [.bool true])))
  obtain⟨n,h⟩:=eD h
  exact eH (.inr ⟨_,bJ rfl,hL n 0 h⟩)
theorem ajo (a0:List Int) (ab:List Int) (r:Bool) (h:wa a0 ab=some r):bh aN 53 [.slice (a0.map bB),.slice (ab.map bB)] (.bool r) []:=by
 refine b0 [0,1] [.tmp 4] Tryz.func53 afv (fun bP az bW=> ?_)
 refine ws _ ?_
 refine aU az (fun fl cA bD aD=> ?_)
 refine ws _ ?_
 refine a_ h (fun cq h=> ?_) (fun cq h=> ?_)
 ·refine ws _ ?_
  exact aJ (bD _ (.inl (aK [.bool false])))
 ·refine a6 (cA _ (.inl ?_))
  refine aU az (fun fv dS du cu=> ?_)
  refine ws _ ?_
  refine cg du (fun hK fw gZ cm dz=> ?_)
  have hL:∀(n:Nat) (b_:Int),zn a0 ab n b_=some r→ei aN Je hK (R [(0,.slice (a0.map bB)),(1,.slice (ab.map bB)),(5,.int .i64 b_)]):=by
   intro m14
   induction m14 with
   |zero=>intro b_ h;cases(show none=some r from h)
   |succ m14 gE=>
    intro b_ h
    replace h:H4 (zn a0 ab m14) a0 ab b_=some r:=h
    refine eI gZ (fun hB eK ee dU=> ?_)
    refine aU ee (fun fY c6 dk dN=> ?_)
    refine ws _ ?_
    refine a_ h (fun dm h=> ?_) (fun dm h=> ?_)
    ·refine a6 (c6 _ (.inl ?_))
     refine aU ee (fun mT i_ jn kY=> ?_)
     refine cg jn (fun i1 eY eZ fJ i6=> ?_)
     obtain⟨ar,dn,h⟩:=aM h
     obtain⟨aD,ep,h⟩:=aM h
     refine fm rfl (fo [(0,.slice (a0.map bB)),(1,.slice (ab.map bB)),(5,.int .i64 b_),(25,.bool (ar !=aD))] (fun P al=> ?_) ?_)
     ·simp only[b3.down,simprocAttr,eJ,ie,bB,dn,ep]
      refine⟨fb (by kernel_rfl),?_⟩
      (try simp only[bn.down,simprocAttr,bB,dn,ep]at al⊢);exact al
     refine a_ h (fun i7 h=> ?_) (fun i7 h=> ?_)
     ·refine ws _ ?_
      exact aJ (eZ _ (.inl (aK [.bool false])))
     ·refine a6 (eY _ (i_ _ (.inl ?_)))
      refine wr _ ?_
      exact eK _ (.inr ⟨_,bJ rfl,gE (IntKind.i64.wrap (b_+1)) h⟩)
    ·refine eG (dN 0 _ (dU 0 _ (cm _ (dS _ (.inl ?_)))))
     refine ws _ ?_
     exact aJ (az _ (.inl (aK [.bool true])))
  obtain⟨n,h⟩:=eD h
  exact eH (.inr ⟨_,bJ rfl,hL n 0 h⟩)
theorem ajp (a0:List (List Int)) (ab:List (List Int)) (r:Bool) (h:zp a0 ab=some r):bh aN 29 [.slice (a0.map di),.slice (ab.map di)] (.bool r) []:=by
 refine b0 [0,1] [.tmp 4] Tryz.func29 afI (fun bP az bW=> ?_)
 refine ws _ ?_
 refine aU az (fun fl cA bD aD=> ?_)
 refine ws _ ?_
 refine a_ h (fun cq h=> ?_) (fun cq h=> ?_)
 ·refine ws _ ?_
  exact aJ (bD _ (.inl (aK [.bool false])))
 ·refine a6 (cA _ (.inl ?_))
  refine aU az (fun fv dS du cu=> ?_)
  refine ws _ ?_
  refine cg du (fun hK fw gZ cm dz=> ?_)
  have hL:∀(n:Nat) (b_:Int),zo a0 ab n b_=some r→ei aN Jf hK (R [(0,.slice (a0.map di)),(1,.slice (ab.map di)),(5,.int .i64 b_)]):=by
   intro m14
   induction m14 with
   |zero=>intro b_ h;cases(show none=some r from h)
   |succ m14 gE=>
    intro b_ h
    replace h:H5 (zo a0 ab m14) a0 ab b_=some r:=h
    refine eI gZ (fun hB eK ee dU=> ?_)
    refine aU ee (fun fY c6 dk dN=> ?_)
    refine ws _ ?_
    refine a_ h (fun dm h=> ?_) (fun dm h=> ?_)
    ·refine a6 (c6 _ (.inl ?_))
     refine aU ee (fun mT i_ jn kY=> ?_)
     refine cg jn (fun i1 eY eZ fJ i6=> ?_)
     obtain⟨ar,dn,h⟩:=aM h
     obtain⟨aD,ep,h⟩:=aM h
     obtain⟨a7,eB,h⟩:=aM h
     refine fm rfl (fo [(0,.slice (a0.map di)),(1,.slice (ab.map di)),(5,.int .i64 b_),(26,.bool (!a7))] (fun P al=> ?_) ?_)
     ·simp only[b3.down,simprocAttr,eJ,kX,ie,bB,di,dn,ep]
      refine fD (ajo ar aD _ eB) rfl rfl rfl rfl (.inl (by rfl)) ?_
      simp only[b3.down,simprocAttr,eJ,kX,ie,bB,di,dn,ep]
      refine⟨fb (by kernel_rfl),?_⟩
      (try simp only[bn.down,simprocAttr,bB,di,dn,ep]at al⊢);exact al
     refine a_ h (fun iN h=> ?_) (fun iN h=> ?_)
     ·refine ws _ ?_
      exact aJ (eZ _ (.inl (aK [.bool false])))
     ·refine a6 (eY _ (i_ _ (.inl ?_)))
      refine wr _ ?_
      exact eK _ (.inr ⟨_,bJ rfl,gE (IntKind.i64.wrap (b_+1)) h⟩)
    ·refine eG (dN 0 _ (dU 0 _ (cm _ (dS _ (.inl ?_)))))
     refine ws _ ?_
     exact aJ (az _ (.inl (aK [.bool true])))
  obtain⟨n,h⟩:=eD h
  exact eH (.inr ⟨_,bJ rfl,hL n 0 h⟩)
theorem ajq (a0:bZ) (ab:bZ) (r:Bool) (h:wb a0 ab=some r):bh aN 54 [bs a0,bs ab] (.bool r) []:=by
 refine b0 [0,1] [.tmp 4] Tryz.func54 afX (fun bP az bW=> ?_)
 refine ws _ ?_
 refine aU az (fun fl cA bD aD=> ?_)
 refine ws _ ?_
 refine a_ h (fun cq h=> ?_) (fun cq h=> ?_)
 ·refine ws _ ?_
  exact aJ (bD _ (.inl (aK [.bool false])))
 ·refine a6 (cA _ (.inl ?_))
  refine aU az (fun fv dS du cu=> ?_)
  refine ws _ ?_
  refine a_ h (fun cm h=> ?_) (fun cm h=> ?_)
  ·refine ws _ ?_
   exact aJ (du _ (.inl (aK [.bool false])))
  ·refine a6 (dS _ (.inl ?_))
   refine aU az (fun fY c6 dk dN=> ?_)
   refine ws _ ?_
   refine a_ h (fun dm h=> ?_) (fun dm h=> ?_)
   ·refine ws _ ?_
    exact aJ (dk _ (.inl (aK [.bool false])))
   ·refine a6 (c6 _ (.inl ?_))
    refine aU az (fun i1 eY eZ i6=> ?_)
    refine ws _ ?_
    refine a_ h (fun eL h=> ?_) (fun eL h=> ?_)
    ·refine ws _ ?_
     exact aJ (eZ _ (.inl (aK [.bool false])))
    ·refine a6 (eY _ (.inl ?_))
     refine ws _ ?_
     exact aJ (az _ (.inl (aK [.bool true])))
theorem ajr (a0:List bZ) (ab:List bZ) (r:Bool) (h:zr a0 ab=some r):bh aN 30 [.slice (a0.map bs),.slice (ab.map bs)] (.bool r) []:=by
 refine b0 [0,1] [.tmp 4] Tryz.func30 af_ (fun bP az bW=> ?_)
 refine ws _ ?_
 refine aU az (fun fl cA bD aD=> ?_)
 refine ws _ ?_
 refine a_ h (fun cq h=> ?_) (fun cq h=> ?_)
 ·refine ws _ ?_
  exact aJ (bD _ (.inl (aK [.bool false])))
 ·refine a6 (cA _ (.inl ?_))
  refine aU az (fun fv dS du cu=> ?_)
  refine ws _ ?_
  refine cg du (fun hK fw gZ cm dz=> ?_)
  have hL:∀(n:Nat) (b_:Int),zq a0 ab n b_=some r→ei aN Jg hK (R [(0,.slice (a0.map bs)),(1,.slice (ab.map bs)),(5,.int .i64 b_)]):=by
   intro m14
   induction m14 with
   |zero=>intro b_ h;cases(show none=some r from h)
   |succ m14 gE=>
    intro b_ h
    replace h:H6 (zq a0 ab m14) a0 ab b_=some r:=h
    refine eI gZ (fun hB eK ee dU=> ?_)
    refine aU ee (fun fY c6 dk dN=> ?_)
    refine ws _ ?_
    refine a_ h (fun dm h=> ?_) (fun dm h=> ?_)
    ·refine a6 (c6 _ (.inl ?_))
     refine aU ee (fun mT i_ jn kY=> ?_)
     refine cg jn (fun i1 eY eZ fJ i6=> ?_)
     obtain⟨ar,dn,h⟩:=aM h
     obtain⟨aD,ep,h⟩:=aM h
     obtain⟨a7,eB,h⟩:=aM h
     refine fm rfl (fo [(0,.slice (a0.map bs)),(1,.slice (ab.map bs)),(5,.int .i64 b_),(26,.bool (!a7))] (fun P al=> ?_) ?_)
     ·simp only[b3.down,simprocAttr,gj.down,dn,ep]
      refine fD (ajq ar aD _ eB) rfl rfl rfl rfl (.inl (by rfl)) ?_
      simp only[b3.down,simprocAttr,gj.down,dn,ep]
      refine⟨fb (by kernel_rfl),?_⟩
      (try simp only[bn.down,simprocAttr,bs,dn,ep]at al⊢);exact al
     refine a_ h (fun iN h=> ?_) (fun iN h=> ?_)
     ·refine ws _ ?_
      exact aJ (eZ _ (.inl (aK [.bool false])))
     ·refine a6 (eY _ (i_ _ (.inl ?_)))
      refine wr _ ?_
      exact eK _ (.inr ⟨_,bJ rfl,gE (IntKind.i64.wrap (b_+1)) h⟩)
    ·refine eG (dN 0 _ (dU 0 _ (cm _ (dS _ (.inl ?_)))))
     refine ws _ ?_
     exact aJ (az _ (.inl (aK [.bool true])))
  obtain⟨n,h⟩:=eD h
  exact eH (.inr ⟨_,bJ rfl,hL n 0 h⟩)
theorem J0 (a0:dM) (ab:dM) (r:Bool) (h:tI a0 ab=some r):bh aN 11 [ew a0,ew ab] (.bool r) []:=by
 refine b0 [0,1] [.tmp 4] Tryz.func11 ix (fun bP az bW=> ?_)
 refine ws _ ?_
 refine aU az (fun fl cA bD aD=> ?_)
 refine ws _ ?_
 refine a_ h (fun cq h=> ?_) (fun cq h=> ?_)
 ·refine ws _ ?_
  exact aJ (bD _ (.inl (aK [.bool false])))
 ·refine a6 (cA _ (.inl ?_))
  refine aU az (fun fv dS du cu=> ?_)
  refine ws _ ?_
  refine a_ h (fun cm h=> ?_) (fun cm h=> ?_)
  ·refine ws _ ?_
   exact aJ (du _ (.inl (aK [.bool false])))
  ·refine a6 (dS _ (.inl ?_))
   refine aU az (fun fY c6 dk dN=> ?_)
   refine ws _ ?_
   refine a_ h (fun dm h=> ?_) (fun dm h=> ?_)
   ·refine ws _ ?_
    exact aJ (dk _ (.inl (aK [.bool false])))
   ·refine a6 (c6 _ (.inl ?_))
    refine aU az (fun i1 eY eZ i6=> ?_)
    obtain⟨ar,dn,h⟩:=aM h
    refine dH (ajp a0.gz ab.gz _ dn) _ ?_
    refine a_ h (fun mu h=> ?_) (fun mu h=> ?_)
    ·refine ws _ ?_
     exact aJ (eZ _ (.inl (aK [.bool false])))
    ·refine a6 (eY _ (.inl ?_))
     refine aU az (fun zJ oi pJ tO=> ?_)
     obtain⟨aD,hN,h⟩:=aM h
     refine dH (ajr a0.Formula ab.Formula _ hN) _ ?_
     refine a_ h (fun wF h=> ?_) (fun wF h=> ?_)
     ·refine ws _ ?_
      exact aJ (pJ _ (.inl (aK [.bool false])))
     ·refine a6 (oi _ (.inl ?_))
      refine ws _ ?_
      exact aJ (az _ (.inl (aK [.bool true])))
theorem ajs (a0:List dM) (ab:List dM) (r:Bool) (h:zt a0 ab=some r):bh aN 28 [.slice (a0.map ew),.slice (ab.map ew)] (.bool r) []:=by
 refine b0 [0,1] [.tmp 4] Tryz.func28 lX (fun bP az bW=> ?_)
 refine ws _ ?_
 refine aU az (fun fl cA bD aD=> ?_)
 refine ws _ ?_
 refine a_ h (fun cq h=> ?_) (fun cq h=> ?_)
 ·refine ws _ ?_
  exact aJ (bD _ (.inl (aK [.bool false])))
 ·refine a6 (cA _ (.inl ?_))
  refine aU az (fun fv dS du cu=> ?_)
  refine ws _ ?_
  refine cg du (fun hK fw gZ cm dz=> ?_)
  have hL:∀(n:Nat) (b_:Int),zs a0 ab n b_=some r→ei aN Jh hK (R [(0,.slice (a0.map ew)),(1,.slice (ab.map ew)),(5,.int .i64 b_)]):=by
   intro m14
   induction m14 with
   |zero=>intro b_ h;cases(show none=some r from h)
   |succ m14 gE=>
    intro b_ h
    replace h:H7 (zs a0 ab m14) a0 ab b_=some r:=h
    refine eI gZ (fun hB eK ee dU=> ?_)
    refine aU ee (fun fY c6 dk dN=> ?_)
    refine ws _ ?_
    refine a_ h (fun dm h=> ?_) (fun dm h=> ?_)
    ·refine a6 (c6 _ (.inl ?_))
     refine aU ee (fun mT i_ jn kY=> ?_)
     refine cg jn (fun i1 eY eZ fJ i6=> ?_)
     obtain⟨ar,dn,h⟩:=aM h
     obtain⟨aD,ep,h⟩:=aM h
     obtain⟨a7,eB,h⟩:=aM h
     refine fm rfl (fo [(0,.slice (a0.map ew)),(1,.slice (ab.map ew)),(5,.int .i64 b_),(26,.bool (!a7))] (fun P al=> ?_) ?_)
     ·simp only[b3.down,simprocAttr,eJ,kW,fq,kX,py,lS,ob,ie,lo,bB,ew,bs,di,dn,ep]
      refine fD (J0 ar aD _ eB) rfl rfl rfl rfl (.inl (by rfl)) ?_
      simp only[b3.down,simprocAttr,eJ,kW,fq,kX,py,lS,ob,ie,lo,bB,ew,bs,di,dn,ep]
      refine⟨fb (by kernel_rfl),?_⟩
      (try simp only[bn.down,simprocAttr,pI.down,dn,ep]at al⊢);exact al
     refine a_ h (fun iN h=> ?_) (fun iN h=> ?_)
     ·refine ws _ ?_
      exact aJ (eZ _ (.inl (aK [.bool false])))
     ·refine a6 (eY _ (i_ _ (.inl ?_)))
      refine wr _ ?_
      exact eK _ (.inr ⟨_,bJ rfl,gE (IntKind.i64.wrap (b_+1)) h⟩)
    ·refine eG (dN 0 _ (dU 0 _ (cm _ (dS _ (.inl ?_)))))
     refine ws _ ?_
     exact aJ (az _ (.inl (aK [.bool true])))
  obtain⟨n,h⟩:=eD h
  exact eH (.inr ⟨_,bJ rfl,hL n 0 h⟩)
theorem ajt (a0:gx) (ab:gx) (r:Bool) (h:zu a0 ab=some r):bh aN 10 [iv a0,iv ab] (.bool r) []:=by
 refine b0 [0,1] [.tmp 4] Tryz.func10 rU (fun bP az bW=> ?_)
 refine ws _ ?_
 refine aU az (fun fl cA bD aD=> ?_)
 obtain⟨ar,bQ,h⟩:=aM h
 refine dH (JZ a0.Names ab.Names _ bQ) _ ?_
 refine a_ h (fun cr h=> ?_) (fun cr h=> ?_)
 ·refine ws _ ?_
  exact aJ (bD _ (.inl (aK [.bool false])))
 ·refine a6 (cA _ (.inl ?_))
  refine aU az (fun kl gk e3 da=> ?_)
  obtain⟨aD,h7,h⟩:=aM h
  refine dH (ajn a0.dB ab.dB _ h7) _ ?_
  refine a_ h (fun e7 h=> ?_) (fun e7 h=> ?_)
  ·refine ws _ ?_
   exact aJ (e3 _ (.inl (aK [.bool false])))
  ·refine a6 (gk _ (.inl ?_))
   refine aU az (fun mS iO lZ jj=> ?_)
   obtain⟨a7,gy,h⟩:=aM h
   refine dH (ajs a0.ji ab.ji _ gy) _ ?_
   refine a_ h (fun jF h=> ?_) (fun jF h=> ?_)
   ·refine ws _ ?_
    exact aJ (lZ _ (.inl (aK [.bool false])))
   ·refine a6 (iO _ (.inl ?_))
    refine ws _ ?_
    exact aJ (az _ (.inl (aK [.bool true])))
theorem aju (a0:ky) (ab:gQ) (r:Bool) (h:C2 a0 ab=some r):bh aN 3 [mr a0,e_ ab] (.bool r) []:=by
 refine b0 [0,1] [.tmp 4] Tryz.func3 dL (fun bP az bW=> ?_)
 refine ws _ ?_
 refine ws _ ?_
 obtain⟨ar,bQ,h⟩:=aM h
 refine dH (ahD a0 1048576 _ bQ) _ ?_
 refine aU az (fun kD gl fF c1=> ?_)
 refine ws _ ?_
 refine a_ h (fun kb h=> ?_) (fun kb h=> ?_)
 ·refine ws _ ?_
  exact aJ (fF _ (.inl (aK [.bool true])))
 ·refine a6 (gl _ (.inl ?_))
  obtain⟨aD,iQ,h⟩:=aM h
  refine dH (Jp ab ar _ iQ) _ ?_
  refine aU az (fun jk eS ft fW=> ?_)
  refine ws _ ?_
  refine a_ h (fun gR h=> ?_) (fun gR h=> ?_)
  ·refine ws _ ?_
   exact aJ (ft _ (.inl (aK [.bool true])))
  ·refine a6 (eS _ (.inl ?_))
   obtain⟨a7,dn,h⟩:=aM h
   obtain⟨bo,ep,h⟩:=aM h
   obtain⟨c1,eB,h⟩:=aM h
   refine fm rfl (fo [(2,.bM (mr a0)),(3,.bM (e_ ab)),(6,.bool c1)] (fun P al=> ?_) ?_)
   ·simp only[b3.down,simprocAttr,wq.down]
    refine fD (De a0 _ dn) rfl rfl rfl rfl (.inl (by rfl)) ?_
    simp only[b3.down,simprocAttr,wq.down]
    refine fD (zI ab _ ep) rfl rfl rfl rfl (.inl (by rfl)) ?_
    simp only[b3.down,simprocAttr,wq.down]
    refine fD (aiv a7 bo _ eB) rfl rfl (by simp only[b3.down,simprocAttr,wq.down,nu,nv,nw,eV, @c_ _ a1 a1 (fun _=>k1 _), @c_ _ hj dQ (fun _=>tJ _), @c_ _ gC ew (fun _=>tL _), @c_ _ gI di (fun _=>tK _), @c_ _ bs bs (fun _=>pG _)]<;>rfl) rfl (.inr (by rfl)) ?_
    simp only[b3.down,simprocAttr,wq.down]
    refine⟨fb (by kernel_rfl),?_⟩
    (try simp only[bn.down,simprocAttr,Dc.down]at al⊢);exact al
   obtain⟨cu,j5,h⟩:=aM h
   refine dH (De a0 _ j5) _ ?_
   obtain⟨da,g_,h⟩:=aM h
   refine dH (zI ab _ g_) _ ?_
   obtain⟨dz,j6,h⟩:=aM h
   refine cP (cv [(2,.bM (mr a0)),(3,.bM (e_ ab)),(6,.bool c1),(7,.bM (nD cu)),(8,.bM (gC da)),(9,.bool dz)] (fun P al=> ?_) ?_)
   ·simp only[aZ.down,simprocAttr,Dd.down]
    refine ev (ajj cu da _ j6) rfl rfl (by simp only[aZ.down,simprocAttr,Dd.down,nu,nv,nw,eV, @c_ _ a1 a1 (fun _=>k1 _), @c_ _ hj dQ (fun _=>tJ _), @c_ _ gC ew (fun _=>tL _), @c_ _ gI di (fun _=>tK _), @c_ _ bs bs (fun _=>pG _)]<;>rfl) rfl (.inr (by rfl)) ?_
    simp only[aZ.down,simprocAttr,Dd.down]
    (try simp only[bn.down,simprocAttr,Dc.down]at al⊢);exact al
   refine aU az (fun Jz wA qG Dz=> ?_)
   refine ws _ ?_
   refine a_ h (fun nG h=> ?_) (fun nG h=> ?_)
   ·refine ws _ ?_
    exact aJ (qG _ (.inl (aK [.bool false])))
   ·refine a6 (wA _ (.inl ?_))
    refine aU az (fun JB wB zN DC=> ?_)
    obtain⟨dU,tX,h⟩:=aM h
    obtain⟨dN,tT,h⟩:=aM h
    refine fm rfl (fo [(3,.bM (e_ ab)),(8,.bM (gC da)),(39,.bool (!dN))] (fun P al=> ?_) ?_)
    ·simp only[b3.down,simprocAttr,zF.down]
     refine fD (De a0 _ tX) rfl rfl rfl rfl (.inl (by rfl)) ?_
     simp only[b3.down,simprocAttr,zF.down]
     refine fD (ajt cu dU _ tT) rfl rfl (by simp only[b3.down,simprocAttr,zF.down,nu,nv,nw,eV, @c_ _ a1 a1 (fun _=>k1 _), @c_ _ hj dQ (fun _=>tJ _), @c_ _ gC ew (fun _=>tL _), @c_ _ a1 a1 (fun _=>k1 _), @c_ _ hj dQ (fun _=>tJ _), @c_ _ gC ew (fun _=>tL _)]<;>rfl) rfl (.inr (by rfl)) ?_
     simp only[b3.down,simprocAttr,zF.down]
     refine⟨fb (by kernel_rfl),?_⟩
     (try simp only[bn.down,simprocAttr,Dc.down]at al⊢);exact al
    refine a_ h (fun DM h=> ?_) (fun DM h=> ?_)
    ·refine ws _ ?_
     exact aJ (zN _ (.inl (aK [.bool false])))
    ·refine a6 (wB _ (.inl ?_))
     refine aU az (fun am4 ajv ajw am5=> ?_)
     obtain⟨fW,ajx,h⟩:=aM h
     obtain⟨jj,qI,h⟩:=aM h
     refine fm rfl (fo [(44,.bool (!jj))] (fun P al=> ?_) ?_)
     ·simp only[b3.down,simprocAttr,zG.down]
      refine fD (zI ab _ ajx) rfl rfl rfl rfl (.inl (by rfl)) ?_
      simp only[b3.down,simprocAttr,zG.down]
      refine fD (J0 da fW _ qI) rfl rfl (by simp only[b3.down,simprocAttr,zG.down,nu,nv,nw,eV, @c_ _ gI di (fun _=>tK _), @c_ _ bs bs (fun _=>pG _), @c_ _ gI di (fun _=>tK _), @c_ _ bs bs (fun _=>pG _)]<;>rfl) rfl (.inr (by rfl)) ?_
      simp only[b3.down,simprocAttr,zG.down]
      refine⟨fb (by kernel_rfl),?_⟩
      (try simp only[bn.down,simprocAttr,bB,bs,e_,eX,di,gC,gI]at al⊢);exact al
     refine a_ h (fun wC h=> ?_) (fun wC h=> ?_)
     ·refine ws _ ?_
      exact aJ (ajw _ (.inl (aK [.bool false])))
     ·refine a6 (ajv _ (.inl ?_))
      refine ws _ ?_
      exact aJ (az _ (.inl (aK [.bool true])))
end Go.Proofs.YtocllehpepigpaaGreatDoor
