/- Part of a proof that a law returns true for every input. No condition. -/
import Derived.Test.YtlkabaochkgkdaaGreatDoorSl
namespace Go.Proofs.YtlkabaochkgkdaaGreatDoor
open Go Go.c_ Go.eU
set_option maxRecDepth 100000
set_option maxHeartbeats 4600000
set_option linter.unusedSimpArgs false
set_option linter.unusedVariables false
theorem bQ (fx:List Nat) (fM:List ResultVar) {f:FuncId} {fn:Func} {c:Code} {dT:J} {ins outs:List I} {r:I} (bw:aF.P.funcs[f]? =some fn) (ae:bq ⟨fn.ntmps,fx⟩ c=some dT.strip)
 (Ic:∀Q:Exit->ar->Prop,(∀s,eK (c_.Ends aF fx fM r outs) s->Q .ret s)->(∀s,eK (c_.Ends aF fx fM r outs) s->Q .normal s)->dc aF dT Q (ab (num 0 ins))) (ad:fn.body=some c:=by rfl) (kP:(fn.name== "runtime.NumGoroutine")=false:=by rfl) (a7:ins.length<=fn.ntmps:=by exact Nat.le_of_ble_eq_true rfl) (hc:fn.results.toList=fM:=by rfl) (au:dT.plain=true:=by kernel_rfl):bk aF f ins r outs:=
 bk.I8 Jb fM (num 0 ins) bw ad kP ae a7 hc rfl Ic au
def lp:=PLift.up (And.intro @el (And.intro @s9 (And.intro @eL (And.intro @xp (And.intro @xq (And.intro @xr (And.intro @n0 (And.intro @Jc (And.intro @CZ (And.intro @jd (And.intro @oz (And.intro @pc (And.intro @qT (And.intro @xt (And.intro @s_ (And.intro @C0 (And.intro @qU (And.intro @rS (And.intro @xu (And.intro @xv (And.intro @xw (And.intro @kQ (And.intro @mK (And.intro @oA (And.intro @n1 (And.intro @hK (And.intro @je (And.intro @pd (And.intro @rT (And.intro @gW (And.intro @zK (And.intro @ta (And.intro @gJ (And.intro @nk (And.intro @nm (And.intro @a1.eq_1 (And.intro @fN.eq_1 (And.intro @bP.eq_1 (And.intro @cr.eq_1 (And.intro @bC.eq_1 (And.intro @cX.eq_1 (And.intro @iI.eq_1 (And.intro @cn.eq_1 (And.intro @en.eq_1 (And.intro @gZ.eq_1 (And.intro @gY.eq_1 (And.intro @gK.eq_1 (And.intro @gS.eq_1 (And.intro @gA.eq_1 (And.intro @j8.eq_1 (And.intro @fZ.eq_1 (And.intro @fj.eq_1 (And.intro @gl.eq_1 (And.intro @bd.eq_1 (And.intro @fk.eq_1 (And.intro @e8.eq_1 (And.intro @fw.eq_1 (And.intro @nx.eq_1 @fF.eq_1))))))))))))))))))))))))))))))))))))))))))))))))))))))))))
theorem ws {Q:Exit->ar->Prop} {l:List (Nat×I)} {ros:List cb} {k:List Nat} {b:J} (eO:List (Nat×I)) (ay:dc aF b Q (ab eO)) (h:∀P:List (Nat×I)->Prop,P eO->cP aF (ab l) ros none (λ_ s=>P (jS k s)):=by
 intro P ai;simp only[aM.down,simprocAttr,lp.down];(try simp only[bf.down,simprocAttr,lp.down]at ai⊢);exact ai):dc aF (.seq (.bW ros (some k)) b) Q (ab l):=
 cd (bJ eO (h) ay)
theorem dt {Q:Exit->ar->Prop} {l:List (Nat×I)} {ros:List cb} {k:List Nat} {b:J} {g:FuncId} {ds:List I} {r:I} (ok:bk aF g ds r []) (eO:List (Nat×I)) (ay:dc aF b Q (ab eO)) (h:bk aF g ds r []->∀P:List (Nat×I)->Prop,P eO->cP aF (ab l) ros none (λ_ s=>P (jS k s)):=by
 intro vw P ai;(try simp only[aM.down,simprocAttr,lp.down]);refine ez vw rfl rfl rfl rfl (.inl (by rfl)) ?_;simp only[aM.down,simprocAttr,lp.down];(try simp only[bf.down,simprocAttr,lp.down]at ai⊢);exact ai):dc aF (.seq (.bW ros (some k)) b) Q (ab l):=
 cd (bJ eO (h ok) ay)
theorem gv {F:Prop} (bL:F) {Q:Exit->ar->Prop} {l:List (Nat×I)} {ros:List cb} {k:List Nat} {b:J} (eO:List (Nat×I)) (ay:dc aF b Q (ab eO)) (h:F->∀P:List (Nat×I)->Prop,P eO->cP aF (ab l) ros none (λ_ s=>P (jS k s)):=by
 intro bL P ai;simp only[aM.down,simprocAttr,lp.down,bL];(try simp only[bf.down,simprocAttr,lp.down,bL]at ai⊢);exact ai):dc aF (.seq (.bW ros (some k)) b) Q (ab l):=
 cd (bJ eO (h bL) ay)
theorem gT {F:Prop} (bL:F) {Q:Exit->ar->Prop} {l:List (Nat×I)} {ros:List cb} {k:List Nat} {b:J} {g:FuncId} {ds:List I} {r:I} (ok:bk aF g ds r []) (eO:List (Nat×I)) (ay:dc aF b Q (ab eO)) (h:bk aF g ds r []->F->∀P:List (Nat×I)->Prop,P eO->cP aF (ab l) ros none (λ_ s=>P (jS k s)):=by
 intro vw bL P ai;(try simp only[aM.down,simprocAttr,lp.down,bL]);refine ez vw rfl rfl rfl rfl (.inl (by rfl)) ?_;simp only[aM.down,simprocAttr,lp.down,bL];(try simp only[bf.down,simprocAttr,lp.down,bL]at ai⊢);exact ai):dc aF (.seq (.bW ros (some k)) b) Q (ab l):=
 cd (bJ eO (h ok bL) ay)
theorem wr {Q:Exit->ar->Prop} {l:List (Nat×I)} {ros:List cb} {k:List Nat} (eO:List (Nat×I)) (ay:Q .normal (ab eO)) (h:∀P:List (Nat×I)->Prop,P eO->cP aF (ab l) ros none (λ_ s=>P (jS k s)):=by
 intro P ai;simp only[aM.down,simprocAttr,lp.down];(try simp only[bf.down,simprocAttr,lp.down]at ai⊢);exact ai):dc aF (.bW ros (some k)) Q (ab l):=
 ku (bJ eO (h) ay)
theorem Rh {Q:Exit->ar->Prop} {l:List (Nat×I)} {ros:List cb} {k:List Nat} {g:FuncId} {ds:List I} {r:I} (ok:bk aF g ds r []) (eO:List (Nat×I)) (ay:Q .normal (ab eO)) (h:bk aF g ds r []->∀P:List (Nat×I)->Prop,P eO->cP aF (ab l) ros none (λ_ s=>P (jS k s)):=by
 intro vw P ai;(try simp only[aM.down,simprocAttr,lp.down]);refine ez vw rfl rfl rfl rfl (.inl (by rfl)) ?_;simp only[aM.down,simprocAttr,lp.down];(try simp only[bf.down,simprocAttr,lp.down]at ai⊢);exact ai):dc aF (.bW ros (some k)) Q (ab l):=
 ku (bJ eO (h ok) ay)
theorem FK {F:Prop} (bL:F) {Q:Exit->ar->Prop} {l:List (Nat×I)} {ros:List cb} {k:List Nat} (eO:List (Nat×I)) (ay:Q .normal (ab eO)) (h:F->∀P:List (Nat×I)->Prop,P eO->cP aF (ab l) ros none (λ_ s=>P (jS k s)):=by
 intro bL P ai;simp only[aM.down,simprocAttr,lp.down,bL];(try simp only[bf.down,simprocAttr,lp.down,bL]at ai⊢);exact ai):dc aF (.bW ros (some k)) Q (ab l):=
 ku (bJ eO (h bL) ay)
theorem JW {F:Prop} (bL:F) {Q:Exit->ar->Prop} {l:List (Nat×I)} {ros:List cb} {k:List Nat} {g:FuncId} {ds:List I} {r:I} (ok:bk aF g ds r []) (eO:List (Nat×I)) (ay:Q .normal (ab eO)) (h:bk aF g ds r []->F->∀P:List (Nat×I)->Prop,P eO->cP aF (ab l) ros none (λ_ s=>P (jS k s)):=by
 intro vw bL P ai;(try simp only[aM.down,simprocAttr,lp.down,bL]);refine ez vw rfl rfl rfl rfl (.inl (by rfl)) ?_;simp only[aM.down,simprocAttr,lp.down,bL];(try simp only[bf.down,simprocAttr,lp.down,bL]at ai⊢);exact ai):dc aF (.bW ros (some k)) Q (ab l):=
 ku (bJ eO (h ok bL) ay)
def hP:=PLift.up (And.intro @eL (And.intro @qT (And.intro @n1 @bC.eq_1)))
def iJ:=PLift.up (And.intro @bP.eq_1 (And.intro @cX.eq_1 (And.intro @cn.eq_1 @fj.eq_1)))
def jN:=PLift.up (And.intro @el (And.intro @eL (And.intro @oz (And.intro @kQ (And.intro @mK (And.intro @hK (And.intro @je (And.intro @gW (And.intro @gJ (And.intro @bP.eq_1 (And.intro @cX.eq_1 (And.intro @cn.eq_1 @fj.eq_1))))))))))))
def j9:=PLift.up (And.intro @el (And.intro @eL (And.intro @qU @cr.eq_1)))
def lq:=PLift.up (And.intro @el (And.intro @eL (And.intro @n0 (And.intro @jd (And.intro @oz (And.intro @pc (And.intro @qT (And.intro @xt (And.intro @kQ (And.intro @mK (And.intro @oA (And.intro @n1 (And.intro @hK (And.intro @je (And.intro @gW (And.intro @gJ (And.intro @a1.eq_1 (And.intro @bC.eq_1 (And.intro @cn.eq_1 (And.intro @bd.eq_1 (And.intro @fk.eq_1 (And.intro @e8.eq_1 (And.intro @fw.eq_1 @fF.eq_1)))))))))))))))))))))))
def l5:=PLift.up (And.intro @a1.eq_1 (And.intro @cr.eq_1 (And.intro @bC.eq_1 (And.intro @cn.eq_1 (And.intro @gZ.eq_1 (And.intro @gY.eq_1 (And.intro @gK.eq_1 (And.intro @gS.eq_1 (And.intro @gA.eq_1 (And.intro @j8.eq_1 (And.intro @fZ.eq_1 (And.intro @gl.eq_1 (And.intro @bd.eq_1 (And.intro @fk.eq_1 (And.intro @e8.eq_1 (And.intro @fw.eq_1 (And.intro @nx.eq_1 @fF.eq_1)))))))))))))))))
def mQ:=PLift.up (And.intro @a1.eq_1 (And.intro @gZ.eq_1 (And.intro @gY.eq_1 (And.intro @gK.eq_1 (And.intro @gS.eq_1 (And.intro @gA.eq_1 (And.intro @j8.eq_1 (And.intro @fZ.eq_1 (And.intro @gl.eq_1 @bd.eq_1)))))))))
def n5:=PLift.up (And.intro @eL (And.intro @n0 @bd.eq_1))
def n6:=PLift.up (And.intro @cX.eq_1 (And.intro @cn.eq_1 @fj.eq_1))
def oK:=PLift.up (And.intro @el (And.intro @gW (And.intro @gJ @cn.eq_1)))
def oL:=PLift.up (And.intro @eL (And.intro @n1 @bC.eq_1))
def oM:=PLift.up (And.intro @bP.eq_1 (And.intro @cX.eq_1 (And.intro @cn.eq_1 (And.intro @en.eq_1 @fj.eq_1))))
def pv:=PLift.up (And.intro @el (And.intro @eL (And.intro @hK (And.intro @je (And.intro @gW (And.intro @gJ (And.intro @cX.eq_1 (And.intro @cn.eq_1 @fj.eq_1))))))))
def pw:=PLift.up (And.intro @a1.eq_1 @cr.eq_1)
def qi:=PLift.up (And.intro @el (And.intro @eL (And.intro @n0 (And.intro @jd (And.intro @oz (And.intro @pc (And.intro @qT (And.intro @xt (And.intro @kQ (And.intro @mK (And.intro @oA (And.intro @n1 (And.intro @hK (And.intro @je (And.intro @gW (And.intro @gJ (And.intro @a1.eq_1 (And.intro @fN.eq_1 (And.intro @bP.eq_1 (And.intro @bC.eq_1 (And.intro @cX.eq_1 (And.intro @iI.eq_1 (And.intro @cn.eq_1 (And.intro @fj.eq_1 @bd.eq_1))))))))))))))))))))))))
def q1:=PLift.up (And.intro @el (And.intro @eL (And.intro @kQ (And.intro @mK (And.intro @hK (And.intro @je (And.intro @gW (And.intro @gJ (And.intro @bP.eq_1 (And.intro @cX.eq_1 (And.intro @cn.eq_1 @fj.eq_1)))))))))))
def q2:=PLift.up (And.intro @el (And.intro @eL (And.intro @oz (And.intro @kQ (And.intro @mK (And.intro @hK (And.intro @je (And.intro @gW (And.intro @gJ (And.intro @bP.eq_1 (And.intro @cX.eq_1 (And.intro @cn.eq_1 (And.intro @en.eq_1 @fj.eq_1)))))))))))))
def q3:=PLift.up (And.intro @el (And.intro @eL (And.intro @xp (And.intro @xq (And.intro @xr (And.intro @n0 (And.intro @Jc (And.intro @jd (And.intro @rS (And.intro @xu (And.intro @xv (And.intro @xw (And.intro @pd (And.intro @rT (And.intro @nk (And.intro @nm (And.intro @a1.eq_1 (And.intro @cr.eq_1 (And.intro @bC.eq_1 (And.intro @cn.eq_1 (And.intro @gZ.eq_1 (And.intro @gY.eq_1 (And.intro @gK.eq_1 (And.intro @gS.eq_1 (And.intro @gA.eq_1 (And.intro @j8.eq_1 (And.intro @fZ.eq_1 (And.intro @gl.eq_1 (And.intro @bd.eq_1 (And.intro @fk.eq_1 (And.intro @e8.eq_1 (And.intro @fw.eq_1 (And.intro @nx.eq_1 @fF.eq_1)))))))))))))))))))))))))))))))))
def r7:=PLift.up (And.intro @el (And.intro @eL (And.intro @s_ (And.intro @qU @cr.eq_1))))
def vx:=PLift.up (And.intro @el (And.intro @eL (And.intro @jd (And.intro @oz (And.intro @kQ (And.intro @mK (And.intro @oA (And.intro @hK (And.intro @je (And.intro @gW (And.intro @gJ (And.intro @a1.eq_1 (And.intro @fN.eq_1 (And.intro @bP.eq_1 (And.intro @cX.eq_1 (And.intro @cn.eq_1 @fj.eq_1))))))))))))))))
def vy:=PLift.up (And.intro @el (And.intro @eL (And.intro @kQ (And.intro @hK (And.intro @je (And.intro @gW (And.intro @gJ (And.intro @cn.eq_1 (And.intro @fw.eq_1 @fF.eq_1)))))))))
def x4:=PLift.up (And.intro @a1.eq_1 (And.intro @fN.eq_1 (And.intro @bP.eq_1 (And.intro @bC.eq_1 (And.intro @cX.eq_1 (And.intro @iI.eq_1 (And.intro @cn.eq_1 (And.intro @fj.eq_1 @bd.eq_1))))))))
def x5:=PLift.up (And.intro @el (And.intro @eL (And.intro @qU (And.intro @a1.eq_1 @cr.eq_1))))
def x6:=PLift.up (And.intro @el (And.intro @eL (And.intro @oz (And.intro @kQ (And.intro @mK (And.intro @hK (And.intro @je (And.intro @gW (And.intro @gJ (And.intro @cn.eq_1 (And.intro @e8.eq_1 (And.intro @fw.eq_1 @fF.eq_1))))))))))))
def x7:=PLift.up (And.intro @a1.eq_1 (And.intro @bC.eq_1 (And.intro @cn.eq_1 (And.intro @bd.eq_1 (And.intro @fk.eq_1 (And.intro @e8.eq_1 (And.intro @fw.eq_1 @fF.eq_1)))))))
def x8:=PLift.up (And.intro @el (And.intro @eL (And.intro @n0 (And.intro @jd (And.intro @oz (And.intro @pc (And.intro @qT (And.intro @xt (And.intro @kQ (And.intro @mK (And.intro @oA (And.intro @n1 (And.intro @hK (And.intro @je (And.intro @gW (And.intro @gJ (And.intro @a1.eq_1 (And.intro @cr.eq_1 (And.intro @bC.eq_1 (And.intro @cn.eq_1 (And.intro @gZ.eq_1 (And.intro @gY.eq_1 (And.intro @gK.eq_1 (And.intro @gS.eq_1 (And.intro @gA.eq_1 (And.intro @j8.eq_1 (And.intro @fZ.eq_1 (And.intro @gl.eq_1 (And.intro @bd.eq_1 (And.intro @fk.eq_1 (And.intro @e8.eq_1 (And.intro @fw.eq_1 (And.intro @nx.eq_1 @fF.eq_1)))))))))))))))))))))))))))))))))
def Bd:=PLift.up (And.intro @el (And.intro @eL (And.intro @hK (And.intro @je (And.intro @gW (And.intro @gJ (And.intro @bP.eq_1 (And.intro @cX.eq_1 (And.intro @cn.eq_1 @fj.eq_1)))))))))
def Be:=PLift.up (And.intro @cX.eq_1 (And.intro @cn.eq_1 (And.intro @en.eq_1 @fj.eq_1)))
def FL:=PLift.up (And.intro @el (And.intro @eL (And.intro @kQ (And.intro @hK (And.intro @je (And.intro @gW (And.intro @gJ (And.intro @cX.eq_1 (And.intro @cn.eq_1 @fj.eq_1)))))))))
def FM:=PLift.up (And.intro @a1.eq_1 (And.intro @fN.eq_1 (And.intro @bP.eq_1 (And.intro @cr.eq_1 (And.intro @bC.eq_1 (And.intro @cX.eq_1 (And.intro @iI.eq_1 (And.intro @cn.eq_1 (And.intro @fj.eq_1 @bd.eq_1)))))))))
def FN:=PLift.up (And.intro @el (And.intro @eL (And.intro @s_ (And.intro @qU (And.intro @a1.eq_1 @cr.eq_1)))))
def FO:=PLift.up (And.intro @el (And.intro @s9 (And.intro @eL (And.intro @hK (And.intro @je (And.intro @gW (And.intro @ta (And.intro @gJ (And.intro @cX.eq_1 (And.intro @cn.eq_1 (And.intro @en.eq_1 @fj.eq_1)))))))))))
def FP:=PLift.up (And.intro @el (And.intro @eL (And.intro @hK (And.intro @je (And.intro @gW (And.intro @gJ (And.intro @bP.eq_1 (And.intro @cX.eq_1 (And.intro @cn.eq_1 (And.intro @en.eq_1 @fj.eq_1))))))))))
def FQ:=PLift.up (And.intro @cn.eq_1 (And.intro @fw.eq_1 @fF.eq_1))
def FR:=PLift.up (And.intro @el (And.intro @jd (And.intro @pc (And.intro @oA (And.intro @a1.eq_1 @fk.eq_1)))))
def FT:=PLift.up (And.intro @el (And.intro @eL (And.intro @xp (And.intro @xq (And.intro @xr (And.intro @n0 (And.intro @Jc (And.intro @jd (And.intro @oz (And.intro @pc (And.intro @qT (And.intro @xt (And.intro @rS (And.intro @xu (And.intro @xv (And.intro @xw (And.intro @kQ (And.intro @mK (And.intro @oA (And.intro @n1 (And.intro @hK (And.intro @je (And.intro @pd (And.intro @rT (And.intro @gW (And.intro @gJ (And.intro @nk (And.intro @nm (And.intro @a1.eq_1 (And.intro @cr.eq_1 (And.intro @bC.eq_1 (And.intro @cn.eq_1 (And.intro @gZ.eq_1 (And.intro @gY.eq_1 (And.intro @gK.eq_1 (And.intro @gS.eq_1 (And.intro @gA.eq_1 (And.intro @j8.eq_1 (And.intro @fZ.eq_1 (And.intro @gl.eq_1 (And.intro @bd.eq_1 (And.intro @fk.eq_1 (And.intro @e8.eq_1 (And.intro @fw.eq_1 (And.intro @nx.eq_1 @fF.eq_1)))))))))))))))))))))))))))))))))))))))))))))
def FU:=PLift.up (And.intro @a1.eq_1 (And.intro @cr.eq_1 (And.intro @gZ.eq_1 (And.intro @gY.eq_1 (And.intro @gK.eq_1 (And.intro @gS.eq_1 (And.intro @gA.eq_1 (And.intro @j8.eq_1 (And.intro @fZ.eq_1 (And.intro @gl.eq_1 @bd.eq_1))))))))))
def JX:=PLift.up (And.intro @el (And.intro @s9 (And.intro @ta (And.intro @O0 (And.intro @bP.eq_1 (And.intro @cX.eq_1 (And.intro @cn.eq_1 (And.intro @en.eq_1 @fj.eq_1))))))))
def JY:=PLift.up (And.intro @el (And.intro @s9 (And.intro @eL (And.intro @kQ (And.intro @mK (And.intro @hK (And.intro @je (And.intro @gW (And.intro @ta (And.intro @gJ (And.intro @O0 (And.intro @bP.eq_1 (And.intro @cX.eq_1 (And.intro @cn.eq_1 (And.intro @en.eq_1 @fj.eq_1)))))))))))))))
def JZ:=PLift.up (And.intro @el (And.intro @eL (And.intro @hK (And.intro @je (And.intro @gW (And.intro @gJ (And.intro @cX.eq_1 (And.intro @cn.eq_1 (And.intro @en.eq_1 @fj.eq_1)))))))))
def J0:=PLift.up (And.intro @a1.eq_1 (And.intro @fN.eq_1 (And.intro @bP.eq_1 (And.intro @cX.eq_1 (And.intro @cn.eq_1 @fj.eq_1)))))
theorem az6 (a0:List hL) (R:Int) (r:Int) (h:zQ a0 R=some r):bk aF 128 [.slice (a0.map fZ),.int .i64 R] (.int .i64 r) []:=by
 refine bQ [0] [.tmp 4] Tryz.func128 Y8 (λbI al bN=>?_);refine ws _ ?_;refine ws _ ?_;refine aH al (λj_ f_ dk aJ=>?_);refine ws _ ?_;refine aR h (λdQ h=>?_) (λdQ h=>?_)
 .refine ws _ ?_;exact aE (dk _ (.inl (aG [.int .i64 (-1)])))
 .refine aY (f_ _ (.inl ?_));refine ws _ ?_;exact aE (al _ (.inl (aG [.int .i64 (IntKind.i64.wrap (R-(a0.length:Int)))])))
theorem az7 (a0:List (List hL)) (R:Int) (r:Int) (h:C2 a0 R=some r):bk aF 100 [.slice (a0.map gl),.int .i64 R] (.int .i64 r) []:=by
 refine bQ [0] [.tmp 4] Tryz.func100 Zm (λbI al bN=>?_);refine ws _ ?_;refine ws _ ?_;refine aH al (λj_ f_ dk aJ=>?_);refine ws _ ?_;refine aR h (λdQ h=>?_) (λdQ h=>?_)
 .refine ws _ ?_;exact aE (dk _ (.inl (aG [.int .i64 (-1)])))
 .refine aY (f_ _ (.inl ?_));refine aH al (λhh dU dW cx=>?_);refine ws _ ?_;refine bB dW (λeB cQ cj hQ de=>?_);have kV:∀(n:Nat) (dq:Int) (dh:Int),C1 a0 n dq dh=some r->du aF PD eB (ab [(0,.slice (a0.map gl)),(1,.int .i64 dq),(5,.int .i64 dh)]):=by
   intro m16;induction m16 with
   |zero=>intro dq dh h;cases(show none=some r from h)
   |succ m16 kW=>
    intro dq dh h;replace h:O1 (C1 a0 m16) a0 dq dh=some r:=h;refine dK cj (λe4 cu cM df=>?_);refine aH cM (λjk fg gm fo=>?_);refine ws _ ?_;refine aR h (λga h=>?_) (λga h=>?_)
    .refine aY (fg _ (.inl ?_));refine aH cM (λiK fa eW h6=>?_);refine bB eW (λlS g_ gL eX jq=>?_);obtain⟨af,eb,h⟩:=aD h;obtain⟨ak,e5,h⟩:=aD h;refine gT eb (az6 af dq _ e5) _ ?_;refine ws _ ?_;refine aR h (λfG h=>?_) (λfG h=>?_)
     .refine ws _ ?_;exact aE (gL _ (.inl (aG [.int .i64 (-1)])))
     .refine aY (g_ _ (fa _ (.inl ?_)));refine wr _ ?_;exact cu _ (.inr ⟨_,bo rfl,kW ak (IntKind.i64.wrap (dh+1)) h⟩)
    .refine dG (fo 0 _ (df 0 _ (hQ _ (dU _ (.inl ?_)))));refine ws _ ?_;exact aE (al _ (.inl (aG [.int .i64 dq])))
  obtain⟨n,h⟩:=dC h;exact dH (.inr ⟨_,bo rfl,kV n (IntKind.i64.wrap (R-(a0.length:Int))) 0 h⟩)
theorem az8 (a0:jf) (R:Int) (r:Int) (h:zR a0 R=some r):bk aF 79 [gA a0,.int .i64 R] (.int .i64 r) []:=by
 refine bQ [0] [.tmp 4] Tryz.func79 Zx (λbI al bN=>?_);refine ws _ ?_;refine ws _ ?_;refine aH al (λj_ f_ dk aJ=>?_);refine ws _ ?_;refine aR h (λdQ h=>?_) (λdQ h=>?_)
 .refine ws _ ?_;exact aE (dk _ (.inl (aG [.int .i64 (-1)])))
 .refine aY (f_ _ (.inl ?_));obtain⟨af,h8,h⟩:=aD h;refine dt (az7 a0.cN (IntKind.i64.wrap (R-(a0.Name.length:Int))) _ h8) _ ?_;refine aH al (λeB cQ cj de=>?_);refine ws _ ?_;refine aR h (λl6 h=>?_) (λl6 h=>?_)
  .refine ws _ ?_;exact aE (cj _ (.inl (aG [.int .i64 (-1)])))
  .refine aY (cQ _ (.inl ?_));refine ws _ ?_;exact aE (al _ (.inl (aG [.int .i64 af])))
theorem az9 (a0:List jf) (R:Int) (r:Int) (h:C4 a0 R=some r):bk aF 59 [.slice (a0.map gA),.int .i64 R] (.int .i64 r) []:=by
 refine bQ [0] [.tmp 4] Tryz.func59 ZL (λbI al bN=>?_);refine ws _ ?_;refine ws _ ?_;refine aH al (λj_ f_ dk aJ=>?_);refine ws _ ?_;refine aR h (λdQ h=>?_) (λdQ h=>?_)
 .refine ws _ ?_;exact aE (dk _ (.inl (aG [.int .i64 (-1)])))
 .refine aY (f_ _ (.inl ?_));refine aH al (λhh dU dW cx=>?_);refine ws _ ?_;refine bB dW (λeB cQ cj hQ de=>?_);have kV:∀(n:Nat) (dq:Int) (dh:Int),C3 a0 n dq dh=some r->du aF PE eB (ab [(0,.slice (a0.map gA)),(1,.int .i64 dq),(5,.int .i64 dh)]):=by
   intro m16;induction m16 with
   |zero=>intro dq dh h;cases(show none=some r from h)
   |succ m16 kW=>
    intro dq dh h;replace h:O2 (C3 a0 m16) a0 dq dh=some r:=h;refine dK cj (λe4 cu cM df=>?_);refine aH cM (λjk fg gm fo=>?_);refine ws _ ?_;refine aR h (λga h=>?_) (λga h=>?_)
    .refine aY (fg _ (.inl ?_));refine aH cM (λiK fa eW h6=>?_);refine bB eW (λlS g_ gL eX jq=>?_);obtain⟨af,eb,h⟩:=aD h;obtain⟨ak,e5,h⟩:=aD h;refine gT eb (az8 af dq _ e5) _ ?_;refine ws _ ?_;refine aR h (λfG h=>?_) (λfG h=>?_)
     .refine ws _ ?_;exact aE (gL _ (.inl (aG [.int .i64 (-1)])))
     .refine aY (g_ _ (fa _ (.inl ?_)));refine wr _ ?_;exact cu _ (.inr ⟨_,bo rfl,kW ak (IntKind.i64.wrap (dh+1)) h⟩)
    .refine dG (fo 0 _ (df 0 _ (hQ _ (dU _ (.inl ?_)))));refine ws _ ?_;exact aE (al _ (.inl (aG [.int .i64 dq])))
  obtain⟨n,h⟩:=dC h;exact dH (.inr ⟨_,bo rfl,kV n (IntKind.i64.wrap (R-(a0.length:Int))) 0 h⟩)
theorem az_ (a0:jg) (R:Int) (r:Int) (h:zS a0 R=some r):bk aF 42 [gY a0,.int .i64 R] (.int .i64 r) []:=by
 refine bQ [0] [.tmp 4] Tryz.func42 ZW (λbI al bN=>?_);refine ws _ ?_;refine ws _ ?_;refine aH al (λj_ f_ dk aJ=>?_);refine ws _ ?_;refine aR h (λdQ h=>?_) (λdQ h=>?_)
 .refine ws _ ?_;exact aE (dk _ (.inl (aG [.int .i64 (-1)])))
 .refine aY (f_ _ (.inl ?_));obtain⟨af,h8,h⟩:=aD h;refine dt (az9 a0.Body (IntKind.i64.wrap (R-(a0.Name.length:Int))) _ h8) _ ?_;refine aH al (λeB cQ cj de=>?_);refine ws _ ?_;refine aR h (λl6 h=>?_) (λl6 h=>?_)
  .refine ws _ ?_;exact aE (cj _ (.inl (aG [.int .i64 (-1)])))
  .refine aY (cQ _ (.inl ?_));refine ws _ ?_;exact aE (al _ (.inl (aG [.int .i64 af])))
theorem aAa (a0:List jg) (R:Int) (r:Int) (h:C6 a0 R=some r):bk aF 17 [.slice (a0.map gY),.int .i64 R] (.int .i64 r) []:=by
 refine bQ [0] [.tmp 4] Tryz.func17 vm (λbI al bN=>?_);refine ws _ ?_;refine ws _ ?_;refine aH al (λj_ f_ dk aJ=>?_);refine ws _ ?_;refine aR h (λdQ h=>?_) (λdQ h=>?_)
 .refine ws _ ?_;exact aE (dk _ (.inl (aG [.int .i64 (-1)])))
 .refine aY (f_ _ (.inl ?_));refine aH al (λhh dU dW cx=>?_);refine ws _ ?_;refine bB dW (λeB cQ cj hQ de=>?_);have kV:∀(n:Nat) (dq:Int) (dh:Int),C5 a0 n dq dh=some r->du aF PF eB (ab [(0,.slice (a0.map gY)),(1,.int .i64 dq),(5,.int .i64 dh)]):=by
   intro m16;induction m16 with
   |zero=>intro dq dh h;cases(show none=some r from h)
   |succ m16 kW=>
    intro dq dh h;replace h:O3 (C5 a0 m16) a0 dq dh=some r:=h;refine dK cj (λe4 cu cM df=>?_);refine aH cM (λjk fg gm fo=>?_);refine ws _ ?_;refine aR h (λga h=>?_) (λga h=>?_)
    .refine aY (fg _ (.inl ?_));refine aH cM (λiK fa eW h6=>?_);refine bB eW (λlS g_ gL eX jq=>?_);obtain⟨af,eb,h⟩:=aD h;obtain⟨ak,e5,h⟩:=aD h;refine gT eb (az_ af dq _ e5) _ ?_;refine ws _ ?_;refine aR h (λfG h=>?_) (λfG h=>?_)
     .refine ws _ ?_;exact aE (gL _ (.inl (aG [.int .i64 (-1)])))
     .refine aY (g_ _ (fa _ (.inl ?_)));refine wr _ ?_;exact cu _ (.inr ⟨_,bo rfl,kW ak (IntKind.i64.wrap (dh+1)) h⟩)
    .refine dG (fo 0 _ (df 0 _ (hQ _ (dU _ (.inl ?_)))));refine ws _ ?_;exact aE (al _ (.inl (aG [.int .i64 dq])))
  obtain⟨n,h⟩:=dC h;exact dH (.inr ⟨_,bo rfl,kV n (IntKind.i64.wrap (R-(a0.length:Int))) 0 h⟩)
theorem aAb (a0:List Int) (R:Int) (r:Int) (h:C7 a0 R=some r):bk aF 60 [.slice (a0.map a1),.int .i64 R] (.int .i64 r) []:=by
 refine bQ [0] [.tmp 4] Tryz.func60 aag (λbI al bN=>?_);refine ws _ ?_;refine ws _ ?_;refine aH al (λj_ f_ dk aJ=>?_);refine ws _ ?_;refine aR h (λdQ h=>?_) (λdQ h=>?_)
 .refine ws _ ?_;exact aE (dk _ (.inl (aG [.int .i64 (-1)])))
 .refine aY (f_ _ (.inl ?_));refine ws _ ?_;exact aE (al _ (.inl (aG [.int .i64 (IntKind.i64.wrap (R-(a0.length:Int)))])))
theorem aAc (a0:jh) (R:Int) (r:Int) (h:zT a0 R=some r):bk aF 43 [gZ a0,.int .i64 R] (.int .i64 r) []:=by
 refine bQ [0] [.tmp 4] Tryz.func43 vn (λbI al bN=>?_);refine ws _ ?_;obtain⟨af,aQ,h⟩:=aD h;refine dt (aAb a0.fE R _ aQ) _ ?_;refine aH al (λdV eh b5 a8=>?_);refine ws _ ?_;refine aR h (λcO h=>?_) (λcO h=>?_)
 .refine ws _ ?_;exact aE (b5 _ (.inl (aG [.int .i64 (-1)])))
 .refine aY (eh _ (.inl ?_));refine ws _ ?_;exact aE (al _ (.inl (aG [.int .i64 af])))
theorem aAd (a0:List jh) (R:Int) (r:Int) (h:C9 a0 R=some r):bk aF 18 [.slice (a0.map gZ),.int .i64 R] (.int .i64 r) []:=by
 refine bQ [0] [.tmp 4] Tryz.func18 aaB (λbI al bN=>?_);refine ws _ ?_;refine ws _ ?_;refine aH al (λj_ f_ dk aJ=>?_);refine ws _ ?_;refine aR h (λdQ h=>?_) (λdQ h=>?_)
 .refine ws _ ?_;exact aE (dk _ (.inl (aG [.int .i64 (-1)])))
 .refine aY (f_ _ (.inl ?_));refine aH al (λhh dU dW cx=>?_);refine ws _ ?_;refine bB dW (λeB cQ cj hQ de=>?_);have kV:∀(n:Nat) (dq:Int) (dh:Int),C8 a0 n dq dh=some r->du aF PG eB (ab [(0,.slice (a0.map gZ)),(1,.int .i64 dq),(5,.int .i64 dh)]):=by
   intro m16;induction m16 with
   |zero=>intro dq dh h;cases(show none=some r from h)
   |succ m16 kW=>
    intro dq dh h;replace h:O4 (C8 a0 m16) a0 dq dh=some r:=h;refine dK cj (λe4 cu cM df=>?_);refine aH cM (λjk fg gm fo=>?_);refine ws _ ?_;refine aR h (λga h=>?_) (λga h=>?_)
    .refine aY (fg _ (.inl ?_));refine aH cM (λiK fa eW h6=>?_);refine bB eW (λlS g_ gL eX jq=>?_);obtain⟨af,eb,h⟩:=aD h;obtain⟨ak,e5,h⟩:=aD h;refine gT eb (aAc af dq _ e5) _ ?_;refine ws _ ?_;refine aR h (λfG h=>?_) (λfG h=>?_)
     .refine ws _ ?_;exact aE (gL _ (.inl (aG [.int .i64 (-1)])))
     .refine aY (g_ _ (fa _ (.inl ?_)));refine wr _ ?_;exact cu _ (.inr ⟨_,bo rfl,kW ak (IntKind.i64.wrap (dh+1)) h⟩)
    .refine dG (fo 0 _ (df 0 _ (hQ _ (dU _ (.inl ?_)))));refine ws _ ?_;exact aE (al _ (.inl (aG [.int .i64 dq])))
  obtain⟨n,h⟩:=dC h;exact dH (.inr ⟨_,bo rfl,kV n (IntKind.i64.wrap (R-(a0.length:Int))) 0 h⟩)
theorem aAe (a0:iZ) (R:Int) (r:Int) (h:zU a0 R=some r):bk aF 44 [gS a0,.int .i64 R] (.int .i64 r) []:=by
 refine bQ [0] [.tmp 4] Tryz.func44 aaQ (λbI al bN=>?_);refine ws _ ?_;refine ws _ ?_;refine aH al (λj_ f_ dk aJ=>?_);refine ws _ ?_;refine aR h (λdQ h=>?_) (λdQ h=>?_)
 .refine ws _ ?_;exact aE (dk _ (.inl (aG [.int .i64 (-1)])))
 .refine aY (f_ _ (.inl ?_));refine ws _ ?_;refine aH al (λhR hB hv eg=>?_);refine ws _ ?_;refine aR h (λdx h=>?_) (λdx h=>?_)
  .refine ws _ ?_;exact aE (hv _ (.inl (aG [.int .i64 (-1)])))
  .refine aY (hB _ (.inl ?_));refine ws _ ?_;refine aH al (λlr gU gM jM=>?_);refine ws _ ?_;refine aR h (λeX h=>?_) (λeX h=>?_)
   .refine ws _ ?_;exact aE (gM _ (.inl (aG [.int .i64 (-1)])))
   .refine aY (gU _ (.inl ?_));refine ws _ ?_;exact aE (al _ (.inl (aG [.int .i64 (IntKind.i64.wrap ((IntKind.i64.wrap ((IntKind.i64.wrap (R-(a0.Left.length:Int)))-(a0.ch.length:Int)))-(a0.Result.length:Int)))])))
theorem aAf (a0:List iZ) (R:Int) (r:Int) (h:Da a0 R=some r):bk aF 19 [.slice (a0.map gS),.int .i64 R] (.int .i64 r) []:=by
 refine bQ [0] [.tmp 4] Tryz.func19 aa5 (λbI al bN=>?_);refine ws _ ?_;refine ws _ ?_;refine aH al (λj_ f_ dk aJ=>?_);refine ws _ ?_;refine aR h (λdQ h=>?_) (λdQ h=>?_)
 .refine ws _ ?_;exact aE (dk _ (.inl (aG [.int .i64 (-1)])))
 .refine aY (f_ _ (.inl ?_));refine aH al (λhh dU dW cx=>?_);refine ws _ ?_;refine bB dW (λeB cQ cj hQ de=>?_);have kV:∀(n:Nat) (dq:Int) (dh:Int),C_ a0 n dq dh=some r->du aF PH eB (ab [(0,.slice (a0.map gS)),(1,.int .i64 dq),(5,.int .i64 dh)]):=by
   intro m16;induction m16 with
   |zero=>intro dq dh h;cases(show none=some r from h)
   |succ m16 kW=>
    intro dq dh h;replace h:O5 (C_ a0 m16) a0 dq dh=some r:=h;refine dK cj (λe4 cu cM df=>?_);refine aH cM (λjk fg gm fo=>?_);refine ws _ ?_;refine aR h (λga h=>?_) (λga h=>?_)
    .refine aY (fg _ (.inl ?_));refine aH cM (λiK fa eW h6=>?_);refine bB eW (λlS g_ gL eX jq=>?_);obtain⟨af,eb,h⟩:=aD h;obtain⟨ak,e5,h⟩:=aD h;refine gT eb (aAe af dq _ e5) _ ?_;refine ws _ ?_;refine aR h (λfG h=>?_) (λfG h=>?_)
     .refine ws _ ?_;exact aE (gL _ (.inl (aG [.int .i64 (-1)])))
     .refine aY (g_ _ (fa _ (.inl ?_)));refine wr _ ?_;exact cu _ (.inr ⟨_,bo rfl,kW ak (IntKind.i64.wrap (dh+1)) h⟩)
    .refine dG (fo 0 _ (df 0 _ (hQ _ (dU _ (.inl ?_)))));refine ws _ ?_;exact aE (al _ (.inl (aG [.int .i64 dq])))
  obtain⟨n,h⟩:=dC h;exact dH (.inr ⟨_,bo rfl,kV n (IntKind.i64.wrap (R-(a0.length:Int))) 0 h⟩)
theorem Ri (a0:List (List UInt8)) (R:Int) (r:Int) (h:zV a0 R=some r):bk aF 20 [.slice (a0.map bd),.int .i64 R] (.int .i64 r) []:=by
 refine bQ [0] [.tmp 4] Tryz.func20 vo (λbI al bN=>?_);refine ws _ ?_;refine ws _ ?_;refine aH al (λj_ f_ dk aJ=>?_);refine ws _ ?_;refine aR h (λdQ h=>?_) (λdQ h=>?_)
 .refine ws _ ?_;exact aE (dk _ (.inl (aG [.int .i64 (-1)])))
 .refine aY (f_ _ (.inl ?_));refine aH al (λhh dU dW cx=>?_);refine ws _ ?_;refine bB dW (λeB cQ cj hQ de=>?_);have kV:∀(n:Nat) (dq:Int) (dh:Int),Db a0 n dq dh=some r->du aF PI eB (ab [(0,.slice (a0.map bd)),(1,.int .i64 dq),(5,.int .i64 dh)]):=by
   intro m16;induction m16 with
   |zero=>intro dq dh h;cases(show none=some r from h)
   |succ m16 kW=>
    intro dq dh h;replace h:O6 (Db a0 m16) a0 dq dh=some r:=h;refine dK cj (λe4 cu cM df=>?_);refine aH cM (λjk fg gm fo=>?_);refine ws _ ?_;refine aR h (λga h=>?_) (λga h=>?_)
    .refine aY (fg _ (.inl ?_));refine aH cM (λiK fa eW h6=>?_);refine bB eW (λlS g_ gL eX jq=>?_);obtain⟨af,eb,h⟩:=aD h;refine gv eb _ ?_;refine ws _ ?_;refine aR h (λkX h=>?_) (λkX h=>?_)
     .refine ws _ ?_;exact aE (gL _ (.inl (aG [.int .i64 (-1)])))
     .refine aY (g_ _ (fa _ (.inl ?_)));refine wr _ ?_;exact cu _ (.inr ⟨_,bo rfl,kW (IntKind.i64.wrap (dq-(af.length:Int))) (IntKind.i64.wrap (dh+1)) h⟩)
    .refine dG (fo 0 _ (df 0 _ (hQ _ (dU _ (.inl ?_)))));refine ws _ ?_;exact aE (al _ (.inl (aG [.int .i64 dq])))
  obtain⟨n,h⟩:=dC h;exact dH (.inr ⟨_,bo rfl,kV n (IntKind.i64.wrap (R-(a0.length:Int))) 0 h⟩)
theorem aAg (a0:lL) (R:Int) (r:Int) (h:zW a0 R=some r):bk aF 4 [j8 a0,.int .i64 R] (.int .i64 r) []:=by
 refine bQ [0] [.tmp 4] Tryz.func4 ho (λbI al bN=>?_);refine ws _ ?_;obtain⟨af,aQ,h⟩:=aD h;refine dt (aAa a0.fv R _ aQ) _ ?_;refine aH al (λdV eh b5 a8=>?_);refine ws _ ?_;refine aR h (λcO h=>?_) (λcO h=>?_)
 .refine ws _ ?_;exact aE (b5 _ (.inl (aG [.int .i64 (-1)])))
 .refine aY (eh _ (.inl ?_));obtain⟨ak,h9,h⟩:=aD h;refine dt (aAd a0.bK af _ h9) _ ?_;refine aH al (λe4 cu cM df=>?_);refine ws _ ?_;refine aR h (λe9 h=>?_) (λe9 h=>?_)
  .refine ws _ ?_;exact aE (cM _ (.inl (aG [.int .i64 (-1)])))
  .refine aY (cu _ (.inl ?_));obtain⟨aJ,eY,h⟩:=aD h;refine dt (aAf a0.hZ ak _ eY) _ ?_;refine aH al (λq4 kz lu nv=>?_);refine ws _ ?_;refine aR h (λie h=>?_) (λie h=>?_)
   .refine ws _ ?_;exact aE (lu _ (.inl (aG [.int .i64 (-1)])))
   .refine aY (kz _ (.inl ?_));obtain⟨a8,kk,h⟩:=aD h;refine dt (Ri a0.hN aJ _ kk) _ ?_;refine aH al (λq5 kA kB mA=>?_);refine ws _ ?_;refine aR h (λka h=>?_) (λka h=>?_)
    .refine ws _ ?_;exact aE (kB _ (.inl (aG [.int .i64 (-1)])))
    .refine aY (kA _ (.inl ?_));obtain⟨bb,kl,h⟩:=aD h;refine dt (Ri a0.hO a8 _ kl) _ ?_;refine aH al (λaAh J1 Rj Rk=>?_);refine ws _ ?_;refine aR h (λjW h=>?_) (λjW h=>?_)
     .refine ws _ ?_;exact aE (Rj _ (.inl (aG [.int .i64 (-1)])))
     .refine aY (J1 _ (.inl ?_));refine ws _ ?_;exact aE (al _ (.inl (aG [.int .i64 bb])))
theorem aAi (a0:iG) (R:Int) (r:Int) (h:zX a0 R=some r):bk aF 21 [gK a0,.int .i64 R] (.int .i64 r) []:=by
 refine bQ [0] [.tmp 4] Tryz.func21 vp (λbI al bN=>?_);refine ws _ ?_;refine ws _ ?_;refine aH al (λj_ f_ dk aJ=>?_);refine ws _ ?_;refine aR h (λdQ h=>?_) (λdQ h=>?_)
 .refine ws _ ?_;exact aE (dk _ (.inl (aG [.int .i64 (-1)])))
 .refine aY (f_ _ (.inl ?_));refine ws _ ?_;exact aE (al _ (.inl (aG [.int .i64 (IntKind.i64.wrap (R-(a0.Label.length:Int)))])))
theorem aAj (a0:List iG) (R:Int) (r:Int) (h:Dd a0 R=some r):bk aF 5 [.slice (a0.map gK),.int .i64 R] (.int .i64 r) []:=by
 refine bQ [0] [.tmp 4] Tryz.func5 A9 (λbI al bN=>?_);refine ws _ ?_;refine ws _ ?_;refine aH al (λj_ f_ dk aJ=>?_);refine ws _ ?_;refine aR h (λdQ h=>?_) (λdQ h=>?_)
 .refine ws _ ?_;exact aE (dk _ (.inl (aG [.int .i64 (-1)])))
 .refine aY (f_ _ (.inl ?_));refine aH al (λhh dU dW cx=>?_);refine ws _ ?_;refine bB dW (λeB cQ cj hQ de=>?_);have kV:∀(n:Nat) (dq:Int) (dh:Int),Dc a0 n dq dh=some r->du aF PJ eB (ab [(0,.slice (a0.map gK)),(1,.int .i64 dq),(5,.int .i64 dh)]):=by
   intro m16;induction m16 with
   |zero=>intro dq dh h;cases(show none=some r from h)
   |succ m16 kW=>
    intro dq dh h;replace h:O7 (Dc a0 m16) a0 dq dh=some r:=h;refine dK cj (λe4 cu cM df=>?_);refine aH cM (λjk fg gm fo=>?_);refine ws _ ?_;refine aR h (λga h=>?_) (λga h=>?_)
    .refine aY (fg _ (.inl ?_));refine aH cM (λiK fa eW h6=>?_);refine bB eW (λlS g_ gL eX jq=>?_);obtain⟨af,eb,h⟩:=aD h;obtain⟨ak,e5,h⟩:=aD h;refine gT eb (aAi af dq _ e5) _ ?_;refine ws _ ?_;refine aR h (λfG h=>?_) (λfG h=>?_)
     .refine ws _ ?_;exact aE (gL _ (.inl (aG [.int .i64 (-1)])))
     .refine aY (g_ _ (fa _ (.inl ?_)));refine wr _ ?_;exact cu _ (.inr ⟨_,bo rfl,kW ak (IntKind.i64.wrap (dh+1)) h⟩)
    .refine dG (fo 0 _ (df 0 _ (hQ _ (dU _ (.inl ?_)))));refine ws _ ?_;exact aE (al _ (.inl (aG [.int .i64 dq])))
  obtain⟨n,h⟩:=dC h;exact dH (.inr ⟨_,bo rfl,kV n (IntKind.i64.wrap (R-(a0.length:Int))) 0 h⟩)
theorem aAk (a0:hL) (r:b1) (h:zY a0=some r):bk aF 152 [fZ a0] (cn r) []:=by
 refine bQ [0] [.cell 2 176] Tryz.func152 ab1 (λbI al bN=>?_);refine ws _ ?_;refine ws _ ?_;refine ws _ ?_;refine ws _ ?_;refine ws _ ?_;exact aE (al _ (.inl (aG [cn (b1.mk a0.Kind a0.Value)])))
theorem aAl (a0:List hL) (r:(List b1)) (h:zZ a0=some r):bk aF 133 [.slice (a0.map fZ)] (.ao 2 (r.map cn)) []:=by
 refine bQ [0] [.tmp 2] Tryz.func133 ab_ (λbI al bN=>?_);refine ws _ ?_;obtain⟨vz,aQ,h⟩:=aD h;refine cd (bJ [(0,.slice (a0.map fZ)),(3,.ao 2 ((List.replicate (Int.toNat (a0.length:Int)) (b1.mk 0 0)).map cn))] (λP ai=>?_) ?_)
 .simp only[aM.down,simprocAttr,el,gW,gJ,nk,nm,cn,fZ,(dA aQ).1,(dA aQ).2.1,(dA aQ).2.2,eu,List.map_replicate,-Int.reduceNatCast'];(try simp only[bf.down,simprocAttr,cn,fZ,(dA aQ).1,(dA aQ).2.1,(dA aQ).2.2,eu,List.map_replicate,-Int.reduceNatCast']at ai⊢);exact ai
 refine aH al (λdV eh b5 a8=>?_);refine ws [(0,.slice (a0.map fZ)),(3,.ao 2 ((List.replicate (Int.toNat (a0.length:Int)) (b1.mk 0 0)).map cn)),(4,.int .i64 0)] ?_;refine bB b5 (λeZ dy dw cO bO=>?_);have km:∀(n:Nat) (b2:List b1) (bu:Int),De a0 n b2 bu=some r->du aF PK eZ (ab [(0,.slice (a0.map fZ)),(3,.ao 2 (b2.map cn)),(4,.int .i64 bu)]):=by
  intro m8;induction m8 with
  |zero=>intro b2 bu h;cases(show none=some r from h)
  |succ m8 kn=>
   intro b2 bu h;replace h:O8 (De a0 m8) a0 b2 bu=some r:=h;refine dK dw (λhh dU dW cx=>?_);refine aH dW (λhR hB hv eg=>?_);refine ws _ ?_;refine aR h (λdx h=>?_) (λdx h=>?_)
   .refine aY (hB _ (.inl ?_));refine aH dW (λjk fg gm fo=>?_);refine bB gm (λkC hi jl e9 jV=>?_);obtain⟨af,ew,h⟩:=aD h;obtain⟨ak,eY,h⟩:=aD h;obtain⟨aJ,cI,h⟩:=aD h;refine ku (bJ [(0,.slice (a0.map fZ)),(3,.ao 2 ((List.set b2 (Int.toNat bu) ak).map cn)),(4,.int .i64 bu)] (λP ai=>?_) ?_)
    .simp only[aM.down,simprocAttr,el,gW,gJ,nk,nm,cn,fZ,ew,cI,cR cI,dN,dp];refine ez (aAk af _ eY) rfl rfl rfl rfl (.inl (by rfl)) ?_;simp only[aM.down,simprocAttr,el,gW,gJ,nk,nm,cn,fZ,ew,cI,cR cI,dN,dp];(try simp only[bf.down,simprocAttr,cn,fZ,ew,cI,cR cI,dN,dp]at ai⊢);exact ai
    refine hi _ (fg _ (.inl ?_));refine wr [(0,.slice (a0.map fZ)),(3,.ao 2 ((List.set b2 (Int.toNat bu) ak).map cn)),(4,.int .i64 (IntKind.i64.wrap (bu+1)))] ?_;exact dU _ (.inr ⟨_,bo rfl,kn (List.set b2 (Int.toNat bu) ak) (IntKind.i64.wrap (bu+1)) h⟩)
   .refine dG (eg 0 _ (cx 0 _ (cO _ (eh _ (.inl ?_)))));refine ws _ ?_;exact aE (al _ (.inl (aG [.ao 2 (b2.map cn)])))
 obtain⟨n,h⟩:=dC h;exact dH (.inr ⟨_,bo rfl,km n (List.replicate (Int.toNat (a0.length:Int)) (b1.mk 0 0)) 0 h⟩)
theorem aAm (a0:List (List hL)) (r:(List (List b1))) (h:Dg a0=some r):bk aF 108 [.slice (a0.map gl)] (.ao 1 (r.map fF)) []:=by
 refine bQ [0] [.tmp 2] Tryz.func108 acj (λbI al bN=>?_);refine ws _ ?_;obtain⟨vz,aQ,h⟩:=aD h;refine cd (bJ [(0,.slice (a0.map gl)),(3,.ao 1 (List.replicate (Int.toNat (a0.length:Int)) .bz))] (λP ai=>?_) ?_)
 .simp only[aM.down,simprocAttr,el,hK,pd,gW,gJ,nk,nm,fZ,gl,(dA aQ).1,(dA aQ).2.1,(dA aQ).2.2,eu,List.map_replicate,-Int.reduceNatCast'];(try simp only[bf.down,simprocAttr,fZ,gl,(dA aQ).1,(dA aQ).2.1,(dA aQ).2.2,eu,List.map_replicate,-Int.reduceNatCast']at ai⊢);exact ai
 refine aH al (λdV eh b5 a8=>?_);refine ws [(0,.slice (a0.map gl)),(3,.ao 1 (List.replicate (Int.toNat (a0.length:Int)) .bz)),(4,.int .i64 0)] ?_;refine bB b5 (λeZ dy dw cO bO=>?_);have km:∀(n:Nat) (b2:List (List b1)) (bu:Int),Df a0 n b2 bu=some r->du aF PL eZ (ab [(0,.slice (a0.map gl)),(3,.ao 1 (b2.map fF)),(4,.int .i64 bu)]):=by
  intro m8;induction m8 with
  |zero=>intro b2 bu h;cases(show none=some r from h)
  |succ m8 kn=>
   intro b2 bu h;replace h:O9 (Df a0 m8) a0 b2 bu=some r:=h;refine dK dw (λhh dU dW cx=>?_);refine aH dW (λhR hB hv eg=>?_);refine ws _ ?_;refine aR h (λdx h=>?_) (λdx h=>?_)
   .refine aY (hB _ (.inl ?_));refine aH dW (λjk fg gm fo=>?_);refine bB gm (λkC hi jl e9 jV=>?_);obtain⟨af,ew,h⟩:=aD h;obtain⟨ak,eY,h⟩:=aD h;obtain⟨aJ,cI,h⟩:=aD h;refine ku (bJ [(0,.slice (a0.map gl)),(3,.ao 1 ((List.set b2 (Int.toNat bu) ak).map fF)),(4,.int .i64 bu)] (λP ai=>?_) ?_)
    .simp only[aM.down,simprocAttr,el,hK,pd,gW,gJ,nk,nm,cn,fZ,gl,fF,ew,cI,cR cI,dN,dp];refine ez (aAl af _ eY) rfl rfl rfl rfl (.inl (by rfl)) ?_;simp only[aM.down,simprocAttr,el,hK,pd,gW,gJ,nk,nm,cn,fZ,gl,fF,ew,cI,cR cI,dN,dp];(try simp only[bf.down,simprocAttr,cn,fZ,gl,fF,ew,cI,cR cI,dN,dp]at ai⊢);exact ai
    refine hi _ (fg _ (.inl ?_));refine wr [(0,.slice (a0.map gl)),(3,.ao 1 ((List.set b2 (Int.toNat bu) ak).map fF)),(4,.int .i64 (IntKind.i64.wrap (bu+1)))] ?_;exact dU _ (.inr ⟨_,bo rfl,kn (List.set b2 (Int.toNat bu) ak) (IntKind.i64.wrap (bu+1)) h⟩)
   .refine dG (eg 0 _ (cx 0 _ (cO _ (eh _ (.inl ?_)))));refine ws _ ?_;exact aE (al _ (.inl (aG [.ao 1 (b2.map fF)])))
 obtain⟨n,h⟩:=dC h;exact dH (.inr ⟨_,lh [] rfl (jb (t:=0) (d:=.slice (a0.map gl)) rfl (lk (t:=3) (d:=.ao 1 (List.replicate (Int.toNat (a0.length:Int)) .bz)) (bE:=.ao 1 ((List.replicate (Int.toNat (a0.length:Int)) []).map fF)) rfl rfl (CG (u:=fF) (z:=[]) (.jD _) _) (by decide) (jb (t:=4) (d:=.int .i64 0) rfl (lj)))),km n (List.replicate (Int.toNat (a0.length:Int)) []) 0 h⟩)
theorem aAn (a0:jf) (r:bH) (h:z1 a0=some r):bk aF 86 [gA a0] (fw r) []:=by
 refine bQ [0] [.cell 2 121] Tryz.func86 acs (λbI al bN=>?_);refine ws _ ?_;refine ws _ ?_;refine ws _ ?_;refine ws _ ?_;refine ws _ ?_;obtain⟨af,b4,h⟩:=aD h;refine dt (aAm a0.cN _ b4) _ ?_;refine ws _ ?_;exact aE (al _ (.inl (aG [fw (bH.mk a0.Kind a0.Number a0.Name af)])))
theorem aAo (a0:List jf) (r:(List bH)) (h:Di a0=some r):bk aF 67 [.slice (a0.map gA)] (.ao 4 (r.map fw)) []:=by
 refine bQ [0] [.tmp 2] Tryz.func67 acC (λbI al bN=>?_);refine ws _ ?_;obtain⟨vz,aQ,h⟩:=aD h;refine cd (bJ [(0,.slice (a0.map gA)),(3,.ao 4 (List.replicate (Int.toNat (a0.length:Int)) (.agg [(.int .i64 0),(.int .i64 0),(.str []),.bz])))] (λP ai=>?_) ?_)
 .simp only[aM.down,simprocAttr,el,eL,rS,kQ,hK,je,pd,rT,gW,gJ,nk,nm,gA,fZ,gl,(dA aQ).1,(dA aQ).2.1,(dA aQ).2.2,eu,List.map_replicate,-Int.reduceNatCast'];(try simp only[bf.down,simprocAttr,gA,fZ,gl,(dA aQ).1,(dA aQ).2.1,(dA aQ).2.2,eu,List.map_replicate,-Int.reduceNatCast']at ai⊢);exact ai
 refine aH al (λdV eh b5 a8=>?_);refine ws [(0,.slice (a0.map gA)),(3,.ao 4 (List.replicate (Int.toNat (a0.length:Int)) (.agg [(.int .i64 0),(.int .i64 0),(.str []),.bz]))),(4,.int .i64 0)] ?_;refine bB b5 (λeZ dy dw cO bO=>?_);have km:∀(n:Nat) (b2:List bH) (bu:Int),Dh a0 n b2 bu=some r->du aF PM eZ (ab [(0,.slice (a0.map gA)),(3,.ao 4 (b2.map fw)),(4,.int .i64 bu)]):=by
  intro m8;induction m8 with
  |zero=>intro b2 bu h;cases(show none=some r from h)
  |succ m8 kn=>
   intro b2 bu h;replace h:O_ (Dh a0 m8) a0 b2 bu=some r:=h;refine dK dw (λhh dU dW cx=>?_);refine aH dW (λhR hB hv eg=>?_);refine ws _ ?_;refine aR h (λdx h=>?_) (λdx h=>?_)
   .refine aY (hB _ (.inl ?_));refine aH dW (λjk fg gm fo=>?_);refine bB gm (λkC hi jl e9 jV=>?_);obtain⟨af,ew,h⟩:=aD h;obtain⟨ak,eY,h⟩:=aD h;obtain⟨aJ,cI,h⟩:=aD h;refine ku (bJ [(0,.slice (a0.map gA)),(3,.ao 4 ((List.set b2 (Int.toNat bu) ak).map fw)),(4,.int .i64 bu)] (λP ai=>?_) ?_)
    .simp only[aM.down,simprocAttr,el,eL,rS,kQ,hK,je,pd,rT,gW,gJ,nk,nm,cn,gA,fZ,gl,fw,fF,ew,cI,cR cI,dN,dp];refine ez (aAn af _ eY) rfl rfl rfl rfl (.inl (by rfl)) ?_;simp only[aM.down,simprocAttr,el,eL,rS,kQ,hK,je,pd,rT,gW,gJ,nk,nm,cn,gA,fZ,gl,fw,fF,ew,cI,cR cI,dN,dp];(try simp only[bf.down,simprocAttr,cn,gA,fZ,gl,fw,fF,ew,cI,cR cI,dN,dp]at ai⊢);exact ai
    refine hi _ (fg _ (.inl ?_));refine wr [(0,.slice (a0.map gA)),(3,.ao 4 ((List.set b2 (Int.toNat bu) ak).map fw)),(4,.int .i64 (IntKind.i64.wrap (bu+1)))] ?_;exact dU _ (.inr ⟨_,bo rfl,kn (List.set b2 (Int.toNat bu) ak) (IntKind.i64.wrap (bu+1)) h⟩)
   .refine dG (eg 0 _ (cx 0 _ (cO _ (eh _ (.inl ?_)))));refine ws _ ?_;exact aE (al _ (.inl (aG [.ao 4 (b2.map fw)])))
 obtain⟨n,h⟩:=dC h;exact dH (.inr ⟨_,lh [] rfl (jb (t:=0) (d:=.slice (a0.map gA)) rfl (lk (t:=3) (d:=.ao 4 (List.replicate (Int.toNat (a0.length:Int)) (.agg [(.int .i64 0),(.int .i64 0),(.str []),.bz]))) (bE:=.ao 4 ((List.replicate (Int.toNat (a0.length:Int)) (bH.mk 0 0 ([]:List UInt8) [])).map fw)) rfl rfl (CG (u:=fw) (z:=(bH.mk 0 0 ([]:List UInt8) [])) (.agg (.cons (.refl _) (.cons (.refl _) (.cons (.refl _) (.cons (.jD _) (.nil)))))) _) (by decide) (jb (t:=4) (d:=.int .i64 0) rfl (lj)))),km n (List.replicate (Int.toNat (a0.length:Int)) (bH.mk 0 0 ([]:List UInt8) [])) 0 h⟩)
theorem aAp (a0:jg) (r:bs) (h:z6 a0=some r):bk aF 47 [gY a0] (e8 r) []:=by
 refine bQ [0] [.cell 2 91] Tryz.func47 vq (λbI al bN=>?_);refine ws _ ?_;refine ws _ ?_;refine ws _ ?_;refine ws _ ?_;obtain⟨af,cc,h⟩:=aD h;refine dt (aAo a0.Body _ cc) _ ?_;refine ws _ ?_;exact aE (al _ (.inl (aG [e8 (bs.mk a0.Name a0.dE af)])))
theorem aAq (a0:List jg) (r:(List bs)) (h:Dk a0=some r):bk aF 24 [.slice (a0.map gY)] (.ao 3 (r.map e8)) []:=by
 refine bQ [0] [.tmp 2] Tryz.func24 vr (λbI al bN=>?_);refine ws _ ?_;obtain⟨vz,aQ,h⟩:=aD h;refine cd (bJ [(0,.slice (a0.map gY)),(3,.ao 3 (List.replicate (Int.toNat (a0.length:Int)) (.agg [(.str []),(.int .i64 0),.bz])))] (λP ai=>?_) ?_)
 .simp only[aM.down,simprocAttr,el,eL,xp,oz,rS,xu,kQ,mK,hK,je,pd,rT,gW,gJ,nk,nm,gY,gA,fZ,gl,(dA aQ).1,(dA aQ).2.1,(dA aQ).2.2,eu,List.map_replicate,-Int.reduceNatCast'];(try simp only[bf.down,simprocAttr,gY,gA,fZ,gl,(dA aQ).1,(dA aQ).2.1,(dA aQ).2.2,eu,List.map_replicate,-Int.reduceNatCast']at ai⊢);exact ai
 refine aH al (λdV eh b5 a8=>?_);refine ws [(0,.slice (a0.map gY)),(3,.ao 3 (List.replicate (Int.toNat (a0.length:Int)) (.agg [(.str []),(.int .i64 0),.bz]))),(4,.int .i64 0)] ?_;refine bB b5 (λeZ dy dw cO bO=>?_);have km:∀(n:Nat) (b2:List bs) (bu:Int),Dj a0 n b2 bu=some r->du aF PN eZ (ab [(0,.slice (a0.map gY)),(3,.ao 3 (b2.map e8)),(4,.int .i64 bu)]):=by
  intro m8;induction m8 with
  |zero=>intro b2 bu h;cases(show none=some r from h)
  |succ m8 kn=>
   intro b2 bu h;replace h:Pa (Dj a0 m8) a0 b2 bu=some r:=h;refine dK dw (λhh dU dW cx=>?_);refine aH dW (λhR hB hv eg=>?_);refine ws _ ?_;refine aR h (λdx h=>?_) (λdx h=>?_)
   .refine aY (hB _ (.inl ?_));refine aH dW (λjk fg gm fo=>?_);refine bB gm (λkC hi jl e9 jV=>?_);obtain⟨af,ew,h⟩:=aD h;obtain⟨ak,eY,h⟩:=aD h;obtain⟨aJ,cI,h⟩:=aD h;refine ku (bJ [(0,.slice (a0.map gY)),(3,.ao 3 ((List.set b2 (Int.toNat bu) ak).map e8)),(4,.int .i64 bu)] (λP ai=>?_) ?_)
    .simp only[aM.down,simprocAttr,el,eL,xp,oz,rS,xu,kQ,mK,hK,je,pd,rT,gW,gJ,nk,nm,cn,gY,gA,fZ,gl,e8,fw,fF,ew,cI,cR cI,dN,dp];refine ez (aAp af _ eY) rfl rfl rfl rfl (.inl (by rfl)) ?_;simp only[aM.down,simprocAttr,el,eL,xp,oz,rS,xu,kQ,mK,hK,je,pd,rT,gW,gJ,nk,nm,cn,gY,gA,fZ,gl,e8,fw,fF,ew,cI,cR cI,dN,dp];(try simp only[bf.down,simprocAttr,cn,gY,gA,fZ,gl,e8,fw,fF,ew,cI,cR cI,dN,dp]at ai⊢);exact ai
    refine hi _ (fg _ (.inl ?_));refine wr [(0,.slice (a0.map gY)),(3,.ao 3 ((List.set b2 (Int.toNat bu) ak).map e8)),(4,.int .i64 (IntKind.i64.wrap (bu+1)))] ?_;exact dU _ (.inr ⟨_,bo rfl,kn (List.set b2 (Int.toNat bu) ak) (IntKind.i64.wrap (bu+1)) h⟩)
   .refine dG (eg 0 _ (cx 0 _ (cO _ (eh _ (.inl ?_)))));refine ws _ ?_;exact aE (al _ (.inl (aG [.ao 3 (b2.map e8)])))
 obtain⟨n,h⟩:=dC h;exact dH (.inr ⟨_,lh [] rfl (jb (t:=0) (d:=.slice (a0.map gY)) rfl (lk (t:=3) (d:=.ao 3 (List.replicate (Int.toNat (a0.length:Int)) (.agg [(.str []),(.int .i64 0),.bz]))) (bE:=.ao 3 ((List.replicate (Int.toNat (a0.length:Int)) (bs.mk ([]:List UInt8) 0 [])).map e8)) rfl rfl (CG (u:=e8) (z:=(bs.mk ([]:List UInt8) 0 [])) (.agg (.cons (.refl _) (.cons (.refl _) (.cons (.jD _) (.nil))))) _) (by decide) (jb (t:=4) (d:=.int .i64 0) rfl (lj)))),km n (List.replicate (Int.toNat (a0.length:Int)) (bs.mk ([]:List UInt8) 0 [])) 0 h⟩)
theorem aAr (a0:List Int) (r:(List Int)) (h:Dm a0=some r):bk aF 68 [.slice (a0.map a1)] (.ao 1 (r.map a1)) []:=by
 refine bQ [0] [.tmp 2] Tryz.func68 acY (λbI al bN=>?_);refine ws _ ?_;obtain⟨aAs,aQ,h⟩:=aD h;refine cd (bJ [(0,.slice (a0.map a1)),(3,.ao 1 ((List.replicate (Int.toNat (a0.length:Int)) 0).map a1))] (λP ai=>?_) ?_)
 .simp only[aM.down,simprocAttr,el,jd,a1,(dA aQ).1,(dA aQ).2.1,(dA aQ).2.2,eu,List.map_replicate,-Int.reduceNatCast'];(try simp only[bf.down,simprocAttr,a1,(dA aQ).1,(dA aQ).2.1,(dA aQ).2.2,eu,List.map_replicate,-Int.reduceNatCast']at ai⊢);exact ai
 refine aH al (λdV eh b5 a8=>?_);refine ws [(0,.slice (a0.map a1)),(3,.ao 1 ((List.replicate (Int.toNat (a0.length:Int)) 0).map a1)),(4,.int .i64 0)] ?_;refine bB b5 (λeZ dy dw cO bO=>?_);have km:∀(n:Nat) (b2:List Int) (bu:Int),Dl a0 n b2 bu=some r->du aF PO eZ (ab [(0,.slice (a0.map a1)),(3,.ao 1 (b2.map a1)),(4,.int .i64 bu)]):=by
  intro m8;induction m8 with
  |zero=>intro b2 bu h;cases(show none=some r from h)
  |succ m8 kn=>
   intro b2 bu h;replace h:Pb (Dl a0 m8) a0 b2 bu=some r:=h;refine dK dw (λhh dU dW cx=>?_);refine aH dW (λhR hB hv eg=>?_);refine ws _ ?_;refine aR h (λdx h=>?_) (λdx h=>?_)
   .refine aY (hB _ (.inl ?_));refine aH dW (λjk fg gm fo=>?_);refine bB gm (λkC hi jl e9 jV=>?_);obtain⟨af,ew,h⟩:=aD h;obtain⟨ak,eY,h⟩:=aD h;refine ku (bJ [(0,.slice (a0.map a1)),(3,.ao 1 ((List.set b2 (Int.toNat bu) af).map a1)),(4,.int .i64 bu)] (λP ai=>?_) ?_)
    .simp only[aM.down,simprocAttr,el,jd,a1,ew,eY,cR eY,dN,dp];(try simp only[bf.down,simprocAttr,a1,ew,eY,cR eY,dN,dp]at ai⊢);exact ai
    refine hi _ (fg _ (.inl ?_));refine wr [(0,.slice (a0.map a1)),(3,.ao 1 ((List.set b2 (Int.toNat bu) af).map a1)),(4,.int .i64 (IntKind.i64.wrap (bu+1)))] ?_;exact dU _ (.inr ⟨_,bo rfl,kn (List.set b2 (Int.toNat bu) af) (IntKind.i64.wrap (bu+1)) h⟩)
   .refine dG (eg 0 _ (cx 0 _ (cO _ (eh _ (.inl ?_)))));refine ws _ ?_;exact aE (al _ (.inl (aG [.ao 1 (b2.map a1)])))
 obtain⟨n,h⟩:=dC h;exact dH (.inr ⟨_,bo rfl,km n (List.replicate (Int.toNat (a0.length:Int)) 0) 0 h⟩)
theorem aAt (a0:jh) (r:dr) (h:z7 a0=some r):bk aF 48 [gZ a0] (fk r) []:=by
 refine bQ [0] [.cell 2 93] Tryz.func48 ac4 (λbI al bN=>?_);refine ws _ ?_;refine ws _ ?_;refine ws _ ?_;obtain⟨af,cF,h⟩:=aD h;refine dt (aAr a0.fE _ cF) _ ?_;refine ws _ ?_;exact aE (al _ (.inl (aG [fk (dr.mk a0.hM af)])))
theorem aAu (a0:List jh) (r:(List dr)) (h:Dp a0=some r):bk aF 25 [.slice (a0.map gZ)] (.ao 2 (r.map fk)) []:=by
 refine bQ [0] [.tmp 2] Tryz.func25 vt (λbI al bN=>?_);refine ws _ ?_;obtain⟨vz,aQ,h⟩:=aD h;refine cd (bJ [(0,.slice (a0.map gZ)),(3,.ao 2 (List.replicate (Int.toNat (a0.length:Int)) (.agg [(.int .i64 0),.bz])))] (λP ai=>?_) ?_)
 .simp only[aM.down,simprocAttr,el,xq,jd,pc,xv,oA,a1,gZ,(dA aQ).1,(dA aQ).2.1,(dA aQ).2.2,eu,List.map_replicate,-Int.reduceNatCast'];(try simp only[bf.down,simprocAttr,a1,gZ,(dA aQ).1,(dA aQ).2.1,(dA aQ).2.2,eu,List.map_replicate,-Int.reduceNatCast']at ai⊢);exact ai
 refine aH al (λdV eh b5 a8=>?_);refine ws [(0,.slice (a0.map gZ)),(3,.ao 2 (List.replicate (Int.toNat (a0.length:Int)) (.agg [(.int .i64 0),.bz]))),(4,.int .i64 0)] ?_;refine bB b5 (λeZ dy dw cO bO=>?_);have km:∀(n:Nat) (b2:List dr) (bu:Int),Dn a0 n b2 bu=some r->du aF PQ eZ (ab [(0,.slice (a0.map gZ)),(3,.ao 2 (b2.map fk)),(4,.int .i64 bu)]):=by
  intro m8;induction m8 with
  |zero=>intro b2 bu h;cases(show none=some r from h)
  |succ m8 kn=>
   intro b2 bu h;replace h:Pc (Dn a0 m8) a0 b2 bu=some r:=h;refine dK dw (λhh dU dW cx=>?_);refine aH dW (λhR hB hv eg=>?_);refine ws _ ?_;refine aR h (λdx h=>?_) (λdx h=>?_)
   .refine aY (hB _ (.inl ?_));refine aH dW (λjk fg gm fo=>?_);refine bB gm (λkC hi jl e9 jV=>?_);obtain⟨af,ew,h⟩:=aD h;obtain⟨ak,eY,h⟩:=aD h;obtain⟨aJ,cI,h⟩:=aD h;refine ku (bJ [(0,.slice (a0.map gZ)),(3,.ao 2 ((List.set b2 (Int.toNat bu) ak).map fk)),(4,.int .i64 bu)] (λP ai=>?_) ?_)
    .simp only[aM.down,simprocAttr,el,xq,jd,pc,xv,oA,a1,gZ,fk,ew,cI,cR cI,dN,dp];refine ez (aAt af _ eY) rfl rfl rfl rfl (.inl (by rfl)) ?_;simp only[aM.down,simprocAttr,el,xq,jd,pc,xv,oA,a1,gZ,fk,ew,cI,cR cI,dN,dp];(try simp only[bf.down,simprocAttr,a1,gZ,fk,ew,cI,cR cI,dN,dp]at ai⊢);exact ai
    refine hi _ (fg _ (.inl ?_));refine wr [(0,.slice (a0.map gZ)),(3,.ao 2 ((List.set b2 (Int.toNat bu) ak).map fk)),(4,.int .i64 (IntKind.i64.wrap (bu+1)))] ?_;exact dU _ (.inr ⟨_,bo rfl,kn (List.set b2 (Int.toNat bu) ak) (IntKind.i64.wrap (bu+1)) h⟩)
   .refine dG (eg 0 _ (cx 0 _ (cO _ (eh _ (.inl ?_)))));refine ws _ ?_;exact aE (al _ (.inl (aG [.ao 2 (b2.map fk)])))
 obtain⟨n,h⟩:=dC h;exact dH (.inr ⟨_,lh [] rfl (jb (t:=0) (d:=.slice (a0.map gZ)) rfl (lk (t:=3) (d:=.ao 2 (List.replicate (Int.toNat (a0.length:Int)) (.agg [(.int .i64 0),.bz]))) (bE:=.ao 2 ((List.replicate (Int.toNat (a0.length:Int)) (dr.mk 0 [])).map fk)) rfl rfl (CG (u:=fk) (z:=(dr.mk 0 [])) (.agg (.cons (.refl _) (.cons (.jD _) (.nil)))) _) (by decide) (jb (t:=4) (d:=.int .i64 0) rfl (lj)))),km n (List.replicate (Int.toNat (a0.length:Int)) (dr.mk 0 [])) 0 h⟩)
theorem aAv (a0:iZ) (r:b9) (h:z8 a0=some r):bk aF 49 [gS a0] (bC r) []:=by
 refine bQ [0] [.cell 2 95] Tryz.func49 adj (λbI al bN=>?_);refine ws _ ?_;refine ws _ ?_;refine ws _ ?_;refine ws _ ?_;refine ws _ ?_;refine ws _ ?_;exact aE (al _ (.inl (aG [bC (b9.mk a0.Left a0.ch a0.Result)])))
theorem aAw (a0:List iZ) (r:(List b9)) (h:Dr a0=some r):bk aF 26 [.slice (a0.map gS)] (.ao 3 (r.map bC)) []:=by
 refine bQ [0] [.tmp 2] Tryz.func26 oJ (λbI al bN=>?_);refine ws _ ?_;obtain⟨vz,aQ,h⟩:=aD h;refine cd (bJ [(0,.slice (a0.map gS)),(3,.ao 3 ((List.replicate (Int.toNat (a0.length:Int)) (b9.mk ([]:List UInt8) ([]:List UInt8) ([]:List UInt8))).map bC))] (λP ai=>?_) ?_)
 .simp only[aM.down,simprocAttr,eL,xr,qT,xw,n1,bC,gS,(dA aQ).1,(dA aQ).2.1,(dA aQ).2.2,eu,List.map_replicate,-Int.reduceNatCast'];(try simp only[bf.down,simprocAttr,bC,gS,(dA aQ).1,(dA aQ).2.1,(dA aQ).2.2,eu,List.map_replicate,-Int.reduceNatCast']at ai⊢);exact ai
 refine aH al (λdV eh b5 a8=>?_);refine ws [(0,.slice (a0.map gS)),(3,.ao 3 ((List.replicate (Int.toNat (a0.length:Int)) (b9.mk ([]:List UInt8) ([]:List UInt8) ([]:List UInt8))).map bC)),(4,.int .i64 0)] ?_;refine bB b5 (λeZ dy dw cO bO=>?_);have km:∀(n:Nat) (b2:List b9) (bu:Int),Dq a0 n b2 bu=some r->du aF PR eZ (ab [(0,.slice (a0.map gS)),(3,.ao 3 (b2.map bC)),(4,.int .i64 bu)]):=by
  intro m8;induction m8 with
  |zero=>intro b2 bu h;cases(show none=some r from h)
  |succ m8 kn=>
   intro b2 bu h;replace h:Pd (Dq a0 m8) a0 b2 bu=some r:=h;refine dK dw (λhh dU dW cx=>?_);refine aH dW (λhR hB hv eg=>?_);refine ws _ ?_;refine aR h (λdx h=>?_) (λdx h=>?_)
   .refine aY (hB _ (.inl ?_));refine aH dW (λjk fg gm fo=>?_);refine bB gm (λkC hi jl e9 jV=>?_);obtain⟨af,ew,h⟩:=aD h;obtain⟨ak,eY,h⟩:=aD h;obtain⟨aJ,cI,h⟩:=aD h;refine ku (bJ [(0,.slice (a0.map gS)),(3,.ao 3 ((List.set b2 (Int.toNat bu) ak).map bC)),(4,.int .i64 bu)] (λP ai=>?_) ?_)
    .simp only[aM.down,simprocAttr,eL,xr,qT,xw,n1,bC,gS,ew,cI,cR cI,dN,dp];refine ez (aAv af _ eY) rfl rfl rfl rfl (.inl (by rfl)) ?_;simp only[aM.down,simprocAttr,eL,xr,qT,xw,n1,bC,gS,ew,cI,cR cI,dN,dp];(try simp only[bf.down,simprocAttr,bC,gS,ew,cI,cR cI,dN,dp]at ai⊢);exact ai
    refine hi _ (fg _ (.inl ?_));refine wr [(0,.slice (a0.map gS)),(3,.ao 3 ((List.set b2 (Int.toNat bu) ak).map bC)),(4,.int .i64 (IntKind.i64.wrap (bu+1)))] ?_;exact dU _ (.inr ⟨_,bo rfl,kn (List.set b2 (Int.toNat bu) ak) (IntKind.i64.wrap (bu+1)) h⟩)
   .refine dG (eg 0 _ (cx 0 _ (cO _ (eh _ (.inl ?_)))));refine ws _ ?_;exact aE (al _ (.inl (aG [.ao 3 (b2.map bC)])))
 obtain⟨n,h⟩:=dC h;exact dH (.inr ⟨_,bo rfl,km n (List.replicate (Int.toNat (a0.length:Int)) (b9.mk ([]:List UInt8) ([]:List UInt8) ([]:List UInt8))) 0 h⟩)
theorem Rl (a0:List (List UInt8)) (r:(List (List UInt8))) (h:z_ a0=some r):bk aF 27 [.slice (a0.map bd)] (.ao 1 (r.map bd)) []:=by
 refine bQ [0] [.tmp 2] Tryz.func27 adA (λbI al bN=>?_);refine ws _ ?_;obtain⟨aAs,aQ,h⟩:=aD h;refine cd (bJ [(0,.slice (a0.map bd)),(3,.ao 1 ((List.replicate (Int.toNat (a0.length:Int)) ([]:List UInt8)).map bd))] (λP ai=>?_) ?_)
 .simp only[aM.down,simprocAttr,n5.down,(dA aQ).1,(dA aQ).2.1,(dA aQ).2.2,eu,List.map_replicate,-Int.reduceNatCast'];(try simp only[bf.down,simprocAttr,bd,(dA aQ).1,(dA aQ).2.1,(dA aQ).2.2,eu,List.map_replicate,-Int.reduceNatCast']at ai⊢);exact ai
 refine aH al (λdV eh b5 a8=>?_);refine ws [(0,.slice (a0.map bd)),(3,.ao 1 ((List.replicate (Int.toNat (a0.length:Int)) ([]:List UInt8)).map bd)),(4,.int .i64 0)] ?_;refine bB b5 (λeZ dy dw cO bO=>?_);have km:∀(n:Nat) (b2:List (List UInt8)) (bu:Int),Ds a0 n b2 bu=some r->du aF PS eZ (ab [(0,.slice (a0.map bd)),(3,.ao 1 (b2.map bd)),(4,.int .i64 bu)]):=by
  intro m8;induction m8 with
  |zero=>intro b2 bu h;cases(show none=some r from h)
  |succ m8 kn=>
   intro b2 bu h;replace h:Pe (Ds a0 m8) a0 b2 bu=some r:=h;refine dK dw (λhh dU dW cx=>?_);refine aH dW (λhR hB hv eg=>?_);refine ws _ ?_;refine aR h (λdx h=>?_) (λdx h=>?_)
   .refine aY (hB _ (.inl ?_));refine aH dW (λjk fg gm fo=>?_);refine bB gm (λkC hi jl e9 jV=>?_);obtain⟨af,ew,h⟩:=aD h;obtain⟨ak,eY,h⟩:=aD h;refine ku (bJ [(0,.slice (a0.map bd)),(3,.ao 1 ((List.set b2 (Int.toNat bu) af).map bd)),(4,.int .i64 bu)] (λP ai=>?_) ?_)
    .simp only[aM.down,simprocAttr,n5.down,ew,eY,cR eY,dN,dp];(try simp only[bf.down,simprocAttr,bd,ew,eY,cR eY,dN,dp]at ai⊢);exact ai
    refine hi _ (fg _ (.inl ?_));refine wr [(0,.slice (a0.map bd)),(3,.ao 1 ((List.set b2 (Int.toNat bu) af).map bd)),(4,.int .i64 (IntKind.i64.wrap (bu+1)))] ?_;exact dU _ (.inr ⟨_,bo rfl,kn (List.set b2 (Int.toNat bu) af) (IntKind.i64.wrap (bu+1)) h⟩)
   .refine dG (eg 0 _ (cx 0 _ (cO _ (eh _ (.inl ?_)))));refine ws _ ?_;exact aE (al _ (.inl (aG [.ao 1 (b2.map bd)])))
 obtain⟨n,h⟩:=dC h;exact dH (.inr ⟨_,bo rfl,km n (List.replicate (Int.toNat (a0.length:Int)) ([]:List UInt8)) 0 h⟩)
theorem FV (a0:lL) (r:eI) (h:tb a0=some r):bk aF 7 [j8 a0] (nx r) []:=by
 refine bQ [0] [.cell 2 38] Tryz.func7 adI (λbI al bN=>?_);refine ws _ ?_;refine ws _ ?_;obtain⟨af,cC,h⟩:=aD h;refine dt (aAq a0.fv _ cC) _ ?_;obtain⟨ak,cc,h⟩:=aD h;refine dt (aAu a0.bK _ cc) _ ?_;obtain⟨aJ,h8,h⟩:=aD h;refine dt (aAw a0.hZ _ h8) _ ?_;obtain⟨a8,mF,h⟩:=aD h;refine dt (Rl a0.hN _ mF) _ ?_;obtain⟨bb,er,h⟩:=aD h;refine dt (Rl a0.hO _ er) _ ?_;refine ws _ ?_;exact aE (al _ (.inl (aG [nx (eI.mk af ak aJ a8 bb)])))
theorem aAx (a0:iG) (r:b_) (h:Aa a0=some r):bk aF 28 [gK a0] (cr r) []:=by
 refine bQ [0] [.cell 2 59] Tryz.func28 lR (λbI al bN=>?_);refine ws _ ?_;refine ws _ ?_;refine ws _ ?_;refine ws _ ?_;refine ws _ ?_;refine ws _ ?_;refine ws _ ?_;exact aE (al _ (.inl (aG [cr (b_.mk a0.Choice a0.c8 a0.Second a0.Label)])))
theorem FW (a0:List iG) (r:(List b_)) (h:uH a0=some r):bk aF 8 [.slice (a0.map gK)] (.ao 4 (r.map cr)) []:=by
 refine bQ [0] [.tmp 2] Tryz.func8 A_ (λbI al bN=>?_);refine ws _ ?_;obtain⟨vz,aQ,h⟩:=aD h;refine cd (bJ [(0,.slice (a0.map gK)),(3,.ao 4 ((List.replicate (Int.toNat (a0.length:Int)) (b_.mk 0 0 0 ([]:List UInt8))).map cr))] (λP ai=>?_) ?_)
 .simp only[aM.down,simprocAttr,el,eL,CZ,s_,C0,qU,cr,gK,(dA aQ).1,(dA aQ).2.1,(dA aQ).2.2,eu,List.map_replicate,-Int.reduceNatCast'];(try simp only[bf.down,simprocAttr,cr,gK,(dA aQ).1,(dA aQ).2.1,(dA aQ).2.2,eu,List.map_replicate,-Int.reduceNatCast']at ai⊢);exact ai
 refine aH al (λdV eh b5 a8=>?_);refine ws [(0,.slice (a0.map gK)),(3,.ao 4 ((List.replicate (Int.toNat (a0.length:Int)) (b_.mk 0 0 0 ([]:List UInt8))).map cr)),(4,.int .i64 0)] ?_;refine bB b5 (λeZ dy dw cO bO=>?_);have km:∀(n:Nat) (b2:List b_) (bu:Int),Dt a0 n b2 bu=some r->du aF PT eZ (ab [(0,.slice (a0.map gK)),(3,.ao 4 (b2.map cr)),(4,.int .i64 bu)]):=by
  intro m8;induction m8 with
  |zero=>intro b2 bu h;cases(show none=some r from h)
  |succ m8 kn=>
   intro b2 bu h;replace h:Pf (Dt a0 m8) a0 b2 bu=some r:=h;refine dK dw (λhh dU dW cx=>?_);refine aH dW (λhR hB hv eg=>?_);refine ws _ ?_;refine aR h (λdx h=>?_) (λdx h=>?_)
   .refine aY (hB _ (.inl ?_));refine aH dW (λjk fg gm fo=>?_);refine bB gm (λkC hi jl e9 jV=>?_);obtain⟨af,ew,h⟩:=aD h;obtain⟨ak,eY,h⟩:=aD h;obtain⟨aJ,cI,h⟩:=aD h;refine ku (bJ [(0,.slice (a0.map gK)),(3,.ao 4 ((List.set b2 (Int.toNat bu) ak).map cr)),(4,.int .i64 bu)] (λP ai=>?_) ?_)
    .simp only[aM.down,simprocAttr,el,eL,CZ,s_,C0,qU,cr,gK,ew,cI,cR cI,dN,dp];refine ez (aAx af _ eY) rfl rfl rfl rfl (.inl (by rfl)) ?_;simp only[aM.down,simprocAttr,el,eL,CZ,s_,C0,qU,cr,gK,ew,cI,cR cI,dN,dp];(try simp only[bf.down,simprocAttr,cr,gK,ew,cI,cR cI,dN,dp]at ai⊢);exact ai
    refine hi _ (fg _ (.inl ?_));refine wr [(0,.slice (a0.map gK)),(3,.ao 4 ((List.set b2 (Int.toNat bu) ak).map cr)),(4,.int .i64 (IntKind.i64.wrap (bu+1)))] ?_;exact dU _ (.inr ⟨_,bo rfl,kn (List.set b2 (Int.toNat bu) ak) (IntKind.i64.wrap (bu+1)) h⟩)
   .refine dG (eg 0 _ (cx 0 _ (cO _ (eh _ (.inl ?_)))));refine ws _ ?_;exact aE (al _ (.inl (aG [.ao 4 (b2.map cr)])))
 obtain⟨n,h⟩:=dC h;exact dH (.inr ⟨_,bo rfl,km n (List.replicate (Int.toNat (a0.length:Int)) (b_.mk 0 0 0 ([]:List UInt8))) 0 h⟩)
theorem J2 (a0:UInt8) (r:Bool) (h:Ab a0=some r):bk aF 101 [.int .u8 (a0.toNat:Int)] (.bool r) []:=by
 refine bQ [0] [.tmp 2] Tryz.func101 adY (λbI al bN=>?_);refine ws _ ?_;refine cd (bJ [(2,.bool ((decide (97<=(a0.toNat:Int)))&&(decide ((a0.toNat:Int)<=122))))] (λP ai=>?_) ?_)
 .rcases Bool.eq_false_or_eq_true (decide (97<=(a0.toNat:Int)))with ff|ff
  .simp only[aM.down,simprocAttr,ff];(try simp only[bf.down,simprocAttr,ff]at ai⊢);exact ai
  .simp only[aM.down,simprocAttr,ff];(try simp only[bf.down,simprocAttr,ff]at ai⊢);exact ai
 exact aE (al _ (.inl (aG [.bool ((decide (97<=(a0.toNat:Int)))&&(decide ((a0.toNat:Int)<=122)))])))
theorem J3 (a0:UInt8) (r:Bool) (h:xz a0=some r):bk aF 102 [.int .u8 (a0.toNat:Int)] (.bool r) []:=by
 refine bQ [0] [.tmp 2] Tryz.func102 ad1 (λbI al bN=>?_);refine ws _ ?_;refine cd (bJ [(2,.bool ((decide (48<=(a0.toNat:Int)))&&(decide ((a0.toNat:Int)<=57))))] (λP ai=>?_) ?_)
 .rcases Bool.eq_false_or_eq_true (decide (48<=(a0.toNat:Int)))with ff|ff
  .simp only[aM.down,simprocAttr,ff];(try simp only[bf.down,simprocAttr,ff]at ai⊢);exact ai
  .simp only[aM.down,simprocAttr,ff];(try simp only[bf.down,simprocAttr,ff]at ai⊢);exact ai
 exact aE (al _ (.inl (aG [.bool ((decide (48<=(a0.toNat:Int)))&&(decide ((a0.toNat:Int)<=57)))])))
theorem x9 (a0:List UInt8) (r:Bool) (h:uI a0=some r):bk aF 80 [.str a0] (.bool r) []:=by
 refine bQ [0] [.tmp 2] Tryz.func80 aec (λbI al bN=>?_);refine ws _ ?_;refine aH al (λej bX bp ak=>?_);rcases eS h with⟨bD,h⟩|⟨bD,h⟩
 .refine gv bD _ ?_;refine iW rfl ?_;refine ws _ ?_;exact aE (bp _ (.inl (aG [.bool false])))
 .rcases eS h with⟨cO,h⟩|⟨cO,h⟩
  .refine gv (And.intro bD cO) _ ?_;refine iW rfl ?_;refine ws _ ?_;exact aE (bp _ (.inl (aG [.bool false])))
  .obtain⟨af,h8,h⟩:=aD h;obtain⟨ak,h9,h⟩:=aD h;refine cd (bJ [(0,.str a0),(16,.bool (!ak))] (λP ai=>?_) ?_)
   .simp only[aM.down,simprocAttr,eL,bD,cO,h8];refine fT (J2 af _ h9) rfl rfl rfl rfl (.inl (by rfl)) ?_;simp only[aM.down,simprocAttr,eL,bD,cO,h8];(try simp only[bf.down,simprocAttr,bD,cO,h8]at ai⊢);exact ai
   refine aR h (λdx h=>?_) (λdx h=>?_)
   .refine ws _ ?_;exact aE (bp _ (.inl (aG [.bool false])))
   .refine aY (bX _ (.inl ?_));refine aH al (λkC hi jl jV=>?_);refine ws _ ?_;refine bB jl (λiK fa eW iL h6=>?_);have h1:∀(n:Nat) (cG:Int),xA a0 n cG=some r->du aF PU iK (ab [(0,.str a0),(3,.int .i64 cG)]):=by
     intro m14;induction m14 with
     |zero=>intro cG h;cases(show none=some r from h)
     |succ m14 hC=>
      intro cG h;replace h:Du (xA a0 m14) a0 cG=some r:=h;refine dK eW (λlS g_ gL jq=>?_);refine aH gL (λq4 kz lu nv=>?_);refine ws _ ?_;refine aR h (λie h=>?_) (λie h=>?_)
      .refine aY (kz _ (.inl ?_));refine aH gL (λFX q6 x_ qd=>?_);refine bB x_ (λRm ya FY fG vl=>?_);obtain⟨aJ,gb,h⟩:=aD h;obtain⟨a8,l7,h⟩:=aD h;rcases eS h with⟨ka,h⟩|⟨ka,h⟩
       .obtain⟨bb,l8,h⟩:=aD h;refine cd (bJ [(0,.str a0),(3,.int .i64 cG),(34,.bool (!bb))] (λP ai=>?_) ?_)
        .simp only[aM.down,simprocAttr,eL,gb,(gk ka)];refine ez (J2 aJ _ l7) rfl rfl rfl rfl (.inl (by rfl)) ?_;simp only[aM.down,simprocAttr,eL,gb,(gk ka)];refine fT (J3 aJ _ l8) rfl rfl rfl rfl (.inl (by rfl)) ?_;simp only[aM.down,simprocAttr,eL,gb,(gk ka)];(try simp only[bf.down,simprocAttr,gb,(gk ka)]at ai⊢);exact ai
        refine aR h (λhS h=>?_) (λhS h=>?_)
        .refine ws _ ?_;exact aE (FY _ (.inl (aG [.bool false])))
        .refine aY (ya _ (q6 _ (.inl ?_)));refine wr _ ?_;exact g_ _ (.inr ⟨_,bo rfl,hC (IntKind.i64.wrap (cG+1)) h⟩)
       .refine gT (And.intro gb (bY ka)) (J2 aJ _ l7) _ ?_;refine rN rfl ?_;refine aY (ya _ (q6 _ (.inl ?_)));refine wr _ ?_;exact g_ _ (.inr ⟨_,bo rfl,hC (IntKind.i64.wrap (cG+1)) h⟩)
      .refine dG (nv 0 _ (jq 0 _ (iL _ (hi _ (.inl ?_)))));refine ws _ ?_;exact aE (al _ (.inl (aG [.bool true])))
    obtain⟨n,h⟩:=dC h;exact dH (.inr ⟨_,bo rfl,h1 n 0 h⟩)
theorem kY (a0:Int) (R:Int) (a2:Int) (r:Bool) (h:kS a0 R a2=some r):bk aF 65 [.int .i64 a0,.int .i64 R,.int .i64 a2] (.bool r) []:=by
 refine bQ [0,1,2] [.tmp 6] Tryz.func65 aef (λbI al bN=>?_);refine ws _ ?_;refine cd (bJ [(6,.bool ((decide (R<=a0))&&(decide (a0<=a2))))] (λP ai=>?_) ?_)
 .rcases Bool.eq_false_or_eq_true (decide (R<=a0))with ff|ff
  .simp only[aM.down,simprocAttr,ff];(try simp only[bf.down,simprocAttr,ff]at ai⊢);exact ai
  .simp only[aM.down,simprocAttr,ff];(try simp only[bf.down,simprocAttr,ff]at ai⊢);exact ai
 exact aE (al _ (.inl (aG [.bool ((decide (R<=a0))&&(decide (a0<=a2)))])))
theorem Rn (a0:bH) (r:Int) (h:Ad a0=some r):bk aF 129 [.ref (cX a0)] (.int .i64 r) []:=by
 refine bQ [0] [.tmp 2] Tryz.func129 aes (λbI al bN=>?_);refine ws _ ?_;refine aH al (λej bX bp ak=>?_);refine ws _ ?_;refine bB bp (λdV eh b5 bD a8=>?_);have vA:∀(h0:Bool),Ac a0 h0=some r->dc aF PV dV (ab [(6,.int .i64 a0.Kind),(7,.bool h0)]):=by
  intro h0 h;refine aR h (λcO h=>?_) (λcO h=>?_)
  .refine ws _ ?_;exact aE (b5 _ (.inl (aG [.int .i64 1])))
  .refine ws _ ?_;refine aR h (λhQ h=>?_) (λhQ h=>?_)
   .refine ws _ ?_;exact aE (b5 _ (.inl (aG [.int .i64 2])))
   .refine aY (eh _ (bX _ (.inl ?_)));refine ws _ ?_;exact aE (al _ (.inl (aG [.int .i64 0])))
 refine aH b5 (λh2 ee dj bb=>?_);refine ws _ ?_;refine aR h (λga h=>?_) (λga h=>?_)
 .simp only[ga,Bc.down];exact aY (ee _ (.inr ⟨_,bo rfl,vA true h⟩))
 .refine ws _ ?_;refine aR h (λeX h=>?_) (λeX h=>?_)
  .simp only[eX,Bc.down];exact aY (ee _ (.inr ⟨_,bo rfl,vA true h⟩))
  .refine wr _ ?_;exact ee _ (.inr ⟨_,bo rfl,vA (a0.Kind==4) h⟩)
theorem aAy (a0:List bH) (r:Bool) (h:Dw a0=some r):bk aF 103 [.slice (a0.map cX)] (.bool r) []:=by
 refine bQ [0] [.tmp 2] Tryz.func103 aeH (λbI al bN=>?_);refine ws _ ?_;refine aH al (λej bX bp ak=>?_);refine cd (bJ [(0,.slice (a0.map cX)),(12,.bool (((a0.length:Int)==0)||(decide (20<(a0.length:Int)))))] (λP ai=>?_) ?_)
 .rcases Bool.eq_false_or_eq_true ((a0.length:Int)==0)with ho|ho
  .simp only[aM.down,simprocAttr,FL.down,ho];(try simp only[bf.down,simprocAttr,n6.down,ho]at ai⊢);exact ai
  .simp only[aM.down,simprocAttr,FL.down,ho];(try simp only[bf.down,simprocAttr,n6.down,ho]at ai⊢);exact ai
 refine aR h (λdQ h=>?_) (λdQ h=>?_)
 .refine ws _ ?_;exact aE (bp _ (.inl (aG [.bool false])))
 .refine aY (bX _ (.inl ?_));refine ws _ ?_;refine aH al (λhR hB hv eg=>?_);refine ws _ ?_;refine bB hv (λe4 cu cM dx df=>?_);have kV:∀(n:Nat) (oB:Int) (pe:Int),uJ a0 n oB pe=some r->du aF PW e4 (ab [(0,.slice (a0.map cX)),(3,.int .i64 oB),(4,.int .i64 pe)]):=by
   intro m16;induction m16 with
   |zero=>intro oB pe h;cases(show none=some r from h)
   |succ m16 kW=>
    intro oB pe h;replace h:Dv (uJ a0 m16) a0 oB pe=some r:=h;refine dK cM (λjk fg gm fo=>?_);refine aH gm (λkC hi jl jV=>?_);refine ws _ ?_;refine aR h (λiL h=>?_) (λiL h=>?_)
    .refine aY (hi _ (.inl ?_));refine aH gm (λlS g_ gL jq=>?_);refine bB gL (λq4 kz lu kZ nv=>?_);refine aH lu (λmR kD js iz=>?_);refine ws _ ?_;refine aR h (λkX h=>?_) (λkX h=>?_)
     .refine ws _ ?_;exact aE (js _ (.inl (aG [.bool false])))
     .refine aY (kD _ (.inl ?_));obtain⟨af,gb,h⟩:=aD h;obtain⟨ak,l7,h⟩:=aD h;refine JW gb (Rn af _ l7) _ ?_;refine kz _ (g_ _ (.inl ?_));refine wr _ ?_;exact fg _ (.inr ⟨_,bo rfl,kW (IntKind.i64.wrap (oB+(IntKind.i64.wrap (ak-1)))) (IntKind.i64.wrap (pe+1)) h⟩)
    .refine dG (jV 0 _ (fo 0 _ (dx _ (hB _ (.inl ?_)))));refine ws _ ?_;exact aE (al _ (.inl (aG [.bool (oB==0)])))
  obtain⟨n,h⟩:=dC h;exact dH (.inr ⟨_,bo rfl,kV n 1 0 h⟩)
theorem aAz (a0:bH) (r:Bool) (h:Jd a0=some r):bk aF 130 [.ref (cX a0)] (.bool r) []:=by
 refine bQ [0] [.tmp 2] Tryz.func130 ae0 (λbI al bN=>?_);refine ws _ ?_;refine aH al (λej bX bp ak=>?_);refine ws _ ?_;refine bB bp (λdV eh b5 bD a8=>?_);have yb:∀(Ae:Bool),Dx a0 Ae=some r->dc aF PX dV (ab [(0,.ref (cX a0)),(6,.int .i64 a0.Kind),(7,.bool Ae)]):=by
  intro Ae h;refine aR h (λcO h=>?_) (λcO h=>?_)
  .refine cd (bJ [(2,.bool (((a0.Number==0)&&(a0.Name==([]:List UInt8)))&&((a0.cN.length:Int)==0)))] (λP ai=>?_) ?_)
   ·(rcases Bool.eq_false_or_eq_true (a0.Number==0)with A_|A_)<;>(rcases Bool.eq_false_or_eq_true (a0.Name==([]:List UInt8))with n4|n4)<;>
     (simp only[aM.down,simprocAttr,pv.down,A_,n4]
      (try simp only[bf.down,simprocAttr,n6.down,A_,n4]at ai⊢);exact ai)
   exact aE (b5 _ (.inl (aG [.bool (((a0.Number==0)&&(a0.Name==([]:List UInt8)))&&((a0.cN.length:Int)==0))])))
  .refine ws _ ?_;refine aR h (λl6 h=>?_) (λl6 h=>?_)
   .refine ws _ ?_;exact aE (b5 _ (.inl (aG [.bool (a0.Number==0)])))
   .refine ws _ ?_;refine aR h (λiL h=>?_) (λiL h=>?_)
    .refine cd (bJ [(2,.bool ((a0.Number==0)&&(a0.Name==([]:List UInt8))))] (λP ai=>?_) ?_)
     .rcases Bool.eq_false_or_eq_true (a0.Number==0)with vv|vv
      .simp only[aM.down,simprocAttr,pv.down,vv];(try simp only[bf.down,simprocAttr,n6.down,vv]at ai⊢);exact ai
      .simp only[aM.down,simprocAttr,pv.down,vv];(try simp only[bf.down,simprocAttr,n6.down,vv]at ai⊢);exact ai
     exact aE (b5 _ (.inl (aG [.bool ((a0.Number==0)&&(a0.Name==([]:List UInt8)))])))
    .refine ws _ ?_;refine aR h (λie h=>?_) (λie h=>?_)
     .refine cd (bJ [(2,.bool ((a0.Name==([]:List UInt8))&&((a0.cN.length:Int)==0)))] (λP ai=>?_) ?_)
      .rcases Bool.eq_false_or_eq_true (a0.Name==([]:List UInt8))with vo|vo
       .simp only[aM.down,simprocAttr,pv.down,vo];(try simp only[bf.down,simprocAttr,n6.down,vo]at ai⊢);exact ai
       .simp only[aM.down,simprocAttr,pv.down,vo];(try simp only[bf.down,simprocAttr,n6.down,vo]at ai⊢);exact ai
      exact aE (b5 _ (.inl (aG [.bool ((a0.Name==([]:List UInt8))&&((a0.cN.length:Int)==0))])))
     .refine ws _ ?_;refine aR h (λq7 h=>?_) (λq7 h=>?_)
      .refine ws _ ?_;exact aE (b5 _ (.inl (aG [.bool (a0.Name==([]:List UInt8))])))
      .refine aY (eh _ (bX _ (.inl ?_)));refine ws _ ?_;exact aE (al _ (.inl (aG [.bool false])))
 refine aH b5 (λh2 ee dj bb=>?_);refine ws _ ?_;refine aR h (λhS h=>?_) (λhS h=>?_)
 .simp only[hS,Bc.down];exact aY (ee _ (.inr ⟨_,bo rfl,yb true h⟩))
 .refine wr _ ?_;exact ee _ (.inr ⟨_,bo rfl,yb (a0.Kind==2) h⟩)
theorem aAA (a0:List bH) (R:Int) (r:Int) (h:Dz a0 R=some r):bk aF 149 [.slice (a0.map cX),.int .i64 R] (.int .i64 r) []:=by
 refine bQ [0] [.tmp 4] Tryz.func149 ae8 (λbI al bN=>?_);refine ws _ ?_;refine ws _ ?_;refine aH al (λj_ f_ dk aJ=>?_);refine bB dk (λdV eh b5 bD a8=>?_);have fq:∀(n:Nat) (aU:Int) (aK:Int),uK a0 n aU aK=some r->du aF PY dV (ab [(0,.slice (a0.map cX)),(1,.int .i64 aU),(5,.int .i64 aK)]):=by
  intro m6;induction m6 with
  |zero=>intro aU aK h;cases(show none=some r from h)
  |succ m6 fl=>
   intro aU aK h;replace h:Dy (uK a0 m6) a0 aU aK=some r:=h;refine dK b5 (λh2 ee dj bb=>?_);refine aH dj (λeZ dy dw bO=>?_);refine ws _ ?_;refine aR h (λb6 h=>?_) (λb6 h=>?_)
   .refine aY (dy _ (.inl ?_));refine bB dj (λeB cQ cj hQ de=>?_);obtain⟨af,nJ,h⟩:=aD h;obtain⟨ak,er,h⟩:=aD h;refine gT nJ (Rn af _ er) _ ?_;refine wr _ ?_;exact cQ _ (ee _ (.inr ⟨_,bo rfl,fl (IntKind.i64.wrap (aU+1)) (IntKind.i64.wrap (aK+(IntKind.i64.wrap (ak-1)))) h⟩))
   .refine dG (bO 0 _ (bb 0 _ (bD _ (f_ _ (.inl ?_)))));refine ws _ ?_;exact aE (al _ (.inl (aG [.int .i64 aU])))
 obtain⟨n,h⟩:=dC h;exact dH (.inr ⟨_,bo rfl,fq n R 1 h⟩)
theorem aAB (a0:bs) (R:Int) (r:Int) (h:xD a0 R=some r):bk aF 131 [.ref (bP a0),.int .i64 R] (.int .i64 r) []:=by
 refine bQ [0,1] [.tmp 4] Tryz.func131 afg (λbI al bN=>?_);refine ws _ ?_;refine ws _ ?_;refine aH al (λj_ f_ dk aJ=>?_);refine ws _ ?_;refine bB dk (λh2 ee dj dQ bb=>?_);have km:∀(n:Nat) (ic:Int) (lM:Int),tc a0 R n ic lM=some r->du aF P0 h2 (ab [(0,.ref (bP a0)),(1,.int .i64 R),(5,.int .i64 ic),(6,.int .i64 lM)]):=by
  intro m8;induction m8 with
  |zero=>intro ic lM h;cases(show none=some r from h)
  |succ m8 kn=>
   intro ic lM h;replace h:DA (tc a0 R m8) a0 R ic lM=some r:=h;refine dK dj (λeZ dy dw bO=>?_);refine aH dw (λhh dU dW cx=>?_);refine ws _ ?_;refine aR h (λhQ h=>?_) (λhQ h=>?_)
   .refine aY (dU _ (.inl ?_));have yc:∀(xB:Int) (xC:Int),Af (tc a0 R m8) a0 R xB xC=some r->dc aF PZ eZ (ab [(0,.ref (bP a0)),(1,.int .i64 R),(5,.int .i64 xB),(6,.int .i64 xC)]):=by
     intro xB xC h;refine wr _ ?_;exact dy _ (.inr ⟨_,bo rfl,kn xB (IntKind.i64.wrap (xC+1)) h⟩)
    refine aH dw (λe4 cu cM df=>?_);refine bB cM (λkC hi jl e9 jV=>?_);obtain⟨af,ew,h⟩:=aD h;rcases eS h with⟨eX,h⟩|⟨eX,h⟩
    .obtain⟨ak,cI,h⟩:=aD h;refine cd (bJ [(0,.ref (bP a0)),(1,.int .i64 R),(5,.int .i64 ic),(6,.int .i64 lM),(34,.bool (decide (R<ak)))] (λP ai=>?_) ?_)
     .simp only[aM.down,simprocAttr,q1.down,ew,eX];refine fT (aAA a0.Body lM _ cI) rfl rfl rfl rfl (.inl (by rfl)) ?_;simp only[aM.down,simprocAttr,q1.down,ew,eX];(try simp only[bf.down,simprocAttr,iJ.down,ew,eX]at ai⊢);exact ai
     refine aR h (λkE h=>?_) (λkE h=>?_)
     .refine wr _ ?_;exact hi _ (cu _ (.inr ⟨_,bo rfl,yc (IntKind.i64.wrap (ic+1)) lM h⟩))
     .exact aY (hi _ (cu _ (.inr ⟨_,bo rfl,yc ic lM h⟩)))
    .refine gv (And.intro ew eX) _ ?_;refine rN rfl ?_;exact aY (hi _ (cu _ (.inr ⟨_,bo rfl,yc ic lM h⟩)))
   .refine dG (cx 0 _ (bO 0 _ (dQ _ (f_ _ (.inl ?_)))));refine ws _ ?_;exact aE (al _ (.inl (aG [.int .i64 ic])))
 obtain⟨n,h⟩:=dC h;exact dH (.inr ⟨_,bo rfl,km n a0.dE 0 h⟩)
theorem aAC (a0:b1) (R:Int) (r:Bool) (h:DB a0 R=some r):bk aF 150 [.ref (cn a0),.int .i64 R] (.bool r) []:=by
 refine bQ [0,1] [.tmp 4] Tryz.func150 afw (λbI al bN=>?_);refine ws _ ?_;refine aH al (λej bX bp ak=>?_);refine ws _ ?_;refine bB bp (λdV eh b5 bD a8=>?_);refine ws _ ?_;refine aR h (λcO h=>?_) (λcO h=>?_)
 .obtain⟨af,h8,h⟩:=aD h;refine dt (kY a0.Value 0 63 _ h8) _ ?_;exact aE (b5 _ (.inl (aG [.bool af])))
 .refine ws _ ?_;refine aR h (λdx h=>?_) (λdx h=>?_)
  .obtain⟨ak,er,h⟩:=aD h;refine dt (kY a0.Value 0 (IntKind.i64.wrap (R-1)) _ er) _ ?_;exact aE (b5 _ (.inl (aG [.bool ak])))
  .refine ws _ ?_;refine aR h (λiL h=>?_) (λiL h=>?_)
   .obtain⟨aJ,cI,h⟩:=aD h;refine dt (kY a0.Value 0 8 _ cI) _ ?_;exact aE (b5 _ (.inl (aG [.bool aJ])))
   .refine ws _ ?_;refine aR h (λie h=>?_) (λie h=>?_)
    .refine ws _ ?_;exact aE (b5 _ (.inl (aG [.bool (a0.Value==0)])))
    .refine aY (eh _ (bX _ (.inl ?_)));refine ws _ ?_;exact aE (al _ (.inl (aG [.bool false])))
theorem aAD (a0:b1) (r:Int) (h:Je a0=some r):bk aF 151 [.ref (cn a0)] (.int .i64 r) []:=by
 refine bQ [0] [.tmp 2] Tryz.func151 afG (λbI al bN=>?_);refine ws _ ?_;refine aH al (λej bX bp ak=>?_);refine ws _ ?_;refine bB bp (λdV eh b5 bD a8=>?_);refine ws _ ?_;refine aR h (λcO h=>?_) (λcO h=>?_)
 .refine ws _ ?_;exact aE (b5 _ (.inl (aG [.int .i64 2])))
 .refine ws _ ?_;refine aR h (λhQ h=>?_) (λhQ h=>?_)
  .refine ws _ ?_;exact aE (b5 _ (.inl (aG [.int .i64 1])))
  .refine aY (eh _ (bX _ (.inl ?_)));refine ws _ ?_;exact aE (al _ (.inl (aG [.int .i64 0])))
theorem aAE (a0:List b1) (R:Int) (a2:Int) (r:Bool) (h:DD a0 R a2=some r):bk aF 132 [.slice (a0.map cn),.int .i64 R,.int .i64 a2] (.bool r) []:=by
 refine bQ [0,1,2] [.tmp 6] Tryz.func132 afV (λbI al bN=>?_);refine ws _ ?_;refine aH al (λej bX bp ak=>?_);refine ws _ ?_;refine aR h (λbD h=>?_) (λbD h=>?_)
 .refine ws _ ?_;exact aE (bp _ (.inl (aG [.bool false])))
 .refine aY (bX _ (.inl ?_));refine ws _ ?_;refine aH al (λhh dU dW cx=>?_);refine ws _ ?_;refine bB dW (λeB cQ cj hQ de=>?_);have kV:∀(n:Nat) (h0:Int) (oC:Int),uL a0 R n h0 oC=some r->du aF P1 eB (ab [(0,.slice (a0.map cn)),(1,.int .i64 R),(7,.int .i64 h0),(8,.int .i64 oC)]):=by
   intro m16;induction m16 with
   |zero=>intro h0 oC h;cases(show none=some r from h)
   |succ m16 kW=>
    intro h0 oC h;replace h:DC (uL a0 R m16) a0 R h0 oC=some r:=h;refine dK cj (λe4 cu cM df=>?_);refine aH cM (λjk fg gm fo=>?_);refine ws _ ?_;refine aR h (λga h=>?_) (λga h=>?_)
    .refine aY (fg _ (.inl ?_));refine aH cM (λiK fa eW h6=>?_);refine bB eW (λlS g_ gL eX jq=>?_);refine aH gL (λq4 kz lu nv=>?_);rcases eS h with⟨ie,h⟩|⟨ie,h⟩
     .refine gv ie _ ?_;refine iW rfl ?_;refine ws _ ?_;exact aE (lu _ (.inl (aG [.bool false])))
     .obtain⟨af,iq,h⟩:=aD h;obtain⟨ak,kk,h⟩:=aD h;refine cd (bJ [(0,.slice (a0.map cn)),(1,.int .i64 R),(7,.int .i64 h0),(8,.int .i64 oC),(28,.bool (!ak))] (λP ai=>?_) ?_)
      .simp only[aM.down,simprocAttr,oK.down,ie,iq];refine fT (aAC af R _ kk) rfl rfl rfl rfl (.inl (by rfl)) ?_;simp only[aM.down,simprocAttr,oK.down,ie,iq];(try simp only[bf.down,simprocAttr,cn,ie,iq]at ai⊢);exact ai
      refine aR h (λq7 h=>?_) (λq7 h=>?_)
      .refine ws _ ?_;exact aE (lu _ (.inl (aG [.bool false])))
      .refine aY (kz _ (.inl ?_));obtain⟨aJ,l8,h⟩:=aD h;refine JW iq (aAD af _ l8) _ ?_;refine g_ _ (fa _ (.inl ?_));refine wr _ ?_;exact cu _ (.inr ⟨_,bo rfl,kW (IntKind.i64.wrap (h0+(IntKind.i64.wrap (aJ-1)))) (IntKind.i64.wrap (oC+1)) h⟩)
    .refine dG (fo 0 _ (df 0 _ (hQ _ (dU _ (.inl ?_)))));refine ws _ ?_;exact aE (al _ (.inl (aG [.bool (h0==0)])))
  obtain⟨n,h⟩:=dC h;exact dH (.inr ⟨_,bo rfl,kV n 1 0 h⟩)
theorem aAF (a0:List bs) (R:bs) (a2:Int) (r:Int) (h:Aj a0 R a2=some r):bk aF 104 [.slice (a0.map bP),.ref (bP R),.int .i64 a2] (.int .i64 r) []:=by
 refine bQ [0,1,2] [.tmp 6] Tryz.func104 agz (λbI al bN=>?_);refine ws _ ?_;obtain⟨af,aQ,h⟩:=aD h;refine gv aQ _ ?_;refine aH al (λdV eh b5 a8=>?_);obtain⟨ak,cc,h⟩:=aD h;refine cd (bJ [(0,.slice (a0.map bP)),(1,.ref (bP R)),(2,.int .i64 a2),(7,.bh (cX af)),(19,.bool (!ak))] (λP ai=>?_) ?_)
 .refine ez (aAz af _ cc) rfl rfl (by simp only[aM.down,simprocAttr,iJ.down,hq,hr,hs,dI, @cm _ fj fj (λ_=>JM _)]<;>rfl) rfl (.inr (by rfl)) ?_;simp only[aM.down,simprocAttr,iJ.down];(try simp only[bf.down,simprocAttr,iJ.down]at ai⊢);exact ai
 refine aR h (λpQ h=>?_) (λpQ h=>?_)
 .refine ws _ ?_;exact aE (b5 _ (.inl (aG [.int .i64 2])))
 .refine aY (eh _ (.inl ?_));refine aH al (λeB cQ cj de=>?_);have Ro:∀(Ai:Bool),DF a0 R a2 af Ai=some r->dc aF P2 eB (ab [(0,.slice (a0.map bP)),(1,.ref (bP R)),(2,.int .i64 a2),(7,.bh (cX af)),(28,.bool Ai)]):=by
   intro Ai h;refine aR h (λdx h=>?_) (λdx h=>?_)
   .refine ws _ ?_;exact aE (cj _ (.inl (aG [.int .i64 3])))
   .refine aY (cQ _ (.inl ?_));refine aH al (λkC hi jl jV=>?_);have Bf:∀(Ah:Bool),uN a0 R a2 af Ah=some r->dc aF P3 kC (ab [(0,.slice (a0.map bP)),(1,.ref (bP R)),(2,.int .i64 a2),(7,.bh (cX af)),(51,.bool Ah)]):=by
     intro Ah h;refine aR h (λga h=>?_) (λga h=>?_)
     .refine ws _ ?_;exact aE (jl _ (.inl (aG [.int .i64 4])))
     .refine aY (hi _ (.inl ?_));refine ws _ ?_;have FZ:uM R a2 af=some r->dc aF P6 bI (ab [(1,.ref (bP R)),(2,.int .i64 a2),(7,.bh (cX af)),(8,.int .i64 (af.cN.length:Int))]):=by
       intro h;refine aH al (λmR kD js iz=>?_);have J4:∀(Ag:Bool),xE R a2 af Ag=some r->dc aF P4 mR (ab [(1,.ref (bP R)),(2,.int .i64 a2),(7,.bh (cX af)),(8,.int .i64 (af.cN.length:Int)),(102,.bool Ag)]):=by
        intro Ag h;refine aR h (λie h=>?_) (λie h=>?_)
        .refine ws _ ?_;exact aE (js _ (.inl (aG [.int .i64 6])))
        .refine aY (kD _ (.inl ?_));obtain⟨aJ,kk,h⟩:=aD h;refine dt (aAB R a2 _ kk) _ ?_;refine aH al (λq5 kA kB mA=>?_);refine cd (bJ [(7,.bh (cX af)),(8,.int .i64 (af.cN.length:Int)),(9,.int .i64 aJ),(112,.bool ((af.Kind==4)&&(decide (6<=aJ))))] (λP ai=>?_) ?_)
         .rcases Bool.eq_false_or_eq_true (af.Kind==4)with vr|vr
          .simp only[aM.down,simprocAttr,pv.down,vr];(try simp only[bf.down,simprocAttr,n6.down,vr]at ai⊢);exact ai
          .simp only[aM.down,simprocAttr,pv.down,vr];(try simp only[bf.down,simprocAttr,n6.down,vr]at ai⊢);exact ai
         refine aR h (λmS h=>?_) (λmS h=>?_)
         .refine ws _ ?_;exact aE (kB _ (.inl (aG [.int .i64 7])))
         .refine aY (kA _ (.inl ?_));refine aH al (λaAG J5 F1 Rp=>?_);refine ws _ ?_;refine bB F1 (λF2 vB yd jm F3=>?_);have aAH:∀(n:Nat) (pf:Int) (pg:Int),td af n pf pg=some r->du aF P5 F2 (ab [(7,.bh (cX af)),(8,.int .i64 (af.cN.length:Int)),(9,.int .i64 pf),(10,.int .i64 pg)]):=by
           intro J6;induction J6 with
           |zero=>intro pf pg h;cases(show none=some r from h)
           |succ J6 aAI=>
            intro pf pg h;replace h:DE (td af J6) af pf pg=some r:=h;refine dK yd (λaAJ J7 F4 Rq=>?_);refine aH F4 (λRr Bg F5 J8=>?_);refine ws _ ?_;refine aR h (λjt h=>?_) (λjt h=>?_)
            .refine aY (Bg _ (.inl ?_));refine aH F4 (λJ9 Bh vC J_=>?_);refine bB vC (λaIr aAK aAL nz aIs=>?_);obtain⟨a8,ye,h⟩:=aD h;obtain⟨bb,Ka,h⟩:=aD h;refine gT ye (aAE a8 pf 15 _ Ka) _ ?_;refine aR h (λpx h=>?_) (λpx h=>?_)
             .refine ws _ ?_;exact aE (aAL _ (.inl (aG [.int .i64 8])))
             .refine aY (aAK _ (Bh _ (.inl ?_)));refine wr _ ?_;exact J7 _ (.inr ⟨_,bo rfl,aAI pf (IntKind.i64.wrap (pg+1)) h⟩)
            .refine dG (J8 1 _ (Rq 1 _ (jm _ (J5 _ (.inl ?_)))));refine ws _ ?_;exact aE (al _ (.inl (aG [.int .i64 0])))
          obtain⟨n,h⟩:=dC h;exact dH (.inr ⟨_,bo rfl,aAH n aJ 0 h⟩)
       rcases eS h with⟨py,h⟩|⟨py,h⟩
       .rcases eS h with⟨vD,h⟩|⟨vD,h⟩
        .refine l1 (bJ (K:=eK _) [(1,.ref (bP R)),(2,.int .i64 a2),(7,.bh (cX af)),(8,.int .i64 (af.cN.length:Int)),(102,.bool true)] (λP ai=>?_) ?_)
         .simp only[aM.down,simprocAttr,q1.down,py,vD];(try simp only[bf.down,simprocAttr,iJ.down,py,vD]at ai⊢);exact ai
         exact .inr ⟨_,bo rfl,J4 true h⟩
        .obtain⟨bO,pz,h⟩:=aD h;refine l1 (bJ (K:=eK _) [(1,.ref (bP R)),(2,.int .i64 a2),(7,.bh (cX af)),(8,.int .i64 (af.cN.length:Int)),(102,.bool (bO.Kind !=1))] (λP ai=>?_) ?_)
         .simp only[aM.down,simprocAttr,q1.down,py,vD,pz];(try simp only[bf.down,simprocAttr,iJ.down,py,vD,pz]at ai⊢);exact ai
         exact .inr ⟨_,bo rfl,J4 (bO.Kind !=1) h⟩
       .refine l1 (bJ (K:=eK _) [(1,.ref (bP R)),(2,.int .i64 a2),(7,.bh (cX af)),(8,.int .i64 (af.cN.length:Int)),(102,.bool false)] (λP ai=>?_) ?_)
        .simp only[aM.down,simprocAttr,q1.down,py];(try simp only[bf.down,simprocAttr,iJ.down,py]at ai⊢);exact ai
        exact .inr ⟨_,bo rfl,J4 false h⟩
      refine aH al (λq4 kz lu nv=>?_);refine ws _ ?_;refine bB lu (λRs tp tq Kb Rt=>?_);refine ws _ ?_;refine aR h (λpA h=>?_) (λpA h=>?_)
      .refine cd (bJ [(1,.ref (bP R)),(2,.int .i64 a2),(7,.bh (cX af)),(8,.int .i64 (af.cN.length:Int)),(69,.bool ((decide (2<(af.cN.length:Int)))||((decide (0<(af.cN.length:Int)))&&(af.Name==([116,97,117]:List UInt8)))))] (λP ai=>?_) ?_)
       ·(rcases Bool.eq_false_or_eq_true (decide (2<(af.cN.length:Int)))with Ba|Ba)<;>(rcases Bool.eq_false_or_eq_true (decide (0<(af.cN.length:Int)))with ny|ny)<;>
         (simp only[aM.down,simprocAttr,Bd.down,Ba,ny]
          (try simp only[bf.down,simprocAttr,iJ.down,Ba,ny]at ai⊢);exact ai)
       refine aR h (λKc h=>?_) (λKc h=>?_)
       .refine ws _ ?_;exact aE (tq _ (.inl (aG [.int .i64 5])))
       .exact aY (tp _ (kz _ (.inr ⟨_,bo rfl,FZ h⟩)))
      .refine ws _ ?_;refine aR h (λKd h=>?_) (λKd h=>?_)
       .refine ws _ ?_;refine aR h (λRu h=>?_) (λRu h=>?_)
        .refine ws _ ?_;exact aE (tq _ (.inl (aG [.int .i64 5])))
        .exact aY (tp _ (kz _ (.inr ⟨_,bo rfl,FZ h⟩)))
       .refine ws _ ?_;refine aR h (λaAM h=>?_) (λaAM h=>?_)
        .obtain⟨cx,aAN,h⟩:=aD h;refine gv aAN _ ?_;refine aR h (λaAO h=>?_) (λaAO h=>?_)
         .refine ws _ ?_;exact aE (tq _ (.inl (aG [.int .i64 5])))
         .exact aY (tp _ (kz _ (.inr ⟨_,bo rfl,FZ h⟩)))
        .exact aY (tp _ (kz _ (.inr ⟨_,bo rfl,FZ h⟩)))
    rcases eS h with⟨l9,h⟩|⟨l9,h⟩
    .obtain⟨eg,Ke,h⟩:=aD h;rcases eS h with⟨qj,h⟩|⟨qj,h⟩
     .refine l1 (bJ (K:=eK _) [(0,.slice (a0.map bP)),(1,.ref (bP R)),(2,.int .i64 a2),(7,.bh (cX af)),(51,.bool true)] (λP ai=>?_) ?_)
      .simp only[aM.down,simprocAttr,jN.down,l9,(gk qj)];refine fT (kY af.Number 1 7 _ Ke) rfl rfl rfl rfl (.inl (by rfl)) ?_;simp only[aM.down,simprocAttr,jN.down,l9,(gk qj)];(try simp only[bf.down,simprocAttr,iJ.down,l9,(gk qj)]at ai⊢);exact ai
      exact .inr ⟨_,bo rfl,Bf true h⟩
     .rcases eS h with⟨tr,h⟩|⟨tr,h⟩
      .obtain⟨de,Kf,h⟩:=aD h;refine l1 (bJ (K:=eK _) [(0,.slice (a0.map bP)),(1,.ref (bP R)),(2,.int .i64 a2),(7,.bh (cX af)),(51,.bool (!de))] (λP ai=>?_) ?_)
       .simp only[aM.down,simprocAttr,jN.down,l9,(bY qj),tr];refine fT (kY af.Number 1 7 _ Ke) rfl rfl rfl rfl (.inl (by rfl)) ?_;simp only[aM.down,simprocAttr,jN.down,l9,(bY qj),tr];refine fT (kY af.Number 0 (IntKind.i64.wrap ((a0.length:Int)-1)) _ Kf) rfl rfl rfl rfl (.inl (by rfl)) ?_;simp only[aM.down,simprocAttr,jN.down,l9,(bY qj),tr];(try simp only[bf.down,simprocAttr,iJ.down,l9,(bY qj),tr]at ai⊢);exact ai
       exact .inr ⟨_,bo rfl,Bf (!de) h⟩
      .refine l1 (bJ (K:=eK _) [(0,.slice (a0.map bP)),(1,.ref (bP R)),(2,.int .i64 a2),(7,.bh (cX af)),(51,.bool false)] (λP ai=>?_) ?_)
       .simp only[aM.down,simprocAttr,jN.down,l9,(bY qj),tr];refine fT (kY af.Number 1 7 _ Ke) rfl rfl rfl rfl (.inl (by rfl)) ?_;simp only[aM.down,simprocAttr,jN.down,l9,(bY qj),tr];(try simp only[bf.down,simprocAttr,iJ.down,l9,(bY qj),tr]at ai⊢);exact ai
       exact .inr ⟨_,bo rfl,Bf false h⟩
    .rcases eS h with⟨yf,h⟩|⟨yf,h⟩
     .obtain⟨df,aAP,h⟩:=aD h;refine l1 (bJ (K:=eK _) [(0,.slice (a0.map bP)),(1,.ref (bP R)),(2,.int .i64 a2),(7,.bh (cX af)),(51,.bool (!df))] (λP ai=>?_) ?_)
      .simp only[aM.down,simprocAttr,jN.down,l9,yf];refine fT (kY af.Number 0 (IntKind.i64.wrap ((a0.length:Int)-1)) _ aAP) rfl rfl rfl rfl (.inl (by rfl)) ?_;simp only[aM.down,simprocAttr,jN.down,l9,yf];(try simp only[bf.down,simprocAttr,iJ.down,l9,yf]at ai⊢);exact ai
      exact .inr ⟨_,bo rfl,Bf (!df) h⟩
     .refine l1 (bJ (K:=eK _) [(0,.slice (a0.map bP)),(1,.ref (bP R)),(2,.int .i64 a2),(7,.bh (cX af)),(51,.bool false)] (λP ai=>?_) ?_)
      .simp only[aM.down,simprocAttr,jN.down,l9,yf];(try simp only[bf.down,simprocAttr,iJ.down,l9,yf]at ai⊢);exact ai
      exact .inr ⟨_,bo rfl,Bf false h⟩
  rcases eS h with⟨yg,h⟩|⟨yg,h⟩
  .obtain⟨fo,aAQ,h⟩:=aD h;refine l1 (bJ (K:=eK _) [(0,.slice (a0.map bP)),(1,.ref (bP R)),(2,.int .i64 a2),(7,.bh (cX af)),(28,.bool (!fo))] (λP ai=>?_) ?_)
   .simp only[aM.down,simprocAttr,Bd.down,yg];refine fT (x9 af.Name _ aAQ) rfl rfl rfl rfl (.inl (by rfl)) ?_;simp only[aM.down,simprocAttr,Bd.down,yg];(try simp only[bf.down,simprocAttr,iJ.down,yg]at ai⊢);exact ai
   exact .inr ⟨_,bo rfl,Ro (!fo) h⟩
  .refine l1 (bJ (K:=eK _) [(0,.slice (a0.map bP)),(1,.ref (bP R)),(2,.int .i64 a2),(7,.bh (cX af)),(28,.bool false)] (λP ai=>?_) ?_)
   .simp only[aM.down,simprocAttr,Bd.down,yg];(try simp only[bf.down,simprocAttr,iJ.down,yg]at ai⊢);exact ai
   exact .inr ⟨_,bo rfl,Ro false h⟩
theorem aAR (a0:List bs) (R:bs) (r:Int×Int) (h:xF a0 R=some r):bk aF 81 [.slice (a0.map bP),.ref (bP R)] (.tuple [.int .i64 r.1,.int .i64 r.2]) []:=by
 refine bQ [0,1] [.tmp 4,.tmp 5] Tryz.func81 agN (λbI al bN=>?_);refine ws _ ?_;refine aH al (λej bX bp ak=>?_);obtain⟨af,cC,h⟩:=aD h;refine dt (aAy R.Body _ cC) _ ?_;refine aR h (λdQ h=>?_) (λdQ h=>?_)
 .refine ws _ ?_;exact aE (bp _ (.inl (aG [.int .i64 0,.int .i64 1])))
 .refine aY (bX _ (.inl ?_));refine aH al (λhh dU dW cx=>?_);refine ws _ ?_;refine bB dW (λeB cQ cj hQ de=>?_);have h1:∀(n:Nat) (nn:Int),te a0 R n nn=some r->du aF P7 eB (ab [(0,.slice (a0.map bP)),(1,.ref (bP R)),(6,.int .i64 nn)]):=by
   intro m14;induction m14 with
   |zero=>intro nn h;cases(show none=some r from h)
   |succ m14 hC=>
    intro nn h;replace h:Ak (te a0 R m14) a0 R nn=some r:=h;refine dK cj (λe4 cu cM df=>?_);refine aH cM (λjk fg gm fo=>?_);refine ws _ ?_;refine aR h (λga h=>?_) (λga h=>?_)
    .refine aY (fg _ (.inl ?_));refine aH cM (λiK fa eW h6=>?_);refine bB eW (λlS g_ gL eX jq=>?_);obtain⟨ak,eb,h⟩:=aD h;refine dt (aAF a0 R nn _ eb) _ ?_;refine ws _ ?_;refine aR h (λkX h=>?_) (λkX h=>?_)
     .refine ws _ ?_;exact aE (gL _ (.inl (aG [.int .i64 nn,.int .i64 ak])))
     .refine aY (g_ _ (fa _ (.inl ?_)));refine wr _ ?_;exact cu _ (.inr ⟨_,bo rfl,hC (IntKind.i64.wrap (nn+1)) h⟩)
    .refine dG (fo 0 _ (df 0 _ (hQ _ (dU _ (.inl ?_)))));refine ws _ ?_;exact aE (al _ (.inl (aG [.int .i64 0,.int .i64 0])))
  obtain⟨n,h⟩:=dC h;exact dH (.inr ⟨_,bo rfl,h1 n 0 h⟩)
theorem aAS (a0:List bs) (r:Bool) (h:DJ a0=some r):bk aF 61 [.slice (a0.map bP)] (.bool r) []:=by
 refine bQ [0] [.tmp 2] Tryz.func61 ahe (λbI al bN=>?_);refine ws _ ?_;refine aH al (λej bX bp ak=>?_);refine cd (bJ [(0,.slice (a0.map bP)),(15,.bool (((a0.length:Int)==0)||(decide (4<(a0.length:Int)))))] (λP ai=>?_) ?_)
 .rcases Bool.eq_false_or_eq_true ((a0.length:Int)==0)with ho|ho
  .simp only[aM.down,simprocAttr,jN.down,ho];(try simp only[bf.down,simprocAttr,iJ.down,ho]at ai⊢);exact ai
  .simp only[aM.down,simprocAttr,jN.down,ho];(try simp only[bf.down,simprocAttr,iJ.down,ho]at ai⊢);exact ai
 refine aR h (λdQ h=>?_) (λdQ h=>?_)
 .refine ws _ ?_;exact aE (bp _ (.inl (aG [.bool false])))
 .refine aY (bX _ (.inl ?_));refine aH al (λhh dU dW cx=>?_);refine ws _ ?_;refine bB dW (λeB cQ cj hQ de=>?_);have h1:∀(n:Nat) (cG:Int),pj a0 n cG=some r->du aF P9 eB (ab [(0,.slice (a0.map bP)),(3,.int .i64 cG)]):=by
   intro m14;induction m14 with
   |zero=>intro cG h;cases(show none=some r from h)
   |succ m14 hC=>
    intro cG h;replace h:DI (pj a0 m14) a0 cG=some r:=h;refine dK cj (λe4 cu cM df=>?_);refine aH cM (λjk fg gm fo=>?_);refine ws _ ?_;refine aR h (λga h=>?_) (λga h=>?_)
    .refine aY (fg _ (.inl ?_));refine aH cM (λiK fa eW h6=>?_);refine bB eW (λlS g_ gL eX jq=>?_);refine aH gL (λq4 kz lu nv=>?_);obtain⟨af,e5,h⟩:=aD h;obtain⟨ak,gV,h⟩:=aD h;rcases eS h with⟨fG,h⟩|⟨fG,h⟩
     .refine gT (And.intro e5 (gk fG)) (x9 af.Name _ gV) _ ?_;refine iW rfl ?_;refine ws _ ?_;exact aE (lu _ (.inl (aG [.bool false])))
     .obtain⟨aJ,gb,h⟩:=aD h;refine cd (bJ [(0,.slice (a0.map bP)),(3,.int .i64 cG),(37,.bool (!aJ))] (λP ai=>?_) ?_)
      .simp only[aM.down,simprocAttr,jN.down,e5,(bY fG)];refine ez (x9 af.Name _ gV) rfl rfl rfl rfl (.inl (by rfl)) ?_;simp only[aM.down,simprocAttr,jN.down,e5,(bY fG)];refine fT (kY af.dE 0 3 _ gb) rfl rfl rfl rfl (.inl (by rfl)) ?_;simp only[aM.down,simprocAttr,jN.down,e5,(bY fG)];(try simp only[bf.down,simprocAttr,iJ.down,e5,(bY fG)]at ai⊢);exact ai
      refine aR h (λfH h=>?_) (λfH h=>?_)
      .refine ws _ ?_;exact aE (lu _ (.inl (aG [.bool false])))
      .refine aY (kz _ (.inl ?_));refine ws _ ?_;refine bB gL (λF6 yh yi hS Bi=>?_);have Kg:∀(n:Nat) (np:Int) (oD:Int),uO (pj a0 m14) a0 n np oD=some r->du aF P8 F6 (ab [(0,.slice (a0.map bP)),(3,.int .i64 np),(4,.int .i64 oD)]):=by
        intro vE;induction vE with
        |zero=>intro np oD h;cases(show none=some r from h)
        |succ vE Kh=>
         intro np oD h;replace h:DG (pj a0 m14) (uO (pj a0 m14) a0 vE) a0 np oD=some r:=h;refine dK yi (λaAG J5 F1 Rp=>?_);refine aH F1 (λaAh J1 Rj Rk=>?_);refine ws _ ?_;refine aR h (λjW h=>?_) (λjW h=>?_)
         .refine aY (J1 _ (.inl ?_));refine aH F1 (λRr Bg F5 J8=>?_);refine bB F5 (λaAT F7 Rv pB aAU=>?_);obtain⟨a8,l_,h⟩:=aD h;obtain⟨bb,F8,h⟩:=aD h;refine hX rfl (hY [(0,.slice (a0.map bP)),(3,.int .i64 np),(4,.int .i64 oD),(53,.bool (a8.Name==bb.Name))] (λP ai=>?_) ?_)
          .simp only[dY.down,simprocAttr,jN.down,l_,F8];refine⟨ht (by kernel_rfl),?_⟩;(try simp only[bf.down,simprocAttr,iJ.down,l_,F8]at ai⊢);exact ai
          refine aR h (λr8 h=>?_) (λr8 h=>?_)
          .refine ws _ ?_;exact aE (Rv _ (.inl (aG [.bool false])))
          .refine aY (F7 _ (Bg _ (.inl ?_)));refine wr _ ?_;exact J5 _ (.inr ⟨_,bo rfl,Kh np (IntKind.i64.wrap (oD+1)) h⟩)
         .refine dG (Rk 2 _ (Rp 2 _ (hS _ (g_ _ (fa _ (.inl ?_))))));refine wr _ ?_;exact cu _ (.inr ⟨_,bo rfl,hC (IntKind.i64.wrap (np+1)) h⟩)
       obtain⟨n,h⟩:=dC h;exact dH (.inr ⟨_,bo rfl,Kg n cG 0 h⟩)
    .refine dG (fo 0 _ (df 0 _ (hQ _ (dU _ (.inl ?_)))));refine aH al (λF9 vF Bj F_=>?_);refine ws _ ?_;refine bB Bj (λRw Rx Ry Ki Rz=>?_);have aAV:∀(n:Nat) (ph:Int),tf a0 n ph=some r->du aF P_ Rw (ab [(0,.slice (a0.map bP)),(5,.int .i64 ph)]):=by
      intro Kj;induction Kj with
      |zero=>intro ph h;cases(show none=some r from h)
      |succ Kj aAW=>
       intro ph h;replace h:DH (tf a0 Kj) a0 ph=some r:=h;refine dK Ry (λaAX Kk Ga RA=>?_);refine aH Ga (λaAY Kl RB RC=>?_);refine ws _ ?_;refine aR h (λRD h=>?_) (λRD h=>?_)
       .refine aY (Kl _ (.inl ?_));refine aH Ga (λaAZ Km Kn aA0=>?_);refine bB Kn (λRs tp tq Kb Rt=>?_);obtain⟨bO,Ko,h⟩:=aD h;obtain⟨cx,aA1,h⟩:=aD h;refine gT Ko (aAR a0 bO _ aA1) _ ?_;refine ws _ ?_;refine aR h (λKp h=>?_) (λKp h=>?_)
        .refine ws _ ?_;exact aE (tq _ (.inl (aG [.bool false])))
        .refine aY (tp _ (Km _ (.inl ?_)));refine wr _ ?_;exact Kk _ (.inr ⟨_,bo rfl,aAW (IntKind.i64.wrap (ph+1)) h⟩)
       .refine dG (RC 4 _ (RA 4 _ (Ki _ (vF _ (.inl ?_)))));refine ws _ ?_;exact aE (al _ (.inl (aG [.bool true])))
     obtain⟨n,h⟩:=dC h;exact dH (.inr ⟨_,bo rfl,aAV n 0 h⟩)
  obtain⟨n,h⟩:=dC h;exact dH (.inr ⟨_,bo rfl,h1 n 0 h⟩)
theorem aA2 (a0:List Int) (r:Bool) (h:DL a0=some r):bk aF 82 [.slice (a0.map a1)] (.bool r) []:=by
 refine bQ [0] [.tmp 2] Tryz.func82 aho (λbI al bN=>?_);refine ws _ ?_;refine aH al (λej bX bp ak=>?_);refine ws _ ?_;refine bB bp (λdV eh b5 bD a8=>?_);have fq:∀(n:Nat) (gX:Int),uP a0 n gX=some r->du aF Qa dV (ab [(0,.slice (a0.map a1)),(3,.int .i64 gX)]):=by
  intro m6;induction m6 with
  |zero=>intro gX h;cases(show none=some r from h)
  |succ m6 fl=>
   intro gX h;replace h:DK (uP a0 m6) a0 gX=some r:=h;refine dK b5 (λh2 ee dj bb=>?_);refine aH dj (λeZ dy dw bO=>?_);refine ws _ ?_;refine aR h (λb6 h=>?_) (λb6 h=>?_)
   .refine aY (dy _ (.inl ?_));refine aH dj (λeB cQ cj de=>?_);refine bB cj (λe4 cu cM dx df=>?_);obtain⟨af,er,h⟩:=aD h;obtain⟨ak,et,h⟩:=aD h;refine gT er (kY af 0 63 _ et) _ ?_;refine aR h (λiL h=>?_) (λiL h=>?_)
    .refine ws _ ?_;exact aE (cM _ (.inl (aG [.bool false])))
    .refine aY (cu _ (cQ _ (.inl ?_)));refine wr _ ?_;exact ee _ (.inr ⟨_,bo rfl,fl (IntKind.i64.wrap (gX+1)) h⟩)
   .refine dG (bO 0 _ (bb 0 _ (bD _ (bX _ (.inl ?_)))));refine ws _ ?_;exact aE (al _ (.inl (aG [.bool true])))
 obtain⟨n,h⟩:=dC h;exact dH (.inr ⟨_,bo rfl,fq n 0 h⟩)
theorem aA3 (a0:eI) (r:Bool) (h:DN a0=some r):bk aF 62 [.ref (iI a0)] (.bool r) []:=by
 refine bQ [0] [.tmp 2] Tryz.func62 vu (λbI al bN=>?_);refine ws _ ?_;refine aH al (λej bX bp ak=>?_);refine cd (bJ [(0,.ref (iI a0)),(18,.bool (((a0.bK.length:Int)==0)||(decide (3<(a0.bK.length:Int)))))] (λP ai=>?_) ?_)
 .rcases Bool.eq_false_or_eq_true ((a0.bK.length:Int)==0)with ho|ho
  .simp only[aM.down,simprocAttr,qi.down,ho];(try simp only[bf.down,simprocAttr,x4.down,ho]at ai⊢);exact ai
  .simp only[aM.down,simprocAttr,qi.down,ho];(try simp only[bf.down,simprocAttr,x4.down,ho]at ai⊢);exact ai
 refine aR h (λdQ h=>?_) (λdQ h=>?_)
 .refine ws _ ?_;exact aE (bp _ (.inl (aG [.bool false])))
 .refine aY (bX _ (.inl ?_));refine aH al (λhh dU dW cx=>?_);refine ws _ ?_;refine bB dW (λeB cQ cj hQ de=>?_);have h1:∀(n:Nat) (cG:Int),uQ a0 n cG=some r->du aF Qb eB (ab [(0,.ref (iI a0)),(3,.int .i64 cG)]):=by
   intro m14;induction m14 with
   |zero=>intro cG h;cases(show none=some r from h)
   |succ m14 hC=>
    intro cG h;replace h:DM (uQ a0 m14) a0 cG=some r:=h;refine dK cj (λe4 cu cM df=>?_);refine aH cM (λjk fg gm fo=>?_);refine ws _ ?_;refine aR h (λga h=>?_) (λga h=>?_)
    .refine aY (fg _ (.inl ?_));refine aH cM (λiK fa eW h6=>?_);refine bB eW (λlS g_ gL eX jq=>?_);obtain⟨af,eb,h⟩:=aD h;refine gv eb _ ?_;refine aH gL (λts nA ma nw=>?_);obtain⟨ak,iq,h⟩:=aD h;refine hX rfl (hY [(0,.ref (iI a0)),(3,.int .i64 cG),(4,.bh (fN af)),(44,.bool (!ak))] (λP ai=>?_) ?_)
     .simp only[dY.down,simprocAttr,qi.down];refine j7 (kY af.hM 0 (IntKind.i64.wrap ((a0.fv.length:Int)-1)) _ iq) rfl rfl rfl rfl (.inl (by rfl)) ?_;simp only[dY.down,simprocAttr,qi.down];refine⟨ht (by kernel_rfl),?_⟩;(try simp only[bf.down,simprocAttr,x4.down]at ai⊢);exact ai
     refine aR h (λn7 h=>?_) (λn7 h=>?_)
     .refine ws _ ?_;exact aE (ma _ (.inl (aG [.bool false])))
     .refine aY (nA _ (.inl ?_));obtain⟨aJ,i1,h⟩:=aD h;rcases eS h with⟨mS,h⟩|⟨mS,h⟩
      .refine hX rfl (hY [(0,.ref (iI a0)),(3,.int .i64 cG),(63,.bool true)] (λP ai=>?_) ?_)
       .simp only[dY.down,simprocAttr,qi.down,i1,mS];refine⟨ht (by kernel_rfl),?_⟩;(try simp only[bf.down,simprocAttr,x4.down,i1,mS]at ai⊢);exact ai
       refine iW rfl ?_;refine ws _ ?_;exact aE (gL _ (.inl (aG [.bool false])))
      .obtain⟨a8,kl,h⟩:=aD h;refine hX rfl (hY [(0,.ref (iI a0)),(3,.int .i64 cG),(63,.bool (!a8))] (λP ai=>?_) ?_)
       .simp only[dY.down,simprocAttr,qi.down,i1,mS];refine nW (aA2 af.fE _ kl) rfl rfl rfl rfl (.inl (by rfl)) ?_;simp only[dY.down,simprocAttr,qi.down,i1,mS];refine⟨ht (by kernel_rfl),?_⟩;(try simp only[bf.down,simprocAttr,x4.down,i1,mS]at ai⊢);exact ai
       refine aR h (λvG h=>?_) (λvG h=>?_)
       .refine ws _ ?_;exact aE (gL _ (.inl (aG [.bool false])))
       .refine aY (g_ _ (fa _ (.inl ?_)));refine wr _ ?_;exact cu _ (.inr ⟨_,bo rfl,hC (IntKind.i64.wrap (cG+1)) h⟩)
    .refine dG (fo 0 _ (df 0 _ (hQ _ (dU _ (.inl ?_)))));refine ws _ ?_;exact aE (al _ (.inl (aG [.bool true])))
  obtain⟨n,h⟩:=dC h;exact dH (.inr ⟨_,bo rfl,h1 n 0 h⟩)
theorem pC (a0:List UInt8) (r:Bool) (h:qV a0=some r):bk aF 83 [.str a0] (.bool r) []:=by
 refine bQ [0] [.tmp 2] Tryz.func83 ahH (λbI al bN=>?_);refine ws _ ?_;obtain⟨af,aQ,h⟩:=aD h;refine cd (bJ [(2,.bool (af&&(!(a0==([116,97,117]:List UInt8)))))] (λP ai=>?_) ?_)
 .rcases Bool.eq_false_or_eq_true (af)with ho|ho
  .simp only[aM.down,simprocAttr,ho];refine ez (x9 a0 _ aQ) rfl rfl rfl rfl (.inl (by rfl)) ?_;simp only[aM.down,simprocAttr,ho];(try simp only[bf.down,simprocAttr,ho]at ai⊢);exact ai
  .simp only[aM.down,simprocAttr,ho];refine ez (x9 a0 _ aQ) rfl rfl rfl rfl (.inl (by rfl)) ?_;simp only[aM.down,simprocAttr,ho];(try simp only[bf.down,simprocAttr,ho]at ai⊢);exact ai
 exact aE (al _ (.inl (aG [.bool (af&&(!(a0==([116,97,117]:List UInt8))))])))
theorem aA4 (a0:List b9) (r:Bool) (h:DP a0=some r):bk aF 63 [.slice (a0.map bC)] (.bool r) []:=by
 refine bQ [0] [.tmp 2] Tryz.func63 ah5 (λbI al bN=>?_);refine ws _ ?_;refine aH al (λej bX bp ak=>?_);refine ws _ ?_;refine aR h (λbD h=>?_) (λbD h=>?_)
 .refine ws _ ?_;exact aE (bp _ (.inl (aG [.bool false])))
 .refine aY (bX _ (.inl ?_));refine aH al (λeZ dy dw bO=>?_);refine ws _ ?_;refine bB dw (λhR hB hv b6 eg=>?_);have h1:∀(n:Nat) (cG:Int),mL a0 n cG=some r->du aF Qc hR (ab [(0,.slice (a0.map bC)),(3,.int .i64 cG)]):=by
   intro m14;induction m14 with
   |zero=>intro cG h;cases(show none=some r from h)
   |succ m14 hC=>
    intro cG h;replace h:DO (mL a0 m14) a0 cG=some r:=h;refine dK hv (λeB cQ cj de=>?_);refine aH cj (λe4 cu cM df=>?_);refine ws _ ?_;refine aR h (λe9 h=>?_) (λe9 h=>?_)
    .refine aY (cu _ (.inl ?_));refine aH cj (λlr gU gM jM=>?_);refine bB gM (λiK fa eW iL h6=>?_);obtain⟨af,cI,h⟩:=aD h;refine gv cI _ ?_;refine aH eW (λmR kD js iz=>?_);obtain⟨ak,gV,h⟩:=aD h;rcases eS h with⟨fG,h⟩|⟨fG,h⟩
     .refine gT (gk fG) (pC af.Left _ gV) _ ?_;refine iW rfl ?_;refine ws _ ?_;exact aE (js _ (.inl (aG [.bool false])))
     .obtain⟨aJ,gb,h⟩:=aD h;rcases eS h with⟨fH,h⟩|⟨fH,h⟩
      .refine cd (bJ [(0,.slice (a0.map bC)),(3,.int .i64 cG),(4,.bh (bC af)),(41,.bool true)] (λP ai=>?_) ?_)
       .simp only[aM.down,simprocAttr,oL.down,(bY fG),(gk fH)];refine ez (pC af.Left _ gV) rfl rfl rfl rfl (.inl (by rfl)) ?_;simp only[aM.down,simprocAttr,oL.down,(bY fG),(gk fH)];refine fT (pC af.ch _ gb) rfl rfl rfl rfl (.inl (by rfl)) ?_;simp only[aM.down,simprocAttr,oL.down,(bY fG),(gk fH)];(try simp only[bf.down,simprocAttr,bC,(bY fG),(gk fH)]at ai⊢);exact ai
       refine iW rfl ?_;refine ws _ ?_;exact aE (js _ (.inl (aG [.bool false])))
      .obtain⟨a8,l8,h⟩:=aD h;refine cd (bJ [(0,.slice (a0.map bC)),(3,.int .i64 cG),(4,.bh (bC af)),(41,.bool ((!a8)||(!(Op.bytesLess af.Left af.ch||af.Left==af.ch))))] (λP ai=>?_) ?_)
       .rcases Bool.eq_false_or_eq_true (a8)with oJ|oJ
        .simp only[aM.down,simprocAttr,oL.down,(bY fG),(bY fH),oJ];refine ez (pC af.Left _ gV) rfl rfl rfl rfl (.inl (by rfl)) ?_;simp only[aM.down,simprocAttr,oL.down,(bY fG),(bY fH),oJ];refine fT (pC af.ch _ gb) rfl rfl rfl rfl (.inl (by rfl)) ?_;simp only[aM.down,simprocAttr,oL.down,(bY fG),(bY fH),oJ];refine fT (pC af.Result _ l8) rfl rfl rfl rfl (.inl (by rfl)) ?_;simp only[aM.down,simprocAttr,oL.down,(bY fG),(bY fH),oJ];(try simp only[bf.down,simprocAttr,bC,(bY fG),(bY fH),oJ]at ai⊢);exact ai
        .simp only[aM.down,simprocAttr,oL.down,(bY fG),(bY fH),oJ];refine ez (pC af.Left _ gV) rfl rfl rfl rfl (.inl (by rfl)) ?_;simp only[aM.down,simprocAttr,oL.down,(bY fG),(bY fH),oJ];refine fT (pC af.ch _ gb) rfl rfl rfl rfl (.inl (by rfl)) ?_;simp only[aM.down,simprocAttr,oL.down,(bY fG),(bY fH),oJ];refine fT (pC af.Result _ l8) rfl rfl rfl rfl (.inl (by rfl)) ?_;simp only[aM.down,simprocAttr,oL.down,(bY fG),(bY fH),oJ];(try simp only[bf.down,simprocAttr,bC,(bY fG),(bY fH),oJ]at ai⊢);exact ai
       refine aR h (λqk h=>?_) (λqk h=>?_)
       .refine ws _ ?_;exact aE (js _ (.inl (aG [.bool false])))
       .refine aY (kD _ (.inl ?_));refine aH eW (λF2 vB yd F3=>?_);rcases eS h with⟨jX,h⟩|⟨jX,h⟩
        .obtain⟨bb,q8,h⟩:=aD h;refine hX rfl (hY [(0,.slice (a0.map bC)),(3,.int .i64 cG),(4,.bh (bC af)),(76,.bool ((!(Op.bytesLess bb.Left af.Left||bb.Left==af.Left))||((bb.Left==af.Left)&&(!(Op.bytesLess bb.ch af.ch)))))] (λP ai=>?_) ?_)
         ·(rcases Bool.eq_false_or_eq_true (Op.bytesLess bb.Left af.Left)with Bb|Bb)<;>(rcases Bool.eq_false_or_eq_true (bb.Left==af.Left)with qh|qh)<;>
           (simp only[dY.down,simprocAttr,hP.down,jX,q8,Bb,qh]
            refine⟨ht (by kernel_rfl),?_⟩;(try simp only[bf.down,simprocAttr,bC,jX,q8,Bb,qh]at ai⊢);exact ai)
         refine aR h (λnz h=>?_) (λnz h=>?_)
         .refine ws _ ?_;exact aE (yd _ (.inl (aG [.bool false])))
         .refine aY (vB _ (.inl ?_));refine ws _ ?_;refine bB eW (λKq Bk Bl q9 RE=>?_);have Kr:∀(n:Nat) (kx:Int) (kT:Int),p9 (mL a0 m14) a0 af n kx kT=some r->du aF JQ Kq (ab [(0,.slice (a0.map bC)),(3,.int .i64 kx),(4,.bh (bC af)),(5,.int .i64 kT)]):=by
           intro vH;induction vH with
           |zero=>intro kx kT h;cases(show none=some r from h)
           |succ vH Ks=>
            intro kx kT h;replace h:Al (mL a0 m14) (p9 (mL a0 m14) a0 af vH) a0 af kx kT=some r:=h;refine dK Bl (λaIt aA5 RF aA6=>?_);refine aH RF (λF9 vF Bj F_=>?_);refine ws _ ?_;refine aR h (λKi h=>?_) (λKi h=>?_)
            .refine aY (vF _ (.inl ?_));refine aH RF (λaAX Kk Ga RA=>?_);refine bB Ga (λaAY Kl RB py RC=>?_);obtain⟨bO,pz,h⟩:=aD h;refine hX rfl (hY [(0,.slice (a0.map bC)),(3,.int .i64 kx),(4,.bh (bC af)),(5,.int .i64 kT),(100,.bool ((bO.Left==af.Result)||(bO.ch==af.Result)))] (λP ai=>?_) ?_)
             .rcases Bool.eq_false_or_eq_true (bO.Left==af.Result)with vq|vq
              .simp only[dY.down,simprocAttr,hP.down,pz,vq];refine⟨ht (by kernel_rfl),?_⟩;(try simp only[bf.down,simprocAttr,bC,pz,vq]at ai⊢);exact ai
              .simp only[dY.down,simprocAttr,hP.down,pz,vq];refine⟨ht (by kernel_rfl),?_⟩;(try simp only[bf.down,simprocAttr,bC,pz,vq]at ai⊢);exact ai
             refine aR h (λKb h=>?_) (λKb h=>?_)
             .refine ws _ ?_;exact aE (RB _ (.inl (aG [.bool false])))
             .refine aY (Kl _ (Kk _ (.inl ?_)));refine wr _ ?_;exact aA5 _ (.inr ⟨_,bo rfl,Ks kx (IntKind.i64.wrap (kT+1)) h⟩)
            .refine dG (F_ 2 _ (aA6 2 _ (q9 _ (fa _ (gU _ (.inl ?_))))));refine wr _ ?_;exact cQ _ (.inr ⟨_,bo rfl,hC (IntKind.i64.wrap (kx+1)) h⟩)
          obtain⟨n,h⟩:=dC h;exact dH (.inr ⟨_,bo rfl,Kr n cG 0 h⟩)
        .refine hX rfl (hY [(0,.slice (a0.map bC)),(3,.int .i64 cG),(4,.bh (bC af)),(76,.bool false)] (λP ai=>?_) ?_)
         .simp only[dY.down,simprocAttr,hP.down,jX];refine⟨ht (by kernel_rfl),?_⟩;(try simp only[bf.down,simprocAttr,bC,jX]at ai⊢);exact ai
         refine rN rfl ?_;refine aY (vB _ (.inl ?_));refine ws _ ?_;refine bB eW (λaA7 aIu aA8 Kp aIv=>?_);have Kr:∀(n:Nat) (kx:Int) (kT:Int),p9 (mL a0 m14) a0 af n kx kT=some r->du aF JQ aA7 (ab [(0,.slice (a0.map bC)),(3,.int .i64 kx),(4,.bh (bC af)),(5,.int .i64 kT)]):=by
          intro vH;induction vH with
          |zero=>intro kx kT h;cases(show none=some r from h)
          |succ vH Ks=>
           intro kx kT h;replace h:Al (mL a0 m14) (p9 (mL a0 m14) a0 af vH) a0 af kx kT=some r:=h;refine dK aA8 (λaIw aA9 RG aA_=>?_);refine aH RG (λaBa Gb aBb RH=>?_);refine ws _ ?_;refine aR h (λKd h=>?_) (λKd h=>?_)
           .refine aY (Gb _ (.inl ?_));refine aH RG (λaIx aBc aBd aIy=>?_);refine bB aBd (λaIz aBe aBf Ru aIA=>?_);obtain⟨cx,yj,h⟩:=aD h;refine hX rfl (hY [(0,.slice (a0.map bC)),(3,.int .i64 kx),(4,.bh (bC af)),(5,.int .i64 kT),(100,.bool ((cx.Left==af.Result)||(cx.ch==af.Result)))] (λP ai=>?_) ?_)
            .rcases Bool.eq_false_or_eq_true (cx.Left==af.Result)with vu|vu
             .simp only[dY.down,simprocAttr,hP.down,yj,vu];refine⟨ht (by kernel_rfl),?_⟩;(try simp only[bf.down,simprocAttr,bC,yj,vu]at ai⊢);exact ai
             .simp only[dY.down,simprocAttr,hP.down,yj,vu];refine⟨ht (by kernel_rfl),?_⟩;(try simp only[bf.down,simprocAttr,bC,yj,vu]at ai⊢);exact ai
            refine aR h (λKt h=>?_) (λKt h=>?_)
            .refine ws _ ?_;exact aE (aBf _ (.inl (aG [.bool false])))
            .refine aY (aBe _ (aBc _ (.inl ?_)));refine wr _ ?_;exact aA9 _ (.inr ⟨_,bo rfl,Ks kx (IntKind.i64.wrap (kT+1)) h⟩)
           .refine dG (RH 2 _ (aA_ 2 _ (Kp _ (fa _ (gU _ (.inl ?_))))));refine wr _ ?_;exact cQ _ (.inr ⟨_,bo rfl,hC (IntKind.i64.wrap (kx+1)) h⟩)
         obtain⟨n,h⟩:=dC h;exact dH (.inr ⟨_,bo rfl,Kr n cG 0 h⟩)
    .refine dG (df 0 _ (de 0 _ (b6 _ (dy _ (.inl ?_)))));refine ws _ ?_;exact aE (al _ (.inl (aG [.bool true])))
  obtain⟨n,h⟩:=dC h;exact dH (.inr ⟨_,bo rfl,h1 n 0 h⟩)
theorem aBg (a0:List (List UInt8)) (r:Bool) (h:DR a0=some r):bk aF 84 [.slice (a0.map bd)] (.bool r) []:=by
 refine bQ [0] [.tmp 2] Tryz.func84 aie (λbI al bN=>?_);refine ws _ ?_;refine aH al (λej bX bp ak=>?_);refine ws _ ?_;refine bB bp (λdV eh b5 bD a8=>?_);have fq:∀(n:Nat) (gX:Int),uR a0 n gX=some r->du aF Qd dV (ab [(0,.slice (a0.map bd)),(3,.int .i64 gX)]):=by
  intro m6;induction m6 with
  |zero=>intro gX h;cases(show none=some r from h)
  |succ m6 fl=>
   intro gX h;replace h:DQ (uR a0 m6) a0 gX=some r:=h;refine dK b5 (λh2 ee dj bb=>?_);refine aH dj (λeZ dy dw bO=>?_);refine ws _ ?_;refine aR h (λb6 h=>?_) (λb6 h=>?_)
   .refine aY (dy _ (.inl ?_));refine aH dj (λeB cQ cj de=>?_);refine bB cj (λe4 cu cM dx df=>?_);obtain⟨af,er,h⟩:=aD h;obtain⟨ak,et,h⟩:=aD h;refine gT er (pC af _ et) _ ?_;refine aR h (λiL h=>?_) (λiL h=>?_)
    .refine ws _ ?_;exact aE (cM _ (.inl (aG [.bool false])))
    .refine aY (cu _ (cQ _ (.inl ?_)));refine wr _ ?_;exact ee _ (.inr ⟨_,bo rfl,fl (IntKind.i64.wrap (gX+1)) h⟩)
   .refine dG (bO 0 _ (bb 0 _ (bD _ (bX _ (.inl ?_)))));refine ws _ ?_;exact aE (al _ (.inl (aG [.bool true])))
 obtain⟨n,h⟩:=dC h;exact dH (.inr ⟨_,bo rfl,fq n 0 h⟩)
theorem RI (a0:List (List UInt8)) (r:Bool) (h:An a0=some r):bk aF 64 [.slice (a0.map bd)] (.bool r) []:=by
 refine bQ [0] [.tmp 2] Tryz.func64 ais (λbI al bN=>?_);refine ws _ ?_;refine aH al (λej bX bp ak=>?_);rcases eS h with⟨bD,h⟩|⟨bD,h⟩
 .refine gv bD _ ?_;refine iW rfl ?_;refine ws _ ?_;exact aE (bp _ (.inl (aG [.bool false])))
 .obtain⟨af,cc,h⟩:=aD h;refine cd (bJ [(0,.slice (a0.map bd)),(11,.bool (!af))] (λP ai=>?_) ?_)
  .simp only[aM.down,simprocAttr,n5.down,bD];refine fT (aBg a0 _ cc) rfl rfl rfl rfl (.inl (by rfl)) ?_;simp only[aM.down,simprocAttr,n5.down,bD];(try simp only[bf.down,simprocAttr,bd,bD]at ai⊢);exact ai
  refine aR h (λpQ h=>?_) (λpQ h=>?_)
  .refine ws _ ?_;exact aE (bp _ (.inl (aG [.bool false])))
  .refine aY (bX _ (.inl ?_));refine aH al (λeB cQ cj de=>?_);refine ws _ ?_;refine bB cj (λjk fg gm l6 fo=>?_);have h1:∀(n:Nat) (cG:Int),oE a0 n cG=some r->du aF Qe jk (ab [(0,.slice (a0.map bd)),(3,.int .i64 cG)]):=by
    intro m14;induction m14 with
    |zero=>intro cG h;cases(show none=some r from h)
    |succ m14 hC=>
     intro cG h;replace h:Am (oE a0 m14) a0 cG=some r:=h;refine dK gm (λkC hi jl jV=>?_);refine aH jl (λlr gU gM jM=>?_);refine ws _ ?_;refine aR h (λeX h=>?_) (λeX h=>?_)
     .refine aY (gU _ (.inl ?_));refine aH jl (λq4 kz lu nv=>?_);refine bB lu (λmR kD js kE iz=>?_);obtain⟨ak,gV,h⟩:=aD h;obtain⟨aJ,iq,h⟩:=aD h;refine hX rfl (hY [(0,.slice (a0.map bd)),(3,.int .i64 cG),(27,.bool (!(Op.bytesLess ak aJ)))] (λP ai=>?_) ?_)
      .simp only[dY.down,simprocAttr,n5.down,gV,iq];refine⟨ht (by kernel_rfl),?_⟩;(try simp only[bf.down,simprocAttr,bd,gV,iq]at ai⊢);exact ai
      refine aR h (λn7 h=>?_) (λn7 h=>?_)
      .refine ws _ ?_;exact aE (js _ (.inl (aG [.bool false])))
      .refine aY (kD _ (kz _ (.inl ?_)));refine wr _ ?_;exact hi _ (.inr ⟨_,bo rfl,hC (IntKind.i64.wrap (cG+1)) h⟩)
     .refine dG (jM 0 _ (jV 0 _ (l6 _ (cQ _ (.inl ?_)))));refine ws _ ?_;exact aE (al _ (.inl (aG [.bool true])))
   obtain⟨n,h⟩:=dC h;exact dH (.inr ⟨_,bo rfl,h1 n 1 h⟩)
theorem aBh (a0:eI) (r:Int) (h:DS a0=some r):bk aF 45 [.ref (iI a0)] (.int .i64 r) []:=by
 refine bQ [0] [.tmp 2] Tryz.func45 aiK (λbI al bN=>?_);refine ws _ ?_;refine aH al (λej bX bp ak=>?_);obtain⟨af,cC,h⟩:=aD h;refine dt (aAS a0.fv _ cC) _ ?_;refine aR h (λdQ h=>?_) (λdQ h=>?_)
 .refine ws _ ?_;exact aE (bp _ (.inl (aG [.int .i64 1])))
 .refine aY (bX _ (.inl ?_));refine aH al (λhh dU dW cx=>?_);obtain⟨ak,h9,h⟩:=aD h;refine dt (aA3 a0 _ h9) _ ?_;refine aR h (λdx h=>?_) (λdx h=>?_)
  .refine ws _ ?_;exact aE (dW _ (.inl (aG [.int .i64 2])))
  .refine aY (dU _ (.inl ?_));refine aH al (λkC hi jl jV=>?_);obtain⟨aJ,ew,h⟩:=aD h;refine dt (aA4 a0.hZ _ ew) _ ?_;refine aR h (λeX h=>?_) (λeX h=>?_)
   .refine ws _ ?_;exact aE (jl _ (.inl (aG [.int .i64 3])))
   .refine aY (hi _ (.inl ?_));refine aH al (λmR kD js iz=>?_);obtain⟨a8,gV,h⟩:=aD h;refine dt (RI a0.hN _ gV) _ ?_;refine aR h (λfG h=>?_) (λfG h=>?_)
    .refine ws _ ?_;exact aE (js _ (.inl (aG [.int .i64 4])))
    .refine aY (kD _ (.inl ?_));refine aH al (λq5 kA kB mA=>?_);obtain⟨bb,i1,h⟩:=aD h;refine dt (RI a0.hO _ i1) _ ?_;refine aR h (λmS h=>?_) (λmS h=>?_)
     .refine ws _ ?_;exact aE (kB _ (.inl (aG [.int .i64 5])))
     .refine aY (kA _ (.inl ?_));refine ws _ ?_;exact aE (al _ (.inl (aG [.int .i64 0])))
theorem aBi (a0:eI) (r:Bool) (h:DT a0=some r):bk aF 22 [.ref (iI a0)] (.bool r) []:=by
 refine bQ [0] [.tmp 2] Tryz.func22 aiN (λbI al bN=>?_);refine ws _ ?_;obtain⟨af,aQ,h⟩:=aD h;refine dt (aBh a0 _ aQ) _ ?_;exact aE (al _ (.inl (aG [.bool (af==0)])))
theorem aBj (a0:List UInt8) (r:Int) (h:xG a0=some r):bk aF 105 [.str a0] (.int .i64 r) []:=by
 refine bQ [0] [.tmp 2] Tryz.func105 aiW (λbI al bN=>?_);refine ws _ ?_;refine aH al (λej bX bp ak=>?_);refine ws _ ?_;refine bB bp (λdV eh b5 bD a8=>?_);have fq:∀(n:Nat) (gX:Int),rU a0 n gX=some r->du aF Qf dV (ab [(0,.str a0),(3,.int .i64 gX)]):=by
  intro m6;induction m6 with
  |zero=>intro gX h;cases(show none=some r from h)
  |succ m6 fl=>
   intro gX h;replace h:DU (rU a0 m6) a0 gX=some r:=h;refine dK b5 (λh2 ee dj bb=>?_);refine aH dj (λeZ dy dw bO=>?_);refine ws _ ?_;refine aR h (λb6 h=>?_) (λb6 h=>?_)
   .refine aY (dy _ (.inl ?_));refine aH dj (λeB cQ cj de=>?_);refine bB cj (λe4 cu cM dx df=>?_);obtain⟨af,er,h⟩:=aD h;refine gv er _ ?_;refine aR h (λga h=>?_) (λga h=>?_)
    .refine ws _ ?_;exact aE (cM _ (.inl (aG [.int .i64 gX])))
    .refine aY (cu _ (cQ _ (.inl ?_)));refine wr _ ?_;exact ee _ (.inr ⟨_,bo rfl,fl (IntKind.i64.wrap (gX+1)) h⟩)
   .refine dG (bO 0 _ (bb 0 _ (bD _ (bX _ (.inl ?_)))));refine ws _ ?_;exact aE (al _ (.inl (aG [.int .i64 (a0.length:Int)])))
 obtain⟨n,h⟩:=dC h;exact dH (.inr ⟨_,bo rfl,fq n 0 h⟩)
theorem aBk (a0:List UInt8) (R:UInt8) (r:(List (List UInt8))) (h:DX a0 R=some r):bk aF 106 [.str a0,.int .u8 (R.toNat:Int)] (.ao 1 (r.map bd)) []:=by
 refine bQ [0,1] [.tmp 4] Tryz.func106 ai8 (λbI al bN=>?_);refine ws _ ?_;refine gv (show∀s,eQ aF s 25 0 []=some (.ao 1 [],s)from λs=>by kernel_rfl) _ ?_;refine ws _ ?_;refine aH al (λdV eh b5 a8=>?_);refine ws _ ?_;refine bB b5 (λeZ dy dw cO bO=>?_);have aBl:∀(n:Nat) (lN:List (List UInt8)) (pk:Int) (ll:Int),tg a0 R n lN pk ll=some r->du aF Qh eZ (ab [(0,.str a0),(1,.int .u8 (R.toNat:Int)),(5,.ao 1 (lN.map bd)),(6,.int .i64 pk),(7,.int .i64 ll)]):=by
  intro m10;induction m10 with
  |zero=>intro lN pk ll h;cases(show none=some r from h)
  |succ m10 aBm=>
   intro lN pk ll h;replace h:DW (tg a0 R m10) a0 R lN pk ll=some r:=h;refine dK dw (λhh dU dW cx=>?_);refine aH dW (λhR hB hv eg=>?_);refine ws _ ?_;refine aR h (λdx h=>?_) (λdx h=>?_)
   .refine aY (hB _ (.inl ?_));have RJ:∀(xH:List (List UInt8)) (ji:Int) (xI:Int),DV (tg a0 R m10) a0 R xH ji xI=some r->dc aF Qg hh (ab [(0,.str a0),(1,.int .u8 (R.toNat:Int)),(5,.ao 1 (xH.map bd)),(6,.int .i64 ji),(7,.int .i64 xI)]):=by
     intro xH ji xI h;refine wr _ ?_;exact dU _ (.inr ⟨_,bo rfl,aBm xH ji (IntKind.i64.wrap (xI+1)) h⟩)
    refine aH dW (λjk fg gm fo=>?_);refine bB gm (λlr gU gM ga jM=>?_);obtain⟨af,eY,h⟩:=aD h;refine gv eY _ ?_;refine aR h (λkZ h=>?_) (λkZ h=>?_)
    .obtain⟨ak,e5,h⟩:=aD h;obtain⟨aBn,gV,h⟩:=aD h;(try simp only[r6.down,Nat.reduceAdd]at gV);refine cd (bJ [(0,.str a0),(1,.int .u8 (R.toNat:Int)),(5,.ao 1 ((lN++[ak]).map bd)),(7,.int .i64 ll)] (λP ai=>?_) ?_)
     .simp only[aM.down,simprocAttr,n5.down,e5,(show∀s,eQ aF s 25 1 [(0,.str ak)]=some (.ao 1 [.str ak],s)from λs=>by kernel_rfl), @sW aF 25 25 9 rfl rfl,sX,sY,sZ,all_cons,all_nil,gV, @pb _ bd 1 (λ_=>rfl)];(try simp only[bf.down,simprocAttr,bd,e5,(show∀s,eQ aF s 25 1 [(0,.str ak)]=some (.ao 1 [.str ak],s)from λs=>by kernel_rfl), @sW aF 25 25 9 rfl rfl,sX,sY,sZ,all_cons,all_nil,gV, @pb _ bd 1 (λ_=>rfl)]at ai⊢);exact ai
     refine wr [(0,.str a0),(1,.int .u8 (R.toNat:Int)),(5,.ao 1 ((lN++[ak]).map bd)),(6,.int .i64 (IntKind.i64.wrap (ll+1))),(7,.int .i64 ll)] ?_;exact gU _ (fg _ (.inr ⟨_,bo rfl,RJ (lN++[ak]) (IntKind.i64.wrap (ll+1)) ll h⟩))
    .exact aY (gU _ (fg _ (.inr ⟨_,bo rfl,RJ lN pk ll h⟩)))
   .refine dG (eg 0 _ (cx 0 _ (cO _ (eh _ (.inl ?_)))));obtain⟨aJ,gb,h⟩:=aD h;obtain⟨aIB,l7,h⟩:=aD h;(try simp only[r6.down,Nat.reduceAdd]at l7);refine cd (bJ [(4,.ao 1 ((lN++[aJ]).map bd))] (λP ai=>?_) ?_)
    .simp only[aM.down,simprocAttr,n5.down,gb,(show∀s,eQ aF s 25 1 [(0,.str aJ)]=some (.ao 1 [.str aJ],s)from λs=>by kernel_rfl), @sW aF 25 25 9 rfl rfl,sX,sY,sZ,all_cons,all_nil,l7, @pb _ bd 1 (λ_=>rfl)];(try simp only[bf.down,simprocAttr,bd,gb,(show∀s,eQ aF s 25 1 [(0,.str aJ)]=some (.ao 1 [.str aJ],s)from λs=>by kernel_rfl), @sW aF 25 25 9 rfl rfl,sX,sY,sZ,all_cons,all_nil,l7, @pb _ bd 1 (λ_=>rfl)]at ai⊢);exact ai
    exact aE (al _ (.inl (aG [.ao 1 ((lN++[aJ]).map bd)])))
 obtain⟨n,h⟩:=dC h;exact dH (.inr ⟨_,bo rfl,aBl n [] 0 0 h⟩)
theorem aBo (a0:List UInt8) (r:Int×Bool) (h:DY a0=some r):bk aF 107 [.str a0] (.tuple [.int .i64 r.1,.bool r.2]) []:=by
 refine bQ [0] [.tmp 2,.tmp 3] Tryz.func107 ajq (λbI al bN=>?_);refine ws _ ?_;refine ws _ ?_;have Ku:∀(jK:Int),xJ a0 jK=some r->dc aF Qi bI (ab [(0,.str a0),(4,.int .i64 jK)]):=by
  intro jK h;refine aH al (λdV eh b5 a8=>?_);rcases eS h with⟨cO,h⟩|⟨cO,h⟩
  .refine gv cO _ ?_;refine iW rfl ?_;refine ws _ ?_;exact aE (b5 _ (.inl (aG [.int .i64 0,.bool false])))
  .rcases eS h with⟨b6,h⟩|⟨b6,h⟩
   .refine gv (And.intro cO b6) _ ?_;refine iW rfl ?_;refine ws _ ?_;exact aE (b5 _ (.inl (aG [.int .i64 0,.bool false])))
   .obtain⟨af,mF,h⟩:=aD h;rcases eS h with⟨l6,h⟩|⟨l6,h⟩
    .refine gv (And.intro cO (And.intro b6 (And.intro mF l6))) _ ?_;refine aR h (λe9 h=>?_) (λe9 h=>?_)
     .refine ws _ ?_;exact aE (b5 _ (.inl (aG [.int .i64 0,.bool false])))
     .refine aY (eh _ (.inl ?_));refine ws _ ?_;refine aH al (λlS g_ gL jq=>?_);refine ws _ ?_;refine bB gL (λmR kD js kE iz=>?_);have Kv:∀(n:Nat) (ki:Int) (lO:Int),qa a0 jK n ki lO=some r->du aF JR mR (ab [(0,.str a0),(4,.int .i64 jK),(5,.int .i64 ki),(6,.int .i64 lO)]):=by
       intro m24;induction m24 with
       |zero=>intro ki lO h;cases(show none=some r from h)
       |succ m24 Kw=>
        intro ki lO h;replace h:Ap (qa a0 jK m24) a0 jK ki lO=some r:=h;refine dK js (λts nA ma nw=>?_);refine aH ma (λFX q6 x_ qd=>?_);refine ws _ ?_;refine aR h (λn7 h=>?_) (λn7 h=>?_)
        .refine aY (q6 _ (.inl ?_));refine aH ma (λq5 kA kB mA=>?_);refine bB kB (λRK Bm Bn fH tn=>?_);refine aH Bn (λKx Bo Bp RL=>?_);obtain⟨ak,vI,h⟩:=aD h;obtain⟨aJ,kl,h⟩:=aD h;refine gT vI (J3 ak _ kl) _ ?_;refine aR h (λvG h=>?_) (λvG h=>?_)
         .refine ws _ ?_;exact aE (Bp _ (.inl (aG [.int .i64 0,.bool false])))
         .refine aY (Bo _ (.inl ?_));refine FK (And.intro vI (@CH aF 5 2 .i64 rfl rfl)) _ ?_;refine Bm _ (kA _ (.inl ?_));refine wr _ ?_;exact nA _ (.inr ⟨_,bo rfl,Kw (IntKind.i64.wrap ((IntKind.i64.wrap (10*ki))+(IntKind.i64.wrap (IntKind.u8.wrap ((ak.toNat:Int)-48))))) (IntKind.i64.wrap (lO+1)) h⟩)
        .refine dG (qd 0 _ (nw 0 _ (kE _ (g_ _ (.inl ?_)))));have Bq:∀(p_:Int),Ao p_=some r->dc aF JS bI (ab [(5,.int .i64 p_)]):=by
          intro p_ h;refine ws _ ?_;exact aE (al _ (.inl (aG [.int .i64 p_,.bool true])))
         refine aH al (λaAT F7 Rv aAU=>?_);refine ws _ ?_;refine aR h (λnz h=>?_) (λnz h=>?_)
         .refine wr _ ?_;exact F7 _ (.inr ⟨_,bo rfl,Bq (IntKind.i64.wrap (0-ki)) h⟩)
         .exact aY (F7 _ (.inr ⟨_,bo rfl,Bq ki h⟩))
      obtain⟨n,h⟩:=dC h;exact dH (.inr ⟨_,bo rfl,Kv n 0 jK h⟩)
    .refine gv (And.intro cO (And.intro b6 (And.intro mF l6))) _ ?_;refine rN rfl ?_;refine aY (eh _ (.inl ?_));refine ws _ ?_;refine aH al (λKq Bk Bl RE=>?_);refine ws _ ?_;refine bB Bl (λF9 vF Bj Gc F_=>?_);have Kv:∀(n:Nat) (ki:Int) (lO:Int),qa a0 jK n ki lO=some r->du aF JR F9 (ab [(0,.str a0),(4,.int .i64 jK),(5,.int .i64 ki),(6,.int .i64 lO)]):=by
      intro m24;induction m24 with
      |zero=>intro ki lO h;cases(show none=some r from h)
      |succ m24 Kw=>
       intro ki lO h;replace h:Ap (qa a0 jK m24) a0 jK ki lO=some r:=h;refine dK Bj (λaIC aBp RM aBq=>?_);refine aH RM (λRw Rx Ry Rz=>?_);refine ws _ ?_;refine aR h (λpy h=>?_) (λpy h=>?_)
       .refine aY (Rx _ (.inl ?_));refine aH RM (λaID Ky aBr aIE=>?_);refine bB aBr (λaIF aBs aBt RD aIG=>?_);refine aH aBt (λaAZ Km Kn aA0=>?_);obtain⟨a8,RN,h⟩:=aD h;obtain⟨bb,Ko,h⟩:=aD h;refine gT RN (J3 a8 _ Ko) _ ?_;refine aR h (λaBu h=>?_) (λaBu h=>?_)
        .refine ws _ ?_;exact aE (Kn _ (.inl (aG [.int .i64 0,.bool false])))
        .refine aY (Km _ (.inl ?_));refine FK (And.intro RN (@CH aF 5 2 .i64 rfl rfl)) _ ?_;refine aBs _ (Ky _ (.inl ?_));refine wr _ ?_;exact aBp _ (.inr ⟨_,bo rfl,Kw (IntKind.i64.wrap ((IntKind.i64.wrap (10*ki))+(IntKind.i64.wrap (IntKind.u8.wrap ((a8.toNat:Int)-48))))) (IntKind.i64.wrap (lO+1)) h⟩)
       .refine dG (Rz 0 _ (aBq 0 _ (Gc _ (Bk _ (.inl ?_)))));have Bq:∀(p_:Int),Ao p_=some r->dc aF JS bI (ab [(5,.int .i64 p_)]):=by
         intro p_ h;refine ws _ ?_;exact aE (al _ (.inl (aG [.int .i64 p_,.bool true])))
        refine aH al (λaBa Gb aBb RH=>?_);refine ws _ ?_;refine aR h (λaBv h=>?_) (λaBv h=>?_)
        .refine wr _ ?_;exact Gb _ (.inr ⟨_,bo rfl,Bq (IntKind.i64.wrap (0-ki)) h⟩)
        .exact aY (Gb _ (.inr ⟨_,bo rfl,Bq ki h⟩))
     obtain⟨n,h⟩:=dC h;exact dH (.inr ⟨_,bo rfl,Kv n 0 jK h⟩)
 refine aH al (λj_ f_ dk aJ=>?_);rcases eS h with⟨Kz,h⟩|⟨Kz,h⟩
 .obtain⟨bO,aBw,h⟩:=aD h;refine gv (And.intro Kz aBw) _ ?_;refine aR h (λKt h=>?_) (λKt h=>?_)
  .refine wr _ ?_;exact f_ _ (.inr ⟨_,bo rfl,Ku 1 h⟩)
  .exact aY (f_ _ (.inr ⟨_,bo rfl,Ku 0 h⟩))
 .refine gv Kz _ ?_;refine rN rfl ?_;exact aY (f_ _ (.inr ⟨_,bo rfl,Ku 0 h⟩))
theorem aBx (a0:List UInt8) (r:(List Int)×Bool) (h:Aq a0=some r):bk aF 85 [.str a0] (.tuple [.ao 1 (r.1.map a1),.bool r.2]) []:=by
 refine bQ [0] [.tmp 2,.tmp 3] Tryz.func85 ajK (λbI al bN=>?_);refine ws _ ?_;obtain⟨af,aQ,h⟩:=aD h;refine dt (aBj a0 _ aQ) _ ?_;refine aH al (λdV eh b5 a8=>?_);refine ws _ ?_;refine aR h (λcO h=>?_) (λcO h=>?_)
 .obtain⟨ak,h8,h⟩:=aD h;refine gT (show∀s,eQ aF s 31 0 []=some (.ao 1 [],s)from λs=>by kernel_rfl) (x9 a0 _ h8) _ ?_;exact aE (b5 _ (.inl (aG [.ao 1 [],.bool ak])))
 .refine aY (eh _ (.inl ?_));refine aH al (λeB cQ cj de=>?_);obtain⟨aJ,nJ,h⟩:=aD h;obtain⟨a8,er,h⟩:=aD h;rcases eS h with⟨ga,h⟩|⟨ga,h⟩
  .refine gT (And.intro nJ (gk ga)) (pC aJ _ er) _ ?_;refine iW rfl ?_;refine ws _ ?_;exact aE (cj _ (.inr ⟨[(2,.ao 1 []),(3,.bool false)],lh [] rfl (lk (t:=2) (d:=.bz) rfl rfl (.jD _) (by decide) (jb rfl (lj))),aG [.ao 1 [],.bool false]⟩))
  .obtain⟨bb,eY,h⟩:=aD h;refine gT (And.intro nJ (And.intro (bY ga) eY)) (pC aJ _ er) _ ?_;refine aR h (λkZ h=>?_) (λkZ h=>?_)
   .refine ws _ ?_;exact aE (cj _ (.inr ⟨[(2,.ao 1 []),(3,.bool false)],lh [] rfl (lk (t:=2) (d:=.bz) rfl rfl (.jD _) (by decide) (jb rfl (lj))),aG [.ao 1 [],.bool false]⟩))
   .refine aY (cQ _ (.inl ?_));obtain⟨bO,gV,h⟩:=aD h;obtain⟨cx,iq,h⟩:=aD h;refine gT gV (aBk bO (44:UInt8) _ iq) _ ?_;refine gv (show∀s,eQ aF s 31 0 []=some (.ao 1 [],s)from λs=>by kernel_rfl) _ ?_;refine aH al (λq5 kA kB mA=>?_);refine ws _ ?_;refine bB kB (λKx Bo Bp ka RL=>?_);have aBy:∀(n:Nat) (l3:List Int) (nq:Int),th cx n l3 nq=some r->du aF Qj Kx (ab [(5,.ao 1 (cx.map bd)),(6,.ao 1 (l3.map a1)),(7,.int .i64 nq)]):=by
     intro KA;induction KA with
     |zero=>intro l3 nq h;cases(show none=some r from h)
     |succ KA aBz=>
      intro l3 nq h;replace h:DZ (th cx KA) cx l3 nq=some r:=h;refine dK Bp (λGd r9 ql Br=>?_);refine aH ql (λF6 yh yi Bi=>?_);refine ws _ ?_;refine aR h (λvG h=>?_) (λvG h=>?_)
      .refine aY (yh _ (.inl ?_));refine aH ql (λF2 vB yd F3=>?_);refine bB yd (λaAJ J7 F4 jW Rq=>?_);obtain⟨eg,q8,h⟩:=aD h;obtain⟨de,tt,h⟩:=aD h;refine gT (And.intro q8 (cR q8)) (aBo eg _ tt) _ ?_;refine aH F4 (λJ9 Bh vC J_=>?_);rcases eS h with⟨r8,h⟩|⟨r8,h⟩
       .refine gv (gk r8) _ ?_;refine iW rfl ?_;refine ws _ ?_;exact aE (vC _ (.inr ⟨[(2,.ao 1 []),(3,.bool false)],lh [] rfl (lk (t:=2) (d:=.bz) rfl rfl (.jD _) (by decide) (jb rfl (lj))),aG [.ao 1 [],.bool false]⟩))
       .obtain⟨df,Ka,h⟩:=aD h;refine cd (bJ [(5,.ao 1 (cx.map bd)),(6,.ao 1 (l3.map a1)),(7,.int .i64 nq),(8,.int .i64 de.1),(61,.bool (!df))] (λP ai=>?_) ?_)
        .simp only[aM.down,simprocAttr,a1,bd,(bY r8)];refine fT (kY de.1 0 63 _ Ka) rfl rfl rfl rfl (.inl (by rfl)) ?_;simp only[aM.down,simprocAttr,a1,bd,(bY r8)];(try simp only[bf.down,simprocAttr,a1,bd,(bY r8)]at ai⊢);exact ai
        refine aR h (λpx h=>?_) (λpx h=>?_)
        .refine ws _ ?_;exact aE (vC _ (.inr ⟨[(2,.ao 1 []),(3,.bool false)],lh [] rfl (lk (t:=2) (d:=.bz) rfl rfl (.jD _) (by decide) (jb rfl (lj))),aG [.ao 1 [],.bool false]⟩))
        .refine aY (Bh _ (.inl ?_));obtain⟨aIH,KB,h⟩:=aD h;(try simp only[r6.down,Nat.reduceAdd]at KB);refine ku (bJ [(5,.ao 1 (cx.map bd)),(6,.ao 1 ((l3++[de.1]).map a1)),(7,.int .i64 nq)] (λP ai=>?_) ?_)
         .simp only[aM.down,simprocAttr,el,jd,a1,bd,(show∀s,eQ aF s 31 1 [(0,.int .i64 de.1)]=some (.ao 1 [.int .i64 de.1],s)from λs=>by kernel_rfl), @sW aF 31 31 2 rfl rfl,sX,sY,sZ,all_cons,all_nil,KB, @pb _ a1 1 (λ_=>rfl)];(try simp only[bf.down,simprocAttr,a1,bd,(show∀s,eQ aF s 31 1 [(0,.int .i64 de.1)]=some (.ao 1 [.int .i64 de.1],s)from λs=>by kernel_rfl), @sW aF 31 31 2 rfl rfl,sX,sY,sZ,all_cons,all_nil,KB, @pb _ a1 1 (λ_=>rfl)]at ai⊢);exact ai
         refine J7 _ (vB _ (.inl ?_));refine wr [(5,.ao 1 (cx.map bd)),(6,.ao 1 ((l3++[de.1]).map a1)),(7,.int .i64 (IntKind.i64.wrap (nq+1)))] ?_;exact r9 _ (.inr ⟨_,bo rfl,aBz (l3++[de.1]) (IntKind.i64.wrap (nq+1)) h⟩)
      .refine dG (Bi 0 _ (Br 0 _ (ka _ (kA _ (.inl ?_)))));refine ws _ ?_;exact aE (al _ (.inl (aG [.ao 1 (l3.map a1),.bool (decide ((l3.length:Int)<=2))])))
    obtain⟨n,h⟩:=dC h;exact dH (.inr ⟨_,bo rfl,aBy n [] 0 h⟩)
theorem aBA (a0:List UInt8) (r:Bool) (h:qW a0=some r):bk aF 66 [.str a0] (.bool r) []:=by
 refine bQ [0] [.tmp 2] Tryz.func66 ajO (λbI al bN=>?_);refine ws _ ?_;obtain⟨af,aQ,h⟩:=aD h;refine dt (aBx a0 _ aQ) _ ?_;refine ws _ ?_;exact aE (al _ (.inl (aG [.bool af.2])))
theorem aBB (a0:b_) (r:Bool) (h:D0 a0=some r):bk aF 46 [.ref (cr a0)] (.bool r) []:=by
 refine bQ [0] [.tmp 2] Tryz.func46 ajQ (λbI al bN=>?_);refine ws _ ?_;obtain⟨af,aQ,h⟩:=aD h;rcases eS h with⟨bD,h⟩|⟨bD,h⟩
 .obtain⟨ak,cF,h⟩:=aD h;rcases eS h with⟨cO,h⟩|⟨cO,h⟩
  .obtain⟨aJ,b4,h⟩:=aD h;rcases eS h with⟨b6,h⟩|⟨b6,h⟩
   .obtain⟨a8,h9,h⟩:=aD h;refine cd (bJ [(2,.bool a8)] (λP ai=>?_) ?_)
    .simp only[aM.down,simprocAttr,j9.down,bD,cO,b6];refine ez (kY a0.Choice 0 199 _ aQ) rfl rfl rfl rfl (.inl (by rfl)) ?_;simp only[aM.down,simprocAttr,j9.down,bD,cO,b6];refine fT (kY a0.c8 0 2 _ cF) rfl rfl rfl rfl (.inl (by rfl)) ?_;simp only[aM.down,simprocAttr,j9.down,bD,cO,b6];refine fT (kY a0.Second (-1) 2 _ b4) rfl rfl rfl rfl (.inl (by rfl)) ?_;simp only[aM.down,simprocAttr,j9.down,bD,cO,b6];refine fT (aBA a0.Label _ h9) rfl rfl rfl rfl (.inl (by rfl)) ?_;simp only[aM.down,simprocAttr,j9.down,bD,cO,b6];(try simp only[bf.down,simprocAttr,cr,bD,cO,b6]at ai⊢);exact ai
    exact aE (al _ (.inl (aG [.bool a8])))
   .refine cd (bJ [(2,.bool false)] (λP ai=>?_) ?_)
    .simp only[aM.down,simprocAttr,j9.down,bD,cO,b6];refine ez (kY a0.Choice 0 199 _ aQ) rfl rfl rfl rfl (.inl (by rfl)) ?_;simp only[aM.down,simprocAttr,j9.down,bD,cO,b6];refine fT (kY a0.c8 0 2 _ cF) rfl rfl rfl rfl (.inl (by rfl)) ?_;simp only[aM.down,simprocAttr,j9.down,bD,cO,b6];refine fT (kY a0.Second (-1) 2 _ b4) rfl rfl rfl rfl (.inl (by rfl)) ?_;simp only[aM.down,simprocAttr,j9.down,bD,cO,b6];(try simp only[bf.down,simprocAttr,cr,bD,cO,b6]at ai⊢);exact ai
    exact aE (al _ (.inl (aG [.bool false])))
  .refine cd (bJ [(2,.bool false)] (λP ai=>?_) ?_)
   .simp only[aM.down,simprocAttr,j9.down,bD,cO];refine ez (kY a0.Choice 0 199 _ aQ) rfl rfl rfl rfl (.inl (by rfl)) ?_;simp only[aM.down,simprocAttr,j9.down,bD,cO];refine fT (kY a0.c8 0 2 _ cF) rfl rfl rfl rfl (.inl (by rfl)) ?_;simp only[aM.down,simprocAttr,j9.down,bD,cO];(try simp only[bf.down,simprocAttr,cr,bD,cO]at ai⊢);exact ai
   exact aE (al _ (.inl (aG [.bool false])))
 .refine gT bD (kY a0.Choice 0 199 _ aQ) _ ?_;exact aE (al _ (.inl (aG [.bool false])))
theorem aBC (a0:List b_) (r:Bool) (h:D2 a0=some r):bk aF 23 [.slice (a0.map cr)] (.bool r) []:=by
 refine bQ [0] [.tmp 2] Tryz.func23 aj3 (λbI al bN=>?_);refine ws _ ?_;refine aH al (λej bX bp ak=>?_);refine ws _ ?_;refine aR h (λbD h=>?_) (λbD h=>?_)
 .refine ws _ ?_;exact aE (bp _ (.inl (aG [.bool false])))
 .refine aY (bX _ (.inl ?_));refine aH al (λeZ dy dw bO=>?_);refine ws _ ?_;refine bB dw (λhR hB hv b6 eg=>?_);have h1:∀(n:Nat) (cG:Int),uS a0 n cG=some r->du aF Qk hR (ab [(0,.slice (a0.map cr)),(3,.int .i64 cG)]):=by
   intro m14;induction m14 with
   |zero=>intro cG h;cases(show none=some r from h)
   |succ m14 hC=>
    intro cG h;replace h:D1 (uS a0 m14) a0 cG=some r:=h;refine dK hv (λeB cQ cj de=>?_);refine aH cj (λe4 cu cM df=>?_);refine ws _ ?_;refine aR h (λe9 h=>?_) (λe9 h=>?_)
    .refine aY (cu _ (.inl ?_));refine aH cj (λlr gU gM jM=>?_);refine bB gM (λiK fa eW iL h6=>?_);obtain⟨af,cI,h⟩:=aD h;obtain⟨ak,eb,h⟩:=aD h;refine gT cI (aBB af _ eb) _ ?_;refine aR h (λie h=>?_) (λie h=>?_)
     .refine ws _ ?_;exact aE (eW _ (.inl (aG [.bool false])))
     .refine aY (fa _ (gU _ (.inl ?_)));refine wr _ ?_;exact cQ _ (.inr ⟨_,bo rfl,hC (IntKind.i64.wrap (cG+1)) h⟩)
    .refine dG (df 0 _ (de 0 _ (b6 _ (dy _ (.inl ?_)))));refine ws _ ?_;exact aE (al _ (.inl (aG [.bool true])))
  obtain⟨n,h⟩:=dC h;exact dH (.inr ⟨_,bo rfl,h1 n 0 h⟩)
theorem aBD (a0:eI) (R:List b_) (r:(List Int)×Int) (h:D6 a0 R=some r):bk aF 6 [iI a0,.slice (R.map cr)] (.tuple [.ao 1 (r.1.map a1),.int .i64 r.2]) []:=by
 refine bQ [0,1] [.tmp 4,.tmp 5] Tryz.func6 qf (λbI al bN=>?_);refine ws _ ?_;refine aH al (λej bX bp ak=>?_);obtain⟨af,cC,h⟩:=aD h;refine cd (bJ [(1,.slice (R.map cr)),(2,.bh (iI a0)),(10,.bool (!af))] (λP ai=>?_) ?_)
 .refine ez (aBi a0 _ cC) rfl rfl (by simp only[aM.down,simprocAttr,FM.down,hq,hr,hs,dI, @cm _ bP bP (λ_=>FA _), @cm _ fN fN (λ_=>FD _), @cm _ bC bC (λ_=>oI _), @cm _ bd bd (λ_=>jr _), @cm _ bd bd (λ_=>jr _)]<;>rfl) rfl (.inr (by rfl)) ?_;simp only[aM.down,simprocAttr,FM.down];(try simp only[bf.down,simprocAttr,FM.down]at ai⊢);exact ai
 refine aR h (λdQ h=>?_) (λdQ h=>?_)
 .refine ws _ ?_;exact aE (bp _ (.inr ⟨[(4,.ao 1 []),(5,.int .i64 1)],lh [] rfl (lk (t:=4) (d:=.bz) rfl rfl (.jD _) (by decide) (jb rfl (lj))),aG [.ao 1 [],.int .i64 1]⟩))
 .refine aY (bX _ (.inl ?_));refine aH al (λhh dU dW cx=>?_);obtain⟨ak,h9,h⟩:=aD h;refine dt (aBC R _ h9) _ ?_;refine aR h (λdx h=>?_) (λdx h=>?_)
  .refine ws _ ?_;exact aE (dW _ (.inr ⟨[(4,.ao 1 []),(5,.int .i64 7)],lh [] rfl (lk (t:=4) (d:=.bz) rfl rfl (.jD _) (by decide) (jb rfl (lj))),aG [.ao 1 [],.int .i64 7]⟩))
  .refine aY (dU _ (.inl ?_));obtain⟨aII,et,h⟩:=aD h;refine cd (bJ [(1,.slice (R.map cr)),(6,.ao 1 ((List.replicate (Int.toNat (a0.bK.length:Int)) 0).map a1))] (λP ai=>?_) ?_)
   .simp only[aM.down,simprocAttr,el,eL,n0,jd,oz,pc,qT,xt,kQ,mK,oA,n1,hK,je,gW,gJ,a1,fN,bP,cr,bC,cX,iI,cn,fj,bd,(dA et).1,(dA et).2.1,(dA et).2.2,eu,List.map_replicate,-Int.reduceNatCast'];(try simp only[bf.down,simprocAttr,FM.down,(dA et).1,(dA et).2.1,(dA et).2.2,eu,List.map_replicate,-Int.reduceNatCast']at ai⊢);exact ai
   refine ws [(1,.slice (R.map cr)),(6,.ao 1 ((List.replicate (Int.toNat (a0.bK.length:Int)) 0).map a1)),(7,.int .i64 ((List.replicate (Int.toNat (a0.bK.length:Int)) 0).length:Int))] ?_;refine aH al (λlS g_ gL jq=>?_);refine ws [(1,.slice (R.map cr)),(6,.ao 1 ((List.replicate (Int.toNat (a0.bK.length:Int)) 0).map a1)),(7,.int .i64 ((List.replicate (Int.toNat (a0.bK.length:Int)) 0).length:Int)),(8,.int .i64 0)] ?_;refine bB gL (λmR kD js kE iz=>?_);have aBE:∀(n:Nat) (ji:List Int) (ln:Int),rV a0 R n ji ln=some r->du aF Qm mR (ab [(1,.slice (R.map cr)),(6,.ao 1 (ji.map a1)),(7,.int .i64 ((List.replicate (Int.toNat (a0.bK.length:Int)) 0).length:Int)),(8,.int .i64 ln)]):=by
    intro Ge;induction Ge with
    |zero=>intro ji ln h;cases(show none=some r from h)
    |succ Ge aBF=>
     intro ji ln h;replace h:D5 (rV a0 R Ge) a0 R ji ln=some r:=h;refine dK js (λts nA ma nw=>?_);refine aH ma (λFX q6 x_ qd=>?_);refine ws [(1,.slice (R.map cr)),(6,.ao 1 (ji.map a1)),(7,.int .i64 ((List.replicate (Int.toNat (a0.bK.length:Int)) 0).length:Int)),(8,.int .i64 ln),(23,.bool (decide (ln<(R.length:Int))))] ?_;refine aR h (λn7 h=>?_) (λn7 h=>?_)
     .refine aY (q6 _ (.inl ?_));have RO:∀(uT:List Int) (uU:Int),D3 (rV a0 R Ge) a0 R uT uU=some r->dc aF Ql ts (ab [(1,.slice (R.map cr)),(6,.ao 1 (uT.map a1)),(7,.int .i64 ((List.replicate (Int.toNat (a0.bK.length:Int)) 0).length:Int)),(8,.int .i64 uU)]):=by
       intro uT uU h;refine wr [(1,.slice (R.map cr)),(6,.ao 1 (uT.map a1)),(7,.int .i64 ((List.replicate (Int.toNat (a0.bK.length:Int)) 0).length:Int)),(8,.int .i64 (IntKind.i64.wrap (uU+1)))] ?_;exact nA _ (.inr ⟨_,bo rfl,aBF uT (IntKind.i64.wrap (uU+1)) h⟩)
      refine aH ma (λq5 kA kB mA=>?_);refine bB kB (λKx Bo Bp ka RL=>?_);refine aH Bp (λGd r9 ql Br=>?_);obtain⟨aJ,kl,h⟩:=aD h;refine cd (bJ [(1,.slice (R.map cr)),(6,.ao 1 (ji.map a1)),(7,.int .i64 ((List.replicate (Int.toNat (a0.bK.length:Int)) 0).length:Int)),(8,.int .i64 ln),(41,.bool ((decide (((List.replicate (Int.toNat (a0.bK.length:Int)) 0).length:Int)<=aJ.c8))||(decide (((List.replicate (Int.toNat (a0.bK.length:Int)) 0).length:Int)<=aJ.Second))))] (λP ai=>?_) ?_)
      .rcases Bool.eq_false_or_eq_true (decide (((List.replicate (Int.toNat (a0.bK.length:Int)) 0).length:Int)<=aJ.c8))with lR|lR
       .simp only[List.length_replicate]at lR;simp only[aM.down,simprocAttr,FN.down,kl,lR];(try simp only[bf.down,simprocAttr,pw.down,kl,lR]at ai⊢);exact ai
       .simp only[List.length_replicate]at lR;simp only[aM.down,simprocAttr,FN.down,kl,lR];(try simp only[bf.down,simprocAttr,pw.down,kl,lR]at ai⊢);exact ai
      refine aR h (λjm h=>?_) (λjm h=>?_)
      .refine ws _ ?_;exact aE (ql _ (.inr ⟨[(4,.ao 1 []),(5,.int .i64 9)],lh [] rfl (lk (t:=4) (d:=.bz) rfl rfl (.jD _) (by decide) (jb rfl (lj))),aG [.ao 1 [],.int .i64 9]⟩))
      .refine aY (r9 _ (.inl ?_));obtain⟨a8,q8,h⟩:=aD h;refine cd (bJ [(1,.slice (R.map cr)),(6,.ao 1 ((List.set ji (Int.toNat aJ.c8) (IntKind.i64.wrap (a8+1))).map a1)),(7,.int .i64 ((List.replicate (Int.toNat (a0.bK.length:Int)) 0).length:Int)),(8,.int .i64 ln)] (λP ai=>?_) ?_)
       .simp only[aM.down,simprocAttr,el,eL,jd,s_,qU,a1,cr,kl,q8,cR q8,dN,dp];(try simp only[bf.down,simprocAttr,pw.down,kl,q8,cR q8,dN,dp]at ai⊢);exact ai
       refine hX rfl (hY [(1,.slice (R.map cr)),(6,.ao 1 ((List.set ji (Int.toNat aJ.c8) (IntKind.i64.wrap (a8+1))).map a1)),(7,.int .i64 ((List.replicate (Int.toNat (a0.bK.length:Int)) 0).length:Int)),(8,.int .i64 ln),(70,.bool ((decide (0<=aJ.Second))&&(aJ.Second !=aJ.c8)))] (λP ai=>?_) ?_)
       .rcases Bool.eq_false_or_eq_true (decide (0<=aJ.Second))with qh|qh
        .simp only[dY.down,simprocAttr,FN.down,kl,qh];refine⟨ht (by kernel_rfl),?_⟩;(try simp only[bf.down,simprocAttr,pw.down,kl,qh]at ai⊢);exact ai
        .simp only[dY.down,simprocAttr,FN.down,kl,qh];refine⟨ht (by kernel_rfl),?_⟩;(try simp only[bf.down,simprocAttr,pw.down,kl,qh]at ai⊢);exact ai
       refine aR h (λnz h=>?_) (λnz h=>?_)
       .obtain⟨bb,ye,h⟩:=aD h;refine ku (bJ [(1,.slice (R.map cr)),(6,.ao 1 ((List.set (List.set ji (Int.toNat aJ.c8) (IntKind.i64.wrap (a8+1))) (Int.toNat aJ.Second) (IntKind.i64.wrap (bb+1))).map a1)),(7,.int .i64 ((List.replicate (Int.toNat (a0.bK.length:Int)) 0).length:Int)),(8,.int .i64 ln)] (λP ai=>?_) ?_)
        .simp only[aM.down,simprocAttr,el,eL,jd,s_,qU,a1,cr,kl,ye,cR ye,dN,dp];(try simp only[bf.down,simprocAttr,pw.down,kl,ye,cR ye,dN,dp]at ai⊢);exact ai
        exact Bo _ (kA _ (.inr ⟨_,bo rfl,RO (List.set (List.set ji (Int.toNat aJ.c8) (IntKind.i64.wrap (a8+1))) (Int.toNat aJ.Second) (IntKind.i64.wrap (bb+1))) ln h⟩))
       .exact aY (Bo _ (kA _ (.inr ⟨_,bo rfl,RO (List.set ji (Int.toNat aJ.c8) (IntKind.i64.wrap (a8+1))) ln h⟩)))
     .refine dG (qd 0 _ (nw 0 _ (kE _ (g_ _ (.inl ?_)))));refine ws _ ?_;exact aE (al _ (.inl (aG [.ao 1 (ji.map a1),.int .i64 0])))
   obtain⟨n,h⟩:=dC h;exact dH (.inr ⟨_,bo rfl,aBE n (List.replicate (Int.toNat (a0.bK.length:Int)) 0) 0 h⟩)
theorem iM (a0:Int) (R:Int) (a2:Int) (r:Bool) (h:jj a0 R a2=some r):bk aF 54 [.int .i64 a0,.int .i64 R,.int .i64 a2] (.bool r) []:=by
 refine bQ [0,1,2] [.tmp 6] Tryz.func54 ako (λbI al bN=>?_);refine ws _ ?_;refine cd (bJ [(6,.bool ((decide (R<=a0))&&(decide (a0<=a2))))] (λP ai=>?_) ?_)
 .rcases Bool.eq_false_or_eq_true (decide (R<=a0))with ff|ff
  .simp only[aM.down,simprocAttr,ff];(try simp only[bf.down,simprocAttr,ff]at ai⊢);exact ai
  .simp only[aM.down,simprocAttr,ff];(try simp only[bf.down,simprocAttr,ff]at ai⊢);exact ai
 exact aE (al _ (.inl (aG [.bool ((decide (R<=a0))&&(decide (a0<=a2)))])))
theorem aBG (a0:bs) (r:Bool) (h:Jg a0=some r):bk aF 110 [bP a0] (.bool r) []:=by
 refine bQ [0] [.tmp 2] Tryz.func110 akr (λbI al bN=>?_);refine ws _ ?_;obtain⟨af,aQ,h⟩:=aD h;refine dt (iM a0.dE 0 3 _ aQ) _ ?_;exact aE (al _ (.inl (aG [.bool (!af)])))
theorem aBH (a0:List bs) (r:Int) (h:Jh a0=some r):bk aF 112 [.slice (a0.map bP),.fn 110 []] (.int .i64 r) []:=by
 refine bQ [0,1] [.tmp 4] Tryz.func112 akC (λbI al bN=>?_);refine ws _ ?_;refine aH al (λej bX bp ak=>?_);refine ws _ ?_;refine bB bp (λdV eh b5 bD a8=>?_);have fq:∀(n:Nat) (cV:Int),xK a0 n cV=some r->du aF Qn dV (ab [(0,.slice (a0.map bP)),(1,.fn 110 []),(7,.int .i64 (a0.length:Int)),(8,.int .i64 cV)]):=by
  intro m6;induction m6 with
  |zero=>intro cV h;cases(show none=some r from h)
  |succ m6 fl=>
   intro cV h;replace h:D7 (xK a0 m6) a0 cV=some r:=h;refine dK b5 (λh2 ee dj bb=>?_);refine ws _ ?_;refine aH dj (λhh dU dW cx=>?_);refine aR h (λb6 h=>?_) (λb6 h=>?_)
   .refine aY (dU _ (.inl ?_));refine aH dj (λeB cQ cj de=>?_);refine bB cj (λe4 cu cM dx df=>?_);refine ws _ ?_;obtain⟨af,et,h⟩:=aD h;obtain⟨ak,ew,h⟩:=aD h;refine gT et (aBG af _ ew) _ ?_;refine aR h (λeX h=>?_) (λeX h=>?_)
    .refine ws _ ?_;exact aE (cM _ (.inl (aG [.int .i64 cV])))
    .refine aY (cu _ (cQ _ (.inl ?_)));refine wr _ ?_;exact ee _ (.inr ⟨_,bo rfl,fl (IntKind.i64.wrap (cV+1)) h⟩)
   .refine dG (cx 0 _ (bb 0 _ (bD _ (bX _ (.inl ?_)))));refine ws _ ?_;exact aE (al _ (.inl (aG [.int .i64 (-1)])))
 obtain⟨n,h⟩:=dC h;exact dH (.inr ⟨_,bo rfl,fq n 0 h⟩)
theorem aBI (a0:List bs) (r:Bool) (h:Ji a0=some r):bk aF 109 [.slice (a0.map bP),.fn 110 []] (.bool r) []:=by
 refine bQ [0,1] [.tmp 4] Tryz.func109 akE (λbI al bN=>?_);refine ws _ ?_;obtain⟨af,aQ,h⟩:=aD h;refine dt (aBH a0 _ aQ) _ ?_;exact aE (al _ (.inl (aG [.bool (decide (0<=af))])))
theorem aBJ (a0:List bs) (r:Bool) (h:D8 a0=some r):bk aF 87 [.slice (a0.map bP)] (.bool r) []:=by
 refine bQ [0] [.tmp 2] Tryz.func87 akG (λbI al bN=>?_);refine ws _ ?_;obtain⟨af,aQ,h⟩:=aD h;refine dt (aBI a0 _ aQ) _ ?_;exact aE (al _ (.inl (aG [.bool (!af)])))
theorem aBK (a0:UInt8) (r:Bool) (h:Jj a0=some r):bk aF 111 [.int .u8 (a0.toNat:Int)] (.bool r) []:=by
 refine bQ [0] [.tmp 2] Tryz.func111 akJ (λbI al bN=>?_);refine ws _ ?_;refine cd (bJ [(2,.bool ((decide (48<=(a0.toNat:Int)))&&(decide ((a0.toNat:Int)<=57))))] (λP ai=>?_) ?_)
 .rcases Bool.eq_false_or_eq_true (decide (48<=(a0.toNat:Int)))with ff|ff
  .simp only[aM.down,simprocAttr,ff];(try simp only[bf.down,simprocAttr,ff]at ai⊢);exact ai
  .simp only[aM.down,simprocAttr,ff];(try simp only[bf.down,simprocAttr,ff]at ai⊢);exact ai
 exact aE (al _ (.inl (aG [.bool ((decide (48<=(a0.toNat:Int)))&&(decide ((a0.toNat:Int)<=57)))])))
theorem Gf (a0:List UInt8) (r:Bool) (h:As a0=some r):bk aF 88 [.str a0] (.bool r) []:=by
 refine bQ [0] [.tmp 2] Tryz.func88 akV (λbI al bN=>?_);refine ws _ ?_;refine aH al (λej bX bp ak=>?_);refine ws _ ?_;refine bB bp (λdV eh b5 bD a8=>?_);have fq:∀(n:Nat) (eV:Int),rW a0 n eV=some r->du aF Qo dV (ab [(0,.str a0),(6,.int .i64 (a0.length:Int)),(7,.int .i64 eV)]):=by
  intro m6;induction m6 with
  |zero=>intro eV h;cases(show none=some r from h)
  |succ m6 fl=>
   intro eV h;replace h:Ar (rW a0 m6) a0 eV=some r:=h;refine dK b5 (λh2 ee dj bb=>?_);refine ws _ ?_;refine aH dj (λhh dU dW cx=>?_);refine aR h (λb6 h=>?_) (λb6 h=>?_)
   .refine aY (dU _ (.inl ?_));refine aH dj (λeB cQ cj de=>?_);refine bB cj (λe4 cu cM dx df=>?_);refine ws _ ?_;obtain⟨af,et,h⟩:=aD h;refine cd (bJ [(0,.str a0),(3,.int .i64 eV),(4,.bool ((decide (97<=(af.toNat:Int)))&&(decide ((af.toNat:Int)<=122)))),(6,.int .i64 (a0.length:Int)),(7,.int .i64 eV)] (λP ai=>?_) ?_)
    .rcases Bool.eq_false_or_eq_true (decide (97<=(af.toNat:Int)))with pt|pt
     .simp only[aM.down,simprocAttr,eL,et,pt];(try simp only[bf.down,simprocAttr,et,pt]at ai⊢);exact ai
     .simp only[aM.down,simprocAttr,eL,et,pt];(try simp only[bf.down,simprocAttr,et,pt]at ai⊢);exact ai
    rcases eS h with⟨kZ,h⟩|⟨kZ,h⟩
    .rcases eS h with⟨kE,h⟩|⟨kE,h⟩
     .refine gv (And.intro kZ kE) _ ?_;refine iW rfl ?_;refine ws _ ?_;exact aE (cM _ (.inl (aG [.bool false])))
     .obtain⟨ak,gV,h⟩:=aD h;refine cd (bJ [(0,.str a0),(6,.int .i64 (a0.length:Int)),(7,.int .i64 eV),(32,.bool (!ak))] (λP ai=>?_) ?_)
      .simp only[aM.down,simprocAttr,eL,kZ,kE,et];refine fT (aBK af _ gV) rfl rfl rfl rfl (.inl (by rfl)) ?_;simp only[aM.down,simprocAttr,eL,kZ,kE,et];(try simp only[bf.down,simprocAttr,kZ,kE,et]at ai⊢);exact ai
      refine aR h (λfG h=>?_) (λfG h=>?_)
      .refine ws _ ?_;exact aE (cM _ (.inl (aG [.bool false])))
      .refine aY (cu _ (cQ _ (.inl ?_)));refine wr _ ?_;exact ee _ (.inr ⟨_,bo rfl,fl (IntKind.i64.wrap (eV+1)) h⟩)
    .refine gv kZ _ ?_;refine rN rfl ?_;refine aY (cu _ (cQ _ (.inl ?_)));refine wr _ ?_;exact ee _ (.inr ⟨_,bo rfl,fl (IntKind.i64.wrap (eV+1)) h⟩)
   .refine dG (cx 0 _ (bb 0 _ (bD _ (bX _ (.inl ?_)))));refine cd (bJ [(2,.bool ((decide (1<=(a0.length:Int)))&&(decide ((a0.length:Int)<=10))))] (λP ai=>?_) ?_)
    .rcases Bool.eq_false_or_eq_true (decide (1<=(a0.length:Int)))with vt|vt
     .simp only[aM.down,simprocAttr,eL,vt];(try simp only[bf.down,simprocAttr,vt]at ai⊢);exact ai
     .simp only[aM.down,simprocAttr,eL,vt];(try simp only[bf.down,simprocAttr,vt]at ai⊢);exact ai
    exact aE (al _ (.inl (aG [.bool ((decide (1<=(a0.length:Int)))&&(decide ((a0.length:Int)<=10)))])))
 obtain⟨n,h⟩:=dC h;exact dH (.inr ⟨_,bo rfl,fq n 0 h⟩)
theorem aBL (a0:bs) (R:List UInt8) (r:Bool) (h:Jk a0 R=some r):bk aF 113 [bP a0,.ref (.str R)] (.bool r) []:=by
 refine bQ [0,1] [.tmp 3] Tryz.func113 akY (λbI al bN=>?_);refine ws _ ?_;refine ws _ ?_;exact aE (al _ (.inl (aG [.bool (a0.Name==R)])))
theorem aBM (a0:List bs) (R:List UInt8) (r:Int) (h:Jl a0 R=some r):bk aF 112 [.slice (a0.map bP),.fn 113 [.ref (.str R)]] (.int .i64 r) []:=by
 refine bQ [0,1] [.tmp 4] Tryz.func112 ak9 (λbI al bN=>?_);refine ws _ ?_;refine aH al (λej bX bp ak=>?_);refine ws _ ?_;refine bB bp (λdV eh b5 bD a8=>?_);have fq:∀(n:Nat) (cV:Int),xL a0 R n cV=some r->du aF Qp dV (ab [(0,.slice (a0.map bP)),(1,.fn 113 [.ref (.str R)]),(7,.int .i64 (a0.length:Int)),(8,.int .i64 cV)]):=by
  intro m6;induction m6 with
  |zero=>intro cV h;cases(show none=some r from h)
  |succ m6 fl=>
   intro cV h;replace h:D9 (xL a0 R m6) a0 R cV=some r:=h;refine dK b5 (λh2 ee dj bb=>?_);refine ws _ ?_;refine aH dj (λhh dU dW cx=>?_);refine aR h (λb6 h=>?_) (λb6 h=>?_)
   .refine aY (dU _ (.inl ?_));refine aH dj (λeB cQ cj de=>?_);refine bB cj (λe4 cu cM dx df=>?_);refine ws _ ?_;obtain⟨af,et,h⟩:=aD h;obtain⟨ak,ew,h⟩:=aD h;refine gT et (aBL af R _ ew) _ ?_;refine aR h (λeX h=>?_) (λeX h=>?_)
    .refine ws _ ?_;exact aE (cM _ (.inl (aG [.int .i64 cV])))
    .refine aY (cu _ (cQ _ (.inl ?_)));refine wr _ ?_;exact ee _ (.inr ⟨_,bo rfl,fl (IntKind.i64.wrap (cV+1)) h⟩)
   .refine dG (cx 0 _ (bb 0 _ (bD _ (bX _ (.inl ?_)))));refine ws _ ?_;exact aE (al _ (.inl (aG [.int .i64 (-1)])))
 obtain⟨n,h⟩:=dC h;exact dH (.inr ⟨_,bo rfl,fq n 0 h⟩)
theorem aBN (a0:List bs) (R:List UInt8) (r:Int) (h:D_ a0 R=some r):bk aF 89 [.slice (a0.map bP),.str R] (.int .i64 r) []:=by
 refine bQ [0,1] [.tmp 4] Tryz.func89 alb (λbI al bN=>?_);refine ws _ ?_;obtain⟨af,aQ,h⟩:=aD h;refine cd (bJ [(4,.int .i64 af)] (λP ai=>?_) ?_)
 .simp only[aM.down,simprocAttr,iJ.down];refine ez (aBM a0 R _ aQ) rfl rfl (by simp only[aM.down,simprocAttr,iJ.down,hq,hr,hs,dI]<;>rfl) rfl (.inr (by rfl)) ?_;simp only[aM.down,simprocAttr,iJ.down];(try simp only[bf.down,simprocAttr,iJ.down]at ai⊢);exact ai
 exact aE (al _ (.inl (aG [.int .i64 af])))
theorem RP (a0:bH) (r:Int) (h:Au a0=some r):bk aF 134 [cX a0] (.int .i64 r) []:=by
 refine bQ [0] [.tmp 2] Tryz.func134 alp (λbI al bN=>?_);refine ws _ ?_;refine aH al (λej bX bp ak=>?_);refine ws _ ?_;refine bB bp (λdV eh b5 bD a8=>?_);have vA:∀(dh:Bool),At a0 dh=some r->dc aF Qq dV (ab [(4,.int .i64 a0.Kind),(5,.bool dh)]):=by
  intro dh h;refine aR h (λcO h=>?_) (λcO h=>?_)
  .refine ws _ ?_;exact aE (b5 _ (.inl (aG [.int .i64 1])))
  .refine ws _ ?_;refine aR h (λhQ h=>?_) (λhQ h=>?_)
   .refine ws _ ?_;exact aE (b5 _ (.inl (aG [.int .i64 2])))
   .refine aY (eh _ (bX _ (.inl ?_)));refine ws _ ?_;exact aE (al _ (.inl (aG [.int .i64 0])))
 refine aH b5 (λh2 ee dj bb=>?_);refine ws _ ?_;refine aR h (λga h=>?_) (λga h=>?_)
 .simp only[ga,Bc.down];exact aY (ee _ (.inr ⟨_,bo rfl,vA true h⟩))
 .refine ws _ ?_;refine aR h (λeX h=>?_) (λeX h=>?_)
  .simp only[eX,Bc.down];exact aY (ee _ (.inr ⟨_,bo rfl,vA true h⟩))
  .refine wr _ ?_;exact ee _ (.inr ⟨_,bo rfl,vA (a0.Kind==4) h⟩)
theorem aBO (a0:bs) (R:Int) (r:Int) (h:Eb a0 R=some r):bk aF 114 [bP a0,.int .i64 R] (.int .i64 r) []:=by
 refine bQ [0] [.tmp 4] Tryz.func114 alB (λbI al bN=>?_);refine ws _ ?_;refine aH al (λej bX bp ak=>?_);refine ws _ ?_;refine bB bp (λdV eh b5 bD a8=>?_);have fq:∀(n:Nat) (aU:Int) (aK:Int),uV a0 n aU aK=some r->du aF Qr dV (ab [(1,.int .i64 aU),(2,.bh (bP a0)),(5,.int .i64 aK)]):=by
  intro m6;induction m6 with
  |zero=>intro aU aK h;cases(show none=some r from h)
  |succ m6 fl=>
   intro aU aK h;replace h:Ea (uV a0 m6) a0 aU aK=some r:=h;refine dK b5 (λh2 ee dj bb=>?_);refine aH dj (λeZ dy dw bO=>?_);refine ws _ ?_;refine aR h (λb6 h=>?_) (λb6 h=>?_)
   .refine aY (dy _ (.inl ?_));refine aH dj (λeB cQ cj de=>?_);refine bB cj (λe4 cu cM dx df=>?_);refine aH cM (λjk fg gm fo=>?_);refine ws _ ?_;refine aR h (λga h=>?_) (λga h=>?_)
    .refine ws _ ?_;exact aE (gm _ (.inl (aG [.int .i64 (-1)])))
    .refine aY (fg _ (.inl ?_));obtain⟨af,cI,h⟩:=aD h;obtain⟨ak,eb,h⟩:=aD h;refine JW cI (RP af _ eb) _ ?_;refine cu _ (cQ _ (.inl ?_));refine wr _ ?_;exact ee _ (.inr ⟨_,bo rfl,fl (IntKind.i64.wrap (aU+1)) (IntKind.i64.wrap (aK+(IntKind.i64.wrap (ak-1)))) h⟩)
   .refine dG (bO 0 _ (bb 0 _ (bD _ (bX _ (.inl ?_)))));refine ws _ ?_;exact aE (al _ (.inl (aG [.int .i64 aU])))
 obtain⟨n,h⟩:=dC h;exact dH (.inr ⟨_,bo rfl,fq n R 1 h⟩)
theorem aBP (mM:Int->cL->(List cL)->bs->Option (Int×(List cL))) (aBQ:∀(a0:Int) (R:cL) (a2:List cL) (a3:bs) (r:Int×(List cL)),mM a0 R a2 a3=some r->nj aF 135 2 4 [.int .i64 a0,en R,.bh (.ao 2 (a2.map en)),.ref (bP a3),.ref (.hole)] (.int .i64 r.1) [.hole,.hole,.bh (.ao 2 (r.2.map en)),.hole,.hole]) (a0:Int) (R:cL) (a2:List cL) (a3:bs) (r:Int×(List cL)) (h:Jm mM a0 R a2 a3=some r):nj aF 135 2 4 [.int .i64 a0,en R,.bh (.ao 2 (a2.map en)),.ref (bP a3),.ref (.hole)] (.int .i64 r.1) [.hole,.hole,.bh (.ao 2 (r.2.map en)),.hole,.hole]:=by
 refine nj.I8 (fx:=[0,1,2,3,4]) Jb [.tmp 7] [(0,.int .i64 a0),(1,en R),(2,.bh (.ao 2 (a2.map en))),(3,.ref (bP a3)),(4,.ref (.hole))] Tryz.func135 rfl rfl alP (Nat.le_of_ble_eq_true rfl) alO rfl rfl (λbI al bN=>?_);refine ws _ ?_;obtain⟨af,aQ,h⟩:=aD h;refine cd (bJ [(0,.int .i64 a0),(2,.bh (.ao 2 ((List.set a2 (Int.toNat a0) R).map en))),(3,.ref (bP a3)),(4,.ref (.hole)),(6,.bh (en R))] (λP ai=>?_) ?_)
 .simp only[aM.down,simprocAttr,el,s9,zK,ta,bP,cX,cn,en,fj,aQ,cR aQ,dN,dp];(try simp only[bf.down,simprocAttr,oM.down,aQ,cR aQ,dN,dp]at ai⊢);exact ai
 obtain⟨ak,cF,h⟩:=aD h;refine gv cF [(0,.int .i64 a0),(2,.bh (.ao 2 ((List.set a2 (Int.toNat a0) R).map en))),(3,.ref (bP a3)),(4,.ref (.hole)),(6,.bh (en R)),(8,.bh (cX ak))] ?_;refine gv (show∀s,fA aF s 162 [(0,.int .i64 R.scope),(1,.bool (ak.Kind==1))]=some (.agg [.int .i64 R.scope,.bool (ak.Kind==1)],s)from λs=>by kernel_rfl) [(0,.int .i64 a0),(2,.bh (.ao 2 ((List.set a2 (Int.toNat a0) R).map en))),(3,.ref (bP a3)),(4,.ref (.hole)),(8,.bh (cX ak)),(9,.bh (.agg [.int .i64 R.scope,.bool (ak.Kind==1)]))] ?_;have RQ:∀(lP:Int),Ed mM a0 R a2 a3 ak lP=some r->dc aF Qt bI (ab [(0,.int .i64 a0),(2,.bh (.ao 2 ((List.set a2 (Int.toNat a0) R).map en))),(3,.ref (bP a3)),(4,.ref (.hole)),(8,.bh (cX ak)),(9,.bh (.agg [.int .i64 lP,.bool (ak.Kind==1)]))]):=by
  intro lP h;refine ws [(2,.bh (.ao 2 ((List.set a2 (Int.toNat a0) R).map en))),(3,.ref (bP a3)),(4,.ref (.hole)),(8,.bh (cX ak)),(9,.bh (.agg [.int .i64 lP,.bool (ak.Kind==1)])),(10,.int .i64 (IntKind.i64.wrap (a0+1)))] ?_;refine aH al (λeB cQ cj de=>?_);obtain⟨aJ,nJ,h⟩:=aD h;refine dt (RP ak _ nJ) [(2,.bh (.ao 2 ((List.set a2 (Int.toNat a0) R).map en))),(3,.ref (bP a3)),(4,.ref (.hole)),(9,.bh (.agg [.int .i64 lP,.bool (ak.Kind==1)])),(10,.int .i64 (IntKind.i64.wrap (a0+1))),(36,.int .i64 aJ),(37,.int .i64 0)] ?_;refine bB cj (λkC hi jl e9 jV=>?_);have aBR:∀(n:Nat) (qb:List cL) (oF:Int) (pn:Int),ti mM a3 lP ak aJ n qb oF pn=some r->du aF Qs kC (ab [(2,.bh (.ao 2 (qb.map en))),(3,.ref (bP a3)),(4,.ref (.hole)),(9,.bh (.agg [.int .i64 lP,.bool (ak.Kind==1)])),(10,.int .i64 oF),(36,.int .i64 aJ),(37,.int .i64 pn)]):=by
   intro m20;induction m20 with
   |zero=>intro qb oF pn h;cases(show none=some r from h)
   |succ m20 aBS=>
    intro qb oF pn h;replace h:Ec mM (ti mM a3 lP ak aJ m20) a3 lP ak aJ qb oF pn=some r:=h;refine dK jl (λlr gU gM jM=>?_);refine ws _ ?_;refine aH gM (λlS g_ gL jq=>?_);refine aR h (λkZ h=>?_) (λkZ h=>?_)
    .refine aY (g_ _ (.inl ?_));refine aH gM (λmR kD js iz=>?_);refine bB js (λts nA ma ie nw=>?_);obtain⟨a8,iq,h⟩:=aD h;refine XU [(2,.bh (.ao 2 (a8.2.map en))),(3,.ref (bP a3)),(4,.ref (.hole)),(9,.bh (.agg [.int .i64 lP,.bool (ak.Kind==1)])),(10,.int .i64 a8.1),(36,.int .i64 aJ),(37,.int .i64 pn)] (λP ai=>?_) ?_
     .simp only[aM.down,simprocAttr,JX.down,p8];refine Ox [⟨.int .i64 oF,false,_,.hole⟩,⟨.agg [.int .i64 lP,.bool (ak.Kind==1)],false,_,.hole⟩,⟨.h 2 [],true,_,_⟩,⟨.ref (bP a3),false,_,.hole⟩,⟨.ref (.hole),false,_,.hole⟩] (aBQ oF (cL.mk lP (ak.Kind==1)) qb a3 _ iq) rfl (by simp only[aM.down,simprocAttr,JX.down,p8,p4,nX,kv,hq,hr,hs,dI,or_true,true_or, @cm _ en en (λ_=>PC _)]) rfl rfl (.inl rfl) ?_;simp only[aM.down,simprocAttr,JX.down,p8,nY];(try simp only[bf.down,simprocAttr,oM.down,p8]at ai⊢);exact ai
     refine nA _ (kD _ (.inl ?_));refine wr _ ?_;exact gU _ (.inr ⟨_,bo rfl,aBS a8.2 a8.1 (IntKind.i64.wrap (pn+1)) h⟩)
    .refine dG (jq 0 _ (jM 0 _ (e9 _ (cQ _ (.inl ?_)))));refine ws _ ?_;exact aE (al _ (.inl (pa [.int .i64 oF] rfl (by cases jO h;rfl) (by decide) (p5 (nZ (nZ (p6 (by cases jO h;rfl) rfl rfl rfl (nZ (nZ (p7))))))))))
  obtain⟨n,h⟩:=dC h;exact dH (.inr ⟨_,bo rfl,aBR n (List.set a2 (Int.toNat a0) R) (IntKind.i64.wrap (a0+1)) 0 h⟩)
 refine aH al (λhh dU dW cx=>?_);refine ws [(0,.int .i64 a0),(2,.bh (.ao 2 ((List.set a2 (Int.toNat a0) R).map en))),(3,.ref (bP a3)),(4,.ref (.hole)),(8,.bh (cX ak)),(9,.bh (.agg [.int .i64 R.scope,.bool (ak.Kind==1)])),(28,.bool (ak.Kind==4))] ?_;refine aR h (λka h=>?_) (λka h=>?_)
 .refine wr [(0,.int .i64 a0),(2,.bh (.ao 2 ((List.set a2 (Int.toNat a0) R).map en))),(3,.ref (bP a3)),(4,.ref (.hole)),(8,.bh (cX ak)),(9,.bh (.agg [.int .i64 (IntKind.i64.wrap (R.scope+1)),.bool (ak.Kind==1)]))] ?_;exact dU _ (.inr ⟨_,bo rfl,RQ (IntKind.i64.wrap (R.scope+1)) h⟩)
 .exact aY (dU _ (.inr ⟨_,bo rfl,RQ R.scope h⟩))
theorem aBT:∀(n:Nat) (a0:Int) (R:cL) (a2:List cL) (a3:bs) (r:Int×(List cL)),uW n a0 R a2 a3=some r->nj aF 135 2 4 [.int .i64 a0,en R,.bh (.ao 2 (a2.map en)),.ref (bP a3),.ref (.hole)] (.int .i64 r.1) [.hole,.hole,.bh (.ao 2 (r.2.map en)),.hole,.hole]:=by
 intro n;induction n with
 |zero=>intro a0 R a2 a3 r h;cases(show none=some r from h)
 |succ n ih=>intro a0 R a2 a3 r h;exact aBP (uW n) ih a0 R a2 a3 r h
theorem aBU (a0:Int) (R:cL) (a2:List cL) (a3:bs) (r:Int×(List cL)) (h:Ee a0 R a2 a3=some r):nj aF 135 2 4 [.int .i64 a0,en R,.bh (.ao 2 (a2.map en)),.ref (bP a3),.ref (.hole)] (.int .i64 r.1) [.hole,.hole,.bh (.ao 2 (r.2.map en)),.hole,.hole]:=by
 obtain⟨n,h⟩:=dC h;exact aBT n a0 R a2 a3 r h
theorem aBV (a0:bs) (r:(List cL)) (h:Ef a0=some r):bk aF 115 [bP a0] (.ao 2 (r.map en)) []:=by
 refine bk.YC (fx:=[0]) Jb [.tmp 2] [(0,bP a0)] Tryz.func115 rfl rfl alU (Nat.le_of_ble_eq_true rfl) alT rfl rfl (λbI al bN=>?_);refine ws _ ?_;obtain⟨Hv,aQ,h⟩:=aD h;refine cd (bJ [(1,.bh (bP a0)),(3,.bh (.ao 2 ((List.replicate (Int.toNat (a0.Body.length:Int)) (cL.mk 0 false)).map en)))] (λP ai=>?_) ?_)
 .simp only[aM.down,simprocAttr,el,s9,eL,kQ,mK,hK,je,gW,zK,ta,gJ,bP,cX,cn,en,fj,(dA aQ).1,(dA aQ).2.1,(dA aQ).2.2,eu,List.map_replicate,-Int.reduceNatCast'];(try simp only[bf.down,simprocAttr,oM.down,(dA aQ).1,(dA aQ).2.1,(dA aQ).2.2,eu,List.map_replicate,-Int.reduceNatCast']at ai⊢);exact ai
 obtain⟨af,cF,h⟩:=aD h;refine YA [(3,.bh (.ao 2 (af.2.map en)))] (λP ai=>?_) ?_
 .simp only[aM.down,simprocAttr,JY.down,(show∀s,fA aF s 162 [(0,.int .i64 a0.dE)]=some (.agg [.int .i64 a0.dE,.bool false],s)from λs=>by kernel_rfl),p8];refine Ox [⟨.int .i64 0,false,_,.hole⟩,⟨.agg [.int .i64 a0.dE,.bool false],false,_,.hole⟩,⟨.h 3 [],true,_,_⟩,⟨.h 1 [],false,_,.hole⟩,⟨.ref (.hole),false,_,.hole⟩] (aBU 0 (cL.mk a0.dE false) (List.replicate (Int.toNat (a0.Body.length:Int)) (cL.mk 0 false)) a0 _ cF) rfl (by simp only[aM.down,simprocAttr,JY.down,(show∀s,fA aF s 162 [(0,.int .i64 a0.dE)]=some (.agg [.int .i64 a0.dE,.bool false],s)from λs=>by kernel_rfl),p8,p4,nX,kv,hq,hr,hs,dI,or_true,true_or, @cm _ en en (λ_=>PC _), @cm _ cX cX (λ_=>JN _)]) rfl rfl ((.inr (by simp only[rP,I.dd,I.hV,Bool.and_self, @lg _ en (λ_=>Y1 _)]))) ?_;simp only[aM.down,simprocAttr,JY.down,(show∀s,fA aF s 162 [(0,.int .i64 a0.dE)]=some (.agg [.int .i64 a0.dE,.bool false],s)from λs=>by kernel_rfl),p8,nY];(try simp only[bf.down,simprocAttr,oM.down,(show∀s,fA aF s 162 [(0,.int .i64 a0.dE)]=some (.agg [.int .i64 a0.dE,.bool false],s)from λs=>by kernel_rfl),p8]at ai⊢);exact ai
 refine ws _ ?_;exact aE (al _ (.inl (aG [.ao 2 (af.2.map en)])))
theorem aBW (a0:bH) (r:Bool) (h:Jn a0=some r):bk aF 136 [cX a0] (.bool r) []:=by
 refine bQ [0] [.tmp 2] Tryz.func136 alZ (λbI al bN=>?_);refine ws _ ?_;refine cd (bJ [(1,.bh (cX a0)),(3,.bool ((a0.Kind==4)||(a0.Kind==5)))] (λP ai=>?_) ?_)
 .rcases Bool.eq_false_or_eq_true (a0.Kind==4)with ff|ff
  .simp only[aM.down,simprocAttr,pv.down,ff];(try simp only[bf.down,simprocAttr,n6.down,ff]at ai⊢);exact ai
  .simp only[aM.down,simprocAttr,pv.down,ff];(try simp only[bf.down,simprocAttr,n6.down,ff]at ai⊢);exact ai
 refine cd (bJ [(1,.bh (cX a0)),(3,.bool ((a0.Kind==4)||(a0.Kind==5))),(4,.bool (((a0.Kind==1)||(a0.Kind==3))||(a0.Kind==5)))] (λP ai=>?_) ?_)
 ·(rcases Bool.eq_false_or_eq_true (a0.Kind==1)with A9|A9)<;>(rcases Bool.eq_false_or_eq_true (a0.Kind==3)with qf|qf)<;>
   (simp only[aM.down,simprocAttr,pv.down,A9,qf]
    (try simp only[bf.down,simprocAttr,n6.down,A9,qf]at ai⊢);exact ai)
 obtain⟨af,h8,h⟩:=aD h;refine cd (bJ [(2,.bool (((af&&(((a0.Kind==4)||(a0.Kind==5))||(a0.Number==0)))&&((a0.Kind==1)||(a0.Name==([]:List UInt8))))&&((((a0.Kind==1)||(a0.Kind==3))||(a0.Kind==5))||((a0.cN.length:Int)==0))))] (λP ai=>?_) ?_)
 ·(rcases Bool.eq_false_or_eq_true (af)with n4|n4)<;>(rcases Bool.eq_false_or_eq_true (a0.Kind==4)with mP|mP)<;>(rcases Bool.eq_false_or_eq_true (a0.Kind==5)with x0|x0)<;>(rcases Bool.eq_false_or_eq_true (a0.Number==0)with x1|x1)<;>(rcases Bool.eq_false_or_eq_true (a0.Kind==1)with x3|x3)<;>(rcases Bool.eq_false_or_eq_true (a0.Name==([]:List UInt8))with pt|pt)<;>(rcases Bool.eq_false_or_eq_true (a0.Kind==3)with x2|x2)<;>
   (simp only[aM.down,simprocAttr,pv.down,n4,mP,x0,x1,x3,pt,x2]
    refine ez (iM a0.Kind 0 5 _ h8) rfl rfl rfl rfl (.inl (by rfl)) ?_;simp only[aM.down,simprocAttr,pv.down,n4,mP,x0,x1,x3,pt,x2];(try simp only[bf.down,simprocAttr,n6.down,n4,mP,x0,x1,x3,pt,x2]at ai⊢);exact ai)
 exact aE (al _ (.inl (aG [.bool (((af&&(((a0.Kind==4)||(a0.Kind==5))||(a0.Number==0)))&&((a0.Kind==1)||(a0.Name==([]:List UInt8))))&&((((a0.Kind==1)||(a0.Kind==3))||(a0.Kind==5))||((a0.cN.length:Int)==0)))])))
theorem kF (a0:List UInt8) (r:Bool) (h:po a0=some r):bk aF 93 [.str a0] (.bool r) []:=by
 refine bQ [0] [.tmp 2] Tryz.func93 al1 (λbI al bN=>?_);refine ws _ ?_;obtain⟨af,aQ,h⟩:=aD h;refine cd (bJ [(2,.bool (af&&(!(a0==([116,97,117]:List UInt8)))))] (λP ai=>?_) ?_)
 .rcases Bool.eq_false_or_eq_true (af)with ho|ho
  .simp only[aM.down,simprocAttr,ho];refine ez (Gf a0 _ aQ) rfl rfl rfl rfl (.inl (by rfl)) ?_;simp only[aM.down,simprocAttr,ho];(try simp only[bf.down,simprocAttr,ho]at ai⊢);exact ai
  .simp only[aM.down,simprocAttr,ho];refine ez (Gf a0 _ aQ) rfl rfl rfl rfl (.inl (by rfl)) ?_;simp only[aM.down,simprocAttr,ho];(try simp only[bf.down,simprocAttr,ho]at ai⊢);exact ai
 exact aE (al _ (.inl (aG [.bool (af&&(!(a0==([116,97,117]:List UInt8))))])))
theorem vJ (a0:Int) (R:Int) (r:Bool) (h:uX a0 R=some r):bk aF 31 [.int .i64 a0,.int .i64 R] (.bool r) []:=by
 refine bQ [0,1] [.tmp 4] Tryz.func31 al3 (λbI al bN=>?_);refine ws _ ?_;obtain⟨af,aQ,h⟩:=aD h;refine dt (iM a0 0 (IntKind.i64.wrap (R-1)) _ aQ) _ ?_;exact aE (al _ (.inl (aG [.bool af])))
theorem aBX (a0:bH) (R:List bs) (r:Bool) (h:Jo a0 R=some r):bk aF 137 [cX a0,.slice (R.map bP)] (.bool r) []:=by
 refine bQ [0,1] [.tmp 4] Tryz.func137 amg (λbI al bN=>?_);refine ws _ ?_;refine ws _ ?_;refine aH al (λj_ f_ dk aJ=>?_);refine ws _ ?_;refine bB dk (λh2 ee dj dQ bb=>?_);refine ws _ ?_;refine aR h (λpQ h=>?_) (λpQ h=>?_)
 .refine cd (bJ [(4,.bool (((a0.cN.length:Int)==0)||((!(a0.Name==([116,97,117]:List UInt8)))&&(decide ((a0.cN.length:Int)<=2)))))] (λP ai=>?_) ?_)
  ·(rcases Bool.eq_false_or_eq_true ((a0.cN.length:Int)==0)with n4|n4)<;>(rcases Bool.eq_false_or_eq_true (a0.Name==([116,97,117]:List UInt8))with mP|mP)<;>
    (simp only[aM.down,simprocAttr,Bd.down,n4,mP]
     (try simp only[bf.down,simprocAttr,iJ.down,n4,mP]at ai⊢);exact ai)
  exact aE (dj _ (.inl (aG [.bool (((a0.cN.length:Int)==0)||((!(a0.Name==([116,97,117]:List UInt8)))&&(decide ((a0.cN.length:Int)<=2))))])))
 .refine ws _ ?_;refine aR h (λe9 h=>?_) (λe9 h=>?_)
  .refine ws _ ?_;exact aE (dj _ (.inl (aG [.bool ((a0.cN.length:Int)==1)])))
  .refine ws _ ?_;refine aR h (λeX h=>?_) (λeX h=>?_)
   .obtain⟨af,eb,h⟩:=aD h;refine gv eb _ ?_;exact aE (dj _ (.inl (aG [.bool ((a0.cN.length:Int)==af.dE)])))
   .refine aY (ee _ (f_ _ (.inl ?_)));refine ws _ ?_;exact aE (al _ (.inl (aG [.bool true])))
theorem RR (a0:Int) (r:Bool) (h:xM a0=some r):bk aF 119 [.int .i64 a0] (.bool r) []:=by
 refine bQ [0] [.tmp 2] Tryz.func119 ami (λbI al bN=>?_);refine ws _ ?_;obtain⟨af,aQ,h⟩:=aD h;refine dt (iM a0 0 63 _ aQ) _ ?_;exact aE (al _ (.inl (aG [.bool af])))
theorem aBY (a0:b1) (R:Int) (r:Bool) (h:Eg a0 R=some r):bk aF 154 [cn a0,.int .i64 R] (.bool r) []:=by
 refine bQ [0,1] [.tmp 4] Tryz.func154 amx (λbI al bN=>?_);refine ws _ ?_;refine aH al (λej bX bp ak=>?_);refine ws _ ?_;refine bB bp (λdV eh b5 bD a8=>?_);refine ws _ ?_;refine aR h (λcO h=>?_) (λcO h=>?_)
 .obtain⟨af,h8,h⟩:=aD h;refine dt (RR a0.Value _ h8) _ ?_;exact aE (b5 _ (.inl (aG [.bool af])))
 .refine ws _ ?_;refine aR h (λdx h=>?_) (λdx h=>?_)
  .obtain⟨ak,er,h⟩:=aD h;refine dt (iM a0.Value 0 (IntKind.i64.wrap (R-1)) _ er) _ ?_;exact aE (b5 _ (.inl (aG [.bool ak])))
  .refine ws _ ?_;refine aR h (λiL h=>?_) (λiL h=>?_)
   .obtain⟨aJ,cI,h⟩:=aD h;refine dt (iM a0.Value 0 8 _ cI) _ ?_;exact aE (b5 _ (.inl (aG [.bool aJ])))
   .refine ws _ ?_;refine aR h (λie h=>?_) (λie h=>?_)
    .refine ws _ ?_;exact aE (b5 _ (.inl (aG [.bool (a0.Value==0)])))
    .refine aY (eh _ (bX _ (.inl ?_)));refine ws _ ?_;exact aE (al _ (.inl (aG [.bool false])))
theorem aBZ (a0:b1) (r:Int) (h:Jp a0=some r):bk aF 155 [cn a0] (.int .i64 r) []:=by
 refine bQ [0] [.tmp 2] Tryz.func155 amH (λbI al bN=>?_);refine ws _ ?_;refine aH al (λej bX bp ak=>?_);refine ws _ ?_;refine bB bp (λdV eh b5 bD a8=>?_);refine ws _ ?_;refine aR h (λcO h=>?_) (λcO h=>?_)
 .refine ws _ ?_;exact aE (b5 _ (.inl (aG [.int .i64 2])))
 .refine ws _ ?_;refine aR h (λhQ h=>?_) (λhQ h=>?_)
  .refine ws _ ?_;exact aE (b5 _ (.inl (aG [.int .i64 1])))
  .refine aY (eh _ (bX _ (.inl ?_)));refine ws _ ?_;exact aE (al _ (.inl (aG [.int .i64 0])))
theorem aB0 (a0:List b1) (R:Int) (a2:Int) (r:Bool) (h:Ei a0 R a2=some r):bk aF 140 [.slice (a0.map cn),.int .i64 R,.int .i64 a2] (.bool r) []:=by
 refine bQ [0,1,2] [.tmp 6] Tryz.func140 amX (λbI al bN=>?_);refine ws _ ?_;refine aH al (λej bX bp ak=>?_);obtain⟨af,cC,h⟩:=aD h;rcases eS h with⟨dQ,h⟩|⟨dQ,h⟩
 .refine gT (gk dQ) (iM R 0 29 _ cC) _ ?_;refine iW rfl ?_;refine ws _ ?_;exact aE (bp _ (.inl (aG [.bool false])))
 .obtain⟨ak,b4,h⟩:=aD h;rcases eS h with⟨b6,h⟩|⟨b6,h⟩
  .refine cd (bJ [(0,.slice (a0.map cn)),(1,.int .i64 R),(24,.bool true)] (λP ai=>?_) ?_)
   .simp only[aM.down,simprocAttr,oK.down,(bY dQ),(gk b6)];refine ez (iM R 0 29 _ cC) rfl rfl rfl rfl (.inl (by rfl)) ?_;simp only[aM.down,simprocAttr,oK.down,(bY dQ),(gk b6)];refine fT (iM a2 1 60 _ b4) rfl rfl rfl rfl (.inl (by rfl)) ?_;simp only[aM.down,simprocAttr,oK.down,(bY dQ),(gk b6)];(try simp only[bf.down,simprocAttr,cn,(bY dQ),(gk b6)]at ai⊢);exact ai
   refine iW rfl ?_;refine ws _ ?_;exact aE (bp _ (.inl (aG [.bool false])))
  .obtain⟨aJ,mF,h⟩:=aD h;refine cd (bJ [(0,.slice (a0.map cn)),(1,.int .i64 R),(24,.bool (!aJ))] (λP ai=>?_) ?_)
   .simp only[aM.down,simprocAttr,oK.down,(bY dQ),(bY b6)];refine ez (iM R 0 29 _ cC) rfl rfl rfl rfl (.inl (by rfl)) ?_;simp only[aM.down,simprocAttr,oK.down,(bY dQ),(bY b6)];refine fT (iM a2 1 60 _ b4) rfl rfl rfl rfl (.inl (by rfl)) ?_;simp only[aM.down,simprocAttr,oK.down,(bY dQ),(bY b6)];refine fT (iM (a0.length:Int) 1 a2 _ mF) rfl rfl rfl rfl (.inl (by rfl)) ?_;simp only[aM.down,simprocAttr,oK.down,(bY dQ),(bY b6)];(try simp only[bf.down,simprocAttr,cn,(bY dQ),(bY b6)]at ai⊢);exact ai
   refine aR h (λl6 h=>?_) (λl6 h=>?_)
   .refine ws _ ?_;exact aE (bp _ (.inl (aG [.bool false])))
   .refine aY (bX _ (.inl ?_));refine ws _ ?_;refine aH al (λiK fa eW h6=>?_);refine ws _ ?_;refine bB eW (λq4 kz lu kZ nv=>?_);have kV:∀(n:Nat) (h0:Int) (oG:Int),uY a0 R n h0 oG=some r->du aF Qw q4 (ab [(1,.int .i64 R),(7,.int .i64 h0),(25,.slice (a0.map cn)),(26,.int .i64 (a0.length:Int)),(27,.int .i64 oG)]):=by
     intro m16;induction m16 with
     |zero=>intro h0 oG h;cases(show none=some r from h)
     |succ m16 kW=>
      intro h0 oG h;replace h:Eh (uY a0 R m16) a0 R h0 oG=some r:=h;refine dK lu (λmR kD js iz=>?_);refine ws _ ?_;refine aH js (λFX q6 x_ qd=>?_);refine aR h (λfG h=>?_) (λfG h=>?_)
      .refine aY (q6 _ (.inl ?_));refine aH js (λKC Gg yk qe=>?_);refine bB yk (λq5 kA kB q7 mA=>?_);obtain⟨a8,i1,h⟩:=aD h;refine gv i1 _ ?_;refine aH kB (λGd r9 ql Br=>?_);rcases eS h with⟨qk,h⟩|⟨qk,h⟩
       .refine gv qk _ ?_;refine iW rfl ?_;refine ws _ ?_;exact aE (ql _ (.inl (aG [.bool false])))
       .obtain⟨bb,aB1,h⟩:=aD h;refine cd (bJ [(1,.int .i64 R),(7,.int .i64 h0),(9,.bh (cn a8)),(25,.slice (a0.map cn)),(26,.int .i64 (a0.length:Int)),(27,.int .i64 oG),(38,.bool (!bb))] (λP ai=>?_) ?_)
        .simp only[aM.down,simprocAttr,el,gJ,cn,qk];refine fT (aBY a8 R _ aB1) rfl rfl rfl rfl (.inl (by rfl)) ?_;simp only[aM.down,simprocAttr,el,gJ,cn,qk];(try simp only[bf.down,simprocAttr,cn,qk]at ai⊢);exact ai
        refine aR h (λjW h=>?_) (λjW h=>?_)
        .refine ws _ ?_;exact aE (ql _ (.inl (aG [.bool false])))
        .refine aY (r9 _ (.inl ?_));obtain⟨bO,tt,h⟩:=aD h;refine Rh (aBZ a8 _ tt) _ ?_;refine kA _ (Gg _ (.inl ?_));refine wr _ ?_;exact kD _ (.inr ⟨_,bo rfl,kW (IntKind.i64.wrap (h0+(IntKind.i64.wrap (bO-1)))) (IntKind.i64.wrap (oG+1)) h⟩)
      .refine dG (qd 0 _ (iz 0 _ (kZ _ (fa _ (.inl ?_)))));refine ws _ ?_;exact aE (al _ (.inl (aG [.bool (h0==0)])))
    obtain⟨n,h⟩:=dC h;exact dH (.inr ⟨_,bo rfl,kV n 1 0 h⟩)
theorem aB2 (a0:List b1) (R:cL) (r:Bool) (h:Jq a0 R=some r):bk aF 139 [.slice (a0.map cn),.ref (en R)] (.bool r) []:=by
 refine bQ [0,1] [.tmp 3] Tryz.func139 amZ (λbI al bN=>?_);refine ws _ ?_;obtain⟨af,aQ,h⟩:=aD h;refine dt (aB0 a0 R.scope 15 _ aQ) _ ?_;exact aE (al _ (.inl (aG [.bool (!af)])))
theorem aB3 (a0:List (List b1)) (R:cL) (r:Int) (h:Jr a0 R=some r):bk aF 153 [.slice (a0.map fj),.fn 139 [.ref (en R)]] (.int .i64 r) []:=by
 refine bQ [0,1] [.tmp 4] Tryz.func153 am_ (λbI al bN=>?_);refine ws _ ?_;refine aH al (λej bX bp ak=>?_);refine ws _ ?_;refine bB bp (λdV eh b5 bD a8=>?_);have fq:∀(n:Nat) (cV:Int),xN a0 R n cV=some r->du aF Qx dV (ab [(0,.slice (a0.map fj)),(1,.fn 139 [.ref (en R)]),(7,.int .i64 (a0.length:Int)),(8,.int .i64 cV)]):=by
  intro m6;induction m6 with
  |zero=>intro cV h;cases(show none=some r from h)
  |succ m6 fl=>
   intro cV h;replace h:Ej (xN a0 R m6) a0 R cV=some r:=h;refine dK b5 (λh2 ee dj bb=>?_);refine ws _ ?_;refine aH dj (λhh dU dW cx=>?_);refine aR h (λb6 h=>?_) (λb6 h=>?_)
   .refine aY (dU _ (.inl ?_));refine aH dj (λeB cQ cj de=>?_);refine bB cj (λe4 cu cM dx df=>?_);refine ws _ ?_;obtain⟨af,et,h⟩:=aD h;obtain⟨ak,ew,h⟩:=aD h;refine gT et (aB2 af R _ ew) _ ?_;refine aR h (λeX h=>?_) (λeX h=>?_)
    .refine ws _ ?_;exact aE (cM _ (.inl (aG [.int .i64 cV])))
    .refine aY (cu _ (cQ _ (.inl ?_)));refine wr _ ?_;exact ee _ (.inr ⟨_,bo rfl,fl (IntKind.i64.wrap (cV+1)) h⟩)
   .refine dG (cx 0 _ (bb 0 _ (bD _ (bX _ (.inl ?_)))));refine ws _ ?_;exact aE (al _ (.inl (aG [.int .i64 (-1)])))
 obtain⟨n,h⟩:=dC h;exact dH (.inr ⟨_,bo rfl,fq n 0 h⟩)
theorem aB4 (a0:List (List b1)) (R:cL) (r:Bool) (h:Ek a0 R=some r):bk aF 138 [.slice (a0.map fj),.fn 139 [.ref (en R)]] (.bool r) []:=by
 refine bQ [0,1] [.tmp 4] Tryz.func138 anb (λbI al bN=>?_);refine ws _ ?_;obtain⟨af,aQ,h⟩:=aD h;refine dt (aB3 a0 R _ aQ) _ ?_;exact aE (al _ (.inl (aG [.bool (decide (0<=af))])))
theorem aB5 (a0:bH) (R:List bs) (a2:cL) (r:Int) (h:Ay a0 R a2=some r):bk aF 116 [cX a0,.slice (R.map bP),en a2] (.int .i64 r) []:=by
 refine bQ [0,1,2] [.tmp 6] Tryz.func116 anx (λbI al bN=>?_);refine ws _ ?_;refine aH al (λej bX bp ak=>?_);refine bB bp (λj_ f_ dk jA aJ=>?_);obtain⟨af,cF,h⟩:=aD h;refine dt (aBW a0 _ cF) _ ?_;refine aR h (λcO h=>?_) (λcO h=>?_)
 .refine ws _ ?_;exact aE (dk _ (.inl (aG [.int .i64 2])))
 .skip;have yb:∀(Ax:Bool),Aw a0 R a2 Ax=some r->dc aF Qz j_ (ab [(1,.slice (R.map bP)),(3,.bh (cX a0)),(5,.bh (en a2)),(11,.bool Ax)]):=by
   intro Ax h;refine aR h (λb6 h=>?_) (λb6 h=>?_)
   .refine ws _ ?_;exact aE (dk _ (.inl (aG [.int .i64 3])))
   .skip;have Bs:∀(Av:Bool),uZ a0 R a2 Av=some r->dc aF Qy j_ (ab [(1,.slice (R.map bP)),(3,.bh (cX a0)),(5,.bh (en a2)),(26,.bool Av)]):=by
     intro Av h;refine aR h (λdx h=>?_) (λdx h=>?_)
     .refine ws _ ?_;exact aE (dk _ (.inl (aG [.int .i64 4])))
     .obtain⟨ak,et,h⟩:=aD h;refine dt (aBX a0 R _ et) _ ?_;refine aR h (λiL h=>?_) (λiL h=>?_)
      .refine ws _ ?_;exact aE (dk _ (.inl (aG [.int .i64 5])))
      .refine cd (bJ [(3,.bh (cX a0)),(5,.bh (en a2)),(54,.bool ((a0.Kind==5)&&(!a2.behind)))] (λP ai=>?_) ?_)
       .rcases Bool.eq_false_or_eq_true (a0.Kind==5)with vm|vm
        .simp only[aM.down,simprocAttr,FO.down,vm];(try simp only[bf.down,simprocAttr,Be.down,vm]at ai⊢);exact ai
        .simp only[aM.down,simprocAttr,FO.down,vm];(try simp only[bf.down,simprocAttr,Be.down,vm]at ai⊢);exact ai
       refine aR h (λie h=>?_) (λie h=>?_)
       .refine ws _ ?_;exact aE (dk _ (.inl (aG [.int .i64 6])))
       .refine cd (bJ [(3,.bh (cX a0)),(5,.bh (en a2)),(63,.bool ((a0.Kind==4)&&(decide (6<=a2.scope))))] (λP ai=>?_) ?_)
        .rcases Bool.eq_false_or_eq_true (a0.Kind==4)with vp|vp
         .simp only[aM.down,simprocAttr,FO.down,vp];(try simp only[bf.down,simprocAttr,Be.down,vp]at ai⊢);exact ai
         .simp only[aM.down,simprocAttr,FO.down,vp];(try simp only[bf.down,simprocAttr,Be.down,vp]at ai⊢);exact ai
        refine aR h (λq7 h=>?_) (λq7 h=>?_)
        .refine ws _ ?_;exact aE (dk _ (.inl (aG [.int .i64 7])))
        .obtain⟨aJ,l8,h⟩:=aD h;refine cd (bJ [(72,.bool aJ)] (λP ai=>?_) ?_)
         .simp only[aM.down,simprocAttr,JZ.down];refine ez (aB4 a0.cN a2 _ l8) rfl rfl (by simp only[aM.down,simprocAttr,JZ.down,hq,hr,hs,dI]<;>rfl) rfl (.inr (by rfl)) ?_;simp only[aM.down,simprocAttr,JZ.down];(try simp only[bf.down,simprocAttr,Be.down]at ai⊢);exact ai
         refine aR h (λhS h=>?_) (λhS h=>?_)
         .refine ws _ ?_;exact aE (dk _ (.inl (aG [.int .i64 8])))
         .refine aY (f_ _ (bX _ (.inl ?_)));refine ws _ ?_;exact aE (al _ (.inl (aG [.int .i64 0])))
    rcases eS h with⟨jW,h⟩|⟨jW,h⟩
    .obtain⟨a8,Bt,h⟩:=aD h;rcases eS h with⟨pB,h⟩|⟨pB,h⟩
     .refine l1 (bJ (K:=eK _) [(1,.slice (R.map bP)),(3,.bh (cX a0)),(5,.bh (en a2)),(26,.bool true)] (λP ai=>?_) ?_)
      .simp only[aM.down,simprocAttr,q2.down,jW,(gk pB)];refine fT (iM a0.Number 1 7 _ Bt) rfl rfl rfl rfl (.inl (by rfl)) ?_;simp only[aM.down,simprocAttr,q2.down,jW,(gk pB)];(try simp only[bf.down,simprocAttr,oM.down,jW,(gk pB)]at ai⊢);exact ai
      exact .inr ⟨_,bo rfl,Bs true h⟩
     .rcases eS h with⟨jt,h⟩|⟨jt,h⟩
      .obtain⟨bb,l_,h⟩:=aD h;refine l1 (bJ (K:=eK _) [(1,.slice (R.map bP)),(3,.bh (cX a0)),(5,.bh (en a2)),(26,.bool (!bb))] (λP ai=>?_) ?_)
       .simp only[aM.down,simprocAttr,q2.down,jW,(bY pB),jt];refine fT (iM a0.Number 1 7 _ Bt) rfl rfl rfl rfl (.inl (by rfl)) ?_;simp only[aM.down,simprocAttr,q2.down,jW,(bY pB),jt];refine fT (vJ a0.Number (R.length:Int) _ l_) rfl rfl rfl rfl (.inl (by rfl)) ?_;simp only[aM.down,simprocAttr,q2.down,jW,(bY pB),jt];(try simp only[bf.down,simprocAttr,oM.down,jW,(bY pB),jt]at ai⊢);exact ai
       exact .inr ⟨_,bo rfl,Bs (!bb) h⟩
      .refine l1 (bJ (K:=eK _) [(1,.slice (R.map bP)),(3,.bh (cX a0)),(5,.bh (en a2)),(26,.bool false)] (λP ai=>?_) ?_)
       .simp only[aM.down,simprocAttr,q2.down,jW,(bY pB),jt];refine fT (iM a0.Number 1 7 _ Bt) rfl rfl rfl rfl (.inl (by rfl)) ?_;simp only[aM.down,simprocAttr,q2.down,jW,(bY pB),jt];(try simp only[bf.down,simprocAttr,oM.down,jW,(bY pB),jt]at ai⊢);exact ai
       exact .inr ⟨_,bo rfl,Bs false h⟩
    .rcases eS h with⟨nz,h⟩|⟨nz,h⟩
     .obtain⟨bO,KD,h⟩:=aD h;refine l1 (bJ (K:=eK _) [(1,.slice (R.map bP)),(3,.bh (cX a0)),(5,.bh (en a2)),(26,.bool (!bO))] (λP ai=>?_) ?_)
      .simp only[aM.down,simprocAttr,q2.down,jW,nz];refine fT (vJ a0.Number (R.length:Int) _ KD) rfl rfl rfl rfl (.inl (by rfl)) ?_;simp only[aM.down,simprocAttr,q2.down,jW,nz];(try simp only[bf.down,simprocAttr,oM.down,jW,nz]at ai⊢);exact ai
      exact .inr ⟨_,bo rfl,Bs (!bO) h⟩
     .refine l1 (bJ (K:=eK _) [(1,.slice (R.map bP)),(3,.bh (cX a0)),(5,.bh (en a2)),(26,.bool false)] (λP ai=>?_) ?_)
      .simp only[aM.down,simprocAttr,q2.down,jW,nz];(try simp only[bf.down,simprocAttr,oM.down,jW,nz]at ai⊢);exact ai
      exact .inr ⟨_,bo rfl,Bs false h⟩
  rcases eS h with⟨q9,h⟩|⟨q9,h⟩
  .rcases eS h with⟨px,h⟩|⟨px,h⟩
   .obtain⟨cx,KE,h⟩:=aD h;refine l1 (bJ (K:=eK _) [(1,.slice (R.map bP)),(3,.bh (cX a0)),(5,.bh (en a2)),(11,.bool (!cx))] (λP ai=>?_) ?_)
    .simp only[aM.down,simprocAttr,FP.down,q9,px];refine fT (kF a0.Name _ KE) rfl rfl rfl rfl (.inl (by rfl)) ?_;simp only[aM.down,simprocAttr,FP.down,q9,px];(try simp only[bf.down,simprocAttr,oM.down,q9,px]at ai⊢);exact ai
    exact .inr ⟨_,bo rfl,yb (!cx) h⟩
   .refine l1 (bJ (K:=eK _) [(1,.slice (R.map bP)),(3,.bh (cX a0)),(5,.bh (en a2)),(11,.bool false)] (λP ai=>?_) ?_)
    .simp only[aM.down,simprocAttr,FP.down,q9,px];(try simp only[bf.down,simprocAttr,oM.down,q9,px]at ai⊢);exact ai
    exact .inr ⟨_,bo rfl,yb false h⟩
  .refine l1 (bJ (K:=eK _) [(1,.slice (R.map bP)),(3,.bh (cX a0)),(5,.bh (en a2)),(11,.bool false)] (λP ai=>?_) ?_)
   .simp only[aM.down,simprocAttr,FP.down,q9];(try simp only[bf.down,simprocAttr,oM.down,q9]at ai⊢);exact ai
   exact .inr ⟨_,bo rfl,yb false h⟩
theorem aB6 (a0:List bs) (R:bs) (r:Int×Int) (h:AA a0 R=some r):bk aF 90 [.slice (a0.map bP),bP R] (.tuple [.int .i64 r.1,.int .i64 r.2]) []:=by
 refine bQ [0,1] [.tmp 4,.tmp 5] Tryz.func90 anO (λbI al bN=>?_);refine ws _ ?_;refine aH al (λej bX bp ak=>?_);obtain⟨af,cC,h⟩:=aD h;rcases eS h with⟨dQ,h⟩|⟨dQ,h⟩
 .refine hX rfl (hY [(0,.slice (a0.map bP)),(3,.bh (bP R)),(22,.bool true)] (λP ai=>?_) ?_)
  .simp only[dY.down,simprocAttr,q1.down,(gk dQ)];refine j7 (iM (R.Body.length:Int) 1 20 _ cC) rfl rfl rfl rfl (.inl (by rfl)) ?_;simp only[dY.down,simprocAttr,q1.down,(gk dQ)];refine⟨ht (by kernel_rfl),?_⟩;(try simp only[bf.down,simprocAttr,iJ.down,(gk dQ)]at ai⊢);exact ai
  refine iW rfl ?_;refine ws _ ?_;exact aE (bp _ (.inl (aG [.int .i64 0,.int .i64 1])))
 .obtain⟨ak,b4,h⟩:=aD h;refine hX rfl (hY [(0,.slice (a0.map bP)),(3,.bh (bP R)),(22,.bool (ak !=(R.Body.length:Int)))] (λP ai=>?_) ?_)
  .simp only[dY.down,simprocAttr,q1.down,(bY dQ)];refine j7 (iM (R.Body.length:Int) 1 20 _ cC) rfl rfl rfl rfl (.inl (by rfl)) ?_;simp only[dY.down,simprocAttr,q1.down,(bY dQ)];refine nW (aBO R 0 _ b4) rfl rfl rfl rfl (.inl (by rfl)) ?_;simp only[dY.down,simprocAttr,q1.down,(bY dQ)];refine⟨ht (by kernel_rfl),?_⟩;(try simp only[bf.down,simprocAttr,iJ.down,(bY dQ)]at ai⊢);exact ai
  refine aR h (λb6 h=>?_) (λb6 h=>?_)
  .refine ws _ ?_;exact aE (bp _ (.inl (aG [.int .i64 0,.int .i64 1])))
  .refine aY (bX _ (.inl ?_));obtain⟨aJ,nJ,h⟩:=aD h;refine dt (aBV R _ nJ) _ ?_;refine aH al (λkC hi jl jV=>?_);refine ws _ ?_;refine bB jl (λiK fa eW iL h6=>?_);have kV:∀(n:Nat) (my:Int),tj a0 R aJ n my=some r->du aF QA iK (ab [(0,.slice (a0.map bP)),(6,.ao 2 (aJ.map en)),(26,.slice (R.Body.map cX)),(27,.int .i64 (R.Body.length:Int)),(28,.int .i64 my)]):=by
    intro m16;induction m16 with
    |zero=>intro my h;cases(show none=some r from h)
    |succ m16 kW=>
     intro my h;replace h:Az (tj a0 R aJ m16) a0 R aJ my=some r:=h;refine dK eW (λlS g_ gL jq=>?_);refine ws _ ?_;refine aH gL (λmR kD js iz=>?_);refine aR h (λie h=>?_) (λie h=>?_)
     .refine aY (kD _ (.inl ?_));refine aH gL (λFX q6 x_ qd=>?_);refine bB x_ (λRm ya FY fG vl=>?_);obtain⟨a8,gb,h⟩:=aD h;refine gv gb _ ?_;obtain⟨bb,i1,h⟩:=aD h;obtain⟨bO,l8,h⟩:=aD h;refine hX rfl (hY [(0,.slice (a0.map bP)),(6,.ao 2 (aJ.map en)),(7,.int .i64 my),(9,.int .i64 bO),(26,.slice (R.Body.map cX)),(27,.int .i64 (R.Body.length:Int)),(28,.int .i64 my)] (λP ai=>?_) ?_)
      .simp only[dY.down,simprocAttr,el,s9,eL,hK,je,gW,zK,ta,gJ,bP,cX,cn,en,fj,i1,cR i1];refine j7 (aB5 a8 a0 bb _ l8) rfl rfl rfl rfl (.inl (by rfl)) ?_;simp only[dY.down,simprocAttr,el,s9,eL,hK,je,gW,zK,ta,gJ,bP,cX,cn,en,fj,i1,cR i1];refine⟨ht (by kernel_rfl),?_⟩;(try simp only[bf.down,simprocAttr,oM.down,i1,cR i1]at ai⊢);exact ai
      refine ws _ ?_;refine aR h (λqk h=>?_) (λqk h=>?_)
      .refine ws _ ?_;exact aE (FY _ (.inl (aG [.int .i64 my,.int .i64 bO])))
      .refine aY (ya _ (q6 _ (.inl ?_)));refine wr _ ?_;exact g_ _ (.inr ⟨_,bo rfl,kW (IntKind.i64.wrap (my+1)) h⟩)
     .refine dG (iz 0 _ (jq 0 _ (iL _ (hi _ (.inl ?_)))));refine ws _ ?_;exact aE (al _ (.inl (aG [.int .i64 0,.int .i64 0])))
   obtain⟨n,h⟩:=dC h;exact dH (.inr ⟨_,bo rfl,kV n 0 h⟩)
theorem aB7 (a0:List bs) (r:Bool) (h:Em a0=some r):bk aF 69 [.slice (a0.map bP)] (.bool r) []:=by
 refine bQ [0] [.tmp 2] Tryz.func69 an6 (λbI al bN=>?_);refine ws _ ?_;refine aH al (λej bX bp ak=>?_);obtain⟨af,cC,h⟩:=aD h;rcases eS h with⟨dQ,h⟩|⟨dQ,h⟩
 .refine gT (gk dQ) (iM (a0.length:Int) 1 4 _ cC) _ ?_;refine iW rfl ?_;refine ws _ ?_;exact aE (bp _ (.inl (aG [.bool false])))
 .obtain⟨ak,b4,h⟩:=aD h;refine cd (bJ [(0,.slice (a0.map bP)),(15,.bool (!ak))] (λP ai=>?_) ?_)
  .simp only[aM.down,simprocAttr,jN.down,(bY dQ)];refine ez (iM (a0.length:Int) 1 4 _ cC) rfl rfl rfl rfl (.inl (by rfl)) ?_;simp only[aM.down,simprocAttr,jN.down,(bY dQ)];refine fT (aBJ a0 _ b4) rfl rfl rfl rfl (.inl (by rfl)) ?_;simp only[aM.down,simprocAttr,jN.down,(bY dQ)];(try simp only[bf.down,simprocAttr,iJ.down,(bY dQ)]at ai⊢);exact ai
  refine aR h (λb6 h=>?_) (λb6 h=>?_)
  .refine ws _ ?_;exact aE (bp _ (.inl (aG [.bool false])))
  .refine aY (bX _ (.inl ?_));refine aH al (λe4 cu cM df=>?_);refine ws _ ?_;refine bB cM (λkC hi jl e9 jV=>?_);have h1:∀(n:Nat) (nr:Int),u0 a0 n nr=some r->du aF QB kC (ab [(0,.slice (a0.map bP)),(16,.slice (a0.map bP)),(17,.int .i64 (a0.length:Int)),(18,.int .i64 nr)]):=by
    intro m14;induction m14 with
    |zero=>intro nr h;cases(show none=some r from h)
    |succ m14 hC=>
     intro nr h;replace h:El (u0 a0 m14) a0 nr=some r:=h;refine dK jl (λlr gU gM jM=>?_);refine ws _ ?_;refine aH gM (λlS g_ gL jq=>?_);refine aR h (λkZ h=>?_) (λkZ h=>?_)
     .refine aY (g_ _ (.inl ?_));refine aH gM (λmR kD js iz=>?_);refine bB js (λts nA ma ie nw=>?_);obtain⟨aJ,iq,h⟩:=aD h;refine gv iq _ ?_;refine aH ma (λKC Gg yk qe=>?_);obtain⟨a8,l7,h⟩:=aD h;rcases eS h with⟨ka,h⟩|⟨ka,h⟩
      .refine hX rfl (hY [(0,.slice (a0.map bP)),(4,.bh (bP aJ)),(16,.slice (a0.map bP)),(17,.int .i64 (a0.length:Int)),(18,.int .i64 nr),(35,.bool true)] (λP ai=>?_) ?_)
       .simp only[dY.down,simprocAttr,jN.down,(gk ka)];refine j7 (Gf aJ.Name _ l7) rfl rfl rfl rfl (.inl (by rfl)) ?_;simp only[dY.down,simprocAttr,jN.down,(gk ka)];refine⟨ht (by kernel_rfl),?_⟩;(try simp only[bf.down,simprocAttr,iJ.down,(gk ka)]at ai⊢);exact ai
       refine iW rfl ?_;refine ws _ ?_;exact aE (yk _ (.inl (aG [.bool false])))
      .obtain⟨bb,vI,h⟩:=aD h;obtain⟨bO,kl,h⟩:=aD h;refine hX rfl (hY [(0,.slice (a0.map bP)),(4,.bh (bP aJ)),(16,.slice (a0.map bP)),(17,.int .i64 (a0.length:Int)),(18,.int .i64 nr),(35,.bool (decide (0<=bO)))] (λP ai=>?_) ?_)
       .simp only[dY.down,simprocAttr,jN.down,(bY ka),vI, @pb _ bP 3 (λ_=>rfl)];refine j7 (Gf aJ.Name _ l7) rfl rfl rfl rfl (.inl (by rfl)) ?_;simp only[dY.down,simprocAttr,jN.down,(bY ka),vI, @pb _ bP 3 (λ_=>rfl)];refine nW (aBN bb aJ.Name _ kl) rfl rfl rfl rfl (.inl (by rfl)) ?_;simp only[dY.down,simprocAttr,jN.down,(bY ka),vI, @pb _ bP 3 (λ_=>rfl)];refine⟨ht (by kernel_rfl),?_⟩;(try simp only[bf.down,simprocAttr,iJ.down,(bY ka),vI, @pb _ bP 3 (λ_=>rfl)]at ai⊢);exact ai
       refine aR h (λvG h=>?_) (λvG h=>?_)
       .refine ws _ ?_;exact aE (yk _ (.inl (aG [.bool false])))
       .refine aY (Gg _ (.inl ?_));obtain⟨cx,Bt,h⟩:=aD h;refine dt (aB6 a0 aJ _ Bt) _ ?_;refine ws _ ?_;refine aR h (λjt h=>?_) (λjt h=>?_)
        .refine ws _ ?_;exact aE (ma _ (.inl (aG [.bool false])))
        .refine aY (nA _ (kD _ (.inl ?_)));refine wr _ ?_;exact gU _ (.inr ⟨_,bo rfl,hC (IntKind.i64.wrap (nr+1)) h⟩)
     .refine dG (jq 0 _ (jM 0 _ (e9 _ (cu _ (.inl ?_)))));refine ws _ ?_;exact aE (al _ (.inl (aG [.bool true])))
   obtain⟨n,h⟩:=dC h;exact dH (.inr ⟨_,bo rfl,h1 n 0 h⟩)
theorem aB8 (a0:Int) (r:Bool) (h:En a0=some r):bk aF 118 [.int .i64 a0] (.bool r) []:=by
 refine bQ [0] [.tmp 2] Tryz.func118 an9 (λbI al bN=>?_);refine ws _ ?_;obtain⟨af,aQ,h⟩:=aD h;refine dt (RR a0 _ aQ) _ ?_;exact aE (al _ (.inl (aG [.bool (!af)])))
theorem aB9 (a0:List Int) (r:Int) (h:Eo a0=some r):bk aF 141 [.slice (a0.map a1),.fn 118 []] (.int .i64 r) []:=by
 refine bQ [0,1] [.tmp 4] Tryz.func141 aoi (λbI al bN=>?_);refine ws _ ?_;refine aH al (λej bX bp ak=>?_);refine ws _ ?_;refine bB bp (λdV eh b5 bD a8=>?_);have fq:∀(n:Nat) (cV:Int),rX a0 n cV=some r->du aF QC dV (ab [(0,.slice (a0.map a1)),(1,.fn 118 []),(7,.int .i64 (a0.length:Int)),(8,.int .i64 cV)]):=by
  intro m6;induction m6 with
  |zero=>intro cV h;cases(show none=some r from h)
  |succ m6 fl=>
   intro cV h;replace h:xO (rX a0 m6) a0 cV=some r:=h;refine dK b5 (λh2 ee dj bb=>?_);refine ws _ ?_;refine aH dj (λhh dU dW cx=>?_);refine aR h (λb6 h=>?_) (λb6 h=>?_)
   .refine aY (dU _ (.inl ?_));refine aH dj (λeB cQ cj de=>?_);refine bB cj (λe4 cu cM dx df=>?_);refine ws _ ?_;obtain⟨af,et,h⟩:=aD h;obtain⟨ak,ew,h⟩:=aD h;refine gT et (aB8 af _ ew) _ ?_;refine aR h (λeX h=>?_) (λeX h=>?_)
    .refine ws _ ?_;exact aE (cM _ (.inl (aG [.int .i64 cV])))
    .refine aY (cu _ (cQ _ (.inl ?_)));refine wr _ ?_;exact ee _ (.inr ⟨_,bo rfl,fl (IntKind.i64.wrap (cV+1)) h⟩)
   .refine dG (cx 0 _ (bb 0 _ (bD _ (bX _ (.inl ?_)))));refine ws _ ?_;exact aE (al _ (.inl (aG [.int .i64 (-1)])))
 obtain⟨n,h⟩:=dC h;exact dH (.inr ⟨_,bo rfl,fq n 0 h⟩)
theorem aB_ (a0:List Int) (r:Bool) (h:Ep a0=some r):bk aF 117 [.slice (a0.map a1),.fn 118 []] (.bool r) []:=by
 refine bQ [0,1] [.tmp 4] Tryz.func117 aok (λbI al bN=>?_);refine ws _ ?_;obtain⟨af,aQ,h⟩:=aD h;refine dt (aB9 a0 _ aQ) _ ?_;exact aE (al _ (.inl (aG [.bool (decide (0<=af))])))
theorem RS (a0:List Int) (r:Bool) (h:u1 a0=some r):bk aF 92 [.slice (a0.map a1)] (.bool r) []:=by
 refine bQ [0] [.tmp 2] Tryz.func92 aon (λbI al bN=>?_);refine ws _ ?_;obtain⟨af,aQ,h⟩:=aD h;refine dt (aB_ a0 _ aQ) _ ?_;exact aE (al _ (.inl (aG [.bool (!af)])))
theorem aCa (a0:List bs) (R:dr) (r:Bool) (h:Er a0 R=some r):bk aF 72 [.slice (a0.map bP),fN R] (.bool r) []:=by
 refine bQ [0,1] [.tmp 4] Tryz.func72 aop (λbI al bN=>?_);refine ws _ ?_;obtain⟨af,aQ,h⟩:=aD h;rcases eS h with⟨bD,h⟩|⟨bD,h⟩
 .obtain⟨ak,cF,h⟩:=aD h;rcases eS h with⟨cO,h⟩|⟨cO,h⟩
  .obtain⟨aJ,b4,h⟩:=aD h;refine hX rfl (hY [(4,.bool aJ)] (λP ai=>?_) ?_)
   .simp only[dY.down,simprocAttr,vx.down,bD,cF,cO];refine j7 (vJ R.hM (a0.length:Int) _ aQ) rfl rfl rfl rfl (.inl (by rfl)) ?_;simp only[dY.down,simprocAttr,vx.down,bD,cF,cO];refine nW (RS R.fE _ b4) rfl rfl rfl rfl (.inl (by rfl)) ?_;simp only[dY.down,simprocAttr,vx.down,bD,cF,cO];refine⟨ht (by kernel_rfl),?_⟩;(try simp only[bf.down,simprocAttr,J0.down,bD,cF,cO]at ai⊢);exact ai
   exact aE (al _ (.inl (aG [.bool aJ])))
  .refine hX rfl (hY [(4,.bool false)] (λP ai=>?_) ?_)
   .simp only[dY.down,simprocAttr,vx.down,bD,cF,cO];refine j7 (vJ R.hM (a0.length:Int) _ aQ) rfl rfl rfl rfl (.inl (by rfl)) ?_;simp only[dY.down,simprocAttr,vx.down,bD,cF,cO];refine⟨ht (by kernel_rfl),?_⟩;(try simp only[bf.down,simprocAttr,J0.down,bD,cF,cO]at ai⊢);exact ai
   exact aE (al _ (.inl (aG [.bool false])))
 .refine hX rfl (hY [(4,.bool false)] (λP ai=>?_) ?_)
  .simp only[dY.down,simprocAttr,vx.down,bD];refine j7 (vJ R.hM (a0.length:Int) _ aQ) rfl rfl rfl rfl (.inl (by rfl)) ?_;simp only[dY.down,simprocAttr,vx.down,bD];refine⟨ht (by kernel_rfl),?_⟩;(try simp only[bf.down,simprocAttr,J0.down,bD]at ai⊢);exact ai
  exact aE (al _ (.inl (aG [.bool false])))
theorem aCb (a0:dr) (R:eI) (r:Bool) (h:Js a0 R=some r):bk aF 71 [fN a0,.ref (iI R)] (.bool r) []:=by
 refine bQ [0,1] [.tmp 3] Tryz.func71 aos (λbI al bN=>?_);refine ws _ ?_;obtain⟨af,aQ,h⟩:=aD h;refine dt (aCa R.fv a0 _ aQ) _ ?_;exact aE (al _ (.inl (aG [.bool (!af)])))
theorem aCc (a0:List dr) (R:eI) (r:Int) (h:Jt a0 R=some r):bk aF 91 [.slice (a0.map fN),.fn 71 [.ref (iI R)]] (.int .i64 r) []:=by
 refine bQ [0,1] [.tmp 4] Tryz.func91 aoC (λbI al bN=>?_);refine ws _ ?_;refine aH al (λej bX bp ak=>?_);refine ws _ ?_;refine bB bp (λdV eh b5 bD a8=>?_);have fq:∀(n:Nat) (cV:Int),xP a0 R n cV=some r->du aF QD dV (ab [(0,.slice (a0.map fN)),(1,.fn 71 [.ref (iI R)]),(7,.int .i64 (a0.length:Int)),(8,.int .i64 cV)]):=by
  intro m6;induction m6 with
  |zero=>intro cV h;cases(show none=some r from h)
  |succ m6 fl=>
   intro cV h;replace h:Es (xP a0 R m6) a0 R cV=some r:=h;refine dK b5 (λh2 ee dj bb=>?_);refine ws _ ?_;refine aH dj (λhh dU dW cx=>?_);refine aR h (λb6 h=>?_) (λb6 h=>?_)
   .refine aY (dU _ (.inl ?_));refine aH dj (λeB cQ cj de=>?_);refine bB cj (λe4 cu cM dx df=>?_);refine ws _ ?_;obtain⟨af,et,h⟩:=aD h;obtain⟨ak,ew,h⟩:=aD h;refine gT et (aCb af R _ ew) _ ?_;refine aR h (λeX h=>?_) (λeX h=>?_)
    .refine ws _ ?_;exact aE (cM _ (.inl (aG [.int .i64 cV])))
    .refine aY (cu _ (cQ _ (.inl ?_)));refine wr _ ?_;exact ee _ (.inr ⟨_,bo rfl,fl (IntKind.i64.wrap (cV+1)) h⟩)
   .refine dG (cx 0 _ (bb 0 _ (bD _ (bX _ (.inl ?_)))));refine ws _ ?_;exact aE (al _ (.inl (aG [.int .i64 (-1)])))
 obtain⟨n,h⟩:=dC h;exact dH (.inr ⟨_,bo rfl,fq n 0 h⟩)
theorem aCd (a0:List dr) (R:eI) (r:Bool) (h:Et a0 R=some r):bk aF 70 [.slice (a0.map fN),.fn 71 [.ref (iI R)]] (.bool r) []:=by
 refine bQ [0,1] [.tmp 4] Tryz.func70 aoE (λbI al bN=>?_);refine ws _ ?_;obtain⟨af,aQ,h⟩:=aD h;refine dt (aCc a0 R _ aQ) _ ?_;exact aE (al _ (.inl (aG [.bool (decide (0<=af))])))
theorem RT (a0:List UInt8) (r:Bool) (h:Eu a0=some r):bk aF 156 [.str a0] (.bool r) []:=by
 refine bQ [0] [.tmp 2] Tryz.func156 aoG (λbI al bN=>?_);refine ws _ ?_;refine ws _ ?_;exact aE (al _ (.inl (aG [.bool false])))
theorem aCe (a0:List UInt8) (R:List UInt8) (r:Int) (h:Ev a0 R=some r):bk aF 142 [.str a0,.str R] (.int .i64 r) []:=by
 refine bQ [0,1] [.tmp 4] Tryz.func142 ao0 (λbI al bN=>?_);refine ws _ ?_;obtain⟨af,aQ,h⟩:=aD h;refine dt (RT a0 _ aQ) _ ?_;obtain⟨ak,cF,h⟩:=aD h;refine dt (RT R _ cF) _ ?_;refine aH al (λeZ dy dw bO=>?_);refine ws _ ?_;refine aR h (λb6 h=>?_) (λb6 h=>?_)
 .refine aH dw (λeB cQ cj de=>?_);refine ws _ ?_;refine aR h (λl6 h=>?_) (λl6 h=>?_)
  .refine ws _ ?_;exact aE (cj _ (.inl (aG [.int .i64 0])))
  .refine aY (cQ _ (.inl ?_));refine ws _ ?_;exact aE (dw _ (.inl (aG [.int .i64 (-1)])))
 .refine aY (dy _ (.inl ?_));refine aH al (λiK fa eW h6=>?_);refine ws _ ?_;refine aR h (λkZ h=>?_) (λkZ h=>?_)
  .refine ws _ ?_;exact aE (eW _ (.inl (aG [.int .i64 1])))
  .refine aY (fa _ (.inl ?_));refine aH al (λts nA ma nw=>?_);refine ws _ ?_;refine aR h (λfG h=>?_) (λfG h=>?_)
   .refine ws _ ?_;exact aE (ma _ (.inl (aG [.int .i64 (-1)])))
   .refine aY (nA _ (.inl ?_));refine aH al (λq5 kA kB mA=>?_);refine ws _ ?_;refine aR h (λka h=>?_) (λka h=>?_)
    .refine ws _ ?_;exact aE (kB _ (.inl (aG [.int .i64 1])))
    .refine aY (kA _ (.inl ?_));refine ws _ ?_;exact aE (al _ (.inl (aG [.int .i64 0])))
theorem aCf (a0:List (List UInt8)) (R:List (List UInt8)) (r:Int) (h:Ew a0 R=some r):bk aF 120 [.slice (a0.map bd),.slice (R.map bd)] (.int .i64 r) []:=by
 refine bQ [0,1] [.tmp 4] Tryz.func120 api (λbI al bN=>?_);refine ws _ ?_;refine aH al (λej bX bp ak=>?_);refine ws _ ?_;refine bB bp (λdV eh b5 bD a8=>?_);have fq:∀(n:Nat) (n2:Int),AB a0 R n n2=some r->du aF QE dV (ab [(0,.slice (a0.map bd)),(1,.slice (R.map bd)),(9,.slice (a0.map bd)),(10,.int .i64 (a0.length:Int)),(11,.int .i64 n2)]):=by
  intro m6;induction m6 with
  |zero=>intro n2 h;cases(show none=some r from h)
  |succ m6 fl=>
   intro n2 h;replace h:Ju (AB a0 R m6) a0 R n2=some r:=h;refine dK b5 (λh2 ee dj bb=>?_);refine ws _ ?_;refine aH dj (λhh dU dW cx=>?_);refine aR h (λb6 h=>?_) (λb6 h=>?_)
   .refine aY (dU _ (.inl ?_));refine aH dj (λeB cQ cj de=>?_);refine bB cj (λe4 cu cM dx df=>?_);obtain⟨af,er,h⟩:=aD h;refine gv er _ ?_;refine aH cM (λlr gU gM jM=>?_);refine ws _ ?_;refine aR h (λeX h=>?_) (λeX h=>?_)
    .refine ws _ ?_;exact aE (gM _ (.inl (aG [.int .i64 1])))
    .refine aY (gU _ (.inl ?_));obtain⟨ak,e5,h⟩:=aD h;refine gv e5 _ ?_;obtain⟨aJ,iq,h⟩:=aD h;refine dt (aCe af ak _ iq) _ ?_;refine ws _ ?_;refine aR h (λq7 h=>?_) (λq7 h=>?_)
     .refine ws _ ?_;exact aE (cM _ (.inl (aG [.int .i64 aJ])))
     .refine aY (cu _ (cQ _ (.inl ?_)));refine wr _ ?_;exact ee _ (.inr ⟨_,bo rfl,fl (IntKind.i64.wrap (n2+1)) h⟩)
   .refine dG (cx 0 _ (bb 0 _ (bD _ (bX _ (.inl ?_)))));refine aH al (λGd r9 ql Br=>?_);refine ws _ ?_;refine aR h (λqk h=>?_) (λqk h=>?_)
    .refine ws _ ?_;exact aE (ql _ (.inl (aG [.int .i64 (-1)])))
    .refine aY (r9 _ (.inl ?_));refine ws _ ?_;exact aE (al _ (.inl (aG [.int .i64 0])))
 obtain⟨n,h⟩:=dC h;exact dH (.inr ⟨_,bo rfl,fq n 0 h⟩)
theorem aCg (a0:b9) (R:b9) (r:Int) (h:Ex a0 R=some r):bk aF 94 [bC a0,bC R] (.int .i64 r) []:=by
 refine bQ [0,1] [.tmp 4] Tryz.func94 apl (λbI al bN=>?_);refine ws _ ?_;obtain⟨af,aQ,h⟩:=aD h;refine cd (bJ [(4,.int .i64 af)] (λP ai=>?_) ?_)
 .simp only[aM.down,simprocAttr,eL,n0,n1,bC,bd,(show∀s,eQ aF s 25 2 [(0,.str a0.Left),(1,.str a0.ch)]=some (.ao 1 [.str a0.Left,.str a0.ch],s)from λs=>by kernel_rfl),(show∀s,eQ aF s 25 2 [(0,.str R.Left),(1,.str R.ch)]=some (.ao 1 [.str R.Left,.str R.ch],s)from λs=>by kernel_rfl)];refine ez (aCf [a0.Left,a0.ch] [R.Left,R.ch] _ aQ) rfl rfl (by simp only[aM.down,simprocAttr,eL,n0,n1,bC,bd,(show∀s,eQ aF s 25 2 [(0,.str a0.Left),(1,.str a0.ch)]=some (.ao 1 [.str a0.Left,.str a0.ch],s)from λs=>by kernel_rfl),(show∀s,eQ aF s 25 2 [(0,.str R.Left),(1,.str R.ch)]=some (.ao 1 [.str R.Left,.str R.ch],s)from λs=>by kernel_rfl),hq,hr,hs,dI,I.shares, @cm _ bd bd (λ_=>jr _), @cm _ bd bd (λ_=>jr _)]<;>rfl) rfl (.inr (by rfl)) ?_;simp only[aM.down,simprocAttr,eL,n0,n1,bC,bd,(show∀s,eQ aF s 25 2 [(0,.str a0.Left),(1,.str a0.ch)]=some (.ao 1 [.str a0.Left,.str a0.ch],s)from λs=>by kernel_rfl),(show∀s,eQ aF s 25 2 [(0,.str R.Left),(1,.str R.ch)]=some (.ao 1 [.str R.Left,.str R.ch],s)from λs=>by kernel_rfl)];(try simp only[bf.down,simprocAttr,bC,bd,(show∀s,eQ aF s 25 2 [(0,.str a0.Left),(1,.str a0.ch)]=some (.ao 1 [.str a0.Left,.str a0.ch],s)from λs=>by kernel_rfl),(show∀s,eQ aF s 25 2 [(0,.str R.Left),(1,.str R.ch)]=some (.ao 1 [.str R.Left,.str R.ch],s)from λs=>by kernel_rfl)]at ai⊢);exact ai
 exact aE (al _ (.inl (aG [.int .i64 af])))
theorem aCh (a0:b9) (R:b9) (r:Bool) (h:Jv a0 R=some r):bk aF 96 [bC a0,.ref (bC R)] (.bool r) []:=by
 refine bQ [0,1] [.tmp 3] Tryz.func96 apo (λbI al bN=>?_);refine ws _ ?_;refine cd (bJ [(3,.bool ((a0.Left==R.Result)||(a0.ch==R.Result)))] (λP ai=>?_) ?_)
 .rcases Bool.eq_false_or_eq_true (a0.Left==R.Result)with ff|ff
  .simp only[aM.down,simprocAttr,oL.down,ff];(try simp only[bf.down,simprocAttr,bC,ff]at ai⊢);exact ai
  .simp only[aM.down,simprocAttr,oL.down,ff];(try simp only[bf.down,simprocAttr,bC,ff]at ai⊢);exact ai
 exact aE (al _ (.inl (aG [.bool ((a0.Left==R.Result)||(a0.ch==R.Result))])))
theorem aCi (a0:List b9) (R:b9) (r:Int) (h:Jw a0 R=some r):bk aF 121 [.slice (a0.map bC),.fn 96 [.ref (bC R)]] (.int .i64 r) []:=by
 refine bQ [0,1] [.tmp 4] Tryz.func121 apA (λbI al bN=>?_);refine ws _ ?_;refine aH al (λej bX bp ak=>?_);refine ws _ ?_;refine bB bp (λdV eh b5 bD a8=>?_);have fq:∀(n:Nat) (cV:Int),xQ a0 R n cV=some r->du aF QF dV (ab [(0,.slice (a0.map bC)),(1,.fn 96 [.ref (bC R)]),(7,.int .i64 (a0.length:Int)),(8,.int .i64 cV)]):=by
  intro m6;induction m6 with
  |zero=>intro cV h;cases(show none=some r from h)
  |succ m6 fl=>
   intro cV h;replace h:Ey (xQ a0 R m6) a0 R cV=some r:=h;refine dK b5 (λh2 ee dj bb=>?_);refine ws _ ?_;refine aH dj (λhh dU dW cx=>?_);refine aR h (λb6 h=>?_) (λb6 h=>?_)
   .refine aY (dU _ (.inl ?_));refine aH dj (λeB cQ cj de=>?_);refine bB cj (λe4 cu cM dx df=>?_);refine ws _ ?_;obtain⟨af,et,h⟩:=aD h;obtain⟨ak,ew,h⟩:=aD h;refine gT et (aCh af R _ ew) _ ?_;refine aR h (λeX h=>?_) (λeX h=>?_)
    .refine ws _ ?_;exact aE (cM _ (.inl (aG [.int .i64 cV])))
    .refine aY (cu _ (cQ _ (.inl ?_)));refine wr _ ?_;exact ee _ (.inr ⟨_,bo rfl,fl (IntKind.i64.wrap (cV+1)) h⟩)
   .refine dG (cx 0 _ (bb 0 _ (bD _ (bX _ (.inl ?_)))));refine ws _ ?_;exact aE (al _ (.inl (aG [.int .i64 (-1)])))
 obtain⟨n,h⟩:=dC h;exact dH (.inr ⟨_,bo rfl,fq n 0 h⟩)
theorem RU (a0:List b9) (R:b9) (r:Bool) (h:AD a0 R=some r):bk aF 95 [.slice (a0.map bC),.fn 96 [.ref (bC R)]] (.bool r) []:=by
 refine bQ [0,1] [.tmp 4] Tryz.func95 apD (λbI al bN=>?_);refine ws _ ?_;obtain⟨af,aQ,h⟩:=aD h;refine dt (aCi a0 R _ aQ) _ ?_;exact aE (al _ (.inl (aG [.bool (decide (0<=af))])))
theorem aCj (a0:List b9) (r:Bool) (h:EA a0=some r):bk aF 73 [.slice (a0.map bC)] (.bool r) []:=by
 refine bQ [0] [.tmp 2] Tryz.func73 apR (λbI al bN=>?_);refine ws _ ?_;refine aH al (λej bX bp ak=>?_);refine ws _ ?_;refine bB bp (λdV eh b5 bD a8=>?_);have fq:∀(n:Nat) (eV:Int),u2 a0 n eV=some r->du aF QG dV (ab [(0,.slice (a0.map bC)),(5,.slice (a0.map bC)),(6,.int .i64 (a0.length:Int)),(7,.int .i64 eV)]):=by
  intro m6;induction m6 with
  |zero=>intro eV h;cases(show none=some r from h)
  |succ m6 fl=>
   intro eV h;replace h:Ez (u2 a0 m6) a0 eV=some r:=h;refine dK b5 (λh2 ee dj bb=>?_);refine ws _ ?_;refine aH dj (λhh dU dW cx=>?_);refine aR h (λb6 h=>?_) (λb6 h=>?_)
   .refine aY (dU _ (.inl ?_));refine aH dj (λeB cQ cj de=>?_);refine bB cj (λe4 cu cM dx df=>?_);obtain⟨af,er,h⟩:=aD h;refine gv er _ ?_;refine aH cM (λlr gU gM jM=>?_);obtain⟨bb,gb,h⟩:=aD h;rcases eS h with⟨fH,h⟩|⟨fH,h⟩
    .refine hX rfl (hY [(0,.slice (a0.map bC)),(4,.bh (bC af)),(5,.slice (a0.map bC)),(6,.int .i64 (a0.length:Int)),(7,.int .i64 eV),(48,.bool true)] (λP ai=>?_) ?_)
     .simp only[dY.down,simprocAttr,hP.down,(gk fH)];refine j7 (kF af.Left _ gb) rfl rfl rfl rfl (.inl (by rfl)) ?_;simp only[dY.down,simprocAttr,hP.down,(gk fH)];refine⟨ht (by kernel_rfl),?_⟩;(try simp only[bf.down,simprocAttr,bC,(gk fH)]at ai⊢);exact ai
     refine iW rfl ?_;refine ws _ ?_;exact aE (gM _ (.inl (aG [.bool false])))
    .obtain⟨bO,l8,h⟩:=aD h;rcases eS h with⟨hS,h⟩|⟨hS,h⟩
     .refine hX rfl (hY [(0,.slice (a0.map bC)),(4,.bh (bC af)),(5,.slice (a0.map bC)),(6,.int .i64 (a0.length:Int)),(7,.int .i64 eV),(48,.bool true)] (λP ai=>?_) ?_)
      .simp only[dY.down,simprocAttr,hP.down,(bY fH),(gk hS)];refine j7 (kF af.Left _ gb) rfl rfl rfl rfl (.inl (by rfl)) ?_;simp only[dY.down,simprocAttr,hP.down,(bY fH),(gk hS)];refine nW (kF af.ch _ l8) rfl rfl rfl rfl (.inl (by rfl)) ?_;simp only[dY.down,simprocAttr,hP.down,(bY fH),(gk hS)];refine⟨ht (by kernel_rfl),?_⟩;(try simp only[bf.down,simprocAttr,bC,(bY fH),(gk hS)]at ai⊢);exact ai
      refine iW rfl ?_;refine ws _ ?_;exact aE (gM _ (.inl (aG [.bool false])))
     .obtain⟨cx,r_,h⟩:=aD h;rcases eS h with⟨jm,h⟩|⟨jm,h⟩
      .refine hX rfl (hY [(0,.slice (a0.map bC)),(4,.bh (bC af)),(5,.slice (a0.map bC)),(6,.int .i64 (a0.length:Int)),(7,.int .i64 eV),(48,.bool true)] (λP ai=>?_) ?_)
       .simp only[dY.down,simprocAttr,hP.down,(bY fH),(bY hS),(gk jm)];refine j7 (kF af.Left _ gb) rfl rfl rfl rfl (.inl (by rfl)) ?_;simp only[dY.down,simprocAttr,hP.down,(bY fH),(bY hS),(gk jm)];refine nW (kF af.ch _ l8) rfl rfl rfl rfl (.inl (by rfl)) ?_;simp only[dY.down,simprocAttr,hP.down,(bY fH),(bY hS),(gk jm)];refine nW (kF af.Result _ r_) rfl rfl rfl rfl (.inl (by rfl)) ?_;simp only[dY.down,simprocAttr,hP.down,(bY fH),(bY hS),(gk jm)];refine⟨ht (by kernel_rfl),?_⟩;(try simp only[bf.down,simprocAttr,bC,(bY fH),(bY hS),(gk jm)]at ai⊢);exact ai
       refine iW rfl ?_;refine ws _ ?_;exact aE (gM _ (.inl (aG [.bool false])))
      .rcases eS h with⟨jX,h⟩|⟨jX,h⟩
       .refine hX rfl (hY [(0,.slice (a0.map bC)),(4,.bh (bC af)),(5,.slice (a0.map bC)),(6,.int .i64 (a0.length:Int)),(7,.int .i64 eV),(48,.bool true)] (λP ai=>?_) ?_)
        .simp only[dY.down,simprocAttr,hP.down,(bY fH),(bY hS),(bY jm),jX];refine j7 (kF af.Left _ gb) rfl rfl rfl rfl (.inl (by rfl)) ?_;simp only[dY.down,simprocAttr,hP.down,(bY fH),(bY hS),(bY jm),jX];refine nW (kF af.ch _ l8) rfl rfl rfl rfl (.inl (by rfl)) ?_;simp only[dY.down,simprocAttr,hP.down,(bY fH),(bY hS),(bY jm),jX];refine nW (kF af.Result _ r_) rfl rfl rfl rfl (.inl (by rfl)) ?_;simp only[dY.down,simprocAttr,hP.down,(bY fH),(bY hS),(bY jm),jX];refine⟨ht (by kernel_rfl),?_⟩;(try simp only[bf.down,simprocAttr,bC,(bY fH),(bY hS),(bY jm),jX]at ai⊢);exact ai
        refine iW rfl ?_;refine ws _ ?_;exact aE (gM _ (.inl (aG [.bool false])))
       .rcases eS h with⟨jt,h⟩|⟨jt,h⟩
        .obtain⟨eg,l_,h⟩:=aD h;obtain⟨de,F8,h⟩:=aD h;refine hX rfl (hY [(0,.slice (a0.map bC)),(4,.bh (bC af)),(5,.slice (a0.map bC)),(6,.int .i64 (a0.length:Int)),(7,.int .i64 eV),(48,.bool (decide (0<=de)))] (λP ai=>?_) ?_)
         .simp only[dY.down,simprocAttr,hP.down,(bY fH),(bY hS),(bY jm),jX,jt,l_];refine j7 (kF af.Left _ gb) rfl rfl rfl rfl (.inl (by rfl)) ?_;simp only[dY.down,simprocAttr,hP.down,(bY fH),(bY hS),(bY jm),jX,jt,l_];refine nW (kF af.ch _ l8) rfl rfl rfl rfl (.inl (by rfl)) ?_;simp only[dY.down,simprocAttr,hP.down,(bY fH),(bY hS),(bY jm),jX,jt,l_];refine nW (kF af.Result _ r_) rfl rfl rfl rfl (.inl (by rfl)) ?_;simp only[dY.down,simprocAttr,hP.down,(bY fH),(bY hS),(bY jm),jX,jt,l_];refine nW (aCg eg af _ F8) rfl rfl rfl rfl (.inl (by rfl)) ?_;simp only[dY.down,simprocAttr,hP.down,(bY fH),(bY hS),(bY jm),jX,jt,l_];refine⟨ht (by kernel_rfl),?_⟩;(try simp only[bf.down,simprocAttr,bC,(bY fH),(bY hS),(bY jm),jX,jt,l_]at ai⊢);exact ai
         refine aR h (λr8 h=>?_) (λr8 h=>?_)
         .refine ws _ ?_;exact aE (gM _ (.inl (aG [.bool false])))
         .refine aY (gU _ (.inl ?_));obtain⟨df,KF,h⟩:=aD h;refine cd (bJ [(0,.slice (a0.map bC)),(5,.slice (a0.map bC)),(6,.int .i64 (a0.length:Int)),(7,.int .i64 eV),(51,.bool df)] (λP ai=>?_) ?_)
          .simp only[aM.down,simprocAttr,bC];refine ez (RU a0 af _ KF) rfl rfl (by simp only[aM.down,simprocAttr,bC,hq,hr,hs,dI]<;>rfl) rfl (.inr (by rfl)) ?_;simp only[aM.down,simprocAttr,bC];(try simp only[bf.down,simprocAttr,bC]at ai⊢);exact ai
          refine aR h (λGc h=>?_) (λGc h=>?_)
          .refine ws _ ?_;exact aE (cM _ (.inl (aG [.bool false])))
          .refine aY (cu _ (cQ _ (.inl ?_)));refine wr _ ?_;exact ee _ (.inr ⟨_,bo rfl,fl (IntKind.i64.wrap (eV+1)) h⟩)
        .refine hX rfl (hY [(0,.slice (a0.map bC)),(4,.bh (bC af)),(5,.slice (a0.map bC)),(6,.int .i64 (a0.length:Int)),(7,.int .i64 eV),(48,.bool false)] (λP ai=>?_) ?_)
         .simp only[dY.down,simprocAttr,hP.down,(bY fH),(bY hS),(bY jm),jX,jt];refine j7 (kF af.Left _ gb) rfl rfl rfl rfl (.inl (by rfl)) ?_;simp only[dY.down,simprocAttr,hP.down,(bY fH),(bY hS),(bY jm),jX,jt];refine nW (kF af.ch _ l8) rfl rfl rfl rfl (.inl (by rfl)) ?_;simp only[dY.down,simprocAttr,hP.down,(bY fH),(bY hS),(bY jm),jX,jt];refine nW (kF af.Result _ r_) rfl rfl rfl rfl (.inl (by rfl)) ?_;simp only[dY.down,simprocAttr,hP.down,(bY fH),(bY hS),(bY jm),jX,jt];refine⟨ht (by kernel_rfl),?_⟩;(try simp only[bf.down,simprocAttr,bC,(bY fH),(bY hS),(bY jm),jX,jt]at ai⊢);exact ai
         refine rN rfl ?_;refine aY (gU _ (.inl ?_));obtain⟨fo,aCk,h⟩:=aD h;refine cd (bJ [(0,.slice (a0.map bC)),(5,.slice (a0.map bC)),(6,.int .i64 (a0.length:Int)),(7,.int .i64 eV),(51,.bool fo)] (λP ai=>?_) ?_)
         .simp only[aM.down,simprocAttr,bC];refine ez (RU a0 af _ aCk) rfl rfl (by simp only[aM.down,simprocAttr,bC,hq,hr,hs,dI]<;>rfl) rfl (.inr (by rfl)) ?_;simp only[aM.down,simprocAttr,bC];(try simp only[bf.down,simprocAttr,bC]at ai⊢);exact ai
         refine aR h (λvD h=>?_) (λvD h=>?_)
         .refine ws _ ?_;exact aE (cM _ (.inl (aG [.bool false])))
         .refine aY (cu _ (cQ _ (.inl ?_)));refine wr _ ?_;exact ee _ (.inr ⟨_,bo rfl,fl (IntKind.i64.wrap (eV+1)) h⟩)
   .refine dG (cx 0 _ (bb 0 _ (bD _ (bX _ (.inl ?_)))));refine ws _ ?_;exact aE (al _ (.inl (aG [.bool (decide ((a0.length:Int)<=6))])))
 obtain⟨n,h⟩:=dC h;exact dH (.inr ⟨_,bo rfl,fq n 0 h⟩)
theorem RV (a0:List (List UInt8)) (r:Bool) (h:AE a0=some r):bk aF 74 [.slice (a0.map bd)] (.bool r) []:=by
 refine bQ [0] [.tmp 2] Tryz.func74 ap2 (λbI al bN=>?_);refine ws _ ?_;refine aH al (λej bX bp ak=>?_);refine ws _ ?_;refine bB bp (λdV eh b5 bD a8=>?_);have fq:∀(n:Nat) (eV:Int),u3 a0 n eV=some r->du aF QH dV (ab [(0,.slice (a0.map bd)),(5,.slice (a0.map bd)),(6,.int .i64 (a0.length:Int)),(7,.int .i64 eV)]):=by
  intro m6;induction m6 with
  |zero=>intro eV h;cases(show none=some r from h)
  |succ m6 fl=>
   intro eV h;replace h:EB (u3 a0 m6) a0 eV=some r:=h;refine dK b5 (λh2 ee dj bb=>?_);refine ws _ ?_;refine aH dj (λhh dU dW cx=>?_);refine aR h (λb6 h=>?_) (λb6 h=>?_)
   .refine aY (dU _ (.inl ?_));refine aH dj (λeB cQ cj de=>?_);refine bB cj (λe4 cu cM dx df=>?_);obtain⟨af,er,h⟩:=aD h;refine gv er _ ?_;obtain⟨ak,ew,h⟩:=aD h;rcases eS h with⟨eX,h⟩|⟨eX,h⟩
    .refine gT (gk eX) (kF af _ ew) _ ?_;refine iW rfl ?_;refine ws _ ?_;exact aE (cM _ (.inl (aG [.bool false])))
    .rcases eS h with⟨kE,h⟩|⟨kE,h⟩
     .obtain⟨aJ,e5,h⟩:=aD h;refine gT (And.intro (bY eX) (And.intro kE e5)) (kF af _ ew) _ ?_;refine aR h (λkX h=>?_) (λkX h=>?_)
      .refine ws _ ?_;exact aE (cM _ (.inl (aG [.bool false])))
      .refine aY (cu _ (cQ _ (.inl ?_)));refine wr _ ?_;exact ee _ (.inr ⟨_,bo rfl,fl (IntKind.i64.wrap (eV+1)) h⟩)
     .refine gT (And.intro (bY eX) kE) (kF af _ ew) _ ?_;refine rN rfl ?_;refine aY (cu _ (cQ _ (.inl ?_)));refine wr _ ?_;exact ee _ (.inr ⟨_,bo rfl,fl (IntKind.i64.wrap (eV+1)) h⟩)
   .refine dG (cx 0 _ (bb 0 _ (bD _ (bX _ (.inl ?_)))));refine ws _ ?_;exact aE (al _ (.inl (aG [.bool (decide ((a0.length:Int)<=12))])))
 obtain⟨n,h⟩:=dC h;exact dH (.inr ⟨_,bo rfl,fq n 0 h⟩)
end Go.Proofs.YtlkabaochkgkdaaGreatDoor
