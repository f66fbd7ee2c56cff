/- Part of a proof that a law returns true for every input. No condition. -/
import Derived.Test.YtmaepbgkcmjcjagGreatDoorSl
namespace Go.Proofs.YtmaepbgkcmjcjagGreatDoor
open Option Go.IntKind Nat
open Go Go.ef Go.lZ
set_option maxRecDepth 100000
set_option maxHeartbeats 8800000
set_option linter.unusedSimpArgs false
set_option linter.unusedVariables false
theorem bA (fx:axd) (fI:List ResultVar) {f:FuncId} {fn:Func} {ins outs:axi} {r:I} (bF:ah.P.funcs[f]? =some fn) (dU:aB)
 (Mx:∀Q:Exit->ak->Prop,(∀s,eJ (ef.Ends ah fx fI r outs) s->Q .ret s)->(∀s,eJ (ef.Ends ah fx fI r outs) s->Q .normal s)->bk ah dU Q (aq (num 0 ins))) (aa:fV ⟨fn.ntmps,fx⟩ (fn.body.getD .skip)=some dU.strip:=by kernel_rfl) (ab:fn.body=some (fn.body.getD .skip):=by rfl) (ml:(fn.name== "runtime.NumGoroutine")=false:=by rfl) (aS:ins.length<=fn.ntmps:=by exact le_of_ble_eq_true rfl) (hQ:fn.results.toList=fI:=by rfl) (ax:dU.plain=true:=by kernel_rfl):aV ah f ins r outs:=
 aV.Nr Nv fI (num 0 ins) bF ab ml aa aS hQ rfl Mx ax
theorem dd {P:Nat->Prop} (s:∀m,P m->P (m+1)) (z:P 0:=by intros;rename_i h;cases(show none=some _ from h)):∀n,P n:=λn=>Nat.rec z s n
def P3:=PLift.up (R @agl (R @agm (R @agn (R @ago (R @agp (R @agq (R @agr (R @ags (R @agt (R @agu (R @agv (R @agw (R @agx (R @agy (R @agz (R @agA (R @agB (R @agC (R @agD (R @agE (R @agF (R @agG (R @agH (R @agI (R @agJ (R @agK (R @agL (R @agM (R @agN (R @agO (R @agP (R @agQ (R @agR (R @agS (R @agT (R @agU (R @agV (R @agW (R @agX (R @agY (R @agZ (R @ag0 (R @ag1 (R @ag2 (R @ag3 (R @ag4 (R @ag5 (R @ag6 (R @ag7 (R @iK.eq_1 (R @a1.eq_1 (R @dh.eq_1 (R @ba.eq_1 (R @bQ.eq_1 (R @gA.eq_1 (R @eh.eq_1 (R @bz.eq_1 (R @cU.eq_1 (R @fe.eq_1 (R @ed.eq_1 (R @ahR (R @ff.eq_1 (R @jG.eq_1 (R @jF.eq_1 (R @jk.eq_1 (R @kh.eq_1 (R @lF.eq_1 (R @uD.eq_1 (R @mQ.eq_1 (R @pP.eq_1 (R @gi.eq_1 (R @iO.eq_1 (R @lf.eq_1 (R @aW.eq_1 (R @ahQ (R @lH.eq_1 (R @lG.eq_1 (R @fD.eq_1 (R @mR.eq_1 (R @eV.eq_1 (R @hC.eq_1 (R @xy.eq_1 (R @ahT (R @lI.eq_1 (R @F9.eq_1 @nH.eq_1)))))))))))))))))))))))))))))))))))))))))))))))))))))))))))))))))))))))))))))))))))))
def aT:=PLift.up (R af0.down P3.down)
def cV:=PLift.up (R af1.down P3.down)
def jX:=PLift.up (R af2.down P3.down)
theorem cc {F A:Prop} (f:F) (h:F->A:=by intro bG;(try simp only[jX.down,simprocAttr,bG,dV,eb,dF,fv,I.hz,I.shares]at bu⊢);exact bu):A:=h f
theorem wr {Q l ros k} (cW:axh) (au:Q .normal (aq cW)) (h:∀P:axh->Prop,P cW->dA ah (aq l) ros none (λ_ s=>P (hk k s)):=by
 intro P bu;simp only[aT.down,simprocAttr,dV,eb,dF,fv];(try simp only[jX.down,simprocAttr,dV,eb,dF,fv]at bu⊢);exact bu):bk ah (.eu ros (some k)) Q (aq l):=
 jh (cI cW (h) au)
theorem Xr {Q l ros k g ds r} (ok:aV ah g ds r []) (cW:axh) (au:Q .normal (aq cW)) (h:aV ah g ds r []->∀P:axh->Prop,P cW->dA ah (aq l) ros none (λ_ s=>P (hk k s)):=by
 intro mS P bu;(try simp only[aT.down,simprocAttr,dV,eb,dF,fv]);(first|refine dR mS rfl rfl rfl rfl (.inl (by rfl)) ?_|refine iN mS rfl rfl rfl rfl (.inl (by rfl)) ?_);simp only[aT.down,simprocAttr,dV,eb,dF,fv];(try simp only[jX.down,simprocAttr,dV,eb,dF,fv]at bu⊢);exact bu):bk ah (.eu ros (some k)) Q (aq l):=
 jh (cI cW (h ok) au)
theorem zv {Q l ros k g ds r} {F:Prop} (bG:F) (ok:aV ah g ds r []) (cW:axh) (au:Q .normal (aq cW)) (h:aV ah g ds r []->F->∀P:axh->Prop,P cW->dA ah (aq l) ros none (λ_ s=>P (hk k s)):=by
 intro mS bG P bu;(try simp only[aT.down,simprocAttr,bG,dV,eb,dF,fv]);(first|refine dR mS rfl rfl rfl rfl (.inl (by rfl)) ?_|refine iN mS rfl rfl rfl rfl (.inl (by rfl)) ?_);simp only[aT.down,simprocAttr,bG,dV,eb,dF,fv];(try simp only[jX.down,simprocAttr,bG,dV,eb,dF,fv]at bu⊢);exact bu):bk ah (.eu ros (some k)) Q (aq l):=
 jh (cI cW (h ok bG) au)
theorem Xs {Q l ros k cT g ds r} {F:Prop} (bG:F) (ok:aV ah g ds r []) (cW:axh) (au:Q .normal (aq cW)) (h:aV ah g ds r []->F->∀P:axh->Prop,P cW->dA ah (aq l) ros (some []) (λacc s=>ka (ni cT) 0 [] (acc.getD []).reverse=true/\P (hk k s)):=by
 intro mS bG P bu;(try simp only[cV.down,simprocAttr,bG,dV,eb,dF,fv]);(first|refine hL mS rfl rfl rfl rfl (.inl (by rfl)) ?_|refine lz mS rfl rfl rfl rfl (.inl (by rfl)) ?_);simp only[cV.down,simprocAttr,bG,dV,eb,dF,fv];refine⟨hF (by kernel_rfl),?_⟩;(try simp only[jX.down,simprocAttr,bG,dV,eb,dF,fv]at bu⊢);exact bu) (aC:cT.length=ros.length:=by rfl):bk ah (.jw ros cT (some k)) Q (aq l):=
 MQ aC (ig cW (h ok bG) au)
theorem sM {Q l ros k} {F:Prop} (bG:F) (cW:axh) (au:Q .normal (aq cW)) (h:F->∀P:axh->Prop,P cW->dA ah (aq l) ros none (λ_ s=>P (hk k s)):=by
 intro bG P bu;simp only[aT.down,simprocAttr,bG,dV,eb,dF,fv];(try simp only[jX.down,simprocAttr,bG,dV,eb,dF,fv]at bu⊢);exact bu):bk ah (.eu ros (some k)) Q (aq l):=
 jh (cI cW (h bG) au)
theorem ws {Q l ros k b} (cW:axh) (au:bk ah b Q (aq cW)) (h:∀P:axh->Prop,P cW->dA ah (aq l) ros none (λ_ s=>P (hk k s)):=by
 intro P bu;simp only[aT.down,simprocAttr,dV,eb,dF,fv];(try simp only[jX.down,simprocAttr,dV,eb,dF,fv]at bu⊢);exact bu):bk ah (.seq (.eu ros (some k)) b) Q (aq l):=
 eQ (cI cW (h) au)
theorem cB {Q l ros k b g ds r} (ok:aV ah g ds r []) (cW:axh) (au:bk ah b Q (aq cW)) (h:aV ah g ds r []->∀P:axh->Prop,P cW->dA ah (aq l) ros none (λ_ s=>P (hk k s)):=by
 intro mS P bu;(try simp only[aT.down,simprocAttr,dV,eb,dF,fv]);(first|refine dR mS rfl rfl rfl rfl (.inl (by rfl)) ?_|refine iN mS rfl rfl rfl rfl (.inl (by rfl)) ?_);simp only[aT.down,simprocAttr,dV,eb,dF,fv];(try simp only[jX.down,simprocAttr,dV,eb,dF,fv]at bu⊢);exact bu):bk ah (.seq (.eu ros (some k)) b) Q (aq l):=
 eQ (cI cW (h ok) au)
theorem eH {Q l ros k b g ds r} {F:Prop} (bG:F) (ok:aV ah g ds r []) (cW:axh) (au:bk ah b Q (aq cW)) (h:aV ah g ds r []->F->∀P:axh->Prop,P cW->dA ah (aq l) ros none (λ_ s=>P (hk k s)):=by
 intro mS bG P bu;(try simp only[aT.down,simprocAttr,bG,dV,eb,dF,fv]);(first|refine dR mS rfl rfl rfl rfl (.inl (by rfl)) ?_|refine iN mS rfl rfl rfl rfl (.inl (by rfl)) ?_);simp only[aT.down,simprocAttr,bG,dV,eb,dF,fv];(try simp only[jX.down,simprocAttr,bG,dV,eb,dF,fv]at bu⊢);exact bu):bk ah (.seq (.eu ros (some k)) b) Q (aq l):=
 eQ (cI cW (h ok bG) au)
theorem avB {Q l ros k b cT} (cW:axh) (au:bk ah b Q (aq cW)) (h:∀P:axh->Prop,P cW->dA ah (aq l) ros (some []) (λacc s=>ka (ni cT) 0 [] (acc.getD []).reverse=true/\P (hk k s)):=by
 intro P bu;simp only[cV.down,simprocAttr,dV,eb,dF,fv];refine⟨hF (by kernel_rfl),?_⟩;(try simp only[jX.down,simprocAttr,dV,eb,dF,fv]at bu⊢);exact bu) (aC:cT.length=ros.length:=by rfl):bk ah (.seq (.jw ros cT (some k)) b) Q (aq l):=
 i1 aC (ig cW (h) au)
theorem ak1 {Q l ros k b cT g ds r} (ok:aV ah g ds r []) (cW:axh) (au:bk ah b Q (aq cW)) (h:aV ah g ds r []->∀P:axh->Prop,P cW->dA ah (aq l) ros (some []) (λacc s=>ka (ni cT) 0 [] (acc.getD []).reverse=true/\P (hk k s)):=by
 intro mS P bu;(try simp only[cV.down,simprocAttr,dV,eb,dF,fv]);(first|refine hL mS rfl rfl rfl rfl (.inl (by rfl)) ?_|refine lz mS rfl rfl rfl rfl (.inl (by rfl)) ?_);simp only[cV.down,simprocAttr,dV,eb,dF,fv];refine⟨hF (by kernel_rfl),?_⟩;(try simp only[jX.down,simprocAttr,dV,eb,dF,fv]at bu⊢);exact bu) (aC:cT.length=ros.length:=by rfl):bk ah (.seq (.jw ros cT (some k)) b) Q (aq l):=
 i1 aC (ig cW (h ok) au)
theorem mr {Q l ros k b cT g ds r} {F:Prop} (bG:F) (ok:aV ah g ds r []) (cW:axh) (au:bk ah b Q (aq cW)) (h:aV ah g ds r []->F->∀P:axh->Prop,P cW->dA ah (aq l) ros (some []) (λacc s=>ka (ni cT) 0 [] (acc.getD []).reverse=true/\P (hk k s)):=by
 intro mS bG P bu;(try simp only[cV.down,simprocAttr,bG,dV,eb,dF,fv]);(first|refine hL mS rfl rfl rfl rfl (.inl (by rfl)) ?_|refine lz mS rfl rfl rfl rfl (.inl (by rfl)) ?_);simp only[cV.down,simprocAttr,bG,dV,eb,dF,fv];refine⟨hF (by kernel_rfl),?_⟩;(try simp only[jX.down,simprocAttr,bG,dV,eb,dF,fv]at bu⊢);exact bu) (aC:cT.length=ros.length:=by rfl):bk ah (.seq (.jw ros cT (some k)) b) Q (aq l):=
 i1 aC (ig cW (h ok bG) au)
theorem oE {Q l ros k b cT} {F:Prop} (bG:F) (cW:axh) (au:bk ah b Q (aq cW)) (h:F->∀P:axh->Prop,P cW->dA ah (aq l) ros (some []) (λacc s=>ka (ni cT) 0 [] (acc.getD []).reverse=true/\P (hk k s)):=by
 intro bG P bu;simp only[cV.down,simprocAttr,bG,dV,eb,dF,fv];refine⟨hF (by kernel_rfl),?_⟩;(try simp only[jX.down,simprocAttr,bG,dV,eb,dF,fv]at bu⊢);exact bu) (aC:cT.length=ros.length:=by rfl):bk ah (.seq (.jw ros cT (some k)) b) Q (aq l):=
 i1 aC (ig cW (h bG) au)
theorem Xt {Q l ros k b cT} (e:Bool) {F:Prop} (bG:F) (cW:axh) (au:bk ah b Q (aq cW)) (h:F->∀c,e=c->∀P:axh->Prop,P cW->dA ah (aq l) ros (some []) (λacc s=>ka (ni cT) 0 [] (acc.getD []).reverse=true/\P (hk k s)):=by
 intro bG c ar P bu;cases c;all_goals
  (try simp only[List.length_replicate]at ar);simp only[cV.down,simprocAttr,ar,bG,dV,eb,dF,fv];refine⟨hF (by kernel_rfl),?_⟩;(try simp only[jX.down,simprocAttr,ar,bG,dV,eb,dF,fv]at bu⊢);exact bu) (aC:cT.length=ros.length:=by rfl):bk ah (.seq (.jw ros cT (some k)) b) Q (aq l):=
 i1 aC (ig cW (h bG e rfl) au)
theorem c1 {Q l ros k b} {F:Prop} (bG:F) (cW:axh) (au:bk ah b Q (aq cW)) (h:F->∀P:axh->Prop,P cW->dA ah (aq l) ros none (λ_ s=>P (hk k s)):=by
 intro bG P bu;simp only[aT.down,simprocAttr,bG,dV,eb,dF,fv];(try simp only[jX.down,simprocAttr,bG,dV,eb,dF,fv]at bu⊢);exact bu):bk ah (.seq (.eu ros (some k)) b) Q (aq l):=
 eQ (cI cW (h bG) au)
theorem rm {Q l ros k b} {F:Prop} (bG:F) (cW:axh) (au:bk ah b Q (aq cW)) (h:F->∀P:axh->Prop,P cW->dA ah (aq l) ros none (λ_ s=>P (hk k s)):=by
 intro bG P bu;simp only[aT.down,simprocAttr,bG,dV,eb,dF,fv,-Int.reduceNatCast'];(try simp only[jX.down,simprocAttr,bG,dV,eb,dF,fv,-Int.reduceNatCast']at bu⊢);exact bu):bk ah (.seq (.eu ros (some k)) b) Q (aq l):=
 eQ (cI cW (h bG) au)
theorem mT {Q l ros k b} (e:Bool) (cW:axh) (au:bk ah b Q (aq cW)) (h:∀c,e=c->∀P:axh->Prop,P cW->dA ah (aq l) ros none (λ_ s=>P (hk k s)):=by
 intro c ar P bu;cases c;all_goals
  (try simp only[List.length_replicate]at ar);simp only[aT.down,simprocAttr,ar,dV,eb,dF,fv];(try simp only[jX.down,simprocAttr,ar,dV,eb,dF,fv]at bu⊢);exact bu):bk ah (.seq (.eu ros (some k)) b) Q (aq l):=
 eQ (cI cW (h e rfl) au)
theorem JW {Q l ros k b} (e:Bool) {F:Prop} (bG:F) (cW:axh) (au:bk ah b Q (aq cW)) (h:F->∀c,e=c->∀P:axh->Prop,P cW->dA ah (aq l) ros none (λ_ s=>P (hk k s)):=by
 intro bG c ar P bu;cases c;all_goals
  (try simp only[List.length_replicate]at ar);simp only[aT.down,simprocAttr,ar,bG,dV,eb,dF,fv];(try simp only[jX.down,simprocAttr,ar,bG,dV,eb,dF,fv]at bu⊢);exact bu):bk ah (.seq (.eu ros (some k)) b) Q (aq l):=
 eQ (cI cW (h bG e rfl) au)
def fQ:=PLift.up (R @List.length_append.{0} (R @List.length_cons.{0} (R @List.length_nil.{0} (R @List.length_map.{0,0} @List.length_replicate.{0}))))
def mu:=PLift.up (R @yN @yO)
def rn:=PLift.up (R (@mI ah 95 [(9,0),(2,1),(2,2),(38,3)] [(.str []),(.int .i64 0),(.int .i64 0),.a8] rfl rfl (by kernel_rfl)) (R @lA (R @lB (R @eo (R @gH (R @List.nil_append.{0} (R @List.cons_append.{0} (R @n2 (R @n1 (R @cY (R @n0 (@b0 _ eV bz (λ_=>pc _)))))))))))))
def xA:=PLift.up (R @i6 (R @i7 (R @i_ @cY)))
def Cx:=PLift.up (R (@kc ah 48 48 2 rfl rfl) (R @kd (R @ke (R @gH (R @all_cons (R @all_nil (R (@jy _ a1 1 (λ_=>rfl)) (R @n2 (R @n1 (R @cY (R @n0 (@b0 _ a1 a1 (λ_=>jW _)))))))))))))
def JX:=PLift.up (R (@mI ah 88 [(9,0),(60,1)] [(.str []),(.agg [(.int .i64 0),(.int .i64 0),.a8])] rfl rfl (by kernel_rfl)) (R @lA (R @lB (R @eo (R @gH (R @List.nil_append.{0} (R @List.cons_append.{0} (R @n2 (R @n1 (R @cY (R @n0 (@b0 _ a1 a1 (λ_=>jW _)))))))))))))
def JY:=PLift.up (R @i6 (R @i7 (R @i_ (R @cY (@b0 _ a1 a1 (λ_=>jW _))))))
def JZ:=PLift.up (R @i6 (R @i7 (R @i_ (R @cY (R (@b0 _ ba ba (λ_=>sJ _)) (R (@b0 _ dh dh (λ_=>zt _)) (R (@b0 _ bQ bQ (λ_=>rk _)) (R (@b0 _ aW aW (λ_=>lg _)) (@b0 _ aW aW (λ_=>lg _))))))))))
def J0:=PLift.up (R (@Ej ah 83 88 1 4 [(.agg [(.str []),(.agg [(.int .i64 0),(.int .i64 0),.a8])])] rfl rfl rfl (by kernel_rfl)) (R @lA (R @lB (R @eo (R @gH (R @List.nil_append.{0} (R @List.cons_append.{0} (R (@kc ah 83 83 88 rfl rfl) (R @kd (R @ke (R @all_cons (R @all_nil (@jy _ hC 4 (λ_=>rfl))))))))))))))
def J1:=PLift.up (R (@mI ah 95 [(9,0),(2,1),(2,2),(38,3)] [(.str []),(.int .i64 0),(.int .i64 0),.a8] rfl rfl (by kernel_rfl)) (R @lA (R @lB (R @eo (R @gH (R @List.nil_append.{0} (R @List.cons_append.{0} (R (@Ej ah 53 95 1 4 [(.agg [(.str []),(.int .i64 0),(.int .i64 0),.a8])] rfl rfl rfl (by kernel_rfl)) (R (@kc ah 53 53 95 rfl rfl) (R @kd (R @ke (R @all_cons (R @all_nil (@jy _ fD 4 (λ_=>rfl)))))))))))))))
def J2:=PLift.up (R @n2 (R @n1 (R @cY (R @n0 (R (@b0 _ a1 a1 (λ_=>jW _)) (@b0 _ bz bz (λ_=>vF _)))))))
def P4:=PLift.up (R @o5 (R @pA (R @pB (R @i6 (R @i7 (R @i_ (R @cY (R @or_true (R @true_or (@b0 _ cU cU (λ_=>Cw _)))))))))))
def P5:=PLift.up (R (@mI ah 60 [(2,0),(2,1),(48,2)] [(.int .i64 0),(.int .i64 0),.a8] rfl rfl (by kernel_rfl)) (R @lA (R @lB (R @eo (R @gH (R @List.nil_append.{0} (R @List.cons_append.{0} (R (@Ej ah 38 60 1 3 [(.agg [(.int .i64 0),(.int .i64 0),.a8])] rfl rfl rfl (by kernel_rfl)) (R (@kc ah 38 38 60 rfl rfl) (R @kd (R @ke (R @all_cons (R @all_nil (@jy _ eV 3 (λ_=>rfl)))))))))))))))
def P6:=PLift.up (R (@mI ah 95 [(9,0),(2,1),(2,2),(38,3)] [(.str []),(.int .i64 0),(.int .i64 0),.a8] rfl rfl (by kernel_rfl)) (R @lA (R @lB (R @eo (R @gH (R @List.nil_append.{0} (R @List.cons_append.{0} (R @n2 (R @n1 (R @cY (R @n0 (R (@b0 _ eV bz (λ_=>pc _)) (R @i6 (R @i7 (R @i_ (R @cY (R (@b0 _ ba ba (λ_=>sJ _)) (R (@b0 _ dh dh (λ_=>zt _)) (R (@b0 _ bQ bQ (λ_=>rk _)) (R (@b0 _ aW aW (λ_=>lg _)) (@b0 _ aW aW (λ_=>lg _))))))))))))))))))))))
def P7:=PLift.up (R (@mI ah 95 [(9,0),(2,1),(2,2),(38,3)] [(.str []),(.int .i64 0),(.int .i64 0),.a8] rfl rfl (by kernel_rfl)) (R @lA (R @lB (R @eo (R @gH (R @List.nil_append.{0} (R @List.cons_append.{0} (R @n2 (R @n1 (R @cY (R @n0 (R (@b0 _ eV bz (λ_=>pc _)) (R @i6 (R @i7 (R @i_ (R @cY (@b0 _ bz bz (λ_=>vF _))))))))))))))))))
def P8:=PLift.up (R (@mI ah 95 [(9,0),(2,1),(2,2),(38,3)] [(.str []),(.int .i64 0),(.int .i64 0),.a8] rfl rfl (by kernel_rfl)) (R @lA (R @lB (R @eo (R @gH (R @List.nil_append.{0} (R @List.cons_append.{0} (R @n2 (R @n1 (R @cY (R @n0 (R (@b0 _ eV bz (λ_=>pc _)) (R @o5 (R @pA (R @pB (R @i6 (R @i7 (R @i_ (R @cY (R @or_true (R @true_or (@b0 _ gA gA (λ_=>ahN _)))))))))))))))))))))))
def P9:=PLift.up (R (@mI ah 95 [(9,0),(2,1),(2,2),(38,3)] [(.str []),(.int .i64 0),(.int .i64 0),.a8] rfl rfl (by kernel_rfl)) (R @lA (R @lB (R @eo (R @gH (R @List.nil_append.{0} (R @List.cons_append.{0} (R @n2 (R @n1 (R @cY (R @n0 (R (@b0 _ eV bz (λ_=>pc _)) @nY))))))))))))
def P_:=PLift.up (R @i6 (R @i7 (R @i_ (R @cY (@b0 _ aW aW (λ_=>lg _))))))
def Qa:=PLift.up (R @o5 (R @pA (R @pB (R @i6 (R @i7 (R @i_ (R @cY (R @or_true (R @true_or (R (@b0 _ ba ba (λ_=>sJ _)) (@b0 _ hC cU (λ_=>F8 _))))))))))))
def Qb:=PLift.up (R (@Ej ah 38 60 1 3 [(.agg [(.int .i64 0),(.int .i64 0),.a8])] rfl rfl rfl (by kernel_rfl)) (R @lA (R @lB (R @eo (R @gH (R @List.nil_append.{0} (R @List.cons_append.{0} (R (@kc ah 38 38 60 rfl rfl) (R @kd (R @ke (R @all_cons (R @all_nil (@jy _ eV 3 (λ_=>rfl))))))))))))))
def Xu:=PLift.up (R @i6 (R @i7 (R @i_ (R @cY (@b0 _ eh eh (λ_=>JL _))))))
def Xv:=PLift.up (R @i6 (R @i7 (R @i_ (R @cY (R (@b0 _ a1 a1 (λ_=>jW _)) (@b0 _ a1 a1 (λ_=>jW _)))))))
def Xw:=PLift.up (R (@kc ah 48 48 2 rfl rfl) (R @kd (R @ke (R @gH (R @all_cons (R @all_nil (R (@jy _ a1 1 (λ_=>rfl)) (R @n2 (R @n1 (R @cY (R @n0 (R (@b0 _ a1 a1 (λ_=>jW _)) (R @List.map_append.{0,0} (R @List.map_set.{0,0} (R @List.map_cons.{0,0} @List.map_nil.{0,0})))))))))))))))
def Xx:=PLift.up (R (@kc ah 48 48 2 rfl rfl) (R @kd (R @ke (R @gH (R @all_cons (R @all_nil (R (@jy _ a1 1 (λ_=>rfl)) (R @n2 (R @n1 (R @cY (R @n0 (R (@b0 _ a1 a1 (λ_=>jW _)) @nY))))))))))))
def Xy:=PLift.up (R (@Ej ah 259 228 1 1 [.en] rfl rfl rfl (by kernel_rfl)) (R @lA (R @lB (R @eo (R @gH (R @List.nil_append.{0} (R @List.cons_append.{0} (R (@kc ah 259 259 228 rfl rfl) (R @kd (R @ke (R @all_cons (R @all_nil (@jy _ lI 1 (λ_=>rfl))))))))))))))
def Xz:=PLift.up (R (@mI ah 88 [(9,0),(60,1)] [(.str []),(.agg [(.int .i64 0),(.int .i64 0),.a8])] rfl rfl (by kernel_rfl)) (R @lA (R @lB (R @eo (R @gH (R @List.nil_append.{0} @List.cons_append.{0}))))))
def XA:=PLift.up (R (λs y q=>(Vl ah s 25 y q).1) (λs y q=>(Vl ah s 25 y q).2.1))
def XB:=PLift.up (R @yN (R @yO (R @i6 (R @i7 (R @i_ (R @cY (@b0 _ eV bz (λ_=>pc _))))))))
def XC:=PLift.up (R @n2 (R @n1 (R @cY (R @n0 (R (@b0 _ a1 a1 (λ_=>jW _)) (R (@b0 _ bz bz (λ_=>vF _)) (R @o5 (R @pA (R @pB (R @i6 (R @i7 (R @i_ (R @cY (R @or_true (R @true_or (R (@b0 _ ba ba (λ_=>sJ _)) (R (@b0 _ dh dh (λ_=>zt _)) (R (@b0 _ bQ bQ (λ_=>rk _)) (R (@b0 _ aW aW (λ_=>lg _)) (R (@b0 _ aW aW (λ_=>lg _)) (R (@b0 _ bz bz (λ_=>vF _)) (@b0 _ fD gA (λ_=>WH _)))))))))))))))))))))))
def XD:=PLift.up (R @n2 (R @n1 (R @cY (R @n0 (R (@b0 _ a1 a1 (λ_=>jW _)) (R (@b0 _ bz bz (λ_=>vF _)) @nY))))))
def XE:=PLift.up (R @i6 (R @i7 (R @i_ (R @cY (R (@b0 _ lG ba (λ_=>FZ _)) (R (@b0 _ lH dh (λ_=>F3 _)) (R (@b0 _ bQ bQ (λ_=>rk _)) (R (@b0 _ aW aW (λ_=>lg _)) (R (@b0 _ aW aW (λ_=>lg _)) (@b0 _ eV bz (λ_=>pc _)))))))))))
theorem ak2 (a0 J r) (h:EA a0 J=some r):aV ah 151 [.slice (a0.map mQ),.int .i64 J] (.int .i64 r) []:=by
 refine bA [0] [.tmp 4] Tryz.func151 ahV (λbt ai bq=>?_);refine ws _ ?_;refine ws _ ?_;refine az ai (λjl e7 de aK=>?_);refine ws _ ?_;refine aF h (λcP h=>?_) (λcP h=>?_)
 .refine ws _ ?_;exact aw (de _ (.inl (ay [.int .i64 (-1)])))
 .refine aJ (e7 _ (.inl ?_));refine ws _ ?_;exact aw (ai _ (.inl (ay [.int .i64 (i64.wrap (J-(a0.length:Int)))])))
theorem ak3 (a0 J r) (h:Ie a0 J=some r):aV ah 112 [.slice (a0.map lf),.int .i64 J] (.int .i64 r) []:=by
 refine bA [0] [.tmp 4] Tryz.func112 ahW (λbt ai bq=>?_);refine ws _ ?_;refine ws _ ?_;refine az ai (λjl e7 de aK=>?_);refine ws _ ?_;refine aF h (λcP h=>?_) (λcP h=>?_)
 .refine ws _ ?_;exact aw (de _ (.inl (ay [.int .i64 (-1)])))
 .refine aJ (e7 _ (.inl ?_));refine az ai (λgu dx dE bj=>?_);refine ws _ ?_;refine bn dE (λek cE cd eR ch=>?_);show bk ah (.loop ?ki) _ _;have kV:∀n ep dW,Nw a0 n ep dW=some r->cX ah ?ki ek (aq [(0,.slice (a0.map lf)),(1,.int .i64 ep),(5,.int .i64 dW)]):=by
   refine dd (λm16 kW ep dW h=>dc cd (λe0 cf cn cv=>?_));refine az cn (λhY eK fL dP=>?_);refine ws _ ?_;refine aF h (λeX h=>?_) (λeX h=>?_)
   .refine aJ (eK _ (.inl ?_));refine az cn (λhv ez ee eZ=>?_);refine bn ee (λkF gd gj dY ft=>?_);obtain⟨U,dL,h⟩:=ao h;obtain⟨af,e4,h⟩:=ao h;refine eH dL (ak2 U ep _ e4) _ ?_;refine ws _ ?_;refine aF h (λfX h=>?_) (λfX h=>?_)
    .refine ws _ ?_;exact aw (gj _ (.inl (ay [.int .i64 (-1)])))
    .refine aJ (gd _ (ez _ (.inl ?_)));refine wr _ ?_;exact cf _ (.inr ⟨_,aY rfl,kW af (i64.wrap (dW+1)) h⟩)
   .refine c7 (dP 0 _ (cv 0 _ (eR _ (dx _ (.inl ?_)))));refine ws _ ?_;exact aw (ai _ (.inl (ay [.int .i64 ep])))
  obtain⟨n,h⟩:=cS h;exact db (.inr ⟨_,aY rfl,kV n (i64.wrap (J-(a0.length:Int))) 0 h⟩)
theorem ak4 (a0 J r) (h:EB a0 J=some r):aV ah 74 [kh a0,.int .i64 J] (.int .i64 r) []:=by
 refine bA [0] [.tmp 4] Tryz.func74 ahX (λbt ai bq=>?_);refine ws _ ?_;refine ws _ ?_;refine az ai (λjl e7 de aK=>?_);refine ws _ ?_;refine aF h (λcP h=>?_) (λcP h=>?_)
 .refine ws _ ?_;exact aw (de _ (.inl (ay [.int .i64 (-1)])))
 .refine aJ (e7 _ (.inl ?_));obtain⟨U,fu,h⟩:=ao h;refine cB (ak3 a0.cO (i64.wrap (J-(a0.Name.length:Int))) _ fu) _ ?_;refine az ai (λek cE cd ch=>?_);refine ws _ ?_;refine aF h (λlJ h=>?_) (λlJ h=>?_)
  .refine ws _ ?_;exact aw (cd _ (.inl (ay [.int .i64 (-1)])))
  .refine aJ (cE _ (.inl ?_));refine ws _ ?_;exact aw (ai _ (.inl (ay [.int .i64 U])))
theorem ak5 (a0 J r) (h:Ig a0 J=some r):aV ah 53 [.slice (a0.map kh),.int .i64 J] (.int .i64 r) []:=by
 refine bA [0] [.tmp 4] Tryz.func53 c53 (λbt ai bq=>?_);refine ws _ ?_;refine ws _ ?_;refine az ai (λjl e7 de aK=>?_);refine ws _ ?_;refine aF h (λcP h=>?_) (λcP h=>?_)
 .refine ws _ ?_;exact aw (de _ (.inl (ay [.int .i64 (-1)])))
 .refine aJ (e7 _ (.inl ?_));refine az ai (λgu dx dE bj=>?_);refine ws _ ?_;refine bn dE (λek cE cd eR ch=>?_);show bk ah (.loop ?ki) _ _;have kV:∀n ep dW,Nx a0 n ep dW=some r->cX ah ?ki ek (aq [(0,.slice (a0.map kh)),(1,.int .i64 ep),(5,.int .i64 dW)]):=by
   refine dd (λm16 kW ep dW h=>dc cd (λe0 cf cn cv=>?_));refine az cn (λhY eK fL dP=>?_);refine ws _ ?_;refine aF h (λeX h=>?_) (λeX h=>?_)
   .refine aJ (eK _ (.inl ?_));refine az cn (λhv ez ee eZ=>?_);refine bn ee (λkF gd gj dY ft=>?_);obtain⟨U,dL,h⟩:=ao h;obtain⟨af,e4,h⟩:=ao h;refine eH dL (ak4 U ep _ e4) _ ?_;refine ws _ ?_;refine aF h (λfX h=>?_) (λfX h=>?_)
    .refine ws _ ?_;exact aw (gj _ (.inl (ay [.int .i64 (-1)])))
    .refine aJ (gd _ (ez _ (.inl ?_)));refine wr _ ?_;exact cf _ (.inr ⟨_,aY rfl,kW af (i64.wrap (dW+1)) h⟩)
   .refine c7 (dP 0 _ (cv 0 _ (eR _ (dx _ (.inl ?_)))));refine ws _ ?_;exact aw (ai _ (.inl (ay [.int .i64 ep])))
  obtain⟨n,h⟩:=cS h;exact db (.inr ⟨_,aY rfl,kV n (i64.wrap (J-(a0.length:Int))) 0 h⟩)
theorem ak6 (a0 J r) (h:EC a0 J=some r):aV ah 30 [jF a0,.int .i64 J] (.int .i64 r) []:=by
 refine bA [0] [.tmp 4] Tryz.func30 ahY (λbt ai bq=>?_);refine ws _ ?_;refine ws _ ?_;refine az ai (λjl e7 de aK=>?_);refine ws _ ?_;refine aF h (λcP h=>?_) (λcP h=>?_)
 .refine ws _ ?_;exact aw (de _ (.inl (ay [.int .i64 (-1)])))
 .refine aJ (e7 _ (.inl ?_));obtain⟨U,fu,h⟩:=ao h;refine cB (ak5 a0.Body (i64.wrap (J-(a0.Name.length:Int))) _ fu) _ ?_;refine az ai (λek cE cd ch=>?_);refine ws _ ?_;refine aF h (λlJ h=>?_) (λlJ h=>?_)
  .refine ws _ ?_;exact aw (cd _ (.inl (ay [.int .i64 (-1)])))
  .refine aJ (cE _ (.inl ?_));refine ws _ ?_;exact aw (ai _ (.inl (ay [.int .i64 U])))
theorem ak7 (a0 J r) (h:Ih a0 J=some r):aV ah 12 [.slice (a0.map jF),.int .i64 J] (.int .i64 r) []:=by
 refine bA [0] [.tmp 4] Tryz.func12 c12 (λbt ai bq=>?_);refine ws _ ?_;refine ws _ ?_;refine az ai (λjl e7 de aK=>?_);refine ws _ ?_;refine aF h (λcP h=>?_) (λcP h=>?_)
 .refine ws _ ?_;exact aw (de _ (.inl (ay [.int .i64 (-1)])))
 .refine aJ (e7 _ (.inl ?_));refine az ai (λgu dx dE bj=>?_);refine ws _ ?_;refine bn dE (λek cE cd eR ch=>?_);show bk ah (.loop ?ki) _ _;have kV:∀n ep dW,Ny a0 n ep dW=some r->cX ah ?ki ek (aq [(0,.slice (a0.map jF)),(1,.int .i64 ep),(5,.int .i64 dW)]):=by
   refine dd (λm16 kW ep dW h=>dc cd (λe0 cf cn cv=>?_));refine az cn (λhY eK fL dP=>?_);refine ws _ ?_;refine aF h (λeX h=>?_) (λeX h=>?_)
   .refine aJ (eK _ (.inl ?_));refine az cn (λhv ez ee eZ=>?_);refine bn ee (λkF gd gj dY ft=>?_);obtain⟨U,dL,h⟩:=ao h;obtain⟨af,e4,h⟩:=ao h;refine eH dL (ak6 U ep _ e4) _ ?_;refine ws _ ?_;refine aF h (λfX h=>?_) (λfX h=>?_)
    .refine ws _ ?_;exact aw (gj _ (.inl (ay [.int .i64 (-1)])))
    .refine aJ (gd _ (ez _ (.inl ?_)));refine wr _ ?_;exact cf _ (.inr ⟨_,aY rfl,kW af (i64.wrap (dW+1)) h⟩)
   .refine c7 (dP 0 _ (cv 0 _ (eR _ (dx _ (.inl ?_)))));refine ws _ ?_;exact aw (ai _ (.inl (ay [.int .i64 ep])))
  obtain⟨n,h⟩:=cS h;exact db (.inr ⟨_,aY rfl,kV n (i64.wrap (J-(a0.length:Int))) 0 h⟩)
theorem XF (a0 J r) (h:ED a0 J=some r):aV ah 33 [.slice (a0.map a1),.int .i64 J] (.int .i64 r) []:=by
 refine bA [0] [.tmp 4] Tryz.func33 ahZ (λbt ai bq=>?_);refine ws _ ?_;refine ws _ ?_;refine az ai (λjl e7 de aK=>?_);refine ws _ ?_;refine aF h (λcP h=>?_) (λcP h=>?_)
 .refine ws _ ?_;exact aw (de _ (.inl (ay [.int .i64 (-1)])))
 .refine aJ (e7 _ (.inl ?_));refine ws _ ?_;exact aw (ai _ (.inl (ay [.int .i64 (i64.wrap (J-(a0.length:Int)))])))
theorem ak8 (a0 J r) (h:EE a0 J=some r):aV ah 31 [jG a0,.int .i64 J] (.int .i64 r) []:=by
 refine bA [0] [.tmp 4] Tryz.func31 c31 (λbt ai bq=>?_);refine ws _ ?_;obtain⟨U,aR,h⟩:=ao h;refine cB (XF a0.bV J _ aR) _ ?_;refine az ai (λei dS bR a_=>?_);refine ws _ ?_;refine aF h (λdn h=>?_) (λdn h=>?_)
 .refine ws _ ?_;exact aw (bR _ (.inl (ay [.int .i64 (-1)])))
 .refine aJ (dS _ (.inl ?_));refine ws _ ?_;exact aw (ai _ (.inl (ay [.int .i64 U])))
theorem ak9 (a0 J r) (h:Ii a0 J=some r):aV ah 13 [.slice (a0.map jG),.int .i64 J] (.int .i64 r) []:=by
 refine bA [0] [.tmp 4] Tryz.func13 ah0 (λbt ai bq=>?_);refine ws _ ?_;refine ws _ ?_;refine az ai (λjl e7 de aK=>?_);refine ws _ ?_;refine aF h (λcP h=>?_) (λcP h=>?_)
 .refine ws _ ?_;exact aw (de _ (.inl (ay [.int .i64 (-1)])))
 .refine aJ (e7 _ (.inl ?_));refine az ai (λgu dx dE bj=>?_);refine ws _ ?_;refine bn dE (λek cE cd eR ch=>?_);show bk ah (.loop ?ki) _ _;have kV:∀n ep dW,Nz a0 n ep dW=some r->cX ah ?ki ek (aq [(0,.slice (a0.map jG)),(1,.int .i64 ep),(5,.int .i64 dW)]):=by
   refine dd (λm16 kW ep dW h=>dc cd (λe0 cf cn cv=>?_));refine az cn (λhY eK fL dP=>?_);refine ws _ ?_;refine aF h (λeX h=>?_) (λeX h=>?_)
   .refine aJ (eK _ (.inl ?_));refine az cn (λhv ez ee eZ=>?_);refine bn ee (λkF gd gj dY ft=>?_);obtain⟨U,dL,h⟩:=ao h;obtain⟨af,e4,h⟩:=ao h;refine eH dL (ak8 U ep _ e4) _ ?_;refine ws _ ?_;refine aF h (λfX h=>?_) (λfX h=>?_)
    .refine ws _ ?_;exact aw (gj _ (.inl (ay [.int .i64 (-1)])))
    .refine aJ (gd _ (ez _ (.inl ?_)));refine wr _ ?_;exact cf _ (.inr ⟨_,aY rfl,kW af (i64.wrap (dW+1)) h⟩)
   .refine c7 (dP 0 _ (cv 0 _ (eR _ (dx _ (.inl ?_)))));refine ws _ ?_;exact aw (ai _ (.inl (ay [.int .i64 ep])))
  obtain⟨n,h⟩:=cS h;exact db (.inr ⟨_,aY rfl,kV n (i64.wrap (J-(a0.length:Int))) 0 h⟩)
theorem ak_ (a0 J r) (h:EF a0 J=some r):aV ah 32 [jk a0,.int .i64 J] (.int .i64 r) []:=by
 refine bA [0] [.tmp 4] Tryz.func32 ah1 (λbt ai bq=>?_);refine ws _ ?_;refine ws _ ?_;refine az ai (λjl e7 de aK=>?_);refine ws _ ?_;refine aF h (λcP h=>?_) (λcP h=>?_)
 .refine ws _ ?_;exact aw (de _ (.inl (ay [.int .i64 (-1)])))
 .refine aJ (e7 _ (.inl ?_));refine ws _ ?_;refine az ai (λgk gf fY cu=>?_);refine ws _ ?_;refine aF h (λdX h=>?_) (λdX h=>?_)
  .refine ws _ ?_;exact aw (fY _ (.inl (ay [.int .i64 (-1)])))
  .refine aJ (gf _ (.inl ?_));refine ws _ ?_;refine az ai (λkG fE fp hG=>?_);refine ws _ ?_;refine aF h (λdY h=>?_) (λdY h=>?_)
   .refine ws _ ?_;exact aw (fp _ (.inl (ay [.int .i64 (-1)])))
   .refine aJ (fE _ (.inl ?_));refine ws _ ?_;exact aw (ai _ (.inl (ay [.int .i64 (i64.wrap ((i64.wrap ((i64.wrap (J-(a0.Left.length:Int)))-(a0.cQ.length:Int)))-(a0.Result.length:Int)))])))
theorem ala (a0 J r) (h:Ij a0 J=some r):aV ah 14 [.slice (a0.map jk),.int .i64 J] (.int .i64 r) []:=by
 refine bA [0] [.tmp 4] Tryz.func14 gU (λbt ai bq=>?_);refine ws _ ?_;refine ws _ ?_;refine az ai (λjl e7 de aK=>?_);refine ws _ ?_;refine aF h (λcP h=>?_) (λcP h=>?_)
 .refine ws _ ?_;exact aw (de _ (.inl (ay [.int .i64 (-1)])))
 .refine aJ (e7 _ (.inl ?_));refine az ai (λgu dx dE bj=>?_);refine ws _ ?_;refine bn dE (λek cE cd eR ch=>?_);show bk ah (.loop ?ki) _ _;have kV:∀n ep dW,NA a0 n ep dW=some r->cX ah ?ki ek (aq [(0,.slice (a0.map jk)),(1,.int .i64 ep),(5,.int .i64 dW)]):=by
   refine dd (λm16 kW ep dW h=>dc cd (λe0 cf cn cv=>?_));refine az cn (λhY eK fL dP=>?_);refine ws _ ?_;refine aF h (λeX h=>?_) (λeX h=>?_)
   .refine aJ (eK _ (.inl ?_));refine az cn (λhv ez ee eZ=>?_);refine bn ee (λkF gd gj dY ft=>?_);obtain⟨U,dL,h⟩:=ao h;obtain⟨af,e4,h⟩:=ao h;refine eH dL (ak_ U ep _ e4) _ ?_;refine ws _ ?_;refine aF h (λfX h=>?_) (λfX h=>?_)
    .refine ws _ ?_;exact aw (gj _ (.inl (ay [.int .i64 (-1)])))
    .refine aJ (gd _ (ez _ (.inl ?_)));refine wr _ ?_;exact cf _ (.inr ⟨_,aY rfl,kW af (i64.wrap (dW+1)) h⟩)
   .refine c7 (dP 0 _ (cv 0 _ (eR _ (dx _ (.inl ?_)))));refine ws _ ?_;exact aw (ai _ (.inl (ay [.int .i64 ep])))
  obtain⟨n,h⟩:=cS h;exact db (.inr ⟨_,aY rfl,kV n (i64.wrap (J-(a0.length:Int))) 0 h⟩)
theorem XG (a0 J r) (h:EG a0 J=some r):aV ah 15 [.slice (a0.map aW),.int .i64 J] (.int .i64 r) []:=by
 refine bA [0] [.tmp 4] Tryz.func15 ah2 (λbt ai bq=>?_);refine ws _ ?_;refine ws _ ?_;refine az ai (λjl e7 de aK=>?_);refine ws _ ?_;refine aF h (λcP h=>?_) (λcP h=>?_)
 .refine ws _ ?_;exact aw (de _ (.inl (ay [.int .i64 (-1)])))
 .refine aJ (e7 _ (.inl ?_));refine az ai (λgu dx dE bj=>?_);refine ws _ ?_;refine bn dE (λek cE cd eR ch=>?_);show bk ah (.loop ?ki) _ _;have kV:∀n ep dW,NB a0 n ep dW=some r->cX ah ?ki ek (aq [(0,.slice (a0.map aW)),(1,.int .i64 ep),(5,.int .i64 dW)]):=by
   refine dd (λm16 kW ep dW h=>dc cd (λe0 cf cn cv=>?_));refine az cn (λhY eK fL dP=>?_);refine ws _ ?_;refine aF h (λeX h=>?_) (λeX h=>?_)
   .refine aJ (eK _ (.inl ?_));refine az cn (λhv ez ee eZ=>?_);refine bn ee (λkF gd gj dY ft=>?_);obtain⟨U,dL,h⟩:=ao h;refine c1 dL _ ?_;refine ws _ ?_;refine aF h (λgg h=>?_) (λgg h=>?_)
    .refine ws _ ?_;exact aw (gj _ (.inl (ay [.int .i64 (-1)])))
    .refine aJ (gd _ (ez _ (.inl ?_)));refine wr _ ?_;exact cf _ (.inr ⟨_,aY rfl,kW (i64.wrap (ep-(U.length:Int))) (i64.wrap (dW+1)) h⟩)
   .refine c7 (dP 0 _ (cv 0 _ (eR _ (dx _ (.inl ?_)))));refine ws _ ?_;exact aw (ai _ (.inl (ay [.int .i64 ep])))
  obtain⟨n,h⟩:=cS h;exact db (.inr ⟨_,aY rfl,kV n (i64.wrap (J-(a0.length:Int))) 0 h⟩)
theorem alb (a0 J r) (h:EH a0 J=some r):aV ah 4 [uD a0,.int .i64 J] (.int .i64 r) []:=by
 refine bA [0] [.tmp 4] Tryz.func4 c4 (λbt ai bq=>?_);refine ws _ ?_;obtain⟨U,aR,h⟩:=ao h;refine cB (ak7 a0.cq J _ aR) _ ?_;refine az ai (λei dS bR a_=>?_);refine ws _ ?_;refine aF h (λdn h=>?_) (λdn h=>?_)
 .refine ws _ ?_;exact aw (bR _ (.inl (ay [.int .i64 (-1)])))
 .refine aJ (dS _ (.inl ?_));obtain⟨af,j7,h⟩:=ao h;refine cB (ak9 a0.b_ U _ j7) _ ?_;refine az ai (λe0 cf cn cv=>?_);refine ws _ ?_;refine aF h (λeE h=>?_) (λeE h=>?_)
  .refine ws _ ?_;exact aw (cn _ (.inl (ay [.int .i64 (-1)])))
  .refine aJ (cf _ (.inl ?_));obtain⟨aK,fq,h⟩:=ao h;refine cB (ala a0.b2 af _ fq) _ ?_;refine az ai (λsN kX mU hV=>?_);refine ws _ ?_;refine aF h (λhD h=>?_) (λhD h=>?_)
   .refine ws _ ?_;exact aw (mU _ (.inl (ay [.int .i64 (-1)])))
   .refine aJ (kX _ (.inl ?_));obtain⟨a_,hZ,h⟩:=ao h;refine cB (XG a0.cw aK _ hZ) _ ?_;refine az ai (λxB oc nI lb=>?_);refine ws _ ?_;refine aF h (λh0 h=>?_) (λh0 h=>?_)
    .refine ws _ ?_;exact aw (nI _ (.inl (ay [.int .i64 (-1)])))
    .refine aJ (oc _ (.inl ?_));obtain⟨bo,vG,h⟩:=ao h;refine cB (XG a0.ct a_ _ vG) _ ?_;refine az ai (λJ3 Qc Ge zc=>?_);refine ws _ ?_;refine aF h (λod h=>?_) (λod h=>?_)
     .refine ws _ ?_;exact aw (Ge _ (.inl (ay [.int .i64 (-1)])))
     .refine aJ (Qc _ (.inl ?_));refine ws _ ?_;exact aw (ai _ (.inl (ay [.int .i64 bo])))
theorem alc (a0 J r) (h:EI a0 J=some r):aV ah 16 [lF a0,.int .i64 J] (.int .i64 r) []:=by
 refine bA [0] [.tmp 4] Tryz.func16 ki (λbt ai bq=>?_);refine ws _ ?_;obtain⟨U,aR,h⟩:=ao h;refine cB (XF a0.bV J _ aR) _ ?_;refine az ai (λei dS bR a_=>?_);refine ws _ ?_;refine aF h (λdn h=>?_) (λdn h=>?_)
 .refine ws _ ?_;exact aw (bR _ (.inl (ay [.int .i64 (-1)])))
 .refine aJ (dS _ (.inl ?_));refine ws _ ?_;exact aw (ai _ (.inl (ay [.int .i64 U])))
theorem ald (a0 J r) (h:Ik a0 J=some r):aV ah 5 [.slice (a0.map lF),.int .i64 J] (.int .i64 r) []:=by
 refine bA [0] [.tmp 4] Tryz.func5 c5 (λbt ai bq=>?_);refine ws _ ?_;refine ws _ ?_;refine az ai (λjl e7 de aK=>?_);refine ws _ ?_;refine aF h (λcP h=>?_) (λcP h=>?_)
 .refine ws _ ?_;exact aw (de _ (.inl (ay [.int .i64 (-1)])))
 .refine aJ (e7 _ (.inl ?_));refine az ai (λgu dx dE bj=>?_);refine ws _ ?_;refine bn dE (λek cE cd eR ch=>?_);show bk ah (.loop ?ki) _ _;have kV:∀n ep dW,NC a0 n ep dW=some r->cX ah ?ki ek (aq [(0,.slice (a0.map lF)),(1,.int .i64 ep),(5,.int .i64 dW)]):=by
   refine dd (λm16 kW ep dW h=>dc cd (λe0 cf cn cv=>?_));refine az cn (λhY eK fL dP=>?_);refine ws _ ?_;refine aF h (λeX h=>?_) (λeX h=>?_)
   .refine aJ (eK _ (.inl ?_));refine az cn (λhv ez ee eZ=>?_);refine bn ee (λkF gd gj dY ft=>?_);obtain⟨U,dL,h⟩:=ao h;obtain⟨af,e4,h⟩:=ao h;refine eH dL (alc U ep _ e4) _ ?_;refine ws _ ?_;refine aF h (λfX h=>?_) (λfX h=>?_)
    .refine ws _ ?_;exact aw (gj _ (.inl (ay [.int .i64 (-1)])))
    .refine aJ (gd _ (ez _ (.inl ?_)));refine wr _ ?_;exact cf _ (.inr ⟨_,aY rfl,kW af (i64.wrap (dW+1)) h⟩)
   .refine c7 (dP 0 _ (cv 0 _ (eR _ (dx _ (.inl ?_)))));refine ws _ ?_;exact aw (ai _ (.inl (ay [.int .i64 ep])))
  obtain⟨n,h⟩:=cS h;exact db (.inr ⟨_,aY rfl,kV n (i64.wrap (J-(a0.length:Int))) 0 h⟩)
theorem ale (a0 r) (h:EJ a0=some r):aV ah 185 [mQ a0] (ed r) []:=by
 refine bA [0] [.cell 2 216] Tryz.func185 ah3 (λbt ai bq=>?_);refine ws _ ?_;refine ws _ ?_;refine ws _ ?_;refine ws _ ?_;refine ws _ ?_;exact aw (ai _ (.inl (ay [ed (bZ.mk a0.Kind a0.Value)])))
theorem alf (a0 r) (h:EK a0=some r):aV ah 157 [.slice (a0.map mQ)] (.aj 2 (r.map ed)) []:=by
 refine bA [0] [.tmp 2] Tryz.func157 c157 (λbt ai bq=>?_);refine ws _ ?_;obtain⟨Cy,aR,h⟩:=ao h;refine rm (R (qF aR) @List.map_replicate.{0,0}) [(0,.slice (a0.map mQ)),(3,.aj 2 ((List.replicate (Int.toNat (a0.length:Int)) (bZ.mk 0 0)).map ed))] ?_;refine az ai (λei dS bR a_=>?_);refine ws [(0,.slice (a0.map mQ)),(3,.aj 2 ((List.replicate (Int.toNat (a0.length:Int)) (bZ.mk 0 0)).map ed)),(4,.int .i64 0)] ?_;refine bn bR (λeA cR cH dn bD=>?_);show bk ah (.loop ?h4) _ _;have iC:∀n bT bJ,ND a0 n bT bJ=some r->cX ah ?h4 eA (aq [(0,.slice (a0.map mQ)),(3,.aj 2 (bT.map ed)),(4,.int .i64 bJ)]):=by
  refine dd (λm8 iD bT bJ h=>dc cH (λgu dx dE bj=>?_));refine az dE (λgk gf fY cu=>?_);refine ws _ ?_;refine aF h (λdX h=>?_) (λdX h=>?_)
  .refine aJ (gf _ (.inl ?_));refine az dE (λhY eK fL dP=>?_);refine bn fL (λlh gV iE eE gz=>?_);obtain⟨U,dB,h⟩:=ao h;obtain⟨af,fq,h⟩:=ao h;obtain⟨aK,cC,h⟩:=ao h;refine jh (cI [(0,.slice (a0.map mQ)),(3,.aj 2 ((List.set bT (Int.toNat bJ) af).map ed)),(4,.int .i64 bJ)] (λP bu=>?_) ?_)
   ·(try simp only[aT.down,simprocAttr,dB,cC,dy cC,eo,dV]);refine dR (ale U _ fq) rfl rfl rfl rfl (.inl (by rfl)) ?_;simp only[aT.down,simprocAttr,dB,cC,dy cC,eo,dV];exact cc (R dB (R cC (R (dy cC) @eo)))
   refine gV _ (eK _ (.inl ?_));refine wr [(0,.slice (a0.map mQ)),(3,.aj 2 ((List.set bT (Int.toNat bJ) af).map ed)),(4,.int .i64 (i64.wrap (bJ+1)))] ?_;exact dx _ (.inr ⟨_,aY rfl,iD (List.set bT (Int.toNat bJ) af) (i64.wrap (bJ+1)) h⟩)
  .refine c7 (cu 0 _ (bj 0 _ (dn _ (dS _ (.inl ?_)))));refine ws _ ?_;exact aw (ai _ (.inl (ay [.aj 2 (bT.map ed)])))
 obtain⟨n,h⟩:=cS h;exact db (.inr ⟨_,aY rfl,iC n (List.replicate (Int.toNat (a0.length:Int)) (bZ.mk 0 0)) 0 h⟩)
theorem alg (a0 r) (h:Il a0=some r):aV ah 120 [.slice (a0.map lf)] (.aj 1 (r.map nH)) []:=by
 refine bA [0] [.tmp 2] Tryz.func120 ah4 (λbt ai bq=>?_);refine ws _ ?_;obtain⟨Cy,aR,h⟩:=ao h;refine rm (R (qF aR) @List.map_replicate.{0,0}) [(0,.slice (a0.map lf)),(3,.aj 1 (List.replicate (Int.toNat (a0.length:Int)) .a8))] ?_;refine az ai (λei dS bR a_=>?_);refine ws [(0,.slice (a0.map lf)),(3,.aj 1 (List.replicate (Int.toNat (a0.length:Int)) .a8)),(4,.int .i64 0)] ?_;refine bn bR (λeA cR cH dn bD=>?_);show bk ah (.loop ?h4) _ _;have iC:∀n bT bJ,NF a0 n bT bJ=some r->cX ah ?h4 eA (aq [(0,.slice (a0.map lf)),(3,.aj 1 (bT.map nH)),(4,.int .i64 bJ)]):=by
  refine dd (λm8 iD bT bJ h=>dc cH (λgu dx dE bj=>?_));refine az dE (λgk gf fY cu=>?_);refine ws _ ?_;refine aF h (λdX h=>?_) (λdX h=>?_)
  .refine aJ (gf _ (.inl ?_));refine az dE (λhY eK fL dP=>?_);refine bn fL (λlh gV iE eE gz=>?_);obtain⟨U,dB,h⟩:=ao h;obtain⟨af,fq,h⟩:=ao h;obtain⟨aK,cC,h⟩:=ao h;refine jh (cI [(0,.slice (a0.map lf)),(3,.aj 1 ((List.set bT (Int.toNat bJ) af).map nH)),(4,.int .i64 bJ)] (λP bu=>?_) ?_)
   ·(try simp only[aT.down,simprocAttr,dB,cC,dy cC,eo,dV]);refine dR (alf U _ fq) rfl rfl rfl rfl (.inl (by rfl)) ?_;simp only[aT.down,simprocAttr,dB,cC,dy cC,eo,dV];exact cc (R dB (R cC (R (dy cC) @eo)))
   refine gV _ (eK _ (.inl ?_));refine wr [(0,.slice (a0.map lf)),(3,.aj 1 ((List.set bT (Int.toNat bJ) af).map nH)),(4,.int .i64 (i64.wrap (bJ+1)))] ?_;exact dx _ (.inr ⟨_,aY rfl,iD (List.set bT (Int.toNat bJ) af) (i64.wrap (bJ+1)) h⟩)
  .refine c7 (cu 0 _ (bj 0 _ (dn _ (dS _ (.inl ?_)))));refine ws _ ?_;exact aw (ai _ (.inl (ay [.aj 1 (bT.map nH)])))
 obtain⟨n,h⟩:=cS h;exact db (.inr ⟨_,ij [] rfl (cF (t:=0) (d:=.slice (a0.map lf)) rfl (h6 (t:=3) (d:=.aj 1 (List.replicate (Int.toNat (a0.length:Int)) .a8)) (bI:=.aj 1 ((List.replicate (Int.toNat (a0.length:Int)) []).map nH)) rfl rfl (Ei (u:=nH) (z:=[]) (.iz _) _) (by decide) (cF (t:=4) (d:=.int .i64 0) rfl (ik)))),iC n (List.replicate (Int.toNat (a0.length:Int)) []) 0 h⟩)
theorem alh (a0 r) (h:EL a0=some r):aV ah 92 [kh a0] (mR r) []:=by
 refine bA [0] [.cell 2 145] Tryz.func92 ah5 (λbt ai bq=>?_);refine ws _ ?_;refine ws _ ?_;refine ws _ ?_;refine ws _ ?_;refine ws _ ?_;obtain⟨U,b3,h⟩:=ao h;refine cB (alg a0.cO _ b3) _ ?_;refine ws _ ?_;exact aw (ai _ (.inl (ay [mR (cG.mk a0.Kind a0.Number a0.Name U)])))
theorem ali (a0 r) (h:Im a0=some r):aV ah 64 [.slice (a0.map kh)] (.aj 4 (r.map mR)) []:=by
 refine bA [0] [.tmp 2] Tryz.func64 ah6 (λbt ai bq=>?_);refine ws _ ?_;obtain⟨Cy,aR,h⟩:=ao h;refine rm (R (qF aR) @List.map_replicate.{0,0}) [(0,.slice (a0.map kh)),(3,.aj 4 (List.replicate (Int.toNat (a0.length:Int)) (.agg [(.int .i64 0),(.int .i64 0),(.str []),.a8])))] ?_;refine az ai (λei dS bR a_=>?_);refine ws [(0,.slice (a0.map kh)),(3,.aj 4 (List.replicate (Int.toNat (a0.length:Int)) (.agg [(.int .i64 0),(.int .i64 0),(.str []),.a8]))),(4,.int .i64 0)] ?_;refine bn bR (λeA cR cH dn bD=>?_);show bk ah (.loop ?h4) _ _;have iC:∀n bT bJ,NG a0 n bT bJ=some r->cX ah ?h4 eA (aq [(0,.slice (a0.map kh)),(3,.aj 4 (bT.map mR)),(4,.int .i64 bJ)]):=by
  refine dd (λm8 iD bT bJ h=>dc cH (λgu dx dE bj=>?_));refine az dE (λgk gf fY cu=>?_);refine ws _ ?_;refine aF h (λdX h=>?_) (λdX h=>?_)
  .refine aJ (gf _ (.inl ?_));refine az dE (λhY eK fL dP=>?_);refine bn fL (λlh gV iE eE gz=>?_);obtain⟨U,dB,h⟩:=ao h;obtain⟨af,fq,h⟩:=ao h;obtain⟨aK,cC,h⟩:=ao h;refine jh (cI [(0,.slice (a0.map kh)),(3,.aj 4 ((List.set bT (Int.toNat bJ) af).map mR)),(4,.int .i64 bJ)] (λP bu=>?_) ?_)
   ·(try simp only[aT.down,simprocAttr,dB,cC,dy cC,eo,dV]);refine dR (alh U _ fq) rfl rfl rfl rfl (.inl (by rfl)) ?_;simp only[aT.down,simprocAttr,dB,cC,dy cC,eo,dV];exact cc (R dB (R cC (R (dy cC) @eo)))
   refine gV _ (eK _ (.inl ?_));refine wr [(0,.slice (a0.map kh)),(3,.aj 4 ((List.set bT (Int.toNat bJ) af).map mR)),(4,.int .i64 (i64.wrap (bJ+1)))] ?_;exact dx _ (.inr ⟨_,aY rfl,iD (List.set bT (Int.toNat bJ) af) (i64.wrap (bJ+1)) h⟩)
  .refine c7 (cu 0 _ (bj 0 _ (dn _ (dS _ (.inl ?_)))));refine ws _ ?_;exact aw (ai _ (.inl (ay [.aj 4 (bT.map mR)])))
 obtain⟨n,h⟩:=cS h;exact db (.inr ⟨_,ij [] rfl (cF (t:=0) (d:=.slice (a0.map kh)) rfl (h6 (t:=3) (d:=.aj 4 (List.replicate (Int.toNat (a0.length:Int)) (.agg [(.int .i64 0),(.int .i64 0),(.str []),.a8]))) (bI:=.aj 4 ((List.replicate (Int.toNat (a0.length:Int)) (cG.mk 0 0 ([]:axa) [])).map mR)) rfl rfl (Ei (u:=mR) (z:=(cG.mk 0 0 ([]:axa) [])) (.agg (.cons (.refl _) (.cons (.refl _) (.cons (.refl _) (.cons (.iz _) (.nil)))))) _) (by decide) (cF (t:=4) (d:=.int .i64 0) rfl (ik)))),iC n (List.replicate (Int.toNat (a0.length:Int)) (cG.mk 0 0 ([]:axa) [])) 0 h⟩)
theorem alj (a0 r) (h:EM a0=some r):aV ah 43 [jF a0] (lG r) []:=by
 refine bA [0] [.cell 2 99] Tryz.func43 ah7 (λbt ai bq=>?_);refine ws _ ?_;refine ws _ ?_;refine ws _ ?_;refine ws _ ?_;obtain⟨U,cg,h⟩:=ao h;refine cB (ali a0.Body _ cg) _ ?_;refine ws _ ?_;exact aw (ai _ (.inl (ay [lG (a6.mk a0.Name a0.ej U)])))
theorem alk (a0 r) (h:Io a0=some r):aV ah 19 [.slice (a0.map jF)] (.aj 3 (r.map lG)) []:=by
 refine bA [0] [.tmp 2] Tryz.func19 ah8 (λbt ai bq=>?_);refine ws _ ?_;obtain⟨Cy,aR,h⟩:=ao h;refine rm (R (qF aR) @List.map_replicate.{0,0}) [(0,.slice (a0.map jF)),(3,.aj 3 (List.replicate (Int.toNat (a0.length:Int)) (.agg [(.str []),(.int .i64 0),.a8])))] ?_;refine az ai (λei dS bR a_=>?_);refine ws [(0,.slice (a0.map jF)),(3,.aj 3 (List.replicate (Int.toNat (a0.length:Int)) (.agg [(.str []),(.int .i64 0),.a8]))),(4,.int .i64 0)] ?_;refine bn bR (λeA cR cH dn bD=>?_);show bk ah (.loop ?h4) _ _;have iC:∀n bT bJ,NH a0 n bT bJ=some r->cX ah ?h4 eA (aq [(0,.slice (a0.map jF)),(3,.aj 3 (bT.map lG)),(4,.int .i64 bJ)]):=by
  refine dd (λm8 iD bT bJ h=>dc cH (λgu dx dE bj=>?_));refine az dE (λgk gf fY cu=>?_);refine ws _ ?_;refine aF h (λdX h=>?_) (λdX h=>?_)
  .refine aJ (gf _ (.inl ?_));refine az dE (λhY eK fL dP=>?_);refine bn fL (λlh gV iE eE gz=>?_);obtain⟨U,dB,h⟩:=ao h;obtain⟨af,fq,h⟩:=ao h;obtain⟨aK,cC,h⟩:=ao h;refine jh (cI [(0,.slice (a0.map jF)),(3,.aj 3 ((List.set bT (Int.toNat bJ) af).map lG)),(4,.int .i64 bJ)] (λP bu=>?_) ?_)
   ·(try simp only[aT.down,simprocAttr,dB,cC,dy cC,eo,dV]);refine dR (alj U _ fq) rfl rfl rfl rfl (.inl (by rfl)) ?_;simp only[aT.down,simprocAttr,dB,cC,dy cC,eo,dV];exact cc (R dB (R cC (R (dy cC) @eo)))
   refine gV _ (eK _ (.inl ?_));refine wr [(0,.slice (a0.map jF)),(3,.aj 3 ((List.set bT (Int.toNat bJ) af).map lG)),(4,.int .i64 (i64.wrap (bJ+1)))] ?_;exact dx _ (.inr ⟨_,aY rfl,iD (List.set bT (Int.toNat bJ) af) (i64.wrap (bJ+1)) h⟩)
  .refine c7 (cu 0 _ (bj 0 _ (dn _ (dS _ (.inl ?_)))));refine ws _ ?_;exact aw (ai _ (.inl (ay [.aj 3 (bT.map lG)])))
 obtain⟨n,h⟩:=cS h;exact db (.inr ⟨_,ij [] rfl (cF (t:=0) (d:=.slice (a0.map jF)) rfl (h6 (t:=3) (d:=.aj 3 (List.replicate (Int.toNat (a0.length:Int)) (.agg [(.str []),(.int .i64 0),.a8]))) (bI:=.aj 3 ((List.replicate (Int.toNat (a0.length:Int)) (a6.mk ([]:axa) 0 [])).map lG)) rfl rfl (Ei (u:=lG) (z:=(a6.mk ([]:axa) 0 [])) (.agg (.cons (.refl _) (.cons (.refl _) (.cons (.iz _) (.nil))))) _) (by decide) (cF (t:=4) (d:=.int .i64 0) rfl (ik)))),iC n (List.replicate (Int.toNat (a0.length:Int)) (a6.mk ([]:axa) 0 [])) 0 h⟩)
theorem XH (a0 r) (h:EN a0=some r):aV ah 46 [.slice (a0.map a1)] (.aj 1 (r.map a1)) []:=by
 refine bA [0] [.tmp 2] Tryz.func46 c46 (λbt ai bq=>?_);refine ws _ ?_;obtain⟨J4,aR,h⟩:=ao h;refine rm (R (qF aR) @List.map_replicate.{0,0}) [(0,.slice (a0.map a1)),(3,.aj 1 ((List.replicate (Int.toNat (a0.length:Int)) 0).map a1))] ?_;refine az ai (λei dS bR a_=>?_);refine ws [(0,.slice (a0.map a1)),(3,.aj 1 ((List.replicate (Int.toNat (a0.length:Int)) 0).map a1)),(4,.int .i64 0)] ?_;refine bn bR (λeA cR cH dn bD=>?_);show bk ah (.loop ?h4) _ _;have iC:∀n bT bJ,NI a0 n bT bJ=some r->cX ah ?h4 eA (aq [(0,.slice (a0.map a1)),(3,.aj 1 (bT.map a1)),(4,.int .i64 bJ)]):=by
  refine dd (λm8 iD bT bJ h=>dc cH (λgu dx dE bj=>?_));refine az dE (λgk gf fY cu=>?_);refine ws _ ?_;refine aF h (λdX h=>?_) (λdX h=>?_)
  .refine aJ (gf _ (.inl ?_));refine az dE (λhY eK fL dP=>?_);refine bn fL (λlh gV iE eE gz=>?_);obtain⟨U,dB,h⟩:=ao h;obtain⟨af,fq,h⟩:=ao h;refine jh (cI [(0,.slice (a0.map a1)),(3,.aj 1 ((List.set bT (Int.toNat bJ) U).map a1)),(4,.int .i64 bJ)] (λP bu=>?_) ?_)
   .simp only[aT.down,simprocAttr,dB,fq,dy fq,eo,dV];exact cc (R dB (R fq (R (dy fq) @eo)))
   refine gV _ (eK _ (.inl ?_));refine wr [(0,.slice (a0.map a1)),(3,.aj 1 ((List.set bT (Int.toNat bJ) U).map a1)),(4,.int .i64 (i64.wrap (bJ+1)))] ?_;exact dx _ (.inr ⟨_,aY rfl,iD (List.set bT (Int.toNat bJ) U) (i64.wrap (bJ+1)) h⟩)
  .refine c7 (cu 0 _ (bj 0 _ (dn _ (dS _ (.inl ?_)))));refine ws _ ?_;exact aw (ai _ (.inl (ay [.aj 1 (bT.map a1)])))
 obtain⟨n,h⟩:=cS h;exact db (.inr ⟨_,aY rfl,iC n (List.replicate (Int.toNat (a0.length:Int)) 0) 0 h⟩)
theorem alm (a0 r) (h:EO a0=some r):aV ah 44 [jG a0] (lH r) []:=by
 refine bA [0] [.cell 2 101] Tryz.func44 Gb (λbt ai bq=>?_);refine ws _ ?_;refine ws _ ?_;refine ws _ ?_;obtain⟨U,cM,h⟩:=ao h;refine cB (XH a0.bV _ cM) _ ?_;refine ws _ ?_;exact aw (ai _ (.inl (ay [lH (di.mk a0.cD U)])))
theorem aln (a0 r) (h:Ip a0=some r):aV ah 20 [.slice (a0.map jG)] (.aj 2 (r.map lH)) []:=by
 refine bA [0] [.tmp 2] Tryz.func20 c20 (λbt ai bq=>?_);refine ws _ ?_;obtain⟨Cy,aR,h⟩:=ao h;refine rm (R (qF aR) @List.map_replicate.{0,0}) [(0,.slice (a0.map jG)),(3,.aj 2 (List.replicate (Int.toNat (a0.length:Int)) (.agg [(.int .i64 0),.a8])))] ?_;refine az ai (λei dS bR a_=>?_);refine ws [(0,.slice (a0.map jG)),(3,.aj 2 (List.replicate (Int.toNat (a0.length:Int)) (.agg [(.int .i64 0),.a8]))),(4,.int .i64 0)] ?_;refine bn bR (λeA cR cH dn bD=>?_);show bk ah (.loop ?h4) _ _;have iC:∀n bT bJ,NJ a0 n bT bJ=some r->cX ah ?h4 eA (aq [(0,.slice (a0.map jG)),(3,.aj 2 (bT.map lH)),(4,.int .i64 bJ)]):=by
  refine dd (λm8 iD bT bJ h=>dc cH (λgu dx dE bj=>?_));refine az dE (λgk gf fY cu=>?_);refine ws _ ?_;refine aF h (λdX h=>?_) (λdX h=>?_)
  .refine aJ (gf _ (.inl ?_));refine az dE (λhY eK fL dP=>?_);refine bn fL (λlh gV iE eE gz=>?_);obtain⟨U,dB,h⟩:=ao h;obtain⟨af,fq,h⟩:=ao h;obtain⟨aK,cC,h⟩:=ao h;refine jh (cI [(0,.slice (a0.map jG)),(3,.aj 2 ((List.set bT (Int.toNat bJ) af).map lH)),(4,.int .i64 bJ)] (λP bu=>?_) ?_)
   ·(try simp only[aT.down,simprocAttr,dB,cC,dy cC,eo,dV]);refine dR (alm U _ fq) rfl rfl rfl rfl (.inl (by rfl)) ?_;simp only[aT.down,simprocAttr,dB,cC,dy cC,eo,dV];exact cc (R dB (R cC (R (dy cC) @eo)))
   refine gV _ (eK _ (.inl ?_));refine wr [(0,.slice (a0.map jG)),(3,.aj 2 ((List.set bT (Int.toNat bJ) af).map lH)),(4,.int .i64 (i64.wrap (bJ+1)))] ?_;exact dx _ (.inr ⟨_,aY rfl,iD (List.set bT (Int.toNat bJ) af) (i64.wrap (bJ+1)) h⟩)
  .refine c7 (cu 0 _ (bj 0 _ (dn _ (dS _ (.inl ?_)))));refine ws _ ?_;exact aw (ai _ (.inl (ay [.aj 2 (bT.map lH)])))
 obtain⟨n,h⟩:=cS h;exact db (.inr ⟨_,ij [] rfl (cF (t:=0) (d:=.slice (a0.map jG)) rfl (h6 (t:=3) (d:=.aj 2 (List.replicate (Int.toNat (a0.length:Int)) (.agg [(.int .i64 0),.a8]))) (bI:=.aj 2 ((List.replicate (Int.toNat (a0.length:Int)) (di.mk 0 [])).map lH)) rfl rfl (Ei (u:=lH) (z:=(di.mk 0 [])) (.agg (.cons (.refl _) (.cons (.iz _) (.nil)))) _) (by decide) (cF (t:=4) (d:=.int .i64 0) rfl (ik)))),iC n (List.replicate (Int.toNat (a0.length:Int)) (di.mk 0 [])) 0 h⟩)
theorem alo (a0 r) (h:EP a0=some r):aV ah 45 [jk a0] (bQ r) []:=by
 refine bA [0] [.cell 2 103] Tryz.func45 ah9 (λbt ai bq=>?_);refine ws _ ?_;refine ws _ ?_;refine ws _ ?_;refine ws _ ?_;refine ws _ ?_;refine ws _ ?_;exact aw (ai _ (.inl (ay [bQ (b5.mk a0.Left a0.cQ a0.Result)])))
theorem alp (a0 r) (h:Iq a0=some r):aV ah 21 [.slice (a0.map jk)] (.aj 3 (r.map bQ)) []:=by
 refine bA [0] [.tmp 2] Tryz.func21 c21 (λbt ai bq=>?_);refine ws _ ?_;obtain⟨Cy,aR,h⟩:=ao h;refine rm (R (qF aR) @List.map_replicate.{0,0}) [(0,.slice (a0.map jk)),(3,.aj 3 ((List.replicate (Int.toNat (a0.length:Int)) (b5.mk ([]:axa) ([]:axa) ([]:axa))).map bQ))] ?_;refine az ai (λei dS bR a_=>?_);refine ws [(0,.slice (a0.map jk)),(3,.aj 3 ((List.replicate (Int.toNat (a0.length:Int)) (b5.mk ([]:axa) ([]:axa) ([]:axa))).map bQ)),(4,.int .i64 0)] ?_;refine bn bR (λeA cR cH dn bD=>?_);show bk ah (.loop ?h4) _ _;have iC:∀n bT bJ,NK a0 n bT bJ=some r->cX ah ?h4 eA (aq [(0,.slice (a0.map jk)),(3,.aj 3 (bT.map bQ)),(4,.int .i64 bJ)]):=by
  refine dd (λm8 iD bT bJ h=>dc cH (λgu dx dE bj=>?_));refine az dE (λgk gf fY cu=>?_);refine ws _ ?_;refine aF h (λdX h=>?_) (λdX h=>?_)
  .refine aJ (gf _ (.inl ?_));refine az dE (λhY eK fL dP=>?_);refine bn fL (λlh gV iE eE gz=>?_);obtain⟨U,dB,h⟩:=ao h;obtain⟨af,fq,h⟩:=ao h;obtain⟨aK,cC,h⟩:=ao h;refine jh (cI [(0,.slice (a0.map jk)),(3,.aj 3 ((List.set bT (Int.toNat bJ) af).map bQ)),(4,.int .i64 bJ)] (λP bu=>?_) ?_)
   ·(try simp only[aT.down,simprocAttr,dB,cC,dy cC,eo,dV]);refine dR (alo U _ fq) rfl rfl rfl rfl (.inl (by rfl)) ?_;simp only[aT.down,simprocAttr,dB,cC,dy cC,eo,dV];exact cc (R dB (R cC (R (dy cC) @eo)))
   refine gV _ (eK _ (.inl ?_));refine wr [(0,.slice (a0.map jk)),(3,.aj 3 ((List.set bT (Int.toNat bJ) af).map bQ)),(4,.int .i64 (i64.wrap (bJ+1)))] ?_;exact dx _ (.inr ⟨_,aY rfl,iD (List.set bT (Int.toNat bJ) af) (i64.wrap (bJ+1)) h⟩)
  .refine c7 (cu 0 _ (bj 0 _ (dn _ (dS _ (.inl ?_)))));refine ws _ ?_;exact aw (ai _ (.inl (ay [.aj 3 (bT.map bQ)])))
 obtain⟨n,h⟩:=cS h;exact db (.inr ⟨_,aY rfl,iC n (List.replicate (Int.toNat (a0.length:Int)) (b5.mk ([]:axa) ([]:axa) ([]:axa))) 0 h⟩)
theorem XI (a0 r) (h:ER a0=some r):aV ah 22 [.slice (a0.map aW)] (.aj 1 (r.map aW)) []:=by
 refine bA [0] [.tmp 2] Tryz.func22 PT (λbt ai bq=>?_);refine ws _ ?_;obtain⟨J4,aR,h⟩:=ao h;refine rm (R (qF aR) @List.map_replicate.{0,0}) [(0,.slice (a0.map aW)),(3,.aj 1 ((List.replicate (Int.toNat (a0.length:Int)) ([]:axa)).map aW))] ?_;refine az ai (λei dS bR a_=>?_);refine ws [(0,.slice (a0.map aW)),(3,.aj 1 ((List.replicate (Int.toNat (a0.length:Int)) ([]:axa)).map aW)),(4,.int .i64 0)] ?_;refine bn bR (λeA cR cH dn bD=>?_);show bk ah (.loop ?h4) _ _;have iC:∀n bT bJ,NL a0 n bT bJ=some r->cX ah ?h4 eA (aq [(0,.slice (a0.map aW)),(3,.aj 1 (bT.map aW)),(4,.int .i64 bJ)]):=by
  refine dd (λm8 iD bT bJ h=>dc cH (λgu dx dE bj=>?_));refine az dE (λgk gf fY cu=>?_);refine ws _ ?_;refine aF h (λdX h=>?_) (λdX h=>?_)
  .refine aJ (gf _ (.inl ?_));refine az dE (λhY eK fL dP=>?_);refine bn fL (λlh gV iE eE gz=>?_);obtain⟨U,dB,h⟩:=ao h;obtain⟨af,fq,h⟩:=ao h;refine jh (cI [(0,.slice (a0.map aW)),(3,.aj 1 ((List.set bT (Int.toNat bJ) U).map aW)),(4,.int .i64 bJ)] (λP bu=>?_) ?_)
   .simp only[aT.down,simprocAttr,dB,fq,dy fq,eo,dV];exact cc (R dB (R fq (R (dy fq) @eo)))
   refine gV _ (eK _ (.inl ?_));refine wr [(0,.slice (a0.map aW)),(3,.aj 1 ((List.set bT (Int.toNat bJ) U).map aW)),(4,.int .i64 (i64.wrap (bJ+1)))] ?_;exact dx _ (.inr ⟨_,aY rfl,iD (List.set bT (Int.toNat bJ) U) (i64.wrap (bJ+1)) h⟩)
  .refine c7 (cu 0 _ (bj 0 _ (dn _ (dS _ (.inl ?_)))));refine ws _ ?_;exact aw (ai _ (.inl (ay [.aj 1 (bT.map aW)])))
 obtain⟨n,h⟩:=cS h;exact db (.inr ⟨_,aY rfl,iC n (List.replicate (Int.toNat (a0.length:Int)) ([]:axa)) 0 h⟩)
theorem Qd (a0 r) (h:yV a0=some r):aV ah 7 [uD a0] (xy r) []:=by
 refine bA [0] [.cell 2 36] Tryz.func7 Mj (λbt ai bq=>?_);refine ws _ ?_;refine ws _ ?_;obtain⟨U,bW,h⟩:=ao h;refine cB (alk a0.cq _ bW) _ ?_;obtain⟨af,cg,h⟩:=ao h;refine cB (aln a0.b_ _ cg) _ ?_;obtain⟨aK,fu,h⟩:=ao h;refine cB (alp a0.b2 _ fu) _ ?_;obtain⟨a_,ic,h⟩:=ao h;refine cB (XI a0.cw _ ic) _ ?_;obtain⟨bo,e1,h⟩:=ao h;refine cB (XI a0.ct _ e1) _ ?_;refine ws _ ?_;exact aw (ai _ (.inl (ay [xy (cJ.mk U af aK a_ bo)])))
theorem alq (a0 r) (h:ES a0=some r):aV ah 23 [lF a0] (eV r) []:=by
 refine bA [0] [.cell 2 60] Tryz.func23 ah_ (λbt ai bq=>?_);refine ws _ ?_;refine ws _ ?_;refine ws _ ?_;refine ws _ ?_;obtain⟨U,cg,h⟩:=ao h;refine cB (XH a0.bV _ cg) _ ?_;refine ws _ ?_;exact aw (ai _ (.inl (ay [eV (bd.mk a0.cD a0.Part U)])))
theorem Qe (a0 r) (h:A_ a0=some r):aV ah 8 [.slice (a0.map lF)] (.aj 3 (r.map eV)) []:=by
 refine bA [0] [.tmp 2] Tryz.func8 h4 (λbt ai bq=>?_);refine ws _ ?_;obtain⟨Cy,aR,h⟩:=ao h;refine rm (R (qF aR) @List.map_replicate.{0,0}) [(0,.slice (a0.map lF)),(3,.aj 3 (List.replicate (Int.toNat (a0.length:Int)) (.agg [(.int .i64 0),(.int .i64 0),.a8])))] ?_;refine az ai (λei dS bR a_=>?_);refine ws [(0,.slice (a0.map lF)),(3,.aj 3 (List.replicate (Int.toNat (a0.length:Int)) (.agg [(.int .i64 0),(.int .i64 0),.a8]))),(4,.int .i64 0)] ?_;refine bn bR (λeA cR cH dn bD=>?_);show bk ah (.loop ?h4) _ _;have iC:∀n bT bJ,NM a0 n bT bJ=some r->cX ah ?h4 eA (aq [(0,.slice (a0.map lF)),(3,.aj 3 (bT.map eV)),(4,.int .i64 bJ)]):=by
  refine dd (λm8 iD bT bJ h=>dc cH (λgu dx dE bj=>?_));refine az dE (λgk gf fY cu=>?_);refine ws _ ?_;refine aF h (λdX h=>?_) (λdX h=>?_)
  .refine aJ (gf _ (.inl ?_));refine az dE (λhY eK fL dP=>?_);refine bn fL (λlh gV iE eE gz=>?_);obtain⟨U,dB,h⟩:=ao h;obtain⟨af,fq,h⟩:=ao h;obtain⟨aK,cC,h⟩:=ao h;refine jh (cI [(0,.slice (a0.map lF)),(3,.aj 3 ((List.set bT (Int.toNat bJ) af).map eV)),(4,.int .i64 bJ)] (λP bu=>?_) ?_)
   ·(try simp only[aT.down,simprocAttr,dB,cC,dy cC,eo,dV]);refine dR (alq U _ fq) rfl rfl rfl rfl (.inl (by rfl)) ?_;simp only[aT.down,simprocAttr,dB,cC,dy cC,eo,dV];exact cc (R dB (R cC (R (dy cC) @eo)))
   refine gV _ (eK _ (.inl ?_));refine wr [(0,.slice (a0.map lF)),(3,.aj 3 ((List.set bT (Int.toNat bJ) af).map eV)),(4,.int .i64 (i64.wrap (bJ+1)))] ?_;exact dx _ (.inr ⟨_,aY rfl,iD (List.set bT (Int.toNat bJ) af) (i64.wrap (bJ+1)) h⟩)
  .refine c7 (cu 0 _ (bj 0 _ (dn _ (dS _ (.inl ?_)))));refine ws _ ?_;exact aw (ai _ (.inl (ay [.aj 3 (bT.map eV)])))
 obtain⟨n,h⟩:=cS h;exact db (.inr ⟨_,ij [] rfl (cF (t:=0) (d:=.slice (a0.map lF)) rfl (h6 (t:=3) (d:=.aj 3 (List.replicate (Int.toNat (a0.length:Int)) (.agg [(.int .i64 0),(.int .i64 0),.a8]))) (bI:=.aj 3 ((List.replicate (Int.toNat (a0.length:Int)) (bd.mk 0 0 [])).map eV)) rfl rfl (Ei (u:=eV) (z:=(bd.mk 0 0 [])) (.agg (.cons (.refl _) (.cons (.refl _) (.cons (.iz _) (.nil))))) _) (by decide) (cF (t:=4) (d:=.int .i64 0) rfl (ik)))),iC n (List.replicate (Int.toNat (a0.length:Int)) (bd.mk 0 0 [])) 0 h⟩)
theorem Qf (a0 r) (h:ET a0=some r):aV ah 117 [.int .u8 (a0.toNat:Int)] (.bool r) []:=by
 refine bA [0] [.tmp 2] Tryz.func117 c117 (λbt ai bq=>?_);refine ws _ ?_;refine mT (decide (97<=(a0.toNat:Int))) [(2,.bool ((decide (97<=(a0.toNat:Int)))&&(decide ((a0.toNat:Int)<=122))))] ?_;exact aw (ai _ (.inl (ay [.bool ((decide (97<=(a0.toNat:Int)))&&(decide ((a0.toNat:Int)<=122)))])))
theorem Qg (a0 r) (h:Ba a0=some r):aV ah 118 [.int .u8 (a0.toNat:Int)] (.bool r) []:=by
 refine bA [0] [.tmp 2] Tryz.func118 aia (λbt ai bq=>?_);refine ws _ ?_;refine mT (decide (48<=(a0.toNat:Int))) [(2,.bool ((decide (48<=(a0.toNat:Int)))&&(decide ((a0.toNat:Int)<=57))))] ?_;exact aw (ai _ (.inl (ay [.bool ((decide (48<=(a0.toNat:Int)))&&(decide ((a0.toNat:Int)<=57)))])))
theorem Cz (a0 r) (h:xg a0=some r):aV ah 87 [.str a0] (.bool r) []:=by
 refine bA [0] [.tmp 2] Tryz.func87 c87 (λbt ai bq=>?_);refine ws _ ?_;refine az ai (λdJ bL bf af=>?_);rcases dr h with⟨bU,h⟩|⟨bU,h⟩
 .refine c1 bU _ ?_;refine iM rfl ?_;refine ws _ ?_;exact aw (bf _ (.inl (ay [.bool false])))
 .rcases dr h with⟨dn,h⟩|⟨dn,h⟩
  .refine c1 (R bU dn) _ ?_;refine iM rfl ?_;refine ws _ ?_;exact aw (bf _ (.inl (ay [.bool false])))
  .obtain⟨U,fu,h⟩:=ao h;obtain⟨af,j7,h⟩:=ao h;refine eH (R bU (R dn fu)) (Qf U _ j7) _ ?_;refine aF h (λdX h=>?_) (λdX h=>?_)
   .refine ws _ ?_;exact aw (bf _ (.inl (ay [.bool false])))
   .refine aJ (bL _ (.inl ?_));refine az ai (λlh gV iE gz=>?_);refine ws _ ?_;refine bn iE (λhv ez ee fw eZ=>?_);show bk ah (.loop ?gU) _ _;have ho:∀n eU,EU a0 n eU=some r->cX ah ?gU hv (aq [(0,.str a0),(3,.int .i64 eU)]):=by
     refine dd (λm14 gW eU h=>dc ee (λkF gd gj ft=>?_));refine az gj (λsN kX mU hV=>?_);refine ws _ ?_;refine aF h (λhD h=>?_) (λhD h=>?_)
     .refine aJ (kX _ (.inl ?_));refine az gj (λJ5 rp zw lD=>?_);refine bn zw (λalr J6 Qh fX l3=>?_);obtain⟨aK,gJ,h⟩:=ao h;obtain⟨a_,jm,h⟩:=ao h;rcases dr h with⟨h0,h⟩|⟨h0,h⟩
      .obtain⟨bo,ir,h⟩:=ao h;refine eQ (cI [(0,.str a0),(3,.int .i64 eU),(34,.bool (!bo))] (λP bu=>?_) ?_)
       ·(try simp only[aT.down,simprocAttr,gJ,(hb h0)]);refine dR (Qf aK _ jm) rfl rfl rfl rfl (.inl (by rfl)) ?_;simp only[aT.down,simprocAttr,gJ,(hb h0)];refine iN (Qg aK _ ir) rfl rfl rfl rfl (.inl (by rfl)) ?_;simp only[aT.down,simprocAttr,gJ,(hb h0)];exact cc (R gJ (hb h0))
       refine aF h (λjH h=>?_) (λjH h=>?_)
       .refine ws _ ?_;exact aw (Qh _ (.inl (ay [.bool false])))
       .refine aJ (J6 _ (rp _ (.inl ?_)));refine wr _ ?_;exact gd _ (.inr ⟨_,aY rfl,gW (i64.wrap (eU+1)) h⟩)
      .refine eH (R gJ (b1 h0)) (Qf aK _ jm) _ ?_;refine nW rfl ?_;refine aJ (J6 _ (rp _ (.inl ?_)));refine wr _ ?_;exact gd _ (.inr ⟨_,aY rfl,gW (i64.wrap (eU+1)) h⟩)
     .refine c7 (hV 0 _ (ft 0 _ (fw _ (gV _ (.inl ?_)))));refine ws _ ?_;exact aw (ai _ (.inl (ay [.bool true])))
    obtain⟨n,h⟩:=cS h;exact db (.inr ⟨_,aY rfl,ho n 0 h⟩)
theorem pd (a0 J a2 r) (h:l0 a0 J a2=some r):aV ah 79 [.int .i64 a0,.int .i64 J,.int .i64 a2] (.bool r) []:=by
 refine bA [0,1,2] [.tmp 6] Tryz.func79 aib (λbt ai bq=>?_);refine ws _ ?_;refine mT (decide (J<=a0)) [(6,.bool ((decide (J<=a0))&&(decide (a0<=a2))))] ?_;exact aw (ai _ (.inl (ay [.bool ((decide (J<=a0))&&(decide (a0<=a2)))])))
theorem XJ (a0 r) (h:EW a0=some r):aV ah 115 [.ref (eh a0)] (.int .i64 r) []:=by
 refine bA [0] [.tmp 2] Tryz.func115 aic (λbt ai bq=>?_);refine ws _ ?_;refine az ai (λdJ bL bf af=>?_);refine ws _ ?_;refine bn bf (λei dS bR bU a_=>?_);show bk ah (.seq _ ?ki) _ _;have zx:∀jA,EV a0 jA=some r->bk ah ?ki ei (aq [(6,.int .i64 a0.Kind),(7,.bool jA)]):=by
  intro jA h;refine aF h (λdn h=>?_) (λdn h=>?_)
  .refine ws _ ?_;exact aw (bR _ (.inl (ay [.int .i64 1])))
  .refine ws _ ?_;refine aF h (λeR h=>?_) (λeR h=>?_)
   .refine ws _ ?_;exact aw (bR _ (.inl (ay [.int .i64 2])))
   .refine aJ (dS _ (bL _ (.inl ?_)));refine ws _ ?_;exact aw (ai _ (.inl (ay [.int .i64 0])))
 refine az bR (λgR dZ df bo=>?_);refine ws _ ?_;refine aF h (λeX h=>?_) (λeX h=>?_)
 .simp only[eX,Gd.down];exact aJ (dZ _ (.inr ⟨_,aY rfl,zx true h⟩))
 .refine ws _ ?_;refine aF h (λdY h=>?_) (λdY h=>?_)
  .simp only[dY,Gd.down];exact aJ (dZ _ (.inr ⟨_,aY rfl,zx true h⟩))
  .refine wr _ ?_;exact dZ _ (.inr ⟨_,aY rfl,zx (a0.Kind==4) h⟩)
theorem als (a0 r) (h:Ir a0=some r):aV ah 152 [.slice (a0.map eh)] (.bool r) []:=by
 refine bA [0] [.tmp 2] Tryz.func152 c152 (λbt ai bq=>?_);refine ws _ ?_;refine az ai (λdJ bL bf af=>?_);refine mT ((a0.length:Int)==0) [(0,.slice (a0.map eh)),(12,.bool (((a0.length:Int)==0)||(decide (20<(a0.length:Int)))))] ?_;refine aF h (λbU h=>?_) (λbU h=>?_)
 .refine ws _ ?_;exact aw (bf _ (.inl (ay [.bool false])))
 .refine aJ (bL _ (.inl ?_));refine ws _ ?_;refine az ai (λgu dx dE bj=>?_);refine ws _ ?_;refine bn dE (λek cE cd eR ch=>?_);show bk ah (.loop ?ki) _ _;have kV:∀n gT hn,Bb a0 n gT hn=some r->cX ah ?ki ek (aq [(0,.slice (a0.map eh)),(3,.int .i64 gT),(4,.int .i64 hn)]):=by
   refine dd (λm16 kW gT hn h=>dc cd (λe0 cf cn cv=>?_));refine az cn (λhY eK fL dP=>?_);refine ws _ ?_;refine aF h (λeX h=>?_) (λeX h=>?_)
   .refine aJ (eK _ (.inl ?_));refine az cn (λhv ez ee eZ=>?_);refine bn ee (λkF gd gj dY ft=>?_);refine az gj (λsN kX mU hV=>?_);refine ws _ ?_;refine aF h (λhD h=>?_) (λhD h=>?_)
    .refine ws _ ?_;exact aw (mU _ (.inl (ay [.bool false])))
    .refine aJ (kX _ (.inl ?_));obtain⟨U,hZ,h⟩:=ao h;obtain⟨af,gJ,h⟩:=ao h;refine zv hZ (XJ U _ gJ) _ ?_;refine gd _ (ez _ (.inl ?_));refine wr _ ?_;exact cf _ (.inr ⟨_,aY rfl,kW (i64.wrap (gT+(i64.wrap (af-1)))) (i64.wrap (hn+1)) h⟩)
   .refine c7 (dP 0 _ (cv 0 _ (eR _ (dx _ (.inl ?_)))));refine ws _ ?_;exact aw (ai _ (.inl (ay [.bool (gT==0)])))
  obtain⟨n,h⟩:=cS h;exact db (.inr ⟨_,aY rfl,kV n 1 0 h⟩)
theorem alu (a0 r) (h:NP a0=some r):aV ah 182 [.ref (eh a0)] (.bool r) []:=by
 refine bA [0] [.tmp 2] Tryz.func182 c182 (λbt ai bq=>?_);refine ws _ ?_;refine az ai (λdJ bL bf af=>?_);refine ws _ ?_;refine bn bf (λei dS bR bU a_=>?_);show bk ah (.seq _ ?c12) _ _;have rq:∀EX,Is a0 EX=some r->bk ah ?c12 ei (aq [(0,.ref (eh a0)),(6,.int .i64 a0.Kind),(7,.bool EX)]):=by
  intro EX h;refine aF h (λdn h=>?_) (λdn h=>?_)
  .refine eQ (cI [(2,.bool (((a0.Number==0)&&(a0.Name==([]:axa)))&&((a0.cO.length:Int)==0)))] (λP bu=>?_) ?_)
   ·(rcases Bool.eq_false_or_eq_true (a0.Number==0)with xC|xC)<;>(rcases Bool.eq_false_or_eq_true (a0.Name==([]:axa))with rr|rr)<;>
     (simp only[aT.down,simprocAttr,xC,rr]
      exact cc (R xC rr))
   exact aw (bR _ (.inl (ay [.bool (((a0.Number==0)&&(a0.Name==([]:axa)))&&((a0.cO.length:Int)==0))])))
  .refine ws _ ?_;refine aF h (λlJ h=>?_) (λlJ h=>?_)
   .refine ws _ ?_;exact aw (bR _ (.inl (ay [.bool (a0.Number==0)])))
   .refine ws _ ?_;refine aF h (λfw h=>?_) (λfw h=>?_)
    .refine mT (a0.Number==0) [(2,.bool ((a0.Number==0)&&(a0.Name==([]:axa))))] ?_;exact aw (bR _ (.inl (ay [.bool ((a0.Number==0)&&(a0.Name==([]:axa)))])))
    .refine ws _ ?_;refine aF h (λkj h=>?_) (λkj h=>?_)
     .refine mT (a0.Name==([]:axa)) [(2,.bool ((a0.Name==([]:axa))&&((a0.cO.length:Int)==0)))] ?_;exact aw (bR _ (.inl (ay [.bool ((a0.Name==([]:axa))&&((a0.cO.length:Int)==0))])))
     .refine ws _ ?_;refine aF h (λfX h=>?_) (λfX h=>?_)
      .refine ws _ ?_;exact aw (bR _ (.inl (ay [.bool (a0.Name==([]:axa))])))
      .refine aJ (dS _ (bL _ (.inl ?_)));refine ws _ ?_;exact aw (ai _ (.inl (ay [.bool false])))
 refine az bR (λgR dZ df bo=>?_);refine ws _ ?_;refine aF h (λh0 h=>?_) (λh0 h=>?_)
 .simp only[h0,Gd.down];exact aJ (dZ _ (.inr ⟨_,aY rfl,rq true h⟩))
 .refine wr _ ?_;exact dZ _ (.inr ⟨_,aY rfl,rq (a0.Kind==2) h⟩)
theorem XK (a0 J r) (h:EY a0 J=some r):aV ah 84 [.slice (a0.map eh),.int .i64 J] (.int .i64 r) []:=by
 refine bA [0] [.tmp 4] Tryz.func84 aid (λbt ai bq=>?_);refine ws _ ?_;refine ws _ ?_;refine az ai (λjl e7 de aK=>?_);refine bn de (λei dS bR bU a_=>?_);show bk ah (.loop ?fP) _ _;have gK:∀n hU eD,Bc a0 n hU eD=some r->cX ah ?fP ei (aq [(0,.slice (a0.map eh)),(1,.int .i64 hU),(5,.int .i64 eD)]):=by
  refine dd (λm6 fM hU eD h=>dc bR (λgR dZ df bo=>?_));refine az df (λeA cR cH bD=>?_);refine ws _ ?_;refine aF h (λcy h=>?_) (λcy h=>?_)
  .refine aJ (cR _ (.inl ?_));refine bn df (λek cE cd eR ch=>?_);obtain⟨U,kK,h⟩:=ao h;obtain⟨af,e1,h⟩:=ao h;refine eH kK (XJ U _ e1) _ ?_;refine wr _ ?_;exact cE _ (dZ _ (.inr ⟨_,aY rfl,fM (i64.wrap (hU+1)) (i64.wrap (eD+(i64.wrap (af-1)))) h⟩))
  .refine c7 (bD 0 _ (bo 0 _ (bU _ (e7 _ (.inl ?_)))));refine ws _ ?_;exact aw (ai _ (.inl (ay [.int .i64 hU])))
 obtain⟨n,h⟩:=cS h;exact db (.inr ⟨_,aY rfl,gK n J 1 h⟩)
theorem Qi (a0 J r) (h:vg a0 J=some r):aV ah 80 [.ref (ba a0),.int .i64 J] (.int .i64 r) []:=by
 refine bA [0,1] [.tmp 4] Tryz.func80 c80 (λbt ai bq=>?_);refine ws _ ?_;refine ws _ ?_;refine az ai (λjl e7 de aK=>?_);refine ws _ ?_;refine bn de (λgR dZ df cP bo=>?_);show bk ah (.loop ?h4) _ _;have iC:∀n fs jB,yW a0 J n fs jB=some r->cX ah ?h4 gR (aq [(0,.ref (ba a0)),(1,.int .i64 J),(5,.int .i64 fs),(6,.int .i64 jB)]):=by
  refine dd (λm8 iD fs jB h=>dc df (λeA cR cH bD=>?_));refine az cH (λgu dx dE bj=>?_);refine ws _ ?_;refine aF h (λeR h=>?_) (λeR h=>?_)
  .refine aJ (dx _ (.inl ?_));show bk ah (.seq _ ?PT) _ _;have vH:∀Bd Be,EZ (yW a0 J m8) a0 J Bd Be=some r->bk ah ?PT eA (aq [(0,.ref (ba a0)),(1,.int .i64 J),(5,.int .i64 Bd),(6,.int .i64 Be)]):=by
    intro Bd Be h;refine wr _ ?_;exact cR _ (.inr ⟨_,aY rfl,iD Bd (i64.wrap (Be+1)) h⟩)
   refine az cH (λe0 cf cn cv=>?_);refine bn cn (λlh gV iE eE gz=>?_);obtain⟨U,dB,h⟩:=ao h;rcases dr h with⟨dY,h⟩|⟨dY,h⟩
   .obtain⟨af,cC,h⟩:=ao h;refine eH (R dB dY) (XK a0.Body jB _ cC) _ ?_;refine aF h (λkj h=>?_) (λkj h=>?_)
    .refine wr _ ?_;exact gV _ (cf _ (.inr ⟨_,aY rfl,vH (i64.wrap (fs+1)) jB h⟩))
    .exact aJ (gV _ (cf _ (.inr ⟨_,aY rfl,vH fs jB h⟩)))
   .refine c1 (R dB dY) _ ?_;refine nW rfl ?_;exact aJ (gV _ (cf _ (.inr ⟨_,aY rfl,vH fs jB h⟩)))
  .refine c7 (bj 0 _ (bD 0 _ (cP _ (e7 _ (.inl ?_)))));refine ws _ ?_;exact aw (ai _ (.inl (ay [.int .i64 fs])))
 obtain⟨n,h⟩:=cS h;exact db (.inr ⟨_,aY rfl,iC n a0.ej 0 h⟩)
theorem alv (a0 J r) (h:It a0 J=some r):aV ah 214 [.ref (ed a0),.int .i64 J] (.bool r) []:=by
 refine bA [0,1] [.tmp 4] Tryz.func214 aie (λbt ai bq=>?_);refine ws _ ?_;refine az ai (λdJ bL bf af=>?_);refine ws _ ?_;refine bn bf (λei dS bR bU a_=>?_);refine ws _ ?_;refine aF h (λdn h=>?_) (λdn h=>?_)
 .obtain⟨U,fu,h⟩:=ao h;refine cB (pd a0.Value 0 63 _ fu) _ ?_;exact aw (bR _ (.inl (ay [.bool U])))
 .refine ws _ ?_;refine aF h (λdX h=>?_) (λdX h=>?_)
  .obtain⟨af,e1,h⟩:=ao h;refine cB (pd a0.Value 0 (i64.wrap (J-1)) _ e1) _ ?_;exact aw (bR _ (.inl (ay [.bool af])))
  .refine ws _ ?_;refine aF h (λfw h=>?_) (λfw h=>?_)
   .obtain⟨aK,cC,h⟩:=ao h;refine cB (pd a0.Value 0 8 _ cC) _ ?_;exact aw (bR _ (.inl (ay [.bool aK])))
   .refine ws _ ?_;refine aF h (λhD h=>?_) (λhD h=>?_)
    .refine ws _ ?_;exact aw (bR _ (.inl (ay [.bool (a0.Value==0)])))
    .refine aJ (dS _ (bL _ (.inl ?_)));refine ws _ ?_;exact aw (ai _ (.inl (ay [.bool false])))
theorem XL (a0 r) (h:Iu a0=some r):aV ah 184 [.ref (ed a0)] (.int .i64 r) []:=by
 refine bA [0] [.tmp 2] Tryz.func184 aif (λbt ai bq=>?_);refine ws _ ?_;refine az ai (λdJ bL bf af=>?_);refine ws _ ?_;refine bn bf (λei dS bR bU a_=>?_);refine ws _ ?_;refine aF h (λdn h=>?_) (λdn h=>?_)
 .refine ws _ ?_;exact aw (bR _ (.inl (ay [.int .i64 2])))
 .refine ws _ ?_;refine aF h (λeR h=>?_) (λeR h=>?_)
  .refine ws _ ?_;exact aw (bR _ (.inl (ay [.int .i64 1])))
  .refine aJ (dS _ (bL _ (.inl ?_)));refine ws _ ?_;exact aw (ai _ (.inl (ay [.int .i64 0])))
theorem alw (a0 J a2 r) (h:Iv a0 J a2=some r):aV ah 183 [.slice (a0.map ed),.int .i64 J,.int .i64 a2] (.bool r) []:=by
 refine bA [0,1,2] [.tmp 6] Tryz.func183 c183 (λbt ai bq=>?_);refine ws _ ?_;refine az ai (λdJ bL bf af=>?_);refine ws _ ?_;refine aF h (λbU h=>?_) (λbU h=>?_)
 .refine ws _ ?_;exact aw (bf _ (.inl (ay [.bool false])))
 .refine aJ (bL _ (.inl ?_));refine ws _ ?_;refine az ai (λgu dx dE bj=>?_);refine ws _ ?_;refine bn dE (λek cE cd eR ch=>?_);show bk ah (.loop ?ki) _ _;have kV:∀n jA tL,Bf a0 J n jA tL=some r->cX ah ?ki ek (aq [(0,.slice (a0.map ed)),(1,.int .i64 J),(7,.int .i64 jA),(8,.int .i64 tL)]):=by
   refine dd (λm16 kW jA tL h=>dc cd (λe0 cf cn cv=>?_));refine az cn (λhY eK fL dP=>?_);refine ws _ ?_;refine aF h (λeX h=>?_) (λeX h=>?_)
   .refine aJ (eK _ (.inl ?_));refine az cn (λhv ez ee eZ=>?_);refine bn ee (λkF gd gj dY ft=>?_);refine az gj (λsN kX mU hV=>?_);rcases dr h with⟨hD,h⟩|⟨hD,h⟩
    .refine c1 hD _ ?_;refine iM rfl ?_;refine ws _ ?_;exact aw (mU _ (.inl (ay [.bool false])))
    .obtain⟨U,gL,h⟩:=ao h;obtain⟨af,hZ,h⟩:=ao h;refine eH (R hD gL) (alv U J _ hZ) _ ?_;refine aF h (λxD h=>?_) (λxD h=>?_)
     .refine ws _ ?_;exact aw (mU _ (.inl (ay [.bool false])))
     .refine aJ (kX _ (.inl ?_));obtain⟨aK,ir,h⟩:=ao h;refine zv gL (XL U _ ir) _ ?_;refine gd _ (ez _ (.inl ?_));refine wr _ ?_;exact cf _ (.inr ⟨_,aY rfl,kW (i64.wrap (jA+(i64.wrap (aK-1)))) (i64.wrap (tL+1)) h⟩)
   .refine c7 (dP 0 _ (cv 0 _ (eR _ (dx _ (.inl ?_)))));refine ws _ ?_;exact aw (ai _ (.inl (ay [.bool (jA==0)])))
  obtain⟨n,h⟩:=cS h;exact db (.inr ⟨_,aY rfl,kV n 1 0 h⟩)
theorem alx (a0 J a2 r) (h:sl a0 J a2=some r):aV ah 153 [.slice (a0.map ba),.ref (ba J),.int .i64 a2] (.int .i64 r) []:=by
 refine bA [0,1,2] [.tmp 6] Tryz.func153 aij (λbt ai bq=>?_);refine ws _ ?_;obtain⟨U,aR,h⟩:=ao h;refine c1 aR _ ?_;refine az ai (λei dS bR a_=>?_);obtain⟨af,cg,h⟩:=ao h;refine eQ (cI [(0,.slice (a0.map ba)),(1,.ref (ba J)),(2,.int .i64 a2),(7,.aM (eh U)),(19,.bool (!af))] (λP bu=>?_) ?_)
 .refine dR (alu U _ cg) rfl rfl (by simp only[aT.down,simprocAttr,i6,i7,i_,cY, @b0 _ iO iO (λ_=>PS _)]<;>rfl) rfl (.inr (by rfl)) ?_;simp only[aT.down,simprocAttr];exact cc trivial
 refine aF h (λp8 h=>?_) (λp8 h=>?_)
 .refine ws _ ?_;exact aw (bR _ (.inl (ay [.int .i64 2])))
 .refine aJ (dS _ (.inl ?_));refine az ai (λek cE cd ch=>?_);have XM:∀E2,Bg a0 J a2 U E2=some r->bk ah WI ek (aq [(0,.slice (a0.map ba)),(1,.ref (ba J)),(2,.int .i64 a2),(7,.aM (eh U)),(28,.bool E2)]):=by
   intro E2 h;refine aF h (λdX h=>?_) (λdX h=>?_)
   .refine ws _ ?_;exact aw (cd _ (.inl (ay [.int .i64 3])))
   .refine aJ (cE _ (.inl ?_));refine az ai (λlh gV iE gz=>?_);have Gf:∀E1,tO a0 J a2 U E1=some r->bk ah WJ lh (aq [(0,.slice (a0.map ba)),(1,.ref (ba J)),(2,.int .i64 a2),(7,.aM (eh U)),(51,.bool E1)]):=by
     intro E1 h;refine aF h (λeX h=>?_) (λeX h=>?_)
     .refine ws _ ?_;exact aw (iE _ (.inl (ay [.int .i64 4])))
     .refine aJ (gV _ (.inl ?_));refine ws _ ?_;have J7:vh J a2 U=some r->bk ah WM bt (aq [(1,.ref (ba J)),(2,.int .i64 a2),(7,.aM (eh U)),(8,.int .i64 (U.cO.length:Int))]):=by
       intro h;refine az ai (λpe kk kl jD=>?_);have zy:∀E0,sk J a2 U E0=some r->bk ah WK pe (aq [(1,.ref (ba J)),(2,.int .i64 a2),(7,.aM (eh U)),(8,.int .i64 (U.cO.length:Int)),(102,.bool E0)]):=by
        intro E0 h;refine aF h (λhD h=>?_) (λhD h=>?_)
        .refine ws _ ?_;exact aw (kl _ (.inl (ay [.int .i64 6])))
        .refine aJ (kk _ (.inl ?_));obtain⟨aK,hZ,h⟩:=ao h;refine cB (Qi J a2 _ hZ) _ ?_;refine az ai (λxB oc nI lb=>?_);refine mT (U.Kind==4) [(7,.aM (eh U)),(8,.int .i64 (U.cO.length:Int)),(9,.int .i64 aK),(112,.bool ((U.Kind==4)&&(decide (6<=aK))))] ?_;refine aF h (λh0 h=>?_) (λh0 h=>?_)
         .refine ws _ ?_;exact aw (nI _ (.inl (ay [.int .i64 7])))
         .refine aJ (oc _ (.inl ?_));refine az ai (λGg sO ru pH=>?_);refine ws _ ?_;refine bn ru (λJ3 Qc Ge jY zc=>?_);have Qj:∀n tM tN,xh U n tM tN=some r->cX ah WL J3 (aq [(7,.aM (eh U)),(8,.int .i64 (U.cO.length:Int)),(9,.int .i64 tM),(10,.int .i64 tN)]):=by
           refine dd (λxE Qk tM tN h=>dc Ge (λCA pQ pR vI=>?_));refine az pR (λGh sP xF zz=>?_);refine ws _ ?_;refine aF h (λGi h=>?_) (λGi h=>?_)
           .refine aJ (sP _ (.inl ?_));refine az pR (λQl J8 Gj XN=>?_);refine bn Gj (λJ9 zA xG aly J_=>?_);obtain⟨a_,pf,h⟩:=ao h;obtain⟨bo,qx,h⟩:=ao h;refine eH pf (alw a_ tM 15 _ qx) _ ?_;refine aF h (λGk h=>?_) (λGk h=>?_)
            .refine ws _ ?_;exact aw (xG _ (.inl (ay [.int .i64 8])))
            .refine aJ (zA _ (J8 _ (.inl ?_)));refine wr _ ?_;exact pQ _ (.inr ⟨_,aY rfl,Qk tM (i64.wrap (tN+1)) h⟩)
           .refine c7 (zz 1 _ (vI 1 _ (jY _ (sO _ (.inl ?_)))));refine ws _ ?_;exact aw (ai _ (.inl (ay [.int .i64 0])))
          obtain⟨n,h⟩:=cS h;exact db (.inr ⟨_,aY rfl,Qj n aK 0 h⟩)
       rcases dr h with⟨zB,h⟩|⟨zB,h⟩
       .rcases dr h with⟨uF,h⟩|⟨uF,h⟩
        .refine lY (cI (K:=eJ _) [(1,.ref (ba J)),(2,.int .i64 a2),(7,.aM (eh U)),(8,.int .i64 (U.cO.length:Int)),(102,.bool true)] (λP bu=>?_) ?_)
         .simp only[aT.down,simprocAttr,zB,uF];exact cc (R zB uF)
         exact .inr ⟨_,aY rfl,zy true h⟩
        .obtain⟨bD,CB,h⟩:=ao h;refine lY (cI (K:=eJ _) [(1,.ref (ba J)),(2,.int .i64 a2),(7,.aM (eh U)),(8,.int .i64 (U.cO.length:Int)),(102,.bool (bD.Kind !=1))] (λP bu=>?_) ?_)
         .simp only[aT.down,simprocAttr,zB,uF,CB];exact cc (R zB (R uF CB))
         exact .inr ⟨_,aY rfl,zy (bD.Kind !=1) h⟩
       .refine lY (cI (K:=eJ _) [(1,.ref (ba J)),(2,.int .i64 a2),(7,.aM (eh U)),(8,.int .i64 (U.cO.length:Int)),(102,.bool false)] (λP bu=>?_) ?_)
        .simp only[aT.down,simprocAttr,zB];exact cc zB
        exact .inr ⟨_,aY rfl,zy false h⟩
      refine az ai (λsN kX mU hV=>?_);refine ws _ ?_;refine bn mU (λGl pS qy Gm CC=>?_);refine ws _ ?_;refine aF h (λQm h=>?_) (λQm h=>?_)
      .refine eQ (cI [(1,.ref (ba J)),(2,.int .i64 a2),(7,.aM (eh U)),(8,.int .i64 (U.cO.length:Int)),(69,.bool ((decide (2<(U.cO.length:Int)))||((decide (0<(U.cO.length:Int)))&&(U.Name==([116,97,117]:axa)))))] (λP bu=>?_) ?_)
       ·(rcases Bool.eq_false_or_eq_true (decide (2<(U.cO.length:Int)))with Qn|Qn)<;>(rcases Bool.eq_false_or_eq_true (decide (0<(U.cO.length:Int)))with Qo|Qo)<;>
         (simp only[aT.down,simprocAttr,Qn,Qo]
          exact cc (R Qn Qo))
       refine aF h (λalz h=>?_) (λalz h=>?_)
       .refine ws _ ?_;exact aw (qy _ (.inl (ay [.int .i64 5])))
       .exact aJ (pS _ (kX _ (.inr ⟨_,aY rfl,J7 h⟩)))
      .refine ws _ ?_;refine aF h (λKa h=>?_) (λKa h=>?_)
       .refine ws _ ?_;refine aF h (λKb h=>?_) (λKb h=>?_)
        .refine ws _ ?_;exact aw (qy _ (.inl (ay [.int .i64 5])))
        .exact aJ (pS _ (kX _ (.inr ⟨_,aY rfl,J7 h⟩)))
       .refine ws _ ?_;refine aF h (λzC h=>?_) (λzC h=>?_)
        .obtain⟨bj,Qp,h⟩:=ao h;refine c1 Qp _ ?_;refine aF h (λalA h=>?_) (λalA h=>?_)
         .refine ws _ ?_;exact aw (qy _ (.inl (ay [.int .i64 5])))
         .exact aJ (pS _ (kX _ (.inr ⟨_,aY rfl,J7 h⟩)))
        .exact aJ (pS _ (kX _ (.inr ⟨_,aY rfl,J7 h⟩)))
    rcases dr h with⟨nJ,h⟩|⟨nJ,h⟩
    .obtain⟨cu,Qq,h⟩:=ao h;rcases dr h with⟨qz,h⟩|⟨qz,h⟩
     .refine lY (cI (K:=eJ _) [(0,.slice (a0.map ba)),(1,.ref (ba J)),(2,.int .i64 a2),(7,.aM (eh U)),(51,.bool true)] (λP bu=>?_) ?_)
      ·(try simp only[aT.down,simprocAttr,nJ,(hb qz)]);refine iN (pd U.Number 1 7 _ Qq) rfl rfl rfl rfl (.inl (by rfl)) ?_;simp only[aT.down,simprocAttr,nJ,(hb qz)];exact cc (R nJ (hb qz))
      exact .inr ⟨_,aY rfl,Gf true h⟩
     .rcases dr h with⟨xH,h⟩|⟨xH,h⟩
      .obtain⟨ch,xI,h⟩:=ao h;refine lY (cI (K:=eJ _) [(0,.slice (a0.map ba)),(1,.ref (ba J)),(2,.int .i64 a2),(7,.aM (eh U)),(51,.bool (!ch))] (λP bu=>?_) ?_)
       ·(try simp only[aT.down,simprocAttr,nJ,(b1 qz),xH]);refine iN (pd U.Number 1 7 _ Qq) rfl rfl rfl rfl (.inl (by rfl)) ?_;simp only[aT.down,simprocAttr,nJ,(b1 qz),xH];refine iN (pd U.Number 0 (i64.wrap ((a0.length:Int)-1)) _ xI) rfl rfl rfl rfl (.inl (by rfl)) ?_;simp only[aT.down,simprocAttr,nJ,(b1 qz),xH];exact cc (R nJ (R (b1 qz) xH))
       exact .inr ⟨_,aY rfl,Gf (!ch) h⟩
      .refine lY (cI (K:=eJ _) [(0,.slice (a0.map ba)),(1,.ref (ba J)),(2,.int .i64 a2),(7,.aM (eh U)),(51,.bool false)] (λP bu=>?_) ?_)
       ·(try simp only[aT.down,simprocAttr,nJ,(b1 qz),xH]);refine iN (pd U.Number 1 7 _ Qq) rfl rfl rfl rfl (.inl (by rfl)) ?_;simp only[aT.down,simprocAttr,nJ,(b1 qz),xH];exact cc (R nJ (R (b1 qz) xH))
       exact .inr ⟨_,aY rfl,Gf false h⟩
    .rcases dr h with⟨CD,h⟩|⟨CD,h⟩
     .obtain⟨cv,Qr,h⟩:=ao h;refine lY (cI (K:=eJ _) [(0,.slice (a0.map ba)),(1,.ref (ba J)),(2,.int .i64 a2),(7,.aM (eh U)),(51,.bool (!cv))] (λP bu=>?_) ?_)
      ·(try simp only[aT.down,simprocAttr,nJ,CD]);refine iN (pd U.Number 0 (i64.wrap ((a0.length:Int)-1)) _ Qr) rfl rfl rfl rfl (.inl (by rfl)) ?_;simp only[aT.down,simprocAttr,nJ,CD];exact cc (R nJ CD)
      exact .inr ⟨_,aY rfl,Gf (!cv) h⟩
     .refine lY (cI (K:=eJ _) [(0,.slice (a0.map ba)),(1,.ref (ba J)),(2,.int .i64 a2),(7,.aM (eh U)),(51,.bool false)] (λP bu=>?_) ?_)
      .simp only[aT.down,simprocAttr,nJ,CD];exact cc (R nJ CD)
      exact .inr ⟨_,aY rfl,Gf false h⟩
  rcases dr h with⟨zD,h⟩|⟨zD,h⟩
  .obtain⟨dP,alB,h⟩:=ao h;refine lY (cI (K:=eJ _) [(0,.slice (a0.map ba)),(1,.ref (ba J)),(2,.int .i64 a2),(7,.aM (eh U)),(28,.bool (!dP))] (λP bu=>?_) ?_)
   ·(try simp only[aT.down,simprocAttr,zD]);refine iN (Cz U.Name _ alB) rfl rfl rfl rfl (.inl (by rfl)) ?_;simp only[aT.down,simprocAttr,zD];exact cc zD
   exact .inr ⟨_,aY rfl,XM (!dP) h⟩
  .refine lY (cI (K:=eJ _) [(0,.slice (a0.map ba)),(1,.ref (ba J)),(2,.int .i64 a2),(7,.aM (eh U)),(28,.bool false)] (λP bu=>?_) ?_)
   .simp only[aT.down,simprocAttr,zD];exact cc zD
   exact .inr ⟨_,aY rfl,XM false h⟩
theorem alC (a0 J r) (h:vj a0 J=some r):aV ah 113 [.slice (a0.map ba),.ref (ba J)] (.tuple [.int .i64 r.1,.int .i64 r.2]) []:=by
 refine bA [0,1] [.tmp 4,.tmp 5] Tryz.func113 aik (λbt ai bq=>?_);refine ws _ ?_;refine az ai (λdJ bL bf af=>?_);obtain⟨U,bW,h⟩:=ao h;refine cB (als J.Body _ bW) _ ?_;refine aF h (λcP h=>?_) (λcP h=>?_)
 .refine ws _ ?_;exact aw (bf _ (.inl (ay [.int .i64 0,.int .i64 1])))
 .refine aJ (bL _ (.inl ?_));refine az ai (λgu dx dE bj=>?_);refine ws _ ?_;refine bn dE (λek cE cd eR ch=>?_);show bk ah (.loop ?gU) _ _;have ho:∀n qg,vi a0 J n qg=some r->cX ah ?gU ek (aq [(0,.slice (a0.map ba)),(1,.ref (ba J)),(6,.int .i64 qg)]):=by
   refine dd (λm14 gW qg h=>dc cd (λe0 cf cn cv=>?_));refine az cn (λhY eK fL dP=>?_);refine ws _ ?_;refine aF h (λeX h=>?_) (λeX h=>?_)
   .refine aJ (eK _ (.inl ?_));refine az cn (λhv ez ee eZ=>?_);refine bn ee (λkF gd gj dY ft=>?_);obtain⟨af,dL,h⟩:=ao h;refine cB (alx a0 J qg _ dL) _ ?_;refine ws _ ?_;refine aF h (λgg h=>?_) (λgg h=>?_)
    .refine ws _ ?_;exact aw (gj _ (.inl (ay [.int .i64 qg,.int .i64 af])))
    .refine aJ (gd _ (ez _ (.inl ?_)));refine wr _ ?_;exact cf _ (.inr ⟨_,aY rfl,gW (i64.wrap (qg+1)) h⟩)
   .refine c7 (dP 0 _ (cv 0 _ (eR _ (dx _ (.inl ?_)))));refine ws _ ?_;exact aw (ai _ (.inl (ay [.int .i64 0,.int .i64 0])))
  obtain⟨n,h⟩:=cS h;exact db (.inr ⟨_,aY rfl,ho n 0 h⟩)
theorem alD (a0 r) (h:Iw a0=some r):aV ah 75 [.slice (a0.map ba)] (.bool r) []:=by
 refine bA [0] [.tmp 2] Tryz.func75 c75 (λbt ai bq=>?_);refine ws _ ?_;refine az ai (λdJ bL bf af=>?_);refine mT ((a0.length:Int)==0) [(0,.slice (a0.map ba)),(15,.bool (((a0.length:Int)==0)||(decide (4<(a0.length:Int)))))] ?_;refine aF h (λbU h=>?_) (λbU h=>?_)
 .refine ws _ ?_;exact aw (bf _ (.inl (ay [.bool false])))
 .refine aJ (bL _ (.inl ?_));refine az ai (λeA cR cH bD=>?_);refine ws _ ?_;refine bn cH (λgk gf fY cy cu=>?_);show bk ah (.loop ?gU) _ _;have ho:∀n eU,vk a0 n eU=some r->cX ah ?gU gk (aq [(0,.slice (a0.map ba)),(3,.int .i64 eU)]):=by
   refine dd (λm14 gW eU h=>dc fY (λek cE cd ch=>?_));refine az cd (λe0 cf cn cv=>?_);refine ws _ ?_;refine aF h (λeE h=>?_) (λeE h=>?_)
   .refine aJ (cf _ (.inl ?_));refine az cd (λkG fE fp hG=>?_);refine bn fp (λhv ez ee fw eZ=>?_);refine az ee (λkF gd gj ft=>?_);obtain⟨U,dL,h⟩:=ao h;obtain⟨af,e4,h⟩:=ao h;rcases dr h with⟨gg,h⟩|⟨gg,h⟩
    .refine eH (R dL (hb gg)) (Cz U.Name _ e4) _ ?_;refine iM rfl ?_;refine ws _ ?_;exact aw (gj _ (.inl (ay [.bool false])))
    .obtain⟨aK,hZ,h⟩:=ao h;refine eQ (cI [(0,.slice (a0.map ba)),(3,.int .i64 eU),(37,.bool (!aK))] (λP bu=>?_) ?_)
     ·(try simp only[aT.down,simprocAttr,dL,(b1 gg)]);refine dR (Cz U.Name _ e4) rfl rfl rfl rfl (.inl (by rfl)) ?_;simp only[aT.down,simprocAttr,dL,(b1 gg)];refine iN (pd U.ej 0 3 _ hZ) rfl rfl rfl rfl (.inl (by rfl)) ?_;simp only[aT.down,simprocAttr,dL,(b1 gg)];exact cc (R dL (b1 gg))
     refine aF h (λxD h=>?_) (λxD h=>?_)
     .refine ws _ ?_;exact aw (gj _ (.inl (ay [.bool false])))
     .refine aJ (gd _ (.inl ?_));refine ws _ ?_;refine bn ee (λxJ sQ oF qA qj=>?_);show bk ah (.loop ?Gc) _ _;have Qs:∀n q0 tP,Bh (vk a0 m14) a0 n q0 tP=some r->cX ah ?Gc xJ (aq [(0,.slice (a0.map ba)),(3,.int .i64 q0),(4,.int .i64 tP)]):=by
       refine dd (λalE Qt q0 tP h=>dc oF (λGg sO ru pH=>?_));refine az ru (λXO Gn XP tW=>?_);refine ws _ ?_;refine aF h (λh_ h=>?_) (λh_ h=>?_)
       .refine aJ (Gn _ (.inl ?_));refine az ru (λGh sP xF zz=>?_);refine bn xF (λalF Qu Qv gX alG=>?_);obtain⟨a_,pT,h⟩:=ao h;obtain⟨bo,jI,h⟩:=ao h;refine oE (R pT jI) _ ?_;refine aF h (λzE h=>?_) (λzE h=>?_)
        .refine ws _ ?_;exact aw (Qv _ (.inl (ay [.bool false])))
        .refine aJ (Qu _ (sP _ (.inl ?_)));refine wr _ ?_;exact sO _ (.inr ⟨_,aY rfl,Qt q0 (i64.wrap (tP+1)) h⟩)
       .refine c7 (tW 2 _ (pH 2 _ (qA _ (ez _ (fE _ (.inl ?_))))));refine wr _ ?_;exact cE _ (.inr ⟨_,aY rfl,gW (i64.wrap (q0+1)) h⟩)
      obtain⟨n,h⟩:=cS h;exact db (.inr ⟨_,aY rfl,Qs n eU 0 h⟩)
   .refine c7 (cv 0 _ (ch 0 _ (cy _ (cR _ (.inl ?_)))));refine az ai (λQw vJ xK Kc=>?_);refine ws _ ?_;refine bn xK (λxL uG sR vK CE=>?_);show bk ah (.loop ?PV) _ _;have Gp:∀n tQ,yX a0 n tQ=some r->cX ah ?PV xL (aq [(0,.slice (a0.map ba)),(5,.int .i64 tQ)]):=by
     refine dd (λQx Gq tQ h=>dc sR (λQy zF vL zG=>?_));refine az vL (λalH Qz XQ XR=>?_);refine ws _ ?_;refine aF h (λzH h=>?_) (λzH h=>?_)
     .refine aJ (Qz _ (.inl ?_));refine az vL (λGr xM vM Kd=>?_);refine bn vM (λGl pS qy Gm CC=>?_);obtain⟨bD,sS,h⟩:=ao h;obtain⟨bj,Gs,h⟩:=ao h;refine eH sS (alC a0 bD _ Gs) _ ?_;refine ws _ ?_;refine aF h (λKe h=>?_) (λKe h=>?_)
      .refine ws _ ?_;exact aw (qy _ (.inl (ay [.bool false])))
      .refine aJ (pS _ (xM _ (.inl ?_)));refine wr _ ?_;exact zF _ (.inr ⟨_,aY rfl,Gq (i64.wrap (tQ+1)) h⟩)
     .refine c7 (XR 4 _ (zG 4 _ (vK _ (vJ _ (.inl ?_)))));refine ws _ ?_;exact aw (ai _ (.inl (ay [.bool true])))
    obtain⟨n,h⟩:=cS h;exact db (.inr ⟨_,aY rfl,Gp n 0 h⟩)
  obtain⟨n,h⟩:=cS h;exact db (.inr ⟨_,aY rfl,ho n 0 h⟩)
theorem XS (a0 r) (h:E4 a0=some r):aV ah 81 [.slice (a0.map a1)] (.bool r) []:=by
 refine bA [0] [.tmp 2] Tryz.func81 ail (λbt ai bq=>?_);refine ws _ ?_;refine az ai (λdJ bL bf af=>?_);refine ws _ ?_;refine bn bf (λei dS bR bU a_=>?_);show bk ah (.loop ?fP) _ _;have gK:∀n im,Bi a0 n im=some r->cX ah ?fP ei (aq [(0,.slice (a0.map a1)),(3,.int .i64 im)]):=by
  refine dd (λm6 fM im h=>dc bR (λgR dZ df bo=>?_));refine az df (λeA cR cH bD=>?_);refine ws _ ?_;refine aF h (λcy h=>?_) (λcy h=>?_)
  .refine aJ (cR _ (.inl ?_));refine az df (λek cE cd ch=>?_);refine bn cd (λe0 cf cn dX cv=>?_);obtain⟨U,e1,h⟩:=ao h;obtain⟨af,fi,h⟩:=ao h;refine eH e1 (pd U 0 63 _ fi) _ ?_;refine aF h (λfw h=>?_) (λfw h=>?_)
   .refine ws _ ?_;exact aw (cn _ (.inl (ay [.bool false])))
   .refine aJ (cf _ (cE _ (.inl ?_)));refine wr _ ?_;exact dZ _ (.inr ⟨_,aY rfl,fM (i64.wrap (im+1)) h⟩)
  .refine c7 (bD 0 _ (bo 0 _ (bU _ (bL _ (.inl ?_)))));refine ws _ ?_;exact aw (ai _ (.inl (ay [.bool true])))
 obtain⟨n,h⟩:=cS h;exact db (.inr ⟨_,aY rfl,gK n 0 h⟩)
theorem alI (a0 r) (h:Ix a0=some r):aV ah 76 [.ref (fe a0)] (.bool r) []:=by
 refine bA [0] [.tmp 2] Tryz.func76 c76 (λbt ai bq=>?_);refine ws _ ?_;refine az ai (λdJ bL bf af=>?_);refine mT ((a0.b_.length:Int)==0) [(0,.ref (fe a0)),(18,.bool (((a0.b_.length:Int)==0)||(decide (3<(a0.b_.length:Int)))))] ?_;refine aF h (λbU h=>?_) (λbU h=>?_)
 .refine ws _ ?_;exact aw (bf _ (.inl (ay [.bool false])))
 .refine aJ (bL _ (.inl ?_));refine az ai (λeA cR cH bD=>?_);refine ws _ ?_;refine bn cH (λgk gf fY cy cu=>?_);show bk ah (.loop ?gU) _ _;have ho:∀n eU,Bj a0 n eU=some r->cX ah ?gU gk (aq [(0,.ref (fe a0)),(3,.int .i64 eU)]):=by
   refine dd (λm14 gW eU h=>dc fY (λek cE cd ch=>?_));refine az cd (λe0 cf cn cv=>?_);refine ws _ ?_;refine aF h (λeE h=>?_) (λeE h=>?_)
   .refine aJ (cf _ (.inl ?_));refine az cd (λkG fE fp hG=>?_);refine bn fp (λhv ez ee fw eZ=>?_);obtain⟨U,cC,h⟩:=ao h;refine c1 cC _ ?_;refine az ee (λpe kk kl jD=>?_);obtain⟨af,gB,h⟩:=ao h;refine ak1 (pd U.cD 0 (i64.wrap ((a0.cq.length:Int)-1)) _ gB) _ ?_;refine aF h (λfX h=>?_) (λfX h=>?_)
    .refine ws _ ?_;exact aw (kl _ (.inl (ay [.bool false])))
    .refine aJ (kk _ (.inl ?_));obtain⟨aK,jm,h⟩:=ao h;rcases dr h with⟨h0,h⟩|⟨h0,h⟩
     .refine oE (R jm h0) _ ?_;refine iM rfl ?_;refine ws _ ?_;exact aw (ee _ (.inl (ay [.bool false])))
     .obtain⟨a_,sT,h⟩:=ao h;refine mr (R jm h0) (XS U.bV _ sT) _ ?_;refine aF h (λnm h=>?_) (λnm h=>?_)
      .refine ws _ ?_;exact aw (ee _ (.inl (ay [.bool false])))
      .refine aJ (ez _ (fE _ (.inl ?_)));refine wr _ ?_;exact cE _ (.inr ⟨_,aY rfl,gW (i64.wrap (eU+1)) h⟩)
   .refine c7 (cv 0 _ (ch 0 _ (cy _ (cR _ (.inl ?_)))));refine ws _ ?_;exact aw (ai _ (.inl (ay [.bool true])))
  obtain⟨n,h⟩:=cS h;exact db (.inr ⟨_,aY rfl,ho n 0 h⟩)
theorem rv (a0 r) (h:tR a0=some r):aV ah 88 [.str a0] (.bool r) []:=by
 refine bA [0] [.tmp 2] Tryz.func88 aim (λbt ai bq=>?_);refine ws _ ?_;obtain⟨U,aR,h⟩:=ao h;refine eQ (cI [(2,.bool (U&&(!(a0==([116,97,117]:axa)))))] (λP bu=>?_) ?_)
 .rcases Bool.eq_false_or_eq_true (U)with mF|mF
  ·(try simp only[aT.down,simprocAttr,mF]);refine dR (Cz a0 _ aR) rfl rfl rfl rfl (.inl (by rfl)) ?_;simp only[aT.down,simprocAttr,mF];exact cc mF
  ·(try simp only[aT.down,simprocAttr,mF]);refine dR (Cz a0 _ aR) rfl rfl rfl rfl (.inl (by rfl)) ?_;simp only[aT.down,simprocAttr,mF];exact cc mF
 exact aw (ai _ (.inl (ay [.bool (U&&(!(a0==([116,97,117]:axa))))])))
theorem alJ (a0 r) (h:Iy a0=some r):aV ah 77 [.slice (a0.map bQ)] (.bool r) []:=by
 refine bA [0] [.tmp 2] Tryz.func77 ain (λbt ai bq=>?_);refine ws _ ?_;refine az ai (λdJ bL bf af=>?_);refine ws _ ?_;refine aF h (λbU h=>?_) (λbU h=>?_)
 .refine ws _ ?_;exact aw (bf _ (.inl (ay [.bool false])))
 .refine aJ (bL _ (.inl ?_));refine az ai (λeA cR cH bD=>?_);refine ws _ ?_;refine bn cH (λgk gf fY cy cu=>?_);show bk ah (.loop ?gU) _ _;have ho:∀n eU,so a0 n eU=some r->cX ah ?gU gk (aq [(0,.slice (a0.map bQ)),(3,.int .i64 eU)]):=by
   refine dd (λm14 gW eU h=>dc fY (λek cE cd ch=>?_));refine az cd (λe0 cf cn cv=>?_);refine ws _ ?_;refine aF h (λeE h=>?_) (λeE h=>?_)
   .refine aJ (cf _ (.inl ?_));refine az cd (λkG fE fp hG=>?_);refine bn fp (λhv ez ee fw eZ=>?_);obtain⟨U,cC,h⟩:=ao h;refine c1 cC _ ?_;refine az ee (λpe kk kl jD=>?_);obtain⟨af,gB,h⟩:=ao h;rcases dr h with⟨fX,h⟩|⟨fX,h⟩
    .refine eH (hb fX) (rv U.Left _ gB) _ ?_;refine iM rfl ?_;refine ws _ ?_;exact aw (kl _ (.inl (ay [.bool false])))
    .obtain⟨aK,gJ,h⟩:=ao h;rcases dr h with⟨fZ,h⟩|⟨fZ,h⟩
     .refine eQ (cI [(0,.slice (a0.map bQ)),(3,.int .i64 eU),(4,.aM (bQ U)),(41,.bool true)] (λP bu=>?_) ?_)
      ·(try simp only[aT.down,simprocAttr,(b1 fX),(hb fZ)]);refine dR (rv U.Left _ gB) rfl rfl rfl rfl (.inl (by rfl)) ?_;simp only[aT.down,simprocAttr,(b1 fX),(hb fZ)];refine iN (rv U.cQ _ gJ) rfl rfl rfl rfl (.inl (by rfl)) ?_;simp only[aT.down,simprocAttr,(b1 fX),(hb fZ)];exact cc (R (b1 fX) (hb fZ))
      refine iM rfl ?_;refine ws _ ?_;exact aw (kl _ (.inl (ay [.bool false])))
     .obtain⟨a_,ir,h⟩:=ao h;refine eQ (cI [(0,.slice (a0.map bQ)),(3,.int .i64 eU),(4,.aM (bQ U)),(41,.bool ((!a_)||(!(Op.bytesLess U.Left U.cQ||U.Left==U.cQ))))] (λP bu=>?_) ?_)
      .rcases Bool.eq_false_or_eq_true (a_)with sU|sU
       ·(try simp only[aT.down,simprocAttr,(b1 fX),(b1 fZ),sU]);refine dR (rv U.Left _ gB) rfl rfl rfl rfl (.inl (by rfl)) ?_;simp only[aT.down,simprocAttr,(b1 fX),(b1 fZ),sU];refine iN (rv U.cQ _ gJ) rfl rfl rfl rfl (.inl (by rfl)) ?_;simp only[aT.down,simprocAttr,(b1 fX),(b1 fZ),sU];refine iN (rv U.Result _ ir) rfl rfl rfl rfl (.inl (by rfl)) ?_;simp only[aT.down,simprocAttr,(b1 fX),(b1 fZ),sU];exact cc (R (b1 fX) (R (b1 fZ) sU))
       ·(try simp only[aT.down,simprocAttr,(b1 fX),(b1 fZ),sU]);refine dR (rv U.Left _ gB) rfl rfl rfl rfl (.inl (by rfl)) ?_;simp only[aT.down,simprocAttr,(b1 fX),(b1 fZ),sU];refine iN (rv U.cQ _ gJ) rfl rfl rfl rfl (.inl (by rfl)) ?_;simp only[aT.down,simprocAttr,(b1 fX),(b1 fZ),sU];refine iN (rv U.Result _ ir) rfl rfl rfl rfl (.inl (by rfl)) ?_;simp only[aT.down,simprocAttr,(b1 fX),(b1 fZ),sU];exact cc (R (b1 fX) (R (b1 fZ) sU))
      refine aF h (λnm h=>?_) (λnm h=>?_)
      .refine ws _ ?_;exact aw (kl _ (.inl (ay [.bool false])))
      .refine aJ (kk _ (.inl ?_));refine az ee (λCA pQ pR vI=>?_);rcases dr h with⟨gX,h⟩|⟨gX,h⟩
       .obtain⟨bo,sV,h⟩:=ao h;refine i1 rfl (ig [(0,.slice (a0.map bQ)),(3,.int .i64 eU),(4,.aM (bQ U)),(76,.bool ((!(Op.bytesLess bo.Left U.Left||bo.Left==U.Left))||((bo.Left==U.Left)&&(!(Op.bytesLess bo.cQ U.cQ)))))] (λP bu=>?_) ?_)
        ·(rcases Bool.eq_false_or_eq_true (Op.bytesLess bo.Left U.Left)with QA|QA)<;>(rcases Bool.eq_false_or_eq_true (bo.Left==U.Left)with QB|QB)<;>
          (simp only[cV.down,simprocAttr,gX,sV,QA,QB]
           refine⟨hF (by kernel_rfl),?_⟩;exact cc (R gX (R sV (R QA QB))))
        refine aF h (λzE h=>?_) (λzE h=>?_)
        .refine ws _ ?_;exact aw (pR _ (.inl (ay [.bool false])))
        .refine aJ (pQ _ (.inl ?_));refine ws _ ?_;refine bn ee (λXT XU QC Gk alK=>?_);show bk ah (.loop ?Gb) _ _;have QD:∀n nD n4,vl (so a0 m14) a0 U n nD n4=some r->cX ah ?Gb XT (aq [(0,.slice (a0.map bQ)),(3,.int .i64 nD),(4,.aM (bQ U)),(5,.int .i64 n4)]):=by
          refine dd (λalL QE nD n4 h=>dc QC (λQw vJ xK Kc=>?_));refine az xK (λXV XW XX XY=>?_);refine ws _ ?_;refine aF h (λalM h=>?_) (λalM h=>?_)
          .refine aJ (XW _ (.inl ?_));refine az xK (λalH Qz XQ XR=>?_);refine bn XQ (λQF xN Kf uF CF=>?_);obtain⟨bD,alN,h⟩:=ao h;refine Xt (bD.Left==U.Result) alN [(0,.slice (a0.map bQ)),(3,.int .i64 nD),(4,.aM (bQ U)),(5,.int .i64 n4),(100,.bool ((bD.Left==U.Result)||(bD.cQ==U.Result)))] ?_;refine aF h (λGm h=>?_) (λGm h=>?_)
           .refine ws _ ?_;exact aw (Kf _ (.inl (ay [.bool false])))
           .refine aJ (xN _ (Qz _ (.inl ?_)));refine wr _ ?_;exact vJ _ (.inr ⟨_,aY rfl,QE nD (i64.wrap (n4+1)) h⟩)
          .refine c7 (XY 2 _ (Kc 2 _ (Gk _ (ez _ (fE _ (.inl ?_))))));refine wr _ ?_;exact cE _ (.inr ⟨_,aY rfl,gW (i64.wrap (nD+1)) h⟩)
         obtain⟨n,h⟩:=cS h;exact db (.inr ⟨_,aY rfl,QD n eU 0 h⟩)
       .refine oE gX _ ?_;refine nW rfl ?_;refine aJ (pQ _ (.inl ?_));refine ws _ ?_;refine bn ee (λQG Kg QH Ke QI=>?_);show bk ah (.loop ?Gb) _ _;have QD:∀n nD n4,vl (so a0 m14) a0 U n nD n4=some r->cX ah ?Gb QG (aq [(0,.slice (a0.map bQ)),(3,.int .i64 nD),(4,.aM (bQ U)),(5,.int .i64 n4)]):=by
         refine dd (λalL QE nD n4 h=>dc QH (λavC alO XZ alP=>?_));refine az XZ (λavD alQ avE alR=>?_);refine ws _ ?_;refine aF h (λKa h=>?_) (λKa h=>?_)
         .refine aJ (alQ _ (.inl ?_));refine az XZ (λavF alS alT avG=>?_);refine bn alT (λavH alU alV Kb avI=>?_);obtain⟨bj,sW,h⟩:=ao h;refine Xt (bj.Left==U.Result) sW [(0,.slice (a0.map bQ)),(3,.int .i64 nD),(4,.aM (bQ U)),(5,.int .i64 n4),(100,.bool ((bj.Left==U.Result)||(bj.cQ==U.Result)))] ?_;refine aF h (λzC h=>?_) (λzC h=>?_)
          .refine ws _ ?_;exact aw (alV _ (.inl (ay [.bool false])))
          .refine aJ (alU _ (alS _ (.inl ?_)));refine wr _ ?_;exact alO _ (.inr ⟨_,aY rfl,QE nD (i64.wrap (n4+1)) h⟩)
         .refine c7 (alR 2 _ (alP 2 _ (Ke _ (ez _ (fE _ (.inl ?_))))));refine wr _ ?_;exact cE _ (.inr ⟨_,aY rfl,gW (i64.wrap (nD+1)) h⟩)
        obtain⟨n,h⟩:=cS h;exact db (.inr ⟨_,aY rfl,QD n eU 0 h⟩)
   .refine c7 (cv 0 _ (ch 0 _ (cy _ (cR _ (.inl ?_)))));refine ws _ ?_;exact aw (ai _ (.inl (ay [.bool true])))
  obtain⟨n,h⟩:=cS h;exact db (.inr ⟨_,aY rfl,ho n 0 h⟩)
theorem alW (a0 r) (h:Iz a0=some r):aV ah 114 [.slice (a0.map aW)] (.bool r) []:=by
 refine bA [0] [.tmp 2] Tryz.func114 aio (λbt ai bq=>?_);refine ws _ ?_;refine az ai (λdJ bL bf af=>?_);refine ws _ ?_;refine bn bf (λei dS bR bU a_=>?_);show bk ah (.loop ?fP) _ _;have gK:∀n im,Bk a0 n im=some r->cX ah ?fP ei (aq [(0,.slice (a0.map aW)),(3,.int .i64 im)]):=by
  refine dd (λm6 fM im h=>dc bR (λgR dZ df bo=>?_));refine az df (λeA cR cH bD=>?_);refine ws _ ?_;refine aF h (λcy h=>?_) (λcy h=>?_)
  .refine aJ (cR _ (.inl ?_));refine az df (λek cE cd ch=>?_);refine bn cd (λe0 cf cn dX cv=>?_);obtain⟨U,e1,h⟩:=ao h;obtain⟨af,fi,h⟩:=ao h;refine eH e1 (rv U _ fi) _ ?_;refine aF h (λfw h=>?_) (λfw h=>?_)
   .refine ws _ ?_;exact aw (cn _ (.inl (ay [.bool false])))
   .refine aJ (cf _ (cE _ (.inl ?_)));refine wr _ ?_;exact dZ _ (.inr ⟨_,aY rfl,fM (i64.wrap (im+1)) h⟩)
  .refine c7 (bD 0 _ (bo 0 _ (bU _ (bL _ (.inl ?_)))));refine ws _ ?_;exact aw (ai _ (.inl (ay [.bool true])))
 obtain⟨n,h⟩:=cS h;exact db (.inr ⟨_,aY rfl,gK n 0 h⟩)
theorem X0 (a0 r) (h:E5 a0=some r):aV ah 78 [.slice (a0.map aW)] (.bool r) []:=by
 refine bA [0] [.tmp 2] Tryz.func78 aip (λbt ai bq=>?_);refine ws _ ?_;refine az ai (λdJ bL bf af=>?_);rcases dr h with⟨bU,h⟩|⟨bU,h⟩
 .refine c1 bU _ ?_;refine iM rfl ?_;refine ws _ ?_;exact aw (bf _ (.inl (ay [.bool false])))
 .obtain⟨U,cg,h⟩:=ao h;refine eH bU (alW a0 _ cg) _ ?_;refine aF h (λp8 h=>?_) (λp8 h=>?_)
  .refine ws _ ?_;exact aw (bf _ (.inl (ay [.bool false])))
  .refine aJ (bL _ (.inl ?_));refine az ai (λek cE cd ch=>?_);refine ws _ ?_;refine bn cd (λhY eK fL lJ dP=>?_);show bk ah (.loop ?gU) _ _;have ho:∀n eU,q1 a0 n eU=some r->cX ah ?gU hY (aq [(0,.slice (a0.map aW)),(3,.int .i64 eU)]):=by
    refine dd (λm14 gW eU h=>dc fL (λlh gV iE gz=>?_));refine az iE (λkG fE fp hG=>?_);refine ws _ ?_;refine aF h (λdY h=>?_) (λdY h=>?_)
    .refine aJ (fE _ (.inl ?_));refine az iE (λsN kX mU hV=>?_);refine bn mU (λpe kk kl kj jD=>?_);obtain⟨af,gB,h⟩:=ao h;obtain⟨aK,gL,h⟩:=ao h;refine oE (R gB gL) _ ?_;refine aF h (λsX h=>?_) (λsX h=>?_)
     .refine ws _ ?_;exact aw (kl _ (.inl (ay [.bool false])))
     .refine aJ (kk _ (kX _ (.inl ?_)));refine wr _ ?_;exact gV _ (.inr ⟨_,aY rfl,gW (i64.wrap (eU+1)) h⟩)
    .refine c7 (hG 0 _ (gz 0 _ (lJ _ (cE _ (.inl ?_)))));refine ws _ ?_;exact aw (ai _ (.inl (ay [.bool true])))
   obtain⟨n,h⟩:=cS h;exact db (.inr ⟨_,aY rfl,ho n 1 h⟩)
theorem alX (a0 r) (h:IB a0=some r):aV ah 54 [.ref (fe a0)] (.int .i64 r) []:=by
 refine bA [0] [.tmp 2] Tryz.func54 aiq (λbt ai bq=>?_);refine ws _ ?_;refine az ai (λdJ bL bf af=>?_);obtain⟨U,bW,h⟩:=ao h;refine cB (alD a0.cq _ bW) _ ?_;refine aF h (λcP h=>?_) (λcP h=>?_)
 .refine ws _ ?_;exact aw (bf _ (.inl (ay [.int .i64 1])))
 .refine aJ (bL _ (.inl ?_));refine az ai (λgu dx dE bj=>?_);obtain⟨af,j7,h⟩:=ao h;refine cB (alI a0 _ j7) _ ?_;refine aF h (λdX h=>?_) (λdX h=>?_)
  .refine ws _ ?_;exact aw (dE _ (.inl (ay [.int .i64 2])))
  .refine aJ (dx _ (.inl ?_));refine az ai (λlh gV iE gz=>?_);obtain⟨aK,dB,h⟩:=ao h;refine cB (alJ a0.b2 _ dB) _ ?_;refine aF h (λdY h=>?_) (λdY h=>?_)
   .refine ws _ ?_;exact aw (iE _ (.inl (ay [.int .i64 3])))
   .refine aJ (gV _ (.inl ?_));refine az ai (λpe kk kl jD=>?_);obtain⟨a_,gB,h⟩:=ao h;refine cB (X0 a0.cw _ gB) _ ?_;refine aF h (λfX h=>?_) (λfX h=>?_)
    .refine ws _ ?_;exact aw (kl _ (.inl (ay [.int .i64 4])))
    .refine aJ (kk _ (.inl ?_));refine az ai (λxB oc nI lb=>?_);obtain⟨bo,lj,h⟩:=ao h;refine cB (X0 a0.ct _ lj) _ ?_;refine aF h (λqA h=>?_) (λqA h=>?_)
     .refine ws _ ?_;exact aw (nI _ (.inl (ay [.int .i64 5])))
     .refine aJ (oc _ (.inl ?_));refine ws _ ?_;exact aw (ai _ (.inl (ay [.int .i64 0])))
theorem X1 (a0 r) (h:IC a0=some r):aV ah 34 [.ref (fe a0)] (.bool r) []:=by
 refine bA [0] [.tmp 2] Tryz.func34 Gc (λbt ai bq=>?_);refine ws _ ?_;obtain⟨U,aR,h⟩:=ao h;refine cB (alX a0 _ aR) _ ?_;exact aw (ai _ (.inl (ay [.bool (U==0)])))
theorem alY (a0 J r) (h:sq a0 J=some r):aV ah 55 [.slice (a0.map ba),.ref (bz J)] (.bool r) []:=by
 refine bA [0,1] [.tmp 4] Tryz.func55 PU (λbt ai bq=>?_);refine ws _ ?_;refine az ai (λdJ bL bf af=>?_);obtain⟨U,bW,h⟩:=ao h;refine cB (pd J.cD 0 (i64.wrap ((a0.length:Int)-1)) _ bW) _ ?_;refine aF h (λcP h=>?_) (λcP h=>?_)
 .refine ws _ ?_;exact aw (bf _ (.inl (ay [.bool false])))
 .refine aJ (bL _ (.inl ?_));obtain⟨af,fu,h⟩:=ao h;refine c1 fu _ ?_;refine az ai (λek cE cd ch=>?_);obtain⟨aK,kK,h⟩:=ao h;rcases dr h with⟨eE,h⟩|⟨eE,h⟩
  .refine mr (hb eE) (pd J.Part 0 (i64.wrap ((af.Body.length:Int)-1)) _ kK) _ ?_;refine iM rfl ?_;refine ws _ ?_;exact aw (cd _ (.inl (ay [.bool false])))
  .obtain⟨a_,dB,h⟩:=ao h;refine mr (R (b1 eE) dB) (pd J.Part 0 (i64.wrap ((af.Body.length:Int)-1)) _ kK) _ ?_;refine aF h (λdY h=>?_) (λdY h=>?_)
   .refine ws _ ?_;exact aw (cd _ (.inl (ay [.bool false])))
   .refine aJ (cE _ (.inl ?_));obtain⟨bo,e4,h⟩:=ao h;rcases dr h with⟨gg,h⟩|⟨gg,h⟩
    .obtain⟨bD,gL,h⟩:=ao h;refine i1 rfl (ig [(4,.bool bD)] (λP bu=>?_) ?_)
     ·(try simp only[cV.down,simprocAttr,gg]);refine hL (Qi af J.Part _ e4) rfl rfl (by simp only[cV.down,simprocAttr,gg,Xu.down]<;>rfl) rfl (.inr (by rfl)) ?_;simp only[cV.down,simprocAttr,gg];refine lz (XS J.bV _ gL) rfl rfl rfl rfl (.inl (by rfl)) ?_;simp only[cV.down,simprocAttr,gg];refine⟨hF (by kernel_rfl),?_⟩;exact cc gg
     exact aw (ai _ (.inl (ay [.bool bD])))
    .refine i1 rfl (ig [(4,.bool false)] (λP bu=>?_) ?_)
     ·(try simp only[cV.down,simprocAttr,gg]);refine hL (Qi af J.Part _ e4) rfl rfl (by simp only[cV.down,simprocAttr,gg,Xu.down]<;>rfl) rfl (.inr (by rfl)) ?_;simp only[cV.down,simprocAttr,gg];refine⟨hF (by kernel_rfl),?_⟩;exact cc gg
     exact aw (ai _ (.inl (ay [.bool false])))
theorem alZ (a0 J r) (h:ID a0 J=some r):aV ah 35 [.ref (fe a0),.slice (J.map bz)] (.bool r) []:=by
 refine bA [0,1] [.tmp 4] Tryz.func35 air (λbt ai bq=>?_);refine ws _ ?_;refine az ai (λdJ bL bf af=>?_);refine ws _ ?_;refine aF h (λbU h=>?_) (λbU h=>?_)
 .refine ws _ ?_;exact aw (bf _ (.inl (ay [.bool false])))
 .refine aJ (bL _ (.inl ?_));refine az ai (λeA cR cH bD=>?_);refine ws _ ?_;refine bn cH (λgk gf fY cy cu=>?_);show bk ah (.loop ?gU) _ _;have ho:∀n cb,Bl a0 J n cb=some r->cX ah ?gU gk (aq [(0,.ref (fe a0)),(1,.slice (J.map bz)),(5,.int .i64 cb)]):=by
   refine dd (λm14 gW cb h=>dc fY (λek cE cd ch=>?_));refine az cd (λe0 cf cn cv=>?_);refine ws _ ?_;refine aF h (λeE h=>?_) (λeE h=>?_)
   .refine aJ (cf _ (.inl ?_));refine az cd (λkG fE fp hG=>?_);refine bn fp (λhv ez ee fw eZ=>?_);obtain⟨U,cC,h⟩:=ao h;obtain⟨af,dL,h⟩:=ao h;refine mr cC (alY a0.cq U _ dL) _ ?_;refine aF h (λhD h=>?_) (λhD h=>?_)
    .refine ws _ ?_;exact aw (ee _ (.inl (ay [.bool false])))
    .refine aJ (ez _ (fE _ (.inl ?_)));refine wr _ ?_;exact cE _ (.inr ⟨_,aY rfl,gW (i64.wrap (cb+1)) h⟩)
   .refine c7 (cv 0 _ (ch 0 _ (cy _ (cR _ (.inl ?_)))));refine ws _ ?_;exact aw (ai _ (.inl (ay [.bool true])))
  obtain⟨n,h⟩:=cS h;exact db (.inr ⟨_,aY rfl,ho n 0 h⟩)
theorem al0 (a0 J r) (h:IE a0 J=some r):aV ah 17 [.ref (fe a0),.slice (J.map bz)] (.int .i64 r) []:=by
 refine bA [0,1] [.tmp 4] Tryz.func17 ais (λbt ai bq=>?_);refine ws _ ?_;refine az ai (λdJ bL bf af=>?_);obtain⟨U,bW,h⟩:=ao h;rcases dr h with⟨cP,h⟩|⟨cP,h⟩
 .refine eH (hb cP) (X1 a0 _ bW) _ ?_;refine iM rfl ?_;refine ws _ ?_;exact aw (bf _ (.inl (ay [.int .i64 1])))
 .obtain⟨af,b3,h⟩:=ao h;refine eQ (cI [(13,.bool (!af))] (λP bu=>?_) ?_)
  ·(try simp only[aT.down,simprocAttr,(b1 cP)]);refine dR (X1 a0 _ bW) rfl rfl rfl rfl (.inl (by rfl)) ?_;simp only[aT.down,simprocAttr,(b1 cP)];refine iN (alZ a0 J _ b3) rfl rfl rfl rfl (.inl (by rfl)) ?_;simp only[aT.down,simprocAttr,(b1 cP)];exact cc (b1 cP)
  refine aF h (λcy h=>?_) (λcy h=>?_)
  .refine ws _ ?_;exact aw (bf _ (.inl (ay [.int .i64 1])))
  .refine aJ (bL _ (.inl ?_));refine ws _ ?_;exact aw (ai _ (.inl (ay [.int .i64 0])))
theorem QJ (a0 r) (h:Bm a0=some r):aV ah 58 [.slice (a0.map a1)] (.aj 1 (r.map a1)) []:=by
 refine bA [0] [.tmp 2] Tryz.func58 ait (λbt ai bq=>?_);refine ws _ ?_;obtain⟨Nf,aR,h⟩:=ao h;(try simp only[fQ.down,Nat.zero_add,Nat.add_zero,reduceAdd]at aR);refine c1 (R (show∀s,dO ah s 48 0 []=some (.aj 1 [],s)from λs=>by kernel_rfl) (R (@kc ah 48 48 2 rfl rfl) (R @kd (R @ke (R @gH (R @all_cons (R @all_nil (R aR (@jy _ a1 1 (λ_=>rfl)))))))))) _ ?_;exact aw (ai _ (.inl (ay [.aj 1 (a0.map a1)])))
theorem vN (a0 r) (h:q2 a0=some r):aV ah 154 [.bool a0] (.int .i64 r) []:=by
 refine bA [0] [.tmp 2] Tryz.func154 c154 (λbt ai bq=>?_);refine ws _ ?_;refine az ai (λdJ bL bf af=>?_);refine ws _ ?_;refine aF h (λbU h=>?_) (λbU h=>?_)
 .refine ws _ ?_;exact aw (bf _ (.inl (ay [.int .i64 1])))
 .refine aJ (bL _ (.inl ?_));refine ws _ ?_;exact aw (ai _ (.inl (ay [.int .i64 0])))
theorem al1 (a0 J r) (h:IF a0 J=some r):aV ah 155 [.slice (a0.map ed),.int .i64 J] (.int .i64 r) []:=by
 refine bA [0] [.tmp 4] Tryz.func155 aiu (λbt ai bq=>?_);refine ws _ ?_;refine ws _ ?_;refine az ai (λjl e7 de aK=>?_);refine bn de (λei dS bR bU a_=>?_);show bk ah (.loop ?fP) _ _;have gK:∀n hU eD,Bn a0 n hU eD=some r->cX ah ?fP ei (aq [(0,.slice (a0.map ed)),(1,.int .i64 hU),(5,.int .i64 eD)]):=by
  refine dd (λm6 fM hU eD h=>dc bR (λgR dZ df bo=>?_));refine az df (λeA cR cH bD=>?_);refine ws _ ?_;refine aF h (λcy h=>?_) (λcy h=>?_)
  .refine aJ (cR _ (.inl ?_));refine bn df (λek cE cd eR ch=>?_);obtain⟨U,kK,h⟩:=ao h;obtain⟨af,e1,h⟩:=ao h;refine eH kK (XL U _ e1) _ ?_;refine wr _ ?_;exact cE _ (dZ _ (.inr ⟨_,aY rfl,fM (i64.wrap (hU+1)) (i64.wrap (eD+(i64.wrap (af-1)))) h⟩))
  .refine c7 (bD 0 _ (bo 0 _ (bU _ (e7 _ (.inl ?_)))));refine ws _ ?_;exact aw (ai _ (.inl (ay [.int .i64 hU])))
 obtain⟨n,h⟩:=cS h;exact db (.inr ⟨_,aY rfl,gK n J 1 h⟩)
theorem al2 (a0 J a2 r) (h:IG a0 J a2=some r):aV ah 156 [.int .i64 a0,.int .i64 J,.int .i64 a2] (.int .i64 r) []:=by
 refine bA [0,1,2] [.tmp 6] Tryz.func156 c156 (λbt ai bq=>?_);refine ws _ ?_;refine az ai (λdJ bL bf af=>?_);refine ws _ ?_;refine bn bf (λei dS bR bU a_=>?_);refine ws _ ?_;refine aF h (λdn h=>?_) (λdn h=>?_)
 .refine c1 (@yM .i64 64 (by decide)) _ ?_;exact aw (bR _ (.inl (ay [.int .i64 (Int.tmod (i64.wrap (J+a2)) 64)])))
 .refine ws _ ?_;refine aF h (λeR h=>?_) (λeR h=>?_)
  .refine c1 (@yM .i64 64 (by decide)) _ ?_;exact aw (bR _ (.inl (ay [.int .i64 (Int.tmod (i64.wrap ((i64.wrap (J-a2))+64)) 64)])))
  .refine ws _ ?_;refine aF h (λeE h=>?_) (λeE h=>?_)
   .refine c1 (@yM .i64 64 (by decide)) _ ?_;exact aw (bR _ (.inl (ay [.int .i64 (Int.tmod (i64.wrap (J*a2)) 64)])))
   .refine ws _ ?_;refine aF h (λdY h=>?_) (λdY h=>?_)
    .obtain⟨U,dL,h⟩:=ao h;refine cB (vN (J==a2) _ dL) _ ?_;exact aw (bR _ (.inl (ay [.int .i64 U])))
    .refine ws _ ?_;refine aF h (λgg h=>?_) (λgg h=>?_)
     .obtain⟨af,hZ,h⟩:=ao h;refine cB (vN (J !=a2) _ hZ) _ ?_;exact aw (bR _ (.inl (ay [.int .i64 af])))
     .refine ws _ ?_;refine aF h (λfZ h=>?_) (λfZ h=>?_)
      .obtain⟨aK,ir,h⟩:=ao h;refine cB (vN (decide (J<a2)) _ ir) _ ?_;exact aw (bR _ (.inl (ay [.int .i64 aK])))
      .refine ws _ ?_;refine aF h (λnm h=>?_) (λnm h=>?_)
       .obtain⟨a_,sY,h⟩:=ao h;refine cB (vN (decide (J<=a2)) _ sY) _ ?_;exact aw (bR _ (.inl (ay [.int .i64 a_])))
       .refine ws _ ?_;refine aF h (λgX h=>?_) (λgX h=>?_)
        .rcases dr h with⟨iF,h⟩|⟨iF,h⟩
         .obtain⟨bo,jI,h⟩:=ao h;refine eH iF (vN (a2 !=0) _ jI) _ ?_;exact aw (bR _ (.inl (ay [.int .i64 bo])))
         .obtain⟨bD,zI,h⟩:=ao h;refine eH iF (vN false _ zI) _ ?_;exact aw (bR _ (.inl (ay [.int .i64 bD])))
        .refine aJ (dS _ (bL _ (.inl ?_)));rcases dr h with⟨pU,h⟩|⟨pU,h⟩
         .obtain⟨bj,qB,h⟩:=ao h;refine eH pU (vN true _ qB) _ ?_;exact aw (ai _ (.inl (ay [.int .i64 bj])))
         .obtain⟨cu,zJ,h⟩:=ao h;refine eH pU (vN (a2 !=0) _ zJ) _ ?_;exact aw (ai _ (.inl (ay [.int .i64 cu])))
theorem al3 (Bo:axs->axc->Int->axf) (QK:∀a0 J a2 r,Bo a0 J a2=some r->aV ah 116 [.slice (a0.map ed),.slice (J.map a1),.int .i64 a2] (.int .i64 r) []) (a0 J a2 r) (h:N5 Bo a0 J a2=some r):aV ah 116 [.slice (a0.map ed),.slice (J.map a1),.int .i64 a2] (.int .i64 r) []:=by
 refine bA [0,1,2] [.tmp 6] Tryz.func116 c116 (λbt ai bq=>?_);refine ws _ ?_;refine az ai (λdJ bL bf af=>?_);obtain⟨U,bW,h⟩:=ao h;refine c1 bW _ ?_;refine bn bf (λgR dZ df cP bo=>?_);refine ws _ ?_;refine aF h (λp8 h=>?_) (λp8 h=>?_)
 .refine c1 bW _ ?_;exact aw (df _ (.inl (ay [.int .i64 U.Value])))
 .refine ws _ ?_;refine aF h (λdX h=>?_) (λdX h=>?_)
  .obtain⟨af,e1,h⟩:=ao h;refine c1 (R bW e1) _ ?_;exact aw (df _ (.inl (ay [.int .i64 af])))
  .refine ws _ ?_;refine aF h (λfw h=>?_) (λfw h=>?_)
   .obtain⟨aK,cC,h⟩:=ao h;obtain⟨a_,dL,h⟩:=ao h;refine eQ (cI [(6,.int .i64 a_)] (λP bu=>?_) ?_)
    ·(try simp only[aT.down,simprocAttr]);refine dR (QK a0 J (i64.wrap (a2+1)) _ cC) rfl rfl rfl rfl (.inl (by rfl)) ?_;simp only[aT.down,simprocAttr];refine dR (vN (aK==0) _ dL) rfl rfl rfl rfl (.inl (by rfl)) ?_;simp only[aT.down,simprocAttr];exact cc trivial
    exact aw (df _ (.inl (ay [.int .i64 a_])))
   .refine aJ (dZ _ (bL _ (.inl ?_)));obtain⟨bo,gB,h⟩:=ao h;refine cB (QK a0 J (i64.wrap (a2+1)) _ gB) _ ?_;obtain⟨bD,hZ,h⟩:=ao h;obtain⟨bj,gJ,h⟩:=ao h;refine eQ (cI [(0,.slice (a0.map ed)),(2,.int .i64 a2),(7,.int .i64 bo),(8,.int .i64 bj)] (λP bu=>?_) ?_)
    ·(try simp only[aT.down,simprocAttr]);refine dR (al1 a0 (i64.wrap (a2+1)) _ hZ) rfl rfl rfl rfl (.inl (by rfl)) ?_;simp only[aT.down,simprocAttr];refine dR (QK a0 J bD _ gJ) rfl rfl rfl rfl (.inl (by rfl)) ?_;simp only[aT.down,simprocAttr];exact cc trivial
    obtain⟨cu,lj,h⟩:=ao h;refine eH bW (al2 U.Value bo bj _ lj) _ ?_;exact aw (ai _ (.inl (ay [.int .i64 cu])))
theorem al4:∀n a0 J a2 r,yY n a0 J a2=some r->aV ah 116 [.slice (a0.map ed),.slice (J.map a1),.int .i64 a2] (.int .i64 r) []:=by
 intro n;induction n with
 |zero=>intro a0 J a2 r h;cases(show none=some r from h)
 |succ n ih=>intro a0 J a2 r h;exact al3 (yY n) ih a0 J a2 r h
theorem al5 (a0 J a2 r) (h:N6 a0 J a2=some r):aV ah 116 [.slice (a0.map ed),.slice (J.map a1),.int .i64 a2] (.int .i64 r) []:=by
 obtain⟨n,h⟩:=cS h;exact al4 n a0 J a2 r h
theorem X2 (a0 J r) (h:yZ a0 J=some r):aV ah 85 [.slice (a0.map ed),.slice (J.map a1)] (.int .i64 r) []:=by
 refine bA [0,1] [.tmp 4] Tryz.func85 c85 (λbt ai bq=>?_);refine ws _ ?_;obtain⟨U,aR,h⟩:=ao h;refine cB (al5 a0 J 0 _ aR) _ ?_;exact aw (ai _ (.inl (ay [.int .i64 U])))
theorem X3 (a0 J r) (h:E6 a0 J=some r):aV ah 82 [.slice (a0.map iO),.slice (J.map a1)] (.aj 1 (r.map a1)) []:=by
 refine bA [0,1] [.tmp 4] Tryz.func82 aiv (λbt ai bq=>?_);refine ws _ ?_;refine c1 (show∀s,dO ah s 48 0 []=some (.aj 1 [],s)from λs=>by kernel_rfl) _ ?_;refine az ai (λjl e7 de aK=>?_);refine ws _ ?_;refine bn de (λgR dZ df cP bo=>?_);show bk ah (.loop ?h4) _ _;have iC:∀n fs jB,Bp a0 J n fs jB=some r->cX ah ?h4 gR (aq [(0,.slice (a0.map iO)),(1,.slice (J.map a1)),(5,.aj 1 (fs.map a1)),(6,.int .i64 jB)]):=by
  refine dd (λm8 iD fs jB h=>dc df (λeA cR cH bD=>?_));refine az cH (λgu dx dE bj=>?_);refine ws _ ?_;refine aF h (λeR h=>?_) (λeR h=>?_)
  .refine aJ (dx _ (.inl ?_));refine az cH (λe0 cf cn cv=>?_);refine bn cn (λhY eK fL lJ dP=>?_);obtain⟨U,fi,h⟩:=ao h;obtain⟨af,dB,h⟩:=ao h;obtain⟨u16,fq,h⟩:=ao h;(try simp only[fQ.down,Nat.zero_add,Nat.add_zero,reduceAdd]at fq);refine zv (R fi (R (show∀s,dO ah s 48 1 [(0,.int .i64 af)]=some (.aj 1 [.int .i64 af],s)from λs=>by kernel_rfl) (R (@kc ah 48 48 2 rfl rfl) (R @kd (R @ke (R @gH (R @all_cons (R @all_nil (R fq (@jy _ a1 1 (λ_=>rfl))))))))))) (X2 U J _ dB) [(0,.slice (a0.map iO)),(1,.slice (J.map a1)),(5,.aj 1 ((fs++[af]).map a1)),(6,.int .i64 jB)] ?_;refine eK _ (cf _ (.inl ?_));refine wr [(0,.slice (a0.map iO)),(1,.slice (J.map a1)),(5,.aj 1 ((fs++[af]).map a1)),(6,.int .i64 (i64.wrap (jB+1)))] ?_;exact cR _ (.inr ⟨_,aY rfl,iD (fs++[af]) (i64.wrap (jB+1)) h⟩)
  .refine c7 (bj 0 _ (bD 0 _ (cP _ (e7 _ (.inl ?_)))));refine ws _ ?_;exact aw (ai _ (.inl (ay [.aj 1 (fs.map a1)])))
 obtain⟨n,h⟩:=cS h;exact db (.inr ⟨_,aY rfl,iC n [] 0 h⟩)
theorem al6 (a0 r) (h:E7 a0=some r):aV ah 119 [.int .i64 a0] (.str r) []:=by
 refine bA [0] [.tmp 2] Tryz.func119 c119 (λbt ai bq=>?_);refine ws _ ?_;refine az ai (λdJ bL bf af=>?_);refine ws _ ?_;refine aF h (λbU h=>?_) (λbU h=>?_)
 .refine ws _ ?_;exact aw (bf _ (.inl (ay [.str ([48]:axa)])))
 .refine aJ (bL _ (.inl ?_));refine c1 (show∀s,dO ah s 220 0 []=some (.aj 1 [],s)from λs=>by kernel_rfl) _ ?_;refine az ai (λgu dx dE bj=>?_);refine ws _ ?_;refine bn dE (λek cE cd eR ch=>?_);have kV:∀n gT hn,vn a0 n gT hn=some r->cX ah WO ek (aq [(0,.int .i64 a0),(3,.aj 1 (gT.map iK)),(4,.int .i64 hn)]):=by
   refine dd (λm16 kW gT hn h=>dc cd (λe0 cf cn cv=>?_));refine az cn (λhY eK fL dP=>?_);refine ws _ ?_;refine aF h (λeX h=>?_) (λeX h=>?_)
   .refine aJ (eK _ (.inl ?_));refine az cn (λhv ez ee eZ=>?_);refine bn ee (λkF gd gj dY ft=>?_);refine c1 (@yM .i64 10 (by decide)) _ ?_;have X4:∀vm xi tS,IH (vn a0 m16) a0 vm xi tS=some r->bk ah WN kF (aq [(0,.int .i64 a0),(3,.aj 1 (vm.map iK)),(4,.int .i64 xi),(5,.int .i64 tS)]):=by
     intro vm xi tS h;obtain⟨QL,gB,h⟩:=ao h;(try simp only[fQ.down,Nat.zero_add,Nat.add_zero,reduceAdd]at gB);refine sM (R (@MT ah 2 5 .u8 rfl rfl) (R (show∀s,dO ah s 220 1 [(0,.int .u8 (u8.wrap (i64.wrap (48+tS))))]=some (.aj 1 [.int .u8 (u8.wrap (i64.wrap (48+tS)))],s)from λs=>by kernel_rfl) (R (@kc ah 220 220 5 rfl rfl) (R @kd (R @ke (R @gH (R @all_cons (R @all_nil (R gB @MO))))))))) [(0,.int .i64 a0),(3,.aj 1 ((vm++[(ti (i64.wrap (48+tS)))]).map iK)),(4,.int .i64 xi)] ?_;refine gd _ (ez _ (.inl ?_));refine sM (@aeC .i64 10 (by decide)) [(0,.int .i64 a0),(3,.aj 1 ((vm++[(ti (i64.wrap (48+tS)))]).map iK)),(4,.int .i64 (i64.wrap (Int.tdiv xi 10)))] ?_;exact cf _ (.inr ⟨_,aY rfl,kW (vm++[(ti (i64.wrap (48+tS)))]) (i64.wrap (Int.tdiv xi 10)) h⟩)
    refine az gj (λpe kk kl jD=>?_);refine ws _ ?_;refine aF h (λxD h=>?_) (λxD h=>?_)
    .refine wr _ ?_;exact kk _ (.inr ⟨_,aY rfl,X4 gT hn (i64.wrap (0-(Int.tmod hn 10))) h⟩)
    .exact aJ (kk _ (.inr ⟨_,aY rfl,X4 gT hn (Int.tmod hn 10) h⟩))
   .refine c7 (dP 0 _ (cv 0 _ (eR _ (dx _ (.inl ?_)))));have X5:∀oz,xj oz=some r->bk ah WR bt (aq [(3,.aj 1 (oz.map iK))]):=by
     intro oz h;refine c1 (show∀s,dO ah s 220 0 []=some (.aj 1 [],s)from λs=>by kernel_rfl) _ ?_;refine az ai (λGg sO ru pH=>?_);refine ws _ ?_;refine bn ru (λJ3 Qc Ge jY zc=>?_);have QM:∀n h7 hM,N8 oz n h7 hM=some r->cX ah WQ J3 (aq [(3,.aj 1 (oz.map iK)),(6,.aj 1 (h7.map iK)),(7,.int .i64 hM)]):=by
      refine dd (λX6 QN h7 hM h=>dc Ge (λCA pQ pR vI=>?_));refine az pR (λGh sP xF zz=>?_);refine ws _ ?_;refine aF h (λGi h=>?_) (λGi h=>?_)
      .refine aJ (sP _ (.inl ?_));refine az pR (λQl J8 Gj XN=>?_);refine bn Gj (λJ9 zA xG aly J_=>?_);obtain⟨U,pf,h⟩:=ao h;obtain⟨al7,qx,h⟩:=ao h;(try simp only[fQ.down,Nat.zero_add,Nat.add_zero,reduceAdd]at qx);refine sM (R pf (R (dy pf) (R (show∀s,dO ah s 220 1 [(0,.int .u8 (U.toNat:Int))]=some (.aj 1 [.int .u8 (U.toNat:Int)],s)from λs=>by kernel_rfl) (R (@kc ah 220 220 5 rfl rfl) (R @kd (R @ke (R @gH (R @all_cons (R @all_nil (R qx @MO)))))))))) [(3,.aj 1 (oz.map iK)),(6,.aj 1 ((h7++[U]).map iK)),(7,.int .i64 hM)] ?_;refine zA _ (J8 _ (.inl ?_));refine wr [(3,.aj 1 (oz.map iK)),(6,.aj 1 ((h7++[U]).map iK)),(7,.int .i64 (i64.wrap (hM-1)))] ?_;exact pQ _ (.inr ⟨_,aY rfl,QN (h7++[U]) (i64.wrap (hM-1)) h⟩)
      .refine c7 (zz 2 _ (vI 2 _ (jY _ (sO _ (.inl ?_)))));refine c1 (R ((@aez ah 220 9 5 rfl rfl rfl).2.2) (R @aeB @aeA)) _ ?_;exact aw (ai _ (.inl (ay [.str h7])))
     obtain⟨n,h⟩:=cS h;exact db (.inr ⟨_,aY rfl,QM n [] (i64.wrap ((oz.length:Int)-1)) h⟩)
    refine az ai (λGt CG CH zb=>?_);refine ws _ ?_;refine aF h (λvK h=>?_) (λvK h=>?_)
    .obtain⟨al8,CI,h⟩:=ao h;(try simp only[fQ.down,Nat.zero_add,Nat.add_zero,reduceAdd]at CI);refine sM (R (show∀s,dO ah s 220 1 [(0,.int .u8 45)]=some (.aj 1 [.int .u8 45],s)from λs=>by kernel_rfl) (R (@kc ah 220 220 5 rfl rfl) (R @kd (R @ke (R @gH (R @all_cons (R @all_nil (R CI @MO)))))))) [(3,.aj 1 ((gT++[(45:UInt8)]).map iK))] ?_;exact CG _ (.inr ⟨_,aY rfl,X5 (gT++[(45:UInt8)]) h⟩)
    .exact aJ (CG _ (.inr ⟨_,aY rfl,X5 gT h⟩))
  obtain⟨n,h⟩:=cS h;exact db (.inr ⟨_,aY rfl,kV n [] a0 h⟩)
theorem al9 (a0 r) (h:IJ a0=some r):aV ah 91 [.slice (a0.map a1)] (.str r) []:=by
 refine bA [0] [.tmp 2] Tryz.func91 c91 (λbt ai bq=>?_);refine ws _ ?_;refine az ai (λdJ bL bf af=>?_);refine ws _ ?_;refine aF h (λbU h=>?_) (λbU h=>?_)
 .refine ws _ ?_;exact aw (bf _ (.inl (ay [.str ([45]:axa)])))
 .refine aJ (bL _ (.inl ?_));refine ws _ ?_;refine az ai (λgu dx dE bj=>?_);refine ws _ ?_;refine bn dE (λek cE cd eR ch=>?_);have kV:∀n gT hn,y1 a0 n gT hn=some r->cX ah WT ek (aq [(0,.slice (a0.map a1)),(3,.str gT),(4,.int .i64 hn)]):=by
   refine dd (λm16 kW gT hn h=>dc cd (λe0 cf cn cv=>?_));refine az cn (λhY eK fL dP=>?_);refine ws _ ?_;refine aF h (λeX h=>?_) (λeX h=>?_)
   .refine aJ (eK _ (.inl ?_));refine az cn (λhv ez ee eZ=>?_);refine bn ee (λkF gd gj dY ft=>?_);have X7:∀vo vp,II (y1 a0 m16) a0 vo vp=some r->bk ah WS kF (aq [(0,.slice (a0.map a1)),(3,.str vo),(4,.int .i64 vp)]):=by
     intro vo vp h;obtain⟨U,e4,h⟩:=ao h;obtain⟨af,gB,h⟩:=ao h;obtain⟨al_,gL,h⟩:=ao h;(try simp only[fQ.down,Nat.zero_add,Nat.add_zero,reduceAdd]at gL);refine zv (R e4 (R gL (R @yN @yO))) (al6 U _ gB) [(0,.slice (a0.map a1)),(3,.str (vo++af)),(4,.int .i64 vp)] ?_;refine gd _ (ez _ (.inl ?_));refine wr [(0,.slice (a0.map a1)),(3,.str (vo++af)),(4,.int .i64 (i64.wrap (vp+1)))] ?_;exact cf _ (.inr ⟨_,aY rfl,kW (vo++af) (i64.wrap (vp+1)) h⟩)
    refine az gj (λsN kX mU hV=>?_);refine ws _ ?_;refine aF h (λfZ h=>?_) (λfZ h=>?_)
    .obtain⟨ama,ir,h⟩:=ao h;(try simp only[fQ.down,Nat.zero_add,Nat.add_zero,reduceAdd]at ir);refine sM (R ir (R @yN @yO)) [(0,.slice (a0.map a1)),(3,.str (gT++([44]:axa))),(4,.int .i64 hn)] ?_;exact kX _ (.inr ⟨_,aY rfl,X7 (gT++([44]:axa)) hn h⟩)
    .exact aJ (kX _ (.inr ⟨_,aY rfl,X7 gT hn h⟩))
   .refine c7 (dP 0 _ (cv 0 _ (eR _ (dx _ (.inl ?_)))));refine ws _ ?_;exact aw (ai _ (.inl (ay [.str gT])))
  obtain⟨n,h⟩:=cS h;exact db (.inr ⟨_,aY rfl,kV n ([]:axa) 0 h⟩)
theorem X8 (a0 J r) (h:E8 a0 J=some r):aV ah 63 [.str a0,.slice (J.map a1)] (.str r) []:=by
 refine bA [0,1] [.tmp 4] Tryz.func63 aiw (λbt ai bq=>?_);refine ws _ ?_;refine az ai (λdJ bL bf af=>?_);refine ws _ ?_;refine aF h (λbU h=>?_) (λbU h=>?_)
 .refine ws _ ?_;exact aw (bf _ (.inl (ay [.str a0])))
 .refine aJ (bL _ (.inl ?_));obtain⟨CJ,b3,h⟩:=ao h;(try simp only[fQ.down,Nat.zero_add,Nat.add_zero,reduceAdd]at b3);obtain⟨U,fu,h⟩:=ao h;obtain⟨CJ,j7,h⟩:=ao h;(try simp only[fQ.down,Nat.zero_add,Nat.add_zero,reduceAdd]at j7);obtain⟨CJ,ic,h⟩:=ao h;(try simp only[fQ.down,Nat.zero_add,Nat.add_zero,reduceAdd]at ic);refine eH (R b3 (R @yN (R @yO (R j7 ic)))) (al9 J _ fu) [(4,.str (((a0++([40]:axa))++U)++([41]:axa)))] ?_;exact aw (ai _ (.inl (ay [.str (((a0++([40]:axa))++U)++([41]:axa))])))
theorem X9 (a0 J r) (h:E9 a0 J=some r):aV ah 61 [.slice (a0.map a1),.slice (J.map a1)] (.bool r) []:=by
 refine bA [0,1] [.tmp 4] Tryz.func61 aix (λbt ai bq=>?_);refine ws _ ?_;refine az ai (λdJ bL bf af=>?_);refine ws _ ?_;refine aF h (λbU h=>?_) (λbU h=>?_)
 .refine ws _ ?_;exact aw (bf _ (.inl (ay [.bool false])))
 .refine aJ (bL _ (.inl ?_));refine az ai (λeA cR cH bD=>?_);refine ws _ ?_;refine bn cH (λgk gf fY cy cu=>?_);show bk ah (.loop ?gU) _ _;have ho:∀n cb,Bq a0 J n cb=some r->cX ah ?gU gk (aq [(0,.slice (a0.map a1)),(1,.slice (J.map a1)),(5,.int .i64 cb)]):=by
   refine dd (λm14 gW cb h=>dc fY (λek cE cd ch=>?_));refine az cd (λe0 cf cn cv=>?_);refine ws _ ?_;refine aF h (λeE h=>?_) (λeE h=>?_)
   .refine aJ (cf _ (.inl ?_));refine az cd (λkG fE fp hG=>?_);refine bn fp (λhv ez ee fw eZ=>?_);obtain⟨U,cC,h⟩:=ao h;obtain⟨af,dL,h⟩:=ao h;refine oE (R cC dL) _ ?_;refine aF h (λhD h=>?_) (λhD h=>?_)
    .refine ws _ ?_;exact aw (ee _ (.inl (ay [.bool false])))
    .refine aJ (ez _ (fE _ (.inl ?_)));refine wr _ ?_;exact cE _ (.inr ⟨_,aY rfl,gW (i64.wrap (cb+1)) h⟩)
   .refine c7 (cv 0 _ (ch 0 _ (cy _ (cR _ (.inl ?_)))));refine ws _ ?_;exact aw (ai _ (.inl (ay [.bool true])))
  obtain⟨n,h⟩:=cS h;exact db (.inr ⟨_,aY rfl,ho n 0 h⟩)
theorem X_ (a0 J r) (h:Br a0 J=some r):aV ah 86 [.ref (bz a0),.ref (bz J)] (.bool r) []:=by
 refine bA [0,1] [.tmp 4] Tryz.func86 aiy (λbt ai bq=>?_);refine ws _ ?_;rcases dr h with⟨fU,h⟩|⟨fU,h⟩
 .rcases dr h with⟨bU,h⟩|⟨bU,h⟩
  .obtain⟨U,cM,h⟩:=ao h;refine mr (R fU bU) (X9 a0.bV J.bV _ cM) _ ?_;exact aw (ai _ (.inl (ay [.bool U])))
  .refine oE (R fU bU) _ ?_;exact aw (ai _ (.inl (ay [.bool false])))
 .refine oE fU _ ?_;exact aw (ai _ (.inl (ay [.bool false])))
theorem amb (a0 J r) (h:IK a0 J=some r):aV ah 83 [.aj 4 (a0.map cU),cU J] (.aj 4 (r.map cU)) [.hole,.hole]:=by
 refine bA [0,1] [.tmp 4] Tryz.func83 aiz (λbt ai bq=>?_);refine ws _ ?_;refine az ai (λdJ bL bf af=>?_);refine ws _ ?_;refine bn bf (λei dS bR bU a_=>?_);show bk ah (.loop ?fP) _ _;have gK:∀n eD,Bs a0 J n eD=some r->cX ah ?fP ei (aq [(0,.aj 4 (a0.map cU)),(3,.aM (cU J)),(5,.int .i64 eD)]):=by
  refine dd (λm6 fM eD h=>dc bR (λgR dZ df bo=>?_));refine az df (λeA cR cH bD=>?_);refine ws _ ?_;refine aF h (λcy h=>?_) (λcy h=>?_)
  .refine aJ (cR _ (.inl ?_));refine az df (λek cE cd ch=>?_);refine bn cd (λe0 cf cn dX cv=>?_);obtain⟨U,e1,h⟩:=ao h;rcases dr h with⟨eX,h⟩|⟨eX,h⟩
   .obtain⟨af,dB,h⟩:=ao h;refine i1 rfl (ig [(0,.aj 4 (a0.map cU)),(3,.aM (cU J)),(5,.int .i64 eD),(27,.bool af)] (λP bu=>?_) ?_)
    ·(try simp only[cV.down,simprocAttr,e1,dy e1,eX]);refine lz (X_ U.Next J.Next _ dB) rfl rfl (by simp only[cV.down,simprocAttr,e1,dy e1,eX,Xv.down]<;>rfl) rfl (.inr (by rfl)) ?_;simp only[cV.down,simprocAttr,e1,dy e1,eX];refine⟨hF (by kernel_rfl),?_⟩;exact cc (R e1 (R (dy e1) eX))
    refine aF h (λdY h=>?_) (λdY h=>?_)
    .refine ws _ ?_;exact aw (cn _ (.inl (kb [.aj 4 (a0.map cU)] rfl (by cases gl h;rfl) (by decide) (kB (dK (dK (kC)))))))
    .refine aJ (cf _ (cE _ (.inl ?_)));refine wr _ ?_;exact dZ _ (.inr ⟨_,aY rfl,fM (i64.wrap (eD+1)) h⟩)
   .refine oE (R e1 (R (dy e1) eX)) _ ?_;refine nW rfl ?_;refine aJ (cf _ (cE _ (.inl ?_)));refine wr _ ?_;exact dZ _ (.inr ⟨_,aY rfl,fM (i64.wrap (eD+1)) h⟩)
  .refine c7 (bD 0 _ (bo 0 _ (bU _ (bL _ (.inl ?_)))));obtain⟨QL,gL,h⟩:=ao h;(try simp only[fQ.down,Nat.zero_add,Nat.add_zero,reduceAdd]at gL);refine c1 (R (show∀s,dO ah s 83 1 [(0,.agg [.str J.Label,.agg [.int .i64 J.Next.cD,.int .i64 J.Next.Part,.slice (J.Next.bV.map a1)]])]=some (.aj 4 [.agg [.str J.Label,.agg [.int .i64 J.Next.cD,.int .i64 J.Next.Part,.slice (J.Next.bV.map a1)]]],s)from λs=>by kernel_rfl) (R (@kc ah 83 83 88 rfl rfl) (R @kd (R @ke (R @gH (R @all_cons (R @all_nil (R gL (@jy _ cU 4 (λ_=>rfl)))))))))) [(4,.aj 4 ((a0++[J]).map cU))] ?_;exact aw (ai _ (.inl (kb [.aj 4 ((a0++[J]).map cU)] rfl (by cases gl h;rfl) (by decide) (kB (dK (dK (kC)))))))
 obtain⟨n,h⟩:=cS h;exact db (.inr ⟨_,aY rfl,gK n 0 h⟩)
theorem amc (l1:axu->Int->Int->axc->axz->Option axz) (Kh:∀a0 J a2 a3 a4 r,l1 a0 J a2 a3 a4=some r->aV ah 56 [.slice (a0.map ba),.int .i64 J,.int .i64 a2,.slice (a3.map a1),.aj 4 (a4.map cU)] (.aj 4 (r.map cU)) [.hole,.hole,.hole,.hole,.hole]) (a0 J a2 a3 a4 r) (h:xk l1 a0 J a2 a3 a4=some r):aV ah 56 [.slice (a0.map ba),.int .i64 J,.int .i64 a2,.slice (a3.map a1),.aj 4 (a4.map cU)] (.aj 4 (r.map cU)) [.hole,.hole,.hole,.hole,.hole]:=by
 refine bA [0,1,2,3] [.tmp 10] Tryz.func56 PV (λbt ai bq=>?_);refine ws _ ?_;obtain⟨U,aR,h⟩:=ao h;refine c1 aR _ ?_;obtain⟨af,cM,h⟩:=ao h;refine c1 cM _ ?_;refine az ai (λeA cR cH bD=>?_);refine ws _ ?_;refine aF h (λcy h=>?_) (λcy h=>?_)
 .refine ws _ ?_;exact aw (cH _ (.inl (kb [.aj 4 (a4.map cU)] rfl (by cases gl h;rfl) (by decide) (kB (dK (dK (dK (dK (dK (kC))))))))))
 .refine aJ (cR _ (.inl ?_));have zy:∀Bt,y2 l1 a0 J a2 a3 Bt=some r->bk ah WW bt (aq [(0,.slice (a0.map ba)),(1,.int .i64 J),(2,.int .i64 a2),(3,.slice (a3.map a1)),(4,.aj 4 (Bt.map cU))]):=by
   intro Bt h;refine ws _ ?_;exact aw (ai _ (.inl (kb [.aj 4 (Bt.map cU)] rfl (by cases gl h;rfl) (by decide) (kB (dK (dK (dK (dK (dK (kC))))))))))
  refine az ai (λe0 cf cn cv=>?_);refine ws _ ?_;refine bn cn (λkG fE fp eX hG=>?_);refine ws _ ?_;refine aF h (λdY h=>?_) (λdY h=>?_)
  .obtain⟨aK,dL,h⟩:=ao h;refine eH (R (@mI ah 60 [(2,0),(2,1),(48,2)] [(.int .i64 0),(.int .i64 0),.a8] rfl rfl (by kernel_rfl)) (R @lA (R @lB (R @eo (R @gH (R @List.nil_append.{0} @List.cons_append.{0})))))) (QJ a3 _ dL) _ ?_;have Ya:∀y3 y4 y5,E_ l1 a3 a4 af y3 y4 y5=some r->bk ah WU kG (aq [(3,.slice (a3.map a1)),(4,.aj 4 (a4.map cU)),(12,.aM (eh af)),(13,.aM (.agg [.int .i64 y3,.int .i64 y4,.aj 1 (y5.map a1)]))]):=by
    intro y3 y4 y5 h;obtain⟨a_,gL,h⟩:=ao h;obtain⟨bo,hZ,h⟩:=ao h;obtain⟨bD,gJ,h⟩:=ao h;refine i1 rfl (ig [(10,.aj 4 (bD.map cU))] (λP bu=>?_) ?_)
    ·(try simp only[cV.down,simprocAttr,JX.down,eb,dF,I.shares]);refine hL (X3 af.cO a3 _ gL) rfl rfl rfl rfl (.inl (by rfl)) ?_;simp only[cV.down,simprocAttr,JX.down,eb,dF,I.shares];refine hL (X8 af.Name a_ _ hZ) rfl rfl (by simp only[cV.down,simprocAttr, @mI ah 88 [(9,0),(60,1)] [(.str []),(.agg [(.int .i64 0),(.int .i64 0),.a8])] rfl rfl (by kernel_rfl),eb,lA,dF,lB,eo,gH,List.nil_append,List.cons_append,n2,n1,I.shares,cY,n0, @b0 _ a1 a1 (λ_=>jW _),i6,i7,i_,cY, @b0 _ a1 a1 (λ_=>jW _)]<;>rfl) rfl (.inr (by rfl)) ?_;simp only[cV.down,simprocAttr,JX.down,eb,dF,I.shares];refine M0 [⟨.h 4 [],true,_,.hole⟩,⟨.agg [.str bo,.agg [.int .i64 y3,.int .i64 y4,.slice (y5.map a1)]],false,_,.hole⟩] (amb a4 (a7.mk bo (bd.mk y3 y4 y5)) _ gJ) rfl rfl rfl (by simp only[cV.down,simprocAttr, @mI ah 88 [(9,0),(60,1)] [(.str []),(.agg [(.int .i64 0),(.int .i64 0),.a8])] rfl rfl (by kernel_rfl),eb,lA,dF,lB,eo,gH,List.nil_append,List.cons_append,n2,n1,I.shares,cY,n0, @b0 _ a1 a1 (λ_=>jW _),o5,pA,pB,i6,i7,i_,cY,or_true,true_or, @b0 _ cU cU (λ_=>Cw _)]) rfl rfl (.inl rfl) ?_;simp only[cV.down,simprocAttr, @mI ah 88 [(9,0),(60,1)] [(.str []),(.agg [(.int .i64 0),(.int .i64 0),.a8])] rfl rfl (by kernel_rfl),eb,lA,dF,lB,eo,gH,List.nil_append,List.cons_append,n2,n1,I.shares,cY,n0, @b0 _ a1 a1 (λ_=>jW _),nY];refine⟨hF (by kernel_rfl),?_⟩;exact cc JX.down
    exact aw (fp _ (.inl (kb [.aj 4 (bD.map cU)] rfl (by cases gl h;rfl) (by decide) (kB (dK (dK (dK (dK (dK (kC))))))))))
   refine az fp (λGu ry sZ pG=>?_);obtain⟨bj,lj,h⟩:=ao h;refine c1 lj _ ?_;refine aF h (λqA h=>?_) (λqA h=>?_)
   .obtain⟨cu,vG,h⟩:=ao h;refine Xs (R lj (R (@mI ah 60 [(2,0),(2,1),(48,2)] [(.int .i64 0),(.int .i64 0),.a8] rfl rfl (by kernel_rfl)) (R @lA (R @lB (R @eo (R @gH (R @List.nil_append.{0} @List.cons_append.{0}))))))) (X3 bj.cO a3 _ vG) _ ?_;exact ry _ (.inr ⟨_,aY rfl,Ya bj.Number 0 cu h⟩)
   .exact aJ (ry _ (.inr ⟨_,aY rfl,Ya J (i64.wrap (a2+1)) aK h⟩))
  .refine ws _ ?_;refine aF h (λh_ h=>?_) (λh_ h=>?_)
   .obtain⟨ch,Gv,h⟩:=ao h;refine eQ (cI [(0,.slice (a0.map ba)),(1,.int .i64 J),(2,.int .i64 a2),(3,.slice (a3.map a1)),(4,.aj 4 (ch.map cU)),(11,.slice (U.Body.map eh))] (λP bu=>?_) ?_)
    ·(try simp only[aT.down,simprocAttr]);refine ow [⟨.slice (a0.map ba),false,_,.hole⟩,⟨.int .i64 J,false,_,.hole⟩,⟨.int .i64 (i64.wrap (a2+1)),false,_,.hole⟩,⟨.slice (a3.map a1),false,_,.hole⟩,⟨.h 4 [],true,_,.hole⟩] (Kh a0 J (i64.wrap (a2+1)) a3 a4 _ Gv) rfl rfl rfl (by simp only[aT.down,simprocAttr,P4.down]) rfl rfl (.inl rfl) ?_;simp only[aT.down,simprocAttr,nY];exact cc trivial
    obtain⟨cv,pT,h⟩:=ao h;obtain⟨dP,jI,h⟩:=ao h;refine eQ (cI [(10,.aj 4 (dP.map cU))] (λP bu=>?_) ?_)
    ·(try simp only[aT.down,simprocAttr]);refine dR (XK U.Body (i64.wrap (a2+1)) _ pT) rfl rfl rfl rfl (.inl (by rfl)) ?_;simp only[aT.down,simprocAttr];refine ow [⟨.slice (a0.map ba),false,_,.hole⟩,⟨.int .i64 J,false,_,.hole⟩,⟨.int .i64 cv,false,_,.hole⟩,⟨.slice (a3.map a1),false,_,.hole⟩,⟨.h 4 [],true,_,.hole⟩] (Kh a0 J cv a3 ch _ jI) rfl rfl rfl (by simp only[aT.down,simprocAttr,P4.down]) rfl rfl (.inl rfl) ?_;simp only[aT.down,simprocAttr,nY];exact cc trivial
    exact aw (fp _ (.inl (kb [.aj 4 (dP.map cU)] rfl (by cases gl h;rfl) (by decide) (kB (dK (dK (dK (dK (dK (kC))))))))))
   .refine ws _ ?_;refine aF h (λoG h=>?_) (λoG h=>?_)
    .obtain⟨gz,qB,h⟩:=ao h;obtain⟨hG,zJ,h⟩:=ao h;refine eH qB (X2 gz a3 _ zJ) _ ?_;refine aF h (λGw h=>?_) (λGw h=>?_)
     .obtain⟨eZ,Ki,h⟩:=ao h;refine eQ (cI [(10,.aj 4 (eZ.map cU))] (λP bu=>?_) ?_)
      ·(try simp only[aT.down,simprocAttr]);refine ow [⟨.slice (a0.map ba),false,_,.hole⟩,⟨.int .i64 J,false,_,.hole⟩,⟨.int .i64 (i64.wrap (a2+1)),false,_,.hole⟩,⟨.slice (a3.map a1),false,_,.hole⟩,⟨.h 4 [],true,_,.hole⟩] (Kh a0 J (i64.wrap (a2+1)) a3 a4 _ Ki) rfl rfl rfl (by simp only[aT.down,simprocAttr,P4.down]) rfl rfl (.inl rfl) ?_;simp only[aT.down,simprocAttr,nY];exact cc trivial
      exact aw (fp _ (.inl (kb [.aj 4 (eZ.map cU)] rfl (by cases gl h;rfl) (by decide) (kB (dK (dK (dK (dK (dK (kC))))))))))
     .exact aJ (fE _ (cf _ (.inr ⟨_,aY rfl,zy a4 h⟩)))
    .refine ws _ ?_;refine aF h (λuF h=>?_) (λuF h=>?_)
     .refine ws _ ?_;refine bn fp (λGr xM vM vO Kd=>?_);have Gp:∀n tT kR,Bu l1 a0 J a2 a3 af n tT kR=some r->cX ah WV Gr (aq [(0,.slice (a0.map ba)),(1,.int .i64 J),(2,.int .i64 a2),(3,.slice (a3.map a1)),(4,.aj 4 (tT.map cU)),(12,.aM (eh af)),(14,.int .i64 kR)]):=by
       refine dd (λQx Gq tT kR h=>dc vM (λGl pS qy CC=>?_));refine az qy (λavJ amd avK ame=>?_);refine ws _ ?_;refine aF h (λQO h=>?_) (λQO h=>?_)
       .refine aJ (amd _ (.inl ?_));refine az qy (λamf QP Kj Yb=>?_);refine bn Kj (λQG Kg QH Ke QI=>?_);obtain⟨ft,vP,h⟩:=ao h;obtain⟨avL,oe,h⟩:=ao h;(try simp only[fQ.down,Nat.zero_add,Nat.add_zero,reduceAdd]at oe);obtain⟨hV,Gx,h⟩:=ao h;refine jh (cI [(0,.slice (a0.map ba)),(1,.int .i64 J),(2,.int .i64 a2),(3,.slice (a3.map a1)),(4,.aj 4 (hV.map cU)),(12,.aM (eh af)),(14,.int .i64 kR)] (λP bu=>?_) ?_)
        ·(try simp only[aT.down,simprocAttr,(show∀s,dO ah s 48 1 [(0,.int .i64 kR)]=some (.aj 1 [.int .i64 kR],s)from λs=>by kernel_rfl),Cx.down,oe,I.shares]);refine dR (QJ a3 _ vP) rfl rfl rfl rfl (.inl (by rfl)) ?_;simp only[aT.down,simprocAttr,(show∀s,dO ah s 48 1 [(0,.int .i64 kR)]=some (.aj 1 [.int .i64 kR],s)from λs=>by kernel_rfl),Cx.down,oe,I.shares];refine ow [⟨.slice (a0.map ba),false,_,.hole⟩,⟨.int .i64 J,false,_,.hole⟩,⟨.int .i64 (i64.wrap (a2+1)),false,_,.hole⟩,⟨.slice ((ft++[kR]).map a1),false,_,.hole⟩,⟨.h 4 [],true,_,.hole⟩] (Kh a0 J (i64.wrap (a2+1)) (ft++[kR]) tT _ Gx) rfl rfl (by simp only[aT.down,simprocAttr,(show∀s,dO ah s 48 1 [(0,.int .i64 kR)]=some (.aj 1 [.int .i64 kR],s)from λs=>by kernel_rfl),Xw.down,oe,I.shares]) (by simp only[aT.down,simprocAttr,(show∀s,dO ah s 48 1 [(0,.int .i64 kR)]=some (.aj 1 [.int .i64 kR],s)from λs=>by kernel_rfl), @kc ah 48 48 2 rfl rfl,kd,ke,gH,all_cons,all_nil,oe, @jy _ a1 1 (λ_=>rfl),n2,n1,I.shares,cY,n0, @b0 _ a1 a1 (λ_=>jW _),o5,pA,pB,i6,i7,i_,cY,or_true,true_or, @b0 _ cU cU (λ_=>Cw _)]) rfl rfl (.inl rfl) ?_;simp only[aT.down,simprocAttr,(show∀s,dO ah s 48 1 [(0,.int .i64 kR)]=some (.aj 1 [.int .i64 kR],s)from λs=>by kernel_rfl),Xx.down,oe,I.shares];exact cc (R (show∀s,dO ah s 48 1 [(0,.int .i64 kR)]=some (.aj 1 [.int .i64 kR],s)from λs=>by kernel_rfl) (R Cx.down oe))
        refine Kg _ (QP _ (.inl ?_));refine wr _ ?_;exact pS _ (.inr ⟨_,aY rfl,Gq hV (i64.wrap (kR+1)) h⟩)
       .exact c7 (ame 1 _ (CC 1 _ (vO _ (fE _ (cf _ (.inr ⟨_,aY rfl,zy tT h⟩))))))
      obtain⟨n,h⟩:=cS h;exact db (.inr ⟨_,aY rfl,Gp n a4 0 h⟩)
     .exact aJ (fE _ (cf _ (.inr ⟨_,aY rfl,zy a4 h⟩)))
theorem amg:∀n a0 J a2 a3 a4 r,q3 n a0 J a2 a3 a4=some r->aV ah 56 [.slice (a0.map ba),.int .i64 J,.int .i64 a2,.slice (a3.map a1),.aj 4 (a4.map cU)] (.aj 4 (r.map cU)) [.hole,.hole,.hole,.hole,.hole]:=by
 intro n;induction n with
 |zero=>intro a0 J a2 a3 a4 r h;cases(show none=some r from h)
 |succ n ih=>intro a0 J a2 a3 a4 r h;exact amc (q3 n) ih a0 J a2 a3 a4 r h
theorem amh (a0 J a2 a3 a4 r) (h:IL a0 J a2 a3 a4=some r):aV ah 56 [.slice (a0.map ba),.int .i64 J,.int .i64 a2,.slice (a3.map a1),.aj 4 (a4.map cU)] (.aj 4 (r.map cU)) [.hole,.hole,.hole,.hole,.hole]:=by
 obtain⟨n,h⟩:=cS h;exact amg n a0 J a2 a3 a4 r h
theorem Yc (a0 J r) (h:tU a0 J=some r):aV ah 36 [.slice (a0.map ba),.ref (bz J)] (.tuple [.aj 4 (r.1.map cU),.bool r.2]) []:=by
 refine bA [0,1] [.tmp 4,.tmp 5] Tryz.func36 aiE (λbt ai bq=>?_);refine ws _ ?_;obtain⟨U,aR,h⟩:=ao h;refine i1 rfl (ig [(6,.aj 4 (U.map cU))] (λP bu=>?_) ?_)
 ·(try simp only[cV.down,simprocAttr,(show∀s,dO ah s 83 0 []=some (.aj 4 [],s)from λs=>by kernel_rfl)]);refine M0 [⟨.slice (a0.map ba),false,_,.hole⟩,⟨.int .i64 J.cD,false,_,.hole⟩,⟨.int .i64 J.Part,false,_,.hole⟩,⟨.slice (J.bV.map a1),false,_,.hole⟩,⟨.h 20 [],true,_,.hole⟩] (amh a0 J.cD J.Part J.bV [] _ aR) rfl rfl rfl (by simp only[cV.down,simprocAttr,(show∀s,dO ah s 83 0 []=some (.aj 4 [],s)from λs=>by kernel_rfl),o5,pA,pB,i6,i7,i_,cY,or_true,true_or, @b0 _ cU cU (λ_=>Cw _)]) rfl rfl (.inl rfl) ?_;simp only[cV.down,simprocAttr,(show∀s,dO ah s 83 0 []=some (.aj 4 [],s)from λs=>by kernel_rfl),nY];refine⟨hF (by kernel_rfl),?_⟩;exact cc (show∀s,dO ah s 83 0 []=some (.aj 4 [],s)from λs=>by kernel_rfl)
 refine ws _ ?_;exact aw (ai _ (.inl (ay [.aj 4 (U.map cU),.bool (decide ((U.length:Int)<=200))])))
theorem Yd (a0 r) (h:y6 a0=some r):aV ah 57 [.str a0] (.int .i64 r) []:=by
 refine bA [0] [.tmp 2] Tryz.func57 aiF (λbt ai bq=>?_);refine ws _ ?_;refine az ai (λdJ bL bf af=>?_);refine ws _ ?_;refine bn bf (λei dS bR bU a_=>?_);show bk ah (.loop ?fP) _ _;have gK:∀n im,xl a0 n im=some r->cX ah ?fP ei (aq [(0,.str a0),(3,.int .i64 im)]):=by
  refine dd (λm6 fM im h=>dc bR (λgR dZ df bo=>?_));refine az df (λeA cR cH bD=>?_);refine ws _ ?_;refine aF h (λcy h=>?_) (λcy h=>?_)
  .refine aJ (cR _ (.inl ?_));refine az df (λek cE cd ch=>?_);refine bn cd (λe0 cf cn dX cv=>?_);obtain⟨U,e1,h⟩:=ao h;refine c1 e1 _ ?_;refine aF h (λeX h=>?_) (λeX h=>?_)
   .refine ws _ ?_;exact aw (cn _ (.inl (ay [.int .i64 im])))
   .refine aJ (cf _ (cE _ (.inl ?_)));refine wr _ ?_;exact dZ _ (.inr ⟨_,aY rfl,fM (i64.wrap (im+1)) h⟩)
  .refine c7 (bD 0 _ (bo 0 _ (bU _ (bL _ (.inl ?_)))));refine ws _ ?_;exact aw (ai _ (.inl (ay [.int .i64 (a0.length:Int)])))
 obtain⟨n,h⟩:=cS h;exact db (.inr ⟨_,aY rfl,gK n 0 h⟩)
theorem Kk (a0 r) (h:sr a0=some r):aV ah 38 [.str a0] (.str r) []:=by
 refine bA [0] [.tmp 2] Tryz.func38 aiG (λbt ai bq=>?_);refine ws _ ?_;obtain⟨U,aR,h⟩:=ao h;obtain⟨af,bW,h⟩:=ao h;refine eH bW (Yd a0 _ aR) _ ?_;exact aw (ai _ (.inl (ay [.str af])))
theorem QQ (a0 J r) (h:Bw a0 J=some r):aV ah 37 [.slice (a0.map aW),.str J] (.int .i64 r) []:=by
 refine bA [0,1] [.tmp 4] Tryz.func37 c37 (λbt ai bq=>?_);refine ws _ ?_;refine az ai (λdJ bL bf af=>?_);refine ws _ ?_;refine bn bf (λei dS bR bU a_=>?_);show bk ah (.loop ?fP) _ _;have gK:∀n eD,Bv a0 J n eD=some r->cX ah ?fP ei (aq [(0,.slice (a0.map aW)),(1,.str J),(5,.int .i64 eD)]):=by
  refine dd (λm6 fM eD h=>dc bR (λgR dZ df bo=>?_));refine az df (λeA cR cH bD=>?_);refine ws _ ?_;refine aF h (λcy h=>?_) (λcy h=>?_)
  .refine aJ (cR _ (.inl ?_));refine az df (λek cE cd ch=>?_);refine bn cd (λe0 cf cn dX cv=>?_);obtain⟨U,e1,h⟩:=ao h;refine c1 e1 _ ?_;refine aF h (λeX h=>?_) (λeX h=>?_)
   .refine ws _ ?_;exact aw (cn _ (.inl (ay [.int .i64 eD])))
   .refine aJ (cf _ (cE _ (.inl ?_)));refine wr _ ?_;exact dZ _ (.inr ⟨_,aY rfl,fM (i64.wrap (eD+1)) h⟩)
  .refine c7 (bD 0 _ (bo 0 _ (bU _ (bL _ (.inl ?_)))));refine ws _ ?_;exact aw (ai _ (.inl (ay [.int .i64 (-1)])))
 obtain⟨n,h⟩:=cS h;exact db (.inr ⟨_,aY rfl,gK n 0 h⟩)
theorem CK (a0 r) (h:vq a0=some r):aV ah 39 [.slice (a0.map bz)] (.aj 3 (r.map eV)) []:=by
 refine bA [0] [.tmp 2] Tryz.func39 aiH (λbt ai bq=>?_);refine ws _ ?_;refine c1 (show∀s,dO ah s 38 0 []=some (.aj 3 [],s)from λs=>by kernel_rfl) _ ?_;refine az ai (λjl e7 de aK=>?_);refine ws _ ?_;refine bn de (λgR dZ df cP bo=>?_);show bk ah (.loop ?h4) _ _;have iC:∀n bT bJ,Bx a0 n bT bJ=some r->cX ah ?h4 gR (aq [(0,.slice (a0.map bz)),(3,.aj 3 (bT.map eV)),(4,.int .i64 bJ)]):=by
  refine dd (λm8 iD bT bJ h=>dc df (λeA cR cH bD=>?_));refine az cH (λgu dx dE bj=>?_);refine ws _ ?_;refine aF h (λeR h=>?_) (λeR h=>?_)
  .refine aJ (dx _ (.inl ?_));refine az cH (λe0 cf cn cv=>?_);refine bn cn (λhY eK fL lJ dP=>?_);obtain⟨U,fi,h⟩:=ao h;obtain⟨af,dB,h⟩:=ao h;obtain⟨u16,fq,h⟩:=ao h;(try simp only[fQ.down,Nat.zero_add,Nat.add_zero,reduceAdd]at fq);refine MQ rfl (ig [(0,.slice (a0.map bz)),(3,.aj 3 ((bT++[(bd.mk U.cD U.Part af)]).map eV)),(4,.int .i64 bJ)] (λP bu=>?_) ?_)
   ·(try simp only[cV.down,simprocAttr,fi,P5.down,eb,dF,nX,fq]);refine hL (QJ U.bV _ dB) rfl rfl rfl rfl (.inl (by rfl)) ?_;simp only[cV.down,simprocAttr,fi,P5.down,eb,dF,nX,fq];refine⟨hF (by kernel_rfl),?_⟩;(try simp only[jX.down,simprocAttr,fi,P5.down,eb,dF,nX,fq]at bu⊢);exact bu
   refine eK _ (cf _ (.inl ?_));refine wr [(0,.slice (a0.map bz)),(3,.aj 3 ((bT++[(bd.mk U.cD U.Part af)]).map eV)),(4,.int .i64 (i64.wrap (bJ+1)))] ?_;exact cR _ (.inr ⟨_,aY rfl,iD (bT++[(bd.mk U.cD U.Part af)]) (i64.wrap (bJ+1)) h⟩)
  .refine c7 (bj 0 _ (bD 0 _ (cP _ (e7 _ (.inl ?_)))));refine ws _ ?_;exact aw (ai _ (.inl (ay [.aj 3 (bT.map eV)])))
 obtain⟨n,h⟩:=cS h;exact db (.inr ⟨_,aY rfl,iC n [] 0 h⟩)
theorem QR (a0 J r) (h:Bz a0 J=some r):aV ah 41 [.ref (fe a0),.str J] (.str r) []:=by
 refine bA [0,1] [.tmp 4] Tryz.func41 aiI (λbt ai bq=>?_);refine ws _ ?_;refine az ai (λdJ bL bf af=>?_);obtain⟨U,bW,h⟩:=ao h;obtain⟨af,cM,h⟩:=ao h;refine i1 rfl (ig [(1,.str J),(12,.bool (decide (0<=af)))] (λP bu=>?_) ?_)
 ·(try simp only[cV.down,simprocAttr]);refine hL (Kk J _ bW) rfl rfl rfl rfl (.inl (by rfl)) ?_;simp only[cV.down,simprocAttr];refine hL (QQ a0.ct U _ cM) rfl rfl rfl rfl (.inl (by rfl)) ?_;simp only[cV.down,simprocAttr];refine⟨hF (by kernel_rfl),?_⟩;exact cc trivial
 refine aF h (λdn h=>?_) (λdn h=>?_)
 .refine ws _ ?_;exact aw (bf _ (.inl (ay [.str ([116,97,117]:axa)])))
 .refine aJ (bL _ (.inl ?_));refine ws _ ?_;exact aw (ai _ (.inl (ay [.str J])))
theorem ami (a0 J r) (h:IM a0 J=some r):aV ah 59 [.slice (a0.map bz),.slice (J.map bz)] (.bool r) []:=by
 refine bA [0,1] [.tmp 4] Tryz.func59 c59 (λbt ai bq=>?_);refine ws _ ?_;refine az ai (λdJ bL bf af=>?_);refine ws _ ?_;refine aF h (λbU h=>?_) (λbU h=>?_)
 .refine ws _ ?_;exact aw (bf _ (.inl (ay [.bool false])))
 .refine aJ (bL _ (.inl ?_));refine az ai (λeA cR cH bD=>?_);refine ws _ ?_;refine bn cH (λgk gf fY cy cu=>?_);show bk ah (.loop ?gU) _ _;have ho:∀n cb,BA a0 J n cb=some r->cX ah ?gU gk (aq [(0,.slice (a0.map bz)),(1,.slice (J.map bz)),(5,.int .i64 cb)]):=by
   refine dd (λm14 gW cb h=>dc fY (λek cE cd ch=>?_));refine az cd (λe0 cf cn cv=>?_);refine ws _ ?_;refine aF h (λeE h=>?_) (λeE h=>?_)
   .refine aJ (cf _ (.inl ?_));refine az cd (λkG fE fp hG=>?_);refine bn fp (λhv ez ee fw eZ=>?_);obtain⟨U,cC,h⟩:=ao h;obtain⟨af,dL,h⟩:=ao h;obtain⟨aK,e4,h⟩:=ao h;refine mr (R cC dL) (X_ U af _ e4) _ ?_;refine aF h (λgg h=>?_) (λgg h=>?_)
    .refine ws _ ?_;exact aw (ee _ (.inl (ay [.bool false])))
    .refine aJ (ez _ (fE _ (.inl ?_)));refine wr _ ?_;exact cE _ (.inr ⟨_,aY rfl,gW (i64.wrap (cb+1)) h⟩)
   .refine c7 (cv 0 _ (ch 0 _ (cy _ (cR _ (.inl ?_)))));refine ws _ ?_;exact aw (ai _ (.inl (ay [.bool true])))
  obtain⟨n,h⟩:=cS h;exact db (.inr ⟨_,aY rfl,ho n 0 h⟩)
theorem QS (a0 J r) (h:y7 a0 J=some r):aV ah 40 [.aj 4 (a0.map gA),gA J] (.aj 4 (r.map gA)) [.hole,.hole]:=by
 refine bA [0,1] [.tmp 4] Tryz.func40 c40 (λbt ai bq=>?_);refine ws _ ?_;refine az ai (λdJ bL bf af=>?_);refine ws _ ?_;refine bn bf (λei dS bR bU a_=>?_);show bk ah (.loop ?fP) _ _;have gK:∀n eD,BB a0 J n eD=some r->cX ah ?fP ei (aq [(0,.aj 4 (a0.map gA)),(3,.aM (gA J)),(5,.int .i64 eD)]):=by
  refine dd (λm6 fM eD h=>dc bR (λgR dZ df bo=>?_));refine az df (λeA cR cH bD=>?_);refine ws _ ?_;refine aF h (λcy h=>?_) (λcy h=>?_)
  .refine aJ (cR _ (.inl ?_));refine az df (λek cE cd ch=>?_);refine bn cd (λe0 cf cn dX cv=>?_);obtain⟨U,e1,h⟩:=ao h;refine c1 (R e1 (dy e1)) _ ?_;rcases dr h with⟨fw,h⟩|⟨fw,h⟩
   .rcases dr h with⟨dY,h⟩|⟨dY,h⟩
    .rcases dr h with⟨nn,h⟩|⟨nn,h⟩
     .obtain⟨af,dL,h⟩:=ao h;refine eH (R fw (R dY nn)) (ami U.State J.State _ dL) _ ?_;refine aF h (λhD h=>?_) (λhD h=>?_)
      .refine ws _ ?_;exact aw (cn _ (.inl (kb [.aj 4 (a0.map gA)] rfl (by cases gl h;rfl) (by decide) (kB (dK (dK (kC)))))))
      .refine aJ (cf _ (cE _ (.inl ?_)));refine wr _ ?_;exact dZ _ (.inr ⟨_,aY rfl,fM (i64.wrap (eD+1)) h⟩)
     .refine c1 (R fw (R dY nn)) _ ?_;refine nW rfl ?_;refine aJ (cf _ (cE _ (.inl ?_)));refine wr _ ?_;exact dZ _ (.inr ⟨_,aY rfl,fM (i64.wrap (eD+1)) h⟩)
    .refine c1 (R fw dY) _ ?_;refine nW rfl ?_;refine aJ (cf _ (cE _ (.inl ?_)));refine wr _ ?_;exact dZ _ (.inr ⟨_,aY rfl,fM (i64.wrap (eD+1)) h⟩)
   .refine c1 fw _ ?_;refine nW rfl ?_;refine aJ (cf _ (cE _ (.inl ?_)));refine wr _ ?_;exact dZ _ (.inr ⟨_,aY rfl,fM (i64.wrap (eD+1)) h⟩)
  .refine c7 (bD 0 _ (bo 0 _ (bU _ (bL _ (.inl ?_)))));obtain⟨ama,ir,h⟩:=ao h;(try simp only[fQ.down,Nat.zero_add,Nat.add_zero,reduceAdd]at ir);refine c1 (R (show∀s,dO ah s 53 1 [(0,.agg [.str J.Label,.int .i64 J.nC,.int .i64 J.Second,.slice (J.State.map bz)])]=some (.aj 4 [.agg [.str J.Label,.int .i64 J.nC,.int .i64 J.Second,.slice (J.State.map bz)]],s)from λs=>by kernel_rfl) (R (@kc ah 53 53 95 rfl rfl) (R @kd (R @ke (R @gH (R @all_cons (R @all_nil (R ir (@jy _ gA 4 (λ_=>rfl)))))))))) [(4,.aj 4 ((a0++[J]).map gA))] ?_;exact aw (ai _ (.inl (kb [.aj 4 ((a0++[J]).map gA)] rfl (by cases gl h;rfl) (by decide) (kB (dK (dK (kC)))))))
 obtain⟨n,h⟩:=cS h;exact db (.inr ⟨_,aY rfl,gK n 0 h⟩)
theorem amj (a0 J r) (h:IQ a0 J=some r):aV ah 89 [.str a0,.int .u8 (J.toNat:Int)] (.aj 1 (r.map aW)) []:=by
 refine bA [0,1] [.tmp 4] Tryz.func89 aiJ (λbt ai bq=>?_);refine ws _ ?_;refine c1 (show∀s,dO ah s 25 0 []=some (.aj 1 [],s)from λs=>by kernel_rfl) _ ?_;refine ws _ ?_;refine az ai (λei dS bR a_=>?_);refine ws _ ?_;refine bn bR (λeA cR cH dn bD=>?_);show bk ah (.loop ?zu) _ _;have zK:∀n jU la gb,y8 a0 J n jU la gb=some r->cX ah ?zu eA (aq [(0,.str a0),(1,.int .u8 (J.toNat:Int)),(5,.aj 1 (jU.map aW)),(6,.int .i64 la),(7,.int .i64 gb)]):=by
  refine dd (λm10 zL jU la gb h=>dc cH (λgu dx dE bj=>?_));refine az dE (λgk gf fY cu=>?_);refine ws _ ?_;refine aF h (λdX h=>?_) (λdX h=>?_)
  .refine aJ (gf _ (.inl ?_));show bk ah (.seq _ ?PZ) _ _;have Ye:∀BC BD BE,IP (y8 a0 J m10) a0 J BC BD BE=some r->bk ah ?PZ gu (aq [(0,.str a0),(1,.int .u8 (J.toNat:Int)),(5,.aj 1 (BC.map aW)),(6,.int .i64 BD),(7,.int .i64 BE)]):=by
    intro BC BD BE h;refine wr _ ?_;exact dx _ (.inr ⟨_,aY rfl,zL BC BD (i64.wrap (BE+1)) h⟩)
   refine az dE (λhY eK fL dP=>?_);refine bn fL (λkG fE fp eX hG=>?_);obtain⟨U,fq,h⟩:=ao h;refine c1 fq _ ?_;refine aF h (λnn h=>?_) (λnn h=>?_)
   .obtain⟨af,e4,h⟩:=ao h;obtain⟨QL,gB,h⟩:=ao h;(try simp only[fQ.down,Nat.zero_add,Nat.add_zero,reduceAdd]at gB);refine c1 (R e4 (R (show∀s,dO ah s 25 1 [(0,.str af)]=some (.aj 1 [.str af],s)from λs=>by kernel_rfl) (R (@kc ah 25 25 9 rfl rfl) (R @kd (R @ke (R @gH (R @all_cons (R @all_nil (R gB (@jy _ aW 1 (λ_=>rfl))))))))))) [(0,.str a0),(1,.int .u8 (J.toNat:Int)),(5,.aj 1 ((jU++[af]).map aW)),(7,.int .i64 gb)] ?_;refine wr [(0,.str a0),(1,.int .u8 (J.toNat:Int)),(5,.aj 1 ((jU++[af]).map aW)),(6,.int .i64 (i64.wrap (gb+1))),(7,.int .i64 gb)] ?_;exact fE _ (eK _ (.inr ⟨_,aY rfl,Ye (jU++[af]) (i64.wrap (gb+1)) gb h⟩))
   .exact aJ (fE _ (eK _ (.inr ⟨_,aY rfl,Ye jU la gb h⟩)))
  .refine c7 (cu 0 _ (bj 0 _ (dn _ (dS _ (.inl ?_)))));obtain⟨aK,gJ,h⟩:=ao h;obtain⟨avM,jm,h⟩:=ao h;(try simp only[fQ.down,Nat.zero_add,Nat.add_zero,reduceAdd]at jm);refine c1 (R gJ (R (show∀s,dO ah s 25 1 [(0,.str aK)]=some (.aj 1 [.str aK],s)from λs=>by kernel_rfl) (R (@kc ah 25 25 9 rfl rfl) (R @kd (R @ke (R @gH (R @all_cons (R @all_nil (R jm (@jy _ aW 1 (λ_=>rfl))))))))))) [(4,.aj 1 ((jU++[aK]).map aW))] ?_;exact aw (ai _ (.inl (ay [.aj 1 ((jU++[aK]).map aW)])))
 obtain⟨n,h⟩:=cS h;exact db (.inr ⟨_,aY rfl,zK n [] 0 0 h⟩)
theorem amk (a0 r) (h:IU a0=some r):aV ah 90 [.str a0] (.tuple [.int .i64 r.1,.bool r.2]) []:=by
 refine bA [0] [.tmp 2,.tmp 3] Tryz.func90 aiK (λbt ai bq=>?_);refine ws _ ?_;refine ws _ ?_;show bk ah (.seq _ ?zu) _ _;have QT:∀hW,BF a0 hW=some r->bk ah ?zu bt (aq [(0,.str a0),(4,.int .i64 hW)]):=by
  intro hW h;refine az ai (λei dS bR a_=>?_);rcases dr h with⟨dn,h⟩|⟨dn,h⟩
  .refine c1 dn _ ?_;refine iM rfl ?_;refine ws _ ?_;exact aw (bR _ (.inl (ay [.int .i64 0,.bool false])))
  .rcases dr h with⟨cy,h⟩|⟨cy,h⟩
   .refine c1 (R dn cy) _ ?_;refine iM rfl ?_;refine ws _ ?_;exact aw (bR _ (.inl (ay [.int .i64 0,.bool false])))
   .obtain⟨U,ic,h⟩:=ao h;rcases dr h with⟨lJ,h⟩|⟨lJ,h⟩
    .refine c1 (R dn (R cy (R ic lJ))) _ ?_;refine aF h (λeE h=>?_) (λeE h=>?_)
     .refine ws _ ?_;exact aw (bR _ (.inl (ay [.int .i64 0,.bool false])))
     .refine aJ (dS _ (.inl ?_));refine ws _ ?_;refine az ai (λkF gd gj ft=>?_);refine ws _ ?_;refine bn gj (λpe kk kl kj jD=>?_);show bk ah (.loop ?c24) _ _;have QU:∀n nk o8,vr a0 hW n nk o8=some r->cX ah ?c24 pe (aq [(0,.str a0),(4,.int .i64 hW),(5,.int .i64 nk),(6,.int .i64 o8)]):=by
       refine dd (λm24 QV nk o8 h=>dc kl (λGu ry sZ pG=>?_));refine az sZ (λJ5 rp zw lD=>?_);refine ws _ ?_;refine aF h (λsX h=>?_) (λsX h=>?_)
       .refine aJ (rp _ (.inl ?_));refine az sZ (λxB oc nI lb=>?_);refine bn nI (λYf Gy Kl fZ mM=>?_);refine az Kl (λGt CG CH zb=>?_);obtain⟨af,sT,h⟩:=ao h;obtain⟨aK,vG,h⟩:=ao h;refine eH sT (Qg af _ vG) _ ?_;refine aF h (λjY h=>?_) (λjY h=>?_)
        .refine ws _ ?_;exact aw (CH _ (.inl (ay [.int .i64 0,.bool false])))
        .refine aJ (CG _ (.inl ?_));refine sM (R sT (@MT ah 5 2 .i64 rfl rfl)) _ ?_;refine Gy _ (oc _ (.inl ?_));refine wr _ ?_;exact ry _ (.inr ⟨_,aY rfl,QV (i64.wrap ((i64.wrap (10*nk))+(i64.wrap (u8.wrap ((af.toNat:Int)-48))))) (i64.wrap (o8+1)) h⟩)
       .refine c7 (lD 0 _ (pG 0 _ (kj _ (gd _ (.inl ?_)))));show bk ah (.seq _ ?c49) _ _;have Gz:∀ss,Fa ss=some r->bk ah ?c49 bt (aq [(5,.int .i64 ss)]):=by
         intro ss h;refine ws _ ?_;exact aw (ai _ (.inl (ay [.int .i64 ss,.bool true])))
        refine az ai (λavN GA avO avP=>?_);refine ws _ ?_;refine aF h (λzE h=>?_) (λzE h=>?_)
        .refine wr _ ?_;exact GA _ (.inr ⟨_,aY rfl,Gz (i64.wrap (0-nk)) h⟩)
        .exact aJ (GA _ (.inr ⟨_,aY rfl,Gz nk h⟩))
      obtain⟨n,h⟩:=cS h;exact db (.inr ⟨_,aY rfl,QU n 0 hW h⟩)
    .refine c1 (R dn (R cy (R ic lJ))) _ ?_;refine nW rfl ?_;refine aJ (dS _ (.inl ?_));refine ws _ ?_;refine az ai (λXT XU QC alK=>?_);refine ws _ ?_;refine bn QC (λXV XW XX Gw XY=>?_);show bk ah (.loop ?c24) _ _;have QU:∀n nk o8,vr a0 hW n nk o8=some r->cX ah ?c24 XV (aq [(0,.str a0),(4,.int .i64 hW),(5,.int .i64 nk),(6,.int .i64 o8)]):=by
      refine dd (λm24 QV nk o8 h=>dc XX (λxL uG sR CE=>?_));refine az sR (λQy zF vL zG=>?_);refine ws _ ?_;refine aF h (λuF h=>?_) (λuF h=>?_)
      .refine aJ (zF _ (.inl ?_));refine az sR (λavQ QW aml avR=>?_);refine bn aml (λGr xM vM vO Kd=>?_);refine az vM (λGl pS qy CC=>?_);obtain⟨a_,sS,h⟩:=ao h;obtain⟨bo,Gs,h⟩:=ao h;refine eH sS (Qg a_ _ Gs) _ ?_;refine aF h (λamm h=>?_) (λamm h=>?_)
       .refine ws _ ?_;exact aw (qy _ (.inl (ay [.int .i64 0,.bool false])))
       .refine aJ (pS _ (.inl ?_));refine sM (R sS (@MT ah 5 2 .i64 rfl rfl)) _ ?_;refine xM _ (QW _ (.inl ?_));refine wr _ ?_;exact uG _ (.inr ⟨_,aY rfl,QV (i64.wrap ((i64.wrap (10*nk))+(i64.wrap (u8.wrap ((a_.toNat:Int)-48))))) (i64.wrap (o8+1)) h⟩)
      .refine c7 (zG 0 _ (CE 0 _ (Gw _ (XU _ (.inl ?_)))));show bk ah (.seq _ ?c49) _ _;have Gz:∀ss,Fa ss=some r->bk ah ?c49 bt (aq [(5,.int .i64 ss)]):=by
        intro ss h;refine ws _ ?_;exact aw (ai _ (.inl (ay [.int .i64 ss,.bool true])))
       refine az ai (λamn Km Yg amo=>?_);refine ws _ ?_;refine aF h (λKb h=>?_) (λKb h=>?_)
       .refine wr _ ?_;exact Km _ (.inr ⟨_,aY rfl,Gz (i64.wrap (0-nk)) h⟩)
       .exact aJ (Km _ (.inr ⟨_,aY rfl,Gz nk h⟩))
     obtain⟨n,h⟩:=cS h;exact db (.inr ⟨_,aY rfl,QU n 0 hW h⟩)
 refine az ai (λjl e7 de aK=>?_);rcases dr h with⟨zC,h⟩|⟨zC,h⟩
 .obtain⟨bD,amp,h⟩:=ao h;refine c1 (R zC amp) _ ?_;refine aF h (λamq h=>?_) (λamq h=>?_)
  .refine wr _ ?_;exact e7 _ (.inr ⟨_,aY rfl,QT 1 h⟩)
  .exact aJ (e7 _ (.inr ⟨_,aY rfl,QT 0 h⟩))
 .refine c1 zC _ ?_;refine nW rfl ?_;exact aJ (e7 _ (.inr ⟨_,aY rfl,QT 0 h⟩))
theorem Yh (a0 r) (h:y_ a0=some r):aV ah 60 [.str a0] (.tuple [.aj 1 (r.1.map a1),.bool r.2]) []:=by
 refine bA [0] [.tmp 2,.tmp 3] Tryz.func60 aiL (λbt ai bq=>?_);refine ws _ ?_;obtain⟨U,aR,h⟩:=ao h;refine cB (Yd a0 _ aR) _ ?_;refine az ai (λei dS bR a_=>?_);refine ws _ ?_;refine aF h (λdn h=>?_) (λdn h=>?_)
 .obtain⟨af,fu,h⟩:=ao h;refine eH (show∀s,dO ah s 48 0 []=some (.aj 1 [],s)from λs=>by kernel_rfl) (Cz a0 _ fu) _ ?_;exact aw (bR _ (.inl (ay [.aj 1 [],.bool af])))
 .refine aJ (dS _ (.inl ?_));refine az ai (λek cE cd ch=>?_);obtain⟨aK,kK,h⟩:=ao h;obtain⟨a_,e1,h⟩:=ao h;rcases dr h with⟨eX,h⟩|⟨eX,h⟩
  .refine eH (R kK (hb eX)) (rv aK _ e1) _ ?_;refine iM rfl ?_;refine ws _ ?_;exact aw (cd _ (.inr ⟨[(2,.aj 1 []),(3,.bool false)],ij [] rfl (h6 (t:=2) (d:=.a8) rfl rfl (.iz _) (by decide) (cF rfl (ik))),ay [.aj 1 [],.bool false]⟩))
  .obtain⟨bo,fq,h⟩:=ao h;refine eH (R kK (R (b1 eX) fq)) (rv aK _ e1) _ ?_;refine aF h (λnn h=>?_) (λnn h=>?_)
   .refine ws _ ?_;exact aw (cd _ (.inr ⟨[(2,.aj 1 []),(3,.bool false)],ij [] rfl (h6 (t:=2) (d:=.a8) rfl rfl (.iz _) (by decide) (cF rfl (ik))),ay [.aj 1 [],.bool false]⟩))
   .refine aJ (cE _ (.inl ?_));obtain⟨bD,gB,h⟩:=ao h;obtain⟨bj,gL,h⟩:=ao h;refine eH gB (amj bD (44:UInt8) _ gL) _ ?_;refine c1 (show∀s,dO ah s 48 0 []=some (.aj 1 [],s)from λs=>by kernel_rfl) _ ?_;refine az ai (λxB oc nI lb=>?_);refine ws _ ?_;refine bn nI (λGt CG CH h0 zb=>?_);show bk ah (.loop ?c28) _ _;have amr:∀n o9 q4,y9 bj n o9 q4=some r->cX ah ?c28 Gt (aq [(5,.aj 1 (bj.map aW)),(6,.aj 1 (o9.map a1)),(7,.int .i64 q4)]):=by
     refine dd (λavS ams o9 q4 h=>dc CH (λxJ sQ oF qj=>?_));refine az oF (λGg sO ru pH=>?_);refine ws _ ?_;refine aF h (λjY h=>?_) (λjY h=>?_)
     .refine aJ (sO _ (.inl ?_));refine az oF (λCA pQ pR vI=>?_);refine bn pR (λGh sP xF od zz=>?_);obtain⟨cu,sV,h⟩:=ao h;obtain⟨ch,pT,h⟩:=ao h;refine eH (R sV (dy sV)) (amk cu _ pT) _ ?_;refine az xF (λJ9 zA xG J_=>?_);rcases dr h with⟨oG,h⟩|⟨oG,h⟩
      .refine c1 (hb oG) _ ?_;refine iM rfl ?_;refine ws _ ?_;exact aw (xG _ (.inr ⟨[(2,.aj 1 []),(3,.bool false)],ij [] rfl (h6 (t:=2) (d:=.a8) rfl rfl (.iz _) (by decide) (cF rfl (ik))),ay [.aj 1 [],.bool false]⟩))
      .obtain⟨cv,qB,h⟩:=ao h;refine eH (b1 oG) (pd ch.1 0 63 _ qB) _ ?_;refine aF h (λvQ h=>?_) (λvQ h=>?_)
       .refine ws _ ?_;exact aw (xG _ (.inr ⟨[(2,.aj 1 []),(3,.bool false)],ij [] rfl (h6 (t:=2) (d:=.a8) rfl rfl (.iz _) (by decide) (cF rfl (ik))),ay [.aj 1 [],.bool false]⟩))
       .refine aJ (zA _ (.inl ?_));obtain⟨al8,Ki,h⟩:=ao h;(try simp only[fQ.down,Nat.zero_add,Nat.add_zero,reduceAdd]at Ki);refine sM (R (show∀s,dO ah s 48 1 [(0,.int .i64 ch.1)]=some (.aj 1 [.int .i64 ch.1],s)from λs=>by kernel_rfl) (R (@kc ah 48 48 2 rfl rfl) (R @kd (R @ke (R @gH (R @all_cons (R @all_nil (R Ki (@jy _ a1 1 (λ_=>rfl)))))))))) [(5,.aj 1 (bj.map aW)),(6,.aj 1 ((o9++[ch.1]).map a1)),(7,.int .i64 q4)] ?_;refine sP _ (pQ _ (.inl ?_));refine wr [(5,.aj 1 (bj.map aW)),(6,.aj 1 ((o9++[ch.1]).map a1)),(7,.int .i64 (i64.wrap (q4+1)))] ?_;exact sQ _ (.inr ⟨_,aY rfl,ams (o9++[ch.1]) (i64.wrap (q4+1)) h⟩)
     .refine c7 (pH 0 _ (qj 0 _ (h0 _ (oc _ (.inl ?_)))));refine ws _ ?_;exact aw (ai _ (.inl (ay [.aj 1 (o9.map a1),.bool (decide ((o9.length:Int)<=2))])))
    obtain⟨n,h⟩:=cS h;exact db (.inr ⟨_,aY rfl,amr n [] 0 h⟩)
theorem amt (tV:axw->axa->axa->Option axa) (amu:∀a0 J a2 r,tV a0 J a2=some r->aV ah 62 [.slice (a0.map bQ),.str J,.str a2] (.str r) []) (a0 J a2 r) (h:za tV a0 J a2=some r):aV ah 62 [.slice (a0.map bQ),.str J,.str a2] (.str r) []:=by
 refine bA [0,1,2] [.tmp 6] Tryz.func62 aiM (λbt ai bq=>?_);refine ws _ ?_;refine az ai (λdJ bL bf af=>?_);refine ws _ ?_;refine aF h (λbU h=>?_) (λbU h=>?_)
 .obtain⟨U,cg,h⟩:=ao h;refine cB (amu a0 a2 J _ cg) _ ?_;exact aw (bf _ (.inl (ay [.str U])))
 .refine aJ (bL _ (.inl ?_));refine az ai (λgu dx dE bj=>?_);refine ws _ ?_;refine bn dE (λek cE cd eR ch=>?_);show bk ah (.loop ?gU) _ _;have ho:∀n su,BG tV a0 J a2 n su=some r->cX ah ?gU ek (aq [(0,.slice (a0.map bQ)),(1,.str J),(2,.str a2),(7,.int .i64 su)]):=by
   refine dd (λm14 gW su h=>dc cd (λe0 cf cn cv=>?_));refine az cn (λhY eK fL dP=>?_);refine ws _ ?_;refine aF h (λeX h=>?_) (λeX h=>?_)
   .refine aJ (eK _ (.inl ?_));refine az cn (λhv ez ee eZ=>?_);refine bn ee (λkF gd gj dY ft=>?_);obtain⟨af,dL,h⟩:=ao h;refine JW (af.Left==J) dL [(0,.slice (a0.map bQ)),(1,.str J),(2,.str a2),(7,.int .i64 su),(36,.bool ((af.Left==J)&&(af.cQ==a2)))] ?_;refine aF h (λhD h=>?_) (λhD h=>?_)
    .refine c1 dL _ ?_;exact aw (gj _ (.inl (ay [.str af.Result])))
    .refine aJ (gd _ (ez _ (.inl ?_)));refine wr _ ?_;exact cf _ (.inr ⟨_,aY rfl,gW (i64.wrap (su+1)) h⟩)
   .refine c7 (dP 0 _ (cv 0 _ (eR _ (dx _ (.inl ?_)))));refine ws _ ?_;exact aw (ai _ (.inl (ay [.str ([]:axa)])))
  obtain⟨n,h⟩:=cS h;exact db (.inr ⟨_,aY rfl,ho n 0 h⟩)
theorem amv:∀n a0 J a2 r,BH n a0 J a2=some r->aV ah 62 [.slice (a0.map bQ),.str J,.str a2] (.str r) []:=by
 intro n;induction n with
 |zero=>intro a0 J a2 r h;cases(show none=some r from h)
 |succ n ih=>intro a0 J a2 r h;exact amt (BH n) ih a0 J a2 r h
theorem amw (a0 J a2 r) (h:Fb a0 J a2=some r):aV ah 62 [.slice (a0.map bQ),.str J,.str a2] (.str r) []:=by
 obtain⟨n,h⟩:=cS h;exact amv n a0 J a2 r h
theorem amx (a0 J a2 r) (h:IV a0 J a2=some r):aV ah 42 [.ref (fe a0),.str J,.str a2] (.str r) []:=by
 refine bA [0,1,2] [.tmp 6] Tryz.func42 aiN (λbt ai bq=>?_);refine ws _ ?_;obtain⟨U,aR,h⟩:=ao h;refine cB (Yh J _ aR) _ ?_;obtain⟨af,cM,h⟩:=ao h;refine cB (Yh a2 _ cM) _ ?_;refine az ai (λeA cR cH bD=>?_);obtain⟨aK,fu,h⟩:=ao h;refine eQ (cI [(0,.ref (fe a0)),(1,.str J),(2,.str a2),(7,.aj 1 (U.1.map a1)),(25,.bool (!aK))] (λP bu=>?_) ?_)
 ·(try simp only[aT.down,simprocAttr]);refine dR (X9 U.1 af.1 _ fu) rfl rfl (by simp only[aT.down,simprocAttr,Xv.down]<;>rfl) rfl (.inr (by rfl)) ?_;simp only[aT.down,simprocAttr];exact cc trivial
 refine aF h (λeR h=>?_) (λeR h=>?_)
 .refine ws _ ?_;exact aw (cH _ (.inl (ay [.str ([]:axa)])))
 .refine aJ (cR _ (.inl ?_));obtain⟨a_,e1,h⟩:=ao h;obtain⟨bo,fi,h⟩:=ao h;obtain⟨bD,dB,h⟩:=ao h;refine i1 rfl (ig [(0,.ref (fe a0)),(7,.aj 1 (U.1.map a1)),(11,.str bD)] (λP bu=>?_) ?_)
  ·(try simp only[cV.down,simprocAttr]);refine hL (Kk J _ e1) rfl rfl rfl rfl (.inl (by rfl)) ?_;simp only[cV.down,simprocAttr];refine hL (Kk a2 _ fi) rfl rfl rfl rfl (.inl (by rfl)) ?_;simp only[cV.down,simprocAttr];refine hL (amw a0.b2 a_ bo _ dB) rfl rfl rfl rfl (.inl (by rfl)) ?_;simp only[cV.down,simprocAttr];refine⟨hF (by kernel_rfl),?_⟩;exact cc trivial
  refine az ai (λkF gd gj ft=>?_);rcases dr h with⟨kj,h⟩|⟨kj,h⟩
  .refine c1 kj _ ?_;refine iM rfl ?_;refine ws _ ?_;exact aw (gj _ (.inl (ay [.str ([]:axa)])))
  .obtain⟨bj,gB,h⟩:=ao h;refine eH kj (QQ a0.cw bD _ gB) _ ?_;refine aF h (λfX h=>?_) (λfX h=>?_)
   .refine ws _ ?_;exact aw (gj _ (.inl (ay [.str ([]:axa)])))
   .refine aJ (gd _ (.inl ?_));obtain⟨cu,jm,h⟩:=ao h;refine eQ (cI [(6,.str cu)] (λP bu=>?_) ?_)
    ·(try simp only[aT.down,simprocAttr]);refine dR (X8 bD U.1 _ jm) rfl rfl (by simp only[aT.down,simprocAttr,JY.down]<;>rfl) rfl (.inr (by rfl)) ?_;simp only[aT.down,simprocAttr];exact cc trivial
    exact aw (ai _ (.inl (ay [.str cu])))
theorem amy (bp bs br bO bP J r) (h:IZ bp bs br bO bP J=some r):aV ah 18 [.aM (.agg [.slice (bp.map ba),.slice (bs.map dh),.slice (br.map bQ),.slice (bO.map aW),.slice (bP.map aW)]),.slice (J.map bz)] (.tuple [.aj 4 (r.1.map gA),.bool r.2]) [.aM (.agg [.slice (bp.map ba),.slice (bs.map dh),.slice (br.map bQ),.slice (bO.map aW),.slice (bP.map aW)]),.hole]:=by
 refine bA [0,1] [.tmp 4,.tmp 5] Tryz.func18 aiS (λbt ai bq=>?_);refine ws _ ?_;refine c1 (show∀s,dO ah s 53 0 []=some (.aj 4 [],s)from λs=>by kernel_rfl) _ ?_;refine c1 (show∀s,dO ah s 82 0 []=some (.aj 1 [],s)from λs=>by kernel_rfl) _ ?_;refine az ai (λei dS bR a_=>?_);refine ws _ ?_;refine bn bR (λeA cR cH dn bD=>?_);have zK:∀n gb pI,vw J bp bs br bO bP n gb pI=some r->cX ah WX eA (aq [(0,.aM (.agg [.slice (bp.map ba),.slice (bs.map dh),.slice (br.map bQ),.slice (bO.map aW),.slice (bP.map aW)])),(1,.slice (J.map bz)),(6,.aj 4 []),(7,.aj 1 (gb.map gi)),(8,.int .i64 pI)]):=by
  refine dd (λm10 zL gb pI h=>dc cH (λgu dx dE bj=>?_));refine az dE (λgk gf fY cu=>?_);refine ws _ ?_;refine aF h (λdX h=>?_) (λdX h=>?_)
  .refine aJ (gf _ (.inl ?_));refine az dE (λhY eK fL dP=>?_);refine bn fL (λlh gV iE eE gz=>?_);obtain⟨U,dB,h⟩:=ao h;obtain⟨af,fq,h⟩:=ao h;refine agb 10 11 [0,1,2,3,4,5,6,7,8,9,11,10,12] rfl rfl [(0,.aM (.agg [.slice (bp.map ba),.slice (bs.map dh),.slice (br.map bQ),.slice (bO.map aW),.slice (bP.map aW)])),(1,.slice (J.map bz)),(6,.aj 4 []),(7,.aj 1 (gb.map gi)),(8,.int .i64 pI),(9,.aj 4 (af.1.map cU)),(10,.bool af.2)] (λP bu=>?_) (λP bu=>?_) ?_
   ·(try simp only[cV.down,simprocAttr,dB,A1]);refine hL (Yc bp U _ fq) rfl rfl rfl rfl (.inl (by rfl)) ?_;simp only[cV.down,simprocAttr,dB,A1];refine⟨hF (by kernel_rfl),?_⟩;exact cc (R dB @A1)
   .simp only[vf,List.map_cons,List.map_nil,List.getD_cons_zero,List.getD_cons_succ,simprocAttr];(try simp only[cV.down,simprocAttr,dB,A1]);refine hL (Yc bp U _ fq) rfl rfl rfl rfl (.inl (by rfl)) ?_;simp only[cV.down,simprocAttr,dB,A1];refine⟨hF (by kernel_rfl),?_⟩;exact cc (R dB @A1)
   refine az iE (λsN kX mU hV=>?_);refine ws _ ?_;refine aF h (λhD h=>?_) (λhD h=>?_)
   .refine ws _ ?_;exact aw (mU _ (.inr ⟨[(4,.aj 4 []),(5,.bool false),(0,.aM (.agg [.slice (bp.map ba),.slice (bs.map dh),.slice (br.map bQ),.slice (bO.map aW),.slice (bP.map aW)]))],ij [] rfl (h6 (t:=4) (d:=.a8) rfl rfl (.iz _) (by decide) (cF rfl (cF rfl (ik)))),kb [.aj 4 [],.bool false] rfl (by cases gl h;rfl) (by decide) (kB (nZ (by cases gl h;rfl) rfl rfl rfl (dK (kC))))⟩))
   .refine aJ (kX _ (.inr ⟨[(0,.aM (.agg [.slice (bp.map ba),.slice (bs.map dh),.slice (br.map bQ),.slice (bO.map aW),.slice (bP.map aW)])),(1,.slice (J.map bz)),(6,.aj 4 []),(7,.aj 1 (gb.map gi)),(8,.int .i64 pI),(9,.slice (af.1.map cU)),(41,.bool (!af.2))],ij [] rfl (cF rfl (cF rfl (cF rfl (cF rfl (cF rfl (h6 (t:=9) (d:=.aj 4 (af.1.map cU)) (bI:=.slice (af.1.map cU)) rfl rfl (A0 rfl rfl (by simp only[cY,I.share,I.shares, @b0 _ cU cU (λ_=>Cw _)]<;>rfl)) (by decide) (cF rfl (ik)))))))),?_⟩));obtain⟨amz,hZ,h⟩:=ao h;(try simp only[fQ.down,Nat.zero_add,Nat.add_zero,reduceAdd]at hZ);refine sM (R (show∀s,dO ah s 82 1 [(0,.slice (af.1.map cU))]=some (.aj 1 [.slice (af.1.map cU)],s)from λs=>by kernel_rfl) (R (@kc ah 82 82 83 rfl rfl) (R @kd (R @ke (R @gH (R @all_cons (R @all_nil (R hZ (@jy _ gi 1 (λ_=>rfl)))))))))) [(0,.aM (.agg [.slice (bp.map ba),.slice (bs.map dh),.slice (br.map bQ),.slice (bO.map aW),.slice (bP.map aW)])),(1,.slice (J.map bz)),(6,.aj 4 []),(7,.aj 1 ((gb++[af.1]).map gi)),(8,.int .i64 pI)] ?_;refine gV _ (eK _ (.inl ?_));refine wr [(0,.aM (.agg [.slice (bp.map ba),.slice (bs.map dh),.slice (br.map bQ),.slice (bO.map aW),.slice (bP.map aW)])),(1,.slice (J.map bz)),(6,.aj 4 []),(7,.aj 1 ((gb++[af.1]).map gi)),(8,.int .i64 (i64.wrap (pI+1)))] ?_;exact dx _ (.inr ⟨_,aY rfl,zL (gb++[af.1]) (i64.wrap (pI+1)) h⟩)
  .refine c7 (cu 0 _ (bj 0 _ (dn _ (dS _ (.inl ?_)))));refine az ai (λYf Gy Kl mM=>?_);refine ws _ ?_;refine bn Kl (λxJ sQ oF qA qj=>?_);have amA:∀n uc ud vv,sy J bp bs br bO bP n uc ud vv=some r->cX ah W0 xJ (aq [(0,.aM (.agg [.slice (bp.map ba),.slice (bs.map dh),.slice (br.map bQ),.slice (bO.map aW),.slice (bP.map aW)])),(1,.slice (J.map bz)),(6,.aj 4 (uc.map gA)),(7,.aj 1 (ud.map gi)),(11,.int .i64 vv)]):=by
    refine dd (λQX amB uc ud vv h=>dc oF (λGg sO ru pH=>?_));refine az ru (λXO Gn XP tW=>?_);refine ws _ ?_;refine aF h (λh_ h=>?_) (λh_ h=>?_)
    .refine aJ (Gn _ (.inl ?_));refine az ru (λGh sP xF zz=>?_);refine bn xF (λalF Qu Qv gX alG=>?_);refine ws _ ?_;refine bn Qv (λQl J8 Gj iF XN=>?_);have QM:∀n h7 hM hH lC,xm (sy J bp bs br bO bP QX) J bp bs br bO bP n h7 hM hH lC=some r->cX ah WZ Ql (aq [(0,.aM (.agg [.slice (bp.map ba),.slice (bs.map dh),.slice (br.map bQ),.slice (bO.map aW),.slice (bP.map aW)])),(1,.slice (J.map bz)),(6,.aj 4 (h7.map gA)),(7,.aj 1 (hM.map gi)),(11,.int .i64 hH),(12,.int .i64 lC)]):=by
      refine dd (λX6 QN h7 hM hH lC h=>dc Gj (λJ9 zA xG J_=>?_));refine az xG (λamC QY Yi Yj=>?_);obtain⟨aK,qx,h⟩:=ao h;refine c1 (R qx (dy qx)) _ ?_;refine aF h (λGk h=>?_) (λGk h=>?_)
      .refine aJ (QY _ (.inl ?_));have QZ:∀BI BJ BK BL,Fe (sy J bp bs br bO bP QX) (xm (sy J bp bs br bO bP QX) J bp bs br bO bP X6) J bp bs br bO bP BI BJ BK BL=some r->bk ah WY J9 (aq [(0,.aM (.agg [.slice (bp.map ba),.slice (bs.map dh),.slice (br.map bQ),.slice (bO.map aW),.slice (bP.map aW)])),(1,.slice (J.map bz)),(6,.aj 4 (BI.map gA)),(7,.aj 1 (BJ.map gi)),(11,.int .i64 BK),(12,.int .i64 BL)]):=by
        intro BI BJ BK BL h;refine wr _ ?_;exact zA _ (.inr ⟨_,aY rfl,QN BI BJ BK (i64.wrap (BL+1)) h⟩)
       refine az xG (λQw vJ xK Kc=>?_);refine bn xK (λxL uG sR vK CE=>?_);obtain⟨a_,CI,h⟩:=ao h;refine c1 (R qx (R (dy qx) CI)) _ ?_;refine az sR (λQF xN Kf CF=>?_);rcases dr h with⟨vO,h⟩|⟨vO,h⟩
       .obtain⟨bo,GB,h⟩:=ao h;obtain⟨bD,Q0,h⟩:=ao h;refine i1 rfl (ig [(0,.aM (.agg [.slice (bp.map ba),.slice (bs.map dh),.slice (br.map bQ),.slice (bO.map aW),.slice (bP.map aW)])),(1,.slice (J.map bz)),(6,.aj 4 (h7.map gA)),(7,.aj 1 (hM.map gi)),(11,.int .i64 hH),(12,.int .i64 lC),(13,.aM (cU a_)),(81,.bool (decide (bD<0)))] (λP bu=>?_) ?_)
        ·(try simp only[cV.down,simprocAttr,vO]);refine lz (Kk a_.Label _ GB) rfl rfl rfl rfl (.inl (by rfl)) ?_;simp only[cV.down,simprocAttr,vO];refine lz (QQ bO bo _ Q0) rfl rfl rfl rfl (.inl (by rfl)) ?_;simp only[cV.down,simprocAttr,vO];refine⟨hF (by kernel_rfl),?_⟩;exact cc vO
        refine aF h (λQm h=>?_) (λQm h=>?_)
        .exact c7 (CF 5 _ (vK _ (vJ _ (.inr ⟨_,aY rfl,QZ h7 hM hH lC h⟩))))
        .refine aJ (xN _ (.inl ?_));obtain⟨bj,vR,h⟩:=ao h;refine lY (cI (K:=eJ _) [(0,.aM (.agg [.slice (bp.map ba),.slice (bs.map dh),.slice (br.map bQ),.slice (bO.map aW),.slice (bP.map aW)])),(1,.slice (J.map bz)),(6,.aj 4 (h7.map gA)),(7,.aj 1 (hM.map gi)),(11,.int .i64 hH),(12,.int .i64 lC),(13,.aM (cU a_)),(14,.aj 3 (bj.map eV))] (λP bu=>?_) (HW [(0,.aM (.agg [.slice (bp.map ba),.slice (bs.map dh),.slice (br.map bQ),.slice (bO.map aW),.slice (bP.map aW)])),(1,.slice (J.map bz)),(6,.aj 4 (h7.map gA)),(7,.aj 1 (hM.map gi)),(11,.int .i64 hH),(12,.int .i64 lC),(13,.aM (cU a_)),(14,.aj 3 (bj.map bz))] (ij [] rfl (cF rfl (cF rfl (cF rfl (cF rfl (cF rfl (cF rfl (cF rfl (h6 (t:=14) (d:=.aj 3 (bj.map eV)) (bI:=.aj 3 (bj.map bz)) rfl rfl (.aj (H0 (λ_=>A0 rfl rfl (pc _)) _)) (by decide) (ik)))))))))) ?_))
         ·(try simp only[aT.down,simprocAttr]);refine dR (CK J _ vR) rfl rfl rfl rfl (.inl (by rfl)) ?_;simp only[aT.down,simprocAttr];exact cc trivial
         obtain⟨cu,CL,h⟩:=ao h;refine eQ (cI [(0,.aM (.agg [.slice (bp.map ba),.slice (bs.map dh),.slice (br.map bQ),.slice (bO.map aW),.slice (bP.map aW)])),(1,.slice (J.map bz)),(6,.aj 4 (h7.map gA)),(7,.aj 1 (hM.map gi)),(11,.int .i64 hH),(12,.int .i64 lC),(13,.aM (cU a_)),(14,.aj 3 ((List.set bj (Int.toNat hH) a_.Next).map bz))] (λP bu=>?_) ?_)
         .simp only[aT.down,simprocAttr,CL,dy CL,eo,dV];exact cc (R CL (R (dy CL) @eo))
         obtain⟨ch,oe,h⟩:=ao h;obtain⟨cv,Gx,h⟩:=ao h;obtain⟨dP,vS,h⟩:=ao h;refine jh (cI [(0,.aM (.agg [.slice (bp.map ba),.slice (bs.map dh),.slice (br.map bQ),.slice (bO.map aW),.slice (bP.map aW)])),(1,.slice (J.map bz)),(6,.aj 4 (dP.map gA)),(7,.aj 1 (hM.map gi)),(11,.int .i64 hH),(12,.int .i64 lC)] (λP bu=>?_) ?_)
         ·(try simp only[aT.down,simprocAttr,rn.down,eb,dF,I.shares]);refine dR (QR (cJ.mk bp bs br bO bP) a_.Label _ oe) rfl rfl (by simp only[aT.down,simprocAttr,P6.down,eb,dF,I.shares]<;>rfl) rfl (.inr (by rfl)) ?_;simp only[aT.down,simprocAttr,rn.down,eb,dF,I.shares];refine dR (CK (List.set bj (Int.toNat hH) a_.Next) _ Gx) rfl rfl (by simp only[aT.down,simprocAttr,P7.down,eb,dF,I.shares]<;>rfl) rfl (.inr (kO (λ_=>Cv _) _)) ?_;simp only[aT.down,simprocAttr,rn.down,eb,dF,I.shares];refine ow [⟨.h 6 [],true,_,.hole⟩,⟨.agg [.str ch,.int .i64 hH,.int .i64 (-1),.slice (cv.map bz)],false,_,.hole⟩] (QS h7 (bh.mk ch hH (-1) cv) _ vS) rfl rfl rfl (by simp only[aT.down,simprocAttr,P8.down,eb,dF,I.shares]) rfl rfl (.inl rfl) ?_;simp only[aT.down,simprocAttr,P9.down,eb,dF,I.shares];exact cc rn.down
         exact uG _ (vJ _ (.inr ⟨_,aY rfl,QZ dP hM hH lC h⟩))
       .refine oE vO _ ?_;refine nW rfl ?_;refine aJ (xN _ (.inl ?_));obtain⟨gz,rz,h⟩:=ao h;refine lY (cI (K:=eJ _) [(0,.aM (.agg [.slice (bp.map ba),.slice (bs.map dh),.slice (br.map bQ),.slice (bO.map aW),.slice (bP.map aW)])),(1,.slice (J.map bz)),(6,.aj 4 (h7.map gA)),(7,.aj 1 (hM.map gi)),(11,.int .i64 hH),(12,.int .i64 lC),(13,.aM (cU a_)),(14,.aj 3 (gz.map eV))] (λP bu=>?_) (HW [(0,.aM (.agg [.slice (bp.map ba),.slice (bs.map dh),.slice (br.map bQ),.slice (bO.map aW),.slice (bP.map aW)])),(1,.slice (J.map bz)),(6,.aj 4 (h7.map gA)),(7,.aj 1 (hM.map gi)),(11,.int .i64 hH),(12,.int .i64 lC),(13,.aM (cU a_)),(14,.aj 3 (gz.map bz))] (ij [] rfl (cF rfl (cF rfl (cF rfl (cF rfl (cF rfl (cF rfl (cF rfl (h6 (t:=14) (d:=.aj 3 (gz.map eV)) (bI:=.aj 3 (gz.map bz)) rfl rfl (.aj (H0 (λ_=>A0 rfl rfl (pc _)) _)) (by decide) (ik)))))))))) ?_))
        ·(try simp only[aT.down,simprocAttr]);refine dR (CK J _ rz) rfl rfl rfl rfl (.inl (by rfl)) ?_;simp only[aT.down,simprocAttr];exact cc trivial
        obtain⟨hG,Kn,h⟩:=ao h;refine eQ (cI [(0,.aM (.agg [.slice (bp.map ba),.slice (bs.map dh),.slice (br.map bQ),.slice (bO.map aW),.slice (bP.map aW)])),(1,.slice (J.map bz)),(6,.aj 4 (h7.map gA)),(7,.aj 1 (hM.map gi)),(11,.int .i64 hH),(12,.int .i64 lC),(13,.aM (cU a_)),(14,.aj 3 ((List.set gz (Int.toNat hH) a_.Next).map bz))] (λP bu=>?_) ?_)
        .simp only[aT.down,simprocAttr,Kn,dy Kn,eo,dV];exact cc (R Kn (R (dy Kn) @eo))
        obtain⟨eZ,Qp,h⟩:=ao h;obtain⟨ft,amD,h⟩:=ao h;obtain⟨hV,GC,h⟩:=ao h;refine jh (cI [(0,.aM (.agg [.slice (bp.map ba),.slice (bs.map dh),.slice (br.map bQ),.slice (bO.map aW),.slice (bP.map aW)])),(1,.slice (J.map bz)),(6,.aj 4 (hV.map gA)),(7,.aj 1 (hM.map gi)),(11,.int .i64 hH),(12,.int .i64 lC)] (λP bu=>?_) ?_)
        ·(try simp only[aT.down,simprocAttr,rn.down,eb,dF,I.shares]);refine dR (QR (cJ.mk bp bs br bO bP) a_.Label _ Qp) rfl rfl (by simp only[aT.down,simprocAttr,P6.down,eb,dF,I.shares]<;>rfl) rfl (.inr (by rfl)) ?_;simp only[aT.down,simprocAttr,rn.down,eb,dF,I.shares];refine dR (CK (List.set gz (Int.toNat hH) a_.Next) _ amD) rfl rfl (by simp only[aT.down,simprocAttr,P7.down,eb,dF,I.shares]<;>rfl) rfl (.inr (kO (λ_=>Cv _) _)) ?_;simp only[aT.down,simprocAttr,rn.down,eb,dF,I.shares];refine ow [⟨.h 6 [],true,_,.hole⟩,⟨.agg [.str eZ,.int .i64 hH,.int .i64 (-1),.slice (ft.map bz)],false,_,.hole⟩] (QS h7 (bh.mk eZ hH (-1) ft) _ GC) rfl rfl rfl (by simp only[aT.down,simprocAttr,P8.down,eb,dF,I.shares]) rfl rfl (.inl rfl) ?_;simp only[aT.down,simprocAttr,P9.down,eb,dF,I.shares];exact cc rn.down
        exact uG _ (vJ _ (.inr ⟨_,aY rfl,QZ hV hM hH lC h⟩))
      .refine c7 (Yj 4 _ (J_ 4 _ (iF _ (Qu _ (sP _ (.inl ?_))))));refine wr _ ?_;exact sO _ (.inr ⟨_,aY rfl,amB h7 hM (i64.wrap (hH+1)) h⟩)
     obtain⟨n,h⟩:=cS h;exact db (.inr ⟨_,aY rfl,QM n uc ud vv 0 h⟩)
    .refine c7 (tW 2 _ (pH 2 _ (qA _ (Gy _ (.inl ?_)))));refine az ai (λavT amE amF avU=>?_);refine ws _ ?_;refine bn amF (λamG avV amH qz avW=>?_);have amI:∀n q6 xn sx,lE J bp bs br bO bP n q6 xn sx=some r->cX ah W5 amG (aq [(0,.aM (.agg [.slice (bp.map ba),.slice (bs.map dh),.slice (br.map bQ),.slice (bO.map aW),.slice (bP.map aW)])),(1,.slice (J.map bz)),(6,.aj 4 (q6.map gA)),(7,.aj 1 (xn.map gi)),(15,.int .i64 sx)]):=by
      refine dd (λpg amJ q6 xn sx h=>dc amH (λavX amK Yk amL=>?_));refine az Yk (λavY amM avZ amN=>?_);refine ws _ ?_;refine aF h (λamO h=>?_) (λamO h=>?_)
      .refine aJ (amM _ (.inl ?_));refine az Yk (λav0 amP amQ av1=>?_);refine bn amQ (λav2 amR amS zD av3=>?_);refine ws _ ?_;refine bn amS (λamT av4 amU amV av5=>?_);have Qj:∀n t_ ua ub vu,oA (lE J bp bs br bO bP pg) J bp bs br bO bP n t_ ua ub vu=some r->cX ah W4 amT (aq [(0,.aM (.agg [.slice (bp.map ba),.slice (bs.map dh),.slice (br.map bQ),.slice (bO.map aW),.slice (bP.map aW)])),(1,.slice (J.map bz)),(6,.aj 4 (t_.map gA)),(7,.aj 1 (ua.map gi)),(15,.int .i64 ub),(16,.int .i64 vu)]):=by
        refine dd (λxE Qk t_ ua ub vu h=>dc amU (λav6 amW Yl amX=>?_));refine az Yl (λav7 amY av8 amZ=>?_);refine ws _ ?_;refine aF h (λam0 h=>?_) (λam0 h=>?_)
        .refine aJ (amY _ (.inl ?_));refine az Yl (λav9 am1 am2 av_=>?_);refine bn am2 (λawa am3 am4 awb awc=>?_);refine ws _ ?_;refine bn am4 (λam5 awd am6 am7 awe=>?_);have am8:∀n tY sv sw tZ vt,q5 (lE J bp bs br bO bP pg) (oA (lE J bp bs br bO bP pg) J bp bs br bO bP xE) J bp bs br bO bP n tY sv sw tZ vt=some r->cX ah W3 am5 (aq [(0,.aM (.agg [.slice (bp.map ba),.slice (bs.map dh),.slice (br.map bQ),.slice (bO.map aW),.slice (bP.map aW)])),(1,.slice (J.map bz)),(6,.aj 4 (tY.map gA)),(7,.aj 1 (sv.map gi)),(15,.int .i64 sw),(16,.int .i64 tZ),(17,.int .i64 vt)]):=by
          refine dd (λQ1 am9 tY sv sw tZ vt h=>dc am6 (λawf am_ Ym ana=>?_));refine az Ym (λawg anb awh anc=>?_);obtain⟨jD,Yn,h⟩:=ao h;refine c1 (R Yn (dy Yn)) _ ?_;refine aF h (λane h=>?_) (λane h=>?_)
          .refine aJ (anb _ (.inl ?_));refine az Ym (λawi anf ang awj=>?_);refine bn ang (λawk anh ani awl awm=>?_);refine ws _ ?_;refine bn ani (λanj awn ank anl awo=>?_);have anm:∀n mJ mo jC kf mK mq,tX (lE J bp bs br bO bP pg) (oA (lE J bp bs br bO bP pg) J bp bs br bO bP xE) (q5 (lE J bp bs br bO bP pg) (oA (lE J bp bs br bO bP pg) J bp bs br bO bP xE) J bp bs br bO bP Q1) J bp bs br bO bP n mJ mo jC kf mK mq=some r->cX ah W2 anj (aq [(0,.aM (.agg [.slice (bp.map ba),.slice (bs.map dh),.slice (br.map bQ),.slice (bO.map aW),.slice (bP.map aW)])),(1,.slice (J.map bz)),(6,.aj 4 (mJ.map gA)),(7,.aj 1 (mo.map gi)),(15,.int .i64 jC),(16,.int .i64 kf),(17,.int .i64 mK),(18,.int .i64 mq)]):=by
            refine dd (λann ano mJ mo jC kf mK mq h=>dc ank (λanp anq Yo anr=>?_));refine az Yo (λawp ans awq ant=>?_);obtain⟨pG,pV,h⟩:=ao h;refine JW (decide (mq<(pG.length:Int))) (R pV (dy pV)) [(0,.aM (.agg [.slice (bp.map ba),.slice (bs.map dh),.slice (br.map bQ),.slice (bO.map aW),.slice (bP.map aW)])),(1,.slice (J.map bz)),(6,.aj 4 (mJ.map gA)),(7,.aj 1 (mo.map gi)),(15,.int .i64 jC),(16,.int .i64 kf),(17,.int .i64 mK),(18,.int .i64 mq),(133,.bool ((decide (mq<(pG.length:Int)))&&(decide ((mJ.length:Int)<=200))))] ?_;refine aF h (λanu h=>?_) (λanu h=>?_)
            .refine aJ (ans _ (.inl ?_));have Yp:∀BM BN BO BP BQ BR,IW (lE J bp bs br bO bP pg) (oA (lE J bp bs br bO bP pg) J bp bs br bO bP xE) (q5 (lE J bp bs br bO bP pg) (oA (lE J bp bs br bO bP pg) J bp bs br bO bP xE) J bp bs br bO bP Q1) (tX (lE J bp bs br bO bP pg) (oA (lE J bp bs br bO bP pg) J bp bs br bO bP xE) (q5 (lE J bp bs br bO bP pg) (oA (lE J bp bs br bO bP pg) J bp bs br bO bP xE) J bp bs br bO bP Q1) J bp bs br bO bP ann) J bp bs br bO bP BM BN BO BP BQ BR=some r->bk ah W1 anp (aq [(0,.aM (.agg [.slice (bp.map ba),.slice (bs.map dh),.slice (br.map bQ),.slice (bO.map aW),.slice (bP.map aW)])),(1,.slice (J.map bz)),(6,.aj 4 (BM.map gA)),(7,.aj 1 (BN.map gi)),(15,.int .i64 BO),(16,.int .i64 BP),(17,.int .i64 BQ),(18,.int .i64 BR)]):=by
              intro BM BN BO BP BQ BR h;refine wr _ ?_;exact anq _ (.inr ⟨_,aY rfl,ano BM BN BO BP BQ (i64.wrap (BR+1)) h⟩)
             refine az Yo (λawr n100 anv aws=>?_);refine bn anv (λawt n102 anw anx awu=>?_);obtain⟨lD,rA,h⟩:=ao h;obtain⟨l3,CM,h⟩:=ao h;obtain⟨mL,CN,h⟩:=ao h;obtain⟨lb,anz,h⟩:=ao h;refine i1 rfl (ig [(0,.aM (.agg [.slice (bp.map ba),.slice (bs.map dh),.slice (br.map bQ),.slice (bO.map aW),.slice (bP.map aW)])),(1,.slice (J.map bz)),(6,.aj 4 (mJ.map gA)),(7,.aj 1 (mo.map gi)),(15,.int .i64 jC),(16,.int .i64 kf),(17,.int .i64 mK),(18,.int .i64 mq),(19,.str lb)] (λP bu=>?_) ?_)
             ·(try simp only[cV.down,simprocAttr,rA,dy rA,CM,pV,dy pV,CN]);refine hL (amx (cJ.mk bp bs br bO bP) l3.Label mL.Label _ anz) rfl rfl (by simp only[cV.down,simprocAttr,rA,dy rA,CM,pV,dy pV,CN,JZ.down]<;>rfl) rfl (.inr (by rfl)) ?_;simp only[cV.down,simprocAttr,rA,dy rA,CM,pV,dy pV,CN];refine⟨hF (by kernel_rfl),?_⟩;exact cc (R rA (R (dy rA) (R CM (R pV (R (dy pV) CN)))))
             refine az anw (λawv n108 aww anA=>?_);refine ws _ ?_;refine aF h (λanB h=>?_) (λanB h=>?_)
             .exact c7 (anA 13 _ (anx _ (n100 _ (.inr ⟨_,aY rfl,Yp mJ mo jC kf mK mq h⟩))))
             .refine aJ (n108 _ (.inl ?_));obtain⟨mM,anC,h⟩:=ao h;refine lY (cI (K:=eJ _) [(0,.aM (.agg [.slice (bp.map ba),.slice (bs.map dh),.slice (br.map bQ),.slice (bO.map aW),.slice (bP.map aW)])),(1,.slice (J.map bz)),(6,.aj 4 (mJ.map gA)),(7,.aj 1 (mo.map gi)),(15,.int .i64 jC),(16,.int .i64 kf),(17,.int .i64 mK),(18,.int .i64 mq),(19,.str lb),(20,.aj 3 (mM.map eV))] (λP bu=>?_) (HW [(0,.aM (.agg [.slice (bp.map ba),.slice (bs.map dh),.slice (br.map bQ),.slice (bO.map aW),.slice (bP.map aW)])),(1,.slice (J.map bz)),(6,.aj 4 (mJ.map gA)),(7,.aj 1 (mo.map gi)),(15,.int .i64 jC),(16,.int .i64 kf),(17,.int .i64 mK),(18,.int .i64 mq),(19,.str lb),(20,.aj 3 (mM.map bz))] (ij [] rfl (cF rfl (cF rfl (cF rfl (cF rfl (cF rfl (cF rfl (cF rfl (cF rfl (cF rfl (h6 (t:=20) (d:=.aj 3 (mM.map eV)) (bI:=.aj 3 (mM.map bz)) rfl rfl (.aj (H0 (λ_=>A0 rfl rfl (pc _)) _)) (by decide) (ik)))))))))))) ?_))
              ·(try simp only[aT.down,simprocAttr]);refine dR (CK J _ anC) rfl rfl rfl rfl (.inl (by rfl)) ?_;simp only[aT.down,simprocAttr];exact cc trivial
              obtain⟨zb,Ko,h⟩:=ao h;refine eQ (cI [(0,.aM (.agg [.slice (bp.map ba),.slice (bs.map dh),.slice (br.map bQ),.slice (bO.map aW),.slice (bP.map aW)])),(1,.slice (J.map bz)),(6,.aj 4 (mJ.map gA)),(7,.aj 1 (mo.map gi)),(15,.int .i64 jC),(16,.int .i64 kf),(17,.int .i64 mK),(18,.int .i64 mq),(19,.str lb),(20,.aj 3 ((List.set mM (Int.toNat jC) l3.Next).map bz))] (λP bu=>?_) ?_)
              .simp only[aT.down,simprocAttr,rA,dy rA,CM,Ko,dy Ko,eo,dV];exact cc (R rA (R (dy rA) (R CM (R Ko (R (dy Ko) @eo)))))
              obtain⟨qj,Kp,h⟩:=ao h;refine eQ (cI [(0,.aM (.agg [.slice (bp.map ba),.slice (bs.map dh),.slice (br.map bQ),.slice (bO.map aW),.slice (bP.map aW)])),(1,.slice (J.map bz)),(6,.aj 4 (mJ.map gA)),(7,.aj 1 (mo.map gi)),(15,.int .i64 jC),(16,.int .i64 kf),(17,.int .i64 mK),(18,.int .i64 mq),(19,.str lb),(20,.aj 3 ((List.set (List.set mM (Int.toNat jC) l3.Next) (Int.toNat kf) mL.Next).map bz))] (λP bu=>?_) ?_)
              .simp only[aT.down,simprocAttr,pV,dy pV,CN,Kp,dy Kp,eo,dV];exact cc (R pV (R (dy pV) (R CN (R Kp (R (dy Kp) @eo)))))
              obtain⟨pH,anD,h⟩:=ao h;obtain⟨tW,anE,h⟩:=ao h;obtain⟨zc,anF,h⟩:=ao h;refine jh (cI [(0,.aM (.agg [.slice (bp.map ba),.slice (bs.map dh),.slice (br.map bQ),.slice (bO.map aW),.slice (bP.map aW)])),(1,.slice (J.map bz)),(6,.aj 4 (zc.map gA)),(7,.aj 1 (mo.map gi)),(15,.int .i64 jC),(16,.int .i64 kf),(17,.int .i64 mK),(18,.int .i64 mq)] (λP bu=>?_) ?_)
              ·(try simp only[aT.down,simprocAttr,rn.down,eb,dF,I.shares]);refine dR (QR (cJ.mk bp bs br bO bP) lb _ anD) rfl rfl (by simp only[aT.down,simprocAttr,P6.down,eb,dF,I.shares]<;>rfl) rfl (.inr (by rfl)) ?_;simp only[aT.down,simprocAttr,rn.down,eb,dF,I.shares];refine dR (CK (List.set (List.set mM (Int.toNat jC) l3.Next) (Int.toNat kf) mL.Next) _ anE) rfl rfl (by simp only[aT.down,simprocAttr,P7.down,eb,dF,I.shares]<;>rfl) rfl (.inr (kO (λ_=>Cv _) _)) ?_;simp only[aT.down,simprocAttr,rn.down,eb,dF,I.shares];refine ow [⟨.h 6 [],true,_,.hole⟩,⟨.agg [.str pH,.int .i64 jC,.int .i64 kf,.slice (tW.map bz)],false,_,.hole⟩] (QS mJ (bh.mk pH jC kf tW) _ anF) rfl rfl rfl (by simp only[aT.down,simprocAttr,P8.down,eb,dF,I.shares]) rfl rfl (.inl rfl) ?_;simp only[aT.down,simprocAttr,P9.down,eb,dF,I.shares];exact cc rn.down
              exact n102 _ (n100 _ (.inr ⟨_,aY rfl,Yp zc mo jC kf mK mq h⟩))
            .refine c7 (ant 12 _ (anr 12 _ (anl _ (anh _ (anf _ (.inl ?_))))));refine wr _ ?_;exact am_ _ (.inr ⟨_,aY rfl,am9 mJ mo jC kf (i64.wrap (mK+1)) h⟩)
           obtain⟨n,h⟩:=cS h;exact db (.inr ⟨_,aY rfl,anm n tY sv sw tZ vt 0 h⟩)
          .refine c7 (anc 10 _ (ana 10 _ (am7 _ (am3 _ (am1 _ (.inl ?_))))));refine wr _ ?_;exact amW _ (.inr ⟨_,aY rfl,Qk tY sv sw (i64.wrap (tZ+1)) h⟩)
         obtain⟨n,h⟩:=cS h;exact db (.inr ⟨_,aY rfl,am8 n t_ ua ub vu 0 h⟩)
        .refine c7 (amZ 8 _ (amX 8 _ (amV _ (amR _ (amP _ (.inl ?_))))));refine wr _ ?_;exact amK _ (.inr ⟨_,aY rfl,amJ t_ ua (i64.wrap (ub+1)) h⟩)
       obtain⟨n,h⟩:=cS h;exact db (.inr ⟨_,aY rfl,Qj n q6 xn sx (i64.wrap (sx+1)) h⟩)
      .refine c7 (amN 6 _ (amL 6 _ (qz _ (amE _ (.inl ?_)))));refine ws _ ?_;exact aw (ai _ (.inl (kb [.aj 4 (q6.map gA),.bool (decide ((q6.length:Int)<=200))] rfl (by cases gl h;rfl) (by decide) (kB (nZ (by cases gl h;rfl) rfl rfl rfl (dK (kC)))))))
     obtain⟨n,h⟩:=cS h;exact db (.inr ⟨_,aY rfl,amI n uc ud 0 h⟩)
   obtain⟨n,h⟩:=cS h;exact db (.inr ⟨_,aY rfl,amA n [] gb 0 h⟩)
 obtain⟨n,h⟩:=cS h;exact db (.inr ⟨_,aY rfl,zK n [] 0 h⟩)
theorem anG (a0 J r) (h:I0 a0 J=some r):aV ah 6 [fe a0,.slice (J.map bz)] (.bool r) []:=by
 refine bA [0,1] [.tmp 4] Tryz.func6 fP (λbt ai bq=>?_);refine ws _ ?_;refine az ai (λdJ bL bf af=>?_);obtain⟨U,bW,h⟩:=ao h;refine eQ (cI [(1,.slice (J.map bz)),(2,.aM (fe a0)),(9,.bool (U !=0))] (λP bu=>?_) ?_)
 ·(try simp only[aT.down,simprocAttr]);refine dR (al0 a0 J _ bW) rfl rfl (by simp only[aT.down,simprocAttr,JZ.down]<;>rfl) rfl (.inr (by rfl)) ?_;simp only[aT.down,simprocAttr];exact cc trivial
 refine aF h (λcP h=>?_) (λcP h=>?_)
 .refine ws _ ?_;exact aw (bf _ (.inl (ay [.bool false])))
 .refine aJ (bL _ (.inl ?_));obtain⟨af,fu,h⟩:=ao h;refine eQ (cI [(5,.aj 4 (af.1.map gA)),(6,.bool af.2)] (λP bu=>?_) ?_)
  ·(try simp only[aT.down,simprocAttr]);refine ow [⟨.h 2 [],true,_,_⟩,⟨.slice (J.map bz),false,_,.hole⟩] (amy a0.cq a0.b_ a0.b2 a0.cw a0.ct J _ fu) rfl rfl rfl (by simp only[aT.down,simprocAttr,o5,pA,pB,i6,i7,i_,cY,or_true,true_or, @b0 _ ba ba (λ_=>sJ _), @b0 _ dh dh (λ_=>zt _), @b0 _ bQ bQ (λ_=>rk _), @b0 _ aW aW (λ_=>lg _), @b0 _ aW aW (λ_=>lg _)]) rfl rfl (.inl rfl) ?_;simp only[aT.down,simprocAttr,nY];exact cc trivial
  refine mT (af.2) [(4,.bool (af.2&&((af.1.length:Int)==0)))] ?_;exact aw (ai _ (.inl (ay [.bool (af.2&&((af.1.length:Int)==0))])))
theorem l4 (a0 J a2 r) (h:kS a0 J a2=some r):aV ah 122 [.int .i64 a0,.int .i64 J,.int .i64 a2] (.bool r) []:=by
 refine bA [0,1,2] [.tmp 6] Tryz.func122 aiT (λbt ai bq=>?_);refine ws _ ?_;refine mT (decide (J<=a0)) [(6,.bool ((decide (J<=a0))&&(decide (a0<=a2))))] ?_;exact aw (ai _ (.inl (ay [.bool ((decide (J<=a0))&&(decide (a0<=a2)))])))
theorem anH (a0 r) (h:Ou a0=some r):aV ah 187 [ba a0] (.bool r) []:=by
 refine bA [0] [.tmp 2] Tryz.func187 aiU (λbt ai bq=>?_);refine ws _ ?_;obtain⟨U,aR,h⟩:=ao h;refine cB (l4 a0.ej 0 3 _ aR) _ ?_;exact aw (ai _ (.inl (ay [.bool (!U)])))
theorem anI (a0 r) (h:Ow a0=some r):aV ah 189 [.slice (a0.map ba),.fn 187 []] (.int .i64 r) []:=by
 refine bA [0,1] [.tmp 4] Tryz.func189 aiV (λbt ai bq=>?_);refine ws _ ?_;refine az ai (λdJ bL bf af=>?_);refine ws _ ?_;refine bn bf (λei dS bR bU a_=>?_);show bk ah (.loop ?fP) _ _;have gK:∀n cr,Fg a0 n cr=some r->cX ah ?fP ei (aq [(0,.slice (a0.map ba)),(1,.fn 187 []),(7,.int .i64 (a0.length:Int)),(8,.int .i64 cr)]):=by
  refine dd (λm6 fM cr h=>dc bR (λgR dZ df bo=>?_));refine ws _ ?_;refine az df (λgu dx dE bj=>?_);refine aF h (λcy h=>?_) (λcy h=>?_)
  .refine aJ (dx _ (.inl ?_));refine az df (λek cE cd ch=>?_);refine bn cd (λe0 cf cn dX cv=>?_);refine ws _ ?_;obtain⟨U,fi,h⟩:=ao h;obtain⟨af,dB,h⟩:=ao h;refine eH fi (anH U _ dB) _ ?_;refine aF h (λdY h=>?_) (λdY h=>?_)
   .refine ws _ ?_;exact aw (cn _ (.inl (ay [.int .i64 cr])))
   .refine aJ (cf _ (cE _ (.inl ?_)));refine wr _ ?_;exact dZ _ (.inr ⟨_,aY rfl,fM (i64.wrap (cr+1)) h⟩)
  .refine c7 (bj 0 _ (bo 0 _ (bU _ (bL _ (.inl ?_)))));refine ws _ ?_;exact aw (ai _ (.inl (ay [.int .i64 (-1)])))
 obtain⟨n,h⟩:=cS h;exact db (.inr ⟨_,aY rfl,gK n 0 h⟩)
theorem anJ (a0 r) (h:Ox a0=some r):aV ah 186 [.slice (a0.map ba),.fn 187 []] (.bool r) []:=by
 refine bA [0,1] [.tmp 4] Tryz.func186 aiW (λbt ai bq=>?_);refine ws _ ?_;obtain⟨U,aR,h⟩:=ao h;refine cB (anI a0 _ aR) _ ?_;exact aw (ai _ (.inl (ay [.bool (decide (0<=U))])))
theorem anK (a0 r) (h:I1 a0=some r):aV ah 158 [.slice (a0.map ba)] (.bool r) []:=by
 refine bA [0] [.tmp 2] Tryz.func158 aiX (λbt ai bq=>?_);refine ws _ ?_;obtain⟨U,aR,h⟩:=ao h;refine cB (anJ a0 _ aR) _ ?_;exact aw (ai _ (.inl (ay [.bool (!U)])))
theorem anL (a0 r) (h:Oy a0=some r):aV ah 188 [.int .u8 (a0.toNat:Int)] (.bool r) []:=by
 refine bA [0] [.tmp 2] Tryz.func188 aiY (λbt ai bq=>?_);refine ws _ ?_;refine mT (decide (48<=(a0.toNat:Int))) [(2,.bool ((decide (48<=(a0.toNat:Int)))&&(decide ((a0.toNat:Int)<=57))))] ?_;exact aw (ai _ (.inl (ay [.bool ((decide (48<=(a0.toNat:Int)))&&(decide ((a0.toNat:Int)<=57)))])))
theorem Kq (a0 r) (h:Fh a0=some r):aV ah 159 [.str a0] (.bool r) []:=by
 refine bA [0] [.tmp 2] Tryz.func159 c159 (λbt ai bq=>?_);refine ws _ ?_;refine az ai (λdJ bL bf af=>?_);refine ws _ ?_;refine bn bf (λei dS bR bU a_=>?_);show bk ah (.loop ?fP) _ _;have gK:∀n fK,xo a0 n fK=some r->cX ah ?fP ei (aq [(0,.str a0),(6,.int .i64 (a0.length:Int)),(7,.int .i64 fK)]):=by
  refine dd (λm6 fM fK h=>dc bR (λgR dZ df bo=>?_));refine ws _ ?_;refine az df (λgu dx dE bj=>?_);refine aF h (λcy h=>?_) (λcy h=>?_)
  .refine aJ (dx _ (.inl ?_));refine az df (λek cE cd ch=>?_);refine bn cd (λe0 cf cn dX cv=>?_);refine ws _ ?_;obtain⟨U,fi,h⟩:=ao h;refine JW (decide (97<=(U.toNat:Int))) fi [(0,.str a0),(3,.int .i64 fK),(4,.bool ((decide (97<=(U.toNat:Int)))&&(decide ((U.toNat:Int)<=122)))),(6,.int .i64 (a0.length:Int)),(7,.int .i64 fK)] ?_;rcases dr h with⟨dY,h⟩|⟨dY,h⟩
   .rcases dr h with⟨nn,h⟩|⟨nn,h⟩
    .refine c1 (R dY nn) _ ?_;refine iM rfl ?_;refine ws _ ?_;exact aw (cn _ (.inl (ay [.bool false])))
    .obtain⟨af,e4,h⟩:=ao h;refine eH (R dY (R nn fi)) (anL U _ e4) _ ?_;refine aF h (λgg h=>?_) (λgg h=>?_)
     .refine ws _ ?_;exact aw (cn _ (.inl (ay [.bool false])))
     .refine aJ (cf _ (cE _ (.inl ?_)));refine wr _ ?_;exact dZ _ (.inr ⟨_,aY rfl,fM (i64.wrap (fK+1)) h⟩)
   .refine c1 dY _ ?_;refine nW rfl ?_;refine aJ (cf _ (cE _ (.inl ?_)));refine wr _ ?_;exact dZ _ (.inr ⟨_,aY rfl,fM (i64.wrap (fK+1)) h⟩)
  .refine c7 (bj 0 _ (bo 0 _ (bU _ (bL _ (.inl ?_)))));refine mT (decide (1<=(a0.length:Int))) [(2,.bool ((decide (1<=(a0.length:Int)))&&(decide ((a0.length:Int)<=10))))] ?_;exact aw (ai _ (.inl (ay [.bool ((decide (1<=(a0.length:Int)))&&(decide ((a0.length:Int)<=10)))])))
 obtain⟨n,h⟩:=cS h;exact db (.inr ⟨_,aY rfl,gK n 0 h⟩)
theorem anM (a0 J r) (h:Oz a0 J=some r):aV ah 190 [ba a0,.ref (.str J)] (.bool r) []:=by
 refine bA [0,1] [.tmp 3] Tryz.func190 aiZ (λbt ai bq=>?_);refine ws _ ?_;refine ws _ ?_;exact aw (ai _ (.inl (ay [.bool (a0.Name==J)])))
theorem anN (a0 J r) (h:OB a0 J=some r):aV ah 189 [.slice (a0.map ba),.fn 190 [.ref (.str J)]] (.int .i64 r) []:=by
 refine bA [0,1] [.tmp 4] Tryz.func189 ai0 (λbt ai bq=>?_);refine ws _ ?_;refine az ai (λdJ bL bf af=>?_);refine ws _ ?_;refine bn bf (λei dS bR bU a_=>?_);show bk ah (.loop ?fP) _ _;have gK:∀n cr,Fi a0 J n cr=some r->cX ah ?fP ei (aq [(0,.slice (a0.map ba)),(1,.fn 190 [.ref (.str J)]),(7,.int .i64 (a0.length:Int)),(8,.int .i64 cr)]):=by
  refine dd (λm6 fM cr h=>dc bR (λgR dZ df bo=>?_));refine ws _ ?_;refine az df (λgu dx dE bj=>?_);refine aF h (λcy h=>?_) (λcy h=>?_)
  .refine aJ (dx _ (.inl ?_));refine az df (λek cE cd ch=>?_);refine bn cd (λe0 cf cn dX cv=>?_);refine ws _ ?_;obtain⟨U,fi,h⟩:=ao h;obtain⟨af,dB,h⟩:=ao h;refine eH fi (anM U J _ dB) _ ?_;refine aF h (λdY h=>?_) (λdY h=>?_)
   .refine ws _ ?_;exact aw (cn _ (.inl (ay [.int .i64 cr])))
   .refine aJ (cf _ (cE _ (.inl ?_)));refine wr _ ?_;exact dZ _ (.inr ⟨_,aY rfl,fM (i64.wrap (cr+1)) h⟩)
  .refine c7 (bj 0 _ (bo 0 _ (bU _ (bL _ (.inl ?_)))));refine ws _ ?_;exact aw (ai _ (.inl (ay [.int .i64 (-1)])))
 obtain⟨n,h⟩:=cS h;exact db (.inr ⟨_,aY rfl,gK n 0 h⟩)
theorem anO (a0 J r) (h:I3 a0 J=some r):aV ah 160 [.slice (a0.map ba),.str J] (.int .i64 r) []:=by
 refine bA [0,1] [.tmp 4] Tryz.func160 c160 (λbt ai bq=>?_);refine ws _ ?_;obtain⟨U,aR,h⟩:=ao h;refine eQ (cI [(4,.int .i64 U)] (λP bu=>?_) ?_)
 ·(try simp only[aT.down,simprocAttr]);refine dR (anN a0 J _ aR) rfl rfl (by simp only[aT.down,simprocAttr,xA.down]<;>rfl) rfl (.inr (by rfl)) ?_;simp only[aT.down,simprocAttr];exact cc trivial
 exact aw (ai _ (.inl (ay [.int .i64 U])))
theorem Yq (a0 r) (h:Fk a0=some r):aV ah 129 [eh a0] (.int .i64 r) []:=by
 refine bA [0] [.tmp 2] Tryz.func129 ai1 (λbt ai bq=>?_);refine ws _ ?_;refine az ai (λdJ bL bf af=>?_);refine ws _ ?_;refine bn bf (λei dS bR bU a_=>?_);show bk ah (.seq _ ?ki) _ _;have zx:∀dW,Fj a0 dW=some r->bk ah ?ki ei (aq [(4,.int .i64 a0.Kind),(5,.bool dW)]):=by
  intro dW h;refine aF h (λdn h=>?_) (λdn h=>?_)
  .refine ws _ ?_;exact aw (bR _ (.inl (ay [.int .i64 1])))
  .refine ws _ ?_;refine aF h (λeR h=>?_) (λeR h=>?_)
   .refine ws _ ?_;exact aw (bR _ (.inl (ay [.int .i64 2])))
   .refine aJ (dS _ (bL _ (.inl ?_)));refine ws _ ?_;exact aw (ai _ (.inl (ay [.int .i64 0])))
 refine az bR (λgR dZ df bo=>?_);refine ws _ ?_;refine aF h (λeX h=>?_) (λeX h=>?_)
 .simp only[eX,Gd.down];exact aJ (dZ _ (.inr ⟨_,aY rfl,zx true h⟩))
 .refine ws _ ?_;refine aF h (λdY h=>?_) (λdY h=>?_)
  .simp only[dY,Gd.down];exact aJ (dZ _ (.inr ⟨_,aY rfl,zx true h⟩))
  .refine wr _ ?_;exact dZ _ (.inr ⟨_,aY rfl,zx (a0.Kind==4) h⟩)
theorem Yr (a0 J r) (h:Fl a0 J=some r):aV ah 136 [ba a0,.int .i64 J] (.int .i64 r) []:=by
 refine bA [0] [.tmp 4] Tryz.func136 ai2 (λbt ai bq=>?_);refine ws _ ?_;refine az ai (λdJ bL bf af=>?_);refine ws _ ?_;refine bn bf (λei dS bR bU a_=>?_);show bk ah (.loop ?fP) _ _;have gK:∀n hU eD,BS a0 n hU eD=some r->cX ah ?fP ei (aq [(1,.int .i64 hU),(2,.aM (ba a0)),(5,.int .i64 eD)]):=by
  refine dd (λm6 fM hU eD h=>dc bR (λgR dZ df bo=>?_));refine az df (λeA cR cH bD=>?_);refine ws _ ?_;refine aF h (λcy h=>?_) (λcy h=>?_)
  .refine aJ (cR _ (.inl ?_));refine az df (λek cE cd ch=>?_);refine bn cd (λe0 cf cn dX cv=>?_);refine az cn (λhY eK fL dP=>?_);refine ws _ ?_;refine aF h (λeX h=>?_) (λeX h=>?_)
   .refine ws _ ?_;exact aw (fL _ (.inl (ay [.int .i64 (-1)])))
   .refine aJ (eK _ (.inl ?_));obtain⟨U,cC,h⟩:=ao h;obtain⟨af,dL,h⟩:=ao h;refine zv cC (Yq U _ dL) _ ?_;refine cf _ (cE _ (.inl ?_));refine wr _ ?_;exact dZ _ (.inr ⟨_,aY rfl,fM (i64.wrap (hU+1)) (i64.wrap (eD+(i64.wrap (af-1)))) h⟩)
  .refine c7 (bD 0 _ (bo 0 _ (bU _ (bL _ (.inl ?_)))));refine ws _ ?_;exact aw (ai _ (.inl (ay [.int .i64 hU])))
 obtain⟨n,h⟩:=cS h;exact db (.inr ⟨_,aY rfl,gK n J 1 h⟩)
theorem anP (pJ:Int->du->axA->a6->Option (Int×axA)) (anQ:∀a0 J a2 a3 r,pJ a0 J a2 a3=some r->o6 ah 128 2 4 [.int .i64 a0,ff J,.aM (.aj 2 (a2.map ff)),.ref (ba a3),.ref (.hole)] (.int .i64 r.1) [.hole,.hole,.aM (.aj 2 (r.2.map ff)),.hole,.hole]) (a0 J a2 a3 r) (h:OE pJ a0 J a2 a3=some r):o6 ah 128 2 4 [.int .i64 a0,ff J,.aM (.aj 2 (a2.map ff)),.ref (ba a3),.ref (.hole)] (.int .i64 r.1) [.hole,.hole,.aM (.aj 2 (r.2.map ff)),.hole,.hole]:=by
 refine o6.Nr (fx:=[0,1,2,3,4]) Nv [.tmp 7] [(0,.int .i64 a0),(1,ff J),(2,.aM (.aj 2 (a2.map ff))),(3,.ref (ba a3)),(4,.ref (.hole))] Tryz.func128 rfl rfl ajf (le_of_ble_eq_true rfl) aje rfl rfl (λbt ai bq=>?_);refine ws _ ?_;obtain⟨U,aR,h⟩:=ao h;refine eQ (cI [(0,.int .i64 a0),(2,.aM (.aj 2 ((List.set a2 (Int.toNat a0) J).map ff))),(3,.ref (ba a3)),(4,.ref (.hole)),(6,.aM (ff J))] (λP bu=>?_) ?_)
 .simp only[aT.down,simprocAttr,aR,dy aR,eo,dV];exact cc (R aR (R (dy aR) @eo))
 obtain⟨af,cM,h⟩:=ao h;refine c1 cM [(0,.int .i64 a0),(2,.aM (.aj 2 ((List.set a2 (Int.toNat a0) J).map ff))),(3,.ref (ba a3)),(4,.ref (.hole)),(6,.aM (ff J)),(8,.aM (eh af))] ?_;refine c1 (show∀s,gx ah s 165 [(0,.int .i64 J.scope),(1,.bool (af.Kind==1))]=some (.agg [.int .i64 J.scope,.bool (af.Kind==1)],s)from λs=>by kernel_rfl) [(0,.int .i64 a0),(2,.aM (.aj 2 ((List.set a2 (Int.toNat a0) J).map ff))),(3,.ref (ba a3)),(4,.ref (.hole)),(8,.aM (eh af)),(9,.aM (.agg [.int .i64 J.scope,.bool (af.Kind==1)]))] ?_;have Ys:∀n5,I4 pJ a0 J a2 a3 af n5=some r->bk ah W7 bt (aq [(0,.int .i64 a0),(2,.aM (.aj 2 ((List.set a2 (Int.toNat a0) J).map ff))),(3,.ref (ba a3)),(4,.ref (.hole)),(8,.aM (eh af)),(9,.aM (.agg [.int .i64 n5,.bool (af.Kind==1)]))]):=by
  intro n5 h;refine ws [(2,.aM (.aj 2 ((List.set a2 (Int.toNat a0) J).map ff))),(3,.ref (ba a3)),(4,.ref (.hole)),(8,.aM (eh af)),(9,.aM (.agg [.int .i64 n5,.bool (af.Kind==1)])),(10,.int .i64 (i64.wrap (a0+1)))] ?_;refine az ai (λek cE cd ch=>?_);obtain⟨aK,kK,h⟩:=ao h;refine cB (Yq af _ kK) [(2,.aM (.aj 2 ((List.set a2 (Int.toNat a0) J).map ff))),(3,.ref (ba a3)),(4,.ref (.hole)),(9,.aM (.agg [.int .i64 n5,.bool (af.Kind==1)])),(10,.int .i64 (i64.wrap (a0+1))),(36,.int .i64 aK),(37,.int .i64 0)] ?_;refine bn cd (λlh gV iE eE gz=>?_);have anR:∀n vx sA ue,zd pJ a3 n5 af aK n vx sA ue=some r->cX ah W6 lh (aq [(2,.aM (.aj 2 (vx.map ff))),(3,.ref (ba a3)),(4,.ref (.hole)),(9,.aM (.agg [.int .i64 n5,.bool (af.Kind==1)])),(10,.int .i64 sA),(36,.int .i64 aK),(37,.int .i64 ue)]):=by
   refine dd (λm20 anS vx sA ue h=>dc iE (λkG fE fp hG=>?_));refine ws _ ?_;refine az fp (λkF gd gj ft=>?_);refine aF h (λnn h=>?_) (λnn h=>?_)
   .refine aJ (gd _ (.inl ?_));refine az fp (λpe kk kl jD=>?_);refine bn kl (λGu ry sZ hD pG=>?_);obtain⟨a_,gL,h⟩:=ao h;refine afj [(2,.aM (.aj 2 (a_.2.map ff))),(3,.ref (ba a3)),(4,.ref (.hole)),(9,.aM (.agg [.int .i64 n5,.bool (af.Kind==1)])),(10,.int .i64 a_.1),(36,.int .i64 aK),(37,.int .i64 ue)] (λP bu=>?_) ?_
    ·(try simp only[aT.down,simprocAttr,si]);refine VJ [⟨.int .i64 sA,false,_,.hole⟩,⟨.agg [.int .i64 n5,.bool (af.Kind==1)],false,_,.hole⟩,⟨.h 2 [],true,_,_⟩,⟨.ref (ba a3),false,_,.hole⟩,⟨.ref (.hole),false,_,.hole⟩] (anQ sA (du.mk n5 (af.Kind==1)) vx a3 _ gL) rfl (by simp only[aT.down,simprocAttr,si,o5,pA,pB,i6,i7,i_,cY,or_true,true_or, @b0 _ ff ff (λ_=>Ww _)]) rfl rfl (.inl rfl) ?_;simp only[aT.down,simprocAttr,si,nY];(try simp only[jX.down,simprocAttr,si]at bu⊢);exact bu
    refine ry _ (kk _ (.inl ?_));refine wr _ ?_;exact fE _ (.inr ⟨_,aY rfl,anS a_.2 a_.1 (i64.wrap (ue+1)) h⟩)
   .refine c7 (ft 0 _ (hG 0 _ (eE _ (cE _ (.inl ?_)))));refine ws _ ?_;exact aw (ai _ (.inl (kb [.int .i64 sA] rfl (by cases gl h;rfl) (by decide) (kB (dK (dK (nZ (by cases gl h;rfl) rfl rfl rfl (dK (dK (kC))))))))))
  obtain⟨n,h⟩:=cS h;exact db (.inr ⟨_,aY rfl,anR n (List.set a2 (Int.toNat a0) J) (i64.wrap (a0+1)) 0 h⟩)
 refine az ai (λgu dx dE bj=>?_);refine ws [(0,.int .i64 a0),(2,.aM (.aj 2 ((List.set a2 (Int.toNat a0) J).map ff))),(3,.ref (ba a3)),(4,.ref (.hole)),(8,.aM (eh af)),(9,.aM (.agg [.int .i64 J.scope,.bool (af.Kind==1)])),(28,.bool (af.Kind==4))] ?_;refine aF h (λh0 h=>?_) (λh0 h=>?_)
 .refine wr [(0,.int .i64 a0),(2,.aM (.aj 2 ((List.set a2 (Int.toNat a0) J).map ff))),(3,.ref (ba a3)),(4,.ref (.hole)),(8,.aM (eh af)),(9,.aM (.agg [.int .i64 (i64.wrap (J.scope+1)),.bool (af.Kind==1)]))] ?_;exact dx _ (.inr ⟨_,aY rfl,Ys (i64.wrap (J.scope+1)) h⟩)
 .exact aJ (dx _ (.inr ⟨_,aY rfl,Ys J.scope h⟩))
theorem anT:∀n a0 J a2 a3 r,ze n a0 J a2 a3=some r->o6 ah 128 2 4 [.int .i64 a0,ff J,.aM (.aj 2 (a2.map ff)),.ref (ba a3),.ref (.hole)] (.int .i64 r.1) [.hole,.hole,.aM (.aj 2 (r.2.map ff)),.hole,.hole]:=by
 intro n;induction n with
 |zero=>intro a0 J a2 a3 r h;cases(show none=some r from h)
 |succ n ih=>intro a0 J a2 a3 r h;exact anP (ze n) ih a0 J a2 a3 r h
theorem anU (a0 J a2 a3 r) (h:I5 a0 J a2 a3=some r):o6 ah 128 2 4 [.int .i64 a0,ff J,.aM (.aj 2 (a2.map ff)),.ref (ba a3),.ref (.hole)] (.int .i64 r.1) [.hole,.hole,.aM (.aj 2 (r.2.map ff)),.hole,.hole]:=by
 obtain⟨n,h⟩:=cS h;exact anT n a0 J a2 a3 r h
theorem Q2 (a0 r) (h:BT a0=some r):aV ah 96 [ba a0] (.aj 2 (r.map ff)) []:=by
 refine aV.af4 (fx:=[0]) Nv [.tmp 2] [(0,ba a0)] Tryz.func96 rfl rfl ajk (le_of_ble_eq_true rfl) ajj rfl rfl (λbt ai bq=>?_);refine ws _ ?_;obtain⟨Kr,aR,h⟩:=ao h;refine rm (R (qF aR) @List.map_replicate.{0,0}) [(1,.aM (ba a0)),(3,.aM (.aj 2 ((List.replicate (Int.toNat (a0.Body.length:Int)) (du.mk 0 false)).map ff)))] ?_;obtain⟨U,cM,h⟩:=ao h;refine afZ [(3,.aM (.aj 2 (U.2.map ff)))] (λP bu=>?_) ?_
 ·(try simp only[aT.down,simprocAttr,(show∀s,gx ah s 165 [(0,.int .i64 a0.ej)]=some (.agg [.int .i64 a0.ej,.bool false],s)from λs=>by kernel_rfl),si]);refine VJ [⟨.int .i64 0,false,_,.hole⟩,⟨.agg [.int .i64 a0.ej,.bool false],false,_,.hole⟩,⟨.h 3 [],true,_,_⟩,⟨.h 1 [],false,_,.hole⟩,⟨.ref (.hole),false,_,.hole⟩] (anU 0 (du.mk a0.ej false) (List.replicate (Int.toNat (a0.Body.length:Int)) (du.mk 0 false)) a0 _ cM) rfl (by simp only[aT.down,simprocAttr,(show∀s,gx ah s 165 [(0,.int .i64 a0.ej)]=some (.agg [.int .i64 a0.ej,.bool false],s)from λs=>by kernel_rfl),si,o5,pA,pB,i6,i7,i_,cY,or_true,true_or, @b0 _ ff ff (λ_=>Ww _), @b0 _ eh eh (λ_=>JL _)]) rfl rfl ((.inr (by simp only[w9,I.cZ,I.ht,Bool.and_self, @kO _ ff (λ_=>ahP _)]))) ?_;simp only[aT.down,simprocAttr,(show∀s,gx ah s 165 [(0,.int .i64 a0.ej)]=some (.agg [.int .i64 a0.ej,.bool false],s)from λs=>by kernel_rfl),si,nY];(try simp only[jX.down,simprocAttr,(show∀s,gx ah s 165 [(0,.int .i64 a0.ej)]=some (.agg [.int .i64 a0.ej,.bool false],s)from λs=>by kernel_rfl),si]at bu⊢);exact bu
 refine ws _ ?_;exact aw (ai _ (.inl (ay [.aj 2 (U.2.map ff)])))
theorem anV (a0 r) (h:OG a0=some r):aV ah 215 [eh a0] (.bool r) []:=by
 refine bA [0] [.tmp 2] Tryz.func215 ajl (λbt ai bq=>?_);refine ws _ ?_;refine mT (a0.Kind==4) [(1,.aM (eh a0)),(3,.bool ((a0.Kind==4)||(a0.Kind==5)))] ?_;refine eQ (cI [(1,.aM (eh a0)),(3,.bool ((a0.Kind==4)||(a0.Kind==5))),(4,.bool (((a0.Kind==1)||(a0.Kind==3))||(a0.Kind==5)))] (λP bu=>?_) ?_)
 ·(rcases Bool.eq_false_or_eq_true (a0.Kind==1)with mF|mF)<;>(rcases Bool.eq_false_or_eq_true (a0.Kind==3)with Q3|Q3)<;>
   (simp only[aT.down,simprocAttr,mF,Q3]
    exact cc (R mF Q3))
 obtain⟨U,b3,h⟩:=ao h;refine eQ (cI [(2,.bool (((U&&(((a0.Kind==4)||(a0.Kind==5))||(a0.Number==0)))&&((a0.Kind==1)||(a0.Name==([]:axa))))&&((((a0.Kind==1)||(a0.Kind==3))||(a0.Kind==5))||((a0.cO.length:Int)==0))))] (λP bu=>?_) ?_)
 ·(rcases Bool.eq_false_or_eq_true (U)with xC|xC)<;>(rcases Bool.eq_false_or_eq_true (a0.Kind==4)with rr|rr)<;>(rcases Bool.eq_false_or_eq_true (a0.Kind==5)with xO|xO)<;>(rcases Bool.eq_false_or_eq_true (a0.Number==0)with Ks|Ks)<;>(rcases Bool.eq_false_or_eq_true (a0.Kind==1)with Kt|Kt)<;>(rcases Bool.eq_false_or_eq_true (a0.Name==([]:axa))with Ku|Ku)<;>(rcases Bool.eq_false_or_eq_true (a0.Kind==3)with Kv|Kv)<;>
   ((try simp only[aT.down,simprocAttr,xC,rr,xO,Ks,Kt,Ku,Kv])
    refine dR (l4 a0.Kind 0 5 _ b3) rfl rfl rfl rfl (.inl (by rfl)) ?_;simp only[aT.down,simprocAttr,xC,rr,xO,Ks,Kt,Ku,Kv];exact cc (R xC (R rr (R xO (R Ks (R Kt (R Ku Kv)))))))
 exact aw (ai _ (.inl (ay [.bool (((U&&(((a0.Kind==4)||(a0.Kind==5))||(a0.Number==0)))&&((a0.Kind==1)||(a0.Name==([]:axa))))&&((((a0.Kind==1)||(a0.Kind==3))||(a0.Kind==5))||((a0.cO.length:Int)==0)))])))
theorem l5 (a0 r) (h:uf a0=some r):aV ah 142 [.str a0] (.bool r) []:=by
 refine bA [0] [.tmp 2] Tryz.func142 ajm (λbt ai bq=>?_);refine ws _ ?_;obtain⟨U,aR,h⟩:=ao h;refine eQ (cI [(2,.bool (U&&(!(a0==([116,97,117]:axa)))))] (λP bu=>?_) ?_)
 .rcases Bool.eq_false_or_eq_true (U)with mF|mF
  ·(try simp only[aT.down,simprocAttr,mF]);refine dR (Kq a0 _ aR) rfl rfl rfl rfl (.inl (by rfl)) ?_;simp only[aT.down,simprocAttr,mF];exact cc mF
  ·(try simp only[aT.down,simprocAttr,mF]);refine dR (Kq a0 _ aR) rfl rfl rfl rfl (.inl (by rfl)) ?_;simp only[aT.down,simprocAttr,mF];exact cc mF
 exact aw (ai _ (.inl (ay [.bool (U&&(!(a0==([116,97,117]:axa))))])))
theorem xP (a0 J r) (h:xp a0 J=some r):aV ah 95 [.int .i64 a0,.int .i64 J] (.bool r) []:=by
 refine bA [0,1] [.tmp 4] Tryz.func95 ajn (λbt ai bq=>?_);refine ws _ ?_;obtain⟨U,aR,h⟩:=ao h;refine cB (l4 a0 0 (i64.wrap (J-1)) _ aR) _ ?_;exact aw (ai _ (.inl (ay [.bool U])))
theorem anW (a0 J r) (h:OH a0 J=some r):aV ah 216 [eh a0,.slice (J.map ba)] (.bool r) []:=by
 refine bA [0,1] [.tmp 4] Tryz.func216 ajp (λbt ai bq=>?_);refine ws _ ?_;refine ws _ ?_;refine az ai (λjl e7 de aK=>?_);refine ws _ ?_;refine bn de (λgR dZ df cP bo=>?_);refine ws _ ?_;refine aF h (λp8 h=>?_) (λp8 h=>?_)
 .refine eQ (cI [(4,.bool (((a0.cO.length:Int)==0)||((!(a0.Name==([116,97,117]:axa)))&&(decide ((a0.cO.length:Int)<=2)))))] (λP bu=>?_) ?_)
  ·(rcases Bool.eq_false_or_eq_true ((a0.cO.length:Int)==0)with rr|rr)<;>(rcases Bool.eq_false_or_eq_true (a0.Name==([116,97,117]:axa))with xO|xO)<;>
    (simp only[aT.down,simprocAttr,rr,xO]
     exact cc (R rr xO))
  exact aw (df _ (.inl (ay [.bool (((a0.cO.length:Int)==0)||((!(a0.Name==([116,97,117]:axa)))&&(decide ((a0.cO.length:Int)<=2))))])))
 .refine ws _ ?_;refine aF h (λeE h=>?_) (λeE h=>?_)
  .refine ws _ ?_;exact aw (df _ (.inl (ay [.bool ((a0.cO.length:Int)==1)])))
  .refine ws _ ?_;refine aF h (λdY h=>?_) (λdY h=>?_)
   .obtain⟨U,dL,h⟩:=ao h;refine c1 dL _ ?_;exact aw (df _ (.inl (ay [.bool ((a0.cO.length:Int)==U.ej)])))
   .refine aJ (dZ _ (e7 _ (.inl ?_)));refine ws _ ?_;exact aw (ai _ (.inl (ay [.bool true])))
theorem Yt (a0 r) (h:Fm a0=some r):aV ah 132 [.int .i64 a0] (.bool r) []:=by
 refine bA [0] [.tmp 2] Tryz.func132 ajq (λbt ai bq=>?_);refine ws _ ?_;obtain⟨U,aR,h⟩:=ao h;refine cB (l4 a0 0 63 _ aR) _ ?_;exact aw (ai _ (.inl (ay [.bool U])))
theorem anX (a0 J r) (h:I6 a0 J=some r):aV ah 240 [ed a0,.int .i64 J] (.bool r) []:=by
 refine bA [0,1] [.tmp 4] Tryz.func240 ajr (λbt ai bq=>?_);refine ws _ ?_;refine az ai (λdJ bL bf af=>?_);refine ws _ ?_;refine bn bf (λei dS bR bU a_=>?_);refine ws _ ?_;refine aF h (λdn h=>?_) (λdn h=>?_)
 .obtain⟨U,fu,h⟩:=ao h;refine cB (Yt a0.Value _ fu) _ ?_;exact aw (bR _ (.inl (ay [.bool U])))
 .refine ws _ ?_;refine aF h (λdX h=>?_) (λdX h=>?_)
  .obtain⟨af,e1,h⟩:=ao h;refine cB (l4 a0.Value 0 (i64.wrap (J-1)) _ e1) _ ?_;exact aw (bR _ (.inl (ay [.bool af])))
  .refine ws _ ?_;refine aF h (λfw h=>?_) (λfw h=>?_)
   .obtain⟨aK,cC,h⟩:=ao h;refine cB (l4 a0.Value 0 8 _ cC) _ ?_;exact aw (bR _ (.inl (ay [.bool aK])))
   .refine ws _ ?_;refine aF h (λhD h=>?_) (λhD h=>?_)
    .refine ws _ ?_;exact aw (bR _ (.inl (ay [.bool (a0.Value==0)])))
    .refine aJ (dS _ (bL _ (.inl ?_)));refine ws _ ?_;exact aw (ai _ (.inl (ay [.bool false])))
theorem Yu (a0 r) (h:I7 a0=some r):aV ah 221 [ed a0] (.int .i64 r) []:=by
 refine bA [0] [.tmp 2] Tryz.func221 ajs (λbt ai bq=>?_);refine ws _ ?_;refine az ai (λdJ bL bf af=>?_);refine ws _ ?_;refine bn bf (λei dS bR bU a_=>?_);refine ws _ ?_;refine aF h (λdn h=>?_) (λdn h=>?_)
 .refine ws _ ?_;exact aw (bR _ (.inl (ay [.int .i64 2])))
 .refine ws _ ?_;refine aF h (λeR h=>?_) (λeR h=>?_)
  .refine ws _ ?_;exact aw (bR _ (.inl (ay [.int .i64 1])))
  .refine aJ (dS _ (bL _ (.inl ?_)));refine ws _ ?_;exact aw (ai _ (.inl (ay [.int .i64 0])))
end Go.Proofs.YtmaepbgkcmjcjagGreatDoor
